import Derived.Test.YtjdhhpolllkbbaaCS
set_option linter.all false
namespace Go.Proofs.Ytjdhhpolllkbbaa
open Go Go.Fm
set_option maxRecDepth 100000
abbrev Bs:=List UInt8
structure GL01Cur where
 b:List Int
 i:Int
 h:Int
 deriving DecidableEq,Inhabited
structure GItem where
 Kind:Int
 Name:Bs
 N:Int
 Hex:Bool
 Raw:Int
 deriving DecidableEq,Inhabited
structure GEd where
 Left:List GItem
 Right:List GItem
 Cut:List GItem
 deriving DecidableEq,Inhabited
structure GKey where
 Op:Int
 Item:GItem
 deriving DecidableEq,Inhabited
def GL01Cur.cs (x:GL01Cur):List CV:=[.imm 1 x.b.length (x.b.flatMap (eI .u8)), .int .i64 x.i, .int .i64 x.h]
def GItem.cs (x:GItem):List CV:=[.int .i64 x.Kind, .str x.Name, .int .i32 x.N, .bool x.Hex, .int .u32 x.Raw]
def GEd.cs (x:GEd):List CV:=[.imm 5 x.Left.length (x.Left.flatMap GItem.cs), .imm 5 x.Right.length (x.Right.flatMap GItem.cs), .imm 5 x.Cut.length (x.Cut.flatMap GItem.cs)]
def GKey.cs (x:GKey):List CV:=[.int .i64 x.Op, .int .i64 x.Item.Kind, .str x.Item.Name, .int .i32 x.Item.N, .bool x.Item.Hex, .int .u32 x.Item.Raw]
instance:StTy:=⟨λ n=>match n with|0=>GL01Cur|1=>GItem|2=>GEd|3=>GKey|_=>Unit,λ n=>match n with|0=>3|1=>5|2=>3|3=>6|_=>0,lkA [(26,2),(29,1),(31,3),(62,0)]⟩
noncomputable instance:StCs:=⟨λ n=>match n with|0=>GL01Cur.cs|1=>GItem.cs|2=>GEd.cs|3=>GKey.cs|_=>λ _=>[]⟩
noncomputable def GL01Cur.lv (x:GL01Cur):List TC:=[.imm (.int .u8) x.b, .int .i64 x.i, .int .i64 x.h]
noncomputable def GL01Cur.of:List TC->Option GL01Cur
 | [c0,c1,c2]=>(tImm (.int .u8) c0).bind λ x0=>(tInt .i64 c1).bind λ x1=>(tInt .i64 c2).bind λ x2=>some ⟨x0,x1,x2⟩
 | _=>none
theorem GL01Cur.made {l:List TC} {v:GL01Cur} (h:GL01Cur.of l=some v):CRs l v.lv:=by
 match l,h with
 | [c0,c1,c2],h =>
  obtain ⟨x0,e0,h⟩:=bS h
  obtain ⟨x1,e1,h⟩:=bS h
  obtain ⟨x2,e2,h⟩:=bS h
  cases h
  exact ⟨tImm_cr e0,tInt_cr e1,tInt_cr e2,trivial⟩
noncomputable def GItem.lv (x:GItem):List TC:=[.int .i64 x.Kind, .str x.Name, .int .i32 x.N, .bool x.Hex, .int .u32 x.Raw]
noncomputable def GItem.of:List TC->Option GItem
 | [c0,c1,c2,c3,c4]=>(tInt .i64 c0).bind λ x0=>(tStr c1).bind λ x1=>(tInt .i32 c2).bind λ x2=>(tBool c3).bind λ x3=>(tInt .u32 c4).bind λ x4=>some ⟨x0,x1,x2,x3,x4⟩
 | _=>none
theorem GItem.made {l:List TC} {v:GItem} (h:GItem.of l=some v):CRs l v.lv:=by
 match l,h with
 | [c0,c1,c2,c3,c4],h =>
  obtain ⟨x0,e0,h⟩:=bS h
  obtain ⟨x1,e1,h⟩:=bS h
  obtain ⟨x2,e2,h⟩:=bS h
  obtain ⟨x3,e3,h⟩:=bS h
  obtain ⟨x4,e4,h⟩:=bS h
  cases h
  exact ⟨tInt_cr e0,tStr_cr e1,tInt_cr e2,tBool_cr e3,tInt_cr e4,trivial⟩
noncomputable def GEd.lv (x:GEd):List TC:=[.imm (.st 1) x.Left, .imm (.st 1) x.Right, .imm (.st 1) x.Cut]
noncomputable def GEd.of:List TC->Option GEd
 | [c0,c1,c2]=>(tImm (.st 1) c0).bind λ x0=>(tImm (.st 1) c1).bind λ x1=>(tImm (.st 1) c2).bind λ x2=>some ⟨x0,x1,x2⟩
 | _=>none
theorem GEd.made {l:List TC} {v:GEd} (h:GEd.of l=some v):CRs l v.lv:=by
 match l,h with
 | [c0,c1,c2],h =>
  obtain ⟨x0,e0,h⟩:=bS h
  obtain ⟨x1,e1,h⟩:=bS h
  obtain ⟨x2,e2,h⟩:=bS h
  cases h
  exact ⟨tImm_cr e0,tImm_cr e1,tImm_cr e2,trivial⟩
noncomputable def GKey.lv (x:GKey):List TC:=[.int .i64 x.Op, .int .i64 x.Item.Kind, .str x.Item.Name, .int .i32 x.Item.N, .bool x.Item.Hex, .int .u32 x.Item.Raw]
noncomputable def GKey.of:List TC->Option GKey
 | [c0,c1,c2,c3,c4,c5]=>(tInt .i64 c0).bind λ x0=>(tInt .i64 c1).bind λ x1=>(tStr c2).bind λ x2=>(tInt .i32 c3).bind λ x3=>(tBool c4).bind λ x4=>(tInt .u32 c5).bind λ x5=>some ⟨x0,⟨x1,x2,x3,x4,x5⟩⟩
 | _=>none
theorem GKey.made {l:List TC} {v:GKey} (h:GKey.of l=some v):CRs l v.lv:=by
 match l,h with
 | [c0,c1,c2,c3,c4,c5],h =>
  obtain ⟨x0,e0,h⟩:=bS h
  obtain ⟨x1,e1,h⟩:=bS h
  obtain ⟨x2,e2,h⟩:=bS h
  obtain ⟨x3,e3,h⟩:=bS h
  obtain ⟨x4,e4,h⟩:=bS h
  obtain ⟨x5,e5,h⟩:=bS h
  cases h
  exact ⟨tInt_cr e0,tInt_cr e1,tStr_cr e2,tInt_cr e3,tBool_cr e4,tInt_cr e5,trivial⟩
noncomputable instance:Structs where
 leaves:=λ n=>match n with|0=>GL01Cur.lv|1=>GItem.lv|2=>GEd.lv|3=>GKey.lv|_=>λ _=>[]
 make:=λ n=>match n with|0=>GL01Cur.of|1=>GItem.of|2=>GEd.of|3=>GKey.of|_=>λ _=>none
 plain:=λ n=>match n with|0=>false|1=>true|2=>false|3=>true|_=>false
 lt:=λ n=>match n with|0=>[(.int .u8), .bool, .bool]|1=>[.bool, .bool, .bool, .bool, .bool]|2=>[(.st 1),(.st 1),(.st 1)]|3=>[.bool, .bool, .bool, .bool, .bool, .bool]|_=>[]
 len:=λ n v=>match n,v with|0,_=>rfl|1,_=>rfl|2,_=>rfl|3,_=>rfl|_+4,_=>rfl
 conc:=λ n v=>match n,v with|0,_=>rfl|1,_=>rfl|2,_=>rfl|3,_=>rfl|_+4,_=>rfl
 pure:=λ n v=>match n,v with|0,_=>rfl|1,_=>rfl|2,_=>rfl|3,_=>rfl|_+4,_=>rfl
 made:=λ n l v h=>match n,v,h with|0,v,h=>GL01Cur.made h|1,v,h=>GItem.made h|2,v,h=>GEd.made h|3,v,h=>GKey.made h|_+4,_,h=>nomatch h
 flat:=λ n v h=>match n,v,h with|0,_,h=>nomatch h|1,_,_=>rfl|2,_,h=>nomatch h|3,_,_=>rfl|_+4,_,h=>nomatch h
noncomputable instance:Tabs:=⟨λ g=>match g with  | _=>none,λ g=>match g with|_=>rfl⟩
abbrev K0:Ty:=.int .u8
abbrev K1:Ty:=.list K0
abbrev K2:Ty:=.bool
abbrev K3:Ty:=.int .i64
abbrev K4:Ty:=.st 0
abbrev K5:Ty:=.int .u32
abbrev K6:Ty:=.list K5
abbrev K7:Ty:=.list K3
abbrev K8:Ty:=.int .i32
abbrev K9:Ty:=.str
abbrev K10:Ty:=.list K9
abbrev K11:Ty:=.st 1
abbrev K12:Ty:=.list K11
abbrev K13:Ty:=.st 2
abbrev K14:Ty:=.st 3
abbrev K15:Ty:=.list K14
abbrev K16:Ty:=.list K12
end Go.Proofs.Ytjdhhpolllkbbaa
namespace Go.Proofs.Ytjdhhpolllkbbaa
open Go Go.Fm
set_option maxRecDepth 1000000
def g_laws_big (code_1:List Int):Option Bool:=some (decide ((code_1.length:Int) > 1048576))
def g_spec_l01New_l0 (code_1:List Int):Nat->Int->Int->Option Int
 | 0,_,_=>none
 | k+1,h_4,i_5=>(cond (decide (i_5 < (code_1.length:Int))) (some (decide (i_5 < 4000))) (some false):Option (Bool)).bind λ v_7=>cond v_7 ((getI code_1 i_5).bind λ v_8=>g_spec_l01New_l0 code_1 k (andI .i64 (IntKind.wrap .i64 ((IntKind.wrap .i64 ((IntKind.wrap .i64 (h_4*131))+(IntKind.wrap .i64 v_8)))+7)) 1073741823) (IntKind.wrap .i64 (i_5+1))) (some h_4)
def g_spec_l01New (code_1:List Int):Option GL01Cur:=((g_spec_l01New_l0 code_1 bigK (IntKind.wrap .i64 (711711+(code_1.length:Int))) 0).bind λ h_6=>some h_6:Option (Int)).bind λ h_3=>some (⟨code_1,0,h_3⟩:GL01Cur)
def g_spec_l01Byte (c_1:GL01Cur):Option (Int×GL01Cur):=(cond (decide (c_1.i < (c_1.b.length:Int))) ((getI c_1.b c_1.i).bind λ v_6=>some (andI .i64 (IntKind.wrap .i64 ((andI .i64 (xorI .i64 ((IntKind.wrap .i64 ((IntKind.wrap .i64 (c_1.h*6364136223846793005))+1442695040888963407)) / 8589934592) ((IntKind.wrap .i64 ((IntKind.wrap .i64 (c_1.h*6364136223846793005))+1442695040888963407)) / 35184372088832)) 255)+(IntKind.wrap .i64 v_6))) 255,(⟨c_1.b,IntKind.wrap .i64 (c_1.i+1),IntKind.wrap .i64 ((IntKind.wrap .i64 (c_1.h*6364136223846793005))+1442695040888963407)⟩:GL01Cur))) (some (andI .i64 (xorI .i64 ((IntKind.wrap .i64 ((IntKind.wrap .i64 (c_1.h*6364136223846793005))+1442695040888963407)) / 8589934592) ((IntKind.wrap .i64 ((IntKind.wrap .i64 (c_1.h*6364136223846793005))+1442695040888963407)) / 35184372088832)) 255,(⟨c_1.b,c_1.i,IntKind.wrap .i64 ((IntKind.wrap .i64 (c_1.h*6364136223846793005))+1442695040888963407)⟩:GL01Cur))):Option ((Int×GL01Cur))).bind λ (x_4,x_5)=>some (x_4,x_5)
def g_spec_l01Below (n_1:Int) (c_2:GL01Cur):Option (Int×GL01Cur):=cond (decide (n_1<=0)) (some (0,c_2)) (cond (decide (n_1<=256)) ((g_spec_l01Byte c_2).bind λ y_5=>(remI .i64 y_5.1 n_1).bind λ v_6=>some (v_6,y_5.2)) ((g_spec_l01Byte c_2).bind λ y_7=>(g_spec_l01Byte y_7.2).bind λ y_8=>(g_spec_l01Byte y_8.2).bind λ y_9=>(g_spec_l01Byte y_9.2).bind λ y_10=>(remI .i64 (IntKind.wrap .i64 ((IntKind.wrap .i64 ((IntKind.wrap .i64 ((IntKind.wrap .i64 (y_7.1*16777216))+(IntKind.wrap .i64 (y_8.1*65536))))+(IntKind.wrap .i64 (y_9.1*256))))+y_10.1)) n_1).bind λ v_11=>some (v_11,y_10.2)))
def g_spec_l01Once (n_1:Int) (c_2:GL01Cur):Option (Bool×GL01Cur):=(g_spec_l01Below n_1 c_2).bind λ y_5=>some ((y_5.1==0),y_5.2)
def g_spec_l01PickInt (list_1:List Int) (c_2:GL01Cur):Option (Int×GL01Cur):=(g_spec_l01Below (list_1.length:Int) c_2).bind λ y_5=>(getI list_1 y_5.1).bind λ v_6=>some (v_6,y_5.2)
def g_spec_l04Int (c_1:GL01Cur):Option (Int×GL01Cur):=(g_spec_l01Once 2 c_1).bind λ y_4=>cond y_4.1 ((g_spec_l01Below 200 y_4.2).bind λ y_5=>some (IntKind.wrap .i32 (IntKind.wrap .i64 (y_5.1-40)),y_5.2)) ((g_spec_l01PickInt [0,67108863,67108864,(-67108864),(-67108865),2147483647,(-2147483648),1000000,(-1)] y_4.2).bind λ y_6=>some (IntKind.wrap .i32 y_6.1,y_6.2))
def g_spec_l01Pick (list_1:List Bs) (c_2:GL01Cur):Option (Bs×GL01Cur):=(g_spec_l01Below (list_1.length:Int) c_2).bind λ y_5=>(getI list_1 y_5.1).bind λ v_6=>some (v_6,y_5.2)
def g_spec_l01In (x_1:Int) (a_2:Int) (b_3:Int):Option Bool:=cond (decide (x_1 ≥ a_2)) (some (decide (x_1<=b_3))) (some false)
def g_spec_l02All:Option Bs:=some [32,114,116,111,101,97,110,105,115,109,99,121,108,103,102,119,100,118,112,98,104,120,117,113,48,49,50,51,52,53,54,55,56,57,106,45,107,46,122,47,59,39,33,43,64,42,44,63]
def g_spec_LetterAt (k_1:Int):Option Int:=(g_spec_l01In k_1 0 47).bind λ y_3=>cond (!y_3) (some 0) ((g_spec_l02All).bind λ y_4=>(idxS y_4 k_1).bind λ v_5=>some v_5)
def g_spec_l02Name_l0 (n_10:Int):Nat->(List Int)->Int->GL01Cur->Option ((List Int)×GL01Cur)
 | 0,_,_,_=>none
 | k+1,out_11,i_12,x_13=>cond (decide (i_12 < n_10)) ((g_spec_l01Below 47 x_13).bind λ y_16=>(g_spec_LetterAt (IntKind.wrap .i64 (1+y_16.1))).bind λ y_17=>(app out_11 [y_17]).bind λ v_18=>g_spec_l02Name_l0 n_10 k v_18 (IntKind.wrap .i64 (i_12+1)) y_16.2) (some (out_11,x_13))
def g_spec_l02Name (c_1:GL01Cur):Option (Bs×GL01Cur):=(g_spec_l01Once 2 c_1).bind λ y_4=>cond y_4.1 ((g_spec_l01Pick [[100,117,112],[111,118,101,114],[115,113,117,97,114,101],[97,33],[50,42],[103,111],[45,105,102],[59],[63],[114,114,114,114,114,114,114],[114,116,111,101,97,110,105],[119,119,119,119,119,119],[113,113,113,113,113],[120]] y_4.2).bind λ y_5=>some (y_5.1,y_5.2)) ((g_spec_l01Below 9 y_4.2).bind λ y_6=>((g_spec_l02Name_l0 (IntKind.wrap .i64 (1+y_6.1)) bigK ([]:List Int) 0 y_6.2).bind λ (out_14,x_15)=>some (out_14,x_15):Option (((List Int)×GL01Cur))).bind λ (out_7,x_8)=>some (strOf out_7,x_8))
def g_spec_l04Some (c_1:GL01Cur):Option (GItem×GL01Cur):=(g_spec_l01Below 8 c_1).bind λ y_4=>cond (y_4.1==0) ((g_spec_l04Int y_4.2).bind λ y_5=>(g_spec_l01Once 3 y_5.2).bind λ y_6=>some ((⟨7,[],y_5.1,y_6.1,0⟩:GItem),y_6.2)) (cond (y_4.1==1) ((g_spec_l04Int y_4.2).bind λ y_7=>(g_spec_l01Once 3 y_7.2).bind λ y_8=>some ((⟨8,[],y_7.1,y_8.1,0⟩:GItem),y_8.2)) (cond (y_4.1==2) ((g_spec_l01Pick [[120],[97,116],[113,113,113,113],[116,101,110]] y_4.2).bind λ y_9=>(g_spec_l04Int y_9.2).bind λ y_10=>some ((⟨9,y_9.1,y_10.1,false,0⟩:GItem),y_10.2)) ((g_spec_l01Below 6 y_4.2).bind λ y_11=>(g_spec_l02Name y_11.2).bind λ y_12=>some ((⟨IntKind.wrap .i64 (1+y_11.1),y_12.1,0,false,0⟩:GItem),y_12.2))))
def g_spec_l04Num (n_1:Int) (hex_2:Bool) (short_3:Int) (long_4:Int):Option (List Int):=(cond hex_2 (some 16) (some 0):Option (Int)).bind λ bit_6=>(cond (decide (n_1 ≥ (-67108864))) (some (decide (n_1<=67108863))) (some false):Option (Bool)).bind λ v_7=>cond v_7 (some [IntKind.wrap .u32 ((IntKind.wrap .u32 ((IntKind.wrap .u32 ((IntKind.wrap .u32 n_1)*32))+bit_6))+short_3)]) (some [IntKind.wrap .u32 (bit_6+long_4),IntKind.wrap .u32 n_1])
def g_spec_LetterOf_l0 (b_1:Int) (y_3:Bs):Nat->Int->Option (Unit ⊕ Int)
 | 0,_=>none
 | k+1,i_5=>cond (decide (i_5 < (y_3.length:Int))) ((idxS y_3 i_5).bind λ v_7=>cond (v_7==b_1) (some (.inr i_5)) (g_spec_LetterOf_l0 b_1 y_3 k (IntKind.wrap .i64 (i_5+1)))) (some (.inl ()))
def g_spec_LetterOf (b_1:Int):Option Int:=(g_spec_l02All).bind λ y_3=>((g_spec_LetterOf_l0 b_1 y_3 bigK 0).bind λ o=>match o with | .inl ()=>some (.inl ()) | .inr v_6=>some (.inr v_6):Option (Unit ⊕ Int)).bind λ o=>match o with | .inl ()=>some (-1) | .inr v_4=>some v_4
def g_spec_NameOk_l0 (s_1:Bs):Nat->Int->Option (Unit ⊕ Bool)
 | 0,_=>none
 | k+1,i_5=>cond (decide (i_5 < (s_1.length:Int))) ((idxS s_1 i_5).bind λ v_7=>(g_spec_LetterOf v_7).bind λ y_8=>cond (decide (y_8 < 1)) (some (.inr false)) (g_spec_NameOk_l0 s_1 k (IntKind.wrap .i64 (i_5+1)))) (some (.inl ()))
def g_spec_NameOk (s_1:Bs):Option Bool:=(g_spec_l01In (s_1.length:Int) 1 24).bind λ y_3=>cond (!y_3) (some false) (((g_spec_NameOk_l0 s_1 bigK 0).bind λ o=>match o with | .inl ()=>some (.inl ()) | .inr v_6=>some (.inr v_6):Option (Unit ⊕ Bool)).bind λ o=>match o with | .inl ()=>some true | .inr v_4=>some v_4)
def g_spec_WidthOf (k_1:Int):Option Int:=(g_spec_l01In k_1 0 7).bind λ y_3=>cond y_3 (some 4) ((g_spec_l01In k_1 8 15).bind λ y_4=>cond y_4 (some 5) ((g_spec_l01In k_1 16 47).bind λ y_5=>cond y_5 (some 7) (some 0)))
def g_spec_BitsOf (k_1:Int):Option Int:=(g_spec_WidthOf k_1).bind λ y_3=>cond (y_3==4) (some (IntKind.wrap .u32 k_1)) (cond (y_3==5) (some (IntKind.wrap .u32 (IntKind.wrap .i64 (k_1+8)))) (cond (y_3==7) (some (IntKind.wrap .u32 (IntKind.wrap .i64 (k_1+80)))) (some 0)))
def g_spec_l03One_l0 (s_1:Bs):Nat->Int->Int->Int->Option (Int×Int)
 | 0,_,_,_=>none
 | k+1,f_6,left_7,n_8=>cond (decide (n_8 < (s_1.length:Int))) ((idxS s_1 n_8).bind λ v_11=>(g_spec_LetterOf v_11).bind λ y_12=>(g_spec_WidthOf y_12).bind λ y_13=>cond (decide (y_13 > left_7)) (some (f_6,n_8)) ((g_spec_BitsOf y_12).bind λ y_14=>(shlI .i64 (IntKind.wrap .i64 y_14) (IntKind.wrap .u64 (IntKind.wrap .i64 (left_7-y_13)))).bind λ v_15=>g_spec_l03One_l0 s_1 k (IntKind.wrap .i64 (f_6+v_15)) (IntKind.wrap .i64 (left_7-y_13)) (IntKind.wrap .i64 (n_8+1)))) (some (f_6,n_8))
def g_spec_l03One (s_1:Bs):Option (Int×Int):=(g_spec_l03One_l0 s_1 bigK 0 28 0).bind λ (f_9,n_10)=>some (IntKind.wrap .u32 f_9,n_10)
def g_spec_Pack_l0:Nat->Bs->(List Int)->Option (List Int)
 | 0,_,_=>none
 | k+1,s_4,out_5=>cond (s_4 != []) ((g_spec_l03One s_4).bind λ y_7=>(app out_5 [y_7.1]).bind λ v_8=>(subL s_4 y_7.2 (s_4.length:Int)).bind λ v_9=>g_spec_Pack_l0 k v_9 v_8) (some out_5)
def g_spec_Pack (s_1:Bs):Option (List Int):=(g_spec_NameOk s_1).bind λ y_3=>cond (!y_3) (some ([]:List Int)) ((g_spec_Pack_l0 bigK s_1 ([]:List Int)).bind λ out_6=>some out_6)
def g_spec_l04Word_l0 (tag_1:Int):Nat->(List Int)->Int->Option (List Int)
 | 0,_,_=>none
 | k+1,out_6,i_7=>cond (decide (i_7 < (out_6.length:Int))) (((getI out_6 i_7).bind λ v_10=>(getI out_6 i_7).bind λ v_11=>cond (i_7==0) ((getI (out_6.set i_7.toNat (IntKind.wrap .u32 (v_10*16))) i_7).bind λ v_12=>(getI (out_6.set i_7.toNat (IntKind.wrap .u32 (v_10*16))) i_7).bind λ v_13=>some ((out_6.set i_7.toNat (IntKind.wrap .u32 (v_10*16))).set i_7.toNat (IntKind.wrap .u32 (v_12+tag_1)))) (some (out_6.set i_7.toNat (IntKind.wrap .u32 (v_10*16)))):Option ((List Int))).bind λ out_9=>g_spec_l04Word_l0 tag_1 k out_9 (IntKind.wrap .i64 (i_7+1))) (some out_6)
def g_spec_l04Word (tag_1:Int) (name_2:Bs):Option (List Int):=(g_spec_Pack name_2).bind λ y_4=>((g_spec_l04Word_l0 tag_1 bigK y_4 0).bind λ out_8=>some out_8:Option ((List Int))).bind λ out_5=>some out_5
def g_spec_l04Tag (kind_1:Int):Option Int:=cond (kind_1==1) (some 1) (cond (kind_1==2) (some 3) (cond (kind_1==3) (some 4) (cond (kind_1==4) (some 9) (cond (kind_1==5) (some 10) (cond (kind_1==6) (some 11) (some 0))))))
def g_spec_CellsOf (it_1:GItem):Option (List Int):=(cond (it_1.N==0) (cond (!it_1.Hex) (some (it_1.Raw==0)) (some false)) (some false):Option (Bool)).bind λ plain_3=>(cond (it_1.Kind==0) ((cond (it_1.Name==[]) (cond (it_1.N==0) (some (!it_1.Hex)) (some false)) (some false):Option (Bool)).bind λ v_5=>cond v_5 (some (.inr [it_1.Raw])) (some (.inl ()))) (cond (it_1.Kind==7) ((cond (it_1.Name==[]) (some (it_1.Raw==0)) (some false):Option (Bool)).bind λ v_6=>cond v_6 ((g_spec_l04Num it_1.N it_1.Hex 8 2).bind λ y_7=>some (.inr y_7)) (some (.inl ()))) (cond (it_1.Kind==8) ((cond (it_1.Name==[]) (some (it_1.Raw==0)) (some false):Option (Bool)).bind λ v_8=>cond v_8 ((g_spec_l04Num it_1.N it_1.Hex 6 5).bind λ y_9=>some (.inr y_9)) (some (.inl ()))) (cond (it_1.Kind==9) ((g_spec_l04Word 12 it_1.Name).bind λ y_10=>(cond ((y_10.length:Int)==1) (cond (!it_1.Hex) (some (it_1.Raw==0)) (some false)) (some false):Option (Bool)).bind λ v_11=>cond v_11 ((app y_10 [IntKind.wrap .u32 it_1.N]).bind λ v_12=>some (.inr v_12)) (some (.inl ()))) ((g_spec_l04Tag it_1.Kind).bind λ y_13=>(cond (decide (y_13 > 0)) (some plain_3) (some false):Option (Bool)).bind λ v_14=>cond v_14 ((g_spec_l04Word y_13 it_1.Name).bind λ y_15=>some (.inr y_15)) (some (.inl ())))))):Option (Unit ⊕ (List Int))).bind λ o=>match o with | .inl ()=>some ([]:List Int) | .inr v_4=>some v_4
def g_spec_l01Word (c_1:GL01Cur):Option (Int×GL01Cur):=(g_spec_l01Below 4 c_1).bind λ y_4=>cond (y_4.1==0) ((g_spec_l01PickInt [0,1,2,31,32,255,256,2147483647,2147483648,4294967295,4294967294] y_4.2).bind λ y_5=>some (IntKind.wrap .u32 y_5.1,y_5.2)) (cond (y_4.1==1) ((g_spec_l01Below 300 y_4.2).bind λ y_6=>some (IntKind.wrap .u32 y_6.1,y_6.2)) ((g_spec_l01Below 65536 y_4.2).bind λ y_7=>(g_spec_l01Below 65536 y_7.2).bind λ y_8=>some (IntKind.wrap .u32 ((IntKind.wrap .u32 ((IntKind.wrap .u32 y_7.1)*65536))+(IntKind.wrap .u32 y_8.1)),y_8.2)))
def g_spec_l04Cells_l0 (n_7:Int):Nat->(List Int)->Int->GL01Cur->Option ((List Int)×GL01Cur)
 | 0,_,_,_=>none
 | k+1,out_8,i_9,x_10=>cond (decide (i_9 < n_7)) (((g_spec_l04Some x_10).bind λ y_15=>(g_spec_CellsOf y_15.1).bind λ y_16=>(app out_8 y_16).bind λ v_17=>(g_spec_l01Below 9 y_15.2).bind λ y_18=>cond (y_18.1==0) ((g_spec_l01Word y_18.2).bind λ y_19=>(app v_17 [y_19.1]).bind λ v_20=>some (v_20,y_19.2)) (cond (y_18.1==1) ((app v_17 [0]).bind λ v_21=>some (v_21,y_18.2)) (cond (y_18.1==2) ((g_spec_l01Below 4096 y_18.2).bind λ y_22=>(app v_17 [IntKind.wrap .u32 ((IntKind.wrap .u32 y_22.1)*16)]).bind λ v_23=>some (v_23,y_22.2)) (cond (y_18.1==3) ((g_spec_l01PickInt [2,18,5,34,12] y_18.2).bind λ y_24=>(app v_17 [IntKind.wrap .u32 y_24.1]).bind λ v_25=>some (v_25,y_24.2)) (some (v_17,y_18.2))))):Option (((List Int)×GL01Cur))).bind λ (out_13,x_14)=>g_spec_l04Cells_l0 n_7 k out_13 (IntKind.wrap .i64 (i_9+1)) x_14) (some (out_8,x_10))
def g_spec_l04Cells (c_1:GL01Cur):Option ((List Int)×GL01Cur):=(g_spec_l01Below 14 c_1).bind λ y_4=>((g_spec_l04Cells_l0 y_4.1 bigK ([]:List Int) 0 y_4.2).bind λ (out_11,x_12)=>some (out_11,x_12):Option (((List Int)×GL01Cur))).bind λ (out_5,x_6)=>(cond (decide ((out_5.length:Int) > 64)) ((g_spec_l01Once 6 x_6).bind λ y_28=>some ((!y_28.1),y_28.2)) (some (false,x_6)):Option ((Bool×GL01Cur))).bind λ (v_26,x_27)=>cond v_26 ((subL out_5 0 64).bind λ v_29=>some (v_29,x_27)) (some (out_5,x_27))
def g_spec_l04Kind_l0 (tag_1:Int):Nat->Int->Option (Unit ⊕ Int)
 | 0,_=>none
 | k+1,k_4=>cond (decide (k_4<=6)) ((g_spec_l04Tag k_4).bind λ y_6=>cond (y_6==tag_1) (some (.inr k_4)) (g_spec_l04Kind_l0 tag_1 k (IntKind.wrap .i64 (k_4+1)))) (some (.inl ()))
def g_spec_l04Kind (tag_1:Int):Option Int:=((g_spec_l04Kind_l0 tag_1 bigK 1).bind λ o=>match o with | .inl ()=>some (.inl ()) | .inr v_5=>some (.inr v_5):Option (Unit ⊕ Int)).bind λ o=>match o with | .inl ()=>some (-1) | .inr v_3=>some v_3
def g_spec_Decode_l0 (bits_1:Int) (n_2:Int):Nat->Int->Option (Unit ⊕ (Int×Int))
 | 0,_=>none
 | k+1,k_8=>cond (decide (k_8 < 48)) (((g_spec_WidthOf k_8).bind λ y_13=>cond (decide (y_13 > n_2)) (some (.inl ())) ((shlI .i64 1 (IntKind.wrap .u64 n_2)).bind λ v_14=>(shrI .i64 (andI .i64 (IntKind.wrap .i64 bits_1) (IntKind.wrap .i64 (v_14-1))) (IntKind.wrap .u64 (IntKind.wrap .i64 (n_2-y_13)))).bind λ v_15=>(g_spec_BitsOf k_8).bind λ y_16=>cond (v_15==(IntKind.wrap .i64 y_16)) (some (.inr (k_8,y_13))) (some (.inl ()))):Option (Unit ⊕ (Int×Int))).bind λ o=>match o with | .inl ()=>g_spec_Decode_l0 bits_1 n_2 k (IntKind.wrap .i64 (k_8+1)) | .inr (v_11,v_12)=>some (.inr (v_11,v_12))) (some (.inl ()))
def g_spec_Decode (bits_1:Int) (n_2:Int):Option (Int×Int):=(g_spec_l01In n_2 1 32).bind λ y_5=>cond (!y_5) (some ((-1),0)) (((g_spec_Decode_l0 bits_1 n_2 bigK 0).bind λ o=>match o with | .inl ()=>some (.inl ()) | .inr (v_9,v_10)=>some (.inr (v_9,v_10)):Option (Unit ⊕ (Int×Int))).bind λ o=>match o with | .inl ()=>some ((-1),0) | .inr (v_6,v_7)=>some (v_6,v_7))
def g_spec_UnpackOne_l0 (f_1:Int):Nat->(List Int)->Int->Option (List Int)
 | 0,_,_=>none
 | k+1,out_4,left_5=>(cond (decide (left_5 > 0)) ((shlI .i64 1 (IntKind.wrap .u64 left_5)).bind λ v_8=>some ((andI .i64 (IntKind.wrap .i64 f_1) (IntKind.wrap .i64 (v_8-1))) != 0)) (some false):Option (Bool)).bind λ v_7=>cond v_7 ((g_spec_Decode f_1 left_5).bind λ y_9=>cond (decide (y_9.1 < 1)) (some out_4) ((g_spec_LetterAt y_9.1).bind λ y_10=>(app out_4 [y_10]).bind λ v_11=>g_spec_UnpackOne_l0 f_1 k v_11 (IntKind.wrap .i64 (left_5-y_9.2)))) (some out_4)
def g_spec_UnpackOne (f_1:Int):Option Bs:=cond (decide ((IntKind.wrap .i64 f_1) ≥ 268435456)) (some []) ((g_spec_UnpackOne_l0 f_1 bigK ([]:List Int) 28).bind λ out_6=>some (strOf out_6))
def g_spec_l03Same_l0 (a_1:List Int) (b_2:List Int):Nat->Int->Option (Unit ⊕ Bool)
 | 0,_=>none
 | k+1,i_5=>cond (decide (i_5 < (a_1.length:Int))) ((getI a_1 i_5).bind λ v_7=>(getI b_2 i_5).bind λ v_8=>cond (v_7 != v_8) (some (.inr false)) (g_spec_l03Same_l0 a_1 b_2 k (IntKind.wrap .i64 (i_5+1)))) (some (.inl ()))
def g_spec_l03Same (a_1:List Int) (b_2:List Int):Option Bool:=cond ((a_1.length:Int) != (b_2.length:Int)) (some false) (((g_spec_l03Same_l0 a_1 b_2 bigK 0).bind λ o=>match o with | .inl ()=>some (.inl ()) | .inr v_6=>some (.inr v_6):Option (Unit ⊕ Bool)).bind λ o=>match o with | .inl ()=>some true | .inr v_4=>some v_4)
def g_spec_Unpack_l0 (list_1:List Int):Nat->Bs->Int->Option Bs
 | 0,_,_=>none
 | k+1,s_7,i_8=>cond (decide (i_8 < (list_1.length:Int))) ((getI list_1 i_8).bind λ v_10=>(g_spec_UnpackOne v_10).bind λ y_11=>(catS s_7 y_11).bind λ v_12=>g_spec_Unpack_l0 list_1 k v_12 (IntKind.wrap .i64 (i_8+1))) (some s_7)
def g_spec_Unpack (list_1:List Int):Option (Bs×Bool):=cond (decide ((list_1.length:Int) > 24)) (some ([],false)) (((g_spec_Unpack_l0 list_1 bigK [] 0).bind λ s_9=>some s_9:Option (Bs)).bind λ s_4=>((g_spec_NameOk s_4).bind λ y_14=>cond (!y_14) (some true) ((g_spec_Pack s_4).bind λ y_15=>(g_spec_l03Same y_15 list_1).bind λ y_16=>some (!y_16)):Option (Bool)).bind λ v_13=>cond v_13 (some ([],false)) (some (s_4,true)))
def g_spec_l04Name_l0 (cells_1:List Int):Nat->(List Int)->Int->Option (List Int)
 | 0,_,_=>none
 | k+1,fields_10,k_11=>(cond (decide (k_11 < (cells_1.length:Int))) ((getI cells_1 k_11).bind λ v_14=>cond ((Int.tmod v_14 16)==0) ((getI cells_1 k_11).bind λ v_15=>some (v_15 != 0)) (some false)) (some false):Option (Bool)).bind λ v_13=>cond v_13 ((getI cells_1 k_11).bind λ v_16=>(app fields_10 [IntKind.wrap .u32 (Int.tdiv v_16 16)]).bind λ v_17=>g_spec_l04Name_l0 cells_1 k v_17 (IntKind.wrap .i64 (k_11+1))) (some fields_10)
def g_spec_l04Name (cells_1:List Int) (i_2:Int) (kind_3:Int):Option (GItem×Int):=(getI cells_1 i_2).bind λ v_6=>((g_spec_l04Name_l0 cells_1 bigK [IntKind.wrap .u32 (Int.tdiv v_6 16)] (IntKind.wrap .i64 (i_2+1))).bind λ fields_12=>some fields_12:Option ((List Int))).bind λ fields_7=>(g_spec_Unpack fields_7).bind λ y_18=>cond (!y_18.2) (some ((⟨0,[],0,false,0⟩:GItem),0)) (some ((⟨kind_3,y_18.1,0,false,0⟩:GItem),(fields_7.length:Int)))
def g_spec_l04Number (cells_1:List Int) (i_2:Int):Option (GItem×Int):=(getI cells_1 i_2).bind λ v_5=>((cond ((Int.tmod v_5 16)==6) (some true) (some ((Int.tmod v_5 16)==5)):Option (Bool)).bind λ v_7=>cond v_7 (some (⟨8,[],0,((andI .u32 v_5 16) != 0),0⟩:GItem)) (some (⟨7,[],0,((andI .u32 v_5 16) != 0),0⟩:GItem)):Option (GItem)).bind λ x_6=>(cond ((Int.tmod v_5 16)==8) (some true) (some ((Int.tmod v_5 16)==6)):Option (Bool)).bind λ v_8=>cond v_8 (some ((⟨x_6.Kind,x_6.Name,(IntKind.wrap .i32 v_5) / 32,x_6.Hex,x_6.Raw⟩:GItem),1)) ((cond (decide ((IntKind.wrap .i64 (i_2+1)) ≥ (cells_1.length:Int))) (some true) (some ((IntKind.wrap .u32 (Int.tdiv v_5 32)) != 0)):Option (Bool)).bind λ v_9=>cond v_9 (some ((⟨0,[],0,false,0⟩:GItem),0)) ((getI cells_1 (IntKind.wrap .i64 (i_2+1))).bind λ v_10=>(g_spec_CellsOf (⟨x_6.Kind,x_6.Name,IntKind.wrap .i32 v_10,x_6.Hex,x_6.Raw⟩:GItem)).bind λ y_11=>some ((⟨x_6.Kind,x_6.Name,IntKind.wrap .i32 v_10,x_6.Hex,x_6.Raw⟩:GItem),IntKind.wrap .i64 ((IntKind.wrap .i64 (Int.tdiv (y_11.length:Int) 2))*2))))
def g_spec_FieldOk (f_1:Int):Option Bool:=(g_spec_UnpackOne f_1).bind λ y_3=>(g_spec_Pack y_3).bind λ y_4=>cond ((y_4.length:Int)==1) ((getI y_4 0).bind λ v_5=>some (v_5==f_1)) (some false)
def g_spec_l04Item (cells_1:List Int) (i_2:Int):Option (GItem×Int):=(getI cells_1 i_2).bind λ v_5=>((g_spec_l04Kind (Int.tmod v_5 16)).bind λ y_8=>cond (decide (y_8 ≥ 0)) ((g_spec_l04Kind (Int.tmod v_5 16)).bind λ y_9=>(g_spec_l04Name cells_1 i_2 y_9).bind λ y_10=>some (y_10.2,y_10.1)) ((cond ((Int.tmod v_5 16)==8) (some true) (cond ((Int.tmod v_5 16)==6) (some true) (cond ((Int.tmod v_5 16)==2) (some true) (some ((Int.tmod v_5 16)==5)))):Option (Bool)).bind λ v_11=>cond v_11 ((g_spec_l04Number cells_1 i_2).bind λ y_12=>some (y_12.2,y_12.1)) ((cond ((Int.tmod v_5 16)==12) (cond (decide ((IntKind.wrap .i64 (i_2+1)) < (cells_1.length:Int))) ((getI cells_1 i_2).bind λ v_14=>(g_spec_FieldOk (IntKind.wrap .u32 (Int.tdiv v_14 16))).bind λ y_15=>some y_15) (some false)) (some false):Option (Bool)).bind λ v_13=>cond v_13 ((getI cells_1 i_2).bind λ v_16=>(g_spec_UnpackOne (IntKind.wrap .u32 (Int.tdiv v_16 16))).bind λ y_17=>(getI cells_1 (IntKind.wrap .i64 (i_2+1))).bind λ v_18=>some (2,(⟨9,y_17,IntKind.wrap .i32 v_18,false,0⟩:GItem))) (some (0,(⟨0,[],0,false,0⟩:GItem))))):Option ((Int×GItem))).bind λ (n_6,x_7)=>cond (n_6==0) ((getI cells_1 i_2).bind λ v_19=>some ((⟨0,[],0,false,v_19⟩:GItem),1)) (some (x_7,n_6))
def g_spec_ParseCells_l0 (cells_1:List Int):Nat->(List GItem)->Int->Option (List GItem)
 | 0,_,_=>none
 | k+1,out_4,i_5=>cond (decide (i_5 < (cells_1.length:Int))) ((g_spec_l04Item cells_1 i_5).bind λ y_7=>(app out_4 [y_7.1]).bind λ v_8=>g_spec_ParseCells_l0 cells_1 k v_8 (IntKind.wrap .i64 (i_5+y_7.2))) (some out_4)
def g_spec_ParseCells_l1:Nat->(List GItem)->Option (List GItem)
 | 0,_=>none
 | k+1,out_9=>(cond (decide ((out_9.length:Int) > 0)) ((getI out_9 (IntKind.wrap .i64 ((out_9.length:Int)-1))).bind λ v_12=>some ((v_12.Kind:Int)==0&&((v_12.Name:Bs)==[]&&((v_12.N:Int)==0&&((v_12.Hex:Bool)==false&&((v_12.Raw:Int)==0&&true)))))) (some false):Option (Bool)).bind λ v_11=>cond v_11 ((subL out_9 0 (IntKind.wrap .i64 ((out_9.length:Int)-1))).bind λ v_13=>g_spec_ParseCells_l1 k v_13) (some out_9)
def g_spec_ParseCells (cells_1:List Int):Option (List GItem):=cond (decide ((cells_1.length:Int) > 64)) (some ([]:List GItem)) (((g_spec_ParseCells_l0 cells_1 bigK ([]:List GItem) 0).bind λ out_6=>some out_6:Option ((List GItem))).bind λ out_3=>(g_spec_ParseCells_l1 bigK out_3).bind λ out_10=>some out_10)
def g_spec_l07Make_l0 (n_14:Int):Nat->Int->GL01Cur->GEd->Option (GL01Cur×GEd)
 | 0,_,_,_=>none
 | k+1,i_20,x_21,x_22=>cond (decide (i_20 < n_14)) ((g_spec_l04Some x_21).bind λ y_25=>(app x_22.Cut [y_25.1]).bind λ v_26=>g_spec_l07Make_l0 n_14 k (IntKind.wrap .i64 (i_20+1)) y_25.2 (⟨x_22.Left,x_22.Right,v_26⟩:GEd)) (some (x_21,x_22))
def g_spec_l07Make (c_1:GL01Cur):Option (GEd×GL01Cur):=(g_spec_l04Cells c_1).bind λ y_4=>(cond (decide ((y_4.1.length:Int) > 64)) ((subL y_4.1 0 64).bind λ v_6=>some v_6) (some y_4.1):Option ((List Int))).bind λ cells_5=>(g_spec_ParseCells cells_5).bind λ y_7=>(g_spec_l01Below (IntKind.wrap .i64 ((y_7.length:Int)+1)) y_4.2).bind λ y_8=>(subL y_7 0 y_8.1).bind λ v_9=>(app ([]:List GItem) v_9).bind λ v_10=>(subL y_7 y_8.1 ((y_7.length:Nat):Int)).bind λ v_11=>(app ([]:List GItem) v_11).bind λ v_12=>(g_spec_l01Below 4 y_8.2).bind λ y_13=>((g_spec_l01Once 9 y_13.2).bind λ y_16=>cond y_16.1 ((g_spec_l01Below 3 y_16.2).bind λ y_17=>some (IntKind.wrap .i64 (18+y_17.1),y_17.2)) (some (y_13.1,y_16.2)):Option ((Int×GL01Cur))).bind λ (n_14,x_15)=>((g_spec_l07Make_l0 n_14 bigK 0 x_15 (⟨v_10,v_12,[]⟩:GEd)).bind λ (x_23,x_24)=>some (x_23,x_24):Option ((GL01Cur×GEd))).bind λ (x_18,x_19)=>some (x_19,x_18)
def g_spec_l04Any (c_1:GL01Cur):Option (GItem×GL01Cur):=(g_spec_l04Some c_1).bind λ y_4=>((g_spec_l01Below 14 y_4.2).bind λ y_11=>cond (y_11.1==0) ((g_spec_l01Word y_11.2).bind λ y_12=>some (.inr (y_12.2,(⟨0,[],0,false,y_12.1⟩:GItem),y_4.1))) (cond (y_11.1==1) ((g_spec_l01Below 12 y_11.2).bind λ y_13=>some (.inl (y_13.2,(⟨0,[],0,false,0⟩:GItem),(⟨IntKind.wrap .i64 (y_13.1-1),y_4.1.Name,y_4.1.N,y_4.1.Hex,y_4.1.Raw⟩:GItem)))) (cond (y_11.1==2) ((g_spec_l01Pick [[],[65],[113,113,113,113,113],[115,113,117,97,114,101,115,113,117,97,114,101]] y_11.2).bind λ y_14=>some (.inl (y_14.2,(⟨0,[],0,false,0⟩:GItem),(⟨y_4.1.Kind,y_14.1,y_4.1.N,y_4.1.Hex,y_4.1.Raw⟩:GItem)))) (cond (y_11.1==3) ((g_spec_l01Below 3 y_11.2).bind λ y_15=>some (.inl (y_15.2,(⟨0,[],0,false,0⟩:GItem),(⟨y_4.1.Kind,y_4.1.Name,y_4.1.N,y_4.1.Hex,IntKind.wrap .u32 y_15.1⟩:GItem)))) (some (.inl (y_11.2,(⟨0,[],0,false,0⟩:GItem),y_4.1)))))):Option ((GL01Cur×GItem×GItem) ⊕ (GL01Cur×GItem×GItem))).bind λ o=>match o with | .inl (x_5,x_6,x_7)=>some (x_7,x_5) | .inr (x_8,x_9,x_10)=>some (x_9,x_8)
def g_spec_l07Any_l0:Nat->GL01Cur->GEd->Option (GL01Cur×GEd)
 | 0,_,_=>none
 | k+1,x_12,x_13=>(g_spec_l01Below 2 x_12).bind λ y_16=>cond (decide ((x_13.Cut.length:Int) < (IntKind.wrap .i64 (20+y_16.1)))) ((app x_13.Cut [(⟨0,[],0,false,7⟩:GItem)]).bind λ v_17=>g_spec_l07Any_l0 k y_16.2 (⟨x_13.Left,x_13.Right,v_17⟩:GEd)) (some (y_16.2,x_13))
def g_spec_l07Any (c_1:GL01Cur):Option (GEd×GL01Cur):=(g_spec_l07Make c_1).bind λ y_4=>((g_spec_l01Below 12 y_4.2).bind λ y_7=>cond (y_7.1==0) ((g_spec_l04Any y_7.2).bind λ y_8=>(app y_4.1.Cut [y_8.1]).bind λ v_9=>some (y_8.2,(⟨y_4.1.Left,y_4.1.Right,v_9⟩:GEd))) (cond (y_7.1==1) ((g_spec_l04Any y_7.2).bind λ y_10=>(app y_4.1.Left [y_10.1]).bind λ v_11=>some (y_10.2,(⟨v_11,y_4.1.Right,y_4.1.Cut⟩:GEd))) (cond (y_7.1==2) ((g_spec_l07Any_l0 bigK y_7.2 y_4.1).bind λ (x_14,x_15)=>some (x_14,x_15)) (some (y_7.2,y_4.1)))):Option ((GL01Cur×GEd))).bind λ (x_5,x_6)=>some (x_6,x_5)
def g_spec_l07Key (c_1:GL01Cur):Option (GKey×GL01Cur):=(g_spec_l01Below 9 c_1).bind λ y_4=>((cond (y_4.1==4) (some (true,y_4.2)) ((g_spec_l01Once 6 y_4.2).bind λ y_9=>some (y_9.1,y_9.2)):Option ((Bool×GL01Cur))).bind λ (v_7,x_8)=>cond v_7 ((g_spec_l04Any x_8).bind λ y_10=>some (y_10.2,(⟨y_4.1,y_10.1⟩:GKey))) (some (x_8,(⟨y_4.1,(⟨0,[],0,false,0⟩:GItem)⟩:GKey))):Option ((GL01Cur×GKey))).bind λ (x_5,x_6)=>(cond (x_6.Op==7) ((g_spec_l01Below 11 x_5).bind λ y_13=>some (y_13.2,(⟨x_6.Op,(⟨IntKind.wrap .i64 (y_13.1-1),[],0,false,0⟩:GItem)⟩:GKey))) (some (x_5,x_6)):Option ((GL01Cur×GKey))).bind λ (x_11,x_12)=>some (x_12,x_11)
def g_spec_DrawPressAll_l0 (n_9:Int):Nat->(List GKey)->Int->GL01Cur->Option ((List GKey)×GL01Cur)
 | 0,_,_,_=>none
 | k+1,keys_11,i_12,x_13=>cond (decide (i_12 < n_9)) ((g_spec_l07Key x_13).bind λ y_16=>(app keys_11 [y_16.1]).bind λ v_17=>g_spec_DrawPressAll_l0 n_9 k v_17 (IntKind.wrap .i64 (i_12+1)) y_16.2) (some (keys_11,x_13))
def g_spec_DrawPressAll (code_1:List Int):Option (GEd×(List GKey)):=(g_spec_l01New code_1).bind λ y_4=>(g_spec_l07Any y_4).bind λ y_5=>(g_spec_l01Below 9 y_5.2).bind λ y_6=>((g_spec_DrawPressAll_l0 y_6.1 bigK ([]:List GKey) 0 y_6.2).bind λ (keys_14,x_15)=>some (keys_14,x_15):Option (((List GKey)×GL01Cur))).bind λ (keys_7,x_8)=>some (y_5.1,keys_7)
def g_impl_nameTag (kind_1:Int):Option Int:=cond (kind_1==1) (some 1) (cond (kind_1==2) (some 3) (cond (kind_1==3) (some 4) (cond (kind_1==4) (some 9) (cond (kind_1==5) (some 10) (cond (kind_1==6) (some 11) (some 0))))))
def g_impl_letters:Option Bs:=some [32,114,116,111,101,97,110,105,115,109,99,121,108,103,102,119,100,118,112,98,104,120,117,113,48,49,50,51,52,53,54,55,56,57,106,45,107,46,122,47,59,39,33,43,64,42,44,63]
def g_ibytealg_IndexByteString (s_1:Bs) (c_2:Int):Option Int:=gIdxB s_1 c_2
def g_istringslite_IndexByte (s_1:Bs) (c_2:Int):Option Int:=(g_ibytealg_IndexByteString s_1 c_2).bind λ y_4=>some y_4
def g_strings_IndexByte (s_1:Bs) (c_2:Int):Option Int:=(g_istringslite_IndexByte s_1 c_2).bind λ y_4=>some y_4
def g_impl_LetterOf (b_1:Int):Option Int:=(g_impl_letters).bind λ y_3=>(g_strings_IndexByte y_3 b_1).bind λ y_4=>some y_4
def g_impl_within (n_1:Int) (low_2:Int) (high_3:Int):Option Bool:=cond (decide (low_2<=n_1)) (some (decide (n_1<=high_3))) (some false)
def g_impl_NameOk_l0 (s_1:Bs) (v_4:Int):Nat->Int->Option (Unit ⊕ Bool)
 | 0,_=>none
 | k+1,v_5=>cond (decide (v_5 < v_4)) ((idxS s_1 v_5).bind λ v_7=>(g_impl_LetterOf v_7).bind λ y_8=>cond (decide (y_8 < 1)) (some (.inr false)) (g_impl_NameOk_l0 s_1 v_4 k (IntKind.wrap .i64 (v_5+1)))) (some (.inl ()))
def g_impl_NameOk (s_1:Bs):Option Bool:=((g_impl_NameOk_l0 s_1 (s_1.length:Int) bigK 0).bind λ o=>match o with | .inl ()=>some (.inl ()) | .inr v_6=>some (.inr v_6):Option (Unit ⊕ Bool)).bind λ o=>match o with | .inl ()=>(g_impl_within (s_1.length:Int) 1 24).bind λ y_9=>some y_9 | .inr v_3=>some v_3
def g_impl_WidthOf (k_1:Int):Option Int:=(g_impl_within k_1 0 7).bind λ y_3=>cond y_3 (some 4) ((g_impl_within k_1 8 15).bind λ y_4=>cond y_4 (some 5) ((g_impl_within k_1 16 47).bind λ y_5=>cond y_5 (some 7) (some 0)))
def g_impl_BitsOf (k_1:Int):Option Int:=(g_impl_WidthOf k_1).bind λ y_3=>cond (y_3==4) (some (IntKind.wrap .u32 k_1)) (cond (y_3==5) (some (IntKind.wrap .u32 ((IntKind.wrap .u32 k_1)+8))) (cond (y_3==7) (some (IntKind.wrap .u32 ((IntKind.wrap .u32 k_1)+80))) (some 0)))
def g_impl_PackOne_l0 (s_1:Bs) (v_9:Int):Nat->Int->Int->Int->Int->Option (Int×Int)
 | 0,_,_,_,_=>none
 | k+1,field_10,left_11,many_12,v_13=>cond (decide (v_13 < v_9)) ((idxS s_1 v_13).bind λ v_16=>(g_impl_LetterOf v_16).bind λ y_17=>(g_impl_WidthOf y_17).bind λ y_18=>cond (decide (y_18 > left_11)) (some (field_10,many_12)) ((g_impl_WidthOf y_17).bind λ y_19=>(g_impl_BitsOf y_17).bind λ y_20=>(shlI .u32 y_20 (IntKind.wrap .i64 (left_11-y_19))).bind λ v_21=>g_impl_PackOne_l0 s_1 v_9 k (orI .u32 field_10 v_21) (IntKind.wrap .i64 (left_11-y_19)) (IntKind.wrap .i64 (many_12+1)) (IntKind.wrap .i64 (v_13+1)))) (some (field_10,many_12))
def g_impl_PackOne (s_1:Bs):Option (Int×Int):=(g_impl_NameOk s_1).bind λ y_4=>cond (!y_4) (some (0,0)) (((g_impl_PackOne_l0 s_1 (s_1.length:Int) bigK 0 28 0 0).bind λ (field_14,many_15)=>some (field_14,many_15):Option ((Int×Int))).bind λ (field_5,many_6)=>some (field_5,many_6))
def g_impl_Pack_l0:Nat->Bs->(List Int)->Option (List Int)
 | 0,_,_=>none
 | k+1,s_3,out_4=>(g_impl_NameOk s_3).bind λ y_6=>cond y_6 ((g_impl_PackOne s_3).bind λ y_7=>(app out_4 [y_7.1]).bind λ v_8=>(subL s_3 y_7.2 (s_3.length:Int)).bind λ v_9=>g_impl_Pack_l0 k v_9 v_8) (some out_4)
def g_impl_Pack (s_1:Bs):Option (List Int):=(g_impl_Pack_l0 bigK s_1 ([]:List Int)).bind λ out_5=>some out_5
def g_impl_numberCells (n_1:Int) (hex_2:Bool) (short_3:Int) (long_4:Int):Option (List Int):=(cond hex_2 (some 16) (some 0):Option (Int)).bind λ bit_6=>(cond (decide (n_1 ≥ (-67108864))) (some (decide (n_1<=67108863))) (some false):Option (Bool)).bind λ v_7=>cond v_7 (some [orI .u32 (orI .u32 (IntKind.wrap .u32 ((IntKind.wrap .u32 n_1)*32)) bit_6) short_3]) (some [orI .u32 bit_6 long_4,IntKind.wrap .u32 n_1])
def g_impl_CellsOf_l0 (v_8:List Int) (v_9:Int):Nat->Int->(List Int)->Int->Option (List Int)
 | 0,_,_,_=>none
 | k+1,tag_10,out_11,v_12=>cond (decide (v_12 < v_9)) ((getI v_8 v_12).bind λ v_14=>(app out_11 [orI .u32 (IntKind.wrap .u32 (v_14*16)) tag_10]).bind λ v_15=>g_impl_CellsOf_l0 v_8 v_9 k 0 v_15 (IntKind.wrap .i64 (v_12+1))) (some out_11)
def g_impl_CellsOf (it_1:GItem):Option (List Int):=(g_impl_nameTag it_1.Kind).bind λ y_3=>((cond (decide (y_3 > 0)) (some ((it_1.Kind:Int)==it_1.Kind&&((it_1.Name:Bs)==it_1.Name&&((it_1.N:Int)==0&&((it_1.Hex:Bool)==false&&((it_1.Raw:Int)==0&&true)))))) (some false):Option (Bool)).bind λ v_5=>cond v_5 (((g_impl_Pack it_1.Name).bind λ y_7=>(g_impl_CellsOf_l0 y_7 (y_7.length:Int) bigK y_3 ([]:List Int) 0).bind λ out_13=>some out_13:Option ((List Int))).bind λ out_6=>some (.inr out_6)) (cond ((it_1.Kind:Int)==7&&((it_1.Name:Bs)==[]&&((it_1.N:Int)==it_1.N&&((it_1.Hex:Bool)==it_1.Hex&&((it_1.Raw:Int)==0&&true))))) ((g_impl_numberCells it_1.N it_1.Hex 8 2).bind λ y_16=>some (.inr y_16)) (cond ((it_1.Kind:Int)==8&&((it_1.Name:Bs)==[]&&((it_1.N:Int)==it_1.N&&((it_1.Hex:Bool)==it_1.Hex&&((it_1.Raw:Int)==0&&true))))) ((g_impl_numberCells it_1.N it_1.Hex 6 5).bind λ y_17=>some (.inr y_17)) (cond ((it_1.Kind:Int)==9&&((it_1.Name:Bs)==it_1.Name&&((it_1.N:Int)==it_1.N&&((it_1.Hex:Bool)==false&&((it_1.Raw:Int)==0&&true))))) ((g_impl_Pack it_1.Name).bind λ y_18=>cond ((y_18.length:Int)==1) ((getI y_18 0).bind λ v_19=>some (.inr [orI .u32 (IntKind.wrap .u32 (v_19*16)) 12,IntKind.wrap .u32 it_1.N])) (some (.inl ()))) (cond ((it_1.Kind:Int)==0&&((it_1.Name:Bs)==[]&&((it_1.N:Int)==0&&((it_1.Hex:Bool)==false&&((it_1.Raw:Int)==it_1.Raw&&true))))) (some (.inr [it_1.Raw])) (some (.inl ())))))):Option (Unit ⊕ (List Int))).bind λ o=>match o with | .inl ()=>some [] | .inr v_4=>some v_4
def g_impl_ItemOk (it_1:GItem):Option Bool:=(g_impl_CellsOf it_1).bind λ y_3=>some (decide ((y_3.length:Int) > 0))
def g_impl_EdOkc1 (it_1:GItem):Option Bool:=(g_impl_ItemOk it_1).bind λ y_3=>some (!y_3)
def g_slices_IndexFunc_Item_impl_EdOkc1_l0 (s_1:List GItem) (v_4:Int):Nat->Int->Option (Unit ⊕ Int)
 | 0,_=>none
 | k+1,v_5=>cond (decide (v_5 < v_4)) ((getI s_1 v_5).bind λ v_7=>(g_impl_EdOkc1 v_7).bind λ y_8=>cond y_8 (some (.inr v_5)) (g_slices_IndexFunc_Item_impl_EdOkc1_l0 s_1 v_4 k (IntKind.wrap .i64 (v_5+1)))) (some (.inl ()))
def g_slices_IndexFunc_Item_impl_EdOkc1 (s_1:List GItem):Option Int:=((g_slices_IndexFunc_Item_impl_EdOkc1_l0 s_1 (s_1.length:Int) bigK 0).bind λ o=>match o with | .inl ()=>some (.inl ()) | .inr v_6=>some (.inr v_6):Option (Unit ⊕ Int)).bind λ o=>match o with | .inl ()=>some (-1) | .inr v_3=>some v_3
def g_slices_ContainsFunc_Item_impl_EdOkc1 (s_1:List GItem):Option Bool:=(g_slices_IndexFunc_Item_impl_EdOkc1 s_1).bind λ y_3=>some (decide (y_3 ≥ 0))
def g_slices_Grow_Item_emp (n_1:Int):Option (List GItem):=(cond (decide (n_1 < 0)) (none) (some ()):Option (Unit)).bind λ _=>(cond (decide ((IntKind.wrap .i64 (n_1-(IntKind.wrap .i64 (0-0)))) > 0)) ((mk ((⟨0,[],0,false,0⟩:GItem):GItem) (IntKind.wrap .i64 (n_1-(IntKind.wrap .i64 (0-0))))).bind λ v_4=>(subL v_4 0 0).bind λ v_5=>some v_5) (some []):Option ((List GItem))).bind λ s_3=>some s_3
def g_slices_Concat_Item_l0 (v_4:List (List GItem)) (v_5:Int):Nat->Int->Int->Option Int
 | 0,_,_=>none
 | k+1,size_6,v_7=>cond (decide (v_7 < v_5)) (((getI v_4 v_7).bind λ v_10=>cond (decide ((IntKind.wrap .i64 (size_6+(v_10.length:Int))) < 0)) (none) (some (IntKind.wrap .i64 (size_6+(v_10.length:Int)))):Option (Int)).bind λ size_9=>g_slices_Concat_Item_l0 v_4 v_5 k size_9 (IntKind.wrap .i64 (v_7+1))) (some size_6)
def g_slices_Concat_Item_l1 (v_13:List (List GItem)) (v_14:Int):Nat->(List GItem)->Int->Option (List GItem)
 | 0,_,_=>none
 | k+1,newslice_15,v_16=>cond (decide (v_16 < v_14)) ((getI v_13 v_16).bind λ v_18=>(app newslice_15 v_18).bind λ v_19=>g_slices_Concat_Item_l1 v_13 v_14 k v_19 (IntKind.wrap .i64 (v_16+1))) (some newslice_15)
def g_slices_Concat_Item (slices_1:List (List GItem)):Option (List GItem):=((g_slices_Concat_Item_l0 slices_1 (slices_1.length:Int) bigK 0 0).bind λ size_8=>some size_8:Option (Int)).bind λ size_3=>(g_slices_Grow_Item_emp size_3).bind λ y_11=>((g_slices_Concat_Item_l1 slices_1 (slices_1.length:Int) bigK y_11 0).bind λ newslice_17=>some newslice_17:Option ((List GItem))).bind λ newslice_12=>some newslice_12
def g_impl_edItems (e_1:GEd):Option (List GItem):=(g_slices_Concat_Item [e_1.Left,e_1.Right]).bind λ y_3=>some y_3
def g_impl_Unparse_l0 (v_6:List GItem) (v_7:Int):Nat->(List Int)->Int->Option ((List Int) ⊕ Bool)
 | 0,_,_=>none
 | k+1,out_8,v_9=>cond (decide (v_9 < v_7)) ((getI v_6 v_9).bind λ v_12=>(g_impl_CellsOf v_12).bind λ y_13=>(app out_8 y_13).bind λ v_14=>(cond ((y_13.length:Int)==0) (some true) (some (decide ((v_14.length:Int) > 64))):Option (Bool)).bind λ v_15=>cond v_15 (some (.inr false)) (g_impl_Unparse_l0 v_6 v_7 k v_14 (IntKind.wrap .i64 (v_9+1)))) (some (.inl out_8))
def g_impl_Unparse (list_1:List GItem):Option ((List Int)×Bool):=((g_impl_Unparse_l0 list_1 (list_1.length:Int) bigK ([]:List Int) 0).bind λ o=>match o with | .inl out_10=>some (.inl out_10) | .inr v_11=>some (.inr v_11):Option ((List Int) ⊕ Bool)).bind λ o=>match o with | .inl out_4=>some (out_4,true) | .inr v_5=>some ([],v_5)
def g_impl_Decode_l0 (bits_1:Int) (n_2:Int):Nat->Int->Option (Unit ⊕ (Int×Int))
 | 0,_=>none
 | k+1,v_8=>cond (decide (v_8 < 48)) ((g_impl_WidthOf v_8).bind λ y_11=>(cond (decide (y_11<=n_2)) ((shrI .u32 bits_1 (IntKind.wrap .i64 (n_2-y_11))).bind λ v_13=>(shlI .u32 1 y_11).bind λ v_14=>(g_impl_BitsOf v_8).bind λ y_15=>some ((andI .u32 v_13 (IntKind.wrap .u32 (v_14-1)))==y_15)) (some false):Option (Bool)).bind λ v_12=>cond v_12 (some (.inr (v_8,y_11))) (g_impl_Decode_l0 bits_1 n_2 k (IntKind.wrap .i64 (v_8+1)))) (some (.inl ()))
def g_impl_Decode (bits_1:Int) (n_2:Int):Option (Int×Int):=(g_impl_within n_2 1 32).bind λ y_5=>cond (!y_5) (some ((-1),0)) (((g_impl_Decode_l0 bits_1 n_2 bigK 0).bind λ o=>match o with | .inl ()=>some (.inl ()) | .inr (v_9,v_10)=>some (.inr (v_9,v_10)):Option (Unit ⊕ (Int×Int))).bind λ o=>match o with | .inl ()=>some ((-1),0) | .inr (v_6,v_7)=>some (v_6,v_7))
def g_impl_LetterAt (k_1:Int):Option Int:=(g_impl_within k_1 0 47).bind λ y_3=>cond (!y_3) (some 0) ((g_impl_letters).bind λ y_4=>(idxS y_4 k_1).bind λ v_5=>some v_5)
def g_impl_UnpackOne_l0 (f_1:Int):Nat->(List Int)->Int->Option (List Int)
 | 0,_,_=>none
 | k+1,out_4,left_5=>(shlI .u32 1 left_5).bind λ v_7=>cond ((andI .u32 f_1 (IntKind.wrap .u32 (v_7-1))) != 0) ((g_impl_Decode f_1 left_5).bind λ y_8=>cond (decide (y_8.1 < 1)) (some out_4) ((g_impl_LetterAt y_8.1).bind λ y_9=>(app out_4 [y_9]).bind λ v_10=>g_impl_UnpackOne_l0 f_1 k v_10 (IntKind.wrap .i64 (left_5-y_8.2)))) (some out_4)
def g_impl_UnpackOne (f_1:Int):Option Bs:=cond (decide (f_1 ≥ 268435456)) (some []) ((g_impl_UnpackOne_l0 f_1 bigK ([]:List Int) 28).bind λ out_6=>some (strOf out_6))
def g_slices_Equal_uint32_l0 (s1_1:List Int) (s2_2:List Int) (v_5:Int):Nat->Int->Option (Unit ⊕ Bool)
 | 0,_=>none
 | k+1,v_6=>cond (decide (v_6 < v_5)) ((getI s1_1 v_6).bind λ v_8=>(getI s2_2 v_6).bind λ v_9=>cond (v_8 != v_9) (some (.inr false)) (g_slices_Equal_uint32_l0 s1_1 s2_2 v_5 k (IntKind.wrap .i64 (v_6+1)))) (some (.inl ()))
def g_slices_Equal_uint32 (s1_1:List Int) (s2_2:List Int):Option Bool:=cond ((s1_1.length:Int) != (s2_2.length:Int)) (some false) (((g_slices_Equal_uint32_l0 s1_1 s2_2 (s1_1.length:Int) bigK 0).bind λ o=>match o with | .inl ()=>some (.inl ()) | .inr v_7=>some (.inr v_7):Option (Unit ⊕ Bool)).bind λ o=>match o with | .inl ()=>some true | .inr v_4=>some v_4)
def g_impl_Unpack_l0 (v_7:List Int) (v_8:Int):Nat->Bs->Int->Option Bs
 | 0,_,_=>none
 | k+1,name_9,v_10=>cond (decide (v_10 < v_8)) ((getI v_7 v_10).bind λ v_12=>(g_impl_UnpackOne v_12).bind λ y_13=>(catS name_9 y_13).bind λ v_14=>g_impl_Unpack_l0 v_7 v_8 k v_14 (IntKind.wrap .i64 (v_10+1))) (some name_9)
def g_impl_Unpack (list_1:List Int):Option (Bs×Bool):=cond (decide ((list_1.length:Int) > 24)) (some ([],false)) (((g_impl_Unpack_l0 list_1 (list_1.length:Int) bigK [] 0).bind λ name_11=>some name_11:Option (Bs)).bind λ name_4=>((g_impl_NameOk name_4).bind λ y_16=>cond (!y_16) (some true) ((g_impl_Pack name_4).bind λ y_17=>(g_slices_Equal_uint32 y_17 list_1).bind λ y_18=>some (!y_18)):Option (Bool)).bind λ v_15=>cond v_15 (some ([],false)) (some (name_4,true)))
def g_impl_nameKind_l0 (tag_1:Int):Nat->Int->Option (Unit ⊕ Int)
 | 0,_=>none
 | k+1,kind_4=>cond (decide (kind_4<=6)) ((g_impl_nameTag kind_4).bind λ y_6=>cond (y_6==tag_1) (some (.inr kind_4)) (g_impl_nameKind_l0 tag_1 k (IntKind.wrap .i64 (kind_4+1)))) (some (.inl ()))
def g_impl_nameKind (tag_1:Int):Option Int:=((g_impl_nameKind_l0 tag_1 bigK 1).bind λ o=>match o with | .inl ()=>some (.inl ()) | .inr v_5=>some (.inr v_5):Option (Unit ⊕ Int)).bind λ o=>match o with | .inl ()=>some 0 | .inr v_3=>some v_3
def g_impl_FieldOk (f_1:Int):Option Bool:=(g_impl_UnpackOne f_1).bind λ y_3=>(g_impl_Pack y_3).bind λ y_4=>(g_slices_Equal_uint32 y_4 [f_1]).bind λ y_5=>some y_5
def g_impl_parseOne_l0 (v_8:List Int) (v_10:Int):Nat->(List Int)->Int->Option (List Int)
 | 0,_,_=>none
 | k+1,fields_13,v_14=>cond (decide (v_14 < v_10)) ((getI v_8 v_14).bind λ v_16=>(cond (v_16==0) (some true) (some ((andI .u32 v_16 15) != 0)):Option (Bool)).bind λ v_17=>cond v_17 (some fields_13) ((app fields_13 [v_16 / 16]).bind λ v_18=>g_impl_parseOne_l0 v_8 v_10 k v_18 (IntKind.wrap .i64 (v_14+1)))) (some fields_13)
def g_impl_parseOne (cells_1:List Int):Option GItem:=(getI cells_1 0).bind λ v_3=>(getI cells_1 0).bind λ v_4=>((cond ((andI .u32 v_4 15)==1) (some ((andI .u32 v_4 15)==1)) (cond ((andI .u32 v_4 15)==3) (some ((andI .u32 v_4 15)==3)) (cond ((andI .u32 v_4 15)==4) (some ((andI .u32 v_4 15)==4)) (cond ((andI .u32 v_4 15)==9) (some ((andI .u32 v_4 15)==9)) (cond ((andI .u32 v_4 15)==10) (some ((andI .u32 v_4 15)==10)) (some ((andI .u32 v_4 15)==11)))))):Option (Bool)).bind λ v_6=>cond v_6 (((subL cells_1 1 (cells_1.length:Int)).bind λ v_8=>(g_impl_parseOne_l0 v_8 (v_8.length:Int) bigK [v_3 / 16] 0).bind λ fields_15=>some fields_15:Option ((List Int))).bind λ fields_7=>(g_impl_Unpack fields_7).bind λ y_19=>cond y_19.2 ((g_impl_nameKind (andI .u32 v_4 15)).bind λ y_20=>some (⟨y_20,y_19.1,0,false,0⟩:GItem)) (some (⟨0,[],0,false,v_3⟩:GItem))) (cond ((andI .u32 v_4 15)==8) (some (⟨7,[],(IntKind.wrap .i32 v_3) / 32,((andI .u32 v_3 16) != 0),0⟩:GItem)) (cond ((andI .u32 v_4 15)==6) (some (⟨8,[],(IntKind.wrap .i32 v_3) / 32,((andI .u32 v_3 16) != 0),0⟩:GItem)) ((cond ((andI .u32 v_4 15)==2) (some ((andI .u32 v_4 15)==2)) (some ((andI .u32 v_4 15)==5)):Option (Bool)).bind λ v_21=>cond v_21 (cond (decide ((cells_1.length:Int) < 2)) (some (⟨0,[],0,false,v_3⟩:GItem)) ((getI cells_1 1).bind λ v_22=>(cond ((andI .u32 v_4 15)==5) (some (⟨8,[],IntKind.wrap .i32 v_22,((andI .u32 v_3 16) != 0),0⟩:GItem)) (some (⟨7,[],IntKind.wrap .i32 v_22,((andI .u32 v_3 16) != 0),0⟩:GItem)):Option (GItem)).bind λ x_23=>(g_impl_CellsOf x_23).bind λ y_24=>(subL cells_1 0 2).bind λ v_25=>(g_slices_Equal_uint32 y_24 v_25).bind λ y_26=>cond y_26 (some x_23) (some (⟨0,[],0,false,v_3⟩:GItem)))) (cond ((andI .u32 v_4 15)==12) ((cond (decide ((cells_1.length:Int) > 1)) ((g_impl_FieldOk (v_3 / 16)).bind λ y_28=>some y_28) (some false):Option (Bool)).bind λ v_27=>cond v_27 ((g_impl_UnpackOne (v_3 / 16)).bind λ y_29=>(getI cells_1 1).bind λ v_30=>some (⟨9,y_29,IntKind.wrap .i32 v_30,false,0⟩:GItem)) (some (⟨0,[],0,false,v_3⟩:GItem))) (some (⟨0,[],0,false,v_3⟩:GItem)))))):Option (GItem)).bind λ x_5=>some x_5
def g_impl_ParseCells_l0:Nat->(List Int)->(List GItem)->Option (List GItem)
 | 0,_,_=>none
 | k+1,cells_3,out_4=>cond (decide ((cells_3.length:Int) > 0)) ((g_impl_parseOne cells_3).bind λ y_6=>(app out_4 [y_6]).bind λ v_7=>(g_impl_CellsOf y_6).bind λ y_8=>(subL cells_3 (y_8.length:Int) (cells_3.length:Int)).bind λ v_9=>g_impl_ParseCells_l0 k v_9 v_7) (some out_4)
def g_impl_ParseCells_l1:Nat->(List GItem)->Int->Option (List GItem)
 | 0,_,_=>none
 | k+1,out_11,n_12=>(cond (decide (n_12 ≥ 0)) ((getI out_11 n_12).bind λ v_15=>some ((v_15.Kind:Int)==0&&((v_15.Name:Bs)==[]&&((v_15.N:Int)==0&&((v_15.Hex:Bool)==false&&((v_15.Raw:Int)==0&&true)))))) (some false):Option (Bool)).bind λ v_14=>cond v_14 ((subL out_11 0 n_12).bind λ v_16=>g_impl_ParseCells_l1 k v_16 (IntKind.wrap .i64 (n_12-1))) (some out_11)
def g_impl_ParseCells (cells_1:List Int):Option (List GItem):=cond (decide ((cells_1.length:Int) > 64)) (some []) ((g_impl_ParseCells_l0 bigK cells_1 ([]:List GItem)).bind λ out_5=>((g_impl_ParseCells_l1 bigK out_5 (IntKind.wrap .i64 ((out_5.length:Int)-1))).bind λ out_13=>some out_13:Option ((List GItem))).bind λ out_10=>some out_10)
def g_slices_Equal_Item_l0 (s1_1:List GItem) (s2_2:List GItem) (v_5:Int):Nat->Int->Option (Unit ⊕ Bool)
 | 0,_=>none
 | k+1,v_6=>cond (decide (v_6 < v_5)) ((getI s1_1 v_6).bind λ v_8=>(getI s2_2 v_6).bind λ v_9=>cond (!((v_8.Kind:Int)==v_9.Kind&&((v_8.Name:Bs)==v_9.Name&&((v_8.N:Int)==v_9.N&&((v_8.Hex:Bool)==v_9.Hex&&((v_8.Raw:Int)==v_9.Raw&&true)))))) (some (.inr false)) (g_slices_Equal_Item_l0 s1_1 s2_2 v_5 k (IntKind.wrap .i64 (v_6+1)))) (some (.inl ()))
def g_slices_Equal_Item (s1_1:List GItem) (s2_2:List GItem):Option Bool:=cond ((s1_1.length:Int) != (s2_2.length:Int)) (some false) (((g_slices_Equal_Item_l0 s1_1 s2_2 (s1_1.length:Int) bigK 0).bind λ o=>match o with | .inl ()=>some (.inl ()) | .inr v_7=>some (.inr v_7):Option (Unit ⊕ Bool)).bind λ o=>match o with | .inl ()=>some true | .inr v_4=>some v_4)
def g_impl_ListOk (list_1:List GItem):Option Bool:=(g_impl_Unparse list_1).bind λ y_3=>cond y_3.2 ((g_impl_ParseCells y_3.1).bind λ y_4=>(g_slices_Equal_Item y_4 list_1).bind λ y_5=>some y_5) (some false)
def g_impl_EdOk (e_1:GEd):Option Bool:=cond (decide ((e_1.Cut.length:Int)<=20)) ((g_slices_ContainsFunc_Item_impl_EdOkc1 e_1.Cut).bind λ y_3=>cond (!y_3) ((g_impl_edItems e_1).bind λ y_4=>(g_impl_ListOk y_4).bind λ y_5=>some y_5) (some false)) (some false)
def g_slices_Clone_Item (s_1:List GItem):Option (List GItem):=app ([]:List GItem) s_1
def g_impl_ownEd (e_1:GEd):Option GEd:=(g_slices_Clone_Item e_1.Left).bind λ y_3=>(g_slices_Clone_Item e_1.Right).bind λ y_4=>(g_slices_Clone_Item e_1.Cut).bind λ y_5=>some (⟨y_3,y_4,y_5⟩:GEd)
def g_slices_Insert_Item (s_1:List GItem) (i_2:Int) (v_3:List GItem):Option (List GItem):=gIns s_1 i_2 v_3
def g_impl_Recolor (it_1:GItem) (kind_2:Int):Option (GItem×Bool):=((g_impl_nameTag it_1.Kind).bind λ y_6=>cond (decide (y_6 > 0)) ((g_impl_nameTag kind_2).bind λ y_7=>some (decide (y_7 > 0))) (some false):Option (Bool)).bind λ names_5=>(cond (it_1.Kind==7) (cond (kind_2==7) (some true) (some (kind_2==8))) (cond (it_1.Kind==8) (cond (kind_2==7) (some true) (some (kind_2==8))) (some false)):Option (Bool)).bind λ numbers_8=>((g_impl_ItemOk it_1).bind λ y_10=>cond (!y_10) (some true) (cond (!names_5) (cond (!numbers_8) (some (kind_2 != it_1.Kind)) (some false)) (some false)):Option (Bool)).bind λ v_9=>cond v_9 (some ((⟨0,[],0,false,0⟩:GItem),false)) (some ((⟨kind_2,it_1.Name,it_1.N,it_1.Hex,it_1.Raw⟩:GItem),true))
def g_impl_pressed (e_1:GEd) (k_2:GKey):Option (GEd×Bool):=(g_impl_ownEd e_1).bind λ y_5=>(cond (k_2.Op==0) (cond ((e_1.Left.length:Int)==0) (some (.inr (false,e_1,y_5))) ((getI y_5.Left (IntKind.wrap .i64 ((e_1.Left.length:Int)-1))).bind λ v_11=>(g_slices_Insert_Item y_5.Right 0 [v_11]).bind λ y_12=>(subL y_5.Left 0 (IntKind.wrap .i64 ((e_1.Left.length:Int)-1))).bind λ v_13=>some (.inl ((⟨[],[],[]⟩:GEd),(⟨v_13,y_12,y_5.Cut⟩:GEd))))) (cond (k_2.Op==1) (cond ((e_1.Right.length:Int)==0) (some (.inr (false,e_1,y_5))) ((getI y_5.Right 0).bind λ v_14=>(app y_5.Left [v_14]).bind λ v_15=>(subL y_5.Right 1 ((y_5.Right.length:Nat):Int)).bind λ v_16=>some (.inl ((⟨[],[],[]⟩:GEd),(⟨v_15,v_16,y_5.Cut⟩:GEd))))) (cond (k_2.Op==2) ((g_impl_edItems e_1).bind λ y_17=>some (.inl ((⟨[],[],[]⟩:GEd),(⟨[],y_17,y_5.Cut⟩:GEd)))) (cond (k_2.Op==3) ((g_impl_edItems e_1).bind λ y_18=>some (.inl ((⟨[],[],[]⟩:GEd),(⟨y_18,[],y_5.Cut⟩:GEd)))) (cond (k_2.Op==4) ((app y_5.Left [k_2.Item]).bind λ v_19=>some (.inl ((⟨[],[],[]⟩:GEd),(⟨v_19,y_5.Right,y_5.Cut⟩:GEd)))) (cond (k_2.Op==5) (cond ((e_1.Left.length:Int)==0) (some (.inr (false,e_1,y_5))) ((getI y_5.Left (IntKind.wrap .i64 ((e_1.Left.length:Int)-1))).bind λ v_20=>(app y_5.Cut [v_20]).bind λ v_21=>(subL y_5.Left 0 (IntKind.wrap .i64 ((e_1.Left.length:Int)-1))).bind λ v_22=>some (.inl ((⟨[],[],[]⟩:GEd),(⟨v_22,y_5.Right,v_21⟩:GEd))))) (cond (k_2.Op==6) (cond (decide ((IntKind.wrap .i64 ((y_5.Cut.length:Int)-1)) < 0)) (some (.inr (false,e_1,y_5))) ((getI y_5.Cut (IntKind.wrap .i64 ((y_5.Cut.length:Int)-1))).bind λ v_23=>(app y_5.Left [v_23]).bind λ v_24=>(subL y_5.Cut 0 (IntKind.wrap .i64 ((y_5.Cut.length:Int)-1))).bind λ v_25=>some (.inl ((⟨[],[],[]⟩:GEd),(⟨v_24,y_5.Right,v_25⟩:GEd))))) (cond (k_2.Op==7) (cond ((e_1.Left.length:Int)==0) (some (.inr (false,e_1,y_5))) ((getI y_5.Left (IntKind.wrap .i64 ((e_1.Left.length:Int)-1))).bind λ v_26=>(g_impl_Recolor v_26 k_2.Item.Kind).bind λ y_27=>cond (!y_27.2) (some (.inr (false,e_1,y_5))) ((getI y_5.Left (IntKind.wrap .i64 ((e_1.Left.length:Int)-1))).bind λ v_28=>some (.inl ((⟨[],[],[]⟩:GEd),(⟨y_5.Left.set (IntKind.wrap .i64 ((e_1.Left.length:Int)-1)).toNat y_27.1,y_5.Right,y_5.Cut⟩:GEd)))))) (some (.inr (false,e_1,y_5)))))))))):Option ((GEd×GEd) ⊕ (Bool×GEd×GEd))).bind λ o=>match o with | .inl (x_6,x_7)=>(g_impl_EdOk x_7).bind λ y_29=>some (x_7,y_29) | .inr (v_8,x_9,x_10)=>some (x_9,v_8)
def g_impl_PressAll_l0 (v_10:List GKey) (v_11:Int):Nat->Int->Int->GEd->Option (Int×GEd)
 | 0,_,_,_=>none
 | k+1,refused_12,v_13,x_14=>cond (decide (v_13 < v_11)) (((getI v_10 v_13).bind λ v_19=>(g_impl_pressed x_14 v_19).bind λ y_20=>cond (!y_20.2) (some (IntKind.wrap .i64 (refused_12+1),x_14)) (some (refused_12,y_20.1)):Option ((Int×GEd))).bind λ (refused_17,x_18)=>g_impl_PressAll_l0 v_10 v_11 k refused_17 (IntKind.wrap .i64 (v_13+1)) x_18) (some (refused_12,x_14))
def g_impl_PressAll (e_1:GEd) (keys_2:List GKey):Option (GEd×Int):=(g_impl_EdOk e_1).bind λ y_5=>cond (!y_5) (some ((⟨[],[],[]⟩:GEd),(keys_2.length:Int))) ((g_impl_ownEd e_1).bind λ y_6=>((g_impl_PressAll_l0 keys_2 (keys_2.length:Int) bigK 0 0 y_6).bind λ (refused_15,x_16)=>some (refused_15,x_16):Option ((Int×GEd))).bind λ (refused_7,x_8)=>(g_impl_ownEd x_8).bind λ y_21=>some (y_21,refused_7))
def g_spec_ItemOk (it_1:GItem):Option Bool:=(g_spec_CellsOf it_1).bind λ y_3=>some (decide ((y_3.length:Int) > 0))
def g_spec_l07All (e_1:GEd):Option (List GItem):=(cond (decide ((e_1.Left.length:Int) > 64)) (some true) (some (decide ((e_1.Right.length:Int) > 64))):Option (Bool)).bind λ v_3=>cond v_3 ((mk ((⟨0,[],0,false,0⟩:GItem):GItem) 65).bind λ v_4=>some v_4) ((app ([]:List GItem) e_1.Left).bind λ v_5=>(app v_5 e_1.Right).bind λ v_6=>some v_6)
def g_spec_Unparse_l0 (list_1:List GItem):Nat->(List Int)->Int->Option ((List Int) ⊕ ((List Int)×Bool))
 | 0,_,_=>none
 | k+1,out_7,i_8=>cond (decide (i_8 < (list_1.length:Int))) ((getI list_1 i_8).bind λ v_12=>(g_spec_CellsOf v_12).bind λ y_13=>(cond ((y_13.length:Int)==0) (some true) (some (decide ((IntKind.wrap .i64 ((out_7.length:Int)+(y_13.length:Int))) > 64))):Option (Bool)).bind λ v_14=>cond v_14 (some (.inr (([]:List Int),false))) ((app out_7 y_13).bind λ v_15=>g_spec_Unparse_l0 list_1 k v_15 (IntKind.wrap .i64 (i_8+1)))) (some (.inl out_7))
def g_spec_Unparse (list_1:List GItem):Option ((List Int)×Bool):=((g_spec_Unparse_l0 list_1 bigK ([]:List Int) 0).bind λ o=>match o with | .inl out_9=>some (.inl out_9) | .inr (v_10,v_11)=>some (.inr (v_10,v_11)):Option ((List Int) ⊕ ((List Int)×Bool))).bind λ o=>match o with | .inl out_4=>some (out_4,true) | .inr (v_5,v_6)=>some (v_5,v_6)
def g_spec_l04Same_l0 (a_1:List GItem) (b_2:List GItem):Nat->Int->Option (Unit ⊕ Bool)
 | 0,_=>none
 | k+1,i_5=>cond (decide (i_5 < (a_1.length:Int))) ((getI a_1 i_5).bind λ v_7=>(getI b_2 i_5).bind λ v_8=>cond (!((v_7.Kind:Int)==v_8.Kind&&((v_7.Name:Bs)==v_8.Name&&((v_7.N:Int)==v_8.N&&((v_7.Hex:Bool)==v_8.Hex&&((v_7.Raw:Int)==v_8.Raw&&true)))))) (some (.inr false)) (g_spec_l04Same_l0 a_1 b_2 k (IntKind.wrap .i64 (i_5+1)))) (some (.inl ()))
def g_spec_l04Same (a_1:List GItem) (b_2:List GItem):Option Bool:=cond ((a_1.length:Int) != (b_2.length:Int)) (some false) (((g_spec_l04Same_l0 a_1 b_2 bigK 0).bind λ o=>match o with | .inl ()=>some (.inl ()) | .inr v_6=>some (.inr v_6):Option (Unit ⊕ Bool)).bind λ o=>match o with | .inl ()=>some true | .inr v_4=>some v_4)
def g_spec_ListOk (list_1:List GItem):Option Bool:=(g_spec_Unparse list_1).bind λ y_3=>cond y_3.2 ((g_spec_ParseCells y_3.1).bind λ y_4=>(g_spec_l04Same y_4 list_1).bind λ y_5=>some y_5) (some false)
def g_spec_EdOk_l0 (e_1:GEd):Nat->Int->Option (Unit ⊕ Bool)
 | 0,_=>none
 | k+1,i_4=>cond (decide (i_4 < (e_1.Cut.length:Int))) ((getI e_1.Cut i_4).bind λ v_6=>(g_spec_ItemOk v_6).bind λ y_7=>cond (!y_7) (some (.inr false)) (g_spec_EdOk_l0 e_1 k (IntKind.wrap .i64 (i_4+1)))) (some (.inl ()))
def g_spec_EdOk (e_1:GEd):Option Bool:=cond (decide ((e_1.Cut.length:Int) > 20)) (some false) (((g_spec_EdOk_l0 e_1 bigK 0).bind λ o=>match o with | .inl ()=>some (.inl ()) | .inr v_5=>some (.inr v_5):Option (Unit ⊕ Bool)).bind λ o=>match o with | .inl ()=>(g_spec_l07All e_1).bind λ y_8=>(g_spec_ListOk y_8).bind λ y_9=>some y_9 | .inr v_3=>some v_3)
def g_spec_l07Copy (e_1:GEd):Option GEd:=(app ([]:List GItem) e_1.Left).bind λ v_3=>(app ([]:List GItem) e_1.Right).bind λ v_4=>(app ([]:List GItem) e_1.Cut).bind λ v_5=>some (⟨v_3,v_4,v_5⟩:GEd)
def g_spec_l07Move (e_1:GEd) (op_2:Int):Option (GEd×Bool):=(g_spec_l07All e_1).bind λ y_5=>(cond (op_2==0) (some (IntKind.wrap .i64 ((e_1.Left.length:Int)-1))) (cond (op_2==1) (some (IntKind.wrap .i64 ((e_1.Left.length:Int)+1))) (cond (op_2==2) (some 0) (some (y_5.length:Int)))):Option (Int)).bind λ vat_6=>(g_spec_l01In vat_6 0 (y_5.length:Int)).bind λ y_7=>cond (!y_7) (some (e_1,false)) ((subL y_5 0 vat_6).bind λ v_8=>(app ([]:List GItem) v_8).bind λ v_9=>(subL y_5 vat_6 ((y_5.length:Nat):Int)).bind λ v_10=>(app ([]:List GItem) v_10).bind λ v_11=>some ((⟨v_9,v_11,e_1.Cut⟩:GEd),true))
def g_spec_Recolor (it_1:GItem) (kind_2:Int):Option (GItem×Bool):=((g_spec_l01In it_1.Kind 1 6).bind λ y_6=>cond y_6 ((g_spec_l01In kind_2 1 6).bind λ y_7=>some y_7) (some false):Option (Bool)).bind λ words_5=>((g_spec_l01In it_1.Kind 7 8).bind λ y_9=>cond y_9 ((g_spec_l01In kind_2 7 8).bind λ y_10=>some y_10) (some false):Option (Bool)).bind λ nums_8=>((g_spec_ItemOk it_1).bind λ y_12=>cond (!y_12) (some true) (cond (!words_5) (cond (!nums_8) (some (it_1.Kind != kind_2)) (some false)) (some false)):Option (Bool)).bind λ v_11=>cond v_11 (some ((⟨0,[],0,false,0⟩:GItem),false)) (some ((⟨kind_2,it_1.Name,it_1.N,it_1.Hex,it_1.Raw⟩:GItem),true))
def g_spec_l07Change (e_1:GEd) (k_2:GKey):Option (GEd×Bool):=(cond (k_2.Op==4) ((app e_1.Left [k_2.Item]).bind λ v_11=>some (.inl ((⟨v_11,e_1.Right,e_1.Cut⟩:GEd),(⟨[],[],[]⟩:GEd)))) ((cond (k_2.Op==5) (some (decide ((e_1.Left.length:Int) > 0))) (some false):Option (Bool)).bind λ v_12=>cond v_12 ((getI e_1.Left (IntKind.wrap .i64 ((e_1.Left.length:Int)-1))).bind λ v_13=>(app e_1.Cut [v_13]).bind λ v_14=>(subL e_1.Left 0 (IntKind.wrap .i64 ((e_1.Left.length:Int)-1))).bind λ v_15=>some (.inl ((⟨v_15,e_1.Right,v_14⟩:GEd),(⟨[],[],[]⟩:GEd)))) ((cond (k_2.Op==6) (some (decide ((e_1.Cut.length:Int) > 0))) (some false):Option (Bool)).bind λ v_16=>cond v_16 ((getI e_1.Cut (IntKind.wrap .i64 ((e_1.Cut.length:Int)-1))).bind λ v_17=>(app e_1.Left [v_17]).bind λ v_18=>(subL e_1.Cut 0 (IntKind.wrap .i64 ((e_1.Cut.length:Int)-1))).bind λ v_19=>some (.inl ((⟨v_18,e_1.Right,v_19⟩:GEd),(⟨[],[],[]⟩:GEd)))) ((cond (k_2.Op==7) (some (decide ((e_1.Left.length:Int) > 0))) (some false):Option (Bool)).bind λ v_20=>cond v_20 ((getI e_1.Left (IntKind.wrap .i64 ((e_1.Left.length:Int)-1))).bind λ v_21=>(g_spec_Recolor v_21 k_2.Item.Kind).bind λ y_22=>(getI e_1.Left (IntKind.wrap .i64 ((e_1.Left.length:Int)-1))).bind λ v_23=>some (.inr (y_22.2,(⟨e_1.Left.set (IntKind.wrap .i64 ((e_1.Left.length:Int)-1)).toNat y_22.1,e_1.Right,e_1.Cut⟩:GEd),(⟨e_1.Left.set (IntKind.wrap .i64 ((e_1.Left.length:Int)-1)).toNat y_22.1,e_1.Right,e_1.Cut⟩:GEd)))) (some (.inr (false,e_1,e_1)))))):Option ((GEd×GEd) ⊕ (Bool×GEd×GEd))).bind λ o=>match o with | .inl (x_6,x_7)=>some (x_6,true) | .inr (v_8,x_9,x_10)=>some (x_9,v_8)
def g_spec_Press (e_1:GEd) (k_2:GKey):Option (GEd×Bool):=(g_spec_EdOk e_1).bind λ y_5=>cond (!y_5) (some ((⟨[],[],[]⟩:GEd),false)) ((g_spec_l07Copy e_1).bind λ y_6=>((g_spec_l01In k_2.Op 0 3).bind λ y_9=>cond y_9 ((g_spec_l07Move y_6 k_2.Op).bind λ y_10=>some (y_10.2,y_10.1)) ((g_spec_l07Change y_6 k_2).bind λ y_11=>some (y_11.2,y_11.1)):Option ((Bool×GEd))).bind λ (ok_7,x_8)=>(cond (!ok_7) (some true) ((g_spec_EdOk x_8).bind λ y_13=>some (!y_13)):Option (Bool)).bind λ v_12=>cond v_12 ((g_spec_l07Copy e_1).bind λ y_14=>some (y_14,false)) (some (x_8,true)))
def g_spec_PressAll_l0 (keys_2:List GKey):Nat->Int->Int->GEd->Option (Int×GEd)
 | 0,_,_,_=>none
 | k+1,n_9,i_10,x_11=>cond (decide (i_10 < (keys_2.length:Int))) (((getI keys_2 i_10).bind λ v_16=>(g_spec_Press x_11 v_16).bind λ y_17=>(cond (!y_17.2) (some (IntKind.wrap .i64 (n_9+1))) (some n_9):Option (Int)).bind λ n_18=>some (n_18,y_17.1):Option ((Int×GEd))).bind λ (n_14,x_15)=>g_spec_PressAll_l0 keys_2 k n_14 (IntKind.wrap .i64 (i_10+1)) x_15) (some (n_9,x_11))
def g_spec_PressAll (e_1:GEd) (keys_2:List GKey):Option (GEd×Int):=(g_spec_EdOk e_1).bind λ y_5=>cond (!y_5) (some ((⟨[],[],[]⟩:GEd),(keys_2.length:Int))) (((g_spec_PressAll_l0 keys_2 bigK 0 0 e_1).bind λ (n_12,x_13)=>some (n_12,x_13):Option ((Int×GEd))).bind λ (n_6,x_7)=>(g_spec_l07Copy x_7).bind λ y_19=>some (y_19,n_6))
def g_impl_Press (e_1:GEd) (k_2:GKey):Option (GEd×Bool):=(g_impl_EdOk e_1).bind λ y_5=>cond (!y_5) (some ((⟨[],[],[]⟩:GEd),false)) ((g_impl_pressed e_1 k_2).bind λ y_6=>cond (!y_6.2) ((g_impl_ownEd e_1).bind λ y_7=>some (y_7,false)) ((g_impl_ownEd y_6.1).bind λ y_8=>some (y_8,true)))
def g_laws_sameItems_l0 (a_1:List GItem) (b_2:List GItem):Nat->Int->Option (Unit ⊕ Bool)
 | 0,_=>none
 | k+1,i_5=>cond (decide (i_5 < (a_1.length:Int))) ((getI a_1 i_5).bind λ v_7=>(getI b_2 i_5).bind λ v_8=>cond (!((v_7.Kind:Int)==v_8.Kind&&((v_7.Name:Bs)==v_8.Name&&((v_7.N:Int)==v_8.N&&((v_7.Hex:Bool)==v_8.Hex&&((v_7.Raw:Int)==v_8.Raw&&true)))))) (some (.inr false)) (g_laws_sameItems_l0 a_1 b_2 k (IntKind.wrap .i64 (i_5+1)))) (some (.inl ()))
def g_laws_sameItems (a_1:List GItem) (b_2:List GItem):Option Bool:=cond ((a_1.length:Int) != (b_2.length:Int)) (some false) (((g_laws_sameItems_l0 a_1 b_2 bigK 0).bind λ o=>match o with | .inl ()=>some (.inl ()) | .inr v_6=>some (.inr v_6):Option (Unit ⊕ Bool)).bind λ o=>match o with | .inl ()=>some true | .inr v_4=>some v_4)
def g_laws_sameEd (a_1:GEd) (b_2:GEd):Option Bool:=(g_laws_sameItems a_1.Left b_2.Left).bind λ y_4=>cond y_4 ((g_laws_sameItems a_1.Right b_2.Right).bind λ y_5=>cond y_5 ((g_laws_sameItems a_1.Cut b_2.Cut).bind λ y_6=>some y_6) (some false)) (some false)
def g_laws_FnKeys_l0 (keys_13:List GKey):Nat->Int->Int->GEd->Option (Int×GEd)
 | 0,_,_,_=>none
 | k+1,refused_16,i_17,x_18=>cond (decide (i_17 < (keys_13.length:Int))) (((getI keys_13 i_17).bind λ v_23=>(g_impl_Press x_18 v_23).bind λ y_24=>(cond (!y_24.2) (some (IntKind.wrap .i64 (refused_16+1))) (some refused_16):Option (Int)).bind λ refused_25=>some (refused_25,y_24.1):Option ((Int×GEd))).bind λ (refused_21,x_22)=>g_laws_FnKeys_l0 keys_13 k refused_21 (IntKind.wrap .i64 (i_17+1)) x_22) (some (refused_16,x_18))
def g_laws_FnKeys (code_1:List Int):Option Bool:=(g_laws_big code_1).bind λ y_3=>cond y_3 (some true) ((g_spec_DrawPressAll code_1).bind λ y_4=>(g_impl_PressAll y_4.1 y_4.2).bind λ y_5=>(g_spec_PressAll y_4.1 y_4.2).bind λ y_6=>(cond (y_5.2 != y_6.2) (some true) ((g_impl_EdOk y_5.1).bind λ y_8=>some (!y_8)):Option (Bool)).bind λ v_7=>cond v_7 (some false) ((g_spec_EdOk y_4.1).bind λ y_9=>cond (!y_9) (some (y_5.2==(y_4.2.length:Int))) (((g_laws_FnKeys_l0 y_4.2 bigK 0 0 y_4.1).bind λ (refused_19,x_20)=>some (refused_19,x_20):Option ((Int×GEd))).bind λ (refused_10,x_11)=>cond (refused_10==y_5.2) ((g_laws_sameEd x_11 y_5.1).bind λ y_26=>some y_26) (some false))))
def bodyOf (f:Func):Code:=match f.body with|some c=>c|none=>.skip
end Go.Proofs.Ytjdhhpolllkbbaa
namespace Go.Proofs.Ytjdhhpolllkbbaa
open Go Go.Fm
set_option maxRecDepth 1000000
noncomputable def e_laws_big:Con:=⟨6,⟨[(0, .s K1 [])],[]⟩,⟨[(0, .s K2 [])],[]⟩,false,[],λ code_1=>g_laws_big code_1⟩
noncomputable def e_spec_l01New:Con:=⟨19,⟨[(0, .s K1 [])],[]⟩,⟨[(0, .c (.one (.ptr 0 0)))],[.v K4 []]⟩,true,[],λ code_1=>g_spec_l01New code_1⟩
noncomputable def e_spec_l01Byte:Con:=⟨54,⟨[(0, .c (.one (.ptr 0 0)))],[.v K4 []]⟩,⟨[(0, .s K3 [])],[.v K4 []]⟩,true,[],λ c_1=>g_spec_l01Byte c_1⟩
noncomputable def e_spec_l01Below:Con:=⟨37,⟨[(0, .c (.one (.ptr 0 0))),(1, .s K3 [])],[.v K4 []]⟩,⟨[(0, .s K3 [])],[.v K4 []]⟩,true,[],λ (n_1,c_2)=>g_spec_l01Below n_1 c_2⟩
noncomputable def e_spec_l01Once:Con:=⟨40,⟨[(0, .c (.one (.ptr 0 0))),(1, .s K3 [])],[.v K4 []]⟩,⟨[(0, .s K2 [])],[.v K4 []]⟩,true,[],λ (n_1,c_2)=>g_spec_l01Once n_1 c_2⟩
noncomputable def e_spec_l01PickInt:Con:=⟨70,⟨[(0, .c (.one (.ptr 0 0))),(1, .s K7 [])],[.v K4 []]⟩,⟨[(0, .s K3 [])],[.v K4 []]⟩,true,[],λ (list_1,c_2)=>g_spec_l01PickInt list_1 c_2⟩
noncomputable def e_spec_l04Int:Con:=⟨71,⟨[(0, .c (.one (.ptr 0 0)))],[.v K4 []]⟩,⟨[(0, .s K8 [])],[.v K4 []]⟩,true,[],λ c_1=>g_spec_l04Int c_1⟩
noncomputable def e_spec_l01Pick:Con:=⟨58,⟨[(0, .c (.one (.ptr 0 0))),(1, .s K10 [])],[.v K4 []]⟩,⟨[(0, .s K9 [])],[.v K4 []]⟩,true,[],λ (list_1,c_2)=>g_spec_l01Pick list_1 c_2⟩
noncomputable def e_spec_l01In:Con:=⟨33,⟨[(0, .s K3 []),(1, .s K3 []),(2, .s K3 [])],[]⟩,⟨[(0, .s K2 [])],[]⟩,false,[],λ (x_1,a_2,b_3)=>g_spec_l01In x_1 a_2 b_3⟩
noncomputable def e_spec_l02All:Con:=⟨99,⟨[],[]⟩,⟨[(0, .s K9 [])],[]⟩,false,[],λ _=>g_spec_l02All⟩
noncomputable def e_spec_LetterAt:Con:=⟨87,⟨[(0, .s K3 [])],[]⟩,⟨[(0, .s K0 [])],[]⟩,false,[],λ k_1=>g_spec_LetterAt k_1⟩
noncomputable def e_spec_l02Name:Con:=⟨72,⟨[(0, .c (.one (.ptr 0 0)))],[.v K4 []]⟩,⟨[(0, .s K9 [])],[.v K4 []]⟩,true,[],λ c_1=>g_spec_l02Name c_1⟩
noncomputable def e_spec_l04Some:Con:=⟨56,⟨[(0, .c (.one (.ptr 0 0)))],[.v K4 []]⟩,⟨[(0, .s K11 [])],[.v K4 []]⟩,true,[],λ c_1=>g_spec_l04Some c_1⟩
noncomputable def e_spec_l04Num:Con:=⟨59,⟨[(0, .s K8 []),(1, .s K2 []),(2, .s K5 []),(3, .s K5 [])],[]⟩,⟨[(0, .s K6 [(0,0)])],[.o]⟩,false,[],λ (n_1,hex_2,short_3,long_4)=>g_spec_l04Num n_1 hex_2 short_3 long_4⟩
noncomputable def e_spec_LetterOf:Con:=⟨100,⟨[(0, .s K0 [])],[]⟩,⟨[(0, .s K3 [])],[]⟩,false,[],λ b_1=>g_spec_LetterOf b_1⟩
noncomputable def e_spec_NameOk:Con:=⟨88,⟨[(0, .s K9 [])],[]⟩,⟨[(0, .s K2 [])],[]⟩,false,[],λ s_1=>g_spec_NameOk s_1⟩
noncomputable def e_spec_WidthOf:Con:=⟨101,⟨[(0, .s K3 [])],[]⟩,⟨[(0, .s K3 [])],[]⟩,false,[],λ k_1=>g_spec_WidthOf k_1⟩
noncomputable def e_spec_BitsOf:Con:=⟨102,⟨[(0, .s K3 [])],[]⟩,⟨[(0, .s K5 [])],[]⟩,false,[],λ k_1=>g_spec_BitsOf k_1⟩
noncomputable def e_spec_l03One:Con:=⟨89,⟨[(0, .s K9 [])],[]⟩,⟨[(0, .s K5 []),(1, .s K3 [])],[]⟩,false,[],λ s_1=>g_spec_l03One s_1⟩
noncomputable def e_spec_Pack:Con:=⟨73,⟨[(0, .s K9 [])],[]⟩,⟨[(0, .s K6 [(0,0)])],[.o]⟩,false,[],λ s_1=>g_spec_Pack s_1⟩
noncomputable def e_spec_l04Word:Con:=⟨60,⟨[(0, .s K5 []),(1, .s K9 [])],[]⟩,⟨[(0, .s K6 [(0,0)])],[.o]⟩,false,[],λ (tag_1,name_2)=>g_spec_l04Word tag_1 name_2⟩
noncomputable def e_spec_l04Tag:Con:=⟨61,⟨[(0, .s K3 [])],[]⟩,⟨[(0, .s K5 [])],[]⟩,false,[],λ kind_1=>g_spec_l04Tag kind_1⟩
noncomputable def e_spec_CellsOf:Con:=⟨41,⟨[(0, .s K11 [])],[]⟩,⟨[(0, .s K6 [(0,0)])],[.o]⟩,false,[],λ it_1=>g_spec_CellsOf it_1⟩
noncomputable def e_spec_l01Word:Con:=⟨57,⟨[(0, .c (.one (.ptr 0 0)))],[.v K4 []]⟩,⟨[(0, .s K5 [])],[.v K4 []]⟩,true,[],λ c_1=>g_spec_l01Word c_1⟩
noncomputable def e_spec_l04Cells:Con:=⟨55,⟨[(0, .c (.one (.ptr 0 0)))],[.v K4 []]⟩,⟨[(0, .s K6 [(0,1)])],[.v K4 [], .o]⟩,true,[],λ c_1=>g_spec_l04Cells c_1⟩
noncomputable def e_spec_l04Kind:Con:=⟨74,⟨[(0, .s K5 [])],[]⟩,⟨[(0, .s K3 [])],[]⟩,false,[],λ tag_1=>g_spec_l04Kind tag_1⟩
noncomputable def e_spec_Decode:Con:=⟨91,⟨[(0, .s K5 []),(1, .s K3 [])],[]⟩,⟨[(0, .s K3 []),(1, .s K3 [])],[]⟩,false,[],λ (bits_1,n_2)=>g_spec_Decode bits_1 n_2⟩
noncomputable def e_spec_UnpackOne:Con:=⟨78,⟨[(0, .s K5 [])],[]⟩,⟨[(0, .s K9 [])],[]⟩,false,[],λ f_1=>g_spec_UnpackOne f_1⟩
noncomputable def e_spec_l03Same:Con:=⟨103,⟨[(0, .s K6 []),(1, .s K6 [])],[]⟩,⟨[(0, .s K2 [])],[]⟩,false,[],λ (a_1,b_2)=>g_spec_l03Same a_1 b_2⟩
noncomputable def e_spec_Unpack:Con:=⟨90,⟨[(0, .s K6 [])],[]⟩,⟨[(0, .s K9 []),(1, .s K2 [])],[]⟩,false,[],λ list_1=>g_spec_Unpack list_1⟩
noncomputable def e_spec_l04Name:Con:=⟨75,⟨[(0, .s K6 []),(1, .s K3 []),(2, .s K3 [])],[]⟩,⟨[(0, .s K11 []),(1, .s K3 [])],[]⟩,false,[],λ (cells_1,i_2,kind_3)=>g_spec_l04Name cells_1 i_2 kind_3⟩
noncomputable def e_spec_l04Number:Con:=⟨76,⟨[(0, .s K6 []),(1, .s K3 [])],[]⟩,⟨[(0, .s K11 []),(1, .s K3 [])],[]⟩,false,[],λ (cells_1,i_2)=>g_spec_l04Number cells_1 i_2⟩
noncomputable def e_spec_FieldOk:Con:=⟨77,⟨[(0, .s K5 [])],[]⟩,⟨[(0, .s K2 [])],[]⟩,false,[],λ f_1=>g_spec_FieldOk f_1⟩
noncomputable def e_spec_l04Item:Con:=⟨62,⟨[(0, .s K6 []),(1, .s K3 [])],[]⟩,⟨[(0, .s K11 []),(1, .s K3 [])],[]⟩,false,[],λ (cells_1,i_2)=>g_spec_l04Item cells_1 i_2⟩
noncomputable def e_spec_ParseCells:Con:=⟨44,⟨[(0, .s K6 [])],[]⟩,⟨[(0, .s K12 [(0,0)])],[.o]⟩,false,[],λ cells_1=>g_spec_ParseCells cells_1⟩
noncomputable def e_spec_l07Make:Con:=⟨38,⟨[(0, .c (.one (.ptr 0 0)))],[.v K4 []]⟩,⟨[(0, .s K13 [(0,1),(1,2),(2,3)])],[.v K4 [], .o, .o, .o]⟩,true,[],λ c_1=>g_spec_l07Make c_1⟩
noncomputable def e_spec_l04Any:Con:=⟨39,⟨[(0, .c (.one (.ptr 0 0)))],[.v K4 []]⟩,⟨[(0, .s K11 [])],[.v K4 []]⟩,true,[],λ c_1=>g_spec_l04Any c_1⟩
noncomputable def e_spec_l07Any:Con:=⟨20,⟨[(0, .c (.one (.ptr 0 0)))],[.v K4 []]⟩,⟨[(0, .s K13 [(0,1),(1,2),(2,3)])],[.v K4 [], .o, .o, .o]⟩,true,[],λ c_1=>g_spec_l07Any c_1⟩
noncomputable def e_spec_l07Key:Con:=⟨21,⟨[(0, .c (.one (.ptr 0 0)))],[.v K4 []]⟩,⟨[(0, .s K14 [])],[.v K4 []]⟩,true,[],λ c_1=>g_spec_l07Key c_1⟩
noncomputable def e_spec_DrawPressAll:Con:=⟨16,⟨[(0, .s K1 [])],[]⟩,⟨[(0, .s K13 [(0,0),(1,1),(2,2)]),(1, .s K15 [(0,3)])],[.o, .o, .o, .o]⟩,false,[],λ code_1=>g_spec_DrawPressAll code_1⟩
noncomputable def e_impl_nameTag:Con:=⟨63,⟨[(0, .s K3 [])],[]⟩,⟨[(0, .s K5 [])],[]⟩,false,[],λ kind_1=>g_impl_nameTag kind_1⟩
noncomputable def e_impl_letters:Con:=⟨105,⟨[],[]⟩,⟨[(0, .s K9 [])],[]⟩,false,[],λ _=>g_impl_letters⟩
noncomputable def e_ibytealg_IndexByteString:Con:=⟨107,⟨[(0, .s K9 []),(1, .s K0 [])],[]⟩,⟨[(0, .s K3 [])],[]⟩,false,[],λ a=>g_ibytealg_IndexByteString a.1 a.2⟩
noncomputable def e_istringslite_IndexByte:Con:=⟨106,⟨[(0, .s K9 []),(1, .s K0 [])],[]⟩,⟨[(0, .s K3 [])],[]⟩,false,[],λ (s_1,c_2)=>g_istringslite_IndexByte s_1 c_2⟩
noncomputable def e_strings_IndexByte:Con:=⟨104,⟨[(0, .s K9 []),(1, .s K0 [])],[]⟩,⟨[(0, .s K3 [])],[]⟩,false,[],λ (s_1,c_2)=>g_strings_IndexByte s_1 c_2⟩
noncomputable def e_impl_LetterOf:Con:=⟨92,⟨[(0, .s K0 [])],[]⟩,⟨[(0, .s K3 [])],[]⟩,false,[],λ b_1=>g_impl_LetterOf b_1⟩
noncomputable def e_impl_within:Con:=⟨93,⟨[(0, .s K3 []),(1, .s K3 []),(2, .s K3 [])],[]⟩,⟨[(0, .s K2 [])],[]⟩,false,[],λ (n_1,low_2,high_3)=>g_impl_within n_1 low_2 high_3⟩
noncomputable def e_impl_NameOk:Con:=⟨79,⟨[(0, .s K9 [])],[]⟩,⟨[(0, .s K2 [])],[]⟩,false,[],λ s_1=>g_impl_NameOk s_1⟩
noncomputable def e_impl_WidthOf:Con:=⟨94,⟨[(0, .s K3 [])],[]⟩,⟨[(0, .s K3 [])],[]⟩,false,[],λ k_1=>g_impl_WidthOf k_1⟩
noncomputable def e_impl_BitsOf:Con:=⟨95,⟨[(0, .s K3 [])],[]⟩,⟨[(0, .s K5 [])],[]⟩,false,[],λ k_1=>g_impl_BitsOf k_1⟩
noncomputable def e_impl_PackOne:Con:=⟨80,⟨[(0, .s K9 [])],[]⟩,⟨[(0, .s K5 []),(1, .s K3 [])],[]⟩,false,[],λ s_1=>g_impl_PackOne s_1⟩
noncomputable def e_impl_Pack:Con:=⟨64,⟨[(0, .s K9 [])],[]⟩,⟨[(0, .s K6 [(0,0)])],[.o]⟩,false,[],λ s_1=>g_impl_Pack s_1⟩
noncomputable def e_impl_numberCells:Con:=⟨65,⟨[(0, .s K8 []),(1, .s K2 []),(2, .s K5 []),(3, .s K5 [])],[]⟩,⟨[(0, .s K6 [(0,0)])],[.o]⟩,false,[],λ (n_1,hex_2,short_3,long_4)=>g_impl_numberCells n_1 hex_2 short_3 long_4⟩
noncomputable def e_impl_CellsOf:Con:=⟨46,⟨[(0, .s K11 [])],[]⟩,⟨[(0, .s K6 [(0,0)])],[.o]⟩,false,[],λ it_1=>g_impl_CellsOf it_1⟩
noncomputable def e_impl_ItemOk:Con:=⟨27,⟨[(0, .s K11 [])],[]⟩,⟨[(0, .s K2 [])],[]⟩,false,[],λ it_1=>g_impl_ItemOk it_1⟩
noncomputable def e_impl_EdOkc1:Con:=⟨26,⟨[(0, .s K11 [])],[]⟩,⟨[(0, .s K2 [])],[]⟩,false,[],λ it_1=>g_impl_EdOkc1 it_1⟩
noncomputable def e_slices_IndexFunc_Item_impl_EdOkc1:Con:=⟨45,⟨[(0, .s K12 []),(1, .c (.one (.fn 26 [])))],[]⟩,⟨[(0, .s K3 [])],[]⟩,false,[],λ s_1=>g_slices_IndexFunc_Item_impl_EdOkc1 s_1⟩
noncomputable def e_slices_ContainsFunc_Item_impl_EdOkc1:Con:=⟨25,⟨[(0, .s K12 []),(1, .c (.one (.fn 26 [])))],[]⟩,⟨[(0, .s K2 [])],[]⟩,false,[],λ s_1=>g_slices_ContainsFunc_Item_impl_EdOkc1 s_1⟩
noncomputable def e_slices_Grow_Item_emp:Con:=⟨67,⟨[(0, .c (.one (.emp))),(1, .s K3 [])],[]⟩,⟨[(0, .s K12 [(0,0)])],[.o]⟩,false,[],λ n_1=>g_slices_Grow_Item_emp n_1⟩
noncomputable def e_slices_Concat_Item:Con:=⟨49,⟨[(0, .s K16 [])],[]⟩,⟨[(0, .s K12 [(0,0)])],[.o]⟩,false,[],λ slices_1=>g_slices_Concat_Item slices_1⟩
noncomputable def e_impl_edItems:Con:=⟨29,⟨[(0, .s K13 [])],[]⟩,⟨[(0, .s K12 [(0,0)])],[.o]⟩,false,[],λ e_1=>g_impl_edItems e_1⟩
noncomputable def e_impl_Unparse:Con:=⟨36,⟨[(0, .s K12 [])],[]⟩,⟨[(0, .s K6 [(0,0)]),(1, .s K2 [])],[.o]⟩,false,[],λ list_1=>g_impl_Unparse list_1⟩
noncomputable def e_impl_Decode:Con:=⟨96,⟨[(0, .s K5 []),(1, .s K3 [])],[]⟩,⟨[(0, .s K3 []),(1, .s K3 [])],[]⟩,false,[],λ (bits_1,n_2)=>g_impl_Decode bits_1 n_2⟩
noncomputable def e_impl_LetterAt:Con:=⟨97,⟨[(0, .s K3 [])],[]⟩,⟨[(0, .s K0 [])],[]⟩,false,[],λ k_1=>g_impl_LetterAt k_1⟩
noncomputable def e_impl_UnpackOne:Con:=⟨85,⟨[(0, .s K5 [])],[]⟩,⟨[(0, .s K9 [])],[]⟩,false,[],λ f_1=>g_impl_UnpackOne f_1⟩
noncomputable def e_slices_Equal_uint32:Con:=⟨83,⟨[(0, .s K6 []),(1, .s K6 [])],[]⟩,⟨[(0, .s K2 [])],[]⟩,false,[],λ (s1_1,s2_2)=>g_slices_Equal_uint32 s1_1 s2_2⟩
noncomputable def e_impl_Unpack:Con:=⟨81,⟨[(0, .s K6 [])],[]⟩,⟨[(0, .s K9 []),(1, .s K2 [])],[]⟩,false,[],λ list_1=>g_impl_Unpack list_1⟩
noncomputable def e_impl_nameKind:Con:=⟨82,⟨[(0, .s K5 [])],[]⟩,⟨[(0, .s K3 [])],[]⟩,false,[],λ tag_1=>g_impl_nameKind tag_1⟩
noncomputable def e_impl_FieldOk:Con:=⟨84,⟨[(0, .s K5 [])],[]⟩,⟨[(0, .s K2 [])],[]⟩,false,[],λ f_1=>g_impl_FieldOk f_1⟩
noncomputable def e_impl_parseOne:Con:=⟨66,⟨[(0, .s K6 [])],[]⟩,⟨[(0, .s K11 [])],[]⟩,false,[],λ cells_1=>g_impl_parseOne cells_1⟩
noncomputable def e_impl_ParseCells:Con:=⟨48,⟨[(0, .s K6 [])],[]⟩,⟨[(0, .s K12 [(0,0)])],[.o]⟩,false,[],λ cells_1=>g_impl_ParseCells cells_1⟩
noncomputable def e_slices_Equal_Item:Con:=⟨47,⟨[(0, .s K12 []),(1, .s K12 [])],[]⟩,⟨[(0, .s K2 [])],[]⟩,false,[],λ (s1_1,s2_2)=>g_slices_Equal_Item s1_1 s2_2⟩
noncomputable def e_impl_ListOk:Con:=⟨28,⟨[(0, .s K12 [])],[]⟩,⟨[(0, .s K2 [])],[]⟩,false,[],λ list_1=>g_impl_ListOk list_1⟩
noncomputable def e_impl_EdOk:Con:=⟨9,⟨[(0, .s K13 [])],[]⟩,⟨[(0, .s K2 [])],[]⟩,false,[],λ e_1=>g_impl_EdOk e_1⟩
noncomputable def e_slices_Clone_Item:Con:=⟨52,⟨[(0, .s K12 [])],[]⟩,⟨[(0, .s K12 [(0,0)])],[.o]⟩,false,[],λ s_1=>g_slices_Clone_Item s_1⟩
noncomputable def e_impl_ownEd:Con:=⟨31,⟨[(0, .s K13 [])],[]⟩,⟨[(0, .s K13 [(0,0),(1,1),(2,2)])],[.o, .o, .o]⟩,false,[],λ e_1=>g_impl_ownEd e_1⟩
noncomputable def e_slices_Insert_Item:Con:=⟨50,⟨[(0, .s K12 [(0,0)]),(1, .s K3 []),(2, .s K12 [(0,1)])],[.o, .o]⟩,⟨[(0, .s K12 [(0,2)])],[.d, .d, .o]⟩,false,[],λ a=>g_slices_Insert_Item a.1 a.2.1 a.2.2⟩
noncomputable def e_impl_Recolor:Con:=⟨51,⟨[(0, .s K11 []),(1, .s K3 [])],[]⟩,⟨[(0, .s K11 []),(1, .s K2 [])],[]⟩,false,[],λ (it_1,kind_2)=>g_impl_Recolor it_1 kind_2⟩
noncomputable def e_impl_pressed:Con:=⟨30,⟨[(0, .s K13 []),(1, .s K14 [])],[]⟩,⟨[(0, .s K13 []),(1, .s K2 [])],[]⟩,true,[],λ (e_1,k_2)=>g_impl_pressed e_1 k_2⟩
noncomputable def e_impl_PressAll:Con:=⟨17,⟨[(0, .s K13 []),(1, .s K15 [])],[]⟩,⟨[(0, .s K13 [(0,0),(1,1),(2,2)]),(1, .s K3 [])],[.o, .o, .o]⟩,false,[],λ (e_1,keys_2)=>g_impl_PressAll e_1 keys_2⟩
noncomputable def e_spec_ItemOk:Con:=⟨22,⟨[(0, .s K11 [])],[]⟩,⟨[(0, .s K2 [])],[]⟩,false,[],λ it_1=>g_spec_ItemOk it_1⟩
noncomputable def e_spec_l07All:Con:=⟨24,⟨[(0, .s K13 [])],[]⟩,⟨[(0, .s K12 [(0,0)])],[.o]⟩,false,[],λ e_1=>g_spec_l07All e_1⟩
noncomputable def e_spec_Unparse:Con:=⟨42,⟨[(0, .s K12 [])],[]⟩,⟨[(0, .s K6 [(0,0)]),(1, .s K2 [])],[.o]⟩,false,[],λ list_1=>g_spec_Unparse list_1⟩
noncomputable def e_spec_l04Same:Con:=⟨43,⟨[(0, .s K12 []),(1, .s K12 [])],[]⟩,⟨[(0, .s K2 [])],[]⟩,false,[],λ (a_1,b_2)=>g_spec_l04Same a_1 b_2⟩
noncomputable def e_spec_ListOk:Con:=⟨23,⟨[(0, .s K12 [])],[]⟩,⟨[(0, .s K2 [])],[]⟩,false,[],λ list_1=>g_spec_ListOk list_1⟩
noncomputable def e_spec_EdOk:Con:=⟨8,⟨[(0, .s K13 [])],[]⟩,⟨[(0, .s K2 [])],[]⟩,false,[],λ e_1=>g_spec_EdOk e_1⟩
noncomputable def e_spec_l07Copy:Con:=⟨32,⟨[(0, .s K13 [])],[]⟩,⟨[(0, .s K13 [(0,0),(1,1),(2,2)])],[.o, .o, .o]⟩,false,[],λ e_1=>g_spec_l07Copy e_1⟩
noncomputable def e_spec_l07Move:Con:=⟨34,⟨[(0, .s K13 []),(1, .s K3 [])],[]⟩,⟨[(0, .s K13 []),(1, .s K2 [])],[]⟩,true,[],λ (e_1,op_2)=>g_spec_l07Move e_1 op_2⟩
noncomputable def e_spec_Recolor:Con:=⟨53,⟨[(0, .s K11 []),(1, .s K3 [])],[]⟩,⟨[(0, .s K11 []),(1, .s K2 [])],[]⟩,false,[],λ (it_1,kind_2)=>g_spec_Recolor it_1 kind_2⟩
noncomputable def e_spec_l07Change:Con:=⟨35,⟨[(0, .s K13 [(0,0),(1,1),(2,2)]),(1, .s K14 [])],[.o, .o, .o]⟩,⟨[(0, .s K13 [(0,3),(1,1),(2,4)]),(1, .s K2 [])],[.d, .o, .d, .o, .o]⟩,false,[],λ (e_1,k_2)=>g_spec_l07Change e_1 k_2⟩
noncomputable def e_spec_Press:Con:=⟨12,⟨[(0, .s K13 []),(1, .s K14 [])],[]⟩,⟨[(0, .s K13 []),(1, .s K2 [])],[]⟩,true,[],λ (e_1,k_2)=>g_spec_Press e_1 k_2⟩
noncomputable def e_spec_PressAll:Con:=⟨18,⟨[(0, .s K13 []),(1, .s K15 [])],[]⟩,⟨[(0, .s K13 [(0,0),(1,1),(2,2)]),(1, .s K3 [])],[.o, .o, .o]⟩,false,[],λ (e_1,keys_2)=>g_spec_PressAll e_1 keys_2⟩
noncomputable def e_impl_Press:Con:=⟨10,⟨[(0, .s K13 []),(1, .s K14 [])],[]⟩,⟨[(0, .s K13 [(0,0),(1,1),(2,2)]),(1, .s K2 [])],[.o, .o, .o]⟩,false,[],λ (e_1,k_2)=>g_impl_Press e_1 k_2⟩
noncomputable def e_laws_sameItems:Con:=⟨11,⟨[(0, .s K12 []),(1, .s K12 [])],[]⟩,⟨[(0, .s K2 [])],[]⟩,false,[],λ (a_1,b_2)=>g_laws_sameItems a_1 b_2⟩
noncomputable def e_laws_sameEd:Con:=⟨13,⟨[(0, .s K13 []),(1, .s K13 [])],[]⟩,⟨[(0, .s K2 [])],[]⟩,false,[],λ (a_1,b_2)=>g_laws_sameEd a_1 b_2⟩
noncomputable def e_laws_FnKeys:Con:=⟨5,⟨[(0, .s K1 [])],[]⟩,⟨[(0, .s K2 [])],[]⟩,false,[],λ code_1=>g_laws_FnKeys code_1⟩
abbrev CO (c:Con):Prop:=ConOk Try.prog c
abbrev CK (Γ:List Con) (n:Nat) (an:An) (f:Func) (e:Con):Prop:=AnOk TryT Γ n an (bodyOf f)/\∀ a,fnRun TryT Γ an (bodyOf f) f.results.toList e.ro e.ps e.rs a=e.g a
theorem fnc {Γ:List Con} {n:Nat} {an:An} {fn:Func} {C:Con} (h:Try.prog.follows .mixedOrders=true->∀ c ∈ Γ,CO c) (hf:Try.prog.funcs[C.f]? = some fn) (hk:CK Γ n an fn C) (h1:(!(fn.name == "runtime.NumGoroutine")&&okC fn.ntmps (bodyOf fn))=true)
  (h2:∀ a,entB C n fn.ntmps a=true) (h3:∀ r,endB C fn.results.toList.length r=true) (hb:fn.body=some (bodyOf fn)):CO C:=by
 rw[Bool.and_eq_true,Bool.not_eq_true']at h1
 exact fn_ok (P:=λ _=>Try.prog) (n:=n) TryT_eq h hf hb h1.1 rfl rfl h1.2 rfl h2 h3 hk.1 λ a r e=>(hk.2 a).trans e
end Go.Proofs.Ytjdhhpolllkbbaa
namespace Go.Proofs.Ytjdhhpolllkbbaa
open Go Go.Fm
set_option maxRecDepth 1000000
noncomputable def ane_laws_big:An:=.z
theorem ke_laws_big:CK [] 0 ane_laws_big Try.f6 e_laws_big:=⟨trivial,λ _=>by kernel_rfl⟩
noncomputable def ane_spec_l01New:An:=.q .z (.q .z (.m [(.normal,⟨[(3, .s K3 [])],[]⟩)] [0,2] [] (.q .z (.b (.l ⟨[(0, .s K1 []),(2, .c (.one (.nilp)))],[]⟩ ⟨[(3, .s K3 []),(4, .s K3 [])],[]⟩ [(.exit 0,⟨[(3, .s K3 [])],[]⟩)] (λ code_1 k (h_4,i_5)=>g_spec_l01New_l0 code_1 k h_4 i_5) (.q (.m [(.normal,⟨[(15, .s K2 [])],[]⟩)] [3,4] [] .z .z) .z)))) .z))
theorem ke_spec_l01New:CK [] 0 ane_spec_l01New Try.f19 e_spec_l01New:=⟨⟨trivial,⟨trivial,⟨⟨trivial,⟨λ _ _=>rfl,λ _ _ _ _=>by kernel_rfl,⟨⟨trivial,trivial⟩,trivial⟩⟩⟩,trivial⟩⟩⟩,λ _=>by kernel_rfl⟩
noncomputable def ane_spec_l01Byte:An:=.q .z (.q .z (.q .z (.m [(.normal,⟨[(3, .s K3 [])],[.v K4 []]⟩)] [0,2] [] .z .z)))
theorem ke_spec_l01Byte:CK [] 1 ane_spec_l01Byte Try.f54 e_spec_l01Byte:=⟨⟨trivial,⟨trivial,⟨trivial,⟨trivial,trivial⟩⟩⟩⟩,λ _=>by kernel_rfl⟩
noncomputable def ane_spec_l01Below:An:=.z
theorem ke_spec_l01Below:CK [e_spec_l01Byte] 1 ane_spec_l01Below Try.f37 e_spec_l01Below:=⟨trivial,λ _=>by kernel_rfl⟩
noncomputable def ane_spec_l01Once:An:=.z
theorem ke_spec_l01Once:CK [e_spec_l01Below] 1 ane_spec_l01Once Try.f40 e_spec_l01Once:=⟨trivial,λ _=>by kernel_rfl⟩
noncomputable def ane_spec_l01PickInt:An:=.z
theorem ke_spec_l01PickInt:CK [e_spec_l01Below] 1 ane_spec_l01PickInt Try.f70 e_spec_l01PickInt:=⟨trivial,λ _=>by kernel_rfl⟩
noncomputable def ane_spec_l04Int:An:=.z
theorem ke_spec_l04Int:CK [e_spec_l01Once,e_spec_l01Below,e_spec_l01PickInt] 1 ane_spec_l04Int Try.f71 e_spec_l04Int:=⟨trivial,λ _=>by kernel_rfl⟩
noncomputable def ane_spec_l01Pick:An:=.z
theorem ke_spec_l01Pick:CK [e_spec_l01Below] 1 ane_spec_l01Pick Try.f58 e_spec_l01Pick:=⟨trivial,λ _=>by kernel_rfl⟩
end Go.Proofs.Ytjdhhpolllkbbaa
namespace Go.Proofs.Ytjdhhpolllkbbaa
open Go Go.Fm
set_option maxRecDepth 1000000
noncomputable def ane_spec_l01In:An:=.z
theorem ke_spec_l01In:CK [] 0 ane_spec_l01In Try.f33 e_spec_l01In:=⟨trivial,λ _=>by kernel_rfl⟩
noncomputable def ane_spec_l02All:An:=.z
theorem ke_spec_l02All:CK [] 0 ane_spec_l02All Try.f99 e_spec_l02All:=⟨trivial,λ _=>by kernel_rfl⟩
noncomputable def ane_spec_LetterAt:An:=.z
theorem ke_spec_LetterAt:CK [e_spec_l01In,e_spec_l02All] 0 ane_spec_LetterAt Try.f87 e_spec_LetterAt:=⟨trivial,λ _=>by kernel_rfl⟩
noncomputable def ane_spec_l02Name:An:=.q .z (.q .z (.q .z (.q .z (.m [(.normal,⟨[(3, .s K1 [(0,2)])],[.v K4 [], .d, .o]⟩)] [0,2,4] [] (.q .z (.b (.l ⟨[(0, .c (.one (.ptr 0 0))),(2, .s K9 []),(4, .s K3 [])],[.n, .n, .n]⟩ ⟨[(3, .s K1 [(0,2)]),(5, .s K3 [])],[.v K4 [], .d, .o]⟩ [(.exit 0,⟨[(3, .s K1 [(0,2)])],[.v K4 [], .d, .o]⟩)] (λ (_,n_10) k (out_11,i_12,x_13)=>g_spec_l02Name_l0 n_10 k out_11 i_12 x_13) .z))) .z))))
theorem ke_spec_l02Name:CK [e_spec_l01Once,e_spec_l01Pick,e_spec_l01Below,e_spec_LetterAt] 1 ane_spec_l02Name Try.f72 e_spec_l02Name:=⟨⟨trivial,⟨trivial,⟨trivial,⟨trivial,⟨⟨trivial,⟨λ _ _=>rfl,λ _ _ _ _=>by kernel_rfl,trivial⟩⟩,trivial⟩⟩⟩⟩⟩,λ _=>by kernel_rfl⟩
noncomputable def ane_spec_l04Some:An:=.z
theorem ke_spec_l04Some:CK [e_spec_l01Below,e_spec_l04Int,e_spec_l01Once,e_spec_l01Pick,e_spec_l02Name] 1 ane_spec_l04Some Try.f56 e_spec_l04Some:=⟨trivial,λ _=>by kernel_rfl⟩
noncomputable def ane_spec_l04Num:An:=.q .z (.q .z (.m [(.normal,⟨[(9, .s K5 [])],[]⟩)] [0,1,2,3,8] [] .z (.q (.m [(.normal,⟨[(16, .s K2 [])],[]⟩)] [0,2,3,8,9] [] .z .z) .z)))
theorem ke_spec_l04Num:CK [] 0 ane_spec_l04Num Try.f59 e_spec_l04Num:=⟨⟨trivial,⟨trivial,⟨trivial,⟨⟨trivial,trivial⟩,trivial⟩⟩⟩⟩,λ _=>by kernel_rfl⟩
noncomputable def ane_spec_LetterOf:An:=.q .z (.q .z (.m [(.normal,⟨[],[]⟩),(.ret,⟨[(2, .s K3 [])],[]⟩)] [0,3] [] (.q .z (.b (.l ⟨[(0, .s K0 []),(3, .s K9 [])],[]⟩ ⟨[(4, .s K3 [])],[]⟩ [(.exit 0,⟨[],[]⟩),(.ret,⟨[(2, .s K3 [])],[]⟩)] (λ (b_1,yu83_3) k i_5=>g_spec_LetterOf_l0 b_1 yu83_3 k i_5) .z))) .z))
theorem ke_spec_LetterOf:CK [e_spec_l02All] 0 ane_spec_LetterOf Try.f100 e_spec_LetterOf:=⟨⟨trivial,⟨trivial,⟨⟨trivial,⟨λ _ _=>rfl,λ _ _ _ _=>by kernel_rfl,trivial⟩⟩,trivial⟩⟩⟩,λ _=>by kernel_rfl⟩
noncomputable def ane_spec_NameOk:An:=.q .z (.q .z (.m [(.normal,⟨[],[]⟩),(.ret,⟨[(2, .s K2 [])],[]⟩)] [0] [] (.q .z (.b (.l ⟨[(0, .s K9 [])],[]⟩ ⟨[(3, .s K3 [])],[]⟩ [(.exit 0,⟨[],[]⟩),(.ret,⟨[(2, .s K2 [])],[]⟩)] (λ s_1 k i_5=>g_spec_NameOk_l0 s_1 k i_5) .z))) .z))
theorem ke_spec_NameOk:CK [e_spec_l01In,e_spec_LetterOf] 0 ane_spec_NameOk Try.f88 e_spec_NameOk:=⟨⟨trivial,⟨trivial,⟨⟨trivial,⟨λ _ _=>rfl,λ _ _ _ _=>by kernel_rfl,trivial⟩⟩,trivial⟩⟩⟩,λ _=>by kernel_rfl⟩
end Go.Proofs.Ytjdhhpolllkbbaa
namespace Go.Proofs.Ytjdhhpolllkbbaa
open Go Go.Fm
set_option maxRecDepth 1000000
noncomputable def ane_spec_WidthOf:An:=.z
theorem ke_spec_WidthOf:CK [e_spec_l01In] 0 ane_spec_WidthOf Try.f101 e_spec_WidthOf:=⟨trivial,λ _=>by kernel_rfl⟩
noncomputable def ane_spec_BitsOf:An:=.z
theorem ke_spec_BitsOf:CK [e_spec_WidthOf] 0 ane_spec_BitsOf Try.f102 e_spec_BitsOf:=⟨trivial,λ _=>by kernel_rfl⟩
noncomputable def ane_spec_l03One:An:=.q .z (.q .z (.q (.b (.l ⟨[(0, .s K9 []),(2, .s K5 []),(3, .s K3 [])],[]⟩ ⟨[(4, .s K3 []),(5, .s K3 []),(6, .s K3 [])],[]⟩ [(.exit 0,⟨[(4, .s K3 []),(6, .s K3 [])],[]⟩)] (λ (s_1,_,_) k (f_6,left_7,n_8)=>g_spec_l03One_l0 s_1 k f_6 left_7 n_8) .z)) .z))
theorem ke_spec_l03One:CK [e_spec_LetterOf,e_spec_WidthOf,e_spec_BitsOf] 0 ane_spec_l03One Try.f89 e_spec_l03One:=⟨⟨trivial,⟨trivial,⟨⟨λ _ _=>rfl,λ _ _ _ _=>by kernel_rfl,trivial⟩,trivial⟩⟩⟩,λ _=>by kernel_rfl⟩
noncomputable def ane_spec_Pack:An:=.q .z (.q .z (.q .z (.q (.b (.l ⟨[(2, .c (.one (.emp)))],[.n, .n]⟩ ⟨[(0, .s K9 []),(3, .s K6 [(0,1)])],[.d, .o]⟩ [(.exit 0,⟨[(3, .s K6 [(0,1)])],[.d, .o]⟩)] (λ _ k (s_4,out_5)=>g_spec_Pack_l0 k s_4 out_5) .z)) .z)))
theorem ke_spec_Pack:CK [e_spec_NameOk,e_spec_l03One] 0 ane_spec_Pack Try.f73 e_spec_Pack:=⟨⟨trivial,⟨trivial,⟨trivial,⟨⟨λ _ _=>rfl,λ _ _ _ _=>by kernel_rfl,trivial⟩,trivial⟩⟩⟩⟩,λ _=>by kernel_rfl⟩
noncomputable def ane_spec_l04Word:An:=.q .z (.q .z (.m [(.normal,⟨[(5, .s K6 [(0,0)])],[.o]⟩)] [0,4] [] (.q .z (.b (.l ⟨[(0, .s K5 []),(4, .c (.one (.emp)))],[.n]⟩ ⟨[(5, .s K6 [(0,0)]),(6, .s K3 [])],[.o]⟩ [(.exit 0,⟨[(5, .s K6 [(0,0)])],[.o]⟩)] (λ tag_1 k (out_6,i_7)=>g_spec_l04Word_l0 tag_1 k out_6 i_7) (.q .z (.m [(.normal,⟨[(5, .s K6 [(0,0)])],[.o]⟩)] [6] [] .z .z))))) .z))
theorem ke_spec_l04Word:CK [e_spec_Pack] 0 ane_spec_l04Word Try.f60 e_spec_l04Word:=⟨⟨trivial,⟨trivial,⟨⟨trivial,⟨λ _ _=>rfl,λ _ _ _ _=>by kernel_rfl,⟨trivial,⟨trivial,trivial⟩⟩⟩⟩,trivial⟩⟩⟩,λ _=>by kernel_rfl⟩
noncomputable def ane_spec_l04Tag:An:=.z
theorem ke_spec_l04Tag:CK [] 0 ane_spec_l04Tag Try.f61 e_spec_l04Tag:=⟨trivial,λ _=>by kernel_rfl⟩
noncomputable def ane_spec_CellsOf:An:=.q .z (.m [(.normal,⟨[(3, .s K2 [])],[.f]⟩)] [1,2] [0] .z (.m [(.normal,⟨[],[.f]⟩),(.ret,⟨[(2, .s K6 [(0,1)])],[.f, .o]⟩)] [1,3] [0] (.q .z (.b (.q .z (.q (.m [(.normal,⟨[(47, .s K2 [])],[.f]⟩)] [2] [] .z .z) (.q .z (.q (.m [(.normal,⟨[(60, .s K2 [])],[.f]⟩)] [2] [] .z .z) (.q .z (.q (.m [(.normal,⟨[(75, .s K2 [])],[.f]⟩)] [2] [] .z .z) (.q .z (.q (.q .z (.m [(.normal,⟨[(98, .s K2 [])],[.f, .f]⟩)] [2,4] [1] .z .z)) (.q .z (.m [(.normal,⟨[(28, .s K2 [])],[.f]⟩)] [2,5] [] .z .z)))))))))))) .z))
theorem ke_spec_CellsOf:CK [e_spec_l04Num,e_spec_l04Word,e_spec_l04Tag] 0 ane_spec_CellsOf Try.f41 e_spec_CellsOf:=⟨⟨trivial,⟨trivial,⟨⟨trivial,⟨trivial,⟨⟨trivial,trivial⟩,⟨trivial,⟨⟨trivial,trivial⟩,⟨trivial,⟨⟨trivial,trivial⟩,⟨trivial,⟨⟨trivial,⟨trivial,trivial⟩⟩,⟨trivial,⟨trivial,trivial⟩⟩⟩⟩⟩⟩⟩⟩⟩⟩⟩,trivial⟩⟩⟩,λ _=>by kernel_rfl⟩
noncomputable def ane_spec_l01Word:An:=.z
theorem ke_spec_l01Word:CK [e_spec_l01Below,e_spec_l01PickInt] 1 ane_spec_l01Word Try.f57 e_spec_l01Word:=⟨trivial,λ _=>by kernel_rfl⟩
end Go.Proofs.Ytjdhhpolllkbbaa
namespace Go.Proofs.Ytjdhhpolllkbbaa
open Go Go.Fm
set_option maxRecDepth 1000000
noncomputable def ane_spec_l04Cells:An:=.q .z (.q .z (.q .z (.m [(.normal,⟨[(3, .s K6 [(0,2)])],[.v K4 [], .d, .o]⟩)] [0,2,4] [] (.q .z (.b (.l ⟨[(0, .c (.one (.ptr 0 0))),(2, .c (.one (.emp))),(4, .s K3 [])],[.n, .n, .n]⟩ ⟨[(3, .s K6 [(0,2)]),(5, .s K3 [])],[.v K4 [], .d, .o]⟩ [(.exit 0,⟨[(3, .s K6 [(0,2)])],[.v K4 [], .d, .o]⟩)] (λ n_7 k (out_8,i_9,x_10)=>g_spec_l04Cells_l0 n_7 k out_8 i_9 x_10) (.q .z (.m [(.normal,⟨[(3, .s K6 [(0,3)])],[.v K4 [], .d, .d, .o]⟩)] [5] [] .z .z))))) (.q (.m [(.normal,⟨[(58, .s K2 [])],[.v K4 [], .d, .f]⟩)] [0,2,3] [2] .z .z) .z))))
theorem ke_spec_l04Cells:CK [e_spec_l01Below,e_spec_l04Some,e_spec_CellsOf,e_spec_l01Word,e_spec_l01PickInt,e_spec_l01Once] 1 ane_spec_l04Cells Try.f55 e_spec_l04Cells:=⟨⟨trivial,⟨trivial,⟨trivial,⟨⟨trivial,⟨λ _ _=>rfl,λ _ _ _ _=>by kernel_rfl,⟨trivial,⟨trivial,trivial⟩⟩⟩⟩,⟨⟨trivial,trivial⟩,trivial⟩⟩⟩⟩⟩,λ _=>by kernel_rfl⟩
noncomputable def ane_spec_l04Kind:An:=.q .z (.m [(.normal,⟨[],[]⟩),(.ret,⟨[(2, .s K3 [])],[]⟩)] [0] [] (.q .z (.b (.l ⟨[(0, .s K5 [])],[]⟩ ⟨[(3, .s K3 [])],[]⟩ [(.exit 0,⟨[],[]⟩),(.ret,⟨[(2, .s K3 [])],[]⟩)] (λ tag_1 k k_4=>g_spec_l04Kind_l0 tag_1 k k_4) .z))) .z)
theorem ke_spec_l04Kind:CK [e_spec_l04Tag] 0 ane_spec_l04Kind Try.f74 e_spec_l04Kind:=⟨⟨trivial,⟨⟨trivial,⟨λ _ _=>rfl,λ _ _ _ _=>by kernel_rfl,trivial⟩⟩,trivial⟩⟩,λ _=>by kernel_rfl⟩
noncomputable def ane_spec_Decode:An:=.q .z (.q .z (.m [(.normal,⟨[],[]⟩),(.ret,⟨[(4, .s K3 []),(5, .s K3 [])],[]⟩)] [0,1] [] (.q .z (.b (.l ⟨[(0, .s K5 []),(1, .s K3 [])],[]⟩ ⟨[(6, .s K3 [])],[]⟩ [(.exit 0,⟨[],[]⟩),(.ret,⟨[(4, .s K3 []),(5, .s K3 [])],[]⟩)] (λ (bits_1,n_2) k k_8=>g_spec_Decode_l0 bits_1 n_2 k k_8) (.q .z (.m [(.normal,⟨[],[]⟩),(.ret,⟨[(4, .s K3 []),(5, .s K3 [])],[]⟩)] [6] [] .z .z))))) .z))
theorem ke_spec_Decode:CK [e_spec_l01In,e_spec_WidthOf,e_spec_BitsOf] 0 ane_spec_Decode Try.f91 e_spec_Decode:=⟨⟨trivial,⟨trivial,⟨⟨trivial,⟨λ _ _=>rfl,λ _ _ _ _=>by kernel_rfl,⟨trivial,⟨trivial,trivial⟩⟩⟩⟩,trivial⟩⟩⟩,λ _=>by kernel_rfl⟩
noncomputable def ane_spec_UnpackOne:An:=.q .z (.q .z (.q .z (.q .z (.q (.b (.l ⟨[(0, .s K5 []),(2, .s K9 [])],[.n, .n]⟩ ⟨[(3, .s K1 [(0,1)]),(4, .s K3 [])],[.d, .o]⟩ [(.exit 0,⟨[(3, .s K1 [(0,1)])],[.d, .o]⟩)] (λ (f_1,_) k (out_4,left_5)=>g_spec_UnpackOne_l0 f_1 k out_4 left_5) (.q (.m [(.normal,⟨[(22, .s K2 [])],[.d, .f]⟩)] [3,4] [1] .z .z) .z))) .z))))
theorem ke_spec_UnpackOne:CK [e_spec_Decode,e_spec_LetterAt] 0 ane_spec_UnpackOne Try.f78 e_spec_UnpackOne:=⟨⟨trivial,⟨trivial,⟨trivial,⟨trivial,⟨⟨λ _ _=>rfl,λ _ _ _ _=>by kernel_rfl,⟨⟨trivial,trivial⟩,trivial⟩⟩,trivial⟩⟩⟩⟩⟩,λ _=>by kernel_rfl⟩
noncomputable def ane_spec_l03Same:An:=.q .z (.q .z (.m [(.normal,⟨[],[]⟩),(.ret,⟨[(4, .s K2 [])],[]⟩)] [0,1] [] (.q .z (.b (.l ⟨[(0, .s K6 []),(1, .s K6 [])],[]⟩ ⟨[(5, .s K3 [])],[]⟩ [(.exit 0,⟨[],[]⟩),(.ret,⟨[(4, .s K2 [])],[]⟩)] (λ (a_1,b_2) k i_5=>g_spec_l03Same_l0 a_1 b_2 k i_5) .z))) .z))
theorem ke_spec_l03Same:CK [] 0 ane_spec_l03Same Try.f103 e_spec_l03Same:=⟨⟨trivial,⟨trivial,⟨⟨trivial,⟨λ _ _=>rfl,λ _ _ _ _=>by kernel_rfl,trivial⟩⟩,trivial⟩⟩⟩,λ _=>by kernel_rfl⟩
noncomputable def ane_spec_Unpack:An:=.q .z (.q .z (.q .z (.m [(.normal,⟨[(4, .s K9 [])],[]⟩)] [0,2,3] [] (.q .z (.b (.l ⟨[(0, .s K6 []),(2, .s K9 []),(3, .s K2 [])],[]⟩ ⟨[(4, .s K9 []),(5, .s K3 [])],[]⟩ [(.exit 0,⟨[(4, .s K9 [])],[]⟩)] (λ (list_1,_,_) k (s_7,i_8)=>g_spec_Unpack_l0 list_1 k s_7 i_8) .z))) (.q (.m [(.normal,⟨[(31, .s K2 [])],[]⟩)] [0,2,3,4] [] .z .z) .z))))
theorem ke_spec_Unpack:CK [e_spec_UnpackOne,e_spec_NameOk,e_spec_Pack,e_spec_l03Same] 0 ane_spec_Unpack Try.f90 e_spec_Unpack:=⟨⟨trivial,⟨trivial,⟨trivial,⟨⟨trivial,⟨λ _ _=>rfl,λ _ _ _ _=>by kernel_rfl,trivial⟩⟩,⟨⟨trivial,trivial⟩,trivial⟩⟩⟩⟩⟩,λ _=>by kernel_rfl⟩
noncomputable def ane_spec_l04Name:An:=.q .z (.q .z (.m [(.normal,⟨[(8, .s K6 [(0,2)])],[.f, .d, .o]⟩)] [0,1,2,6,7] [0] (.q .z (.b (.l ⟨[(0, .s K6 []),(1, .s K3 []),(2, .s K3 []),(6, .c (.one (.ptr 0 0))),(7, .s K3 [])],[.v K11 [], .n, .n]⟩ ⟨[(8, .s K6 [(0,2)]),(9, .s K3 [])],[.f, .d, .o]⟩ [(.exit 0,⟨[(8, .s K6 [(0,2)])],[.f, .d, .o]⟩)] (λ (cells_1,_,_,_,_) k (fields_10,k_11)=>g_spec_l04Name_l0 cells_1 k fields_10 k_11) (.q (.m [(.normal,⟨[(38, .s K2 [])],[.f, .d, .f]⟩)] [8,9] [2] .z .z) .z)))) .z))
theorem ke_spec_l04Name:CK [e_spec_Unpack] 0 ane_spec_l04Name Try.f75 e_spec_l04Name:=⟨⟨trivial,⟨trivial,⟨⟨trivial,⟨λ _ _=>rfl,λ _ _ _ _=>by kernel_rfl,⟨⟨trivial,trivial⟩,trivial⟩⟩⟩,trivial⟩⟩⟩,λ _=>by kernel_rfl⟩
noncomputable def ane_spec_l04Number:An:=.q .z (.q .z (.q .z (.q .z (.m [(.normal,⟨[],[.f, .v K11 []]⟩)] [0,1,4,5,6,7,8] [0] (.m [(.normal,⟨[(24, .s K2 [])],[.f, .f]⟩)] [] [1] .z .z) (.q (.m [(.normal,⟨[(31, .s K2 [])],[.f, .f]⟩)] [0,1,4,5,6,7,8] [0,1] .z .z) (.q (.m [(.normal,⟨[(46, .s K2 [])],[.f, .f]⟩)] [0,1,4,5,6,8] [0,1] .z .z) .z))))))
theorem ke_spec_l04Number:CK [e_spec_CellsOf] 0 ane_spec_l04Number Try.f76 e_spec_l04Number:=⟨⟨trivial,⟨trivial,⟨trivial,⟨trivial,⟨⟨trivial,trivial⟩,⟨⟨trivial,trivial⟩,⟨⟨trivial,trivial⟩,trivial⟩⟩⟩⟩⟩⟩⟩,λ _=>by kernel_rfl⟩
end Go.Proofs.Ytjdhhpolllkbbaa
namespace Go.Proofs.Ytjdhhpolllkbbaa
open Go Go.Fm
set_option maxRecDepth 1000000
noncomputable def ane_spec_FieldOk:An:=.z
theorem ke_spec_FieldOk:CK [e_spec_UnpackOne,e_spec_Pack] 0 ane_spec_FieldOk Try.f77 e_spec_FieldOk:=⟨trivial,λ _=>by kernel_rfl⟩
noncomputable def ane_spec_l04Item:An:=.q .z (.q .z (.q .z (.m [(.normal,⟨[(7, .s K3 [])],[.f, .v K11 []]⟩)] [0,1,4,5,6,8] [0] (.b (.q .z (.q .z (.m [(.normal,⟨[(27, .s K2 [])],[.f, .f]⟩)] [7] [1] .z (.q .z (.m [(.normal,⟨[(48, .s K2 [])],[.f, .f]⟩)] [7] [1] .z .z)))))) .z)))
theorem ke_spec_l04Item:CK [e_spec_l04Kind,e_spec_l04Name,e_spec_l04Number,e_spec_FieldOk,e_spec_UnpackOne] 0 ane_spec_l04Item Try.f62 e_spec_l04Item:=⟨⟨trivial,⟨trivial,⟨trivial,⟨⟨trivial,⟨trivial,⟨trivial,⟨trivial,⟨trivial,trivial⟩⟩⟩⟩⟩,trivial⟩⟩⟩⟩,λ _=>by kernel_rfl⟩
noncomputable def ane_spec_ParseCells:An:=.q .z (.q .z (.q .z (.m [(.normal,⟨[(3, .s K12 [(0,1)])],[.d, .o]⟩)] [0,2] [] (.q .z (.b (.l ⟨[(0, .s K6 []),(2, .c (.one (.emp)))],[.n, .n]⟩ ⟨[(3, .s K12 [(0,1)]),(4, .s K3 [])],[.d, .o]⟩ [(.exit 0,⟨[(3, .s K12 [(0,1)])],[.d, .o]⟩)] (λ cells_1 k (out_4,i_5)=>g_spec_ParseCells_l0 cells_1 k out_4 i_5) .z))) (.q (.b (.l ⟨[(2, .c (.one (.emp)))],[.n, .n, .n]⟩ ⟨[(3, .s K12 [(0,2)])],[.d, .d, .o]⟩ [(.exit 2,⟨[(3, .s K12 [(0,2)])],[.d, .d, .o]⟩)] (λ _ k out_9=>g_spec_ParseCells_l1 k out_9) (.q (.m [(.normal,⟨[(41, .s K2 [])],[.d, .d, .f]⟩)] [3] [2] .z .z) .z))) .z))))
theorem ke_spec_ParseCells:CK [e_spec_l04Item] 0 ane_spec_ParseCells Try.f44 e_spec_ParseCells:=⟨⟨trivial,⟨trivial,⟨trivial,⟨⟨trivial,⟨λ _ _=>rfl,λ _ _ _ _=>by kernel_rfl,trivial⟩⟩,⟨⟨λ _ _=>rfl,λ _ _ _ _=>by kernel_rfl,⟨⟨trivial,trivial⟩,trivial⟩⟩,trivial⟩⟩⟩⟩⟩,λ _=>by kernel_rfl⟩
noncomputable def ane_spec_l07Make:An:=.q .z (.q .z (.m [(.normal,⟨[(3, .s K6 [(0,3)])],[.f, .f, .d, .o]⟩)] [0,2] [0,1] .z (.q .z (.q .z (.q .z (.q .z (.m [(.normal,⟨[(7, .s K3 [])],[.v K4 [], .f, .d, .d, .d, .d, .f, .d, .f, .f]⟩)] [0,2,6] [1,6,8,9] .z (.m [(.normal,⟨[],[.v K4 [], .f, .d, .d, .d, .d, .o, .d, .o, .v K13 [(0,6),(1,8),(2,10)], .o]⟩)] [0,2,6,7] [1] (.q .z (.b (.l ⟨[(0, .c (.one (.ptr 0 0))),(2, .c (.one (.ptr 1 0))),(6, .c (.one (.ptr 9 0))),(7, .s K3 [])],[.n, .c [.emp, .emp, .emp], .n, .n, .n, .n, .n, .n, .n, .n, .n]⟩ ⟨[(8, .s K3 [])],[.v K4 [], .f, .d, .d, .d, .d, .o, .d, .o, .v K13 [(0,6),(1,8),(2,10)], .o]⟩ [(.exit 0,⟨[],[.v K4 [], .f, .d, .d, .d, .d, .o, .d, .o, .v K13 [(0,6),(1,8),(2,10)], .o]⟩)] (λ n_14 k (i_20,x_21,x_22)=>g_spec_l07Make_l0 n_14 k i_20 x_21 x_22) .z))) .z))))))))
theorem ke_spec_l07Make:CK [e_spec_l04Cells,e_spec_ParseCells,e_spec_l01Below,e_spec_l01Once,e_spec_l04Some] 1 ane_spec_l07Make Try.f38 e_spec_l07Make:=⟨⟨trivial,⟨trivial,⟨trivial,⟨trivial,⟨trivial,⟨trivial,⟨trivial,⟨trivial,⟨⟨trivial,⟨λ _ _=>rfl,λ _ _ _ _=>by kernel_rfl,trivial⟩⟩,trivial⟩⟩⟩⟩⟩⟩⟩⟩⟩,λ _=>by kernel_rfl⟩
noncomputable def ane_spec_l04Any:An:=.q .z (.q .z (.m [(.normal,⟨[],[.v K4 [], .v K11 [], .v K11 []]⟩),(.ret,⟨[],[.v K4 [], .v K11 [], .v K11 []]⟩)] [0,2,3] [] .z .z))
theorem ke_spec_l04Any:CK [e_spec_l04Some,e_spec_l01Below,e_spec_l01Word,e_spec_l01Pick] 1 ane_spec_l04Any Try.f39 e_spec_l04Any:=⟨⟨trivial,⟨trivial,⟨trivial,trivial⟩⟩⟩,λ _=>by kernel_rfl⟩
noncomputable def ane_spec_l07Any:An:=.q .z (.q .z (.m [(.normal,⟨[],[.v K4 [], .f, .d, .o, .d, .v K13 [(0,6),(1,3),(2,7)], .o, .o]⟩)] [0,2,3] [1] (.q .z (.b (.q .z (.q .z (.q .z (.q .z (.q .z (.q (.b (.l ⟨[(0, .c (.one (.ptr 0 0))),(2, .c (.one (.ptr 1 0))),(3, .c (.one (.ptr 5 0)))],[.n, .c [.emp, .emp, .emp], .n, .n, .n, .n, .n]⟩ ⟨[],[.v K4 [], .f, .o, .o, .d, .v K13 [(0,2),(1,3),(2,6)], .o]⟩ [(.exit 1,⟨[],[.v K4 [], .f, .o, .o, .d, .v K13 [(0,2),(1,3),(2,6)], .o]⟩)] (λ _ k (x_12,x_13)=>g_spec_l07Any_l0 k x_12 x_13) .z)) .z)))))))) .z))
theorem ke_spec_l07Any:CK [e_spec_l07Make,e_spec_l01Below,e_spec_l04Any] 1 ane_spec_l07Any Try.f20 e_spec_l07Any:=⟨⟨trivial,⟨trivial,⟨⟨trivial,⟨trivial,⟨trivial,⟨trivial,⟨trivial,⟨trivial,⟨⟨λ _ _=>rfl,λ _ _ _ _=>by kernel_rfl,trivial⟩,trivial⟩⟩⟩⟩⟩⟩⟩,trivial⟩⟩⟩,λ _=>by kernel_rfl⟩
noncomputable def ane_spec_l07Key:An:=.q .z (.q .z (.m [(.normal,⟨[],[.v K4 [], .f, .v K14 []]⟩)] [0,2,3] [1] (.m [(.normal,⟨[(13, .s K2 [])],[.v K4 [], .f, .f]⟩)] [] [2] .z .z) (.m [(.normal,⟨[],[.v K4 [], .f, .v K14 []]⟩)] [0,2,3] [1] .z .z)))
theorem ke_spec_l07Key:CK [e_spec_l01Below,e_spec_l01Once,e_spec_l04Any] 1 ane_spec_l07Key Try.f21 e_spec_l07Key:=⟨⟨trivial,⟨trivial,⟨⟨trivial,trivial⟩,⟨trivial,trivial⟩⟩⟩⟩,λ _=>by kernel_rfl⟩
noncomputable def ane_spec_DrawPressAll:An:=.q .z (.q .z (.q .z (.q .z (.q .z (.m [(.normal,⟨[(6, .s K15 [(0,7)])],[.f, .v K4 [], .f, .f, .f, .f, .d, .o]⟩)] [2,3,4,5,7] [0,2,3,4,5] (.q .z (.b (.l ⟨[(2, .c (.one (.ptr 0 0))),(3, .c (.one (.emp))),(4, .c (.one (.ptr 1 0))),(5, .c (.one (.ptr 5 0))),(7, .s K3 [])],[.c [.emp, .emp, .emp], .n, .o, .o, .o, .v K13 [(0,2),(1,3),(2,4)], .n, .n]⟩ ⟨[(6, .s K15 [(0,7)]),(8, .s K3 [])],[.f, .v K4 [], .f, .f, .f, .f, .d, .o]⟩ [(.exit 0,⟨[(6, .s K15 [(0,7)])],[.f, .v K4 [], .f, .f, .f, .f, .d, .o]⟩)] (λ (n_9,_) k (keys_11,i_12,x_13)=>g_spec_DrawPressAll_l0 n_9 k keys_11 i_12 x_13) .z))) .z)))))
theorem ke_spec_DrawPressAll:CK [e_spec_l01New,e_spec_l07Any,e_spec_l01Below,e_spec_l07Key] 0 ane_spec_DrawPressAll Try.f16 e_spec_DrawPressAll:=⟨⟨trivial,⟨trivial,⟨trivial,⟨trivial,⟨trivial,⟨⟨trivial,⟨λ _ _=>rfl,λ _ _ _ _=>by kernel_rfl,trivial⟩⟩,trivial⟩⟩⟩⟩⟩⟩,λ _=>by kernel_rfl⟩
end Go.Proofs.Ytjdhhpolllkbbaa
namespace Go.Proofs.Ytjdhhpolllkbbaa
open Go Go.Fm
set_option maxRecDepth 1000000
noncomputable def ane_impl_nameTag:An:=.z
theorem ke_impl_nameTag:CK [] 0 ane_impl_nameTag Try.f63 e_impl_nameTag:=⟨trivial,λ _=>by kernel_rfl⟩
noncomputable def ane_impl_letters:An:=.z
theorem ke_impl_letters:CK [] 0 ane_impl_letters Try.f105 e_impl_letters:=⟨trivial,λ _=>by kernel_rfl⟩
theorem fe_ibytealg_IndexByteString:ConOk Try.prog e_ibytealg_IndexByteString:=index_ok (fn:=Try.f107) Try.func107 (by kernel_rfl) (by kernel_rfl) (by kernel_rfl) (by kernel_rfl)
noncomputable def ane_istringslite_IndexByte:An:=.z
theorem ke_istringslite_IndexByte:CK [e_ibytealg_IndexByteString] 0 ane_istringslite_IndexByte Try.f106 e_istringslite_IndexByte:=⟨trivial,λ _=>by kernel_rfl⟩
noncomputable def ane_strings_IndexByte:An:=.z
theorem ke_strings_IndexByte:CK [e_istringslite_IndexByte] 0 ane_strings_IndexByte Try.f104 e_strings_IndexByte:=⟨trivial,λ _=>by kernel_rfl⟩
noncomputable def ane_impl_LetterOf:An:=.z
theorem ke_impl_LetterOf:CK [e_impl_letters,e_strings_IndexByte] 0 ane_impl_LetterOf Try.f92 e_impl_LetterOf:=⟨trivial,λ _=>by kernel_rfl⟩
noncomputable def ane_impl_within:An:=.z
theorem ke_impl_within:CK [] 0 ane_impl_within Try.f93 e_impl_within:=⟨trivial,λ _=>by kernel_rfl⟩
noncomputable def ane_impl_NameOk:An:=.q .z (.m [(.normal,⟨[],[]⟩),(.ret,⟨[(2, .s K2 [])],[]⟩)] [0] [] (.q .z (.b (.l ⟨[(0, .s K9 []),(5, .s K3 [])],[]⟩ ⟨[(6, .s K3 [])],[]⟩ [(.exit 0,⟨[],[]⟩),(.ret,⟨[(2, .s K2 [])],[]⟩)] (λ (s_1,v_4) k v_5=>g_impl_NameOk_l0 s_1 v_4 k v_5) .z))) .z)
theorem ke_impl_NameOk:CK [e_impl_LetterOf,e_impl_within] 0 ane_impl_NameOk Try.f79 e_impl_NameOk:=⟨⟨trivial,⟨⟨trivial,⟨λ _ _=>rfl,λ _ _ _ _=>by kernel_rfl,trivial⟩⟩,trivial⟩⟩,λ _=>by kernel_rfl⟩
end Go.Proofs.Ytjdhhpolllkbbaa
namespace Go.Proofs.Ytjdhhpolllkbbaa
open Go Go.Fm
set_option maxRecDepth 1000000
noncomputable def ane_impl_WidthOf:An:=.z
theorem ke_impl_WidthOf:CK [e_impl_within] 0 ane_impl_WidthOf Try.f94 e_impl_WidthOf:=⟨trivial,λ _=>by kernel_rfl⟩
noncomputable def ane_impl_BitsOf:An:=.z
theorem ke_impl_BitsOf:CK [e_impl_WidthOf] 0 ane_impl_BitsOf Try.f95 e_impl_BitsOf:=⟨trivial,λ _=>by kernel_rfl⟩
noncomputable def ane_impl_PackOne:An:=.q .z (.q .z (.q .z (.m [(.normal,⟨[(4, .s K5 []),(6, .s K3 [])],[]⟩)] [0,2,3] [] (.q .z (.b (.l ⟨[(0, .s K9 []),(2, .s K5 []),(3, .s K3 []),(13, .s K3 [])],[]⟩ ⟨[(4, .s K5 []),(5, .s K3 []),(6, .s K3 []),(14, .s K3 [])],[]⟩ [(.exit 0,⟨[(4, .s K5 []),(6, .s K3 [])],[]⟩)] (λ (s_1,_,_,v_9) k (field_10,left_11,many_12,v_13)=>g_impl_PackOne_l0 s_1 v_9 k field_10 left_11 many_12 v_13) .z))) .z)))
theorem ke_impl_PackOne:CK [e_impl_NameOk,e_impl_LetterOf,e_impl_WidthOf,e_impl_BitsOf] 0 ane_impl_PackOne Try.f80 e_impl_PackOne:=⟨⟨trivial,⟨trivial,⟨trivial,⟨⟨trivial,⟨λ _ _=>rfl,λ _ _ _ _=>by kernel_rfl,trivial⟩⟩,trivial⟩⟩⟩⟩,λ _=>by kernel_rfl⟩
noncomputable def ane_impl_Pack:An:=.q .z (.q .z (.q (.b (.l ⟨[(2, .c (.one (.emp)))],[.n, .n]⟩ ⟨[(0, .s K9 []),(3, .s K6 [(0,1)])],[.d, .o]⟩ [(.exit 0,⟨[(3, .s K6 [(0,1)])],[.d, .o]⟩)] (λ _ k (s_3,out_4)=>g_impl_Pack_l0 k s_3 out_4) .z)) .z))
theorem ke_impl_Pack:CK [e_impl_NameOk,e_impl_PackOne] 0 ane_impl_Pack Try.f64 e_impl_Pack:=⟨⟨trivial,⟨trivial,⟨⟨λ _ _=>rfl,λ _ _ _ _=>by kernel_rfl,trivial⟩,trivial⟩⟩⟩,λ _=>by kernel_rfl⟩
noncomputable def ane_impl_numberCells:An:=.q .z (.q .z (.m [(.normal,⟨[(9, .s K5 [])],[]⟩)] [0,1,2,3,8] [] .z (.q (.m [(.normal,⟨[(16, .s K2 [])],[]⟩)] [0,2,3,8,9] [] .z .z) .z)))
theorem ke_impl_numberCells:CK [] 0 ane_impl_numberCells Try.f65 e_impl_numberCells:=⟨⟨trivial,⟨trivial,⟨trivial,⟨⟨trivial,trivial⟩,trivial⟩⟩⟩⟩,λ _=>by kernel_rfl⟩
noncomputable def ane_impl_CellsOf:An:=.q .z (.q .z (.m [(.normal,⟨[],[.f]⟩),(.ret,⟨[(2, .s K6 [(0,1)])],[.f, .o]⟩)] [1] [0] (.b (.m [(.normal,⟨[(11, .s K2 [])],[.f]⟩)] [2,3] [] .z (.q (.q .z (.m [(.normal,⟨[(4, .s K6 [(0,2)])],[.f, .d, .o]⟩)] [2] [] (.q .z (.b (.l ⟨[(1, .c (.one (.ptr 0 0))),(2, .c (.one (.emp))),(26, .s K6 [(0,2)]),(27, .s K3 [])],[.v K11 [], .n, .o, .n]⟩ ⟨[(3, .s K5 []),(4, .s K6 [(0,3)]),(28, .s K3 [])],[.f, .d, .f, .o]⟩ [(.exit 1,⟨[(4, .s K6 [(0,3)])],[.f, .d, .f, .o]⟩)] (λ (v_8,v_9,_) k (tag_10,out_11,v_12)=>g_impl_CellsOf_l0 v_8 v_9 k tag_10 out_11 v_12) .z))) .z)) .z))) .z))
theorem ke_impl_CellsOf:CK [e_impl_nameTag,e_impl_Pack,e_impl_numberCells] 0 ane_impl_CellsOf Try.f46 e_impl_CellsOf:=⟨⟨trivial,⟨trivial,⟨⟨trivial,⟨⟨trivial,⟨⟨trivial,⟨λ _ _=>rfl,λ _ _ _ _=>by kernel_rfl,trivial⟩⟩,trivial⟩⟩,trivial⟩⟩,trivial⟩⟩⟩,λ _=>by kernel_rfl⟩
noncomputable def ane_impl_ItemOk:An:=.z
theorem ke_impl_ItemOk:CK [e_impl_CellsOf] 0 ane_impl_ItemOk Try.f27 e_impl_ItemOk:=⟨trivial,λ _=>by kernel_rfl⟩
noncomputable def ane_impl_EdOkc1:An:=.z
theorem ke_impl_EdOkc1:CK [e_impl_ItemOk] 0 ane_impl_EdOkc1 Try.f26 e_impl_EdOkc1:=⟨trivial,λ _=>by kernel_rfl⟩
end Go.Proofs.Ytjdhhpolllkbbaa
namespace Go.Proofs.Ytjdhhpolllkbbaa
open Go Go.Fm
set_option maxRecDepth 1000000
noncomputable def ane_slices_IndexFunc_Item_impl_EdOkc1:An:=.q .z (.m [(.normal,⟨[],[]⟩),(.ret,⟨[(4, .s K3 [])],[]⟩)] [0,1] [] (.q .z (.b (.l ⟨[(0, .s K12 []),(1, .c (.one (.fn 26 []))),(7, .s K3 [])],[]⟩ ⟨[(8, .s K3 [])],[]⟩ [(.exit 0,⟨[],[]⟩),(.ret,⟨[(4, .s K3 [])],[]⟩)] (λ (s_1,v_4) k v_5=>g_slices_IndexFunc_Item_impl_EdOkc1_l0 s_1 v_4 k v_5) .z))) .z)
theorem ke_slices_IndexFunc_Item_impl_EdOkc1:CK [e_impl_EdOkc1] 0 ane_slices_IndexFunc_Item_impl_EdOkc1 Try.f45 e_slices_IndexFunc_Item_impl_EdOkc1:=⟨⟨trivial,⟨⟨trivial,⟨λ _ _=>rfl,λ _ _ _ _=>by kernel_rfl,trivial⟩⟩,trivial⟩⟩,λ _=>by kernel_rfl⟩
noncomputable def ane_slices_ContainsFunc_Item_impl_EdOkc1:An:=.z
theorem ke_slices_ContainsFunc_Item_impl_EdOkc1:CK [e_slices_IndexFunc_Item_impl_EdOkc1] 0 ane_slices_ContainsFunc_Item_impl_EdOkc1 Try.f25 e_slices_ContainsFunc_Item_impl_EdOkc1:=⟨trivial,λ _=>by kernel_rfl⟩
noncomputable def ane_slices_Grow_Item_emp:An:=.q .z (.m [(.normal,⟨[],[]⟩)] [0,1,4] [] .z (.m [(.normal,⟨[(0, .s K12 [(0,0)])],[.o]⟩)] [4] [] .z .z))
theorem ke_slices_Grow_Item_emp:CK [] 0 ane_slices_Grow_Item_emp Try.f67 e_slices_Grow_Item_emp:=⟨⟨trivial,⟨trivial,⟨trivial,trivial⟩⟩⟩,λ _=>by kernel_rfl⟩
noncomputable def ane_slices_Concat_Item:An:=.q .z (.q .z (.m [(.normal,⟨[(3, .s K3 [])],[]⟩)] [0,2] [] (.q .z (.b (.l ⟨[(0, .s K16 []),(2, .c (.one (.emp))),(9, .s K16 []),(10, .s K3 [])],[]⟩ ⟨[(3, .s K3 []),(11, .s K3 [])],[]⟩ [(.exit 0,⟨[(3, .s K3 [])],[]⟩)] (λ (_,v_4,v_5) k (size_6,v_7)=>g_slices_Concat_Item_l0 v_4 v_5 k size_6 v_7) (.q .z (.q .z (.m [(.normal,⟨[(3, .s K3 [])],[]⟩)] [11] [] .z .z)))))) (.q .z (.m [(.normal,⟨[(6, .s K12 [(0,1)])],[.d, .o]⟩)] [0,2] [] (.q .z (.b (.l ⟨[(0, .s K16 []),(2, .c (.one (.emp))),(25, .s K16 []),(26, .s K3 [])],[.n, .n]⟩ ⟨[(6, .s K12 [(0,1)]),(27, .s K3 [])],[.d, .o]⟩ [(.exit 2,⟨[(6, .s K12 [(0,1)])],[.d, .o]⟩)] (λ (_,v_13,v_14) k (newslice_15,v_16)=>g_slices_Concat_Item_l1 v_13 v_14 k newslice_15 v_16) .z))) .z))))
theorem ke_slices_Concat_Item:CK [e_slices_Grow_Item_emp] 0 ane_slices_Concat_Item Try.f49 e_slices_Concat_Item:=⟨⟨trivial,⟨trivial,⟨⟨trivial,⟨λ _ _=>rfl,λ _ _ _ _=>by kernel_rfl,⟨trivial,⟨trivial,⟨trivial,trivial⟩⟩⟩⟩⟩,⟨trivial,⟨⟨trivial,⟨λ _ _=>rfl,λ _ _ _ _=>by kernel_rfl,trivial⟩⟩,trivial⟩⟩⟩⟩⟩,λ _=>by kernel_rfl⟩
noncomputable def ane_impl_edItems:An:=.z
theorem ke_impl_edItems:CK [e_slices_Concat_Item] 0 ane_impl_edItems Try.f29 e_impl_edItems:=⟨trivial,λ _=>by kernel_rfl⟩
noncomputable def ane_impl_Unparse:An:=.q .z (.q .z (.m [(.normal,⟨[(4, .s K6 [(0,1)])],[.d, .o]⟩),(.ret,⟨[(2, .c (.one (.emp))),(3, .s K2 [])],[.d]⟩)] [0] [] (.q .z (.b (.l ⟨[(0, .s K12 []),(9, .s K12 []),(10, .s K3 [])],[.n, .n]⟩ ⟨[(4, .s K6 [(0,1)]),(11, .s K3 [])],[.d, .o]⟩ [(.exit 0,⟨[(4, .s K6 [(0,1)])],[.d, .o]⟩),(.ret,⟨[(2, .c (.one (.emp))),(3, .s K2 [])],[.d, .d]⟩)] (λ (_,v_6,v_7) k (out_8,v_9)=>g_impl_Unparse_l0 v_6 v_7 k out_8 v_9) (.q .z (.q .z (.q (.b (.q .z (.q .z (.q .z (.m [(.normal,⟨[(27, .s K2 [])],[.d, .d, .d, .f, .f]⟩)] [4,7,11] [3,4] .z .z))))) .z)))))) .z))
theorem ke_impl_Unparse:CK [e_impl_CellsOf] 0 ane_impl_Unparse Try.f36 e_impl_Unparse:=⟨⟨trivial,⟨trivial,⟨⟨trivial,⟨λ _ _=>rfl,λ _ _ _ _=>by kernel_rfl,⟨trivial,⟨trivial,⟨⟨trivial,⟨trivial,⟨trivial,⟨trivial,trivial⟩⟩⟩⟩,trivial⟩⟩⟩⟩⟩,trivial⟩⟩⟩,λ _=>by kernel_rfl⟩
noncomputable def ane_impl_Decode:An:=.q .z (.q .z (.m [(.normal,⟨[],[]⟩),(.ret,⟨[(4, .s K3 []),(5, .s K3 [])],[]⟩)] [0,1] [] (.q .z (.b (.l ⟨[(0, .s K5 []),(1, .s K3 [])],[]⟩ ⟨[(11, .s K3 [])],[]⟩ [(.exit 0,⟨[],[]⟩),(.ret,⟨[(4, .s K3 []),(5, .s K3 [])],[]⟩)] (λ (bits_1,n_2) k v_8=>g_impl_Decode_l0 bits_1 n_2 k v_8) (.q .z (.q .z (.q (.b (.q .z (.q .z (.m [(.normal,⟨[(32, .s K2 [])],[]⟩)] [6,7,11] [] .z .z)))) .z)))))) .z))
theorem ke_impl_Decode:CK [e_impl_within,e_impl_WidthOf,e_impl_BitsOf] 0 ane_impl_Decode Try.f96 e_impl_Decode:=⟨⟨trivial,⟨trivial,⟨⟨trivial,⟨λ _ _=>rfl,λ _ _ _ _=>by kernel_rfl,⟨trivial,⟨trivial,⟨⟨trivial,⟨trivial,⟨trivial,trivial⟩⟩⟩,trivial⟩⟩⟩⟩⟩,trivial⟩⟩⟩,λ _=>by kernel_rfl⟩
noncomputable def ane_impl_LetterAt:An:=.z
theorem ke_impl_LetterAt:CK [e_impl_within,e_impl_letters] 0 ane_impl_LetterAt Try.f97 e_impl_LetterAt:=⟨trivial,λ _=>by kernel_rfl⟩
end Go.Proofs.Ytjdhhpolllkbbaa
namespace Go.Proofs.Ytjdhhpolllkbbaa
open Go Go.Fm
set_option maxRecDepth 1000000
noncomputable def ane_impl_UnpackOne:An:=.q .z (.q .z (.q .z (.q (.b (.l ⟨[(0, .s K5 []),(2, .s K9 [])],[.n, .n]⟩ ⟨[(3, .s K1 [(0,1)]),(4, .s K3 [])],[.d, .o]⟩ [(.exit 0,⟨[(3, .s K1 [(0,1)])],[.d, .o]⟩)] (λ (f_1,_) k (out_4,left_5)=>g_impl_UnpackOne_l0 f_1 k out_4 left_5) .z)) .z)))
theorem ke_impl_UnpackOne:CK [e_impl_Decode,e_impl_LetterAt] 0 ane_impl_UnpackOne Try.f85 e_impl_UnpackOne:=⟨⟨trivial,⟨trivial,⟨trivial,⟨⟨λ _ _=>rfl,λ _ _ _ _=>by kernel_rfl,trivial⟩,trivial⟩⟩⟩⟩,λ _=>by kernel_rfl⟩
noncomputable def ane_slices_Equal_uint32:An:=.q .z (.q .z (.m [(.normal,⟨[],[]⟩),(.ret,⟨[(4, .s K2 [])],[]⟩)] [0,1] [] (.q .z (.b (.l ⟨[(0, .s K6 []),(1, .s K6 []),(12, .s K3 [])],[]⟩ ⟨[(13, .s K3 [])],[]⟩ [(.exit 0,⟨[],[]⟩),(.ret,⟨[(4, .s K2 [])],[]⟩)] (λ (s1_1,s2_2,v_5) k v_6=>g_slices_Equal_uint32_l0 s1_1 s2_2 v_5 k v_6) .z))) .z))
theorem ke_slices_Equal_uint32:CK [] 0 ane_slices_Equal_uint32 Try.f83 e_slices_Equal_uint32:=⟨⟨trivial,⟨trivial,⟨⟨trivial,⟨λ _ _=>rfl,λ _ _ _ _=>by kernel_rfl,trivial⟩⟩,trivial⟩⟩⟩,λ _=>by kernel_rfl⟩
noncomputable def ane_impl_Unpack:An:=.q .z (.q .z (.q .z (.m [(.normal,⟨[(4, .s K9 [])],[]⟩)] [0,2,3] [] (.q .z (.b (.l ⟨[(0, .s K6 []),(2, .s K9 []),(3, .s K2 []),(10, .s K6 []),(11, .s K3 [])],[]⟩ ⟨[(4, .s K9 []),(12, .s K3 [])],[]⟩ [(.exit 0,⟨[(4, .s K9 [])],[]⟩)] (λ (_,_,_,v_7,v_8) k (name_9,v_10)=>g_impl_Unpack_l0 v_7 v_8 k name_9 v_10) .z))) (.q (.m [(.normal,⟨[(30, .s K2 [])],[]⟩)] [0,2,3,4] [] .z .z) .z))))
theorem ke_impl_Unpack:CK [e_impl_UnpackOne,e_impl_NameOk,e_impl_Pack,e_slices_Equal_uint32] 0 ane_impl_Unpack Try.f81 e_impl_Unpack:=⟨⟨trivial,⟨trivial,⟨trivial,⟨⟨trivial,⟨λ _ _=>rfl,λ _ _ _ _=>by kernel_rfl,trivial⟩⟩,⟨⟨trivial,trivial⟩,trivial⟩⟩⟩⟩⟩,λ _=>by kernel_rfl⟩
noncomputable def ane_impl_nameKind:An:=.q .z (.m [(.normal,⟨[],[]⟩),(.ret,⟨[(2, .s K3 [])],[]⟩)] [0] [] (.q .z (.b (.l ⟨[(0, .s K5 [])],[]⟩ ⟨[(3, .s K3 [])],[]⟩ [(.exit 0,⟨[],[]⟩),(.ret,⟨[(2, .s K3 [])],[]⟩)] (λ tag_1 k kind_4=>g_impl_nameKind_l0 tag_1 k kind_4) .z))) .z)
theorem ke_impl_nameKind:CK [e_impl_nameTag] 0 ane_impl_nameKind Try.f82 e_impl_nameKind:=⟨⟨trivial,⟨⟨trivial,⟨λ _ _=>rfl,λ _ _ _ _=>by kernel_rfl,trivial⟩⟩,trivial⟩⟩,λ _=>by kernel_rfl⟩
noncomputable def ane_impl_FieldOk:An:=.z
theorem ke_impl_FieldOk:CK [e_impl_UnpackOne,e_impl_Pack,e_slices_Equal_uint32] 0 ane_impl_FieldOk Try.f84 e_impl_FieldOk:=⟨trivial,λ _=>by kernel_rfl⟩
noncomputable def ane_impl_parseOne:An:=.q .z (.q .z (.q .z (.m [(.normal,⟨[],[.f, .v K11 []]⟩)] [0,2,3,4,5] [0] (.q .z (.b (.m [(.normal,⟨[(22, .s K2 [])],[.f, .f]⟩)] [21] [1] .z (.q (.q .z (.m [(.normal,⟨[(6, .s K6 [(0,3)])],[.f, .f, .d, .o]⟩)] [] [1] (.q .z (.b (.l ⟨[(0, .s K6 []),(2, .c (.one (.ptr 0 0))),(3, .s K5 []),(4, .s K5 []),(5, .c (.one (.ptr 1 0))),(33, .s K6 []),(34, .s K3 [])],[.v K11 [], .v K11 [], .n, .n]⟩ ⟨[(6, .s K6 [(0,3)]),(35, .s K3 [])],[.f, .f, .d, .o]⟩ [(.exit 1,⟨[(6, .s K6 [(0,3)])],[.f, .f, .d, .o]⟩)] (λ (_,_,_,v_8,v_10,_,_) k (fields_13,v_14)=>g_impl_parseOne_l0 v_8 v_10 k fields_13 v_14) (.q .z (.q .z (.q (.b (.q .z (.q (.m [(.normal,⟨[(45, .s K2 [])],[.f, .f, .d, .f]⟩)] [6,8,35] [3] .z .z) .z))) .z)))))) .z)) (.q .z (.q .z (.q .z (.q .z (.m [(.normal,⟨[(80, .s K2 [])],[.f, .f]⟩)] [21] [1] .z (.q (.q .z (.q .z (.m [(.normal,⟨[],[.f, .f, .v K11 []]⟩)] [11] [1] .z .z))) (.q .z (.q (.m [(.normal,⟨[(112, .s K2 [])],[.f, .f]⟩)] [] [1] .z .z) .z)))))))))))) .z)))
theorem ke_impl_parseOne:CK [e_impl_Unpack,e_impl_nameKind,e_impl_CellsOf,e_slices_Equal_uint32,e_impl_FieldOk,e_impl_UnpackOne] 0 ane_impl_parseOne Try.f66 e_impl_parseOne:=⟨⟨trivial,⟨trivial,⟨trivial,⟨⟨trivial,⟨trivial,⟨⟨trivial,⟨⟨trivial,⟨λ _ _=>rfl,λ _ _ _ _=>by kernel_rfl,⟨trivial,⟨trivial,⟨⟨trivial,⟨⟨trivial,trivial⟩,trivial⟩⟩,trivial⟩⟩⟩⟩⟩,trivial⟩⟩,⟨trivial,⟨trivial,⟨trivial,⟨trivial,⟨trivial,⟨⟨trivial,⟨trivial,⟨trivial,trivial⟩⟩⟩,⟨trivial,⟨⟨trivial,trivial⟩,trivial⟩⟩⟩⟩⟩⟩⟩⟩⟩⟩⟩,trivial⟩⟩⟩⟩,λ _=>by kernel_rfl⟩
noncomputable def ane_impl_ParseCells:An:=.q .z (.q .z (.q .z (.q (.b (.l ⟨[(2, .c (.one (.emp)))],[.n, .n]⟩ ⟨[(0, .s K6 []),(3, .s K12 [(0,1)])],[.d, .o]⟩ [(.exit 0,⟨[(3, .s K12 [(0,1)])],[.d, .o]⟩)] (λ _ k (cells_3,out_4)=>g_impl_ParseCells_l0 k cells_3 out_4) .z)) (.m [(.normal,⟨[(3, .s K12 [(0,2)])],[.d, .d, .o]⟩)] [2] [] (.q .z (.b (.l ⟨[(2, .c (.one (.emp)))],[.n, .n, .n]⟩ ⟨[(3, .s K12 [(0,2)]),(5, .s K3 [])],[.d, .d, .o]⟩ [(.exit 2,⟨[(3, .s K12 [(0,2)])],[.d, .d, .o]⟩)] (λ _ k (out_11,n_12)=>g_impl_ParseCells_l1 k out_11 n_12) (.q (.m [(.normal,⟨[(36, .s K2 [])],[.d, .d, .f]⟩)] [3,5] [2] .z .z) .z)))) .z))))
theorem ke_impl_ParseCells:CK [e_impl_parseOne,e_impl_CellsOf] 0 ane_impl_ParseCells Try.f48 e_impl_ParseCells:=⟨⟨trivial,⟨trivial,⟨trivial,⟨⟨λ _ _=>rfl,λ _ _ _ _=>by kernel_rfl,trivial⟩,⟨⟨trivial,⟨λ _ _=>rfl,λ _ _ _ _=>by kernel_rfl,⟨⟨trivial,trivial⟩,trivial⟩⟩⟩,trivial⟩⟩⟩⟩⟩,λ _=>by kernel_rfl⟩
noncomputable def ane_slices_Equal_Item:An:=.q .z (.q .z (.m [(.normal,⟨[],[]⟩),(.ret,⟨[(4, .s K2 [])],[]⟩)] [0,1] [] (.q .z (.b (.l ⟨[(0, .s K12 []),(1, .s K12 []),(12, .s K3 [])],[]⟩ ⟨[(13, .s K3 [])],[]⟩ [(.exit 0,⟨[],[]⟩),(.ret,⟨[(4, .s K2 [])],[]⟩)] (λ (s1_1,s2_2,v_5) k v_6=>g_slices_Equal_Item_l0 s1_1 s2_2 v_5 k v_6) .z))) .z))
theorem ke_slices_Equal_Item:CK [] 0 ane_slices_Equal_Item Try.f47 e_slices_Equal_Item:=⟨⟨trivial,⟨trivial,⟨⟨trivial,⟨λ _ _=>rfl,λ _ _ _ _=>by kernel_rfl,trivial⟩⟩,trivial⟩⟩⟩,λ _=>by kernel_rfl⟩
end Go.Proofs.Ytjdhhpolllkbbaa
namespace Go.Proofs.Ytjdhhpolllkbbaa
open Go Go.Fm
set_option maxRecDepth 1000000
noncomputable def ane_impl_ListOk:An:=.z
theorem ke_impl_ListOk:CK [e_impl_Unparse,e_impl_ParseCells,e_slices_Equal_Item] 0 ane_impl_ListOk Try.f28 e_impl_ListOk:=⟨trivial,λ _=>by kernel_rfl⟩
noncomputable def ane_impl_EdOk:An:=.z
theorem ke_impl_EdOk:CK [e_slices_ContainsFunc_Item_impl_EdOkc1,e_impl_edItems,e_impl_ListOk] 0 ane_impl_EdOk Try.f9 e_impl_EdOk:=⟨trivial,λ _=>by kernel_rfl⟩
theorem fe_slices_Clone_Item:ConOk Try.prog e_slices_Clone_Item:=clone_own (P:=λ _=>Try.prog) (τ:=K11) TryT_eq Try.func52 rfl rfl ⟨by kernel_rfl,by kernel_rfl,by kernel_rfl⟩ (congrArg TyI.kind TryT_24) (λ a=>by kernel_rfl)
noncomputable def ane_impl_ownEd:An:=.z
theorem ke_impl_ownEd:CK [e_slices_Clone_Item] 0 ane_impl_ownEd Try.f31 e_impl_ownEd:=⟨trivial,λ _=>by kernel_rfl⟩
def insRen_50:Go.Shelf.Ren:=⟨fun|22=>50|29=>68|30=>69|n=>n,fun|24=>24|9=>29|3=>3|4=>4|0=>0|n=>n,λ n=>n⟩
noncomputable def insZ_50:Value:=((Try.prog.info? 29).bind (·.zero)).getD (.bool false)
noncomputable def insB_50:Nat:=((Try.prog.info? 29).map (·.bytes)).getD 0
theorem insL_50:InsL Try.prog insRen_50 Try.f50.name (Ty.size K11) insB_50 insZ_50 where
 mixed:=by kernel_rfl
 f22:=Try.func50.trans (congrArg some (by kernel_rfl))
 hn:=by kernel_rfl
 ov:=λ a b w=>Go.run_callFunc_extern Try.func68 (by kernel_rfl) (by kernel_rfl) (by kernel_rfl) (e:=Extern.SlicesOverlaps.overlaps #[24,24] #[4]) (by kernel_rfl) #[a,b] w
 t3:=Try.underlying3
 a3:=Try.isAgg3
 z3:=Try.sizeOf3
 v3:=Try.zeroValue3
 t4:=Try.underlying4
 a4:=Try.isAgg4
 z4:=Try.sizeOf4
 v4:=Try.zeroValue4
 t24:=Try.underlying24
 a24:=Try.isAgg24
 z24:=Try.sizeOf24
 v24:=Try.zeroValue24
 z9:=Try.sizeOf29
 i9:=insInfo (by kernel_rfl)
theorem fe_slices_Insert_Item:ConOk Try.prog e_slices_Insert_Item:=ins_ok insL_50 (of_decide_eq_true (by kernel_rfl)) (of_decide_eq_true (by kernel_rfl)) (by kernel_rfl) (by kernel_rfl) rfl (flat_len (encOk K11).len)
noncomputable def ane_impl_Recolor:An:=.q .z (.m [(.normal,⟨[(6, .s K2 [])],[.f, .f]⟩)] [1,2,4,5] [0,1] .z (.m [(.normal,⟨[(7, .s K2 [])],[.f, .f]⟩)] [1,2,4,5,6] [0,1] .z (.q (.m [(.normal,⟨[(49, .s K2 [])],[.f, .f]⟩)] [1,2,4,5,6,7] [0,1] .z .z) .z)))
theorem ke_impl_Recolor:CK [e_impl_nameTag,e_impl_ItemOk] 0 ane_impl_Recolor Try.f51 e_impl_Recolor:=⟨⟨trivial,⟨trivial,⟨trivial,⟨⟨trivial,trivial⟩,trivial⟩⟩⟩⟩,λ _=>by kernel_rfl⟩
noncomputable def ane_impl_pressed:An:=.q .z (.q .z (.m [(.normal,⟨[],[.f, .f, .v K13 [(0,7),(1,8),(2,9)], .d, .d, .d, .v K13 [(0,10),(1,11),(2,12)], .o, .o, .o, .o, .o, .o]⟩),(.ret,⟨[(5, .s K2 [])],[.f, .f, .v K13 [], .o, .o, .o, .v K13 [(0,3),(1,4),(2,5)]]⟩)] [2,3,4,6,7] [0,1] .z .z))
theorem ke_impl_pressed:CK [e_impl_ownEd,e_slices_Insert_Item,e_impl_edItems,e_impl_Recolor,e_impl_EdOk] 0 ane_impl_pressed Try.f30 e_impl_pressed:=⟨⟨trivial,⟨trivial,⟨trivial,trivial⟩⟩⟩,λ _=>by kernel_rfl⟩
noncomputable def ane_impl_PressAll:An:=.q .z (.q .z (.q .z (.q .z (.m [(.normal,⟨[(6, .s K3 [])],[.v K13 [], .f, .d, .d, .d]⟩)] [1,2,4,5] [1] (.q .z (.b (.l ⟨[(1, .s K15 []),(2, .c (.one (.ptr 0 0))),(4, .c (.one (.ptr 1 0))),(5, .s K3 []),(19, .s K15 []),(20, .s K3 [])],[.n, .c [.emp, .emp, .emp], .n, .n, .n]⟩ ⟨[(6, .s K3 []),(21, .s K3 [])],[.v K13 [], .f, .d, .d, .d]⟩ [(.exit 0,⟨[(6, .s K3 [])],[.v K13 [], .f, .d, .d, .d]⟩)] (λ (_,_,v_10,v_11) k (refused_12,v_13,x_14)=>g_impl_PressAll_l0 v_10 v_11 k refused_12 v_13 x_14) (.q .z (.q .z (.m [(.normal,⟨[(6, .s K3 [])],[.v K13 [], .f, .d, .d, .d]⟩)] [21] [] .z .z)))))) .z))))
theorem ke_impl_PressAll:CK [e_impl_EdOk,e_impl_ownEd,e_impl_pressed] 0 ane_impl_PressAll Try.f17 e_impl_PressAll:=⟨⟨trivial,⟨trivial,⟨trivial,⟨trivial,⟨⟨trivial,⟨λ _ _=>rfl,λ _ _ _ _=>by kernel_rfl,⟨trivial,⟨trivial,⟨trivial,trivial⟩⟩⟩⟩⟩,trivial⟩⟩⟩⟩⟩,λ _=>by kernel_rfl⟩
end Go.Proofs.Ytjdhhpolllkbbaa
namespace Go.Proofs.Ytjdhhpolllkbbaa
open Go Go.Fm
set_option maxRecDepth 1000000
noncomputable def ane_spec_ItemOk:An:=.z
theorem ke_spec_ItemOk:CK [e_spec_CellsOf] 0 ane_spec_ItemOk Try.f22 e_spec_ItemOk:=⟨trivial,λ _=>by kernel_rfl⟩
noncomputable def ane_spec_l07All:An:=.q .z (.q (.m [(.normal,⟨[(12, .s K2 [])],[.f]⟩)] [1,2] [0] .z .z) .z)
theorem ke_spec_l07All:CK [] 0 ane_spec_l07All Try.f24 e_spec_l07All:=⟨⟨trivial,⟨⟨trivial,trivial⟩,trivial⟩⟩,λ _=>by kernel_rfl⟩
noncomputable def ane_spec_Unparse:An:=.q .z (.q .z (.m [(.normal,⟨[(4, .s K6 [(0,1)])],[.d, .o]⟩),(.ret,⟨[(2, .s K6 [(0,1)]),(3, .s K2 [])],[.d, .o]⟩)] [0] [] (.q .z (.b (.l ⟨[(0, .s K12 [])],[.n, .n]⟩ ⟨[(4, .s K6 [(0,1)]),(5, .s K3 [])],[.d, .o]⟩ [(.exit 0,⟨[(4, .s K6 [(0,1)])],[.d, .o]⟩),(.ret,⟨[(2, .s K6 [(0,2)]),(3, .s K2 [])],[.d, .d, .o]⟩)] (λ list_1 k (out_7,i_8)=>g_spec_Unparse_l0 list_1 k out_7 i_8) (.q .z (.q (.b (.q .z (.q (.m [(.normal,⟨[(29, .s K2 [])],[.d, .f, .f]⟩)] [4,5,6] [1,2] .z .z) .z))) .z))))) .z))
theorem ke_spec_Unparse:CK [e_spec_CellsOf] 0 ane_spec_Unparse Try.f42 e_spec_Unparse:=⟨⟨trivial,⟨trivial,⟨⟨trivial,⟨λ _ _=>rfl,λ _ _ _ _=>by kernel_rfl,⟨trivial,⟨⟨trivial,⟨⟨trivial,trivial⟩,trivial⟩⟩,trivial⟩⟩⟩⟩,trivial⟩⟩⟩,λ _=>by kernel_rfl⟩
noncomputable def ane_spec_l04Same:An:=.q .z (.q .z (.m [(.normal,⟨[],[]⟩),(.ret,⟨[(4, .s K2 [])],[]⟩)] [0,1] [] (.q .z (.b (.l ⟨[(0, .s K12 []),(1, .s K12 [])],[]⟩ ⟨[(5, .s K3 [])],[]⟩ [(.exit 0,⟨[],[]⟩),(.ret,⟨[(4, .s K2 [])],[]⟩)] (λ (a_1,b_2) k i_5=>g_spec_l04Same_l0 a_1 b_2 k i_5) .z))) .z))
theorem ke_spec_l04Same:CK [] 0 ane_spec_l04Same Try.f43 e_spec_l04Same:=⟨⟨trivial,⟨trivial,⟨⟨trivial,⟨λ _ _=>rfl,λ _ _ _ _=>by kernel_rfl,trivial⟩⟩,trivial⟩⟩⟩,λ _=>by kernel_rfl⟩
noncomputable def ane_spec_ListOk:An:=.z
theorem ke_spec_ListOk:CK [e_spec_Unparse,e_spec_ParseCells,e_spec_l04Same] 0 ane_spec_ListOk Try.f23 e_spec_ListOk:=⟨trivial,λ _=>by kernel_rfl⟩
noncomputable def ane_spec_EdOk:An:=.q .z (.q .z (.m [(.normal,⟨[],[.f]⟩),(.ret,⟨[(2, .s K2 [])],[.f]⟩)] [1] [0] (.q .z (.b (.l ⟨[(1, .c (.one (.ptr 0 0)))],[.v K13 []]⟩ ⟨[(3, .s K3 [])],[.f]⟩ [(.exit 0,⟨[],[.f]⟩),(.ret,⟨[(2, .s K2 [])],[.f]⟩)] (λ e_1 k i_4=>g_spec_EdOk_l0 e_1 k i_4) .z))) .z))
theorem ke_spec_EdOk:CK [e_spec_ItemOk,e_spec_l07All,e_spec_ListOk] 0 ane_spec_EdOk Try.f8 e_spec_EdOk:=⟨⟨trivial,⟨trivial,⟨⟨trivial,⟨λ _ _=>rfl,λ _ _ _ _=>by kernel_rfl,trivial⟩⟩,trivial⟩⟩⟩,λ _=>by kernel_rfl⟩
noncomputable def ane_spec_l07Copy:An:=.z
theorem ke_spec_l07Copy:CK [] 0 ane_spec_l07Copy Try.f32 e_spec_l07Copy:=⟨trivial,λ _=>by kernel_rfl⟩
noncomputable def ane_spec_l07Move:An:=.q .z (.q .z (.q .z (.m [(.normal,⟨[(7, .s K3 [])],[.f, .f, .f]⟩)] [1,2,4,5,6] [0,1,2] .z .z)))
theorem ke_spec_l07Move:CK [e_spec_l07All,e_spec_l01In] 0 ane_spec_l07Move Try.f34 e_spec_l07Move:=⟨⟨trivial,⟨trivial,⟨trivial,⟨trivial,trivial⟩⟩⟩⟩,λ _=>by kernel_rfl⟩
end Go.Proofs.Ytjdhhpolllkbbaa
namespace Go.Proofs.Ytjdhhpolllkbbaa
open Go Go.Fm
set_option maxRecDepth 1000000
noncomputable def ane_spec_Recolor:An:=.q .z (.m [(.normal,⟨[(6, .s K2 [])],[.f, .f]⟩)] [1,2,4,5] [0,1] .z (.m [(.normal,⟨[(7, .s K2 [])],[.f, .f]⟩)] [1,2,4,5,6] [0,1] .z (.q (.m [(.normal,⟨[(38, .s K2 [])],[.f, .f]⟩)] [1,2,4,5,6,7] [0,1] .z .z) .z)))
theorem ke_spec_Recolor:CK [e_spec_l01In,e_spec_ItemOk] 0 ane_spec_Recolor Try.f53 e_spec_Recolor:=⟨⟨trivial,⟨trivial,⟨trivial,⟨⟨trivial,trivial⟩,trivial⟩⟩⟩⟩,λ _=>by kernel_rfl⟩
noncomputable def ane_spec_l07Change:An:=.q .z (.q .z (.m [(.normal,⟨[],[.d, .o, .d, .v K13 [(0,6),(1,1),(2,7)], .f, .v K13 [(0,8),(1,9),(2,10)], .o, .o, .o, .o, .o]⟩),(.ret,⟨[(5, .s K2 [])],[.o, .o, .o, .v K13 [(0,0),(1,1),(2,2)], .f, .v K13 [(0,0),(1,1),(2,2)]]⟩)] [2,3,4,6,7] [4] (.b (.q .z (.q .z (.m [(.normal,⟨[(28, .s K2 [])],[.f, .f, .f, .f, .f, .f]⟩)] [5] [0,1,2,3,5] .z (.q .z (.m [(.normal,⟨[(53, .s K2 [])],[.f, .f, .f, .f, .f, .f]⟩)] [5] [0,1,2,3,5] .z (.q .z (.m [(.normal,⟨[(78, .s K2 [])],[.f, .f, .f, .f, .f, .f]⟩)] [5] [0,1,2,3,5] .z .z)))))))) .z))
theorem ke_spec_l07Change:CK [e_spec_Recolor] 3 ane_spec_l07Change Try.f35 e_spec_l07Change:=⟨⟨trivial,⟨trivial,⟨⟨trivial,⟨trivial,⟨trivial,⟨trivial,⟨trivial,⟨trivial,⟨trivial,trivial⟩⟩⟩⟩⟩⟩⟩,trivial⟩⟩⟩,λ _=>by kernel_rfl⟩
noncomputable def ane_spec_Press:An:=.q .z (.q .z (.q .z (.m [(.normal,⟨[(7, .s K2 [])],[.f, .f, .f, .d, .d, .d, .v K13 []]⟩)] [2,3,4,5,6] [0,1,2] .z (.q (.m [(.normal,⟨[(36, .s K2 [])],[.f, .d, .f, .d, .d, .d, .f]⟩)] [2,4,5,6,7] [0,2,6] .z .z) .z))))
theorem ke_spec_Press:CK [e_spec_EdOk,e_spec_l07Copy,e_spec_l01In,e_spec_l07Move,e_spec_l07Change] 0 ane_spec_Press Try.f12 e_spec_Press:=⟨⟨trivial,⟨trivial,⟨trivial,⟨trivial,⟨⟨trivial,trivial⟩,trivial⟩⟩⟩⟩⟩,λ _=>by kernel_rfl⟩
noncomputable def ane_spec_PressAll:An:=.q .z (.q .z (.q .z (.m [(.normal,⟨[(6, .s K3 [])],[.v K13 [], .f]⟩)] [1,2,4,5] [1] (.q .z (.b (.l ⟨[(1, .s K15 []),(2, .c (.one (.ptr 0 0))),(4, .c (.one (.ptr 1 0))),(5, .s K3 [])],[.n, .c [.emp, .emp, .emp]]⟩ ⟨[(6, .s K3 []),(7, .s K3 [])],[.v K13 [], .f]⟩ [(.exit 0,⟨[(6, .s K3 [])],[.v K13 [], .f]⟩)] (λ (keys_2,_) k (n_9,i_10,x_11)=>g_spec_PressAll_l0 keys_2 k n_9 i_10 x_11) (.q .z (.m [(.normal,⟨[(6, .s K3 [])],[.v K13 [], .f]⟩)] [7] [] (.b (.q .z (.m [(.normal,⟨[(6, .s K3 [])],[.f, .f, .f]⟩)] [8,9] [0,2] .z .z))) .z))))) .z)))
theorem ke_spec_PressAll:CK [e_spec_EdOk,e_spec_Press,e_spec_l07Copy] 0 ane_spec_PressAll Try.f18 e_spec_PressAll:=⟨⟨trivial,⟨trivial,⟨trivial,⟨⟨trivial,⟨λ _ _=>rfl,λ _ _ _ _=>by kernel_rfl,⟨trivial,⟨⟨trivial,⟨trivial,trivial⟩⟩,trivial⟩⟩⟩⟩,trivial⟩⟩⟩⟩,λ _=>by kernel_rfl⟩
noncomputable def ane_impl_Press:An:=.z
theorem ke_impl_Press:CK [e_impl_EdOk,e_impl_pressed,e_impl_ownEd] 0 ane_impl_Press Try.f10 e_impl_Press:=⟨trivial,λ _=>by kernel_rfl⟩
noncomputable def ane_laws_sameItems:An:=.q .z (.q .z (.m [(.normal,⟨[],[]⟩),(.ret,⟨[(4, .s K2 [])],[]⟩)] [0,1] [] (.q .z (.b (.l ⟨[(0, .s K12 []),(1, .s K12 [])],[]⟩ ⟨[(5, .s K3 [])],[]⟩ [(.exit 0,⟨[],[]⟩),(.ret,⟨[(4, .s K2 [])],[]⟩)] (λ (a_1,b_2) k i_5=>g_laws_sameItems_l0 a_1 b_2 k i_5) .z))) .z))
theorem ke_laws_sameItems:CK [] 0 ane_laws_sameItems Try.f11 e_laws_sameItems:=⟨⟨trivial,⟨trivial,⟨⟨trivial,⟨λ _ _=>rfl,λ _ _ _ _=>by kernel_rfl,trivial⟩⟩,trivial⟩⟩⟩,λ _=>by kernel_rfl⟩
noncomputable def ane_laws_sameEd:An:=.z
theorem ke_laws_sameEd:CK [e_laws_sameItems] 0 ane_laws_sameEd Try.f13 e_laws_sameEd:=⟨trivial,λ _=>by kernel_rfl⟩
noncomputable def ane_laws_FnKeys:An:=.q .z (.q .z (.q .z (.q .z (.q .z (.q (.m [(.normal,⟨[(39, .s K2 [])],[.f, .f, .f, .f, .f, .f, .f, .f, .f, .d, .d, .d, .d]⟩)] [2,3,4,5,6,8] [0,1,2,3,4,5,6,7,8] .z .z) (.q .z (.q .z (.m [(.normal,⟨[(9, .s K3 [])],[.d, .d, .d, .f, .v K13 [(0,13),(1,14),(2,15)], .f, .f, .f, .f, .d, .d, .d, .d, .o, .o, .o]⟩)] [2,3,4,5,6] [3,5,6,7,8] (.q .z (.b (.l ⟨[(2, .s K2 []),(3, .c (.one (.ptr 4 0))),(4, .s K15 [(0,3)]),(5, .c (.one (.ptr 8 0))),(6, .s K3 [])],[.n, .n, .n, .o, .n, .o, .o, .o, .v K13 [(0,5),(1,6),(2,7)], .n, .n, .n, .n, .n, .n, .n]⟩ ⟨[(9, .s K3 []),(10, .s K3 [])],[.d, .d, .d, .f, .v K13 [(0,13),(1,14),(2,15)], .f, .f, .f, .f, .d, .d, .d, .d, .o, .o, .o]⟩ [(.exit 0,⟨[(9, .s K3 [])],[.d, .d, .d, .f, .v K13 [(0,13),(1,14),(2,15)], .f, .f, .f, .f, .d, .d, .d, .d, .o, .o, .o]⟩)] (λ (_,keys_13,_,_) k (refused_16,i_17,x_18)=>g_laws_FnKeys_l0 keys_13 k refused_16 i_17 x_18) (.q .z (.m [(.normal,⟨[(9, .s K3 [])],[.d, .d, .d, .f, .v K13 [(0,16),(1,17),(2,18)], .f, .f, .f, .f, .d, .d, .d, .d, .f, .f, .f, .o, .o, .o]⟩)] [10] [13,14,15] (.b (.q .z (.m [(.normal,⟨[(9, .s K3 [])],[.d, .d, .d, .f, .f, .f, .f, .f, .f, .d, .d, .d, .d, .f, .f, .f, .f, .f, .f, .f]⟩)] [11,12] [4,16,17,18,19] .z .z))) .z))))) .z))))))))
theorem ke_laws_FnKeys:CK [e_laws_big,e_spec_DrawPressAll,e_impl_PressAll,e_spec_PressAll,e_impl_EdOk,e_spec_EdOk,e_impl_Press,e_laws_sameEd] 0 ane_laws_FnKeys Try.f5 e_laws_FnKeys:=⟨⟨trivial,⟨trivial,⟨trivial,⟨trivial,⟨trivial,⟨⟨trivial,trivial⟩,⟨trivial,⟨trivial,⟨⟨trivial,⟨λ _ _=>rfl,λ _ _ _ _=>by kernel_rfl,⟨trivial,⟨⟨trivial,⟨trivial,trivial⟩⟩,trivial⟩⟩⟩⟩,trivial⟩⟩⟩⟩⟩⟩⟩⟩⟩,λ _=>by kernel_rfl⟩
end Go.Proofs.Ytjdhhpolllkbbaa
namespace Go.Proofs.Ytjdhhpolllkbbaa
open Go Go.Fm
set_option maxRecDepth 1000000
theorem ce_laws_big:CO e_laws_big:=fnc (λ _=>con_nil) Try.func6 ke_laws_big (by kernel_rfl) (λ _=>by kernel_rfl) (λ _=>by kernel_rfl) rfl
theorem ce_spec_l01New:CO e_spec_l01New:=fnc (λ _=>con_nil) Try.func19 ke_spec_l01New (by kernel_rfl) (λ _=>by kernel_rfl) (λ _=>by kernel_rfl) rfl
theorem ce_spec_l01Byte:CO e_spec_l01Byte:=fnc (λ _=>con_nil) Try.func54 ke_spec_l01Byte (by kernel_rfl) (λ _=>by kernel_rfl) (λ _=>by kernel_rfl) rfl
theorem ce_spec_l01Below:CO e_spec_l01Below:=fnc (λ _=>con_cons ce_spec_l01Byte con_nil) Try.func37 ke_spec_l01Below (by kernel_rfl) (λ _=>by kernel_rfl) (λ _=>by kernel_rfl) rfl
theorem ce_spec_l01Once:CO e_spec_l01Once:=fnc (λ _=>con_cons ce_spec_l01Below con_nil) Try.func40 ke_spec_l01Once (by kernel_rfl) (λ _=>by kernel_rfl) (λ _=>by kernel_rfl) rfl
theorem ce_spec_l01PickInt:CO e_spec_l01PickInt:=fnc (λ _=>con_cons ce_spec_l01Below con_nil) Try.func70 ke_spec_l01PickInt (by kernel_rfl) (λ _=>by kernel_rfl) (λ _=>by kernel_rfl) rfl
theorem ce_spec_l04Int:CO e_spec_l04Int:=fnc (λ _=>con_cons ce_spec_l01Once (con_cons ce_spec_l01Below (con_cons ce_spec_l01PickInt con_nil))) Try.func71 ke_spec_l04Int (by kernel_rfl) (λ _=>by kernel_rfl) (λ _=>by kernel_rfl) rfl
theorem ce_spec_l01Pick:CO e_spec_l01Pick:=fnc (λ _=>con_cons ce_spec_l01Below con_nil) Try.func58 ke_spec_l01Pick (by kernel_rfl) (λ _=>by kernel_rfl) (λ _=>by kernel_rfl) rfl
theorem ce_spec_l01In:CO e_spec_l01In:=fnc (λ _=>con_nil) Try.func33 ke_spec_l01In (by kernel_rfl) (λ _=>by kernel_rfl) (λ _=>by kernel_rfl) rfl
theorem ce_spec_l02All:CO e_spec_l02All:=fnc (λ _=>con_nil) Try.func99 ke_spec_l02All (by kernel_rfl) (λ _=>by kernel_rfl) (λ _=>by kernel_rfl) rfl
theorem ce_spec_LetterAt:CO e_spec_LetterAt:=fnc (λ _=>con_cons ce_spec_l01In (con_cons ce_spec_l02All con_nil)) Try.func87 ke_spec_LetterAt (by kernel_rfl) (λ _=>by kernel_rfl) (λ _=>by kernel_rfl) rfl
theorem ce_spec_l02Name:CO e_spec_l02Name:=fnc (λ _=>con_cons ce_spec_l01Once (con_cons ce_spec_l01Pick (con_cons ce_spec_l01Below (con_cons ce_spec_LetterAt con_nil)))) Try.func72 ke_spec_l02Name (by kernel_rfl) (λ _=>by kernel_rfl) (λ _=>by kernel_rfl) rfl
theorem ce_spec_l04Some:CO e_spec_l04Some:=fnc (λ _=>con_cons ce_spec_l01Below (con_cons ce_spec_l04Int (con_cons ce_spec_l01Once (con_cons ce_spec_l01Pick (con_cons ce_spec_l02Name con_nil))))) Try.func56 ke_spec_l04Some (by kernel_rfl) (λ _=>by kernel_rfl) (λ _=>by kernel_rfl) rfl
theorem ce_spec_l04Num:CO e_spec_l04Num:=fnc (λ _=>con_nil) Try.func59 ke_spec_l04Num (by kernel_rfl) (λ _=>by kernel_rfl) (λ _=>by kernel_rfl) rfl
theorem ce_spec_LetterOf:CO e_spec_LetterOf:=fnc (λ _=>con_cons ce_spec_l02All con_nil) Try.func100 ke_spec_LetterOf (by kernel_rfl) (λ _=>by kernel_rfl) (λ _=>by kernel_rfl) rfl
theorem ce_spec_NameOk:CO e_spec_NameOk:=fnc (λ _=>con_cons ce_spec_l01In (con_cons ce_spec_LetterOf con_nil)) Try.func88 ke_spec_NameOk (by kernel_rfl) (λ _=>by kernel_rfl) (λ _=>by kernel_rfl) rfl
theorem ce_spec_WidthOf:CO e_spec_WidthOf:=fnc (λ _=>con_cons ce_spec_l01In con_nil) Try.func101 ke_spec_WidthOf (by kernel_rfl) (λ _=>by kernel_rfl) (λ _=>by kernel_rfl) rfl
theorem ce_spec_BitsOf:CO e_spec_BitsOf:=fnc (λ _=>con_cons ce_spec_WidthOf con_nil) Try.func102 ke_spec_BitsOf (by kernel_rfl) (λ _=>by kernel_rfl) (λ _=>by kernel_rfl) rfl
theorem ce_spec_l03One:CO e_spec_l03One:=fnc (λ _=>con_cons ce_spec_LetterOf (con_cons ce_spec_WidthOf (con_cons ce_spec_BitsOf con_nil))) Try.func89 ke_spec_l03One (by kernel_rfl) (λ _=>by kernel_rfl) (λ _=>by kernel_rfl) rfl
theorem ce_spec_Pack:CO e_spec_Pack:=fnc (λ _=>con_cons ce_spec_NameOk (con_cons ce_spec_l03One con_nil)) Try.func73 ke_spec_Pack (by kernel_rfl) (λ _=>by kernel_rfl) (λ _=>by kernel_rfl) rfl
theorem ce_spec_l04Word:CO e_spec_l04Word:=fnc (λ _=>con_cons ce_spec_Pack con_nil) Try.func60 ke_spec_l04Word (by kernel_rfl) (λ _=>by kernel_rfl) (λ _=>by kernel_rfl) rfl
theorem ce_spec_l04Tag:CO e_spec_l04Tag:=fnc (λ _=>con_nil) Try.func61 ke_spec_l04Tag (by kernel_rfl) (λ _=>by kernel_rfl) (λ _=>by kernel_rfl) rfl
theorem ce_spec_CellsOf:CO e_spec_CellsOf:=fnc (λ _=>con_cons ce_spec_l04Num (con_cons ce_spec_l04Word (con_cons ce_spec_l04Tag con_nil))) Try.func41 ke_spec_CellsOf (by kernel_rfl) (λ _=>by kernel_rfl) (λ _=>by kernel_rfl) rfl
theorem ce_spec_l01Word:CO e_spec_l01Word:=fnc (λ _=>con_cons ce_spec_l01Below (con_cons ce_spec_l01PickInt con_nil)) Try.func57 ke_spec_l01Word (by kernel_rfl) (λ _=>by kernel_rfl) (λ _=>by kernel_rfl) rfl
theorem ce_spec_l04Cells:CO e_spec_l04Cells:=fnc (λ _=>con_cons ce_spec_l01Below (con_cons ce_spec_l04Some (con_cons ce_spec_CellsOf (con_cons ce_spec_l01Word (con_cons ce_spec_l01PickInt (con_cons ce_spec_l01Once con_nil)))))) Try.func55 ke_spec_l04Cells (by kernel_rfl) (λ _=>by kernel_rfl) (λ _=>by kernel_rfl) rfl
theorem ce_spec_l04Kind:CO e_spec_l04Kind:=fnc (λ _=>con_cons ce_spec_l04Tag con_nil) Try.func74 ke_spec_l04Kind (by kernel_rfl) (λ _=>by kernel_rfl) (λ _=>by kernel_rfl) rfl
theorem ce_spec_Decode:CO e_spec_Decode:=fnc (λ _=>con_cons ce_spec_l01In (con_cons ce_spec_WidthOf (con_cons ce_spec_BitsOf con_nil))) Try.func91 ke_spec_Decode (by kernel_rfl) (λ _=>by kernel_rfl) (λ _=>by kernel_rfl) rfl
theorem ce_spec_UnpackOne:CO e_spec_UnpackOne:=fnc (λ _=>con_cons ce_spec_Decode (con_cons ce_spec_LetterAt con_nil)) Try.func78 ke_spec_UnpackOne (by kernel_rfl) (λ _=>by kernel_rfl) (λ _=>by kernel_rfl) rfl
theorem ce_spec_l03Same:CO e_spec_l03Same:=fnc (λ _=>con_nil) Try.func103 ke_spec_l03Same (by kernel_rfl) (λ _=>by kernel_rfl) (λ _=>by kernel_rfl) rfl
theorem ce_spec_Unpack:CO e_spec_Unpack:=fnc (λ _=>con_cons ce_spec_UnpackOne (con_cons ce_spec_NameOk (con_cons ce_spec_Pack (con_cons ce_spec_l03Same con_nil)))) Try.func90 ke_spec_Unpack (by kernel_rfl) (λ _=>by kernel_rfl) (λ _=>by kernel_rfl) rfl
theorem ce_spec_l04Name:CO e_spec_l04Name:=fnc (λ _=>con_cons ce_spec_Unpack con_nil) Try.func75 ke_spec_l04Name (by kernel_rfl) (λ _=>by kernel_rfl) (λ _=>by kernel_rfl) rfl
theorem ce_spec_l04Number:CO e_spec_l04Number:=fnc (λ _=>con_cons ce_spec_CellsOf con_nil) Try.func76 ke_spec_l04Number (by kernel_rfl) (λ _=>by kernel_rfl) (λ _=>by kernel_rfl) rfl
theorem ce_spec_FieldOk:CO e_spec_FieldOk:=fnc (λ _=>con_cons ce_spec_UnpackOne (con_cons ce_spec_Pack con_nil)) Try.func77 ke_spec_FieldOk (by kernel_rfl) (λ _=>by kernel_rfl) (λ _=>by kernel_rfl) rfl
theorem ce_spec_l04Item:CO e_spec_l04Item:=fnc (λ _=>con_cons ce_spec_l04Kind (con_cons ce_spec_l04Name (con_cons ce_spec_l04Number (con_cons ce_spec_FieldOk (con_cons ce_spec_UnpackOne con_nil))))) Try.func62 ke_spec_l04Item (by kernel_rfl) (λ _=>by kernel_rfl) (λ _=>by kernel_rfl) rfl
theorem ce_spec_ParseCells:CO e_spec_ParseCells:=fnc (λ _=>con_cons ce_spec_l04Item con_nil) Try.func44 ke_spec_ParseCells (by kernel_rfl) (λ _=>by kernel_rfl) (λ _=>by kernel_rfl) rfl
theorem ce_spec_l07Make:CO e_spec_l07Make:=fnc (λ _=>con_cons ce_spec_l04Cells (con_cons ce_spec_ParseCells (con_cons ce_spec_l01Below (con_cons ce_spec_l01Once (con_cons ce_spec_l04Some con_nil))))) Try.func38 ke_spec_l07Make (by kernel_rfl) (λ _=>by kernel_rfl) (λ _=>by kernel_rfl) rfl
theorem ce_spec_l04Any:CO e_spec_l04Any:=fnc (λ _=>con_cons ce_spec_l04Some (con_cons ce_spec_l01Below (con_cons ce_spec_l01Word (con_cons ce_spec_l01Pick con_nil)))) Try.func39 ke_spec_l04Any (by kernel_rfl) (λ _=>by kernel_rfl) (λ _=>by kernel_rfl) rfl
theorem ce_spec_l07Any:CO e_spec_l07Any:=fnc (λ _=>con_cons ce_spec_l07Make (con_cons ce_spec_l01Below (con_cons ce_spec_l04Any con_nil))) Try.func20 ke_spec_l07Any (by kernel_rfl) (λ _=>by kernel_rfl) (λ _=>by kernel_rfl) rfl
theorem ce_spec_l07Key:CO e_spec_l07Key:=fnc (λ _=>con_cons ce_spec_l01Below (con_cons ce_spec_l01Once (con_cons ce_spec_l04Any con_nil))) Try.func21 ke_spec_l07Key (by kernel_rfl) (λ _=>by kernel_rfl) (λ _=>by kernel_rfl) rfl
theorem ce_spec_DrawPressAll:CO e_spec_DrawPressAll:=fnc (λ _=>con_cons ce_spec_l01New (con_cons ce_spec_l07Any (con_cons ce_spec_l01Below (con_cons ce_spec_l07Key con_nil)))) Try.func16 ke_spec_DrawPressAll (by kernel_rfl) (λ _=>by kernel_rfl) (λ _=>by kernel_rfl) rfl
theorem ce_impl_nameTag:CO e_impl_nameTag:=fnc (λ _=>con_nil) Try.func63 ke_impl_nameTag (by kernel_rfl) (λ _=>by kernel_rfl) (λ _=>by kernel_rfl) rfl
theorem ce_impl_letters:CO e_impl_letters:=fnc (λ _=>con_nil) Try.func105 ke_impl_letters (by kernel_rfl) (λ _=>by kernel_rfl) (λ _=>by kernel_rfl) rfl
theorem ce_ibytealg_IndexByteString:ConOk Try.prog e_ibytealg_IndexByteString:=fe_ibytealg_IndexByteString
theorem ce_istringslite_IndexByte:CO e_istringslite_IndexByte:=fnc (λ _=>con_cons ce_ibytealg_IndexByteString con_nil) Try.func106 ke_istringslite_IndexByte (by kernel_rfl) (λ _=>by kernel_rfl) (λ _=>by kernel_rfl) rfl
theorem ce_strings_IndexByte:CO e_strings_IndexByte:=fnc (λ _=>con_cons ce_istringslite_IndexByte con_nil) Try.func104 ke_strings_IndexByte (by kernel_rfl) (λ _=>by kernel_rfl) (λ _=>by kernel_rfl) rfl
theorem ce_impl_LetterOf:CO e_impl_LetterOf:=fnc (λ _=>con_cons ce_impl_letters (con_cons ce_strings_IndexByte con_nil)) Try.func92 ke_impl_LetterOf (by kernel_rfl) (λ _=>by kernel_rfl) (λ _=>by kernel_rfl) rfl
theorem ce_impl_within:CO e_impl_within:=fnc (λ _=>con_nil) Try.func93 ke_impl_within (by kernel_rfl) (λ _=>by kernel_rfl) (λ _=>by kernel_rfl) rfl
theorem ce_impl_NameOk:CO e_impl_NameOk:=fnc (λ _=>con_cons ce_impl_LetterOf (con_cons ce_impl_within con_nil)) Try.func79 ke_impl_NameOk (by kernel_rfl) (λ _=>by kernel_rfl) (λ _=>by kernel_rfl) rfl
theorem ce_impl_WidthOf:CO e_impl_WidthOf:=fnc (λ _=>con_cons ce_impl_within con_nil) Try.func94 ke_impl_WidthOf (by kernel_rfl) (λ _=>by kernel_rfl) (λ _=>by kernel_rfl) rfl
theorem ce_impl_BitsOf:CO e_impl_BitsOf:=fnc (λ _=>con_cons ce_impl_WidthOf con_nil) Try.func95 ke_impl_BitsOf (by kernel_rfl) (λ _=>by kernel_rfl) (λ _=>by kernel_rfl) rfl
theorem ce_impl_PackOne:CO e_impl_PackOne:=fnc (λ _=>con_cons ce_impl_NameOk (con_cons ce_impl_LetterOf (con_cons ce_impl_WidthOf (con_cons ce_impl_BitsOf con_nil)))) Try.func80 ke_impl_PackOne (by kernel_rfl) (λ _=>by kernel_rfl) (λ _=>by kernel_rfl) rfl
theorem ce_impl_Pack:CO e_impl_Pack:=fnc (λ _=>con_cons ce_impl_NameOk (con_cons ce_impl_PackOne con_nil)) Try.func64 ke_impl_Pack (by kernel_rfl) (λ _=>by kernel_rfl) (λ _=>by kernel_rfl) rfl
theorem ce_impl_numberCells:CO e_impl_numberCells:=fnc (λ _=>con_nil) Try.func65 ke_impl_numberCells (by kernel_rfl) (λ _=>by kernel_rfl) (λ _=>by kernel_rfl) rfl
theorem ce_impl_CellsOf:CO e_impl_CellsOf:=fnc (λ _=>con_cons ce_impl_nameTag (con_cons ce_impl_Pack (con_cons ce_impl_numberCells con_nil))) Try.func46 ke_impl_CellsOf (by kernel_rfl) (λ _=>by kernel_rfl) (λ _=>by kernel_rfl) rfl
theorem ce_impl_ItemOk:CO e_impl_ItemOk:=fnc (λ _=>con_cons ce_impl_CellsOf con_nil) Try.func27 ke_impl_ItemOk (by kernel_rfl) (λ _=>by kernel_rfl) (λ _=>by kernel_rfl) rfl
theorem ce_impl_EdOkc1:CO e_impl_EdOkc1:=fnc (λ _=>con_cons ce_impl_ItemOk con_nil) Try.func26 ke_impl_EdOkc1 (by kernel_rfl) (λ _=>by kernel_rfl) (λ _=>by kernel_rfl) rfl
theorem ce_slices_IndexFunc_Item_impl_EdOkc1:CO e_slices_IndexFunc_Item_impl_EdOkc1:=fnc (λ _=>con_cons ce_impl_EdOkc1 con_nil) Try.func45 ke_slices_IndexFunc_Item_impl_EdOkc1 (by kernel_rfl) (λ _=>by kernel_rfl) (λ _=>by kernel_rfl) rfl
theorem ce_slices_ContainsFunc_Item_impl_EdOkc1:CO e_slices_ContainsFunc_Item_impl_EdOkc1:=fnc (λ _=>con_cons ce_slices_IndexFunc_Item_impl_EdOkc1 con_nil) Try.func25 ke_slices_ContainsFunc_Item_impl_EdOkc1 (by kernel_rfl) (λ _=>by kernel_rfl) (λ _=>by kernel_rfl) rfl
theorem ce_slices_Grow_Item_emp:CO e_slices_Grow_Item_emp:=fnc (λ _=>con_nil) Try.func67 ke_slices_Grow_Item_emp (by kernel_rfl) (λ _=>by kernel_rfl) (λ _=>by kernel_rfl) rfl
theorem ce_slices_Concat_Item:CO e_slices_Concat_Item:=fnc (λ _=>con_cons ce_slices_Grow_Item_emp con_nil) Try.func49 ke_slices_Concat_Item (by kernel_rfl) (λ _=>by kernel_rfl) (λ _=>by kernel_rfl) rfl
theorem ce_impl_edItems:CO e_impl_edItems:=fnc (λ _=>con_cons ce_slices_Concat_Item con_nil) Try.func29 ke_impl_edItems (by kernel_rfl) (λ _=>by kernel_rfl) (λ _=>by kernel_rfl) rfl
theorem ce_impl_Unparse:CO e_impl_Unparse:=fnc (λ _=>con_cons ce_impl_CellsOf con_nil) Try.func36 ke_impl_Unparse (by kernel_rfl) (λ _=>by kernel_rfl) (λ _=>by kernel_rfl) rfl
theorem ce_impl_Decode:CO e_impl_Decode:=fnc (λ _=>con_cons ce_impl_within (con_cons ce_impl_WidthOf (con_cons ce_impl_BitsOf con_nil))) Try.func96 ke_impl_Decode (by kernel_rfl) (λ _=>by kernel_rfl) (λ _=>by kernel_rfl) rfl
theorem ce_impl_LetterAt:CO e_impl_LetterAt:=fnc (λ _=>con_cons ce_impl_within (con_cons ce_impl_letters con_nil)) Try.func97 ke_impl_LetterAt (by kernel_rfl) (λ _=>by kernel_rfl) (λ _=>by kernel_rfl) rfl
theorem ce_impl_UnpackOne:CO e_impl_UnpackOne:=fnc (λ _=>con_cons ce_impl_Decode (con_cons ce_impl_LetterAt con_nil)) Try.func85 ke_impl_UnpackOne (by kernel_rfl) (λ _=>by kernel_rfl) (λ _=>by kernel_rfl) rfl
theorem ce_slices_Equal_uint32:CO e_slices_Equal_uint32:=fnc (λ _=>con_nil) Try.func83 ke_slices_Equal_uint32 (by kernel_rfl) (λ _=>by kernel_rfl) (λ _=>by kernel_rfl) rfl
theorem ce_impl_Unpack:CO e_impl_Unpack:=fnc (λ _=>con_cons ce_impl_UnpackOne (con_cons ce_impl_NameOk (con_cons ce_impl_Pack (con_cons ce_slices_Equal_uint32 con_nil)))) Try.func81 ke_impl_Unpack (by kernel_rfl) (λ _=>by kernel_rfl) (λ _=>by kernel_rfl) rfl
theorem ce_impl_nameKind:CO e_impl_nameKind:=fnc (λ _=>con_cons ce_impl_nameTag con_nil) Try.func82 ke_impl_nameKind (by kernel_rfl) (λ _=>by kernel_rfl) (λ _=>by kernel_rfl) rfl
theorem ce_impl_FieldOk:CO e_impl_FieldOk:=fnc (λ _=>con_cons ce_impl_UnpackOne (con_cons ce_impl_Pack (con_cons ce_slices_Equal_uint32 con_nil))) Try.func84 ke_impl_FieldOk (by kernel_rfl) (λ _=>by kernel_rfl) (λ _=>by kernel_rfl) rfl
theorem ce_impl_parseOne:CO e_impl_parseOne:=fnc (λ _=>con_cons ce_impl_Unpack (con_cons ce_impl_nameKind (con_cons ce_impl_CellsOf (con_cons ce_slices_Equal_uint32 (con_cons ce_impl_FieldOk (con_cons ce_impl_UnpackOne con_nil)))))) Try.func66 ke_impl_parseOne (by kernel_rfl) (λ _=>by kernel_rfl) (λ _=>by kernel_rfl) rfl
theorem ce_impl_ParseCells:CO e_impl_ParseCells:=fnc (λ _=>con_cons ce_impl_parseOne (con_cons ce_impl_CellsOf con_nil)) Try.func48 ke_impl_ParseCells (by kernel_rfl) (λ _=>by kernel_rfl) (λ _=>by kernel_rfl) rfl
theorem ce_slices_Equal_Item:CO e_slices_Equal_Item:=fnc (λ _=>con_nil) Try.func47 ke_slices_Equal_Item (by kernel_rfl) (λ _=>by kernel_rfl) (λ _=>by kernel_rfl) rfl
theorem ce_impl_ListOk:CO e_impl_ListOk:=fnc (λ _=>con_cons ce_impl_Unparse (con_cons ce_impl_ParseCells (con_cons ce_slices_Equal_Item con_nil))) Try.func28 ke_impl_ListOk (by kernel_rfl) (λ _=>by kernel_rfl) (λ _=>by kernel_rfl) rfl
theorem ce_impl_EdOk:CO e_impl_EdOk:=fnc (λ _=>con_cons ce_slices_ContainsFunc_Item_impl_EdOkc1 (con_cons ce_impl_edItems (con_cons ce_impl_ListOk con_nil))) Try.func9 ke_impl_EdOk (by kernel_rfl) (λ _=>by kernel_rfl) (λ _=>by kernel_rfl) rfl
theorem ce_slices_Clone_Item:ConOk Try.prog e_slices_Clone_Item:=fe_slices_Clone_Item
theorem ce_impl_ownEd:CO e_impl_ownEd:=fnc (λ _=>con_cons ce_slices_Clone_Item con_nil) Try.func31 ke_impl_ownEd (by kernel_rfl) (λ _=>by kernel_rfl) (λ _=>by kernel_rfl) rfl
theorem ce_slices_Insert_Item:ConOk Try.prog e_slices_Insert_Item:=fe_slices_Insert_Item
theorem ce_impl_Recolor:CO e_impl_Recolor:=fnc (λ _=>con_cons ce_impl_nameTag (con_cons ce_impl_ItemOk con_nil)) Try.func51 ke_impl_Recolor (by kernel_rfl) (λ _=>by kernel_rfl) (λ _=>by kernel_rfl) rfl
theorem ce_impl_pressed:CO e_impl_pressed:=fnc (λ _=>con_cons ce_impl_ownEd (con_cons ce_slices_Insert_Item (con_cons ce_impl_edItems (con_cons ce_impl_Recolor (con_cons ce_impl_EdOk con_nil))))) Try.func30 ke_impl_pressed (by kernel_rfl) (λ _=>by kernel_rfl) (λ _=>by kernel_rfl) rfl
theorem ce_impl_PressAll:CO e_impl_PressAll:=fnc (λ _=>con_cons ce_impl_EdOk (con_cons ce_impl_ownEd (con_cons ce_impl_pressed con_nil))) Try.func17 ke_impl_PressAll (by kernel_rfl) (λ _=>by kernel_rfl) (λ _=>by kernel_rfl) rfl
theorem ce_spec_ItemOk:CO e_spec_ItemOk:=fnc (λ _=>con_cons ce_spec_CellsOf con_nil) Try.func22 ke_spec_ItemOk (by kernel_rfl) (λ _=>by kernel_rfl) (λ _=>by kernel_rfl) rfl
theorem ce_spec_l07All:CO e_spec_l07All:=fnc (λ _=>con_nil) Try.func24 ke_spec_l07All (by kernel_rfl) (λ _=>by kernel_rfl) (λ _=>by kernel_rfl) rfl
theorem ce_spec_Unparse:CO e_spec_Unparse:=fnc (λ _=>con_cons ce_spec_CellsOf con_nil) Try.func42 ke_spec_Unparse (by kernel_rfl) (λ _=>by kernel_rfl) (λ _=>by kernel_rfl) rfl
theorem ce_spec_l04Same:CO e_spec_l04Same:=fnc (λ _=>con_nil) Try.func43 ke_spec_l04Same (by kernel_rfl) (λ _=>by kernel_rfl) (λ _=>by kernel_rfl) rfl
theorem ce_spec_ListOk:CO e_spec_ListOk:=fnc (λ _=>con_cons ce_spec_Unparse (con_cons ce_spec_ParseCells (con_cons ce_spec_l04Same con_nil))) Try.func23 ke_spec_ListOk (by kernel_rfl) (λ _=>by kernel_rfl) (λ _=>by kernel_rfl) rfl
theorem ce_spec_EdOk:CO e_spec_EdOk:=fnc (λ _=>con_cons ce_spec_ItemOk (con_cons ce_spec_l07All (con_cons ce_spec_ListOk con_nil))) Try.func8 ke_spec_EdOk (by kernel_rfl) (λ _=>by kernel_rfl) (λ _=>by kernel_rfl) rfl
theorem ce_spec_l07Copy:CO e_spec_l07Copy:=fnc (λ _=>con_nil) Try.func32 ke_spec_l07Copy (by kernel_rfl) (λ _=>by kernel_rfl) (λ _=>by kernel_rfl) rfl
theorem ce_spec_l07Move:CO e_spec_l07Move:=fnc (λ _=>con_cons ce_spec_l07All (con_cons ce_spec_l01In con_nil)) Try.func34 ke_spec_l07Move (by kernel_rfl) (λ _=>by kernel_rfl) (λ _=>by kernel_rfl) rfl
theorem ce_spec_Recolor:CO e_spec_Recolor:=fnc (λ _=>con_cons ce_spec_l01In (con_cons ce_spec_ItemOk con_nil)) Try.func53 ke_spec_Recolor (by kernel_rfl) (λ _=>by kernel_rfl) (λ _=>by kernel_rfl) rfl
theorem ce_spec_l07Change:CO e_spec_l07Change:=fnc (λ _=>con_cons ce_spec_Recolor con_nil) Try.func35 ke_spec_l07Change (by kernel_rfl) (λ _=>by kernel_rfl) (λ _=>by kernel_rfl) rfl
theorem ce_spec_Press:CO e_spec_Press:=fnc (λ _=>con_cons ce_spec_EdOk (con_cons ce_spec_l07Copy (con_cons ce_spec_l01In (con_cons ce_spec_l07Move (con_cons ce_spec_l07Change con_nil))))) Try.func12 ke_spec_Press (by kernel_rfl) (λ _=>by kernel_rfl) (λ _=>by kernel_rfl) rfl
theorem ce_spec_PressAll:CO e_spec_PressAll:=fnc (λ _=>con_cons ce_spec_EdOk (con_cons ce_spec_Press (con_cons ce_spec_l07Copy con_nil))) Try.func18 ke_spec_PressAll (by kernel_rfl) (λ _=>by kernel_rfl) (λ _=>by kernel_rfl) rfl
theorem ce_impl_Press:CO e_impl_Press:=fnc (λ _=>con_cons ce_impl_EdOk (con_cons ce_impl_pressed (con_cons ce_impl_ownEd con_nil))) Try.func10 ke_impl_Press (by kernel_rfl) (λ _=>by kernel_rfl) (λ _=>by kernel_rfl) rfl
theorem ce_laws_sameItems:CO e_laws_sameItems:=fnc (λ _=>con_nil) Try.func11 ke_laws_sameItems (by kernel_rfl) (λ _=>by kernel_rfl) (λ _=>by kernel_rfl) rfl
theorem ce_laws_sameEd:CO e_laws_sameEd:=fnc (λ _=>con_cons ce_laws_sameItems con_nil) Try.func13 ke_laws_sameEd (by kernel_rfl) (λ _=>by kernel_rfl) (λ _=>by kernel_rfl) rfl
theorem ce_laws_FnKeys:CO e_laws_FnKeys:=fnc (λ _=>con_cons ce_laws_big (con_cons ce_spec_DrawPressAll (con_cons ce_impl_PressAll (con_cons ce_spec_PressAll (con_cons ce_impl_EdOk (con_cons ce_spec_EdOk (con_cons ce_impl_Press (con_cons ce_laws_sameEd con_nil)))))))) Try.func5 ke_laws_FnKeys (by kernel_rfl) (λ _=>by kernel_rfl) (λ _=>by kernel_rfl) rfl
end Go.Proofs.Ytjdhhpolllkbbaa

namespace Go.Fm
theorem wI64 {x:Int} (h1 : -9223372036854775808<=x) (h2:x < 9223372036854775808):IntKind.wrap .i64 x=x:=by
 simp[IntKind.wrap,IntKind.bits,IntKind.signed];omega
theorem wU32 {x:Int} (h1:0<=x) (h2:x < 4294967296):IntKind.wrap .u32 x=x:=by
 simp[IntKind.wrap,IntKind.bits,IntKind.signed];omega
theorem wU64 {x:Int} (h1:0<=x) (h2:x < 18446744073709551616):IntKind.wrap .u64 x=x:=by
 simp[IntKind.wrap,IntKind.bits,IntKind.signed];omega
theorem wU32_bd (x:Int):0<=IntKind.wrap .u32 x/\IntKind.wrap .u32 x < 4294967296:=by
 simp[IntKind.wrap,IntKind.bits,IntKind.signed];omega
theorem getI_ex {α:Type} {xs:List α} {i:Int} (h0:0<=i) (h1:i < xs.length):∃ x,getI xs i=some x/\x ∈ xs/\xs[i.toNat]? = some x:=by
 have hi:i.toNat < xs.length:=by omega
 unfold getI
 rw[if_pos h0,List.getElem?_eq_getElem hi]
 exact ⟨_,rfl,List.getElem_mem hi,rfl⟩
theorem getI_nat {α:Type} {xs:List α} {i:Nat}:getI xs (i:Int)=xs[i]? := by
 unfold getI;rw[if_pos (Int.natCast_nonneg i)];rfl
theorem idxS_ex {l:List UInt8} {i:Int} (h0:0<=i) (h1:i < l.length):∃ v,idxS l i=some v/\0<=v/\v < 256/\∃ b ∈ l,v=(b.toNat:Int):=by
 unfold idxS
 rw[if_pos ⟨h0,h1⟩]
 have hi:i.toNat < l.length:=by omega
 refine ⟨_,rfl,Int.natCast_nonneg _,?_,l[i.toNat],List.getElem_mem hi,?_⟩
 ·have:=UInt8.toNat_lt (l.getD i.toNat 0);omega
 ·rw[List.getD_eq_getElem?_getD,List.getElem?_eq_getElem hi];rfl
theorem app_eq {α:Type} {xs ys:List α} (h:xs.length+ys.length<=4294967296):app xs ys=some (xs++ys):=by
 unfold app
 rw[if_pos (by rw[List.length_append];exact h)]
theorem subL_eq {α:Type} {xs:List α} {a b:Int} (h0:0<=a) (h1:a<=b) (h2:b<=xs.length):subL xs a b=some ((xs.drop a.toNat).take (b.toNat-a.toNat)):=by
 unfold subL;rw[if_pos ⟨h0,h1,h2⟩]
theorem subL_drop {α:Type} {xs:List α} {a:Int} (h0:0<=a) (h2:a<=xs.length):subL xs a xs.length=some (xs.drop a.toNat):=by
 rw[subL_eq h0 h2 (Int.le_refl _),List.take_of_length_le]
 rw[List.length_drop];omega
theorem subL_take {α:Type} {xs:List α} {b:Int} (h0:0<=b) (h2:b<=xs.length):subL xs 0 b=some (xs.take b.toNat):=by
 rw[subL_eq (Int.le_refl _) h0 h2];rfl
theorem mk_eq {α:Type} {z:α} {n:Int} (h0:0<=n) (h1:n<=4294967296):mk z n=some (List.replicate n.toNat z):=by
 unfold mk;rw[if_pos ⟨h0,h1⟩]
theorem catS_eq {a b:List UInt8} (h:a.length+b.length < 4611686018427387904):catS a b=some (a++b):=by
 unfold catS;rw[if_pos h]
theorem remI_ex {k:IntKind} {a b:Int} (h0:0<=a) (hb:0 < b):remI k a b=some (a % b)/\0<=a % b/\a % b < b:=by
 unfold remI
 rw[if_neg (by omega),Int.tmod_eq_emod_of_nonneg h0]
 exact ⟨rfl,Int.emod_nonneg _ (by omega),Int.emod_lt_of_pos _ hb⟩
theorem bB_toNat {k:IntKind} {a:Int} (h0:0<=a) (h1:a < 2 ^ k.bits):(bytesB k a).toNat=a.toNat:=by
 unfold bytesB
 rw[BitVec.toNat_ofInt,Int.emod_eq_of_lt h0]
 simpa using h1
theorem wrap_small {k:IntKind} {n:Nat} (h:n < 2 ^ (k.bits-1)):k.wrap n=n:=by
 unfold IntKind.wrap
 have hb:2 ^ (k.bits-1)<=2 ^ k.bits:=Nat.pow_le_pow_right (by decide) (Nat.sub_le _ _)
 have h1:(n:Int) < ((2 ^ k.bits:Nat):Int):=Int.ofNat_lt.2 (Nat.lt_of_lt_of_le h hb)
 have h2:(n:Int) < ((2 ^ (k.bits-1):Nat):Int):=Int.ofNat_lt.2 h
 simp only[Int.natCast_pow,Int.cast_ofNat_Int]at h1 h2
 have e:(n:Int) % (2 ^ k.bits:Int)=n:=Int.emod_eq_of_lt (Int.natCast_nonneg _) h1
 simp only[e]
 rw[if_neg]
 intro hc
 rw[Bool.and_eq_true,decide_eq_true_eq]at hc
 have h3:=hc.2
 omega
theorem and_le {k:IntKind} {a b:Int} (h0:0<=b) (h1:b < 2 ^ (k.bits-1)):0<=andI k a b/\andI k a b<=b:=by
 unfold andI
 have hb:(bytesB k b).toNat=b.toNat:=bB_toNat h0 (Int.lt_of_lt_of_le h1 (by
  have:((2 ^ (k.bits-1):Nat):Int)<=((2 ^ k.bits:Nat):Int):=Int.ofNat_le.2 (Nat.pow_le_pow_right (by decide) (Nat.sub_le _ _))
  simpa only[Int.natCast_pow,Int.cast_ofNat_Int] using this))
 have hle:(bytesB k a &&& bytesB k b).toNat<=b.toNat:=by
  rw[BitVec.toNat_and,hb];exact Nat.and_le_right
 have hlt:(bytesB k a &&& bytesB k b).toNat < 2 ^ (k.bits-1):=by
  refine Nat.lt_of_le_of_lt hle ?_
  have:(b.toNat:Int) < ((2 ^ (k.bits-1):Nat):Int):=by rw[Int.toNat_of_nonneg h0];simpa only[Int.natCast_pow,Int.cast_ofNat_Int] using h1
  exact Int.ofNat_lt.1 this
 rw[wrap_small hlt]
 omega
def Tot {α:Type} (o:Option α) (Q:α->Prop):Prop:=∃ a,o=some a/\Q a
section
variable {α β:Type} {Q Q':α->Prop} {R:β->Prop}
theorem Tot.some {a:α} (h:Q a):Tot (some a) Q:=⟨a,rfl,h⟩
theorem Tot.bind {o:Option α} {f:α->Option β} (h:Tot o Q) (hf:∀ a,Q a->Tot (f a) R):Tot (o.bind f) R:=by
 obtain ⟨a,rfl,ha⟩:=h;exact hf a ha
theorem Tot.bindE {o:Option α} {f:α->Option β} {a:α} (h:o=.some a) (hf:Tot (f a) R):Tot (o.bind f) R:=by subst h;exact hf
theorem Tot.cond {c:Bool} {x y:Option α} (h1:c=true->Tot x Q) (h2:c=false->Tot y Q):Tot (cond c x y) Q:=by
 cases c with
 | true=>exact h1 rfl
 | false=>exact h2 rfl
theorem Tot.condD {p:Prop} [Decidable p] {x y:Option α} (h1:p->Tot x Q) (h2:¬ p->Tot y Q):Tot (_root_.cond (decide p) x y) Q :=
 .cond (λ h=>h1 (of_decide_eq_true h)) (λ h=>h2 (of_decide_eq_false h))
end
end Go.Fm
namespace Go.Proofs.Ytjdhhpolllkbbaa
open Go Go.Fm
def U32 (xs:List Int):Prop:=∀ x ∈ xs,0<=x/\x < 4294967296
theorem U32.app {xs ys:List Int} (h1:U32 xs) (h2:U32 ys):U32 (xs++ys):=λ x hx=>by
 rcases List.mem_append.1 hx with h|h
 ·exact h1 x h
 ·exact h2 x h
theorem U32.one {x:Int} (h:0<=x/\x < 4294967296):U32 [x]:=λ y hy=>by simp at hy;subst hy;exact h
theorem U32.nil:U32 []:=λ x hx=>by simp at hx
theorem U32.set {xs:List Int} {x:Int} {i:Nat} (h1:U32 xs) (h:0<=x/\x < 4294967296):U32 (xs.set i x):=λ y hy=>by
 rcases List.mem_or_eq_of_mem_set hy with h2|h2
 ·exact h1 y h2
 ·subst h2;exact h
theorem specIn_eq {x a b:Int}:g_spec_l01In x a b=some (decide (a<=x/\x<=b)):=by
 unfold g_spec_l01In
 by_cases h:x ≥ a
 ·rw[decide_eq_true h]
  simp only[cond_true]
  congr 1
  exact decide_eq_decide.2 ⟨λ h2=>⟨h,h2⟩,λ h2=>h2.2⟩
 ·rw[decide_eq_false h]
  simp only[cond_false]
  congr 1
  exact (decide_eq_false λ h2=>h h2.1).symm
theorem specNum_ok {n:Int} {hex:Bool} {s l:Int}:Tot (g_spec_l04Num n hex s l) λ r=>U32 r/\r.length<=2:=by
 unfold g_spec_l04Num
 refine .bind (Q:=λ _=>True) (.cond (λ _=>.some trivial) λ _=>.some trivial) λ a _=>.bind (Q:=λ _=>True) (.condD (λ _=>.some trivial) λ _=>.some trivial) λ b _=>.cond (λ _=>.some ⟨.one (wU32_bd _),by simp⟩) λ _=>.some ⟨?_,by simp⟩
 exact (U32.one (wU32_bd _)).app (.one (wU32_bd _))
theorem specLetterOf_ok {b:Int}:Tot (g_spec_LetterOf b) λ r => -1<=r/\r<=47:=by
 unfold g_spec_LetterOf
 refine .bindE (a:=_) rfl ?_
 have key:∀ (k:Nat) (i:Int),0<=i->i<=48->48-i < k->Tot (g_spec_LetterOf_l0 b [32,114,116,111,101,97,110,105,115,109,99,121,108,103,102,119,100,118,112,98,104,120,117,113,48,49,50,51,52,53,54,55,56,57,106,45,107,46,122,47,59,39,33,43,64,42,44,63] k i)
   λ r=>match r with | .inl _=>True | .inr x=>0<=x/\x<=47:=by
  intro k
  induction k with
  | zero=>intro i h0 h1 h2;omega
  | succ k ih =>
   intro i h0 h1 h2
   unfold g_spec_LetterOf_l0
   refine .condD (λ hi => ?_) λ _=>.some trivial
   have hi:i < 48:=by simpa using hi
   obtain ⟨v,hv,_⟩:=idxS_ex (l:=[32,114,116,111,101,97,110,105,115,109,99,121,108,103,102,119,100,118,112,98,104,120,117,113,48,49,50,51,52,53,54,55,56,57,106,45,107,46,122,47,59,39,33,43,64,42,44,63]) h0 (by simpa using hi)
   refine .bindE hv (.cond (λ _=>.some ⟨h0,by omega⟩) λ _ => ?_)
   rw[wI64 (x:=i+1) (by omega) (by omega)]
   exact ih _ (by omega) (by omega) (by omega)
 refine .bind (Q:=λ r=>match r with | .inl _=>True | .inr x=>0<=x/\x<=47) (.bind (key bigK 0 (by decide) (by decide) (by decide)) λ o ho => ?_) λ o ho => ?_
 ·cases o with
  | inl _=>exact .some trivial
  | inr x=>exact .some ho
 ·cases o with
  | inl _=>exact .some ⟨by decide,by decide⟩
  | inr x=>exact .some ⟨by have:=ho.1;omega,ho.2⟩
theorem specNameOk_ok {s:Bs} (hs:s.length<=1048576):Tot (g_spec_NameOk s) λ r=>r=true->1<=s.length/\s.length<=24:=by
 unfold g_spec_NameOk
 refine .bindE specIn_eq (.cond (λ _=>.some λ h=>nomatch h) λ hc => ?_)
 have hl:1<=s.length/\s.length<=24:=by
  have:(1:Int)<=s.length/\(s.length:Int)<=24:=by simpa using hc
  omega
 have key:∀ (k:Nat) (i:Int),0<=i->i<=s.length->s.length-i < k->Tot (g_spec_NameOk_l0 s k i) λ _=>True:=by
  intro k
  induction k with
  | zero=>intro i h0 h1 h2;omega
  | succ k ih =>
   intro i h0 h1 h2
   unfold g_spec_NameOk_l0
   refine .condD (λ hi => ?_) λ _=>.some trivial
   obtain ⟨v,hv,_⟩:=idxS_ex h0 hi
   refine .bindE hv (.bind specLetterOf_ok λ x hx=>.condD (λ _=>.some trivial) λ _ => ?_)
   rw[wI64 (x:=i+1) (by omega) (by omega)]
   exact ih _ (by omega) (by omega) (by omega)
 refine .bind (Q:=λ _=>True) (.bind (key bigK 0 (by decide) (by omega) (by unfold bigK;omega)) λ o ho => ?_) λ o ho => ?_
 ·cases o<;>exact .some trivial
 ·cases o<;>exact .some λ _=>hl
theorem specWidth_ok {k:Int}:Tot (g_spec_WidthOf k) λ w=>0<=w/\w<=7:=by
 unfold g_spec_WidthOf
 exact .bindE specIn_eq (.cond (λ _=>.some (by decide)) λ _=>.bindE specIn_eq (.cond (λ _=>.some (by decide)) λ _=>.bindE specIn_eq (.cond (λ _=>.some (by decide)) λ _=>.some (by decide))))
theorem specBits_ok {k:Int}:Tot (g_spec_BitsOf k) λ w=>True:=by
 unfold g_spec_BitsOf
 exact .bind specWidth_ok λ _ _=>.cond (λ _=>.some trivial) λ _=>.cond (λ _=>.some trivial) λ _=>.cond (λ _=>.some trivial) λ _=>.some trivial
theorem shl_ok {k:IntKind} {a b:Int} (h:0<=b):Tot (shlI k a b) λ _=>True:=by unfold shlI;rw[if_pos h];exact .some trivial
theorem wU64_nn (x:Int):0<=IntKind.wrap .u64 x:=by simp[IntKind.wrap,IntKind.bits,IntKind.signed];omega
theorem specOne_ok {s:Bs} (hs:1<=s.length/\s.length<=24):Tot (g_spec_l03One s) λ r=>(0<=r.1/\r.1 < 4294967296)/\1<=r.2/\r.2<=s.length:=by
 unfold g_spec_l03One
 have key:∀ (k:Nat) (f left n:Int),0<=n->n<=s.length->0<=left->left<=28->(n=0->left=28)->s.length-n < k->Tot (g_spec_l03One_l0 s k f left n) λ r=>1<=r.2/\r.2<=s.length:=by
  intro k
  induction k with
  | zero=>intro f left n h0 h1 h2 h3 h4 h5;omega
  | succ k ih =>
   intro f left n h0 h1 h2 h3 h4 h5
   unfold g_spec_l03One_l0
   refine .condD (λ hi => ?_) λ hi=>.some ⟨by omega,by omega⟩
   obtain ⟨v,hv,_⟩:=idxS_ex h0 hi
   refine .bindE hv (.bind specLetterOf_ok λ x hx=>.bind specWidth_ok λ w hw=>.condD (λ hc=>.some ⟨?_,by omega⟩) λ hc=>.bind specBits_ok λ b _=>.bind (shl_ok (wU64_nn _)) λ d _ => ?_)
   ·by_cases hn:n=0
    ·have:=h4 hn;omega
    ·show 1<=n;omega
   ·rw[wI64 (x:=n+1) (by omega) (by omega),wI64 (x:=left-w) (by omega) (by omega)]
    exact ih _ _ _ (by omega) (by omega) (by omega) (by omega) (by omega) (by omega)
 exact .bind (key bigK 0 28 0 (by decide) (by omega) (by decide) (by decide) (λ _=>rfl) (by unfold bigK;omega)) λ r hr=>.some ⟨wU32_bd _,hr.1,hr.2⟩
theorem specPack_ok {s:Bs} (hs:s.length<=1048576):Tot (g_spec_Pack s) λ r=>U32 r/\r.length<=24:=by
 unfold g_spec_Pack
 refine .bind (specNameOk_ok hs) λ a ha=>.cond (λ _=>.some ⟨.nil,by simp⟩) λ hc => ?_
 have hl:=ha (by simpa using hc)
 have key:∀ (k:Nat) (x:Bs) (out:List Int),x.length<=24->U32 out->out.length+x.length<=24->x.length < k->Tot (g_spec_Pack_l0 k x out) λ r=>U32 r/\r.length<=24:=by
  intro k
  induction k with
  | zero=>intro x out h0 h1 h2 h3;omega
  | succ k ih =>
   intro x out h0 h1 h2 h3
   unfold g_spec_Pack_l0
   refine .cond (λ hx => ?_) λ _=>.some ⟨h1,by omega⟩
   have hx1:1<=x.length:=by
    have:x≠[]:=by simpa using hx
    have:=List.length_pos_iff.2 this
    omega
   refine .bind (specOne_ok ⟨hx1,h0⟩) λ r hr=>.bindE (app_eq (by simp;omega)) (.bindE (subL_drop (by omega) hr.2.2) ?_)
   have hd:(x.drop r.2.toNat).length=x.length-r.2.toNat:=List.length_drop
   exact ih _ _ (by omega) (h1.app (.one hr.1)) (by rw[List.length_append,hd,List.length_singleton];omega) (by omega)
 exact .bind (key bigK s [] hl.2 .nil (by simp;omega) (by unfold bigK;omega)) λ r hr=>.some hr
theorem specWord_ok {tag:Int} {s:Bs} (hs:s.length<=1048576):Tot (g_spec_l04Word tag s) λ r=>U32 r/\r.length<=24:=by
 unfold g_spec_l04Word
 refine .bind (specPack_ok hs) λ a ha => ?_
 have key:∀ (k:Nat) (out:List Int) (i:Int),U32 out->out.length<=24->0<=i->i<=out.length->out.length-i < k->Tot (g_spec_l04Word_l0 tag k out i) λ r=>U32 r/\r.length<=24:=by
  intro k
  induction k with
  | zero=>intro out i h0 h1 h2 h3 h4;omega
  | succ k ih =>
   intro out i h0 h1 h2 h3 h4
   unfold g_spec_l04Word_l0
   refine .condD (λ hi => ?_) λ _=>.some ⟨h0,h1⟩
   obtain ⟨v,hv,_⟩:=getI_ex h2 hi
   refine .bind (Q:=λ o=>U32 o/\o.length=out.length) (.bindE hv (.bindE hv (.cond (λ _ => ?_) λ _=>.some ⟨h0.set (wU32_bd _),by simp⟩))) λ o ho => ?_
   ·obtain ⟨u,hu,_⟩:=getI_ex (xs:=out.set i.toNat (IntKind.wrap .u32 (v*16))) h2 (by simpa using hi)
    exact .bindE hu (.bindE hu (.some ⟨(h0.set (wU32_bd _)).set (wU32_bd _),by simp⟩))
   ·rw[wI64 (x:=i+1) (by omega) (by omega)]
    exact ih _ _ ho.1 (by omega) (by omega) (by omega) (by omega)
 exact .bind (.bind (key bigK a 0 ha.1 ha.2 (by decide) (by omega) (by unfold bigK;omega)) λ r hr=>.some hr) λ r hr=>.some hr
end Go.Proofs.Ytjdhhpolllkbbaa
namespace Go.Proofs.Ytjdhhpolllkbbaa
open Go Go.Fm
theorem specTag_ok {k:Int}:Tot (g_spec_l04Tag k) λ _=>True:=by
 unfold g_spec_l04Tag
 exact .cond (λ _=>.some trivial) λ _=>.cond (λ _=>.some trivial) λ _=>.cond (λ _=>.some trivial) λ _=>.cond (λ _=>.some trivial) λ _=>.cond (λ _=>.some trivial) λ _=>.cond (λ _=>.some trivial) λ _=>.some trivial
def EC (o:Unit ⊕ List Int):Prop:=match o with | .inl _=>True | .inr r=>U32 r/\r.length<=25
theorem specCells_ok {it:GItem} (hs:it.Name.length<=1048576) (hr:0<=it.Raw/\it.Raw < 4294967296):Tot (g_spec_CellsOf it) λ r=>U32 r/\r.length<=25:=by
 unfold g_spec_CellsOf
 have t3:∀ {a b c:Bool} {d:Bool},Tot (_root_.cond a (_root_.cond b (some c) (some false)) (some d)) λ _=>True:=λ {a b c d}=>by cases a<;>cases b<;>exact .some trivial
 have t2:∀ {a c d:Bool},Tot (_root_.cond a (some c) (some d)) λ _=>True:=λ {a c d}=>by cases a<;>exact .some trivial
 refine .bind t3 λ p _=>.bind (Q:=EC) ?_ λ o ho => ?_
 ·refine .cond (λ _=>.bind t3 λ a _=>.cond (λ _=>.some ⟨.one hr,by simp⟩) λ _=>.some trivial) λ _=>.cond (λ _=>.bind t2 λ a _=>.cond (λ _=>.bind specNum_ok λ r h=>.some ⟨h.1,by omega⟩) λ _=>.some trivial) λ _ =>
   .cond (λ _=>.bind t2 λ a _=>.cond (λ _=>.bind specNum_ok λ r h=>.some ⟨h.1,by omega⟩) λ _=>.some trivial) λ _ =>
   .cond (λ _=>.bind (specWord_ok hs) λ r h=>.bind t3 λ a _=>.cond (λ _=>.bindE (app_eq (by simp;omega)) (.some ⟨h.1.app (.one (wU32_bd _)),by simp;omega⟩)) λ _=>.some trivial) λ _ =>
   .bind specTag_ok λ t _=>.bind t2 λ a _=>.cond (λ _=>.bind (specWord_ok hs) λ r h=>.some ⟨h.1,by omega⟩) λ _=>.some trivial
 ·cases o with
  | inl _=>exact .some ⟨.nil,by simp⟩
  | inr r=>exact .some ho
end Go.Proofs.Ytjdhhpolllkbbaa
namespace Go.Fm
theorem nxt {n:Nat} (h:n < 16777216):IntKind.wrap .i64 ((n:Int)+1)=((n+1:Nat):Int):=by rw[wI64 (by omega) (by omega)];omega
def allN {α:Type} (p:Nat->α->Bool):Nat->List α->Bool
 | _,[]=>true
 | n,x::r=>p n x&&allN p (n+1) r
theorem allN_const {α:Type} (p:α->Bool):∀ (n:Nat) (l:List α),allN (λ _=>p) n l=l.all p
 | n,[]=>rfl
 | n,x::r=>by simp only[allN,List.all_cons,allN_const p (n+1) r]
theorem allLoop {α β:Type} {L:List α} {bad:β} (p:Nat->α->Bool) (F:Nat->Int->Option (Unit ⊕ β)) (step:∀ (k n:Nat) (x:α),L[n]? = some x->n < L.length->F (k+1) n=cond (p n x) (F k ((n+1:Nat):Int)) (some (.inr bad)))
  (fin:∀ k n:Nat,L.length<=n->F (k+1) n=some (.inl ())) (hm:L.length<=16777216):F bigK 0=some (cond (allN p 0 L) (.inl ()) (.inr bad)):=by
 have key:∀ (k n:Nat),n<=L.length->L.length-n < k->F k n=some (cond (allN p n (L.drop n)) (.inl ()) (.inr bad)):=by
  intro k
  induction k with
  | zero=>intro n h0 h1;omega
  | succ k ih =>
   intro n h0 h1
   by_cases hn:n < L.length
   ·rw[step k n L[n] (List.getElem?_eq_getElem hn) hn,List.drop_eq_getElem_cons hn]
    show _=some (cond (p n L[n]&&allN p (n+1) (L.drop (n+1))) _ _)
    cases p n L[n] with
    | false=>rfl
    | true=>rw[cond_true,ih (n+1) (by omega) (by omega),Bool.true_and]
   ·rw[fin k n (by omega),List.drop_eq_nil_of_le (by omega)];rfl
 have:=key bigK 0 (Nat.zero_le _) (by unfold bigK;omega)
 rw[List.drop_zero]at this
 exact this
theorem eqList {α:Type} [DecidableEq α] {a b:List α} (F:Nat->Int->Option (Unit ⊕ Bool)) (g:Option Bool) (hg:g=cond ((a.length:Int) != (b.length:Int)) (some false) (((F bigK 0).bind λ o=>match o with | .inl ()=>some (.inl ()) | .inr v=>some (.inr v):Option (Unit ⊕ Bool)).bind λ o=>match o with | .inl ()=>some true | .inr v=>some v))
  (hF:∀ (k:Nat) (i:Int),F (k+1) i=cond (decide (i < (a.length:Int))) ((getI a i).bind λ x=>(getI b i).bind λ y=>cond (!decide (x=y)) (some (.inr false)) (F k (IntKind.wrap .i64 (i+1)))) (some (.inl ()))) (hm:a.length<=1048576):g=some (decide (a=b)):=by
 rw[hg]
 by_cases hl:a.length=b.length
 ·have key:∀ (k n:Nat),n<=a.length->a.length-n < k->F k n=some (if a.drop n=b.drop n then .inl () else .inr false):=by
   intro k
   induction k with
   | zero=>intro n h0 h1;omega
   | succ k ih =>
    intro n h0 h1
    rw[hF]
    by_cases hn:n < a.length
    ·have hn':n < b.length:=by omega
     rw[decide_eq_true (by omega),getI_nat,getI_nat,List.getElem?_eq_getElem hn,List.getElem?_eq_getElem hn',List.drop_eq_getElem_cons hn,List.drop_eq_getElem_cons hn']
     simp only[cond_true,Option.bind_some]
     by_cases he:a[n]=b[n]
     ·rw[decide_eq_true he,Bool.not_true,cond_false,wI64 (by omega) (by omega),show ((n:Int)+1)=((n+1:Nat):Int) by omega,ih (n+1) (by omega) (by omega),he]
      simp only[List.cons.injEq,true_and]
     ·rw[decide_eq_false he,Bool.not_false,cond_true,if_neg (λ h=>he (List.cons.inj h).1)]
    ·rw[decide_eq_false (by omega),cond_false,List.drop_eq_nil_of_le (by omega),List.drop_eq_nil_of_le (by omega),if_pos rfl]
  have:((a.length:Int) != (b.length:Int))=false:=by rw[hl];simp
  rw[this,cond_false]
  have h:=key bigK 0 (Nat.zero_le _) (by unfold bigK;omega)
  rw[show ((0:Nat):Int)=0 from rfl]at h
  rw[h]
  by_cases he:a=b
  ·simp[he]
  ·simp[he]
 ·have:((a.length:Int) != (b.length:Int))=true:=by simp;omega
  rw[this,cond_true,decide_eq_false (λ h=>hl (by rw[h]))]
theorem bne_self' {α:Type} [BEq α] [LawfulBEq α] (x:α):(x != x)=false:=by simp
end Go.Fm
namespace Go.Proofs.Ytjdhhpolllkbbaa
open Go Go.Fm
theorem andU {a b:Int} (a0:0<=a) (a1:a < 4294967296) (b0:0<=b) (b1:b < 4294967296):andI .u32 a b=((a.toNat &&& b.toNat:Nat):Int):=by
 unfold andI
 rw[BitVec.toNat_and,bB_toNat (k:=.u32) a0 a1,bB_toNat (k:=.u32) b0 b1]
 have:a.toNat &&& b.toNat<=b.toNat:=Nat.and_le_right
 exact wU32 (Int.natCast_nonneg _) (by omega)
theorem orU {a b:Int} (a0:0<=a) (a1:a < 4294967296) (b0:0<=b) (b1:b < 4294967296):orI .u32 a b=((a.toNat ||| b.toNat:Nat):Int):=by
 unfold orI
 rw[BitVec.toNat_or,bB_toNat (k:=.u32) a0 a1,bB_toNat (k:=.u32) b0 b1]
 have:a.toNat ||| b.toNat < 2 ^ 32:=Nat.or_lt_two_pow (by omega) (by omega)
 exact wU32 (Int.natCast_nonneg _) (by omega)
theorem and15 {v:Int} (h0:0<=v) (h1:v < 4294967296):andI .u32 v 15=v % 16:=by
 rw[andU h0 h1 (by decide) (by decide)]
 have:v.toNat &&& 15=v.toNat % 16:=Nat.and_two_pow_sub_one_eq_mod v.toNat 4
 show ((v.toNat &&& 15:Nat):Int)=_
 rw[this];omega
theorem and16 {v:Int} (h0:0<=v) (h1:v < 4294967296):(andI .u32 v 16 != 0)=decide (v / 16 % 2=1):=by
 rw[andU h0 h1 (by decide) (by decide)]
 show ((((v.toNat &&& 16:Nat):Int)) != 0)=_
 have h2:v.toNat &&& 16=16*(v.toNat / 16 % 2):=by
  have e1:v.toNat &&& 16=(v.toNat &&& 31) &&& 16:=by rw[Nat.and_assoc];rfl
  have e2:v.toNat &&& 31=v.toNat % 32:=Nat.and_two_pow_sub_one_eq_mod v.toNat 5
  have e3:∀ r,r < 32->r &&& 16=16*(r / 16):=by decide
  rw[e1,e2,e3 _ (Nat.mod_lt _ (by decide))]
  omega
 rw[h2]
 by_cases h:v / 16 % 2=1
 ·rw[decide_eq_true h]
  have:v.toNat / 16 % 2=1:=by omega
  rw[this];rfl
 ·rw[decide_eq_false h]
  have:v.toNat / 16 % 2=0:=by omega
  rw[this];rfl
theorem or_low {q r:Nat} (i:Nat) (hr:r < 2 ^ i):(2 ^ i*q) ||| r=2 ^ i*q+r:=(Nat.two_pow_add_eq_or_of_lt hr q).symm
theorem or16 {v t:Int} (h0:0<=v) (h1:v < 268435456) (t0:0<=t) (t1:t < 16):orI .u32 (IntKind.wrap .u32 (v*16)) t=v*16+t:=by
 rw[wU32 (by omega) (by omega),orU (by omega) (by omega) t0 (by omega)]
 have e:(v*16).toNat=2 ^ 4*v.toNat:=by omega
 rw[e,or_low 4 (by omega)]
 omega
theorem within_eq {x a b:Int}:g_impl_within x a b=some (decide (a<=x/\x<=b)):=by
 unfold g_impl_within
 by_cases h:a<=x
 ·rw[decide_eq_true h]
  simp only[cond_true]
  congr 1
  exact decide_eq_decide.2 ⟨λ h2=>⟨h,h2⟩,λ h2=>h2.2⟩
 ·rw[decide_eq_false h]
  simp only[cond_false]
  congr 1
  exact (decide_eq_false λ h2=>h h2.1).symm
theorem width_ok {k:Int}:Tot (g_impl_WidthOf k) λ w=>0<=w/\w<=7/\(0<=k->k<=47->4<=w):=by
 unfold g_impl_WidthOf
 refine .bindE within_eq (.condD (λ _=>.some (by omega)) λ h1=>.bindE within_eq (.condD (λ _=>.some (by omega)) λ h2=>.bindE within_eq (.condD (λ _=>.some (by omega)) λ h3=>.some (by omega))))
theorem bits_ok {k:Int}:Tot (g_impl_BitsOf k) λ w=>True:=by
 unfold g_impl_BitsOf
 exact .bind width_ok λ _ _=>.cond (λ _=>.some trivial) λ _=>.cond (λ _=>.some trivial) λ _=>.cond (λ _=>.some trivial) λ _=>.some trivial
theorem shr_ok {k:IntKind} {a b:Int} (h:0<=b):Tot (shrI k a b) λ _=>True:=by unfold shrI;rw[if_pos h];exact .some trivial
def DC (n:Int) (o:Unit ⊕ (Int×Int)):Prop:=match o with | .inl _=>True | .inr r=>r.1<=47/\4<=r.2/\r.2<=n
theorem decode_ok {f n:Int}:Tot (g_impl_Decode f n) λ r=>r.1<=47/\(1<=r.1->4<=r.2/\r.2<=n):=by
 unfold g_impl_Decode
 refine .bindE within_eq (.cond (λ _=>.some ⟨by decide,λ h=>absurd h (by decide)⟩) λ hc => ?_)
 have hn:1<=n/\n<=32:=by simpa using hc
 have key:∀ (k:Nat) (i:Int),0<=i->i<=48->48-i < k->Tot (g_impl_Decode_l0 f n k i) (DC n):=by
  intro k
  induction k with
  | zero=>intro i h0 h1 h2;omega
  | succ k ih =>
   intro i h0 h1 h2
   unfold g_impl_Decode_l0
   refine .condD (λ hi=>.bind width_ok λ w hw=>.bind (Q:=λ b=>b=true->w<=n) (.condD (λ hc => ?_) λ _=>.some λ h=>nomatch h) λ b hb=>.cond (λ hb2=>.some ⟨by show i<=47;omega,hw.2.2 h0 (by omega),hb hb2⟩) λ _ => ?_) λ _=>.some trivial
   ·rw[wI64 (x:=n-w) (by omega) (by omega)]
    exact .bind (shr_ok (by omega)) λ _ _=>.bind (shl_ok (by omega)) λ _ _=>.bind bits_ok λ _ _=>.some λ _=>hc
   ·rw[wI64 (x:=i+1) (by omega) (by omega)]
    exact ih _ (by omega) (by omega) (by omega)
 refine .bind (Q:=DC n) (.bind (key bigK 0 (by decide) (by decide) (by decide)) λ o ho => ?_) λ o ho => ?_
 ·cases o<;>exact .some ho
 ·cases o with
  | inl _=>exact .some ⟨by decide,λ h=>absurd h (by decide)⟩
  | inr r=>exact .some ⟨ho.1,λ _=>ho.2⟩
def Letters:Bs:=[32,114,116,111,101,97,110,105,115,109,99,121,108,103,102,119,100,118,112,98,104,120,117,113,48,49,50,51,52,53,54,55,56,57,106,45,107,46,122,47,59,39,33,43,64,42,44,63]
theorem letters_len:Letters.length=48:=rfl
theorem letterAt_ok {k:Int}:Tot (g_impl_LetterAt k) λ v=>0<=v/\v < 256:=by
 unfold g_impl_LetterAt
 refine .bindE within_eq (.cond (λ _=>.some (by decide)) λ hc => ?_)
 have hk:0<=k/\k<=47:=by simpa using hc
 obtain ⟨v,hv,h0,h1,_⟩:=idxS_ex (l:=Letters) (i:=k) hk.1 (by rw[letters_len];omega)
 exact .bindE (a:=Letters) rfl (.bindE hv (.some ⟨h0,h1⟩))
theorem unpackOne_ok {f:Int}:Tot (g_impl_UnpackOne f) λ r=>r.length<=7:=by
 unfold g_impl_UnpackOne
 refine .condD (λ _=>.some (by simp)) λ _ => ?_
 have key:∀ (k:Nat) (out:List Int) (left:Int),0<=left->left<=28->(out.length:Int)*4<=28-left->left < k->Tot (g_impl_UnpackOne_l0 f k out left) λ r=>r.length<=7:=by
  intro k
  induction k with
  | zero=>intro out left h0 h1 h2 h3;omega
  | succ k ih =>
   intro out left h0 h1 h2 h3
   unfold g_impl_UnpackOne_l0
   refine .bind (shl_ok h0) λ s _=>.cond (λ _=>.bind decode_ok λ d hd=>.condD (λ _=>.some (by omega)) λ h1=>.bind letterAt_ok λ v _=>.bindE (app_eq (by simp;omega)) ?_) λ _=>.some (by omega)
   have:=hd.2 (by omega)
   rw[wI64 (x:=left-d.2) (by omega) (by omega)]
   exact ih _ _ (by omega) (by omega) (by simp;omega) (by omega)
 refine .bind (key bigK [] 28 (by decide) (by decide) (by decide) (by decide)) λ r hr=>.some ?_
 show (strOf r).length<=7
 unfold strOf;rw[List.length_map];exact hr
theorem idxB_bd {l:List UInt8} {c:Int} : -1<=idxB l c/\idxB l c < l.length:=by
 unfold idxB
 cases h:l.findIdx? (λ b=>(b.toNat:Int)==c) with
 | none=>exact ⟨by decide,by show (-1:Int) < _;omega⟩
 | some i =>
  have:=(List.findIdx?_eq_some_iff_getElem.1 h).1
  exact ⟨by show (-1:Int)<=(i:Int);omega,by show (i:Int) < _;omega⟩
theorem letterOf_ok {b:Int} (h0:0<=b) (h1:b < 256):Tot (g_impl_LetterOf b) λ r => -1<=r/\r<=47:=by
 unfold g_impl_LetterOf g_strings_IndexByte g_istringslite_IndexByte g_ibytealg_IndexByteString gIdxB
 refine .bindE (a:=Letters) rfl (.bind (Q:=λ r => -1<=r/\r<=47) (.bind (Q:=λ r => -1<=r/\r<=47) ?_ λ r h=>.some h) λ r h=>.some h)
 refine .bind (Q:=λ r => -1<=r/\r<=47) ?_ λ r h=>.some h
 rw[if_pos ⟨h0,h1⟩]
 refine .some ⟨idxB_bd.1,?_⟩
 have:=(idxB_bd (l:=Letters) (c:=b)).2
 rw[letters_len]at this
 omega
theorem nameOk_ok {s:Bs} (hs:s.length<=1048576):Tot (g_impl_NameOk s) λ r=>r=true->1<=s.length/\s.length<=24:=by
 unfold g_impl_NameOk
 have key:∀ (k:Nat) (i:Int),0<=i->i<=s.length->s.length-i < k->Tot (g_impl_NameOk_l0 s (s.length:Int) k i) λ o=>match o with | .inl _=>True | .inr v=>v=false:=by
  intro k
  induction k with
  | zero=>intro i h0 h1 h2;omega
  | succ k ih =>
   intro i h0 h1 h2
   unfold g_impl_NameOk_l0
   refine .condD (λ hi => ?_) λ _=>.some trivial
   obtain ⟨v,hv,v0,v1,_⟩:=idxS_ex h0 hi
   refine .bindE hv (.bind (letterOf_ok v0 v1) λ x hx=>.condD (λ _=>.some rfl) λ _ => ?_)
   rw[wI64 (x:=i+1) (by omega) (by omega)]
   exact ih _ (by omega) (by omega) (by omega)
 refine .bind (Q:=λ o:Unit ⊕ Bool=>match o with | .inl _=>True | .inr v=>v=false) (.bind (key bigK 0 (by decide) (by omega) (by unfold bigK;omega)) λ o ho => ?_) λ o ho => ?_
 ·cases o with
  | inl _=>exact .some trivial
  | inr v=>exact .some ho
 ·cases o with
  | inl _=>exact .bindE within_eq (.some λ h=>by have:=of_decide_eq_true h;omega)
  | inr v=>exact .some λ h=>by rw[show v=false from ho]at h;cases h
theorem packOne_ok {s:Bs} (hs:s.length<=1048576):Tot (g_impl_PackOne s) λ r=>(0<=r.1/\r.1 < 4294967296)/\0<=r.2/\r.2<=s.length/\(g_impl_NameOk s=some true->1<=r.2):=by
 unfold g_impl_PackOne
 obtain ⟨b,hb,hl⟩:=nameOk_ok hs
 rw[hb]
 refine .bindE rfl (.cond (λ hc=>.some ⟨by decide,by decide,by show (0:Int)<=_;omega,λ h=>by cases h;cases hc⟩) λ hc => ?_)
 have hb1:b=true:=by simpa using hc
 have hs1:=hl hb1
 have key:∀ (k:Nat) (f left many n:Int),0<=n->n<=s.length->0<=left->left<=28->(n=0->left=28)->many=n->(0<=f/\f < 4294967296)->s.length-n < k →
   Tot (g_impl_PackOne_l0 s (s.length:Int) k f left many n) λ r=>(0<=r.1/\r.1 < 4294967296)/\1<=r.2/\r.2<=s.length:=by
  intro k
  induction k with
  | zero=>intro f left many n h0 h1 h2 h3 h4 h5 h6 h7;omega
  | succ k ih =>
   intro f left many n h0 h1 h2 h3 h4 h5 h6 h7
   unfold g_impl_PackOne_l0
   refine .condD (λ hi => ?_) λ hi=>.some ⟨h6,by show 1<=many;omega,by show many<=_;omega⟩
   obtain ⟨v,hv,v0,v1,_⟩:=idxS_ex h0 hi
   refine .bindE hv (.bind (letterOf_ok v0 v1) λ x hx => ?_)
   obtain ⟨w,hw,hw0,hw1,_⟩:=width_ok (k:=x)
   refine .bindE hw (.condD (λ hc=>.some ⟨h6,?_,by show many<=_;omega⟩) λ hc=>.bindE hw (.bind bits_ok λ b _ => ?_))
   ·show 1<=many
    by_cases hn:n=0
    ·have:=h4 hn;omega
    ·omega
   ·rw[wI64 (x:=n+1) (by omega) (by omega),wI64 (x:=left-w) (by omega) (by omega),wI64 (x:=many+1) (by omega) (by omega)]
    refine .bind (shl_ok (by omega)) λ d _=>ih _ _ _ _ (by omega) (by omega) (by omega) (by omega) (by omega) (by omega) (wU32_bd _) (by omega)
 refine .bind (Q:=λ r:Int×Int=>(0<=r.1/\r.1 < 4294967296)/\1<=r.2/\r.2<=s.length) (.bind (key bigK 0 28 0 0 (by decide) (by omega) (by decide) (by decide) (λ _=>rfl) rfl (by decide) (by unfold bigK;omega)) λ r hr=>.some hr) λ r hr=>.some ⟨hr.1,by have:=hr.2.1;show 0<=r.2;omega,hr.2.2,λ _=>hr.2.1⟩
theorem pack_ok {s:Bs} (hs:s.length<=1048576):Tot (g_impl_Pack s) λ r=>U32 r/\r.length<=24:=by
 unfold g_impl_Pack
 have key:∀ (k:Nat) (x:Bs) (out:List Int),x.length<=1048576->U32 out->(out=[]\/out.length+x.length<=24)->x.length < k->Tot (g_impl_Pack_l0 k x out) λ r=>U32 r/\r.length<=24:=by
  intro k
  induction k with
  | zero=>intro x out h0 h1 h2 h3;omega
  | succ k ih =>
   intro x out h0 h1 h2 h3
   unfold g_impl_Pack_l0
   obtain ⟨b,hb,hl⟩:=nameOk_ok h0
   have ho:out.length<=24:=by
    rcases h2 with rfl|h2
    ·simp
    ·omega
   refine .bindE hb (.cond (λ hc => ?_) λ _=>.some ⟨h1,ho⟩)
   subst hc
   have hx:=hl rfl
   have h2':out.length+x.length<=24:=by
    rcases h2 with rfl|h2
    ·simpa using hx.2
    ·exact h2
   refine .bind (packOne_ok h0) λ r hr=>.bindE (app_eq (by simp;omega)) (.bindE (subL_drop hr.2.1 hr.2.2.1) ?_)
   have h4:=hr.2.2.2 hb
   have hd:(x.drop r.2.toNat).length=x.length-r.2.toNat:=List.length_drop
   exact ih _ _ (by omega) (h1.app (.one hr.1)) (.inr (by rw[List.length_append,hd,List.length_singleton];omega)) (by omega)
 exact .bind (key bigK s [] hs .nil (.inl rfl) (by unfold bigK;omega)) λ r hr=>.some hr
end Go.Proofs.Ytjdhhpolllkbbaa
namespace Go.Proofs.Ytjdhhpolllkbbaa
open Go Go.Fm
theorem eqU_l0 {a b:List Int} (hl:a.length=b.length) (hm:a.length<=1048576):∀ (k n:Nat),n<=a.length->a.length-n < k →
  g_slices_Equal_uint32_l0 a b (a.length:Int) k n=some (if a.drop n=b.drop n then .inl () else .inr false):=by
 intro k
 induction k with
 | zero=>intro n h0 h1;omega
 | succ k ih =>
  intro n h0 h1
  unfold g_slices_Equal_uint32_l0
  by_cases hn:n < a.length
  ·have hn':n < b.length:=by omega
   rw[decide_eq_true (by omega),getI_nat,getI_nat,List.getElem?_eq_getElem hn,List.getElem?_eq_getElem hn',List.drop_eq_getElem_cons hn,List.drop_eq_getElem_cons hn']
   simp only[cond_true,Option.bind_some]
   by_cases he:a[n]=b[n]
   ·have:(a[n] != b[n])=false:=by rw[he];simp
    rw[this,cond_false,wI64 (by omega) (by omega),show ((n:Int)+1)=((n+1:Nat):Int) by omega,ih (n+1) (by omega) (by omega),he]
    simp only[List.cons.injEq,true_and]
   ·have:(a[n] != b[n])=true:=by simpa using he
    rw[this,cond_true,if_neg (λ h=>he (List.cons.inj h).1)]
  ·rw[decide_eq_false (by omega),cond_false,List.drop_eq_nil_of_le (by omega),List.drop_eq_nil_of_le (by omega),if_pos rfl]
theorem eqU {a b:List Int} (hm:a.length<=1048576):g_slices_Equal_uint32 a b=some (decide (a=b)):=by
 unfold g_slices_Equal_uint32
 by_cases hl:a.length=b.length
 ·have:((a.length:Int) != (b.length:Int))=false:=by rw[hl];simp
  rw[this,cond_false]
  have h:=eqU_l0 hl hm bigK 0 (Nat.zero_le _) (by unfold bigK;omega)
  rw[show ((0:Nat):Int)=0 from rfl]at h
  rw[h]
  by_cases he:a=b
  ·simp[he]
  ·simp[he]
 ·have:((a.length:Int) != (b.length:Int))=true:=by simp;omega
  rw[this,cond_true,decide_eq_false (λ h=>hl (by rw[h]))]
theorem unpack_ok {l:List Int}:Tot (g_impl_Unpack l) λ r=>r.1.length<=168/\(r.2=true->g_impl_Pack r.1=some l):=by
 unfold g_impl_Unpack
 refine .condD (λ _=>.some ⟨by simp,λ h=>nomatch h⟩) λ hl => ?_
 have hl:l.length<=24:=by omega
 have key:∀ (k:Nat) (name:Bs) (i:Int),0<=i->i<=l.length->(name.length:Int)<=7*i->l.length-i < k->Tot (g_impl_Unpack_l0 l (l.length:Int) k name i) λ r=>r.length<=168:=by
  intro k
  induction k with
  | zero=>intro name i h0 h1 h2 h3;omega
  | succ k ih =>
   intro name i h0 h1 h2 h3
   unfold g_impl_Unpack_l0
   refine .condD (λ hi => ?_) λ _=>.some (by omega)
   obtain ⟨v,hv,_⟩:=getI_ex h0 hi
   refine .bindE hv (.bind unpackOne_ok λ s hs=>.bindE (catS_eq (by omega)) ?_)
   rw[wI64 (x:=i+1) (by omega) (by omega)]
   exact ih _ _ (by omega) (by omega) (by rw[List.length_append];omega) (by omega)
 refine .bind (.bind (key bigK [] 0 (by decide) (by omega) (by decide) (by unfold bigK;omega)) λ r hr=>.some hr) λ name hn => ?_
 refine .bind (Q:=λ b=>b=false->g_impl_Pack name=some l) (.bind (nameOk_ok (by omega)) λ b _=>.cond (λ _=>.some λ h=>nomatch h) λ _ => ?_) λ b hb=>.cond (λ _=>.some ⟨by simp,λ h=>nomatch h⟩) λ h=>.some ⟨hn,λ _=>hb h⟩
 obtain ⟨p,hp,_,hpl⟩:=pack_ok (s:=name) (by omega)
 refine .bindE hp (.bindE (eqU (by omega)) (.some λ h => ?_))
 have:p=l:=by simpa using h
 rw[hp,this]
theorem nameKind_eq {t:Int} (h:t=1\/t=3\/t=4\/t=9\/t=10\/t=11):∃ k,g_impl_nameKind t=some k/\g_impl_nameTag k=some t/\k≠0:=by
 rcases h with rfl|rfl|rfl|rfl|rfl|rfl
 ·exact ⟨1,by kernel_rfl,by kernel_rfl,by decide⟩
 ·exact ⟨2,by kernel_rfl,by kernel_rfl,by decide⟩
 ·exact ⟨3,by kernel_rfl,by kernel_rfl,by decide⟩
 ·exact ⟨4,by kernel_rfl,by kernel_rfl,by decide⟩
 ·exact ⟨5,by kernel_rfl,by kernel_rfl,by decide⟩
 ·exact ⟨6,by kernel_rfl,by kernel_rfl,by decide⟩
theorem cells_raw {v:Int}:g_impl_CellsOf ⟨0,[],0,false,v⟩=some [v]:=by
 unfold g_impl_CellsOf
 have h0:g_impl_nameTag 0=some 0:=by kernel_rfl
 simp[h0]
def nameCells (t:Int):List Int->List Int
 | []=>[]
 | f::r=>(orI .u32 (IntKind.wrap .u32 (f*16)) t)::r.map λ f=>orI .u32 (IntKind.wrap .u32 (f*16)) 0
theorem cells_l0 {fs:List Int} (hl:fs.length<=24):∀ (k n:Nat) (t:Int) (out:List Int),n<=fs.length->fs.length-n < k->out.length=n->(1<=n->t=0) →
  g_impl_CellsOf_l0 fs (fs.length:Int) k t out n=some (out++nameCells t (fs.drop n)):=by
 intro k
 induction k with
 | zero=>intro n t out h0 h1 h2 h3;omega
 | succ k ih =>
  intro n t out h0 h1 h2 h3
  unfold g_impl_CellsOf_l0
  by_cases hn:n < fs.length
  ·rw[decide_eq_true (by omega),getI_nat,List.getElem?_eq_getElem hn,List.drop_eq_getElem_cons hn]
   simp only[cond_true,Option.bind_some]
   rw[app_eq (by simp;omega),Option.bind_some,wI64 (by omega) (by omega),show ((n:Int)+1)=((n+1:Nat):Int) by omega,ih (n+1) 0 _ (by omega) (by omega) (by simp[h2]) (λ _=>rfl)]
   congr 1
   rw[List.append_assoc]
   congr 1
   simp only[nameCells,List.singleton_append]
   congr 1
   cases fs.drop (n+1) with
   | nil=>rfl
   | cons x r=>rfl
  ·rw[decide_eq_false (by omega),cond_false,List.drop_eq_nil_of_le (by omega)]
   simp[nameCells]
theorem cells_name {kd t:Int} {name:Bs} {fs:List Int} (ht:g_impl_nameTag kd=some t) (h0:0 < t) (hp:g_impl_Pack name=some fs) (hl:fs.length<=24) :
  g_impl_CellsOf ⟨kd,name,0,false,0⟩=some (nameCells t fs):=by
 unfold g_impl_CellsOf
 have:=cells_l0 hl bigK 0 t [] (Nat.zero_le _) (by unfold bigK;omega) rfl (λ h=>by omega)
 simp only[Int.natCast_zero,List.drop_zero,List.nil_append]at this
 simp[ht,hp,h0,this]
theorem cells_7 {n:Int} {hex:Bool}:g_impl_CellsOf ⟨7,[],n,hex,0⟩=g_impl_numberCells n hex 8 2:=by
 unfold g_impl_CellsOf
 have h0:g_impl_nameTag 7=some 0:=by kernel_rfl
 simp[h0]
 cases g_impl_numberCells n hex 8 2<;>rfl
theorem cells_8 {n:Int} {hex:Bool}:g_impl_CellsOf ⟨8,[],n,hex,0⟩=g_impl_numberCells n hex 6 5:=by
 unfold g_impl_CellsOf
 have h0:g_impl_nameTag 8=some 0:=by kernel_rfl
 simp[h0]
 cases g_impl_numberCells n hex 6 5<;>rfl
theorem cells_9 {n f:Int} {name:Bs} (hp:g_impl_Pack name=some [f]):g_impl_CellsOf ⟨9,name,n,false,0⟩=some [orI .u32 (IntKind.wrap .u32 (f*16)) 12,IntKind.wrap .u32 n]:=by
 unfold g_impl_CellsOf
 have h0:g_impl_nameTag 9=some 0:=by kernel_rfl
 have h1:getI [f] 0=some f:=rfl
 simp[h0,hp,h1]
theorem num_ok {n:Int} {hex:Bool} {s l:Int}:Tot (g_impl_numberCells n hex s l) λ r=>U32 r/\r.length<=2:=by
 unfold g_impl_numberCells
 refine .bind (Q:=λ _=>True) (.cond (λ _=>.some trivial) λ _=>.some trivial) λ a _=>.bind (Q:=λ _=>True) (.condD (λ _=>.some trivial) λ _=>.some trivial) λ b _=>.cond (λ _=>.some ⟨.one (wU32_bd _),by simp⟩) λ _=>.some ⟨?_,by simp⟩
 exact (U32.one (wU32_bd _)).app (.one (wU32_bd _))
end Go.Proofs.Ytjdhhpolllkbbaa
namespace Go.Proofs.Ytjdhhpolllkbbaa
open Go Go.Fm
def runP (c:Int):Bool:=c != 0&&c % 16==0
theorem scan_l0 {tl:List Int} (hu:U32 tl) (hl:tl.length<=64):∀ (k n:Nat) (fields:List Int),n<=tl.length->tl.length-n < k->fields.length+(tl.length-n)<=65 →
  g_impl_parseOne_l0 tl (tl.length:Int) k fields n=some (fields++((tl.drop n).takeWhile runP).map (· / 16)):=by
 intro k
 induction k with
 | zero=>intro n fields h0 h1;omega
 | succ k ih =>
  intro n fields h0 h1 h2
  unfold g_impl_parseOne_l0
  by_cases hn:n < tl.length
  ·have hx:=hu tl[n] (List.getElem_mem hn)
   rw[decide_eq_true (by omega),getI_nat,List.getElem?_eq_getElem hn,List.drop_eq_getElem_cons hn]
   simp only[cond_true,Option.bind_some]
   rw[and15 hx.1 hx.2]
   have hc:(cond (tl[n]==0) (some true) (some (tl[n] % 16 != 0)):Option Bool)=some (!runP tl[n]):=by
    have h:∀ a b:Bool,(cond a (some true) (some (!b)):Option Bool)=some (!(!a&&b)):=by decide
    exact h _ _
   rw[hc,Option.bind_some]
   cases hr:runP tl[n] with
   | true =>
    simp only[Bool.not_true,cond_false]
    rw[app_eq (by simp;omega),Option.bind_some,wI64 (by omega) (by omega),show ((n:Int)+1)=((n+1:Nat):Int) by omega,ih (n+1) _ (by omega) (by omega) (by simp;omega),List.takeWhile_cons,hr]
    simp
   | false =>
    simp only[Bool.not_false,cond_true]
    rw[List.takeWhile_cons,hr]
    simp
  ·rw[decide_eq_false (by omega),cond_false,List.drop_eq_nil_of_le (by omega)]
   simp
def isName (t:Int):Bool:=t==1 || (t==3 || (t==4 || (t==9 || (t==10 || t==11))))
theorem chain (t:Int):(cond (t==1) (some (t==1)) (cond (t==3) (some (t==3)) (cond (t==4) (some (t==4)) (cond (t==9) (some (t==9)) (cond (t==10) (some (t==10)) (some (t==11)))))):Option Bool)=some (isName t):=by
 unfold isName
 cases t==1<;>cases t==3<;>cases t==4<;>cases t==9<;>cases t==10<;>rfl
theorem chain2 (t:Int):(cond (t==2) (some (t==2)) (some (t==5)):Option Bool)=some (t==2 || t==5):=by cases t==2<;>rfl
def raw (v:Int):GItem:=⟨0,[],0,false,v⟩
def lng (v w:Int):GItem:=cond (v % 16==5) ⟨8,[],IntKind.wrap .i32 w,andI .u32 v 16 != 0,0⟩ ⟨7,[],IntKind.wrap .i32 w,andI .u32 v 16 != 0,0⟩
def pm (v:Int) (run:List Int) (nx:Option Int):Option GItem :=
 cond (isName (v % 16)) ((g_impl_Unpack (v / 16::run.map (· / 16))).bind λ y=>cond y.2 ((g_impl_nameKind (v % 16)).bind λ k=>some ⟨k,y.1,0,false,0⟩) (some (raw v)))
 (cond (v % 16==8) (some ⟨7,[],IntKind.wrap .i32 v / 32,andI .u32 v 16 != 0,0⟩) (cond (v % 16==6) (some ⟨8,[],IntKind.wrap .i32 v / 32,andI .u32 v 16 != 0,0⟩)
 (cond (v % 16==2 || v % 16==5) (match nx with
  | none=>some (raw v)
  | some w=>(g_impl_CellsOf (lng v w)).bind λ y=>cond (decide (y=[v,w])) (some (lng v w)) (some (raw v)))
 (cond (v % 16==12) (match nx with
  | none=>some (raw v)
  | some w=>(g_impl_FieldOk (v / 16)).bind λ b=>cond b ((g_impl_UnpackOne (v / 16)).bind λ nm=>some ⟨9,nm,IntKind.wrap .i32 w,false,0⟩) (some (raw v))) (some (raw v))))))
theorem lng_cells {v w:Int}:Tot (g_impl_CellsOf (lng v w)) λ r=>U32 r/\r.length<=2:=by
 unfold lng
 cases v % 16==5
 ·rw[cond_false,cells_7];exact num_ok
 ·rw[cond_true,cells_8];exact num_ok
theorem parse_pm {v:Int} {tl:List Int} (hu:U32 (v::tl)) (hl:(v::tl).length<=64):g_impl_parseOne (v::tl)=pm v (tl.takeWhile runP) tl.head? := by
 have hv:=hu v (List.mem_cons_self ..)
 have hut:U32 tl:=λ x hx=>hu x (List.mem_cons_of_mem _ hx)
 have hlt:tl.length<=63:=by simp at hl;omega
 have e0:getI (v::tl) 0=some v:=rfl
 unfold g_impl_parseOne pm
 rw[e0]
 simp only[Option.bind_some,and15 hv.1 hv.2,chain,chain2]
 cases isName (v % 16) with
 | true =>
  simp only[cond_true]
  have hs:=scan_l0 hut (by omega) bigK 0 [v / 16] (Nat.zero_le _) (by unfold bigK;omega) (by simp;omega)
  simp only[Int.natCast_zero,List.drop_zero,List.singleton_append]at hs
  rw[subL_drop (by decide) (by simp;omega),Option.bind_some,show List.drop (Int.toNat 1) (v::tl)=tl from rfl,hs]
  simp only[Option.bind_some]
  cases g_impl_Unpack (v / 16::List.map (· / 16) (tl.takeWhile runP)) with
  | none=>rfl
  | some y =>
   simp only[Option.bind_some]
   cases y.2 with
   | true =>
    simp only[cond_true]
    cases g_impl_nameKind (v % 16)<;>rfl
   | false=>rfl
 | false =>
  simp only[cond_false]
  cases v % 16==8 with
  | true=>rfl
  | false =>
   simp only[cond_false]
   cases v % 16==6 with
   | true=>rfl
   | false =>
    simp only[cond_false]
    cases h25:(v % 16==2 || v % 16==5) with
    | true =>
     simp only[cond_true]
     cases tl with
     | nil=>rfl
     | cons w tl =>
      have e1:getI (v::w::tl) 1=some w:=rfl
      have e2:decide ((((v::w::tl).length:Nat):Int) < 2)=false:=decide_eq_false (by simp;omega)
      have e3:(cond (v % 16==5) (some (⟨8,[],IntKind.wrap .i32 w,andI .u32 v 16 != 0,0⟩:GItem)) (some ⟨7,[],IntKind.wrap .i32 w,andI .u32 v 16 != 0,0⟩))=some (lng v w):=by
       unfold lng;cases v % 16==5<;>rfl
      obtain ⟨cs,hcs,hcu,hcl⟩:=lng_cells (v:=v) (w:=w)
      rw[e2,e1]
      simp only[cond_false,Option.bind_some,e3,hcs,List.head?_cons]
      rw[subL_take (by decide) (by simp;omega)]
      simp only[Option.bind_some]
      rw[eqU (by omega),show List.take (Int.toNat 2) (v::w::tl)=[v,w] from rfl]
      simp only[Option.bind_some]
      cases decide (cs=[v,w])<;>rfl
    | false =>
     simp only[cond_false]
     cases v % 16==12 with
     | false=>rfl
     | true =>
      simp only[cond_true]
      cases tl with
      | nil=>rfl
      | cons w tl =>
       have e1:getI (v::w::tl) 1=some w:=rfl
       have e2:decide ((((v::w::tl).length:Nat):Int) > 1)=true:=decide_eq_true (by simp;omega)
       rw[e2,e1]
       simp only[cond_true,List.head?_cons,Option.bind_some]
       cases g_impl_FieldOk (v / 16) with
       | none=>rfl
       | some b =>
        simp only[Option.bind_some]
        cases b with
        | false=>rfl
        | true =>
         simp only[cond_true]
         cases g_impl_UnpackOne (v / 16)<;>rfl
end Go.Proofs.Ytjdhhpolllkbbaa
namespace Go.Proofs.Ytjdhhpolllkbbaa
open Go Go.Fm
theorem runP_iff {c:Int}:runP c=true ↔ c≠0/\c % 16=0:=by unfold runP;simp
theorem nameCells_back {v:Int} {run:List Int} (hv:0<=v/\v < 4294967296) (hr:∀ c ∈ run,(0<=c/\c < 4294967296)/\runP c=true) :
  nameCells (v % 16) (v / 16::run.map (· / 16))=v::run:=by
 show orI .u32 (IntKind.wrap .u32 (v / 16*16)) (v % 16)::(run.map (· / 16)).map (λ f=>orI .u32 (IntKind.wrap .u32 (f*16)) 0)=v::run
 rw[or16 (by omega) (by omega) (by omega) (by omega),show v / 16*16+v % 16=v by omega,List.map_map]
 congr 1
 conv=>rhs;rw[<-List.map_id run]
 refine List.map_congr_left λ c hc => ?_
 obtain ⟨h1,h2⟩:=hr c hc
 have h3:=runP_iff.1 h2
 show orI .u32 (IntKind.wrap .u32 (c / 16*16)) 0=c
 rw[or16 (by omega) (by omega) (by decide) (by decide)]
 omega
theorem short_back {v t:Int} (hv:0<=v/\v < 4294967296) (ht:v % 16=t) (l:Int) :
  g_impl_numberCells (IntKind.wrap .i32 v / 32) (andI .u32 v 16 != 0) t l=some [v]:=by
 unfold g_impl_numberCells
 have hN:IntKind.wrap .i32 v=if v < 2147483648 then v else v-4294967296:=by
  simp[IntKind.wrap,IntKind.bits,IntKind.signed];omega
 rw[and16 hv.1 hv.2]
 have hb:(cond (decide (v / 16 % 2=1)) (some 16) (some 0):Option Int)=some (v / 16 % 2*16):=by
  by_cases h:v / 16 % 2=1
  ·simp[h]
  ·have:v / 16 % 2=0:=by omega
   simp[this]
 rw[hb]
 have h1:IntKind.wrap .i32 v / 32 ≥ -67108864:=by rw[hN];split<;>omega
 have h2:IntKind.wrap .i32 v / 32<=67108863:=by rw[hN];split<;>omega
 have h3:IntKind.wrap .u32 (IntKind.wrap .u32 (IntKind.wrap .i32 v / 32)*32)=v / 32*32:=by
  rw[hN]
  simp[IntKind.wrap,IntKind.bits,IntKind.signed]
  split<;>omega
 simp only[Option.bind_some,h1,h2,decide_true,cond_true]
 rw[h3,orU (a:=v / 32*32) (by omega) (by omega) (by omega) (by omega)]
 have e1:(v / 32*32).toNat ||| (v / 16 % 2*16).toNat=32*(v.toNat / 32)+v.toNat / 16 % 2*16:=by
  rw[show (v / 32*32).toNat=2 ^ 5*(v.toNat / 32) by omega,show (v / 16 % 2*16).toNat=v.toNat / 16 % 2*16 by omega,or_low 5 (by omega)]
 rw[e1,orU (by omega) (by omega) (by omega) (by omega)]
 have e2:((32*(v.toNat / 32)+v.toNat / 16 % 2*16:Nat):Int).toNat ||| t.toNat=v.toNat:=by
  rw[Int.toNat_natCast,show 32*(v.toNat / 32)+v.toNat / 16 % 2*16=2 ^ 4*(v.toNat / 16) by omega,or_low 4 (by omega)]
  omega
 rw[e2,Int.toNat_of_nonneg hv.1]
theorem field_ok {f:Int}:Tot (g_impl_FieldOk f) λ b=>b=true->∃ nm,g_impl_UnpackOne f=some nm/\nm.length<=7/\g_impl_Pack nm=some [f]:=by
 unfold g_impl_FieldOk
 obtain ⟨nm,hnm,hl⟩:=unpackOne_ok (f:=f)
 obtain ⟨p,hp,_,hpl⟩:=pack_ok (s:=nm) (by omega)
 rw[hnm]
 refine .bindE rfl (.bindE hp (.bindE (eqU (by omega)) (.some λ h=>⟨nm,rfl,hl,?_⟩)))
 rw[hp,of_decide_eq_true h]
theorem pm_ok {v:Int} {run:List Int} {nx:Option Int} (hv:0<=v/\v < 4294967296) (hr:∀ c ∈ run,(0<=c/\c < 4294967296)/\runP c=true) (hn:∀ w,nx=some w->0<=w/\w < 4294967296) :
  ∃ it cs,pm v run nx=some it/\g_impl_CellsOf it=some cs/\it.Name.length<=168 ∧
   ((cs=v::run/\∀ nx',pm v run nx'=some it)\/(cs=[v]/\∀ nx',nx'=nx\/nx'=none->pm v run nx'=some it)\/(∃ w,nx=some w/\cs=[v,w])):=by
 have hraw:g_impl_CellsOf (raw v)=some [v]:=cells_raw
 have hrl:(raw v).Name.length<=168:=by show ([]:Bs).length<=168;simp
 cases h1:isName (v % 16) with
 | true =>
  obtain ⟨y,hy,hyl,hyp⟩:=unpack_ok (l:=v / 16::run.map (· / 16))
  cases h2:y.2 with
  | false =>
   have e:∀ nx',pm v run nx'=some (raw v):=λ nx'=>by unfold pm;rw[h1,cond_true,hy,Option.bind_some,h2,cond_false]
   exact ⟨raw v,[v],e nx,hraw,hrl, .inr (.inl ⟨rfl,λ nx' _=>e nx'⟩)⟩
  | true =>
   have ht:v % 16=1\/v % 16=3\/v % 16=4\/v % 16=9\/v % 16=10\/v % 16=11:=by simpa [isName] using h1
   obtain ⟨k,hk,hkt,_⟩:=nameKind_eq ht
   have e:∀ nx',pm v run nx'=some ⟨k,y.1,0,false,0⟩:=λ nx'=>by unfold pm;rw[h1,cond_true,hy,Option.bind_some,h2,cond_true,hk,Option.bind_some]
   have hp:=hyp h2
   obtain ⟨p,hp',_,hpl⟩:=pack_ok (s:=y.1) (by omega)
   rw[hp]at hp'
   cases hp'
   refine ⟨_,_,e nx,cells_name hkt (by omega) hp hpl,hyl, .inl ⟨nameCells_back hv hr,e⟩⟩
 | false =>
  by_cases h8:v % 16=8
  ·have e:∀ nx',pm v run nx'=some ⟨7,[],IntKind.wrap .i32 v / 32,andI .u32 v 16 != 0,0⟩:=λ nx'=>by unfold pm;rw[h1,cond_false,h8];rfl
   exact ⟨_,[v],e nx,by rw[cells_7];exact short_back hv h8 2,by simp, .inr (.inl ⟨rfl,λ nx' _=>e nx'⟩)⟩
  by_cases h6:v % 16=6
  ·have e:∀ nx',pm v run nx'=some ⟨8,[],IntKind.wrap .i32 v / 32,andI .u32 v 16 != 0,0⟩:=λ nx'=>by unfold pm;rw[h1,cond_false,h6];rfl
   exact ⟨_,[v],e nx,by rw[cells_8];exact short_back hv h6 5,by simp, .inr (.inl ⟨rfl,λ nx' _=>e nx'⟩)⟩
  have b8:(v % 16==8)=false:=by simpa using h8
  have b6:(v % 16==6)=false:=by simpa using h6
  cases h25:(v % 16==2 || v % 16==5) with
  | true =>
   have e0:pm v run none=some (raw v):=by unfold pm;rw[h1,cond_false,b8,cond_false,b6,cond_false,h25,cond_true]
   cases nx with
   | none=>exact ⟨raw v,[v],e0,hraw,hrl, .inr (.inl ⟨rfl,λ nx' h=>by rcases h with rfl|rfl<;>exact e0⟩)⟩
   | some w =>
    obtain ⟨cs,hcs,_,hcl⟩:=lng_cells (v:=v) (w:=w)
    have e1:pm v run (some w)=cond (decide (cs=[v,w])) (some (lng v w)) (some (raw v)):=by
     unfold pm;rw[h1,cond_false,b8,cond_false,b6,cond_false,h25,cond_true]
     simp only[hcs,Option.bind_some]
    by_cases hc:cs=[v,w]
    ·rw[decide_eq_true hc,cond_true]at e1
     refine ⟨_,_,e1,hcs,?_, .inr (.inr ⟨w,rfl,hc⟩)⟩
     unfold lng
     cases v % 16==5<;>simp
    ·rw[decide_eq_false hc,cond_false]at e1
     exact ⟨raw v,[v],e1,hraw,hrl, .inr (.inl ⟨rfl,λ nx' h=>by rcases h with rfl|rfl;exact e1;exact e0⟩)⟩
  | false =>
   cases h12:v % 16==12 with
   | false =>
    have e:∀ nx',pm v run nx'=some (raw v):=λ nx'=>by unfold pm;rw[h1,cond_false,b8,cond_false,b6,cond_false,h25,cond_false,h12,cond_false]
    exact ⟨raw v,[v],e nx,hraw,hrl, .inr (.inl ⟨rfl,λ nx' _=>e nx'⟩)⟩
   | true =>
    have e0:pm v run none=some (raw v):=by unfold pm;rw[h1,cond_false,b8,cond_false,b6,cond_false,h25,cond_false,h12,cond_true]
    cases nx with
    | none=>exact ⟨raw v,[v],e0,hraw,hrl, .inr (.inl ⟨rfl,λ nx' h=>by rcases h with rfl|rfl<;>exact e0⟩)⟩
    | some w =>
     obtain ⟨b,hb,hbf⟩:=field_ok (f:=v / 16)
     have e1:pm v run (some w)=cond b ((g_impl_UnpackOne (v / 16)).bind λ nm=>some ⟨9,nm,IntKind.wrap .i32 w,false,0⟩) (some (raw v)):=by
      unfold pm;rw[h1,cond_false,b8,cond_false,b6,cond_false,h25,cond_false,h12,cond_true]
      simp only[hb,Option.bind_some]
     cases b with
     | false=>exact ⟨raw v,[v],e1,hraw,hrl, .inr (.inl ⟨rfl,λ nx' h=>by rcases h with rfl|rfl;exact e1;exact e0⟩)⟩
     | true =>
      obtain ⟨nm,h2,h3,h4⟩:=hbf rfl
      rw[cond_true,h2,Option.bind_some]at e1
      have ht:v % 16=12:=by simpa using h12
      have hw:=hn w rfl
      refine ⟨_,_,e1,cells_9 h4,by show nm.length<=168;omega, .inr (.inr ⟨w,rfl,?_⟩)⟩
      rw[or16 (by omega) (by omega) (by decide) (by decide)]
      have:IntKind.wrap .u32 (IntKind.wrap .i32 w)=w:=by
       simp[IntKind.wrap,IntKind.bits,IntKind.signed];split<;>omega
      rw[this,show v / 16*16+12=v by omega]
theorem parse_ok {v:Int} {tl:List Int} (hu:U32 (v::tl)) (hl:(v::tl).length<=64) :
  ∃ it cs,g_impl_parseOne (v::tl)=some it/\g_impl_CellsOf it=some cs/\it.Name.length<=168/\1<=cs.length/\(∃ rest,v::tl=cs++rest) ∧
   (∀ tl' z,tl=tl'++List.replicate z 0->cs.length<=(v::tl').length->g_impl_parseOne (v::tl')=some it):=by
 have hv:=hu v (List.mem_cons_self ..)
 have hut:U32 tl:=λ x hx=>hu x (List.mem_cons_of_mem _ hx)
 obtain ⟨it,cs,h1,h2,h3,h4⟩:=pm_ok (v:=v) (run:=tl.takeWhile runP) (nx:=tl.head?) hv
  (λ c hc=>⟨hut c ((List.takeWhile_sublist runP).subset hc),by have:=List.all_takeWhile (p:=runP) (l:=tl);exact List.all_eq_true.1 this c hc⟩)
  (λ w hw=>hut w (List.mem_of_mem_head? hw))
 refine ⟨it,cs,by rw[parse_pm hu hl];exact h1,h2,h3,?_,?_,λ tl' z hz hc => ?_⟩
 ·rcases h4 with ⟨rfl,_⟩|⟨rfl,_⟩|⟨w,_,rfl⟩<;>simp
 ·rcases h4 with ⟨rfl,_⟩|⟨rfl,_⟩|⟨w,hw,rfl⟩
  ·exact ⟨tl.dropWhile runP,by rw[List.cons_append,List.takeWhile_append_dropWhile]⟩
  ·exact ⟨tl,rfl⟩
  ·cases tl with
   | nil=>cases hw
   | cons x r=>simp at hw;subst hw;exact ⟨r,rfl⟩
 ·have hu':U32 (v::tl'):=λ x hx=>hu x (by
   rw[hz]
   rcases List.mem_cons.1 hx with rfl|hx
   ·exact List.mem_cons_self ..
   ·exact List.mem_cons_of_mem _ (List.mem_append_left _ hx))
  have hl':(v::tl').length<=64:=by rw[hz]at hl;simp at hl ⊢;omega
  have htw:tl.takeWhile runP=tl'.takeWhile runP:=by
   rw[hz,List.takeWhile_append]
   split
   ·rename_i he
    have:(List.replicate z (0:Int)).takeWhile runP=[]:=by
     cases z with
     | zero=>rfl
     | succ z=>rw[List.replicate_succ,List.takeWhile_cons];rfl
    rw[this,List.append_nil]
    exact (List.takeWhile_sublist runP).eq_of_length he |>.symm
   ·rfl
  rw[parse_pm hu' hl',<-htw]
  rcases h4 with ⟨rfl,g⟩|⟨rfl,g⟩|⟨w,hw,rfl⟩
  ·exact g _
  ·refine g _ ?_
   cases tl' with
   | nil=>exact .inr rfl
   | cons x r=>left;rw[hz];rfl
  ·cases tl' with
   | nil=>simp at hc
   | cons x r =>
    have:tl.head? = (x::r).head? := by rw[hz];rfl
    rw[<-this]
    exact h1
end Go.Proofs.Ytjdhhpolllkbbaa
namespace Go.Proofs.Ytjdhhpolllkbbaa
open Go Go.Fm
inductive Parses:List Int->List GItem->Prop where
 | nil:Parses [] []
 | cons {cells rest cs:List Int} {it:GItem} {its:List GItem} (h1:g_impl_parseOne cells=some it) (h2:g_impl_CellsOf it=some cs) (h3:1<=cs.length) (h4:cells=cs++rest) (h5:Parses rest its):Parses cells (it::its)
theorem parses_ex:∀ (n:Nat) (cells:List Int),cells.length<=n->U32 cells->cells.length<=64->∃ its,Parses cells its:=by
 intro n
 induction n with
 | zero=>intro cells h _ _;cases cells with
  | nil=>exact ⟨[], .nil⟩
  | cons v tl=>simp at h
 | succ n ih =>
  intro cells h hu hl
  cases cells with
  | nil=>exact ⟨[], .nil⟩
  | cons v tl =>
   obtain ⟨it,cs,h1,h2,h3,h4,⟨rest,h5⟩,_⟩:=parse_ok hu hl
   have hlen:(v::tl).length=cs.length+rest.length:=by rw[h5,List.length_append]
   obtain ⟨its,h6⟩:=ih rest (by omega) (λ x hx=>hu x (by rw[h5];exact List.mem_append_right _ hx)) (by omega)
   exact ⟨it::its, .cons h1 h2 h4 h5 h6⟩
theorem Parses.len {cells:List Int} {its:List GItem} (h:Parses cells its):its.length<=cells.length:=by
 induction h with
 | nil=>exact Nat.le_refl _
 | cons h1 h2 h3 h4 h5 ih=>rw[h4,List.length_append,List.length_cons];omega
theorem parse_l0:∀ (k:Nat) (cells:List Int) (out its:List GItem),Parses cells its->cells.length < k->out.length+cells.length<=64->g_impl_ParseCells_l0 k cells out=some (out++its):=by
 intro k
 induction k with
 | zero=>intro cells out its hp h;omega
 | succ k ih =>
  intro cells out its hp h hl
  unfold g_impl_ParseCells_l0
  cases hp with
  | nil=>simp
  | cons h1 h2 h3 h4 h5 =>
   rename_i rest cs it its'
   have hlen:cells.length=cs.length+rest.length:=by rw[h4,List.length_append]
   rw[decide_eq_true (by omega),cond_true,h1,Option.bind_some,app_eq (by simp;omega),Option.bind_some,h2,Option.bind_some,subL_drop (by omega) (by omega),Option.bind_some]
   have hd:cells.drop ((cs.length:Int)).toNat=rest:=by rw[h4,Int.toNat_natCast,List.drop_left]
   rw[hd,ih rest _ _ h5 (by omega) (by simp;omega),List.append_assoc]
   rfl
def rz:GItem:=raw 0
theorem isRz (v:GItem):((v.Kind:Int)==0&&((v.Name:Bs)==[]&&((v.N:Int)==0&&((v.Hex:Bool)==false&&((v.Raw:Int)==0&&true)))))=decide (v=rz):=by
 obtain ⟨a,b,c,d,e⟩:=v
 rw[Bool.eq_iff_iff]
 simp[rz,raw]
theorem strip_l1:∀ (k:Nat) (out:List GItem),out.length < k->out.length<=64->∃ its z,out=its++List.replicate z rz/\(∀ x,its≠x++[rz])/\g_impl_ParseCells_l1 k out ((out.length:Int)-1)=some its:=by
 intro k
 induction k with
 | zero=>intro out h;omega
 | succ k ih =>
  intro out h hl
  unfold g_impl_ParseCells_l1
  rcases List.eq_nil_or_concat out with rfl|⟨xs,x,rfl⟩
  ·exact ⟨[],0,rfl,by simp,rfl⟩
  ·simp only[List.concat_eq_append]at *
   have hlen:(xs++[x]).length=xs.length+1:=by simp
   rw[decide_eq_true (by omega),cond_true,show (((xs++[x]).length:Nat):Int)-1=((xs.length:Nat):Int) by omega,getI_nat,List.getElem?_concat_length]
   simp only[Option.bind_some,isRz]
   by_cases hx:x=rz
   ·rw[decide_eq_true hx,cond_true,subL_take (by omega) (by omega),Option.bind_some,Int.toNat_natCast,List.take_left,wI64 (by omega) (by omega)]
    obtain ⟨its,z,h1,h2,h3⟩:=ih xs (by omega) (by omega)
    refine ⟨its,z+1,?_,h2,h3⟩
    rw[hx,h1,List.append_assoc,<-List.replicate_succ']
   ·rw[decide_eq_false hx,cond_false]
    refine ⟨xs++[x],0,by simp,λ y hy=>hx ?_,rfl⟩
    have:=List.append_inj' hy rfl
    simpa using this.2
theorem parses_zero:∀ (z:Nat) (cells:List Int),Parses cells (List.replicate z rz)->cells=List.replicate z 0
 | 0,cells,h=>by cases h;rfl
 | z+1,cells,h=>by
  rw[List.replicate_succ]at h
  cases h with
  | cons h1 h2 h3 h4 h5 =>
   have:g_impl_CellsOf rz=some [0]:=cells_raw
   rw[this]at h2
   cases h2
   rw[h4,parses_zero z _ h5,List.replicate_succ];rfl
theorem parses_cut:∀ (its:List GItem) (z:Nat) (cells:List Int),U32 cells->cells.length<=64->Parses cells (its++List.replicate z rz)->∃ cells',cells=cells'++List.replicate z 0/\Parses cells' its
 | [],z,cells,_,_,h=>⟨[],parses_zero z cells h, .nil⟩
 | it::its,z,cells,hu,hl,h=>by
  rw[List.cons_append]at h
  cases h with
  | cons h1 h2 h3 h4 h5 =>
   rename_i rest cs
   have hlen:cells.length=cs.length+rest.length:=by rw[h4,List.length_append]
   obtain ⟨rest',e1,e2⟩:=parses_cut its z rest (λ x hx=>hu x (by rw[h4];exact List.mem_append_right _ hx)) (by omega) h5
   match cs,h3 with
   | v::ct,_ =>
    have hc:cells=v::(ct++rest):=h4
    rw[hc]at hu hl h1
    obtain ⟨it1,cs1,g1,g2,_,_,_,g6⟩:=parse_ok hu hl
    rw[h1]at g1
    cases g1
    rw[h2]at g2
    cases g2
    refine ⟨(v::ct)++rest',by rw[h4,e1,List.append_assoc], .cons (g6 (ct++rest') z (by rw[e1,List.append_assoc]) (by simp)) h2 (by simp) rfl e2⟩
theorem parseCells_ok {cells:List Int} (hu:U32 cells) (hl:cells.length<=64):∃ its cells' z,g_impl_ParseCells cells=some its/\cells=cells'++List.replicate z 0/\Parses cells' its/\(∀ x,its≠x++[rz]):=by
 obtain ⟨all,hp⟩:=parses_ex _ cells (Nat.le_refl _) hu hl
 have hlen:=hp.len
 obtain ⟨its,z,h1,h2,h3⟩:=strip_l1 bigK all (by unfold bigK;omega) (by omega)
 have hp2:=hp
 rw[h1]at hp2
 obtain ⟨cells',e1,e2⟩:=parses_cut its z cells hu hl hp2
 refine ⟨its,cells',z,?_,e1,e2,h2⟩
 unfold g_impl_ParseCells
 rw[decide_eq_false (by omega),cond_false,parse_l0 bigK cells [] all hp (by unfold bigK;omega) (by simpa using hl),Option.bind_some,List.nil_append,wI64 (by omega) (by omega),h3]
 rfl
end Go.Proofs.Ytjdhhpolllkbbaa
namespace Go.Proofs.Ytjdhhpolllkbbaa
open Go Go.Fm
theorem letterOf_all:(List.range 256).all (λ b=>g_spec_LetterOf (b:Int)==g_impl_LetterOf (b:Int))=true:=by kernel_rfl
theorem letterOf_eq {b:Int} (h0:0<=b) (h1:b < 256):g_spec_LetterOf b=g_impl_LetterOf b:=by
 have h:=List.all_eq_true.1 letterOf_all b.toNat (List.mem_range.2 (by omega))
 rw[Int.toNat_of_nonneg h0]at h
 exact eq_of_beq h
theorem width_eq {k:Int}:g_spec_WidthOf k=g_impl_WidthOf k:=by
 unfold g_spec_WidthOf g_impl_WidthOf;simp only[specIn_eq,within_eq,Option.bind_some]
theorem letterAt_eq {k:Int}:g_spec_LetterAt k=g_impl_LetterAt k:=by
 unfold g_spec_LetterAt g_impl_LetterAt;simp only[specIn_eq,within_eq,Option.bind_some];rfl
theorem bits_all:(List.range 49).all (λ b=>g_spec_BitsOf ((b:Int)-1)==g_impl_BitsOf ((b:Int)-1))=true:=by kernel_rfl
theorem bits_eq {k:Int} (h0 : -1<=k) (h1:k<=47):g_spec_BitsOf k=g_impl_BitsOf k:=by
 have h:=List.all_eq_true.1 bits_all (k+1).toNat (List.mem_range.2 (by omega))
 rw[Int.toNat_of_nonneg (by omega),show k+1-1=k by omega]at h
 exact eq_of_beq h
theorem wb_all:(List.range 48).all (λ b=>match g_impl_WidthOf (b:Int),g_impl_BitsOf (b:Int) with|some w,some c=>decide (4<=w/\w<=7/\0<=c/\c < 2 ^ w.toNat)|_,_=>false)=true:=by kernel_rfl
theorem wb {k:Int} (h0:0<=k) (h1:k<=47):∃ w c,g_impl_WidthOf k=some w/\g_impl_BitsOf k=some c/\4<=w/\w<=7/\0<=c/\c < 2 ^ w.toNat:=by
 have h:=List.all_eq_true.1 wb_all k.toNat (List.mem_range.2 (by omega))
 rw[Int.toNat_of_nonneg h0]at h
 split at h
 ·rename_i w c hw hc;exact ⟨w,c,hw,hc,of_decide_eq_true h⟩
 ·cases h
theorem pw (n:Nat):(0:Int) < 2 ^ n:=Int.pow_pos (by decide)
theorem pwN (n:Nat):((2 ^ n:Nat):Int)=(2:Int) ^ n:=by simp
theorem pw_le {a b:Nat} (h:a<=b):(2:Int) ^ a<=2 ^ b:=by
 have:=Nat.pow_le_pow_right (n:=2) (by decide) h
 rw[<-pwN,<-pwN];omega
theorem shl_eq {k:IntKind} {a n:Int} (h0:0<=n) (h1:n<=32) (hk:32<=k.bits):shlI k a n=some (k.wrap (a*2 ^ n.toNat)):=by
 unfold shlI
 rw[if_pos h0,show min n.toNat k.bits=n.toNat by omega]
theorem shr_eq {k:IntKind} {a n:Int} (h0:0<=n) (h1:n<=32) (hk:32<=k.bits):shrI k a n=some (a / 2 ^ n.toNat):=by
 unfold shrI
 rw[if_pos h0,show min n.toNat k.bits=n.toNat by omega]
theorem shl64 {n:Int} (h0:0<=n) (h1:n<=32):shlI .i64 1 n=some (2 ^ n.toNat):=by
 rw[shl_eq h0 h1 (by decide),Int.one_mul,wI64]
 ·have:=pw n.toNat;omega
 ·have:=pw_le (a:=n.toNat) (b:=32) (by omega);omega
theorem shl32 {n:Int} (h0:0<=n) (h1:n<=31):shlI .u32 1 n=some (2 ^ n.toNat):=by
 rw[shl_eq h0 (by omega) (by decide),Int.one_mul,wU32]
 ·have:=pw n.toNat;omega
 ·have:=pw_le (a:=n.toNat) (b:=31) (by omega);omega
theorem and_mask {k:IntKind} {a:Int} {n:Nat} (h0:0<=a) (h1:a < 2 ^ k.bits) (hn:n < k.bits):andI k a (2 ^ n-1)=a % 2 ^ n:=by
 unfold andI
 have hp:=pw n
 have hb:(2:Int) ^ n-1 < 2 ^ k.bits:=by have:=pw_le (a:=n) (b:=k.bits) (by omega);omega
 rw[BitVec.toNat_and,bB_toNat h0 h1,bB_toNat (by omega) hb]
 have e:((2:Int) ^ n-1).toNat=2 ^ n-1:=by rw[<-pwN];omega
 rw[e,Nat.and_two_pow_sub_one_eq_mod,Go.Fm.wrap_small]
 ·rw[Int.natCast_emod,pwN,Int.toNat_of_nonneg h0]
 ·refine Nat.lt_of_lt_of_le (Nat.mod_lt _ (Nat.two_pow_pos n)) (Nat.pow_le_pow_right (by decide) (by omega))
theorem div_mod {f:Int} {n w:Nat} (h0:0<=f) (hw:w<=n):f % 2 ^ n / 2 ^ (n-w)=f / 2 ^ (n-w) % 2 ^ w:=by
 obtain ⟨F,rfl⟩:=Int.eq_ofNat_of_zero_le h0
 have e:2 ^ n=2 ^ (n-w)*2 ^ w:=by rw[<-Nat.pow_add];congr 1;omega
 have:=Nat.mod_mul_right_div_self F (2 ^ (n-w)) (2 ^ w)
 rw[<-e]at this
 simp only[<-pwN,Int.ofNat_eq_natCast,<-Int.natCast_emod,<-Int.natCast_ediv]
 rw[this]
theorem decode_l0_eq {f n:Int} (h0:0<=f) (h1:f < 4294967296) (n0:1<=n) (n1:n<=32):∀ (k:Nat) (i:Int),0<=i->i<=48->g_spec_Decode_l0 f n k i=g_impl_Decode_l0 f n k i:=by
 intro k
 induction k with
 | zero=>intro i _ _;rfl
 | succ k ih =>
  intro i i0 i1
  unfold g_spec_Decode_l0 g_impl_Decode_l0
  by_cases hi:i < 48
  ·obtain ⟨w,c,hw,hc,w0,w1,c0,c1⟩:=wb i0 (by omega)
   have hx:=ih (i+1) (by omega) (by omega)
   rw[decide_eq_true hi,width_eq,hw,bits_eq (by omega) (by omega),hc]
   simp only[cond_true,Option.bind_some]
   rw[wI64 (x:=i+1) (by omega) (by omega),hx]
   by_cases hn:w<=n
   ·have c2:(2:Int) ^ w.toNat<=2 ^ 7:=pw_le (by omega)
    have pn:=pw n.toNat
    have pw':=pw w.toNat
    have pn2:(2:Int) ^ n.toNat<=2 ^ 32:=pw_le (by omega)
    rw[decide_eq_true hn,decide_eq_false (p:=w > n) (by omega),wU64 (x:=n) (by omega) (by omega),wI64 (x:=f) (by omega) (by omega),wI64 (x:=n-w) (by omega) (by omega),wU64 (x:=n-w) (by omega) (by omega),shl64 (by omega) (by omega),
     shl32 (by omega) (by omega),shr_eq (by omega) (by omega) (by decide),wI64 (x:=c) (by omega) (by omega)]
    simp only[cond_true,cond_false,Option.bind_some]
    rw[wI64 (x:=2 ^ n.toNat-1) (by omega) (by omega),wU32 (x:=2 ^ w.toNat-1) (by omega) (by omega),shr_eq (by omega) (by omega) (by decide)]
    simp only[Option.bind_some]
    have hq:f / 2 ^ (n-w).toNat < 4294967296:=Int.lt_of_le_of_lt (Int.ediv_le_self _ h0) h1
    rw[and_mask (k:=.i64) h0 (show f < 2 ^ 64 by omega) (show n.toNat < 64 by omega),and_mask (k:=.u32) (Int.ediv_nonneg h0 (Int.le_of_lt (pw _))) (show f / 2 ^ (n-w).toNat < 2 ^ 32 by omega) (show w.toNat < 32 by omega),
     show (n-w).toNat=n.toNat-w.toNat by omega,div_mod h0 (by omega)]
    cases f / 2 ^ (n.toNat-w.toNat) % 2 ^ w.toNat==c<;>rfl
   ·rw[decide_eq_false hn,decide_eq_true (p:=w > n) (by omega)]
    rfl
  ·rw[decide_eq_false hi];rfl
theorem decode_eq {f n:Int} (h0:0<=f) (h1:f < 4294967296):g_spec_Decode f n=g_impl_Decode f n:=by
 unfold g_spec_Decode g_impl_Decode
 rw[specIn_eq,within_eq]
 simp only[Option.bind_some]
 by_cases h:1<=n/\n<=32
 ·rw[decode_l0_eq h0 h1 h.1 h.2 _ _ (by decide) (by decide)]
 ·rw[decide_eq_false h];rfl
theorem unpackOne_l0_eq {f:Int} (h0:0<=f) (h1:f < 4294967296):∀ (k:Nat) (out:List Int) (left:Int),0<=left->left<=28->g_spec_UnpackOne_l0 f k out left=g_impl_UnpackOne_l0 f k out left:=by
 intro k
 induction k with
 | zero=>intro out left _ _;rfl
 | succ k ih =>
  intro out left l0 l1
  unfold g_spec_UnpackOne_l0 g_impl_UnpackOne_l0
  have p1:=pw left.toNat
  have p2:(2:Int) ^ left.toNat<=2 ^ 28:=pw_le (by omega)
  rw[wU64 (x:=left) (by omega) (by omega),wI64 (x:=f) (by omega) (by omega),shl64 (by omega) (by omega),shl32 (by omega) (by omega)]
  simp only[Option.bind_some]
  rw[wI64 (x:=2 ^ left.toNat-1) (by omega) (by omega),wU32 (x:=2 ^ left.toNat-1) (by omega) (by omega),and_mask (k:=.i64) h0 (show f < 2 ^ 64 by omega) (show left.toNat < 64 by omega),and_mask (k:=.u32) h0 (show f < 2 ^ 32 by omega) (show left.toNat < 32 by omega)]
  have e:(cond (decide (left > 0)) (some (f % 2 ^ left.toNat != 0)) (some false):Option Bool)=some (f % 2 ^ left.toNat != 0):=by
   by_cases hl:left > 0
   ·rw[decide_eq_true hl];rfl
   ·have:left=0:=by omega
    subst this
    simp
  rw[e]
  simp only[Option.bind_some]
  cases f % 2 ^ left.toNat != 0 with
  | false=>rfl
  | true =>
   simp only[cond_true]
   rw[decode_eq h0 h1]
   obtain ⟨d,hd,_,d2⟩:=decode_ok (f:=f) (n:=left)
   rw[hd]
   simp only[Option.bind_some]
   by_cases hc:d.1 < 1
   ·rw[decide_eq_true hc];rfl
   ·rw[decide_eq_false hc,letterAt_eq]
    obtain ⟨v,hv,_⟩:=letterAt_ok (k:=d.1)
    have:=d2 (by omega)
    rw[hv]
    simp only[cond_false,Option.bind_some]
    cases app out [v] with
    | none=>rfl
    | some o =>
     simp only[Option.bind_some]
     rw[wI64 (x:=left-d.2) (by omega) (by omega)]
     exact ih _ _ (by omega) (by omega)
theorem unpackOne_eq {f:Int} (h0:0<=f) (h1:f < 4294967296):g_spec_UnpackOne f=g_impl_UnpackOne f:=by
 unfold g_spec_UnpackOne g_impl_UnpackOne
 rw[wI64 (x:=f) (by omega) (by omega),unpackOne_l0_eq h0 h1 _ _ _ (by decide) (by decide)]
def good (b:UInt8):Bool:=match g_impl_LetterOf (b.toNat:Int) with|some k=>decide (1<=k)|none=>false
theorem good_of {b:UInt8} {k:Int} (h:g_impl_LetterOf (b.toNat:Int)=some k):good b=decide (1<=k):=by unfold good;rw[h]
theorem idxS_nat {s:List UInt8} {n:Nat} (h:n < s.length):idxS s (n:Int)=some ((s[n].toNat:Nat):Int):=by
 unfold idxS
 rw[if_pos ⟨by omega,by omega⟩,Int.toNat_natCast,List.getD_eq_getElem?_getD,List.getElem?_eq_getElem h]
 rfl
theorem specNameOk_l0 {s:Bs} (hs:s.length<=1048576):∀ (k n:Nat),n<=s.length->s.length-n < k->g_spec_NameOk_l0 s k n=some (if (s.drop n).all good then .inl () else .inr false):=by
 intro k
 induction k with
 | zero=>intro n h0 h1;omega
 | succ k ih =>
  intro n h0 h1
  unfold g_spec_NameOk_l0
  by_cases hn:n < s.length
  ·have hb:=UInt8.toNat_lt s[n]
   obtain ⟨x,hx,x0,x1⟩:=letterOf_ok (b:=(s[n].toNat:Int)) (by omega) (by omega)
   rw[decide_eq_true (by omega),idxS_nat hn,List.drop_eq_getElem_cons hn,List.all_cons,good_of hx]
   simp only[cond_true,Option.bind_some,letterOf_eq (b:=(s[n].toNat:Int)) (by omega) (by omega),hx]
   by_cases hc:x < 1
   ·rw[decide_eq_true hc,decide_eq_false (p:=1<=x) (by omega)];rfl
   ·rw[decide_eq_false hc,decide_eq_true (p:=1<=x) (by omega),cond_false,wI64 (by omega) (by omega),show ((n:Int)+1)=((n+1:Nat):Int) by omega,ih (n+1) (by omega) (by omega),Bool.true_and]
  ·rw[decide_eq_false (by omega),List.drop_eq_nil_of_le (by omega)];rfl
theorem implNameOk_l0 {s:Bs} (hs:s.length<=1048576):∀ (k n:Nat),n<=s.length->s.length-n < k->g_impl_NameOk_l0 s (s.length:Int) k n=some (if (s.drop n).all good then .inl () else .inr false):=by
 intro k
 induction k with
 | zero=>intro n h0 h1;omega
 | succ k ih =>
  intro n h0 h1
  unfold g_impl_NameOk_l0
  by_cases hn:n < s.length
  ·have hb:=UInt8.toNat_lt s[n]
   obtain ⟨x,hx,x0,x1⟩:=letterOf_ok (b:=(s[n].toNat:Int)) (by omega) (by omega)
   rw[decide_eq_true (by omega),idxS_nat hn,List.drop_eq_getElem_cons hn,List.all_cons,good_of hx]
   simp only[cond_true,Option.bind_some,hx]
   by_cases hc:x < 1
   ·rw[decide_eq_true hc,decide_eq_false (p:=1<=x) (by omega)];rfl
   ·rw[decide_eq_false hc,decide_eq_true (p:=1<=x) (by omega),cond_false,wI64 (by omega) (by omega),show ((n:Int)+1)=((n+1:Nat):Int) by omega,ih (n+1) (by omega) (by omega),Bool.true_and]
  ·rw[decide_eq_false (by omega),List.drop_eq_nil_of_le (by omega)];rfl
def named (s:Bs):Bool:=s.all good&&decide (1<=s.length/\s.length<=24)
theorem implNameOk {s:Bs} (hs:s.length<=1048576):g_impl_NameOk s=some (named s):=by
 unfold g_impl_NameOk named
 have h:=implNameOk_l0 hs bigK 0 (Nat.zero_le _) (by unfold bigK;omega)
 rw[show ((0:Nat):Int)=0 from rfl]at h
 rw[h,List.drop_zero,within_eq]
 cases s.all good with
 | false=>rfl
 | true =>
  simp only[if_true,Option.bind_some,Bool.true_and]
  congr 1
  exact decide_eq_decide.2 (by omega)
theorem specNameOk {s:Bs} (hs:s.length<=1048576):g_spec_NameOk s=some (named s):=by
 unfold g_spec_NameOk named
 have h:=specNameOk_l0 hs bigK 0 (Nat.zero_le _) (by unfold bigK;omega)
 rw[show ((0:Nat):Int)=0 from rfl]at h
 rw[h,List.drop_zero,specIn_eq]
 have e:decide ((1:Int)<=s.length/\(s.length:Int)<=24)=decide (1<=s.length/\s.length<=24):=decide_eq_decide.2 (by omega)
 rw[e]
 cases decide (1<=s.length/\s.length<=24)<;>cases s.all good<;>rfl
theorem packOne_l0_eq {s:Bs} (hg:s.all good=true) (hs:s.length<=24):∀ (k:Nat) (q:Nat) (left n:Nat),n<=s.length->left<=28->q < 2 ^ (28-left) →
  g_spec_l03One_l0 s k ((2 ^ left*q:Nat):Int) left n=g_impl_PackOne_l0 s (s.length:Int) k ((2 ^ left*q:Nat):Int) left n n:=by
 intro k
 induction k with
 | zero=>intro q left n _ _ _;rfl
 | succ k ih =>
  intro q left n h0 h1 h2
  unfold g_spec_l03One_l0 g_impl_PackOne_l0
  by_cases hn:n < s.length
  ·have hb:=UInt8.toNat_lt s[n]
   obtain ⟨x,hx,x0,x1⟩:=letterOf_ok (b:=(s[n].toNat:Int)) (by omega) (by omega)
   have hgn:good s[n]=true:=List.all_eq_true.1 hg _ (List.getElem_mem hn)
   rw[good_of hx]at hgn
   have hx1:1<=x:=of_decide_eq_true hgn
   obtain ⟨w,c,hw,hc,w0,w1,c0,c1⟩:=wb (k:=x) (by omega) x1
   rw[decide_eq_true (by omega),idxS_nat hn]
   simp only[cond_true,Option.bind_some,letterOf_eq (b:=(s[n].toNat:Int)) (by omega) (by omega),hx,width_eq,hw,bits_eq (show -1<=x by omega) x1,hc]
   by_cases hl:w > (left:Int)
   ·rw[decide_eq_true hl];rfl
   ·rw[decide_eq_false hl]
    obtain ⟨W,rfl⟩:=Int.eq_ofNat_of_zero_le (show 0<=w by omega)
    obtain ⟨c',rfl⟩:=Int.eq_ofNat_of_zero_le c0
    simp only[Int.ofNat_eq_natCast,Int.toNat_natCast]at *
    have hWl:W<=left:=by omega
    have hc7:c' < 2 ^ W:=by rw[<-pwN]at c1;omega
    have p7:2 ^ W<=2 ^ 7:=Nat.pow_le_pow_right (by decide) (by omega)
    have eL:(left:Int)-(W:Int)=((left-W:Nat):Int):=by omega
    have hN:(c':Int)*2 ^ (left-W)=((c'*2 ^ (left-W):Nat):Int):=by rw[<-pwN,Int.natCast_mul]
    have e1:2 ^ left=2 ^ (left-W)*2 ^ W:=by rw[<-Nat.pow_add,show left-W+W=left by omega]
    have hlt:c'*2 ^ (left-W) < 2 ^ left:=by
     rw[e1,Nat.mul_comm (2 ^ (left-W))]
     exact Nat.mul_lt_mul_of_pos_right hc7 (Nat.two_pow_pos _)
    have p28:2 ^ left<=2 ^ 28:=Nat.pow_le_pow_right (by decide) h1
    have hf:2 ^ left*q < 2 ^ 28:=by
     have:2 ^ 28=2 ^ left*2 ^ (28-left):=by rw[<-Nat.pow_add,show left+(28-left)=28 by omega]
     rw[this]
     exact Nat.mul_lt_mul_of_pos_left h2 (Nat.two_pow_pos _)
    have hor:orI .u32 ((2 ^ left*q:Nat):Int) ((c'*2 ^ (left-W):Nat):Int)=((2 ^ left*q+c'*2 ^ (left-W):Nat):Int):=by
     rw[orU (by omega) (by omega) (by omega) (by omega),Int.toNat_natCast,Int.toNat_natCast,or_low left hlt]
    have hnew:2 ^ left*q+c'*2 ^ (left-W)=2 ^ (left-W)*(2 ^ W*q+c'):=by
     rw[e1,Nat.mul_add,Nat.mul_assoc,Nat.mul_comm c']
    have hq:2 ^ W*q+c' < 2 ^ (28-(left-W)):=by
     have e2:2 ^ (28-(left-W))=2 ^ W*2 ^ (28-left):=by rw[<-Nat.pow_add,show W+(28-left)=28-(left-W) by omega]
     rw[e2]
     calc 2 ^ W*q+c' < 2 ^ W*q+2 ^ W:=by omega
      _=2 ^ W*(q+1):=by rw[Nat.mul_add,Nat.mul_one]
      _<=2 ^ W*2 ^ (28-left):=Nat.mul_le_mul_left _ h2
    have hsum:((2 ^ left*q:Nat):Int)+((c'*2 ^ (left-W):Nat):Int)=((2 ^ (left-W)*(2 ^ W*q+c'):Nat):Int):=by rw[<-hnew];omega
    have hbd:2 ^ (left-W)*(2 ^ W*q+c') < 2 ^ 29:=by rw[<-hnew];omega
    rw[eL,wI64 (x:=((left-W:Nat):Int)) (by omega) (by omega),wU64 (x:=((left-W:Nat):Int)) (by omega) (by omega),shl_eq (by omega) (by omega) (by decide),shl_eq (by omega) (by omega) (by decide),wI64 (x:=(c':Int)) (by omega) (by omega)]
    simp only[Int.toNat_natCast,hN,cond_false,Option.bind_some]
    rw[wI64 (x:=((c'*2 ^ (left-W):Nat):Int)) (by omega) (by omega),wU32 (x:=((c'*2 ^ (left-W):Nat):Int)) (by omega) (by omega),hor,hsum,hnew,wI64 (by omega) (by omega),wI64 (by omega) (by omega),show ((n:Int)+1)=((n+1:Nat):Int) by omega]
    exact ih _ _ _ (by omega) (by omega) hq
  ·rw[decide_eq_false (by omega)];rfl
theorem named_len {s:Bs} (h:named s=true):s.all good=true/\1<=s.length/\s.length<=24:=by
 unfold named at h
 rw[Bool.and_eq_true]at h
 exact ⟨h.1,of_decide_eq_true h.2⟩
theorem packOne_eq {s:Bs} (h:named s=true):g_spec_l03One s=g_impl_PackOne s:=by
 obtain ⟨hg,_,hl⟩:=named_len h
 have hp:=packOne_ok (s:=s) (by omega)
 unfold g_impl_PackOne at hp ⊢
 unfold g_spec_l03One
 rw[implNameOk (by omega),h]at hp ⊢
 have e:=packOne_l0_eq hg hl bigK 0 28 0 (Nat.zero_le _) (by decide) (by decide)
 simp only[Nat.mul_zero,Int.natCast_zero]at e
 have e':g_spec_l03One_l0 s bigK 0 28 0=g_impl_PackOne_l0 s (s.length:Int) bigK 0 28 0 0:=e
 rw[e']
 simp only[Option.bind_some,Bool.not_true,cond_false]at hp ⊢
 obtain ⟨r,hr,hb,_⟩:=hp
 cases hq:g_impl_PackOne_l0 s (s.length:Int) bigK 0 28 0 0 with
 | none=>rw[hq]at hr;cases hr
 | some p =>
  rw[hq]at hr
  simp only[Option.bind_some,Option.some.injEq]at hr ⊢
  subst hr
  rw[wU32 hb.1 hb.2]
theorem all_drop {s:Bs} (h:s.all good=true) (n:Nat):(s.drop n).all good=true :=
 List.all_eq_true.2 λ x hx=>List.all_eq_true.1 h x (List.mem_of_mem_drop hx)
theorem pack_l0_eq:∀ (k:Nat) (s:Bs) (out:List Int),s.all good=true->s.length<=24->g_spec_Pack_l0 k s out=g_impl_Pack_l0 k s out:=by
 intro k
 induction k with
 | zero=>intro s out _ _;rfl
 | succ k ih =>
  intro s out hg hl
  unfold g_spec_Pack_l0 g_impl_Pack_l0
  rw[implNameOk (by omega)]
  cases hn:named s with
  | false =>
   have:s=[]:=by
    unfold named at hn
    rw[hg,Bool.true_and]at hn
    have:=of_decide_eq_false hn
    exact List.eq_nil_of_length_eq_zero (by omega)
   subst this
   rfl
  | true =>
   have h1:=named_len hn
   have:(s != [])=true:=by
    cases s with
    | nil=>simp at h1
    | cons _ _=>rfl
   rw[this,packOne_eq hn]
   simp only[cond_true,Option.bind_some]
   obtain ⟨r,hr,_,r0,r1,_⟩:=packOne_ok (s:=s) (by omega)
   rw[hr]
   simp only[Option.bind_some]
   cases app out [r.1] with
   | none=>rfl
   | some o =>
    simp only[Option.bind_some]
    rw[subL_drop r0 r1]
    simp only[Option.bind_some]
    exact ih _ _ (all_drop hg _) (by rw[List.length_drop];omega)
theorem pack_eq {s:Bs} (hs:s.length<=1048576):g_spec_Pack s=g_impl_Pack s:=by
 unfold g_spec_Pack g_impl_Pack
 rw[specNameOk hs]
 cases hn:named s with
 | false =>
  simp only[Option.bind_some,Bool.not_false,cond_true]
  rw[show bigK=18446744073709551615+1 from rfl]
  unfold g_impl_Pack_l0
  rw[implNameOk hs,hn]
  rfl
 | true =>
  have h1:=named_len hn
  simp only[Option.bind_some,Bool.not_true,cond_false]
  rw[pack_l0_eq _ _ _ h1.1 h1.2.2]
theorem same_l0 {a b:List Int} (hl:a.length=b.length) (hm:a.length<=1048576):∀ (k n:Nat),n<=a.length->a.length-n < k →
  g_spec_l03Same_l0 a b k n=some (if a.drop n=b.drop n then .inl () else .inr false):=by
 intro k
 induction k with
 | zero=>intro n h0 h1;omega
 | succ k ih =>
  intro n h0 h1
  unfold g_spec_l03Same_l0
  by_cases hn:n < a.length
  ·have hn':n < b.length:=by omega
   rw[decide_eq_true (by omega),getI_nat,getI_nat,List.getElem?_eq_getElem hn,List.getElem?_eq_getElem hn',List.drop_eq_getElem_cons hn,List.drop_eq_getElem_cons hn']
   simp only[cond_true,Option.bind_some]
   by_cases he:a[n]=b[n]
   ·have:(a[n] != b[n])=false:=by rw[he];simp
    rw[this,cond_false,wI64 (by omega) (by omega),show ((n:Int)+1)=((n+1:Nat):Int) by omega,ih (n+1) (by omega) (by omega),he]
    simp only[List.cons.injEq,true_and]
   ·have:(a[n] != b[n])=true:=by simpa using he
    rw[this,cond_true,if_neg (λ h=>he (List.cons.inj h).1)]
  ·rw[decide_eq_false (by omega),cond_false,List.drop_eq_nil_of_le (by omega),List.drop_eq_nil_of_le (by omega),if_pos rfl]
theorem same_eq {a b:List Int} (hm:a.length<=1048576):g_spec_l03Same a b=some (decide (a=b)):=by
 unfold g_spec_l03Same
 by_cases hl:a.length=b.length
 ·have:((a.length:Int) != (b.length:Int))=false:=by rw[hl];simp
  rw[this,cond_false]
  have h:=same_l0 hl hm bigK 0 (Nat.zero_le _) (by unfold bigK;omega)
  rw[show ((0:Nat):Int)=0 from rfl]at h
  rw[h]
  by_cases he:a=b
  ·simp[he]
  ·simp[he]
 ·have:((a.length:Int) != (b.length:Int))=true:=by simp;omega
  rw[this,cond_true,decide_eq_false (λ h=>hl (by rw[h]))]
end Go.Proofs.Ytjdhhpolllkbbaa
namespace Go.Proofs.Ytjdhhpolllkbbaa
open Go Go.Fm
theorem unpack_l0_eq {l:List Int} (hu:U32 l) (hl:l.length<=1048576):∀ (k:Nat) (name:Bs) (n:Nat),n<=l.length->g_spec_Unpack_l0 l k name n=g_impl_Unpack_l0 l (l.length:Int) k name n:=by
 intro k
 induction k with
 | zero=>intro name n _;rfl
 | succ k ih =>
  intro name n h0
  unfold g_spec_Unpack_l0 g_impl_Unpack_l0
  by_cases hn:n < l.length
  ·have hb:=hu l[n] (List.getElem_mem hn)
   rw[decide_eq_true (by omega),getI_nat,List.getElem?_eq_getElem hn,cond_true,cond_true,Option.bind_some,Option.bind_some,unpackOne_eq hb.1 hb.2]
   obtain ⟨s,hs,_⟩:=unpackOne_ok (f:=l[n])
   rw[hs,Option.bind_some,Option.bind_some]
   cases catS name s with
   | none=>rfl
   | some o=>rw[Option.bind_some,Option.bind_some,wI64 (by omega) (by omega),show ((n:Int)+1)=((n+1:Nat):Int) by omega];exact ih _ _ (by omega)
  ·rw[decide_eq_false (by omega)];rfl
theorem unpack_eq {l:List Int} (hu:U32 l):g_spec_Unpack l=g_impl_Unpack l:=by
 unfold g_impl_Unpack
 unfold g_spec_Unpack
 by_cases hl:(l.length:Int) > 24
 ·rw[decide_eq_true hl,cond_true,cond_true]
 ·rw[decide_eq_false hl]
  simp only[cond_false]
  have hE:=unpack_l0_eq hu (by omega) bigK [] 0 (Nat.zero_le _)
  rw[Int.natCast_zero]at hE
  rw[hE]
  have key:∀ (k:Nat) (name:Bs) (i:Int),0<=i->i<=l.length->(name.length:Int)<=7*i->l.length-i < k->Tot (g_impl_Unpack_l0 l (l.length:Int) k name i) λ r=>r.length<=168:=by
   intro k
   induction k with
   | zero=>intro name i h0 h1 h2 h3;omega
   | succ k ih =>
    intro name i h0 h1 h2 h3
    unfold g_impl_Unpack_l0
    refine .condD (λ hi => ?_) λ _=>.some (by omega)
    obtain ⟨v,hv,_⟩:=getI_ex h0 hi
    refine .bindE hv (.bind unpackOne_ok λ s hs=>.bindE (catS_eq (by omega)) ?_)
    rw[wI64 (x:=i+1) (by omega) (by omega)]
    exact ih _ _ (by omega) (by omega) (by rw[List.length_append];omega) (by omega)
  obtain ⟨nm,hnm,hnl⟩:=key bigK [] 0 (by decide) (by omega) (by decide) (by unfold bigK;omega)
  rw[hnm]
  simp only[Option.bind_some]
  rw[specNameOk (by omega),implNameOk (by omega),pack_eq (by omega)]
  obtain ⟨p,hp,_,hpl⟩:=pack_ok (s:=nm) (by omega)
  rw[hp]
  simp only[Option.bind_some]
  rw[same_eq (by omega),eqU (by omega)]
theorem fieldOk_eq {f:Int} (h0:0<=f) (h1:f < 4294967296):g_spec_FieldOk f=g_impl_FieldOk f:=by
 unfold g_spec_FieldOk g_impl_FieldOk
 rw[unpackOne_eq h0 h1]
 obtain ⟨s,hs,hl⟩:=unpackOne_ok (f:=f)
 rw[hs]
 simp only[Option.bind_some]
 rw[pack_eq (by omega)]
 obtain ⟨p,hp,_,hpl⟩:=pack_ok (s:=s) (by omega)
 rw[hp]
 simp only[Option.bind_some]
 rw[eqU (by omega)]
 cases p with
 | nil=>rfl
 | cons a r =>
  cases r with
  | nil =>
   have:getI [a] 0=some a:=rfl
   simp[this]
   by_cases h:a=f
   ·simp[h]
   ·simp[h]
  | cons b r =>
   have:(((a::b::r).length:Int)==1)=false:=by simp;omega
   rw[this]
   simp
theorem tag_eq (k:Int):g_spec_l04Tag k=g_impl_nameTag k:=rfl
theorem wmul16 (f:Int):(IntKind.wrap .u32 (f*16)) % 16=0:=by
 simp[IntKind.wrap,IntKind.bits,IntKind.signed]
theorem or_tag {f t:Int} (t0:0<=t) (t1:t < 16):orI .u32 (IntKind.wrap .u32 (f*16)) t=IntKind.wrap .u32 (IntKind.wrap .u32 (f*16)+t):=by
 have hb:=wU32_bd (f*16)
 have h16:=wmul16 f
 generalize IntKind.wrap .u32 (f*16)=x at *
 rw[orU hb.1 hb.2 t0 (by omega),wU32 (by omega) (by omega)]
 have e:x.toNat=2 ^ 4*(x.toNat / 16):=by omega
 rw[e,or_low 4 (by omega)]
 omega
theorem or_zero {f:Int}:orI .u32 (IntKind.wrap .u32 (f*16)) 0=IntKind.wrap .u32 (f*16):=by
 have hb:=wU32_bd (f*16)
 rw[or_tag (by decide) (by decide),Int.add_zero,wU32 hb.1 hb.2]
theorem word_l0 {t:Int} (t0:0<=t) (t1:t < 16):∀ (k:Nat) (done rest:List Int),done≠[]->rest.length < k->done.length+rest.length<=1048576 →
  g_spec_l04Word_l0 t k (done++rest) done.length=some (done++rest.map λ f=>orI .u32 (IntKind.wrap .u32 (f*16)) 0):=by
 intro k
 induction k with
 | zero=>intro done rest _ h1;omega
 | succ k ih =>
  intro done rest h0 h1 h2
  unfold g_spec_l04Word_l0
  cases rest with
  | nil=>rw[decide_eq_false (by simp)];simp
  | cons f r =>
   have hd:1<=done.length:=by cases done with|nil=>exact absurd rfl h0|cons _ _=>simp
   rw[decide_eq_true (by simp;omega),getI_nat,List.getElem?_append_right (Nat.le_refl _),Nat.sub_self]
   have e0:((done.length:Int)==0)=false:=by simp;omega
   simp only[cond_true,List.getElem?_cons_zero,Option.bind_some,e0,cond_false]
   rw[Int.toNat_natCast,List.set_append_right _ _ (Nat.le_refl _),Nat.sub_self,List.set_cons_zero]
   rw[wI64 (by omega) (by simp at h2;omega)]
   have:=ih (done++[IntKind.wrap .u32 (f*16)]) r (by simp) (by simp at h1;omega) (by simp at h2 ⊢;omega)
   simp only[List.append_assoc,List.singleton_append,List.length_append,List.length_singleton]at this
   rw[show ((done.length:Int)+1)=((done.length+1:Nat):Int) by omega,this,List.map_cons,or_zero]
theorem word_eq {t:Int} {s:Bs} {fs:List Int} (t0:0<=t) (t1:t < 16) (hs:s.length<=1048576) (hp:g_impl_Pack s=some fs) (hl:fs.length<=24):g_spec_l04Word t s=some (nameCells t fs):=by
 unfold g_spec_l04Word
 rw[pack_eq hs,hp]
 simp only[Option.bind_some]
 cases fs with
 | nil=>rfl
 | cons f r =>
  have h1:g_spec_l04Word_l0 t bigK (f::r) 0=some (nameCells t (f::r)):=by
   rw[show bigK=18446744073709551615+1 from rfl]
   unfold g_spec_l04Word_l0
   have e1:getI (f::r) 0=some f:=rfl
   have e2:∀ x,getI ((f::r).set (Int.toNat 0) x) 0=some x:=λ x=>rfl
   rw[decide_eq_true (by simp),e1]
   simp only[cond_true,Option.bind_some,e2,show ((0:Int)==0)=true from rfl]
   rw[wI64 (by decide) (by decide)]
   have:=word_l0 t0 t1 18446744073709551615 [IntKind.wrap .u32 (IntKind.wrap .u32 (f*16)+t)] r (by simp) (by simp at hl;omega) (by simp at hl ⊢;omega)
   simp only[List.singleton_append,List.length_singleton]at this
   rw[show ((0:Int)+1)=((1:Nat):Int) from rfl]
   rw[show List.set (List.set (f::r) (Int.toNat 0) (IntKind.wrap .u32 (f*16))) (Int.toNat 0) (IntKind.wrap .u32 (IntKind.wrap .u32 (f*16)+t))=IntKind.wrap .u32 (IntKind.wrap .u32 (f*16)+t)::r from rfl,this]
   simp only[nameCells,or_tag t0 t1]
  rw[h1]
  rfl
theorem num_eq {n:Int} {hex:Bool} {s l:Int} (hs:s=8\/s=6) (hl:l=2\/l=5):g_spec_l04Num n hex s l=g_impl_numberCells n hex s l:=by
 unfold g_spec_l04Num g_impl_numberCells
 have hb:=wU32_bd (IntKind.wrap .u32 n*32)
 have h32:IntKind.wrap .u32 (IntKind.wrap .u32 n*32) % 32=0:=by
  simp[IntKind.wrap,IntKind.bits,IntKind.signed]
 generalize IntKind.wrap .u32 (IntKind.wrap .u32 n*32)=x at *
 have key:∀ b:Int,(b=0\/b=16)->IntKind.wrap .u32 (IntKind.wrap .u32 (x+b)+s)=orI .u32 (orI .u32 x b) s/\IntKind.wrap .u32 (b+l)=orI .u32 b l:=λ b hb2=>by
  constructor
  ·have h1:orI .u32 x b=x+b:=by
    rw[orU hb.1 hb.2 (by omega) (by omega),show x.toNat=2 ^ 5*(x.toNat / 32) by omega,or_low 5 (by omega)];omega
   rw[h1,wU32 (x:=x+b) (by omega) (by omega),orU (by omega) (by omega) (by omega) (by omega),show (x+b).toNat=2 ^ 4*((x+b).toNat / 16) by omega,or_low 4 (by omega),wU32 (by omega) (by omega)];omega
  ·rcases hb2 with rfl|rfl<;>rcases hl with rfl|rfl<;>rfl
 have k0:=key 0 (.inl rfl)
 have k1:=key 16 (.inr rfl)
 cases hex with
 | true=>simp only[cond_true,Option.bind_some,k1.1,k1.2]
 | false=>simp only[cond_false,Option.bind_some,k0.1,k0.2]
theorem nameTag_vals (k:Int):∃ t,g_impl_nameTag k=some t/\0<=t/\t < 16/\(0 < t->1<=k/\k<=6):=by
 unfold g_impl_nameTag
 have hc:∀ (b:Bool) (x y:Option Int) (Q:Int->Prop),(b=true->∃ t,x=some t/\Q t)->(b=false->∃ t,y=some t/\Q t)->∃ t,cond b x y=some t/\Q t:=λ b x y Q h1 h2=>by
  cases b with
  | true=>exact h1 rfl
  | false=>exact h2 rfl
 refine hc _ _ _ _ (λ h=>⟨1,rfl,by have:=eq_of_beq h;omega⟩) λ _=>hc _ _ _ _ (λ h=>⟨3,rfl,by have:=eq_of_beq h;omega⟩) λ _=>hc _ _ _ _ (λ h=>⟨4,rfl,by have:=eq_of_beq h;omega⟩) λ _ =>
  hc _ _ _ _ (λ h=>⟨9,rfl,by have:=eq_of_beq h;omega⟩) λ _=>hc _ _ _ _ (λ h=>⟨10,rfl,by have:=eq_of_beq h;omega⟩) λ _=>hc _ _ _ _ (λ h=>⟨11,rfl,by have:=eq_of_beq h;omega⟩) λ _=>⟨0,rfl,by decide,by decide,λ h=>absurd h (by decide)⟩
end Go.Proofs.Ytjdhhpolllkbbaa
