import Derived.Test.YtgekblgaooaclaaDoorCS
import Derived.Shelf.Strconv.Itoa3
import Derived.Shelf.Strings.OnBuilder
import Derived.KernelRfl
set_option linter.all false
namespace Go.Proofs.YtgekblgaooaclaaDoor
open Go Go.Fm
set_option maxRecDepth 100000
abbrev Bs:=List UInt8
structure GItem where
 Kind:Int
 Name:Bs
 N:Int
 Hex:Bool
 Raw:Int
 deriving DecidableEq,Inhabited
structure GKey where
 Op:Int
 Item:GItem
 deriving DecidableEq,Inhabited
def GKey.cs (x:GKey):List CV:=[.int .i64 x.Op, .int .i64 x.Item.Kind, .str x.Item.Name, .int .i32 x.Item.N, .bool x.Item.Hex, .int .u32 x.Item.Raw]
def GItem.cs (x:GItem):List CV:=[.int .i64 x.Kind, .str x.Name, .int .i32 x.N, .bool x.Hex, .int .u32 x.Raw]
instance:StTy:=⟨λ n=>match n with|0=>GKey|1=>GItem|_=>Unit,λ n=>match n with|0=>6|1=>5|_=>0,lkA [(38,1),(43,1),(45,0),(47,0)]⟩
noncomputable instance:StCs:=⟨λ n=>match n with|0=>GKey.cs|1=>GItem.cs|_=>λ _=>[]⟩
noncomputable def GKey.lv (x:GKey):List TC:=[.int .i64 x.Op, .int .i64 x.Item.Kind, .str x.Item.Name, .int .i32 x.Item.N, .bool x.Item.Hex, .int .u32 x.Item.Raw]
noncomputable def GKey.of:List TC->Option GKey
 | [c0,c1,c2,c3,c4,c5]=>(tInt .i64 c0).bind λ x0=>(tInt .i64 c1).bind λ x1=>(tStr c2).bind λ x2=>(tInt .i32 c3).bind λ x3=>(tBool c4).bind λ x4=>(tInt .u32 c5).bind λ x5=>some ⟨x0,⟨x1,x2,x3,x4,x5⟩⟩
 | _=>none
theorem GKey.made {l:List TC} {v:GKey} (h:GKey.of l=some v):CRs l v.lv:=by
 match l,h with
 | [c0,c1,c2,c3,c4,c5],h =>
  obtain ⟨x0,e0,h⟩:=bS h
  obtain ⟨x1,e1,h⟩:=bS h
  obtain ⟨x2,e2,h⟩:=bS h
  obtain ⟨x3,e3,h⟩:=bS h
  obtain ⟨x4,e4,h⟩:=bS h
  obtain ⟨x5,e5,h⟩:=bS h
  cases h
  exact ⟨tInt_cr e0,tInt_cr e1,tStr_cr e2,tInt_cr e3,tBool_cr e4,tInt_cr e5,trivial⟩
noncomputable def GItem.lv (x:GItem):List TC:=[.int .i64 x.Kind, .str x.Name, .int .i32 x.N, .bool x.Hex, .int .u32 x.Raw]
noncomputable def GItem.of:List TC->Option GItem
 | [c0,c1,c2,c3,c4]=>(tInt .i64 c0).bind λ x0=>(tStr c1).bind λ x1=>(tInt .i32 c2).bind λ x2=>(tBool c3).bind λ x3=>(tInt .u32 c4).bind λ x4=>some ⟨x0,x1,x2,x3,x4⟩
 | _=>none
theorem GItem.made {l:List TC} {v:GItem} (h:GItem.of l=some v):CRs l v.lv:=by
 match l,h with
 | [c0,c1,c2,c3,c4],h =>
  obtain ⟨x0,e0,h⟩:=bS h
  obtain ⟨x1,e1,h⟩:=bS h
  obtain ⟨x2,e2,h⟩:=bS h
  obtain ⟨x3,e3,h⟩:=bS h
  obtain ⟨x4,e4,h⟩:=bS h
  cases h
  exact ⟨tInt_cr e0,tStr_cr e1,tInt_cr e2,tBool_cr e3,tInt_cr e4,trivial⟩
noncomputable instance:Structs where
 leaves:=λ n=>match n with|0=>GKey.lv|1=>GItem.lv|_=>λ _=>[]
 make:=λ n=>match n with|0=>GKey.of|1=>GItem.of|_=>λ _=>none
 plain:=λ n=>match n with|0=>true|1=>true|_=>false
 lt:=λ n=>match n with|0=>[.bool, .bool, .bool, .bool, .bool, .bool]|1=>[.bool, .bool, .bool, .bool, .bool]|_=>[]
 len:=λ n v=>match n,v with|0,_=>rfl|1,_=>rfl|_+2,_=>rfl
 conc:=λ n v=>match n,v with|0,_=>rfl|1,_=>rfl|_+2,_=>rfl
 pure:=λ n v=>match n,v with|0,_=>rfl|1,_=>rfl|_+2,_=>rfl
 made:=λ n l v h=>match n,v,h with|0,v,h=>GKey.made h|1,v,h=>GItem.made h|_+2,_,h=>nomatch h
 flat:=λ n v h=>match n,v,h with|0,_,_=>rfl|1,_,_=>rfl|_+2,_,h=>nomatch h
noncomputable instance:Tabs:=⟨λ g=>match g with|1=>some ⟨.int .u64,gtPow10⟩|5=>some ⟨.int .u8,gtBruijn⟩|_=>none,λ g=>match g with|0=>rfl|1=>rfl|2=>rfl|3=>rfl|4=>rfl|5=>rfl|_+6=>rfl⟩
abbrev K0:Ty:=.int .i64
abbrev K1:Ty:=.str
abbrev K2:Ty:=.int .i32
abbrev K3:Ty:=.bool
abbrev K4:Ty:=.int .u32
abbrev K5:Ty:=.st 1
abbrev K6:Ty:=.st 0
abbrev K7:Ty:=.list K6
abbrev K8:Ty:=.int .u8
abbrev K9:Ty:=.list K8
abbrev K10:Ty:=.list K4
abbrev K11:Ty:=.list K1
abbrev K12:Ty:=.int .u64
end Go.Proofs.YtgekblgaooaclaaDoor
namespace Go.Proofs.YtgekblgaooaclaaDoor
open Go Go.Fm
set_option maxRecDepth 1000000
def g_laws_szItem (a_1:GItem) (left_2:Int):Option Int:=cond (decide ((IntKind.wrap .i64 (left_2-(a_1.Name.length:Int))) < 0)) (some (-1)) (some (IntKind.wrap .i64 (left_2-(a_1.Name.length:Int))))
def g_laws_szKey (a_1:GKey) (left_2:Int):Option Int:=(g_laws_szItem a_1.Item left_2).bind λ y_4=>cond (decide (y_4 < 0)) (some (-1)) (some y_4)
def g_laws_szKeyS_l0 (a_1:List GKey):Nat->Int->Int->Option (Int ⊕ Int)
 | 0,_,_=>none
 | k+1,left_6,i_7=>cond (decide (i_7 < (a_1.length:Int))) ((getI a_1 i_7).bind λ v_10=>(g_laws_szKey v_10 left_6).bind λ y_11=>cond (decide (y_11 < 0)) (some (.inr (-1))) (g_laws_szKeyS_l0 a_1 k y_11 (IntKind.wrap .i64 (i_7+1)))) (some (.inl left_6))
def g_laws_szKeyS (a_1:List GKey) (left_2:Int):Option Int:=cond (decide ((IntKind.wrap .i64 (left_2-(a_1.length:Int))) < 0)) (some (-1)) (((g_laws_szKeyS_l0 a_1 bigK (IntKind.wrap .i64 (left_2-(a_1.length:Int))) 0).bind λ o=>match o with | .inl left_8=>some (.inl left_8) | .inr v_9=>some (.inr v_9):Option (Int ⊕ Int)).bind λ o=>match o with | .inl left_4=>some left_4 | .inr v_5=>some v_5)
def g_laws_toItem (a_1:GItem):Option GItem:=some a_1
def g_laws_toKey (a_1:GKey):Option GKey:=(g_laws_toItem a_1.Item).bind λ y_3=>some (⟨a_1.Op,y_3⟩:GKey)
def g_laws_toKeyS_l0 (a_1:List GKey):Nat->(List GKey)->Int->Option (List GKey)
 | 0,_,_=>none
 | k+1,out_5,i_6=>cond (decide (i_6 < (a_1.length:Int))) ((getI a_1 i_6).bind λ v_8=>(g_laws_toKey v_8).bind λ y_9=>(getI out_5 i_6).bind λ v_10=>g_laws_toKeyS_l0 a_1 k (out_5.set i_6.toNat y_9) (IntKind.wrap .i64 (i_6+1))) (some out_5)
def g_laws_toKeyS (a_1:List GKey):Option (List GKey):=(mk ((⟨0,(⟨0,[],0,false,0⟩:GItem)⟩:GKey):GKey) (a_1.length:Int)).bind λ v_3=>((g_laws_toKeyS_l0 a_1 bigK v_3 0).bind λ out_7=>some out_7:Option ((List GKey))).bind λ out_4=>some out_4
def g_spec_l04Num (n_1:Int) (hex_2:Bool) (short_3:Int) (long_4:Int):Option (List Int):=(cond hex_2 (some 16) (some 0):Option (Int)).bind λ bit_6=>(cond (decide (n_1 ≥ (-67108864))) (some (decide (n_1<=67108863))) (some false):Option (Bool)).bind λ v_7=>cond v_7 (some [IntKind.wrap .u32 ((IntKind.wrap .u32 ((IntKind.wrap .u32 ((IntKind.wrap .u32 n_1)*32))+bit_6))+short_3)]) (some [IntKind.wrap .u32 (bit_6+long_4),IntKind.wrap .u32 n_1])
def g_spec_l01In (x_1:Int) (a_2:Int) (b_3:Int):Option Bool:=cond (decide (x_1 ≥ a_2)) (some (decide (x_1<=b_3))) (some false)
def g_spec_l02All:Option Bs:=some [32,114,116,111,101,97,110,105,115,109,99,121,108,103,102,119,100,118,112,98,104,120,117,113,48,49,50,51,52,53,54,55,56,57,106,45,107,46,122,47,59,39,33,43,64,42,44,63]
def g_spec_LetterOf_l0 (b_1:Int) (y_3:Bs):Nat->Int->Option (Unit ⊕ Int)
 | 0,_=>none
 | k+1,i_5=>cond (decide (i_5 < (y_3.length:Int))) ((idxS y_3 i_5).bind λ v_7=>cond (v_7==b_1) (some (.inr i_5)) (g_spec_LetterOf_l0 b_1 y_3 k (IntKind.wrap .i64 (i_5+1)))) (some (.inl ()))
def g_spec_LetterOf (b_1:Int):Option Int:=(g_spec_l02All).bind λ y_3=>((g_spec_LetterOf_l0 b_1 y_3 bigK 0).bind λ o=>match o with | .inl ()=>some (.inl ()) | .inr v_6=>some (.inr v_6):Option (Unit ⊕ Int)).bind λ o=>match o with | .inl ()=>some (-1) | .inr v_4=>some v_4
def g_spec_NameOk_l0 (s_1:Bs):Nat->Int->Option (Unit ⊕ Bool)
 | 0,_=>none
 | k+1,i_5=>cond (decide (i_5 < (s_1.length:Int))) ((idxS s_1 i_5).bind λ v_7=>(g_spec_LetterOf v_7).bind λ y_8=>cond (decide (y_8 < 1)) (some (.inr false)) (g_spec_NameOk_l0 s_1 k (IntKind.wrap .i64 (i_5+1)))) (some (.inl ()))
def g_spec_NameOk (s_1:Bs):Option Bool:=(g_spec_l01In (s_1.length:Int) 1 24).bind λ y_3=>cond (!y_3) (some false) (((g_spec_NameOk_l0 s_1 bigK 0).bind λ o=>match o with | .inl ()=>some (.inl ()) | .inr v_6=>some (.inr v_6):Option (Unit ⊕ Bool)).bind λ o=>match o with | .inl ()=>some true | .inr v_4=>some v_4)
def g_spec_WidthOf (k_1:Int):Option Int:=(g_spec_l01In k_1 0 7).bind λ y_3=>cond y_3 (some 4) ((g_spec_l01In k_1 8 15).bind λ y_4=>cond y_4 (some 5) ((g_spec_l01In k_1 16 47).bind λ y_5=>cond y_5 (some 7) (some 0)))
def g_spec_BitsOf (k_1:Int):Option Int:=(g_spec_WidthOf k_1).bind λ y_3=>cond (y_3==4) (some (IntKind.wrap .u32 k_1)) (cond (y_3==5) (some (IntKind.wrap .u32 (IntKind.wrap .i64 (k_1+8)))) (cond (y_3==7) (some (IntKind.wrap .u32 (IntKind.wrap .i64 (k_1+80)))) (some 0)))
def g_spec_l03One_l0 (s_1:Bs):Nat->Int->Int->Int->Option (Int×Int)
 | 0,_,_,_=>none
 | k+1,f_6,left_7,n_8=>cond (decide (n_8 < (s_1.length:Int))) ((idxS s_1 n_8).bind λ v_11=>(g_spec_LetterOf v_11).bind λ y_12=>(g_spec_WidthOf y_12).bind λ y_13=>cond (decide (y_13 > left_7)) (some (f_6,n_8)) ((g_spec_BitsOf y_12).bind λ y_14=>(shlI .i64 (IntKind.wrap .i64 y_14) (IntKind.wrap .u64 (IntKind.wrap .i64 (left_7-y_13)))).bind λ v_15=>g_spec_l03One_l0 s_1 k (IntKind.wrap .i64 (f_6+v_15)) (IntKind.wrap .i64 (left_7-y_13)) (IntKind.wrap .i64 (n_8+1)))) (some (f_6,n_8))
def g_spec_l03One (s_1:Bs):Option (Int×Int):=(g_spec_l03One_l0 s_1 bigK 0 28 0).bind λ (f_9,n_10)=>some (IntKind.wrap .u32 f_9,n_10)
def g_spec_Pack_l0:Nat->Bs->(List Int)->Option (List Int)
 | 0,_,_=>none
 | k+1,s_4,out_5=>cond (s_4 != []) ((g_spec_l03One s_4).bind λ y_7=>(app out_5 [y_7.1]).bind λ v_8=>(subL s_4 y_7.2 (s_4.length:Int)).bind λ v_9=>g_spec_Pack_l0 k v_9 v_8) (some out_5)
def g_spec_Pack (s_1:Bs):Option (List Int):=(g_spec_NameOk s_1).bind λ y_3=>cond (!y_3) (some ([]:List Int)) ((g_spec_Pack_l0 bigK s_1 ([]:List Int)).bind λ out_6=>some out_6)
def g_spec_l04Word_l0 (tag_1:Int):Nat->(List Int)->Int->Option (List Int)
 | 0,_,_=>none
 | k+1,out_6,i_7=>cond (decide (i_7 < (out_6.length:Int))) (((getI out_6 i_7).bind λ v_10=>(getI out_6 i_7).bind λ v_11=>cond (i_7==0) ((getI (out_6.set i_7.toNat (IntKind.wrap .u32 (v_10*16))) i_7).bind λ v_12=>(getI (out_6.set i_7.toNat (IntKind.wrap .u32 (v_10*16))) i_7).bind λ v_13=>some ((out_6.set i_7.toNat (IntKind.wrap .u32 (v_10*16))).set i_7.toNat (IntKind.wrap .u32 (v_12+tag_1)))) (some (out_6.set i_7.toNat (IntKind.wrap .u32 (v_10*16)))):Option ((List Int))).bind λ out_9=>g_spec_l04Word_l0 tag_1 k out_9 (IntKind.wrap .i64 (i_7+1))) (some out_6)
def g_spec_l04Word (tag_1:Int) (name_2:Bs):Option (List Int):=(g_spec_Pack name_2).bind λ y_4=>((g_spec_l04Word_l0 tag_1 bigK y_4 0).bind λ out_8=>some out_8:Option ((List Int))).bind λ out_5=>some out_5
def g_spec_l04Tag (kind_1:Int):Option Int:=cond (kind_1==1) (some 1) (cond (kind_1==2) (some 3) (cond (kind_1==3) (some 4) (cond (kind_1==4) (some 9) (cond (kind_1==5) (some 10) (cond (kind_1==6) (some 11) (some 0))))))
def g_spec_CellsOf (it_1:GItem):Option (List Int):=(cond (it_1.N==0) (cond (!it_1.Hex) (some (it_1.Raw==0)) (some false)) (some false):Option (Bool)).bind λ plain_3=>(cond (it_1.Kind==0) ((cond (it_1.Name==[]) (cond (it_1.N==0) (some (!it_1.Hex)) (some false)) (some false):Option (Bool)).bind λ v_5=>cond v_5 (some (.inr [it_1.Raw])) (some (.inl ()))) (cond (it_1.Kind==7) ((cond (it_1.Name==[]) (some (it_1.Raw==0)) (some false):Option (Bool)).bind λ v_6=>cond v_6 ((g_spec_l04Num it_1.N it_1.Hex 8 2).bind λ y_7=>some (.inr y_7)) (some (.inl ()))) (cond (it_1.Kind==8) ((cond (it_1.Name==[]) (some (it_1.Raw==0)) (some false):Option (Bool)).bind λ v_8=>cond v_8 ((g_spec_l04Num it_1.N it_1.Hex 6 5).bind λ y_9=>some (.inr y_9)) (some (.inl ()))) (cond (it_1.Kind==9) ((g_spec_l04Word 12 it_1.Name).bind λ y_10=>(cond ((y_10.length:Int)==1) (cond (!it_1.Hex) (some (it_1.Raw==0)) (some false)) (some false):Option (Bool)).bind λ v_11=>cond v_11 ((app y_10 [IntKind.wrap .u32 it_1.N]).bind λ v_12=>some (.inr v_12)) (some (.inl ()))) ((g_spec_l04Tag it_1.Kind).bind λ y_13=>(cond (decide (y_13 > 0)) (some plain_3) (some false):Option (Bool)).bind λ v_14=>cond v_14 ((g_spec_l04Word y_13 it_1.Name).bind λ y_15=>some (.inr y_15)) (some (.inl ())))))):Option (Unit ⊕ (List Int))).bind λ o=>match o with | .inl ()=>some ([]:List Int) | .inr v_4=>some v_4
def g_spec_ItemOk (it_1:GItem):Option Bool:=(g_spec_CellsOf it_1).bind λ y_3=>some (decide ((y_3.length:Int) > 0))
def g_spec_l06Mark (kind_1:Int):Option Bs:=((cond (kind_1==1) (some (kind_1==1)) (some (kind_1==7)):Option (Bool)).bind λ v_4=>cond v_4 (some (.inr [126])) (cond (kind_1==2) (some (.inr [58])) ((cond (kind_1==3) (some (kind_1==3)) (some (kind_1==8)):Option (Bool)).bind λ v_5=>cond v_5 (some (.inr [61])) (cond (kind_1==4) (some (.inr [34])) (cond (kind_1==5) (some (.inr [94])) (cond (kind_1==6) (some (.inr [95])) (cond (kind_1==9) (some (.inr [38])) (some (.inl ())))))))):Option (Unit ⊕ Bs)).bind λ o=>match o with | .inl ()=>some [37] | .inr v_3=>some v_3
def g_spec_HexText_l0:Nat->Bs->Int->Option Bs
 | 0,_,_=>none
 | k+1,out_5,m_6=>cond (decide (m_6 > 0)) ((subL [48,49,50,51,52,53,54,55,56,57,97,98,99,100,101,102] (Int.tmod m_6 16) (IntKind.wrap .i64 ((Int.tmod m_6 16)+1))).bind λ v_8=>(catS v_8 out_5).bind λ v_9=>g_spec_HexText_l0 k v_9 (IntKind.wrap .i64 (Int.tdiv m_6 16))) (some out_5)
def g_spec_HexText (n_1:Int):Option Bs:=cond (n_1==0) (some [48]) (((g_spec_HexText_l0 bigK [] (IntKind.wrap .i64 n_1)).bind λ out_7=>some out_7:Option (Bs)).bind λ out_3=>some out_3)
def g_spec_DecText_l0:Nat->Bs->Int->Option Bs
 | 0,_,_=>none
 | k+1,out_4,m_5=>cond (m_5 != 0) ((cond (decide ((Int.tmod m_5 10) < 0)) (some (IntKind.wrap .i64 (0-(Int.tmod m_5 10)))) (some (Int.tmod m_5 10)):Option (Int)).bind λ d_7=>(subL [48,49,50,51,52,53,54,55,56,57] d_7 (IntKind.wrap .i64 (d_7+1))).bind λ v_8=>(catS v_8 out_4).bind λ v_9=>g_spec_DecText_l0 k v_9 (IntKind.wrap .i64 (Int.tdiv m_5 10))) (some out_4)
def g_spec_DecText (n_1:Int):Option Bs:=cond (n_1==0) (some [48]) ((g_spec_DecText_l0 bigK [] n_1).bind λ out_6=>cond (decide (n_1 < 0)) ((catS [45] out_6).bind λ v_10=>some v_10) (some out_6))
def g_spec_ItemText (it_1:GItem):Option Bs:=(g_spec_ItemOk it_1).bind λ y_3=>cond (!y_3) (some []) ((g_spec_l06Mark it_1.Kind).bind λ y_4=>((cond (it_1.Kind==7) (some (it_1.Kind==7)) (some (it_1.Kind==8)):Option (Bool)).bind λ v_6=>cond v_6 (cond it_1.Hex ((catS y_4 [36]).bind λ v_7=>(g_spec_HexText (IntKind.wrap .u32 it_1.N)).bind λ y_8=>(catS v_7 y_8).bind λ v_9=>some (.inr v_9)) ((catS y_4 [35]).bind λ v_10=>(g_spec_DecText (IntKind.wrap .i64 it_1.N)).bind λ y_11=>(catS v_10 y_11).bind λ v_12=>some (.inr v_12))) (cond (it_1.Kind==9) ((catS y_4 it_1.Name).bind λ v_13=>(catS v_13 [35]).bind λ v_14=>(g_spec_DecText (IntKind.wrap .i64 it_1.N)).bind λ y_15=>(catS v_14 y_15).bind λ v_16=>some (.inr v_16)) (cond (it_1.Kind==0) ((g_spec_HexText it_1.Raw).bind λ y_17=>(catS y_4 y_17).bind λ v_18=>some (.inr v_18)) (some (.inl ())))):Option (Unit ⊕ Bs)).bind λ o=>match o with | .inl ()=>(catS y_4 it_1.Name).bind λ v_19=>some v_19 | .inr v_5=>some v_5)
def g_spec_PlanText_l0 (keys_1:List GKey):Nat->(List Int)->Int->Option ((List Int) ⊕ Bs)
 | 0,_,_=>none
 | k+1,out_5,i_6=>cond (decide (i_6 < (keys_1.length:Int))) (((cond (decide (i_6 > 0)) ((app out_5 [32]).bind λ v_12=>some v_12) (some out_5):Option ((List Int))).bind λ out_11=>(getI keys_1 i_6).bind λ v_13=>cond (v_13.Op==1) ((app out_11 [62]).bind λ v_14=>some (.inl v_14)) ((getI keys_1 i_6).bind λ v_15=>cond (v_15.Op==5) ((app out_11 [120]).bind λ v_16=>some (.inl v_16)) ((getI keys_1 i_6).bind λ v_17=>cond (v_17.Op==2) ((app out_11 [124]).bind λ v_18=>some (.inl v_18)) (((getI keys_1 i_6).bind λ v_20=>cond (v_20.Op==4) ((getI keys_1 i_6).bind λ v_21=>(g_spec_ItemOk v_21.Item).bind λ y_22=>some y_22) (some false):Option (Bool)).bind λ v_19=>cond v_19 ((getI keys_1 i_6).bind λ v_23=>(g_spec_ItemText v_23.Item).bind λ y_24=>(catS [43] y_24).bind λ v_25=>(app out_11 (bsOf v_25)).bind λ v_26=>some (.inl v_26)) (some (.inr []))))):Option ((List Int) ⊕ Bs)).bind λ o=>match o with | .inl out_9=>g_spec_PlanText_l0 keys_1 k out_9 (IntKind.wrap .i64 (i_6+1)) | .inr v_10=>some (.inr v_10)) (some (.inl out_5))
def g_spec_PlanText (keys_1:List GKey):Option Bs:=((g_spec_PlanText_l0 keys_1 bigK ([]:List Int) 0).bind λ o=>match o with | .inl out_7=>some (.inl out_7) | .inr v_8=>some (.inr v_8):Option ((List Int) ⊕ Bs)).bind λ o=>match o with | .inl out_3=>some (strOf out_3) | .inr v_4=>some v_4
def g_impl_nameTag (kind_1:Int):Option Int:=cond (kind_1==1) (some 1) (cond (kind_1==2) (some 3) (cond (kind_1==3) (some 4) (cond (kind_1==4) (some 9) (cond (kind_1==5) (some 10) (cond (kind_1==6) (some 11) (some 0))))))
def g_impl_letters:Option Bs:=some [32,114,116,111,101,97,110,105,115,109,99,121,108,103,102,119,100,118,112,98,104,120,117,113,48,49,50,51,52,53,54,55,56,57,106,45,107,46,122,47,59,39,33,43,64,42,44,63]
def g_ibytealg_IndexByteString (s_1:Bs) (c_2:Int):Option Int:=gIdxB s_1 c_2
def g_istringslite_IndexByte (s_1:Bs) (c_2:Int):Option Int:=(g_ibytealg_IndexByteString s_1 c_2).bind λ y_4=>some y_4
def g_strings_IndexByte (s_1:Bs) (c_2:Int):Option Int:=(g_istringslite_IndexByte s_1 c_2).bind λ y_4=>some y_4
def g_impl_LetterOf (b_1:Int):Option Int:=(g_impl_letters).bind λ y_3=>(g_strings_IndexByte y_3 b_1).bind λ y_4=>some y_4
def g_impl_within (n_1:Int) (low_2:Int) (high_3:Int):Option Bool:=cond (decide (low_2<=n_1)) (some (decide (n_1<=high_3))) (some false)
def g_impl_NameOk_l0 (s_1:Bs) (v_4:Int):Nat->Int->Option (Unit ⊕ Bool)
 | 0,_=>none
 | k+1,v_5=>cond (decide (v_5 < v_4)) ((idxS s_1 v_5).bind λ v_7=>(g_impl_LetterOf v_7).bind λ y_8=>cond (decide (y_8 < 1)) (some (.inr false)) (g_impl_NameOk_l0 s_1 v_4 k (IntKind.wrap .i64 (v_5+1)))) (some (.inl ()))
def g_impl_NameOk (s_1:Bs):Option Bool:=((g_impl_NameOk_l0 s_1 (s_1.length:Int) bigK 0).bind λ o=>match o with | .inl ()=>some (.inl ()) | .inr v_6=>some (.inr v_6):Option (Unit ⊕ Bool)).bind λ o=>match o with | .inl ()=>(g_impl_within (s_1.length:Int) 1 24).bind λ y_9=>some y_9 | .inr v_3=>some v_3
def g_impl_WidthOf (k_1:Int):Option Int:=(g_impl_within k_1 0 7).bind λ y_3=>cond y_3 (some 4) ((g_impl_within k_1 8 15).bind λ y_4=>cond y_4 (some 5) ((g_impl_within k_1 16 47).bind λ y_5=>cond y_5 (some 7) (some 0)))
def g_impl_BitsOf (k_1:Int):Option Int:=(g_impl_WidthOf k_1).bind λ y_3=>cond (y_3==4) (some (IntKind.wrap .u32 k_1)) (cond (y_3==5) (some (IntKind.wrap .u32 ((IntKind.wrap .u32 k_1)+8))) (cond (y_3==7) (some (IntKind.wrap .u32 ((IntKind.wrap .u32 k_1)+80))) (some 0)))
def g_impl_PackOne_l0 (s_1:Bs) (v_9:Int):Nat->Int->Int->Int->Int->Option (Int×Int)
 | 0,_,_,_,_=>none
 | k+1,field_10,left_11,many_12,v_13=>cond (decide (v_13 < v_9)) ((idxS s_1 v_13).bind λ v_16=>(g_impl_LetterOf v_16).bind λ y_17=>(g_impl_WidthOf y_17).bind λ y_18=>cond (decide (y_18 > left_11)) (some (field_10,many_12)) ((g_impl_WidthOf y_17).bind λ y_19=>(g_impl_BitsOf y_17).bind λ y_20=>(shlI .u32 y_20 (IntKind.wrap .i64 (left_11-y_19))).bind λ v_21=>g_impl_PackOne_l0 s_1 v_9 k (orI .u32 field_10 v_21) (IntKind.wrap .i64 (left_11-y_19)) (IntKind.wrap .i64 (many_12+1)) (IntKind.wrap .i64 (v_13+1)))) (some (field_10,many_12))
def g_impl_PackOne (s_1:Bs):Option (Int×Int):=(g_impl_NameOk s_1).bind λ y_4=>cond (!y_4) (some (0,0)) (((g_impl_PackOne_l0 s_1 (s_1.length:Int) bigK 0 28 0 0).bind λ (field_14,many_15)=>some (field_14,many_15):Option ((Int×Int))).bind λ (field_5,many_6)=>some (field_5,many_6))
def g_impl_Pack_l0:Nat->Bs->(List Int)->Option (List Int)
 | 0,_,_=>none
 | k+1,s_3,out_4=>(g_impl_NameOk s_3).bind λ y_6=>cond y_6 ((g_impl_PackOne s_3).bind λ y_7=>(app out_4 [y_7.1]).bind λ v_8=>(subL s_3 y_7.2 (s_3.length:Int)).bind λ v_9=>g_impl_Pack_l0 k v_9 v_8) (some out_4)
def g_impl_Pack (s_1:Bs):Option (List Int):=(g_impl_Pack_l0 bigK s_1 ([]:List Int)).bind λ out_5=>some out_5
def g_impl_numberCells (n_1:Int) (hex_2:Bool) (short_3:Int) (long_4:Int):Option (List Int):=(cond hex_2 (some 16) (some 0):Option (Int)).bind λ bit_6=>(cond (decide (n_1 ≥ (-67108864))) (some (decide (n_1<=67108863))) (some false):Option (Bool)).bind λ v_7=>cond v_7 (some [orI .u32 (orI .u32 (IntKind.wrap .u32 ((IntKind.wrap .u32 n_1)*32)) bit_6) short_3]) (some [orI .u32 bit_6 long_4,IntKind.wrap .u32 n_1])
def g_impl_CellsOf_l0 (v_8:List Int) (v_9:Int):Nat->Int->(List Int)->Int->Option (List Int)
 | 0,_,_,_=>none
 | k+1,tag_10,out_11,v_12=>cond (decide (v_12 < v_9)) ((getI v_8 v_12).bind λ v_14=>(app out_11 [orI .u32 (IntKind.wrap .u32 (v_14*16)) tag_10]).bind λ v_15=>g_impl_CellsOf_l0 v_8 v_9 k 0 v_15 (IntKind.wrap .i64 (v_12+1))) (some out_11)
def g_impl_CellsOf (it_1:GItem):Option (List Int):=(g_impl_nameTag it_1.Kind).bind λ y_3=>((cond (decide (y_3 > 0)) (some ((it_1.Kind:Int)==it_1.Kind&&((it_1.Name:Bs)==it_1.Name&&((it_1.N:Int)==0&&((it_1.Hex:Bool)==false&&((it_1.Raw:Int)==0&&true)))))) (some false):Option (Bool)).bind λ v_5=>cond v_5 (((g_impl_Pack it_1.Name).bind λ y_7=>(g_impl_CellsOf_l0 y_7 (y_7.length:Int) bigK y_3 ([]:List Int) 0).bind λ out_13=>some out_13:Option ((List Int))).bind λ out_6=>some (.inr out_6)) (cond ((it_1.Kind:Int)==7&&((it_1.Name:Bs)==[]&&((it_1.N:Int)==it_1.N&&((it_1.Hex:Bool)==it_1.Hex&&((it_1.Raw:Int)==0&&true))))) ((g_impl_numberCells it_1.N it_1.Hex 8 2).bind λ y_16=>some (.inr y_16)) (cond ((it_1.Kind:Int)==8&&((it_1.Name:Bs)==[]&&((it_1.N:Int)==it_1.N&&((it_1.Hex:Bool)==it_1.Hex&&((it_1.Raw:Int)==0&&true))))) ((g_impl_numberCells it_1.N it_1.Hex 6 5).bind λ y_17=>some (.inr y_17)) (cond ((it_1.Kind:Int)==9&&((it_1.Name:Bs)==it_1.Name&&((it_1.N:Int)==it_1.N&&((it_1.Hex:Bool)==false&&((it_1.Raw:Int)==0&&true))))) ((g_impl_Pack it_1.Name).bind λ y_18=>cond ((y_18.length:Int)==1) ((getI y_18 0).bind λ v_19=>some (.inr [orI .u32 (IntKind.wrap .u32 (v_19*16)) 12,IntKind.wrap .u32 it_1.N])) (some (.inl ()))) (cond ((it_1.Kind:Int)==0&&((it_1.Name:Bs)==[]&&((it_1.N:Int)==0&&((it_1.Hex:Bool)==false&&((it_1.Raw:Int)==it_1.Raw&&true))))) (some (.inr [it_1.Raw])) (some (.inl ())))))):Option (Unit ⊕ (List Int))).bind λ o=>match o with | .inl ()=>some [] | .inr v_4=>some v_4
def g_impl_ItemOk (it_1:GItem):Option Bool:=(g_impl_CellsOf it_1).bind λ y_3=>some (decide ((y_3.length:Int) > 0))
def g_istrconv_small (i_1:Int):Option Bs:=cond (decide (i_1 < 10)) ((subL [48,49,50,51,52,53,54,55,56,57,97,98,99,100,101,102,103,104,105,106,107,108,109,110,111,112,113,114,115,116,117,118,119,120,121,122] i_1 (IntKind.wrap .i64 (i_1+1))).bind λ v_3=>some v_3) ((subL [48,48,48,49,48,50,48,51,48,52,48,53,48,54,48,55,48,56,48,57,49,48,49,49,49,50,49,51,49,52,49,53,49,54,49,55,49,56,49,57,50,48,50,49,50,50,50,51,50,52,50,53,50,54,50,55,50,56,50,57,51,48,51,49,51,50,51,51,51,52,51,53,51,54,51,55,51,56,51,57,52,48,52,49,52,50,52,51,52,52,52,53,52,54,52,55,52,56,52,57,53,48,53,49,53,50,53,51,53,52,53,53,53,54,53,55,53,56,53,57,54,48,54,49,54,50,54,51,54,52,54,53,54,54,54,55,54,56,54,57,55,48,55,49,55,50,55,51,55,52,55,53,55,54,55,55,55,56,55,57,56,48,56,49,56,50,56,51,56,52,56,53,56,54,56,55,56,56,56,57,57,48,57,49,57,50,57,51,57,52,57,53,57,54,57,55,57,56,57,57] (IntKind.wrap .i64 (i_1*2)) (IntKind.wrap .i64 ((IntKind.wrap .i64 (i_1*2))+2))).bind λ v_4=>some v_4)
def g_math_bits_Len64 (x_1:Int):Option Int:=(cond (decide (x_1 ≥ 4294967296)) (some (x_1 / 4294967296,32)) (some (x_1,0)):Option ((Int×Int))).bind λ (x_3,n_4)=>(cond (decide (x_3 ≥ 65536)) (some (x_3 / 65536,IntKind.wrap .i64 (n_4+16))) (some (x_3,n_4)):Option ((Int×Int))).bind λ (x_5,n_6)=>(cond (decide (x_5 ≥ 256)) (some (x_5 / 256,IntKind.wrap .i64 (n_6+8))) (some (x_5,n_6)):Option ((Int×Int))).bind λ (x_7,n_8)=>(idxS [0,1,2,2,3,3,3,3,4,4,4,4,4,4,4,4,5,5,5,5,5,5,5,5,5,5,5,5,5,5,5,5,6,6,6,6,6,6,6,6,6,6,6,6,6,6,6,6,6,6,6,6,6,6,6,6,6,6,6,6,6,6,6,6,7,7,7,7,7,7,7,7,7,7,7,7,7,7,7,7,7,7,7,7,7,7,7,7,7,7,7,7,7,7,7,7,7,7,7,7,7,7,7,7,7,7,7,7,7,7,7,7,7,7,7,7,7,7,7,7,7,7,7,7,7,7,7,7,8,8,8,8,8,8,8,8,8,8,8,8,8,8,8,8,8,8,8,8,8,8,8,8,8,8,8,8,8,8,8,8,8,8,8,8,8,8,8,8,8,8,8,8,8,8,8,8,8,8,8,8,8,8,8,8,8,8,8,8,8,8,8,8,8,8,8,8,8,8,8,8,8,8,8,8,8,8,8,8,8,8,8,8,8,8,8,8,8,8,8,8,8,8,8,8,8,8,8,8,8,8,8,8,8,8,8,8,8,8,8,8,8,8,8,8,8,8,8,8,8,8,8,8,8,8,8,8] (IntKind.wrap .u8 x_7)).bind λ v_9=>some (IntKind.wrap .i64 (n_8+(IntKind.wrap .i64 v_9)))
def g_istrconv_log10Pow2 (x_1:Int):Option Int:=some ((IntKind.wrap .i64 (x_1*78913)) / 262144)
def g_istrconv_bool2_int (b_1:Bool):Option Int:=cond b_1 (some 1) (some 0)
def g_istrconv_numDigits (d_1:Int):Option Int:=(g_math_bits_Len64 d_1).bind λ y_3=>(g_istrconv_log10Pow2 y_3).bind λ y_4=>(getI gtPow10 y_4).bind λ v_5=>(g_istrconv_bool2_int (decide (d_1 ≥ v_5))).bind λ y_6=>some (IntKind.wrap .i64 (y_4+y_6))
def g_istrconv_isPowerOfTwo (x_1:Int):Option Bool:=some ((andI .i64 x_1 (IntKind.wrap .i64 (x_1-1)))==0)
def g_math_bits_TrailingZeros64 (x_1:Int):Option Int:=cond (x_1==0) (some 64) ((shrI .u64 (IntKind.wrap .u64 ((andI .u64 x_1 (IntKind.wrap .u64 (0-x_1)))*285870213051353865)) 58).bind λ v_3=>(getI gtBruijn v_3).bind λ v_4=>some (IntKind.wrap .i64 v_4))
def g_math_bits_TrailingZeros (x_1:Int):Option Int:=(g_math_bits_TrailingZeros64 x_1).bind λ y_3=>some y_3
def g_istrconv_formatBits_l0 (shift_14:Int) (b_15:Int) (m_16:Int):Nat->Int->Int->(List Int)->Option (Int×Int×(List Int))
 | 0,_,_,_=>none
 | k+1,u_17,i_18,p_19=>cond (decide (u_17 ≥ b_15)) ((idxS [48,49,50,51,52,53,54,55,56,57,97,98,99,100,101,102,103,104,105,106,107,108,109,110,111,112,113,114,115,116,117,118,119,120,121,122] (andI .u64 u_17 m_16)).bind λ v_23=>(chk (Nat.beq 65 (p_19).length)).bind λ v__24=>(getI p_19 (IntKind.wrap .i64 (i_18-1))).bind λ v_25=>(shrI .u64 u_17 shift_14).bind λ v_26=>g_istrconv_formatBits_l0 shift_14 b_15 m_16 k v_26 (IntKind.wrap .i64 (i_18-1)) (p_19.set (IntKind.wrap .i64 (i_18-1)).toNat v_23)) (some (u_17,i_18,p_19))
def g_istrconv_formatBits_l1 (b_31:Int):Nat->Int->Int->(List Int)->Option (Int×Int×(List Int))
 | 0,_,_,_=>none
 | k+1,u_32,i_33,p_34=>cond (decide (u_32 ≥ b_31)) ((quoI .u64 u_32 b_31).bind λ v_38=>(idxS [48,49,50,51,52,53,54,55,56,57,97,98,99,100,101,102,103,104,105,106,107,108,109,110,111,112,113,114,115,116,117,118,119,120,121,122] (IntKind.wrap .u64 (u_32-(IntKind.wrap .u64 (v_38*b_31))))).bind λ v_39=>(chk (Nat.beq 65 (p_34).length)).bind λ v__40=>(getI p_34 (IntKind.wrap .i64 (i_33-1))).bind λ v_41=>g_istrconv_formatBits_l1 b_31 k v_38 (IntKind.wrap .i64 (i_33-1)) (p_34.set (IntKind.wrap .i64 (i_33-1)).toNat v_39)) (some (u_32,i_33,p_34))
def g_istrconv_formatBits (dst_1:List Int) (u_2:Int) (base_3:Int) (neg_4:Bool) (append__5:Bool):Option Bs:=((cond (decide (base_3 < 2)) (some true) (cond (base_3==10) (some true) (some (decide (base_3 > 36)))):Option (Bool)).bind λ v_7=>cond v_7 (none) (some ()):Option (Unit)).bind λ _=>(cond neg_4 (some (IntKind.wrap .u64 (0-u_2))) (some u_2):Option (Int)).bind λ u_8=>((g_istrconv_isPowerOfTwo base_3).bind λ y_11=>cond y_11 ((g_math_bits_TrailingZeros (IntKind.wrap .u64 base_3)).bind λ y_12=>(g_istrconv_formatBits_l0 (IntKind.wrap .u64 y_12) (IntKind.wrap .u64 base_3) (IntKind.wrap .u64 ((IntKind.wrap .u64 base_3)-1)) bigK u_8 65 (zB 65)).bind λ (u_20,i_21,p_22)=>(idxS [48,49,50,51,52,53,54,55,56,57,97,98,99,100,101,102,103,104,105,106,107,108,109,110,111,112,113,114,115,116,117,118,119,120,121,122] u_20).bind λ v_27=>(chk (Nat.beq 65 (p_22).length)).bind λ v__28=>(getI p_22 (IntKind.wrap .i64 (i_21-1))).bind λ v_29=>some (IntKind.wrap .i64 (i_21-1),p_22.set (IntKind.wrap .i64 (i_21-1)).toNat v_27)) ((g_istrconv_formatBits_l1 (IntKind.wrap .u64 base_3) bigK u_8 65 (zB 65)).bind λ (u_35,i_36,p_37)=>(idxS [48,49,50,51,52,53,54,55,56,57,97,98,99,100,101,102,103,104,105,106,107,108,109,110,111,112,113,114,115,116,117,118,119,120,121,122] u_35).bind λ v_42=>(chk (Nat.beq 65 (p_37).length)).bind λ v__43=>(getI p_37 (IntKind.wrap .i64 (i_36-1))).bind λ v_44=>some (IntKind.wrap .i64 (i_36-1),p_37.set (IntKind.wrap .i64 (i_36-1)).toNat v_42)):Option ((Int×(List Int)))).bind λ (i_9,p_10)=>(cond neg_4 ((chk (Nat.beq 65 (p_10).length)).bind λ v__47=>(getI p_10 (IntKind.wrap .i64 (i_9-1))).bind λ v_48=>some (IntKind.wrap .i64 (i_9-1),p_10.set (IntKind.wrap .i64 (i_9-1)).toNat 45)) (some (i_9,p_10)):Option ((Int×(List Int)))).bind λ (i_45,p_46)=>cond append__5 ((chk (Nat.beq 65 (p_46).length)).bind λ v__49=>(subL p_46 i_45 ((65:Nat):Int)).bind λ v_50=>none) ((chk (Nat.beq 65 (p_46).length)).bind λ v__51=>(subL p_46 i_45 ((65:Nat):Int)).bind λ v_52=>some (strOf v_52))
def g_istrconv_FormatUint (i_1:Int) (base_2:Int):Option Bs:=cond (base_2==10) (cond (decide (i_1 < 100)) ((g_istrconv_small (IntKind.wrap .i64 i_1)).bind λ y_4=>some y_4) ((g_istrconv_numDigits i_1).bind λ y_5=>(chk (Nat.beq 24 ((zB 24)).length)).bind λ v__6=>(subL (zB 24) 0 y_5).bind λ v_7=>none)) ((g_istrconv_formatBits [] i_1 base_2 false false).bind λ y_8=>some y_8)
def g_strconv_FormatUint (i_1:Int) (base_2:Int):Option Bs:=(g_istrconv_FormatUint i_1 base_2).bind λ y_4=>some y_4
def g_impl_HexText (n_1:Int):Option Bs:=(g_strconv_FormatUint (IntKind.wrap .u64 n_1) 16).bind λ y_3=>some y_3
def g_strconv_Itoa (i_1:Int):Option Bs:=gItoa i_1
def g_impl_DecText (n_1:Int):Option Bs:=(g_strconv_Itoa n_1).bind λ y_3=>some y_3
def g_impl_digits (n_1:Int) (hex_2:Bool):Option Bs:=cond hex_2 ((g_impl_HexText (IntKind.wrap .u32 n_1)).bind λ y_4=>(catS [36] y_4).bind λ v_5=>some v_5) ((g_impl_DecText (IntKind.wrap .i64 n_1)).bind λ y_6=>(catS [35] y_6).bind λ v_7=>some v_7)
def g_impl_mark (kind_1:Int):Option Bs:=cond (kind_1==1) (some [126]) (cond (kind_1==2) (some [58]) (cond (kind_1==3) (some [61]) (cond (kind_1==4) (some [34]) (cond (kind_1==5) (some [94]) (cond (kind_1==6) (some [95]) (some []))))))
def g_impl_ItemText (it_1:GItem):Option Bs:=(g_impl_ItemOk it_1).bind λ y_3=>cond (!y_3) (some []) (cond (it_1.Kind==0) ((g_impl_HexText it_1.Raw).bind λ y_4=>(catS [37] y_4).bind λ v_5=>some v_5) (cond (it_1.Kind==7) ((g_impl_digits it_1.N it_1.Hex).bind λ y_6=>(catS [126] y_6).bind λ v_7=>some v_7) (cond (it_1.Kind==8) ((g_impl_digits it_1.N it_1.Hex).bind λ y_8=>(catS [61] y_8).bind λ v_9=>some v_9) (cond (it_1.Kind==9) ((catS [38] it_1.Name).bind λ v_10=>(g_impl_digits it_1.N false).bind λ y_11=>(catS v_10 y_11).bind λ v_12=>some v_12) ((g_impl_mark it_1.Kind).bind λ y_13=>(catS y_13 it_1.Name).bind λ v_14=>some v_14)))))
def g_strings_Join (xs_1:List Bs) (sep_2:Bs):Option Bs:=gJoin xs_1 sep_2
def g_impl_PlanText_l0 (v_5:List GKey) (v_6:Int):Nat->(List Bs)->Int->Option ((List Bs) ⊕ Bs)
 | 0,_,_=>none
 | k+1,parts_7,v_8=>cond (decide (v_8 < v_6)) (((getI v_5 v_8).bind λ v_13=>cond (v_13.Op==1) ((app parts_7 [[62]]).bind λ v_14=>some (.inl v_14)) (cond (v_13.Op==5) ((app parts_7 [[120]]).bind λ v_15=>some (.inl v_15)) (cond (v_13.Op==2) ((app parts_7 [[124]]).bind λ v_16=>some (.inl v_16)) ((cond (v_13.Op==4) ((g_impl_ItemOk v_13.Item).bind λ y_18=>some y_18) (some false):Option (Bool)).bind λ v_17=>cond v_17 ((g_impl_ItemText v_13.Item).bind λ y_19=>(catS [43] y_19).bind λ v_20=>(app parts_7 [v_20]).bind λ v_21=>some (.inl v_21)) (some (.inr []))))):Option ((List Bs) ⊕ Bs)).bind λ o=>match o with | .inl parts_11=>g_impl_PlanText_l0 v_5 v_6 k parts_11 (IntKind.wrap .i64 (v_8+1)) | .inr v_12=>some (.inr v_12)) (some (.inl parts_7))
def g_impl_PlanText (keys_1:List GKey):Option Bs:=((g_impl_PlanText_l0 keys_1 (keys_1.length:Int) bigK ([]:List Bs) 0).bind λ o=>match o with | .inl parts_9=>some (.inl parts_9) | .inr v_10=>some (.inr v_10):Option ((List Bs) ⊕ Bs)).bind λ o=>match o with | .inl parts_3=>(g_strings_Join parts_3 [32]).bind λ y_22=>some y_22 | .inr v_4=>some v_4
def g_laws_eqItem (a_1:GItem) (b_2:GItem):Option Bool:=cond (a_1.Kind != b_2.Kind) (some false) (cond (a_1.Name != b_2.Name) (some false) (cond (a_1.N != b_2.N) (some false) (cond (a_1.Hex != b_2.Hex) (some false) (cond (a_1.Raw != b_2.Raw) (some false) (some true)))))
def g_laws_eqKey (a_1:GKey) (b_2:GKey):Option Bool:=cond (a_1.Op != b_2.Op) (some false) ((g_laws_eqItem a_1.Item b_2.Item).bind λ y_4=>cond (!y_4) (some false) (some true))
def g_laws_eqKeyS_l0 (a_1:List GKey) (b_2:List GKey):Nat->Int->Option (Unit ⊕ Bool)
 | 0,_=>none
 | k+1,i_5=>cond (decide (i_5 < (a_1.length:Int))) ((getI a_1 i_5).bind λ v_7=>(getI b_2 i_5).bind λ v_8=>(g_laws_eqKey v_7 v_8).bind λ y_9=>cond (!y_9) (some (.inr false)) (g_laws_eqKeyS_l0 a_1 b_2 k (IntKind.wrap .i64 (i_5+1)))) (some (.inl ()))
def g_laws_eqKeyS (a_1:List GKey) (b_2:List GKey):Option Bool:=cond ((a_1.length:Int) != (b_2.length:Int)) (some false) (((g_laws_eqKeyS_l0 a_1 b_2 bigK 0).bind λ o=>match o with | .inl ()=>some (.inl ()) | .inr v_6=>some (.inr v_6):Option (Unit ⊕ Bool)).bind λ o=>match o with | .inl ()=>some true | .inr v_4=>some v_4)
def g_laws_FnExactPlanText (aKeys_1:List GKey):Option Bool:=(g_laws_szKeyS aKeys_1 1048576).bind λ y_3=>cond (decide (y_3 < 0)) (some true) ((g_laws_toKeyS aKeys_1).bind λ y_4=>(g_spec_PlanText y_4).bind λ y_5=>(g_laws_toKeyS aKeys_1).bind λ y_6=>(g_impl_PlanText y_6).bind λ y_7=>cond (y_7 != y_5) (some false) ((g_laws_toKeyS aKeys_1).bind λ y_8=>(g_laws_eqKeyS y_6 y_8).bind λ y_9=>cond (!y_9) (some false) (some true)))
def bodyOf (f:Func):Code:=match f.body with|some c=>c|none=>.skip
end Go.Proofs.YtgekblgaooaclaaDoor
namespace Go.Proofs.YtgekblgaooaclaaDoor
open Go Go.Fm
set_option maxRecDepth 1000000
def itoaLays_ren:Go.Shelf.Ren:=⟨fun|171=>84|243=>103|246=>120|283=>99|284=>100|285=>101|286=>102|129=>116|317=>115|318=>117|319=>118|320=>119|337=>125|338=>126|n=>n,fun|3=>3|9=>9|2=>2|4=>4|171=>120|0=>0|53=>105|37=>29|5=>5|173=>123|212=>131|51=>36|20=>20|213=>132|46=>101|232=>146|233=>147|n=>n,fun|17=>1|18=>4|19=>5|n=>n⟩
theorem itoaLays:Go.Proofs.LaysM.n171 Tryd.prog itoaLays_ren where
 mixed:=by kernel_rfl
 f129:=Tryd.func116.trans (congrArg some (by kernel_rfl))
 f171:=Tryd.func84.trans (congrArg some (by kernel_rfl))
 f243:=Tryd.func103.trans (congrArg some (by kernel_rfl))
 f246:=Tryd.func120.trans (congrArg some (by kernel_rfl))
 f283:=Tryd.func99.trans (congrArg some (by kernel_rfl))
 f284:=Tryd.func100.trans (congrArg some (by kernel_rfl))
 f285:=Tryd.func101.trans (congrArg some (by kernel_rfl))
 f286:=Tryd.func102.trans (congrArg some (by kernel_rfl))
 f317:=Tryd.func115.trans (congrArg some (by kernel_rfl))
 f318:=Tryd.func117.trans (congrArg some (by kernel_rfl))
 f319:=Tryd.func118.trans (congrArg some (by kernel_rfl))
 f320:=Tryd.func119.trans (congrArg some (by kernel_rfl))
 f337:=Tryd.func125.trans (congrArg some (by kernel_rfl))
 f338:=Tryd.func126.trans (congrArg some (by kernel_rfl))
 t0:=Tryd.underlying0
 a0:=Tryd.isAgg0
 z0:=Tryd.sizeOf0
 v0:=Tryd.zeroValue0
 t2:=Tryd.underlying2
 a2:=Tryd.isAgg2
 z2:=Tryd.sizeOf2
 v2:=Tryd.zeroValue2
 t3:=Tryd.underlying3
 a3:=Tryd.isAgg3
 z3:=Tryd.sizeOf3
 v3:=Tryd.zeroValue3
 t4:=Tryd.underlying4
 a4:=Tryd.isAgg4
 z4:=Tryd.sizeOf4
 v4:=Tryd.zeroValue4
 t5:=Tryd.underlying5
 a5:=Tryd.isAgg5
 z5:=Tryd.sizeOf5
 v5:=Tryd.zeroValue5
 t9:=Tryd.underlying9
 a9:=Tryd.isAgg9
 z9:=Tryd.sizeOf9
 v9:=Tryd.zeroValue9
 t20:=Tryd.underlying20
 a20:=Tryd.isAgg20
 z20:=Tryd.sizeOf20
 v20:=Tryd.zeroValue20
 t37:=Tryd.underlying29
 a37:=Tryd.isAgg29
 z37:=Tryd.sizeOf29
 v37:=Tryd.zeroValue29
 t46:=Tryd.underlying101
 a46:=Tryd.isAgg101
 z46:=Tryd.sizeOf101
 v46:=Tryd.zeroValue101
 t51:=Tryd.underlying36
 a51:=Tryd.isAgg36
 z51:=Tryd.sizeOf36
 v51:=Tryd.zeroValue36
 t53:=Tryd.underlying105
 a53:=Tryd.isAgg105
 z53:=Tryd.sizeOf105
 v53:=Tryd.zeroValue105
 t171:=Tryd.underlying120
 a171:=Tryd.isAgg120
 z171:=Tryd.sizeOf120
 v171:=Tryd.zeroValue120
 t173:=Tryd.underlying123
 a173:=Tryd.isAgg123
 z173:=Tryd.sizeOf123
 v173:=Tryd.zeroValue123
 t212:=Tryd.underlying131
 a212:=Tryd.isAgg131
 z212:=Tryd.sizeOf131
 v212:=Tryd.zeroValue131
 t213:=Tryd.underlying132
 a213:=Tryd.isAgg132
 z213:=Tryd.sizeOf132
 t232:=Tryd.underlying146
 a232:=Tryd.isAgg146
 z232:=Tryd.sizeOf146
 v232:=Tryd.zeroValue146
 t233:=Tryd.underlying147
 a233:=Tryd.isAgg147
 z233:=Tryd.sizeOf147
 v233:=Tryd.zeroValue147
 g17:=by kernel_rfl
 g18:=by kernel_rfl
 g19:=by kernel_rfl
 i0:=by kernel_rfl
 i2:=by kernel_rfl
 i3:=by kernel_rfl
 i4:=by kernel_rfl
 i5:=by kernel_rfl
 i9:=by kernel_rfl
 i20:=by kernel_rfl
 i37:=by kernel_rfl
 i46:=by kernel_rfl
 i51:=by kernel_rfl
 i53:=by kernel_rfl
 i171:=by kernel_rfl
 i173:=by kernel_rfl
 i212:=by kernel_rfl
 i232:=by kernel_rfl
 i233:=by kernel_rfl
 m17:=by kernel_rfl
 m18:=by kernel_rfl
 m19:=by kernel_rfl
def joinLays_ren:Go.Shelf.Ren:=⟨fun|156=>25|165=>49|166=>50|169=>51|240=>71|241=>72|276=>85|277=>86|n=>n,fun|31=>50|9=>9|3=>3|4=>4|0=>0|20=>20|72=>78|76=>82|70=>76|37=>29|75=>81|127=>106|164=>114|5=>5|80=>84|n=>n,fun|n=>n⟩
theorem joinLays:Go.Proofs.Lays.n156 Tryd.prog joinLays_ren where
 mixed:=by kernel_rfl
 f156:=Tryd.func25.trans (congrArg some (by kernel_rfl))
 f165:=Tryd.func49.trans (congrArg some (by kernel_rfl))
 f166:=Tryd.func50.trans (congrArg some (by kernel_rfl))
 f169:=Tryd.func51.trans (congrArg some (by kernel_rfl))
 f240:=Tryd.func71.trans (congrArg some (by kernel_rfl))
 f241:=Tryd.func72.trans (congrArg some (by kernel_rfl))
 f276:=Tryd.func85.trans (congrArg some (by kernel_rfl))
 f277:=Tryd.func86.trans (congrArg some (by kernel_rfl))
 t0:=Tryd.underlying0
 a0:=Tryd.isAgg0
 z0:=Tryd.sizeOf0
 v0:=Tryd.zeroValue0
 t3:=Tryd.underlying3
 a3:=Tryd.isAgg3
 z3:=Tryd.sizeOf3
 v3:=Tryd.zeroValue3
 t4:=Tryd.underlying4
 a4:=Tryd.isAgg4
 z4:=Tryd.sizeOf4
 v4:=Tryd.zeroValue4
 t9:=Tryd.underlying9
 a9:=Tryd.isAgg9
 z9:=Tryd.sizeOf9
 v9:=Tryd.zeroValue9
 t20:=Tryd.underlying20
 a20:=Tryd.isAgg20
 z20:=Tryd.sizeOf20
 v20:=Tryd.zeroValue20
 t31:=Tryd.underlying50
 a31:=Tryd.isAgg50
 z31:=Tryd.sizeOf50
 v31:=Tryd.zeroValue50
 t37:=Tryd.underlying29
 a37:=Tryd.isAgg29
 z37:=Tryd.sizeOf29
 v37:=Tryd.zeroValue29
 t70:=Tryd.underlying76
 a70:=Tryd.isAgg76
 z70:=Tryd.sizeOf76
 v70:=Tryd.zeroValue76
 t72:=Tryd.underlying78
 a72:=Tryd.isAgg78
 z72:=Tryd.sizeOf78
 v72:=Tryd.zeroValue78
 t75:=Tryd.underlying81
 a75:=Tryd.isAgg81
 z75:=Tryd.sizeOf81
 v75:=Tryd.zeroValue81
 t76:=Tryd.underlying82
 a76:=Tryd.isAgg82
 z76:=Tryd.sizeOf82
 v76:=Tryd.zeroValue82
 t127:=Tryd.underlying106
 a127:=Tryd.isAgg106
 z127:=Tryd.sizeOf106
 v127:=Tryd.zeroValue106
 t164:=Tryd.underlying114
 a164:=Tryd.isAgg114
 z164:=Tryd.sizeOf114
 v164:=Tryd.zeroValue114
def joinX_ren:Go.Shelf.Ren:=⟨fun|156=>25|165=>49|166=>50|169=>51|240=>71|241=>72|276=>85|277=>86|n=>n,fun|31=>50|9=>9|3=>3|4=>4|0=>0|20=>20|72=>78|76=>82|70=>76|37=>29|75=>81|127=>106|164=>114|5=>5|80=>84|n=>n,fun|n=>n⟩
theorem joinX:Go.Proofs.Builder.Extra Tryd.prog joinX_ren where
 sizeBuilder:=by kernel_rfl
 liesBuilder:=by kernel_rfl
 t5:=Tryd.underlying5
 a5:=Tryd.isAgg5
 z5:=Tryd.sizeOf5
 v5:=Tryd.zeroValue5
 infoByte:=by kernel_rfl
 cellsByte:=by kernel_rfl
 sizeByte:=by kernel_rfl
 neB5:=by decide
end Go.Proofs.YtgekblgaooaclaaDoor
namespace Go.Proofs.YtgekblgaooaclaaDoor
open Go Go.Fm
set_option maxRecDepth 1000000
noncomputable def e_laws_szItem:Con:=⟨40,⟨[(0, .s K5 []),(1, .s K0 [])],[]⟩,⟨[(0, .s K0 [])],[]⟩,false,[],λ (a_1,left_2)=>g_laws_szItem a_1 left_2⟩
noncomputable def e_laws_szKey:Con:=⟨20,⟨[(0, .s K6 []),(1, .s K0 [])],[]⟩,⟨[(0, .s K0 [])],[]⟩,false,[],λ (a_1,left_2)=>g_laws_szKey a_1 left_2⟩
noncomputable def e_laws_szKeyS:Con:=⟨6,⟨[(0, .s K7 []),(1, .s K0 [])],[]⟩,⟨[(0, .s K0 [])],[]⟩,false,[],λ (a_1,left_2)=>g_laws_szKeyS a_1 left_2⟩
noncomputable def e_laws_toItem:Con:=⟨45,⟨[(0, .s K5 [])],[]⟩,⟨[(0, .s K5 [])],[]⟩,false,[],λ a_1=>g_laws_toItem a_1⟩
noncomputable def e_laws_toKey:Con:=⟨23,⟨[(0, .s K6 [])],[]⟩,⟨[(0, .s K6 [])],[]⟩,false,[],λ a_1=>g_laws_toKey a_1⟩
noncomputable def e_laws_toKeyS:Con:=⟨8,⟨[(0, .s K7 [])],[]⟩,⟨[(0, .s K7 [(0,0)])],[.o]⟩,false,[],λ a_1=>g_laws_toKeyS a_1⟩
noncomputable def e_spec_l04Num:Con:=⟨66,⟨[(0, .s K2 []),(1, .s K3 []),(2, .s K4 []),(3, .s K4 [])],[]⟩,⟨[(0, .s K10 [(0,0)])],[.o]⟩,false,[],λ (n_1,hex_2,short_3,long_4)=>g_spec_l04Num n_1 hex_2 short_3 long_4⟩
noncomputable def e_spec_l01In:Con:=⟨79,⟨[(0, .s K0 []),(1, .s K0 []),(2, .s K0 [])],[]⟩,⟨[(0, .s K3 [])],[]⟩,false,[],λ (x_1,a_2,b_3)=>g_spec_l01In x_1 a_2 b_3⟩
noncomputable def e_spec_l02All:Con:=⟨124,⟨[],[]⟩,⟨[(0, .s K1 [])],[]⟩,false,[],λ _=>g_spec_l02All⟩
noncomputable def e_spec_LetterOf:Con:=⟨112,⟨[(0, .s K8 [])],[]⟩,⟨[(0, .s K0 [])],[]⟩,false,[],λ b_1=>g_spec_LetterOf b_1⟩
noncomputable def e_spec_NameOk:Con:=⟨97,⟨[(0, .s K1 [])],[]⟩,⟨[(0, .s K3 [])],[]⟩,false,[],λ s_1=>g_spec_NameOk s_1⟩
noncomputable def e_spec_WidthOf:Con:=⟨113,⟨[(0, .s K0 [])],[]⟩,⟨[(0, .s K0 [])],[]⟩,false,[],λ k_1=>g_spec_WidthOf k_1⟩
noncomputable def e_spec_BitsOf:Con:=⟨114,⟨[(0, .s K0 [])],[]⟩,⟨[(0, .s K4 [])],[]⟩,false,[],λ k_1=>g_spec_BitsOf k_1⟩
noncomputable def e_spec_l03One:Con:=⟨98,⟨[(0, .s K1 [])],[]⟩,⟨[(0, .s K4 []),(1, .s K0 [])],[]⟩,false,[],λ s_1=>g_spec_l03One s_1⟩
noncomputable def e_spec_Pack:Con:=⟨82,⟨[(0, .s K1 [])],[]⟩,⟨[(0, .s K10 [(0,0)])],[.o]⟩,false,[],λ s_1=>g_spec_Pack s_1⟩
noncomputable def e_spec_l04Word:Con:=⟨67,⟨[(0, .s K4 []),(1, .s K1 [])],[]⟩,⟨[(0, .s K10 [(0,0)])],[.o]⟩,false,[],λ (tag_1,name_2)=>g_spec_l04Word tag_1 name_2⟩
noncomputable def e_spec_l04Tag:Con:=⟨68,⟨[(0, .s K0 [])],[]⟩,⟨[(0, .s K4 [])],[]⟩,false,[],λ kind_1=>g_spec_l04Tag kind_1⟩
noncomputable def e_spec_CellsOf:Con:=⟨41,⟨[(0, .s K5 [])],[]⟩,⟨[(0, .s K10 [(0,0)])],[.o]⟩,false,[],λ it_1=>g_spec_CellsOf it_1⟩
noncomputable def e_spec_ItemOk:Con:=⟨21,⟨[(0, .s K5 [])],[]⟩,⟨[(0, .s K3 [])],[]⟩,false,[],λ it_1=>g_spec_ItemOk it_1⟩
noncomputable def e_spec_l06Mark:Con:=⟨42,⟨[(0, .s K0 [])],[]⟩,⟨[(0, .s K1 [])],[]⟩,false,[],λ kind_1=>g_spec_l06Mark kind_1⟩
noncomputable def e_spec_HexText:Con:=⟨43,⟨[(0, .s K4 [])],[]⟩,⟨[(0, .s K1 [])],[]⟩,false,[],λ n_1=>g_spec_HexText n_1⟩
noncomputable def e_spec_DecText:Con:=⟨44,⟨[(0, .s K0 [])],[]⟩,⟨[(0, .s K1 [])],[]⟩,false,[],λ n_1=>g_spec_DecText n_1⟩
noncomputable def e_spec_ItemText:Con:=⟨22,⟨[(0, .s K5 [])],[]⟩,⟨[(0, .s K1 [])],[]⟩,false,[],λ it_1=>g_spec_ItemText it_1⟩
noncomputable def e_spec_PlanText:Con:=⟨7,⟨[(0, .s K7 [])],[]⟩,⟨[(0, .s K1 [])],[]⟩,false,[],λ keys_1=>g_spec_PlanText keys_1⟩
noncomputable def e_impl_nameTag:Con:=⟨63,⟨[(0, .s K0 [])],[]⟩,⟨[(0, .s K4 [])],[]⟩,false,[],λ kind_1=>g_impl_nameTag kind_1⟩
noncomputable def e_impl_letters:Con:=⟨111,⟨[],[]⟩,⟨[(0, .s K1 [])],[]⟩,false,[],λ _=>g_impl_letters⟩
noncomputable def e_ibytealg_IndexByteString:Con:=⟨87,⟨[(0, .s K1 []),(1, .s K8 [])],[]⟩,⟨[(0, .s K0 [])],[]⟩,false,[],λ a=>g_ibytealg_IndexByteString a.1 a.2⟩
noncomputable def e_istringslite_IndexByte:Con:=⟨73,⟨[(0, .s K1 []),(1, .s K8 [])],[]⟩,⟨[(0, .s K0 [])],[]⟩,false,[],λ (s_1,c_2)=>g_istringslite_IndexByte s_1 c_2⟩
noncomputable def e_strings_IndexByte:Con:=⟨54,⟨[(0, .s K1 []),(1, .s K8 [])],[]⟩,⟨[(0, .s K0 [])],[]⟩,false,[],λ (s_1,c_2)=>g_strings_IndexByte s_1 c_2⟩
noncomputable def e_impl_LetterOf:Con:=⟨93,⟨[(0, .s K8 [])],[]⟩,⟨[(0, .s K0 [])],[]⟩,false,[],λ b_1=>g_impl_LetterOf b_1⟩
noncomputable def e_impl_within:Con:=⟨94,⟨[(0, .s K0 []),(1, .s K0 []),(2, .s K0 [])],[]⟩,⟨[(0, .s K3 [])],[]⟩,false,[],λ (n_1,low_2,high_3)=>g_impl_within n_1 low_2 high_3⟩
noncomputable def e_impl_NameOk:Con:=⟨80,⟨[(0, .s K1 [])],[]⟩,⟨[(0, .s K3 [])],[]⟩,false,[],λ s_1=>g_impl_NameOk s_1⟩
noncomputable def e_impl_WidthOf:Con:=⟨95,⟨[(0, .s K0 [])],[]⟩,⟨[(0, .s K0 [])],[]⟩,false,[],λ k_1=>g_impl_WidthOf k_1⟩
noncomputable def e_impl_BitsOf:Con:=⟨96,⟨[(0, .s K0 [])],[]⟩,⟨[(0, .s K4 [])],[]⟩,false,[],λ k_1=>g_impl_BitsOf k_1⟩
noncomputable def e_impl_PackOne:Con:=⟨81,⟨[(0, .s K1 [])],[]⟩,⟨[(0, .s K4 []),(1, .s K0 [])],[]⟩,false,[],λ s_1=>g_impl_PackOne s_1⟩
noncomputable def e_impl_Pack:Con:=⟨64,⟨[(0, .s K1 [])],[]⟩,⟨[(0, .s K10 [(0,0)])],[.o]⟩,false,[],λ s_1=>g_impl_Pack s_1⟩
noncomputable def e_impl_numberCells:Con:=⟨65,⟨[(0, .s K2 []),(1, .s K3 []),(2, .s K4 []),(3, .s K4 [])],[]⟩,⟨[(0, .s K10 [(0,0)])],[.o]⟩,false,[],λ (n_1,hex_2,short_3,long_4)=>g_impl_numberCells n_1 hex_2 short_3 long_4⟩
noncomputable def e_impl_CellsOf:Con:=⟨37,⟨[(0, .s K5 [])],[]⟩,⟨[(0, .s K10 [(0,0)])],[.o]⟩,false,[],λ it_1=>g_impl_CellsOf it_1⟩
noncomputable def e_impl_ItemOk:Con:=⟨15,⟨[(0, .s K5 [])],[]⟩,⟨[(0, .s K3 [])],[]⟩,false,[],λ it_1=>g_impl_ItemOk it_1⟩
noncomputable def e_istrconv_small:Con:=⟨99,⟨[(0, .s K0 [])],[]⟩,⟨[(0, .s K1 [])],[]⟩,false,[],λ i_1=>g_istrconv_small i_1⟩
noncomputable def e_math_bits_Len64:Con:=⟨116,⟨[(0, .s K12 [])],[]⟩,⟨[(0, .s K0 [])],[]⟩,false,[],λ x_1=>g_math_bits_Len64 x_1⟩
noncomputable def e_istrconv_log10Pow2:Con:=⟨115,⟨[(0, .s K0 [])],[]⟩,⟨[(0, .s K0 [])],[]⟩,false,[],λ x_1=>g_istrconv_log10Pow2 x_1⟩
noncomputable def e_istrconv_bool2_int:Con:=⟨117,⟨[(0, .s K3 [])],[]⟩,⟨[(0, .s K0 [])],[]⟩,false,[],λ b_1=>g_istrconv_bool2_int b_1⟩
noncomputable def e_istrconv_numDigits:Con:=⟨100,⟨[(0, .s K12 [])],[]⟩,⟨[(0, .s K0 [])],[]⟩,false,[],λ d_1=>g_istrconv_numDigits d_1⟩
noncomputable def e_istrconv_isPowerOfTwo:Con:=⟨118,⟨[(0, .s K0 [])],[]⟩,⟨[(0, .s K3 [])],[]⟩,false,[],λ x_1=>g_istrconv_isPowerOfTwo x_1⟩
noncomputable def e_math_bits_TrailingZeros64:Con:=⟨126,⟨[(0, .s K12 [])],[]⟩,⟨[(0, .s K0 [])],[]⟩,false,[],λ x_1=>g_math_bits_TrailingZeros64 x_1⟩
noncomputable def e_math_bits_TrailingZeros:Con:=⟨119,⟨[(0, .s K12 [])],[]⟩,⟨[(0, .s K0 [])],[]⟩,false,[],λ x_1=>g_math_bits_TrailingZeros x_1⟩
noncomputable def e_istrconv_formatBits:Con:=⟨102,⟨[(0, .s K9 []),(1, .s K12 []),(2, .s K0 []),(3, .s K3 []),(4, .s K3 [])],[]⟩,⟨[(0, .c (.one (.emp))),(1, .s K1 [])],[]⟩,false,[],λ (dst_1,u_2,base_3,neg_4,append__5)=>g_istrconv_formatBits dst_1 u_2 base_3 neg_4 append__5⟩
noncomputable def e_istrconv_FormatUint:Con:=⟨83,⟨[(0, .s K12 []),(1, .s K0 [])],[]⟩,⟨[(0, .s K1 [])],[]⟩,false,[],λ (i_1,base_2)=>g_istrconv_FormatUint i_1 base_2⟩
noncomputable def e_strconv_FormatUint:Con:=⟨69,⟨[(0, .s K12 []),(1, .s K0 [])],[]⟩,⟨[(0, .s K1 [])],[]⟩,false,[],λ (i_1,base_2)=>g_strconv_FormatUint i_1 base_2⟩
noncomputable def e_impl_HexText:Con:=⟨46,⟨[(0, .s K4 [])],[]⟩,⟨[(0, .s K1 [])],[]⟩,false,[],λ n_1=>g_impl_HexText n_1⟩
noncomputable def e_strconv_Itoa:Con:=⟨84,⟨[(0, .s K0 [])],[]⟩,⟨[(0, .s K1 [])],[]⟩,false,[],λ i_1=>g_strconv_Itoa i_1⟩
noncomputable def e_impl_DecText:Con:=⟨70,⟨[(0, .s K0 [])],[]⟩,⟨[(0, .s K1 [])],[]⟩,false,[],λ n_1=>g_impl_DecText n_1⟩
noncomputable def e_impl_digits:Con:=⟨47,⟨[(0, .s K2 []),(1, .s K3 [])],[]⟩,⟨[(0, .s K1 [])],[]⟩,false,[],λ (n_1,hex_2)=>g_impl_digits n_1 hex_2⟩
noncomputable def e_impl_mark:Con:=⟨48,⟨[(0, .s K0 [])],[]⟩,⟨[(0, .s K1 [])],[]⟩,false,[],λ kind_1=>g_impl_mark kind_1⟩
noncomputable def e_impl_ItemText:Con:=⟨24,⟨[(0, .s K5 [])],[]⟩,⟨[(0, .s K1 [])],[]⟩,false,[],λ it_1=>g_impl_ItemText it_1⟩
noncomputable def e_strings_Join:Con:=⟨25,⟨[(0, .s K11 []),(1, .s K1 [])],[]⟩,⟨[(0, .s K1 [])],[]⟩,false,[],λ a=>g_strings_Join a.1 a.2⟩
noncomputable def e_impl_PlanText:Con:=⟨9,⟨[(0, .s K7 [])],[]⟩,⟨[(0, .s K1 [])],[]⟩,false,[],λ keys_1=>g_impl_PlanText keys_1⟩
noncomputable def e_laws_eqItem:Con:=⟨38,⟨[(0, .s K5 []),(1, .s K5 [])],[]⟩,⟨[(0, .s K3 [])],[]⟩,false,[],λ (a_1,b_2)=>g_laws_eqItem a_1 b_2⟩
noncomputable def e_laws_eqKey:Con:=⟨26,⟨[(0, .s K6 []),(1, .s K6 [])],[]⟩,⟨[(0, .s K3 [])],[]⟩,false,[],λ (a_1,b_2)=>g_laws_eqKey a_1 b_2⟩
noncomputable def e_laws_eqKeyS:Con:=⟨10,⟨[(0, .s K7 []),(1, .s K7 [])],[]⟩,⟨[(0, .s K3 [])],[]⟩,false,[],λ (a_1,b_2)=>g_laws_eqKeyS a_1 b_2⟩
noncomputable def e_laws_FnExactPlanText:Con:=⟨3,⟨[(0, .s K7 [])],[]⟩,⟨[(0, .s K3 [])],[]⟩,false,[],λ aKeys_1=>g_laws_FnExactPlanText aKeys_1⟩
abbrev CO (c:Con):Prop:=ConOk Tryd.prog c
abbrev CK (Γ:List Con) (n:Nat) (an:An) (f:Func) (e:Con):Prop:=AnOk TrydT Γ n an (bodyOf f)/\∀ a,fnRun TrydT Γ an (bodyOf f) f.results.toList e.ro e.ps e.rs a=e.g a
theorem fnc {Γ:List Con} {n:Nat} {an:An} {fn:Func} {C:Con} (h:Tryd.prog.follows .mixedOrders=true->∀ c ∈ Γ,CO c) (hf:Tryd.prog.funcs[C.f]? = some fn) (hk:CK Γ n an fn C) (h1:(!(fn.name == "runtime.NumGoroutine")&&okC fn.ntmps (bodyOf fn))=true)
  (h2:∀ a,entB C n fn.ntmps a=true) (h3:∀ r,endB C fn.results.toList.length r=true) (hb:fn.body=some (bodyOf fn)):CO C:=by
 rw[Bool.and_eq_true,Bool.not_eq_true']at h1
 exact fn_ok (P:=λ _=>Tryd.prog) (n:=n) TrydT_eq h hf hb h1.1 rfl rfl h1.2 rfl h2 h3 hk.1 λ a r e=>(hk.2 a).trans e
end Go.Proofs.YtgekblgaooaclaaDoor
namespace Go.Proofs.YtgekblgaooaclaaDoor
open Go Go.Fm
set_option maxRecDepth 1000000
noncomputable def ane_laws_szItem:An:=.z
theorem ke_laws_szItem:CK [] 0 ane_laws_szItem Tryd.f40 e_laws_szItem:=⟨trivial,λ _=>by kernel_rfl⟩
noncomputable def ane_laws_szKey:An:=.z
theorem ke_laws_szKey:CK [e_laws_szItem] 0 ane_laws_szKey Tryd.f20 e_laws_szKey:=⟨trivial,λ _=>by kernel_rfl⟩
noncomputable def ane_laws_szKeyS:An:=.q .z (.q .z (.q .z (.m [(.normal,⟨[(1, .s K0 [])],[]⟩),(.ret,⟨[(4, .s K0 [])],[]⟩)] [0] [] (.q .z (.b (.l ⟨[(0, .s K7 [])],[]⟩ ⟨[(1, .s K0 []),(5, .s K0 [])],[]⟩ [(.exit 0,⟨[(1, .s K0 [])],[]⟩),(.ret,⟨[(4, .s K0 [])],[]⟩)] (λ a_1 k (left_6,i_7)=>g_laws_szKeyS_l0 a_1 k left_6 i_7) .z))) .z)))
theorem ke_laws_szKeyS:CK [e_laws_szKey] 0 ane_laws_szKeyS Tryd.f6 e_laws_szKeyS:=⟨⟨trivial,⟨trivial,⟨trivial,⟨⟨trivial,⟨λ _ _=>rfl,λ _ _ _ _=>by kernel_rfl,trivial⟩⟩,trivial⟩⟩⟩⟩,λ _=>by kernel_rfl⟩
noncomputable def ane_laws_toItem:An:=.z
theorem ke_laws_toItem:CK [] 0 ane_laws_toItem Tryd.f45 e_laws_toItem:=⟨trivial,λ _=>by kernel_rfl⟩
noncomputable def ane_laws_toKey:An:=.z
theorem ke_laws_toKey:CK [e_laws_toItem] 0 ane_laws_toKey Tryd.f23 e_laws_toKey:=⟨trivial,λ _=>by kernel_rfl⟩
noncomputable def ane_laws_toKeyS:An:=.q .z (.q .z (.m [(.normal,⟨[(3, .s K7 [(0,0)])],[.o]⟩)] [0,2] [] (.q .z (.b (.l ⟨[(0, .s K7 []),(2, .c (.one (.emp)))],[.n]⟩ ⟨[(3, .s K7 [(0,0)]),(4, .s K0 [])],[.o]⟩ [(.exit 0,⟨[(3, .s K7 [(0,0)])],[.o]⟩)] (λ a_1 k (out_5,i_6)=>g_laws_toKeyS_l0 a_1 k out_5 i_6) .z))) .z))
theorem ke_laws_toKeyS:CK [e_laws_toKey] 0 ane_laws_toKeyS Tryd.f8 e_laws_toKeyS:=⟨⟨trivial,⟨trivial,⟨⟨trivial,⟨λ _ _=>rfl,λ _ _ _ _=>by kernel_rfl,trivial⟩⟩,trivial⟩⟩⟩,λ _=>by kernel_rfl⟩
noncomputable def ane_spec_l04Num:An:=.q .z (.q .z (.m [(.normal,⟨[(9, .s K4 [])],[]⟩)] [0,1,2,3,8] [] .z (.q (.m [(.normal,⟨[(16, .s K3 [])],[]⟩)] [0,2,3,8,9] [] .z .z) .z)))
theorem ke_spec_l04Num:CK [] 0 ane_spec_l04Num Tryd.f66 e_spec_l04Num:=⟨⟨trivial,⟨trivial,⟨trivial,⟨⟨trivial,trivial⟩,trivial⟩⟩⟩⟩,λ _=>by kernel_rfl⟩
noncomputable def ane_spec_l01In:An:=.z
theorem ke_spec_l01In:CK [] 0 ane_spec_l01In Tryd.f79 e_spec_l01In:=⟨trivial,λ _=>by kernel_rfl⟩
end Go.Proofs.YtgekblgaooaclaaDoor
namespace Go.Proofs.YtgekblgaooaclaaDoor
open Go Go.Fm
set_option maxRecDepth 1000000
noncomputable def ane_spec_l02All:An:=.z
theorem ke_spec_l02All:CK [] 0 ane_spec_l02All Tryd.f124 e_spec_l02All:=⟨trivial,λ _=>by kernel_rfl⟩
noncomputable def ane_spec_LetterOf:An:=.q .z (.q .z (.m [(.normal,⟨[],[]⟩),(.ret,⟨[(2, .s K0 [])],[]⟩)] [0,3] [] (.q .z (.b (.l ⟨[(0, .s K8 []),(3, .s K1 [])],[]⟩ ⟨[(4, .s K0 [])],[]⟩ [(.exit 0,⟨[],[]⟩),(.ret,⟨[(2, .s K0 [])],[]⟩)] (λ (b_1,yu41_3) k i_5=>g_spec_LetterOf_l0 b_1 yu41_3 k i_5) .z))) .z))
theorem ke_spec_LetterOf:CK [e_spec_l02All] 0 ane_spec_LetterOf Tryd.f112 e_spec_LetterOf:=⟨⟨trivial,⟨trivial,⟨⟨trivial,⟨λ _ _=>rfl,λ _ _ _ _=>by kernel_rfl,trivial⟩⟩,trivial⟩⟩⟩,λ _=>by kernel_rfl⟩
noncomputable def ane_spec_NameOk:An:=.q .z (.q .z (.m [(.normal,⟨[],[]⟩),(.ret,⟨[(2, .s K3 [])],[]⟩)] [0] [] (.q .z (.b (.l ⟨[(0, .s K1 [])],[]⟩ ⟨[(3, .s K0 [])],[]⟩ [(.exit 0,⟨[],[]⟩),(.ret,⟨[(2, .s K3 [])],[]⟩)] (λ s_1 k i_5=>g_spec_NameOk_l0 s_1 k i_5) .z))) .z))
theorem ke_spec_NameOk:CK [e_spec_l01In,e_spec_LetterOf] 0 ane_spec_NameOk Tryd.f97 e_spec_NameOk:=⟨⟨trivial,⟨trivial,⟨⟨trivial,⟨λ _ _=>rfl,λ _ _ _ _=>by kernel_rfl,trivial⟩⟩,trivial⟩⟩⟩,λ _=>by kernel_rfl⟩
noncomputable def ane_spec_WidthOf:An:=.z
theorem ke_spec_WidthOf:CK [e_spec_l01In] 0 ane_spec_WidthOf Tryd.f113 e_spec_WidthOf:=⟨trivial,λ _=>by kernel_rfl⟩
noncomputable def ane_spec_BitsOf:An:=.z
theorem ke_spec_BitsOf:CK [e_spec_WidthOf] 0 ane_spec_BitsOf Tryd.f114 e_spec_BitsOf:=⟨trivial,λ _=>by kernel_rfl⟩
noncomputable def ane_spec_l03One:An:=.q .z (.q .z (.q (.b (.l ⟨[(0, .s K1 []),(2, .s K4 []),(3, .s K0 [])],[]⟩ ⟨[(4, .s K0 []),(5, .s K0 []),(6, .s K0 [])],[]⟩ [(.exit 0,⟨[(4, .s K0 []),(6, .s K0 [])],[]⟩)] (λ (s_1,_,_) k (f_6,left_7,n_8)=>g_spec_l03One_l0 s_1 k f_6 left_7 n_8) .z)) .z))
theorem ke_spec_l03One:CK [e_spec_LetterOf,e_spec_WidthOf,e_spec_BitsOf] 0 ane_spec_l03One Tryd.f98 e_spec_l03One:=⟨⟨trivial,⟨trivial,⟨⟨λ _ _=>rfl,λ _ _ _ _=>by kernel_rfl,trivial⟩,trivial⟩⟩⟩,λ _=>by kernel_rfl⟩
noncomputable def ane_spec_Pack:An:=.q .z (.q .z (.q .z (.q (.b (.l ⟨[(2, .c (.one (.emp)))],[.n, .n]⟩ ⟨[(0, .s K1 []),(3, .s K10 [(0,1)])],[.d, .o]⟩ [(.exit 0,⟨[(3, .s K10 [(0,1)])],[.d, .o]⟩)] (λ _ k (s_4,out_5)=>g_spec_Pack_l0 k s_4 out_5) .z)) .z)))
theorem ke_spec_Pack:CK [e_spec_NameOk,e_spec_l03One] 0 ane_spec_Pack Tryd.f82 e_spec_Pack:=⟨⟨trivial,⟨trivial,⟨trivial,⟨⟨λ _ _=>rfl,λ _ _ _ _=>by kernel_rfl,trivial⟩,trivial⟩⟩⟩⟩,λ _=>by kernel_rfl⟩
noncomputable def ane_spec_l04Word:An:=.q .z (.q .z (.m [(.normal,⟨[(5, .s K10 [(0,0)])],[.o]⟩)] [0,4] [] (.q .z (.b (.l ⟨[(0, .s K4 []),(4, .c (.one (.emp)))],[.n]⟩ ⟨[(5, .s K10 [(0,0)]),(6, .s K0 [])],[.o]⟩ [(.exit 0,⟨[(5, .s K10 [(0,0)])],[.o]⟩)] (λ tag_1 k (out_6,i_7)=>g_spec_l04Word_l0 tag_1 k out_6 i_7) (.q .z (.m [(.normal,⟨[(5, .s K10 [(0,0)])],[.o]⟩)] [6] [] .z .z))))) .z))
theorem ke_spec_l04Word:CK [e_spec_Pack] 0 ane_spec_l04Word Tryd.f67 e_spec_l04Word:=⟨⟨trivial,⟨trivial,⟨⟨trivial,⟨λ _ _=>rfl,λ _ _ _ _=>by kernel_rfl,⟨trivial,⟨trivial,trivial⟩⟩⟩⟩,trivial⟩⟩⟩,λ _=>by kernel_rfl⟩
end Go.Proofs.YtgekblgaooaclaaDoor
namespace Go.Proofs.YtgekblgaooaclaaDoor
open Go Go.Fm
set_option maxRecDepth 1000000
noncomputable def ane_spec_l04Tag:An:=.z
theorem ke_spec_l04Tag:CK [] 0 ane_spec_l04Tag Tryd.f68 e_spec_l04Tag:=⟨trivial,λ _=>by kernel_rfl⟩
noncomputable def ane_spec_CellsOf:An:=.q .z (.m [(.normal,⟨[(3, .s K3 [])],[.f]⟩)] [1,2] [0] .z (.m [(.normal,⟨[],[.f]⟩),(.ret,⟨[(2, .s K10 [(0,1)])],[.f, .o]⟩)] [1,3] [0] (.q .z (.b (.q .z (.q (.m [(.normal,⟨[(47, .s K3 [])],[.f]⟩)] [2] [] .z .z) (.q .z (.q (.m [(.normal,⟨[(60, .s K3 [])],[.f]⟩)] [2] [] .z .z) (.q .z (.q (.m [(.normal,⟨[(75, .s K3 [])],[.f]⟩)] [2] [] .z .z) (.q .z (.q (.q .z (.m [(.normal,⟨[(98, .s K3 [])],[.f, .f]⟩)] [2,4] [1] .z .z)) (.q .z (.m [(.normal,⟨[(28, .s K3 [])],[.f]⟩)] [2,5] [] .z .z)))))))))))) .z))
theorem ke_spec_CellsOf:CK [e_spec_l04Num,e_spec_l04Word,e_spec_l04Tag] 0 ane_spec_CellsOf Tryd.f41 e_spec_CellsOf:=⟨⟨trivial,⟨trivial,⟨⟨trivial,⟨trivial,⟨⟨trivial,trivial⟩,⟨trivial,⟨⟨trivial,trivial⟩,⟨trivial,⟨⟨trivial,trivial⟩,⟨trivial,⟨⟨trivial,⟨trivial,trivial⟩⟩,⟨trivial,⟨trivial,trivial⟩⟩⟩⟩⟩⟩⟩⟩⟩⟩⟩,trivial⟩⟩⟩,λ _=>by kernel_rfl⟩
noncomputable def ane_spec_ItemOk:An:=.z
theorem ke_spec_ItemOk:CK [e_spec_CellsOf] 0 ane_spec_ItemOk Tryd.f21 e_spec_ItemOk:=⟨trivial,λ _=>by kernel_rfl⟩
noncomputable def ane_spec_l06Mark:An:=.q .z (.m [(.normal,⟨[],[]⟩),(.ret,⟨[(2, .s K1 [])],[]⟩)] [0] [] (.q .z (.b (.m [(.normal,⟨[(4, .s K3 [])],[]⟩)] [2,3] [] .z (.q .z (.q .z (.q .z (.m [(.normal,⟨[(9, .s K3 [])],[]⟩)] [2,3] [] .z .z))))))) .z)
theorem ke_spec_l06Mark:CK [] 0 ane_spec_l06Mark Tryd.f42 e_spec_l06Mark:=⟨⟨trivial,⟨⟨trivial,⟨trivial,⟨trivial,⟨trivial,⟨trivial,⟨trivial,trivial⟩⟩⟩⟩⟩⟩,trivial⟩⟩,λ _=>by kernel_rfl⟩
noncomputable def ane_spec_HexText:An:=.q .z (.q .z (.q .z (.m [(.normal,⟨[(3, .s K1 [])],[]⟩)] [0,2] [] (.q .z (.b (.l ⟨[(0, .s K4 []),(2, .s K1 [])],[]⟩ ⟨[(3, .s K1 []),(4, .s K0 [])],[]⟩ [(.exit 0,⟨[(3, .s K1 [])],[]⟩)] (λ _ k (out_5,m_6)=>g_spec_HexText_l0 k out_5 m_6) .z))) .z)))
theorem ke_spec_HexText:CK [] 0 ane_spec_HexText Tryd.f43 e_spec_HexText:=⟨⟨trivial,⟨trivial,⟨trivial,⟨⟨trivial,⟨λ _ _=>rfl,λ _ _ _ _=>by kernel_rfl,trivial⟩⟩,trivial⟩⟩⟩⟩,λ _=>by kernel_rfl⟩
noncomputable def ane_spec_DecText:An:=.q .z (.q .z (.q .z (.q .z (.q (.b (.l ⟨[(0, .s K0 []),(2, .s K1 [])],[]⟩ ⟨[(3, .s K1 []),(4, .s K0 [])],[]⟩ [(.exit 0,⟨[(3, .s K1 [])],[]⟩)] (λ _ k (out_4,m_5)=>g_spec_DecText_l0 k out_4 m_5) (.q .z (.b (.q .z (.m [(.normal,⟨[(5, .s K0 [])],[]⟩)] [3,4] [] .z .z)))))) .z))))
theorem ke_spec_DecText:CK [] 0 ane_spec_DecText Tryd.f44 e_spec_DecText:=⟨⟨trivial,⟨trivial,⟨trivial,⟨trivial,⟨⟨λ _ _=>rfl,λ _ _ _ _=>by kernel_rfl,⟨trivial,⟨trivial,⟨trivial,trivial⟩⟩⟩⟩,trivial⟩⟩⟩⟩⟩,λ _=>by kernel_rfl⟩
noncomputable def ane_spec_ItemText:An:=.q .z (.q .z (.q .z (.m [(.normal,⟨[],[.f]⟩),(.ret,⟨[(2, .s K1 [])],[.f]⟩)] [1,3] [0] (.q .z (.b (.m [(.normal,⟨[(12, .s K3 [])],[.f]⟩)] [2,11] [] .z .z))) .z)))
theorem ke_spec_ItemText:CK [e_spec_ItemOk,e_spec_l06Mark,e_spec_HexText,e_spec_DecText] 0 ane_spec_ItemText Tryd.f22 e_spec_ItemText:=⟨⟨trivial,⟨trivial,⟨trivial,⟨⟨trivial,⟨trivial,trivial⟩⟩,trivial⟩⟩⟩⟩,λ _=>by kernel_rfl⟩
noncomputable def ane_spec_PlanText:An:=.q .z (.q .z (.m [(.normal,⟨[(3, .s K9 [(0,1)])],[.d, .o]⟩),(.ret,⟨[(2, .s K1 [])],[.d]⟩)] [0] [] (.q .z (.b (.l ⟨[(0, .s K7 [])],[.n, .n]⟩ ⟨[(3, .s K9 [(0,1)]),(4, .s K0 [])],[.d, .o]⟩ [(.exit 0,⟨[(3, .s K9 [(0,1)])],[.d, .o]⟩),(.ret,⟨[(2, .s K1 [])],[.d, .d]⟩)] (λ keys_1 k (out_5,i_6)=>g_spec_PlanText_l0 keys_1 k out_5 i_6) (.q .z (.m [(.normal,⟨[(3, .s K9 [(0,2)])],[.d, .d, .o]⟩),(.ret,⟨[(2, .s K1 [])],[.d, .d]⟩)] [4] [] (.b (.m [(.normal,⟨[(3, .s K9 [(0,2)])],[.d, .d, .o]⟩)] [] [] .z (.b (.q .z (.q .z (.q .z (.q .z (.q .z (.q .z (.m [(.normal,⟨[(47, .s K3 [])],[.d, .d, .f]⟩)] [3] [2] .z .z)))))))))) .z))))) .z))
theorem ke_spec_PlanText:CK [e_spec_ItemOk,e_spec_ItemText] 0 ane_spec_PlanText Tryd.f7 e_spec_PlanText:=⟨⟨trivial,⟨trivial,⟨⟨trivial,⟨λ _ _=>rfl,λ _ _ _ _=>by kernel_rfl,⟨trivial,⟨⟨trivial,⟨trivial,⟨trivial,⟨trivial,⟨trivial,⟨trivial,⟨trivial,⟨trivial,trivial⟩⟩⟩⟩⟩⟩⟩⟩,trivial⟩⟩⟩⟩,trivial⟩⟩⟩,λ _=>by kernel_rfl⟩
end Go.Proofs.YtgekblgaooaclaaDoor
namespace Go.Proofs.YtgekblgaooaclaaDoor
open Go Go.Fm
set_option maxRecDepth 1000000
noncomputable def ane_impl_nameTag:An:=.z
theorem ke_impl_nameTag:CK [] 0 ane_impl_nameTag Tryd.f63 e_impl_nameTag:=⟨trivial,λ _=>by kernel_rfl⟩
noncomputable def ane_impl_letters:An:=.z
theorem ke_impl_letters:CK [] 0 ane_impl_letters Tryd.f111 e_impl_letters:=⟨trivial,λ _=>by kernel_rfl⟩
theorem fe_ibytealg_IndexByteString:ConOk Tryd.prog e_ibytealg_IndexByteString:=index_ok (fn:=Tryd.f87) Tryd.func87 (by kernel_rfl) (by kernel_rfl) (by kernel_rfl) (by kernel_rfl)
noncomputable def ane_istringslite_IndexByte:An:=.z
theorem ke_istringslite_IndexByte:CK [e_ibytealg_IndexByteString] 0 ane_istringslite_IndexByte Tryd.f73 e_istringslite_IndexByte:=⟨trivial,λ _=>by kernel_rfl⟩
noncomputable def ane_strings_IndexByte:An:=.z
theorem ke_strings_IndexByte:CK [e_istringslite_IndexByte] 0 ane_strings_IndexByte Tryd.f54 e_strings_IndexByte:=⟨trivial,λ _=>by kernel_rfl⟩
noncomputable def ane_impl_LetterOf:An:=.z
theorem ke_impl_LetterOf:CK [e_impl_letters,e_strings_IndexByte] 0 ane_impl_LetterOf Tryd.f93 e_impl_LetterOf:=⟨trivial,λ _=>by kernel_rfl⟩
noncomputable def ane_impl_within:An:=.z
theorem ke_impl_within:CK [] 0 ane_impl_within Tryd.f94 e_impl_within:=⟨trivial,λ _=>by kernel_rfl⟩
noncomputable def ane_impl_NameOk:An:=.q .z (.m [(.normal,⟨[],[]⟩),(.ret,⟨[(2, .s K3 [])],[]⟩)] [0] [] (.q .z (.b (.l ⟨[(0, .s K1 []),(5, .s K0 [])],[]⟩ ⟨[(6, .s K0 [])],[]⟩ [(.exit 0,⟨[],[]⟩),(.ret,⟨[(2, .s K3 [])],[]⟩)] (λ (s_1,v_4) k v_5=>g_impl_NameOk_l0 s_1 v_4 k v_5) .z))) .z)
theorem ke_impl_NameOk:CK [e_impl_LetterOf,e_impl_within] 0 ane_impl_NameOk Tryd.f80 e_impl_NameOk:=⟨⟨trivial,⟨⟨trivial,⟨λ _ _=>rfl,λ _ _ _ _=>by kernel_rfl,trivial⟩⟩,trivial⟩⟩,λ _=>by kernel_rfl⟩
end Go.Proofs.YtgekblgaooaclaaDoor
namespace Go.Proofs.YtgekblgaooaclaaDoor
open Go Go.Fm
set_option maxRecDepth 1000000
noncomputable def ane_impl_WidthOf:An:=.z
theorem ke_impl_WidthOf:CK [e_impl_within] 0 ane_impl_WidthOf Tryd.f95 e_impl_WidthOf:=⟨trivial,λ _=>by kernel_rfl⟩
noncomputable def ane_impl_BitsOf:An:=.z
theorem ke_impl_BitsOf:CK [e_impl_WidthOf] 0 ane_impl_BitsOf Tryd.f96 e_impl_BitsOf:=⟨trivial,λ _=>by kernel_rfl⟩
noncomputable def ane_impl_PackOne:An:=.q .z (.q .z (.q .z (.m [(.normal,⟨[(4, .s K4 []),(6, .s K0 [])],[]⟩)] [0,2,3] [] (.q .z (.b (.l ⟨[(0, .s K1 []),(2, .s K4 []),(3, .s K0 []),(13, .s K0 [])],[]⟩ ⟨[(4, .s K4 []),(5, .s K0 []),(6, .s K0 []),(14, .s K0 [])],[]⟩ [(.exit 0,⟨[(4, .s K4 []),(6, .s K0 [])],[]⟩)] (λ (s_1,_,_,v_9) k (field_10,left_11,many_12,v_13)=>g_impl_PackOne_l0 s_1 v_9 k field_10 left_11 many_12 v_13) .z))) .z)))
theorem ke_impl_PackOne:CK [e_impl_NameOk,e_impl_LetterOf,e_impl_WidthOf,e_impl_BitsOf] 0 ane_impl_PackOne Tryd.f81 e_impl_PackOne:=⟨⟨trivial,⟨trivial,⟨trivial,⟨⟨trivial,⟨λ _ _=>rfl,λ _ _ _ _=>by kernel_rfl,trivial⟩⟩,trivial⟩⟩⟩⟩,λ _=>by kernel_rfl⟩
noncomputable def ane_impl_Pack:An:=.q .z (.q .z (.q (.b (.l ⟨[(2, .c (.one (.emp)))],[.n, .n]⟩ ⟨[(0, .s K1 []),(3, .s K10 [(0,1)])],[.d, .o]⟩ [(.exit 0,⟨[(3, .s K10 [(0,1)])],[.d, .o]⟩)] (λ _ k (s_3,out_4)=>g_impl_Pack_l0 k s_3 out_4) .z)) .z))
theorem ke_impl_Pack:CK [e_impl_NameOk,e_impl_PackOne] 0 ane_impl_Pack Tryd.f64 e_impl_Pack:=⟨⟨trivial,⟨trivial,⟨⟨λ _ _=>rfl,λ _ _ _ _=>by kernel_rfl,trivial⟩,trivial⟩⟩⟩,λ _=>by kernel_rfl⟩
noncomputable def ane_impl_numberCells:An:=.q .z (.q .z (.m [(.normal,⟨[(9, .s K4 [])],[]⟩)] [0,1,2,3,8] [] .z (.q (.m [(.normal,⟨[(16, .s K3 [])],[]⟩)] [0,2,3,8,9] [] .z .z) .z)))
theorem ke_impl_numberCells:CK [] 0 ane_impl_numberCells Tryd.f65 e_impl_numberCells:=⟨⟨trivial,⟨trivial,⟨trivial,⟨⟨trivial,trivial⟩,trivial⟩⟩⟩⟩,λ _=>by kernel_rfl⟩
noncomputable def ane_impl_CellsOf:An:=.q .z (.q .z (.m [(.normal,⟨[],[.f]⟩),(.ret,⟨[(2, .s K10 [(0,1)])],[.f, .o]⟩)] [1] [0] (.b (.m [(.normal,⟨[(11, .s K3 [])],[.f]⟩)] [2,3] [] .z (.q (.q .z (.m [(.normal,⟨[(4, .s K10 [(0,2)])],[.f, .d, .o]⟩)] [2] [] (.q .z (.b (.l ⟨[(1, .c (.one (.ptr 0 0))),(2, .c (.one (.emp))),(26, .s K10 [(0,2)]),(27, .s K0 [])],[.v K5 [], .n, .o, .n]⟩ ⟨[(3, .s K4 []),(4, .s K10 [(0,3)]),(28, .s K0 [])],[.f, .d, .f, .o]⟩ [(.exit 1,⟨[(4, .s K10 [(0,3)])],[.f, .d, .f, .o]⟩)] (λ (v_8,v_9,_) k (tag_10,out_11,v_12)=>g_impl_CellsOf_l0 v_8 v_9 k tag_10 out_11 v_12) .z))) .z)) .z))) .z))
theorem ke_impl_CellsOf:CK [e_impl_nameTag,e_impl_Pack,e_impl_numberCells] 0 ane_impl_CellsOf Tryd.f37 e_impl_CellsOf:=⟨⟨trivial,⟨trivial,⟨⟨trivial,⟨⟨trivial,⟨⟨trivial,⟨λ _ _=>rfl,λ _ _ _ _=>by kernel_rfl,trivial⟩⟩,trivial⟩⟩,trivial⟩⟩,trivial⟩⟩⟩,λ _=>by kernel_rfl⟩
noncomputable def ane_impl_ItemOk:An:=.z
theorem ke_impl_ItemOk:CK [e_impl_CellsOf] 0 ane_impl_ItemOk Tryd.f15 e_impl_ItemOk:=⟨trivial,λ _=>by kernel_rfl⟩
noncomputable def ane_istrconv_small:An:=.z
theorem ke_istrconv_small:CK [] 0 ane_istrconv_small Tryd.f99 e_istrconv_small:=⟨trivial,λ _=>by kernel_rfl⟩
end Go.Proofs.YtgekblgaooaclaaDoor
namespace Go.Proofs.YtgekblgaooaclaaDoor
open Go Go.Fm
set_option maxRecDepth 1000000
noncomputable def ane_math_bits_Len64:An:=.q .z (.m [(.normal,⟨[(0, .s K12 []),(2, .s K0 [])],[]⟩)] [] [] .z (.m [(.normal,⟨[(0, .s K12 []),(2, .s K0 [])],[]⟩)] [] [] .z (.m [(.normal,⟨[(0, .s K12 []),(2, .s K0 [])],[]⟩)] [] [] .z .z)))
theorem ke_math_bits_Len64:CK [] 0 ane_math_bits_Len64 Tryd.f116 e_math_bits_Len64:=⟨⟨trivial,⟨trivial,⟨trivial,⟨trivial,trivial⟩⟩⟩⟩,λ _=>by kernel_rfl⟩
noncomputable def ane_istrconv_log10Pow2:An:=.z
theorem ke_istrconv_log10Pow2:CK [] 0 ane_istrconv_log10Pow2 Tryd.f115 e_istrconv_log10Pow2:=⟨trivial,λ _=>by kernel_rfl⟩
noncomputable def ane_istrconv_bool2_int:An:=.z
theorem ke_istrconv_bool2_int:CK [] 0 ane_istrconv_bool2_int Tryd.f117 e_istrconv_bool2_int:=⟨trivial,λ _=>by kernel_rfl⟩
noncomputable def ane_istrconv_numDigits:An:=.z
theorem ke_istrconv_numDigits:CK [e_math_bits_Len64,e_istrconv_log10Pow2,e_istrconv_bool2_int] 0 ane_istrconv_numDigits Tryd.f100 e_istrconv_numDigits:=⟨trivial,λ _=>by kernel_rfl⟩
noncomputable def ane_istrconv_isPowerOfTwo:An:=.z
theorem ke_istrconv_isPowerOfTwo:CK [] 0 ane_istrconv_isPowerOfTwo Tryd.f118 e_istrconv_isPowerOfTwo:=⟨trivial,λ _=>by kernel_rfl⟩
noncomputable def ane_math_bits_TrailingZeros64:An:=.z
theorem ke_math_bits_TrailingZeros64:CK [] 0 ane_math_bits_TrailingZeros64 Tryd.f126 e_math_bits_TrailingZeros64:=⟨trivial,λ _=>by kernel_rfl⟩
noncomputable def ane_math_bits_TrailingZeros:An:=.z
theorem ke_math_bits_TrailingZeros:CK [e_math_bits_TrailingZeros64] 0 ane_math_bits_TrailingZeros Tryd.f119 e_math_bits_TrailingZeros:=⟨trivial,λ _=>by kernel_rfl⟩
noncomputable def ane_istrconv_formatBits:An:=.q .z (.m [(.normal,⟨[],[]⟩)] [0,1,2,3,4,10,11] [] (.m [(.normal,⟨[(28, .s K3 [])],[]⟩)] [] [] .z .z) (.q .z (.q .z (.m [(.normal,⟨[(1, .s K12 [])],[.f]⟩)] [0,2,3,4,10,11,12,13] [0] .z (.m [(.normal,⟨[(13, .s K0 [])],[.r K8]⟩)] [0,2,3,4,10,11,12] [] (.q .z (.q (.q .z (.q .z (.q .z (.q (.b (.l ⟨[(0, .s K9 []),(2, .s K0 []),(3, .s K3 []),(4, .s K3 []),(10, .c (.one (.emp))),(11, .s K1 []),(12, .c (.one (.ptr 0 0))),(14, .s K12 []),(15, .s K12 []),(16, .s K12 [])],[.n]⟩ ⟨[(1, .s K12 []),(13, .s K0 [])],[.r K8]⟩ [(.exit 0,⟨[(1, .s K12 []),(13, .s K0 [])],[.r K8]⟩)] (λ (_,_,_,_,_,shift_14,b_15,m_16) k (u_17,i_18,p_19)=>g_istrconv_formatBits_l0 shift_14 b_15 m_16 k u_17 i_18 p_19) .z)) .z)))) (.q .z (.q (.b (.l ⟨[(0, .s K9 []),(2, .s K0 []),(3, .s K3 []),(4, .s K3 []),(10, .c (.one (.emp))),(11, .s K1 []),(12, .c (.one (.ptr 0 0))),(17, .s K12 [])],[.n]⟩ ⟨[(1, .s K12 []),(13, .s K0 [])],[.r K8]⟩ [(.exit 2,⟨[(1, .s K12 []),(13, .s K0 [])],[.r K8]⟩)] (λ (_,_,_,_,_,b_31) k (u_32,i_33,p_34)=>g_istrconv_formatBits_l1 b_31 k u_32 i_33 p_34) .z)) .z)))) (.m [(.normal,⟨[(13, .s K0 [])],[.r K8]⟩)] [0,3,4,10,11,12] [] .z .z))))))
theorem ke_istrconv_formatBits:CK [e_istrconv_isPowerOfTwo,e_math_bits_TrailingZeros] 0 ane_istrconv_formatBits Tryd.f102 e_istrconv_formatBits:=⟨⟨trivial,⟨⟨trivial,trivial⟩,⟨trivial,⟨trivial,⟨trivial,⟨⟨trivial,⟨⟨trivial,⟨trivial,⟨trivial,⟨⟨λ _ _=>rfl,λ _ _ _ _=>by kernel_rfl,trivial⟩,trivial⟩⟩⟩⟩,⟨trivial,⟨⟨λ _ _=>rfl,λ _ _ _ _=>by kernel_rfl,trivial⟩,trivial⟩⟩⟩⟩,⟨trivial,trivial⟩⟩⟩⟩⟩⟩⟩,λ _=>by kernel_rfl⟩
end Go.Proofs.YtgekblgaooaclaaDoor
namespace Go.Proofs.YtgekblgaooaclaaDoor
open Go Go.Fm
set_option maxRecDepth 1000000
noncomputable def ane_istrconv_FormatUint:An:=.z
theorem ke_istrconv_FormatUint:CK [e_istrconv_small,e_istrconv_numDigits,e_istrconv_formatBits] 0 ane_istrconv_FormatUint Tryd.f83 e_istrconv_FormatUint:=⟨trivial,λ _=>by kernel_rfl⟩
noncomputable def ane_strconv_FormatUint:An:=.z
theorem ke_strconv_FormatUint:CK [e_istrconv_FormatUint] 0 ane_strconv_FormatUint Tryd.f69 e_strconv_FormatUint:=⟨trivial,λ _=>by kernel_rfl⟩
noncomputable def ane_impl_HexText:An:=.z
theorem ke_impl_HexText:CK [e_strconv_FormatUint] 0 ane_impl_HexText Tryd.f46 e_impl_HexText:=⟨trivial,λ _=>by kernel_rfl⟩
theorem fe_strconv_Itoa:ConOk Tryd.prog e_strconv_Itoa:=itoa_ok (g:=1) itoaLays rfl (by kernel_rfl) (by rw[glob_1,show gtPow10=Go.Lib.pow10Tab from by kernel_rfl])
noncomputable def ane_impl_DecText:An:=.z
theorem ke_impl_DecText:CK [e_strconv_Itoa] 0 ane_impl_DecText Tryd.f70 e_impl_DecText:=⟨trivial,λ _=>by kernel_rfl⟩
noncomputable def ane_impl_digits:An:=.z
theorem ke_impl_digits:CK [e_impl_HexText,e_impl_DecText] 0 ane_impl_digits Tryd.f47 e_impl_digits:=⟨trivial,λ _=>by kernel_rfl⟩
noncomputable def ane_impl_mark:An:=.z
theorem ke_impl_mark:CK [] 0 ane_impl_mark Tryd.f48 e_impl_mark:=⟨trivial,λ _=>by kernel_rfl⟩
noncomputable def ane_impl_ItemText:An:=.z
theorem ke_impl_ItemText:CK [e_impl_ItemOk,e_impl_HexText,e_impl_digits,e_impl_mark] 0 ane_impl_ItemText Tryd.f24 e_impl_ItemText:=⟨trivial,λ _=>by kernel_rfl⟩
end Go.Proofs.YtgekblgaooaclaaDoor
namespace Go.Proofs.YtgekblgaooaclaaDoor
open Go Go.Fm
set_option maxRecDepth 1000000
theorem fe_strings_Join:ConOk Tryd.prog e_strings_Join:=joinS_ok joinLays joinX rfl
noncomputable def ane_impl_PlanText:An:=.q .z (.q .z (.m [(.normal,⟨[(3, .s K11 [(0,1)])],[.d, .o]⟩),(.ret,⟨[(2, .s K1 [])],[.d]⟩)] [0] [] (.q .z (.b (.l ⟨[(0, .s K7 []),(7, .s K7 []),(8, .s K0 [])],[.n, .n]⟩ ⟨[(3, .s K11 [(0,1)]),(9, .s K0 [])],[.d, .o]⟩ [(.exit 0,⟨[(3, .s K11 [(0,1)])],[.d, .o]⟩),(.ret,⟨[(2, .s K1 [])],[.d, .d]⟩)] (λ (_,v_5,v_6) k (parts_7,v_8)=>g_impl_PlanText_l0 v_5 v_6 k parts_7 v_8) (.q .z (.q .z (.m [(.normal,⟨[(3, .s K11 [(0,2)])],[.d, .d, .o]⟩),(.ret,⟨[(2, .s K1 [])],[.d, .d]⟩)] [9] [] (.b (.q .z (.b (.q .z (.q .z (.q .z (.q .z (.q .z (.q .z (.m [(.normal,⟨[(34, .s K3 [])],[.d, .f, .f]⟩)] [3,5] [1,2] .z .z)))))))))) .z)))))) .z))
theorem ke_impl_PlanText:CK [e_impl_ItemOk,e_impl_ItemText,e_strings_Join] 0 ane_impl_PlanText Tryd.f9 e_impl_PlanText:=⟨⟨trivial,⟨trivial,⟨⟨trivial,⟨λ _ _=>rfl,λ _ _ _ _=>by kernel_rfl,⟨trivial,⟨trivial,⟨⟨trivial,⟨trivial,⟨trivial,⟨trivial,⟨trivial,⟨trivial,⟨trivial,⟨trivial,trivial⟩⟩⟩⟩⟩⟩⟩⟩,trivial⟩⟩⟩⟩⟩,trivial⟩⟩⟩,λ _=>by kernel_rfl⟩
noncomputable def ane_laws_eqItem:An:=.z
theorem ke_laws_eqItem:CK [] 0 ane_laws_eqItem Tryd.f38 e_laws_eqItem:=⟨trivial,λ _=>by kernel_rfl⟩
noncomputable def ane_laws_eqKey:An:=.z
theorem ke_laws_eqKey:CK [e_laws_eqItem] 0 ane_laws_eqKey Tryd.f26 e_laws_eqKey:=⟨trivial,λ _=>by kernel_rfl⟩
noncomputable def ane_laws_eqKeyS:An:=.q .z (.q .z (.m [(.normal,⟨[],[]⟩),(.ret,⟨[(4, .s K3 [])],[]⟩)] [0,1] [] (.q .z (.b (.l ⟨[(0, .s K7 []),(1, .s K7 [])],[]⟩ ⟨[(5, .s K0 [])],[]⟩ [(.exit 0,⟨[],[]⟩),(.ret,⟨[(4, .s K3 [])],[]⟩)] (λ (a_1,b_2) k i_5=>g_laws_eqKeyS_l0 a_1 b_2 k i_5) .z))) .z))
theorem ke_laws_eqKeyS:CK [e_laws_eqKey] 0 ane_laws_eqKeyS Tryd.f10 e_laws_eqKeyS:=⟨⟨trivial,⟨trivial,⟨⟨trivial,⟨λ _ _=>rfl,λ _ _ _ _=>by kernel_rfl,trivial⟩⟩,trivial⟩⟩⟩,λ _=>by kernel_rfl⟩
noncomputable def ane_laws_FnExactPlanText:An:=.z
theorem ke_laws_FnExactPlanText:CK [e_laws_szKeyS,e_laws_toKeyS,e_spec_PlanText,e_impl_PlanText,e_laws_eqKeyS] 0 ane_laws_FnExactPlanText Tryd.f3 e_laws_FnExactPlanText:=⟨trivial,λ _=>by kernel_rfl⟩
end Go.Proofs.YtgekblgaooaclaaDoor
namespace Go.Proofs.YtgekblgaooaclaaDoor
open Go Go.Fm
set_option maxRecDepth 1000000
theorem ce_laws_szItem:CO e_laws_szItem:=fnc (λ _=>con_nil) Tryd.func40 ke_laws_szItem (by kernel_rfl) (λ _=>by kernel_rfl) (λ _=>by kernel_rfl) rfl
theorem ce_laws_szKey:CO e_laws_szKey:=fnc (λ _=>con_cons ce_laws_szItem con_nil) Tryd.func20 ke_laws_szKey (by kernel_rfl) (λ _=>by kernel_rfl) (λ _=>by kernel_rfl) rfl
theorem ce_laws_szKeyS:CO e_laws_szKeyS:=fnc (λ _=>con_cons ce_laws_szKey con_nil) Tryd.func6 ke_laws_szKeyS (by kernel_rfl) (λ _=>by kernel_rfl) (λ _=>by kernel_rfl) rfl
theorem ce_laws_toItem:CO e_laws_toItem:=fnc (λ _=>con_nil) Tryd.func45 ke_laws_toItem (by kernel_rfl) (λ _=>by kernel_rfl) (λ _=>by kernel_rfl) rfl
theorem ce_laws_toKey:CO e_laws_toKey:=fnc (λ _=>con_cons ce_laws_toItem con_nil) Tryd.func23 ke_laws_toKey (by kernel_rfl) (λ _=>by kernel_rfl) (λ _=>by kernel_rfl) rfl
theorem ce_laws_toKeyS:CO e_laws_toKeyS:=fnc (λ _=>con_cons ce_laws_toKey con_nil) Tryd.func8 ke_laws_toKeyS (by kernel_rfl) (λ _=>by kernel_rfl) (λ _=>by kernel_rfl) rfl
theorem ce_spec_l04Num:CO e_spec_l04Num:=fnc (λ _=>con_nil) Tryd.func66 ke_spec_l04Num (by kernel_rfl) (λ _=>by kernel_rfl) (λ _=>by kernel_rfl) rfl
theorem ce_spec_l01In:CO e_spec_l01In:=fnc (λ _=>con_nil) Tryd.func79 ke_spec_l01In (by kernel_rfl) (λ _=>by kernel_rfl) (λ _=>by kernel_rfl) rfl
theorem ce_spec_l02All:CO e_spec_l02All:=fnc (λ _=>con_nil) Tryd.func124 ke_spec_l02All (by kernel_rfl) (λ _=>by kernel_rfl) (λ _=>by kernel_rfl) rfl
theorem ce_spec_LetterOf:CO e_spec_LetterOf:=fnc (λ _=>con_cons ce_spec_l02All con_nil) Tryd.func112 ke_spec_LetterOf (by kernel_rfl) (λ _=>by kernel_rfl) (λ _=>by kernel_rfl) rfl
theorem ce_spec_NameOk:CO e_spec_NameOk:=fnc (λ _=>con_cons ce_spec_l01In (con_cons ce_spec_LetterOf con_nil)) Tryd.func97 ke_spec_NameOk (by kernel_rfl) (λ _=>by kernel_rfl) (λ _=>by kernel_rfl) rfl
theorem ce_spec_WidthOf:CO e_spec_WidthOf:=fnc (λ _=>con_cons ce_spec_l01In con_nil) Tryd.func113 ke_spec_WidthOf (by kernel_rfl) (λ _=>by kernel_rfl) (λ _=>by kernel_rfl) rfl
theorem ce_spec_BitsOf:CO e_spec_BitsOf:=fnc (λ _=>con_cons ce_spec_WidthOf con_nil) Tryd.func114 ke_spec_BitsOf (by kernel_rfl) (λ _=>by kernel_rfl) (λ _=>by kernel_rfl) rfl
theorem ce_spec_l03One:CO e_spec_l03One:=fnc (λ _=>con_cons ce_spec_LetterOf (con_cons ce_spec_WidthOf (con_cons ce_spec_BitsOf con_nil))) Tryd.func98 ke_spec_l03One (by kernel_rfl) (λ _=>by kernel_rfl) (λ _=>by kernel_rfl) rfl
theorem ce_spec_Pack:CO e_spec_Pack:=fnc (λ _=>con_cons ce_spec_NameOk (con_cons ce_spec_l03One con_nil)) Tryd.func82 ke_spec_Pack (by kernel_rfl) (λ _=>by kernel_rfl) (λ _=>by kernel_rfl) rfl
theorem ce_spec_l04Word:CO e_spec_l04Word:=fnc (λ _=>con_cons ce_spec_Pack con_nil) Tryd.func67 ke_spec_l04Word (by kernel_rfl) (λ _=>by kernel_rfl) (λ _=>by kernel_rfl) rfl
theorem ce_spec_l04Tag:CO e_spec_l04Tag:=fnc (λ _=>con_nil) Tryd.func68 ke_spec_l04Tag (by kernel_rfl) (λ _=>by kernel_rfl) (λ _=>by kernel_rfl) rfl
theorem ce_spec_CellsOf:CO e_spec_CellsOf:=fnc (λ _=>con_cons ce_spec_l04Num (con_cons ce_spec_l04Word (con_cons ce_spec_l04Tag con_nil))) Tryd.func41 ke_spec_CellsOf (by kernel_rfl) (λ _=>by kernel_rfl) (λ _=>by kernel_rfl) rfl
theorem ce_spec_ItemOk:CO e_spec_ItemOk:=fnc (λ _=>con_cons ce_spec_CellsOf con_nil) Tryd.func21 ke_spec_ItemOk (by kernel_rfl) (λ _=>by kernel_rfl) (λ _=>by kernel_rfl) rfl
theorem ce_spec_l06Mark:CO e_spec_l06Mark:=fnc (λ _=>con_nil) Tryd.func42 ke_spec_l06Mark (by kernel_rfl) (λ _=>by kernel_rfl) (λ _=>by kernel_rfl) rfl
theorem ce_spec_HexText:CO e_spec_HexText:=fnc (λ _=>con_nil) Tryd.func43 ke_spec_HexText (by kernel_rfl) (λ _=>by kernel_rfl) (λ _=>by kernel_rfl) rfl
theorem ce_spec_DecText:CO e_spec_DecText:=fnc (λ _=>con_nil) Tryd.func44 ke_spec_DecText (by kernel_rfl) (λ _=>by kernel_rfl) (λ _=>by kernel_rfl) rfl
theorem ce_spec_ItemText:CO e_spec_ItemText:=fnc (λ _=>con_cons ce_spec_ItemOk (con_cons ce_spec_l06Mark (con_cons ce_spec_HexText (con_cons ce_spec_DecText con_nil)))) Tryd.func22 ke_spec_ItemText (by kernel_rfl) (λ _=>by kernel_rfl) (λ _=>by kernel_rfl) rfl
theorem ce_spec_PlanText:CO e_spec_PlanText:=fnc (λ _=>con_cons ce_spec_ItemOk (con_cons ce_spec_ItemText con_nil)) Tryd.func7 ke_spec_PlanText (by kernel_rfl) (λ _=>by kernel_rfl) (λ _=>by kernel_rfl) rfl
theorem ce_impl_nameTag:CO e_impl_nameTag:=fnc (λ _=>con_nil) Tryd.func63 ke_impl_nameTag (by kernel_rfl) (λ _=>by kernel_rfl) (λ _=>by kernel_rfl) rfl
theorem ce_impl_letters:CO e_impl_letters:=fnc (λ _=>con_nil) Tryd.func111 ke_impl_letters (by kernel_rfl) (λ _=>by kernel_rfl) (λ _=>by kernel_rfl) rfl
theorem ce_ibytealg_IndexByteString:ConOk Tryd.prog e_ibytealg_IndexByteString:=fe_ibytealg_IndexByteString
theorem ce_istringslite_IndexByte:CO e_istringslite_IndexByte:=fnc (λ _=>con_cons ce_ibytealg_IndexByteString con_nil) Tryd.func73 ke_istringslite_IndexByte (by kernel_rfl) (λ _=>by kernel_rfl) (λ _=>by kernel_rfl) rfl
theorem ce_strings_IndexByte:CO e_strings_IndexByte:=fnc (λ _=>con_cons ce_istringslite_IndexByte con_nil) Tryd.func54 ke_strings_IndexByte (by kernel_rfl) (λ _=>by kernel_rfl) (λ _=>by kernel_rfl) rfl
theorem ce_impl_LetterOf:CO e_impl_LetterOf:=fnc (λ _=>con_cons ce_impl_letters (con_cons ce_strings_IndexByte con_nil)) Tryd.func93 ke_impl_LetterOf (by kernel_rfl) (λ _=>by kernel_rfl) (λ _=>by kernel_rfl) rfl
theorem ce_impl_within:CO e_impl_within:=fnc (λ _=>con_nil) Tryd.func94 ke_impl_within (by kernel_rfl) (λ _=>by kernel_rfl) (λ _=>by kernel_rfl) rfl
theorem ce_impl_NameOk:CO e_impl_NameOk:=fnc (λ _=>con_cons ce_impl_LetterOf (con_cons ce_impl_within con_nil)) Tryd.func80 ke_impl_NameOk (by kernel_rfl) (λ _=>by kernel_rfl) (λ _=>by kernel_rfl) rfl
theorem ce_impl_WidthOf:CO e_impl_WidthOf:=fnc (λ _=>con_cons ce_impl_within con_nil) Tryd.func95 ke_impl_WidthOf (by kernel_rfl) (λ _=>by kernel_rfl) (λ _=>by kernel_rfl) rfl
theorem ce_impl_BitsOf:CO e_impl_BitsOf:=fnc (λ _=>con_cons ce_impl_WidthOf con_nil) Tryd.func96 ke_impl_BitsOf (by kernel_rfl) (λ _=>by kernel_rfl) (λ _=>by kernel_rfl) rfl
theorem ce_impl_PackOne:CO e_impl_PackOne:=fnc (λ _=>con_cons ce_impl_NameOk (con_cons ce_impl_LetterOf (con_cons ce_impl_WidthOf (con_cons ce_impl_BitsOf con_nil)))) Tryd.func81 ke_impl_PackOne (by kernel_rfl) (λ _=>by kernel_rfl) (λ _=>by kernel_rfl) rfl
theorem ce_impl_Pack:CO e_impl_Pack:=fnc (λ _=>con_cons ce_impl_NameOk (con_cons ce_impl_PackOne con_nil)) Tryd.func64 ke_impl_Pack (by kernel_rfl) (λ _=>by kernel_rfl) (λ _=>by kernel_rfl) rfl
theorem ce_impl_numberCells:CO e_impl_numberCells:=fnc (λ _=>con_nil) Tryd.func65 ke_impl_numberCells (by kernel_rfl) (λ _=>by kernel_rfl) (λ _=>by kernel_rfl) rfl
theorem ce_impl_CellsOf:CO e_impl_CellsOf:=fnc (λ _=>con_cons ce_impl_nameTag (con_cons ce_impl_Pack (con_cons ce_impl_numberCells con_nil))) Tryd.func37 ke_impl_CellsOf (by kernel_rfl) (λ _=>by kernel_rfl) (λ _=>by kernel_rfl) rfl
theorem ce_impl_ItemOk:CO e_impl_ItemOk:=fnc (λ _=>con_cons ce_impl_CellsOf con_nil) Tryd.func15 ke_impl_ItemOk (by kernel_rfl) (λ _=>by kernel_rfl) (λ _=>by kernel_rfl) rfl
theorem ce_istrconv_small:CO e_istrconv_small:=fnc (λ _=>con_nil) Tryd.func99 ke_istrconv_small (by kernel_rfl) (λ _=>by kernel_rfl) (λ _=>by kernel_rfl) rfl
theorem ce_math_bits_Len64:CO e_math_bits_Len64:=fnc (λ _=>con_nil) Tryd.func116 ke_math_bits_Len64 (by kernel_rfl) (λ _=>by kernel_rfl) (λ _=>by kernel_rfl) rfl
theorem ce_istrconv_log10Pow2:CO e_istrconv_log10Pow2:=fnc (λ _=>con_nil) Tryd.func115 ke_istrconv_log10Pow2 (by kernel_rfl) (λ _=>by kernel_rfl) (λ _=>by kernel_rfl) rfl
theorem ce_istrconv_bool2_int:CO e_istrconv_bool2_int:=fnc (λ _=>con_nil) Tryd.func117 ke_istrconv_bool2_int (by kernel_rfl) (λ _=>by kernel_rfl) (λ _=>by kernel_rfl) rfl
theorem ce_istrconv_numDigits:CO e_istrconv_numDigits:=fnc (λ _=>con_cons ce_math_bits_Len64 (con_cons ce_istrconv_log10Pow2 (con_cons ce_istrconv_bool2_int con_nil))) Tryd.func100 ke_istrconv_numDigits (by kernel_rfl) (λ _=>by kernel_rfl) (λ _=>by kernel_rfl) rfl
theorem ce_istrconv_isPowerOfTwo:CO e_istrconv_isPowerOfTwo:=fnc (λ _=>con_nil) Tryd.func118 ke_istrconv_isPowerOfTwo (by kernel_rfl) (λ _=>by kernel_rfl) (λ _=>by kernel_rfl) rfl
theorem ce_math_bits_TrailingZeros64:CO e_math_bits_TrailingZeros64:=fnc (λ _=>con_nil) Tryd.func126 ke_math_bits_TrailingZeros64 (by kernel_rfl) (λ _=>by kernel_rfl) (λ _=>by kernel_rfl) rfl
theorem ce_math_bits_TrailingZeros:CO e_math_bits_TrailingZeros:=fnc (λ _=>con_cons ce_math_bits_TrailingZeros64 con_nil) Tryd.func119 ke_math_bits_TrailingZeros (by kernel_rfl) (λ _=>by kernel_rfl) (λ _=>by kernel_rfl) rfl
theorem ce_istrconv_formatBits:CO e_istrconv_formatBits:=fnc (λ _=>con_cons ce_istrconv_isPowerOfTwo (con_cons ce_math_bits_TrailingZeros con_nil)) Tryd.func102 ke_istrconv_formatBits (by kernel_rfl) (λ _=>by kernel_rfl) (λ _=>by kernel_rfl) rfl
theorem ce_istrconv_FormatUint:CO e_istrconv_FormatUint:=fnc (λ _=>con_cons ce_istrconv_small (con_cons ce_istrconv_numDigits (con_cons ce_istrconv_formatBits con_nil))) Tryd.func83 ke_istrconv_FormatUint (by kernel_rfl) (λ _=>by kernel_rfl) (λ _=>by kernel_rfl) rfl
theorem ce_strconv_FormatUint:CO e_strconv_FormatUint:=fnc (λ _=>con_cons ce_istrconv_FormatUint con_nil) Tryd.func69 ke_strconv_FormatUint (by kernel_rfl) (λ _=>by kernel_rfl) (λ _=>by kernel_rfl) rfl
theorem ce_impl_HexText:CO e_impl_HexText:=fnc (λ _=>con_cons ce_strconv_FormatUint con_nil) Tryd.func46 ke_impl_HexText (by kernel_rfl) (λ _=>by kernel_rfl) (λ _=>by kernel_rfl) rfl
theorem ce_strconv_Itoa:ConOk Tryd.prog e_strconv_Itoa:=fe_strconv_Itoa
theorem ce_impl_DecText:CO e_impl_DecText:=fnc (λ _=>con_cons ce_strconv_Itoa con_nil) Tryd.func70 ke_impl_DecText (by kernel_rfl) (λ _=>by kernel_rfl) (λ _=>by kernel_rfl) rfl
theorem ce_impl_digits:CO e_impl_digits:=fnc (λ _=>con_cons ce_impl_HexText (con_cons ce_impl_DecText con_nil)) Tryd.func47 ke_impl_digits (by kernel_rfl) (λ _=>by kernel_rfl) (λ _=>by kernel_rfl) rfl
theorem ce_impl_mark:CO e_impl_mark:=fnc (λ _=>con_nil) Tryd.func48 ke_impl_mark (by kernel_rfl) (λ _=>by kernel_rfl) (λ _=>by kernel_rfl) rfl
theorem ce_impl_ItemText:CO e_impl_ItemText:=fnc (λ _=>con_cons ce_impl_ItemOk (con_cons ce_impl_HexText (con_cons ce_impl_digits (con_cons ce_impl_mark con_nil)))) Tryd.func24 ke_impl_ItemText (by kernel_rfl) (λ _=>by kernel_rfl) (λ _=>by kernel_rfl) rfl
theorem ce_strings_Join:ConOk Tryd.prog e_strings_Join:=fe_strings_Join
theorem ce_impl_PlanText:CO e_impl_PlanText:=fnc (λ _=>con_cons ce_impl_ItemOk (con_cons ce_impl_ItemText (con_cons ce_strings_Join con_nil))) Tryd.func9 ke_impl_PlanText (by kernel_rfl) (λ _=>by kernel_rfl) (λ _=>by kernel_rfl) rfl
theorem ce_laws_eqItem:CO e_laws_eqItem:=fnc (λ _=>con_nil) Tryd.func38 ke_laws_eqItem (by kernel_rfl) (λ _=>by kernel_rfl) (λ _=>by kernel_rfl) rfl
theorem ce_laws_eqKey:CO e_laws_eqKey:=fnc (λ _=>con_cons ce_laws_eqItem con_nil) Tryd.func26 ke_laws_eqKey (by kernel_rfl) (λ _=>by kernel_rfl) (λ _=>by kernel_rfl) rfl
theorem ce_laws_eqKeyS:CO e_laws_eqKeyS:=fnc (λ _=>con_cons ce_laws_eqKey con_nil) Tryd.func10 ke_laws_eqKeyS (by kernel_rfl) (λ _=>by kernel_rfl) (λ _=>by kernel_rfl) rfl
theorem ce_laws_FnExactPlanText:CO e_laws_FnExactPlanText:=fnc (λ _=>con_cons ce_laws_szKeyS (con_cons ce_laws_toKeyS (con_cons ce_spec_PlanText (con_cons ce_impl_PlanText (con_cons ce_laws_eqKeyS con_nil))))) Tryd.func3 ke_laws_FnExactPlanText (by kernel_rfl) (λ _=>by kernel_rfl) (λ _=>by kernel_rfl) rfl
end Go.Proofs.YtgekblgaooaclaaDoor

namespace Go.Fm
theorem wI64 {x:Int} (h1 : -9223372036854775808<=x) (h2:x < 9223372036854775808):IntKind.wrap .i64 x=x:=by
 simp[IntKind.wrap,IntKind.bits,IntKind.signed];omega
theorem wU32 {x:Int} (h1:0<=x) (h2:x < 4294967296):IntKind.wrap .u32 x=x:=by
 simp[IntKind.wrap,IntKind.bits,IntKind.signed];omega
theorem wU64 {x:Int} (h1:0<=x) (h2:x < 18446744073709551616):IntKind.wrap .u64 x=x:=by
 simp[IntKind.wrap,IntKind.bits,IntKind.signed];omega
theorem wU32_bd (x:Int):0<=IntKind.wrap .u32 x/\IntKind.wrap .u32 x < 4294967296:=by
 simp[IntKind.wrap,IntKind.bits,IntKind.signed];omega
theorem wI64_bd (x:Int) : -9223372036854775808<=IntKind.wrap .i64 x/\IntKind.wrap .i64 x < 9223372036854775808:=by
 simp[IntKind.wrap,IntKind.bits,IntKind.signed];omega
theorem getI_ex {α:Type} {xs:List α} {i:Int} (h0:0<=i) (h1:i < xs.length):∃ x,getI xs i=some x/\x ∈ xs/\xs[i.toNat]? = some x:=by
 have hi:i.toNat < xs.length:=by omega
 unfold getI
 rw[if_pos h0,List.getElem?_eq_getElem hi]
 exact ⟨_,rfl,List.getElem_mem hi,rfl⟩
theorem getI_nat {α:Type} {xs:List α} {i:Nat}:getI xs (i:Int)=xs[i]? := by
 unfold getI;rw[if_pos (Int.natCast_nonneg i)];rfl
theorem idxS_ex {l:List UInt8} {i:Int} (h0:0<=i) (h1:i < l.length):∃ v,idxS l i=some v/\0<=v/\v < 256/\∃ b ∈ l,v=(b.toNat:Int):=by
 unfold idxS
 rw[if_pos ⟨h0,h1⟩]
 have hi:i.toNat < l.length:=by omega
 refine ⟨_,rfl,Int.natCast_nonneg _,?_,l[i.toNat],List.getElem_mem hi,?_⟩
 ·have:=UInt8.toNat_lt (l.getD i.toNat 0);omega
 ·rw[List.getD_eq_getElem?_getD,List.getElem?_eq_getElem hi];rfl
theorem app_eq {α:Type} {xs ys:List α} (h:xs.length+ys.length<=4294967296):app xs ys=some (xs++ys):=by
 unfold app
 rw[if_pos (by rw[List.length_append];exact h)]
theorem subL_eq {α:Type} {xs:List α} {a b:Int} (h0:0<=a) (h1:a<=b) (h2:b<=xs.length):subL xs a b=some ((xs.drop a.toNat).take (b.toNat-a.toNat)):=by
 unfold subL;rw[if_pos ⟨h0,h1,h2⟩]
theorem subL_drop {α:Type} {xs:List α} {a:Int} (h0:0<=a) (h2:a<=xs.length):subL xs a xs.length=some (xs.drop a.toNat):=by
 rw[subL_eq h0 h2 (Int.le_refl _),List.take_of_length_le]
 rw[List.length_drop];omega
theorem mk_eq {α:Type} {z:α} {n:Int} (h0:0<=n) (h1:n<=4294967296):mk z n=some (List.replicate n.toNat z):=by
 unfold mk;rw[if_pos ⟨h0,h1⟩]
theorem catS_eq {a b:List UInt8} (h:a.length+b.length < 4611686018427387904):catS a b=some (a++b):=by
 unfold catS;rw[if_pos h]
theorem bB_toNat {k:IntKind} {a:Int} (h0:0<=a) (h1:a < 2 ^ k.bits):(bytesB k a).toNat=a.toNat:=by
 unfold bytesB
 rw[BitVec.toNat_ofInt,Int.emod_eq_of_lt h0]
 simpa using h1
theorem wrap_small {k:IntKind} {n:Nat} (h:n < 2 ^ (k.bits-1)):k.wrap n=n:=by
 unfold IntKind.wrap
 have hb:2 ^ (k.bits-1)<=2 ^ k.bits:=Nat.pow_le_pow_right (by decide) (Nat.sub_le _ _)
 have h1:(n:Int) < ((2 ^ k.bits:Nat):Int):=Int.ofNat_lt.2 (Nat.lt_of_lt_of_le h hb)
 have h2:(n:Int) < ((2 ^ (k.bits-1):Nat):Int):=Int.ofNat_lt.2 h
 simp only[Int.natCast_pow,Int.cast_ofNat_Int]at h1 h2
 have e:(n:Int) % (2 ^ k.bits:Int)=n:=Int.emod_eq_of_lt (Int.natCast_nonneg _) h1
 simp only[e]
 rw[if_neg]
 intro hc
 rw[Bool.and_eq_true,decide_eq_true_eq]at hc
 have h3:=hc.2
 omega
def Tot {α:Type} (o:Option α) (Q:α->Prop):Prop:=∃ a,o=some a/\Q a
section
variable {α β:Type} {Q Q':α->Prop} {R:β->Prop}
theorem Tot.some {a:α} (h:Q a):Tot (some a) Q:=⟨a,rfl,h⟩
theorem Tot.bind {o:Option α} {f:α->Option β} (h:Tot o Q) (hf:∀ a,Q a->Tot (f a) R):Tot (o.bind f) R:=by
 obtain ⟨a,rfl,ha⟩:=h;exact hf a ha
theorem Tot.bindE {o:Option α} {f:α->Option β} {a:α} (h:o=.some a) (hf:Tot (f a) R):Tot (o.bind f) R:=by subst h;exact hf
theorem Tot.cond {c:Bool} {x y:Option α} (h1:c=true->Tot x Q) (h2:c=false->Tot y Q):Tot (cond c x y) Q:=by
 cases c with
 | true=>exact h1 rfl
 | false=>exact h2 rfl
theorem Tot.condD {p:Prop} [Decidable p] {x y:Option α} (h1:p->Tot x Q) (h2:¬ p->Tot y Q):Tot (_root_.cond (decide p) x y) Q :=
 .cond (λ h=>h1 (of_decide_eq_true h)) (λ h=>h2 (of_decide_eq_false h))
theorem Tot.mono {o:Option α} (h:Tot o Q) (hq:∀ a,Q a->Q' a):Tot o Q':=by obtain ⟨a,e,ha⟩:=h;exact ⟨a,e,hq a ha⟩
end
end Go.Fm
namespace Go.Fm
theorem nxt {n:Nat} (h:n < 16777216):IntKind.wrap .i64 ((n:Int)+1)=((n+1:Nat):Int):=by rw[wI64 (by omega) (by omega)];omega
def allN {α:Type} (p:Nat->α->Bool):Nat->List α->Bool
 | _,[]=>true
 | n,x::r=>p n x&&allN p (n+1) r
theorem allN_const {α:Type} (p:α->Bool):∀ (n:Nat) (l:List α),allN (λ _=>p) n l=l.all p
 | n,[]=>rfl
 | n,x::r=>by simp only[allN,List.all_cons,allN_const p (n+1) r]
theorem allLoop {α β:Type} {L:List α} {bad:β} (p:Nat->α->Bool) (F:Nat->Int->Option (Unit ⊕ β)) (step:∀ (k n:Nat) (x:α),L[n]? = some x->n < L.length->F (k+1) n=cond (p n x) (F k ((n+1:Nat):Int)) (some (.inr bad)))
  (fin:∀ k n:Nat,L.length<=n->F (k+1) n=some (.inl ())) (hm:L.length<=16777216):F bigK 0=some (cond (allN p 0 L) (.inl ()) (.inr bad)):=by
 have key:∀ (k n:Nat),n<=L.length->L.length-n < k->F k n=some (cond (allN p n (L.drop n)) (.inl ()) (.inr bad)):=by
  intro k
  induction k with
  | zero=>intro n h0 h1;omega
  | succ k ih =>
   intro n h0 h1
   by_cases hn:n < L.length
   ·rw[step k n L[n] (List.getElem?_eq_getElem hn) hn,List.drop_eq_getElem_cons hn]
    show _=some (cond (p n L[n]&&allN p (n+1) (L.drop (n+1))) _ _)
    cases p n L[n] with
    | false=>rfl
    | true=>rw[cond_true,ih (n+1) (by omega) (by omega),Bool.true_and]
   ·rw[fin k n (by omega),List.drop_eq_nil_of_le (by omega)];rfl
 have:=key bigK 0 (Nat.zero_le _) (by unfold bigK;omega)
 rw[List.drop_zero]at this
 exact this
theorem eqList {α:Type} [DecidableEq α] {a b:List α} (F:Nat->Int->Option (Unit ⊕ Bool)) (g:Option Bool) (hg:g=cond ((a.length:Int) != (b.length:Int)) (some false) (((F bigK 0).bind λ o=>match o with | .inl ()=>some (.inl ()) | .inr v=>some (.inr v):Option (Unit ⊕ Bool)).bind λ o=>match o with | .inl ()=>some true | .inr v=>some v))
  (hF:∀ (k:Nat) (i:Int),F (k+1) i=cond (decide (i < (a.length:Int))) ((getI a i).bind λ x=>(getI b i).bind λ y=>cond (!decide (x=y)) (some (.inr false)) (F k (IntKind.wrap .i64 (i+1)))) (some (.inl ()))) (hm:a.length<=1048576):g=some (decide (a=b)):=by
 rw[hg]
 by_cases hl:a.length=b.length
 ·have key:∀ (k n:Nat),n<=a.length->a.length-n < k->F k n=some (if a.drop n=b.drop n then .inl () else .inr false):=by
   intro k
   induction k with
   | zero=>intro n h0 h1;omega
   | succ k ih =>
    intro n h0 h1
    rw[hF]
    by_cases hn:n < a.length
    ·have hn':n < b.length:=by omega
     rw[decide_eq_true (by omega),getI_nat,getI_nat,List.getElem?_eq_getElem hn,List.getElem?_eq_getElem hn',List.drop_eq_getElem_cons hn,List.drop_eq_getElem_cons hn']
     simp only[cond_true,Option.bind_some]
     by_cases he:a[n]=b[n]
     ·rw[decide_eq_true he,Bool.not_true,cond_false,wI64 (by omega) (by omega),show ((n:Int)+1)=((n+1:Nat):Int) by omega,ih (n+1) (by omega) (by omega),he]
      simp only[List.cons.injEq,true_and]
     ·rw[decide_eq_false he,Bool.not_false,cond_true,if_neg (λ h=>he (List.cons.inj h).1)]
    ·rw[decide_eq_false (by omega),cond_false,List.drop_eq_nil_of_le (by omega),List.drop_eq_nil_of_le (by omega),if_pos rfl]
  have:((a.length:Int) != (b.length:Int))=false:=by rw[hl];simp
  rw[this,cond_false]
  have h:=key bigK 0 (Nat.zero_le _) (by unfold bigK;omega)
  rw[show ((0:Nat):Int)=0 from rfl]at h
  rw[h]
  by_cases he:a=b
  ·simp[he]
  ·simp[he]
 ·have:((a.length:Int) != (b.length:Int))=true:=by simp;omega
  rw[this,cond_true,decide_eq_false (λ h=>hl (by rw[h]))]
theorem copyM {α:Type} {a:List α} (F:Nat->List α->Int->Option (List α))
  (hs:∀ (k n:Nat) (out:List α) (x y:α),a[n]? = some x->n < a.length->out[n]? = some y->F (k+1) out n=F k (out.set n x) ((n+1:Nat):Int))
  (he:∀ (k n:Nat) (out:List α),a.length<=n->F (k+1) out n=some out) (hm:a.length<=16777216) {z:List α} (hz:z.length=a.length):F bigK z 0=some a:=by
 have key:∀ (k n:Nat) (rest:List α),n<=a.length->a.length-n < k->rest.length=a.length-n->F k (a.take n++rest) n=some a:=by
  intro k
  induction k with
  | zero=>intro n rest h0 h1;omega
  | succ k ih =>
   intro n rest h0 h1 h2
   by_cases hn:n < a.length
   ·cases rest with
    | nil=>simp at h2;omega
    | cons x r =>
     have hl:(a.take n).length=n:=by rw[List.length_take];omega
     rw[hs k n _ a[n] x (List.getElem?_eq_getElem hn) hn (by rw[List.getElem?_append_right (by omega),hl,Nat.sub_self];rfl)]
     have hset:(a.take n++x::r).set n a[n]=a.take (n+1)++r:=by
      rw[List.set_append_right _ _ (by omega),hl,Nat.sub_self,List.set_cons_zero,List.take_succ_eq_append_getElem hn,List.append_assoc]
      rfl
     rw[hset]
     exact ih (n+1) r (by omega) (by omega) (by simp at h2;omega)
   ·have hr:rest=[]:=List.length_eq_zero_iff.1 (by omega)
    rw[he k n _ (by omega),hr,List.append_nil,List.take_of_length_le (by omega)]
 have h:=key bigK 0 z (Nat.zero_le _) (by unfold bigK;omega) (by omega)
 rw[Int.natCast_zero,List.take_zero,List.nil_append]at h
 exact h
theorem copyLoop {α:Type} {a:List α} (F:Nat->List α->Int->Option (List α))
  (hs:∀ (k:Nat) (out:List α) (i:Int),F (k+1) out i=cond (decide (i < (a.length:Int))) ((getI a i).bind λ x=>(getI out i).bind λ _=>F k (out.set i.toNat x) (IntKind.wrap .i64 (i+1))) (some out))
  (hm:a.length<=16777216) {z:List α} (hz:z.length=a.length):F bigK z 0=some a:=by
 by_cases hb:a.length < 16777216
 ·exact copyM F (λ k n out x y hx hn hy=>by
   rw[hs,decide_eq_true (by omega),cond_true,getI_nat,hx]
   simp only[Option.bind_some]
   rw[getI_nat,hy,nxt (by omega)]
   rfl) (λ k n out hn=>by rw[hs,decide_eq_false (by omega),cond_false]) hm hz
 ·exact copyM F (λ k n out x y hx hn hy=>by
   rw[hs,decide_eq_true (by omega),cond_true,getI_nat,hx]
   simp only[Option.bind_some]
   rw[getI_nat,hy,nxt (by omega)]
   rfl) (λ k n out hn=>by rw[hs,decide_eq_false (by omega),cond_false]) hm hz
theorem eqRefl {α:Type} {a:List α} (F:Nat->Int->Option (Unit ⊕ Bool)) (f:Option Bool)
  (hf:f=cond ((a.length:Int) != (a.length:Int)) (some false) (((F bigK 0).bind λ o=>match o with | .inl ()=>some (.inl ()) | .inr v=>some (.inr v):Option (Unit ⊕ Bool)).bind λ o=>match o with | .inl ()=>some true | .inr v=>some v))
  (hs:∀ (k n:Nat) (x:α),a[n]? = some x->n < a.length->F (k+1) n=F k ((n+1:Nat):Int)) (he:∀ (k n:Nat),a.length<=n->F (k+1) n=some (.inl ())) (hm:a.length<=16777216):f=some true:=by
 have h:=allLoop (L:=a) (bad:=false) (λ _ _=>true) F (λ k n x hx hn=>by rw[hs k n x hx hn];rfl) he hm
 rw[hf,h]
 have e:∀ (n:Nat) (l:List α),allN (λ _ _=>true) n l=true:=λ n l=>by rw[allN_const (λ _=>true)];simp
 rw[e]
 simp
theorem bne_self' {α:Type} [BEq α] [LawfulBEq α] (x:α):(x != x)=false:=by simp
end Go.Fm
namespace Go.Proofs.YtgekblgaooaclaaDoor
open Go Go.Fm
set_option maxRecDepth 100000
end Go.Proofs.YtgekblgaooaclaaDoor
namespace Go.Proofs.YtgekblgaooaclaaDoor
open Go Go.Fm
theorem dec_len:∀ (k u:Nat),u < 10 ^ (k+1)->(Lib.decDigits u).length<=k+1:=by
 intro k
 induction k with
 | zero =>
  intro u h
  rw[Lib.decDigits,dif_pos (by omega)];simp
 | succ k ih =>
  intro u h
  rw[Lib.decDigits]
  split
  ·simp
  ·have:u / 10 < 10 ^ (k+1):=by rw[Nat.div_lt_iff_lt_mul (by omega)];rw[Nat.pow_succ]at h;omega
   have:=ih (u / 10) this
   simp;omega
theorem itoa_len {n:Int} (h0 : -9223372036854775808<=n) (h1:n<=9223372036854775807):(Lib.itoa n).length<=21:=by
 unfold Lib.itoa
 split
 ·have:=dec_len 19 n.natAbs (by omega)
  simp;omega
 ·have:=dec_len 19 n.toNat (by omega)
  omega
theorem impl_dec {n:Int} (h0 : -9223372036854775808<=n) (h1:n<=9223372036854775807):g_impl_DecText n=some (Lib.itoa n):=by
 unfold g_impl_DecText g_strconv_Itoa gItoa
 rw[decide_eq_true ⟨h0,h1⟩];rfl
theorem digit {d:Nat} (h:d < 10):subL ([48,49,50,51,52,53,54,55,56,57]:List UInt8) (d:Int) (IntKind.wrap .i64 ((d:Int)+1))=some [UInt8.ofNat (48+d)]:=by
 match d,h with
 | 0,_=>rfl
 | 1,_=>rfl
 | 2,_=>rfl
 | 3,_=>rfl
 | 4,_=>rfl
 | 5,_=>rfl
 | 6,_=>rfl
 | 7,_=>rfl
 | 8,_=>rfl
 | 9,_=>rfl
theorem tm10 (u:Nat):Int.tmod (u:Int) 10=((u % 10:Nat):Int):=(Int.ofNat_tmod u 10).symm
theorem td10 (u:Nat):Int.tdiv (u:Int) 10=((u / 10:Nat):Int):=(Int.ofNat_tdiv u 10).symm
theorem spec_loop:∀ (u k:Nat) (m:Int) (out:List UInt8),m.natAbs=u->u≠0->u<=9223372036854775808->u < k->out.length+(Lib.decDigits u).length<=1000->(m < 0\/u < 9223372036854775808) →
  g_spec_DecText_l0 k out m=some (Lib.decDigits u++out):=by
 intro u
 induction u using Nat.strongRecOn with
 | _ u ih =>
  intro k m out hm h0 h1 hk ho hr
  obtain ⟨k,rfl⟩:∃ k',k=k'+1:=⟨k-1,by omega⟩
  rw[g_spec_DecText_l0,show (m != 0)=true by simp;omega,cond_true]
  have hd:((cond (decide ((Int.tmod m 10) < 0)) (some (IntKind.wrap .i64 (0-(Int.tmod m 10)))) (some (Int.tmod m 10)):Option Int))=some ((u % 10:Nat):Int):=by
   have h2:Int.tmod m 10=if m < 0 then -((u % 10:Nat):Int) else ((u % 10:Nat):Int):=by
    split
    ·have:m = -(u:Int):=by omega
     rw[this,Int.neg_tmod,tm10]
    ·have:m=(u:Int):=by omega
     rw[this,tm10]
   rw[h2]
   by_cases hneg:m < 0
   ·rw[if_pos hneg]
    by_cases hz:u % 10=0
    ·rw[hz];rfl
    ·rw[decide_eq_true (by omega),cond_true,wI64 (by omega) (by omega)]
     congr 1;omega
   ·rw[if_neg hneg,decide_eq_false (by omega),cond_false]
  have hq:IntKind.wrap .i64 (Int.tdiv m 10)=if m < 0 then -((u / 10:Nat):Int) else ((u / 10:Nat):Int):=by
   split
   ·have:m = -(u:Int):=by omega
    rw[this,Int.neg_tdiv,td10,wI64 (by omega) (by omega)]
   ·have:m=(u:Int):=by omega
    rw[this,td10,wI64 (by omega) (by omega)]
  rw[hd,Option.bind_some,digit (Nat.mod_lt _ (by omega)),Option.bind_some,catS_eq (by simp;omega),Option.bind_some,hq]
  by_cases h10:u < 10
  ·obtain ⟨k,rfl⟩:∃ k',k=k'+1:=⟨k-1,by omega⟩
   rw[Lib.decDigits,dif_pos h10,Nat.div_eq_of_lt h10,Nat.mod_eq_of_lt h10]
   have:(if m < 0 then -((0:Nat):Int) else ((0:Nat):Int))=0:=by split<;>rfl
   rw[this,g_spec_DecText_l0]
   rfl
  ·have hlen:(Lib.decDigits u).length=(Lib.decDigits (u / 10)).length+1:=by
    rw[Lib.decDigits.eq_def u,dif_neg h10];simp
   rw[ih (u / 10) (by omega) k _ _ (by split<;>omega) (by omega) (by omega) (by omega) (by simp;omega) (by split<;>omega)]
   rw[Lib.decDigits.eq_def u,dif_neg h10]
   simp
theorem spec_dec {n:Int} (h0 : -9223372036854775808<=n) (h1:n<=9223372036854775807):g_spec_DecText n=some (Lib.itoa n):=by
 unfold g_spec_DecText
 by_cases hz:n=0
 ·subst hz
  have:Lib.itoa 0=[48]:=by
   unfold Lib.itoa
   rw[if_neg (by omega),Lib.decDigits];rfl
  rw[this];rfl
 ·rw[show (n==0)=false by simp[hz],cond_false,spec_loop n.natAbs bigK n [] rfl (by omega) (by omega) (by unfold bigK;omega) (by have:=dec_len 19 n.natAbs (by omega);simp;omega) (by omega),Option.bind_some]
  unfold Lib.itoa
  have:=dec_len 19 n.natAbs (by omega)
  by_cases hn:n < 0
  ·rw[decide_eq_true hn,cond_true,if_pos hn,catS_eq (by simp;omega)]
   simp
  ·rw[decide_eq_false hn,cond_false,if_neg hn,show n.toNat=n.natAbs by omega]
   simp
end Go.Proofs.YtgekblgaooaclaaDoor
namespace Go.Proofs.YtgekblgaooaclaaDoor
open Go Go.Fm
def U32 (xs:List Int):Prop:=∀ x ∈ xs,0<=x/\x < 4294967296
theorem U32.app {xs ys:List Int} (h1:U32 xs) (h2:U32 ys):U32 (xs++ys):=λ x hx=>by
 rcases List.mem_append.1 hx with h|h
 ·exact h1 x h
 ·exact h2 x h
theorem U32.one {x:Int} (h:0<=x/\x < 4294967296):U32 [x]:=λ y hy=>by simp at hy;subst hy;exact h
theorem U32.nil:U32 []:=λ x hx=>by simp at hx
theorem U32.set {xs:List Int} {x:Int} {i:Nat} (h1:U32 xs) (h:0<=x/\x < 4294967296):U32 (xs.set i x):=λ y hy=>by
 rcases List.mem_or_eq_of_mem_set hy with h2|h2
 ·exact h1 y h2
 ·subst h2;exact h
theorem specIn_eq {x a b:Int}:g_spec_l01In x a b=some (decide (a<=x/\x<=b)):=by
 unfold g_spec_l01In
 by_cases h:x ≥ a
 ·rw[decide_eq_true h]
  simp only[cond_true]
  congr 1
  exact decide_eq_decide.2 ⟨λ h2=>⟨h,h2⟩,λ h2=>h2.2⟩
 ·rw[decide_eq_false h]
  simp only[cond_false]
  congr 1
  exact (decide_eq_false λ h2=>h h2.1).symm
theorem specNum_ok {n:Int} {hex:Bool} {s l:Int}:Tot (g_spec_l04Num n hex s l) λ r=>U32 r/\r.length<=2:=by
 unfold g_spec_l04Num
 refine .bind (Q:=λ _=>True) (.cond (λ _=>.some trivial) λ _=>.some trivial) λ a _=>.bind (Q:=λ _=>True) (.condD (λ _=>.some trivial) λ _=>.some trivial) λ b _=>.cond (λ _=>.some ⟨.one (wU32_bd _),by simp⟩) λ _=>.some ⟨?_,by simp⟩
 exact (U32.one (wU32_bd _)).app (.one (wU32_bd _))
theorem specLetterOf_ok {b:Int}:Tot (g_spec_LetterOf b) λ r => -1<=r/\r<=47:=by
 unfold g_spec_LetterOf
 refine .bindE (a:=_) rfl ?_
 have key:∀ (k:Nat) (i:Int),0<=i->i<=48->48-i < k->Tot (g_spec_LetterOf_l0 b [32,114,116,111,101,97,110,105,115,109,99,121,108,103,102,119,100,118,112,98,104,120,117,113,48,49,50,51,52,53,54,55,56,57,106,45,107,46,122,47,59,39,33,43,64,42,44,63] k i)
   λ r=>match r with | .inl _=>True | .inr x=>0<=x/\x<=47:=by
  intro k
  induction k with
  | zero=>intro i h0 h1 h2;omega
  | succ k ih =>
   intro i h0 h1 h2
   unfold g_spec_LetterOf_l0
   refine .condD (λ hi => ?_) λ _=>.some trivial
   have hi:i < 48:=by simpa using hi
   obtain ⟨v,hv,_⟩:=idxS_ex (l:=[32,114,116,111,101,97,110,105,115,109,99,121,108,103,102,119,100,118,112,98,104,120,117,113,48,49,50,51,52,53,54,55,56,57,106,45,107,46,122,47,59,39,33,43,64,42,44,63]) h0 (by simpa using hi)
   refine .bindE hv (.cond (λ _=>.some ⟨h0,by omega⟩) λ _ => ?_)
   rw[wI64 (x:=i+1) (by omega) (by omega)]
   exact ih _ (by omega) (by omega) (by omega)
 refine .bind (Q:=λ r=>match r with | .inl _=>True | .inr x=>0<=x/\x<=47) (.bind (key bigK 0 (by decide) (by decide) (by decide)) λ o ho => ?_) λ o ho => ?_
 ·cases o with
  | inl _=>exact .some trivial
  | inr x=>exact .some ho
 ·cases o with
  | inl _=>exact .some ⟨by decide,by decide⟩
  | inr x=>exact .some ⟨by have:=ho.1;omega,ho.2⟩
theorem specNameOk_ok {s:Bs} (hs:s.length<=1048576):Tot (g_spec_NameOk s) λ r=>r=true->1<=s.length/\s.length<=24:=by
 unfold g_spec_NameOk
 refine .bindE specIn_eq (.cond (λ _=>.some λ h=>nomatch h) λ hc => ?_)
 have hl:1<=s.length/\s.length<=24:=by
  have:(1:Int)<=s.length/\(s.length:Int)<=24:=by simpa using hc
  omega
 have key:∀ (k:Nat) (i:Int),0<=i->i<=s.length->s.length-i < k->Tot (g_spec_NameOk_l0 s k i) λ _=>True:=by
  intro k
  induction k with
  | zero=>intro i h0 h1 h2;omega
  | succ k ih =>
   intro i h0 h1 h2
   unfold g_spec_NameOk_l0
   refine .condD (λ hi => ?_) λ _=>.some trivial
   obtain ⟨v,hv,_⟩:=idxS_ex h0 hi
   refine .bindE hv (.bind specLetterOf_ok λ x hx=>.condD (λ _=>.some trivial) λ _ => ?_)
   rw[wI64 (x:=i+1) (by omega) (by omega)]
   exact ih _ (by omega) (by omega) (by omega)
 refine .bind (Q:=λ _=>True) (.bind (key bigK 0 (by decide) (by omega) (by unfold bigK;omega)) λ o ho => ?_) λ o ho => ?_
 ·cases o<;>exact .some trivial
 ·cases o<;>exact .some λ _=>hl
theorem specWidth_ok {k:Int}:Tot (g_spec_WidthOf k) λ w=>0<=w/\w<=7:=by
 unfold g_spec_WidthOf
 exact .bindE specIn_eq (.cond (λ _=>.some (by decide)) λ _=>.bindE specIn_eq (.cond (λ _=>.some (by decide)) λ _=>.bindE specIn_eq (.cond (λ _=>.some (by decide)) λ _=>.some (by decide))))
theorem specBits_ok {k:Int}:Tot (g_spec_BitsOf k) λ w=>True:=by
 unfold g_spec_BitsOf
 exact .bind specWidth_ok λ _ _=>.cond (λ _=>.some trivial) λ _=>.cond (λ _=>.some trivial) λ _=>.cond (λ _=>.some trivial) λ _=>.some trivial
theorem shl_ok {k:IntKind} {a b:Int} (h:0<=b):Tot (shlI k a b) λ _=>True:=by unfold shlI;rw[if_pos h];exact .some trivial
theorem wU64_nn (x:Int):0<=IntKind.wrap .u64 x:=by simp[IntKind.wrap,IntKind.bits,IntKind.signed];omega
theorem specOne_ok {s:Bs} (hs:1<=s.length/\s.length<=24):Tot (g_spec_l03One s) λ r=>(0<=r.1/\r.1 < 4294967296)/\1<=r.2/\r.2<=s.length:=by
 unfold g_spec_l03One
 have key:∀ (k:Nat) (f left n:Int),0<=n->n<=s.length->0<=left->left<=28->(n=0->left=28)->s.length-n < k->Tot (g_spec_l03One_l0 s k f left n) λ r=>1<=r.2/\r.2<=s.length:=by
  intro k
  induction k with
  | zero=>intro f left n h0 h1 h2 h3 h4 h5;omega
  | succ k ih =>
   intro f left n h0 h1 h2 h3 h4 h5
   unfold g_spec_l03One_l0
   refine .condD (λ hi => ?_) λ hi=>.some ⟨by omega,by omega⟩
   obtain ⟨v,hv,_⟩:=idxS_ex h0 hi
   refine .bindE hv (.bind specLetterOf_ok λ x hx=>.bind specWidth_ok λ w hw=>.condD (λ hc=>.some ⟨?_,by omega⟩) λ hc=>.bind specBits_ok λ b _=>.bind (shl_ok (wU64_nn _)) λ d _ => ?_)
   ·by_cases hn:n=0
    ·have:=h4 hn;omega
    ·show 1<=n;omega
   ·rw[wI64 (x:=n+1) (by omega) (by omega),wI64 (x:=left-w) (by omega) (by omega)]
    exact ih _ _ _ (by omega) (by omega) (by omega) (by omega) (by omega) (by omega)
 exact .bind (key bigK 0 28 0 (by decide) (by omega) (by decide) (by decide) (λ _=>rfl) (by unfold bigK;omega)) λ r hr=>.some ⟨wU32_bd _,hr.1,hr.2⟩
theorem specPack_ok {s:Bs} (hs:s.length<=1048576):Tot (g_spec_Pack s) λ r=>U32 r/\r.length<=24:=by
 unfold g_spec_Pack
 refine .bind (specNameOk_ok hs) λ a ha=>.cond (λ _=>.some ⟨.nil,by simp⟩) λ hc => ?_
 have hl:=ha (by simpa using hc)
 have key:∀ (k:Nat) (x:Bs) (out:List Int),x.length<=24->U32 out->out.length+x.length<=24->x.length < k->Tot (g_spec_Pack_l0 k x out) λ r=>U32 r/\r.length<=24:=by
  intro k
  induction k with
  | zero=>intro x out h0 h1 h2 h3;omega
  | succ k ih =>
   intro x out h0 h1 h2 h3
   unfold g_spec_Pack_l0
   refine .cond (λ hx => ?_) λ _=>.some ⟨h1,by omega⟩
   have hx1:1<=x.length:=by
    have:x≠[]:=by simpa using hx
    have:=List.length_pos_iff.2 this
    omega
   refine .bind (specOne_ok ⟨hx1,h0⟩) λ r hr=>.bindE (app_eq (by simp;omega)) (.bindE (subL_drop (by omega) hr.2.2) ?_)
   have hd:(x.drop r.2.toNat).length=x.length-r.2.toNat:=List.length_drop
   exact ih _ _ (by omega) (h1.app (.one hr.1)) (by rw[List.length_append,hd,List.length_singleton];omega) (by omega)
 exact .bind (key bigK s [] hl.2 .nil (by simp;omega) (by unfold bigK;omega)) λ r hr=>.some hr
theorem specWord_ok {tag:Int} {s:Bs} (hs:s.length<=1048576):Tot (g_spec_l04Word tag s) λ r=>U32 r/\r.length<=24:=by
 unfold g_spec_l04Word
 refine .bind (specPack_ok hs) λ a ha => ?_
 have key:∀ (k:Nat) (out:List Int) (i:Int),U32 out->out.length<=24->0<=i->i<=out.length->out.length-i < k->Tot (g_spec_l04Word_l0 tag k out i) λ r=>U32 r/\r.length<=24:=by
  intro k
  induction k with
  | zero=>intro out i h0 h1 h2 h3 h4;omega
  | succ k ih =>
   intro out i h0 h1 h2 h3 h4
   unfold g_spec_l04Word_l0
   refine .condD (λ hi => ?_) λ _=>.some ⟨h0,h1⟩
   obtain ⟨v,hv,_⟩:=getI_ex h2 hi
   refine .bind (Q:=λ o=>U32 o/\o.length=out.length) (.bindE hv (.bindE hv (.cond (λ _ => ?_) λ _=>.some ⟨h0.set (wU32_bd _),by simp⟩))) λ o ho => ?_
   ·obtain ⟨u,hu,_⟩:=getI_ex (xs:=out.set i.toNat (IntKind.wrap .u32 (v*16))) h2 (by simpa using hi)
    exact .bindE hu (.bindE hu (.some ⟨(h0.set (wU32_bd _)).set (wU32_bd _),by simp⟩))
   ·rw[wI64 (x:=i+1) (by omega) (by omega)]
    exact ih _ _ ho.1 (by omega) (by omega) (by omega) (by omega)
 exact .bind (.bind (key bigK a 0 ha.1 ha.2 (by decide) (by omega) (by unfold bigK;omega)) λ r hr=>.some hr) λ r hr=>.some hr
end Go.Proofs.YtgekblgaooaclaaDoor
namespace Go.Proofs.YtgekblgaooaclaaDoor
open Go Go.Fm
theorem orU {a b:Int} (a0:0<=a) (a1:a < 4294967296) (b0:0<=b) (b1:b < 4294967296):orI .u32 a b=((a.toNat ||| b.toNat:Nat):Int):=by
 unfold orI
 rw[BitVec.toNat_or,bB_toNat (k:=.u32) a0 a1,bB_toNat (k:=.u32) b0 b1]
 have:a.toNat ||| b.toNat < 2 ^ 32:=Nat.or_lt_two_pow (by omega) (by omega)
 exact wU32 (Int.natCast_nonneg _) (by omega)
theorem or_low {q r:Nat} (i:Nat) (hr:r < 2 ^ i):(2 ^ i*q) ||| r=2 ^ i*q+r:=(Nat.two_pow_add_eq_or_of_lt hr q).symm
theorem within_eq {x a b:Int}:g_impl_within x a b=some (decide (a<=x/\x<=b)):=by
 unfold g_impl_within
 by_cases h:a<=x
 ·rw[decide_eq_true h]
  simp only[cond_true]
  congr 1
  exact decide_eq_decide.2 ⟨λ h2=>⟨h,h2⟩,λ h2=>h2.2⟩
 ·rw[decide_eq_false h]
  simp only[cond_false]
  congr 1
  exact (decide_eq_false λ h2=>h h2.1).symm
theorem width_ok {k:Int}:Tot (g_impl_WidthOf k) λ w=>0<=w/\w<=7/\(0<=k->k<=47->4<=w):=by
 unfold g_impl_WidthOf
 refine .bindE within_eq (.condD (λ _=>.some (by omega)) λ h1=>.bindE within_eq (.condD (λ _=>.some (by omega)) λ h2=>.bindE within_eq (.condD (λ _=>.some (by omega)) λ h3=>.some (by omega))))
theorem bits_ok {k:Int}:Tot (g_impl_BitsOf k) λ w=>True:=by
 unfold g_impl_BitsOf
 exact .bind width_ok λ _ _=>.cond (λ _=>.some trivial) λ _=>.cond (λ _=>.some trivial) λ _=>.cond (λ _=>.some trivial) λ _=>.some trivial
def Letters:Bs:=[32,114,116,111,101,97,110,105,115,109,99,121,108,103,102,119,100,118,112,98,104,120,117,113,48,49,50,51,52,53,54,55,56,57,106,45,107,46,122,47,59,39,33,43,64,42,44,63]
theorem letters_len:Letters.length=48:=rfl
theorem idxB_bd {l:List UInt8} {c:Int} : -1<=idxB l c/\idxB l c < l.length:=by
 unfold idxB
 cases h:l.findIdx? (λ b=>(b.toNat:Int)==c) with
 | none=>exact ⟨by decide,by show (-1:Int) < _;omega⟩
 | some i =>
  have:=(List.findIdx?_eq_some_iff_getElem.1 h).1
  exact ⟨by show (-1:Int)<=(i:Int);omega,by show (i:Int) < _;omega⟩
theorem letterOf_ok {b:Int} (h0:0<=b) (h1:b < 256):Tot (g_impl_LetterOf b) λ r => -1<=r/\r<=47:=by
 unfold g_impl_LetterOf g_strings_IndexByte g_istringslite_IndexByte g_ibytealg_IndexByteString gIdxB
 refine .bindE (a:=Letters) rfl (.bind (Q:=λ r => -1<=r/\r<=47) (.bind (Q:=λ r => -1<=r/\r<=47) ?_ λ r h=>.some h) λ r h=>.some h)
 refine .bind (Q:=λ r => -1<=r/\r<=47) ?_ λ r h=>.some h
 rw[if_pos ⟨h0,h1⟩]
 refine .some ⟨idxB_bd.1,?_⟩
 have:=(idxB_bd (l:=Letters) (c:=b)).2
 rw[letters_len]at this
 omega
theorem nameOk_ok {s:Bs} (hs:s.length<=1048576):Tot (g_impl_NameOk s) λ r=>r=true->1<=s.length/\s.length<=24:=by
 unfold g_impl_NameOk
 have key:∀ (k:Nat) (i:Int),0<=i->i<=s.length->s.length-i < k->Tot (g_impl_NameOk_l0 s (s.length:Int) k i) λ o=>match o with | .inl _=>True | .inr v=>v=false:=by
  intro k
  induction k with
  | zero=>intro i h0 h1 h2;omega
  | succ k ih =>
   intro i h0 h1 h2
   unfold g_impl_NameOk_l0
   refine .condD (λ hi => ?_) λ _=>.some trivial
   obtain ⟨v,hv,v0,v1,_⟩:=idxS_ex h0 hi
   refine .bindE hv (.bind (letterOf_ok v0 v1) λ x hx=>.condD (λ _=>.some rfl) λ _ => ?_)
   rw[wI64 (x:=i+1) (by omega) (by omega)]
   exact ih _ (by omega) (by omega) (by omega)
 refine .bind (Q:=λ o:Unit ⊕ Bool=>match o with | .inl _=>True | .inr v=>v=false) (.bind (key bigK 0 (by decide) (by omega) (by unfold bigK;omega)) λ o ho => ?_) λ o ho => ?_
 ·cases o with
  | inl _=>exact .some trivial
  | inr v=>exact .some ho
 ·cases o with
  | inl _=>exact .bindE within_eq (.some λ h=>by have:=of_decide_eq_true h;omega)
  | inr v=>exact .some λ h=>by rw[show v=false from ho]at h;cases h
theorem packOne_ok {s:Bs} (hs:s.length<=1048576):Tot (g_impl_PackOne s) λ r=>(0<=r.1/\r.1 < 4294967296)/\0<=r.2/\r.2<=s.length/\(g_impl_NameOk s=some true->1<=r.2):=by
 unfold g_impl_PackOne
 obtain ⟨b,hb,hl⟩:=nameOk_ok hs
 rw[hb]
 refine .bindE rfl (.cond (λ hc=>.some ⟨by decide,by decide,by show (0:Int)<=_;omega,λ h=>by cases h;cases hc⟩) λ hc => ?_)
 have hb1:b=true:=by simpa using hc
 have hs1:=hl hb1
 have key:∀ (k:Nat) (f left many n:Int),0<=n->n<=s.length->0<=left->left<=28->(n=0->left=28)->many=n->(0<=f/\f < 4294967296)->s.length-n < k →
   Tot (g_impl_PackOne_l0 s (s.length:Int) k f left many n) λ r=>(0<=r.1/\r.1 < 4294967296)/\1<=r.2/\r.2<=s.length:=by
  intro k
  induction k with
  | zero=>intro f left many n h0 h1 h2 h3 h4 h5 h6 h7;omega
  | succ k ih =>
   intro f left many n h0 h1 h2 h3 h4 h5 h6 h7
   unfold g_impl_PackOne_l0
   refine .condD (λ hi => ?_) λ hi=>.some ⟨h6,by show 1<=many;omega,by show many<=_;omega⟩
   obtain ⟨v,hv,v0,v1,_⟩:=idxS_ex h0 hi
   refine .bindE hv (.bind (letterOf_ok v0 v1) λ x hx => ?_)
   obtain ⟨w,hw,hw0,hw1,_⟩:=width_ok (k:=x)
   refine .bindE hw (.condD (λ hc=>.some ⟨h6,?_,by show many<=_;omega⟩) λ hc=>.bindE hw (.bind bits_ok λ b _ => ?_))
   ·show 1<=many
    by_cases hn:n=0
    ·have:=h4 hn;omega
    ·omega
   ·rw[wI64 (x:=n+1) (by omega) (by omega),wI64 (x:=left-w) (by omega) (by omega),wI64 (x:=many+1) (by omega) (by omega)]
    refine .bind (shl_ok (by omega)) λ d _=>ih _ _ _ _ (by omega) (by omega) (by omega) (by omega) (by omega) (by omega) (wU32_bd _) (by omega)
 refine .bind (Q:=λ r:Int×Int=>(0<=r.1/\r.1 < 4294967296)/\1<=r.2/\r.2<=s.length) (.bind (key bigK 0 28 0 0 (by decide) (by omega) (by decide) (by decide) (λ _=>rfl) rfl (by decide) (by unfold bigK;omega)) λ r hr=>.some hr) λ r hr=>.some ⟨hr.1,by have:=hr.2.1;show 0<=r.2;omega,hr.2.2,λ _=>hr.2.1⟩
theorem pack_ok {s:Bs} (hs:s.length<=1048576):Tot (g_impl_Pack s) λ r=>U32 r/\r.length<=24:=by
 unfold g_impl_Pack
 have key:∀ (k:Nat) (x:Bs) (out:List Int),x.length<=1048576->U32 out->(out=[]\/out.length+x.length<=24)->x.length < k->Tot (g_impl_Pack_l0 k x out) λ r=>U32 r/\r.length<=24:=by
  intro k
  induction k with
  | zero=>intro x out h0 h1 h2 h3;omega
  | succ k ih =>
   intro x out h0 h1 h2 h3
   unfold g_impl_Pack_l0
   obtain ⟨b,hb,hl⟩:=nameOk_ok h0
   have ho:out.length<=24:=by
    rcases h2 with rfl|h2
    ·simp
    ·omega
   refine .bindE hb (.cond (λ hc => ?_) λ _=>.some ⟨h1,ho⟩)
   subst hc
   have hx:=hl rfl
   have h2':out.length+x.length<=24:=by
    rcases h2 with rfl|h2
    ·simpa using hx.2
    ·exact h2
   refine .bind (packOne_ok h0) λ r hr=>.bindE (app_eq (by simp;omega)) (.bindE (subL_drop hr.2.1 hr.2.2.1) ?_)
   have h4:=hr.2.2.2 hb
   have hd:(x.drop r.2.toNat).length=x.length-r.2.toNat:=List.length_drop
   exact ih _ _ (by omega) (h1.app (.one hr.1)) (.inr (by rw[List.length_append,hd,List.length_singleton];omega)) (by omega)
 exact .bind (key bigK s [] hs .nil (.inl rfl) (by unfold bigK;omega)) λ r hr=>.some hr
end Go.Proofs.YtgekblgaooaclaaDoor
namespace Go.Proofs.YtgekblgaooaclaaDoor
open Go Go.Fm
theorem letterOf_all:(List.range 256).all (λ b=>g_spec_LetterOf (b:Int)==g_impl_LetterOf (b:Int))=true:=by kernel_rfl
theorem letterOf_eq {b:Int} (h0:0<=b) (h1:b < 256):g_spec_LetterOf b=g_impl_LetterOf b:=by
 have h:=List.all_eq_true.1 letterOf_all b.toNat (List.mem_range.2 (by omega))
 rw[Int.toNat_of_nonneg h0]at h
 exact eq_of_beq h
theorem width_eq {k:Int}:g_spec_WidthOf k=g_impl_WidthOf k:=by
 unfold g_spec_WidthOf g_impl_WidthOf;simp only[specIn_eq,within_eq,Option.bind_some]
theorem bits_all:(List.range 49).all (λ b=>g_spec_BitsOf ((b:Int)-1)==g_impl_BitsOf ((b:Int)-1))=true:=by kernel_rfl
theorem bits_eq {k:Int} (h0 : -1<=k) (h1:k<=47):g_spec_BitsOf k=g_impl_BitsOf k:=by
 have h:=List.all_eq_true.1 bits_all (k+1).toNat (List.mem_range.2 (by omega))
 rw[Int.toNat_of_nonneg (by omega),show k+1-1=k by omega]at h
 exact eq_of_beq h
theorem wb_all:(List.range 48).all (λ b=>match g_impl_WidthOf (b:Int),g_impl_BitsOf (b:Int) with|some w,some c=>decide (4<=w/\w<=7/\0<=c/\c < 2 ^ w.toNat)|_,_=>false)=true:=by kernel_rfl
theorem wb {k:Int} (h0:0<=k) (h1:k<=47):∃ w c,g_impl_WidthOf k=some w/\g_impl_BitsOf k=some c/\4<=w/\w<=7/\0<=c/\c < 2 ^ w.toNat:=by
 have h:=List.all_eq_true.1 wb_all k.toNat (List.mem_range.2 (by omega))
 rw[Int.toNat_of_nonneg h0]at h
 split at h
 ·rename_i w c hw hc;exact ⟨w,c,hw,hc,of_decide_eq_true h⟩
 ·cases h
theorem pw (n:Nat):(0:Int) < 2 ^ n:=Int.pow_pos (by decide)
theorem pwN (n:Nat):((2 ^ n:Nat):Int)=(2:Int) ^ n:=by simp
theorem pw_le {a b:Nat} (h:a<=b):(2:Int) ^ a<=2 ^ b:=by
 have:=Nat.pow_le_pow_right (n:=2) (by decide) h
 rw[<-pwN,<-pwN];omega
theorem shl_eq {k:IntKind} {a n:Int} (h0:0<=n) (h1:n<=32) (hk:32<=k.bits):shlI k a n=some (k.wrap (a*2 ^ n.toNat)):=by
 unfold shlI
 rw[if_pos h0,show min n.toNat k.bits=n.toNat by omega]
theorem and_mask {k:IntKind} {a:Int} {n:Nat} (h0:0<=a) (h1:a < 2 ^ k.bits) (hn:n < k.bits):andI k a (2 ^ n-1)=a % 2 ^ n:=by
 unfold andI
 have hp:=pw n
 have hb:(2:Int) ^ n-1 < 2 ^ k.bits:=by have:=pw_le (a:=n) (b:=k.bits) (by omega);omega
 rw[BitVec.toNat_and,bB_toNat h0 h1,bB_toNat (by omega) hb]
 have e:((2:Int) ^ n-1).toNat=2 ^ n-1:=by rw[<-pwN];omega
 rw[e,Nat.and_two_pow_sub_one_eq_mod,Go.Fm.wrap_small]
 ·rw[Int.natCast_emod,pwN,Int.toNat_of_nonneg h0]
 ·refine Nat.lt_of_lt_of_le (Nat.mod_lt _ (Nat.two_pow_pos n)) (Nat.pow_le_pow_right (by decide) (by omega))
def good (b:UInt8):Bool:=match g_impl_LetterOf (b.toNat:Int) with|some k=>decide (1<=k)|none=>false
theorem good_of {b:UInt8} {k:Int} (h:g_impl_LetterOf (b.toNat:Int)=some k):good b=decide (1<=k):=by unfold good;rw[h]
theorem idxS_nat {s:List UInt8} {n:Nat} (h:n < s.length):idxS s (n:Int)=some ((s[n].toNat:Nat):Int):=by
 unfold idxS
 rw[if_pos ⟨by omega,by omega⟩,Int.toNat_natCast,List.getD_eq_getElem?_getD,List.getElem?_eq_getElem h]
 rfl
theorem specNameOk_l0 {s:Bs} (hs:s.length<=1048576):∀ (k n:Nat),n<=s.length->s.length-n < k->g_spec_NameOk_l0 s k n=some (if (s.drop n).all good then .inl () else .inr false):=by
 intro k
 induction k with
 | zero=>intro n h0 h1;omega
 | succ k ih =>
  intro n h0 h1
  unfold g_spec_NameOk_l0
  by_cases hn:n < s.length
  ·have hb:=UInt8.toNat_lt s[n]
   obtain ⟨x,hx,x0,x1⟩:=letterOf_ok (b:=(s[n].toNat:Int)) (by omega) (by omega)
   rw[decide_eq_true (by omega),idxS_nat hn,List.drop_eq_getElem_cons hn,List.all_cons,good_of hx]
   simp only[cond_true,Option.bind_some,letterOf_eq (b:=(s[n].toNat:Int)) (by omega) (by omega),hx]
   by_cases hc:x < 1
   ·rw[decide_eq_true hc,decide_eq_false (p:=1<=x) (by omega)];rfl
   ·rw[decide_eq_false hc,decide_eq_true (p:=1<=x) (by omega),cond_false,wI64 (by omega) (by omega),show ((n:Int)+1)=((n+1:Nat):Int) by omega,ih (n+1) (by omega) (by omega),Bool.true_and]
  ·rw[decide_eq_false (by omega),List.drop_eq_nil_of_le (by omega)];rfl
theorem implNameOk_l0 {s:Bs} (hs:s.length<=1048576):∀ (k n:Nat),n<=s.length->s.length-n < k->g_impl_NameOk_l0 s (s.length:Int) k n=some (if (s.drop n).all good then .inl () else .inr false):=by
 intro k
 induction k with
 | zero=>intro n h0 h1;omega
 | succ k ih =>
  intro n h0 h1
  unfold g_impl_NameOk_l0
  by_cases hn:n < s.length
  ·have hb:=UInt8.toNat_lt s[n]
   obtain ⟨x,hx,x0,x1⟩:=letterOf_ok (b:=(s[n].toNat:Int)) (by omega) (by omega)
   rw[decide_eq_true (by omega),idxS_nat hn,List.drop_eq_getElem_cons hn,List.all_cons,good_of hx]
   simp only[cond_true,Option.bind_some,hx]
   by_cases hc:x < 1
   ·rw[decide_eq_true hc,decide_eq_false (p:=1<=x) (by omega)];rfl
   ·rw[decide_eq_false hc,decide_eq_true (p:=1<=x) (by omega),cond_false,wI64 (by omega) (by omega),show ((n:Int)+1)=((n+1:Nat):Int) by omega,ih (n+1) (by omega) (by omega),Bool.true_and]
  ·rw[decide_eq_false (by omega),List.drop_eq_nil_of_le (by omega)];rfl
def named (s:Bs):Bool:=s.all good&&decide (1<=s.length/\s.length<=24)
theorem implNameOk {s:Bs} (hs:s.length<=1048576):g_impl_NameOk s=some (named s):=by
 unfold g_impl_NameOk named
 have h:=implNameOk_l0 hs bigK 0 (Nat.zero_le _) (by unfold bigK;omega)
 rw[show ((0:Nat):Int)=0 from rfl]at h
 rw[h,List.drop_zero,within_eq]
 cases s.all good with
 | false=>rfl
 | true =>
  simp only[if_true,Option.bind_some,Bool.true_and]
  congr 1
  exact decide_eq_decide.2 (by omega)
theorem specNameOk {s:Bs} (hs:s.length<=1048576):g_spec_NameOk s=some (named s):=by
 unfold g_spec_NameOk named
 have h:=specNameOk_l0 hs bigK 0 (Nat.zero_le _) (by unfold bigK;omega)
 rw[show ((0:Nat):Int)=0 from rfl]at h
 rw[h,List.drop_zero,specIn_eq]
 have e:decide ((1:Int)<=s.length/\(s.length:Int)<=24)=decide (1<=s.length/\s.length<=24):=decide_eq_decide.2 (by omega)
 rw[e]
 cases decide (1<=s.length/\s.length<=24)<;>cases s.all good<;>rfl
theorem packOne_l0_eq {s:Bs} (hg:s.all good=true) (hs:s.length<=24):∀ (k:Nat) (q:Nat) (left n:Nat),n<=s.length->left<=28->q < 2 ^ (28-left) →
  g_spec_l03One_l0 s k ((2 ^ left*q:Nat):Int) left n=g_impl_PackOne_l0 s (s.length:Int) k ((2 ^ left*q:Nat):Int) left n n:=by
 intro k
 induction k with
 | zero=>intro q left n _ _ _;rfl
 | succ k ih =>
  intro q left n h0 h1 h2
  unfold g_spec_l03One_l0 g_impl_PackOne_l0
  by_cases hn:n < s.length
  ·have hb:=UInt8.toNat_lt s[n]
   obtain ⟨x,hx,x0,x1⟩:=letterOf_ok (b:=(s[n].toNat:Int)) (by omega) (by omega)
   have hgn:good s[n]=true:=List.all_eq_true.1 hg _ (List.getElem_mem hn)
   rw[good_of hx]at hgn
   have hx1:1<=x:=of_decide_eq_true hgn
   obtain ⟨w,c,hw,hc,w0,w1,c0,c1⟩:=wb (k:=x) (by omega) x1
   rw[decide_eq_true (by omega),idxS_nat hn]
   simp only[cond_true,Option.bind_some,letterOf_eq (b:=(s[n].toNat:Int)) (by omega) (by omega),hx,width_eq,hw,bits_eq (show -1<=x by omega) x1,hc]
   by_cases hl:w > (left:Int)
   ·rw[decide_eq_true hl];rfl
   ·rw[decide_eq_false hl]
    obtain ⟨W,rfl⟩:=Int.eq_ofNat_of_zero_le (show 0<=w by omega)
    obtain ⟨c',rfl⟩:=Int.eq_ofNat_of_zero_le c0
    simp only[Int.ofNat_eq_natCast,Int.toNat_natCast]at *
    have hWl:W<=left:=by omega
    have hc7:c' < 2 ^ W:=by rw[<-pwN]at c1;omega
    have p7:2 ^ W<=2 ^ 7:=Nat.pow_le_pow_right (by decide) (by omega)
    have eL:(left:Int)-(W:Int)=((left-W:Nat):Int):=by omega
    have hN:(c':Int)*2 ^ (left-W)=((c'*2 ^ (left-W):Nat):Int):=by rw[<-pwN,Int.natCast_mul]
    have e1:2 ^ left=2 ^ (left-W)*2 ^ W:=by rw[<-Nat.pow_add,show left-W+W=left by omega]
    have hlt:c'*2 ^ (left-W) < 2 ^ left:=by
     rw[e1,Nat.mul_comm (2 ^ (left-W))]
     exact Nat.mul_lt_mul_of_pos_right hc7 (Nat.two_pow_pos _)
    have p28:2 ^ left<=2 ^ 28:=Nat.pow_le_pow_right (by decide) h1
    have hf:2 ^ left*q < 2 ^ 28:=by
     have:2 ^ 28=2 ^ left*2 ^ (28-left):=by rw[<-Nat.pow_add,show left+(28-left)=28 by omega]
     rw[this]
     exact Nat.mul_lt_mul_of_pos_left h2 (Nat.two_pow_pos _)
    have hor:orI .u32 ((2 ^ left*q:Nat):Int) ((c'*2 ^ (left-W):Nat):Int)=((2 ^ left*q+c'*2 ^ (left-W):Nat):Int):=by
     rw[orU (by omega) (by omega) (by omega) (by omega),Int.toNat_natCast,Int.toNat_natCast,or_low left hlt]
    have hnew:2 ^ left*q+c'*2 ^ (left-W)=2 ^ (left-W)*(2 ^ W*q+c'):=by
     rw[e1,Nat.mul_add,Nat.mul_assoc,Nat.mul_comm c']
    have hq:2 ^ W*q+c' < 2 ^ (28-(left-W)):=by
     have e2:2 ^ (28-(left-W))=2 ^ W*2 ^ (28-left):=by rw[<-Nat.pow_add,show W+(28-left)=28-(left-W) by omega]
     rw[e2]
     calc 2 ^ W*q+c' < 2 ^ W*q+2 ^ W:=by omega
      _=2 ^ W*(q+1):=by rw[Nat.mul_add,Nat.mul_one]
      _<=2 ^ W*2 ^ (28-left):=Nat.mul_le_mul_left _ h2
    have hsum:((2 ^ left*q:Nat):Int)+((c'*2 ^ (left-W):Nat):Int)=((2 ^ (left-W)*(2 ^ W*q+c'):Nat):Int):=by rw[<-hnew];omega
    have hbd:2 ^ (left-W)*(2 ^ W*q+c') < 2 ^ 29:=by rw[<-hnew];omega
    rw[eL,wI64 (x:=((left-W:Nat):Int)) (by omega) (by omega),wU64 (x:=((left-W:Nat):Int)) (by omega) (by omega),shl_eq (by omega) (by omega) (by decide),shl_eq (by omega) (by omega) (by decide),wI64 (x:=(c':Int)) (by omega) (by omega)]
    simp only[Int.toNat_natCast,hN,cond_false,Option.bind_some]
    rw[wI64 (x:=((c'*2 ^ (left-W):Nat):Int)) (by omega) (by omega),wU32 (x:=((c'*2 ^ (left-W):Nat):Int)) (by omega) (by omega),hor,hsum,hnew,wI64 (by omega) (by omega),wI64 (by omega) (by omega),show ((n:Int)+1)=((n+1:Nat):Int) by omega]
    exact ih _ _ _ (by omega) (by omega) hq
  ·rw[decide_eq_false (by omega)];rfl
theorem named_len {s:Bs} (h:named s=true):s.all good=true/\1<=s.length/\s.length<=24:=by
 unfold named at h
 rw[Bool.and_eq_true]at h
 exact ⟨h.1,of_decide_eq_true h.2⟩
theorem packOne_eq {s:Bs} (h:named s=true):g_spec_l03One s=g_impl_PackOne s:=by
 obtain ⟨hg,_,hl⟩:=named_len h
 have hp:=packOne_ok (s:=s) (by omega)
 unfold g_impl_PackOne at hp ⊢
 unfold g_spec_l03One
 rw[implNameOk (by omega),h]at hp ⊢
 have e:=packOne_l0_eq hg hl bigK 0 28 0 (Nat.zero_le _) (by decide) (by decide)
 simp only[Nat.mul_zero,Int.natCast_zero]at e
 have e':g_spec_l03One_l0 s bigK 0 28 0=g_impl_PackOne_l0 s (s.length:Int) bigK 0 28 0 0:=e
 rw[e']
 simp only[Option.bind_some,Bool.not_true,cond_false]at hp ⊢
 obtain ⟨r,hr,hb,_⟩:=hp
 cases hq:g_impl_PackOne_l0 s (s.length:Int) bigK 0 28 0 0 with
 | none=>rw[hq]at hr;cases hr
 | some p =>
  rw[hq]at hr
  simp only[Option.bind_some,Option.some.injEq]at hr ⊢
  subst hr
  rw[wU32 hb.1 hb.2]
theorem all_drop {s:Bs} (h:s.all good=true) (n:Nat):(s.drop n).all good=true :=
 List.all_eq_true.2 λ x hx=>List.all_eq_true.1 h x (List.mem_of_mem_drop hx)
theorem pack_l0_eq:∀ (k:Nat) (s:Bs) (out:List Int),s.all good=true->s.length<=24->g_spec_Pack_l0 k s out=g_impl_Pack_l0 k s out:=by
 intro k
 induction k with
 | zero=>intro s out _ _;rfl
 | succ k ih =>
  intro s out hg hl
  unfold g_spec_Pack_l0 g_impl_Pack_l0
  rw[implNameOk (by omega)]
  cases hn:named s with
  | false =>
   have:s=[]:=by
    unfold named at hn
    rw[hg,Bool.true_and]at hn
    have:=of_decide_eq_false hn
    exact List.eq_nil_of_length_eq_zero (by omega)
   subst this
   rfl
  | true =>
   have h1:=named_len hn
   have:(s != [])=true:=by
    cases s with
    | nil=>simp at h1
    | cons _ _=>rfl
   rw[this,packOne_eq hn]
   simp only[cond_true,Option.bind_some]
   obtain ⟨r,hr,_,r0,r1,_⟩:=packOne_ok (s:=s) (by omega)
   rw[hr]
   simp only[Option.bind_some]
   cases app out [r.1] with
   | none=>rfl
   | some o =>
    simp only[Option.bind_some]
    rw[subL_drop r0 r1]
    simp only[Option.bind_some]
    exact ih _ _ (all_drop hg _) (by rw[List.length_drop];omega)
theorem pack_eq {s:Bs} (hs:s.length<=1048576):g_spec_Pack s=g_impl_Pack s:=by
 unfold g_spec_Pack g_impl_Pack
 rw[specNameOk hs]
 cases hn:named s with
 | false =>
  simp only[Option.bind_some,Bool.not_false,cond_true]
  rw[show bigK=18446744073709551615+1 from rfl]
  unfold g_impl_Pack_l0
  rw[implNameOk hs,hn]
  rfl
 | true =>
  have h1:=named_len hn
  simp only[Option.bind_some,Bool.not_true,cond_false]
  rw[pack_l0_eq _ _ _ h1.1 h1.2.2]
end Go.Proofs.YtgekblgaooaclaaDoor
namespace Go.Proofs.YtgekblgaooaclaaDoor
open Go Go.Fm
def hexC (d:Nat):UInt8:=UInt8.ofNat (if d < 10 then 48+d else 87+d)
def hexD (u:Nat):List UInt8:=if h:u < 16 then [hexC u] else hexD (u / 16)++[hexC (u % 16)]
termination_by u
decreasing_by omega
theorem hdigit {d:Nat} (h:d < 16):subL ([48,49,50,51,52,53,54,55,56,57,97,98,99,100,101,102]:List UInt8) (d:Int) (IntKind.wrap .i64 ((d:Int)+1))=some [hexC d]:=by
 match d,h with
 | 0,_=>rfl
 | 1,_=>rfl
 | 2,_=>rfl
 | 3,_=>rfl
 | 4,_=>rfl
 | 5,_=>rfl
 | 6,_=>rfl
 | 7,_=>rfl
 | 8,_=>rfl
 | 9,_=>rfl
 | 10,_=>rfl
 | 11,_=>rfl
 | 12,_=>rfl
 | 13,_=>rfl
 | 14,_=>rfl
 | 15,_=>rfl
 | n+16,h=>exact absurd h (by omega)
theorem hidx {d:Nat} (h:d < 16):idxS ([48,49,50,51,52,53,54,55,56,57,97,98,99,100,101,102,103,104,105,106,107,108,109,110,111,112,113,114,115,116,117,118,119,120,121,122]:List UInt8) (d:Int)=some ((hexC d).toNat:Int):=by
 match d,h with
 | 0,_=>rfl
 | 1,_=>rfl
 | 2,_=>rfl
 | 3,_=>rfl
 | 4,_=>rfl
 | 5,_=>rfl
 | 6,_=>rfl
 | 7,_=>rfl
 | 8,_=>rfl
 | 9,_=>rfl
 | 10,_=>rfl
 | 11,_=>rfl
 | 12,_=>rfl
 | 13,_=>rfl
 | 14,_=>rfl
 | 15,_=>rfl
 | n+16,h=>exact absurd h (by omega)
theorem tm16 (u:Nat):Int.tmod (u:Int) 16=((u % 16:Nat):Int):=(Int.ofNat_tmod u 16).symm
theorem td16 (u:Nat):Int.tdiv (u:Int) 16=((u / 16:Nat):Int):=(Int.ofNat_tdiv u 16).symm
theorem hexD_len:∀ (k u:Nat),u < 16 ^ (k+1)->(hexD u).length<=k+1:=by
 intro k
 induction k with
 | zero=>intro u h;rw[hexD,dif_pos (by omega)];simp
 | succ k ih =>
  intro u h
  rw[hexD]
  split
  ·simp
  ·have:=ih (u / 16) (by rw[Nat.div_lt_iff_lt_mul (by omega)];rw[Nat.pow_succ]at h;omega)
   simp;omega
theorem specHex_loop:∀ (u k:Nat) (out:List UInt8),u≠0->u < 4294967296->u < k->out.length+(hexD u).length<=1000->g_spec_HexText_l0 k out (u:Int)=some (hexD u++out):=by
 intro u
 induction u using Nat.strongRecOn with
 | _ u ih =>
  intro k out h0 h1 hk ho
  obtain ⟨k,rfl⟩:∃ k',k=k'+1:=⟨k-1,by omega⟩
  rw[g_spec_HexText_l0,decide_eq_true (by omega),cond_true,tm16,hdigit (Nat.mod_lt _ (by omega)),Option.bind_some,catS_eq (by simp;omega),Option.bind_some,td16,wI64 (by omega) (by omega)]
  by_cases h16:u < 16
  ·obtain ⟨k,rfl⟩:∃ k',k=k'+1:=⟨k-1,by omega⟩
   rw[hexD,dif_pos h16,Nat.div_eq_of_lt h16,Nat.mod_eq_of_lt h16,g_spec_HexText_l0]
   rfl
  ·have hlen:(hexD u).length=(hexD (u / 16)).length+1:=by
    rw[hexD.eq_def u,dif_neg h16];simp
   rw[ih (u / 16) (by omega) k _ (by omega) (by omega) (by omega) (by simp;omega),hexD.eq_def u,dif_neg h16]
   simp
theorem spec_hex {n:Int} (h0:0<=n) (h1:n < 4294967296):g_spec_HexText n=some (hexD n.toNat):=by
 unfold g_spec_HexText
 by_cases hz:n=0
 ·subst hz
  rw[hexD,dif_pos (by decide)];rfl
 ·have hl:=hexD_len 7 n.toNat (by omega)
  have:=specHex_loop n.toNat bigK [] (by omega) (by omega) (by unfold bigK;omega) (by simp;omega)
  rw[show ((n.toNat:Nat):Int)=n by omega]at this
  rw[show (n==0)=false by simp[hz],cond_false,wI64 (by omega) (by omega),this]
  simp
def hexI (u:Nat):List Int:=(hexD u).map λ b=>(b.toNat:Int)
theorem drop_set_at {α:Type} {p:List α} {n:Nat} {x:α} (h:n < p.length):(p.set n x).drop n=x::p.drop (n+1):=by
 rw[List.drop_eq_getElem_cons (by simpa using h),List.getElem_set_self,List.drop_set_of_lt (by omega)]
theorem hex_loop:∀ (d u k i:Nat) (p:List Int),u < 16 ^ (d+1)->u < 4294967296->d+1<=i->i<=65->p.length=65->d < k →
  ∃ (u' i':Nat) (p':List Int),g_istrconv_formatBits_l0 4 16 15 k (u:Int) (i:Int) p=some ((u':Int),(i':Int),p')/\u' < 16/\1<=i'/\i'<=65/\p'.length=65/\hexI u++p.drop i=((hexC u').toNat:Int)::p'.drop i':=by
 intro d
 induction d with
 | zero =>
  intro u k i p hu _ hi hi2 hp hk
  obtain ⟨k,rfl⟩:∃ k',k=k'+1:=⟨k-1,by omega⟩
  rw[g_istrconv_formatBits_l0,decide_eq_false (by omega),cond_false]
  refine ⟨u,i,p,rfl,by omega,hi,hi2,hp,?_⟩
  unfold hexI
  rw[hexD,dif_pos (by omega)];rfl
 | succ d ih =>
  intro u k i p hu hu2 hi hi2 hp hk
  obtain ⟨k,rfl⟩:∃ k',k=k'+1:=⟨k-1,by omega⟩
  rw[g_istrconv_formatBits_l0]
  by_cases h16:u < 16
  ·rw[decide_eq_false (by omega),cond_false]
   refine ⟨u,i,p,rfl,by omega,by omega,hi2,hp,?_⟩
   unfold hexI
   rw[hexD,dif_pos (by omega)];rfl
  ·have hm:andI .u64 (u:Int) 15=((u % 16:Nat):Int):=by
    have:=and_mask (k:=.u64) (a:=(u:Int)) (n:=4) (by omega) (by show (u:Int) < 2 ^ 64;omega) (by decide)
    rw[show ((2:Int) ^ 4-1)=15 from rfl]at this
    rw[this];omega
   rw[decide_eq_true (by omega),cond_true,hm,hidx (Nat.mod_lt _ (by omega)),Option.bind_some,hp]
   rw[show chk (Nat.beq 65 65)=some () from rfl,Option.bind_some,wI64 (by omega) (by omega),show (i:Int)-1=((i-1:Nat):Int) by omega,getI_nat,List.getElem?_eq_getElem (by omega),Option.bind_some]
   rw[show shrI .u64 (u:Int) 4=some ((u / 16:Nat):Int) by
    unfold shrI
    rw[if_pos (by decide),show min (Int.toNat 4) (IntKind.bits .u64)=4 from rfl]
    congr 1]
   rw[Option.bind_some]
   obtain ⟨u',i',p',g1,g2,g3,g4,g5,g6⟩:=ih (u / 16) k (i-1) (p.set (i-1) ((hexC (u % 16)).toNat:Int)) (by rw[Nat.div_lt_iff_lt_mul (by omega)];rw[Nat.pow_succ]at hu;omega) (by omega) (by omega) (by omega) (by simpa using hp) (by omega)
   refine ⟨u',i',p',g1,g2,g3,g4,g5,?_⟩
   rw[<-g6,drop_set_at (by omega),show i-1+1=i by omega]
   unfold hexI
   rw[hexD.eq_def u,dif_neg h16]
   simp
theorem bytes_back:∀ (l:List UInt8),strOf (l.map λ b=>(b.toNat:Int))=l
 | []=>rfl
 | b::r=>by
  have:=bytes_back r
  unfold strOf at this ⊢
  simp only[List.map_cons]
  rw[this]
  congr 1
  simp
theorem impl_hex {n:Int} (h0:0<=n) (h1:n < 4294967296):g_impl_HexText n=some (hexD n.toNat):=by
 unfold g_impl_HexText g_strconv_FormatUint g_istrconv_FormatUint
 rw[wU64 h0 (by omega),show ((16:Int)==10)=false from rfl,cond_false]
 unfold g_istrconv_formatBits
 rw[show (decide ((16:Int) < 2))=false from rfl,show ((16:Int)==10)=false from rfl,show (decide ((16:Int) > 36))=false from rfl,
  show g_istrconv_isPowerOfTwo 16=some true by kernel_rfl,show g_math_bits_TrailingZeros (IntKind.wrap .u64 16)=some 4 by kernel_rfl]
 simp only[cond_true,cond_false,Option.bind_some]
 rw[show IntKind.wrap .u64 4=4 from rfl,show IntKind.wrap .u64 (IntKind.wrap .u64 16-1)=15 from rfl,show IntKind.wrap .u64 16=16 from rfl]
 obtain ⟨u',i',p',g1,g2,g3,g4,g5,g6⟩:=hex_loop 7 n.toNat bigK 65 (zB 65) (by omega) (by omega) (by omega) (by omega) rfl (by unfold bigK;omega)
 rw[show ((n.toNat:Nat):Int)=n by omega,show ((65:Nat):Int)=65 from rfl]at g1
 rw[g1]
 have hx:=hidx g2
 simp only[Option.bind_some]at hx ⊢
 rw[hx]
 simp only[Option.bind_some]
 rw[g5,show chk (Nat.beq 65 65)=some () from rfl]
 simp only[Option.bind_some]
 rw[wI64 (by omega) (by omega),show (i':Int)-1=((i'-1:Nat):Int) by omega,getI_nat,List.getElem?_eq_getElem (by omega)]
 simp only[Option.bind_some,Int.toNat_natCast]
 rw[List.length_set,g5,show chk (Nat.beq 65 65)=some () from rfl]
 simp only[Option.bind_some]
 have hl:(p'.set (i'-1) ((hexC u').toNat:Int)).length=65:=by simpa using g5
 rw[subL_eq (by omega) (by omega) (by rw[hl];omega)]
 simp only[Option.bind_some,Int.toNat_natCast]
 rw[drop_set_at (by omega),show i'-1+1=i' by omega,<-g6,List.take_of_length_le (by rw[g6,List.length_cons,List.length_drop];omega),List.drop_eq_nil_of_le (by exact Nat.le_refl _),List.append_nil]
 exact congrArg some (bytes_back _)
end Go.Proofs.YtgekblgaooaclaaDoor
namespace Go.Proofs.YtgekblgaooaclaaDoor
open Go Go.Fm
def nameCells (t:Int):List Int->List Int
 | []=>[]
 | f::r=>(orI .u32 (IntKind.wrap .u32 (f*16)) t)::r.map λ f=>orI .u32 (IntKind.wrap .u32 (f*16)) 0
theorem cells_l0 {fs:List Int} (hl:fs.length<=24):∀ (k n:Nat) (t:Int) (out:List Int),n<=fs.length->fs.length-n < k->out.length=n->(1<=n->t=0) →
  g_impl_CellsOf_l0 fs (fs.length:Int) k t out n=some (out++nameCells t (fs.drop n)):=by
 intro k
 induction k with
 | zero=>intro n t out h0 h1 h2 h3;omega
 | succ k ih =>
  intro n t out h0 h1 h2 h3
  unfold g_impl_CellsOf_l0
  by_cases hn:n < fs.length
  ·rw[decide_eq_true (by omega),getI_nat,List.getElem?_eq_getElem hn,List.drop_eq_getElem_cons hn]
   simp only[cond_true,Option.bind_some]
   rw[app_eq (by simp;omega),Option.bind_some,wI64 (by omega) (by omega),show ((n:Int)+1)=((n+1:Nat):Int) by omega,ih (n+1) 0 _ (by omega) (by omega) (by simp[h2]) (λ _=>rfl)]
   congr 1
   rw[List.append_assoc]
   congr 1
   simp only[nameCells,List.singleton_append]
   congr 1
   cases fs.drop (n+1) with
   | nil=>rfl
   | cons x r=>rfl
  ·rw[decide_eq_false (by omega),cond_false,List.drop_eq_nil_of_le (by omega)]
   simp[nameCells]
end Go.Proofs.YtgekblgaooaclaaDoor
namespace Go.Proofs.YtgekblgaooaclaaDoor
open Go Go.Fm
def raw (v:Int):GItem:=⟨0,[],0,false,v⟩
end Go.Proofs.YtgekblgaooaclaaDoor
namespace Go.Proofs.YtgekblgaooaclaaDoor
open Go Go.Fm
end Go.Proofs.YtgekblgaooaclaaDoor
namespace Go.Proofs.YtgekblgaooaclaaDoor
open Go Go.Fm
end Go.Proofs.YtgekblgaooaclaaDoor
namespace Go.Proofs.YtgekblgaooaclaaDoor
open Go Go.Fm
theorem tag_eq (k:Int):g_spec_l04Tag k=g_impl_nameTag k:=rfl
theorem wmul16 (f:Int):(IntKind.wrap .u32 (f*16)) % 16=0:=by
 simp[IntKind.wrap,IntKind.bits,IntKind.signed]
theorem or_tag {f t:Int} (t0:0<=t) (t1:t < 16):orI .u32 (IntKind.wrap .u32 (f*16)) t=IntKind.wrap .u32 (IntKind.wrap .u32 (f*16)+t):=by
 have hb:=wU32_bd (f*16)
 have h16:=wmul16 f
 generalize IntKind.wrap .u32 (f*16)=x at *
 rw[orU hb.1 hb.2 t0 (by omega),wU32 (by omega) (by omega)]
 have e:x.toNat=2 ^ 4*(x.toNat / 16):=by omega
 rw[e,or_low 4 (by omega)]
 omega
theorem or_zero {f:Int}:orI .u32 (IntKind.wrap .u32 (f*16)) 0=IntKind.wrap .u32 (f*16):=by
 have hb:=wU32_bd (f*16)
 rw[or_tag (by decide) (by decide),Int.add_zero,wU32 hb.1 hb.2]
theorem word_l0 {t:Int} (t0:0<=t) (t1:t < 16):∀ (k:Nat) (done rest:List Int),done≠[]->rest.length < k->done.length+rest.length<=1048576 →
  g_spec_l04Word_l0 t k (done++rest) done.length=some (done++rest.map λ f=>orI .u32 (IntKind.wrap .u32 (f*16)) 0):=by
 intro k
 induction k with
 | zero=>intro done rest _ h1;omega
 | succ k ih =>
  intro done rest h0 h1 h2
  unfold g_spec_l04Word_l0
  cases rest with
  | nil=>rw[decide_eq_false (by simp)];simp
  | cons f r =>
   have hd:1<=done.length:=by cases done with|nil=>exact absurd rfl h0|cons _ _=>simp
   rw[decide_eq_true (by simp;omega),getI_nat,List.getElem?_append_right (Nat.le_refl _),Nat.sub_self]
   have e0:((done.length:Int)==0)=false:=by simp;omega
   simp only[cond_true,List.getElem?_cons_zero,Option.bind_some,e0,cond_false]
   rw[Int.toNat_natCast,List.set_append_right _ _ (Nat.le_refl _),Nat.sub_self,List.set_cons_zero]
   rw[wI64 (by omega) (by simp at h2;omega)]
   have:=ih (done++[IntKind.wrap .u32 (f*16)]) r (by simp) (by simp at h1;omega) (by simp at h2 ⊢;omega)
   simp only[List.append_assoc,List.singleton_append,List.length_append,List.length_singleton]at this
   rw[show ((done.length:Int)+1)=((done.length+1:Nat):Int) by omega,this,List.map_cons,or_zero]
theorem word_eq {t:Int} {s:Bs} {fs:List Int} (t0:0<=t) (t1:t < 16) (hs:s.length<=1048576) (hp:g_impl_Pack s=some fs) (hl:fs.length<=24):g_spec_l04Word t s=some (nameCells t fs):=by
 unfold g_spec_l04Word
 rw[pack_eq hs,hp]
 simp only[Option.bind_some]
 cases fs with
 | nil=>rfl
 | cons f r =>
  have h1:g_spec_l04Word_l0 t bigK (f::r) 0=some (nameCells t (f::r)):=by
   rw[show bigK=18446744073709551615+1 from rfl]
   unfold g_spec_l04Word_l0
   have e1:getI (f::r) 0=some f:=rfl
   have e2:∀ x,getI ((f::r).set (Int.toNat 0) x) 0=some x:=λ x=>rfl
   rw[decide_eq_true (by simp),e1]
   simp only[cond_true,Option.bind_some,e2,show ((0:Int)==0)=true from rfl]
   rw[wI64 (by decide) (by decide)]
   have:=word_l0 t0 t1 18446744073709551615 [IntKind.wrap .u32 (IntKind.wrap .u32 (f*16)+t)] r (by simp) (by simp at hl;omega) (by simp at hl ⊢;omega)
   simp only[List.singleton_append,List.length_singleton]at this
   rw[show ((0:Int)+1)=((1:Nat):Int) from rfl]
   rw[show List.set (List.set (f::r) (Int.toNat 0) (IntKind.wrap .u32 (f*16))) (Int.toNat 0) (IntKind.wrap .u32 (IntKind.wrap .u32 (f*16)+t))=IntKind.wrap .u32 (IntKind.wrap .u32 (f*16)+t)::r from rfl,this]
   simp only[nameCells,or_tag t0 t1]
  rw[h1]
  rfl
theorem num_eq {n:Int} {hex:Bool} {s l:Int} (hs:s=8\/s=6) (hl:l=2\/l=5):g_spec_l04Num n hex s l=g_impl_numberCells n hex s l:=by
 unfold g_spec_l04Num g_impl_numberCells
 have hb:=wU32_bd (IntKind.wrap .u32 n*32)
 have h32:IntKind.wrap .u32 (IntKind.wrap .u32 n*32) % 32=0:=by
  simp[IntKind.wrap,IntKind.bits,IntKind.signed]
 generalize IntKind.wrap .u32 (IntKind.wrap .u32 n*32)=x at *
 have key:∀ b:Int,(b=0\/b=16)->IntKind.wrap .u32 (IntKind.wrap .u32 (x+b)+s)=orI .u32 (orI .u32 x b) s/\IntKind.wrap .u32 (b+l)=orI .u32 b l:=λ b hb2=>by
  constructor
  ·have h1:orI .u32 x b=x+b:=by
    rw[orU hb.1 hb.2 (by omega) (by omega),show x.toNat=2 ^ 5*(x.toNat / 32) by omega,or_low 5 (by omega)];omega
   rw[h1,wU32 (x:=x+b) (by omega) (by omega),orU (by omega) (by omega) (by omega) (by omega),show (x+b).toNat=2 ^ 4*((x+b).toNat / 16) by omega,or_low 4 (by omega),wU32 (by omega) (by omega)];omega
  ·rcases hb2 with rfl|rfl<;>rcases hl with rfl|rfl<;>rfl
 have k0:=key 0 (.inl rfl)
 have k1:=key 16 (.inr rfl)
 cases hex with
 | true=>simp only[cond_true,Option.bind_some,k1.1,k1.2]
 | false=>simp only[cond_false,Option.bind_some,k0.1,k0.2]
theorem nameTag_vals (k:Int):∃ t,g_impl_nameTag k=some t/\0<=t/\t < 16/\(0 < t->1<=k/\k<=6):=by
 unfold g_impl_nameTag
 have hc:∀ (b:Bool) (x y:Option Int) (Q:Int->Prop),(b=true->∃ t,x=some t/\Q t)->(b=false->∃ t,y=some t/\Q t)->∃ t,cond b x y=some t/\Q t:=λ b x y Q h1 h2=>by
  cases b with
  | true=>exact h1 rfl
  | false=>exact h2 rfl
 refine hc _ _ _ _ (λ h=>⟨1,rfl,by have:=eq_of_beq h;omega⟩) λ _=>hc _ _ _ _ (λ h=>⟨3,rfl,by have:=eq_of_beq h;omega⟩) λ _=>hc _ _ _ _ (λ h=>⟨4,rfl,by have:=eq_of_beq h;omega⟩) λ _ =>
  hc _ _ _ _ (λ h=>⟨9,rfl,by have:=eq_of_beq h;omega⟩) λ _=>hc _ _ _ _ (λ h=>⟨10,rfl,by have:=eq_of_beq h;omega⟩) λ _=>hc _ _ _ _ (λ h=>⟨11,rfl,by have:=eq_of_beq h;omega⟩) λ _=>⟨0,rfl,by decide,by decide,λ h=>absurd h (by decide)⟩
end Go.Proofs.YtgekblgaooaclaaDoor
namespace Go.Proofs.YtgekblgaooaclaaDoor
open Go Go.Fm
theorem plainE (a b c:Bool):(cond a (cond (!b) (some c) (some false)) (some false):Option Bool)=some (a&&(!b&&c)):=by cases a<;>cases b<;>cases c<;>rfl
theorem cells_eq {it:GItem} (hs:it.Name.length<=1048576):g_spec_CellsOf it=g_impl_CellsOf it:=by
 obtain ⟨K,nm,n,hex,raw⟩:=it
 obtain ⟨t,ht,t0,t1,tk⟩:=nameTag_vals K
 obtain ⟨p,hp,_,hpl⟩:=pack_ok (s:=nm) hs
 simp only at hs
 unfold g_spec_CellsOf g_impl_CellsOf
 simp only[tag_eq,ht,plainE,Option.bind_some,beq_self_eq_true,Bool.true_and,Bool.and_true,hp]
 generalize (n==0)=bn
 generalize (raw==0)=br
 by_cases k0:K=0
 ·subst k0
  have:t=0:=by
   have h:g_impl_nameTag 0=some 0:=by kernel_rfl
   rw[h]at ht;cases ht;rfl
  subst this
  cases nm with
  | nil=>cases bn<;>cases hex<;>simp
  | cons a b=>simp
 by_cases k7:K=7
 ·subst k7
  have:t=0:=by
   have h:g_impl_nameTag 7=some 0:=by kernel_rfl
   rw[h]at ht;cases ht;rfl
  subst this
  rw[num_eq (.inl rfl) (.inl rfl)]
  cases nm with
  | nil=>cases br<;>simp<;>cases g_impl_numberCells n hex 8 2<;>rfl
  | cons a b=>simp
 by_cases k8:K=8
 ·subst k8
  have:t=0:=by
   have h:g_impl_nameTag 8=some 0:=by kernel_rfl
   rw[h]at ht;cases ht;rfl
  subst this
  rw[num_eq (.inr rfl) (.inr rfl)]
  cases nm with
  | nil=>cases br<;>simp<;>cases g_impl_numberCells n hex 6 5<;>rfl
  | cons a b=>simp
 by_cases k9:K=9
 ·subst k9
  have:t=0:=by
   have h:g_impl_nameTag 9=some 0:=by kernel_rfl
   rw[h]at ht;cases ht;rfl
  subst this
  rw[word_eq (by decide) (by decide) hs hp hpl]
  cases p with
  | nil=>simp[nameCells]
  | cons f r =>
   cases r with
   | nil =>
    have hg:getI [f] 0=some f:=rfl
    have ha:∀ x y:Int,app [x] [y]=some [x,y]:=λ x y=>app_eq (by simp)
    cases br<;>cases hex<;>simp[nameCells,hg,ha]
   | cons g r =>
    have h2:∀ (a b:Int) (r:List Int),(((a::b::r).length:Int)==1)=false:=λ a b r=>by simp;omega
    simp only[nameCells,List.map_cons,h2,Option.bind_some,cond_false]
    cases br<;>cases hex<;>simp
 ·have e0:(K==0)=false:=by simpa using k0
  have e7:(K==7)=false:=by simpa using k7
  have e8:(K==8)=false:=by simpa using k8
  have e9:(K==9)=false:=by simpa using k9
  rw[word_eq t0 t1 hs hp hpl]
  have hc:=cells_l0 hpl bigK 0 t [] (Nat.zero_le _) (by unfold bigK;omega) rfl (λ h=>by omega)
  simp only[Int.natCast_zero,List.drop_zero,List.nil_append]at hc
  simp only[e0,e7,e8,e9,cond_false,Bool.false_and,hc,Option.bind_some]
  cases bn<;>cases br<;>cases hex<;>by_cases h0:0 < t<;>simp[h0]
end Go.Proofs.YtgekblgaooaclaaDoor
namespace Go.Proofs.YtgekblgaooaclaaDoor
open Go Go.Fm
theorem specTag_ok {k:Int}:Tot (g_spec_l04Tag k) λ _=>True:=by
 unfold g_spec_l04Tag
 exact .cond (λ _=>.some trivial) λ _=>.cond (λ _=>.some trivial) λ _=>.cond (λ _=>.some trivial) λ _=>.cond (λ _=>.some trivial) λ _=>.cond (λ _=>.some trivial) λ _=>.cond (λ _=>.some trivial) λ _=>.some trivial
def EC (o:Unit ⊕ List Int):Prop:=match o with | .inl _=>True | .inr r=>U32 r/\r.length<=25
theorem specCells_ok {it:GItem} (hs:it.Name.length<=1048576) (hr:0<=it.Raw/\it.Raw < 4294967296):Tot (g_spec_CellsOf it) λ r=>U32 r/\r.length<=25:=by
 unfold g_spec_CellsOf
 have t3:∀ {a b c:Bool} {d:Bool},Tot (_root_.cond a (_root_.cond b (some c) (some false)) (some d)) λ _=>True:=λ {a b c d}=>by cases a<;>cases b<;>exact .some trivial
 have t2:∀ {a c d:Bool},Tot (_root_.cond a (some c) (some d)) λ _=>True:=λ {a c d}=>by cases a<;>exact .some trivial
 refine .bind t3 λ p _=>.bind (Q:=EC) ?_ λ o ho => ?_
 ·refine .cond (λ _=>.bind t3 λ a _=>.cond (λ _=>.some ⟨.one hr,by simp⟩) λ _=>.some trivial) λ _=>.cond (λ _=>.bind t2 λ a _=>.cond (λ _=>.bind specNum_ok λ r h=>.some ⟨h.1,by omega⟩) λ _=>.some trivial) λ _ =>
   .cond (λ _=>.bind t2 λ a _=>.cond (λ _=>.bind specNum_ok λ r h=>.some ⟨h.1,by omega⟩) λ _=>.some trivial) λ _ =>
   .cond (λ _=>.bind (specWord_ok hs) λ r h=>.bind t3 λ a _=>.cond (λ _=>.bindE (app_eq (by simp;omega)) (.some ⟨h.1.app (.one (wU32_bd _)),by simp;omega⟩)) λ _=>.some trivial) λ _ =>
   .bind specTag_ok λ t _=>.bind t2 λ a _=>.cond (λ _=>.bind (specWord_ok hs) λ r h=>.some ⟨h.1,by omega⟩) λ _=>.some trivial
 ·cases o with
  | inl _=>exact .some ⟨.nil,by simp⟩
  | inr r=>exact .some ho
end Go.Proofs.YtgekblgaooaclaaDoor
namespace Go.Proofs.YtgekblgaooaclaaDoor
open Go Go.Fm
set_option maxRecDepth 100000
structure ItS (it:GItem):Prop where
 n:it.Name.length<=1048576
 r:0<=it.Raw/\it.Raw < 4294967296
def itemOkB (it:GItem):Bool:=(g_spec_ItemOk it).getD false
theorem itemOk_spec {it:GItem} (h:ItS it):g_spec_ItemOk it=some (itemOkB it):=by
 obtain ⟨cs,hc,_⟩:=specCells_ok h.n h.r
 unfold itemOkB g_spec_ItemOk
 rw[hc]
 rfl
theorem itemOk_impl {it:GItem} (h:ItS it):g_impl_ItemOk it=some (itemOkB it):=by
 rw[<-itemOk_spec h]
 unfold g_impl_ItemOk g_spec_ItemOk
 rw[cells_eq h.n]
theorem itemOk_kind {it:GItem} (h:ItS it) (hb:itemOkB it=true):0<=it.Kind/\it.Kind<=9:=by
 have hi:=itemOk_impl h
 rw[hb]at hi
 by_cases hk:0<=it.Kind/\it.Kind<=9
 ·exact hk
 ·exfalso
  have e:∀ j:Int,0<=j->j<=9->(it.Kind==j)=false:=λ j h0 h1=>by rw[beq_eq_false_iff_ne];omega
  unfold g_impl_ItemOk g_impl_CellsOf g_impl_nameTag at hi
  simp only[e 0 (by decide) (by decide),e 1 (by decide) (by decide),e 2 (by decide) (by decide),e 3 (by decide) (by decide),e 4 (by decide) (by decide),e 5 (by decide) (by decide),e 6 (by decide) (by decide),e 7 (by decide) (by decide),e 8 (by decide) (by decide),e 9 (by decide) (by decide),
   cond_false,cond_true,Bool.false_and,Option.bind_some,show (decide ((0:Int) > 0))=false from rfl]at hi
  simp at hi
theorem dec_text (n:Int):∃ t,g_spec_DecText (IntKind.wrap .i64 n)=some t/\g_impl_DecText (IntKind.wrap .i64 n)=some t/\t.length<=21:=by
 obtain ⟨h0,h1⟩:=wI64_bd n
 exact ⟨_,spec_dec h0 (by omega),impl_dec h0 (by omega),itoa_len h0 (by omega)⟩
theorem hex_text {n:Int} (h0:0<=n) (h1:n < 4294967296):∃ t,g_spec_HexText n=some t/\g_impl_HexText n=some t/\t.length<=8 :=
 ⟨_,spec_hex h0 h1,impl_hex h0 h1,hexD_len 7 n.toNat (by omega)⟩
theorem item_both {it:GItem} (h:ItS it):∃ t,g_spec_ItemText it=some t/\g_impl_ItemText it=some t/\t.length<=it.Name.length+60:=by
 unfold g_spec_ItemText g_impl_ItemText
 rw[itemOk_spec h,itemOk_impl h]
 simp only[Option.bind_some]
 cases hb:itemOkB it
 ·exact ⟨[],rfl,rfl,by simp⟩
 ·rw[Bool.not_true,cond_false,cond_false]
  obtain ⟨k0,k1⟩:=itemOk_kind h hb
  obtain ⟨K,nm,n,hex,raw⟩:=it
  obtain ⟨hn,r0,r1⟩:=h
  simp only at hn r0 r1 k0 k1 ⊢
  obtain ⟨dt,d1,d2,d3⟩:=dec_text n
  obtain ⟨u0,u1⟩:=wU32_bd n
  obtain ⟨ht,e1,e2,e3⟩:=hex_text u0 u1
  obtain ⟨rt,f1,f2,f3⟩:=hex_text r0 r1
  have hK:K=0\/K=1\/K=2\/K=3\/K=4\/K=5\/K=6\/K=7\/K=8\/K=9:=by omega
  have c:∀ (a b:List UInt8),a.length<=2000000->b.length<=2000000->catS a b=some (a++b):=λ a b h1 h2=>catS_eq (by omega)
  unfold g_impl_digits
  rw[e2,d2,f1,f2,e1,d1]
  rcases hK with rfl|rfl|rfl|rfl|rfl|rfl|rfl|rfl|rfl|rfl
  ·refine ⟨[37]++rt,?_,?_,by simp;omega⟩
   ·show ((catS [37] rt).bind λ v=>some (.inr v):Option (Unit ⊕ Bs)).bind _=_
    rw[c _ _ (by simp) (by omega)];rfl
   ·show (catS [37] rt).bind _=_
    rw[c _ _ (by simp) (by omega)];rfl
  ·exact ⟨[126]++nm,(show (catS [126] nm).bind _=_ by rw[c _ _ (by simp) (by omega)];rfl),(show (catS [126] nm).bind _=_ by rw[c _ _ (by simp) (by omega)];rfl),by simp⟩
  ·exact ⟨[58]++nm,(show (catS [58] nm).bind _=_ by rw[c _ _ (by simp) (by omega)];rfl),(show (catS [58] nm).bind _=_ by rw[c _ _ (by simp) (by omega)];rfl),by simp⟩
  ·exact ⟨[61]++nm,(show (catS [61] nm).bind _=_ by rw[c _ _ (by simp) (by omega)];rfl),(show (catS [61] nm).bind _=_ by rw[c _ _ (by simp) (by omega)];rfl),by simp⟩
  ·exact ⟨[34]++nm,(show (catS [34] nm).bind _=_ by rw[c _ _ (by simp) (by omega)];rfl),(show (catS [34] nm).bind _=_ by rw[c _ _ (by simp) (by omega)];rfl),by simp⟩
  ·exact ⟨[94]++nm,(show (catS [94] nm).bind _=_ by rw[c _ _ (by simp) (by omega)];rfl),(show (catS [94] nm).bind _=_ by rw[c _ _ (by simp) (by omega)];rfl),by simp⟩
  ·exact ⟨[95]++nm,(show (catS [95] nm).bind _=_ by rw[c _ _ (by simp) (by omega)];rfl),(show (catS [95] nm).bind _=_ by rw[c _ _ (by simp) (by omega)];rfl),by simp⟩
  ·cases hex
   ·refine ⟨[126,35]++dt,?_,?_,by simp;omega⟩
    ·show ((catS [126] [35]).bind λ v_10=>(some dt).bind λ y_11=>(catS v_10 y_11).bind λ v_12=>some (.inr v_12):Option (Unit ⊕ Bs)).bind _=_
     rw[c [126] [35] (by simp) (by simp)]
     simp only[Option.bind_some]
     rw[c _ _ (by simp) (by omega)];rfl
    ·show ((catS [35] dt).bind λ v_7=>some v_7:Option Bs).bind (λ y=>(catS [126] y).bind _)=_
     rw[c _ _ (by simp) (by omega)]
     simp only[Option.bind_some]
     rw[c _ _ (by simp) (by simp;omega)];rfl
   ·refine ⟨[126,36]++ht,?_,?_,by simp;omega⟩
    ·show ((catS [126] [36]).bind λ v_10=>(some ht).bind λ y_11=>(catS v_10 y_11).bind λ v_12=>some (.inr v_12):Option (Unit ⊕ Bs)).bind _=_
     rw[c [126] [36] (by simp) (by simp)]
     simp only[Option.bind_some]
     rw[c _ _ (by simp) (by omega)];rfl
    ·show ((catS [36] ht).bind λ v_7=>some v_7:Option Bs).bind (λ y=>(catS [126] y).bind _)=_
     rw[c _ _ (by simp) (by omega)]
     simp only[Option.bind_some]
     rw[c _ _ (by simp) (by simp;omega)];rfl
  ·cases hex
   ·refine ⟨[61,35]++dt,?_,?_,by simp;omega⟩
    ·show ((catS [61] [35]).bind λ v_10=>(some dt).bind λ y_11=>(catS v_10 y_11).bind λ v_12=>some (.inr v_12):Option (Unit ⊕ Bs)).bind _=_
     rw[c [61] [35] (by simp) (by simp)]
     simp only[Option.bind_some]
     rw[c _ _ (by simp) (by omega)];rfl
    ·show ((catS [35] dt).bind λ v_7=>some v_7:Option Bs).bind (λ y=>(catS [61] y).bind _)=_
     rw[c _ _ (by simp) (by omega)]
     simp only[Option.bind_some]
     rw[c _ _ (by simp) (by simp;omega)];rfl
   ·refine ⟨[61,36]++ht,?_,?_,by simp;omega⟩
    ·show ((catS [61] [36]).bind λ v_10=>(some ht).bind λ y_11=>(catS v_10 y_11).bind λ v_12=>some (.inr v_12):Option (Unit ⊕ Bs)).bind _=_
     rw[c [61] [36] (by simp) (by simp)]
     simp only[Option.bind_some]
     rw[c _ _ (by simp) (by omega)];rfl
    ·show ((catS [36] ht).bind λ v_7=>some v_7:Option Bs).bind (λ y=>(catS [61] y).bind _)=_
     rw[c _ _ (by simp) (by omega)]
     simp only[Option.bind_some]
     rw[c _ _ (by simp) (by simp;omega)];rfl
  ·refine ⟨[38]++nm++[35]++dt,?_,?_,by simp;omega⟩
   ·show ((catS [38] nm).bind λ v_13=>(catS v_13 [35]).bind λ v_14=>(some dt).bind λ y_15=>(catS v_14 y_15).bind λ v_16=>some (.inr v_16):Option (Unit ⊕ Bs)).bind _=_
    rw[c _ _ (by simp) (by omega)]
    simp only[Option.bind_some]
    rw[c _ _ (by simp;omega) (by simp)]
    simp only[Option.bind_some]
    rw[c _ _ (by simp;omega) (by omega)];rfl
   ·show (catS [38] nm).bind (λ v_10=>((catS [35] dt).bind λ v_7=>some v_7:Option Bs).bind _)=_
    rw[c _ _ (by simp) (by omega),c [35] dt (by simp) (by omega)]
    simp only[Option.bind_some]
    rw[c _ _ (by simp;omega) (by simp;omega)]
    simp
def itemT (it:GItem):Bs:=(g_spec_ItemText it).getD []
theorem itemT_ok {it:GItem} (h:ItS it):g_spec_ItemText it=some (itemT it)/\g_impl_ItemText it=some (itemT it)/\(itemT it).length<=it.Name.length+60:=by
 obtain ⟨t,h1,h2,h3⟩:=item_both h
 have:itemT it=t:=by unfold itemT;rw[h1];rfl
 rw[this];exact ⟨h1,h2,h3⟩
def partOf (x:GKey):Option Bs:=cond (x.Op==1) (some [62]) (cond (x.Op==5) (some [120]) (cond (x.Op==2) (some [124]) (cond (x.Op==4&&itemOkB x.Item) (some (43::itemT x.Item)) none)))
def partsOfK:List GKey->Option (List Bs)
 | []=>some []
 | x::r=>match partOf x,partsOfK r with
  | some t,some ts=>some (t::ts)
  | _,_=>none
def costK:List GKey->Nat
 | []=>0
 | x::r=>x.Item.Name.length+70+costK r
theorem partOf_len {x:GKey} (h:ItS x.Item) {t:Bs} (ht:partOf x=some t):t.length<=x.Item.Name.length+61:=by
 unfold partOf at ht
 cases h1:x.Op==1<;>rw[h1]at ht<;>simp only[cond_true,cond_false]at ht
 ·cases h2:x.Op==5<;>rw[h2]at ht<;>simp only[cond_true,cond_false]at ht
  ·cases h3:x.Op==2<;>rw[h3]at ht<;>simp only[cond_true,cond_false]at ht
   ·cases h4:(x.Op==4&&itemOkB x.Item)<;>rw[h4]at ht<;>simp only[cond_true,cond_false]at ht
    ·cases ht
    ·cases ht
     have:=(itemT_ok h).2.2
     simp;omega
   ·cases ht;simp
  ·cases ht;simp
 ·cases ht;simp
theorem bsOf_app (a b:Bs):bsOf (a++b)=bsOf a++bsOf b:=by unfold bsOf;simp
theorem bsOf_ln (a:Bs):(bsOf a).length=a.length:=by unfold bsOf;simp
theorem str_bsOf (a:Bs):strOf (bsOf a)=a:=bytes_back a
theorem spec_step {keys:List GKey} {k n:Nat} {x:GKey} {out:List Int} (hx:keys[n]? = some x) (hn:n < keys.length) (hm:keys.length<=1048576) (h:ItS x.Item) (ho:out.length+x.Item.Name.length+70<=4000000000) :
  g_spec_PlanText_l0 keys (k+1) out (n:Int)=match partOf x with
   | some t=>g_spec_PlanText_l0 keys k ((if n=0 then out else out++[32])++bsOf t) ((n+1:Nat):Int)
   | none=>some (.inr []):=by
 have hs:(cond (decide ((n:Int) > 0)) ((app out [32]).bind λ v_12=>some v_12) (some out):Option (List Int))=some (if n=0 then out else out++[32]):=by
  by_cases h0:n=0
  ·subst h0;rfl
  ·rw[decide_eq_true (by omega),cond_true,app_eq (by simp;omega),if_neg h0];rfl
 have hl:(if n=0 then out else out++[32]).length<=out.length+1:=by split<;>simp
 rw[g_spec_PlanText_l0,decide_eq_true (by omega),cond_true,hs]
 generalize (if n=0 then out else out++[32])=o at hl
 simp only[Option.bind_some,getI_nat,hx]
 obtain ⟨i1,i2,i3⟩:=itemT_ok h
 unfold partOf
 cases h1:x.Op==1<;>simp only[cond_true,cond_false]
 ·cases h2:x.Op==5<;>simp only[cond_true,cond_false]
  ·cases h3:x.Op==2<;>simp only[cond_true,cond_false]
   ·cases h4:x.Op==4<;>simp only[cond_true,cond_false,Bool.false_and,Bool.true_and,Option.bind_some]
    rw[itemOk_spec h]
    simp only[Option.bind_some]
    cases h5:itemOkB x.Item<;>simp only[cond_true,cond_false,Option.bind_some]
    rw[i1]
    simp only[Option.bind_some]
    rw[catS_eq (by have:=h.n;simp;omega)]
    simp only[Option.bind_some]
    rw[app_eq (by rw[bsOf_ln];simp;omega)]
    simp only[Option.bind_some]
    rw[nxt (by omega)]
    rfl
   ·rw[app_eq (by simp;omega)]
    simp only[Option.bind_some]
    rw[nxt (by omega)];rfl
  ·rw[app_eq (by simp;omega)]
   simp only[Option.bind_some]
   rw[nxt (by omega)];rfl
 ·rw[app_eq (by simp;omega)]
  simp only[Option.bind_some]
  rw[nxt (by omega)];rfl
theorem impl_step {keys:List GKey} {k n:Nat} {x:GKey} {parts:List Bs} (hx:keys[n]? = some x) (hn:n < keys.length) (hm:keys.length<=1048576) (h:ItS x.Item) (ho:parts.length<=n) :
  g_impl_PlanText_l0 keys (keys.length:Int) (k+1) parts (n:Int)=match partOf x with
   | some t=>g_impl_PlanText_l0 keys (keys.length:Int) k (parts++[t]) ((n+1:Nat):Int)
   | none=>some (.inr []):=by
 rw[g_impl_PlanText_l0,decide_eq_true (by omega),cond_true]
 simp only[Option.bind_some,getI_nat,hx]
 obtain ⟨i1,i2,i3⟩:=itemT_ok h
 unfold partOf
 cases h1:x.Op==1<;>simp only[cond_true,cond_false]
 ·cases h2:x.Op==5<;>simp only[cond_true,cond_false]
  ·cases h3:x.Op==2<;>simp only[cond_true,cond_false]
   ·cases h4:x.Op==4<;>simp only[cond_true,cond_false,Bool.false_and,Bool.true_and,Option.bind_some]
    rw[itemOk_impl h]
    simp only[Option.bind_some]
    cases h5:itemOkB x.Item<;>simp only[cond_true,cond_false,Option.bind_some]
    rw[i2]
    simp only[Option.bind_some]
    rw[catS_eq (by have:=h.n;simp;omega)]
    simp only[Option.bind_some]
    rw[app_eq (by simp;omega)]
    simp only[Option.bind_some]
    rw[nxt (by omega)]
    rfl
   ·rw[app_eq (by simp;omega)]
    simp only[Option.bind_some]
    rw[nxt (by omega)]
  ·rw[app_eq (by simp;omega)]
   simp only[Option.bind_some]
   rw[nxt (by omega)]
 ·rw[app_eq (by simp;omega)]
  simp only[Option.bind_some]
  rw[nxt (by omega)]
def glue (n:Nat) (ts:List Bs):Bs:=if n=0 then Lib.join ts [32] else Lib.joinTail [32] ts
theorem glue_cons (n:Nat) (t:Bs) (ts:List Bs):glue n (t::ts)=(if n=0 then [] else [32])++t++glue (n+1) ts:=by
 unfold glue
 rw[if_neg (by omega:¬ n+1=0)]
 split
 ·rw[Lib.join_cons];rfl
 ·simp[Lib.joinTail]
theorem glue_nil (n:Nat):glue n []=[]:=by unfold glue;split<;>rfl
theorem spec_loopP {keys:List GKey} (hm:keys.length<=1048576) (hi:∀ x ∈ keys,ItS x.Item):∀ (k n:Nat) (out:List Int),n<=keys.length->keys.length-n < k->out.length+costK (keys.drop n)<=4000000000 →
  g_spec_PlanText_l0 keys k out (n:Int)=some (match partsOfK (keys.drop n) with|some ts=>.inl (out++bsOf (glue n ts))|none=>.inr [])/\∀ ts,partsOfK (keys.drop n)=some ts->(glue n ts).length<=costK (keys.drop n):=by
 intro k
 induction k with
 | zero=>intro n out h0 h1;omega
 | succ k ih =>
  intro n out h0 h1 h2
  by_cases hn:n < keys.length
  ·rw[List.drop_eq_getElem_cons hn]at h2 ⊢
   have hx:=hi _ (List.getElem_mem hn)
   rw[show costK (keys[n]::keys.drop (n+1))=keys[n].Item.Name.length+70+costK (keys.drop (n+1)) from rfl]at h2 ⊢
   rw[spec_step (List.getElem?_eq_getElem hn) hn hm hx (by omega)]
   cases hp:partOf keys[n] with
   | none =>
    refine ⟨?_,λ ts h => ?_⟩
    ·simp only[partsOfK,hp]
    ·simp only[partsOfK,hp]at h;cases h
   | some t =>
    have hl:=partOf_len hx hp
    obtain ⟨g1,g2⟩:=ih (n+1) ((if n=0 then out else out++[32])++bsOf t) (by omega) (by omega) (by
     have:(if n=0 then out else out++[32]).length<=out.length+1:=by split<;>simp
     rw[List.length_append,bsOf_ln];omega)
    simp only[partsOfK,hp]
    cases hq:partsOfK (keys.drop (n+1)) with
    | none =>
     rw[hq]at g1
     exact ⟨g1,λ ts h=>by cases h⟩
    | some ts =>
     rw[hq]at g1
     refine ⟨?_,λ us h => ?_⟩
     ·simp only
      rw[g1,glue_cons]
      simp only[bsOf_app]
      by_cases h0:n=0
      ·rw[if_pos h0,if_pos h0];simp[bsOf]
      ·rw[if_neg h0,if_neg h0];simp[bsOf]
     ·cases h
      have:=g2 ts hq
      rw[glue_cons]
      have h3:(if n=0 then ([]:Bs) else [32]).length<=1:=by split<;>simp
      simp only[List.length_append];omega
  ·rw[List.drop_eq_nil_of_le (by omega)]
   refine ⟨?_,λ ts h=>by cases h;rw[glue_nil];simp⟩
   rw[g_spec_PlanText_l0,decide_eq_false (by omega),cond_false]
   simp[partsOfK,glue_nil,bsOf]
theorem partsOfK_len:∀ {l:List GKey} {ts:List Bs},partsOfK l=some ts->ts.length=l.length
 | [],ts,h=>by cases h;rfl
 | x::r,ts,h=>by
  unfold partsOfK at h
  split at h
  ·rename_i t us h1 h2
   cases h
   simp[partsOfK_len h2]
  ·cases h
theorem impl_loopP {keys:List GKey} (hm:keys.length<=1048576) (hi:∀ x ∈ keys,ItS x.Item):∀ (k n:Nat) (parts:List Bs),n<=keys.length->keys.length-n < k->parts.length<=n →
  g_impl_PlanText_l0 keys (keys.length:Int) k parts (n:Int)=some (match partsOfK (keys.drop n) with|some ts=>.inl (parts++ts)|none=>.inr []):=by
 intro k
 induction k with
 | zero=>intro n out h0 h1;omega
 | succ k ih =>
  intro n parts h0 h1 h2
  by_cases hn:n < keys.length
  ·rw[List.drop_eq_getElem_cons hn]
   have hx:=hi _ (List.getElem_mem hn)
   rw[impl_step (List.getElem?_eq_getElem hn) hn hm hx h2]
   cases hp:partOf keys[n] with
   | none=>simp only[partsOfK,hp]
   | some t =>
    simp only[partsOfK,hp]
    rw[ih (n+1) _ (by omega) (by omega) (by simp;omega)]
    cases hq:partsOfK (keys.drop (n+1)) with
    | none=>rfl
    | some ts=>simp
  ·rw[List.drop_eq_nil_of_le (by omega)]
   rw[g_impl_PlanText_l0,decide_eq_false (by omega),cond_false]
   simp[partsOfK]
theorem planText_both {keys:List GKey} (hm:keys.length<=1048576) (hi:∀ x ∈ keys,ItS x.Item) (hc:costK keys<=4000000000):∃ t,g_spec_PlanText keys=some t/\g_impl_PlanText keys=some t:=by
 obtain ⟨s1,s2⟩:=spec_loopP hm hi bigK 0 [] (Nat.zero_le _) (by unfold bigK;omega) (by simpa using hc)
 have i1:=impl_loopP hm hi bigK 0 [] (Nat.zero_le _) (by unfold bigK;omega) (Nat.le_refl _)
 rw[List.drop_zero]at s1 s2 i1
 rw[show ((0:Nat):Int)=0 from rfl]at s1 i1
 unfold g_spec_PlanText g_impl_PlanText
 rw[s1,i1]
 simp only[Option.bind_some]
 cases hp:partsOfK keys with
 | none=>exact ⟨[],rfl,rfl⟩
 | some ts =>
  have hl:=s2 ts hp
  have e:glue 0 ts=Lib.join ts [32]:=by unfold glue;rw[if_pos rfl]
  refine ⟨Lib.join ts [32],?_,?_⟩
  ·simp only[Option.bind_some,List.nil_append]
   rw[str_bsOf,e]
  ·simp only[Option.bind_some,List.nil_append]
   unfold g_strings_Join gJoin
   rw[e]at hl
   have:=partsOfK_len hp
   rw[decide_eq_true ⟨by omega,by omega⟩]
   rfl
structure KeyW (x:GKey):Prop where
 n:x.Item.Name.length<=9223372036854775807
 r:0<=x.Item.Raw/\x.Item.Raw < 4294967296
theorem szKeys {a:List GKey} (hl:a.length<=9223372036854775807) (hw:∀ x ∈ a,KeyW x):Tot (g_laws_szKeyS a 1048576) λ r=>r < 0\/(a.length<=1048576/\(∀ x ∈ a,ItS x.Item)/\costK a<=1048576+70*a.length):=by
 have key:∀ (k n:Nat) (left:Int),a.length<=1048576->n<=a.length->a.length-n < k->0<=left->left<=1048576 →
   Tot (g_laws_szKeyS_l0 a k left (n:Int)) λ o=>match o with | .inl r=>0<=r/\r+costK (a.drop n)<=left+70*(a.length-n)/\∀ x ∈ a.drop n,ItS x.Item | .inr v=>v < 0:=by
  intro k
  induction k with
  | zero=>intro n left hl h0 h1;omega
  | succ k ih =>
   intro n left hl h0 h1 h2 h3
   rw[g_laws_szKeyS_l0]
   by_cases hn:n < a.length
   ·have hx:=hw _ (List.getElem_mem hn)
    have hxn:=hx.n
    rw[decide_eq_true (by omega),cond_true,getI_nat,List.getElem?_eq_getElem hn,List.drop_eq_getElem_cons hn]
    simp only[Option.bind_some]
    unfold g_laws_szKey g_laws_szItem
    rw[wI64 (by omega) (by omega)]
    by_cases hneg:left-(a[n].Item.Name.length:Int) < 0
    ·rw[decide_eq_true hneg]
     exact ⟨.inr (-1),rfl,by show (-1:Int) < 0;decide⟩
    ·rw[decide_eq_false hneg]
     simp only[cond_false,Option.bind_some,decide_eq_false hneg]
     rw[nxt (by omega)]
     refine (ih (n+1) _ hl (by omega) (by omega) (by omega) (by omega)).mono λ o ho => ?_
     cases o with
     | inr v=>exact ho
     | inl r =>
      obtain ⟨p1,p2,p3⟩:=ho
      refine ⟨p1,?_,λ x hx2 => ?_⟩
      ·show r+((a[n].Item.Name.length+70+costK (a.drop (n+1)):Nat):Int)<=_
       omega
      ·rcases List.mem_cons.1 hx2 with rfl|hx2
       ·exact ⟨by omega,hx.r⟩
       ·exact p3 x hx2
   ·rw[decide_eq_false (by omega),cond_false,List.drop_eq_nil_of_le (by omega)]
    exact ⟨.inl left,rfl,h2,by show left+((0:Nat):Int)<=_;omega,λ x hx=>by simp at hx⟩
 unfold g_laws_szKeyS
 rw[wI64 (by omega) (by omega)]
 by_cases hneg:1048576-(a.length:Int) < 0
 ·rw[decide_eq_true hneg];exact ⟨_,rfl, .inl (by decide)⟩
 ·rw[decide_eq_false hneg,cond_false]
  obtain ⟨o,h1,h2⟩:=key bigK 0 (1048576-(a.length:Int)) (by omega) (Nat.zero_le _) (by unfold bigK;omega) (by omega) (by omega)
  rw[show ((0:Nat):Int)=0 from rfl]at h1
  rw[h1]
  cases o with
  | inr v=>exact ⟨v,rfl, .inl h2⟩
  | inl r =>
   rw[List.drop_zero]at h2
   exact ⟨r,rfl, .inr ⟨by omega,h2.2.2,by omega⟩⟩
theorem toKeys {a:List GKey} (h:a.length<=1048576):g_laws_toKeyS a=some a:=by
 unfold g_laws_toKeyS
 rw[mk_eq (by omega) (by omega),Option.bind_some,copyLoop (g_laws_toKeyS_l0 a) (λ _ _ _=>rfl) (by omega) (by simp)]
 rfl
theorem eqItem_self (x:GItem):g_laws_eqItem x x=some true:=by
 unfold g_laws_eqItem
 simp only[bne_self',cond_false]
theorem eqKeys {a:List GKey} (h:a.length<=1048576):g_laws_eqKeyS a a=some true :=
 eqRefl (g_laws_eqKeyS_l0 a a) _ rfl (λ k n x hx hn=>by
  rw[g_laws_eqKeyS_l0,decide_eq_true (by omega),cond_true,getI_nat,hx]
  simp only[Option.bind_some]
  unfold g_laws_eqKey
  rw[eqItem_self]
  simp only[bne_self',cond_false,Option.bind_some,Bool.not_true]
  rw[nxt (by omega)]) (λ k n hn=>by rw[g_laws_eqKeyS_l0,decide_eq_false (by omega),cond_false]) (by omega)
theorem law_planText {a:List GKey} (hl:a.length<=9223372036854775807) (hw:∀ x ∈ a,KeyW x):g_laws_FnExactPlanText a=some true:=by
 unfold g_laws_FnExactPlanText
 obtain ⟨y,hy,hy2⟩:=szKeys hl hw
 rw[hy,Option.bind_some]
 rcases hy2 with hy2|⟨h0,hi,hc⟩
 ·rw[decide_eq_true hy2];rfl
 ·by_cases hneg:y < 0
  ·rw[decide_eq_true hneg];rfl
  ·obtain ⟨t,e1,e2⟩:=planText_both h0 hi (by omega)
   rw[decide_eq_false hneg,cond_false,toKeys h0]
   simp only[Option.bind_some,e1,e2,eqKeys h0,bne_self',Bool.not_true,cond_false]
end Go.Proofs.YtgekblgaooaclaaDoor

namespace Go.Proofs.YtgekblgaooaclaaDoor
open Go Go.Fm
set_option maxRecDepth 100000
theorem typed_GKey:Typed [.int .i64, .int .i64, .str, .int .i32, .bool, .int .u32] GKey.cs (λ x:GKey=>(λ n:Int=>(Lit.int .i64 n).wf=true) x.Op/\(λ x:GItem=>(λ n:Int=>(Lit.int .i64 n).wf=true) x.Kind/\(λ l:Bs=>l.length<=maxLen) x.Name/\(λ n:Int=>(Lit.int .i32 n).wf=true) x.N/\(λ _:Bool=>True) x.Hex/\(λ n:Int=>(Lit.int .u32 n).wf=true) x.Raw) x.Item):=λ row hl h=>by
 match row,hl with
 | [c0,c1,c2,c3,c4,c5],_ =>
  obtain ⟨x0,e0,g0⟩:=(typed_int .i64) [c0] rfl (Go.Fm.one_cell (h 0 _ c0 rfl rfl))
  obtain ⟨x1,e1,g1⟩:=(typed_int .i64) [c1] rfl (Go.Fm.one_cell (h 1 _ c1 rfl rfl))
  obtain ⟨x2,e2,g2⟩:=(typed_str) [c2] rfl (Go.Fm.one_cell (h 2 _ c2 rfl rfl))
  obtain ⟨x3,e3,g3⟩:=(typed_int .i32) [c3] rfl (Go.Fm.one_cell (h 3 _ c3 rfl rfl))
  obtain ⟨x4,e4,g4⟩:=(typed_bool) [c4] rfl (Go.Fm.one_cell (h 4 _ c4 rfl rfl))
  obtain ⟨x5,e5,g5⟩:=(typed_int .u32) [c5] rfl (Go.Fm.one_cell (h 5 _ c5 rfl rfl))
  obtain rfl:=(List.cons.inj e0).1
  obtain rfl:=(List.cons.inj e1).1
  obtain rfl:=(List.cons.inj e2).1
  obtain rfl:=(List.cons.inj e3).1
  obtain rfl:=(List.cons.inj e4).1
  obtain rfl:=(List.cons.inj e5).1
  exact ⟨(⟨x0,(⟨x1,x2,x3,x4,x5⟩:GItem)⟩:GKey),rfl,⟨g0,⟨g1,g2,g3,g4,g5⟩⟩⟩
theorem ans_FnExactPlanText (x0:List GKey) (g0:(λ xs:List GKey=>xs.length<=maxLen/\∀ x ∈ xs,(λ x:GKey=>(λ n:Int=>(Lit.int .i64 n).wf=true) x.Op/\(λ x:GItem=>(λ n:Int=>(Lit.int .i64 n).wf=true) x.Kind/\(λ l:Bs=>l.length<=maxLen) x.Name/\(λ n:Int=>(Lit.int .i32 n).wf=true) x.N/\(λ _:Bool=>True) x.Hex/\(λ n:Int=>(Lit.int .u32 n).wf=true) x.Raw) x.Item) x) x0) :
  Ans Tryd.prog 3 [.one (.imm 6 x0.length (x0.flatMap GKey.cs))] [] λ v _=>v=Go.Fm.one (.bool true):=λ hm=>by
 obtain ⟨r,h1,a,b,c,_⟩:=ce_laws_FnExactPlanText (x0) true (good_pure rfl rfl) (law_planText g0.1 (λ x hx=>⟨(g0.2 x hx).2.2.1,wfU32 (g0.2 x hx).2.2.2.2.2⟩)) hm
 exact ⟨r,h1,a,b⟩
end Go.Proofs.YtgekblgaooaclaaDoor
