import Derived.Test.YtgfamepnkhpemaaGreatDoorCS
import Derived.Shelf.Strconv.Itoa3
import Derived.Shelf.Strconv.ToError
import Derived.Shelf.Strconv.ToErrorRange
import Derived.Shelf.Strings.OnBuilder
import Derived.KernelRfl
set_option linter.all false
namespace Go.Proofs.YtgfamepnkhpemaaGreatDoor
open Go Go.Fm
set_option maxRecDepth 100000
abbrev Bs:=List UInt8
structure GL01Cur where
 b:List Int
 i:Int
 h:Int
 deriving DecidableEq,Inhabited
structure GItem where
 Kind:Int
 Name:Bs
 N:Int
 Hex:Bool
 Raw:Int
 deriving DecidableEq,Inhabited
structure GSpot where
 word:Bs
 at_:Int
 deriving DecidableEq,Inhabited
def GL01Cur.cs (x:GL01Cur):List CV:=[.imm 1 x.b.length (x.b.flatMap (eI .u8)), .int .i64 x.i, .int .i64 x.h]
def GItem.cs (x:GItem):List CV:=[.int .i64 x.Kind, .str x.Name, .int .i32 x.N, .bool x.Hex, .int .u32 x.Raw]
def GSpot.cs (x:GSpot):List CV:=[.str x.word, .int .i64 x.at_]
instance:StTy:=⟨λ n=>match n with|0=>GL01Cur|1=>GItem|2=>GSpot|_=>Unit,λ n=>match n with|0=>3|1=>5|2=>2|_=>0,lkA [(50,1),(77,2),(110,0)],185⟩
noncomputable instance:StCs:=⟨λ n=>match n with|0=>GL01Cur.cs|1=>GItem.cs|2=>GSpot.cs|_=>λ _=>[]⟩
noncomputable def GL01Cur.lv (x:GL01Cur):List TC:=[.imm (.int .u8) x.b, .int .i64 x.i, .int .i64 x.h]
noncomputable def GL01Cur.of:List TC->Option GL01Cur
 | [c0,c1,c2]=>(tImm (.int .u8) c0).bind λ x0=>(tInt .i64 c1).bind λ x1=>(tInt .i64 c2).bind λ x2=>some ⟨x0,x1,x2⟩
 | _=>none
theorem GL01Cur.made {l:List TC} {v:GL01Cur} (h:GL01Cur.of l=some v):CRs l v.lv:=by
 match l,h with
 | [c0,c1,c2],h =>
  obtain ⟨x0,e0,h⟩:=bS h
  obtain ⟨x1,e1,h⟩:=bS h
  obtain ⟨x2,e2,h⟩:=bS h
  cases h
  exact ⟨tImm_cr e0,tInt_cr e1,tInt_cr e2,trivial⟩
noncomputable def GItem.lv (x:GItem):List TC:=[.int .i64 x.Kind, .str x.Name, .int .i32 x.N, .bool x.Hex, .int .u32 x.Raw]
noncomputable def GItem.of:List TC->Option GItem
 | [c0,c1,c2,c3,c4]=>(tInt .i64 c0).bind λ x0=>(tStr c1).bind λ x1=>(tInt .i32 c2).bind λ x2=>(tBool c3).bind λ x3=>(tInt .u32 c4).bind λ x4=>some ⟨x0,x1,x2,x3,x4⟩
 | _=>none
theorem GItem.made {l:List TC} {v:GItem} (h:GItem.of l=some v):CRs l v.lv:=by
 match l,h with
 | [c0,c1,c2,c3,c4],h =>
  obtain ⟨x0,e0,h⟩:=bS h
  obtain ⟨x1,e1,h⟩:=bS h
  obtain ⟨x2,e2,h⟩:=bS h
  obtain ⟨x3,e3,h⟩:=bS h
  obtain ⟨x4,e4,h⟩:=bS h
  cases h
  exact ⟨tInt_cr e0,tStr_cr e1,tInt_cr e2,tBool_cr e3,tInt_cr e4,trivial⟩
noncomputable def GSpot.lv (x:GSpot):List TC:=[.str x.word, .int .i64 x.at_]
noncomputable def GSpot.of:List TC->Option GSpot
 | [c0,c1]=>(tStr c0).bind λ x0=>(tInt .i64 c1).bind λ x1=>some ⟨x0,x1⟩
 | _=>none
theorem GSpot.made {l:List TC} {v:GSpot} (h:GSpot.of l=some v):CRs l v.lv:=by
 match l,h with
 | [c0,c1],h =>
  obtain ⟨x0,e0,h⟩:=bS h
  obtain ⟨x1,e1,h⟩:=bS h
  cases h
  exact ⟨tStr_cr e0,tInt_cr e1,trivial⟩
noncomputable instance:Structs where
 leaves:=λ n=>match n with|0=>GL01Cur.lv|1=>GItem.lv|2=>GSpot.lv|_=>λ _=>[]
 make:=λ n=>match n with|0=>GL01Cur.of|1=>GItem.of|2=>GSpot.of|_=>λ _=>none
 plain:=λ n=>match n with|0=>false|1=>true|2=>true|_=>false
 lt:=λ n=>match n with|0=>[(.int .u8), .bool, .bool]|1=>[.bool, .bool, .bool, .bool, .bool]|2=>[.bool, .bool]|_=>[]
 len:=λ n v=>match n,v with|0,_=>rfl|1,_=>rfl|2,_=>rfl|_+3,_=>rfl
 conc:=λ n v=>match n,v with|0,_=>rfl|1,_=>rfl|2,_=>rfl|_+3,_=>rfl
 pure:=λ n v=>match n,v with|0,_=>rfl|1,_=>rfl|2,_=>rfl|_+3,_=>rfl
 made:=λ n l v h=>match n,v,h with|0,v,h=>GL01Cur.made h|1,v,h=>GItem.made h|2,v,h=>GSpot.made h|_+3,_,h=>nomatch h
 flat:=λ n v h=>match n,v,h with|0,_,h=>nomatch h|1,_,_=>rfl|2,_,_=>rfl|_+3,_,h=>nomatch h
noncomputable instance:Tabs:=⟨λ g=>match g with|0=>some ⟨.int .u64,gtPow10⟩|2=>some ⟨.err,([-1]:List Int)⟩|3=>some ⟨.err,([-1]:List Int)⟩|5=>some ⟨.int .u8,gtBruijn⟩|_=>none,λ g=>match g with|0=>rfl|1=>rfl|2=>rfl|3=>rfl|4=>rfl|5=>rfl|_+6=>rfl⟩
abbrev K0:Ty:=.int .u8
abbrev K1:Ty:=.list K0
abbrev K2:Ty:=.bool
abbrev K3:Ty:=.int .i64
abbrev K4:Ty:=.st 0
abbrev K5:Ty:=.str
abbrev K6:Ty:=.int .i32
abbrev K7:Ty:=.int .u32
abbrev K8:Ty:=.st 1
abbrev K9:Ty:=.list K8
abbrev K10:Ty:=.list K3
abbrev K11:Ty:=.list K5
abbrev K12:Ty:=.int .u64
abbrev K13:Ty:=.st 2
abbrev K14:Ty:=.list K13
abbrev K15:Ty:=.err
abbrev K16:Ty:=.list K7
end Go.Proofs.YtgfamepnkhpemaaGreatDoor
namespace Go.Proofs.YtgfamepnkhpemaaGreatDoor
open Go Go.Fm
set_option maxRecDepth 1000000
def g_laws_big (code_1:List Int):Option Bool:=some (decide ((code_1.length:Int) > 1048576))
def g_spec_l01New_l0 (code_1:List Int):Nat->Int->Int->Option Int
 | 0,_,_=>none
 | k+1,h_4,i_5=>(cond (decide (i_5 < (code_1.length:Int))) (some (decide (i_5 < 4000))) (some false):Option (Bool)).bind λ v_7=>cond v_7 ((getI code_1 i_5).bind λ v_8=>g_spec_l01New_l0 code_1 k (andI .i64 (IntKind.wrap .i64 ((IntKind.wrap .i64 ((IntKind.wrap .i64 (h_4*131))+(IntKind.wrap .i64 v_8)))+7)) 1073741823) (IntKind.wrap .i64 (i_5+1))) (some h_4)
def g_spec_l01New (code_1:List Int):Option GL01Cur:=((g_spec_l01New_l0 code_1 bigK (IntKind.wrap .i64 (711711+(code_1.length:Int))) 0).bind λ h_6=>some h_6:Option (Int)).bind λ h_3=>some (⟨code_1,0,h_3⟩:GL01Cur)
def g_spec_l01Byte (c_1:GL01Cur):Option (Int×GL01Cur):=(cond (decide (c_1.i < (c_1.b.length:Int))) ((getI c_1.b c_1.i).bind λ v_6=>some (andI .i64 (IntKind.wrap .i64 ((andI .i64 (xorI .i64 ((IntKind.wrap .i64 ((IntKind.wrap .i64 (c_1.h*6364136223846793005))+1442695040888963407)) / 8589934592) ((IntKind.wrap .i64 ((IntKind.wrap .i64 (c_1.h*6364136223846793005))+1442695040888963407)) / 35184372088832)) 255)+(IntKind.wrap .i64 v_6))) 255,(⟨c_1.b,IntKind.wrap .i64 (c_1.i+1),IntKind.wrap .i64 ((IntKind.wrap .i64 (c_1.h*6364136223846793005))+1442695040888963407)⟩:GL01Cur))) (some (andI .i64 (xorI .i64 ((IntKind.wrap .i64 ((IntKind.wrap .i64 (c_1.h*6364136223846793005))+1442695040888963407)) / 8589934592) ((IntKind.wrap .i64 ((IntKind.wrap .i64 (c_1.h*6364136223846793005))+1442695040888963407)) / 35184372088832)) 255,(⟨c_1.b,c_1.i,IntKind.wrap .i64 ((IntKind.wrap .i64 (c_1.h*6364136223846793005))+1442695040888963407)⟩:GL01Cur))):Option ((Int×GL01Cur))).bind λ (x_4,x_5)=>some (x_4,x_5)
def g_spec_l01Below (n_1:Int) (c_2:GL01Cur):Option (Int×GL01Cur):=cond (decide (n_1<=0)) (some (0,c_2)) (cond (decide (n_1<=256)) ((g_spec_l01Byte c_2).bind λ y_5=>(remI .i64 y_5.1 n_1).bind λ v_6=>some (v_6,y_5.2)) ((g_spec_l01Byte c_2).bind λ y_7=>(g_spec_l01Byte y_7.2).bind λ y_8=>(g_spec_l01Byte y_8.2).bind λ y_9=>(g_spec_l01Byte y_9.2).bind λ y_10=>(remI .i64 (IntKind.wrap .i64 ((IntKind.wrap .i64 ((IntKind.wrap .i64 ((IntKind.wrap .i64 (y_7.1*16777216))+(IntKind.wrap .i64 (y_8.1*65536))))+(IntKind.wrap .i64 (y_9.1*256))))+y_10.1)) n_1).bind λ v_11=>some (v_11,y_10.2)))
def g_spec_l01Once (n_1:Int) (c_2:GL01Cur):Option (Bool×GL01Cur):=(g_spec_l01Below n_1 c_2).bind λ y_5=>some ((y_5.1==0),y_5.2)
def g_spec_l01PickInt (list_1:List Int) (c_2:GL01Cur):Option (Int×GL01Cur):=(g_spec_l01Below (list_1.length:Int) c_2).bind λ y_5=>(getI list_1 y_5.1).bind λ v_6=>some (v_6,y_5.2)
def g_spec_l04Int (c_1:GL01Cur):Option (Int×GL01Cur):=(g_spec_l01Once 2 c_1).bind λ y_4=>cond y_4.1 ((g_spec_l01Below 200 y_4.2).bind λ y_5=>some (IntKind.wrap .i32 (IntKind.wrap .i64 (y_5.1-40)),y_5.2)) ((g_spec_l01PickInt [0,67108863,67108864,(-67108864),(-67108865),2147483647,(-2147483648),1000000,(-1)] y_4.2).bind λ y_6=>some (IntKind.wrap .i32 y_6.1,y_6.2))
def g_spec_l01Pick (list_1:List Bs) (c_2:GL01Cur):Option (Bs×GL01Cur):=(g_spec_l01Below (list_1.length:Int) c_2).bind λ y_5=>(getI list_1 y_5.1).bind λ v_6=>some (v_6,y_5.2)
def g_spec_l01In (x_1:Int) (a_2:Int) (b_3:Int):Option Bool:=cond (decide (x_1 ≥ a_2)) (some (decide (x_1<=b_3))) (some false)
def g_spec_l02All:Option Bs:=some [32,114,116,111,101,97,110,105,115,109,99,121,108,103,102,119,100,118,112,98,104,120,117,113,48,49,50,51,52,53,54,55,56,57,106,45,107,46,122,47,59,39,33,43,64,42,44,63]
def g_spec_LetterAt (k_1:Int):Option Int:=(g_spec_l01In k_1 0 47).bind λ y_3=>cond (!y_3) (some 0) ((g_spec_l02All).bind λ y_4=>(idxS y_4 k_1).bind λ v_5=>some v_5)
def g_spec_l02Name_l0 (n_10:Int):Nat->(List Int)->Int->GL01Cur->Option ((List Int)×GL01Cur)
 | 0,_,_,_=>none
 | k+1,out_11,i_12,x_13=>cond (decide (i_12 < n_10)) ((g_spec_l01Below 47 x_13).bind λ y_16=>(g_spec_LetterAt (IntKind.wrap .i64 (1+y_16.1))).bind λ y_17=>(app out_11 [y_17]).bind λ v_18=>g_spec_l02Name_l0 n_10 k v_18 (IntKind.wrap .i64 (i_12+1)) y_16.2) (some (out_11,x_13))
def g_spec_l02Name (c_1:GL01Cur):Option (Bs×GL01Cur):=(g_spec_l01Once 2 c_1).bind λ y_4=>cond y_4.1 ((g_spec_l01Pick [[100,117,112],[111,118,101,114],[115,113,117,97,114,101],[97,33],[50,42],[103,111],[45,105,102],[59],[63],[114,114,114,114,114,114,114],[114,116,111,101,97,110,105],[119,119,119,119,119,119],[113,113,113,113,113],[120]] y_4.2).bind λ y_5=>some (y_5.1,y_5.2)) ((g_spec_l01Below 9 y_4.2).bind λ y_6=>((g_spec_l02Name_l0 (IntKind.wrap .i64 (1+y_6.1)) bigK ([]:List Int) 0 y_6.2).bind λ (out_14,x_15)=>some (out_14,x_15):Option (((List Int)×GL01Cur))).bind λ (out_7,x_8)=>some (strOf out_7,x_8))
def g_spec_l04Some (c_1:GL01Cur):Option (GItem×GL01Cur):=(g_spec_l01Below 8 c_1).bind λ y_4=>cond (y_4.1==0) ((g_spec_l04Int y_4.2).bind λ y_5=>(g_spec_l01Once 3 y_5.2).bind λ y_6=>some ((⟨7,[],y_5.1,y_6.1,0⟩:GItem),y_6.2)) (cond (y_4.1==1) ((g_spec_l04Int y_4.2).bind λ y_7=>(g_spec_l01Once 3 y_7.2).bind λ y_8=>some ((⟨8,[],y_7.1,y_8.1,0⟩:GItem),y_8.2)) (cond (y_4.1==2) ((g_spec_l01Pick [[120],[97,116],[113,113,113,113],[116,101,110]] y_4.2).bind λ y_9=>(g_spec_l04Int y_9.2).bind λ y_10=>some ((⟨9,y_9.1,y_10.1,false,0⟩:GItem),y_10.2)) ((g_spec_l01Below 6 y_4.2).bind λ y_11=>(g_spec_l02Name y_11.2).bind λ y_12=>some ((⟨IntKind.wrap .i64 (1+y_11.1),y_12.1,0,false,0⟩:GItem),y_12.2))))
def g_spec_l01Word (c_1:GL01Cur):Option (Int×GL01Cur):=(g_spec_l01Below 4 c_1).bind λ y_4=>cond (y_4.1==0) ((g_spec_l01PickInt [0,1,2,31,32,255,256,2147483647,2147483648,4294967295,4294967294] y_4.2).bind λ y_5=>some (IntKind.wrap .u32 y_5.1,y_5.2)) (cond (y_4.1==1) ((g_spec_l01Below 300 y_4.2).bind λ y_6=>some (IntKind.wrap .u32 y_6.1,y_6.2)) ((g_spec_l01Below 65536 y_4.2).bind λ y_7=>(g_spec_l01Below 65536 y_7.2).bind λ y_8=>some (IntKind.wrap .u32 ((IntKind.wrap .u32 ((IntKind.wrap .u32 y_7.1)*65536))+(IntKind.wrap .u32 y_8.1)),y_8.2)))
def g_spec_l04Any (c_1:GL01Cur):Option (GItem×GL01Cur):=(g_spec_l04Some c_1).bind λ y_4=>((g_spec_l01Below 14 y_4.2).bind λ y_11=>cond (y_11.1==0) ((g_spec_l01Word y_11.2).bind λ y_12=>some (.inr (y_12.2,(⟨0,[],0,false,y_12.1⟩:GItem),y_4.1))) (cond (y_11.1==1) ((g_spec_l01Below 12 y_11.2).bind λ y_13=>some (.inl (y_13.2,(⟨0,[],0,false,0⟩:GItem),(⟨IntKind.wrap .i64 (y_13.1-1),y_4.1.Name,y_4.1.N,y_4.1.Hex,y_4.1.Raw⟩:GItem)))) (cond (y_11.1==2) ((g_spec_l01Pick [[],[65],[113,113,113,113,113],[115,113,117,97,114,101,115,113,117,97,114,101]] y_11.2).bind λ y_14=>some (.inl (y_14.2,(⟨0,[],0,false,0⟩:GItem),(⟨y_4.1.Kind,y_14.1,y_4.1.N,y_4.1.Hex,y_4.1.Raw⟩:GItem)))) (cond (y_11.1==3) ((g_spec_l01Below 3 y_11.2).bind λ y_15=>some (.inl (y_15.2,(⟨0,[],0,false,0⟩:GItem),(⟨y_4.1.Kind,y_4.1.Name,y_4.1.N,y_4.1.Hex,IntKind.wrap .u32 y_15.1⟩:GItem)))) (some (.inl (y_11.2,(⟨0,[],0,false,0⟩:GItem),y_4.1)))))):Option ((GL01Cur×GItem×GItem) ⊕ (GL01Cur×GItem×GItem))).bind λ o=>match o with | .inl (x_5,x_6,x_7)=>some (x_7,x_5) | .inr (x_8,x_9,x_10)=>some (x_9,x_8)
def g_spec_l04List_l0 (n_8:Int):Nat->(List GItem)->Int->GL01Cur->Option ((List GItem)×GL01Cur)
 | 0,_,_,_=>none
 | k+1,out_9,i_10,x_11=>cond (decide (i_10 < n_8)) (((g_spec_l04Some x_11).bind λ y_16=>((g_spec_l01Once 9 y_16.2).bind λ y_19=>cond y_19.1 ((g_spec_l04Any y_19.2).bind λ y_20=>some (y_20.2,y_20.1)) (some (y_19.2,y_16.1)):Option ((GL01Cur×GItem))).bind λ (x_17,x_18)=>(app out_9 [x_18]).bind λ v_21=>some (v_21,x_17):Option (((List GItem)×GL01Cur))).bind λ (out_14,x_15)=>g_spec_l04List_l0 n_8 k out_14 (IntKind.wrap .i64 (i_10+1)) x_15) (some (out_9,x_11))
def g_spec_l04List (most_1:Int) (c_2:GL01Cur):Option ((List GItem)×GL01Cur):=(g_spec_l01Below most_1 c_2).bind λ y_5=>((g_spec_l04List_l0 y_5.1 bigK ([]:List GItem) 0 y_5.2).bind λ (out_12,x_13)=>some (out_12,x_13):Option (((List GItem)×GL01Cur))).bind λ (out_6,x_7)=>some (out_6,x_7)
def g_spec_DrawTypeText (code_1:List Int):Option (List GItem):=(g_spec_l01New code_1).bind λ y_3=>(g_spec_l04List 8 y_3).bind λ y_4=>((g_spec_l01Once 4 y_4.2).bind λ y_7=>cond y_7.1 ((g_spec_l01PickInt [3,1,9,4] y_7.2).bind λ y_8=>(g_spec_l01Pick [[49,50],[45,49],[48],[57]] y_8.2).bind λ y_9=>(app y_4.1 [(⟨y_8.1,y_9.1,0,false,0⟩:GItem)]).bind λ v_10=>some (v_10,y_9.2)) (some (y_4.1,y_7.2)):Option (((List GItem)×GL01Cur))).bind λ (list_5,x_6)=>some list_5
def g_impl_keyKinds:Option (List Int):=some [2,3,1,4,5,6,9]
def g_impl_colorKeys:Option Bs:=some [82,71,89,87,84,66,86]
def g_strconv_Itoa (i_1:Int):Option Bs:=gItoa i_1
def g_impl_DecText (n_1:Int):Option Bs:=(g_strconv_Itoa n_1).bind λ y_3=>some y_3
def g_istrconv_small (i_1:Int):Option Bs:=cond (decide (i_1 < 10)) ((subL [48,49,50,51,52,53,54,55,56,57,97,98,99,100,101,102,103,104,105,106,107,108,109,110,111,112,113,114,115,116,117,118,119,120,121,122] i_1 (IntKind.wrap .i64 (i_1+1))).bind λ v_3=>some v_3) ((subL [48,48,48,49,48,50,48,51,48,52,48,53,48,54,48,55,48,56,48,57,49,48,49,49,49,50,49,51,49,52,49,53,49,54,49,55,49,56,49,57,50,48,50,49,50,50,50,51,50,52,50,53,50,54,50,55,50,56,50,57,51,48,51,49,51,50,51,51,51,52,51,53,51,54,51,55,51,56,51,57,52,48,52,49,52,50,52,51,52,52,52,53,52,54,52,55,52,56,52,57,53,48,53,49,53,50,53,51,53,52,53,53,53,54,53,55,53,56,53,57,54,48,54,49,54,50,54,51,54,52,54,53,54,54,54,55,54,56,54,57,55,48,55,49,55,50,55,51,55,52,55,53,55,54,55,55,55,56,55,57,56,48,56,49,56,50,56,51,56,52,56,53,56,54,56,55,56,56,56,57,57,48,57,49,57,50,57,51,57,52,57,53,57,54,57,55,57,56,57,57] (IntKind.wrap .i64 (i_1*2)) (IntKind.wrap .i64 ((IntKind.wrap .i64 (i_1*2))+2))).bind λ v_4=>some v_4)
def g_math_bits_Len64 (x_1:Int):Option Int:=(cond (decide (x_1 ≥ 4294967296)) (some (x_1 / 4294967296,32)) (some (x_1,0)):Option ((Int×Int))).bind λ (x_3,n_4)=>(cond (decide (x_3 ≥ 65536)) (some (x_3 / 65536,IntKind.wrap .i64 (n_4+16))) (some (x_3,n_4)):Option ((Int×Int))).bind λ (x_5,n_6)=>(cond (decide (x_5 ≥ 256)) (some (x_5 / 256,IntKind.wrap .i64 (n_6+8))) (some (x_5,n_6)):Option ((Int×Int))).bind λ (x_7,n_8)=>(idxS [0,1,2,2,3,3,3,3,4,4,4,4,4,4,4,4,5,5,5,5,5,5,5,5,5,5,5,5,5,5,5,5,6,6,6,6,6,6,6,6,6,6,6,6,6,6,6,6,6,6,6,6,6,6,6,6,6,6,6,6,6,6,6,6,7,7,7,7,7,7,7,7,7,7,7,7,7,7,7,7,7,7,7,7,7,7,7,7,7,7,7,7,7,7,7,7,7,7,7,7,7,7,7,7,7,7,7,7,7,7,7,7,7,7,7,7,7,7,7,7,7,7,7,7,7,7,7,7,8,8,8,8,8,8,8,8,8,8,8,8,8,8,8,8,8,8,8,8,8,8,8,8,8,8,8,8,8,8,8,8,8,8,8,8,8,8,8,8,8,8,8,8,8,8,8,8,8,8,8,8,8,8,8,8,8,8,8,8,8,8,8,8,8,8,8,8,8,8,8,8,8,8,8,8,8,8,8,8,8,8,8,8,8,8,8,8,8,8,8,8,8,8,8,8,8,8,8,8,8,8,8,8,8,8,8,8,8,8,8,8,8,8,8,8,8,8,8,8,8,8,8,8,8,8,8,8] (IntKind.wrap .u8 x_7)).bind λ v_9=>some (IntKind.wrap .i64 (n_8+(IntKind.wrap .i64 v_9)))
def g_istrconv_log10Pow2 (x_1:Int):Option Int:=some ((IntKind.wrap .i64 (x_1*78913)) / 262144)
def g_istrconv_bool2_int (b_1:Bool):Option Int:=cond b_1 (some 1) (some 0)
def g_istrconv_numDigits (d_1:Int):Option Int:=(g_math_bits_Len64 d_1).bind λ y_3=>(g_istrconv_log10Pow2 y_3).bind λ y_4=>(getI gtPow10 y_4).bind λ v_5=>(g_istrconv_bool2_int (decide (d_1 ≥ v_5))).bind λ y_6=>some (IntKind.wrap .i64 (y_4+y_6))
def g_istrconv_isPowerOfTwo (x_1:Int):Option Bool:=some ((andI .i64 x_1 (IntKind.wrap .i64 (x_1-1)))==0)
def g_math_bits_TrailingZeros64 (x_1:Int):Option Int:=cond (x_1==0) (some 64) ((shrI .u64 (IntKind.wrap .u64 ((andI .u64 x_1 (IntKind.wrap .u64 (0-x_1)))*285870213051353865)) 58).bind λ v_3=>(getI gtBruijn v_3).bind λ v_4=>some (IntKind.wrap .i64 v_4))
def g_math_bits_TrailingZeros (x_1:Int):Option Int:=(g_math_bits_TrailingZeros64 x_1).bind λ y_3=>some y_3
def g_istrconv_formatBits_l0 (shift_14:Int) (b_15:Int) (m_16:Int):Nat->Int->Int->(List Int)->Option (Int×Int×(List Int))
 | 0,_,_,_=>none
 | k+1,u_17,i_18,p_19=>cond (decide (u_17 ≥ b_15)) ((idxS [48,49,50,51,52,53,54,55,56,57,97,98,99,100,101,102,103,104,105,106,107,108,109,110,111,112,113,114,115,116,117,118,119,120,121,122] (andI .u64 u_17 m_16)).bind λ v_23=>(chk (Nat.beq 65 (p_19).length)).bind λ v__24=>(getI p_19 (IntKind.wrap .i64 (i_18-1))).bind λ v_25=>(shrI .u64 u_17 shift_14).bind λ v_26=>g_istrconv_formatBits_l0 shift_14 b_15 m_16 k v_26 (IntKind.wrap .i64 (i_18-1)) (p_19.set (IntKind.wrap .i64 (i_18-1)).toNat v_23)) (some (u_17,i_18,p_19))
def g_istrconv_formatBits_l1 (b_31:Int):Nat->Int->Int->(List Int)->Option (Int×Int×(List Int))
 | 0,_,_,_=>none
 | k+1,u_32,i_33,p_34=>cond (decide (u_32 ≥ b_31)) ((quoI .u64 u_32 b_31).bind λ v_38=>(idxS [48,49,50,51,52,53,54,55,56,57,97,98,99,100,101,102,103,104,105,106,107,108,109,110,111,112,113,114,115,116,117,118,119,120,121,122] (IntKind.wrap .u64 (u_32-(IntKind.wrap .u64 (v_38*b_31))))).bind λ v_39=>(chk (Nat.beq 65 (p_34).length)).bind λ v__40=>(getI p_34 (IntKind.wrap .i64 (i_33-1))).bind λ v_41=>g_istrconv_formatBits_l1 b_31 k v_38 (IntKind.wrap .i64 (i_33-1)) (p_34.set (IntKind.wrap .i64 (i_33-1)).toNat v_39)) (some (u_32,i_33,p_34))
def g_istrconv_formatBits (dst_1:List Int) (u_2:Int) (base_3:Int) (neg_4:Bool) (append__5:Bool):Option Bs:=((cond (decide (base_3 < 2)) (some true) (cond (base_3==10) (some true) (some (decide (base_3 > 36)))):Option (Bool)).bind λ v_7=>cond v_7 (none) (some ()):Option (Unit)).bind λ _=>(cond neg_4 (some (IntKind.wrap .u64 (0-u_2))) (some u_2):Option (Int)).bind λ u_8=>((g_istrconv_isPowerOfTwo base_3).bind λ y_11=>cond y_11 ((g_math_bits_TrailingZeros (IntKind.wrap .u64 base_3)).bind λ y_12=>(g_istrconv_formatBits_l0 (IntKind.wrap .u64 y_12) (IntKind.wrap .u64 base_3) (IntKind.wrap .u64 ((IntKind.wrap .u64 base_3)-1)) bigK u_8 65 (zB 65)).bind λ (u_20,i_21,p_22)=>(idxS [48,49,50,51,52,53,54,55,56,57,97,98,99,100,101,102,103,104,105,106,107,108,109,110,111,112,113,114,115,116,117,118,119,120,121,122] u_20).bind λ v_27=>(chk (Nat.beq 65 (p_22).length)).bind λ v__28=>(getI p_22 (IntKind.wrap .i64 (i_21-1))).bind λ v_29=>some (IntKind.wrap .i64 (i_21-1),p_22.set (IntKind.wrap .i64 (i_21-1)).toNat v_27)) ((g_istrconv_formatBits_l1 (IntKind.wrap .u64 base_3) bigK u_8 65 (zB 65)).bind λ (u_35,i_36,p_37)=>(idxS [48,49,50,51,52,53,54,55,56,57,97,98,99,100,101,102,103,104,105,106,107,108,109,110,111,112,113,114,115,116,117,118,119,120,121,122] u_35).bind λ v_42=>(chk (Nat.beq 65 (p_37).length)).bind λ v__43=>(getI p_37 (IntKind.wrap .i64 (i_36-1))).bind λ v_44=>some (IntKind.wrap .i64 (i_36-1),p_37.set (IntKind.wrap .i64 (i_36-1)).toNat v_42)):Option ((Int×(List Int)))).bind λ (i_9,p_10)=>(cond neg_4 ((chk (Nat.beq 65 (p_10).length)).bind λ v__47=>(getI p_10 (IntKind.wrap .i64 (i_9-1))).bind λ v_48=>some (IntKind.wrap .i64 (i_9-1),p_10.set (IntKind.wrap .i64 (i_9-1)).toNat 45)) (some (i_9,p_10)):Option ((Int×(List Int)))).bind λ (i_45,p_46)=>cond append__5 ((chk (Nat.beq 65 (p_46).length)).bind λ v__49=>(subL p_46 i_45 ((65:Nat):Int)).bind λ v_50=>none) ((chk (Nat.beq 65 (p_46).length)).bind λ v__51=>(subL p_46 i_45 ((65:Nat):Int)).bind λ v_52=>some (strOf v_52))
def g_istrconv_FormatUint (i_1:Int) (base_2:Int):Option Bs:=cond (base_2==10) (cond (decide (i_1 < 100)) ((g_istrconv_small (IntKind.wrap .i64 i_1)).bind λ y_4=>some y_4) ((g_istrconv_numDigits i_1).bind λ y_5=>(chk (Nat.beq 24 ((zB 24)).length)).bind λ v__6=>(subL (zB 24) 0 y_5).bind λ v_7=>none)) ((g_istrconv_formatBits [] i_1 base_2 false false).bind λ y_8=>some y_8)
def g_strconv_FormatUint (i_1:Int) (base_2:Int):Option Bs:=(g_istrconv_FormatUint i_1 base_2).bind λ y_4=>some y_4
def g_impl_HexText (n_1:Int):Option Bs:=(g_strconv_FormatUint (IntKind.wrap .u64 n_1) 16).bind λ y_3=>some y_3
def g_strings_Join (xs_1:List Bs) (sep_2:Bs):Option Bs:=gJoin xs_1 sep_2
def g_impl_isSpace (b_1:Int):Option Bool:=cond (b_1==32) (some true) (cond (b_1==10) (some true) (some (b_1==9)))
def g_impl_spots_l1 (s_1:Bs):Nat->Int->Option Int
 | 0,_=>none
 | k+1,i_9=>(cond (decide (i_9 < (s_1.length:Int))) ((idxS s_1 i_9).bind λ v_12=>(g_impl_isSpace v_12).bind λ y_13=>some (!y_13)) (some false):Option (Bool)).bind λ v_11=>cond v_11 (g_impl_spots_l1 s_1 k (IntKind.wrap .i64 (i_9+1))) (some i_9)
def g_impl_spots_l0 (s_1:Bs):Nat->(List GSpot)->Int->Option (List GSpot)
 | 0,_,_=>none
 | k+1,out_4,i_5=>cond (decide (i_5 < (s_1.length:Int))) ((idxS s_1 i_5).bind λ v_7=>(g_impl_isSpace v_7).bind λ y_8=>cond y_8 (g_impl_spots_l0 s_1 k out_4 (IntKind.wrap .i64 (i_5+1))) ((g_impl_spots_l1 s_1 bigK i_5).bind λ i_10=>(subL s_1 i_5 i_10).bind λ v_14=>(app out_4 [(⟨v_14,i_5⟩:GSpot)]).bind λ v_15=>g_impl_spots_l0 s_1 k v_15 i_10)) (some out_4)
def g_impl_spots (s_1:Bs):Option (List GSpot):=((g_impl_spots_l0 s_1 bigK ([]:List GSpot) 0).bind λ out_6=>some out_6:Option ((List GSpot))).bind λ out_3=>some out_3
def g_ibytealg_IndexByteString (s_1:Bs) (c_2:Int):Option Int:=gIdxB s_1 c_2
def g_istringslite_IndexByte (s_1:Bs) (c_2:Int):Option Int:=(g_ibytealg_IndexByteString s_1 c_2).bind λ y_4=>some y_4
def g_strings_IndexByte (s_1:Bs) (c_2:Int):Option Int:=(g_istringslite_IndexByte s_1 c_2).bind λ y_4=>some y_4
def g_impl_ColorKey (b_1:Int):Option Int:=(g_impl_colorKeys).bind λ y_3=>(g_strings_IndexByte y_3 b_1).bind λ y_4=>cond (decide (y_4 ≥ 0)) ((g_impl_keyKinds).bind λ y_5=>(getI y_5 y_4).bind λ v_6=>some v_6) (some (-1))
def g_istringslite_HasPrefix (s_1:Bs) (vprefix_2:Bs):Option Bool:=cond (decide ((s_1.length:Int) ≥ (vprefix_2.length:Int))) ((subL s_1 0 (vprefix_2.length:Int)).bind λ v_4=>some (v_4==vprefix_2)) (some false)
def g_istringslite_CutPrefix (s_1:Bs) (vprefix_2:Bs):Option (Bs×Bool):=(g_istringslite_HasPrefix s_1 vprefix_2).bind λ y_5=>cond (!y_5) (some (s_1,false)) ((subL s_1 (vprefix_2.length:Int) (s_1.length:Int)).bind λ v_6=>some (v_6,true))
def g_strings_CutPrefix (s_1:Bs) (vprefix_2:Bs):Option (Bs×Bool):=(g_istringslite_CutPrefix s_1 vprefix_2).bind λ y_5=>some (y_5.1,y_5.2)
def g_istrconv_lower (c_1:Int):Option Int:=some (orI .u8 c_1 32)
def g_istrconv_underscoreOK_l0 (s_3:Bs) (hex_10:Bool):Nat->Int->Int->Option (Int ⊕ Bool)
 | 0,_,_=>none
 | k+1,saw_21,i_22=>cond (decide (i_22 < (s_3.length:Int))) ((((idxS s_3 i_22).bind λ v_28=>cond (decide ((48:Int)<=v_28)) ((idxS s_3 i_22).bind λ v_29=>cond (decide (v_29<=57)) (some true) (cond hex_10 ((idxS s_3 i_22).bind λ v_30=>(g_istrconv_lower v_30).bind λ y_31=>cond (decide ((97:Int)<=y_31)) ((idxS s_3 i_22).bind λ v_32=>(g_istrconv_lower v_32).bind λ y_33=>some (decide (y_33<=102))) (some false)) (some false))) (cond hex_10 ((idxS s_3 i_22).bind λ v_34=>(g_istrconv_lower v_34).bind λ y_35=>cond (decide ((97:Int)<=y_35)) ((idxS s_3 i_22).bind λ v_36=>(g_istrconv_lower v_36).bind λ y_37=>some (decide (y_37<=102))) (some false)) (some false)):Option (Bool)).bind λ v_27=>cond v_27 (some (.inl 48)) ((idxS s_3 i_22).bind λ v_38=>cond (v_38==95) (cond (saw_21 != 48) (some (.inr false)) (some (.inl 95))) (cond (saw_21==95) (some (.inr false)) (some (.inl 33)))):Option (Int ⊕ Bool)).bind λ o=>match o with | .inl saw_25=>g_istrconv_underscoreOK_l0 s_3 hex_10 k saw_25 (IntKind.wrap .i64 (i_22+1)) | .inr v_26=>some (.inr v_26)) (some (.inl saw_21))
def g_istrconv_underscoreOK (s_1:Bs):Option Bool:=((cond (decide ((s_1.length:Int) ≥ 1)) ((idxS s_1 0).bind λ v_5=>cond (v_5==45) (some true) ((idxS s_1 0).bind λ v_6=>some (v_6==43))) (some false):Option (Bool)).bind λ v_4=>cond v_4 ((subL s_1 1 (s_1.length:Int)).bind λ v_7=>some v_7) (some s_1):Option (Bs)).bind λ s_3=>((cond (decide ((s_3.length:Int) ≥ 2)) ((idxS s_3 0).bind λ v_12=>cond (v_12==48) ((idxS s_3 1).bind λ v_13=>(g_istrconv_lower v_13).bind λ y_14=>cond (y_14==98) (some true) ((idxS s_3 1).bind λ v_15=>(g_istrconv_lower v_15).bind λ y_16=>cond (y_16==111) (some true) ((idxS s_3 1).bind λ v_17=>(g_istrconv_lower v_17).bind λ y_18=>some (y_18==120)))) (some false)) (some false):Option (Bool)).bind λ v_11=>cond v_11 ((idxS s_3 1).bind λ v_19=>(g_istrconv_lower v_19).bind λ y_20=>some (48,2,(y_20==120))) (some (94,0,false)):Option ((Int×Int×Bool))).bind λ (saw_8,i_9,hex_10)=>(g_istrconv_underscoreOK_l0 s_3 hex_10 bigK saw_8 i_9).bind λ o=>match o with | .inl saw_23=>some (saw_23 != 95) | .inr v_24=>some v_24
def g_istrconv_ParseUint_l0 (base_7:Int) (base0_37:Bool) (cutoff_29:Int) (maxVal_38:Int) (v_36:List Int) (v_39:Int):Nat->Bool->Int->Int->Option ((Bool×Int) ⊕ (Int×Int))
 | 0,_,_,_=>none
 | k+1,underscores_40,n_41,v_42=>cond (decide (v_42 < v_39)) (((getI v_36 v_42).bind λ v_51=>((cond (v_51==95) (some base0_37) (some false):Option (Bool)).bind λ v_57=>cond v_57 (some (.inr (.inl true))) ((cond (decide ((48:Int)<=v_51)) (some (decide (v_51<=57))) (some false):Option (Bool)).bind λ v_58=>cond v_58 (some (.inl (underscores_40,IntKind.wrap .u8 (v_51-48)))) (((g_istrconv_lower v_51).bind λ y_60=>cond (decide ((97:Int)<=y_60)) ((g_istrconv_lower v_51).bind λ y_61=>some (decide (y_61<=122))) (some false):Option (Bool)).bind λ v_59=>cond v_59 ((g_istrconv_lower v_51).bind λ y_62=>some (.inl (underscores_40,IntKind.wrap .u8 ((IntKind.wrap .u8 (y_62-97))+10)))) (some (.inr (.inr (0,2)))))):Option ((Bool×Int) ⊕ Bool ⊕ (Int×Int))).bind λ o=>match o with | .inl (underscores_52,d_53)=>cond (decide (d_53 ≥ (IntKind.wrap .u8 base_7))) (some (.inr (0,2))) (cond (decide (n_41 ≥ cutoff_29)) (some (.inr (maxVal_38,1))) ((cond (decide ((IntKind.wrap .u64 ((IntKind.wrap .u64 (n_41*(IntKind.wrap .u64 base_7)))+(IntKind.wrap .u64 d_53))) < (IntKind.wrap .u64 (n_41*(IntKind.wrap .u64 base_7))))) (some true) (some (decide ((IntKind.wrap .u64 ((IntKind.wrap .u64 (n_41*(IntKind.wrap .u64 base_7)))+(IntKind.wrap .u64 d_53))) > maxVal_38))):Option (Bool)).bind λ v_63=>cond v_63 (some (.inr (maxVal_38,1))) (some (.inl (underscores_52,IntKind.wrap .u64 ((IntKind.wrap .u64 (n_41*(IntKind.wrap .u64 base_7)))+(IntKind.wrap .u64 d_53))))))) | .inr (.inl underscores_54)=>some (.inl (underscores_54,n_41)) | .inr (.inr (v_55,v_56))=>some (.inr (v_55,v_56)):Option ((Bool×Int) ⊕ (Int×Int))).bind λ o=>match o with | .inl (underscores_47,n_48)=>g_istrconv_ParseUint_l0 base_7 base0_37 cutoff_29 maxVal_38 v_36 v_39 k underscores_47 n_48 (IntKind.wrap .i64 (v_42+1)) | .inr (v_49,v_50)=>some (.inr (v_49,v_50))) (some (.inl (underscores_40,n_41)))
def g_istrconv_ParseUint (s_1:Bs) (base_2:Int) (bitSize_3:Int):Option (Int×Int):=cond (s_1==[]) (some (0,2)) (((cond (decide ((2:Int)<=base_2)) (some (decide (base_2<=36))) (some false):Option (Bool)).bind λ v_10=>cond v_10 (some (.inl (s_1,base_2))) (cond (base_2==0) ((idxS s_1 0).bind λ v_11=>cond (v_11==48) ((cond (decide ((s_1.length:Int) ≥ 3)) ((idxS s_1 1).bind λ v_13=>(g_istrconv_lower v_13).bind λ y_14=>some (y_14==98)) (some false):Option (Bool)).bind λ v_12=>cond v_12 ((subL s_1 2 (s_1.length:Int)).bind λ v_15=>some (.inl (v_15,2))) ((cond (decide ((s_1.length:Int) ≥ 3)) ((idxS s_1 1).bind λ v_17=>(g_istrconv_lower v_17).bind λ y_18=>some (y_18==111)) (some false):Option (Bool)).bind λ v_16=>cond v_16 ((subL s_1 2 (s_1.length:Int)).bind λ v_19=>some (.inl (v_19,8))) ((cond (decide ((s_1.length:Int) ≥ 3)) ((idxS s_1 1).bind λ v_21=>(g_istrconv_lower v_21).bind λ y_22=>some (y_22==120)) (some false):Option (Bool)).bind λ v_20=>cond v_20 ((subL s_1 2 (s_1.length:Int)).bind λ v_23=>some (.inl (v_23,16))) ((subL s_1 1 (s_1.length:Int)).bind λ v_24=>some (.inl (v_24,8)))))) (some (.inl (s_1,10)))) (some (.inr (0,3)))):Option ((Bs×Int) ⊕ (Int×Int))).bind λ o=>match o with | .inl (s_6,base_7)=>((cond (bitSize_3==0) (some (.inl 64)) ((cond (decide (bitSize_3 < 0)) (some true) (some (decide (bitSize_3 > 64))):Option (Bool)).bind λ v_28=>cond v_28 (some (.inr (0,4))) (some (.inl bitSize_3))):Option (Int ⊕ (Int×Int))).bind λ o=>match o with | .inl bitSize_25=>((cond (base_7==10) (some 1844674407370955162) (cond (base_7==16) (some 1152921504606846976) ((quoI .u64 18446744073709551615 (IntKind.wrap .u64 base_7)).bind λ v_30=>some (IntKind.wrap .u64 (v_30+1)))):Option (Int)).bind λ cutoff_29=>(shlI .u64 1 (IntKind.wrap .u64 bitSize_25)).bind λ v_31=>((s2b s_6).bind λ v_36=>(g_istrconv_ParseUint_l0 base_7 (base_2==0) cutoff_29 (IntKind.wrap .u64 (v_31-1)) v_36 (v_36.length:Int) bigK false 0 0).bind λ o=>match o with | .inl (underscores_43,n_44)=>some (.inl (underscores_43,n_44)) | .inr (v_45,v_46)=>some (.inr (v_45,v_46)):Option ((Bool×Int) ⊕ (Int×Int))).bind λ o=>match o with | .inl (underscores_32,n_33)=>(cond underscores_32 ((g_istrconv_underscoreOK s_1).bind λ y_65=>some (!y_65)) (some false):Option (Bool)).bind λ v_64=>cond v_64 (some (0,2)) (some (n_33,0)) | .inr (v_34,v_35)=>some (v_34,v_35)) | .inr (v_26,v_27)=>some (v_26,v_27)) | .inr (v_8,v_9)=>some (v_8,v_9))
def g_strconv_toError (fn_1 s_2:Bs) (base_3 bits_4 err_5:Int):Option Int:=gToErr fn_1 s_2 base_3 bits_4 err_5
def g_strconv_ParseUint (s_1:Bs) (base_2:Int) (bitSize_3:Int):Option (Int×Int):=(g_istrconv_ParseUint s_1 base_2 bitSize_3).bind λ y_6=>cond (!(y_6.2==0)) ((g_strconv_toError [80,97,114,115,101,85,105,110,116] s_1 base_2 bitSize_3 y_6.2).bind λ y_7=>some (y_6.1,y_7)) (some (y_6.1,0))
def g_impl_ReadHex (s_1:Bs):Option (Int×Bool):=(g_strconv_ParseUint s_1 16 32).bind λ y_4=>(cond (!(y_4.2==0)) (some true) ((g_impl_HexText (IntKind.wrap .u32 y_4.1)).bind λ y_6=>some (y_6 != s_1)):Option (Bool)).bind λ v_5=>cond v_5 (some (0,false)) (some (IntKind.wrap .u32 y_4.1,true))
def g_istrconv_ParseInt (s_1:Bs) (base_2:Int) (bitSize_3:Int):Option (Int×Int):=cond (s_1==[]) (some (0,2)) (((idxS s_1 0).bind λ v_8=>cond (v_8==43) ((subL s_1 1 (s_1.length:Int)).bind λ v_9=>some (v_9,false)) (cond (v_8==45) ((subL s_1 1 (s_1.length:Int)).bind λ v_10=>some (v_10,true)) (some (s_1,false))):Option ((Bs×Bool))).bind λ (s_6,neg_7)=>(g_istrconv_ParseUint s_6 base_2 bitSize_3).bind λ y_11=>(cond (!(y_11.2==0)) ((chk (decide ((0:Int)<=y_11.2)&&decide ((0:Int) < 1))).bind λ v__13=>some (!(y_11.2==1))) (some false):Option (Bool)).bind λ v_12=>cond v_12 (some (0,y_11.2)) ((cond (bitSize_3==0) (some 64) (some bitSize_3):Option (Int)).bind λ bitSize_14=>(shlI .u64 1 (IntKind.wrap .u64 (IntKind.wrap .i64 (bitSize_14-1)))).bind λ v_15=>(cond (!neg_7) (some (decide (y_11.1 ≥ v_15))) (some false):Option (Bool)).bind λ v_16=>cond v_16 (some (IntKind.wrap .i64 (IntKind.wrap .u64 (v_15-1)),1)) ((cond neg_7 (some (decide (y_11.1 > v_15))) (some false):Option (Bool)).bind λ v_17=>cond v_17 (some (IntKind.wrap .i64 (0-(IntKind.wrap .i64 v_15)),1)) ((cond neg_7 (some (IntKind.wrap .i64 (0-(IntKind.wrap .i64 y_11.1)))) (some (IntKind.wrap .i64 y_11.1)):Option (Int)).bind λ n_18=>some (n_18,0)))))
def g_istrconv_Atoi_l0 (v_18:List Int) (v_20:Int):Nat->Int->Int->Option (Int ⊕ (Int×Int))
 | 0,_,_=>none
 | k+1,n_21,v_22=>cond (decide (v_22 < v_20)) ((getI v_18 v_22).bind λ v_26=>cond (decide ((IntKind.wrap .u8 (v_26-48)) > 9)) (some (.inr (0,2))) (g_istrconv_Atoi_l0 v_18 v_20 k (IntKind.wrap .i64 ((IntKind.wrap .i64 (n_21*10))+(IntKind.wrap .i64 (IntKind.wrap .u8 (v_26-48))))) (IntKind.wrap .i64 (v_22+1)))) (some (.inl n_21))
def g_istrconv_Atoi (s_1:Bs):Option (Int×Int):=((cond (decide ((0:Int) < (s_1.length:Int))) (some (decide ((s_1.length:Int) < 19))) (some false):Option (Bool)).bind λ v_7=>cond v_7 ((((idxS s_1 0).bind λ v_12=>cond (v_12==45) (some true) ((idxS s_1 0).bind λ v_13=>some (v_13==43)):Option (Bool)).bind λ v_11=>cond v_11 ((subL s_1 1 (s_1.length:Int)).bind λ v_14=>cond (decide ((v_14.length:Int) < 1)) (some (.inr (0,2))) (some (.inl v_14))) (some (.inl s_1)):Option (Bs ⊕ (Int×Int))).bind λ o=>match o with | .inl s_8=>(((s2b s_8).bind λ v_18=>(g_istrconv_Atoi_l0 v_18 (v_18.length:Int) bigK 0 0).bind λ o=>match o with | .inl n_23=>some (.inl n_23) | .inr (v_24,v_25)=>some (.inr (v_24,v_25)):Option (Int ⊕ (Int×Int))).bind λ o=>match o with | .inl n_15=>((idxS s_1 0).bind λ v_28=>cond (v_28==45) (some (IntKind.wrap .i64 (0-n_15))) (some n_15):Option (Int)).bind λ n_27=>some (.inr (n_27,0)) | .inr (v_16,v_17)=>some (.inr (v_16,v_17))) | .inr (v_9,v_10)=>some (.inr (v_9,v_10))) (some (.inl s_1)):Option (Bs ⊕ (Int×Int))).bind λ o=>match o with | .inl s_4=>(g_istrconv_ParseInt s_4 10 0).bind λ y_29=>some (y_29.1,y_29.2) | .inr (v_5,v_6)=>some (v_5,v_6)
def g_strconv_Atoi (s_1:Bs):Option (Int×Int):=(g_istrconv_Atoi s_1).bind λ y_4=>cond (!(y_4.2==0)) ((g_strconv_toError [65,116,111,105] s_1 0 0 y_4.2).bind λ y_5=>some (y_4.1,y_5)) (some (y_4.1,0))
def g_impl_ReadDec (s_1:Bs):Option (Int×Bool):=(g_strconv_Atoi s_1).bind λ y_4=>(cond (!(y_4.2==0)) (some true) (cond (decide (y_4.1 < (-9999999999))) (some true) (cond (decide (y_4.1 > 9999999999)) (some true) ((g_impl_DecText y_4.1).bind λ y_6=>some (y_6 != s_1)))):Option (Bool)).bind λ v_5=>cond v_5 (some (0,false)) (some (y_4.1,true))
def g_impl_small (s_1:Bs):Option (Int×Bool):=(g_impl_ReadDec s_1).bind λ y_4=>cond y_4.2 (some (IntKind.wrap .i32 y_4.1,(y_4.1==(IntKind.wrap .i64 (IntKind.wrap .i32 y_4.1))))) (some (IntKind.wrap .i32 y_4.1,false))
def g_impl_typedNumber (word_1:Bs):Option (Int×Bool×Bool):=((g_strings_CutPrefix word_1 [36]).bind λ y_8=>cond y_8.2 ((g_impl_ReadHex y_8.1).bind λ y_9=>cond y_9.2 (some (.inr (IntKind.wrap .i32 y_9.1,true,true))) (some (.inl ()))) (some (.inl ())):Option (Unit ⊕ (Int×Bool×Bool))).bind λ o=>match o with | .inl ()=>(g_impl_small word_1).bind λ y_10=>some (y_10.1,false,y_10.2) | .inr (v_5,v_6,v_7)=>some (v_5,v_6,v_7)
def g_impl_nameTag (kind_1:Int):Option Int:=cond (kind_1==1) (some 1) (cond (kind_1==2) (some 3) (cond (kind_1==3) (some 4) (cond (kind_1==4) (some 9) (cond (kind_1==5) (some 10) (cond (kind_1==6) (some 11) (some 0))))))
def g_impl_letters:Option Bs:=some [32,114,116,111,101,97,110,105,115,109,99,121,108,103,102,119,100,118,112,98,104,120,117,113,48,49,50,51,52,53,54,55,56,57,106,45,107,46,122,47,59,39,33,43,64,42,44,63]
def g_impl_LetterOf (b_1:Int):Option Int:=(g_impl_letters).bind λ y_3=>(g_strings_IndexByte y_3 b_1).bind λ y_4=>some y_4
def g_impl_within (n_1:Int) (low_2:Int) (high_3:Int):Option Bool:=cond (decide (low_2<=n_1)) (some (decide (n_1<=high_3))) (some false)
def g_impl_NameOk_l0 (s_1:Bs) (v_4:Int):Nat->Int->Option (Unit ⊕ Bool)
 | 0,_=>none
 | k+1,v_5=>cond (decide (v_5 < v_4)) ((idxS s_1 v_5).bind λ v_7=>(g_impl_LetterOf v_7).bind λ y_8=>cond (decide (y_8 < 1)) (some (.inr false)) (g_impl_NameOk_l0 s_1 v_4 k (IntKind.wrap .i64 (v_5+1)))) (some (.inl ()))
def g_impl_NameOk (s_1:Bs):Option Bool:=((g_impl_NameOk_l0 s_1 (s_1.length:Int) bigK 0).bind λ o=>match o with | .inl ()=>some (.inl ()) | .inr v_6=>some (.inr v_6):Option (Unit ⊕ Bool)).bind λ o=>match o with | .inl ()=>(g_impl_within (s_1.length:Int) 1 24).bind λ y_9=>some y_9 | .inr v_3=>some v_3
def g_impl_WidthOf (k_1:Int):Option Int:=(g_impl_within k_1 0 7).bind λ y_3=>cond y_3 (some 4) ((g_impl_within k_1 8 15).bind λ y_4=>cond y_4 (some 5) ((g_impl_within k_1 16 47).bind λ y_5=>cond y_5 (some 7) (some 0)))
def g_impl_BitsOf (k_1:Int):Option Int:=(g_impl_WidthOf k_1).bind λ y_3=>cond (y_3==4) (some (IntKind.wrap .u32 k_1)) (cond (y_3==5) (some (IntKind.wrap .u32 ((IntKind.wrap .u32 k_1)+8))) (cond (y_3==7) (some (IntKind.wrap .u32 ((IntKind.wrap .u32 k_1)+80))) (some 0)))
def g_impl_PackOne_l0 (s_1:Bs) (v_9:Int):Nat->Int->Int->Int->Int->Option (Int×Int)
 | 0,_,_,_,_=>none
 | k+1,field_10,left_11,many_12,v_13=>cond (decide (v_13 < v_9)) ((idxS s_1 v_13).bind λ v_16=>(g_impl_LetterOf v_16).bind λ y_17=>(g_impl_WidthOf y_17).bind λ y_18=>cond (decide (y_18 > left_11)) (some (field_10,many_12)) ((g_impl_WidthOf y_17).bind λ y_19=>(g_impl_BitsOf y_17).bind λ y_20=>(shlI .u32 y_20 (IntKind.wrap .i64 (left_11-y_19))).bind λ v_21=>g_impl_PackOne_l0 s_1 v_9 k (orI .u32 field_10 v_21) (IntKind.wrap .i64 (left_11-y_19)) (IntKind.wrap .i64 (many_12+1)) (IntKind.wrap .i64 (v_13+1)))) (some (field_10,many_12))
def g_impl_PackOne (s_1:Bs):Option (Int×Int):=(g_impl_NameOk s_1).bind λ y_4=>cond (!y_4) (some (0,0)) (((g_impl_PackOne_l0 s_1 (s_1.length:Int) bigK 0 28 0 0).bind λ (field_14,many_15)=>some (field_14,many_15):Option ((Int×Int))).bind λ (field_5,many_6)=>some (field_5,many_6))
def g_impl_Pack_l0:Nat->Bs->(List Int)->Option (List Int)
 | 0,_,_=>none
 | k+1,s_3,out_4=>(g_impl_NameOk s_3).bind λ y_6=>cond y_6 ((g_impl_PackOne s_3).bind λ y_7=>(app out_4 [y_7.1]).bind λ v_8=>(subL s_3 y_7.2 (s_3.length:Int)).bind λ v_9=>g_impl_Pack_l0 k v_9 v_8) (some out_4)
def g_impl_Pack (s_1:Bs):Option (List Int):=(g_impl_Pack_l0 bigK s_1 ([]:List Int)).bind λ out_5=>some out_5
def g_impl_numberCells (n_1:Int) (hex_2:Bool) (short_3:Int) (long_4:Int):Option (List Int):=(cond hex_2 (some 16) (some 0):Option (Int)).bind λ bit_6=>(cond (decide (n_1 ≥ (-67108864))) (some (decide (n_1<=67108863))) (some false):Option (Bool)).bind λ v_7=>cond v_7 (some [orI .u32 (orI .u32 (IntKind.wrap .u32 ((IntKind.wrap .u32 n_1)*32)) bit_6) short_3]) (some [orI .u32 bit_6 long_4,IntKind.wrap .u32 n_1])
def g_impl_CellsOf_l0 (v_8:List Int) (v_9:Int):Nat->Int->(List Int)->Int->Option (List Int)
 | 0,_,_,_=>none
 | k+1,tag_10,out_11,v_12=>cond (decide (v_12 < v_9)) ((getI v_8 v_12).bind λ v_14=>(app out_11 [orI .u32 (IntKind.wrap .u32 (v_14*16)) tag_10]).bind λ v_15=>g_impl_CellsOf_l0 v_8 v_9 k 0 v_15 (IntKind.wrap .i64 (v_12+1))) (some out_11)
def g_impl_CellsOf (it_1:GItem):Option (List Int):=(g_impl_nameTag it_1.Kind).bind λ y_3=>((cond (decide (y_3 > 0)) (some ((it_1.Kind:Int)==it_1.Kind&&((it_1.Name:Bs)==it_1.Name&&((it_1.N:Int)==0&&((it_1.Hex:Bool)==false&&((it_1.Raw:Int)==0&&true)))))) (some false):Option (Bool)).bind λ v_5=>cond v_5 (((g_impl_Pack it_1.Name).bind λ y_7=>(g_impl_CellsOf_l0 y_7 (y_7.length:Int) bigK y_3 ([]:List Int) 0).bind λ out_13=>some out_13:Option ((List Int))).bind λ out_6=>some (.inr out_6)) (cond ((it_1.Kind:Int)==7&&((it_1.Name:Bs)==[]&&((it_1.N:Int)==it_1.N&&((it_1.Hex:Bool)==it_1.Hex&&((it_1.Raw:Int)==0&&true))))) ((g_impl_numberCells it_1.N it_1.Hex 8 2).bind λ y_16=>some (.inr y_16)) (cond ((it_1.Kind:Int)==8&&((it_1.Name:Bs)==[]&&((it_1.N:Int)==it_1.N&&((it_1.Hex:Bool)==it_1.Hex&&((it_1.Raw:Int)==0&&true))))) ((g_impl_numberCells it_1.N it_1.Hex 6 5).bind λ y_17=>some (.inr y_17)) (cond ((it_1.Kind:Int)==9&&((it_1.Name:Bs)==it_1.Name&&((it_1.N:Int)==it_1.N&&((it_1.Hex:Bool)==false&&((it_1.Raw:Int)==0&&true))))) ((g_impl_Pack it_1.Name).bind λ y_18=>cond ((y_18.length:Int)==1) ((getI y_18 0).bind λ v_19=>some (.inr [orI .u32 (IntKind.wrap .u32 (v_19*16)) 12,IntKind.wrap .u32 it_1.N])) (some (.inl ()))) (cond ((it_1.Kind:Int)==0&&((it_1.Name:Bs)==[]&&((it_1.N:Int)==0&&((it_1.Hex:Bool)==false&&((it_1.Raw:Int)==it_1.Raw&&true))))) (some (.inr [it_1.Raw])) (some (.inl ())))))):Option (Unit ⊕ (List Int))).bind λ o=>match o with | .inl ()=>some [] | .inr v_4=>some v_4
def g_impl_ItemOk (it_1:GItem):Option Bool:=(g_impl_CellsOf it_1).bind λ y_3=>some (decide ((y_3.length:Int) > 0))
def g_impl_Typed_l1:Nat->Int->Bs->Option (Int×Bs)
 | 0,_,_=>none
 | k+1,color_18,word_19=>(cond (word_19 != []) ((idxS word_19 0).bind λ v_23=>(g_impl_ColorKey v_23).bind λ y_24=>some (decide (y_24 ≥ 0))) (some false):Option (Bool)).bind λ v_22=>cond v_22 ((idxS word_19 0).bind λ v_25=>(g_impl_ColorKey v_25).bind λ y_26=>(subL word_19 1 (word_19.length:Int)).bind λ v_27=>g_impl_Typed_l1 k y_26 v_27) (some (color_18,word_19))
def g_impl_Typed_l0 (v_7:List GSpot) (v_8:Int):Nat->(List GItem)->Int->Int->Option ((List GItem) ⊕ Int)
 | 0,_,_,_=>none
 | k+1,out_9,color_10,v_11=>cond (decide (v_11 < v_8)) (((getI v_7 v_11).bind λ v_17=>(g_impl_Typed_l1 bigK color_10 v_17.word).bind λ (color_20,word_21)=>cond (word_21==[]) (some (.inl (out_9,color_20))) ((g_impl_typedNumber word_21).bind λ y_28=>(cond y_28.2.2 (some (color_20==3)) (some false):Option (Bool)).bind λ v_29=>cond v_29 ((app out_9 [(⟨8,[],y_28.1,y_28.2.1,0⟩:GItem)]).bind λ v_30=>some (.inl (v_30,color_20))) ((cond y_28.2.2 (some (color_20==1)) (some false):Option (Bool)).bind λ v_31=>cond v_31 ((app out_9 [(⟨7,[],y_28.1,y_28.2.1,0⟩:GItem)]).bind λ v_32=>some (.inl (v_32,color_20))) ((cond y_28.2.2 (cond (!y_28.2.1) (cond (color_20==9) (cond (decide ((IntKind.wrap .i64 ((out_9.length:Int)-1)) ≥ 0)) ((getI out_9 (IntKind.wrap .i64 ((out_9.length:Int)-1))).bind λ v_34=>some (v_34.Kind==9)) (some false)) (some false)) (some false)) (some false):Option (Bool)).bind λ v_33=>cond v_33 ((getI out_9 (IntKind.wrap .i64 ((out_9.length:Int)-1))).bind λ v_35=>some (.inl (out_9.set (IntKind.wrap .i64 ((out_9.length:Int)-1)).toNat (⟨v_35.Kind,v_35.Name,y_28.1,v_35.Hex,v_35.Raw⟩:GItem),color_20))) ((g_impl_ItemOk (⟨color_20,word_21,0,false,0⟩:GItem)).bind λ y_36=>cond (!y_36) (some (.inr (IntKind.wrap .i64 (v_17.at_+1)))) ((app out_9 [(⟨color_20,word_21,0,false,0⟩:GItem)]).bind λ v_37=>some (.inl (v_37,color_20))))))):Option (((List GItem)×Int) ⊕ Int)).bind λ o=>match o with | .inl (out_14,color_15)=>g_impl_Typed_l0 v_7 v_8 k out_14 color_15 (IntKind.wrap .i64 (v_11+1)) | .inr v_16=>some (.inr v_16)) (some (.inl out_9))
def g_impl_Typed (s_1:Bs):Option ((List GItem)×Int):=cond (decide ((s_1.length:Int) > 6000)) (some ([],1)) (((g_impl_spots s_1).bind λ y_6=>(g_impl_Typed_l0 y_6 (y_6.length:Int) bigK ([]:List GItem) 3 0).bind λ o=>match o with | .inl out_12=>some (.inl out_12) | .inr v_13=>some (.inr v_13):Option ((List GItem) ⊕ Int)).bind λ o=>match o with | .inl out_4=>some (out_4,0) | .inr v_5=>some ([],v_5))
def g_slices_Equal_Item_l0 (s1_1:List GItem) (s2_2:List GItem) (v_5:Int):Nat->Int->Option (Unit ⊕ Bool)
 | 0,_=>none
 | k+1,v_6=>cond (decide (v_6 < v_5)) ((getI s1_1 v_6).bind λ v_8=>(getI s2_2 v_6).bind λ v_9=>cond (!((v_8.Kind:Int)==v_9.Kind&&((v_8.Name:Bs)==v_9.Name&&((v_8.N:Int)==v_9.N&&((v_8.Hex:Bool)==v_9.Hex&&((v_8.Raw:Int)==v_9.Raw&&true)))))) (some (.inr false)) (g_slices_Equal_Item_l0 s1_1 s2_2 v_5 k (IntKind.wrap .i64 (v_6+1)))) (some (.inl ()))
def g_slices_Equal_Item (s1_1:List GItem) (s2_2:List GItem):Option Bool:=cond ((s1_1.length:Int) != (s2_2.length:Int)) (some false) (((g_slices_Equal_Item_l0 s1_1 s2_2 (s1_1.length:Int) bigK 0).bind λ o=>match o with | .inl ()=>some (.inl ()) | .inr v_7=>some (.inr v_7):Option (Unit ⊕ Bool)).bind λ o=>match o with | .inl ()=>some true | .inr v_4=>some v_4)
def g_impl_sameItems (a_1:List GItem) (b_2:List GItem):Option Bool:=(g_slices_Equal_Item a_1 b_2).bind λ y_4=>some y_4
def g_impl_TypeText_l1 (v_15:List Int) (v_16:Int) (v_11:GItem):Nat->Bs->Int->Option Bs
 | 0,_,_=>none
 | k+1,key_17,v_18=>cond (decide (v_18 < v_16)) (((getI v_15 v_18).bind λ v_21=>(cond (v_21==v_11.Kind) (some true) (cond (v_11.Kind==8) (cond (v_21==3) (some true) (cond (v_11.Kind==7) (some (v_21==1)) (some false))) (cond (v_11.Kind==7) (some (v_21==1)) (some false))):Option (Bool)).bind λ v_22=>cond v_22 ((g_impl_colorKeys).bind λ y_23=>(subL y_23 v_18 (IntKind.wrap .i64 (v_18+1))).bind λ v_24=>some v_24) (some key_17):Option (Bs)).bind λ key_20=>g_impl_TypeText_l1 v_15 v_16 v_11 k key_20 (IntKind.wrap .i64 (v_18+1))) (some key_17)
def g_impl_TypeText_l0 (v_5:List GItem) (v_6:Int):Nat->(List Bs)->Int->Option (List Bs)
 | 0,_,_=>none
 | k+1,parts_7,v_8=>cond (decide (v_8 < v_6)) (((getI v_5 v_8).bind λ v_11=>((g_impl_keyKinds).bind λ y_13=>(g_impl_TypeText_l1 y_13 (y_13.length:Int) v_11 bigK [] 0).bind λ key_19=>some key_19:Option (Bs)).bind λ key_12=>(cond (v_11.Kind==9) ((g_impl_DecText (IntKind.wrap .i64 v_11.N)).bind λ y_26=>(catS [32] y_26).bind λ v_27=>(catS v_11.Name v_27).bind λ v_28=>some v_28) ((cond (v_11.Kind != 8) (some (v_11.Kind != 7)) (some false):Option (Bool)).bind λ v_29=>cond v_29 (some v_11.Name) (cond v_11.Hex ((g_impl_HexText (IntKind.wrap .u32 v_11.N)).bind λ y_30=>(catS [36] y_30).bind λ v_31=>some v_31) ((g_impl_DecText (IntKind.wrap .i64 v_11.N)).bind λ y_32=>some y_32))):Option (Bs)).bind λ text_25=>(catS key_12 text_25).bind λ v_33=>(app parts_7 [v_33]).bind λ v_34=>some v_34:Option ((List Bs))).bind λ parts_10=>g_impl_TypeText_l0 v_5 v_6 k parts_10 (IntKind.wrap .i64 (v_8+1))) (some parts_7)
def g_impl_TypeText (list_1:List GItem):Option Bs:=((g_impl_TypeText_l0 list_1 (list_1.length:Int) bigK ([]:List Bs) 0).bind λ parts_9=>some parts_9:Option ((List Bs))).bind λ parts_3=>(g_strings_Join parts_3 [32]).bind λ y_35=>(g_impl_Typed y_35).bind λ y_36=>(cond (y_36.2 != 0) (some true) ((g_impl_sameItems y_36.1 list_1).bind λ y_38=>some (!y_38)):Option (Bool)).bind λ v_37=>cond v_37 (some []) (some y_35)
def g_spec_DecText_l0:Nat->Bs->Int->Option Bs
 | 0,_,_=>none
 | k+1,out_4,m_5=>cond (m_5 != 0) ((cond (decide ((Int.tmod m_5 10) < 0)) (some (IntKind.wrap .i64 (0-(Int.tmod m_5 10)))) (some (Int.tmod m_5 10)):Option (Int)).bind λ d_7=>(subL [48,49,50,51,52,53,54,55,56,57] d_7 (IntKind.wrap .i64 (d_7+1))).bind λ v_8=>(catS v_8 out_4).bind λ v_9=>g_spec_DecText_l0 k v_9 (IntKind.wrap .i64 (Int.tdiv m_5 10))) (some out_4)
def g_spec_DecText (n_1:Int):Option Bs:=cond (n_1==0) (some [48]) ((g_spec_DecText_l0 bigK [] n_1).bind λ out_6=>cond (decide (n_1 < 0)) ((catS [45] out_6).bind λ v_10=>some v_10) (some out_6))
def g_spec_HexText_l0:Nat->Bs->Int->Option Bs
 | 0,_,_=>none
 | k+1,out_5,m_6=>cond (decide (m_6 > 0)) ((subL [48,49,50,51,52,53,54,55,56,57,97,98,99,100,101,102] (Int.tmod m_6 16) (IntKind.wrap .i64 ((Int.tmod m_6 16)+1))).bind λ v_8=>(catS v_8 out_5).bind λ v_9=>g_spec_HexText_l0 k v_9 (IntKind.wrap .i64 (Int.tdiv m_6 16))) (some out_5)
def g_spec_HexText (n_1:Int):Option Bs:=cond (n_1==0) (some [48]) (((g_spec_HexText_l0 bigK [] (IntKind.wrap .i64 n_1)).bind λ out_7=>some out_7:Option (Bs)).bind λ out_3=>some out_3)
def g_spec_l16Keys:Option Bs:=some [82,71,89,87,84,66,86]
def g_spec_ColorKey_l0 (b_1:Int) (kinds_5:List Int) (y_3:Bs):Nat->Int->Option (Unit ⊕ Int)
 | 0,_=>none
 | k+1,i_6=>cond (decide (i_6 < (y_3.length:Int))) ((idxS y_3 i_6).bind λ v_8=>cond (v_8==b_1) ((getI kinds_5 i_6).bind λ v_9=>some (.inr v_9)) (g_spec_ColorKey_l0 b_1 kinds_5 y_3 k (IntKind.wrap .i64 (i_6+1)))) (some (.inl ()))
def g_spec_ColorKey (b_1:Int):Option Int:=(g_spec_l16Keys).bind λ y_3=>((g_spec_ColorKey_l0 b_1 [2,3,1,4,5,6,9] y_3 bigK 0).bind λ o=>match o with | .inl ()=>some (.inl ()) | .inr v_7=>some (.inr v_7):Option (Unit ⊕ Int)).bind λ o=>match o with | .inl ()=>some (-1) | .inr v_4=>some v_4
def g_spec_l16One_l0 (kind_3:Int) (body_4:Bs) (y_13:Bs):Nat->Int->Option (Unit ⊕ Bs)
 | 0,_=>none
 | k+1,i_15=>cond (decide (i_15 < (y_13.length:Int))) ((idxS y_13 i_15).bind λ v_17=>(g_spec_ColorKey v_17).bind λ y_18=>cond (y_18==kind_3) ((subL y_13 i_15 (IntKind.wrap .i64 (i_15+1))).bind λ v_19=>(catS v_19 body_4).bind λ v_20=>some (.inr v_20)) (g_spec_l16One_l0 kind_3 body_4 y_13 k (IntKind.wrap .i64 (i_15+1)))) (some (.inl ()))
def g_spec_l16One (it_1:GItem):Option Bs:=((cond (it_1.Kind==8) (some (it_1.Kind==8)) (some (it_1.Kind==7)):Option (Bool)).bind λ v_5=>cond v_5 ((cond (it_1.Kind==7) (some 1) (some 3):Option (Int)).bind λ kind_6=>(g_spec_DecText (IntKind.wrap .i64 it_1.N)).bind λ y_7=>cond it_1.Hex ((g_spec_HexText (IntKind.wrap .u32 it_1.N)).bind λ y_8=>(catS [36] y_8).bind λ v_9=>some (kind_6,v_9)) (some (kind_6,y_7))) (cond (it_1.Kind==9) ((catS it_1.Name [32]).bind λ v_10=>(g_spec_DecText (IntKind.wrap .i64 it_1.N)).bind λ y_11=>(catS v_10 y_11).bind λ v_12=>some (it_1.Kind,v_12)) (some (it_1.Kind,it_1.Name))):Option ((Int×Bs))).bind λ (kind_3,body_4)=>(g_spec_l16Keys).bind λ y_13=>((g_spec_l16One_l0 kind_3 body_4 y_13 bigK 0).bind λ o=>match o with | .inl ()=>some (.inl ()) | .inr v_16=>some (.inr v_16):Option (Unit ⊕ Bs)).bind λ o=>match o with | .inl ()=>some [] | .inr v_14=>some v_14
def g_spec_l01Blank (b_1:Int):Option Bool:=cond (b_1==32) (some true) (cond (b_1==9) (some true) (some (b_1==10)))
def g_spec_l01Digit (b_1:Int):Option Bool:=(g_spec_l01In (IntKind.wrap .i64 b_1) 48 57).bind λ y_3=>some y_3
def g_spec_ReadHex_l0 (s_1:Bs):Nat->Int->Int->Option (Int ⊕ (Int×Bool))
 | 0,_,_=>none
 | k+1,n_8,i_9=>cond (decide (i_9 < (s_1.length:Int))) (((idxS s_1 i_9).bind λ v_16=>(g_spec_l01Digit v_16).bind λ y_17=>cond y_17 ((idxS s_1 i_9).bind λ v_18=>some (.inl (IntKind.wrap .i64 ((IntKind.wrap .i64 ((IntKind.wrap .i64 (16*n_8))+(IntKind.wrap .i64 v_18)))-48)))) ((idxS s_1 i_9).bind λ v_19=>(g_spec_l01In (IntKind.wrap .i64 v_19) 97 102).bind λ y_20=>cond y_20 ((idxS s_1 i_9).bind λ v_21=>some (.inl (IntKind.wrap .i64 ((IntKind.wrap .i64 ((IntKind.wrap .i64 (16*n_8))+(IntKind.wrap .i64 v_21)))-87)))) (some (.inr (0,false)))):Option (Int ⊕ (Int×Bool))).bind λ o=>match o with | .inl n_13=>g_spec_ReadHex_l0 s_1 k n_13 (IntKind.wrap .i64 (i_9+1)) | .inr (v_14,v_15)=>some (.inr (v_14,v_15))) (some (.inl n_8))
def g_spec_ReadHex (s_1:Bs):Option (Int×Bool):=(g_spec_l01In (s_1.length:Int) 1 8).bind λ y_4=>cond (!y_4) (some (0,false)) (((g_spec_ReadHex_l0 s_1 bigK 0 0).bind λ o=>match o with | .inl n_10=>some (.inl n_10) | .inr (v_11,v_12)=>some (.inr (v_11,v_12)):Option (Int ⊕ (Int×Bool))).bind λ o=>match o with | .inl n_5=>(g_spec_HexText (IntKind.wrap .u32 n_5)).bind λ y_22=>cond (y_22 != s_1) (some (0,false)) (some (IntKind.wrap .u32 n_5,true)) | .inr (v_6,v_7)=>some (v_6,v_7))
def g_spec_ReadDec_l0 (s_1:Bs):Nat->Int->Int->Option (Int ⊕ (Int×Bool))
 | 0,_,_=>none
 | k+1,n_8,i_9=>cond (decide (i_9 < (s_1.length:Int))) (((cond (i_9==0) ((idxS s_1 i_9).bind λ v_17=>some (v_17==45)) (some false):Option (Bool)).bind λ v_16=>cond v_16 (some (.inl n_8)) ((idxS s_1 i_9).bind λ v_18=>(g_spec_l01Digit v_18).bind λ y_19=>cond (!y_19) (some (.inr (0,false))) ((idxS s_1 i_9).bind λ v_20=>some (.inl (IntKind.wrap .i64 ((IntKind.wrap .i64 ((IntKind.wrap .i64 (10*n_8))+(IntKind.wrap .i64 v_20)))-48))))):Option (Int ⊕ (Int×Bool))).bind λ o=>match o with | .inl n_13=>g_spec_ReadDec_l0 s_1 k n_13 (IntKind.wrap .i64 (i_9+1)) | .inr (v_14,v_15)=>some (.inr (v_14,v_15))) (some (.inl n_8))
def g_spec_ReadDec (s_1:Bs):Option (Int×Bool):=(g_spec_l01In (s_1.length:Int) 1 11).bind λ y_4=>cond (!y_4) (some (0,false)) (((g_spec_ReadDec_l0 s_1 bigK 0 0).bind λ o=>match o with | .inl n_10=>some (.inl n_10) | .inr (v_11,v_12)=>some (.inr (v_11,v_12)):Option (Int ⊕ (Int×Bool))).bind λ o=>match o with | .inl n_5=>((idxS s_1 0).bind λ v_22=>cond (v_22==45) (some (IntKind.wrap .i64 (0-n_5))) (some n_5):Option (Int)).bind λ n_21=>((g_spec_l01In n_21 (-9999999999) 9999999999).bind λ y_24=>cond (!y_24) (some true) ((g_spec_DecText n_21).bind λ y_25=>some (y_25 != s_1)):Option (Bool)).bind λ v_23=>cond v_23 (some (0,false)) (some (n_21,true)) | .inr (v_6,v_7)=>some (v_6,v_7))
def g_spec_l06Dec (s_1:Bs):Option (Int×Bool):=(g_spec_ReadDec s_1).bind λ y_4=>(cond (!y_4.2) (some true) ((g_spec_l01In y_4.1 (-2147483648) 2147483647).bind λ y_6=>some (!y_6)):Option (Bool)).bind λ v_5=>cond v_5 (some (0,false)) (some (IntKind.wrap .i32 y_4.1,true))
def g_spec_l16Number (kind_1:Int) (s_2:Bs):Option (GItem×Bool):=(cond (kind_1==1) (some (⟨7,[],0,false,0⟩:GItem)) (some (⟨8,[],0,false,0⟩:GItem)):Option (GItem)).bind λ x_5=>(cond (kind_1 != 3) (some (kind_1 != 1)) (some false):Option (Bool)).bind λ v_6=>cond v_6 (some ((⟨0,[],0,false,0⟩:GItem),false)) ((idxS s_2 0).bind λ v_7=>cond (v_7==36) ((subL s_2 1 (s_2.length:Int)).bind λ v_8=>(g_spec_ReadHex v_8).bind λ y_9=>some ((⟨x_5.Kind,x_5.Name,IntKind.wrap .i32 y_9.1,true,x_5.Raw⟩:GItem),y_9.2)) ((g_spec_l06Dec s_2).bind λ y_10=>some ((⟨x_5.Kind,x_5.Name,y_10.1,x_5.Hex,x_5.Raw⟩:GItem),y_10.2)))
def g_spec_l04Num (n_1:Int) (hex_2:Bool) (short_3:Int) (long_4:Int):Option (List Int):=(cond hex_2 (some 16) (some 0):Option (Int)).bind λ bit_6=>(cond (decide (n_1 ≥ (-67108864))) (some (decide (n_1<=67108863))) (some false):Option (Bool)).bind λ v_7=>cond v_7 (some [IntKind.wrap .u32 ((IntKind.wrap .u32 ((IntKind.wrap .u32 ((IntKind.wrap .u32 n_1)*32))+bit_6))+short_3)]) (some [IntKind.wrap .u32 (bit_6+long_4),IntKind.wrap .u32 n_1])
def g_spec_LetterOf_l0 (b_1:Int) (y_3:Bs):Nat->Int->Option (Unit ⊕ Int)
 | 0,_=>none
 | k+1,i_5=>cond (decide (i_5 < (y_3.length:Int))) ((idxS y_3 i_5).bind λ v_7=>cond (v_7==b_1) (some (.inr i_5)) (g_spec_LetterOf_l0 b_1 y_3 k (IntKind.wrap .i64 (i_5+1)))) (some (.inl ()))
def g_spec_LetterOf (b_1:Int):Option Int:=(g_spec_l02All).bind λ y_3=>((g_spec_LetterOf_l0 b_1 y_3 bigK 0).bind λ o=>match o with | .inl ()=>some (.inl ()) | .inr v_6=>some (.inr v_6):Option (Unit ⊕ Int)).bind λ o=>match o with | .inl ()=>some (-1) | .inr v_4=>some v_4
def g_spec_NameOk_l0 (s_1:Bs):Nat->Int->Option (Unit ⊕ Bool)
 | 0,_=>none
 | k+1,i_5=>cond (decide (i_5 < (s_1.length:Int))) ((idxS s_1 i_5).bind λ v_7=>(g_spec_LetterOf v_7).bind λ y_8=>cond (decide (y_8 < 1)) (some (.inr false)) (g_spec_NameOk_l0 s_1 k (IntKind.wrap .i64 (i_5+1)))) (some (.inl ()))
def g_spec_NameOk (s_1:Bs):Option Bool:=(g_spec_l01In (s_1.length:Int) 1 24).bind λ y_3=>cond (!y_3) (some false) (((g_spec_NameOk_l0 s_1 bigK 0).bind λ o=>match o with | .inl ()=>some (.inl ()) | .inr v_6=>some (.inr v_6):Option (Unit ⊕ Bool)).bind λ o=>match o with | .inl ()=>some true | .inr v_4=>some v_4)
def g_spec_WidthOf (k_1:Int):Option Int:=(g_spec_l01In k_1 0 7).bind λ y_3=>cond y_3 (some 4) ((g_spec_l01In k_1 8 15).bind λ y_4=>cond y_4 (some 5) ((g_spec_l01In k_1 16 47).bind λ y_5=>cond y_5 (some 7) (some 0)))
def g_spec_BitsOf (k_1:Int):Option Int:=(g_spec_WidthOf k_1).bind λ y_3=>cond (y_3==4) (some (IntKind.wrap .u32 k_1)) (cond (y_3==5) (some (IntKind.wrap .u32 (IntKind.wrap .i64 (k_1+8)))) (cond (y_3==7) (some (IntKind.wrap .u32 (IntKind.wrap .i64 (k_1+80)))) (some 0)))
def g_spec_l03One_l0 (s_1:Bs):Nat->Int->Int->Int->Option (Int×Int)
 | 0,_,_,_=>none
 | k+1,f_6,left_7,n_8=>cond (decide (n_8 < (s_1.length:Int))) ((idxS s_1 n_8).bind λ v_11=>(g_spec_LetterOf v_11).bind λ y_12=>(g_spec_WidthOf y_12).bind λ y_13=>cond (decide (y_13 > left_7)) (some (f_6,n_8)) ((g_spec_BitsOf y_12).bind λ y_14=>(shlI .i64 (IntKind.wrap .i64 y_14) (IntKind.wrap .u64 (IntKind.wrap .i64 (left_7-y_13)))).bind λ v_15=>g_spec_l03One_l0 s_1 k (IntKind.wrap .i64 (f_6+v_15)) (IntKind.wrap .i64 (left_7-y_13)) (IntKind.wrap .i64 (n_8+1)))) (some (f_6,n_8))
def g_spec_l03One (s_1:Bs):Option (Int×Int):=(g_spec_l03One_l0 s_1 bigK 0 28 0).bind λ (f_9,n_10)=>some (IntKind.wrap .u32 f_9,n_10)
def g_spec_Pack_l0:Nat->Bs->(List Int)->Option (List Int)
 | 0,_,_=>none
 | k+1,s_4,out_5=>cond (s_4 != []) ((g_spec_l03One s_4).bind λ y_7=>(app out_5 [y_7.1]).bind λ v_8=>(subL s_4 y_7.2 (s_4.length:Int)).bind λ v_9=>g_spec_Pack_l0 k v_9 v_8) (some out_5)
def g_spec_Pack (s_1:Bs):Option (List Int):=(g_spec_NameOk s_1).bind λ y_3=>cond (!y_3) (some ([]:List Int)) ((g_spec_Pack_l0 bigK s_1 ([]:List Int)).bind λ out_6=>some out_6)
def g_spec_l04Word_l0 (tag_1:Int):Nat->(List Int)->Int->Option (List Int)
 | 0,_,_=>none
 | k+1,out_6,i_7=>cond (decide (i_7 < (out_6.length:Int))) (((getI out_6 i_7).bind λ v_10=>(getI out_6 i_7).bind λ v_11=>cond (i_7==0) ((getI (out_6.set i_7.toNat (IntKind.wrap .u32 (v_10*16))) i_7).bind λ v_12=>(getI (out_6.set i_7.toNat (IntKind.wrap .u32 (v_10*16))) i_7).bind λ v_13=>some ((out_6.set i_7.toNat (IntKind.wrap .u32 (v_10*16))).set i_7.toNat (IntKind.wrap .u32 (v_12+tag_1)))) (some (out_6.set i_7.toNat (IntKind.wrap .u32 (v_10*16)))):Option ((List Int))).bind λ out_9=>g_spec_l04Word_l0 tag_1 k out_9 (IntKind.wrap .i64 (i_7+1))) (some out_6)
def g_spec_l04Word (tag_1:Int) (name_2:Bs):Option (List Int):=(g_spec_Pack name_2).bind λ y_4=>((g_spec_l04Word_l0 tag_1 bigK y_4 0).bind λ out_8=>some out_8:Option ((List Int))).bind λ out_5=>some out_5
def g_spec_l04Tag (kind_1:Int):Option Int:=cond (kind_1==1) (some 1) (cond (kind_1==2) (some 3) (cond (kind_1==3) (some 4) (cond (kind_1==4) (some 9) (cond (kind_1==5) (some 10) (cond (kind_1==6) (some 11) (some 0))))))
def g_spec_CellsOf (it_1:GItem):Option (List Int):=(cond (it_1.N==0) (cond (!it_1.Hex) (some (it_1.Raw==0)) (some false)) (some false):Option (Bool)).bind λ plain_3=>(cond (it_1.Kind==0) ((cond (it_1.Name==[]) (cond (it_1.N==0) (some (!it_1.Hex)) (some false)) (some false):Option (Bool)).bind λ v_5=>cond v_5 (some (.inr [it_1.Raw])) (some (.inl ()))) (cond (it_1.Kind==7) ((cond (it_1.Name==[]) (some (it_1.Raw==0)) (some false):Option (Bool)).bind λ v_6=>cond v_6 ((g_spec_l04Num it_1.N it_1.Hex 8 2).bind λ y_7=>some (.inr y_7)) (some (.inl ()))) (cond (it_1.Kind==8) ((cond (it_1.Name==[]) (some (it_1.Raw==0)) (some false):Option (Bool)).bind λ v_8=>cond v_8 ((g_spec_l04Num it_1.N it_1.Hex 6 5).bind λ y_9=>some (.inr y_9)) (some (.inl ()))) (cond (it_1.Kind==9) ((g_spec_l04Word 12 it_1.Name).bind λ y_10=>(cond ((y_10.length:Int)==1) (cond (!it_1.Hex) (some (it_1.Raw==0)) (some false)) (some false):Option (Bool)).bind λ v_11=>cond v_11 ((app y_10 [IntKind.wrap .u32 it_1.N]).bind λ v_12=>some (.inr v_12)) (some (.inl ()))) ((g_spec_l04Tag it_1.Kind).bind λ y_13=>(cond (decide (y_13 > 0)) (some plain_3) (some false):Option (Bool)).bind λ v_14=>cond v_14 ((g_spec_l04Word y_13 it_1.Name).bind λ y_15=>some (.inr y_15)) (some (.inl ())))))):Option (Unit ⊕ (List Int))).bind λ o=>match o with | .inl ()=>some ([]:List Int) | .inr v_4=>some v_4
def g_spec_ItemOk (it_1:GItem):Option Bool:=(g_spec_CellsOf it_1).bind λ y_3=>some (decide ((y_3.length:Int) > 0))
def g_spec_l16Word (list_1:List GItem) (kind_2:Int) (s_3:Bs):Option ((List GItem)×Bool):=(g_spec_l16Number kind_2 s_3).bind λ y_6=>cond y_6.2 ((app list_1 [y_6.1]).bind λ v_7=>some (v_7,true)) ((g_spec_l06Dec s_3).bind λ y_8=>(cond y_8.2 (cond (kind_2==9) (cond (decide ((list_1.length:Int) > 0)) ((getI list_1 (IntKind.wrap .i64 ((list_1.length:Int)-1))).bind λ v_10=>some (v_10.Kind==9)) (some false)) (some false)) (some false):Option (Bool)).bind λ v_9=>cond v_9 ((getI list_1 (IntKind.wrap .i64 ((list_1.length:Int)-1))).bind λ v_11=>some (list_1.set (IntKind.wrap .i64 ((list_1.length:Int)-1)).toNat (⟨v_11.Kind,v_11.Name,y_8.1,v_11.Hex,v_11.Raw⟩:GItem),true)) ((app list_1 [(⟨kind_2,s_3,0,false,0⟩:GItem)]).bind λ v_12=>(g_spec_ItemOk (⟨kind_2,s_3,0,false,0⟩:GItem)).bind λ y_13=>some (v_12,y_13)))
def g_spec_Typed_l1 (s_1:Bs):Nat->Int->Option Int
 | 0,_=>none
 | k+1,vend_15=>(cond (decide (vend_15 < (s_1.length:Int))) ((idxS s_1 vend_15).bind λ v_18=>(g_spec_l01Blank v_18).bind λ y_19=>some (!y_19)) (some false):Option (Bool)).bind λ v_17=>cond v_17 (g_spec_Typed_l1 s_1 k (IntKind.wrap .i64 (vend_15+1))) (some vend_15)
def g_spec_Typed_l2:Nat->Int->Bs->Option (Int×Bs)
 | 0,_,_=>none
 | k+1,kind_21,w_22=>(cond (w_22 != []) ((idxS w_22 0).bind λ v_26=>(g_spec_ColorKey v_26).bind λ y_27=>some (decide (y_27 ≥ 0))) (some false):Option (Bool)).bind λ v_25=>cond v_25 ((idxS w_22 0).bind λ v_28=>(g_spec_ColorKey v_28).bind λ y_29=>(subL w_22 1 (w_22.length:Int)).bind λ v_30=>g_spec_Typed_l2 k y_29 v_30) (some (kind_21,w_22))
def g_spec_Typed_l0 (s_1:Bs):Nat->(List GItem)->Int->Int->Option ((List GItem) ⊕ ((List GItem)×Int))
 | 0,_,_,_=>none
 | k+1,out_7,kind_8,i_9=>cond (decide (i_9 < (s_1.length:Int))) ((idxS s_1 i_9).bind λ v_13=>(g_spec_l01Blank v_13).bind λ y_14=>cond y_14 (g_spec_Typed_l0 s_1 k out_7 kind_8 (IntKind.wrap .i64 (i_9+1))) ((g_spec_Typed_l1 s_1 bigK i_9).bind λ vend_16=>(subL s_1 i_9 vend_16).bind λ v_20=>(g_spec_Typed_l2 bigK kind_8 v_20).bind λ (kind_23,w_24)=>(cond (w_24 != []) ((g_spec_l16Word out_7 kind_23 w_24).bind λ y_34=>cond (!y_34.2) (some (.inr (([]:List GItem),IntKind.wrap .i64 (i_9+1)))) (some (.inl y_34.1))) (some (.inl out_7)):Option ((List GItem) ⊕ ((List GItem)×Int))).bind λ o=>match o with | .inl out_31=>g_spec_Typed_l0 s_1 k out_31 kind_23 vend_16 | .inr (v_32,v_33)=>some (.inr (v_32,v_33)))) (some (.inl out_7))
def g_spec_Typed (s_1:Bs):Option ((List GItem)×Int):=cond (decide ((s_1.length:Int) > 6000)) (some (([]:List GItem),1)) (((g_spec_Typed_l0 s_1 bigK ([]:List GItem) 3 0).bind λ o=>match o with | .inl out_10=>some (.inl out_10) | .inr (v_11,v_12)=>some (.inr (v_11,v_12)):Option ((List GItem) ⊕ ((List GItem)×Int))).bind λ o=>match o with | .inl out_4=>some (out_4,0) | .inr (v_5,v_6)=>some (v_5,v_6))
def g_spec_l04Same_l0 (a_1:List GItem) (b_2:List GItem):Nat->Int->Option (Unit ⊕ Bool)
 | 0,_=>none
 | k+1,i_5=>cond (decide (i_5 < (a_1.length:Int))) ((getI a_1 i_5).bind λ v_7=>(getI b_2 i_5).bind λ v_8=>cond (!((v_7.Kind:Int)==v_8.Kind&&((v_7.Name:Bs)==v_8.Name&&((v_7.N:Int)==v_8.N&&((v_7.Hex:Bool)==v_8.Hex&&((v_7.Raw:Int)==v_8.Raw&&true)))))) (some (.inr false)) (g_spec_l04Same_l0 a_1 b_2 k (IntKind.wrap .i64 (i_5+1)))) (some (.inl ()))
def g_spec_l04Same (a_1:List GItem) (b_2:List GItem):Option Bool:=cond ((a_1.length:Int) != (b_2.length:Int)) (some false) (((g_spec_l04Same_l0 a_1 b_2 bigK 0).bind λ o=>match o with | .inl ()=>some (.inl ()) | .inr v_6=>some (.inr v_6):Option (Unit ⊕ Bool)).bind λ o=>match o with | .inl ()=>some true | .inr v_4=>some v_4)
def g_spec_TypeText_l0 (list_1:List GItem):Nat->(List Int)->Int->Option (List Int)
 | 0,_,_=>none
 | k+1,out_5,i_6=>(cond (decide (i_6 < (list_1.length:Int))) (some (decide ((out_5.length:Int)<=6000))) (some false):Option (Bool)).bind λ v_8=>cond v_8 (((cond (decide (i_6 > 0)) ((app out_5 [32]).bind λ v_11=>some v_11) (some out_5):Option ((List Int))).bind λ out_10=>(getI list_1 i_6).bind λ v_12=>(g_spec_l16One v_12).bind λ y_13=>(app out_10 (bsOf y_13)).bind λ v_14=>some v_14:Option ((List Int))).bind λ out_9=>g_spec_TypeText_l0 list_1 k out_9 (IntKind.wrap .i64 (i_6+1))) (some out_5)
def g_spec_TypeText (list_1:List GItem):Option Bs:=((g_spec_TypeText_l0 list_1 bigK ([]:List Int) 0).bind λ out_7=>some out_7:Option ((List Int))).bind λ out_3=>(g_spec_Typed (strOf out_3)).bind λ y_15=>(cond (decide (y_15.2 > 0)) (some true) ((g_spec_l04Same y_15.1 list_1).bind λ y_17=>some (!y_17)):Option (Bool)).bind λ v_16=>cond v_16 (some []) (some (strOf out_3))
def g_laws_sameItems_l0 (a_1:List GItem) (b_2:List GItem):Nat->Int->Option (Unit ⊕ Bool)
 | 0,_=>none
 | k+1,i_5=>cond (decide (i_5 < (a_1.length:Int))) ((getI a_1 i_5).bind λ v_7=>(getI b_2 i_5).bind λ v_8=>cond (!((v_7.Kind:Int)==v_8.Kind&&((v_7.Name:Bs)==v_8.Name&&((v_7.N:Int)==v_8.N&&((v_7.Hex:Bool)==v_8.Hex&&((v_7.Raw:Int)==v_8.Raw&&true)))))) (some (.inr false)) (g_laws_sameItems_l0 a_1 b_2 k (IntKind.wrap .i64 (i_5+1)))) (some (.inl ()))
def g_laws_sameItems (a_1:List GItem) (b_2:List GItem):Option Bool:=cond ((a_1.length:Int) != (b_2.length:Int)) (some false) (((g_laws_sameItems_l0 a_1 b_2 bigK 0).bind λ o=>match o with | .inl ()=>some (.inl ()) | .inr v_6=>some (.inr v_6):Option (Unit ⊕ Bool)).bind λ o=>match o with | .inl ()=>some true | .inr v_4=>some v_4)
def g_laws_FnTyped (code_1:List Int):Option Bool:=(g_laws_big code_1).bind λ y_3=>cond y_3 (some true) ((g_spec_DrawTypeText code_1).bind λ y_4=>(g_impl_TypeText y_4).bind λ y_5=>(g_spec_TypeText y_4).bind λ y_6=>cond (y_5 != y_6) (some false) (cond (y_5==[]) (some true) ((g_impl_Typed y_5).bind λ y_7=>cond (y_7.2==0) ((g_laws_sameItems y_7.1 y_4).bind λ y_8=>some y_8) (some false))))
def bodyOf (f:Func):Code:=match f.body with|some c=>c|none=>.skip
end Go.Proofs.YtgfamepnkhpemaaGreatDoor
namespace Go.Proofs.YtgfamepnkhpemaaGreatDoor
open Go Go.Fm
set_option maxRecDepth 1000000
def itoaLays_ren:Go.Shelf.Ren:=⟨fun|171=>68|243=>110|246=>144|283=>145|284=>146|285=>147|286=>148|129=>172|317=>171|318=>173|319=>174|320=>175|337=>190|338=>191|n=>n,fun|3=>3|9=>9|2=>2|4=>4|171=>167|0=>0|53=>100|37=>29|5=>5|173=>170|212=>181|51=>48|20=>20|213=>182|46=>133|232=>197|233=>198|n=>n,fun|17=>0|18=>4|19=>5|n=>n⟩
theorem itoaLays:Go.Proofs.LaysM.n171 Tryz.prog itoaLays_ren where
 mixed:=by kernel_rfl
 f129:=Tryz.func172.trans (congrArg some (by kernel_rfl))
 f171:=Tryz.func68.trans (congrArg some (by kernel_rfl))
 f243:=Tryz.func110.trans (congrArg some (by kernel_rfl))
 f246:=Tryz.func144.trans (congrArg some (by kernel_rfl))
 f283:=Tryz.func145.trans (congrArg some (by kernel_rfl))
 f284:=Tryz.func146.trans (congrArg some (by kernel_rfl))
 f285:=Tryz.func147.trans (congrArg some (by kernel_rfl))
 f286:=Tryz.func148.trans (congrArg some (by kernel_rfl))
 f317:=Tryz.func171.trans (congrArg some (by kernel_rfl))
 f318:=Tryz.func173.trans (congrArg some (by kernel_rfl))
 f319:=Tryz.func174.trans (congrArg some (by kernel_rfl))
 f320:=Tryz.func175.trans (congrArg some (by kernel_rfl))
 f337:=Tryz.func190.trans (congrArg some (by kernel_rfl))
 f338:=Tryz.func191.trans (congrArg some (by kernel_rfl))
 t0:=Tryz.underlying0
 a0:=Tryz.isAgg0
 z0:=Tryz.sizeOf0
 v0:=Tryz.zeroValue0
 t2:=Tryz.underlying2
 a2:=Tryz.isAgg2
 z2:=Tryz.sizeOf2
 v2:=Tryz.zeroValue2
 t3:=Tryz.underlying3
 a3:=Tryz.isAgg3
 z3:=Tryz.sizeOf3
 v3:=Tryz.zeroValue3
 t4:=Tryz.underlying4
 a4:=Tryz.isAgg4
 z4:=Tryz.sizeOf4
 v4:=Tryz.zeroValue4
 t5:=Tryz.underlying5
 a5:=Tryz.isAgg5
 z5:=Tryz.sizeOf5
 v5:=Tryz.zeroValue5
 t9:=Tryz.underlying9
 a9:=Tryz.isAgg9
 z9:=Tryz.sizeOf9
 v9:=Tryz.zeroValue9
 t20:=Tryz.underlying20
 a20:=Tryz.isAgg20
 z20:=Tryz.sizeOf20
 v20:=Tryz.zeroValue20
 t37:=Tryz.underlying29
 a37:=Tryz.isAgg29
 z37:=Tryz.sizeOf29
 v37:=Tryz.zeroValue29
 t46:=Tryz.underlying133
 a46:=Tryz.isAgg133
 z46:=Tryz.sizeOf133
 v46:=Tryz.zeroValue133
 t51:=Tryz.underlying48
 a51:=Tryz.isAgg48
 z51:=Tryz.sizeOf48
 v51:=Tryz.zeroValue48
 t53:=Tryz.underlying100
 a53:=Tryz.isAgg100
 z53:=Tryz.sizeOf100
 v53:=Tryz.zeroValue100
 t171:=Tryz.underlying167
 a171:=Tryz.isAgg167
 z171:=Tryz.sizeOf167
 v171:=Tryz.zeroValue167
 t173:=Tryz.underlying170
 a173:=Tryz.isAgg170
 z173:=Tryz.sizeOf170
 v173:=Tryz.zeroValue170
 t212:=Tryz.underlying181
 a212:=Tryz.isAgg181
 z212:=Tryz.sizeOf181
 v212:=Tryz.zeroValue181
 t213:=Tryz.underlying182
 a213:=Tryz.isAgg182
 z213:=Tryz.sizeOf182
 t232:=Tryz.underlying197
 a232:=Tryz.isAgg197
 z232:=Tryz.sizeOf197
 v232:=Tryz.zeroValue197
 t233:=Tryz.underlying198
 a233:=Tryz.isAgg198
 z233:=Tryz.sizeOf198
 v233:=Tryz.zeroValue198
 g17:=by kernel_rfl
 g18:=by kernel_rfl
 g19:=by kernel_rfl
 i0:=by kernel_rfl
 i2:=by kernel_rfl
 i3:=by kernel_rfl
 i4:=by kernel_rfl
 i5:=by kernel_rfl
 i9:=by kernel_rfl
 i20:=by kernel_rfl
 i37:=by kernel_rfl
 i46:=by kernel_rfl
 i51:=by kernel_rfl
 i53:=by kernel_rfl
 i171:=by kernel_rfl
 i173:=by kernel_rfl
 i212:=by kernel_rfl
 i232:=by kernel_rfl
 i233:=by kernel_rfl
 m17:=by kernel_rfl
 m18:=by kernel_rfl
 m19:=by kernel_rfl
def joinLays_ren:Go.Shelf.Ren:=⟨fun|156=>35|165=>70|166=>71|169=>72|240=>112|241=>113|276=>149|277=>150|n=>n,fun|31=>60|9=>9|3=>3|4=>4|0=>0|20=>20|72=>103|76=>107|70=>101|37=>29|75=>106|127=>142|164=>172|5=>5|80=>63|n=>n,fun|n=>n⟩
theorem joinLays:Go.Proofs.Lays.n156 Tryz.prog joinLays_ren where
 mixed:=by kernel_rfl
 f156:=Tryz.func35.trans (congrArg some (by kernel_rfl))
 f165:=Tryz.func70.trans (congrArg some (by kernel_rfl))
 f166:=Tryz.func71.trans (congrArg some (by kernel_rfl))
 f169:=Tryz.func72.trans (congrArg some (by kernel_rfl))
 f240:=Tryz.func112.trans (congrArg some (by kernel_rfl))
 f241:=Tryz.func113.trans (congrArg some (by kernel_rfl))
 f276:=Tryz.func149.trans (congrArg some (by kernel_rfl))
 f277:=Tryz.func150.trans (congrArg some (by kernel_rfl))
 t0:=Tryz.underlying0
 a0:=Tryz.isAgg0
 z0:=Tryz.sizeOf0
 v0:=Tryz.zeroValue0
 t3:=Tryz.underlying3
 a3:=Tryz.isAgg3
 z3:=Tryz.sizeOf3
 v3:=Tryz.zeroValue3
 t4:=Tryz.underlying4
 a4:=Tryz.isAgg4
 z4:=Tryz.sizeOf4
 v4:=Tryz.zeroValue4
 t9:=Tryz.underlying9
 a9:=Tryz.isAgg9
 z9:=Tryz.sizeOf9
 v9:=Tryz.zeroValue9
 t20:=Tryz.underlying20
 a20:=Tryz.isAgg20
 z20:=Tryz.sizeOf20
 v20:=Tryz.zeroValue20
 t31:=Tryz.underlying60
 a31:=Tryz.isAgg60
 z31:=Tryz.sizeOf60
 v31:=Tryz.zeroValue60
 t37:=Tryz.underlying29
 a37:=Tryz.isAgg29
 z37:=Tryz.sizeOf29
 v37:=Tryz.zeroValue29
 t70:=Tryz.underlying101
 a70:=Tryz.isAgg101
 z70:=Tryz.sizeOf101
 v70:=Tryz.zeroValue101
 t72:=Tryz.underlying103
 a72:=Tryz.isAgg103
 z72:=Tryz.sizeOf103
 v72:=Tryz.zeroValue103
 t75:=Tryz.underlying106
 a75:=Tryz.isAgg106
 z75:=Tryz.sizeOf106
 v75:=Tryz.zeroValue106
 t76:=Tryz.underlying107
 a76:=Tryz.isAgg107
 z76:=Tryz.sizeOf107
 v76:=Tryz.zeroValue107
 t127:=Tryz.underlying142
 a127:=Tryz.isAgg142
 z127:=Tryz.sizeOf142
 v127:=Tryz.zeroValue142
 t164:=Tryz.underlying172
 a164:=Tryz.isAgg172
 z164:=Tryz.sizeOf172
 v164:=Tryz.zeroValue172
def joinX_ren:Go.Shelf.Ren:=⟨fun|156=>35|165=>70|166=>71|169=>72|240=>112|241=>113|276=>149|277=>150|n=>n,fun|31=>60|9=>9|3=>3|4=>4|0=>0|20=>20|72=>103|76=>107|70=>101|37=>29|75=>106|127=>142|164=>172|5=>5|80=>63|n=>n,fun|n=>n⟩
theorem joinX:Go.Proofs.Builder.Extra Tryz.prog joinX_ren where
 sizeBuilder:=by kernel_rfl
 liesBuilder:=by kernel_rfl
 t5:=Tryz.underlying5
 a5:=Tryz.isAgg5
 z5:=Tryz.sizeOf5
 v5:=Tryz.zeroValue5
 infoByte:=by kernel_rfl
 cellsByte:=by kernel_rfl
 sizeByte:=by kernel_rfl
 neB5:=by decide
def toErrLays_ren:Go.Shelf.Ren:=⟨fun|245=>155|279=>179|280=>180|281=>181|282=>182|316=>192|171=>68|205=>193|243=>110|246=>144|283=>145|284=>146|285=>147|286=>148|129=>172|317=>171|318=>173|319=>174|320=>175|337=>190|338=>191|n=>n,fun|9=>9|3=>3|75=>106|167=>185|4=>4|168=>187|210=>193|37=>29|0=>0|127=>142|145=>201|143=>199|2=>2|171=>167|53=>100|5=>5|173=>170|212=>181|51=>48|20=>20|213=>182|46=>133|232=>197|233=>198|80=>63|n=>n,fun|15=>2|16=>3|17=>0|18=>4|19=>5|n=>n⟩
theorem toErrLays:Go.Proofs.LaysC.n245 Tryz.prog toErrLays_ren where
 mixed:=by kernel_rfl
 f129:=Tryz.func172.trans (congrArg some (by kernel_rfl))
 f171:=Tryz.func68.trans (congrArg some (by kernel_rfl))
 f205:=Tryz.func193.trans (congrArg some (by kernel_rfl))
 f243:=Tryz.func110.trans (congrArg some (by kernel_rfl))
 f245:=Tryz.func155.trans (congrArg some (by kernel_rfl))
 f246:=Tryz.func144.trans (congrArg some (by kernel_rfl))
 f279:=Tryz.func179.trans (congrArg some (by kernel_rfl))
 f280:=Tryz.func180.trans (congrArg some (by kernel_rfl))
 f281:=Tryz.func181.trans (congrArg some (by kernel_rfl))
 f282:=Tryz.func182.trans (congrArg some (by kernel_rfl))
 f283:=Tryz.func145.trans (congrArg some (by kernel_rfl))
 f284:=Tryz.func146.trans (congrArg some (by kernel_rfl))
 f285:=Tryz.func147.trans (congrArg some (by kernel_rfl))
 f286:=Tryz.func148.trans (congrArg some (by kernel_rfl))
 f316:=Tryz.func192.trans (congrArg some (by kernel_rfl))
 f317:=Tryz.func171.trans (congrArg some (by kernel_rfl))
 f318:=Tryz.func173.trans (congrArg some (by kernel_rfl))
 f319:=Tryz.func174.trans (congrArg some (by kernel_rfl))
 f320:=Tryz.func175.trans (congrArg some (by kernel_rfl))
 f337:=Tryz.func190.trans (congrArg some (by kernel_rfl))
 f338:=Tryz.func191.trans (congrArg some (by kernel_rfl))
 t0:=Tryz.underlying0
 a0:=Tryz.isAgg0
 z0:=Tryz.sizeOf0
 v0:=Tryz.zeroValue0
 t2:=Tryz.underlying2
 a2:=Tryz.isAgg2
 z2:=Tryz.sizeOf2
 v2:=Tryz.zeroValue2
 t3:=Tryz.underlying3
 a3:=Tryz.isAgg3
 z3:=Tryz.sizeOf3
 v3:=Tryz.zeroValue3
 t4:=Tryz.underlying4
 a4:=Tryz.isAgg4
 z4:=Tryz.sizeOf4
 v4:=Tryz.zeroValue4
 t5:=Tryz.underlying5
 a5:=Tryz.isAgg5
 z5:=Tryz.sizeOf5
 v5:=Tryz.zeroValue5
 t9:=Tryz.underlying9
 a9:=Tryz.isAgg9
 z9:=Tryz.sizeOf9
 v9:=Tryz.zeroValue9
 t20:=Tryz.underlying20
 a20:=Tryz.isAgg20
 z20:=Tryz.sizeOf20
 v20:=Tryz.zeroValue20
 t37:=Tryz.underlying29
 a37:=Tryz.isAgg29
 z37:=Tryz.sizeOf29
 v37:=Tryz.zeroValue29
 t46:=Tryz.underlying133
 a46:=Tryz.isAgg133
 z46:=Tryz.sizeOf133
 v46:=Tryz.zeroValue133
 t51:=Tryz.underlying48
 a51:=Tryz.isAgg48
 z51:=Tryz.sizeOf48
 v51:=Tryz.zeroValue48
 t53:=Tryz.underlying100
 a53:=Tryz.isAgg100
 z53:=Tryz.sizeOf100
 v53:=Tryz.zeroValue100
 t75:=Tryz.underlying106
 a75:=Tryz.isAgg106
 z75:=Tryz.sizeOf106
 v75:=Tryz.zeroValue106
 t127:=Tryz.underlying142
 a127:=Tryz.isAgg142
 z127:=Tryz.sizeOf142
 v127:=Tryz.zeroValue142
 t143:=Tryz.underlying199
 a143:=Tryz.isAgg199
 z143:=Tryz.sizeOf199
 v143:=Tryz.zeroValue199
 t145:=Tryz.underlying201
 a145:=Tryz.isAgg201
 z145:=Tryz.sizeOf201
 v145:=Tryz.zeroValue201
 t167:=Tryz.underlying185
 a167:=Tryz.isAgg185
 z167:=Tryz.sizeOf185
 v167:=Tryz.zeroValue185
 t168:=Tryz.underlying187
 a168:=Tryz.isAgg187
 z168:=Tryz.sizeOf187
 v168:=Tryz.zeroValue187
 t171:=Tryz.underlying167
 a171:=Tryz.isAgg167
 z171:=Tryz.sizeOf167
 v171:=Tryz.zeroValue167
 t173:=Tryz.underlying170
 a173:=Tryz.isAgg170
 z173:=Tryz.sizeOf170
 v173:=Tryz.zeroValue170
 t210:=Tryz.underlying193
 a210:=Tryz.isAgg193
 z210:=Tryz.sizeOf193
 v210:=Tryz.zeroValue193
 t212:=Tryz.underlying181
 a212:=Tryz.isAgg181
 z212:=Tryz.sizeOf181
 v212:=Tryz.zeroValue181
 t213:=Tryz.underlying182
 a213:=Tryz.isAgg182
 z213:=Tryz.sizeOf182
 t232:=Tryz.underlying197
 a232:=Tryz.isAgg197
 z232:=Tryz.sizeOf197
 v232:=Tryz.zeroValue197
 t233:=Tryz.underlying198
 a233:=Tryz.isAgg198
 z233:=Tryz.sizeOf198
 v233:=Tryz.zeroValue198
 g15:=by kernel_rfl
 g16:=by kernel_rfl
 g17:=by kernel_rfl
 g18:=by kernel_rfl
 g19:=by kernel_rfl
 t80:=Tryz.underlying63
 a80:=Tryz.isAgg63
 z80:=Tryz.sizeOf63
 v80:=Tryz.zeroValue63
 i0:=by kernel_rfl
 i2:=by kernel_rfl
 i3:=by kernel_rfl
 i4:=by kernel_rfl
 i5:=by kernel_rfl
 i9:=by kernel_rfl
 i20:=by kernel_rfl
 i37:=by kernel_rfl
 i46:=by kernel_rfl
 i51:=by kernel_rfl
 i53:=by kernel_rfl
 i75:=by kernel_rfl
 i80:=by kernel_rfl
 i127:=by kernel_rfl
 i143:=by kernel_rfl
 i145:=by kernel_rfl
 i167:=by kernel_rfl
 i168:=by kernel_rfl
 i171:=by kernel_rfl
 i173:=by kernel_rfl
 i210:=by kernel_rfl
 i212:=by kernel_rfl
 i232:=by kernel_rfl
 i233:=by kernel_rfl
 m15:=by kernel_rfl
 m16:=by kernel_rfl
 m17:=by kernel_rfl
 m18:=by kernel_rfl
 m19:=by kernel_rfl
 c0:=by kernel_rfl
 c2:=by kernel_rfl
 c3:=by kernel_rfl
 c4:=by kernel_rfl
 c5:=by kernel_rfl
 c9:=by kernel_rfl
 c20:=by kernel_rfl
 c37:=by kernel_rfl
 c46:=by kernel_rfl
 c51:=by kernel_rfl
 c53:=by kernel_rfl
 c75:=by kernel_rfl
 c80:=by kernel_rfl
 c127:=by kernel_rfl
 c143:=by kernel_rfl
 c145:=by kernel_rfl
 c167:=by kernel_rfl
 c168:=by kernel_rfl
 c171:=by kernel_rfl
 c173:=by kernel_rfl
 c210:=by kernel_rfl
 c212:=by kernel_rfl
 c213:=by kernel_rfl
 c232:=by kernel_rfl
 c233:=by kernel_rfl
end Go.Proofs.YtgfamepnkhpemaaGreatDoor
namespace Go.Proofs.YtgfamepnkhpemaaGreatDoor
open Go Go.Fm
set_option maxRecDepth 1000000
noncomputable def e_laws_big:Con:=⟨11,⟨[(0, .s K1 [])],[]⟩,⟨[(0, .s K2 [])],[]⟩,false,[],λ code_1=>g_laws_big code_1⟩
noncomputable def e_spec_l01New:Con:=⟨38,⟨[(0, .s K1 [])],[]⟩,⟨[(0, .c (.one (.ptr 0 0)))],[.v K4 []]⟩,true,[],λ code_1=>g_spec_l01New code_1⟩
noncomputable def e_spec_l01Byte:Con:=⟨114,⟨[(0, .c (.one (.ptr 0 0)))],[.v K4 []]⟩,⟨[(0, .s K3 [])],[.v K4 []]⟩,true,[],λ c_1=>g_spec_l01Byte c_1⟩
noncomputable def e_spec_l01Below:Con:=⟨74,⟨[(0, .c (.one (.ptr 0 0))),(1, .s K3 [])],[.v K4 []]⟩,⟨[(0, .s K3 [])],[.v K4 []]⟩,true,[],λ (n_1,c_2)=>g_spec_l01Below n_1 c_2⟩
noncomputable def e_spec_l01Once:Con:=⟨40,⟨[(0, .c (.one (.ptr 0 0))),(1, .s K3 [])],[.v K4 []]⟩,⟨[(0, .s K2 [])],[.v K4 []]⟩,true,[],λ (n_1,c_2)=>g_spec_l01Once n_1 c_2⟩
noncomputable def e_spec_l01PickInt:Con:=⟨41,⟨[(0, .c (.one (.ptr 0 0))),(1, .s K10 [])],[.v K4 []]⟩,⟨[(0, .s K3 [])],[.v K4 []]⟩,true,[],λ (list_1,c_2)=>g_spec_l01PickInt list_1 c_2⟩
noncomputable def e_spec_l04Int:Con:=⟨115,⟨[(0, .c (.one (.ptr 0 0)))],[.v K4 []]⟩,⟨[(0, .s K6 [])],[.v K4 []]⟩,true,[],λ c_1=>g_spec_l04Int c_1⟩
noncomputable def e_spec_l01Pick:Con:=⟨42,⟨[(0, .c (.one (.ptr 0 0))),(1, .s K11 [])],[.v K4 []]⟩,⟨[(0, .s K5 [])],[.v K4 []]⟩,true,[],λ (list_1,c_2)=>g_spec_l01Pick list_1 c_2⟩
noncomputable def e_spec_l01In:Con:=⟨143,⟨[(0, .s K3 []),(1, .s K3 []),(2, .s K3 [])],[]⟩,⟨[(0, .s K2 [])],[]⟩,false,[],λ (x_1,a_2,b_3)=>g_spec_l01In x_1 a_2 b_3⟩
noncomputable def e_spec_l02All:Con:=⟨176,⟨[],[]⟩,⟨[(0, .s K5 [])],[]⟩,false,[],λ _=>g_spec_l02All⟩
noncomputable def e_spec_LetterAt:Con:=⟨151,⟨[(0, .s K3 [])],[]⟩,⟨[(0, .s K0 [])],[]⟩,false,[],λ k_1=>g_spec_LetterAt k_1⟩
noncomputable def e_spec_l02Name:Con:=⟨116,⟨[(0, .c (.one (.ptr 0 0)))],[.v K4 []]⟩,⟨[(0, .s K5 [])],[.v K4 []]⟩,true,[],λ c_1=>g_spec_l02Name c_1⟩
noncomputable def e_spec_l04Some:Con:=⟨75,⟨[(0, .c (.one (.ptr 0 0)))],[.v K4 []]⟩,⟨[(0, .s K8 [])],[.v K4 []]⟩,true,[],λ c_1=>g_spec_l04Some c_1⟩
noncomputable def e_spec_l01Word:Con:=⟨117,⟨[(0, .c (.one (.ptr 0 0)))],[.v K4 []]⟩,⟨[(0, .s K7 [])],[.v K4 []]⟩,true,[],λ c_1=>g_spec_l01Word c_1⟩
noncomputable def e_spec_l04Any:Con:=⟨76,⟨[(0, .c (.one (.ptr 0 0)))],[.v K4 []]⟩,⟨[(0, .s K8 [])],[.v K4 []]⟩,true,[],λ c_1=>g_spec_l04Any c_1⟩
noncomputable def e_spec_l04List:Con:=⟨39,⟨[(0, .c (.one (.ptr 0 0))),(1, .s K3 [])],[.v K4 []]⟩,⟨[(0, .s K9 [(0,1)])],[.v K4 [], .o]⟩,true,[],λ (most_1,c_2)=>g_spec_l04List most_1 c_2⟩
noncomputable def e_spec_DrawTypeText:Con:=⟨12,⟨[(0, .s K1 [])],[]⟩,⟨[(0, .s K9 [(0,0)])],[.o]⟩,false,[],λ code_1=>g_spec_DrawTypeText code_1⟩
noncomputable def e_impl_keyKinds:Con:=⟨31,⟨[],[]⟩,⟨[(0, .s K10 [(0,0)])],[.o]⟩,false,[],λ _=>g_impl_keyKinds⟩
noncomputable def e_impl_colorKeys:Con:=⟨32,⟨[],[]⟩,⟨[(0, .s K5 [])],[]⟩,false,[],λ _=>g_impl_colorKeys⟩
noncomputable def e_strconv_Itoa:Con:=⟨68,⟨[(0, .s K3 [])],[]⟩,⟨[(0, .s K5 [])],[]⟩,false,[],λ i_1=>g_strconv_Itoa i_1⟩
noncomputable def e_impl_DecText:Con:=⟨33,⟨[(0, .s K3 [])],[]⟩,⟨[(0, .s K5 [])],[]⟩,false,[],λ n_1=>g_impl_DecText n_1⟩
noncomputable def e_istrconv_small:Con:=⟨145,⟨[(0, .s K3 [])],[]⟩,⟨[(0, .s K5 [])],[]⟩,false,[],λ i_1=>g_istrconv_small i_1⟩
noncomputable def e_math_bits_Len64:Con:=⟨172,⟨[(0, .s K12 [])],[]⟩,⟨[(0, .s K3 [])],[]⟩,false,[],λ x_1=>g_math_bits_Len64 x_1⟩
noncomputable def e_istrconv_log10Pow2:Con:=⟨171,⟨[(0, .s K3 [])],[]⟩,⟨[(0, .s K3 [])],[]⟩,false,[],λ x_1=>g_istrconv_log10Pow2 x_1⟩
noncomputable def e_istrconv_bool2_int:Con:=⟨173,⟨[(0, .s K2 [])],[]⟩,⟨[(0, .s K3 [])],[]⟩,false,[],λ b_1=>g_istrconv_bool2_int b_1⟩
noncomputable def e_istrconv_numDigits:Con:=⟨146,⟨[(0, .s K12 [])],[]⟩,⟨[(0, .s K3 [])],[]⟩,false,[],λ d_1=>g_istrconv_numDigits d_1⟩
noncomputable def e_istrconv_isPowerOfTwo:Con:=⟨174,⟨[(0, .s K3 [])],[]⟩,⟨[(0, .s K2 [])],[]⟩,false,[],λ x_1=>g_istrconv_isPowerOfTwo x_1⟩
noncomputable def e_math_bits_TrailingZeros64:Con:=⟨191,⟨[(0, .s K12 [])],[]⟩,⟨[(0, .s K3 [])],[]⟩,false,[],λ x_1=>g_math_bits_TrailingZeros64 x_1⟩
noncomputable def e_math_bits_TrailingZeros:Con:=⟨175,⟨[(0, .s K12 [])],[]⟩,⟨[(0, .s K3 [])],[]⟩,false,[],λ x_1=>g_math_bits_TrailingZeros x_1⟩
noncomputable def e_istrconv_formatBits:Con:=⟨148,⟨[(0, .s K1 []),(1, .s K12 []),(2, .s K3 []),(3, .s K2 []),(4, .s K2 [])],[]⟩,⟨[(0, .c (.one (.emp))),(1, .s K5 [])],[]⟩,false,[],λ (dst_1,u_2,base_3,neg_4,append__5)=>g_istrconv_formatBits dst_1 u_2 base_3 neg_4 append__5⟩
noncomputable def e_istrconv_FormatUint:Con:=⟨111,⟨[(0, .s K12 []),(1, .s K3 [])],[]⟩,⟨[(0, .s K5 [])],[]⟩,false,[],λ (i_1,base_2)=>g_istrconv_FormatUint i_1 base_2⟩
noncomputable def e_strconv_FormatUint:Con:=⟨69,⟨[(0, .s K12 []),(1, .s K3 [])],[]⟩,⟨[(0, .s K5 [])],[]⟩,false,[],λ (i_1,base_2)=>g_strconv_FormatUint i_1 base_2⟩
noncomputable def e_impl_HexText:Con:=⟨34,⟨[(0, .s K7 [])],[]⟩,⟨[(0, .s K5 [])],[]⟩,false,[],λ n_1=>g_impl_HexText n_1⟩
noncomputable def e_strings_Join:Con:=⟨35,⟨[(0, .s K11 []),(1, .s K5 [])],[]⟩,⟨[(0, .s K5 [])],[]⟩,false,[],λ a=>g_strings_Join a.1 a.2⟩
noncomputable def e_impl_isSpace:Con:=⟨77,⟨[(0, .s K0 [])],[]⟩,⟨[(0, .s K2 [])],[]⟩,false,[],λ b_1=>g_impl_isSpace b_1⟩
noncomputable def e_impl_spots:Con:=⟨43,⟨[(0, .s K5 [])],[]⟩,⟨[(0, .s K14 [(0,0)])],[.o]⟩,false,[],λ s_1=>g_impl_spots s_1⟩
noncomputable def e_ibytealg_IndexByteString:Con:=⟨152,⟨[(0, .s K5 []),(1, .s K0 [])],[]⟩,⟨[(0, .s K3 [])],[]⟩,false,[],λ a=>g_ibytealg_IndexByteString a.1 a.2⟩
noncomputable def e_istringslite_IndexByte:Con:=⟨118,⟨[(0, .s K5 []),(1, .s K0 [])],[]⟩,⟨[(0, .s K3 [])],[]⟩,false,[],λ (s_1,c_2)=>g_istringslite_IndexByte s_1 c_2⟩
noncomputable def e_strings_IndexByte:Con:=⟨78,⟨[(0, .s K5 []),(1, .s K0 [])],[]⟩,⟨[(0, .s K3 [])],[]⟩,false,[],λ (s_1,c_2)=>g_strings_IndexByte s_1 c_2⟩
noncomputable def e_impl_ColorKey:Con:=⟨44,⟨[(0, .s K0 [])],[]⟩,⟨[(0, .s K3 [])],[]⟩,false,[],λ b_1=>g_impl_ColorKey b_1⟩
noncomputable def e_istringslite_HasPrefix:Con:=⟨153,⟨[(0, .s K5 []),(1, .s K5 [])],[]⟩,⟨[(0, .s K2 [])],[]⟩,false,[],λ (s_1,vprefix_2)=>g_istringslite_HasPrefix s_1 vprefix_2⟩
noncomputable def e_istringslite_CutPrefix:Con:=⟨119,⟨[(0, .s K5 []),(1, .s K5 [])],[]⟩,⟨[(0, .s K5 []),(1, .s K2 [])],[]⟩,false,[],λ (s_1,vprefix_2)=>g_istringslite_CutPrefix s_1 vprefix_2⟩
noncomputable def e_strings_CutPrefix:Con:=⟨79,⟨[(0, .s K5 []),(1, .s K5 [])],[]⟩,⟨[(0, .s K5 []),(1, .s K2 [])],[]⟩,false,[],λ (s_1,vprefix_2)=>g_strings_CutPrefix s_1 vprefix_2⟩
noncomputable def e_istrconv_lower:Con:=⟨177,⟨[(0, .s K0 [])],[]⟩,⟨[(0, .s K0 [])],[]⟩,false,[],λ c_1=>g_istrconv_lower c_1⟩
noncomputable def e_istrconv_underscoreOK:Con:=⟨178,⟨[(0, .s K5 [])],[]⟩,⟨[(0, .s K2 [])],[]⟩,false,[],λ s_1=>g_istrconv_underscoreOK s_1⟩
noncomputable def e_istrconv_ParseUint:Con:=⟨154,⟨[(0, .s K5 []),(1, .s K3 []),(2, .s K3 [])],[]⟩,⟨[(0, .s K12 []),(1, .s K15 [])],[]⟩,false,[],λ (s_1,base_2,bitSize_3)=>g_istrconv_ParseUint s_1 base_2 bitSize_3⟩
noncomputable def e_strconv_toError:Con:=⟨155,⟨[(0, .s K5 []),(1, .s K5 []),(2, .s K3 []),(3, .s K3 []),(4, .s K15 [])],[]⟩,⟨[(0, .s K15 [])],[]⟩,false,[],λ a=>g_strconv_toError a.1 a.2.1 a.2.2.1 a.2.2.2.1 a.2.2.2.2⟩
noncomputable def e_strconv_ParseUint:Con:=⟨120,⟨[(0, .s K5 []),(1, .s K3 []),(2, .s K3 [])],[]⟩,⟨[(0, .s K12 []),(1, .s K15 [])],[]⟩,false,[],λ (s_1,base_2,bitSize_3)=>g_strconv_ParseUint s_1 base_2 bitSize_3⟩
noncomputable def e_impl_ReadHex:Con:=⟨80,⟨[(0, .s K5 [])],[]⟩,⟨[(0, .s K7 []),(1, .s K2 [])],[]⟩,false,[],λ s_1=>g_impl_ReadHex s_1⟩
noncomputable def e_istrconv_ParseInt:Con:=⟨194,⟨[(0, .s K5 []),(1, .s K3 []),(2, .s K3 [])],[]⟩,⟨[(0, .s K3 []),(1, .s K15 [])],[]⟩,false,[],λ (s_1,base_2,bitSize_3)=>g_istrconv_ParseInt s_1 base_2 bitSize_3⟩
noncomputable def e_istrconv_Atoi:Con:=⟨183,⟨[(0, .s K5 [])],[]⟩,⟨[(0, .s K3 []),(1, .s K15 [])],[]⟩,false,[],λ s_1=>g_istrconv_Atoi s_1⟩
noncomputable def e_strconv_Atoi:Con:=⟨156,⟨[(0, .s K5 [])],[]⟩,⟨[(0, .s K3 []),(1, .s K15 [])],[]⟩,false,[],λ s_1=>g_strconv_Atoi s_1⟩
noncomputable def e_impl_ReadDec:Con:=⟨121,⟨[(0, .s K5 [])],[]⟩,⟨[(0, .s K3 []),(1, .s K2 [])],[]⟩,false,[],λ s_1=>g_impl_ReadDec s_1⟩
noncomputable def e_impl_small:Con:=⟨81,⟨[(0, .s K5 [])],[]⟩,⟨[(0, .s K6 []),(1, .s K2 [])],[]⟩,false,[],λ s_1=>g_impl_small s_1⟩
noncomputable def e_impl_typedNumber:Con:=⟨45,⟨[(0, .s K5 [])],[]⟩,⟨[(0, .s K6 []),(1, .s K2 []),(2, .s K2 [])],[]⟩,false,[],λ word_1=>g_impl_typedNumber word_1⟩
noncomputable def e_impl_nameTag:Con:=⟨102,⟨[(0, .s K3 [])],[]⟩,⟨[(0, .s K7 [])],[]⟩,false,[],λ kind_1=>g_impl_nameTag kind_1⟩
noncomputable def e_impl_letters:Con:=⟨169,⟨[],[]⟩,⟨[(0, .s K5 [])],[]⟩,false,[],λ _=>g_impl_letters⟩
noncomputable def e_impl_LetterOf:Con:=⟨165,⟨[(0, .s K0 [])],[]⟩,⟨[(0, .s K3 [])],[]⟩,false,[],λ b_1=>g_impl_LetterOf b_1⟩
noncomputable def e_impl_within:Con:=⟨166,⟨[(0, .s K3 []),(1, .s K3 []),(2, .s K3 [])],[]⟩,⟨[(0, .s K2 [])],[]⟩,false,[],λ (n_1,low_2,high_3)=>g_impl_within n_1 low_2 high_3⟩
noncomputable def e_impl_NameOk:Con:=⟨137,⟨[(0, .s K5 [])],[]⟩,⟨[(0, .s K2 [])],[]⟩,false,[],λ s_1=>g_impl_NameOk s_1⟩
noncomputable def e_impl_WidthOf:Con:=⟨167,⟨[(0, .s K3 [])],[]⟩,⟨[(0, .s K3 [])],[]⟩,false,[],λ k_1=>g_impl_WidthOf k_1⟩
noncomputable def e_impl_BitsOf:Con:=⟨168,⟨[(0, .s K3 [])],[]⟩,⟨[(0, .s K7 [])],[]⟩,false,[],λ k_1=>g_impl_BitsOf k_1⟩
noncomputable def e_impl_PackOne:Con:=⟨140,⟨[(0, .s K5 [])],[]⟩,⟨[(0, .s K7 []),(1, .s K3 [])],[]⟩,false,[],λ s_1=>g_impl_PackOne s_1⟩
noncomputable def e_impl_Pack:Con:=⟨103,⟨[(0, .s K5 [])],[]⟩,⟨[(0, .s K16 [(0,0)])],[.o]⟩,false,[],λ s_1=>g_impl_Pack s_1⟩
noncomputable def e_impl_numberCells:Con:=⟨104,⟨[(0, .s K6 []),(1, .s K2 []),(2, .s K7 []),(3, .s K7 [])],[]⟩,⟨[(0, .s K16 [(0,0)])],[.o]⟩,false,[],λ (n_1,hex_2,short_3,long_4)=>g_impl_numberCells n_1 hex_2 short_3 long_4⟩
noncomputable def e_impl_CellsOf:Con:=⟨60,⟨[(0, .s K8 [])],[]⟩,⟨[(0, .s K16 [(0,0)])],[.o]⟩,false,[],λ it_1=>g_impl_CellsOf it_1⟩
noncomputable def e_impl_ItemOk:Con:=⟨46,⟨[(0, .s K8 [])],[]⟩,⟨[(0, .s K2 [])],[]⟩,false,[],λ it_1=>g_impl_ItemOk it_1⟩
noncomputable def e_impl_Typed:Con:=⟨13,⟨[(0, .s K5 [])],[]⟩,⟨[(0, .s K9 [(0,0)]),(1, .s K3 [])],[.o]⟩,false,[],λ s_1=>g_impl_Typed s_1⟩
noncomputable def e_slices_Equal_Item:Con:=⟨73,⟨[(0, .s K9 []),(1, .s K9 [])],[]⟩,⟨[(0, .s K2 [])],[]⟩,false,[],λ (s1_1,s2_2)=>g_slices_Equal_Item s1_1 s2_2⟩
noncomputable def e_impl_sameItems:Con:=⟨36,⟨[(0, .s K9 []),(1, .s K9 [])],[]⟩,⟨[(0, .s K2 [])],[]⟩,false,[],λ (a_1,b_2)=>g_impl_sameItems a_1 b_2⟩
noncomputable def e_impl_TypeText:Con:=⟨9,⟨[(0, .s K9 [])],[]⟩,⟨[(0, .s K5 [])],[]⟩,false,[],λ list_1=>g_impl_TypeText list_1⟩
noncomputable def e_spec_DecText:Con:=⟨62,⟨[(0, .s K3 [])],[]⟩,⟨[(0, .s K5 [])],[]⟩,false,[],λ n_1=>g_spec_DecText n_1⟩
noncomputable def e_spec_HexText:Con:=⟨63,⟨[(0, .s K7 [])],[]⟩,⟨[(0, .s K5 [])],[]⟩,false,[],λ n_1=>g_spec_HexText n_1⟩
noncomputable def e_spec_l16Keys:Con:=⟨64,⟨[],[]⟩,⟨[(0, .s K5 [])],[]⟩,false,[],λ _=>g_spec_l16Keys⟩
noncomputable def e_spec_ColorKey:Con:=⟨65,⟨[(0, .s K0 [])],[]⟩,⟨[(0, .s K3 [])],[]⟩,false,[],λ b_1=>g_spec_ColorKey b_1⟩
noncomputable def e_spec_l16One:Con:=⟨27,⟨[(0, .s K8 [])],[]⟩,⟨[(0, .s K5 [])],[]⟩,false,[],λ it_1=>g_spec_l16One it_1⟩
noncomputable def e_spec_l01Blank:Con:=⟨66,⟨[(0, .s K0 [])],[]⟩,⟨[(0, .s K2 [])],[]⟩,false,[],λ b_1=>g_spec_l01Blank b_1⟩
noncomputable def e_spec_l01Digit:Con:=⟨170,⟨[(0, .s K0 [])],[]⟩,⟨[(0, .s K2 [])],[]⟩,false,[],λ b_1=>g_spec_l01Digit b_1⟩
noncomputable def e_spec_ReadHex:Con:=⟨141,⟨[(0, .s K5 [])],[]⟩,⟨[(0, .s K7 []),(1, .s K2 [])],[]⟩,false,[],λ s_1=>g_spec_ReadHex s_1⟩
noncomputable def e_spec_ReadDec:Con:=⟨142,⟨[(0, .s K5 [])],[]⟩,⟨[(0, .s K3 []),(1, .s K2 [])],[]⟩,false,[],λ s_1=>g_spec_ReadDec s_1⟩
noncomputable def e_spec_l06Dec:Con:=⟨108,⟨[(0, .s K5 [])],[]⟩,⟨[(0, .s K6 []),(1, .s K2 [])],[]⟩,false,[],λ s_1=>g_spec_l06Dec s_1⟩
noncomputable def e_spec_l16Number:Con:=⟨107,⟨[(0, .s K3 []),(1, .s K5 [])],[]⟩,⟨[(0, .s K8 []),(1, .s K2 [])],[]⟩,false,[],λ (kind_1,s_2)=>g_spec_l16Number kind_1 s_2⟩
noncomputable def e_spec_l04Num:Con:=⟨158,⟨[(0, .s K6 []),(1, .s K2 []),(2, .s K7 []),(3, .s K7 [])],[]⟩,⟨[(0, .s K16 [(0,0)])],[.o]⟩,false,[],λ (n_1,hex_2,short_3,long_4)=>g_spec_l04Num n_1 hex_2 short_3 long_4⟩
noncomputable def e_spec_LetterOf:Con:=⟨195,⟨[(0, .s K0 [])],[]⟩,⟨[(0, .s K3 [])],[]⟩,false,[],λ b_1=>g_spec_LetterOf b_1⟩
noncomputable def e_spec_NameOk:Con:=⟨184,⟨[(0, .s K5 [])],[]⟩,⟨[(0, .s K2 [])],[]⟩,false,[],λ s_1=>g_spec_NameOk s_1⟩
noncomputable def e_spec_WidthOf:Con:=⟨187,⟨[(0, .s K3 [])],[]⟩,⟨[(0, .s K3 [])],[]⟩,false,[],λ k_1=>g_spec_WidthOf k_1⟩
noncomputable def e_spec_BitsOf:Con:=⟨188,⟨[(0, .s K3 [])],[]⟩,⟨[(0, .s K7 [])],[]⟩,false,[],λ k_1=>g_spec_BitsOf k_1⟩
noncomputable def e_spec_l03One:Con:=⟨186,⟨[(0, .s K5 [])],[]⟩,⟨[(0, .s K7 []),(1, .s K3 [])],[]⟩,false,[],λ s_1=>g_spec_l03One s_1⟩
noncomputable def e_spec_Pack:Con:=⟨162,⟨[(0, .s K5 [])],[]⟩,⟨[(0, .s K16 [(0,0)])],[.o]⟩,false,[],λ s_1=>g_spec_Pack s_1⟩
noncomputable def e_spec_l04Word:Con:=⟨159,⟨[(0, .s K7 []),(1, .s K5 [])],[]⟩,⟨[(0, .s K16 [(0,0)])],[.o]⟩,false,[],λ (tag_1,name_2)=>g_spec_l04Word tag_1 name_2⟩
noncomputable def e_spec_l04Tag:Con:=⟨160,⟨[(0, .s K3 [])],[]⟩,⟨[(0, .s K7 [])],[]⟩,false,[],λ kind_1=>g_spec_l04Tag kind_1⟩
noncomputable def e_spec_CellsOf:Con:=⟨127,⟨[(0, .s K8 [])],[]⟩,⟨[(0, .s K16 [(0,0)])],[.o]⟩,false,[],λ it_1=>g_spec_CellsOf it_1⟩
noncomputable def e_spec_ItemOk:Con:=⟨109,⟨[(0, .s K8 [])],[]⟩,⟨[(0, .s K2 [])],[]⟩,false,[],λ it_1=>g_spec_ItemOk it_1⟩
noncomputable def e_spec_l16Word:Con:=⟨67,⟨[(0, .s K9 [(0,0)]),(1, .s K3 []),(2, .s K5 [])],[.o]⟩,⟨[(0, .s K9 [(0,1)]),(1, .s K2 [])],[.d, .o]⟩,false,[],λ (list_1,kind_2,s_3)=>g_spec_l16Word list_1 kind_2 s_3⟩
noncomputable def e_spec_Typed:Con:=⟨28,⟨[(0, .s K5 [])],[]⟩,⟨[(0, .s K9 [(0,0)]),(1, .s K3 [])],[.o]⟩,false,[],λ s_1=>g_spec_Typed s_1⟩
noncomputable def e_spec_l04Same:Con:=⟨29,⟨[(0, .s K9 []),(1, .s K9 [])],[]⟩,⟨[(0, .s K2 [])],[]⟩,false,[],λ (a_1,b_2)=>g_spec_l04Same a_1 b_2⟩
noncomputable def e_spec_TypeText:Con:=⟨7,⟨[(0, .s K9 [])],[]⟩,⟨[(0, .s K5 [])],[]⟩,false,[],λ list_1=>g_spec_TypeText list_1⟩
noncomputable def e_laws_sameItems:Con:=⟨14,⟨[(0, .s K9 []),(1, .s K9 [])],[]⟩,⟨[(0, .s K2 [])],[]⟩,false,[],λ (a_1,b_2)=>g_laws_sameItems a_1 b_2⟩
noncomputable def e_laws_FnTyped:Con:=⟨4,⟨[(0, .s K1 [])],[]⟩,⟨[(0, .s K2 [])],[]⟩,false,[],λ code_1=>g_laws_FnTyped code_1⟩
abbrev CO (c:Con):Prop:=ConOk Tryz.prog c
abbrev CK (Γ:List Con) (n:Nat) (an:An) (f:Func) (e:Con):Prop:=AnOk TryzT Γ n an (bodyOf f)/\∀ a,fnRun TryzT Γ an (bodyOf f) f.results.toList e.ro e.ps e.rs a=e.g a
theorem fnc {Γ:List Con} {n:Nat} {an:An} {fn:Func} {C:Con} (h:Tryz.prog.follows .mixedOrders=true->∀ c ∈ Γ,CO c) (hf:Tryz.prog.funcs[C.f]? = some fn) (hk:CK Γ n an fn C) (h1:(!(fn.name == "runtime.NumGoroutine")&&okC fn.ntmps (bodyOf fn))=true)
  (h2:∀ a,entB C n fn.ntmps a=true) (h3:∀ r,endB C fn.results.toList.length r=true) (hb:fn.body=some (bodyOf fn)):CO C:=by
 rw[Bool.and_eq_true,Bool.not_eq_true']at h1
 exact fn_ok (P:=λ _=>Tryz.prog) (n:=n) TryzT_eq h hf hb h1.1 rfl rfl h1.2 rfl h2 h3 hk.1 λ a r e=>(hk.2 a).trans e
end Go.Proofs.YtgfamepnkhpemaaGreatDoor
namespace Go.Proofs.YtgfamepnkhpemaaGreatDoor
open Go Go.Fm
set_option maxRecDepth 1000000
noncomputable def ane_laws_big:An:=.z
theorem ke_laws_big:CK [] 0 ane_laws_big Tryz.f11 e_laws_big:=⟨trivial,λ _=>by kernel_rfl⟩
noncomputable def ane_spec_l01New:An:=.q .z (.q .z (.m [(.normal,⟨[(3, .s K3 [])],[]⟩)] [0,2] [] (.q .z (.b (.l ⟨[(0, .s K1 []),(2, .c (.one (.nilp)))],[]⟩ ⟨[(3, .s K3 []),(4, .s K3 [])],[]⟩ [(.exit 0,⟨[(3, .s K3 [])],[]⟩)] (λ code_1 k (h_4,i_5)=>g_spec_l01New_l0 code_1 k h_4 i_5) (.q (.m [(.normal,⟨[(15, .s K2 [])],[]⟩)] [3,4] [] .z .z) .z)))) .z))
theorem ke_spec_l01New:CK [] 0 ane_spec_l01New Tryz.f38 e_spec_l01New:=⟨⟨trivial,⟨trivial,⟨⟨trivial,⟨λ _ _=>rfl,λ _ _ _ _=>by kernel_rfl,⟨⟨trivial,trivial⟩,trivial⟩⟩⟩,trivial⟩⟩⟩,λ _=>by kernel_rfl⟩
noncomputable def ane_spec_l01Byte:An:=.q .z (.q .z (.q .z (.m [(.normal,⟨[(3, .s K3 [])],[.v K4 []]⟩)] [0,2] [] .z .z)))
theorem ke_spec_l01Byte:CK [] 1 ane_spec_l01Byte Tryz.f114 e_spec_l01Byte:=⟨⟨trivial,⟨trivial,⟨trivial,⟨trivial,trivial⟩⟩⟩⟩,λ _=>by kernel_rfl⟩
noncomputable def ane_spec_l01Below:An:=.z
theorem ke_spec_l01Below:CK [e_spec_l01Byte] 1 ane_spec_l01Below Tryz.f74 e_spec_l01Below:=⟨trivial,λ _=>by kernel_rfl⟩
noncomputable def ane_spec_l01Once:An:=.z
theorem ke_spec_l01Once:CK [e_spec_l01Below] 1 ane_spec_l01Once Tryz.f40 e_spec_l01Once:=⟨trivial,λ _=>by kernel_rfl⟩
noncomputable def ane_spec_l01PickInt:An:=.z
theorem ke_spec_l01PickInt:CK [e_spec_l01Below] 1 ane_spec_l01PickInt Tryz.f41 e_spec_l01PickInt:=⟨trivial,λ _=>by kernel_rfl⟩
noncomputable def ane_spec_l04Int:An:=.z
theorem ke_spec_l04Int:CK [e_spec_l01Once,e_spec_l01Below,e_spec_l01PickInt] 1 ane_spec_l04Int Tryz.f115 e_spec_l04Int:=⟨trivial,λ _=>by kernel_rfl⟩
noncomputable def ane_spec_l01Pick:An:=.z
theorem ke_spec_l01Pick:CK [e_spec_l01Below] 1 ane_spec_l01Pick Tryz.f42 e_spec_l01Pick:=⟨trivial,λ _=>by kernel_rfl⟩
end Go.Proofs.YtgfamepnkhpemaaGreatDoor
namespace Go.Proofs.YtgfamepnkhpemaaGreatDoor
open Go Go.Fm
set_option maxRecDepth 1000000
noncomputable def ane_spec_l01In:An:=.z
theorem ke_spec_l01In:CK [] 0 ane_spec_l01In Tryz.f143 e_spec_l01In:=⟨trivial,λ _=>by kernel_rfl⟩
noncomputable def ane_spec_l02All:An:=.z
theorem ke_spec_l02All:CK [] 0 ane_spec_l02All Tryz.f176 e_spec_l02All:=⟨trivial,λ _=>by kernel_rfl⟩
noncomputable def ane_spec_LetterAt:An:=.z
theorem ke_spec_LetterAt:CK [e_spec_l01In,e_spec_l02All] 0 ane_spec_LetterAt Tryz.f151 e_spec_LetterAt:=⟨trivial,λ _=>by kernel_rfl⟩
noncomputable def ane_spec_l02Name:An:=.q .z (.q .z (.q .z (.q .z (.m [(.normal,⟨[(3, .s K1 [(0,2)])],[.v K4 [], .d, .o]⟩)] [0,2,4] [] (.q .z (.b (.l ⟨[(0, .c (.one (.ptr 0 0))),(2, .s K5 []),(4, .s K3 [])],[.n, .n, .n]⟩ ⟨[(3, .s K1 [(0,2)]),(5, .s K3 [])],[.v K4 [], .d, .o]⟩ [(.exit 0,⟨[(3, .s K1 [(0,2)])],[.v K4 [], .d, .o]⟩)] (λ (_,n_10) k (out_11,i_12,x_13)=>g_spec_l02Name_l0 n_10 k out_11 i_12 x_13) .z))) .z))))
theorem ke_spec_l02Name:CK [e_spec_l01Once,e_spec_l01Pick,e_spec_l01Below,e_spec_LetterAt] 1 ane_spec_l02Name Tryz.f116 e_spec_l02Name:=⟨⟨trivial,⟨trivial,⟨trivial,⟨trivial,⟨⟨trivial,⟨λ _ _=>rfl,λ _ _ _ _=>by kernel_rfl,trivial⟩⟩,trivial⟩⟩⟩⟩⟩,λ _=>by kernel_rfl⟩
noncomputable def ane_spec_l04Some:An:=.z
theorem ke_spec_l04Some:CK [e_spec_l01Below,e_spec_l04Int,e_spec_l01Once,e_spec_l01Pick,e_spec_l02Name] 1 ane_spec_l04Some Tryz.f75 e_spec_l04Some:=⟨trivial,λ _=>by kernel_rfl⟩
noncomputable def ane_spec_l01Word:An:=.z
theorem ke_spec_l01Word:CK [e_spec_l01Below,e_spec_l01PickInt] 1 ane_spec_l01Word Tryz.f117 e_spec_l01Word:=⟨trivial,λ _=>by kernel_rfl⟩
noncomputable def ane_spec_l04Any:An:=.q .z (.q .z (.m [(.normal,⟨[],[.v K4 [], .v K8 [], .v K8 []]⟩),(.ret,⟨[],[.v K4 [], .v K8 [], .v K8 []]⟩)] [0,2,3] [] .z .z))
theorem ke_spec_l04Any:CK [e_spec_l04Some,e_spec_l01Below,e_spec_l01Word,e_spec_l01Pick] 1 ane_spec_l04Any Tryz.f76 e_spec_l04Any:=⟨⟨trivial,⟨trivial,⟨trivial,trivial⟩⟩⟩,λ _=>by kernel_rfl⟩
noncomputable def ane_spec_l04List:An:=.q .z (.q .z (.q .z (.m [(.normal,⟨[(5, .s K9 [(0,2)])],[.v K4 [], .d, .o]⟩)] [0,4,6] [] (.q .z (.b (.l ⟨[(0, .c (.one (.ptr 0 0))),(4, .c (.one (.emp))),(6, .s K3 [])],[.n, .n, .n]⟩ ⟨[(5, .s K9 [(0,2)]),(7, .s K3 [])],[.v K4 [], .d, .o]⟩ [(.exit 0,⟨[(5, .s K9 [(0,2)])],[.v K4 [], .d, .o]⟩)] (λ n_8 k (out_9,i_10,x_11)=>g_spec_l04List_l0 n_8 k out_9 i_10 x_11) (.q .z (.m [(.normal,⟨[(5, .s K9 [(0,3)])],[.v K4 [], .d, .d, .o]⟩)] [7] [] (.b (.q .z (.m [(.normal,⟨[],[.v K4 [], .d, .f, .v K8 []]⟩)] [5,8] [2] .z .z))) .z))))) .z)))
theorem ke_spec_l04List:CK [e_spec_l01Below,e_spec_l04Some,e_spec_l01Once,e_spec_l04Any] 1 ane_spec_l04List Tryz.f39 e_spec_l04List:=⟨⟨trivial,⟨trivial,⟨trivial,⟨⟨trivial,⟨λ _ _=>rfl,λ _ _ _ _=>by kernel_rfl,⟨trivial,⟨⟨trivial,⟨trivial,trivial⟩⟩,trivial⟩⟩⟩⟩,trivial⟩⟩⟩⟩,λ _=>by kernel_rfl⟩
end Go.Proofs.YtgfamepnkhpemaaGreatDoor
namespace Go.Proofs.YtgfamepnkhpemaaGreatDoor
open Go Go.Fm
set_option maxRecDepth 1000000
noncomputable def ane_spec_DrawTypeText:An:=.q .z (.q .z (.q .z (.m [(.normal,⟨[(4, .s K9 [(0,2)])],[.v K4 [], .d, .o]⟩)] [2,3] [] .z .z)))
theorem ke_spec_DrawTypeText:CK [e_spec_l01New,e_spec_l04List,e_spec_l01Once,e_spec_l01PickInt,e_spec_l01Pick] 0 ane_spec_DrawTypeText Tryz.f12 e_spec_DrawTypeText:=⟨⟨trivial,⟨trivial,⟨trivial,⟨trivial,trivial⟩⟩⟩⟩,λ _=>by kernel_rfl⟩
noncomputable def ane_impl_keyKinds:An:=.z
theorem ke_impl_keyKinds:CK [] 0 ane_impl_keyKinds Tryz.f31 e_impl_keyKinds:=⟨trivial,λ _=>by kernel_rfl⟩
noncomputable def ane_impl_colorKeys:An:=.z
theorem ke_impl_colorKeys:CK [] 0 ane_impl_colorKeys Tryz.f32 e_impl_colorKeys:=⟨trivial,λ _=>by kernel_rfl⟩
theorem fe_strconv_Itoa:ConOk Tryz.prog e_strconv_Itoa:=itoa_ok (g:=0) itoaLays rfl (by kernel_rfl) (by rw[glob_0,show gtPow10=Go.Lib.pow10Tab from by kernel_rfl])
noncomputable def ane_impl_DecText:An:=.z
theorem ke_impl_DecText:CK [e_strconv_Itoa] 0 ane_impl_DecText Tryz.f33 e_impl_DecText:=⟨trivial,λ _=>by kernel_rfl⟩
noncomputable def ane_istrconv_small:An:=.z
theorem ke_istrconv_small:CK [] 0 ane_istrconv_small Tryz.f145 e_istrconv_small:=⟨trivial,λ _=>by kernel_rfl⟩
noncomputable def ane_math_bits_Len64:An:=.q .z (.m [(.normal,⟨[(0, .s K12 []),(2, .s K3 [])],[]⟩)] [] [] .z (.m [(.normal,⟨[(0, .s K12 []),(2, .s K3 [])],[]⟩)] [] [] .z (.m [(.normal,⟨[(0, .s K12 []),(2, .s K3 [])],[]⟩)] [] [] .z .z)))
theorem ke_math_bits_Len64:CK [] 0 ane_math_bits_Len64 Tryz.f172 e_math_bits_Len64:=⟨⟨trivial,⟨trivial,⟨trivial,⟨trivial,trivial⟩⟩⟩⟩,λ _=>by kernel_rfl⟩
noncomputable def ane_istrconv_log10Pow2:An:=.z
theorem ke_istrconv_log10Pow2:CK [] 0 ane_istrconv_log10Pow2 Tryz.f171 e_istrconv_log10Pow2:=⟨trivial,λ _=>by kernel_rfl⟩
end Go.Proofs.YtgfamepnkhpemaaGreatDoor
namespace Go.Proofs.YtgfamepnkhpemaaGreatDoor
open Go Go.Fm
set_option maxRecDepth 1000000
noncomputable def ane_istrconv_bool2_int:An:=.z
theorem ke_istrconv_bool2_int:CK [] 0 ane_istrconv_bool2_int Tryz.f173 e_istrconv_bool2_int:=⟨trivial,λ _=>by kernel_rfl⟩
noncomputable def ane_istrconv_numDigits:An:=.z
theorem ke_istrconv_numDigits:CK [e_math_bits_Len64,e_istrconv_log10Pow2,e_istrconv_bool2_int] 0 ane_istrconv_numDigits Tryz.f146 e_istrconv_numDigits:=⟨trivial,λ _=>by kernel_rfl⟩
noncomputable def ane_istrconv_isPowerOfTwo:An:=.z
theorem ke_istrconv_isPowerOfTwo:CK [] 0 ane_istrconv_isPowerOfTwo Tryz.f174 e_istrconv_isPowerOfTwo:=⟨trivial,λ _=>by kernel_rfl⟩
noncomputable def ane_math_bits_TrailingZeros64:An:=.z
theorem ke_math_bits_TrailingZeros64:CK [] 0 ane_math_bits_TrailingZeros64 Tryz.f191 e_math_bits_TrailingZeros64:=⟨trivial,λ _=>by kernel_rfl⟩
noncomputable def ane_math_bits_TrailingZeros:An:=.z
theorem ke_math_bits_TrailingZeros:CK [e_math_bits_TrailingZeros64] 0 ane_math_bits_TrailingZeros Tryz.f175 e_math_bits_TrailingZeros:=⟨trivial,λ _=>by kernel_rfl⟩
noncomputable def ane_istrconv_formatBits:An:=.q .z (.m [(.normal,⟨[],[]⟩)] [0,1,2,3,4,10,11] [] (.m [(.normal,⟨[(28, .s K2 [])],[]⟩)] [] [] .z .z) (.q .z (.q .z (.m [(.normal,⟨[(1, .s K12 [])],[.f]⟩)] [0,2,3,4,10,11,12,13] [0] .z (.m [(.normal,⟨[(13, .s K3 [])],[.r K0]⟩)] [0,2,3,4,10,11,12] [] (.q .z (.q (.q .z (.q .z (.q .z (.q (.b (.l ⟨[(0, .s K1 []),(2, .s K3 []),(3, .s K2 []),(4, .s K2 []),(10, .c (.one (.emp))),(11, .s K5 []),(12, .c (.one (.ptr 0 0))),(14, .s K12 []),(15, .s K12 []),(16, .s K12 [])],[.n]⟩ ⟨[(1, .s K12 []),(13, .s K3 [])],[.r K0]⟩ [(.exit 0,⟨[(1, .s K12 []),(13, .s K3 [])],[.r K0]⟩)] (λ (_,_,_,_,_,shift_14,b_15,m_16) k (u_17,i_18,p_19)=>g_istrconv_formatBits_l0 shift_14 b_15 m_16 k u_17 i_18 p_19) .z)) .z)))) (.q .z (.q (.b (.l ⟨[(0, .s K1 []),(2, .s K3 []),(3, .s K2 []),(4, .s K2 []),(10, .c (.one (.emp))),(11, .s K5 []),(12, .c (.one (.ptr 0 0))),(17, .s K12 [])],[.n]⟩ ⟨[(1, .s K12 []),(13, .s K3 [])],[.r K0]⟩ [(.exit 2,⟨[(1, .s K12 []),(13, .s K3 [])],[.r K0]⟩)] (λ (_,_,_,_,_,b_31) k (u_32,i_33,p_34)=>g_istrconv_formatBits_l1 b_31 k u_32 i_33 p_34) .z)) .z)))) (.m [(.normal,⟨[(13, .s K3 [])],[.r K0]⟩)] [0,3,4,10,11,12] [] .z .z))))))
theorem ke_istrconv_formatBits:CK [e_istrconv_isPowerOfTwo,e_math_bits_TrailingZeros] 0 ane_istrconv_formatBits Tryz.f148 e_istrconv_formatBits:=⟨⟨trivial,⟨⟨trivial,trivial⟩,⟨trivial,⟨trivial,⟨trivial,⟨⟨trivial,⟨⟨trivial,⟨trivial,⟨trivial,⟨⟨λ _ _=>rfl,λ _ _ _ _=>by kernel_rfl,trivial⟩,trivial⟩⟩⟩⟩,⟨trivial,⟨⟨λ _ _=>rfl,λ _ _ _ _=>by kernel_rfl,trivial⟩,trivial⟩⟩⟩⟩,⟨trivial,trivial⟩⟩⟩⟩⟩⟩⟩,λ _=>by kernel_rfl⟩
noncomputable def ane_istrconv_FormatUint:An:=.z
theorem ke_istrconv_FormatUint:CK [e_istrconv_small,e_istrconv_numDigits,e_istrconv_formatBits] 0 ane_istrconv_FormatUint Tryz.f111 e_istrconv_FormatUint:=⟨trivial,λ _=>by kernel_rfl⟩
noncomputable def ane_strconv_FormatUint:An:=.z
theorem ke_strconv_FormatUint:CK [e_istrconv_FormatUint] 0 ane_strconv_FormatUint Tryz.f69 e_strconv_FormatUint:=⟨trivial,λ _=>by kernel_rfl⟩
end Go.Proofs.YtgfamepnkhpemaaGreatDoor
namespace Go.Proofs.YtgfamepnkhpemaaGreatDoor
open Go Go.Fm
set_option maxRecDepth 1000000
noncomputable def ane_impl_HexText:An:=.z
theorem ke_impl_HexText:CK [e_strconv_FormatUint] 0 ane_impl_HexText Tryz.f34 e_impl_HexText:=⟨trivial,λ _=>by kernel_rfl⟩
theorem fe_strings_Join:ConOk Tryz.prog e_strings_Join:=joinS_ok joinLays joinX rfl
noncomputable def ane_impl_isSpace:An:=.z
theorem ke_impl_isSpace:CK [] 0 ane_impl_isSpace Tryz.f77 e_impl_isSpace:=⟨trivial,λ _=>by kernel_rfl⟩
noncomputable def ane_impl_spots:An:=.q .z (.q .z (.m [(.normal,⟨[(3, .s K14 [(0,1)])],[.d, .o]⟩)] [0,2] [] (.q .z (.b (.l ⟨[(0, .s K5 []),(2, .c (.one (.emp)))],[.n, .n]⟩ ⟨[(3, .s K14 [(0,1)]),(4, .s K3 [])],[.d, .o]⟩ [(.exit 0,⟨[(3, .s K14 [(0,1)])],[.d, .o]⟩)] (λ s_1 k (out_4,i_5)=>g_impl_spots_l0 s_1 k out_4 i_5) (.q .z (.b (.q .z (.q .z (.q (.b (.l ⟨[(0, .s K5 []),(2, .c (.one (.emp))),(3, .s K14 [(0,1)]),(5, .s K3 [])],[.n, .o]⟩ ⟨[(4, .s K3 [])],[.d, .f]⟩ [(.exit 2,⟨[(4, .s K3 [])],[.d, .f]⟩)] (λ (s_1,_,_) k i_9=>g_impl_spots_l1 s_1 k i_9) (.q (.m [(.normal,⟨[(28, .s K2 [])],[.d, .f]⟩)] [4] [] .z .z) .z))) .z)))))))) .z))
theorem ke_impl_spots:CK [e_impl_isSpace] 0 ane_impl_spots Tryz.f43 e_impl_spots:=⟨⟨trivial,⟨trivial,⟨⟨trivial,⟨λ _ _=>rfl,λ _ _ _ _=>by kernel_rfl,⟨trivial,⟨trivial,⟨trivial,⟨⟨λ _ _=>rfl,λ _ _ _ _=>by kernel_rfl,⟨⟨trivial,trivial⟩,trivial⟩⟩,trivial⟩⟩⟩⟩⟩⟩,trivial⟩⟩⟩,λ _=>by kernel_rfl⟩
theorem fe_ibytealg_IndexByteString:ConOk Tryz.prog e_ibytealg_IndexByteString:=index_ok (fn:=Tryz.f152) Tryz.func152 (by kernel_rfl) (by kernel_rfl) (by kernel_rfl) (by kernel_rfl)
noncomputable def ane_istringslite_IndexByte:An:=.z
theorem ke_istringslite_IndexByte:CK [e_ibytealg_IndexByteString] 0 ane_istringslite_IndexByte Tryz.f118 e_istringslite_IndexByte:=⟨trivial,λ _=>by kernel_rfl⟩
noncomputable def ane_strings_IndexByte:An:=.z
theorem ke_strings_IndexByte:CK [e_istringslite_IndexByte] 0 ane_strings_IndexByte Tryz.f78 e_strings_IndexByte:=⟨trivial,λ _=>by kernel_rfl⟩
noncomputable def ane_impl_ColorKey:An:=.z
theorem ke_impl_ColorKey:CK [e_impl_colorKeys,e_strings_IndexByte,e_impl_keyKinds] 0 ane_impl_ColorKey Tryz.f44 e_impl_ColorKey:=⟨trivial,λ _=>by kernel_rfl⟩
end Go.Proofs.YtgfamepnkhpemaaGreatDoor
namespace Go.Proofs.YtgfamepnkhpemaaGreatDoor
open Go Go.Fm
set_option maxRecDepth 1000000
noncomputable def ane_istringslite_HasPrefix:An:=.z
theorem ke_istringslite_HasPrefix:CK [] 0 ane_istringslite_HasPrefix Tryz.f153 e_istringslite_HasPrefix:=⟨trivial,λ _=>by kernel_rfl⟩
noncomputable def ane_istringslite_CutPrefix:An:=.z
theorem ke_istringslite_CutPrefix:CK [e_istringslite_HasPrefix] 0 ane_istringslite_CutPrefix Tryz.f119 e_istringslite_CutPrefix:=⟨trivial,λ _=>by kernel_rfl⟩
noncomputable def ane_strings_CutPrefix:An:=.z
theorem ke_strings_CutPrefix:CK [e_istringslite_CutPrefix] 0 ane_strings_CutPrefix Tryz.f79 e_strings_CutPrefix:=⟨trivial,λ _=>by kernel_rfl⟩
noncomputable def ane_istrconv_lower:An:=.z
theorem ke_istrconv_lower:CK [] 0 ane_istrconv_lower Tryz.f177 e_istrconv_lower:=⟨trivial,λ _=>by kernel_rfl⟩
noncomputable def ane_istrconv_underscoreOK:An:=.q .z (.q .z (.q .z (.m [(.normal,⟨[(0, .s K5 [])],[]⟩)] [2,3,4] [] (.m [(.normal,⟨[(18, .s K2 [])],[]⟩)] [0] [] .z .z) (.q .z (.m [(.normal,⟨[(3, .s K6 []),(4, .s K3 []),(5, .s K2 [])],[]⟩)] [0,2] [] (.m [(.normal,⟨[(46, .s K2 [])],[]⟩)] [3,4,5] [] .z .z) (.q (.b (.l ⟨[(0, .s K5 []),(5, .s K2 [])],[]⟩ ⟨[(3, .s K6 []),(4, .s K3 [])],[]⟩ [(.exit 0,⟨[(3, .s K6 [])],[]⟩),(.ret,⟨[(2, .s K2 [])],[]⟩)] (λ (s_3,hex_10) k (saw_21,i_22)=>g_istrconv_underscoreOK_l0 s_3 hex_10 k saw_21 i_22) (.q .z (.m [(.normal,⟨[(3, .s K6 [])],[]⟩),(.ret,⟨[(2, .s K2 [])],[]⟩)] [4] [] (.b (.q (.m [(.normal,⟨[(83, .s K2 [])],[]⟩)] [3] [] .z .z) .z)) .z)))) .z))))))
theorem ke_istrconv_underscoreOK:CK [e_istrconv_lower] 0 ane_istrconv_underscoreOK Tryz.f178 e_istrconv_underscoreOK:=⟨⟨trivial,⟨trivial,⟨trivial,⟨⟨trivial,trivial⟩,⟨trivial,⟨⟨trivial,trivial⟩,⟨⟨λ _ _=>rfl,λ _ _ _ _=>by kernel_rfl,⟨trivial,⟨⟨⟨trivial,trivial⟩,trivial⟩,trivial⟩⟩⟩,trivial⟩⟩⟩⟩⟩⟩⟩,λ _=>by kernel_rfl⟩
noncomputable def ane_istrconv_ParseUint:An:=.q .z (.q .z (.q .z (.q .z (.m [(.normal,⟨[(0, .s K5 []),(1, .s K3 [])],[]⟩),(.ret,⟨[(6, .s K12 []),(7, .s K15 [])],[]⟩)] [2,8,9] [] (.b (.m [(.normal,⟨[(25, .s K2 [])],[]⟩)] [0,1,6,7] [] .z (.q .z (.q .z (.q (.q .z (.q .z (.q (.b (.m [(.normal,⟨[(40, .s K2 [])],[]⟩)] [0,1,6,7] [] .z (.q .z (.m [(.normal,⟨[(52, .s K2 [])],[]⟩)] [0,1,6,7] [] .z (.q .z (.m [(.normal,⟨[(64, .s K2 [])],[]⟩)] [0,1,6,7] [] .z .z)))))) .z))) .z))))) (.m [(.normal,⟨[(2, .s K3 [])],[]⟩),(.ret,⟨[(6, .s K12 []),(7, .s K15 [])],[]⟩)] [0,1,8,9] [] (.q .z (.q .z (.m [(.normal,⟨[(83, .s K2 [])],[]⟩)] [2] [] .z .z))) (.q .z (.m [(.normal,⟨[(10, .s K12 [])],[]⟩)] [0,1,2,8,9] [] .z (.q .z (.q .z (.q .z (.m [(.normal,⟨[(12, .s K2 []),(13, .s K12 [])],[]⟩),(.ret,⟨[(6, .s K12 []),(7, .s K15 [])],[]⟩)] [0,1,8,9,10,11] [] (.q .z (.b (.l ⟨[(0, .s K5 []),(1, .s K3 []),(8, .s K2 []),(9, .s K5 []),(10, .s K12 []),(11, .s K12 []),(99, .s K1 [(0,0)]),(100, .s K3 [])],[.o]⟩ ⟨[(12, .s K2 []),(13, .s K12 []),(101, .s K3 [])],[.f]⟩ [(.exit 3,⟨[(12, .s K2 []),(13, .s K12 [])],[.f]⟩),(.ret,⟨[(6, .s K12 []),(7, .s K15 [])],[.f]⟩)] (λ (_,base_7,base0_37,_,cutoff_29,maxVal_38,v_36,v_39) k (underscores_40,n_41,v_42)=>g_istrconv_ParseUint_l0 base_7 base0_37 cutoff_29 maxVal_38 v_36 v_39 k underscores_40 n_41 v_42) (.q .z (.q .z (.m [(.normal,⟨[(12, .s K2 []),(13, .s K12 [])],[.f]⟩),(.ret,⟨[(6, .s K12 []),(7, .s K15 [])],[.f]⟩)] [101] [] (.b (.q .z (.q .z (.m [(.normal,⟨[(12, .s K2 []),(16, .s K0 [])],[.f]⟩),(.exit 4,⟨[(12, .s K2 [])],[.f]⟩),(.ret,⟨[(6, .s K12 []),(7, .s K15 [])],[.f]⟩)] [13,15] [] (.b (.m [(.normal,⟨[(106, .s K2 [])],[.f]⟩)] [12,16] [] .z (.q .z (.m [(.normal,⟨[(112, .s K2 [])],[.f]⟩)] [12,16] [] .z (.q .z (.m [(.normal,⟨[(121, .s K2 [])],[.f]⟩)] [12,16] [] .z .z)))))) (.q .z (.q .z (.q .z (.q .z (.q (.m [(.normal,⟨[(159, .s K2 [])],[.f]⟩)] [12,13,17] [] .z .z) .z))))))))) .z)))))) (.q (.m [(.normal,⟨[(169, .s K2 [])],[]⟩)] [9,12,13] [] .z .z) .z))))))))))))
theorem ke_istrconv_ParseUint:CK [e_istrconv_lower,e_istrconv_underscoreOK] 0 ane_istrconv_ParseUint Tryz.f154 e_istrconv_ParseUint:=⟨⟨trivial,⟨trivial,⟨trivial,⟨trivial,⟨⟨trivial,⟨trivial,⟨trivial,⟨⟨trivial,⟨trivial,⟨⟨trivial,⟨trivial,⟨trivial,⟨trivial,⟨trivial,trivial⟩⟩⟩⟩⟩,trivial⟩⟩⟩,trivial⟩⟩⟩⟩,⟨⟨trivial,⟨trivial,⟨trivial,trivial⟩⟩⟩,⟨trivial,⟨trivial,⟨trivial,⟨trivial,⟨trivial,⟨⟨trivial,⟨λ _ _=>rfl,λ _ _ _ _=>by kernel_rfl,⟨trivial,⟨trivial,⟨⟨trivial,⟨trivial,⟨⟨trivial,⟨trivial,⟨trivial,⟨trivial,⟨trivial,trivial⟩⟩⟩⟩⟩,⟨trivial,⟨trivial,⟨trivial,⟨trivial,⟨⟨trivial,trivial⟩,trivial⟩⟩⟩⟩⟩⟩⟩⟩,trivial⟩⟩⟩⟩⟩,⟨⟨trivial,trivial⟩,trivial⟩⟩⟩⟩⟩⟩⟩⟩⟩⟩⟩⟩⟩,λ _=>by kernel_rfl⟩
theorem fe_strconv_toError:ConOk Tryz.prog e_strconv_toError:=toErr_ok toErrLays rfl rfl glob_2 glob_3
noncomputable def ane_strconv_ParseUint:An:=.z
theorem ke_strconv_ParseUint:CK [e_istrconv_ParseUint,e_strconv_toError] 0 ane_strconv_ParseUint Tryz.f120 e_strconv_ParseUint:=⟨trivial,λ _=>by kernel_rfl⟩
end Go.Proofs.YtgfamepnkhpemaaGreatDoor
namespace Go.Proofs.YtgfamepnkhpemaaGreatDoor
open Go Go.Fm
set_option maxRecDepth 1000000
noncomputable def ane_impl_ReadHex:An:=.q .z (.q .z (.q (.m [(.normal,⟨[(19, .s K2 [])],[]⟩)] [0,2,3,4,5] [] .z .z) .z))
theorem ke_impl_ReadHex:CK [e_strconv_ParseUint,e_impl_HexText] 0 ane_impl_ReadHex Tryz.f80 e_impl_ReadHex:=⟨⟨trivial,⟨trivial,⟨⟨trivial,trivial⟩,trivial⟩⟩⟩,λ _=>by kernel_rfl⟩
noncomputable def ane_istrconv_ParseInt:An:=.q .z (.q .z (.q .z (.m [(.normal,⟨[(0, .s K5 []),(8, .s K2 [])],[]⟩)] [1,2,6,7] [] .z (.q .z (.q .z (.q (.m [(.normal,⟨[(38, .s K2 [])],[]⟩)] [2,6,7,8,9] [] .z .z) (.m [(.normal,⟨[(2, .s K3 [])],[]⟩)] [6,7,8,9] [] .z (.q .z (.q (.m [(.normal,⟨[(52, .s K2 [])],[]⟩)] [6,7,8,9,10] [] .z .z) (.q (.m [(.normal,⟨[(62, .s K2 [])],[]⟩)] [6,7,8,9,10] [] .z .z) (.q .z (.m [(.normal,⟨[(11, .s K3 [])],[]⟩)] [6,7,8] [] .z .z))))))))))))
theorem ke_istrconv_ParseInt:CK [e_istrconv_ParseUint] 0 ane_istrconv_ParseInt Tryz.f194 e_istrconv_ParseInt:=⟨⟨trivial,⟨trivial,⟨trivial,⟨trivial,⟨trivial,⟨trivial,⟨⟨trivial,trivial⟩,⟨trivial,⟨trivial,⟨⟨trivial,trivial⟩,⟨⟨trivial,trivial⟩,⟨trivial,⟨trivial,trivial⟩⟩⟩⟩⟩⟩⟩⟩⟩⟩⟩⟩⟩,λ _=>by kernel_rfl⟩
noncomputable def ane_istrconv_Atoi:An:=.q .z (.q .z (.m [(.normal,⟨[(0, .s K5 [])],[]⟩),(.ret,⟨[(2, .s K3 []),(3, .s K15 [])],[]⟩)] [4] [] (.m [(.normal,⟨[(30, .s K2 [])],[]⟩)] [0,2,3] [] .z (.q (.q .z (.m [(.normal,⟨[(0, .s K5 [])],[]⟩),(.ret,⟨[(2, .s K3 []),(3, .s K15 [])],[]⟩)] [5] [] (.m [(.normal,⟨[(39, .s K2 [])],[]⟩)] [0,2,3] [] .z .z) (.q .z (.m [(.normal,⟨[(6, .s K3 [])],[]⟩),(.ret,⟨[(2, .s K3 []),(3, .s K15 [])],[]⟩)] [0,5] [] (.q .z (.b (.l ⟨[(0, .s K5 []),(4, .s K3 []),(5, .s K5 []),(47, .s K1 [(0,0)]),(48, .s K3 [])],[.o]⟩ ⟨[(6, .s K3 []),(49, .s K3 [])],[.f]⟩ [(.exit 0,⟨[(6, .s K3 [])],[.f]⟩),(.ret,⟨[(2, .s K3 []),(3, .s K15 [])],[.f]⟩)] (λ (_,_,_,v_18,v_20) k (n_21,v_22)=>g_istrconv_Atoi_l0 v_18 v_20 k n_21 v_22) .z))) (.m [(.normal,⟨[(6, .s K3 [])],[]⟩)] [5] [] .z .z))))) .z)) .z))
theorem ke_istrconv_Atoi:CK [e_istrconv_ParseInt] 0 ane_istrconv_Atoi Tryz.f183 e_istrconv_Atoi:=⟨⟨trivial,⟨trivial,⟨⟨trivial,⟨⟨trivial,⟨⟨trivial,trivial⟩,⟨trivial,⟨⟨trivial,⟨λ _ _=>rfl,λ _ _ _ _=>by kernel_rfl,trivial⟩⟩,⟨trivial,trivial⟩⟩⟩⟩⟩,trivial⟩⟩,trivial⟩⟩⟩,λ _=>by kernel_rfl⟩
noncomputable def ane_strconv_Atoi:An:=.z
theorem ke_strconv_Atoi:CK [e_istrconv_Atoi,e_strconv_toError] 0 ane_strconv_Atoi Tryz.f156 e_strconv_Atoi:=⟨trivial,λ _=>by kernel_rfl⟩
noncomputable def ane_impl_ReadDec:An:=.q .z (.q .z (.q (.m [(.normal,⟨[(26, .s K2 [])],[]⟩)] [0,2,3,4,5] [] .z .z) .z))
theorem ke_impl_ReadDec:CK [e_strconv_Atoi,e_impl_DecText] 0 ane_impl_ReadDec Tryz.f121 e_impl_ReadDec:=⟨⟨trivial,⟨trivial,⟨⟨trivial,trivial⟩,trivial⟩⟩⟩,λ _=>by kernel_rfl⟩
noncomputable def ane_impl_small:An:=.z
theorem ke_impl_small:CK [e_impl_ReadDec] 0 ane_impl_small Tryz.f81 e_impl_small:=⟨trivial,λ _=>by kernel_rfl⟩
noncomputable def ane_impl_typedNumber:An:=.q .z (.m [(.normal,⟨[],[]⟩),(.ret,⟨[(2, .s K6 []),(3, .s K2 []),(4, .s K2 [])],[]⟩)] [0] [] .z .z)
theorem ke_impl_typedNumber:CK [e_strings_CutPrefix,e_impl_ReadHex,e_impl_small] 0 ane_impl_typedNumber Tryz.f45 e_impl_typedNumber:=⟨⟨trivial,⟨trivial,trivial⟩⟩,λ _=>by kernel_rfl⟩
noncomputable def ane_impl_nameTag:An:=.z
theorem ke_impl_nameTag:CK [] 0 ane_impl_nameTag Tryz.f102 e_impl_nameTag:=⟨trivial,λ _=>by kernel_rfl⟩
end Go.Proofs.YtgfamepnkhpemaaGreatDoor
namespace Go.Proofs.YtgfamepnkhpemaaGreatDoor
open Go Go.Fm
set_option maxRecDepth 1000000
noncomputable def ane_impl_letters:An:=.z
theorem ke_impl_letters:CK [] 0 ane_impl_letters Tryz.f169 e_impl_letters:=⟨trivial,λ _=>by kernel_rfl⟩
noncomputable def ane_impl_LetterOf:An:=.z
theorem ke_impl_LetterOf:CK [e_impl_letters,e_strings_IndexByte] 0 ane_impl_LetterOf Tryz.f165 e_impl_LetterOf:=⟨trivial,λ _=>by kernel_rfl⟩
noncomputable def ane_impl_within:An:=.z
theorem ke_impl_within:CK [] 0 ane_impl_within Tryz.f166 e_impl_within:=⟨trivial,λ _=>by kernel_rfl⟩
noncomputable def ane_impl_NameOk:An:=.q .z (.m [(.normal,⟨[],[]⟩),(.ret,⟨[(2, .s K2 [])],[]⟩)] [0] [] (.q .z (.b (.l ⟨[(0, .s K5 []),(5, .s K3 [])],[]⟩ ⟨[(6, .s K3 [])],[]⟩ [(.exit 0,⟨[],[]⟩),(.ret,⟨[(2, .s K2 [])],[]⟩)] (λ (s_1,v_4) k v_5=>g_impl_NameOk_l0 s_1 v_4 k v_5) .z))) .z)
theorem ke_impl_NameOk:CK [e_impl_LetterOf,e_impl_within] 0 ane_impl_NameOk Tryz.f137 e_impl_NameOk:=⟨⟨trivial,⟨⟨trivial,⟨λ _ _=>rfl,λ _ _ _ _=>by kernel_rfl,trivial⟩⟩,trivial⟩⟩,λ _=>by kernel_rfl⟩
noncomputable def ane_impl_WidthOf:An:=.z
theorem ke_impl_WidthOf:CK [e_impl_within] 0 ane_impl_WidthOf Tryz.f167 e_impl_WidthOf:=⟨trivial,λ _=>by kernel_rfl⟩
noncomputable def ane_impl_BitsOf:An:=.z
theorem ke_impl_BitsOf:CK [e_impl_WidthOf] 0 ane_impl_BitsOf Tryz.f168 e_impl_BitsOf:=⟨trivial,λ _=>by kernel_rfl⟩
noncomputable def ane_impl_PackOne:An:=.q .z (.q .z (.q .z (.m [(.normal,⟨[(4, .s K7 []),(6, .s K3 [])],[]⟩)] [0,2,3] [] (.q .z (.b (.l ⟨[(0, .s K5 []),(2, .s K7 []),(3, .s K3 []),(13, .s K3 [])],[]⟩ ⟨[(4, .s K7 []),(5, .s K3 []),(6, .s K3 []),(14, .s K3 [])],[]⟩ [(.exit 0,⟨[(4, .s K7 []),(6, .s K3 [])],[]⟩)] (λ (s_1,_,_,v_9) k (field_10,left_11,many_12,v_13)=>g_impl_PackOne_l0 s_1 v_9 k field_10 left_11 many_12 v_13) .z))) .z)))
theorem ke_impl_PackOne:CK [e_impl_NameOk,e_impl_LetterOf,e_impl_WidthOf,e_impl_BitsOf] 0 ane_impl_PackOne Tryz.f140 e_impl_PackOne:=⟨⟨trivial,⟨trivial,⟨trivial,⟨⟨trivial,⟨λ _ _=>rfl,λ _ _ _ _=>by kernel_rfl,trivial⟩⟩,trivial⟩⟩⟩⟩,λ _=>by kernel_rfl⟩
noncomputable def ane_impl_Pack:An:=.q .z (.q .z (.q (.b (.l ⟨[(2, .c (.one (.emp)))],[.n, .n]⟩ ⟨[(0, .s K5 []),(3, .s K16 [(0,1)])],[.d, .o]⟩ [(.exit 0,⟨[(3, .s K16 [(0,1)])],[.d, .o]⟩)] (λ _ k (s_3,out_4)=>g_impl_Pack_l0 k s_3 out_4) .z)) .z))
theorem ke_impl_Pack:CK [e_impl_NameOk,e_impl_PackOne] 0 ane_impl_Pack Tryz.f103 e_impl_Pack:=⟨⟨trivial,⟨trivial,⟨⟨λ _ _=>rfl,λ _ _ _ _=>by kernel_rfl,trivial⟩,trivial⟩⟩⟩,λ _=>by kernel_rfl⟩
end Go.Proofs.YtgfamepnkhpemaaGreatDoor
namespace Go.Proofs.YtgfamepnkhpemaaGreatDoor
open Go Go.Fm
set_option maxRecDepth 1000000
noncomputable def ane_impl_numberCells:An:=.q .z (.q .z (.m [(.normal,⟨[(9, .s K7 [])],[]⟩)] [0,1,2,3,8] [] .z (.q (.m [(.normal,⟨[(16, .s K2 [])],[]⟩)] [0,2,3,8,9] [] .z .z) .z)))
theorem ke_impl_numberCells:CK [] 0 ane_impl_numberCells Tryz.f104 e_impl_numberCells:=⟨⟨trivial,⟨trivial,⟨trivial,⟨⟨trivial,trivial⟩,trivial⟩⟩⟩⟩,λ _=>by kernel_rfl⟩
noncomputable def ane_impl_CellsOf:An:=.q .z (.q .z (.m [(.normal,⟨[],[.f]⟩),(.ret,⟨[(2, .s K16 [(0,1)])],[.f, .o]⟩)] [1] [0] (.b (.m [(.normal,⟨[(11, .s K2 [])],[.f]⟩)] [2,3] [] .z (.q (.q .z (.m [(.normal,⟨[(4, .s K16 [(0,2)])],[.f, .d, .o]⟩)] [2] [] (.q .z (.b (.l ⟨[(1, .c (.one (.ptr 0 0))),(2, .c (.one (.emp))),(26, .s K16 [(0,2)]),(27, .s K3 [])],[.v K8 [], .n, .o, .n]⟩ ⟨[(3, .s K7 []),(4, .s K16 [(0,3)]),(28, .s K3 [])],[.f, .d, .f, .o]⟩ [(.exit 1,⟨[(4, .s K16 [(0,3)])],[.f, .d, .f, .o]⟩)] (λ (v_8,v_9,_) k (tag_10,out_11,v_12)=>g_impl_CellsOf_l0 v_8 v_9 k tag_10 out_11 v_12) .z))) .z)) .z))) .z))
theorem ke_impl_CellsOf:CK [e_impl_nameTag,e_impl_Pack,e_impl_numberCells] 0 ane_impl_CellsOf Tryz.f60 e_impl_CellsOf:=⟨⟨trivial,⟨trivial,⟨⟨trivial,⟨⟨trivial,⟨⟨trivial,⟨λ _ _=>rfl,λ _ _ _ _=>by kernel_rfl,trivial⟩⟩,trivial⟩⟩,trivial⟩⟩,trivial⟩⟩⟩,λ _=>by kernel_rfl⟩
noncomputable def ane_impl_ItemOk:An:=.z
theorem ke_impl_ItemOk:CK [e_impl_CellsOf] 0 ane_impl_ItemOk Tryz.f46 e_impl_ItemOk:=⟨trivial,λ _=>by kernel_rfl⟩
noncomputable def ane_impl_Typed:An:=.q .z (.q .z (.q .z (.m [(.normal,⟨[(4, .s K9 [(0,1)])],[.d, .o]⟩),(.ret,⟨[(2, .c (.one (.emp))),(3, .s K3 [])],[.d]⟩)] [0] [] (.q .z (.b (.l ⟨[(0, .s K5 []),(19, .s K14 [(0,1)]),(20, .s K3 [])],[.n, .o, .n]⟩ ⟨[(4, .s K9 [(0,2)]),(5, .s K3 []),(21, .s K3 [])],[.d, .f, .o]⟩ [(.exit 0,⟨[(4, .s K9 [(0,2)])],[.d, .f, .o]⟩),(.ret,⟨[(2, .c (.one (.emp))),(3, .s K3 [])],[.d, .f, .d]⟩)] (λ (_,v_7,v_8) k (out_9,color_10,v_11)=>g_impl_Typed_l0 v_7 v_8 k out_9 color_10 v_11) (.q .z (.q .z (.m [(.normal,⟨[(4, .s K9 [(0,3)]),(5, .s K3 [])],[.d, .f, .d, .o]⟩),(.ret,⟨[(2, .c (.one (.emp))),(3, .s K3 [])],[.d, .f, .d]⟩)] [21] [] (.b (.q .z (.q .z (.q (.b (.l ⟨[(0, .s K5 []),(4, .s K9 [(0,2)]),(7, .c (.one (.ptr 3 0))),(19, .s K14 [(0,1)]),(20, .s K3 []),(21, .s K3 [])],[.n, .o, .o, .v K13 []]⟩ ⟨[(5, .s K3 []),(8, .s K5 [])],[.d, .f, .f, .f]⟩ [(.exit 2,⟨[(5, .s K3 []),(8, .s K5 [])],[.d, .f, .f, .f]⟩)] (λ _ k (color_18,word_19)=>g_impl_Typed_l1 k color_18 word_19) (.q (.m [(.normal,⟨[(34, .s K2 [])],[.d, .f, .f, .f]⟩)] [5,8] [] .z .z) .z))) (.q .z (.q .z (.q .z (.q (.b (.m [(.normal,⟨[(51, .s K2 [])],[.d, .f, .f, .f]⟩)] [4,5,7,8,9,10,11,12] [2,3] .z (.q .z (.m [(.normal,⟨[(63, .s K2 [])],[.d, .f, .f, .f]⟩)] [4,5,7,8,9,10,11,12] [2,3] .z (.q .z (.m [(.normal,⟨[(75, .s K2 [])],[.d, .f, .f, .f]⟩)] [4,5,7,8,9,10,11,12] [2,3] .z .z)))))) .z)))))))) .z)))))) .z)))
theorem ke_impl_Typed:CK [e_impl_spots,e_impl_ColorKey,e_impl_typedNumber,e_impl_ItemOk] 0 ane_impl_Typed Tryz.f13 e_impl_Typed:=⟨⟨trivial,⟨trivial,⟨trivial,⟨⟨trivial,⟨λ _ _=>rfl,λ _ _ _ _=>by kernel_rfl,⟨trivial,⟨trivial,⟨⟨trivial,⟨trivial,⟨⟨λ _ _=>rfl,λ _ _ _ _=>by kernel_rfl,⟨⟨trivial,trivial⟩,trivial⟩⟩,⟨trivial,⟨trivial,⟨trivial,⟨⟨trivial,⟨trivial,⟨trivial,⟨trivial,⟨trivial,trivial⟩⟩⟩⟩⟩,trivial⟩⟩⟩⟩⟩⟩⟩,trivial⟩⟩⟩⟩⟩,trivial⟩⟩⟩⟩,λ _=>by kernel_rfl⟩
noncomputable def ane_slices_Equal_Item:An:=.q .z (.q .z (.m [(.normal,⟨[],[]⟩),(.ret,⟨[(4, .s K2 [])],[]⟩)] [0,1] [] (.q .z (.b (.l ⟨[(0, .s K9 []),(1, .s K9 []),(12, .s K3 [])],[]⟩ ⟨[(13, .s K3 [])],[]⟩ [(.exit 0,⟨[],[]⟩),(.ret,⟨[(4, .s K2 [])],[]⟩)] (λ (s1_1,s2_2,v_5) k v_6=>g_slices_Equal_Item_l0 s1_1 s2_2 v_5 k v_6) .z))) .z))
theorem ke_slices_Equal_Item:CK [] 0 ane_slices_Equal_Item Tryz.f73 e_slices_Equal_Item:=⟨⟨trivial,⟨trivial,⟨⟨trivial,⟨λ _ _=>rfl,λ _ _ _ _=>by kernel_rfl,trivial⟩⟩,trivial⟩⟩⟩,λ _=>by kernel_rfl⟩
noncomputable def ane_impl_sameItems:An:=.z
theorem ke_impl_sameItems:CK [e_slices_Equal_Item] 0 ane_impl_sameItems Tryz.f36 e_impl_sameItems:=⟨trivial,λ _=>by kernel_rfl⟩
noncomputable def ane_impl_TypeText:An:=.q .z (.q .z (.m [(.normal,⟨[(3, .s K11 [(0,1)])],[.d, .o]⟩)] [0,2] [] (.q .z (.b (.l ⟨[(0, .s K9 []),(2, .s K5 []),(14, .s K9 []),(15, .s K3 [])],[.n, .n]⟩ ⟨[(3, .s K11 [(0,1)]),(16, .s K3 [])],[.d, .o]⟩ [(.exit 0,⟨[(3, .s K11 [(0,1)])],[.d, .o]⟩)] (λ (_,_,v_5,v_6) k (parts_7,v_8)=>g_impl_TypeText_l0 v_5 v_6 k parts_7 v_8) (.q .z (.q .z (.m [(.normal,⟨[(3, .s K11 [(0,2)])],[.d, .d, .o]⟩)] [16] [] (.b (.q .z (.q .z (.m [(.normal,⟨[(6, .s K5 [])],[.d, .f, .f]⟩)] [3,5,7] [1,2] (.q .z (.b (.l ⟨[(0, .s K9 []),(2, .s K5 []),(3, .s K11 [(0,1)]),(5, .c (.one (.ptr 2 0))),(7, .s K5 []),(14, .s K9 []),(15, .s K3 []),(16, .s K3 []),(22, .s K10 [(0,3)]),(23, .s K3 [])],[.n, .o, .v K8 [], .o]⟩ ⟨[(6, .s K5 []),(24, .s K3 [])],[.d, .f, .f, .f]⟩ [(.exit 2,⟨[(6, .s K5 [])],[.d, .f, .f, .f]⟩)] (λ (_,_,_,_,_,_,_,v_15,v_16,v_11) k (key_17,v_18)=>g_impl_TypeText_l1 v_15 v_16 v_11 k key_17 v_18) (.q .z (.q .z (.m [(.normal,⟨[(6, .s K5 [])],[.d, .f, .f, .f]⟩)] [24] [] (.b (.q .z (.m [(.normal,⟨[(50, .s K2 [])],[.d, .f, .f, .f]⟩)] [6,8,9] [] .z .z))) .z)))))) (.m [(.normal,⟨[(7, .s K5 [])],[.d, .f, .f]⟩)] [3,5,6] [1,2] (.b (.q .z (.q .z (.m [(.normal,⟨[(72, .s K2 [])],[.d, .f, .f]⟩)] [7] [] .z .z)))) .z))))) .z)))))) (.q .z (.q (.q .z (.m [(.normal,⟨[(110, .s K2 [])],[.d, .d, .f]⟩)] [0,2,10,11,12] [2] .z .z)) .z))))
theorem ke_impl_TypeText:CK [e_impl_keyKinds,e_impl_colorKeys,e_impl_DecText,e_impl_HexText,e_strings_Join,e_impl_Typed,e_impl_sameItems] 0 ane_impl_TypeText Tryz.f9 e_impl_TypeText:=⟨⟨trivial,⟨trivial,⟨⟨trivial,⟨λ _ _=>rfl,λ _ _ _ _=>by kernel_rfl,⟨trivial,⟨trivial,⟨⟨trivial,⟨trivial,⟨⟨trivial,⟨λ _ _=>rfl,λ _ _ _ _=>by kernel_rfl,⟨trivial,⟨trivial,⟨⟨trivial,⟨trivial,trivial⟩⟩,trivial⟩⟩⟩⟩⟩,⟨⟨trivial,⟨trivial,⟨trivial,trivial⟩⟩⟩,trivial⟩⟩⟩⟩,trivial⟩⟩⟩⟩⟩,⟨trivial,⟨⟨trivial,⟨trivial,trivial⟩⟩,trivial⟩⟩⟩⟩⟩,λ _=>by kernel_rfl⟩
noncomputable def ane_spec_DecText:An:=.q .z (.q .z (.q .z (.q .z (.q (.b (.l ⟨[(0, .s K3 []),(2, .s K5 [])],[]⟩ ⟨[(3, .s K5 []),(4, .s K3 [])],[]⟩ [(.exit 0,⟨[(3, .s K5 [])],[]⟩)] (λ _ k (out_4,m_5)=>g_spec_DecText_l0 k out_4 m_5) (.q .z (.b (.q .z (.m [(.normal,⟨[(5, .s K3 [])],[]⟩)] [3,4] [] .z .z)))))) .z))))
theorem ke_spec_DecText:CK [] 0 ane_spec_DecText Tryz.f62 e_spec_DecText:=⟨⟨trivial,⟨trivial,⟨trivial,⟨trivial,⟨⟨λ _ _=>rfl,λ _ _ _ _=>by kernel_rfl,⟨trivial,⟨trivial,⟨trivial,trivial⟩⟩⟩⟩,trivial⟩⟩⟩⟩⟩,λ _=>by kernel_rfl⟩
end Go.Proofs.YtgfamepnkhpemaaGreatDoor
namespace Go.Proofs.YtgfamepnkhpemaaGreatDoor
open Go Go.Fm
set_option maxRecDepth 1000000
noncomputable def ane_spec_HexText:An:=.q .z (.q .z (.q .z (.m [(.normal,⟨[(3, .s K5 [])],[]⟩)] [0,2] [] (.q .z (.b (.l ⟨[(0, .s K7 []),(2, .s K5 [])],[]⟩ ⟨[(3, .s K5 []),(4, .s K3 [])],[]⟩ [(.exit 0,⟨[(3, .s K5 [])],[]⟩)] (λ _ k (out_5,m_6)=>g_spec_HexText_l0 k out_5 m_6) .z))) .z)))
theorem ke_spec_HexText:CK [] 0 ane_spec_HexText Tryz.f63 e_spec_HexText:=⟨⟨trivial,⟨trivial,⟨trivial,⟨⟨trivial,⟨λ _ _=>rfl,λ _ _ _ _=>by kernel_rfl,trivial⟩⟩,trivial⟩⟩⟩⟩,λ _=>by kernel_rfl⟩
noncomputable def ane_spec_l16Keys:An:=.z
theorem ke_spec_l16Keys:CK [] 0 ane_spec_l16Keys Tryz.f64 e_spec_l16Keys:=⟨trivial,λ _=>by kernel_rfl⟩
noncomputable def ane_spec_ColorKey:An:=.q .z (.q .z (.q .z (.m [(.normal,⟨[],[.f]⟩),(.ret,⟨[(2, .s K3 [])],[.f]⟩)] [0,3,4] [0] (.q .z (.b (.l ⟨[(0, .s K0 []),(3, .s K10 [(0,0)]),(4, .s K5 [])],[.o]⟩ ⟨[(5, .s K3 [])],[.f]⟩ [(.exit 0,⟨[],[.f]⟩),(.ret,⟨[(2, .s K3 [])],[.f]⟩)] (λ (b_1,kinds_5,yu2038_3) k i_6=>g_spec_ColorKey_l0 b_1 kinds_5 yu2038_3 k i_6) .z))) .z)))
theorem ke_spec_ColorKey:CK [e_spec_l16Keys] 0 ane_spec_ColorKey Tryz.f65 e_spec_ColorKey:=⟨⟨trivial,⟨trivial,⟨trivial,⟨⟨trivial,⟨λ _ _=>rfl,λ _ _ _ _=>by kernel_rfl,trivial⟩⟩,trivial⟩⟩⟩⟩,λ _=>by kernel_rfl⟩
noncomputable def ane_spec_l16One:An:=.q .z (.q .z (.q .z (.m [(.normal,⟨[(3, .s K3 []),(4, .s K5 [])],[.f]⟩)] [1,2] [0] (.q .z (.b (.m [(.normal,⟨[(13, .s K2 [])],[.f]⟩)] [3,4,12] [] .z (.q (.q .z (.m [(.normal,⟨[(3, .s K3 [])],[.f]⟩)] [4] [] .z .z)) .z)))) (.q .z (.m [(.normal,⟨[],[.d]⟩),(.ret,⟨[(2, .s K5 [])],[.d]⟩)] [3,4,5] [] (.q .z (.b (.l ⟨[(3, .s K3 []),(4, .s K5 []),(5, .s K5 [])],[.n]⟩ ⟨[(6, .s K3 [])],[.d]⟩ [(.exit 1,⟨[],[.d]⟩),(.ret,⟨[(2, .s K5 [])],[.d]⟩)] (λ (kind_3,body_4,yu2051_13) k i_15=>g_spec_l16One_l0 kind_3 body_4 yu2051_13 k i_15) .z))) .z)))))
theorem ke_spec_l16One:CK [e_spec_DecText,e_spec_HexText,e_spec_l16Keys,e_spec_ColorKey] 0 ane_spec_l16One Tryz.f27 e_spec_l16One:=⟨⟨trivial,⟨trivial,⟨trivial,⟨⟨trivial,⟨trivial,⟨⟨trivial,⟨trivial,trivial⟩⟩,trivial⟩⟩⟩,⟨trivial,⟨⟨trivial,⟨λ _ _=>rfl,λ _ _ _ _=>by kernel_rfl,trivial⟩⟩,trivial⟩⟩⟩⟩⟩⟩,λ _=>by kernel_rfl⟩
noncomputable def ane_spec_l01Blank:An:=.z
theorem ke_spec_l01Blank:CK [] 0 ane_spec_l01Blank Tryz.f66 e_spec_l01Blank:=⟨trivial,λ _=>by kernel_rfl⟩
noncomputable def ane_spec_l01Digit:An:=.z
theorem ke_spec_l01Digit:CK [e_spec_l01In] 0 ane_spec_l01Digit Tryz.f170 e_spec_l01Digit:=⟨trivial,λ _=>by kernel_rfl⟩
noncomputable def ane_spec_ReadHex:An:=.q .z (.q .z (.q .z (.m [(.normal,⟨[(4, .s K3 [])],[]⟩),(.ret,⟨[(2, .s K7 []),(3, .s K2 [])],[]⟩)] [0] [] (.q .z (.b (.l ⟨[(0, .s K5 [])],[]⟩ ⟨[(4, .s K3 []),(5, .s K3 [])],[]⟩ [(.exit 0,⟨[(4, .s K3 [])],[]⟩),(.ret,⟨[(2, .s K7 []),(3, .s K2 [])],[]⟩)] (λ s_1 k (n_8,i_9)=>g_spec_ReadHex_l0 s_1 k n_8 i_9) (.q .z (.m [(.normal,⟨[(4, .s K3 [])],[]⟩),(.ret,⟨[(2, .s K7 []),(3, .s K2 [])],[]⟩)] [5] [] .z .z))))) .z)))
theorem ke_spec_ReadHex:CK [e_spec_l01In,e_spec_l01Digit,e_spec_HexText] 0 ane_spec_ReadHex Tryz.f141 e_spec_ReadHex:=⟨⟨trivial,⟨trivial,⟨trivial,⟨⟨trivial,⟨λ _ _=>rfl,λ _ _ _ _=>by kernel_rfl,⟨trivial,⟨trivial,trivial⟩⟩⟩⟩,trivial⟩⟩⟩⟩,λ _=>by kernel_rfl⟩
noncomputable def ane_spec_ReadDec:An:=.q .z (.q .z (.q .z (.m [(.normal,⟨[(4, .s K3 [])],[]⟩),(.ret,⟨[(2, .s K3 []),(3, .s K2 [])],[]⟩)] [0] [] (.q .z (.b (.l ⟨[(0, .s K5 [])],[]⟩ ⟨[(4, .s K3 []),(5, .s K3 [])],[]⟩ [(.exit 0,⟨[(4, .s K3 [])],[]⟩),(.ret,⟨[(2, .s K3 []),(3, .s K2 [])],[]⟩)] (λ s_1 k (n_8,i_9)=>g_spec_ReadDec_l0 s_1 k n_8 i_9) (.q .z (.m [(.normal,⟨[(4, .s K3 [])],[]⟩),(.ret,⟨[(2, .s K3 []),(3, .s K2 [])],[]⟩)] [5] [] (.b (.q (.m [(.normal,⟨[(23, .s K2 [])],[]⟩)] [4] [] .z .z) .z)) .z))))) (.m [(.normal,⟨[(4, .s K3 [])],[]⟩)] [0] [] .z (.q (.m [(.normal,⟨[(50, .s K2 [])],[]⟩)] [0,4] [] .z .z) .z)))))
theorem ke_spec_ReadDec:CK [e_spec_l01In,e_spec_l01Digit,e_spec_DecText] 0 ane_spec_ReadDec Tryz.f142 e_spec_ReadDec:=⟨⟨trivial,⟨trivial,⟨trivial,⟨⟨trivial,⟨λ _ _=>rfl,λ _ _ _ _=>by kernel_rfl,⟨trivial,⟨⟨⟨trivial,trivial⟩,trivial⟩,trivial⟩⟩⟩⟩,⟨trivial,⟨⟨trivial,trivial⟩,trivial⟩⟩⟩⟩⟩⟩,λ _=>by kernel_rfl⟩
end Go.Proofs.YtgfamepnkhpemaaGreatDoor
namespace Go.Proofs.YtgfamepnkhpemaaGreatDoor
open Go Go.Fm
set_option maxRecDepth 1000000
noncomputable def ane_spec_l06Dec:An:=.q .z (.q .z (.q (.m [(.normal,⟨[(17, .s K2 [])],[]⟩)] [2,3,4,5] [] .z .z) .z))
theorem ke_spec_l06Dec:CK [e_spec_ReadDec,e_spec_l01In] 0 ane_spec_l06Dec Tryz.f108 e_spec_l06Dec:=⟨⟨trivial,⟨trivial,⟨⟨trivial,trivial⟩,trivial⟩⟩⟩,λ _=>by kernel_rfl⟩
noncomputable def ane_spec_l16Number:An:=.q .z (.q .z (.m [(.normal,⟨[],[.f, .v K8 []]⟩)] [0,1,4,5,6] [0] .z (.q (.m [(.normal,⟨[(20, .s K2 [])],[.f, .f]⟩)] [0,1,4,5,6] [0,1] .z .z) .z)))
theorem ke_spec_l16Number:CK [e_spec_ReadHex,e_spec_l06Dec] 0 ane_spec_l16Number Tryz.f107 e_spec_l16Number:=⟨⟨trivial,⟨trivial,⟨trivial,⟨⟨trivial,trivial⟩,trivial⟩⟩⟩⟩,λ _=>by kernel_rfl⟩
noncomputable def ane_spec_l04Num:An:=.q .z (.q .z (.m [(.normal,⟨[(9, .s K7 [])],[]⟩)] [0,1,2,3,8] [] .z (.q (.m [(.normal,⟨[(16, .s K2 [])],[]⟩)] [0,2,3,8,9] [] .z .z) .z)))
theorem ke_spec_l04Num:CK [] 0 ane_spec_l04Num Tryz.f158 e_spec_l04Num:=⟨⟨trivial,⟨trivial,⟨trivial,⟨⟨trivial,trivial⟩,trivial⟩⟩⟩⟩,λ _=>by kernel_rfl⟩
noncomputable def ane_spec_LetterOf:An:=.q .z (.q .z (.m [(.normal,⟨[],[]⟩),(.ret,⟨[(2, .s K3 [])],[]⟩)] [0,3] [] (.q .z (.b (.l ⟨[(0, .s K0 []),(3, .s K5 [])],[]⟩ ⟨[(4, .s K3 [])],[]⟩ [(.exit 0,⟨[],[]⟩),(.ret,⟨[(2, .s K3 [])],[]⟩)] (λ (b_1,yu2204_3) k i_5=>g_spec_LetterOf_l0 b_1 yu2204_3 k i_5) .z))) .z))
theorem ke_spec_LetterOf:CK [e_spec_l02All] 0 ane_spec_LetterOf Tryz.f195 e_spec_LetterOf:=⟨⟨trivial,⟨trivial,⟨⟨trivial,⟨λ _ _=>rfl,λ _ _ _ _=>by kernel_rfl,trivial⟩⟩,trivial⟩⟩⟩,λ _=>by kernel_rfl⟩
noncomputable def ane_spec_NameOk:An:=.q .z (.q .z (.m [(.normal,⟨[],[]⟩),(.ret,⟨[(2, .s K2 [])],[]⟩)] [0] [] (.q .z (.b (.l ⟨[(0, .s K5 [])],[]⟩ ⟨[(3, .s K3 [])],[]⟩ [(.exit 0,⟨[],[]⟩),(.ret,⟨[(2, .s K2 [])],[]⟩)] (λ s_1 k i_5=>g_spec_NameOk_l0 s_1 k i_5) .z))) .z))
theorem ke_spec_NameOk:CK [e_spec_l01In,e_spec_LetterOf] 0 ane_spec_NameOk Tryz.f184 e_spec_NameOk:=⟨⟨trivial,⟨trivial,⟨⟨trivial,⟨λ _ _=>rfl,λ _ _ _ _=>by kernel_rfl,trivial⟩⟩,trivial⟩⟩⟩,λ _=>by kernel_rfl⟩
noncomputable def ane_spec_WidthOf:An:=.z
theorem ke_spec_WidthOf:CK [e_spec_l01In] 0 ane_spec_WidthOf Tryz.f187 e_spec_WidthOf:=⟨trivial,λ _=>by kernel_rfl⟩
noncomputable def ane_spec_BitsOf:An:=.z
theorem ke_spec_BitsOf:CK [e_spec_WidthOf] 0 ane_spec_BitsOf Tryz.f188 e_spec_BitsOf:=⟨trivial,λ _=>by kernel_rfl⟩
noncomputable def ane_spec_l03One:An:=.q .z (.q .z (.q (.b (.l ⟨[(0, .s K5 []),(2, .s K7 []),(3, .s K3 [])],[]⟩ ⟨[(4, .s K3 []),(5, .s K3 []),(6, .s K3 [])],[]⟩ [(.exit 0,⟨[(4, .s K3 []),(6, .s K3 [])],[]⟩)] (λ (s_1,_,_) k (f_6,left_7,n_8)=>g_spec_l03One_l0 s_1 k f_6 left_7 n_8) .z)) .z))
theorem ke_spec_l03One:CK [e_spec_LetterOf,e_spec_WidthOf,e_spec_BitsOf] 0 ane_spec_l03One Tryz.f186 e_spec_l03One:=⟨⟨trivial,⟨trivial,⟨⟨λ _ _=>rfl,λ _ _ _ _=>by kernel_rfl,trivial⟩,trivial⟩⟩⟩,λ _=>by kernel_rfl⟩
end Go.Proofs.YtgfamepnkhpemaaGreatDoor
namespace Go.Proofs.YtgfamepnkhpemaaGreatDoor
open Go Go.Fm
set_option maxRecDepth 1000000
noncomputable def ane_spec_Pack:An:=.q .z (.q .z (.q .z (.q (.b (.l ⟨[(2, .c (.one (.emp)))],[.n, .n]⟩ ⟨[(0, .s K5 []),(3, .s K16 [(0,1)])],[.d, .o]⟩ [(.exit 0,⟨[(3, .s K16 [(0,1)])],[.d, .o]⟩)] (λ _ k (s_4,out_5)=>g_spec_Pack_l0 k s_4 out_5) .z)) .z)))
theorem ke_spec_Pack:CK [e_spec_NameOk,e_spec_l03One] 0 ane_spec_Pack Tryz.f162 e_spec_Pack:=⟨⟨trivial,⟨trivial,⟨trivial,⟨⟨λ _ _=>rfl,λ _ _ _ _=>by kernel_rfl,trivial⟩,trivial⟩⟩⟩⟩,λ _=>by kernel_rfl⟩
noncomputable def ane_spec_l04Word:An:=.q .z (.q .z (.m [(.normal,⟨[(5, .s K16 [(0,0)])],[.o]⟩)] [0,4] [] (.q .z (.b (.l ⟨[(0, .s K7 []),(4, .c (.one (.emp)))],[.n]⟩ ⟨[(5, .s K16 [(0,0)]),(6, .s K3 [])],[.o]⟩ [(.exit 0,⟨[(5, .s K16 [(0,0)])],[.o]⟩)] (λ tag_1 k (out_6,i_7)=>g_spec_l04Word_l0 tag_1 k out_6 i_7) (.q .z (.m [(.normal,⟨[(5, .s K16 [(0,0)])],[.o]⟩)] [6] [] .z .z))))) .z))
theorem ke_spec_l04Word:CK [e_spec_Pack] 0 ane_spec_l04Word Tryz.f159 e_spec_l04Word:=⟨⟨trivial,⟨trivial,⟨⟨trivial,⟨λ _ _=>rfl,λ _ _ _ _=>by kernel_rfl,⟨trivial,⟨trivial,trivial⟩⟩⟩⟩,trivial⟩⟩⟩,λ _=>by kernel_rfl⟩
noncomputable def ane_spec_l04Tag:An:=.z
theorem ke_spec_l04Tag:CK [] 0 ane_spec_l04Tag Tryz.f160 e_spec_l04Tag:=⟨trivial,λ _=>by kernel_rfl⟩
noncomputable def ane_spec_CellsOf:An:=.q .z (.m [(.normal,⟨[(3, .s K2 [])],[.f]⟩)] [1,2] [0] .z (.m [(.normal,⟨[],[.f]⟩),(.ret,⟨[(2, .s K16 [(0,1)])],[.f, .o]⟩)] [1,3] [0] (.q .z (.b (.q .z (.q (.m [(.normal,⟨[(47, .s K2 [])],[.f]⟩)] [2] [] .z .z) (.q .z (.q (.m [(.normal,⟨[(60, .s K2 [])],[.f]⟩)] [2] [] .z .z) (.q .z (.q (.m [(.normal,⟨[(75, .s K2 [])],[.f]⟩)] [2] [] .z .z) (.q .z (.q (.q .z (.m [(.normal,⟨[(98, .s K2 [])],[.f, .f]⟩)] [2,4] [1] .z .z)) (.q .z (.m [(.normal,⟨[(28, .s K2 [])],[.f]⟩)] [2,5] [] .z .z)))))))))))) .z))
theorem ke_spec_CellsOf:CK [e_spec_l04Num,e_spec_l04Word,e_spec_l04Tag] 0 ane_spec_CellsOf Tryz.f127 e_spec_CellsOf:=⟨⟨trivial,⟨trivial,⟨⟨trivial,⟨trivial,⟨⟨trivial,trivial⟩,⟨trivial,⟨⟨trivial,trivial⟩,⟨trivial,⟨⟨trivial,trivial⟩,⟨trivial,⟨⟨trivial,⟨trivial,trivial⟩⟩,⟨trivial,⟨trivial,trivial⟩⟩⟩⟩⟩⟩⟩⟩⟩⟩⟩,trivial⟩⟩⟩,λ _=>by kernel_rfl⟩
noncomputable def ane_spec_ItemOk:An:=.z
theorem ke_spec_ItemOk:CK [e_spec_CellsOf] 0 ane_spec_ItemOk Tryz.f109 e_spec_ItemOk:=⟨trivial,λ _=>by kernel_rfl⟩
noncomputable def ane_spec_l16Word:An:=.q .z (.q .z (.q .z (.q (.q .z (.m [(.normal,⟨[(49, .s K2 [])],[.f, .d]⟩)] [0,1,2,6,7,10,11,12] [0] .z .z)) .z)))
theorem ke_spec_l16Word:CK [e_spec_l16Number,e_spec_l06Dec,e_spec_ItemOk] 1 ane_spec_l16Word Tryz.f67 e_spec_l16Word:=⟨⟨trivial,⟨trivial,⟨trivial,⟨⟨trivial,⟨trivial,trivial⟩⟩,trivial⟩⟩⟩⟩,λ _=>by kernel_rfl⟩
noncomputable def ane_spec_Typed:An:=.q .z (.q .z (.q .z (.q .z (.m [(.normal,⟨[(4, .s K9 [(0,1)])],[.d, .o]⟩),(.ret,⟨[(2, .s K9 [(0,1)]),(3, .s K3 [])],[.d, .o]⟩)] [0] [] (.q .z (.b (.l ⟨[(0, .s K5 [])],[.n, .n]⟩ ⟨[(4, .s K9 [(0,1)]),(5, .s K3 []),(6, .s K3 [])],[.d, .o]⟩ [(.exit 0,⟨[(4, .s K9 [(0,1)])],[.d, .o]⟩),(.ret,⟨[(2, .s K9 [(0,2)]),(3, .s K3 [])],[.d, .d, .o]⟩)] (λ s_1 k (out_7,kind_8,i_9)=>g_spec_Typed_l0 s_1 k out_7 kind_8 i_9) (.q .z (.b (.q .z (.q .z (.q (.b (.l ⟨[(0, .s K5 []),(4, .s K9 [(0,1)]),(5, .s K3 []),(6, .s K3 [])],[.n, .o]⟩ ⟨[(7, .s K3 [])],[.d, .f]⟩ [(.exit 2,⟨[(7, .s K3 [])],[.d, .f]⟩)] (λ (s_1,_,_,_) k vend_15=>g_spec_Typed_l1 s_1 k vend_15) (.q (.m [(.normal,⟨[(37, .s K2 [])],[.d, .f]⟩)] [7] [] .z .z) .z))) (.q .z (.q (.b (.l ⟨[(0, .s K5 []),(4, .s K9 [(0,1)]),(6, .s K3 []),(7, .s K3 [])],[.n, .o]⟩ ⟨[(5, .s K3 []),(8, .s K5 [])],[.d, .f]⟩ [(.exit 4,⟨[(5, .s K3 []),(8, .s K5 [])],[.d, .f]⟩)] (λ _ k (kind_21,w_22)=>g_spec_Typed_l2 k kind_21 w_22) (.q (.m [(.normal,⟨[(51, .s K2 [])],[.d, .f]⟩)] [5,8] [] .z .z) .z))) (.m [(.normal,⟨[(4, .s K9 [(0,2)])],[.d, .d, .o]⟩),(.ret,⟨[(2, .s K9 [(0,2)]),(3, .s K3 [])],[.d, .d, .o]⟩)] [5,6,7,8] [] .z .z))))))))))) .z))))
theorem ke_spec_Typed:CK [e_spec_l01Blank,e_spec_ColorKey,e_spec_l16Word] 0 ane_spec_Typed Tryz.f28 e_spec_Typed:=⟨⟨trivial,⟨trivial,⟨trivial,⟨trivial,⟨⟨trivial,⟨λ _ _=>rfl,λ _ _ _ _=>by kernel_rfl,⟨trivial,⟨trivial,⟨trivial,⟨⟨λ _ _=>rfl,λ _ _ _ _=>by kernel_rfl,⟨⟨trivial,trivial⟩,trivial⟩⟩,⟨trivial,⟨⟨λ _ _=>rfl,λ _ _ _ _=>by kernel_rfl,⟨⟨trivial,trivial⟩,trivial⟩⟩,⟨trivial,trivial⟩⟩⟩⟩⟩⟩⟩⟩⟩,trivial⟩⟩⟩⟩⟩,λ _=>by kernel_rfl⟩
noncomputable def ane_spec_l04Same:An:=.q .z (.q .z (.m [(.normal,⟨[],[]⟩),(.ret,⟨[(4, .s K2 [])],[]⟩)] [0,1] [] (.q .z (.b (.l ⟨[(0, .s K9 []),(1, .s K9 [])],[]⟩ ⟨[(5, .s K3 [])],[]⟩ [(.exit 0,⟨[],[]⟩),(.ret,⟨[(4, .s K2 [])],[]⟩)] (λ (a_1,b_2) k i_5=>g_spec_l04Same_l0 a_1 b_2 k i_5) .z))) .z))
theorem ke_spec_l04Same:CK [] 0 ane_spec_l04Same Tryz.f29 e_spec_l04Same:=⟨⟨trivial,⟨trivial,⟨⟨trivial,⟨λ _ _=>rfl,λ _ _ _ _=>by kernel_rfl,trivial⟩⟩,trivial⟩⟩⟩,λ _=>by kernel_rfl⟩
end Go.Proofs.YtgfamepnkhpemaaGreatDoor
namespace Go.Proofs.YtgfamepnkhpemaaGreatDoor
open Go Go.Fm
set_option maxRecDepth 1000000
noncomputable def ane_spec_TypeText:An:=.q .z (.q .z (.m [(.normal,⟨[(3, .s K1 [(0,1)])],[.d, .o]⟩)] [0,2] [] (.q .z (.b (.l ⟨[(0, .s K9 []),(2, .s K5 [])],[.n, .n]⟩ ⟨[(3, .s K1 [(0,1)]),(4, .s K3 [])],[.d, .o]⟩ [(.exit 0,⟨[(3, .s K1 [(0,1)])],[.d, .o]⟩)] (λ (list_1,_) k (out_5,i_6)=>g_spec_TypeText_l0 list_1 k out_5 i_6) (.q (.m [(.normal,⟨[(16, .s K2 [])],[.d, .f]⟩)] [3,4] [1] .z .z) (.m [(.normal,⟨[(3, .s K1 [(0,2)])],[.d, .d, .o]⟩)] [4] [] (.b (.m [(.normal,⟨[(3, .s K1 [(0,2)])],[.d, .d, .o]⟩)] [] [] .z .z)) .z))))) (.q .z (.q (.m [(.normal,⟨[(44, .s K2 [])],[.d, .f, .f]⟩)] [0,2,3,5,6] [1,2] .z .z) .z))))
theorem ke_spec_TypeText:CK [e_spec_l16One,e_spec_Typed,e_spec_l04Same] 0 ane_spec_TypeText Tryz.f7 e_spec_TypeText:=⟨⟨trivial,⟨trivial,⟨⟨trivial,⟨λ _ _=>rfl,λ _ _ _ _=>by kernel_rfl,⟨⟨trivial,trivial⟩,⟨⟨trivial,trivial⟩,trivial⟩⟩⟩⟩,⟨trivial,⟨⟨trivial,trivial⟩,trivial⟩⟩⟩⟩⟩,λ _=>by kernel_rfl⟩
noncomputable def ane_laws_sameItems:An:=.q .z (.q .z (.m [(.normal,⟨[],[]⟩),(.ret,⟨[(4, .s K2 [])],[]⟩)] [0,1] [] (.q .z (.b (.l ⟨[(0, .s K9 []),(1, .s K9 [])],[]⟩ ⟨[(5, .s K3 [])],[]⟩ [(.exit 0,⟨[],[]⟩),(.ret,⟨[(4, .s K2 [])],[]⟩)] (λ (a_1,b_2) k i_5=>g_laws_sameItems_l0 a_1 b_2 k i_5) .z))) .z))
theorem ke_laws_sameItems:CK [] 0 ane_laws_sameItems Tryz.f14 e_laws_sameItems:=⟨⟨trivial,⟨trivial,⟨⟨trivial,⟨λ _ _=>rfl,λ _ _ _ _=>by kernel_rfl,trivial⟩⟩,trivial⟩⟩⟩,λ _=>by kernel_rfl⟩
noncomputable def ane_laws_FnTyped:An:=.z
theorem ke_laws_FnTyped:CK [e_laws_big,e_spec_DrawTypeText,e_impl_TypeText,e_spec_TypeText,e_impl_Typed,e_laws_sameItems] 0 ane_laws_FnTyped Tryz.f4 e_laws_FnTyped:=⟨trivial,λ _=>by kernel_rfl⟩
end Go.Proofs.YtgfamepnkhpemaaGreatDoor
namespace Go.Proofs.YtgfamepnkhpemaaGreatDoor
open Go Go.Fm
set_option maxRecDepth 1000000
theorem ce_laws_big:CO e_laws_big:=fnc (λ _=>con_nil) Tryz.func11 ke_laws_big (by kernel_rfl) (λ _=>by kernel_rfl) (λ _=>by kernel_rfl) rfl
theorem ce_spec_l01New:CO e_spec_l01New:=fnc (λ _=>con_nil) Tryz.func38 ke_spec_l01New (by kernel_rfl) (λ _=>by kernel_rfl) (λ _=>by kernel_rfl) rfl
theorem ce_spec_l01Byte:CO e_spec_l01Byte:=fnc (λ _=>con_nil) Tryz.func114 ke_spec_l01Byte (by kernel_rfl) (λ _=>by kernel_rfl) (λ _=>by kernel_rfl) rfl
theorem ce_spec_l01Below:CO e_spec_l01Below:=fnc (λ _=>con_cons ce_spec_l01Byte con_nil) Tryz.func74 ke_spec_l01Below (by kernel_rfl) (λ _=>by kernel_rfl) (λ _=>by kernel_rfl) rfl
theorem ce_spec_l01Once:CO e_spec_l01Once:=fnc (λ _=>con_cons ce_spec_l01Below con_nil) Tryz.func40 ke_spec_l01Once (by kernel_rfl) (λ _=>by kernel_rfl) (λ _=>by kernel_rfl) rfl
theorem ce_spec_l01PickInt:CO e_spec_l01PickInt:=fnc (λ _=>con_cons ce_spec_l01Below con_nil) Tryz.func41 ke_spec_l01PickInt (by kernel_rfl) (λ _=>by kernel_rfl) (λ _=>by kernel_rfl) rfl
theorem ce_spec_l04Int:CO e_spec_l04Int:=fnc (λ _=>con_cons ce_spec_l01Once (con_cons ce_spec_l01Below (con_cons ce_spec_l01PickInt con_nil))) Tryz.func115 ke_spec_l04Int (by kernel_rfl) (λ _=>by kernel_rfl) (λ _=>by kernel_rfl) rfl
theorem ce_spec_l01Pick:CO e_spec_l01Pick:=fnc (λ _=>con_cons ce_spec_l01Below con_nil) Tryz.func42 ke_spec_l01Pick (by kernel_rfl) (λ _=>by kernel_rfl) (λ _=>by kernel_rfl) rfl
theorem ce_spec_l01In:CO e_spec_l01In:=fnc (λ _=>con_nil) Tryz.func143 ke_spec_l01In (by kernel_rfl) (λ _=>by kernel_rfl) (λ _=>by kernel_rfl) rfl
theorem ce_spec_l02All:CO e_spec_l02All:=fnc (λ _=>con_nil) Tryz.func176 ke_spec_l02All (by kernel_rfl) (λ _=>by kernel_rfl) (λ _=>by kernel_rfl) rfl
theorem ce_spec_LetterAt:CO e_spec_LetterAt:=fnc (λ _=>con_cons ce_spec_l01In (con_cons ce_spec_l02All con_nil)) Tryz.func151 ke_spec_LetterAt (by kernel_rfl) (λ _=>by kernel_rfl) (λ _=>by kernel_rfl) rfl
theorem ce_spec_l02Name:CO e_spec_l02Name:=fnc (λ _=>con_cons ce_spec_l01Once (con_cons ce_spec_l01Pick (con_cons ce_spec_l01Below (con_cons ce_spec_LetterAt con_nil)))) Tryz.func116 ke_spec_l02Name (by kernel_rfl) (λ _=>by kernel_rfl) (λ _=>by kernel_rfl) rfl
theorem ce_spec_l04Some:CO e_spec_l04Some:=fnc (λ _=>con_cons ce_spec_l01Below (con_cons ce_spec_l04Int (con_cons ce_spec_l01Once (con_cons ce_spec_l01Pick (con_cons ce_spec_l02Name con_nil))))) Tryz.func75 ke_spec_l04Some (by kernel_rfl) (λ _=>by kernel_rfl) (λ _=>by kernel_rfl) rfl
theorem ce_spec_l01Word:CO e_spec_l01Word:=fnc (λ _=>con_cons ce_spec_l01Below (con_cons ce_spec_l01PickInt con_nil)) Tryz.func117 ke_spec_l01Word (by kernel_rfl) (λ _=>by kernel_rfl) (λ _=>by kernel_rfl) rfl
theorem ce_spec_l04Any:CO e_spec_l04Any:=fnc (λ _=>con_cons ce_spec_l04Some (con_cons ce_spec_l01Below (con_cons ce_spec_l01Word (con_cons ce_spec_l01Pick con_nil)))) Tryz.func76 ke_spec_l04Any (by kernel_rfl) (λ _=>by kernel_rfl) (λ _=>by kernel_rfl) rfl
theorem ce_spec_l04List:CO e_spec_l04List:=fnc (λ _=>con_cons ce_spec_l01Below (con_cons ce_spec_l04Some (con_cons ce_spec_l01Once (con_cons ce_spec_l04Any con_nil)))) Tryz.func39 ke_spec_l04List (by kernel_rfl) (λ _=>by kernel_rfl) (λ _=>by kernel_rfl) rfl
theorem ce_spec_DrawTypeText:CO e_spec_DrawTypeText:=fnc (λ _=>con_cons ce_spec_l01New (con_cons ce_spec_l04List (con_cons ce_spec_l01Once (con_cons ce_spec_l01PickInt (con_cons ce_spec_l01Pick con_nil))))) Tryz.func12 ke_spec_DrawTypeText (by kernel_rfl) (λ _=>by kernel_rfl) (λ _=>by kernel_rfl) rfl
theorem ce_impl_keyKinds:CO e_impl_keyKinds:=fnc (λ _=>con_nil) Tryz.func31 ke_impl_keyKinds (by kernel_rfl) (λ _=>by kernel_rfl) (λ _=>by kernel_rfl) rfl
theorem ce_impl_colorKeys:CO e_impl_colorKeys:=fnc (λ _=>con_nil) Tryz.func32 ke_impl_colorKeys (by kernel_rfl) (λ _=>by kernel_rfl) (λ _=>by kernel_rfl) rfl
theorem ce_strconv_Itoa:ConOk Tryz.prog e_strconv_Itoa:=fe_strconv_Itoa
theorem ce_impl_DecText:CO e_impl_DecText:=fnc (λ _=>con_cons ce_strconv_Itoa con_nil) Tryz.func33 ke_impl_DecText (by kernel_rfl) (λ _=>by kernel_rfl) (λ _=>by kernel_rfl) rfl
theorem ce_istrconv_small:CO e_istrconv_small:=fnc (λ _=>con_nil) Tryz.func145 ke_istrconv_small (by kernel_rfl) (λ _=>by kernel_rfl) (λ _=>by kernel_rfl) rfl
theorem ce_math_bits_Len64:CO e_math_bits_Len64:=fnc (λ _=>con_nil) Tryz.func172 ke_math_bits_Len64 (by kernel_rfl) (λ _=>by kernel_rfl) (λ _=>by kernel_rfl) rfl
theorem ce_istrconv_log10Pow2:CO e_istrconv_log10Pow2:=fnc (λ _=>con_nil) Tryz.func171 ke_istrconv_log10Pow2 (by kernel_rfl) (λ _=>by kernel_rfl) (λ _=>by kernel_rfl) rfl
theorem ce_istrconv_bool2_int:CO e_istrconv_bool2_int:=fnc (λ _=>con_nil) Tryz.func173 ke_istrconv_bool2_int (by kernel_rfl) (λ _=>by kernel_rfl) (λ _=>by kernel_rfl) rfl
theorem ce_istrconv_numDigits:CO e_istrconv_numDigits:=fnc (λ _=>con_cons ce_math_bits_Len64 (con_cons ce_istrconv_log10Pow2 (con_cons ce_istrconv_bool2_int con_nil))) Tryz.func146 ke_istrconv_numDigits (by kernel_rfl) (λ _=>by kernel_rfl) (λ _=>by kernel_rfl) rfl
theorem ce_istrconv_isPowerOfTwo:CO e_istrconv_isPowerOfTwo:=fnc (λ _=>con_nil) Tryz.func174 ke_istrconv_isPowerOfTwo (by kernel_rfl) (λ _=>by kernel_rfl) (λ _=>by kernel_rfl) rfl
theorem ce_math_bits_TrailingZeros64:CO e_math_bits_TrailingZeros64:=fnc (λ _=>con_nil) Tryz.func191 ke_math_bits_TrailingZeros64 (by kernel_rfl) (λ _=>by kernel_rfl) (λ _=>by kernel_rfl) rfl
theorem ce_math_bits_TrailingZeros:CO e_math_bits_TrailingZeros:=fnc (λ _=>con_cons ce_math_bits_TrailingZeros64 con_nil) Tryz.func175 ke_math_bits_TrailingZeros (by kernel_rfl) (λ _=>by kernel_rfl) (λ _=>by kernel_rfl) rfl
theorem ce_istrconv_formatBits:CO e_istrconv_formatBits:=fnc (λ _=>con_cons ce_istrconv_isPowerOfTwo (con_cons ce_math_bits_TrailingZeros con_nil)) Tryz.func148 ke_istrconv_formatBits (by kernel_rfl) (λ _=>by kernel_rfl) (λ _=>by kernel_rfl) rfl
theorem ce_istrconv_FormatUint:CO e_istrconv_FormatUint:=fnc (λ _=>con_cons ce_istrconv_small (con_cons ce_istrconv_numDigits (con_cons ce_istrconv_formatBits con_nil))) Tryz.func111 ke_istrconv_FormatUint (by kernel_rfl) (λ _=>by kernel_rfl) (λ _=>by kernel_rfl) rfl
theorem ce_strconv_FormatUint:CO e_strconv_FormatUint:=fnc (λ _=>con_cons ce_istrconv_FormatUint con_nil) Tryz.func69 ke_strconv_FormatUint (by kernel_rfl) (λ _=>by kernel_rfl) (λ _=>by kernel_rfl) rfl
theorem ce_impl_HexText:CO e_impl_HexText:=fnc (λ _=>con_cons ce_strconv_FormatUint con_nil) Tryz.func34 ke_impl_HexText (by kernel_rfl) (λ _=>by kernel_rfl) (λ _=>by kernel_rfl) rfl
theorem ce_strings_Join:ConOk Tryz.prog e_strings_Join:=fe_strings_Join
theorem ce_impl_isSpace:CO e_impl_isSpace:=fnc (λ _=>con_nil) Tryz.func77 ke_impl_isSpace (by kernel_rfl) (λ _=>by kernel_rfl) (λ _=>by kernel_rfl) rfl
theorem ce_impl_spots:CO e_impl_spots:=fnc (λ _=>con_cons ce_impl_isSpace con_nil) Tryz.func43 ke_impl_spots (by kernel_rfl) (λ _=>by kernel_rfl) (λ _=>by kernel_rfl) rfl
theorem ce_ibytealg_IndexByteString:ConOk Tryz.prog e_ibytealg_IndexByteString:=fe_ibytealg_IndexByteString
theorem ce_istringslite_IndexByte:CO e_istringslite_IndexByte:=fnc (λ _=>con_cons ce_ibytealg_IndexByteString con_nil) Tryz.func118 ke_istringslite_IndexByte (by kernel_rfl) (λ _=>by kernel_rfl) (λ _=>by kernel_rfl) rfl
theorem ce_strings_IndexByte:CO e_strings_IndexByte:=fnc (λ _=>con_cons ce_istringslite_IndexByte con_nil) Tryz.func78 ke_strings_IndexByte (by kernel_rfl) (λ _=>by kernel_rfl) (λ _=>by kernel_rfl) rfl
theorem ce_impl_ColorKey:CO e_impl_ColorKey:=fnc (λ _=>con_cons ce_impl_colorKeys (con_cons ce_strings_IndexByte (con_cons ce_impl_keyKinds con_nil))) Tryz.func44 ke_impl_ColorKey (by kernel_rfl) (λ _=>by kernel_rfl) (λ _=>by kernel_rfl) rfl
theorem ce_istringslite_HasPrefix:CO e_istringslite_HasPrefix:=fnc (λ _=>con_nil) Tryz.func153 ke_istringslite_HasPrefix (by kernel_rfl) (λ _=>by kernel_rfl) (λ _=>by kernel_rfl) rfl
theorem ce_istringslite_CutPrefix:CO e_istringslite_CutPrefix:=fnc (λ _=>con_cons ce_istringslite_HasPrefix con_nil) Tryz.func119 ke_istringslite_CutPrefix (by kernel_rfl) (λ _=>by kernel_rfl) (λ _=>by kernel_rfl) rfl
theorem ce_strings_CutPrefix:CO e_strings_CutPrefix:=fnc (λ _=>con_cons ce_istringslite_CutPrefix con_nil) Tryz.func79 ke_strings_CutPrefix (by kernel_rfl) (λ _=>by kernel_rfl) (λ _=>by kernel_rfl) rfl
theorem ce_istrconv_lower:CO e_istrconv_lower:=fnc (λ _=>con_nil) Tryz.func177 ke_istrconv_lower (by kernel_rfl) (λ _=>by kernel_rfl) (λ _=>by kernel_rfl) rfl
theorem ce_istrconv_underscoreOK:CO e_istrconv_underscoreOK:=fnc (λ _=>con_cons ce_istrconv_lower con_nil) Tryz.func178 ke_istrconv_underscoreOK (by kernel_rfl) (λ _=>by kernel_rfl) (λ _=>by kernel_rfl) rfl
theorem ce_istrconv_ParseUint:CO e_istrconv_ParseUint:=fnc (λ _=>con_cons ce_istrconv_lower (con_cons ce_istrconv_underscoreOK con_nil)) Tryz.func154 ke_istrconv_ParseUint (by kernel_rfl) (λ _=>by kernel_rfl) (λ _=>by kernel_rfl) rfl
theorem ce_strconv_toError:ConOk Tryz.prog e_strconv_toError:=fe_strconv_toError
theorem ce_strconv_ParseUint:CO e_strconv_ParseUint:=fnc (λ _=>con_cons ce_istrconv_ParseUint (con_cons ce_strconv_toError con_nil)) Tryz.func120 ke_strconv_ParseUint (by kernel_rfl) (λ _=>by kernel_rfl) (λ _=>by kernel_rfl) rfl
theorem ce_impl_ReadHex:CO e_impl_ReadHex:=fnc (λ _=>con_cons ce_strconv_ParseUint (con_cons ce_impl_HexText con_nil)) Tryz.func80 ke_impl_ReadHex (by kernel_rfl) (λ _=>by kernel_rfl) (λ _=>by kernel_rfl) rfl
theorem ce_istrconv_ParseInt:CO e_istrconv_ParseInt:=fnc (λ _=>con_cons ce_istrconv_ParseUint con_nil) Tryz.func194 ke_istrconv_ParseInt (by kernel_rfl) (λ _=>by kernel_rfl) (λ _=>by kernel_rfl) rfl
theorem ce_istrconv_Atoi:CO e_istrconv_Atoi:=fnc (λ _=>con_cons ce_istrconv_ParseInt con_nil) Tryz.func183 ke_istrconv_Atoi (by kernel_rfl) (λ _=>by kernel_rfl) (λ _=>by kernel_rfl) rfl
theorem ce_strconv_Atoi:CO e_strconv_Atoi:=fnc (λ _=>con_cons ce_istrconv_Atoi (con_cons ce_strconv_toError con_nil)) Tryz.func156 ke_strconv_Atoi (by kernel_rfl) (λ _=>by kernel_rfl) (λ _=>by kernel_rfl) rfl
theorem ce_impl_ReadDec:CO e_impl_ReadDec:=fnc (λ _=>con_cons ce_strconv_Atoi (con_cons ce_impl_DecText con_nil)) Tryz.func121 ke_impl_ReadDec (by kernel_rfl) (λ _=>by kernel_rfl) (λ _=>by kernel_rfl) rfl
theorem ce_impl_small:CO e_impl_small:=fnc (λ _=>con_cons ce_impl_ReadDec con_nil) Tryz.func81 ke_impl_small (by kernel_rfl) (λ _=>by kernel_rfl) (λ _=>by kernel_rfl) rfl
theorem ce_impl_typedNumber:CO e_impl_typedNumber:=fnc (λ _=>con_cons ce_strings_CutPrefix (con_cons ce_impl_ReadHex (con_cons ce_impl_small con_nil))) Tryz.func45 ke_impl_typedNumber (by kernel_rfl) (λ _=>by kernel_rfl) (λ _=>by kernel_rfl) rfl
theorem ce_impl_nameTag:CO e_impl_nameTag:=fnc (λ _=>con_nil) Tryz.func102 ke_impl_nameTag (by kernel_rfl) (λ _=>by kernel_rfl) (λ _=>by kernel_rfl) rfl
theorem ce_impl_letters:CO e_impl_letters:=fnc (λ _=>con_nil) Tryz.func169 ke_impl_letters (by kernel_rfl) (λ _=>by kernel_rfl) (λ _=>by kernel_rfl) rfl
theorem ce_impl_LetterOf:CO e_impl_LetterOf:=fnc (λ _=>con_cons ce_impl_letters (con_cons ce_strings_IndexByte con_nil)) Tryz.func165 ke_impl_LetterOf (by kernel_rfl) (λ _=>by kernel_rfl) (λ _=>by kernel_rfl) rfl
theorem ce_impl_within:CO e_impl_within:=fnc (λ _=>con_nil) Tryz.func166 ke_impl_within (by kernel_rfl) (λ _=>by kernel_rfl) (λ _=>by kernel_rfl) rfl
theorem ce_impl_NameOk:CO e_impl_NameOk:=fnc (λ _=>con_cons ce_impl_LetterOf (con_cons ce_impl_within con_nil)) Tryz.func137 ke_impl_NameOk (by kernel_rfl) (λ _=>by kernel_rfl) (λ _=>by kernel_rfl) rfl
theorem ce_impl_WidthOf:CO e_impl_WidthOf:=fnc (λ _=>con_cons ce_impl_within con_nil) Tryz.func167 ke_impl_WidthOf (by kernel_rfl) (λ _=>by kernel_rfl) (λ _=>by kernel_rfl) rfl
theorem ce_impl_BitsOf:CO e_impl_BitsOf:=fnc (λ _=>con_cons ce_impl_WidthOf con_nil) Tryz.func168 ke_impl_BitsOf (by kernel_rfl) (λ _=>by kernel_rfl) (λ _=>by kernel_rfl) rfl
theorem ce_impl_PackOne:CO e_impl_PackOne:=fnc (λ _=>con_cons ce_impl_NameOk (con_cons ce_impl_LetterOf (con_cons ce_impl_WidthOf (con_cons ce_impl_BitsOf con_nil)))) Tryz.func140 ke_impl_PackOne (by kernel_rfl) (λ _=>by kernel_rfl) (λ _=>by kernel_rfl) rfl
theorem ce_impl_Pack:CO e_impl_Pack:=fnc (λ _=>con_cons ce_impl_NameOk (con_cons ce_impl_PackOne con_nil)) Tryz.func103 ke_impl_Pack (by kernel_rfl) (λ _=>by kernel_rfl) (λ _=>by kernel_rfl) rfl
theorem ce_impl_numberCells:CO e_impl_numberCells:=fnc (λ _=>con_nil) Tryz.func104 ke_impl_numberCells (by kernel_rfl) (λ _=>by kernel_rfl) (λ _=>by kernel_rfl) rfl
theorem ce_impl_CellsOf:CO e_impl_CellsOf:=fnc (λ _=>con_cons ce_impl_nameTag (con_cons ce_impl_Pack (con_cons ce_impl_numberCells con_nil))) Tryz.func60 ke_impl_CellsOf (by kernel_rfl) (λ _=>by kernel_rfl) (λ _=>by kernel_rfl) rfl
theorem ce_impl_ItemOk:CO e_impl_ItemOk:=fnc (λ _=>con_cons ce_impl_CellsOf con_nil) Tryz.func46 ke_impl_ItemOk (by kernel_rfl) (λ _=>by kernel_rfl) (λ _=>by kernel_rfl) rfl
theorem ce_impl_Typed:CO e_impl_Typed:=fnc (λ _=>con_cons ce_impl_spots (con_cons ce_impl_ColorKey (con_cons ce_impl_typedNumber (con_cons ce_impl_ItemOk con_nil)))) Tryz.func13 ke_impl_Typed (by kernel_rfl) (λ _=>by kernel_rfl) (λ _=>by kernel_rfl) rfl
theorem ce_slices_Equal_Item:CO e_slices_Equal_Item:=fnc (λ _=>con_nil) Tryz.func73 ke_slices_Equal_Item (by kernel_rfl) (λ _=>by kernel_rfl) (λ _=>by kernel_rfl) rfl
theorem ce_impl_sameItems:CO e_impl_sameItems:=fnc (λ _=>con_cons ce_slices_Equal_Item con_nil) Tryz.func36 ke_impl_sameItems (by kernel_rfl) (λ _=>by kernel_rfl) (λ _=>by kernel_rfl) rfl
theorem ce_impl_TypeText:CO e_impl_TypeText:=fnc (λ _=>con_cons ce_impl_keyKinds (con_cons ce_impl_colorKeys (con_cons ce_impl_DecText (con_cons ce_impl_HexText (con_cons ce_strings_Join (con_cons ce_impl_Typed (con_cons ce_impl_sameItems con_nil))))))) Tryz.func9 ke_impl_TypeText (by kernel_rfl) (λ _=>by kernel_rfl) (λ _=>by kernel_rfl) rfl
theorem ce_spec_DecText:CO e_spec_DecText:=fnc (λ _=>con_nil) Tryz.func62 ke_spec_DecText (by kernel_rfl) (λ _=>by kernel_rfl) (λ _=>by kernel_rfl) rfl
theorem ce_spec_HexText:CO e_spec_HexText:=fnc (λ _=>con_nil) Tryz.func63 ke_spec_HexText (by kernel_rfl) (λ _=>by kernel_rfl) (λ _=>by kernel_rfl) rfl
theorem ce_spec_l16Keys:CO e_spec_l16Keys:=fnc (λ _=>con_nil) Tryz.func64 ke_spec_l16Keys (by kernel_rfl) (λ _=>by kernel_rfl) (λ _=>by kernel_rfl) rfl
theorem ce_spec_ColorKey:CO e_spec_ColorKey:=fnc (λ _=>con_cons ce_spec_l16Keys con_nil) Tryz.func65 ke_spec_ColorKey (by kernel_rfl) (λ _=>by kernel_rfl) (λ _=>by kernel_rfl) rfl
theorem ce_spec_l16One:CO e_spec_l16One:=fnc (λ _=>con_cons ce_spec_DecText (con_cons ce_spec_HexText (con_cons ce_spec_l16Keys (con_cons ce_spec_ColorKey con_nil)))) Tryz.func27 ke_spec_l16One (by kernel_rfl) (λ _=>by kernel_rfl) (λ _=>by kernel_rfl) rfl
theorem ce_spec_l01Blank:CO e_spec_l01Blank:=fnc (λ _=>con_nil) Tryz.func66 ke_spec_l01Blank (by kernel_rfl) (λ _=>by kernel_rfl) (λ _=>by kernel_rfl) rfl
theorem ce_spec_l01Digit:CO e_spec_l01Digit:=fnc (λ _=>con_cons ce_spec_l01In con_nil) Tryz.func170 ke_spec_l01Digit (by kernel_rfl) (λ _=>by kernel_rfl) (λ _=>by kernel_rfl) rfl
theorem ce_spec_ReadHex:CO e_spec_ReadHex:=fnc (λ _=>con_cons ce_spec_l01In (con_cons ce_spec_l01Digit (con_cons ce_spec_HexText con_nil))) Tryz.func141 ke_spec_ReadHex (by kernel_rfl) (λ _=>by kernel_rfl) (λ _=>by kernel_rfl) rfl
theorem ce_spec_ReadDec:CO e_spec_ReadDec:=fnc (λ _=>con_cons ce_spec_l01In (con_cons ce_spec_l01Digit (con_cons ce_spec_DecText con_nil))) Tryz.func142 ke_spec_ReadDec (by kernel_rfl) (λ _=>by kernel_rfl) (λ _=>by kernel_rfl) rfl
theorem ce_spec_l06Dec:CO e_spec_l06Dec:=fnc (λ _=>con_cons ce_spec_ReadDec (con_cons ce_spec_l01In con_nil)) Tryz.func108 ke_spec_l06Dec (by kernel_rfl) (λ _=>by kernel_rfl) (λ _=>by kernel_rfl) rfl
theorem ce_spec_l16Number:CO e_spec_l16Number:=fnc (λ _=>con_cons ce_spec_ReadHex (con_cons ce_spec_l06Dec con_nil)) Tryz.func107 ke_spec_l16Number (by kernel_rfl) (λ _=>by kernel_rfl) (λ _=>by kernel_rfl) rfl
theorem ce_spec_l04Num:CO e_spec_l04Num:=fnc (λ _=>con_nil) Tryz.func158 ke_spec_l04Num (by kernel_rfl) (λ _=>by kernel_rfl) (λ _=>by kernel_rfl) rfl
theorem ce_spec_LetterOf:CO e_spec_LetterOf:=fnc (λ _=>con_cons ce_spec_l02All con_nil) Tryz.func195 ke_spec_LetterOf (by kernel_rfl) (λ _=>by kernel_rfl) (λ _=>by kernel_rfl) rfl
theorem ce_spec_NameOk:CO e_spec_NameOk:=fnc (λ _=>con_cons ce_spec_l01In (con_cons ce_spec_LetterOf con_nil)) Tryz.func184 ke_spec_NameOk (by kernel_rfl) (λ _=>by kernel_rfl) (λ _=>by kernel_rfl) rfl
theorem ce_spec_WidthOf:CO e_spec_WidthOf:=fnc (λ _=>con_cons ce_spec_l01In con_nil) Tryz.func187 ke_spec_WidthOf (by kernel_rfl) (λ _=>by kernel_rfl) (λ _=>by kernel_rfl) rfl
theorem ce_spec_BitsOf:CO e_spec_BitsOf:=fnc (λ _=>con_cons ce_spec_WidthOf con_nil) Tryz.func188 ke_spec_BitsOf (by kernel_rfl) (λ _=>by kernel_rfl) (λ _=>by kernel_rfl) rfl
theorem ce_spec_l03One:CO e_spec_l03One:=fnc (λ _=>con_cons ce_spec_LetterOf (con_cons ce_spec_WidthOf (con_cons ce_spec_BitsOf con_nil))) Tryz.func186 ke_spec_l03One (by kernel_rfl) (λ _=>by kernel_rfl) (λ _=>by kernel_rfl) rfl
theorem ce_spec_Pack:CO e_spec_Pack:=fnc (λ _=>con_cons ce_spec_NameOk (con_cons ce_spec_l03One con_nil)) Tryz.func162 ke_spec_Pack (by kernel_rfl) (λ _=>by kernel_rfl) (λ _=>by kernel_rfl) rfl
theorem ce_spec_l04Word:CO e_spec_l04Word:=fnc (λ _=>con_cons ce_spec_Pack con_nil) Tryz.func159 ke_spec_l04Word (by kernel_rfl) (λ _=>by kernel_rfl) (λ _=>by kernel_rfl) rfl
theorem ce_spec_l04Tag:CO e_spec_l04Tag:=fnc (λ _=>con_nil) Tryz.func160 ke_spec_l04Tag (by kernel_rfl) (λ _=>by kernel_rfl) (λ _=>by kernel_rfl) rfl
theorem ce_spec_CellsOf:CO e_spec_CellsOf:=fnc (λ _=>con_cons ce_spec_l04Num (con_cons ce_spec_l04Word (con_cons ce_spec_l04Tag con_nil))) Tryz.func127 ke_spec_CellsOf (by kernel_rfl) (λ _=>by kernel_rfl) (λ _=>by kernel_rfl) rfl
theorem ce_spec_ItemOk:CO e_spec_ItemOk:=fnc (λ _=>con_cons ce_spec_CellsOf con_nil) Tryz.func109 ke_spec_ItemOk (by kernel_rfl) (λ _=>by kernel_rfl) (λ _=>by kernel_rfl) rfl
theorem ce_spec_l16Word:CO e_spec_l16Word:=fnc (λ _=>con_cons ce_spec_l16Number (con_cons ce_spec_l06Dec (con_cons ce_spec_ItemOk con_nil))) Tryz.func67 ke_spec_l16Word (by kernel_rfl) (λ _=>by kernel_rfl) (λ _=>by kernel_rfl) rfl
theorem ce_spec_Typed:CO e_spec_Typed:=fnc (λ _=>con_cons ce_spec_l01Blank (con_cons ce_spec_ColorKey (con_cons ce_spec_l16Word con_nil))) Tryz.func28 ke_spec_Typed (by kernel_rfl) (λ _=>by kernel_rfl) (λ _=>by kernel_rfl) rfl
theorem ce_spec_l04Same:CO e_spec_l04Same:=fnc (λ _=>con_nil) Tryz.func29 ke_spec_l04Same (by kernel_rfl) (λ _=>by kernel_rfl) (λ _=>by kernel_rfl) rfl
theorem ce_spec_TypeText:CO e_spec_TypeText:=fnc (λ _=>con_cons ce_spec_l16One (con_cons ce_spec_Typed (con_cons ce_spec_l04Same con_nil))) Tryz.func7 ke_spec_TypeText (by kernel_rfl) (λ _=>by kernel_rfl) (λ _=>by kernel_rfl) rfl
theorem ce_laws_sameItems:CO e_laws_sameItems:=fnc (λ _=>con_nil) Tryz.func14 ke_laws_sameItems (by kernel_rfl) (λ _=>by kernel_rfl) (λ _=>by kernel_rfl) rfl
theorem ce_laws_FnTyped:CO e_laws_FnTyped:=fnc (λ _=>con_cons ce_laws_big (con_cons ce_spec_DrawTypeText (con_cons ce_impl_TypeText (con_cons ce_spec_TypeText (con_cons ce_impl_Typed (con_cons ce_laws_sameItems con_nil)))))) Tryz.func4 ke_laws_FnTyped (by kernel_rfl) (λ _=>by kernel_rfl) (λ _=>by kernel_rfl) rfl
end Go.Proofs.YtgfamepnkhpemaaGreatDoor

namespace Go.Fm
theorem wI64 {x:Int} (h1 : -9223372036854775808<=x) (h2:x < 9223372036854775808):IntKind.wrap .i64 x=x:=by
 simp[IntKind.wrap,IntKind.bits,IntKind.signed];omega
theorem wI32 {x:Int} (h1 : -2147483648<=x) (h2:x < 2147483648):IntKind.wrap .i32 x=x:=by
 simp[IntKind.wrap,IntKind.bits,IntKind.signed];omega
theorem wU32 {x:Int} (h1:0<=x) (h2:x < 4294967296):IntKind.wrap .u32 x=x:=by
 simp[IntKind.wrap,IntKind.bits,IntKind.signed];omega
theorem wU64 {x:Int} (h1:0<=x) (h2:x < 18446744073709551616):IntKind.wrap .u64 x=x:=by
 simp[IntKind.wrap,IntKind.bits,IntKind.signed];omega
theorem wU32_bd (x:Int):0<=IntKind.wrap .u32 x/\IntKind.wrap .u32 x < 4294967296:=by
 simp[IntKind.wrap,IntKind.bits,IntKind.signed];omega
theorem wI32_bd (x:Int) : -2147483648<=IntKind.wrap .i32 x/\IntKind.wrap .i32 x < 2147483648:=by
 simp[IntKind.wrap,IntKind.bits,IntKind.signed];omega
theorem wI64_bd (x:Int) : -9223372036854775808<=IntKind.wrap .i64 x/\IntKind.wrap .i64 x < 9223372036854775808:=by
 simp[IntKind.wrap,IntKind.bits,IntKind.signed];omega
theorem getI_ex {α:Type} {xs:List α} {i:Int} (h0:0<=i) (h1:i < xs.length):∃ x,getI xs i=some x/\x ∈ xs/\xs[i.toNat]? = some x:=by
 have hi:i.toNat < xs.length:=by omega
 unfold getI
 rw[if_pos h0,List.getElem?_eq_getElem hi]
 exact ⟨_,rfl,List.getElem_mem hi,rfl⟩
theorem getI_nat {α:Type} {xs:List α} {i:Nat}:getI xs (i:Int)=xs[i]? := by
 unfold getI;rw[if_pos (Int.natCast_nonneg i)];rfl
theorem idxS_ex {l:List UInt8} {i:Int} (h0:0<=i) (h1:i < l.length):∃ v,idxS l i=some v/\0<=v/\v < 256/\∃ b ∈ l,v=(b.toNat:Int):=by
 unfold idxS
 rw[if_pos ⟨h0,h1⟩]
 have hi:i.toNat < l.length:=by omega
 refine ⟨_,rfl,Int.natCast_nonneg _,?_,l[i.toNat],List.getElem_mem hi,?_⟩
 ·have:=UInt8.toNat_lt (l.getD i.toNat 0);omega
 ·rw[List.getD_eq_getElem?_getD,List.getElem?_eq_getElem hi];rfl
theorem app_eq {α:Type} {xs ys:List α} (h:xs.length+ys.length<=4294967296):app xs ys=some (xs++ys):=by
 unfold app
 rw[if_pos (by rw[List.length_append];exact h)]
theorem subL_eq {α:Type} {xs:List α} {a b:Int} (h0:0<=a) (h1:a<=b) (h2:b<=xs.length):subL xs a b=some ((xs.drop a.toNat).take (b.toNat-a.toNat)):=by
 unfold subL;rw[if_pos ⟨h0,h1,h2⟩]
theorem subL_drop {α:Type} {xs:List α} {a:Int} (h0:0<=a) (h2:a<=xs.length):subL xs a xs.length=some (xs.drop a.toNat):=by
 rw[subL_eq h0 h2 (Int.le_refl _),List.take_of_length_le]
 rw[List.length_drop];omega
theorem subL_take {α:Type} {xs:List α} {b:Int} (h0:0<=b) (h2:b<=xs.length):subL xs 0 b=some (xs.take b.toNat):=by
 rw[subL_eq (Int.le_refl _) h0 h2];rfl
theorem catS_eq {a b:List UInt8} (h:a.length+b.length < 4611686018427387904):catS a b=some (a++b):=by
 unfold catS;rw[if_pos h]
theorem remI_ex {k:IntKind} {a b:Int} (h0:0<=a) (hb:0 < b):remI k a b=some (a % b)/\0<=a % b/\a % b < b:=by
 unfold remI
 rw[if_neg (by omega),Int.tmod_eq_emod_of_nonneg h0]
 exact ⟨rfl,Int.emod_nonneg _ (by omega),Int.emod_lt_of_pos _ hb⟩
theorem bB_toNat {k:IntKind} {a:Int} (h0:0<=a) (h1:a < 2 ^ k.bits):(bytesB k a).toNat=a.toNat:=by
 unfold bytesB
 rw[BitVec.toNat_ofInt,Int.emod_eq_of_lt h0]
 simpa using h1
theorem wrap_small {k:IntKind} {n:Nat} (h:n < 2 ^ (k.bits-1)):k.wrap n=n:=by
 unfold IntKind.wrap
 have hb:2 ^ (k.bits-1)<=2 ^ k.bits:=Nat.pow_le_pow_right (by decide) (Nat.sub_le _ _)
 have h1:(n:Int) < ((2 ^ k.bits:Nat):Int):=Int.ofNat_lt.2 (Nat.lt_of_lt_of_le h hb)
 have h2:(n:Int) < ((2 ^ (k.bits-1):Nat):Int):=Int.ofNat_lt.2 h
 simp only[Int.natCast_pow,Int.cast_ofNat_Int]at h1 h2
 have e:(n:Int) % (2 ^ k.bits:Int)=n:=Int.emod_eq_of_lt (Int.natCast_nonneg _) h1
 simp only[e]
 rw[if_neg]
 intro hc
 rw[Bool.and_eq_true,decide_eq_true_eq]at hc
 have h3:=hc.2
 omega
theorem and_le {k:IntKind} {a b:Int} (h0:0<=b) (h1:b < 2 ^ (k.bits-1)):0<=andI k a b/\andI k a b<=b:=by
 unfold andI
 have hb:(bytesB k b).toNat=b.toNat:=bB_toNat h0 (Int.lt_of_lt_of_le h1 (by
  have:((2 ^ (k.bits-1):Nat):Int)<=((2 ^ k.bits:Nat):Int):=Int.ofNat_le.2 (Nat.pow_le_pow_right (by decide) (Nat.sub_le _ _))
  simpa only[Int.natCast_pow,Int.cast_ofNat_Int] using this))
 have hle:(bytesB k a &&& bytesB k b).toNat<=b.toNat:=by
  rw[BitVec.toNat_and,hb];exact Nat.and_le_right
 have hlt:(bytesB k a &&& bytesB k b).toNat < 2 ^ (k.bits-1):=by
  refine Nat.lt_of_le_of_lt hle ?_
  have:(b.toNat:Int) < ((2 ^ (k.bits-1):Nat):Int):=by rw[Int.toNat_of_nonneg h0];simpa only[Int.natCast_pow,Int.cast_ofNat_Int] using h1
  exact Int.ofNat_lt.1 this
 rw[wrap_small hlt]
 omega
def Tot {α:Type} (o:Option α) (Q:α->Prop):Prop:=∃ a,o=some a/\Q a
section
variable {α β:Type} {Q Q':α->Prop} {R:β->Prop}
theorem Tot.some {a:α} (h:Q a):Tot (some a) Q:=⟨a,rfl,h⟩
theorem Tot.bind {o:Option α} {f:α->Option β} (h:Tot o Q) (hf:∀ a,Q a->Tot (f a) R):Tot (o.bind f) R:=by
 obtain ⟨a,rfl,ha⟩:=h;exact hf a ha
theorem Tot.bindE {o:Option α} {f:α->Option β} {a:α} (h:o=.some a) (hf:Tot (f a) R):Tot (o.bind f) R:=by subst h;exact hf
theorem Tot.cond {c:Bool} {x y:Option α} (h1:c=true->Tot x Q) (h2:c=false->Tot y Q):Tot (cond c x y) Q:=by
 cases c with
 | true=>exact h1 rfl
 | false=>exact h2 rfl
theorem Tot.condD {p:Prop} [Decidable p] {x y:Option α} (h1:p->Tot x Q) (h2:¬ p->Tot y Q):Tot (_root_.cond (decide p) x y) Q :=
 .cond (λ h=>h1 (of_decide_eq_true h)) (λ h=>h2 (of_decide_eq_false h))
end
end Go.Fm
namespace Go.Fm
theorem nxt {n:Nat} (h:n < 16777216):IntKind.wrap .i64 ((n:Int)+1)=((n+1:Nat):Int):=by rw[wI64 (by omega) (by omega)];omega
def allN {α:Type} (p:Nat->α->Bool):Nat->List α->Bool
 | _,[]=>true
 | n,x::r=>p n x&&allN p (n+1) r
theorem allN_const {α:Type} (p:α->Bool):∀ (n:Nat) (l:List α),allN (λ _=>p) n l=l.all p
 | n,[]=>rfl
 | n,x::r=>by simp only[allN,List.all_cons,allN_const p (n+1) r]
theorem allLoop {α β:Type} {L:List α} {bad:β} (p:Nat->α->Bool) (F:Nat->Int->Option (Unit ⊕ β)) (step:∀ (k n:Nat) (x:α),L[n]? = some x->n < L.length->F (k+1) n=cond (p n x) (F k ((n+1:Nat):Int)) (some (.inr bad)))
  (fin:∀ k n:Nat,L.length<=n->F (k+1) n=some (.inl ())) (hm:L.length<=16777216):F bigK 0=some (cond (allN p 0 L) (.inl ()) (.inr bad)):=by
 have key:∀ (k n:Nat),n<=L.length->L.length-n < k->F k n=some (cond (allN p n (L.drop n)) (.inl ()) (.inr bad)):=by
  intro k
  induction k with
  | zero=>intro n h0 h1;omega
  | succ k ih =>
   intro n h0 h1
   by_cases hn:n < L.length
   ·rw[step k n L[n] (List.getElem?_eq_getElem hn) hn,List.drop_eq_getElem_cons hn]
    show _=some (cond (p n L[n]&&allN p (n+1) (L.drop (n+1))) _ _)
    cases p n L[n] with
    | false=>rfl
    | true=>rw[cond_true,ih (n+1) (by omega) (by omega),Bool.true_and]
   ·rw[fin k n (by omega),List.drop_eq_nil_of_le (by omega)];rfl
 have:=key bigK 0 (Nat.zero_le _) (by unfold bigK;omega)
 rw[List.drop_zero]at this
 exact this
theorem eqList {α:Type} [DecidableEq α] {a b:List α} (F:Nat->Int->Option (Unit ⊕ Bool)) (g:Option Bool) (hg:g=cond ((a.length:Int) != (b.length:Int)) (some false) (((F bigK 0).bind λ o=>match o with | .inl ()=>some (.inl ()) | .inr v=>some (.inr v):Option (Unit ⊕ Bool)).bind λ o=>match o with | .inl ()=>some true | .inr v=>some v))
  (hF:∀ (k:Nat) (i:Int),F (k+1) i=cond (decide (i < (a.length:Int))) ((getI a i).bind λ x=>(getI b i).bind λ y=>cond (!decide (x=y)) (some (.inr false)) (F k (IntKind.wrap .i64 (i+1)))) (some (.inl ()))) (hm:a.length<=1048576):g=some (decide (a=b)):=by
 rw[hg]
 by_cases hl:a.length=b.length
 ·have key:∀ (k n:Nat),n<=a.length->a.length-n < k->F k n=some (if a.drop n=b.drop n then .inl () else .inr false):=by
   intro k
   induction k with
   | zero=>intro n h0 h1;omega
   | succ k ih =>
    intro n h0 h1
    rw[hF]
    by_cases hn:n < a.length
    ·have hn':n < b.length:=by omega
     rw[decide_eq_true (by omega),getI_nat,getI_nat,List.getElem?_eq_getElem hn,List.getElem?_eq_getElem hn',List.drop_eq_getElem_cons hn,List.drop_eq_getElem_cons hn']
     simp only[cond_true,Option.bind_some]
     by_cases he:a[n]=b[n]
     ·rw[decide_eq_true he,Bool.not_true,cond_false,wI64 (by omega) (by omega),show ((n:Int)+1)=((n+1:Nat):Int) by omega,ih (n+1) (by omega) (by omega),he]
      simp only[List.cons.injEq,true_and]
     ·rw[decide_eq_false he,Bool.not_false,cond_true,if_neg (λ h=>he (List.cons.inj h).1)]
    ·rw[decide_eq_false (by omega),cond_false,List.drop_eq_nil_of_le (by omega),List.drop_eq_nil_of_le (by omega),if_pos rfl]
  have:((a.length:Int) != (b.length:Int))=false:=by rw[hl];simp
  rw[this,cond_false]
  have h:=key bigK 0 (Nat.zero_le _) (by unfold bigK;omega)
  rw[show ((0:Nat):Int)=0 from rfl]at h
  rw[h]
  by_cases he:a=b
  ·simp[he]
  ·simp[he]
 ·have:((a.length:Int) != (b.length:Int))=true:=by simp;omega
  rw[this,cond_true,decide_eq_false (λ h=>hl (by rw[h]))]
theorem eqRefl {α:Type} {a:List α} (F:Nat->Int->Option (Unit ⊕ Bool)) (f:Option Bool)
  (hf:f=cond ((a.length:Int) != (a.length:Int)) (some false) (((F bigK 0).bind λ o=>match o with | .inl ()=>some (.inl ()) | .inr v=>some (.inr v):Option (Unit ⊕ Bool)).bind λ o=>match o with | .inl ()=>some true | .inr v=>some v))
  (hs:∀ (k n:Nat) (x:α),a[n]? = some x->n < a.length->F (k+1) n=F k ((n+1:Nat):Int)) (he:∀ (k n:Nat),a.length<=n->F (k+1) n=some (.inl ())) (hm:a.length<=16777216):f=some true:=by
 have h:=allLoop (L:=a) (bad:=false) (λ _ _=>true) F (λ k n x hx hn=>by rw[hs k n x hx hn];rfl) he hm
 rw[hf,h]
 have e:∀ (n:Nat) (l:List α),allN (λ _ _=>true) n l=true:=λ n l=>by rw[allN_const (λ _=>true)];simp
 rw[e]
 simp
theorem bne_self' {α:Type} [BEq α] [LawfulBEq α] (x:α):(x != x)=false:=by simp
end Go.Fm
namespace Go.Proofs.YtgfamepnkhpemaaGreatDoor
open Go Go.Fm
set_option maxRecDepth 1000000
end Go.Proofs.YtgfamepnkhpemaaGreatDoor
namespace Go.Proofs.YtgfamepnkhpemaaGreatDoor
open Go Go.Fm
set_option maxRecDepth 100000
end Go.Proofs.YtgfamepnkhpemaaGreatDoor
namespace Go.Proofs.YtgfamepnkhpemaaGreatDoor
open Go Go.Fm
theorem dec_len:∀ (k u:Nat),u < 10 ^ (k+1)->(Lib.decDigits u).length<=k+1:=by
 intro k
 induction k with
 | zero =>
  intro u h
  rw[Lib.decDigits,dif_pos (by omega)];simp
 | succ k ih =>
  intro u h
  rw[Lib.decDigits]
  split
  ·simp
  ·have:u / 10 < 10 ^ (k+1):=by rw[Nat.div_lt_iff_lt_mul (by omega)];rw[Nat.pow_succ]at h;omega
   have:=ih (u / 10) this
   simp;omega
theorem itoa_len {n:Int} (h0 : -9223372036854775808<=n) (h1:n<=9223372036854775807):(Lib.itoa n).length<=21:=by
 unfold Lib.itoa
 split
 ·have:=dec_len 19 n.natAbs (by omega)
  simp;omega
 ·have:=dec_len 19 n.toNat (by omega)
  omega
theorem impl_dec {n:Int} (h0 : -9223372036854775808<=n) (h1:n<=9223372036854775807):g_impl_DecText n=some (Lib.itoa n):=by
 unfold g_impl_DecText g_strconv_Itoa gItoa
 rw[decide_eq_true ⟨h0,h1⟩];rfl
theorem digit {d:Nat} (h:d < 10):subL ([48,49,50,51,52,53,54,55,56,57]:List UInt8) (d:Int) (IntKind.wrap .i64 ((d:Int)+1))=some [UInt8.ofNat (48+d)]:=by
 match d,h with
 | 0,_=>rfl
 | 1,_=>rfl
 | 2,_=>rfl
 | 3,_=>rfl
 | 4,_=>rfl
 | 5,_=>rfl
 | 6,_=>rfl
 | 7,_=>rfl
 | 8,_=>rfl
 | 9,_=>rfl
theorem tm10 (u:Nat):Int.tmod (u:Int) 10=((u % 10:Nat):Int):=(Int.ofNat_tmod u 10).symm
theorem td10 (u:Nat):Int.tdiv (u:Int) 10=((u / 10:Nat):Int):=(Int.ofNat_tdiv u 10).symm
theorem spec_loop:∀ (u k:Nat) (m:Int) (out:List UInt8),m.natAbs=u->u≠0->u<=9223372036854775808->u < k->out.length+(Lib.decDigits u).length<=1000->(m < 0\/u < 9223372036854775808) →
  g_spec_DecText_l0 k out m=some (Lib.decDigits u++out):=by
 intro u
 induction u using Nat.strongRecOn with
 | _ u ih =>
  intro k m out hm h0 h1 hk ho hr
  obtain ⟨k,rfl⟩:∃ k',k=k'+1:=⟨k-1,by omega⟩
  rw[g_spec_DecText_l0,show (m != 0)=true by simp;omega,cond_true]
  have hd:((cond (decide ((Int.tmod m 10) < 0)) (some (IntKind.wrap .i64 (0-(Int.tmod m 10)))) (some (Int.tmod m 10)):Option Int))=some ((u % 10:Nat):Int):=by
   have h2:Int.tmod m 10=if m < 0 then -((u % 10:Nat):Int) else ((u % 10:Nat):Int):=by
    split
    ·have:m = -(u:Int):=by omega
     rw[this,Int.neg_tmod,tm10]
    ·have:m=(u:Int):=by omega
     rw[this,tm10]
   rw[h2]
   by_cases hneg:m < 0
   ·rw[if_pos hneg]
    by_cases hz:u % 10=0
    ·rw[hz];rfl
    ·rw[decide_eq_true (by omega),cond_true,wI64 (by omega) (by omega)]
     congr 1;omega
   ·rw[if_neg hneg,decide_eq_false (by omega),cond_false]
  have hq:IntKind.wrap .i64 (Int.tdiv m 10)=if m < 0 then -((u / 10:Nat):Int) else ((u / 10:Nat):Int):=by
   split
   ·have:m = -(u:Int):=by omega
    rw[this,Int.neg_tdiv,td10,wI64 (by omega) (by omega)]
   ·have:m=(u:Int):=by omega
    rw[this,td10,wI64 (by omega) (by omega)]
  rw[hd,Option.bind_some,digit (Nat.mod_lt _ (by omega)),Option.bind_some,catS_eq (by simp;omega),Option.bind_some,hq]
  by_cases h10:u < 10
  ·obtain ⟨k,rfl⟩:∃ k',k=k'+1:=⟨k-1,by omega⟩
   rw[Lib.decDigits,dif_pos h10,Nat.div_eq_of_lt h10,Nat.mod_eq_of_lt h10]
   have:(if m < 0 then -((0:Nat):Int) else ((0:Nat):Int))=0:=by split<;>rfl
   rw[this,g_spec_DecText_l0]
   rfl
  ·have hlen:(Lib.decDigits u).length=(Lib.decDigits (u / 10)).length+1:=by
    rw[Lib.decDigits.eq_def u,dif_neg h10];simp
   rw[ih (u / 10) (by omega) k _ _ (by split<;>omega) (by omega) (by omega) (by omega) (by simp;omega) (by split<;>omega)]
   rw[Lib.decDigits.eq_def u,dif_neg h10]
   simp
theorem spec_dec {n:Int} (h0 : -9223372036854775808<=n) (h1:n<=9223372036854775807):g_spec_DecText n=some (Lib.itoa n):=by
 unfold g_spec_DecText
 by_cases hz:n=0
 ·subst hz
  have:Lib.itoa 0=[48]:=by
   unfold Lib.itoa
   rw[if_neg (by omega),Lib.decDigits];rfl
  rw[this];rfl
 ·rw[show (n==0)=false by simp[hz],cond_false,spec_loop n.natAbs bigK n [] rfl (by omega) (by omega) (by unfold bigK;omega) (by have:=dec_len 19 n.natAbs (by omega);simp;omega) (by omega),Option.bind_some]
  unfold Lib.itoa
  have:=dec_len 19 n.natAbs (by omega)
  by_cases hn:n < 0
  ·rw[decide_eq_true hn,cond_true,if_pos hn,catS_eq (by simp;omega)]
   simp
  ·rw[decide_eq_false hn,cond_false,if_neg hn,show n.toNat=n.natAbs by omega]
   simp
end Go.Proofs.YtgfamepnkhpemaaGreatDoor
namespace Go.Proofs.YtgfamepnkhpemaaGreatDoor
open Go Go.Fm
def U32 (xs:List Int):Prop:=∀ x ∈ xs,0<=x/\x < 4294967296
theorem U32.app {xs ys:List Int} (h1:U32 xs) (h2:U32 ys):U32 (xs++ys):=λ x hx=>by
 rcases List.mem_append.1 hx with h|h
 ·exact h1 x h
 ·exact h2 x h
theorem U32.one {x:Int} (h:0<=x/\x < 4294967296):U32 [x]:=λ y hy=>by simp at hy;subst hy;exact h
theorem U32.nil:U32 []:=λ x hx=>by simp at hx
theorem U32.set {xs:List Int} {x:Int} {i:Nat} (h1:U32 xs) (h:0<=x/\x < 4294967296):U32 (xs.set i x):=λ y hy=>by
 rcases List.mem_or_eq_of_mem_set hy with h2|h2
 ·exact h1 y h2
 ·subst h2;exact h
theorem specIn_eq {x a b:Int}:g_spec_l01In x a b=some (decide (a<=x/\x<=b)):=by
 unfold g_spec_l01In
 by_cases h:x ≥ a
 ·rw[decide_eq_true h]
  simp only[cond_true]
  congr 1
  exact decide_eq_decide.2 ⟨λ h2=>⟨h,h2⟩,λ h2=>h2.2⟩
 ·rw[decide_eq_false h]
  simp only[cond_false]
  congr 1
  exact (decide_eq_false λ h2=>h h2.1).symm
theorem specNum_ok {n:Int} {hex:Bool} {s l:Int}:Tot (g_spec_l04Num n hex s l) λ r=>U32 r/\r.length<=2:=by
 unfold g_spec_l04Num
 refine .bind (Q:=λ _=>True) (.cond (λ _=>.some trivial) λ _=>.some trivial) λ a _=>.bind (Q:=λ _=>True) (.condD (λ _=>.some trivial) λ _=>.some trivial) λ b _=>.cond (λ _=>.some ⟨.one (wU32_bd _),by simp⟩) λ _=>.some ⟨?_,by simp⟩
 exact (U32.one (wU32_bd _)).app (.one (wU32_bd _))
theorem specLetterOf_ok {b:Int}:Tot (g_spec_LetterOf b) λ r => -1<=r/\r<=47:=by
 unfold g_spec_LetterOf
 refine .bindE (a:=_) rfl ?_
 have key:∀ (k:Nat) (i:Int),0<=i->i<=48->48-i < k->Tot (g_spec_LetterOf_l0 b [32,114,116,111,101,97,110,105,115,109,99,121,108,103,102,119,100,118,112,98,104,120,117,113,48,49,50,51,52,53,54,55,56,57,106,45,107,46,122,47,59,39,33,43,64,42,44,63] k i)
   λ r=>match r with | .inl _=>True | .inr x=>0<=x/\x<=47:=by
  intro k
  induction k with
  | zero=>intro i h0 h1 h2;omega
  | succ k ih =>
   intro i h0 h1 h2
   unfold g_spec_LetterOf_l0
   refine .condD (λ hi => ?_) λ _=>.some trivial
   have hi:i < 48:=by simpa using hi
   obtain ⟨v,hv,_⟩:=idxS_ex (l:=[32,114,116,111,101,97,110,105,115,109,99,121,108,103,102,119,100,118,112,98,104,120,117,113,48,49,50,51,52,53,54,55,56,57,106,45,107,46,122,47,59,39,33,43,64,42,44,63]) h0 (by simpa using hi)
   refine .bindE hv (.cond (λ _=>.some ⟨h0,by omega⟩) λ _ => ?_)
   rw[wI64 (x:=i+1) (by omega) (by omega)]
   exact ih _ (by omega) (by omega) (by omega)
 refine .bind (Q:=λ r=>match r with | .inl _=>True | .inr x=>0<=x/\x<=47) (.bind (key bigK 0 (by decide) (by decide) (by decide)) λ o ho => ?_) λ o ho => ?_
 ·cases o with
  | inl _=>exact .some trivial
  | inr x=>exact .some ho
 ·cases o with
  | inl _=>exact .some ⟨by decide,by decide⟩
  | inr x=>exact .some ⟨by have:=ho.1;omega,ho.2⟩
theorem specNameOk_ok {s:Bs} (hs:s.length<=1048576):Tot (g_spec_NameOk s) λ r=>r=true->1<=s.length/\s.length<=24:=by
 unfold g_spec_NameOk
 refine .bindE specIn_eq (.cond (λ _=>.some λ h=>nomatch h) λ hc => ?_)
 have hl:1<=s.length/\s.length<=24:=by
  have:(1:Int)<=s.length/\(s.length:Int)<=24:=by simpa using hc
  omega
 have key:∀ (k:Nat) (i:Int),0<=i->i<=s.length->s.length-i < k->Tot (g_spec_NameOk_l0 s k i) λ _=>True:=by
  intro k
  induction k with
  | zero=>intro i h0 h1 h2;omega
  | succ k ih =>
   intro i h0 h1 h2
   unfold g_spec_NameOk_l0
   refine .condD (λ hi => ?_) λ _=>.some trivial
   obtain ⟨v,hv,_⟩:=idxS_ex h0 hi
   refine .bindE hv (.bind specLetterOf_ok λ x hx=>.condD (λ _=>.some trivial) λ _ => ?_)
   rw[wI64 (x:=i+1) (by omega) (by omega)]
   exact ih _ (by omega) (by omega) (by omega)
 refine .bind (Q:=λ _=>True) (.bind (key bigK 0 (by decide) (by omega) (by unfold bigK;omega)) λ o ho => ?_) λ o ho => ?_
 ·cases o<;>exact .some trivial
 ·cases o<;>exact .some λ _=>hl
theorem specWidth_ok {k:Int}:Tot (g_spec_WidthOf k) λ w=>0<=w/\w<=7:=by
 unfold g_spec_WidthOf
 exact .bindE specIn_eq (.cond (λ _=>.some (by decide)) λ _=>.bindE specIn_eq (.cond (λ _=>.some (by decide)) λ _=>.bindE specIn_eq (.cond (λ _=>.some (by decide)) λ _=>.some (by decide))))
theorem specBits_ok {k:Int}:Tot (g_spec_BitsOf k) λ w=>True:=by
 unfold g_spec_BitsOf
 exact .bind specWidth_ok λ _ _=>.cond (λ _=>.some trivial) λ _=>.cond (λ _=>.some trivial) λ _=>.cond (λ _=>.some trivial) λ _=>.some trivial
theorem shl_ok {k:IntKind} {a b:Int} (h:0<=b):Tot (shlI k a b) λ _=>True:=by unfold shlI;rw[if_pos h];exact .some trivial
theorem wU64_nn (x:Int):0<=IntKind.wrap .u64 x:=by simp[IntKind.wrap,IntKind.bits,IntKind.signed];omega
theorem specOne_ok {s:Bs} (hs:1<=s.length/\s.length<=24):Tot (g_spec_l03One s) λ r=>(0<=r.1/\r.1 < 4294967296)/\1<=r.2/\r.2<=s.length:=by
 unfold g_spec_l03One
 have key:∀ (k:Nat) (f left n:Int),0<=n->n<=s.length->0<=left->left<=28->(n=0->left=28)->s.length-n < k->Tot (g_spec_l03One_l0 s k f left n) λ r=>1<=r.2/\r.2<=s.length:=by
  intro k
  induction k with
  | zero=>intro f left n h0 h1 h2 h3 h4 h5;omega
  | succ k ih =>
   intro f left n h0 h1 h2 h3 h4 h5
   unfold g_spec_l03One_l0
   refine .condD (λ hi => ?_) λ hi=>.some ⟨by omega,by omega⟩
   obtain ⟨v,hv,_⟩:=idxS_ex h0 hi
   refine .bindE hv (.bind specLetterOf_ok λ x hx=>.bind specWidth_ok λ w hw=>.condD (λ hc=>.some ⟨?_,by omega⟩) λ hc=>.bind specBits_ok λ b _=>.bind (shl_ok (wU64_nn _)) λ d _ => ?_)
   ·by_cases hn:n=0
    ·have:=h4 hn;omega
    ·show 1<=n;omega
   ·rw[wI64 (x:=n+1) (by omega) (by omega),wI64 (x:=left-w) (by omega) (by omega)]
    exact ih _ _ _ (by omega) (by omega) (by omega) (by omega) (by omega) (by omega)
 exact .bind (key bigK 0 28 0 (by decide) (by omega) (by decide) (by decide) (λ _=>rfl) (by unfold bigK;omega)) λ r hr=>.some ⟨wU32_bd _,hr.1,hr.2⟩
theorem specPack_ok {s:Bs} (hs:s.length<=1048576):Tot (g_spec_Pack s) λ r=>U32 r/\r.length<=24:=by
 unfold g_spec_Pack
 refine .bind (specNameOk_ok hs) λ a ha=>.cond (λ _=>.some ⟨.nil,by simp⟩) λ hc => ?_
 have hl:=ha (by simpa using hc)
 have key:∀ (k:Nat) (x:Bs) (out:List Int),x.length<=24->U32 out->out.length+x.length<=24->x.length < k->Tot (g_spec_Pack_l0 k x out) λ r=>U32 r/\r.length<=24:=by
  intro k
  induction k with
  | zero=>intro x out h0 h1 h2 h3;omega
  | succ k ih =>
   intro x out h0 h1 h2 h3
   unfold g_spec_Pack_l0
   refine .cond (λ hx => ?_) λ _=>.some ⟨h1,by omega⟩
   have hx1:1<=x.length:=by
    have:x≠[]:=by simpa using hx
    have:=List.length_pos_iff.2 this
    omega
   refine .bind (specOne_ok ⟨hx1,h0⟩) λ r hr=>.bindE (app_eq (by simp;omega)) (.bindE (subL_drop (by omega) hr.2.2) ?_)
   have hd:(x.drop r.2.toNat).length=x.length-r.2.toNat:=List.length_drop
   exact ih _ _ (by omega) (h1.app (.one hr.1)) (by rw[List.length_append,hd,List.length_singleton];omega) (by omega)
 exact .bind (key bigK s [] hl.2 .nil (by simp;omega) (by unfold bigK;omega)) λ r hr=>.some hr
theorem specWord_ok {tag:Int} {s:Bs} (hs:s.length<=1048576):Tot (g_spec_l04Word tag s) λ r=>U32 r/\r.length<=24:=by
 unfold g_spec_l04Word
 refine .bind (specPack_ok hs) λ a ha => ?_
 have key:∀ (k:Nat) (out:List Int) (i:Int),U32 out->out.length<=24->0<=i->i<=out.length->out.length-i < k->Tot (g_spec_l04Word_l0 tag k out i) λ r=>U32 r/\r.length<=24:=by
  intro k
  induction k with
  | zero=>intro out i h0 h1 h2 h3 h4;omega
  | succ k ih =>
   intro out i h0 h1 h2 h3 h4
   unfold g_spec_l04Word_l0
   refine .condD (λ hi => ?_) λ _=>.some ⟨h0,h1⟩
   obtain ⟨v,hv,_⟩:=getI_ex h2 hi
   refine .bind (Q:=λ o=>U32 o/\o.length=out.length) (.bindE hv (.bindE hv (.cond (λ _ => ?_) λ _=>.some ⟨h0.set (wU32_bd _),by simp⟩))) λ o ho => ?_
   ·obtain ⟨u,hu,_⟩:=getI_ex (xs:=out.set i.toNat (IntKind.wrap .u32 (v*16))) h2 (by simpa using hi)
    exact .bindE hu (.bindE hu (.some ⟨(h0.set (wU32_bd _)).set (wU32_bd _),by simp⟩))
   ·rw[wI64 (x:=i+1) (by omega) (by omega)]
    exact ih _ _ ho.1 (by omega) (by omega) (by omega) (by omega)
 exact .bind (.bind (key bigK a 0 ha.1 ha.2 (by decide) (by omega) (by unfold bigK;omega)) λ r hr=>.some hr) λ r hr=>.some hr
end Go.Proofs.YtgfamepnkhpemaaGreatDoor
namespace Go.Proofs.YtgfamepnkhpemaaGreatDoor
open Go Go.Fm
theorem orU {a b:Int} (a0:0<=a) (a1:a < 4294967296) (b0:0<=b) (b1:b < 4294967296):orI .u32 a b=((a.toNat ||| b.toNat:Nat):Int):=by
 unfold orI
 rw[BitVec.toNat_or,bB_toNat (k:=.u32) a0 a1,bB_toNat (k:=.u32) b0 b1]
 have:a.toNat ||| b.toNat < 2 ^ 32:=Nat.or_lt_two_pow (by omega) (by omega)
 exact wU32 (Int.natCast_nonneg _) (by omega)
theorem or_low {q r:Nat} (i:Nat) (hr:r < 2 ^ i):(2 ^ i*q) ||| r=2 ^ i*q+r:=(Nat.two_pow_add_eq_or_of_lt hr q).symm
theorem within_eq {x a b:Int}:g_impl_within x a b=some (decide (a<=x/\x<=b)):=by
 unfold g_impl_within
 by_cases h:a<=x
 ·rw[decide_eq_true h]
  simp only[cond_true]
  congr 1
  exact decide_eq_decide.2 ⟨λ h2=>⟨h,h2⟩,λ h2=>h2.2⟩
 ·rw[decide_eq_false h]
  simp only[cond_false]
  congr 1
  exact (decide_eq_false λ h2=>h h2.1).symm
theorem width_ok {k:Int}:Tot (g_impl_WidthOf k) λ w=>0<=w/\w<=7/\(0<=k->k<=47->4<=w):=by
 unfold g_impl_WidthOf
 refine .bindE within_eq (.condD (λ _=>.some (by omega)) λ h1=>.bindE within_eq (.condD (λ _=>.some (by omega)) λ h2=>.bindE within_eq (.condD (λ _=>.some (by omega)) λ h3=>.some (by omega))))
theorem bits_ok {k:Int}:Tot (g_impl_BitsOf k) λ w=>True:=by
 unfold g_impl_BitsOf
 exact .bind width_ok λ _ _=>.cond (λ _=>.some trivial) λ _=>.cond (λ _=>.some trivial) λ _=>.cond (λ _=>.some trivial) λ _=>.some trivial
def Letters:Bs:=[32,114,116,111,101,97,110,105,115,109,99,121,108,103,102,119,100,118,112,98,104,120,117,113,48,49,50,51,52,53,54,55,56,57,106,45,107,46,122,47,59,39,33,43,64,42,44,63]
theorem letters_len:Letters.length=48:=rfl
theorem idxB_bd {l:List UInt8} {c:Int} : -1<=idxB l c/\idxB l c < l.length:=by
 unfold idxB
 cases h:l.findIdx? (λ b=>(b.toNat:Int)==c) with
 | none=>exact ⟨by decide,by show (-1:Int) < _;omega⟩
 | some i =>
  have:=(List.findIdx?_eq_some_iff_getElem.1 h).1
  exact ⟨by show (-1:Int)<=(i:Int);omega,by show (i:Int) < _;omega⟩
theorem letterOf_ok {b:Int} (h0:0<=b) (h1:b < 256):Tot (g_impl_LetterOf b) λ r => -1<=r/\r<=47:=by
 unfold g_impl_LetterOf g_strings_IndexByte g_istringslite_IndexByte g_ibytealg_IndexByteString gIdxB
 refine .bindE (a:=Letters) rfl (.bind (Q:=λ r => -1<=r/\r<=47) (.bind (Q:=λ r => -1<=r/\r<=47) ?_ λ r h=>.some h) λ r h=>.some h)
 refine .bind (Q:=λ r => -1<=r/\r<=47) ?_ λ r h=>.some h
 rw[if_pos ⟨h0,h1⟩]
 refine .some ⟨idxB_bd.1,?_⟩
 have:=(idxB_bd (l:=Letters) (c:=b)).2
 rw[letters_len]at this
 omega
theorem nameOk_ok {s:Bs} (hs:s.length<=1048576):Tot (g_impl_NameOk s) λ r=>r=true->1<=s.length/\s.length<=24:=by
 unfold g_impl_NameOk
 have key:∀ (k:Nat) (i:Int),0<=i->i<=s.length->s.length-i < k->Tot (g_impl_NameOk_l0 s (s.length:Int) k i) λ o=>match o with | .inl _=>True | .inr v=>v=false:=by
  intro k
  induction k with
  | zero=>intro i h0 h1 h2;omega
  | succ k ih =>
   intro i h0 h1 h2
   unfold g_impl_NameOk_l0
   refine .condD (λ hi => ?_) λ _=>.some trivial
   obtain ⟨v,hv,v0,v1,_⟩:=idxS_ex h0 hi
   refine .bindE hv (.bind (letterOf_ok v0 v1) λ x hx=>.condD (λ _=>.some rfl) λ _ => ?_)
   rw[wI64 (x:=i+1) (by omega) (by omega)]
   exact ih _ (by omega) (by omega) (by omega)
 refine .bind (Q:=λ o:Unit ⊕ Bool=>match o with | .inl _=>True | .inr v=>v=false) (.bind (key bigK 0 (by decide) (by omega) (by unfold bigK;omega)) λ o ho => ?_) λ o ho => ?_
 ·cases o with
  | inl _=>exact .some trivial
  | inr v=>exact .some ho
 ·cases o with
  | inl _=>exact .bindE within_eq (.some λ h=>by have:=of_decide_eq_true h;omega)
  | inr v=>exact .some λ h=>by rw[show v=false from ho]at h;cases h
theorem packOne_ok {s:Bs} (hs:s.length<=1048576):Tot (g_impl_PackOne s) λ r=>(0<=r.1/\r.1 < 4294967296)/\0<=r.2/\r.2<=s.length/\(g_impl_NameOk s=some true->1<=r.2):=by
 unfold g_impl_PackOne
 obtain ⟨b,hb,hl⟩:=nameOk_ok hs
 rw[hb]
 refine .bindE rfl (.cond (λ hc=>.some ⟨by decide,by decide,by show (0:Int)<=_;omega,λ h=>by cases h;cases hc⟩) λ hc => ?_)
 have hb1:b=true:=by simpa using hc
 have hs1:=hl hb1
 have key:∀ (k:Nat) (f left many n:Int),0<=n->n<=s.length->0<=left->left<=28->(n=0->left=28)->many=n->(0<=f/\f < 4294967296)->s.length-n < k →
   Tot (g_impl_PackOne_l0 s (s.length:Int) k f left many n) λ r=>(0<=r.1/\r.1 < 4294967296)/\1<=r.2/\r.2<=s.length:=by
  intro k
  induction k with
  | zero=>intro f left many n h0 h1 h2 h3 h4 h5 h6 h7;omega
  | succ k ih =>
   intro f left many n h0 h1 h2 h3 h4 h5 h6 h7
   unfold g_impl_PackOne_l0
   refine .condD (λ hi => ?_) λ hi=>.some ⟨h6,by show 1<=many;omega,by show many<=_;omega⟩
   obtain ⟨v,hv,v0,v1,_⟩:=idxS_ex h0 hi
   refine .bindE hv (.bind (letterOf_ok v0 v1) λ x hx => ?_)
   obtain ⟨w,hw,hw0,hw1,_⟩:=width_ok (k:=x)
   refine .bindE hw (.condD (λ hc=>.some ⟨h6,?_,by show many<=_;omega⟩) λ hc=>.bindE hw (.bind bits_ok λ b _ => ?_))
   ·show 1<=many
    by_cases hn:n=0
    ·have:=h4 hn;omega
    ·omega
   ·rw[wI64 (x:=n+1) (by omega) (by omega),wI64 (x:=left-w) (by omega) (by omega),wI64 (x:=many+1) (by omega) (by omega)]
    refine .bind (shl_ok (by omega)) λ d _=>ih _ _ _ _ (by omega) (by omega) (by omega) (by omega) (by omega) (by omega) (wU32_bd _) (by omega)
 refine .bind (Q:=λ r:Int×Int=>(0<=r.1/\r.1 < 4294967296)/\1<=r.2/\r.2<=s.length) (.bind (key bigK 0 28 0 0 (by decide) (by omega) (by decide) (by decide) (λ _=>rfl) rfl (by decide) (by unfold bigK;omega)) λ r hr=>.some hr) λ r hr=>.some ⟨hr.1,by have:=hr.2.1;show 0<=r.2;omega,hr.2.2,λ _=>hr.2.1⟩
theorem pack_ok {s:Bs} (hs:s.length<=1048576):Tot (g_impl_Pack s) λ r=>U32 r/\r.length<=24:=by
 unfold g_impl_Pack
 have key:∀ (k:Nat) (x:Bs) (out:List Int),x.length<=1048576->U32 out->(out=[]\/out.length+x.length<=24)->x.length < k->Tot (g_impl_Pack_l0 k x out) λ r=>U32 r/\r.length<=24:=by
  intro k
  induction k with
  | zero=>intro x out h0 h1 h2 h3;omega
  | succ k ih =>
   intro x out h0 h1 h2 h3
   unfold g_impl_Pack_l0
   obtain ⟨b,hb,hl⟩:=nameOk_ok h0
   have ho:out.length<=24:=by
    rcases h2 with rfl|h2
    ·simp
    ·omega
   refine .bindE hb (.cond (λ hc => ?_) λ _=>.some ⟨h1,ho⟩)
   subst hc
   have hx:=hl rfl
   have h2':out.length+x.length<=24:=by
    rcases h2 with rfl|h2
    ·simpa using hx.2
    ·exact h2
   refine .bind (packOne_ok h0) λ r hr=>.bindE (app_eq (by simp;omega)) (.bindE (subL_drop hr.2.1 hr.2.2.1) ?_)
   have h4:=hr.2.2.2 hb
   have hd:(x.drop r.2.toNat).length=x.length-r.2.toNat:=List.length_drop
   exact ih _ _ (by omega) (h1.app (.one hr.1)) (.inr (by rw[List.length_append,hd,List.length_singleton];omega)) (by omega)
 exact .bind (key bigK s [] hs .nil (.inl rfl) (by unfold bigK;omega)) λ r hr=>.some hr
end Go.Proofs.YtgfamepnkhpemaaGreatDoor
namespace Go.Proofs.YtgfamepnkhpemaaGreatDoor
open Go Go.Fm
theorem letterOf_all:(List.range 256).all (λ b=>g_spec_LetterOf (b:Int)==g_impl_LetterOf (b:Int))=true:=by kernel_rfl
theorem letterOf_eq {b:Int} (h0:0<=b) (h1:b < 256):g_spec_LetterOf b=g_impl_LetterOf b:=by
 have h:=List.all_eq_true.1 letterOf_all b.toNat (List.mem_range.2 (by omega))
 rw[Int.toNat_of_nonneg h0]at h
 exact eq_of_beq h
theorem width_eq {k:Int}:g_spec_WidthOf k=g_impl_WidthOf k:=by
 unfold g_spec_WidthOf g_impl_WidthOf;simp only[specIn_eq,within_eq,Option.bind_some]
theorem bits_all:(List.range 49).all (λ b=>g_spec_BitsOf ((b:Int)-1)==g_impl_BitsOf ((b:Int)-1))=true:=by kernel_rfl
theorem bits_eq {k:Int} (h0 : -1<=k) (h1:k<=47):g_spec_BitsOf k=g_impl_BitsOf k:=by
 have h:=List.all_eq_true.1 bits_all (k+1).toNat (List.mem_range.2 (by omega))
 rw[Int.toNat_of_nonneg (by omega),show k+1-1=k by omega]at h
 exact eq_of_beq h
theorem wb_all:(List.range 48).all (λ b=>match g_impl_WidthOf (b:Int),g_impl_BitsOf (b:Int) with|some w,some c=>decide (4<=w/\w<=7/\0<=c/\c < 2 ^ w.toNat)|_,_=>false)=true:=by kernel_rfl
theorem wb {k:Int} (h0:0<=k) (h1:k<=47):∃ w c,g_impl_WidthOf k=some w/\g_impl_BitsOf k=some c/\4<=w/\w<=7/\0<=c/\c < 2 ^ w.toNat:=by
 have h:=List.all_eq_true.1 wb_all k.toNat (List.mem_range.2 (by omega))
 rw[Int.toNat_of_nonneg h0]at h
 split at h
 ·rename_i w c hw hc;exact ⟨w,c,hw,hc,of_decide_eq_true h⟩
 ·cases h
theorem pw (n:Nat):(0:Int) < 2 ^ n:=Int.pow_pos (by decide)
theorem pwN (n:Nat):((2 ^ n:Nat):Int)=(2:Int) ^ n:=by simp
theorem pw_le {a b:Nat} (h:a<=b):(2:Int) ^ a<=2 ^ b:=by
 have:=Nat.pow_le_pow_right (n:=2) (by decide) h
 rw[<-pwN,<-pwN];omega
theorem shl_eq {k:IntKind} {a n:Int} (h0:0<=n) (h1:n<=32) (hk:32<=k.bits):shlI k a n=some (k.wrap (a*2 ^ n.toNat)):=by
 unfold shlI
 rw[if_pos h0,show min n.toNat k.bits=n.toNat by omega]
theorem and_mask {k:IntKind} {a:Int} {n:Nat} (h0:0<=a) (h1:a < 2 ^ k.bits) (hn:n < k.bits):andI k a (2 ^ n-1)=a % 2 ^ n:=by
 unfold andI
 have hp:=pw n
 have hb:(2:Int) ^ n-1 < 2 ^ k.bits:=by have:=pw_le (a:=n) (b:=k.bits) (by omega);omega
 rw[BitVec.toNat_and,bB_toNat h0 h1,bB_toNat (by omega) hb]
 have e:((2:Int) ^ n-1).toNat=2 ^ n-1:=by rw[<-pwN];omega
 rw[e,Nat.and_two_pow_sub_one_eq_mod,Go.Fm.wrap_small]
 ·rw[Int.natCast_emod,pwN,Int.toNat_of_nonneg h0]
 ·refine Nat.lt_of_lt_of_le (Nat.mod_lt _ (Nat.two_pow_pos n)) (Nat.pow_le_pow_right (by decide) (by omega))
def good (b:UInt8):Bool:=match g_impl_LetterOf (b.toNat:Int) with|some k=>decide (1<=k)|none=>false
theorem good_of {b:UInt8} {k:Int} (h:g_impl_LetterOf (b.toNat:Int)=some k):good b=decide (1<=k):=by unfold good;rw[h]
theorem idxS_nat {s:List UInt8} {n:Nat} (h:n < s.length):idxS s (n:Int)=some ((s[n].toNat:Nat):Int):=by
 unfold idxS
 rw[if_pos ⟨by omega,by omega⟩,Int.toNat_natCast,List.getD_eq_getElem?_getD,List.getElem?_eq_getElem h]
 rfl
theorem specNameOk_l0 {s:Bs} (hs:s.length<=1048576):∀ (k n:Nat),n<=s.length->s.length-n < k->g_spec_NameOk_l0 s k n=some (if (s.drop n).all good then .inl () else .inr false):=by
 intro k
 induction k with
 | zero=>intro n h0 h1;omega
 | succ k ih =>
  intro n h0 h1
  unfold g_spec_NameOk_l0
  by_cases hn:n < s.length
  ·have hb:=UInt8.toNat_lt s[n]
   obtain ⟨x,hx,x0,x1⟩:=letterOf_ok (b:=(s[n].toNat:Int)) (by omega) (by omega)
   rw[decide_eq_true (by omega),idxS_nat hn,List.drop_eq_getElem_cons hn,List.all_cons,good_of hx]
   simp only[cond_true,Option.bind_some,letterOf_eq (b:=(s[n].toNat:Int)) (by omega) (by omega),hx]
   by_cases hc:x < 1
   ·rw[decide_eq_true hc,decide_eq_false (p:=1<=x) (by omega)];rfl
   ·rw[decide_eq_false hc,decide_eq_true (p:=1<=x) (by omega),cond_false,wI64 (by omega) (by omega),show ((n:Int)+1)=((n+1:Nat):Int) by omega,ih (n+1) (by omega) (by omega),Bool.true_and]
  ·rw[decide_eq_false (by omega),List.drop_eq_nil_of_le (by omega)];rfl
theorem implNameOk_l0 {s:Bs} (hs:s.length<=1048576):∀ (k n:Nat),n<=s.length->s.length-n < k->g_impl_NameOk_l0 s (s.length:Int) k n=some (if (s.drop n).all good then .inl () else .inr false):=by
 intro k
 induction k with
 | zero=>intro n h0 h1;omega
 | succ k ih =>
  intro n h0 h1
  unfold g_impl_NameOk_l0
  by_cases hn:n < s.length
  ·have hb:=UInt8.toNat_lt s[n]
   obtain ⟨x,hx,x0,x1⟩:=letterOf_ok (b:=(s[n].toNat:Int)) (by omega) (by omega)
   rw[decide_eq_true (by omega),idxS_nat hn,List.drop_eq_getElem_cons hn,List.all_cons,good_of hx]
   simp only[cond_true,Option.bind_some,hx]
   by_cases hc:x < 1
   ·rw[decide_eq_true hc,decide_eq_false (p:=1<=x) (by omega)];rfl
   ·rw[decide_eq_false hc,decide_eq_true (p:=1<=x) (by omega),cond_false,wI64 (by omega) (by omega),show ((n:Int)+1)=((n+1:Nat):Int) by omega,ih (n+1) (by omega) (by omega),Bool.true_and]
  ·rw[decide_eq_false (by omega),List.drop_eq_nil_of_le (by omega)];rfl
def named (s:Bs):Bool:=s.all good&&decide (1<=s.length/\s.length<=24)
theorem implNameOk {s:Bs} (hs:s.length<=1048576):g_impl_NameOk s=some (named s):=by
 unfold g_impl_NameOk named
 have h:=implNameOk_l0 hs bigK 0 (Nat.zero_le _) (by unfold bigK;omega)
 rw[show ((0:Nat):Int)=0 from rfl]at h
 rw[h,List.drop_zero,within_eq]
 cases s.all good with
 | false=>rfl
 | true =>
  simp only[if_true,Option.bind_some,Bool.true_and]
  congr 1
  exact decide_eq_decide.2 (by omega)
theorem specNameOk {s:Bs} (hs:s.length<=1048576):g_spec_NameOk s=some (named s):=by
 unfold g_spec_NameOk named
 have h:=specNameOk_l0 hs bigK 0 (Nat.zero_le _) (by unfold bigK;omega)
 rw[show ((0:Nat):Int)=0 from rfl]at h
 rw[h,List.drop_zero,specIn_eq]
 have e:decide ((1:Int)<=s.length/\(s.length:Int)<=24)=decide (1<=s.length/\s.length<=24):=decide_eq_decide.2 (by omega)
 rw[e]
 cases decide (1<=s.length/\s.length<=24)<;>cases s.all good<;>rfl
theorem packOne_l0_eq {s:Bs} (hg:s.all good=true) (hs:s.length<=24):∀ (k:Nat) (q:Nat) (left n:Nat),n<=s.length->left<=28->q < 2 ^ (28-left) →
  g_spec_l03One_l0 s k ((2 ^ left*q:Nat):Int) left n=g_impl_PackOne_l0 s (s.length:Int) k ((2 ^ left*q:Nat):Int) left n n:=by
 intro k
 induction k with
 | zero=>intro q left n _ _ _;rfl
 | succ k ih =>
  intro q left n h0 h1 h2
  unfold g_spec_l03One_l0 g_impl_PackOne_l0
  by_cases hn:n < s.length
  ·have hb:=UInt8.toNat_lt s[n]
   obtain ⟨x,hx,x0,x1⟩:=letterOf_ok (b:=(s[n].toNat:Int)) (by omega) (by omega)
   have hgn:good s[n]=true:=List.all_eq_true.1 hg _ (List.getElem_mem hn)
   rw[good_of hx]at hgn
   have hx1:1<=x:=of_decide_eq_true hgn
   obtain ⟨w,c,hw,hc,w0,w1,c0,c1⟩:=wb (k:=x) (by omega) x1
   rw[decide_eq_true (by omega),idxS_nat hn]
   simp only[cond_true,Option.bind_some,letterOf_eq (b:=(s[n].toNat:Int)) (by omega) (by omega),hx,width_eq,hw,bits_eq (show -1<=x by omega) x1,hc]
   by_cases hl:w > (left:Int)
   ·rw[decide_eq_true hl];rfl
   ·rw[decide_eq_false hl]
    obtain ⟨W,rfl⟩:=Int.eq_ofNat_of_zero_le (show 0<=w by omega)
    obtain ⟨c',rfl⟩:=Int.eq_ofNat_of_zero_le c0
    simp only[Int.ofNat_eq_natCast,Int.toNat_natCast]at *
    have hWl:W<=left:=by omega
    have hc7:c' < 2 ^ W:=by rw[<-pwN]at c1;omega
    have p7:2 ^ W<=2 ^ 7:=Nat.pow_le_pow_right (by decide) (by omega)
    have eL:(left:Int)-(W:Int)=((left-W:Nat):Int):=by omega
    have hN:(c':Int)*2 ^ (left-W)=((c'*2 ^ (left-W):Nat):Int):=by rw[<-pwN,Int.natCast_mul]
    have e1:2 ^ left=2 ^ (left-W)*2 ^ W:=by rw[<-Nat.pow_add,show left-W+W=left by omega]
    have hlt:c'*2 ^ (left-W) < 2 ^ left:=by
     rw[e1,Nat.mul_comm (2 ^ (left-W))]
     exact Nat.mul_lt_mul_of_pos_right hc7 (Nat.two_pow_pos _)
    have p28:2 ^ left<=2 ^ 28:=Nat.pow_le_pow_right (by decide) h1
    have hf:2 ^ left*q < 2 ^ 28:=by
     have:2 ^ 28=2 ^ left*2 ^ (28-left):=by rw[<-Nat.pow_add,show left+(28-left)=28 by omega]
     rw[this]
     exact Nat.mul_lt_mul_of_pos_left h2 (Nat.two_pow_pos _)
    have hor:orI .u32 ((2 ^ left*q:Nat):Int) ((c'*2 ^ (left-W):Nat):Int)=((2 ^ left*q+c'*2 ^ (left-W):Nat):Int):=by
     rw[orU (by omega) (by omega) (by omega) (by omega),Int.toNat_natCast,Int.toNat_natCast,or_low left hlt]
    have hnew:2 ^ left*q+c'*2 ^ (left-W)=2 ^ (left-W)*(2 ^ W*q+c'):=by
     rw[e1,Nat.mul_add,Nat.mul_assoc,Nat.mul_comm c']
    have hq:2 ^ W*q+c' < 2 ^ (28-(left-W)):=by
     have e2:2 ^ (28-(left-W))=2 ^ W*2 ^ (28-left):=by rw[<-Nat.pow_add,show W+(28-left)=28-(left-W) by omega]
     rw[e2]
     calc 2 ^ W*q+c' < 2 ^ W*q+2 ^ W:=by omega
      _=2 ^ W*(q+1):=by rw[Nat.mul_add,Nat.mul_one]
      _<=2 ^ W*2 ^ (28-left):=Nat.mul_le_mul_left _ h2
    have hsum:((2 ^ left*q:Nat):Int)+((c'*2 ^ (left-W):Nat):Int)=((2 ^ (left-W)*(2 ^ W*q+c'):Nat):Int):=by rw[<-hnew];omega
    have hbd:2 ^ (left-W)*(2 ^ W*q+c') < 2 ^ 29:=by rw[<-hnew];omega
    rw[eL,wI64 (x:=((left-W:Nat):Int)) (by omega) (by omega),wU64 (x:=((left-W:Nat):Int)) (by omega) (by omega),shl_eq (by omega) (by omega) (by decide),shl_eq (by omega) (by omega) (by decide),wI64 (x:=(c':Int)) (by omega) (by omega)]
    simp only[Int.toNat_natCast,hN,cond_false,Option.bind_some]
    rw[wI64 (x:=((c'*2 ^ (left-W):Nat):Int)) (by omega) (by omega),wU32 (x:=((c'*2 ^ (left-W):Nat):Int)) (by omega) (by omega),hor,hsum,hnew,wI64 (by omega) (by omega),wI64 (by omega) (by omega),show ((n:Int)+1)=((n+1:Nat):Int) by omega]
    exact ih _ _ _ (by omega) (by omega) hq
  ·rw[decide_eq_false (by omega)];rfl
theorem named_len {s:Bs} (h:named s=true):s.all good=true/\1<=s.length/\s.length<=24:=by
 unfold named at h
 rw[Bool.and_eq_true]at h
 exact ⟨h.1,of_decide_eq_true h.2⟩
theorem packOne_eq {s:Bs} (h:named s=true):g_spec_l03One s=g_impl_PackOne s:=by
 obtain ⟨hg,_,hl⟩:=named_len h
 have hp:=packOne_ok (s:=s) (by omega)
 unfold g_impl_PackOne at hp ⊢
 unfold g_spec_l03One
 rw[implNameOk (by omega),h]at hp ⊢
 have e:=packOne_l0_eq hg hl bigK 0 28 0 (Nat.zero_le _) (by decide) (by decide)
 simp only[Nat.mul_zero,Int.natCast_zero]at e
 have e':g_spec_l03One_l0 s bigK 0 28 0=g_impl_PackOne_l0 s (s.length:Int) bigK 0 28 0 0:=e
 rw[e']
 simp only[Option.bind_some,Bool.not_true,cond_false]at hp ⊢
 obtain ⟨r,hr,hb,_⟩:=hp
 cases hq:g_impl_PackOne_l0 s (s.length:Int) bigK 0 28 0 0 with
 | none=>rw[hq]at hr;cases hr
 | some p =>
  rw[hq]at hr
  simp only[Option.bind_some,Option.some.injEq]at hr ⊢
  subst hr
  rw[wU32 hb.1 hb.2]
theorem all_drop {s:Bs} (h:s.all good=true) (n:Nat):(s.drop n).all good=true :=
 List.all_eq_true.2 λ x hx=>List.all_eq_true.1 h x (List.mem_of_mem_drop hx)
theorem pack_l0_eq:∀ (k:Nat) (s:Bs) (out:List Int),s.all good=true->s.length<=24->g_spec_Pack_l0 k s out=g_impl_Pack_l0 k s out:=by
 intro k
 induction k with
 | zero=>intro s out _ _;rfl
 | succ k ih =>
  intro s out hg hl
  unfold g_spec_Pack_l0 g_impl_Pack_l0
  rw[implNameOk (by omega)]
  cases hn:named s with
  | false =>
   have:s=[]:=by
    unfold named at hn
    rw[hg,Bool.true_and]at hn
    have:=of_decide_eq_false hn
    exact List.eq_nil_of_length_eq_zero (by omega)
   subst this
   rfl
  | true =>
   have h1:=named_len hn
   have:(s != [])=true:=by
    cases s with
    | nil=>simp at h1
    | cons _ _=>rfl
   rw[this,packOne_eq hn]
   simp only[cond_true,Option.bind_some]
   obtain ⟨r,hr,_,r0,r1,_⟩:=packOne_ok (s:=s) (by omega)
   rw[hr]
   simp only[Option.bind_some]
   cases app out [r.1] with
   | none=>rfl
   | some o =>
    simp only[Option.bind_some]
    rw[subL_drop r0 r1]
    simp only[Option.bind_some]
    exact ih _ _ (all_drop hg _) (by rw[List.length_drop];omega)
theorem pack_eq {s:Bs} (hs:s.length<=1048576):g_spec_Pack s=g_impl_Pack s:=by
 unfold g_spec_Pack g_impl_Pack
 rw[specNameOk hs]
 cases hn:named s with
 | false =>
  simp only[Option.bind_some,Bool.not_false,cond_true]
  rw[show bigK=18446744073709551615+1 from rfl]
  unfold g_impl_Pack_l0
  rw[implNameOk hs,hn]
  rfl
 | true =>
  have h1:=named_len hn
  simp only[Option.bind_some,Bool.not_true,cond_false]
  rw[pack_l0_eq _ _ _ h1.1 h1.2.2]
end Go.Proofs.YtgfamepnkhpemaaGreatDoor
namespace Go.Proofs.YtgfamepnkhpemaaGreatDoor
open Go Go.Fm
def hexC (d:Nat):UInt8:=UInt8.ofNat (if d < 10 then 48+d else 87+d)
def hexD (u:Nat):List UInt8:=if h:u < 16 then [hexC u] else hexD (u / 16)++[hexC (u % 16)]
termination_by u
decreasing_by omega
theorem hdigit {d:Nat} (h:d < 16):subL ([48,49,50,51,52,53,54,55,56,57,97,98,99,100,101,102]:List UInt8) (d:Int) (IntKind.wrap .i64 ((d:Int)+1))=some [hexC d]:=by
 match d,h with
 | 0,_=>rfl
 | 1,_=>rfl
 | 2,_=>rfl
 | 3,_=>rfl
 | 4,_=>rfl
 | 5,_=>rfl
 | 6,_=>rfl
 | 7,_=>rfl
 | 8,_=>rfl
 | 9,_=>rfl
 | 10,_=>rfl
 | 11,_=>rfl
 | 12,_=>rfl
 | 13,_=>rfl
 | 14,_=>rfl
 | 15,_=>rfl
 | n+16,h=>exact absurd h (by omega)
theorem hidx {d:Nat} (h:d < 16):idxS ([48,49,50,51,52,53,54,55,56,57,97,98,99,100,101,102,103,104,105,106,107,108,109,110,111,112,113,114,115,116,117,118,119,120,121,122]:List UInt8) (d:Int)=some ((hexC d).toNat:Int):=by
 match d,h with
 | 0,_=>rfl
 | 1,_=>rfl
 | 2,_=>rfl
 | 3,_=>rfl
 | 4,_=>rfl
 | 5,_=>rfl
 | 6,_=>rfl
 | 7,_=>rfl
 | 8,_=>rfl
 | 9,_=>rfl
 | 10,_=>rfl
 | 11,_=>rfl
 | 12,_=>rfl
 | 13,_=>rfl
 | 14,_=>rfl
 | 15,_=>rfl
 | n+16,h=>exact absurd h (by omega)
theorem tm16 (u:Nat):Int.tmod (u:Int) 16=((u % 16:Nat):Int):=(Int.ofNat_tmod u 16).symm
theorem td16 (u:Nat):Int.tdiv (u:Int) 16=((u / 16:Nat):Int):=(Int.ofNat_tdiv u 16).symm
theorem hexD_len:∀ (k u:Nat),u < 16 ^ (k+1)->(hexD u).length<=k+1:=by
 intro k
 induction k with
 | zero=>intro u h;rw[hexD,dif_pos (by omega)];simp
 | succ k ih =>
  intro u h
  rw[hexD]
  split
  ·simp
  ·have:=ih (u / 16) (by rw[Nat.div_lt_iff_lt_mul (by omega)];rw[Nat.pow_succ]at h;omega)
   simp;omega
theorem specHex_loop:∀ (u k:Nat) (out:List UInt8),u≠0->u < 4294967296->u < k->out.length+(hexD u).length<=1000->g_spec_HexText_l0 k out (u:Int)=some (hexD u++out):=by
 intro u
 induction u using Nat.strongRecOn with
 | _ u ih =>
  intro k out h0 h1 hk ho
  obtain ⟨k,rfl⟩:∃ k',k=k'+1:=⟨k-1,by omega⟩
  rw[g_spec_HexText_l0,decide_eq_true (by omega),cond_true,tm16,hdigit (Nat.mod_lt _ (by omega)),Option.bind_some,catS_eq (by simp;omega),Option.bind_some,td16,wI64 (by omega) (by omega)]
  by_cases h16:u < 16
  ·obtain ⟨k,rfl⟩:∃ k',k=k'+1:=⟨k-1,by omega⟩
   rw[hexD,dif_pos h16,Nat.div_eq_of_lt h16,Nat.mod_eq_of_lt h16,g_spec_HexText_l0]
   rfl
  ·have hlen:(hexD u).length=(hexD (u / 16)).length+1:=by
    rw[hexD.eq_def u,dif_neg h16];simp
   rw[ih (u / 16) (by omega) k _ (by omega) (by omega) (by omega) (by simp;omega),hexD.eq_def u,dif_neg h16]
   simp
theorem spec_hex {n:Int} (h0:0<=n) (h1:n < 4294967296):g_spec_HexText n=some (hexD n.toNat):=by
 unfold g_spec_HexText
 by_cases hz:n=0
 ·subst hz
  rw[hexD,dif_pos (by decide)];rfl
 ·have hl:=hexD_len 7 n.toNat (by omega)
  have:=specHex_loop n.toNat bigK [] (by omega) (by omega) (by unfold bigK;omega) (by simp;omega)
  rw[show ((n.toNat:Nat):Int)=n by omega]at this
  rw[show (n==0)=false by simp[hz],cond_false,wI64 (by omega) (by omega),this]
  simp
def hexI (u:Nat):List Int:=(hexD u).map λ b=>(b.toNat:Int)
theorem drop_set_at {α:Type} {p:List α} {n:Nat} {x:α} (h:n < p.length):(p.set n x).drop n=x::p.drop (n+1):=by
 rw[List.drop_eq_getElem_cons (by simpa using h),List.getElem_set_self,List.drop_set_of_lt (by omega)]
theorem hex_loop:∀ (d u k i:Nat) (p:List Int),u < 16 ^ (d+1)->u < 4294967296->d+1<=i->i<=65->p.length=65->d < k →
  ∃ (u' i':Nat) (p':List Int),g_istrconv_formatBits_l0 4 16 15 k (u:Int) (i:Int) p=some ((u':Int),(i':Int),p')/\u' < 16/\1<=i'/\i'<=65/\p'.length=65/\hexI u++p.drop i=((hexC u').toNat:Int)::p'.drop i':=by
 intro d
 induction d with
 | zero =>
  intro u k i p hu _ hi hi2 hp hk
  obtain ⟨k,rfl⟩:∃ k',k=k'+1:=⟨k-1,by omega⟩
  rw[g_istrconv_formatBits_l0,decide_eq_false (by omega),cond_false]
  refine ⟨u,i,p,rfl,by omega,hi,hi2,hp,?_⟩
  unfold hexI
  rw[hexD,dif_pos (by omega)];rfl
 | succ d ih =>
  intro u k i p hu hu2 hi hi2 hp hk
  obtain ⟨k,rfl⟩:∃ k',k=k'+1:=⟨k-1,by omega⟩
  rw[g_istrconv_formatBits_l0]
  by_cases h16:u < 16
  ·rw[decide_eq_false (by omega),cond_false]
   refine ⟨u,i,p,rfl,by omega,by omega,hi2,hp,?_⟩
   unfold hexI
   rw[hexD,dif_pos (by omega)];rfl
  ·have hm:andI .u64 (u:Int) 15=((u % 16:Nat):Int):=by
    have:=and_mask (k:=.u64) (a:=(u:Int)) (n:=4) (by omega) (by show (u:Int) < 2 ^ 64;omega) (by decide)
    rw[show ((2:Int) ^ 4-1)=15 from rfl]at this
    rw[this];omega
   rw[decide_eq_true (by omega),cond_true,hm,hidx (Nat.mod_lt _ (by omega)),Option.bind_some,hp]
   rw[show chk (Nat.beq 65 65)=some () from rfl,Option.bind_some,wI64 (by omega) (by omega),show (i:Int)-1=((i-1:Nat):Int) by omega,getI_nat,List.getElem?_eq_getElem (by omega),Option.bind_some]
   rw[show shrI .u64 (u:Int) 4=some ((u / 16:Nat):Int) by
    unfold shrI
    rw[if_pos (by decide),show min (Int.toNat 4) (IntKind.bits .u64)=4 from rfl]
    congr 1]
   rw[Option.bind_some]
   obtain ⟨u',i',p',g1,g2,g3,g4,g5,g6⟩:=ih (u / 16) k (i-1) (p.set (i-1) ((hexC (u % 16)).toNat:Int)) (by rw[Nat.div_lt_iff_lt_mul (by omega)];rw[Nat.pow_succ]at hu;omega) (by omega) (by omega) (by omega) (by simpa using hp) (by omega)
   refine ⟨u',i',p',g1,g2,g3,g4,g5,?_⟩
   rw[<-g6,drop_set_at (by omega),show i-1+1=i by omega]
   unfold hexI
   rw[hexD.eq_def u,dif_neg h16]
   simp
theorem bytes_back:∀ (l:List UInt8),strOf (l.map λ b=>(b.toNat:Int))=l
 | []=>rfl
 | b::r=>by
  have:=bytes_back r
  unfold strOf at this ⊢
  simp only[List.map_cons]
  rw[this]
  congr 1
  simp
theorem impl_hex {n:Int} (h0:0<=n) (h1:n < 4294967296):g_impl_HexText n=some (hexD n.toNat):=by
 unfold g_impl_HexText g_strconv_FormatUint g_istrconv_FormatUint
 rw[wU64 h0 (by omega),show ((16:Int)==10)=false from rfl,cond_false]
 unfold g_istrconv_formatBits
 rw[show (decide ((16:Int) < 2))=false from rfl,show ((16:Int)==10)=false from rfl,show (decide ((16:Int) > 36))=false from rfl,
  show g_istrconv_isPowerOfTwo 16=some true by kernel_rfl,show g_math_bits_TrailingZeros (IntKind.wrap .u64 16)=some 4 by kernel_rfl]
 simp only[cond_true,cond_false,Option.bind_some]
 rw[show IntKind.wrap .u64 4=4 from rfl,show IntKind.wrap .u64 (IntKind.wrap .u64 16-1)=15 from rfl,show IntKind.wrap .u64 16=16 from rfl]
 obtain ⟨u',i',p',g1,g2,g3,g4,g5,g6⟩:=hex_loop 7 n.toNat bigK 65 (zB 65) (by omega) (by omega) (by omega) (by omega) rfl (by unfold bigK;omega)
 rw[show ((n.toNat:Nat):Int)=n by omega,show ((65:Nat):Int)=65 from rfl]at g1
 rw[g1]
 have hx:=hidx g2
 simp only[Option.bind_some]at hx ⊢
 rw[hx]
 simp only[Option.bind_some]
 rw[g5,show chk (Nat.beq 65 65)=some () from rfl]
 simp only[Option.bind_some]
 rw[wI64 (by omega) (by omega),show (i':Int)-1=((i'-1:Nat):Int) by omega,getI_nat,List.getElem?_eq_getElem (by omega)]
 simp only[Option.bind_some,Int.toNat_natCast]
 rw[List.length_set,g5,show chk (Nat.beq 65 65)=some () from rfl]
 simp only[Option.bind_some]
 have hl:(p'.set (i'-1) ((hexC u').toNat:Int)).length=65:=by simpa using g5
 rw[subL_eq (by omega) (by omega) (by rw[hl];omega)]
 simp only[Option.bind_some,Int.toNat_natCast]
 rw[drop_set_at (by omega),show i'-1+1=i' by omega,<-g6,List.take_of_length_le (by rw[g6,List.length_cons,List.length_drop];omega),List.drop_eq_nil_of_le (by exact Nat.le_refl _),List.append_nil]
 exact congrArg some (bytes_back _)
end Go.Proofs.YtgfamepnkhpemaaGreatDoor
namespace Go.Proofs.YtgfamepnkhpemaaGreatDoor
open Go Go.Fm
theorem uofNat {d:Nat} (h:d < 256):(UInt8.ofNat d).toNat=d:=by
 simp only[UInt8.toNat_ofNat'];omega
theorem wU8 {x:Int} (h1:0<=x) (h2:x < 256):IntKind.wrap .u8 x=x:=by
 simp[IntKind.wrap,IntKind.bits,IntKind.signed];omega
theorem idxS_at {s:List UInt8} {i:Nat} {b:UInt8} (h:s[i]? = some b):idxS s (i:Int)=some (b.toNat:Int):=by
 obtain ⟨hi,rfl⟩:=List.getElem?_eq_some_iff.mp h
 exact idxS_nat hi
theorem l01In_eq (x a b:Int):g_spec_l01In x a b=some (decide (a<=x/\x<=b)):=by
 unfold g_spec_l01In
 by_cases h:x ≥ a
 ·rw[decide_eq_true h,cond_true]
  congr 1
  by_cases h2:x<=b
  ·rw[decide_eq_true h2,decide_eq_true ⟨h,h2⟩]
  ·rw[decide_eq_false h2,decide_eq_false (λ q=>h2 q.2)]
 ·rw[decide_eq_false h,cond_false,decide_eq_false (λ q=>h q.1)]
theorem l01Digit_eq {x:Int} (h0:0<=x) (h1:x < 256):g_spec_l01Digit x=some (decide (48<=x/\x<=57)):=by
 unfold g_spec_l01Digit
 rw[wI64 (by omega) (by omega),l01In_eq,Option.bind_some]
theorem sd_step {s:List UInt8} {k i d:Nat} {n:Int} (hs:s[i]? = some (UInt8.ofNat (48+d))) (hd:d < 10) (h0:0<=n) (h1:n<=99999999999) (hi:s.length<=1048576) :
  g_spec_ReadDec_l0 s (k+1) n (i:Int)=g_spec_ReadDec_l0 s k (10*n+d) ((i+1:Nat):Int):=by
 have hl:i < s.length:=(List.getElem?_eq_some_iff.mp hs).1
 have hv:=idxS_at hs
 rw[uofNat (by omega)]at hv
 rw[g_spec_ReadDec_l0,decide_eq_true (by omega),cond_true]
 have h45:((cond ((i:Int)==0) ((idxS s (i:Int)).bind λ v=>some (v==45)) (some false):Option Bool))=some false:=by
  cases hb:((i:Int)==0) with
  | false=>rfl
  | true =>
   rw[cond_true,hv,Option.bind_some]
   congr 1
   rw[beq_eq_false_iff_ne];omega
 rw[h45,Option.bind_some,cond_false,hv,Option.bind_some,l01Digit_eq (by omega) (by omega),decide_eq_true (by omega),Option.bind_some,Bool.not_true,cond_false,Option.bind_some,Option.bind_some]
 show g_spec_ReadDec_l0 s k _ _=_
 rw[wI64 (x:=10*n) (by omega) (by omega),wI64 (x:=(((48+d:Nat):Int))) (by omega) (by omega),wI64 (x:=10*n+_) (by omega) (by omega),wI64 (by omega) (by omega),wI64 (by omega) (by omega)]
 congr 1
 ·omega
theorem sd_run:∀ (u k:Nat) (s pre rest:List UInt8),s=pre++(Lib.decDigits u++rest)->s.length<=1048576->u<=99999999999 →
  g_spec_ReadDec_l0 s (k+(Lib.decDigits u).length) 0 (pre.length:Int)=g_spec_ReadDec_l0 s k u ((pre.length+(Lib.decDigits u).length:Nat):Int):=by
 intro u
 induction u using Nat.strongRecOn with
 | _ u ih =>
  intro k s pre rest hs hl hu
  by_cases h10:u < 10
  ·have e:Lib.decDigits u=[UInt8.ofNat (48+u)]:=by rw[Lib.decDigits,dif_pos h10]
   rw[e]at hs ⊢
   have hat:s[pre.length]? = some (UInt8.ofNat (48+u)):=by rw[hs];simp
   rw[List.length_singleton,sd_step hat h10 (by omega) (by omega) hl]
   congr 1
   omega
  ·have e:Lib.decDigits u=Lib.decDigits (u / 10)++[UInt8.ofNat (48+u % 10)]:=by rw[Lib.decDigits,dif_neg h10]
   rw[e]at hs ⊢
   have hat:s[pre.length+(Lib.decDigits (u / 10)).length]? = some (UInt8.ofNat (48+u % 10)):=by
    rw[hs,List.append_assoc,List.getElem?_append_right (by omega),List.getElem?_append_right (by omega)]
    simp
   rw[List.length_append,List.length_singleton,show k+((Lib.decDigits (u / 10)).length+1)=(k+1)+(Lib.decDigits (u / 10)).length by omega,
    ih (u / 10) (by omega) (k+1) s pre (UInt8.ofNat (48+u % 10)::rest) (by rw[hs];simp) hl (by omega),
    sd_step hat (by omega) (by omega) (by omega) hl]
   congr 1
   omega
theorem itoa_len11 {n:Int} (h0 : -9999999999<=n) (h1:n<=9999999999):1<=(Lib.itoa n).length/\(Lib.itoa n).length<=11:=by
 have hp:∀ u,1<=(Lib.decDigits u).length:=λ u=>by rw[Lib.decDigits];split<;>simp
 unfold Lib.itoa
 split
 ·have:=dec_len 9 n.natAbs (by omega)
  simp;omega
 ·have:=dec_len 9 n.toNat (by omega)
  have:=hp n.toNat
  omega
theorem dig_head {u:Nat}:∃ b r,Lib.decDigits u=b::r/\48<=b.toNat/\b.toNat<=57:=by
 induction u using Nat.strongRecOn with
 | _ u ih =>
  rw[Lib.decDigits]
  split
  ·exact ⟨_,[],rfl,by rw[uofNat (by omega)];omega,by rw[uofNat (by omega)];omega⟩
  ·obtain ⟨b,r,e,h⟩:=ih (u / 10) (by omega)
   rw[e]
   exact ⟨b,r++[UInt8.ofNat (48+u % 10)],rfl,h⟩
theorem spec_rd_full {n:Int} (h0 : -9999999999<=n) (h1:n<=9999999999):g_spec_ReadDec (Lib.itoa n)=some (n,true):=by
 obtain ⟨hl1,hl2⟩:=itoa_len11 h0 h1
 unfold g_spec_ReadDec
 rw[l01In_eq,decide_eq_true (by omega),Option.bind_some,Bool.not_true,cond_false]
 have hb:∀ {s:List UInt8} {v:Int},s=Lib.itoa n->g_spec_DecText n=some s:=λ e=>by rw[e];exact spec_dec (by omega) (by omega)
 have key:∃ m,g_spec_ReadDec_l0 (Lib.itoa n) bigK 0 0=some (.inl m)/\((idxS (Lib.itoa n) 0).bind λ v=>cond (v==45) (some (IntKind.wrap .i64 (0-m))) (some m):Option Int)=some n:=by
  by_cases hn:n < 0
  ·refine ⟨(n.natAbs:Int),?_,?_⟩
   ·have e:Lib.itoa n=[45]++(Lib.decDigits n.natAbs++[]):=by unfold Lib.itoa;rw[if_pos hn];simp
    have hr:=sd_run n.natAbs (bigK-1-(Lib.decDigits n.natAbs).length) (Lib.itoa n) [45] [] e (by omega) (by omega)
    have hd:(Lib.itoa n).length=1+(Lib.decDigits n.natAbs).length:=by rw[e];simp;omega
    obtain ⟨j,hj⟩:∃ j,bigK-1-(Lib.decDigits n.natAbs).length=j+1:=⟨bigK-2-(Lib.decDigits n.natAbs).length,by unfold bigK;omega⟩
    rw[hj]at hr
    have hbig:bigK=(j+1+(Lib.decDigits n.natAbs).length)+1:=by unfold bigK at hj ⊢;omega
    rw[hbig,g_spec_ReadDec_l0,decide_eq_true (by omega),cond_true,show ((0:Int)==0)=true from rfl,cond_true]
    have hi:idxS (Lib.itoa n) 0=some 45:=by rw[e];exact idxS_at (i:=0) (b:=45) rfl
    rw[hi,Option.bind_some,Option.bind_some,show ((45:Int)==45)=true from rfl,cond_true,Option.bind_some]
    show g_spec_ReadDec_l0 _ _ _ _=_
    rw[show IntKind.wrap .i64 (0+1)=(([45]:List UInt8).length:Int) from rfl,hr,g_spec_ReadDec_l0,decide_eq_false (by simp;omega),cond_false]
   ·have hi:idxS (Lib.itoa n) 0=some 45:=by unfold Lib.itoa;rw[if_pos hn];exact idxS_at (i:=0) (b:=45) rfl
    rw[hi,Option.bind_some,show ((45:Int)==45)=true from rfl,cond_true,wI64 (by omega) (by omega)]
    congr 1;omega
  ·have e:Lib.itoa n=[]++(Lib.decDigits n.toNat++[]):=by unfold Lib.itoa;rw[if_neg hn];simp
   refine ⟨(n.toNat:Int),?_,?_⟩
   ·have hr:=sd_run n.toNat (bigK-(Lib.decDigits n.toNat).length) (Lib.itoa n) [] [] e (by omega) (by omega)
    have hd:(Lib.itoa n).length=(Lib.decDigits n.toNat).length:=by rw[e];simp
    obtain ⟨j,hj⟩:∃ j,bigK-(Lib.decDigits n.toNat).length=j+1:=⟨bigK-1-(Lib.decDigits n.toNat).length,by unfold bigK;omega⟩
    rw[hj]at hr
    rw[show bigK=j+1+(Lib.decDigits n.toNat).length by unfold bigK at hj ⊢;omega]
    refine hr.trans ?_
    rw[g_spec_ReadDec_l0,decide_eq_false (by simp;omega),cond_false]
   ·obtain ⟨b,r,hb,h48,h57⟩:=dig_head (u:=n.toNat)
    have hi:idxS (Lib.itoa n) 0=some (b.toNat:Int):=idxS_at (i:=0) (by rw[e,hb];rfl)
    rw[hi,Option.bind_some,show ((b.toNat:Int)==45)=false by rw[beq_eq_false_iff_ne];omega,cond_false]
    congr 1;omega
 obtain ⟨m,k1,k2⟩:=key
 rw[k1,Option.bind_some,Option.bind_some]
 show (Option.bind _ _)=_
 rw[k2,Option.bind_some,l01In_eq,decide_eq_true (by omega),Option.bind_some,Bool.not_true,cond_false,spec_dec (by omega) (by omega),Option.bind_some,Option.bind_some,
  show (Lib.itoa n != Lib.itoa n)=false by simp,cond_false]
theorem sd_tot {s:List UInt8} (hl:s.length<=11):∀ (j k i:Nat) (n:Int),i+j=s.length->j < k->0<=n->n < ((10 ^ i:Nat):Int) →
  Tot (g_spec_ReadDec_l0 s k n (i:Int)) λ r=>match r with | .inl m=>0<=m/\m<=99999999999 | .inr p=>p=(0,false):=by
 intro j
 induction j with
 | zero =>
  intro k i n hij hk h0 h1
  obtain ⟨k,rfl⟩:∃ k',k=k'+1:=⟨k-1,by omega⟩
  rw[g_spec_ReadDec_l0,decide_eq_false (by omega),cond_false]
  refine Tot.some ⟨h0,?_⟩
  have:10 ^ i<=10 ^ 11:=Nat.pow_le_pow_right (by decide) (by omega)
  generalize 10 ^ i=P at this h1
  omega
 | succ j ih =>
  intro k i n hij hk h0 h1
  obtain ⟨k,rfl⟩:∃ k',k=k'+1:=⟨k-1,by omega⟩
  have hp:10 ^ i<=10 ^ 10:=Nat.pow_le_pow_right (by decide) (by omega)
  have hs:10 ^ (i+1)=10 ^ i*10:=Nat.pow_succ ..
  have hi:idxS s (i:Int)=some (s[i].toNat:Int):=idxS_nat (by omega)
  have hbt:s[i].toNat < 256:=s[i].toNat_lt
  rw[g_spec_ReadDec_l0,decide_eq_true (by omega),cond_true,hi,Option.bind_some,Option.bind_some,l01Digit_eq (by omega) (by omega),Option.bind_some,Option.bind_some]
  have hnx:IntKind.wrap .i64 ((i:Int)+1)=((i+1:Nat):Int):=by rw[wI64 (by omega) (by omega)];rfl
  have go:∀ m:Int,0<=m->m < ((10 ^ i*10:Nat):Int)->Tot (g_spec_ReadDec_l0 s k m (IntKind.wrap .i64 ((i:Int)+1))) λ r=>match r with | .inl m=>0<=m/\m<=99999999999 | .inr p=>p=(0,false):=λ m q0 q1=>by
   rw[hnx];exact ih k (i+1) m (by omega) (by omega) q0 (by rw[hs];exact q1)
  clear hs
  generalize 10 ^ i=P at hp h1 go
  have h10:n<=9999999999:=by omega
  have rest:Tot ((cond (!decide (48<=(s[i].toNat:Int)/\(s[i].toNat:Int)<=57)) (some (.inr (0,false))) (some (.inl (IntKind.wrap .i64 ((IntKind.wrap .i64 ((IntKind.wrap .i64 (10*n))+(IntKind.wrap .i64 (s[i].toNat:Int))))-48)))):Option (Int ⊕ (Int×Bool))).bind λ o=>match o with | .inl n_13=>g_spec_ReadDec_l0 s k n_13 (IntKind.wrap .i64 ((i:Int)+1)) | .inr (v_14,v_15)=>some (.inr (v_14,v_15)))
    λ r=>match r with | .inl m=>0<=m/\m<=99999999999 | .inr p=>p=(0,false):=by
   by_cases hd:48<=(s[i].toNat:Int)/\(s[i].toNat:Int)<=57
   ·rw[decide_eq_true hd,Bool.not_true,cond_false,Option.bind_some]
    show Tot (g_spec_ReadDec_l0 s k _ _) _
    rw[wI64 (x:=10*n) (by omega) (by omega),wI64 (x:=(s[i].toNat:Int)) (by omega) (by omega),wI64 (x:=10*n+_) (by omega) (by omega),wI64 (x:=_-48) (by omega) (by omega)]
    exact go _ (by omega) (by omega)
   ·rw[decide_eq_false hd,Bool.not_false,cond_true,Option.bind_some]
    exact Tot.some rfl
  cases hz:((i:Int)==0) with
  | false=>rw[cond_false,Option.bind_some,cond_false];exact rest
  | true =>
   rw[cond_true,Option.bind_some]
   cases h45:((s[i].toNat:Int)==45) with
   | false=>rw[cond_false];exact rest
   | true =>
    rw[cond_true,Option.bind_some]
    show Tot (g_spec_ReadDec_l0 s k _ _) _
    exact go n h0 (by omega)
def RdOk (s:List UInt8) (r:Int×Bool):Prop:=(r.2=true → -9999999999<=r.1/\r.1<=9999999999/\Lib.itoa r.1=s)/\(r.2=false->r=(0,false))
theorem rdOk_no (s:List UInt8):RdOk s (0,false):=⟨(λ h=>nomatch h),λ _=>rfl⟩
theorem spec_rd_tot (s:List UInt8):Tot (g_spec_ReadDec s) (RdOk s):=by
 unfold g_spec_ReadDec
 rw[l01In_eq,Option.bind_some]
 refine Tot.cond (λ _=>Tot.some (rdOk_no s)) λ hc => ?_
 have hl:1<=(s.length:Int)/\(s.length:Int)<=11:=by simpa using hc
 obtain ⟨r,hr,hq⟩:=sd_tot (s:=s) (by omega) s.length bigK 0 0 (by omega) (by unfold bigK;omega) (by omega) (by decide)
 rw[show g_spec_ReadDec_l0 s bigK 0 0=some r from hr,Option.bind_some]
 match r,hq with
 | .inr p,hq =>
  obtain rfl:p=(0,false):=hq
  exact Tot.some (rdOk_no s)
 | .inl m,hq =>
  obtain ⟨q0,q1⟩:0<=m/\m<=99999999999:=hq
  have hi:idxS s 0=some (s[0].toNat:Int):=idxS_nat (n:=0) (by omega)
  simp only[hi,Option.bind_some]
  have hn:∃ n,(cond ((s[0].toNat:Int)==45) (some (IntKind.wrap .i64 (0-m))) (some m):Option Int)=some n ∧ -99999999999<=n/\n<=99999999999:=by
   cases ((s[0].toNat:Int)==45) with
   | true=>exact ⟨-m,by rw[cond_true,wI64 (by omega) (by omega)];congr 1;omega,by omega,by omega⟩
   | false=>exact ⟨m,rfl,by omega,by omega⟩
  obtain ⟨n,hn,n0,n1⟩:=hn
  rw[hn,Option.bind_some,l01In_eq,Option.bind_some]
  by_cases hb : -9999999999<=n/\n<=9999999999
  ·rw[decide_eq_true hb,Bool.not_true,cond_false,spec_dec (by omega) (by omega),Option.bind_some,Option.bind_some]
   refine Tot.cond (λ _=>Tot.some (rdOk_no s)) λ hc=>Tot.some ⟨λ _=>⟨hb.1,hb.2,?_⟩,λ h=>nomatch h⟩
   simpa using hc
  ·rw[decide_eq_false hb,Bool.not_false,cond_true,Option.bind_some,cond_true]
   exact Tot.some (rdOk_no s)
end Go.Proofs.YtgfamepnkhpemaaGreatDoor
namespace Go.Proofs.YtgfamepnkhpemaaGreatDoor
open Go Go.Fm
theorem bsOf_len (s:List UInt8):(bsOf s).length=s.length:=List.length_map ..
theorem getI_bs {s:List UInt8} {i:Nat} {b:UInt8} (h:s[i]? = some b):getI (bsOf s) (i:Int)=some (b.toNat:Int):=by
 rw[getI_nat,bsOf,List.getElem?_map,h];rfl
theorem s2b_eq {s:List UInt8} (h:s.length<=1048576):s2b s=some (bsOf s):=by
 unfold s2b;rw[if_pos];unfold maxN;omega
def E012 (e:Int):Prop:=e=0\/e=1\/e=2
theorem pl_tot {s:List UInt8} (base cut mx:Int) (hs:s.length<=1048576):∀ (j k i:Nat) (n:Int),i+j=s.length->j < k →
  Tot (g_istrconv_ParseUint_l0 base false cut mx (bsOf s) ((bsOf s).length:Int) k false n (i:Int)) λ r=>match r with | .inl p=>p.1=false | .inr p=>p.2=1\/p.2=2:=by
 intro j
 induction j with
 | zero =>
  intro k i n hij hk
  obtain ⟨k,rfl⟩:∃ k',k=k'+1:=⟨k-1,by omega⟩
  rw[g_istrconv_ParseUint_l0,bsOf_len,decide_eq_false (by omega),cond_false]
  exact Tot.some rfl
 | succ j ih =>
  intro k i n hij hk
  obtain ⟨k,rfl⟩:∃ k',k=k'+1:=⟨k-1,by omega⟩
  have hi:getI (bsOf s) (i:Int)=some (s[i].toNat:Int):=getI_bs (List.getElem?_eq_getElem (by omega))
  have hnx:IntKind.wrap .i64 ((i:Int)+1)=((i+1:Nat):Int):=by rw[wI64 (by omega) (by omega)];rfl
  rw[g_istrconv_ParseUint_l0,decide_eq_true (by rw[bsOf_len];omega),cond_true,hi,Option.bind_some,hnx]
  generalize (s[i].toNat:Int)=v
  have hc:(cond (v==95) (some false) (some false):Option Bool)=some false:=by cases (v==95)<;>rfl
  rw[hc,Option.bind_some,cond_false]
  refine Tot.bind (Q:=λ o=>match o with | .inl p=>p.1=false | .inr p=>p.2=1\/p.2=2) ?_ λ o hq => ?_
  ·refine Tot.bind (Q:=λ o=>match o with | .inl p=>p.1=false | .inr (.inl _)=>False | .inr (.inr p)=>p.2=2) ?_ λ o hq => ?_
   ·refine Tot.bind (Q:=λ _=>True) (Tot.cond (λ _=>Tot.some trivial) λ _=>Tot.some trivial) λ c _ => ?_
    refine Tot.cond (λ _=>Tot.some rfl) λ _ => ?_
    refine Tot.bind (Q:=λ _=>True) ?_ λ c _ => ?_
    ·refine Tot.bindE (a:=orI .u8 v 32) rfl (Tot.cond (λ _ => ?_) λ _=>Tot.some trivial)
     exact Tot.bindE (a:=orI .u8 v 32) rfl (Tot.some trivial)
    ·refine Tot.cond (λ _ => ?_) λ _=>Tot.some rfl
     exact Tot.bindE (a:=orI .u8 v 32) rfl (Tot.some rfl)
   ·match o,hq with
    | .inl p,hq =>
     obtain ⟨p1,p2⟩:=p
     have hp:p1=false:=hq
     subst hp
     refine Tot.condD (λ _=>Tot.some (.inr rfl)) λ _=>Tot.condD (λ _=>Tot.some (.inl rfl)) λ _ => ?_
     refine Tot.bind (Q:=λ _=>True) (Tot.cond (λ _=>Tot.some trivial) λ _=>Tot.some trivial) λ c _ => ?_
     exact Tot.cond (λ _=>Tot.some (.inl rfl)) λ _=>Tot.some rfl
    | .inr (.inr p),hq=>exact Tot.some (.inr hq)
  ·match o,hq with
   | .inl p,hq =>
    obtain ⟨p1,p2⟩:=p
    have hp:p1=false:=hq
    subst hp
    exact ih k (i+1) p2 (by omega) (by omega)
   | .inr p,hq=>exact Tot.some hq
theorem pu_end {s t:List UInt8} {base cut mx:Int} (hs:s.length<=1048576) :
  Tot (((s2b s).bind λ v=>(g_istrconv_ParseUint_l0 base false cut mx v (v.length:Int) bigK false 0 0).bind λ o=>match o with | .inl (a,b)=>some (.inl (a,b)) | .inr (a,b)=>some (.inr (a,b)):Option ((Bool×Int) ⊕ (Int×Int))).bind λ o=>match o with | .inl (u,n)=>(cond u ((g_istrconv_underscoreOK t).bind λ y=>some (!y)) (some false):Option (Bool)).bind λ v=>cond v (some (0,2)) (some (n,0)) | .inr (a,b)=>some (a,b))
   λ r=>E012 r.2:=by
 rw[s2b_eq hs,Option.bind_some]
 obtain ⟨r,hr,hq⟩:=pl_tot base cut mx hs s.length bigK 0 0 (by omega) (by unfold bigK;omega)
 rw[show g_istrconv_ParseUint_l0 base false cut mx (bsOf s) ((bsOf s).length:Int) bigK false 0 0=some r from hr,Option.bind_some]
 match r,hq with
 | .inl p,hq =>
  obtain ⟨p1,p2⟩:=p
  have hp:p1=false:=hq
  subst hp
  exact ⟨_,rfl, .inl rfl⟩
 | .inr p,hq=>exact ⟨_,rfl, .inr hq⟩
theorem pu_tot {s:List UInt8} (hs:s.length<=1048576) {base bits:Int} (hb:base=10/\bits=0\/base=16/\bits=32):Tot (g_istrconv_ParseUint s base bits) λ r=>E012 r.2:=by
 unfold g_istrconv_ParseUint
 refine Tot.cond (λ _=>Tot.some (.inr (.inr rfl))) λ hc => ?_
 rcases hb with ⟨rfl,rfl⟩|⟨rfl,rfl⟩
 ·refine Tot.bindE (a:=.inl (s,10)) rfl ?_
  refine Tot.bindE (a:=.inl 64) rfl ?_
  refine Tot.bindE (a:=1844674407370955162) rfl ?_
  refine Tot.bindE (a:=0) (by decide) ?_
  exact pu_end hs
 ·refine Tot.bindE (a:=.inl (s,16)) rfl ?_
  refine Tot.bindE (a:=.inl 32) rfl ?_
  refine Tot.bindE (a:=1152921504606846976) rfl ?_
  refine Tot.bindE (a:=4294967296) (by decide) ?_
  exact pu_end hs
theorem pi_tot {s:List UInt8} (hs:s.length<=1048576):Tot (g_istrconv_ParseInt s 10 0) λ r=>E012 r.2:=by
 unfold g_istrconv_ParseInt
 refine Tot.cond (λ _=>Tot.some (.inr (.inr rfl))) λ hc => ?_
 have hl:0 < s.length:=by
  cases s with
  | nil=>exact absurd hc (by decide)
  | cons a l=>simp
 refine Tot.bind (Q:=λ p=>p.1.length<=1048576) ?_ λ p hp => ?_
 ·refine Tot.bindE (idxS_nat (n:=0) hl) ?_
  have hd:Tot (subL s 1 (s.length:Int)) λ t=>t.length<=1048576:=⟨_,subL_drop (by omega) (by omega),by show (List.drop _ _).length<=_;rw[List.length_drop];omega⟩
  exact Tot.cond (λ _=>Tot.bind hd λ t ht=>Tot.some ht) λ _=>Tot.cond (λ _=>Tot.bind hd λ t ht=>Tot.some ht) λ _=>Tot.some hs
 ·obtain ⟨t,ng⟩:=p
  refine Tot.bind (pu_tot hp (.inl ⟨rfl,rfl⟩)) λ y hy => ?_
  refine Tot.bind (Q:=λ c=>c=true->E012 y.2) ?_ λ c hc => ?_
  ·refine Tot.cond (λ _ => ?_) λ _=>Tot.some λ _=>hy
   refine Tot.bindE (a:=()) ?_ (Tot.some λ _=>hy)
   have:(0:Int)<=y.2:=by rcases hy with h|h|h<;>rw[h]<;>decide
   rw[decide_eq_true this];rfl
  ·refine Tot.cond (λ h=>Tot.some (hc h)) λ _ => ?_
   refine Tot.bindE (a:=64) rfl (Tot.bindE (a:=9223372036854775808) (by decide) ?_)
   refine Tot.bind (Q:=λ _=>True) (Tot.cond (λ _=>Tot.some trivial) λ _=>Tot.some trivial) λ c _ => ?_
   refine Tot.cond (λ _=>Tot.some (.inr (.inl rfl))) λ _ => ?_
   refine Tot.bind (Q:=λ _=>True) (Tot.cond (λ _=>Tot.some trivial) λ _=>Tot.some trivial) λ c _ => ?_
   refine Tot.cond (λ _=>Tot.some (.inr (.inl rfl))) λ _ => ?_
   refine Tot.bind (Q:=λ _=>True) (Tot.cond (λ _=>Tot.some trivial) λ _=>Tot.some trivial) λ c _ => ?_
   exact Tot.some (.inl rfl)
theorem al_tot {s:List UInt8} (hs:s.length<=1048576):∀ (j k i:Nat) (n:Int),i+j=s.length->j < k →
  Tot (g_istrconv_Atoi_l0 (bsOf s) ((bsOf s).length:Int) k n (i:Int)) λ r=>match r with | .inl _=>True | .inr p=>p.2=2:=by
 intro j
 induction j with
 | zero =>
  intro k i n hij hk
  obtain ⟨k,rfl⟩:∃ k',k=k'+1:=⟨k-1,by omega⟩
  rw[g_istrconv_Atoi_l0,bsOf_len,decide_eq_false (by omega),cond_false]
  exact Tot.some trivial
 | succ j ih =>
  intro k i n hij hk
  obtain ⟨k,rfl⟩:∃ k',k=k'+1:=⟨k-1,by omega⟩
  have hi:getI (bsOf s) (i:Int)=some (s[i].toNat:Int):=getI_bs (List.getElem?_eq_getElem (by omega))
  have hnx:IntKind.wrap .i64 ((i:Int)+1)=((i+1:Nat):Int):=by rw[wI64 (by omega) (by omega)];rfl
  rw[g_istrconv_Atoi_l0,decide_eq_true (by rw[bsOf_len];omega),cond_true,hi,Option.bind_some,hnx]
  exact Tot.condD (λ _=>Tot.some rfl) λ _=>ih k (i+1) _ (by omega) (by omega)
theorem al_all {s:List UInt8} (hs:s.length<=1048576):Tot ((s2b s).bind λ v=>(g_istrconv_Atoi_l0 v (v.length:Int) bigK 0 0).bind λ o=>match o with | .inl n=>some (.inl n) | .inr (a,b)=>some (.inr (a,b)):Option (Int ⊕ (Int×Int))) λ r=>match r with | .inl _=>True | .inr p=>p.2=2:=by
 rw[s2b_eq hs,Option.bind_some]
 obtain ⟨r,hr,hq⟩:=al_tot hs s.length bigK 0 0 (by omega) (by unfold bigK;omega)
 rw[show g_istrconv_Atoi_l0 (bsOf s) ((bsOf s).length:Int) bigK 0 0=some r from hr,Option.bind_some]
 match r,hq with
 | .inl m,hq=>exact Tot.some trivial
 | .inr p,hq=>exact Tot.some hq
theorem atoi_tot {s:List UInt8} (hs:s.length<=1048576):Tot (g_istrconv_Atoi s) λ r=>E012 r.2:=by
 unfold g_istrconv_Atoi
 refine Tot.bind (Q:=λ o=>match o with | .inl t=>t=s | .inr p=>E012 p.2) ?_ λ o hq => ?_
 ·refine Tot.bind (Q:=λ c=>c=true->0 < s.length) (Tot.condD (λ h=>Tot.some λ _=>by omega) λ _=>Tot.some λ h=>nomatch h) λ c hc => ?_
  refine Tot.cond (λ h => ?_) λ _=>Tot.some rfl
  have hl:=hc h
  have hi:idxS s 0=some (s[0].toNat:Int):=idxS_nat (n:=0) hl
  refine Tot.bind (Q:=λ o=>match o with | .inl t=>t.length<=1048576 | .inr p=>p.2=2) ?_ λ o hq => ?_
  ·refine Tot.bind (Q:=λ _=>True) (Tot.bindE hi (Tot.cond (λ _=>Tot.some trivial) λ _=>Tot.bindE hi (Tot.some trivial))) λ c _ => ?_
   refine Tot.cond (λ _ => ?_) λ _=>Tot.some hs
   refine Tot.bindE (subL_drop (by omega) (by omega)) ?_
   refine Tot.condD (λ _=>Tot.some rfl) λ _=>Tot.some ?_
   show (List.drop _ _).length<=_
   rw[List.length_drop];omega
  ·match o,hq with
   | .inl t,hq =>
    refine Tot.bind (al_all hq) λ o hq => ?_
    match o,hq with
    | .inl m,_ =>
     refine Tot.bind (Q:=λ _=>True) (Tot.bindE hi (Tot.cond (λ _=>Tot.some trivial) λ _=>Tot.some trivial)) λ c _ => ?_
     exact Tot.some (.inl rfl)
    | .inr p,hq=>exact Tot.some (.inr (.inr hq))
   | .inr p,hq=>exact Tot.some (.inr (.inr hq))
 ·match o,hq with
  | .inl t,hq =>
   obtain rfl:t=s:=hq
   exact Tot.bind (pi_tot hs) λ y hy=>Tot.some hy
  | .inr p,hq=>exact Tot.some hq
theorem toErr_eq {fn s:List UInt8} {base bits e:Int} (hs:s.length<=1048576) (he:E012 e) (h0:(e==0)=false):g_strconv_toError fn s base bits e=some (-1):=by
 unfold g_strconv_toError gToErr
 rw[decide_eq_true (by omega)]
 rcases he with h|h|h
 ·rw[h]at h0;exact nomatch h0
 ·rw[h];rfl
 ·rw[h];rfl
theorem pub_atoi {s:List UInt8} (hs:s.length<=1048576):Tot (g_strconv_Atoi s) λ _=>True:=by
 unfold g_strconv_Atoi
 refine Tot.bind (atoi_tot hs) λ y hy=>Tot.cond (λ h => ?_) λ _=>Tot.some trivial
 exact Tot.bindE (toErr_eq hs hy (by simpa using h)) (Tot.some trivial)
theorem impl_rd_tot {s:List UInt8} (hs:s.length<=1048576):Tot (g_impl_ReadDec s) (RdOk s):=by
 unfold g_impl_ReadDec
 refine Tot.bind (pub_atoi hs) λ y _ => ?_
 refine Tot.bind (Q:=λ c=>c=false → -9999999999<=y.1/\y.1<=9999999999/\Lib.itoa y.1=s) ?_ λ c hc => ?_
 ·refine Tot.cond (λ _=>Tot.some λ h=>nomatch h) λ _=>Tot.condD (λ _=>Tot.some λ h=>nomatch h) λ h1=>Tot.condD (λ _=>Tot.some λ h=>nomatch h) λ h2 => ?_
  refine Tot.bindE (impl_dec (by omega) (by omega)) (Tot.some λ h=>⟨by omega,by omega,?_⟩)
  simpa using h
 ·refine Tot.cond (λ _=>Tot.some (rdOk_no s)) λ h=>Tot.some ⟨λ _=>hc h,λ h=>nomatch h⟩
theorem ad_step {s:List UInt8} {k i d:Nat} {n:Int} (hs:s[i]? = some (UInt8.ofNat (48+d))) (hd:d < 10) (h0:0<=n) (h1:n<=99999999999) (hi:s.length<=1048576) :
  g_istrconv_Atoi_l0 (bsOf s) ((bsOf s).length:Int) (k+1) n (i:Int)=g_istrconv_Atoi_l0 (bsOf s) ((bsOf s).length:Int) k (10*n+d) ((i+1:Nat):Int):=by
 have hl:i < s.length:=(List.getElem?_eq_some_iff.mp hs).1
 have hv:=getI_bs hs
 rw[uofNat (by omega)]at hv
 rw[g_istrconv_Atoi_l0,decide_eq_true (by rw[bsOf_len];omega),cond_true,hv,Option.bind_some,show (((48+d:Nat):Int)-48)=(d:Int) by omega,wU8 (by omega) (by omega),decide_eq_false (by omega),cond_false,
  wI64 (x:=n*10) (by omega) (by omega),wI64 (x:=(d:Int)) (by omega) (by omega),wI64 (by omega) (by omega),wI64 (by omega) (by omega)]
 congr 1
 omega
theorem ad_run:∀ (u k:Nat) (s rest:List UInt8),s=Lib.decDigits u++rest->s.length<=1048576->u<=99999999999 →
  g_istrconv_Atoi_l0 (bsOf s) ((bsOf s).length:Int) (k+(Lib.decDigits u).length) 0 0=g_istrconv_Atoi_l0 (bsOf s) ((bsOf s).length:Int) k u (((Lib.decDigits u).length:Nat):Int):=by
 intro u
 induction u using Nat.strongRecOn with
 | _ u ih =>
  intro k s rest hs hl hu
  by_cases h10:u < 10
  ·have e:Lib.decDigits u=[UInt8.ofNat (48+u)]:=by rw[Lib.decDigits,dif_pos h10]
   rw[e]at hs ⊢
   have hat:s[0]? = some (UInt8.ofNat (48+u)):=by rw[hs];simp
   have:=ad_step (k:=k) (n:=0) hat h10 (by omega) (by omega) hl
   rw[List.length_singleton]
   refine this.trans ?_
   congr 1
   omega
  ·have e:Lib.decDigits u=Lib.decDigits (u / 10)++[UInt8.ofNat (48+u % 10)]:=by rw[Lib.decDigits,dif_neg h10]
   rw[e]at hs ⊢
   have hat:s[(Lib.decDigits (u / 10)).length]? = some (UInt8.ofNat (48+u % 10)):=by
    rw[hs,List.append_assoc,List.getElem?_append_right (by omega)]
    simp
   rw[List.length_append,List.length_singleton,show k+((Lib.decDigits (u / 10)).length+1)=(k+1)+(Lib.decDigits (u / 10)).length by omega,
    ih (u / 10) (by omega) (k+1) s (UInt8.ofNat (48+u % 10)::rest) (by rw[hs];simp) hl (by omega),
    ad_step hat (by omega) (by omega) (by omega) hl]
   congr 1
   omega
theorem ad_all {u:Nat} (hu:u<=99999999999):s2b (Lib.decDigits u)=some (bsOf (Lib.decDigits u))/\g_istrconv_Atoi_l0 (bsOf (Lib.decDigits u)) ((bsOf (Lib.decDigits u)).length:Int) bigK 0 0=some (.inl (u:Int)):=by
 have hl:=dec_len 10 u (by omega)
 have hr:=ad_run u (bigK-(Lib.decDigits u).length) (Lib.decDigits u) [] (by simp) (by omega) hu
 obtain ⟨j,hj⟩:∃ j,bigK-(Lib.decDigits u).length=j+1:=⟨bigK-1-(Lib.decDigits u).length,by unfold bigK;omega⟩
 rw[hj,show j+1+(Lib.decDigits u).length=bigK by unfold bigK at hj ⊢;omega]at hr
 exact ⟨s2b_eq (by omega),by rw[hr,g_istrconv_Atoi_l0,decide_eq_false (by rw[bsOf_len];omega),cond_false]⟩
theorem atoi_full {n:Int} (h0 : -9999999999<=n) (h1:n<=9999999999):g_istrconv_Atoi (Lib.itoa n)=some (n,0):=by
 obtain ⟨hl1,hl2⟩:=itoa_len11 h0 h1
 unfold g_istrconv_Atoi
 rw[decide_eq_true (by omega),cond_true,decide_eq_true (by omega),Option.bind_some,cond_true]
 by_cases hn:n < 0
 ·have e:Lib.itoa n=45::Lib.decDigits n.natAbs:=by unfold Lib.itoa;rw[if_pos hn]
  obtain ⟨b,r,hb,_⟩:=dig_head (u:=n.natAbs)
  have hi:idxS (Lib.itoa n) 0=some 45:=by rw[e];exact idxS_at (i:=0) (b:=45) rfl
  have hsub:subL (Lib.itoa n) 1 ((Lib.itoa n).length:Int)=some (Lib.decDigits n.natAbs):=by rw[subL_drop (by omega) (by omega),e];rfl
  have hlen:decide (((Lib.decDigits n.natAbs).length:Int) < 1)=false:=decide_eq_false (by rw[hb,List.length_cons];omega)
  obtain ⟨a1,a2⟩:=ad_all (u:=n.natAbs) (by omega)
  simp only[hi,Option.bind_some,show ((45:Int)==45)=true from rfl,cond_true,hsub,hlen,cond_false,a1,a2]
  rw[wI64 (by omega) (by omega)]
  congr 1
  exact Prod.ext (by show 0-(n.natAbs:Int)=n;omega) rfl
 ·have e:Lib.itoa n=Lib.decDigits n.toNat:=by unfold Lib.itoa;rw[if_neg hn]
  obtain ⟨b,r,hb,h48,h57⟩:=dig_head (u:=n.toNat)
  have hi:idxS (Lib.itoa n) 0=some (b.toNat:Int):=idxS_at (i:=0) (by rw[e,hb];rfl)
  obtain ⟨a1,a2⟩:=ad_all (u:=n.toNat) (by omega)
  rw[<-e]at a1 a2
  have q1:((b.toNat:Int)==45)=false:=by rw[beq_eq_false_iff_ne];omega
  have q2:((b.toNat:Int)==43)=false:=by rw[beq_eq_false_iff_ne];omega
  simp only[hi,Option.bind_some,q1,q2,cond_false,a1,a2]
  congr 1
  exact Prod.ext (by show (n.toNat:Int)=n;omega) rfl
theorem impl_rd_full {n:Int} (h0 : -9999999999<=n) (h1:n<=9999999999):g_impl_ReadDec (Lib.itoa n)=some (n,true):=by
 unfold g_impl_ReadDec g_strconv_Atoi
 rw[atoi_full h0 h1,Option.bind_some]
 show Option.bind (cond _ _ _) _=_
 rw[show (!((0:Int)==0))=false from rfl,cond_false,Option.bind_some,show (!((0:Int)==0))=false from rfl,cond_false,decide_eq_false (by omega),cond_false,decide_eq_false (by omega),cond_false,
  impl_dec (by omega) (by omega),Option.bind_some,Option.bind_some,show (Lib.itoa n != Lib.itoa n)=false by simp,cond_false]
def decV (s:List UInt8):Int×Bool:=(g_spec_ReadDec s).getD (0,false)
theorem spec_rd (s:List UInt8):g_spec_ReadDec s=some (decV s):=by
 obtain ⟨r,e,_⟩:=spec_rd_tot s
 unfold decV;rw[e];rfl
theorem decV_ok (s:List UInt8):RdOk s (decV s):=by
 obtain ⟨r,e,h⟩:=spec_rd_tot s
 unfold decV;rw[e];exact h
theorem impl_rd {s:List UInt8} (hs:s.length<=1048576):g_impl_ReadDec s=some (decV s):=by
 obtain ⟨r,e,h⟩:=impl_rd_tot hs
 have hd:=decV_ok s
 have es:=spec_rd s
 rw[e]
 congr 1
 cases hr:r.2 with
 | true =>
  obtain ⟨q0,q1,q2⟩:=h.1 hr
  have:=spec_rd_full q0 q1
  rw[q2,es]at this
  rw[Option.some.inj this]
  exact Prod.ext rfl hr
 | false =>
  cases hv:(decV s).2 with
  | false=>rw[h.2 hr,hd.2 hv]
  | true =>
   obtain ⟨q0,q1,q2⟩:=hd.1 hv
   have:=impl_rd_full q0 q1
   rw[q2,e]at this
   rw[Option.some.inj this]at hr
   exact nomatch hr
end Go.Proofs.YtgfamepnkhpemaaGreatDoor
namespace Go.Proofs.YtgfamepnkhpemaaGreatDoor
open Go Go.Fm
theorem hexC_nat {d:Nat} (h:d < 16):(hexC d).toNat=if d < 10 then 48+d else 87+d:=by
 unfold hexC
 split
 ·exact uofNat (by omega)
 ·exact uofNat (by omega)
theorem hexD_low {u:Nat} (h:u < 16):hexD u=[hexC u]:=by rw[hexD,dif_pos h]
theorem hexD_high {u:Nat} (h:¬ u < 16):hexD u=hexD (u / 16)++[hexC (u % 16)]:=by rw[hexD,dif_neg h]
theorem hexD_pos (u:Nat):1<=(hexD u).length:=by
 by_cases h:u < 16
 ·rw[hexD_low h];simp
 ·rw[hexD_high h];simp
theorem sh_step {s:List UInt8} {k i d:Nat} {n:Int} (hs:s[i]? = some (hexC d)) (hd:d < 16) (h0:0<=n) (h1:n<=4294967296) (hi:s.length<=1048576) :
  g_spec_ReadHex_l0 s (k+1) n (i:Int)=g_spec_ReadHex_l0 s k (16*n+d) ((i+1:Nat):Int):=by
 have hl:i < s.length:=(List.getElem?_eq_some_iff.mp hs).1
 have hv:=idxS_at hs
 rw[hexC_nat hd]at hv
 rw[g_spec_ReadHex_l0,decide_eq_true (by omega),cond_true,hv,Option.bind_some]
 by_cases h10:d < 10
 ·rw[if_pos h10,l01Digit_eq (by omega) (by omega),Option.bind_some,decide_eq_true (by omega),cond_true,Option.bind_some,Option.bind_some]
  show g_spec_ReadHex_l0 s k _ _=_
  rw[wI64 (x:=16*n) (by omega) (by omega),wI64 (x:=(((48+d:Nat):Int))) (by omega) (by omega),wI64 (x:=16*n+_) (by omega) (by omega),wI64 (by omega) (by omega),wI64 (by omega) (by omega)]
  congr 1
  omega
 ·rw[if_neg h10,l01Digit_eq (by omega) (by omega),Option.bind_some,decide_eq_false (by omega),cond_false,Option.bind_some,l01In_eq,wI64 (x:=((87+d:Nat):Int)) (by omega) (by omega),decide_eq_true (by omega),Option.bind_some,cond_true,Option.bind_some,Option.bind_some]
  show g_spec_ReadHex_l0 s k _ _=_
  rw[wI64 (x:=16*n) (by omega) (by omega),wI64 (x:=((87+d:Nat):Int)) (by omega) (by omega),wI64 (x:=16*n+_) (by omega) (by omega),wI64 (by omega) (by omega),wI64 (by omega) (by omega)]
  congr 1
  omega
theorem sh_run:∀ (u k:Nat) (s rest:List UInt8),s=hexD u++rest->s.length<=1048576->u < 4294967296 →
  g_spec_ReadHex_l0 s (k+(hexD u).length) 0 0=g_spec_ReadHex_l0 s k u (((hexD u).length:Nat):Int):=by
 intro u
 induction u using Nat.strongRecOn with
 | _ u ih =>
  intro k s rest hs hl hu
  by_cases h10:u < 16
  ·have e:=hexD_low h10
   rw[e]at hs ⊢
   have hat:s[0]? = some (hexC u):=by rw[hs];simp
   have:=sh_step (k:=k) (n:=0) hat h10 (by omega) (by omega) hl
   rw[List.length_singleton]
   refine this.trans ?_
   congr 1
   omega
  ·have e:=hexD_high h10
   rw[e]at hs ⊢
   have hat:s[(hexD (u / 16)).length]? = some (hexC (u % 16)):=by
    rw[hs,List.append_assoc,List.getElem?_append_right (by omega)]
    simp
   rw[List.length_append,List.length_singleton,show k+((hexD (u / 16)).length+1)=(k+1)+(hexD (u / 16)).length by omega,
    ih (u / 16) (by omega) (k+1) s (hexC (u % 16)::rest) (by rw[hs];simp) hl (by omega),
    sh_step hat (by omega) (by omega) (by omega) hl]
   congr 1
   omega
theorem fuel_split {a:Nat} (h:a<=1000):∃ j,bigK=j+1+a:=⟨bigK-1-a,by unfold bigK;omega⟩
theorem spec_rh_full {n:Int} (h0:0<=n) (h1:n < 4294967296):g_spec_ReadHex (hexD n.toNat)=some (n,true):=by
 have hl:=hexD_len 7 n.toNat (by omega)
 have hp:=hexD_pos n.toNat
 unfold g_spec_ReadHex
 rw[l01In_eq,decide_eq_true (by omega),Option.bind_some,Bool.not_true,cond_false]
 obtain ⟨j,hj⟩:=fuel_split (a:=(hexD n.toNat).length) (by omega)
 have hr:=sh_run n.toNat (j+1) (hexD n.toNat) [] (by simp) (by omega) (by omega)
 rw[<-hj]at hr
 rw[hr,g_spec_ReadHex_l0,decide_eq_false (by omega),cond_false,Option.bind_some,Option.bind_some]
 show Option.bind (g_spec_HexText _) _=_
 rw[show ((n.toNat:Nat):Int)=n by omega,wU32 h0 h1,spec_hex h0 h1,Option.bind_some,show (hexD n.toNat != hexD n.toNat)=false by simp,cond_false]
theorem sh_tot {s:List UInt8} (hl:s.length<=8):∀ (j k i:Nat) (n:Int),i+j=s.length->j < k->0<=n->n < ((16 ^ i:Nat):Int) →
  Tot (g_spec_ReadHex_l0 s k n (i:Int)) λ r=>match r with | .inl m=>True | .inr p=>p=(0,false):=by
 intro j
 induction j with
 | zero =>
  intro k i n hij hk h0 h1
  obtain ⟨k,rfl⟩:∃ k',k=k'+1:=⟨k-1,by omega⟩
  rw[g_spec_ReadHex_l0,decide_eq_false (by omega),cond_false]
  exact Tot.some trivial
 | succ j ih =>
  intro k i n hij hk h0 h1
  obtain ⟨k,rfl⟩:∃ k',k=k'+1:=⟨k-1,by omega⟩
  have hp:16 ^ i<=16 ^ 7:=Nat.pow_le_pow_right (by decide) (by omega)
  have hs:16 ^ (i+1)=16 ^ i*16:=Nat.pow_succ ..
  have hi:idxS s (i:Int)=some (s[i].toNat:Int):=idxS_nat (by omega)
  have hbt:s[i].toNat < 256:=s[i].toNat_lt
  have hnx:IntKind.wrap .i64 ((i:Int)+1)=((i+1:Nat):Int):=by rw[wI64 (by omega) (by omega)];rfl
  have go:∀ m:Int,0<=m->m < ((16 ^ i*16:Nat):Int)->Tot (g_spec_ReadHex_l0 s k m ((i+1:Nat):Int)) λ r=>match r with | .inl m=>True | .inr p=>p=(0,false) :=
   λ m q0 q1=>ih k (i+1) m (by omega) (by omega) q0 (by rw[hs];exact q1)
  clear hs
  generalize 16 ^ i=P at hp h1 go
  have h10:n<=268435456:=by omega
  rw[g_spec_ReadHex_l0,decide_eq_true (by omega),cond_true,hi,Option.bind_some,l01Digit_eq (by omega) (by omega),Option.bind_some,hnx]
  by_cases hd:48<=(s[i].toNat:Int)/\(s[i].toNat:Int)<=57
  ·rw[decide_eq_true hd,cond_true,Option.bind_some,Option.bind_some]
   show Tot (g_spec_ReadHex_l0 s k _ _) _
   rw[wI64 (x:=16*n) (by omega) (by omega),wI64 (x:=(s[i].toNat:Int)) (by omega) (by omega),wI64 (x:=16*n+_) (by omega) (by omega),wI64 (x:=_-48) (by omega) (by omega)]
   exact go _ (by omega) (by omega)
  ·rw[decide_eq_false hd,cond_false,Option.bind_some,l01In_eq,Option.bind_some,wI64 (x:=(s[i].toNat:Int)) (by omega) (by omega)]
   by_cases hx:97<=(s[i].toNat:Int)/\(s[i].toNat:Int)<=102
   ·rw[decide_eq_true hx,cond_true,Option.bind_some,Option.bind_some]
    show Tot (g_spec_ReadHex_l0 s k _ _) _
    rw[wI64 (x:=16*n) (by omega) (by omega),wI64 (x:=(s[i].toNat:Int)) (by omega) (by omega),wI64 (x:=16*n+_) (by omega) (by omega),wI64 (x:=_-87) (by omega) (by omega)]
    exact go _ (by omega) (by omega)
   ·rw[decide_eq_false hx,cond_false,Option.bind_some]
    exact Tot.some rfl
def RhOk (s:List UInt8) (r:Int×Bool):Prop:=(r.2=true->0<=r.1/\r.1 < 4294967296/\hexD r.1.toNat=s)/\(r.2=false->r=(0,false))
theorem rhOk_no (s:List UInt8):RhOk s (0,false):=⟨(λ h=>nomatch h),λ _=>rfl⟩
theorem spec_rh_tot (s:List UInt8):Tot (g_spec_ReadHex s) (RhOk s):=by
 unfold g_spec_ReadHex
 rw[l01In_eq,Option.bind_some]
 refine Tot.cond (λ _=>Tot.some (rhOk_no s)) λ hc => ?_
 have hl:1<=(s.length:Int)/\(s.length:Int)<=8:=by simpa using hc
 obtain ⟨r,hr,hq⟩:=sh_tot (s:=s) (by omega) s.length bigK 0 0 (by omega) (by unfold bigK;omega) (by omega) (by decide)
 rw[show g_spec_ReadHex_l0 s bigK 0 0=some r from hr,Option.bind_some]
 match r,hq with
 | .inr p,hq =>
  obtain rfl:p=(0,false):=hq
  exact Tot.some (rhOk_no s)
 | .inl m,hq =>
  show Tot (Option.bind (g_spec_HexText _) _) _
  obtain ⟨q0,q1⟩:=wU32_bd m
  refine Tot.bindE (spec_hex q0 q1) (Tot.cond (λ _=>Tot.some (rhOk_no s)) λ hc=>Tot.some ⟨λ _=>⟨q0,q1,?_⟩,λ h=>nomatch h⟩)
  simpa using hc
theorem lowD {d:Nat} (h:10<=d) (h2:d < 16):orI .u8 ((87+d:Nat):Int) 32=((87+d:Nat):Int):=by
 match d,h,h2 with
 | 10,_,_=>decide
 | 11,_,_=>decide
 | 12,_,_=>decide
 | 13,_,_=>decide
 | 14,_,_=>decide
 | 15,_,_=>decide
 | n+16,_,h=>exact absurd h (by omega)
theorem uh_step {s:List UInt8} {k i d:Nat} {n:Int} (hs:s[i]? = some (hexC d)) (hd:d < 16) (h0:0<=n) (h1:16*n+d<=4294967295) (hi:s.length<=1048576) :
  g_istrconv_ParseUint_l0 16 false 1152921504606846976 4294967295 (bsOf s) ((bsOf s).length:Int) (k+1) false n (i:Int)
   = g_istrconv_ParseUint_l0 16 false 1152921504606846976 4294967295 (bsOf s) ((bsOf s).length:Int) k false (16*n+d) ((i+1:Nat):Int):=by
 have hl:i < s.length:=(List.getElem?_eq_some_iff.mp hs).1
 have hv:=getI_bs hs
 rw[hexC_nat hd]at hv
 rw[g_istrconv_ParseUint_l0,decide_eq_true (by rw[bsOf_len];omega),cond_true,hv,Option.bind_some]
 have hnx:IntKind.wrap .i64 ((i:Int)+1)=((i+1:Nat):Int):=by rw[wI64 (by omega) (by omega)];rfl
 have fin:∀ {f:(Bool×Int) ⊕ (Int×Int)->Option ((Bool×Int) ⊕ (Int×Int))},f (.inl (false,16*n+d))=g_istrconv_ParseUint_l0 16 false 1152921504606846976 4294967295 (bsOf s) ((bsOf s).length:Int) k false (16*n+d) ((i+1:Nat):Int) →
   Option.bind (cond (decide ((d:Int) ≥ (IntKind.wrap .u8 16))) (some (.inr (0,2))) (cond (decide (n ≥ 1152921504606846976)) (some (.inr (4294967295,1))) ((cond (decide ((IntKind.wrap .u64 ((IntKind.wrap .u64 (n*(IntKind.wrap .u64 16)))+(IntKind.wrap .u64 (d:Int)))) < (IntKind.wrap .u64 (n*(IntKind.wrap .u64 16))))) (some true) (some (decide ((IntKind.wrap .u64 ((IntKind.wrap .u64 (n*(IntKind.wrap .u64 16)))+(IntKind.wrap .u64 (d:Int)))) > 4294967295))):Option (Bool)).bind λ v_63=>cond v_63 (some (.inr (4294967295,1))) (some (.inl (false,IntKind.wrap .u64 ((IntKind.wrap .u64 (n*(IntKind.wrap .u64 16)))+(IntKind.wrap .u64 (d:Int)))))))):Option ((Bool×Int) ⊕ (Int×Int))) f
    = g_istrconv_ParseUint_l0 16 false 1152921504606846976 4294967295 (bsOf s) ((bsOf s).length:Int) k false (16*n+d) ((i+1:Nat):Int):=by
  intro f hf
  rw[show IntKind.wrap .u8 16=16 from by decide,show IntKind.wrap .u64 16=16 from by decide,wU64 (x:=n*16) (by omega) (by omega),wU64 (x:=(d:Int)) (by omega) (by omega),wU64 (x:=n*16+d) (by omega) (by omega),
   decide_eq_false (by omega),cond_false,decide_eq_false (by omega),cond_false,decide_eq_false (by omega),cond_false,decide_eq_false (by omega),Option.bind_some,cond_false,Option.bind_some,show n*16+(d:Int)=16*n+d by omega]
  exact hf
 by_cases h10:d < 10
 ·rw[if_pos h10,show ((((48+d:Nat):Int))==95)=false by rw[beq_eq_false_iff_ne];omega,cond_false,Option.bind_some,cond_false,decide_eq_true (by omega),cond_true,decide_eq_true (by omega),Option.bind_some,cond_true,Option.bind_some,
   show (((48+d:Nat):Int)-48)=(d:Int) by omega,wU8 (by omega) (by omega)]
  show Option.bind (cond _ _ _) _=_
  refine fin ?_
  show g_istrconv_ParseUint_l0 _ _ _ _ _ _ _ _ _ _=_
  rw[hnx]
 ·rw[if_neg h10,show ((((87+d:Nat):Int))==95)=false by rw[beq_eq_false_iff_ne];omega,cond_false,Option.bind_some,cond_false,decide_eq_true (by omega),cond_true,decide_eq_false (by omega),Option.bind_some,cond_false]
  unfold g_istrconv_lower
  rw[lowD (by omega) hd,Option.bind_some,decide_eq_true (by omega),cond_true,Option.bind_some,decide_eq_true (by omega),Option.bind_some,cond_true,Option.bind_some,Option.bind_some,
   show (((87+d:Nat):Int)-97)=(d:Int)-10 by omega,wU8 (x:=(d:Int)-10) (by omega) (by omega),show (d:Int)-10+10=d by omega,wU8 (by omega) (by omega)]
  show Option.bind (cond _ _ _) _=_
  refine fin ?_
  show g_istrconv_ParseUint_l0 _ _ _ _ _ _ _ _ _ _=_
  rw[hnx]
theorem uh_run:∀ (u k:Nat) (s rest:List UInt8),s=hexD u++rest->s.length<=1048576->u < 4294967296 →
  g_istrconv_ParseUint_l0 16 false 1152921504606846976 4294967295 (bsOf s) ((bsOf s).length:Int) (k+(hexD u).length) false 0 0
   = g_istrconv_ParseUint_l0 16 false 1152921504606846976 4294967295 (bsOf s) ((bsOf s).length:Int) k false u (((hexD u).length:Nat):Int):=by
 intro u
 induction u using Nat.strongRecOn with
 | _ u ih =>
  intro k s rest hs hl hu
  by_cases h10:u < 16
  ·have e:=hexD_low h10
   rw[e]at hs ⊢
   have hat:s[0]? = some (hexC u):=by rw[hs];simp
   have:=uh_step (k:=k) (n:=0) hat h10 (by omega) (by omega) hl
   rw[List.length_singleton]
   refine this.trans ?_
   congr 1
   omega
  ·have e:=hexD_high h10
   rw[e]at hs ⊢
   have hat:s[(hexD (u / 16)).length]? = some (hexC (u % 16)):=by
    rw[hs,List.append_assoc,List.getElem?_append_right (by omega)]
    simp
   rw[List.length_append,List.length_singleton,show k+((hexD (u / 16)).length+1)=(k+1)+(hexD (u / 16)).length by omega,
    ih (u / 16) (by omega) (k+1) s (hexC (u % 16)::rest) (by rw[hs];simp) hl (by omega),
    uh_step hat (by omega) (by omega) (by omega) hl]
   congr 1
   omega
theorem pu_full {n:Int} (h0:0<=n) (h1:n < 4294967296):g_istrconv_ParseUint (hexD n.toNat) 16 32=some (n,0):=by
 have hl:=hexD_len 7 n.toNat (by omega)
 have hp:=hexD_pos n.toNat
 unfold g_istrconv_ParseUint
 have he:(hexD n.toNat==[])=false:=by
  rw[beq_eq_false_iff_ne];intro h;rw[h]at hp;exact absurd hp (by decide)
 rw[he,cond_false]
 show Option.bind (Option.bind (s2b (hexD n.toNat)) _) _=_
 obtain ⟨j,hj⟩:=fuel_split (a:=(hexD n.toNat).length) (by omega)
 have hr:=uh_run n.toNat (j+1) (hexD n.toNat) [] (by simp) (by omega) (by omega)
 rw[<-hj]at hr
 rw[s2b_eq (by omega),Option.bind_some]
 show Option.bind (Option.bind (g_istrconv_ParseUint_l0 16 false 1152921504606846976 4294967295 (bsOf (hexD n.toNat)) ((bsOf (hexD n.toNat)).length:Int) bigK false 0 0) _) _=_
 rw[hr,g_istrconv_ParseUint_l0,decide_eq_false (by rw[bsOf_len];omega),cond_false,Option.bind_some,Option.bind_some]
 show some _=some _
 congr 1
 exact Prod.ext (by show ((n.toNat:Nat):Int)=n;omega) rfl
theorem impl_rh_tot {s:List UInt8} (hs:s.length<=1048576):Tot (g_impl_ReadHex s) (RhOk s):=by
 unfold g_impl_ReadHex
 refine Tot.bind (Q:=λ _=>True) ?_ λ y _ => ?_
 ·unfold g_strconv_ParseUint
  refine Tot.bind (pu_tot hs (.inr ⟨rfl,rfl⟩)) λ y hy=>Tot.cond (λ h => ?_) λ _=>Tot.some trivial
  exact Tot.bindE (toErr_eq hs hy (by simpa using h)) (Tot.some trivial)
 ·obtain ⟨q0,q1⟩:=wU32_bd y.1
  refine Tot.bind (Q:=λ c=>c=false->hexD (IntKind.wrap .u32 y.1).toNat=s) ?_ λ c hc => ?_
  ·refine Tot.cond (λ _=>Tot.some λ h=>nomatch h) λ _=>Tot.bindE (impl_hex q0 q1) (Tot.some λ h => ?_)
   simpa using h
  ·exact Tot.cond (λ _=>Tot.some (rhOk_no s)) λ h=>Tot.some ⟨λ _=>⟨q0,q1,hc h⟩,λ h=>nomatch h⟩
theorem impl_rh_full {n:Int} (h0:0<=n) (h1:n < 4294967296):g_impl_ReadHex (hexD n.toNat)=some (n,true):=by
 unfold g_impl_ReadHex g_strconv_ParseUint
 rw[pu_full h0 h1,Option.bind_some]
 show Option.bind (some (n,0)) _=_
 rw[Option.bind_some,show (!((0:Int)==0))=false from rfl,cond_false,wU32 h0 h1,impl_hex h0 h1,Option.bind_some,Option.bind_some,show (hexD n.toNat != hexD n.toNat)=false by simp,cond_false]
def hexV (s:List UInt8):Int×Bool:=(g_spec_ReadHex s).getD (0,false)
theorem spec_rh (s:List UInt8):g_spec_ReadHex s=some (hexV s):=by
 obtain ⟨r,e,_⟩:=spec_rh_tot s
 unfold hexV;rw[e];rfl
theorem hexV_ok (s:List UInt8):RhOk s (hexV s):=by
 obtain ⟨r,e,h⟩:=spec_rh_tot s
 unfold hexV;rw[e];exact h
theorem impl_rh {s:List UInt8} (hs:s.length<=1048576):g_impl_ReadHex s=some (hexV s):=by
 obtain ⟨r,e,h⟩:=impl_rh_tot hs
 have hd:=hexV_ok s
 have es:=spec_rh s
 rw[e]
 congr 1
 cases hr:r.2 with
 | true =>
  obtain ⟨q0,q1,q2⟩:=h.1 hr
  have:=spec_rh_full q0 q1
  rw[q2,es]at this
  rw[Option.some.inj this]
  exact Prod.ext rfl hr
 | false =>
  cases hv:(hexV s).2 with
  | false=>rw[h.2 hr,hd.2 hv]
  | true =>
   obtain ⟨q0,q1,q2⟩:=hd.1 hv
   have:=impl_rh_full q0 q1
   rw[q2,e]at this
   rw[Option.some.inj this]at hr
   exact nomatch hr
end Go.Proofs.YtgfamepnkhpemaaGreatDoor
namespace Go.Proofs.YtgfamepnkhpemaaGreatDoor
open Go Go.Fm
def nameCells (t:Int):List Int->List Int
 | []=>[]
 | f::r=>(orI .u32 (IntKind.wrap .u32 (f*16)) t)::r.map λ f=>orI .u32 (IntKind.wrap .u32 (f*16)) 0
theorem cells_l0 {fs:List Int} (hl:fs.length<=24):∀ (k n:Nat) (t:Int) (out:List Int),n<=fs.length->fs.length-n < k->out.length=n->(1<=n->t=0) →
  g_impl_CellsOf_l0 fs (fs.length:Int) k t out n=some (out++nameCells t (fs.drop n)):=by
 intro k
 induction k with
 | zero=>intro n t out h0 h1 h2 h3;omega
 | succ k ih =>
  intro n t out h0 h1 h2 h3
  unfold g_impl_CellsOf_l0
  by_cases hn:n < fs.length
  ·rw[decide_eq_true (by omega),getI_nat,List.getElem?_eq_getElem hn,List.drop_eq_getElem_cons hn]
   simp only[cond_true,Option.bind_some]
   rw[app_eq (by simp;omega),Option.bind_some,wI64 (by omega) (by omega),show ((n:Int)+1)=((n+1:Nat):Int) by omega,ih (n+1) 0 _ (by omega) (by omega) (by simp[h2]) (λ _=>rfl)]
   congr 1
   rw[List.append_assoc]
   congr 1
   simp only[nameCells,List.singleton_append]
   congr 1
   cases fs.drop (n+1) with
   | nil=>rfl
   | cons x r=>rfl
  ·rw[decide_eq_false (by omega),cond_false,List.drop_eq_nil_of_le (by omega)]
   simp[nameCells]
end Go.Proofs.YtgfamepnkhpemaaGreatDoor
namespace Go.Proofs.YtgfamepnkhpemaaGreatDoor
open Go Go.Fm
def raw (v:Int):GItem:=⟨0,[],0,false,v⟩
end Go.Proofs.YtgfamepnkhpemaaGreatDoor
namespace Go.Proofs.YtgfamepnkhpemaaGreatDoor
open Go Go.Fm
end Go.Proofs.YtgfamepnkhpemaaGreatDoor
