import Derived.Test.YtgfamepnkhpemaaGreatDoorCS
import Derived.Shelf.Strconv.Itoa3
import Derived.Shelf.Strings.OnBuilder
set_option linter.all false
namespace Go.Proofs.YtgfamepnkhpemaaGreatDoor
open Go Go.Fm
set_option maxRecDepth 100000
abbrev Bs:=List UInt8
structure GL01Cur where
 b:List Int
 i:Int
 h:Int
 deriving DecidableEq,Inhabited
structure GItem where
 Kind:Int
 Name:Bs
 N:Int
 Hex:Bool
 Raw:Int
 deriving DecidableEq,Inhabited
structure GKey where
 Op:Int
 Item:GItem
 deriving DecidableEq,Inhabited
structure GEd where
 Left:List GItem
 Right:List GItem
 Cut:List GItem
 deriving DecidableEq,Inhabited
def GL01Cur.cs (x:GL01Cur):List CV:=[.imm 1 x.b.length (x.b.flatMap (eI .u8)), .int .i64 x.i, .int .i64 x.h]
def GItem.cs (x:GItem):List CV:=[.int .i64 x.Kind, .str x.Name, .int .i32 x.N, .bool x.Hex, .int .u32 x.Raw]
def GKey.cs (x:GKey):List CV:=[.int .i64 x.Op, .int .i64 x.Item.Kind, .str x.Item.Name, .int .i32 x.Item.N, .bool x.Item.Hex, .int .u32 x.Item.Raw]
def GEd.cs (x:GEd):List CV:=[.imm 5 x.Left.length (x.Left.flatMap GItem.cs), .imm 5 x.Right.length (x.Right.flatMap GItem.cs), .imm 5 x.Cut.length (x.Cut.flatMap GItem.cs)]
instance:StTy:=⟨λ n=>match n with|0=>GL01Cur|1=>GItem|2=>GKey|3=>GEd|_=>Unit,λ n=>match n with|0=>3|1=>5|2=>6|3=>3|_=>0,lkA [(41,3),(50,1),(52,2),(110,0)],185⟩
noncomputable instance:StCs:=⟨λ n=>match n with|0=>GL01Cur.cs|1=>GItem.cs|2=>GKey.cs|3=>GEd.cs|_=>λ _=>[]⟩
noncomputable def GL01Cur.lv (x:GL01Cur):List TC:=[.imm (.int .u8) x.b, .int .i64 x.i, .int .i64 x.h]
noncomputable def GL01Cur.of:List TC->Option GL01Cur
 | [c0,c1,c2]=>(tImm (.int .u8) c0).bind λ x0=>(tInt .i64 c1).bind λ x1=>(tInt .i64 c2).bind λ x2=>some ⟨x0,x1,x2⟩
 | _=>none
theorem GL01Cur.made {l:List TC} {v:GL01Cur} (h:GL01Cur.of l=some v):CRs l v.lv:=by
 match l,h with
 | [c0,c1,c2],h =>
  obtain ⟨x0,e0,h⟩:=bS h
  obtain ⟨x1,e1,h⟩:=bS h
  obtain ⟨x2,e2,h⟩:=bS h
  cases h
  exact ⟨tImm_cr e0,tInt_cr e1,tInt_cr e2,trivial⟩
noncomputable def GItem.lv (x:GItem):List TC:=[.int .i64 x.Kind, .str x.Name, .int .i32 x.N, .bool x.Hex, .int .u32 x.Raw]
noncomputable def GItem.of:List TC->Option GItem
 | [c0,c1,c2,c3,c4]=>(tInt .i64 c0).bind λ x0=>(tStr c1).bind λ x1=>(tInt .i32 c2).bind λ x2=>(tBool c3).bind λ x3=>(tInt .u32 c4).bind λ x4=>some ⟨x0,x1,x2,x3,x4⟩
 | _=>none
theorem GItem.made {l:List TC} {v:GItem} (h:GItem.of l=some v):CRs l v.lv:=by
 match l,h with
 | [c0,c1,c2,c3,c4],h =>
  obtain ⟨x0,e0,h⟩:=bS h
  obtain ⟨x1,e1,h⟩:=bS h
  obtain ⟨x2,e2,h⟩:=bS h
  obtain ⟨x3,e3,h⟩:=bS h
  obtain ⟨x4,e4,h⟩:=bS h
  cases h
  exact ⟨tInt_cr e0,tStr_cr e1,tInt_cr e2,tBool_cr e3,tInt_cr e4,trivial⟩
noncomputable def GKey.lv (x:GKey):List TC:=[.int .i64 x.Op, .int .i64 x.Item.Kind, .str x.Item.Name, .int .i32 x.Item.N, .bool x.Item.Hex, .int .u32 x.Item.Raw]
noncomputable def GKey.of:List TC->Option GKey
 | [c0,c1,c2,c3,c4,c5]=>(tInt .i64 c0).bind λ x0=>(tInt .i64 c1).bind λ x1=>(tStr c2).bind λ x2=>(tInt .i32 c3).bind λ x3=>(tBool c4).bind λ x4=>(tInt .u32 c5).bind λ x5=>some ⟨x0,⟨x1,x2,x3,x4,x5⟩⟩
 | _=>none
theorem GKey.made {l:List TC} {v:GKey} (h:GKey.of l=some v):CRs l v.lv:=by
 match l,h with
 | [c0,c1,c2,c3,c4,c5],h =>
  obtain ⟨x0,e0,h⟩:=bS h
  obtain ⟨x1,e1,h⟩:=bS h
  obtain ⟨x2,e2,h⟩:=bS h
  obtain ⟨x3,e3,h⟩:=bS h
  obtain ⟨x4,e4,h⟩:=bS h
  obtain ⟨x5,e5,h⟩:=bS h
  cases h
  exact ⟨tInt_cr e0,tInt_cr e1,tStr_cr e2,tInt_cr e3,tBool_cr e4,tInt_cr e5,trivial⟩
noncomputable def GEd.lv (x:GEd):List TC:=[.imm (.st 1) x.Left, .imm (.st 1) x.Right, .imm (.st 1) x.Cut]
noncomputable def GEd.of:List TC->Option GEd
 | [c0,c1,c2]=>(tImm (.st 1) c0).bind λ x0=>(tImm (.st 1) c1).bind λ x1=>(tImm (.st 1) c2).bind λ x2=>some ⟨x0,x1,x2⟩
 | _=>none
theorem GEd.made {l:List TC} {v:GEd} (h:GEd.of l=some v):CRs l v.lv:=by
 match l,h with
 | [c0,c1,c2],h =>
  obtain ⟨x0,e0,h⟩:=bS h
  obtain ⟨x1,e1,h⟩:=bS h
  obtain ⟨x2,e2,h⟩:=bS h
  cases h
  exact ⟨tImm_cr e0,tImm_cr e1,tImm_cr e2,trivial⟩
noncomputable instance:Structs where
 leaves:=λ n=>match n with|0=>GL01Cur.lv|1=>GItem.lv|2=>GKey.lv|3=>GEd.lv|_=>λ _=>[]
 make:=λ n=>match n with|0=>GL01Cur.of|1=>GItem.of|2=>GKey.of|3=>GEd.of|_=>λ _=>none
 plain:=λ n=>match n with|0=>false|1=>true|2=>true|3=>false|_=>false
 lt:=λ n=>match n with|0=>[(.int .u8), .bool, .bool]|1=>[.bool, .bool, .bool, .bool, .bool]|2=>[.bool, .bool, .bool, .bool, .bool, .bool]|3=>[(.st 1),(.st 1),(.st 1)]|_=>[]
 len:=λ n v=>match n,v with|0,_=>rfl|1,_=>rfl|2,_=>rfl|3,_=>rfl|_+4,_=>rfl
 conc:=λ n v=>match n,v with|0,_=>rfl|1,_=>rfl|2,_=>rfl|3,_=>rfl|_+4,_=>rfl
 pure:=λ n v=>match n,v with|0,_=>rfl|1,_=>rfl|2,_=>rfl|3,_=>rfl|_+4,_=>rfl
 made:=λ n l v h=>match n,v,h with|0,v,h=>GL01Cur.made h|1,v,h=>GItem.made h|2,v,h=>GKey.made h|3,v,h=>GEd.made h|_+4,_,h=>nomatch h
 flat:=λ n v h=>match n,v,h with|0,_,h=>nomatch h|1,_,_=>rfl|2,_,_=>rfl|3,_,h=>nomatch h|_+4,_,h=>nomatch h
noncomputable instance:Tabs:=⟨λ g=>match g with|0=>some ⟨.int .u64,gtPow10⟩|5=>some ⟨.int .u8,gtBruijn⟩|_=>none,λ g=>match g with|0=>rfl|1=>rfl|2=>rfl|3=>rfl|4=>rfl|5=>rfl|_+6=>rfl⟩
abbrev K0:Ty:=.int .u8
abbrev K1:Ty:=.list K0
abbrev K2:Ty:=.bool
abbrev K3:Ty:=.int .i64
abbrev K4:Ty:=.st 0
abbrev K5:Ty:=.str
abbrev K6:Ty:=.int .i32
abbrev K7:Ty:=.int .u32
abbrev K8:Ty:=.st 1
abbrev K9:Ty:=.list K8
abbrev K10:Ty:=.list K5
abbrev K11:Ty:=.list K3
abbrev K12:Ty:=.list K7
abbrev K13:Ty:=.st 2
abbrev K14:Ty:=.list K13
abbrev K15:Ty:=.list K14
abbrev K16:Ty:=.list K11
abbrev K17:Ty:=.st 3
abbrev K18:Ty:=.list K9
abbrev K19:Ty:=.int .u64
end Go.Proofs.YtgfamepnkhpemaaGreatDoor
namespace Go.Proofs.YtgfamepnkhpemaaGreatDoor
open Go Go.Fm
set_option maxRecDepth 1000000
def g_laws_big (code_1:List Int):Option Bool:=some (decide ((code_1.length:Int) > 1048576))
def g_spec_l01New_l0 (code_1:List Int):Nat->Int->Int->Option Int
 | 0,_,_=>none
 | k+1,h_4,i_5=>(cond (decide (i_5 < (code_1.length:Int))) (some (decide (i_5 < 4000))) (some false):Option (Bool)).bind λ v_7=>cond v_7 ((getI code_1 i_5).bind λ v_8=>g_spec_l01New_l0 code_1 k (andI .i64 (IntKind.wrap .i64 ((IntKind.wrap .i64 ((IntKind.wrap .i64 (h_4*131))+(IntKind.wrap .i64 v_8)))+7)) 1073741823) (IntKind.wrap .i64 (i_5+1))) (some h_4)
def g_spec_l01New (code_1:List Int):Option GL01Cur:=((g_spec_l01New_l0 code_1 bigK (IntKind.wrap .i64 (711711+(code_1.length:Int))) 0).bind λ h_6=>some h_6:Option (Int)).bind λ h_3=>some (⟨code_1,0,h_3⟩:GL01Cur)
def g_spec_l01Byte (c_1:GL01Cur):Option (Int×GL01Cur):=(cond (decide (c_1.i < (c_1.b.length:Int))) ((getI c_1.b c_1.i).bind λ v_6=>some (andI .i64 (IntKind.wrap .i64 ((andI .i64 (xorI .i64 ((IntKind.wrap .i64 ((IntKind.wrap .i64 (c_1.h*6364136223846793005))+1442695040888963407)) / 8589934592) ((IntKind.wrap .i64 ((IntKind.wrap .i64 (c_1.h*6364136223846793005))+1442695040888963407)) / 35184372088832)) 255)+(IntKind.wrap .i64 v_6))) 255,(⟨c_1.b,IntKind.wrap .i64 (c_1.i+1),IntKind.wrap .i64 ((IntKind.wrap .i64 (c_1.h*6364136223846793005))+1442695040888963407)⟩:GL01Cur))) (some (andI .i64 (xorI .i64 ((IntKind.wrap .i64 ((IntKind.wrap .i64 (c_1.h*6364136223846793005))+1442695040888963407)) / 8589934592) ((IntKind.wrap .i64 ((IntKind.wrap .i64 (c_1.h*6364136223846793005))+1442695040888963407)) / 35184372088832)) 255,(⟨c_1.b,c_1.i,IntKind.wrap .i64 ((IntKind.wrap .i64 (c_1.h*6364136223846793005))+1442695040888963407)⟩:GL01Cur))):Option ((Int×GL01Cur))).bind λ (x_4,x_5)=>some (x_4,x_5)
def g_spec_l01Below (n_1:Int) (c_2:GL01Cur):Option (Int×GL01Cur):=cond (decide (n_1<=0)) (some (0,c_2)) (cond (decide (n_1<=256)) ((g_spec_l01Byte c_2).bind λ y_5=>(remI .i64 y_5.1 n_1).bind λ v_6=>some (v_6,y_5.2)) ((g_spec_l01Byte c_2).bind λ y_7=>(g_spec_l01Byte y_7.2).bind λ y_8=>(g_spec_l01Byte y_8.2).bind λ y_9=>(g_spec_l01Byte y_9.2).bind λ y_10=>(remI .i64 (IntKind.wrap .i64 ((IntKind.wrap .i64 ((IntKind.wrap .i64 ((IntKind.wrap .i64 (y_7.1*16777216))+(IntKind.wrap .i64 (y_8.1*65536))))+(IntKind.wrap .i64 (y_9.1*256))))+y_10.1)) n_1).bind λ v_11=>some (v_11,y_10.2)))
def g_spec_l01Once (n_1:Int) (c_2:GL01Cur):Option (Bool×GL01Cur):=(g_spec_l01Below n_1 c_2).bind λ y_5=>some ((y_5.1==0),y_5.2)
def g_spec_l01Pick (list_1:List Bs) (c_2:GL01Cur):Option (Bs×GL01Cur):=(g_spec_l01Below (list_1.length:Int) c_2).bind λ y_5=>(getI list_1 y_5.1).bind λ v_6=>some (v_6,y_5.2)
def g_spec_l13G (name_1:Bs):Option GItem:=some (⟨3,name_1,0,false,0⟩:GItem)
def g_spec_l13N (n_1:Int):Option GItem:=some (⟨7,[],IntKind.wrap .i32 n_1,false,0⟩:GItem)
def g_spec_l13Y (name_1:Bs):Option GItem:=some (⟨1,name_1,0,false,0⟩:GItem)
def g_spec_l08Names:Option (List Bs):=some [[100,117,112],[100,114,111,112],[111,118,101,114],[110,105,112],[115,119,97,112],[43],[45],[42],[97,110,100],[111,114],[50,42],[50,47],[47,109,111,100],[64],[33],[97],[97,33],[101,109,105,116],[107,101,121],[112,117,115,104],[112,111,112],[105],[46],[110,111,112]]
def g_spec_l01In (x_1:Int) (a_2:Int) (b_3:Int):Option Bool:=cond (decide (x_1 ≥ a_2)) (some (decide (x_1<=b_3))) (some false)
def g_spec_PrimName (k_1:Int):Option Bs:=(g_spec_l08Names).bind λ y_3=>(g_spec_l01In k_1 0 (IntKind.wrap .i64 ((y_3.length:Int)-1))).bind λ y_4=>cond (!y_4) (some []) ((getI y_3 k_1).bind λ v_5=>some v_5)
def g_spec_l13Word (c_1:GL01Cur):Option ((List GItem)×GL01Cur):=(g_spec_l01Below 9 c_1).bind λ y_4=>cond (y_4.1==0) ((g_spec_l13G [100,117,112]).bind λ y_5=>(g_spec_l13G [42]).bind λ y_6=>some ([y_5,y_6],y_4.2)) (cond (y_4.1==1) ((g_spec_l13G [105,102]).bind λ y_7=>(g_spec_l13G [100,114,111,112]).bind λ y_8=>(g_spec_l13G [116,104,101,110]).bind λ y_9=>some ([y_7,y_8,(⟨8,[],7,false,0⟩:GItem),y_9],y_4.2)) (cond (y_4.1==2) ((g_spec_l13G [102,111,114]).bind λ y_10=>(g_spec_l13G [105]).bind λ y_11=>(g_spec_l13G [46]).bind λ y_12=>(g_spec_l13G [110,101,120,116]).bind λ y_13=>some ([(⟨8,[],3,false,0⟩:GItem),y_10,y_11,y_12,y_13],y_4.2)) (cond (y_4.1==3) ((g_spec_l01Below 9 y_4.2).bind λ y_14=>(g_spec_l13N y_14.1).bind λ y_15=>(g_spec_l13Y [100,117,112]).bind λ y_16=>(g_spec_l13Y [42]).bind λ y_17=>some ([y_15,y_16,y_17,(⟨4,[115,113,117,97,114,101],0,false,0⟩:GItem)],y_14.2)) (cond (y_4.1==4) ((g_spec_l01Pick [[103,111],[120],[97,116],[116,101,110],[110,105,120]] y_4.2).bind λ y_18=>(g_spec_l13G y_18.1).bind λ y_19=>some ([y_19],y_18.2)) (cond (y_4.1==5) ((g_spec_l13G [120]).bind λ y_20=>(g_spec_l13G [64]).bind λ y_21=>(g_spec_l13G [43]).bind λ y_22=>(g_spec_l13G [120]).bind λ y_23=>(g_spec_l13G [33]).bind λ y_24=>some ([y_20,y_21,(⟨8,[],1,false,0⟩:GItem),y_22,y_23,y_24],y_4.2)) ((g_spec_l01Below 24 y_4.2).bind λ y_25=>(g_spec_PrimName y_25.1).bind λ y_26=>(g_spec_l13G y_26).bind λ y_27=>some ([y_27],y_25.2)))))))
def g_spec_l01PickInt (list_1:List Int) (c_2:GL01Cur):Option (Int×GL01Cur):=(g_spec_l01Below (list_1.length:Int) c_2).bind λ y_5=>(getI list_1 y_5.1).bind λ v_6=>some (v_6,y_5.2)
def g_spec_l04Int (c_1:GL01Cur):Option (Int×GL01Cur):=(g_spec_l01Once 2 c_1).bind λ y_4=>cond y_4.1 ((g_spec_l01Below 200 y_4.2).bind λ y_5=>some (IntKind.wrap .i32 (IntKind.wrap .i64 (y_5.1-40)),y_5.2)) ((g_spec_l01PickInt [0,67108863,67108864,(-67108864),(-67108865),2147483647,(-2147483648),1000000,(-1)] y_4.2).bind λ y_6=>some (IntKind.wrap .i32 y_6.1,y_6.2))
def g_spec_l02All:Option Bs:=some [32,114,116,111,101,97,110,105,115,109,99,121,108,103,102,119,100,118,112,98,104,120,117,113,48,49,50,51,52,53,54,55,56,57,106,45,107,46,122,47,59,39,33,43,64,42,44,63]
def g_spec_LetterAt (k_1:Int):Option Int:=(g_spec_l01In k_1 0 47).bind λ y_3=>cond (!y_3) (some 0) ((g_spec_l02All).bind λ y_4=>(idxS y_4 k_1).bind λ v_5=>some v_5)
def g_spec_l02Name_l0 (n_10:Int):Nat->(List Int)->Int->GL01Cur->Option ((List Int)×GL01Cur)
 | 0,_,_,_=>none
 | k+1,out_11,i_12,x_13=>cond (decide (i_12 < n_10)) ((g_spec_l01Below 47 x_13).bind λ y_16=>(g_spec_LetterAt (IntKind.wrap .i64 (1+y_16.1))).bind λ y_17=>(app out_11 [y_17]).bind λ v_18=>g_spec_l02Name_l0 n_10 k v_18 (IntKind.wrap .i64 (i_12+1)) y_16.2) (some (out_11,x_13))
def g_spec_l02Name (c_1:GL01Cur):Option (Bs×GL01Cur):=(g_spec_l01Once 2 c_1).bind λ y_4=>cond y_4.1 ((g_spec_l01Pick [[100,117,112],[111,118,101,114],[115,113,117,97,114,101],[97,33],[50,42],[103,111],[45,105,102],[59],[63],[114,114,114,114,114,114,114],[114,116,111,101,97,110,105],[119,119,119,119,119,119],[113,113,113,113,113],[120]] y_4.2).bind λ y_5=>some (y_5.1,y_5.2)) ((g_spec_l01Below 9 y_4.2).bind λ y_6=>((g_spec_l02Name_l0 (IntKind.wrap .i64 (1+y_6.1)) bigK ([]:List Int) 0 y_6.2).bind λ (out_14,x_15)=>some (out_14,x_15):Option (((List Int)×GL01Cur))).bind λ (out_7,x_8)=>some (strOf out_7,x_8))
def g_spec_l04Some (c_1:GL01Cur):Option (GItem×GL01Cur):=(g_spec_l01Below 8 c_1).bind λ y_4=>cond (y_4.1==0) ((g_spec_l04Int y_4.2).bind λ y_5=>(g_spec_l01Once 3 y_5.2).bind λ y_6=>some ((⟨7,[],y_5.1,y_6.1,0⟩:GItem),y_6.2)) (cond (y_4.1==1) ((g_spec_l04Int y_4.2).bind λ y_7=>(g_spec_l01Once 3 y_7.2).bind λ y_8=>some ((⟨8,[],y_7.1,y_8.1,0⟩:GItem),y_8.2)) (cond (y_4.1==2) ((g_spec_l01Pick [[120],[97,116],[113,113,113,113],[116,101,110]] y_4.2).bind λ y_9=>(g_spec_l04Int y_9.2).bind λ y_10=>some ((⟨9,y_9.1,y_10.1,false,0⟩:GItem),y_10.2)) ((g_spec_l01Below 6 y_4.2).bind λ y_11=>(g_spec_l02Name y_11.2).bind λ y_12=>some ((⟨IntKind.wrap .i64 (1+y_11.1),y_12.1,0,false,0⟩:GItem),y_12.2))))
def g_spec_l01Word (c_1:GL01Cur):Option (Int×GL01Cur):=(g_spec_l01Below 4 c_1).bind λ y_4=>cond (y_4.1==0) ((g_spec_l01PickInt [0,1,2,31,32,255,256,2147483647,2147483648,4294967295,4294967294] y_4.2).bind λ y_5=>some (IntKind.wrap .u32 y_5.1,y_5.2)) (cond (y_4.1==1) ((g_spec_l01Below 300 y_4.2).bind λ y_6=>some (IntKind.wrap .u32 y_6.1,y_6.2)) ((g_spec_l01Below 65536 y_4.2).bind λ y_7=>(g_spec_l01Below 65536 y_7.2).bind λ y_8=>some (IntKind.wrap .u32 ((IntKind.wrap .u32 ((IntKind.wrap .u32 y_7.1)*65536))+(IntKind.wrap .u32 y_8.1)),y_8.2)))
def g_spec_l04Any (c_1:GL01Cur):Option (GItem×GL01Cur):=(g_spec_l04Some c_1).bind λ y_4=>((g_spec_l01Below 14 y_4.2).bind λ y_11=>cond (y_11.1==0) ((g_spec_l01Word y_11.2).bind λ y_12=>some (.inr (y_12.2,(⟨0,[],0,false,y_12.1⟩:GItem),y_4.1))) (cond (y_11.1==1) ((g_spec_l01Below 12 y_11.2).bind λ y_13=>some (.inl (y_13.2,(⟨0,[],0,false,0⟩:GItem),(⟨IntKind.wrap .i64 (y_13.1-1),y_4.1.Name,y_4.1.N,y_4.1.Hex,y_4.1.Raw⟩:GItem)))) (cond (y_11.1==2) ((g_spec_l01Pick [[],[65],[113,113,113,113,113],[115,113,117,97,114,101,115,113,117,97,114,101]] y_11.2).bind λ y_14=>some (.inl (y_14.2,(⟨0,[],0,false,0⟩:GItem),(⟨y_4.1.Kind,y_14.1,y_4.1.N,y_4.1.Hex,y_4.1.Raw⟩:GItem)))) (cond (y_11.1==3) ((g_spec_l01Below 3 y_11.2).bind λ y_15=>some (.inl (y_15.2,(⟨0,[],0,false,0⟩:GItem),(⟨y_4.1.Kind,y_4.1.Name,y_4.1.N,y_4.1.Hex,IntKind.wrap .u32 y_15.1⟩:GItem)))) (some (.inl (y_11.2,(⟨0,[],0,false,0⟩:GItem),y_4.1)))))):Option ((GL01Cur×GItem×GItem) ⊕ (GL01Cur×GItem×GItem))).bind λ o=>match o with | .inl (x_5,x_6,x_7)=>some (x_7,x_5) | .inr (x_8,x_9,x_10)=>some (x_9,x_8)
def g_spec_l13List_l1 (k_27:Int):Nat->(List GItem)->Int->GL01Cur->Option ((List GItem)×GL01Cur)
 | 0,_,_,_=>none
 | k+1,out_28,j_29,x_30=>cond (decide (j_29 < k_27)) ((g_spec_l13Word x_30).bind λ y_33=>(app out_28 y_33.1).bind λ v_34=>g_spec_l13List_l1 k_27 k v_34 (IntKind.wrap .i64 (j_29+1)) y_33.2) (some (out_28,x_30))
def g_spec_l13List_l0 (n_8:Int):Nat->(List GItem)->Int->GL01Cur->Option ((List GItem)×GL01Cur)
 | 0,_,_,_=>none
 | k+1,out_9,i_10,x_11=>cond (decide (i_10 < n_8)) ((((g_spec_l01Once 4 x_11).bind λ y_18=>cond y_18.1 ((g_spec_l01Pick [[120],[97,116]] y_18.2).bind λ y_19=>(g_spec_l01Below 100 y_19.2).bind λ y_20=>(app out_9 [(⟨9,y_19.1,IntKind.wrap .i32 y_20.1,false,0⟩:GItem)]).bind λ v_21=>some (v_21,y_20.2)) (some (out_9,y_18.2)):Option (((List GItem)×GL01Cur))).bind λ (out_16,x_17)=>(g_spec_l01Pick [[103,111],[116,101,110],[120],[114,117,110]] x_17).bind λ y_22=>(app out_16 [(⟨2,y_22.1,0,false,0⟩:GItem)]).bind λ v_23=>(g_spec_l01Below 4 y_22.2).bind λ y_24=>((g_spec_l13List_l1 y_24.1 bigK v_23 0 y_24.2).bind λ (out_31,x_32)=>some (out_31,x_32):Option (((List GItem)×GL01Cur))).bind λ (out_25,x_26)=>(g_spec_l01Once 8 x_26).bind λ y_35=>cond (!y_35.1) ((g_spec_l13G [59]).bind λ y_36=>(app out_25 [y_36]).bind λ v_37=>some (v_37,y_35.2)) (some (out_25,y_35.2)):Option (((List GItem)×GL01Cur))).bind λ (out_14,x_15)=>g_spec_l13List_l0 n_8 k out_14 (IntKind.wrap .i64 (i_10+1)) x_15) (some (out_9,x_11))
def g_spec_l13List (blocks_1:Int) (c_2:GL01Cur):Option ((List GItem)×GL01Cur):=(g_spec_l01Below 3 c_2).bind λ y_5=>((g_spec_l13List_l0 (IntKind.wrap .i64 (1+y_5.1)) bigK ([]:List GItem) 0 y_5.2).bind λ (out_12,x_13)=>some (out_12,x_13):Option (((List GItem)×GL01Cur))).bind λ (out_6,x_7)=>((g_spec_l01Below 6 x_7).bind λ y_40=>cond (y_40.1==0) ((g_spec_l01Below (IntKind.wrap .i64 (blocks_1+1)) y_40.2).bind λ y_41=>(g_spec_l13N y_41.1).bind λ y_42=>(g_spec_l13Y [108,111,97,100]).bind λ y_43=>(app out_6 [y_42,y_43]).bind λ v_44=>some (v_44,y_41.2)) (cond (y_40.1==1) ((g_spec_l13Y [101,109,112,116,121]).bind λ y_45=>(app out_6 [y_45]).bind λ v_46=>some (v_46,y_40.2)) (cond (y_40.1==2) ((g_spec_l04Any y_40.2).bind λ y_47=>(app out_6 [y_47.1]).bind λ v_48=>some (v_48,y_47.2)) (cond (y_40.1==3) ((g_spec_l01Below 24 y_40.2).bind λ y_49=>(g_spec_PrimName y_49.1).bind λ y_50=>(g_spec_l13Y y_50).bind λ y_51=>(app out_6 [y_51]).bind λ v_52=>some (v_52,y_49.2)) (some (out_6,y_40.2))))):Option (((List GItem)×GL01Cur))).bind λ (out_38,x_39)=>(g_spec_l01Below 12 x_39).bind λ y_53=>(g_spec_l13N y_53.1).bind λ y_54=>(g_spec_l01Pick [[103,111],[116,101,110],[120],[114,117,110],[110,105,120],[100,117,112]] y_53.2).bind λ y_55=>(g_spec_l13Y y_55.1).bind λ y_56=>(app out_38 [y_54,y_56]).bind λ v_57=>(g_spec_l13Y [46]).bind λ y_58=>(app v_57 [y_58]).bind λ v_59=>some (v_59,y_55.2)
def g_spec_l04List_l0 (n_8:Int):Nat->(List GItem)->Int->GL01Cur->Option ((List GItem)×GL01Cur)
 | 0,_,_,_=>none
 | k+1,out_9,i_10,x_11=>cond (decide (i_10 < n_8)) (((g_spec_l04Some x_11).bind λ y_16=>((g_spec_l01Once 9 y_16.2).bind λ y_19=>cond y_19.1 ((g_spec_l04Any y_19.2).bind λ y_20=>some (y_20.2,y_20.1)) (some (y_19.2,y_16.1)):Option ((GL01Cur×GItem))).bind λ (x_17,x_18)=>(app out_9 [x_18]).bind λ v_21=>some (v_21,x_17):Option (((List GItem)×GL01Cur))).bind λ (out_14,x_15)=>g_spec_l04List_l0 n_8 k out_14 (IntKind.wrap .i64 (i_10+1)) x_15) (some (out_9,x_11))
def g_spec_l04List (most_1:Int) (c_2:GL01Cur):Option ((List GItem)×GL01Cur):=(g_spec_l01Below most_1 c_2).bind λ y_5=>((g_spec_l04List_l0 y_5.1 bigK ([]:List GItem) 0 y_5.2).bind λ (out_12,x_13)=>some (out_12,x_13):Option (((List GItem)×GL01Cur))).bind λ (out_6,x_7)=>some (out_6,x_7)
def g_spec_l04Num (n_1:Int) (hex_2:Bool) (short_3:Int) (long_4:Int):Option (List Int):=(cond hex_2 (some 16) (some 0):Option (Int)).bind λ bit_6=>(cond (decide (n_1 ≥ (-67108864))) (some (decide (n_1<=67108863))) (some false):Option (Bool)).bind λ v_7=>cond v_7 (some [IntKind.wrap .u32 ((IntKind.wrap .u32 ((IntKind.wrap .u32 ((IntKind.wrap .u32 n_1)*32))+bit_6))+short_3)]) (some [IntKind.wrap .u32 (bit_6+long_4),IntKind.wrap .u32 n_1])
def g_spec_LetterOf_l0 (b_1:Int) (y_3:Bs):Nat->Int->Option (Unit ⊕ Int)
 | 0,_=>none
 | k+1,i_5=>cond (decide (i_5 < (y_3.length:Int))) ((idxS y_3 i_5).bind λ v_7=>cond (v_7==b_1) (some (.inr i_5)) (g_spec_LetterOf_l0 b_1 y_3 k (IntKind.wrap .i64 (i_5+1)))) (some (.inl ()))
def g_spec_LetterOf (b_1:Int):Option Int:=(g_spec_l02All).bind λ y_3=>((g_spec_LetterOf_l0 b_1 y_3 bigK 0).bind λ o=>match o with | .inl ()=>some (.inl ()) | .inr v_6=>some (.inr v_6):Option (Unit ⊕ Int)).bind λ o=>match o with | .inl ()=>some (-1) | .inr v_4=>some v_4
def g_spec_NameOk_l0 (s_1:Bs):Nat->Int->Option (Unit ⊕ Bool)
 | 0,_=>none
 | k+1,i_5=>cond (decide (i_5 < (s_1.length:Int))) ((idxS s_1 i_5).bind λ v_7=>(g_spec_LetterOf v_7).bind λ y_8=>cond (decide (y_8 < 1)) (some (.inr false)) (g_spec_NameOk_l0 s_1 k (IntKind.wrap .i64 (i_5+1)))) (some (.inl ()))
def g_spec_NameOk (s_1:Bs):Option Bool:=(g_spec_l01In (s_1.length:Int) 1 24).bind λ y_3=>cond (!y_3) (some false) (((g_spec_NameOk_l0 s_1 bigK 0).bind λ o=>match o with | .inl ()=>some (.inl ()) | .inr v_6=>some (.inr v_6):Option (Unit ⊕ Bool)).bind λ o=>match o with | .inl ()=>some true | .inr v_4=>some v_4)
def g_spec_WidthOf (k_1:Int):Option Int:=(g_spec_l01In k_1 0 7).bind λ y_3=>cond y_3 (some 4) ((g_spec_l01In k_1 8 15).bind λ y_4=>cond y_4 (some 5) ((g_spec_l01In k_1 16 47).bind λ y_5=>cond y_5 (some 7) (some 0)))
def g_spec_BitsOf (k_1:Int):Option Int:=(g_spec_WidthOf k_1).bind λ y_3=>cond (y_3==4) (some (IntKind.wrap .u32 k_1)) (cond (y_3==5) (some (IntKind.wrap .u32 (IntKind.wrap .i64 (k_1+8)))) (cond (y_3==7) (some (IntKind.wrap .u32 (IntKind.wrap .i64 (k_1+80)))) (some 0)))
def g_spec_l03One_l0 (s_1:Bs):Nat->Int->Int->Int->Option (Int×Int)
 | 0,_,_,_=>none
 | k+1,f_6,left_7,n_8=>cond (decide (n_8 < (s_1.length:Int))) ((idxS s_1 n_8).bind λ v_11=>(g_spec_LetterOf v_11).bind λ y_12=>(g_spec_WidthOf y_12).bind λ y_13=>cond (decide (y_13 > left_7)) (some (f_6,n_8)) ((g_spec_BitsOf y_12).bind λ y_14=>(shlI .i64 (IntKind.wrap .i64 y_14) (IntKind.wrap .u64 (IntKind.wrap .i64 (left_7-y_13)))).bind λ v_15=>g_spec_l03One_l0 s_1 k (IntKind.wrap .i64 (f_6+v_15)) (IntKind.wrap .i64 (left_7-y_13)) (IntKind.wrap .i64 (n_8+1)))) (some (f_6,n_8))
def g_spec_l03One (s_1:Bs):Option (Int×Int):=(g_spec_l03One_l0 s_1 bigK 0 28 0).bind λ (f_9,n_10)=>some (IntKind.wrap .u32 f_9,n_10)
def g_spec_Pack_l0:Nat->Bs->(List Int)->Option (List Int)
 | 0,_,_=>none
 | k+1,s_4,out_5=>cond (s_4 != []) ((g_spec_l03One s_4).bind λ y_7=>(app out_5 [y_7.1]).bind λ v_8=>(subL s_4 y_7.2 (s_4.length:Int)).bind λ v_9=>g_spec_Pack_l0 k v_9 v_8) (some out_5)
def g_spec_Pack (s_1:Bs):Option (List Int):=(g_spec_NameOk s_1).bind λ y_3=>cond (!y_3) (some ([]:List Int)) ((g_spec_Pack_l0 bigK s_1 ([]:List Int)).bind λ out_6=>some out_6)
def g_spec_l04Word_l0 (tag_1:Int):Nat->(List Int)->Int->Option (List Int)
 | 0,_,_=>none
 | k+1,out_6,i_7=>cond (decide (i_7 < (out_6.length:Int))) (((getI out_6 i_7).bind λ v_10=>(getI out_6 i_7).bind λ v_11=>cond (i_7==0) ((getI (out_6.set i_7.toNat (IntKind.wrap .u32 (v_10*16))) i_7).bind λ v_12=>(getI (out_6.set i_7.toNat (IntKind.wrap .u32 (v_10*16))) i_7).bind λ v_13=>some ((out_6.set i_7.toNat (IntKind.wrap .u32 (v_10*16))).set i_7.toNat (IntKind.wrap .u32 (v_12+tag_1)))) (some (out_6.set i_7.toNat (IntKind.wrap .u32 (v_10*16)))):Option ((List Int))).bind λ out_9=>g_spec_l04Word_l0 tag_1 k out_9 (IntKind.wrap .i64 (i_7+1))) (some out_6)
def g_spec_l04Word (tag_1:Int) (name_2:Bs):Option (List Int):=(g_spec_Pack name_2).bind λ y_4=>((g_spec_l04Word_l0 tag_1 bigK y_4 0).bind λ out_8=>some out_8:Option ((List Int))).bind λ out_5=>some out_5
def g_spec_l04Tag (kind_1:Int):Option Int:=cond (kind_1==1) (some 1) (cond (kind_1==2) (some 3) (cond (kind_1==3) (some 4) (cond (kind_1==4) (some 9) (cond (kind_1==5) (some 10) (cond (kind_1==6) (some 11) (some 0))))))
def g_spec_CellsOf (it_1:GItem):Option (List Int):=(cond (it_1.N==0) (cond (!it_1.Hex) (some (it_1.Raw==0)) (some false)) (some false):Option (Bool)).bind λ plain_3=>(cond (it_1.Kind==0) ((cond (it_1.Name==[]) (cond (it_1.N==0) (some (!it_1.Hex)) (some false)) (some false):Option (Bool)).bind λ v_5=>cond v_5 (some (.inr [it_1.Raw])) (some (.inl ()))) (cond (it_1.Kind==7) ((cond (it_1.Name==[]) (some (it_1.Raw==0)) (some false):Option (Bool)).bind λ v_6=>cond v_6 ((g_spec_l04Num it_1.N it_1.Hex 8 2).bind λ y_7=>some (.inr y_7)) (some (.inl ()))) (cond (it_1.Kind==8) ((cond (it_1.Name==[]) (some (it_1.Raw==0)) (some false):Option (Bool)).bind λ v_8=>cond v_8 ((g_spec_l04Num it_1.N it_1.Hex 6 5).bind λ y_9=>some (.inr y_9)) (some (.inl ()))) (cond (it_1.Kind==9) ((g_spec_l04Word 12 it_1.Name).bind λ y_10=>(cond ((y_10.length:Int)==1) (cond (!it_1.Hex) (some (it_1.Raw==0)) (some false)) (some false):Option (Bool)).bind λ v_11=>cond v_11 ((app y_10 [IntKind.wrap .u32 it_1.N]).bind λ v_12=>some (.inr v_12)) (some (.inl ()))) ((g_spec_l04Tag it_1.Kind).bind λ y_13=>(cond (decide (y_13 > 0)) (some plain_3) (some false):Option (Bool)).bind λ v_14=>cond v_14 ((g_spec_l04Word y_13 it_1.Name).bind λ y_15=>some (.inr y_15)) (some (.inl ())))))):Option (Unit ⊕ (List Int))).bind λ o=>match o with | .inl ()=>some ([]:List Int) | .inr v_4=>some v_4
def g_spec_Unparse_l0 (list_1:List GItem):Nat->(List Int)->Int->Option ((List Int) ⊕ ((List Int)×Bool))
 | 0,_,_=>none
 | k+1,out_7,i_8=>cond (decide (i_8 < (list_1.length:Int))) ((getI list_1 i_8).bind λ v_12=>(g_spec_CellsOf v_12).bind λ y_13=>(cond ((y_13.length:Int)==0) (some true) (some (decide ((IntKind.wrap .i64 ((out_7.length:Int)+(y_13.length:Int))) > 64))):Option (Bool)).bind λ v_14=>cond v_14 (some (.inr (([]:List Int),false))) ((app out_7 y_13).bind λ v_15=>g_spec_Unparse_l0 list_1 k v_15 (IntKind.wrap .i64 (i_8+1)))) (some (.inl out_7))
def g_spec_Unparse (list_1:List GItem):Option ((List Int)×Bool):=((g_spec_Unparse_l0 list_1 bigK ([]:List Int) 0).bind λ o=>match o with | .inl out_9=>some (.inl out_9) | .inr (v_10,v_11)=>some (.inr (v_10,v_11)):Option ((List Int) ⊕ ((List Int)×Bool))).bind λ o=>match o with | .inl out_4=>some (out_4,true) | .inr (v_5,v_6)=>some (v_5,v_6)
def g_spec_l22Twin_l0 (list_1:List GItem):Nat->(List GItem)->Int->GL01Cur->Option ((List GItem)×GL01Cur)
 | 0,_,_,_=>none
 | k+1,out_7,i_8,x_9=>cond (decide (i_8 < (list_1.length:Int))) (((g_spec_l01Below 7 x_9).bind λ y_14=>cond (y_14.1==0) (some (out_7,y_14.2)) (cond (y_14.1==1) ((g_spec_l04Some y_14.2).bind λ y_15=>(getI list_1 i_8).bind λ v_16=>(app out_7 [y_15.1,v_16]).bind λ v_17=>some (v_17,y_15.2)) ((getI list_1 i_8).bind λ v_18=>(app out_7 [v_18]).bind λ v_19=>some (v_19,y_14.2))):Option (((List GItem)×GL01Cur))).bind λ (out_12,x_13)=>g_spec_l22Twin_l0 list_1 k out_12 (IntKind.wrap .i64 (i_8+1)) x_13) (some (out_7,x_9))
def g_spec_l22Twin (list_1:List GItem) (c_2:GL01Cur):Option ((List GItem)×GL01Cur):=((g_spec_l22Twin_l0 list_1 bigK ([]:List GItem) 0 c_2).bind λ (out_10,x_11)=>some (out_10,x_11):Option (((List GItem)×GL01Cur))).bind λ (out_5,x_6)=>(g_spec_l04Some x_6).bind λ y_20=>(app out_5 [y_20.1]).bind λ v_21=>some (v_21,y_20.2)
def g_spec_l04Cells_l0 (n_7:Int):Nat->(List Int)->Int->GL01Cur->Option ((List Int)×GL01Cur)
 | 0,_,_,_=>none
 | k+1,out_8,i_9,x_10=>cond (decide (i_9 < n_7)) (((g_spec_l04Some x_10).bind λ y_15=>(g_spec_CellsOf y_15.1).bind λ y_16=>(app out_8 y_16).bind λ v_17=>(g_spec_l01Below 9 y_15.2).bind λ y_18=>cond (y_18.1==0) ((g_spec_l01Word y_18.2).bind λ y_19=>(app v_17 [y_19.1]).bind λ v_20=>some (v_20,y_19.2)) (cond (y_18.1==1) ((app v_17 [0]).bind λ v_21=>some (v_21,y_18.2)) (cond (y_18.1==2) ((g_spec_l01Below 4096 y_18.2).bind λ y_22=>(app v_17 [IntKind.wrap .u32 ((IntKind.wrap .u32 y_22.1)*16)]).bind λ v_23=>some (v_23,y_22.2)) (cond (y_18.1==3) ((g_spec_l01PickInt [2,18,5,34,12] y_18.2).bind λ y_24=>(app v_17 [IntKind.wrap .u32 y_24.1]).bind λ v_25=>some (v_25,y_24.2)) (some (v_17,y_18.2))))):Option (((List Int)×GL01Cur))).bind λ (out_13,x_14)=>g_spec_l04Cells_l0 n_7 k out_13 (IntKind.wrap .i64 (i_9+1)) x_14) (some (out_8,x_10))
def g_spec_l04Cells (c_1:GL01Cur):Option ((List Int)×GL01Cur):=(g_spec_l01Below 14 c_1).bind λ y_4=>((g_spec_l04Cells_l0 y_4.1 bigK ([]:List Int) 0 y_4.2).bind λ (out_11,x_12)=>some (out_11,x_12):Option (((List Int)×GL01Cur))).bind λ (out_5,x_6)=>(cond (decide ((out_5.length:Int) > 64)) ((g_spec_l01Once 6 x_6).bind λ y_28=>some ((!y_28.1),y_28.2)) (some (false,x_6)):Option ((Bool×GL01Cur))).bind λ (v_26,x_27)=>cond v_26 ((subL out_5 0 64).bind λ v_29=>some (v_29,x_27)) (some (out_5,x_27))
def g_spec_l22Pair (c_1:GL01Cur):Option ((List Int)×(List Int)×GL01Cur):=(g_spec_l13List 3 c_1).bind λ y_5=>((g_spec_l01Once 3 y_5.2).bind λ y_8=>cond y_8.1 ((g_spec_l04List 20 y_8.2).bind λ y_9=>some (y_9.1,y_9.2)) (some (y_5.1,y_8.2)):Option (((List GItem)×GL01Cur))).bind λ (list_6,x_7)=>(g_spec_Unparse list_6).bind λ y_10=>(g_spec_l22Twin list_6 x_7).bind λ y_11=>(g_spec_Unparse y_11.1).bind λ y_12=>((cond (!y_12.2) (some (true,y_11.2)) ((g_spec_l01Once 8 y_11.2).bind λ y_17=>some (y_17.1,y_17.2)):Option ((Bool×GL01Cur))).bind λ (v_15,x_16)=>cond v_15 ((g_spec_l04Cells x_16).bind λ y_18=>some (y_18.1,y_18.2)) (some (y_12.1,x_16)):Option (((List Int)×GL01Cur))).bind λ (b_13,x_14)=>some (y_10.1,b_13,x_14)
def g_spec_DrawPlan (code_1:List Int):Option ((List Int)×(List Int)):=(g_spec_l01New code_1).bind λ y_4=>(g_spec_l22Pair y_4).bind λ y_5=>some (y_5.1,y_5.2.1)
def g_impl_within (n_1:Int) (low_2:Int) (high_3:Int):Option Bool:=cond (decide (low_2<=n_1)) (some (decide (n_1<=high_3))) (some false)
def g_impl_WidthOf (k_1:Int):Option Int:=(g_impl_within k_1 0 7).bind λ y_3=>cond y_3 (some 4) ((g_impl_within k_1 8 15).bind λ y_4=>cond y_4 (some 5) ((g_impl_within k_1 16 47).bind λ y_5=>cond y_5 (some 7) (some 0)))
def g_impl_BitsOf (k_1:Int):Option Int:=(g_impl_WidthOf k_1).bind λ y_3=>cond (y_3==4) (some (IntKind.wrap .u32 k_1)) (cond (y_3==5) (some (IntKind.wrap .u32 ((IntKind.wrap .u32 k_1)+8))) (cond (y_3==7) (some (IntKind.wrap .u32 ((IntKind.wrap .u32 k_1)+80))) (some 0)))
def g_impl_Decode_l0 (bits_1:Int) (n_2:Int):Nat->Int->Option (Unit ⊕ (Int×Int))
 | 0,_=>none
 | k+1,v_8=>cond (decide (v_8 < 48)) ((g_impl_WidthOf v_8).bind λ y_11=>(cond (decide (y_11<=n_2)) ((shrI .u32 bits_1 (IntKind.wrap .i64 (n_2-y_11))).bind λ v_13=>(shlI .u32 1 y_11).bind λ v_14=>(g_impl_BitsOf v_8).bind λ y_15=>some ((andI .u32 v_13 (IntKind.wrap .u32 (v_14-1)))==y_15)) (some false):Option (Bool)).bind λ v_12=>cond v_12 (some (.inr (v_8,y_11))) (g_impl_Decode_l0 bits_1 n_2 k (IntKind.wrap .i64 (v_8+1)))) (some (.inl ()))
def g_impl_Decode (bits_1:Int) (n_2:Int):Option (Int×Int):=(g_impl_within n_2 1 32).bind λ y_5=>cond (!y_5) (some ((-1),0)) (((g_impl_Decode_l0 bits_1 n_2 bigK 0).bind λ o=>match o with | .inl ()=>some (.inl ()) | .inr (v_9,v_10)=>some (.inr (v_9,v_10)):Option (Unit ⊕ (Int×Int))).bind λ o=>match o with | .inl ()=>some ((-1),0) | .inr (v_6,v_7)=>some (v_6,v_7))
def g_impl_letters:Option Bs:=some [32,114,116,111,101,97,110,105,115,109,99,121,108,103,102,119,100,118,112,98,104,120,117,113,48,49,50,51,52,53,54,55,56,57,106,45,107,46,122,47,59,39,33,43,64,42,44,63]
def g_impl_LetterAt (k_1:Int):Option Int:=(g_impl_within k_1 0 47).bind λ y_3=>cond (!y_3) (some 0) ((g_impl_letters).bind λ y_4=>(idxS y_4 k_1).bind λ v_5=>some v_5)
def g_impl_UnpackOne_l0 (f_1:Int):Nat->(List Int)->Int->Option (List Int)
 | 0,_,_=>none
 | k+1,out_4,left_5=>(shlI .u32 1 left_5).bind λ v_7=>cond ((andI .u32 f_1 (IntKind.wrap .u32 (v_7-1))) != 0) ((g_impl_Decode f_1 left_5).bind λ y_8=>cond (decide (y_8.1 < 1)) (some out_4) ((g_impl_LetterAt y_8.1).bind λ y_9=>(app out_4 [y_9]).bind λ v_10=>g_impl_UnpackOne_l0 f_1 k v_10 (IntKind.wrap .i64 (left_5-y_8.2)))) (some out_4)
def g_impl_UnpackOne (f_1:Int):Option Bs:=cond (decide (f_1 ≥ 268435456)) (some []) ((g_impl_UnpackOne_l0 f_1 bigK ([]:List Int) 28).bind λ out_6=>some (strOf out_6))
def g_ibytealg_IndexByteString (s_1:Bs) (c_2:Int):Option Int:=gIdxB s_1 c_2
def g_istringslite_IndexByte (s_1:Bs) (c_2:Int):Option Int:=(g_ibytealg_IndexByteString s_1 c_2).bind λ y_4=>some y_4
def g_strings_IndexByte (s_1:Bs) (c_2:Int):Option Int:=(g_istringslite_IndexByte s_1 c_2).bind λ y_4=>some y_4
def g_impl_LetterOf (b_1:Int):Option Int:=(g_impl_letters).bind λ y_3=>(g_strings_IndexByte y_3 b_1).bind λ y_4=>some y_4
def g_impl_NameOk_l0 (s_1:Bs) (v_4:Int):Nat->Int->Option (Unit ⊕ Bool)
 | 0,_=>none
 | k+1,v_5=>cond (decide (v_5 < v_4)) ((idxS s_1 v_5).bind λ v_7=>(g_impl_LetterOf v_7).bind λ y_8=>cond (decide (y_8 < 1)) (some (.inr false)) (g_impl_NameOk_l0 s_1 v_4 k (IntKind.wrap .i64 (v_5+1)))) (some (.inl ()))
def g_impl_NameOk (s_1:Bs):Option Bool:=((g_impl_NameOk_l0 s_1 (s_1.length:Int) bigK 0).bind λ o=>match o with | .inl ()=>some (.inl ()) | .inr v_6=>some (.inr v_6):Option (Unit ⊕ Bool)).bind λ o=>match o with | .inl ()=>(g_impl_within (s_1.length:Int) 1 24).bind λ y_9=>some y_9 | .inr v_3=>some v_3
def g_impl_PackOne_l0 (s_1:Bs) (v_9:Int):Nat->Int->Int->Int->Int->Option (Int×Int)
 | 0,_,_,_,_=>none
 | k+1,field_10,left_11,many_12,v_13=>cond (decide (v_13 < v_9)) ((idxS s_1 v_13).bind λ v_16=>(g_impl_LetterOf v_16).bind λ y_17=>(g_impl_WidthOf y_17).bind λ y_18=>cond (decide (y_18 > left_11)) (some (field_10,many_12)) ((g_impl_WidthOf y_17).bind λ y_19=>(g_impl_BitsOf y_17).bind λ y_20=>(shlI .u32 y_20 (IntKind.wrap .i64 (left_11-y_19))).bind λ v_21=>g_impl_PackOne_l0 s_1 v_9 k (orI .u32 field_10 v_21) (IntKind.wrap .i64 (left_11-y_19)) (IntKind.wrap .i64 (many_12+1)) (IntKind.wrap .i64 (v_13+1)))) (some (field_10,many_12))
def g_impl_PackOne (s_1:Bs):Option (Int×Int):=(g_impl_NameOk s_1).bind λ y_4=>cond (!y_4) (some (0,0)) (((g_impl_PackOne_l0 s_1 (s_1.length:Int) bigK 0 28 0 0).bind λ (field_14,many_15)=>some (field_14,many_15):Option ((Int×Int))).bind λ (field_5,many_6)=>some (field_5,many_6))
def g_impl_Pack_l0:Nat->Bs->(List Int)->Option (List Int)
 | 0,_,_=>none
 | k+1,s_3,out_4=>(g_impl_NameOk s_3).bind λ y_6=>cond y_6 ((g_impl_PackOne s_3).bind λ y_7=>(app out_4 [y_7.1]).bind λ v_8=>(subL s_3 y_7.2 (s_3.length:Int)).bind λ v_9=>g_impl_Pack_l0 k v_9 v_8) (some out_4)
def g_impl_Pack (s_1:Bs):Option (List Int):=(g_impl_Pack_l0 bigK s_1 ([]:List Int)).bind λ out_5=>some out_5
def g_slices_Equal_uint32_l0 (s1_1:List Int) (s2_2:List Int) (v_5:Int):Nat->Int->Option (Unit ⊕ Bool)
 | 0,_=>none
 | k+1,v_6=>cond (decide (v_6 < v_5)) ((getI s1_1 v_6).bind λ v_8=>(getI s2_2 v_6).bind λ v_9=>cond (v_8 != v_9) (some (.inr false)) (g_slices_Equal_uint32_l0 s1_1 s2_2 v_5 k (IntKind.wrap .i64 (v_6+1)))) (some (.inl ()))
def g_slices_Equal_uint32 (s1_1:List Int) (s2_2:List Int):Option Bool:=cond ((s1_1.length:Int) != (s2_2.length:Int)) (some false) (((g_slices_Equal_uint32_l0 s1_1 s2_2 (s1_1.length:Int) bigK 0).bind λ o=>match o with | .inl ()=>some (.inl ()) | .inr v_7=>some (.inr v_7):Option (Unit ⊕ Bool)).bind λ o=>match o with | .inl ()=>some true | .inr v_4=>some v_4)
def g_impl_Unpack_l0 (v_7:List Int) (v_8:Int):Nat->Bs->Int->Option Bs
 | 0,_,_=>none
 | k+1,name_9,v_10=>cond (decide (v_10 < v_8)) ((getI v_7 v_10).bind λ v_12=>(g_impl_UnpackOne v_12).bind λ y_13=>(catS name_9 y_13).bind λ v_14=>g_impl_Unpack_l0 v_7 v_8 k v_14 (IntKind.wrap .i64 (v_10+1))) (some name_9)
def g_impl_Unpack (list_1:List Int):Option (Bs×Bool):=cond (decide ((list_1.length:Int) > 24)) (some ([],false)) (((g_impl_Unpack_l0 list_1 (list_1.length:Int) bigK [] 0).bind λ name_11=>some name_11:Option (Bs)).bind λ name_4=>((g_impl_NameOk name_4).bind λ y_16=>cond (!y_16) (some true) ((g_impl_Pack name_4).bind λ y_17=>(g_slices_Equal_uint32 y_17 list_1).bind λ y_18=>some (!y_18)):Option (Bool)).bind λ v_15=>cond v_15 (some ([],false)) (some (name_4,true)))
def g_impl_nameTag (kind_1:Int):Option Int:=cond (kind_1==1) (some 1) (cond (kind_1==2) (some 3) (cond (kind_1==3) (some 4) (cond (kind_1==4) (some 9) (cond (kind_1==5) (some 10) (cond (kind_1==6) (some 11) (some 0))))))
def g_impl_nameKind_l0 (tag_1:Int):Nat->Int->Option (Unit ⊕ Int)
 | 0,_=>none
 | k+1,kind_4=>cond (decide (kind_4<=6)) ((g_impl_nameTag kind_4).bind λ y_6=>cond (y_6==tag_1) (some (.inr kind_4)) (g_impl_nameKind_l0 tag_1 k (IntKind.wrap .i64 (kind_4+1)))) (some (.inl ()))
def g_impl_nameKind (tag_1:Int):Option Int:=((g_impl_nameKind_l0 tag_1 bigK 1).bind λ o=>match o with | .inl ()=>some (.inl ()) | .inr v_5=>some (.inr v_5):Option (Unit ⊕ Int)).bind λ o=>match o with | .inl ()=>some 0 | .inr v_3=>some v_3
def g_impl_numberCells (n_1:Int) (hex_2:Bool) (short_3:Int) (long_4:Int):Option (List Int):=(cond hex_2 (some 16) (some 0):Option (Int)).bind λ bit_6=>(cond (decide (n_1 ≥ (-67108864))) (some (decide (n_1<=67108863))) (some false):Option (Bool)).bind λ v_7=>cond v_7 (some [orI .u32 (orI .u32 (IntKind.wrap .u32 ((IntKind.wrap .u32 n_1)*32)) bit_6) short_3]) (some [orI .u32 bit_6 long_4,IntKind.wrap .u32 n_1])
def g_impl_CellsOf_l0 (v_8:List Int) (v_9:Int):Nat->Int->(List Int)->Int->Option (List Int)
 | 0,_,_,_=>none
 | k+1,tag_10,out_11,v_12=>cond (decide (v_12 < v_9)) ((getI v_8 v_12).bind λ v_14=>(app out_11 [orI .u32 (IntKind.wrap .u32 (v_14*16)) tag_10]).bind λ v_15=>g_impl_CellsOf_l0 v_8 v_9 k 0 v_15 (IntKind.wrap .i64 (v_12+1))) (some out_11)
def g_impl_CellsOf (it_1:GItem):Option (List Int):=(g_impl_nameTag it_1.Kind).bind λ y_3=>((cond (decide (y_3 > 0)) (some ((it_1.Kind:Int)==it_1.Kind&&((it_1.Name:Bs)==it_1.Name&&((it_1.N:Int)==0&&((it_1.Hex:Bool)==false&&((it_1.Raw:Int)==0&&true)))))) (some false):Option (Bool)).bind λ v_5=>cond v_5 (((g_impl_Pack it_1.Name).bind λ y_7=>(g_impl_CellsOf_l0 y_7 (y_7.length:Int) bigK y_3 ([]:List Int) 0).bind λ out_13=>some out_13:Option ((List Int))).bind λ out_6=>some (.inr out_6)) (cond ((it_1.Kind:Int)==7&&((it_1.Name:Bs)==[]&&((it_1.N:Int)==it_1.N&&((it_1.Hex:Bool)==it_1.Hex&&((it_1.Raw:Int)==0&&true))))) ((g_impl_numberCells it_1.N it_1.Hex 8 2).bind λ y_16=>some (.inr y_16)) (cond ((it_1.Kind:Int)==8&&((it_1.Name:Bs)==[]&&((it_1.N:Int)==it_1.N&&((it_1.Hex:Bool)==it_1.Hex&&((it_1.Raw:Int)==0&&true))))) ((g_impl_numberCells it_1.N it_1.Hex 6 5).bind λ y_17=>some (.inr y_17)) (cond ((it_1.Kind:Int)==9&&((it_1.Name:Bs)==it_1.Name&&((it_1.N:Int)==it_1.N&&((it_1.Hex:Bool)==false&&((it_1.Raw:Int)==0&&true))))) ((g_impl_Pack it_1.Name).bind λ y_18=>cond ((y_18.length:Int)==1) ((getI y_18 0).bind λ v_19=>some (.inr [orI .u32 (IntKind.wrap .u32 (v_19*16)) 12,IntKind.wrap .u32 it_1.N])) (some (.inl ()))) (cond ((it_1.Kind:Int)==0&&((it_1.Name:Bs)==[]&&((it_1.N:Int)==0&&((it_1.Hex:Bool)==false&&((it_1.Raw:Int)==it_1.Raw&&true))))) (some (.inr [it_1.Raw])) (some (.inl ())))))):Option (Unit ⊕ (List Int))).bind λ o=>match o with | .inl ()=>some [] | .inr v_4=>some v_4
def g_impl_FieldOk (f_1:Int):Option Bool:=(g_impl_UnpackOne f_1).bind λ y_3=>(g_impl_Pack y_3).bind λ y_4=>(g_slices_Equal_uint32 y_4 [f_1]).bind λ y_5=>some y_5
def g_impl_parseOne_l0 (v_8:List Int) (v_10:Int):Nat->(List Int)->Int->Option (List Int)
 | 0,_,_=>none
 | k+1,fields_13,v_14=>cond (decide (v_14 < v_10)) ((getI v_8 v_14).bind λ v_16=>(cond (v_16==0) (some true) (some ((andI .u32 v_16 15) != 0)):Option (Bool)).bind λ v_17=>cond v_17 (some fields_13) ((app fields_13 [v_16 / 16]).bind λ v_18=>g_impl_parseOne_l0 v_8 v_10 k v_18 (IntKind.wrap .i64 (v_14+1)))) (some fields_13)
def g_impl_parseOne (cells_1:List Int):Option GItem:=(getI cells_1 0).bind λ v_3=>(getI cells_1 0).bind λ v_4=>((cond ((andI .u32 v_4 15)==1) (some ((andI .u32 v_4 15)==1)) (cond ((andI .u32 v_4 15)==3) (some ((andI .u32 v_4 15)==3)) (cond ((andI .u32 v_4 15)==4) (some ((andI .u32 v_4 15)==4)) (cond ((andI .u32 v_4 15)==9) (some ((andI .u32 v_4 15)==9)) (cond ((andI .u32 v_4 15)==10) (some ((andI .u32 v_4 15)==10)) (some ((andI .u32 v_4 15)==11)))))):Option (Bool)).bind λ v_6=>cond v_6 (((subL cells_1 1 (cells_1.length:Int)).bind λ v_8=>(g_impl_parseOne_l0 v_8 (v_8.length:Int) bigK [v_3 / 16] 0).bind λ fields_15=>some fields_15:Option ((List Int))).bind λ fields_7=>(g_impl_Unpack fields_7).bind λ y_19=>cond y_19.2 ((g_impl_nameKind (andI .u32 v_4 15)).bind λ y_20=>some (⟨y_20,y_19.1,0,false,0⟩:GItem)) (some (⟨0,[],0,false,v_3⟩:GItem))) (cond ((andI .u32 v_4 15)==8) (some (⟨7,[],(IntKind.wrap .i32 v_3) / 32,((andI .u32 v_3 16) != 0),0⟩:GItem)) (cond ((andI .u32 v_4 15)==6) (some (⟨8,[],(IntKind.wrap .i32 v_3) / 32,((andI .u32 v_3 16) != 0),0⟩:GItem)) ((cond ((andI .u32 v_4 15)==2) (some ((andI .u32 v_4 15)==2)) (some ((andI .u32 v_4 15)==5)):Option (Bool)).bind λ v_21=>cond v_21 (cond (decide ((cells_1.length:Int) < 2)) (some (⟨0,[],0,false,v_3⟩:GItem)) ((getI cells_1 1).bind λ v_22=>(cond ((andI .u32 v_4 15)==5) (some (⟨8,[],IntKind.wrap .i32 v_22,((andI .u32 v_3 16) != 0),0⟩:GItem)) (some (⟨7,[],IntKind.wrap .i32 v_22,((andI .u32 v_3 16) != 0),0⟩:GItem)):Option (GItem)).bind λ x_23=>(g_impl_CellsOf x_23).bind λ y_24=>(subL cells_1 0 2).bind λ v_25=>(g_slices_Equal_uint32 y_24 v_25).bind λ y_26=>cond y_26 (some x_23) (some (⟨0,[],0,false,v_3⟩:GItem)))) (cond ((andI .u32 v_4 15)==12) ((cond (decide ((cells_1.length:Int) > 1)) ((g_impl_FieldOk (v_3 / 16)).bind λ y_28=>some y_28) (some false):Option (Bool)).bind λ v_27=>cond v_27 ((g_impl_UnpackOne (v_3 / 16)).bind λ y_29=>(getI cells_1 1).bind λ v_30=>some (⟨9,y_29,IntKind.wrap .i32 v_30,false,0⟩:GItem)) (some (⟨0,[],0,false,v_3⟩:GItem))) (some (⟨0,[],0,false,v_3⟩:GItem)))))):Option (GItem)).bind λ x_5=>some x_5
def g_impl_ParseCells_l0:Nat->(List Int)->(List GItem)->Option (List GItem)
 | 0,_,_=>none
 | k+1,cells_3,out_4=>cond (decide ((cells_3.length:Int) > 0)) ((g_impl_parseOne cells_3).bind λ y_6=>(app out_4 [y_6]).bind λ v_7=>(g_impl_CellsOf y_6).bind λ y_8=>(subL cells_3 (y_8.length:Int) (cells_3.length:Int)).bind λ v_9=>g_impl_ParseCells_l0 k v_9 v_7) (some out_4)
def g_impl_ParseCells_l1:Nat->(List GItem)->Int->Option (List GItem)
 | 0,_,_=>none
 | k+1,out_11,n_12=>(cond (decide (n_12 ≥ 0)) ((getI out_11 n_12).bind λ v_15=>some ((v_15.Kind:Int)==0&&((v_15.Name:Bs)==[]&&((v_15.N:Int)==0&&((v_15.Hex:Bool)==false&&((v_15.Raw:Int)==0&&true)))))) (some false):Option (Bool)).bind λ v_14=>cond v_14 ((subL out_11 0 n_12).bind λ v_16=>g_impl_ParseCells_l1 k v_16 (IntKind.wrap .i64 (n_12-1))) (some out_11)
def g_impl_ParseCells (cells_1:List Int):Option (List GItem):=cond (decide ((cells_1.length:Int) > 64)) (some []) ((g_impl_ParseCells_l0 bigK cells_1 ([]:List GItem)).bind λ out_5=>((g_impl_ParseCells_l1 bigK out_5 (IntKind.wrap .i64 ((out_5.length:Int)-1))).bind λ out_13=>some out_13:Option ((List GItem))).bind λ out_10=>some out_10)
def g_impl_hasRawc1 (it_1:GItem):Option Bool:=some (it_1.Kind==0)
def g_slices_IndexFunc_Item_impl_hasRawc1_l0 (s_1:List GItem) (v_4:Int):Nat->Int->Option (Unit ⊕ Int)
 | 0,_=>none
 | k+1,v_5=>cond (decide (v_5 < v_4)) ((getI s_1 v_5).bind λ v_7=>(g_impl_hasRawc1 v_7).bind λ y_8=>cond y_8 (some (.inr v_5)) (g_slices_IndexFunc_Item_impl_hasRawc1_l0 s_1 v_4 k (IntKind.wrap .i64 (v_5+1)))) (some (.inl ()))
def g_slices_IndexFunc_Item_impl_hasRawc1 (s_1:List GItem):Option Int:=((g_slices_IndexFunc_Item_impl_hasRawc1_l0 s_1 (s_1.length:Int) bigK 0).bind λ o=>match o with | .inl ()=>some (.inl ()) | .inr v_6=>some (.inr v_6):Option (Unit ⊕ Int)).bind λ o=>match o with | .inl ()=>some (-1) | .inr v_3=>some v_3
def g_slices_ContainsFunc_Item_impl_hasRawc1 (s_1:List GItem):Option Bool:=(g_slices_IndexFunc_Item_impl_hasRawc1 s_1).bind λ y_3=>some (decide (y_3 ≥ 0))
def g_impl_hasRaw (list_1:List GItem):Option Bool:=(g_slices_ContainsFunc_Item_impl_hasRawc1 list_1).bind λ y_3=>some y_3
def g_impl_common_l1 (row_9:List Int) (v_16:List GItem) (v_17:Int) (v_13:GItem):Nat->(List Int)->Int->Option (List Int)
 | 0,_,_=>none
 | k+1,next_18,v_19=>cond (decide (v_19 < v_17)) (((getI v_16 v_19).bind λ v_22=>(getI next_18 v_19).bind λ v_23=>(getI row_9 (IntKind.wrap .i64 (v_19+1))).bind λ v_24=>(getI next_18 (IntKind.wrap .i64 (v_19+1))).bind λ v_25=>cond ((v_13.Kind:Int)==v_22.Kind&&((v_13.Name:Bs)==v_22.Name&&((v_13.N:Int)==v_22.N&&((v_13.Hex:Bool)==v_22.Hex&&((v_13.Raw:Int)==v_22.Raw&&true))))) ((getI row_9 v_19).bind λ v_26=>(getI (next_18.set (IntKind.wrap .i64 (v_19+1)).toNat (maxI v_23 v_24)) (IntKind.wrap .i64 (v_19+1))).bind λ v_27=>some ((next_18.set (IntKind.wrap .i64 (v_19+1)).toNat (maxI v_23 v_24)).set (IntKind.wrap .i64 (v_19+1)).toNat (IntKind.wrap .i64 (v_26+1)))) (some (next_18.set (IntKind.wrap .i64 (v_19+1)).toNat (maxI v_23 v_24))):Option ((List Int))).bind λ next_21=>g_impl_common_l1 row_9 v_16 v_17 v_13 k next_21 (IntKind.wrap .i64 (v_19+1))) (some next_18)
def g_impl_common_l0 (b_2:List GItem) (v_7:List GItem) (v_8:Int):Nat->(List Int)->Int->Option (List Int)
 | 0,_,_=>none
 | k+1,row_9,v_10=>cond (decide (v_10 < v_8)) (((getI v_7 v_10).bind λ v_13=>(mk (0:Int) (IntKind.wrap .i64 ((b_2.length:Int)+1))).bind λ v_14=>((g_impl_common_l1 row_9 b_2 (b_2.length:Int) v_13 bigK v_14 0).bind λ next_20=>some next_20:Option ((List Int))).bind λ next_15=>some next_15:Option ((List Int))).bind λ row_12=>g_impl_common_l0 b_2 v_7 v_8 k row_12 (IntKind.wrap .i64 (v_10+1))) (some row_9)
def g_impl_common (a_1:List GItem) (b_2:List GItem):Option Int:=(mk (0:Int) (IntKind.wrap .i64 ((b_2.length:Int)+1))).bind λ v_4=>((g_impl_common_l0 b_2 a_1 (a_1.length:Int) bigK v_4 0).bind λ row_11=>some row_11:Option ((List Int))).bind λ row_5=>(getI row_5 (b_2.length:Int)).bind λ v_28=>some v_28
def g_slices_Grow_Key_emp (n_1:Int):Option (List GKey):=(cond (decide (n_1 < 0)) (none) (some ()):Option (Unit)).bind λ _=>(cond (decide ((IntKind.wrap .i64 (n_1-(IntKind.wrap .i64 (0-0)))) > 0)) ((mk ((⟨0,(⟨0,[],0,false,0⟩:GItem)⟩:GKey):GKey) (IntKind.wrap .i64 (n_1-(IntKind.wrap .i64 (0-0))))).bind λ v_4=>(subL v_4 0 0).bind λ v_5=>some v_5) (some []):Option ((List GKey))).bind λ s_3=>some s_3
def g_slices_Concat_Key_l0 (v_4:List (List GKey)) (v_5:Int):Nat->Int->Int->Option Int
 | 0,_,_=>none
 | k+1,size_6,v_7=>cond (decide (v_7 < v_5)) (((getI v_4 v_7).bind λ v_10=>cond (decide ((IntKind.wrap .i64 (size_6+(v_10.length:Int))) < 0)) (none) (some (IntKind.wrap .i64 (size_6+(v_10.length:Int)))):Option (Int)).bind λ size_9=>g_slices_Concat_Key_l0 v_4 v_5 k size_9 (IntKind.wrap .i64 (v_7+1))) (some size_6)
def g_slices_Concat_Key_l1 (v_13:List (List GKey)) (v_14:Int):Nat->(List GKey)->Int->Option (List GKey)
 | 0,_,_=>none
 | k+1,newslice_15,v_16=>cond (decide (v_16 < v_14)) ((getI v_13 v_16).bind λ v_18=>(app newslice_15 v_18).bind λ v_19=>g_slices_Concat_Key_l1 v_13 v_14 k v_19 (IntKind.wrap .i64 (v_16+1))) (some newslice_15)
def g_slices_Concat_Key (slices_1:List (List GKey)):Option (List GKey):=((g_slices_Concat_Key_l0 slices_1 (slices_1.length:Int) bigK 0 0).bind λ size_8=>some size_8:Option (Int)).bind λ size_3=>(g_slices_Grow_Key_emp size_3).bind λ y_11=>((g_slices_Concat_Key_l1 slices_1 (slices_1.length:Int) bigK y_11 0).bind λ newslice_17=>some newslice_17:Option ((List GKey))).bind λ newslice_12=>some newslice_12
def g_impl_Plan_l0:Nat->(List GItem)->(List GItem)->(List GKey)->(List GKey)->Int->Option ((List GKey)×(List GKey)×Int)
 | 0,_,_,_,_,_=>none
 | k+1,vfrom_12,to_13,first_14,second_15,cuts_16=>cond (decide ((IntKind.wrap .i64 ((vfrom_12.length:Int)+(to_13.length:Int))) > 0)) ((cond (decide ((vfrom_12.length:Int) > 0)) (cond (decide ((to_13.length:Int) > 0)) ((getI vfrom_12 0).bind λ v_21=>(getI to_13 0).bind λ v_22=>some ((v_21.Kind:Int)==v_22.Kind&&((v_21.Name:Bs)==v_22.Name&&((v_21.N:Int)==v_22.N&&((v_21.Hex:Bool)==v_22.Hex&&((v_21.Raw:Int)==v_22.Raw&&true)))))) (some false)) (some false):Option (Bool)).bind λ v_20=>cond v_20 ((app first_14 [(⟨1,(⟨0,[],0,false,0⟩:GItem)⟩:GKey)]).bind λ v_23=>(app second_15 [(⟨1,(⟨0,[],0,false,0⟩:GItem)⟩:GKey)]).bind λ v_24=>(subL vfrom_12 1 ((vfrom_12.length:Nat):Int)).bind λ v_25=>(subL to_13 1 ((to_13.length:Nat):Int)).bind λ v_26=>g_impl_Plan_l0 k v_25 v_26 v_23 v_24 cuts_16) ((cond (decide ((vfrom_12.length:Int) > 0)) (cond ((to_13.length:Int)==0) (some true) ((subL vfrom_12 1 ((vfrom_12.length:Nat):Int)).bind λ v_28=>(g_impl_common v_28 to_13).bind λ y_29=>(subL to_13 1 ((to_13.length:Nat):Int)).bind λ v_30=>(g_impl_common vfrom_12 v_30).bind λ y_31=>some (decide (y_29 ≥ y_31)))) (some false):Option (Bool)).bind λ v_27=>cond v_27 ((app first_14 [(⟨1,(⟨0,[],0,false,0⟩:GItem)⟩:GKey),(⟨5,(⟨0,[],0,false,0⟩:GItem)⟩:GKey)]).bind λ v_32=>(subL vfrom_12 1 ((vfrom_12.length:Nat):Int)).bind λ v_33=>g_impl_Plan_l0 k v_33 to_13 v_32 second_15 (IntKind.wrap .i64 (cuts_16+1))) ((getI to_13 0).bind λ v_34=>(app second_15 [(⟨4,v_34⟩:GKey)]).bind λ v_35=>(subL to_13 1 ((to_13.length:Nat):Int)).bind λ v_36=>g_impl_Plan_l0 k vfrom_12 v_36 first_14 v_35 cuts_16))) (some (first_14,second_15,cuts_16))
def g_impl_Plan (a_1:List Int) (b_2:List Int):Option ((List GKey)×Bool):=(cond (decide ((a_1.length:Int) > 64)) (some true) (some (decide ((b_2.length:Int) > 64))):Option (Bool)).bind λ v_5=>cond v_5 (some ([],false)) ((g_impl_ParseCells a_1).bind λ y_6=>(g_impl_ParseCells b_2).bind λ y_7=>((g_impl_hasRaw y_6).bind λ y_9=>cond y_9 (some true) ((g_impl_hasRaw y_7).bind λ y_10=>some y_10):Option (Bool)).bind λ v_8=>cond v_8 (some ([],false)) ((g_impl_Plan_l0 bigK y_6 y_7 ([]:List GKey) ([]:List GKey) 0).bind λ (first_17,second_18,cuts_19)=>cond (decide (cuts_19 > 20)) (some ([],false)) ((g_slices_Concat_Key [first_17,[(⟨2,(⟨0,[],0,false,0⟩:GItem)⟩:GKey)],second_18]).bind λ y_37=>some (y_37,true))))
def g_spec_l04Kind_l0 (tag_1:Int):Nat->Int->Option (Unit ⊕ Int)
 | 0,_=>none
 | k+1,k_4=>cond (decide (k_4<=6)) ((g_spec_l04Tag k_4).bind λ y_6=>cond (y_6==tag_1) (some (.inr k_4)) (g_spec_l04Kind_l0 tag_1 k (IntKind.wrap .i64 (k_4+1)))) (some (.inl ()))
def g_spec_l04Kind (tag_1:Int):Option Int:=((g_spec_l04Kind_l0 tag_1 bigK 1).bind λ o=>match o with | .inl ()=>some (.inl ()) | .inr v_5=>some (.inr v_5):Option (Unit ⊕ Int)).bind λ o=>match o with | .inl ()=>some (-1) | .inr v_3=>some v_3
def g_spec_Decode_l0 (bits_1:Int) (n_2:Int):Nat->Int->Option (Unit ⊕ (Int×Int))
 | 0,_=>none
 | k+1,k_8=>cond (decide (k_8 < 48)) (((g_spec_WidthOf k_8).bind λ y_13=>cond (decide (y_13 > n_2)) (some (.inl ())) ((shlI .i64 1 (IntKind.wrap .u64 n_2)).bind λ v_14=>(shrI .i64 (andI .i64 (IntKind.wrap .i64 bits_1) (IntKind.wrap .i64 (v_14-1))) (IntKind.wrap .u64 (IntKind.wrap .i64 (n_2-y_13)))).bind λ v_15=>(g_spec_BitsOf k_8).bind λ y_16=>cond (v_15==(IntKind.wrap .i64 y_16)) (some (.inr (k_8,y_13))) (some (.inl ()))):Option (Unit ⊕ (Int×Int))).bind λ o=>match o with | .inl ()=>g_spec_Decode_l0 bits_1 n_2 k (IntKind.wrap .i64 (k_8+1)) | .inr (v_11,v_12)=>some (.inr (v_11,v_12))) (some (.inl ()))
def g_spec_Decode (bits_1:Int) (n_2:Int):Option (Int×Int):=(g_spec_l01In n_2 1 32).bind λ y_5=>cond (!y_5) (some ((-1),0)) (((g_spec_Decode_l0 bits_1 n_2 bigK 0).bind λ o=>match o with | .inl ()=>some (.inl ()) | .inr (v_9,v_10)=>some (.inr (v_9,v_10)):Option (Unit ⊕ (Int×Int))).bind λ o=>match o with | .inl ()=>some ((-1),0) | .inr (v_6,v_7)=>some (v_6,v_7))
def g_spec_UnpackOne_l0 (f_1:Int):Nat->(List Int)->Int->Option (List Int)
 | 0,_,_=>none
 | k+1,out_4,left_5=>(cond (decide (left_5 > 0)) ((shlI .i64 1 (IntKind.wrap .u64 left_5)).bind λ v_8=>some ((andI .i64 (IntKind.wrap .i64 f_1) (IntKind.wrap .i64 (v_8-1))) != 0)) (some false):Option (Bool)).bind λ v_7=>cond v_7 ((g_spec_Decode f_1 left_5).bind λ y_9=>cond (decide (y_9.1 < 1)) (some out_4) ((g_spec_LetterAt y_9.1).bind λ y_10=>(app out_4 [y_10]).bind λ v_11=>g_spec_UnpackOne_l0 f_1 k v_11 (IntKind.wrap .i64 (left_5-y_9.2)))) (some out_4)
def g_spec_UnpackOne (f_1:Int):Option Bs:=cond (decide ((IntKind.wrap .i64 f_1) ≥ 268435456)) (some []) ((g_spec_UnpackOne_l0 f_1 bigK ([]:List Int) 28).bind λ out_6=>some (strOf out_6))
def g_spec_l03Same_l0 (a_1:List Int) (b_2:List Int):Nat->Int->Option (Unit ⊕ Bool)
 | 0,_=>none
 | k+1,i_5=>cond (decide (i_5 < (a_1.length:Int))) ((getI a_1 i_5).bind λ v_7=>(getI b_2 i_5).bind λ v_8=>cond (v_7 != v_8) (some (.inr false)) (g_spec_l03Same_l0 a_1 b_2 k (IntKind.wrap .i64 (i_5+1)))) (some (.inl ()))
def g_spec_l03Same (a_1:List Int) (b_2:List Int):Option Bool:=cond ((a_1.length:Int) != (b_2.length:Int)) (some false) (((g_spec_l03Same_l0 a_1 b_2 bigK 0).bind λ o=>match o with | .inl ()=>some (.inl ()) | .inr v_6=>some (.inr v_6):Option (Unit ⊕ Bool)).bind λ o=>match o with | .inl ()=>some true | .inr v_4=>some v_4)
def g_spec_Unpack_l0 (list_1:List Int):Nat->Bs->Int->Option Bs
 | 0,_,_=>none
 | k+1,s_7,i_8=>cond (decide (i_8 < (list_1.length:Int))) ((getI list_1 i_8).bind λ v_10=>(g_spec_UnpackOne v_10).bind λ y_11=>(catS s_7 y_11).bind λ v_12=>g_spec_Unpack_l0 list_1 k v_12 (IntKind.wrap .i64 (i_8+1))) (some s_7)
def g_spec_Unpack (list_1:List Int):Option (Bs×Bool):=cond (decide ((list_1.length:Int) > 24)) (some ([],false)) (((g_spec_Unpack_l0 list_1 bigK [] 0).bind λ s_9=>some s_9:Option (Bs)).bind λ s_4=>((g_spec_NameOk s_4).bind λ y_14=>cond (!y_14) (some true) ((g_spec_Pack s_4).bind λ y_15=>(g_spec_l03Same y_15 list_1).bind λ y_16=>some (!y_16)):Option (Bool)).bind λ v_13=>cond v_13 (some ([],false)) (some (s_4,true)))
def g_spec_l04Name_l0 (cells_1:List Int):Nat->(List Int)->Int->Option (List Int)
 | 0,_,_=>none
 | k+1,fields_10,k_11=>(cond (decide (k_11 < (cells_1.length:Int))) ((getI cells_1 k_11).bind λ v_14=>cond ((Int.tmod v_14 16)==0) ((getI cells_1 k_11).bind λ v_15=>some (v_15 != 0)) (some false)) (some false):Option (Bool)).bind λ v_13=>cond v_13 ((getI cells_1 k_11).bind λ v_16=>(app fields_10 [IntKind.wrap .u32 (Int.tdiv v_16 16)]).bind λ v_17=>g_spec_l04Name_l0 cells_1 k v_17 (IntKind.wrap .i64 (k_11+1))) (some fields_10)
def g_spec_l04Name (cells_1:List Int) (i_2:Int) (kind_3:Int):Option (GItem×Int):=(getI cells_1 i_2).bind λ v_6=>((g_spec_l04Name_l0 cells_1 bigK [IntKind.wrap .u32 (Int.tdiv v_6 16)] (IntKind.wrap .i64 (i_2+1))).bind λ fields_12=>some fields_12:Option ((List Int))).bind λ fields_7=>(g_spec_Unpack fields_7).bind λ y_18=>cond (!y_18.2) (some ((⟨0,[],0,false,0⟩:GItem),0)) (some ((⟨kind_3,y_18.1,0,false,0⟩:GItem),(fields_7.length:Int)))
def g_spec_l04Number (cells_1:List Int) (i_2:Int):Option (GItem×Int):=(getI cells_1 i_2).bind λ v_5=>((cond ((Int.tmod v_5 16)==6) (some true) (some ((Int.tmod v_5 16)==5)):Option (Bool)).bind λ v_7=>cond v_7 (some (⟨8,[],0,((andI .u32 v_5 16) != 0),0⟩:GItem)) (some (⟨7,[],0,((andI .u32 v_5 16) != 0),0⟩:GItem)):Option (GItem)).bind λ x_6=>(cond ((Int.tmod v_5 16)==8) (some true) (some ((Int.tmod v_5 16)==6)):Option (Bool)).bind λ v_8=>cond v_8 (some ((⟨x_6.Kind,x_6.Name,(IntKind.wrap .i32 v_5) / 32,x_6.Hex,x_6.Raw⟩:GItem),1)) ((cond (decide ((IntKind.wrap .i64 (i_2+1)) ≥ (cells_1.length:Int))) (some true) (some ((IntKind.wrap .u32 (Int.tdiv v_5 32)) != 0)):Option (Bool)).bind λ v_9=>cond v_9 (some ((⟨0,[],0,false,0⟩:GItem),0)) ((getI cells_1 (IntKind.wrap .i64 (i_2+1))).bind λ v_10=>(g_spec_CellsOf (⟨x_6.Kind,x_6.Name,IntKind.wrap .i32 v_10,x_6.Hex,x_6.Raw⟩:GItem)).bind λ y_11=>some ((⟨x_6.Kind,x_6.Name,IntKind.wrap .i32 v_10,x_6.Hex,x_6.Raw⟩:GItem),IntKind.wrap .i64 ((IntKind.wrap .i64 (Int.tdiv (y_11.length:Int) 2))*2))))
def g_spec_FieldOk (f_1:Int):Option Bool:=(g_spec_UnpackOne f_1).bind λ y_3=>(g_spec_Pack y_3).bind λ y_4=>cond ((y_4.length:Int)==1) ((getI y_4 0).bind λ v_5=>some (v_5==f_1)) (some false)
def g_spec_l04Item (cells_1:List Int) (i_2:Int):Option (GItem×Int):=(getI cells_1 i_2).bind λ v_5=>((g_spec_l04Kind (Int.tmod v_5 16)).bind λ y_8=>cond (decide (y_8 ≥ 0)) ((g_spec_l04Kind (Int.tmod v_5 16)).bind λ y_9=>(g_spec_l04Name cells_1 i_2 y_9).bind λ y_10=>some (y_10.2,y_10.1)) ((cond ((Int.tmod v_5 16)==8) (some true) (cond ((Int.tmod v_5 16)==6) (some true) (cond ((Int.tmod v_5 16)==2) (some true) (some ((Int.tmod v_5 16)==5)))):Option (Bool)).bind λ v_11=>cond v_11 ((g_spec_l04Number cells_1 i_2).bind λ y_12=>some (y_12.2,y_12.1)) ((cond ((Int.tmod v_5 16)==12) (cond (decide ((IntKind.wrap .i64 (i_2+1)) < (cells_1.length:Int))) ((getI cells_1 i_2).bind λ v_14=>(g_spec_FieldOk (IntKind.wrap .u32 (Int.tdiv v_14 16))).bind λ y_15=>some y_15) (some false)) (some false):Option (Bool)).bind λ v_13=>cond v_13 ((getI cells_1 i_2).bind λ v_16=>(g_spec_UnpackOne (IntKind.wrap .u32 (Int.tdiv v_16 16))).bind λ y_17=>(getI cells_1 (IntKind.wrap .i64 (i_2+1))).bind λ v_18=>some (2,(⟨9,y_17,IntKind.wrap .i32 v_18,false,0⟩:GItem))) (some (0,(⟨0,[],0,false,0⟩:GItem))))):Option ((Int×GItem))).bind λ (n_6,x_7)=>cond (n_6==0) ((getI cells_1 i_2).bind λ v_19=>some ((⟨0,[],0,false,v_19⟩:GItem),1)) (some (x_7,n_6))
def g_spec_ParseCells_l0 (cells_1:List Int):Nat->(List GItem)->Int->Option (List GItem)
 | 0,_,_=>none
 | k+1,out_4,i_5=>cond (decide (i_5 < (cells_1.length:Int))) ((g_spec_l04Item cells_1 i_5).bind λ y_7=>(app out_4 [y_7.1]).bind λ v_8=>g_spec_ParseCells_l0 cells_1 k v_8 (IntKind.wrap .i64 (i_5+y_7.2))) (some out_4)
def g_spec_ParseCells_l1:Nat->(List GItem)->Option (List GItem)
 | 0,_=>none
 | k+1,out_9=>(cond (decide ((out_9.length:Int) > 0)) ((getI out_9 (IntKind.wrap .i64 ((out_9.length:Int)-1))).bind λ v_12=>some ((v_12.Kind:Int)==0&&((v_12.Name:Bs)==[]&&((v_12.N:Int)==0&&((v_12.Hex:Bool)==false&&((v_12.Raw:Int)==0&&true)))))) (some false):Option (Bool)).bind λ v_11=>cond v_11 ((subL out_9 0 (IntKind.wrap .i64 ((out_9.length:Int)-1))).bind λ v_13=>g_spec_ParseCells_l1 k v_13) (some out_9)
def g_spec_ParseCells (cells_1:List Int):Option (List GItem):=cond (decide ((cells_1.length:Int) > 64)) (some ([]:List GItem)) (((g_spec_ParseCells_l0 cells_1 bigK ([]:List GItem) 0).bind λ out_6=>some out_6:Option ((List GItem))).bind λ out_3=>(g_spec_ParseCells_l1 bigK out_3).bind λ out_10=>some out_10)
def g_spec_l22Plain_l0 (list_1:List GItem):Nat->Int->Option (Unit ⊕ Bool)
 | 0,_=>none
 | k+1,i_4=>cond (decide (i_4 < (list_1.length:Int))) ((getI list_1 i_4).bind λ v_6=>cond (v_6.Kind==0) (some (.inr false)) (g_spec_l22Plain_l0 list_1 k (IntKind.wrap .i64 (i_4+1)))) (some (.inl ()))
def g_spec_l22Plain (list_1:List GItem):Option Bool:=((g_spec_l22Plain_l0 list_1 bigK 0).bind λ o=>match o with | .inl ()=>some (.inl ()) | .inr v_5=>some (.inr v_5):Option (Unit ⊕ Bool)).bind λ o=>match o with | .inl ()=>some true | .inr v_3=>some v_3
def g_spec_l14Max (a_1:Int) (b_2:Int):Option Int:=cond (decide (a_1 > b_2)) (some a_1) (some b_2)
def g_spec_l22Table_s (a b:List GItem) (rows:List (List Int)) (i k:Int):Option (List (List Int)):=(getI rows i).bind λ r=>(getI rows (IntKind.wrap .i64 (i+1))).bind λ r1=>(getI r1 k).bind λ x=>(getI r (IntKind.wrap .i64 (k+1))).bind λ y=>(g_spec_l14Max x y).bind λ z=>(getI r k).bind λ _=>(getI a i).bind λ p=>(getI b k).bind λ q =>
 cond ((p.Kind:Int)==q.Kind&&((p.Name:Bs)==q.Name&&((p.N:Int)==q.N&&((p.Hex:Bool)==q.Hex&&((p.Raw:Int)==q.Raw&&true))))) ((getI r1 (IntKind.wrap .i64 (k+1))).bind λ w=>(getI (r.set k.toNat z) k).bind λ _=>some (rows.set i.toNat ((r.set k.toNat z).set k.toNat (IntKind.wrap .i64 (w+1))))) (some (rows.set i.toNat (r.set k.toNat z)))
def g_spec_l22Table_l2 (a b:List GItem) (i:Int):Nat->List (List Int)->Int->Option (List (List Int))
 | 0,_,_=>none
 | f+1,rows,k=>cond (decide (k ≥ 0)) ((g_spec_l22Table_s a b rows i k).bind λ rows=>g_spec_l22Table_l2 a b i f rows (IntKind.wrap .i64 (k-1))) (some rows)
def g_spec_l22Table_l1 (a b:List GItem):Nat->List (List Int)->Int->Option (List (List Int))
 | 0,_,_=>none
 | f+1,rows,i=>cond (decide (i ≥ 0)) ((g_spec_l22Table_l2 a b i bigK rows (IntKind.wrap .i64 ((b.length:Int)-1))).bind λ rows=>g_spec_l22Table_l1 a b f rows (IntKind.wrap .i64 (i-1))) (some rows)
def g_spec_l22Table_l0 (a b:List GItem):Nat->List (List Int)->Int->Option (List (List Int))
 | 0,_,_=>none
 | f+1,rows,i=>cond (decide (i<=(a.length:Int))) ((mk (0:Int) (IntKind.wrap .i64 ((b.length:Int)+1))).bind λ z=>(app rows [z]).bind λ rows=>g_spec_l22Table_l0 a b f rows (IntKind.wrap .i64 (i+1))) (some rows)
def g_spec_l22Table (a b:List GItem):Option (List (List Int)):=(g_spec_l22Table_l0 a b bigK [] 0).bind λ rows=>g_spec_l22Table_l1 a b bigK rows (IntKind.wrap .i64 ((a.length:Int)-1))
def g_spec_ParseCells_imm_l0 (cells_1:List Int):Nat->(List GItem)->Int->Option (List GItem)
 | 0,_,_=>none
 | k+1,out_4,i_5=>cond (decide (i_5 < (cells_1.length:Int))) ((g_spec_l04Item cells_1 i_5).bind λ y_7=>(app out_4 [y_7.1]).bind λ v_8=>g_spec_ParseCells_imm_l0 cells_1 k v_8 (IntKind.wrap .i64 (i_5+y_7.2))) (some out_4)
def g_spec_ParseCells_imm_l1:Nat->(List GItem)->Option (List GItem)
 | 0,_=>none
 | k+1,out_9=>(cond (decide ((out_9.length:Int) > 0)) ((getI out_9 (IntKind.wrap .i64 ((out_9.length:Int)-1))).bind λ v_12=>some ((v_12.Kind:Int)==0&&((v_12.Name:Bs)==[]&&((v_12.N:Int)==0&&((v_12.Hex:Bool)==false&&((v_12.Raw:Int)==0&&true)))))) (some false):Option (Bool)).bind λ v_11=>cond v_11 ((subL out_9 0 (IntKind.wrap .i64 ((out_9.length:Int)-1))).bind λ v_13=>g_spec_ParseCells_imm_l1 k v_13) (some out_9)
def g_spec_ParseCells_imm (cells_1:List Int):Option (List GItem):=cond (decide ((cells_1.length:Int) > 64)) (some ([]:List GItem)) (((g_spec_ParseCells_imm_l0 cells_1 bigK ([]:List GItem) 0).bind λ out_6=>some out_6:Option ((List GItem))).bind λ out_3=>(g_spec_ParseCells_imm_l1 bigK out_3).bind λ out_10=>some out_10)
def g_spec_Plan_l0 (x_12:List GItem) (y_13:List GItem) (y_10:List (List Int)):Nat->(List GKey)->(List GKey)->Int->Int->Int->Option ((List GKey)×(List GKey)×Int)
 | 0,_,_,_,_,_=>none
 | k+1,first_14,second_15,cuts_16,i_17,k_18=>(cond (decide (i_17 < (x_12.length:Int))) (some true) (some (decide (k_18 < (y_13.length:Int)))):Option (Bool)).bind λ v_22=>cond v_22 ((cond (decide (i_17 < (x_12.length:Int))) (cond (decide (k_18 < (y_13.length:Int))) ((getI x_12 i_17).bind λ v_24=>(getI y_13 k_18).bind λ v_25=>some ((v_24.Kind:Int)==v_25.Kind&&((v_24.Name:Bs)==v_25.Name&&((v_24.N:Int)==v_25.N&&((v_24.Hex:Bool)==v_25.Hex&&((v_24.Raw:Int)==v_25.Raw&&true)))))) (some false)) (some false):Option (Bool)).bind λ v_23=>cond v_23 ((app first_14 [(⟨1,(⟨0,[],0,false,0⟩:GItem)⟩:GKey)]).bind λ v_26=>(app second_15 [(⟨1,(⟨0,[],0,false,0⟩:GItem)⟩:GKey)]).bind λ v_27=>g_spec_Plan_l0 x_12 y_13 y_10 k v_26 v_27 cuts_16 (IntKind.wrap .i64 (i_17+1)) (IntKind.wrap .i64 (k_18+1))) ((cond (decide (i_17 < (x_12.length:Int))) (cond (k_18==(y_13.length:Int)) (some true) ((getI y_10 (IntKind.wrap .i64 (i_17+1))).bind λ v_29=>(getI v_29 k_18).bind λ v_30=>(getI y_10 i_17).bind λ v_31=>(getI v_31 (IntKind.wrap .i64 (k_18+1))).bind λ v_32=>some (decide (v_30 ≥ v_32)))) (some false):Option (Bool)).bind λ v_28=>cond v_28 ((app first_14 [(⟨1,(⟨0,[],0,false,0⟩:GItem)⟩:GKey),(⟨5,(⟨0,[],0,false,0⟩:GItem)⟩:GKey)]).bind λ v_33=>g_spec_Plan_l0 x_12 y_13 y_10 k v_33 second_15 (IntKind.wrap .i64 (cuts_16+1)) (IntKind.wrap .i64 (i_17+1)) k_18) ((getI y_13 k_18).bind λ v_34=>(app second_15 [(⟨4,v_34⟩:GKey)]).bind λ v_35=>g_spec_Plan_l0 x_12 y_13 y_10 k first_14 v_35 cuts_16 i_17 (IntKind.wrap .i64 (k_18+1))))) (some (first_14,second_15,cuts_16))
def g_spec_Plan (a_1:List Int) (b_2:List Int):Option ((List GKey)×Bool):=(g_spec_ParseCells_imm a_1).bind λ y_5=>(g_spec_ParseCells_imm b_2).bind λ y_6=>(cond (decide ((a_1.length:Int) > 64)) (some true) (cond (decide ((b_2.length:Int) > 64)) (some true) ((g_spec_l22Plain y_5).bind λ y_8=>cond (!y_8) (some true) ((g_spec_l22Plain y_6).bind λ y_9=>some (!y_9)))):Option (Bool)).bind λ v_7=>cond v_7 (some (([]:List GKey),false)) ((g_spec_l22Table y_5 y_6).bind λ y_10=>(g_spec_Plan_l0 y_5 y_6 y_10 bigK ([]:List GKey) ([]:List GKey) 0 0 0).bind λ (first_19,second_20,cuts_21)=>cond (decide (cuts_21 > 20)) (some (([]:List GKey),false)) ((app first_19 [(⟨2,(⟨0,[],0,false,0⟩:GItem)⟩:GKey)]).bind λ v_36=>(app v_36 second_20).bind λ v_37=>some (v_37,true)))
def g_impl_OpenEd (cells_1:List Int):Option GEd:=(g_impl_ParseCells cells_1).bind λ y_3=>some (⟨[],y_3,[]⟩:GEd)
def g_impl_ItemOk (it_1:GItem):Option Bool:=(g_impl_CellsOf it_1).bind λ y_3=>some (decide ((y_3.length:Int) > 0))
def g_impl_EdOkc1 (it_1:GItem):Option Bool:=(g_impl_ItemOk it_1).bind λ y_3=>some (!y_3)
def g_slices_IndexFunc_Item_impl_EdOkc1_l0 (s_1:List GItem) (v_4:Int):Nat->Int->Option (Unit ⊕ Int)
 | 0,_=>none
 | k+1,v_5=>cond (decide (v_5 < v_4)) ((getI s_1 v_5).bind λ v_7=>(g_impl_EdOkc1 v_7).bind λ y_8=>cond y_8 (some (.inr v_5)) (g_slices_IndexFunc_Item_impl_EdOkc1_l0 s_1 v_4 k (IntKind.wrap .i64 (v_5+1)))) (some (.inl ()))
def g_slices_IndexFunc_Item_impl_EdOkc1 (s_1:List GItem):Option Int:=((g_slices_IndexFunc_Item_impl_EdOkc1_l0 s_1 (s_1.length:Int) bigK 0).bind λ o=>match o with | .inl ()=>some (.inl ()) | .inr v_6=>some (.inr v_6):Option (Unit ⊕ Int)).bind λ o=>match o with | .inl ()=>some (-1) | .inr v_3=>some v_3
def g_slices_ContainsFunc_Item_impl_EdOkc1 (s_1:List GItem):Option Bool:=(g_slices_IndexFunc_Item_impl_EdOkc1 s_1).bind λ y_3=>some (decide (y_3 ≥ 0))
def g_slices_Grow_Item_emp (n_1:Int):Option (List GItem):=(cond (decide (n_1 < 0)) (none) (some ()):Option (Unit)).bind λ _=>(cond (decide ((IntKind.wrap .i64 (n_1-(IntKind.wrap .i64 (0-0)))) > 0)) ((mk ((⟨0,[],0,false,0⟩:GItem):GItem) (IntKind.wrap .i64 (n_1-(IntKind.wrap .i64 (0-0))))).bind λ v_4=>(subL v_4 0 0).bind λ v_5=>some v_5) (some []):Option ((List GItem))).bind λ s_3=>some s_3
def g_slices_Concat_Item_l0 (v_4:List (List GItem)) (v_5:Int):Nat->Int->Int->Option Int
 | 0,_,_=>none
 | k+1,size_6,v_7=>cond (decide (v_7 < v_5)) (((getI v_4 v_7).bind λ v_10=>cond (decide ((IntKind.wrap .i64 (size_6+(v_10.length:Int))) < 0)) (none) (some (IntKind.wrap .i64 (size_6+(v_10.length:Int)))):Option (Int)).bind λ size_9=>g_slices_Concat_Item_l0 v_4 v_5 k size_9 (IntKind.wrap .i64 (v_7+1))) (some size_6)
def g_slices_Concat_Item_l1 (v_13:List (List GItem)) (v_14:Int):Nat->(List GItem)->Int->Option (List GItem)
 | 0,_,_=>none
 | k+1,newslice_15,v_16=>cond (decide (v_16 < v_14)) ((getI v_13 v_16).bind λ v_18=>(app newslice_15 v_18).bind λ v_19=>g_slices_Concat_Item_l1 v_13 v_14 k v_19 (IntKind.wrap .i64 (v_16+1))) (some newslice_15)
def g_slices_Concat_Item (slices_1:List (List GItem)):Option (List GItem):=((g_slices_Concat_Item_l0 slices_1 (slices_1.length:Int) bigK 0 0).bind λ size_8=>some size_8:Option (Int)).bind λ size_3=>(g_slices_Grow_Item_emp size_3).bind λ y_11=>((g_slices_Concat_Item_l1 slices_1 (slices_1.length:Int) bigK y_11 0).bind λ newslice_17=>some newslice_17:Option ((List GItem))).bind λ newslice_12=>some newslice_12
def g_impl_edItems (e_1:GEd):Option (List GItem):=(g_slices_Concat_Item [e_1.Left,e_1.Right]).bind λ y_3=>some y_3
def g_impl_Unparse_l0 (v_6:List GItem) (v_7:Int):Nat->(List Int)->Int->Option ((List Int) ⊕ Bool)
 | 0,_,_=>none
 | k+1,out_8,v_9=>cond (decide (v_9 < v_7)) ((getI v_6 v_9).bind λ v_12=>(g_impl_CellsOf v_12).bind λ y_13=>(app out_8 y_13).bind λ v_14=>(cond ((y_13.length:Int)==0) (some true) (some (decide ((v_14.length:Int) > 64))):Option (Bool)).bind λ v_15=>cond v_15 (some (.inr false)) (g_impl_Unparse_l0 v_6 v_7 k v_14 (IntKind.wrap .i64 (v_9+1)))) (some (.inl out_8))
def g_impl_Unparse (list_1:List GItem):Option ((List Int)×Bool):=((g_impl_Unparse_l0 list_1 (list_1.length:Int) bigK ([]:List Int) 0).bind λ o=>match o with | .inl out_10=>some (.inl out_10) | .inr v_11=>some (.inr v_11):Option ((List Int) ⊕ Bool)).bind λ o=>match o with | .inl out_4=>some (out_4,true) | .inr v_5=>some ([],v_5)
def g_slices_Equal_Item_l0 (s1_1:List GItem) (s2_2:List GItem) (v_5:Int):Nat->Int->Option (Unit ⊕ Bool)
 | 0,_=>none
 | k+1,v_6=>cond (decide (v_6 < v_5)) ((getI s1_1 v_6).bind λ v_8=>(getI s2_2 v_6).bind λ v_9=>cond (!((v_8.Kind:Int)==v_9.Kind&&((v_8.Name:Bs)==v_9.Name&&((v_8.N:Int)==v_9.N&&((v_8.Hex:Bool)==v_9.Hex&&((v_8.Raw:Int)==v_9.Raw&&true)))))) (some (.inr false)) (g_slices_Equal_Item_l0 s1_1 s2_2 v_5 k (IntKind.wrap .i64 (v_6+1)))) (some (.inl ()))
def g_slices_Equal_Item (s1_1:List GItem) (s2_2:List GItem):Option Bool:=cond ((s1_1.length:Int) != (s2_2.length:Int)) (some false) (((g_slices_Equal_Item_l0 s1_1 s2_2 (s1_1.length:Int) bigK 0).bind λ o=>match o with | .inl ()=>some (.inl ()) | .inr v_7=>some (.inr v_7):Option (Unit ⊕ Bool)).bind λ o=>match o with | .inl ()=>some true | .inr v_4=>some v_4)
def g_impl_ListOk (list_1:List GItem):Option Bool:=(g_impl_Unparse list_1).bind λ y_3=>cond y_3.2 ((g_impl_ParseCells y_3.1).bind λ y_4=>(g_slices_Equal_Item y_4 list_1).bind λ y_5=>some y_5) (some false)
def g_impl_EdOk (e_1:GEd):Option Bool:=cond (decide ((e_1.Cut.length:Int)<=20)) ((g_slices_ContainsFunc_Item_impl_EdOkc1 e_1.Cut).bind λ y_3=>cond (!y_3) ((g_impl_edItems e_1).bind λ y_4=>(g_impl_ListOk y_4).bind λ y_5=>some y_5) (some false)) (some false)
def g_slices_Clone_Item (s_1:List GItem):Option (List GItem):=app ([]:List GItem) s_1
def g_impl_ownEd (e_1:GEd):Option GEd:=(g_slices_Clone_Item e_1.Left).bind λ y_3=>(g_slices_Clone_Item e_1.Right).bind λ y_4=>(g_slices_Clone_Item e_1.Cut).bind λ y_5=>some (⟨y_3,y_4,y_5⟩:GEd)
def g_slices_Insert_Item (s_1:List GItem) (i_2:Int) (v_3:List GItem):Option (List GItem):=gIns s_1 i_2 v_3
def g_impl_Recolor (it_1:GItem) (kind_2:Int):Option (GItem×Bool):=((g_impl_nameTag it_1.Kind).bind λ y_6=>cond (decide (y_6 > 0)) ((g_impl_nameTag kind_2).bind λ y_7=>some (decide (y_7 > 0))) (some false):Option (Bool)).bind λ names_5=>(cond (it_1.Kind==7) (cond (kind_2==7) (some true) (some (kind_2==8))) (cond (it_1.Kind==8) (cond (kind_2==7) (some true) (some (kind_2==8))) (some false)):Option (Bool)).bind λ numbers_8=>((g_impl_ItemOk it_1).bind λ y_10=>cond (!y_10) (some true) (cond (!names_5) (cond (!numbers_8) (some (kind_2 != it_1.Kind)) (some false)) (some false)):Option (Bool)).bind λ v_9=>cond v_9 (some ((⟨0,[],0,false,0⟩:GItem),false)) (some ((⟨kind_2,it_1.Name,it_1.N,it_1.Hex,it_1.Raw⟩:GItem),true))
def g_impl_pressed (e_1:GEd) (k_2:GKey):Option (GEd×Bool):=(g_impl_ownEd e_1).bind λ y_5=>(cond (k_2.Op==0) (cond ((e_1.Left.length:Int)==0) (some (.inr (false,e_1,y_5))) ((getI y_5.Left (IntKind.wrap .i64 ((e_1.Left.length:Int)-1))).bind λ v_11=>(g_slices_Insert_Item y_5.Right 0 [v_11]).bind λ y_12=>(subL y_5.Left 0 (IntKind.wrap .i64 ((e_1.Left.length:Int)-1))).bind λ v_13=>some (.inl ((⟨[],[],[]⟩:GEd),(⟨v_13,y_12,y_5.Cut⟩:GEd))))) (cond (k_2.Op==1) (cond ((e_1.Right.length:Int)==0) (some (.inr (false,e_1,y_5))) ((getI y_5.Right 0).bind λ v_14=>(app y_5.Left [v_14]).bind λ v_15=>(subL y_5.Right 1 ((y_5.Right.length:Nat):Int)).bind λ v_16=>some (.inl ((⟨[],[],[]⟩:GEd),(⟨v_15,v_16,y_5.Cut⟩:GEd))))) (cond (k_2.Op==2) ((g_impl_edItems e_1).bind λ y_17=>some (.inl ((⟨[],[],[]⟩:GEd),(⟨[],y_17,y_5.Cut⟩:GEd)))) (cond (k_2.Op==3) ((g_impl_edItems e_1).bind λ y_18=>some (.inl ((⟨[],[],[]⟩:GEd),(⟨y_18,[],y_5.Cut⟩:GEd)))) (cond (k_2.Op==4) ((app y_5.Left [k_2.Item]).bind λ v_19=>some (.inl ((⟨[],[],[]⟩:GEd),(⟨v_19,y_5.Right,y_5.Cut⟩:GEd)))) (cond (k_2.Op==5) (cond ((e_1.Left.length:Int)==0) (some (.inr (false,e_1,y_5))) ((getI y_5.Left (IntKind.wrap .i64 ((e_1.Left.length:Int)-1))).bind λ v_20=>(app y_5.Cut [v_20]).bind λ v_21=>(subL y_5.Left 0 (IntKind.wrap .i64 ((e_1.Left.length:Int)-1))).bind λ v_22=>some (.inl ((⟨[],[],[]⟩:GEd),(⟨v_22,y_5.Right,v_21⟩:GEd))))) (cond (k_2.Op==6) (cond (decide ((IntKind.wrap .i64 ((y_5.Cut.length:Int)-1)) < 0)) (some (.inr (false,e_1,y_5))) ((getI y_5.Cut (IntKind.wrap .i64 ((y_5.Cut.length:Int)-1))).bind λ v_23=>(app y_5.Left [v_23]).bind λ v_24=>(subL y_5.Cut 0 (IntKind.wrap .i64 ((y_5.Cut.length:Int)-1))).bind λ v_25=>some (.inl ((⟨[],[],[]⟩:GEd),(⟨v_24,y_5.Right,v_25⟩:GEd))))) (cond (k_2.Op==7) (cond ((e_1.Left.length:Int)==0) (some (.inr (false,e_1,y_5))) ((getI y_5.Left (IntKind.wrap .i64 ((e_1.Left.length:Int)-1))).bind λ v_26=>(g_impl_Recolor v_26 k_2.Item.Kind).bind λ y_27=>cond (!y_27.2) (some (.inr (false,e_1,y_5))) ((getI y_5.Left (IntKind.wrap .i64 ((e_1.Left.length:Int)-1))).bind λ v_28=>some (.inl ((⟨[],[],[]⟩:GEd),(⟨y_5.Left.set (IntKind.wrap .i64 ((e_1.Left.length:Int)-1)).toNat y_27.1,y_5.Right,y_5.Cut⟩:GEd)))))) (some (.inr (false,e_1,y_5)))))))))):Option ((GEd×GEd) ⊕ (Bool×GEd×GEd))).bind λ o=>match o with | .inl (x_6,x_7)=>(g_impl_EdOk x_7).bind λ y_29=>some (x_7,y_29) | .inr (v_8,x_9,x_10)=>some (x_9,v_8)
def g_impl_PressAll_l0 (v_10:List GKey) (v_11:Int):Nat->Int->Int->GEd->Option (Int×GEd)
 | 0,_,_,_=>none
 | k+1,refused_12,v_13,x_14=>cond (decide (v_13 < v_11)) (((getI v_10 v_13).bind λ v_19=>(g_impl_pressed x_14 v_19).bind λ y_20=>cond (!y_20.2) (some (IntKind.wrap .i64 (refused_12+1),x_14)) (some (refused_12,y_20.1)):Option ((Int×GEd))).bind λ (refused_17,x_18)=>g_impl_PressAll_l0 v_10 v_11 k refused_17 (IntKind.wrap .i64 (v_13+1)) x_18) (some (refused_12,x_14))
def g_impl_PressAll (e_1:GEd) (keys_2:List GKey):Option (GEd×Int):=(g_impl_EdOk e_1).bind λ y_5=>cond (!y_5) (some ((⟨[],[],[]⟩:GEd),(keys_2.length:Int))) ((g_impl_ownEd e_1).bind λ y_6=>((g_impl_PressAll_l0 keys_2 (keys_2.length:Int) bigK 0 0 y_6).bind λ (refused_15,x_16)=>some (refused_15,x_16):Option ((Int×GEd))).bind λ (refused_7,x_8)=>(g_impl_ownEd x_8).bind λ y_21=>some (y_21,refused_7))
def g_impl_EdCells (e_1:GEd):Option (List Int):=(g_impl_EdOk e_1).bind λ y_3=>cond (!y_3) (some []) ((g_impl_edItems e_1).bind λ y_4=>(g_impl_Unparse y_4).bind λ y_5=>some y_5.1)
def g_laws_padded_l0:Nat->(List Int)->Option (List Int)
 | 0,_=>none
 | k+1,out_4=>cond (decide ((out_4.length:Int) < 64)) ((app out_4 [0]).bind λ v_6=>g_laws_padded_l0 k v_6) (some out_4)
def g_laws_padded (cells_1:List Int):Option (List Int):=(app ([]:List Int) cells_1).bind λ v_3=>(g_laws_padded_l0 bigK v_3).bind λ out_5=>some out_5
def g_laws_sameCells_l0 (a_1:List Int) (b_2:List Int):Nat->Int->Option (Unit ⊕ Bool)
 | 0,_=>none
 | k+1,i_5=>cond (decide (i_5 < (a_1.length:Int))) ((getI a_1 i_5).bind λ v_7=>(getI b_2 i_5).bind λ v_8=>cond (v_7 != v_8) (some (.inr false)) (g_laws_sameCells_l0 a_1 b_2 k (IntKind.wrap .i64 (i_5+1)))) (some (.inl ()))
def g_laws_sameCells (a_1:List Int) (b_2:List Int):Option Bool:=cond ((a_1.length:Int) != (b_2.length:Int)) (some false) (((g_laws_sameCells_l0 a_1 b_2 bigK 0).bind λ o=>match o with | .inl ()=>some (.inl ()) | .inr v_6=>some (.inr v_6):Option (Unit ⊕ Bool)).bind λ o=>match o with | .inl ()=>some true | .inr v_4=>some v_4)
def g_impl_Common (a_1:List GItem) (b_2:List GItem):Option Int:=(cond (decide ((a_1.length:Int) > 64)) (some true) (some (decide ((b_2.length:Int) > 64))):Option (Bool)).bind λ v_4=>cond v_4 (some (-1)) ((g_impl_common a_1 b_2).bind λ y_5=>some y_5)
def g_istrconv_small (i_1:Int):Option Bs:=cond (decide (i_1 < 10)) ((subL [48,49,50,51,52,53,54,55,56,57,97,98,99,100,101,102,103,104,105,106,107,108,109,110,111,112,113,114,115,116,117,118,119,120,121,122] i_1 (IntKind.wrap .i64 (i_1+1))).bind λ v_3=>some v_3) ((subL [48,48,48,49,48,50,48,51,48,52,48,53,48,54,48,55,48,56,48,57,49,48,49,49,49,50,49,51,49,52,49,53,49,54,49,55,49,56,49,57,50,48,50,49,50,50,50,51,50,52,50,53,50,54,50,55,50,56,50,57,51,48,51,49,51,50,51,51,51,52,51,53,51,54,51,55,51,56,51,57,52,48,52,49,52,50,52,51,52,52,52,53,52,54,52,55,52,56,52,57,53,48,53,49,53,50,53,51,53,52,53,53,53,54,53,55,53,56,53,57,54,48,54,49,54,50,54,51,54,52,54,53,54,54,54,55,54,56,54,57,55,48,55,49,55,50,55,51,55,52,55,53,55,54,55,55,55,56,55,57,56,48,56,49,56,50,56,51,56,52,56,53,56,54,56,55,56,56,56,57,57,48,57,49,57,50,57,51,57,52,57,53,57,54,57,55,57,56,57,57] (IntKind.wrap .i64 (i_1*2)) (IntKind.wrap .i64 ((IntKind.wrap .i64 (i_1*2))+2))).bind λ v_4=>some v_4)
def g_math_bits_Len64 (x_1:Int):Option Int:=(cond (decide (x_1 ≥ 4294967296)) (some (x_1 / 4294967296,32)) (some (x_1,0)):Option ((Int×Int))).bind λ (x_3,n_4)=>(cond (decide (x_3 ≥ 65536)) (some (x_3 / 65536,IntKind.wrap .i64 (n_4+16))) (some (x_3,n_4)):Option ((Int×Int))).bind λ (x_5,n_6)=>(cond (decide (x_5 ≥ 256)) (some (x_5 / 256,IntKind.wrap .i64 (n_6+8))) (some (x_5,n_6)):Option ((Int×Int))).bind λ (x_7,n_8)=>(idxS [0,1,2,2,3,3,3,3,4,4,4,4,4,4,4,4,5,5,5,5,5,5,5,5,5,5,5,5,5,5,5,5,6,6,6,6,6,6,6,6,6,6,6,6,6,6,6,6,6,6,6,6,6,6,6,6,6,6,6,6,6,6,6,6,7,7,7,7,7,7,7,7,7,7,7,7,7,7,7,7,7,7,7,7,7,7,7,7,7,7,7,7,7,7,7,7,7,7,7,7,7,7,7,7,7,7,7,7,7,7,7,7,7,7,7,7,7,7,7,7,7,7,7,7,7,7,7,7,8,8,8,8,8,8,8,8,8,8,8,8,8,8,8,8,8,8,8,8,8,8,8,8,8,8,8,8,8,8,8,8,8,8,8,8,8,8,8,8,8,8,8,8,8,8,8,8,8,8,8,8,8,8,8,8,8,8,8,8,8,8,8,8,8,8,8,8,8,8,8,8,8,8,8,8,8,8,8,8,8,8,8,8,8,8,8,8,8,8,8,8,8,8,8,8,8,8,8,8,8,8,8,8,8,8,8,8,8,8,8,8,8,8,8,8,8,8,8,8,8,8,8,8,8,8,8,8] (IntKind.wrap .u8 x_7)).bind λ v_9=>some (IntKind.wrap .i64 (n_8+(IntKind.wrap .i64 v_9)))
def g_istrconv_log10Pow2 (x_1:Int):Option Int:=some ((IntKind.wrap .i64 (x_1*78913)) / 262144)
def g_istrconv_bool2_int (b_1:Bool):Option Int:=cond b_1 (some 1) (some 0)
def g_istrconv_numDigits (d_1:Int):Option Int:=(g_math_bits_Len64 d_1).bind λ y_3=>(g_istrconv_log10Pow2 y_3).bind λ y_4=>(getI gtPow10 y_4).bind λ v_5=>(g_istrconv_bool2_int (decide (d_1 ≥ v_5))).bind λ y_6=>some (IntKind.wrap .i64 (y_4+y_6))
def g_istrconv_isPowerOfTwo (x_1:Int):Option Bool:=some ((andI .i64 x_1 (IntKind.wrap .i64 (x_1-1)))==0)
def g_math_bits_TrailingZeros64 (x_1:Int):Option Int:=cond (x_1==0) (some 64) ((shrI .u64 (IntKind.wrap .u64 ((andI .u64 x_1 (IntKind.wrap .u64 (0-x_1)))*285870213051353865)) 58).bind λ v_3=>(getI gtBruijn v_3).bind λ v_4=>some (IntKind.wrap .i64 v_4))
def g_math_bits_TrailingZeros (x_1:Int):Option Int:=(g_math_bits_TrailingZeros64 x_1).bind λ y_3=>some y_3
def g_istrconv_formatBits_l0 (shift_14:Int) (b_15:Int) (m_16:Int):Nat->Int->Int->(List Int)->Option (Int×Int×(List Int))
 | 0,_,_,_=>none
 | k+1,u_17,i_18,p_19=>cond (decide (u_17 ≥ b_15)) ((idxS [48,49,50,51,52,53,54,55,56,57,97,98,99,100,101,102,103,104,105,106,107,108,109,110,111,112,113,114,115,116,117,118,119,120,121,122] (andI .u64 u_17 m_16)).bind λ v_23=>(chk (Nat.beq 65 (p_19).length)).bind λ v__24=>(getI p_19 (IntKind.wrap .i64 (i_18-1))).bind λ v_25=>(shrI .u64 u_17 shift_14).bind λ v_26=>g_istrconv_formatBits_l0 shift_14 b_15 m_16 k v_26 (IntKind.wrap .i64 (i_18-1)) (p_19.set (IntKind.wrap .i64 (i_18-1)).toNat v_23)) (some (u_17,i_18,p_19))
def g_istrconv_formatBits_l1 (b_31:Int):Nat->Int->Int->(List Int)->Option (Int×Int×(List Int))
 | 0,_,_,_=>none
 | k+1,u_32,i_33,p_34=>cond (decide (u_32 ≥ b_31)) ((quoI .u64 u_32 b_31).bind λ v_38=>(idxS [48,49,50,51,52,53,54,55,56,57,97,98,99,100,101,102,103,104,105,106,107,108,109,110,111,112,113,114,115,116,117,118,119,120,121,122] (IntKind.wrap .u64 (u_32-(IntKind.wrap .u64 (v_38*b_31))))).bind λ v_39=>(chk (Nat.beq 65 (p_34).length)).bind λ v__40=>(getI p_34 (IntKind.wrap .i64 (i_33-1))).bind λ v_41=>g_istrconv_formatBits_l1 b_31 k v_38 (IntKind.wrap .i64 (i_33-1)) (p_34.set (IntKind.wrap .i64 (i_33-1)).toNat v_39)) (some (u_32,i_33,p_34))
def g_istrconv_formatBits (dst_1:List Int) (u_2:Int) (base_3:Int) (neg_4:Bool) (append__5:Bool):Option Bs:=((cond (decide (base_3 < 2)) (some true) (cond (base_3==10) (some true) (some (decide (base_3 > 36)))):Option (Bool)).bind λ v_7=>cond v_7 (none) (some ()):Option (Unit)).bind λ _=>(cond neg_4 (some (IntKind.wrap .u64 (0-u_2))) (some u_2):Option (Int)).bind λ u_8=>((g_istrconv_isPowerOfTwo base_3).bind λ y_11=>cond y_11 ((g_math_bits_TrailingZeros (IntKind.wrap .u64 base_3)).bind λ y_12=>(g_istrconv_formatBits_l0 (IntKind.wrap .u64 y_12) (IntKind.wrap .u64 base_3) (IntKind.wrap .u64 ((IntKind.wrap .u64 base_3)-1)) bigK u_8 65 (zB 65)).bind λ (u_20,i_21,p_22)=>(idxS [48,49,50,51,52,53,54,55,56,57,97,98,99,100,101,102,103,104,105,106,107,108,109,110,111,112,113,114,115,116,117,118,119,120,121,122] u_20).bind λ v_27=>(chk (Nat.beq 65 (p_22).length)).bind λ v__28=>(getI p_22 (IntKind.wrap .i64 (i_21-1))).bind λ v_29=>some (IntKind.wrap .i64 (i_21-1),p_22.set (IntKind.wrap .i64 (i_21-1)).toNat v_27)) ((g_istrconv_formatBits_l1 (IntKind.wrap .u64 base_3) bigK u_8 65 (zB 65)).bind λ (u_35,i_36,p_37)=>(idxS [48,49,50,51,52,53,54,55,56,57,97,98,99,100,101,102,103,104,105,106,107,108,109,110,111,112,113,114,115,116,117,118,119,120,121,122] u_35).bind λ v_42=>(chk (Nat.beq 65 (p_37).length)).bind λ v__43=>(getI p_37 (IntKind.wrap .i64 (i_36-1))).bind λ v_44=>some (IntKind.wrap .i64 (i_36-1),p_37.set (IntKind.wrap .i64 (i_36-1)).toNat v_42)):Option ((Int×(List Int)))).bind λ (i_9,p_10)=>(cond neg_4 ((chk (Nat.beq 65 (p_10).length)).bind λ v__47=>(getI p_10 (IntKind.wrap .i64 (i_9-1))).bind λ v_48=>some (IntKind.wrap .i64 (i_9-1),p_10.set (IntKind.wrap .i64 (i_9-1)).toNat 45)) (some (i_9,p_10)):Option ((Int×(List Int)))).bind λ (i_45,p_46)=>cond append__5 ((chk (Nat.beq 65 (p_46).length)).bind λ v__49=>(subL p_46 i_45 ((65:Nat):Int)).bind λ v_50=>none) ((chk (Nat.beq 65 (p_46).length)).bind λ v__51=>(subL p_46 i_45 ((65:Nat):Int)).bind λ v_52=>some (strOf v_52))
def g_istrconv_FormatUint (i_1:Int) (base_2:Int):Option Bs:=cond (base_2==10) (cond (decide (i_1 < 100)) ((g_istrconv_small (IntKind.wrap .i64 i_1)).bind λ y_4=>some y_4) ((g_istrconv_numDigits i_1).bind λ y_5=>(chk (Nat.beq 24 ((zB 24)).length)).bind λ v__6=>(subL (zB 24) 0 y_5).bind λ v_7=>none)) ((g_istrconv_formatBits [] i_1 base_2 false false).bind λ y_8=>some y_8)
def g_strconv_FormatUint (i_1:Int) (base_2:Int):Option Bs:=(g_istrconv_FormatUint i_1 base_2).bind λ y_4=>some y_4
def g_impl_HexText (n_1:Int):Option Bs:=(g_strconv_FormatUint (IntKind.wrap .u64 n_1) 16).bind λ y_3=>some y_3
def g_strconv_Itoa (i_1:Int):Option Bs:=gItoa i_1
def g_impl_DecText (n_1:Int):Option Bs:=(g_strconv_Itoa n_1).bind λ y_3=>some y_3
def g_impl_digits (n_1:Int) (hex_2:Bool):Option Bs:=cond hex_2 ((g_impl_HexText (IntKind.wrap .u32 n_1)).bind λ y_4=>(catS [36] y_4).bind λ v_5=>some v_5) ((g_impl_DecText (IntKind.wrap .i64 n_1)).bind λ y_6=>(catS [35] y_6).bind λ v_7=>some v_7)
def g_impl_mark (kind_1:Int):Option Bs:=cond (kind_1==1) (some [126]) (cond (kind_1==2) (some [58]) (cond (kind_1==3) (some [61]) (cond (kind_1==4) (some [34]) (cond (kind_1==5) (some [94]) (cond (kind_1==6) (some [95]) (some []))))))
def g_impl_ItemText (it_1:GItem):Option Bs:=(g_impl_ItemOk it_1).bind λ y_3=>cond (!y_3) (some []) (cond (it_1.Kind==0) ((g_impl_HexText it_1.Raw).bind λ y_4=>(catS [37] y_4).bind λ v_5=>some v_5) (cond (it_1.Kind==7) ((g_impl_digits it_1.N it_1.Hex).bind λ y_6=>(catS [126] y_6).bind λ v_7=>some v_7) (cond (it_1.Kind==8) ((g_impl_digits it_1.N it_1.Hex).bind λ y_8=>(catS [61] y_8).bind λ v_9=>some v_9) (cond (it_1.Kind==9) ((catS [38] it_1.Name).bind λ v_10=>(g_impl_digits it_1.N false).bind λ y_11=>(catS v_10 y_11).bind λ v_12=>some v_12) ((g_impl_mark it_1.Kind).bind λ y_13=>(catS y_13 it_1.Name).bind λ v_14=>some v_14)))))
def g_strings_Join (xs_1:List Bs) (sep_2:Bs):Option Bs:=gJoin xs_1 sep_2
def g_impl_PlanText_l0 (v_5:List GKey) (v_6:Int):Nat->(List Bs)->Int->Option ((List Bs) ⊕ Bs)
 | 0,_,_=>none
 | k+1,parts_7,v_8=>cond (decide (v_8 < v_6)) (((getI v_5 v_8).bind λ v_13=>cond (v_13.Op==1) ((app parts_7 [[62]]).bind λ v_14=>some (.inl v_14)) (cond (v_13.Op==5) ((app parts_7 [[120]]).bind λ v_15=>some (.inl v_15)) (cond (v_13.Op==2) ((app parts_7 [[124]]).bind λ v_16=>some (.inl v_16)) ((cond (v_13.Op==4) ((g_impl_ItemOk v_13.Item).bind λ y_18=>some y_18) (some false):Option (Bool)).bind λ v_17=>cond v_17 ((g_impl_ItemText v_13.Item).bind λ y_19=>(catS [43] y_19).bind λ v_20=>(app parts_7 [v_20]).bind λ v_21=>some (.inl v_21)) (some (.inr []))))):Option ((List Bs) ⊕ Bs)).bind λ o=>match o with | .inl parts_11=>g_impl_PlanText_l0 v_5 v_6 k parts_11 (IntKind.wrap .i64 (v_8+1)) | .inr v_12=>some (.inr v_12)) (some (.inl parts_7))
def g_impl_PlanText (keys_1:List GKey):Option Bs:=((g_impl_PlanText_l0 keys_1 (keys_1.length:Int) bigK ([]:List Bs) 0).bind λ o=>match o with | .inl parts_9=>some (.inl parts_9) | .inr v_10=>some (.inr v_10):Option ((List Bs) ⊕ Bs)).bind λ o=>match o with | .inl parts_3=>(g_strings_Join parts_3 [32]).bind λ y_22=>some y_22 | .inr v_4=>some v_4
def g_laws_FnPlan_l0 (keys_18:List GKey):Nat->Int->Int->Option Int
 | 0,_,_=>none
 | k+1,puts_20,i_21=>cond (decide (i_21 < (keys_18.length:Int))) (((getI keys_18 i_21).bind λ v_24=>cond (v_24.Op==4) (some (IntKind.wrap .i64 (puts_20+1))) (some puts_20):Option (Int)).bind λ puts_23=>g_laws_FnPlan_l0 keys_18 k puts_23 (IntKind.wrap .i64 (i_21+1))) (some puts_20)
def g_laws_FnPlan (code_1:List Int):Option Bool:=(g_laws_big code_1).bind λ y_3=>cond y_3 (some true) ((g_spec_DrawPlan code_1).bind λ y_4=>(g_impl_Plan y_4.1 y_4.2).bind λ y_5=>(g_spec_Plan y_4.1 y_4.2).bind λ y_6=>cond (y_5.2 != y_6.2) (some false) (cond (!y_5.2) (some ((y_5.1.length:Int)==0)) ((g_impl_OpenEd y_4.1).bind λ y_7=>(g_impl_PressAll y_7 y_5.1).bind λ y_8=>(cond (decide (y_8.2 > 0)) (some true) ((g_impl_EdCells y_8.1).bind λ y_10=>(g_laws_padded y_10).bind λ y_11=>(g_laws_padded y_4.2).bind λ y_12=>(g_laws_sameCells y_11 y_12).bind λ y_13=>some (!y_13)):Option (Bool)).bind λ v_9=>cond v_9 (some false) (((g_laws_FnPlan_l0 y_5.1 bigK 0 0).bind λ puts_22=>some puts_22:Option (Int)).bind λ puts_14=>(g_impl_ParseCells y_4.1).bind λ y_25=>(g_impl_ParseCells y_4.2).bind λ y_26=>(g_impl_Common y_25 y_26).bind λ y_27=>cond (puts_14==(IntKind.wrap .i64 ((y_26.length:Int)-y_27))) (cond ((y_8.1.Cut.length:Int)==(IntKind.wrap .i64 ((y_25.length:Int)-y_27))) ((g_impl_PlanText y_5.1).bind λ y_28=>some ((y_28==[])==((y_5.1.length:Int)==0))) (some false)) (some false)))))
def bodyOf (f:Func):Code:=match f.body with|some c=>c|none=>.skip
end Go.Proofs.YtgfamepnkhpemaaGreatDoor
namespace Go.Proofs.YtgfamepnkhpemaaGreatDoor
open Go Go.Fm
set_option maxRecDepth 1000000
def itoaLays_ren:Go.Shelf.Ren:=⟨fun|171=>68|243=>110|246=>144|283=>145|284=>146|285=>147|286=>148|129=>172|317=>171|318=>173|319=>174|320=>175|337=>190|338=>191|n=>n,fun|3=>3|9=>9|2=>2|4=>4|171=>167|0=>0|53=>100|37=>29|5=>5|173=>170|212=>181|51=>48|20=>20|213=>182|46=>133|232=>197|233=>198|n=>n,fun|17=>0|18=>4|19=>5|n=>n⟩
theorem itoaLays:Go.Proofs.LaysM.n171 Tryz.prog itoaLays_ren where
 mixed:=by kernel_rfl
 f129:=Tryz.func172.trans (congrArg some (by kernel_rfl))
 f171:=Tryz.func68.trans (congrArg some (by kernel_rfl))
 f243:=Tryz.func110.trans (congrArg some (by kernel_rfl))
 f246:=Tryz.func144.trans (congrArg some (by kernel_rfl))
 f283:=Tryz.func145.trans (congrArg some (by kernel_rfl))
 f284:=Tryz.func146.trans (congrArg some (by kernel_rfl))
 f285:=Tryz.func147.trans (congrArg some (by kernel_rfl))
 f286:=Tryz.func148.trans (congrArg some (by kernel_rfl))
 f317:=Tryz.func171.trans (congrArg some (by kernel_rfl))
 f318:=Tryz.func173.trans (congrArg some (by kernel_rfl))
 f319:=Tryz.func174.trans (congrArg some (by kernel_rfl))
 f320:=Tryz.func175.trans (congrArg some (by kernel_rfl))
 f337:=Tryz.func190.trans (congrArg some (by kernel_rfl))
 f338:=Tryz.func191.trans (congrArg some (by kernel_rfl))
 t0:=Tryz.underlying0
 a0:=Tryz.isAgg0
 z0:=Tryz.sizeOf0
 v0:=Tryz.zeroValue0
 t2:=Tryz.underlying2
 a2:=Tryz.isAgg2
 z2:=Tryz.sizeOf2
 v2:=Tryz.zeroValue2
 t3:=Tryz.underlying3
 a3:=Tryz.isAgg3
 z3:=Tryz.sizeOf3
 v3:=Tryz.zeroValue3
 t4:=Tryz.underlying4
 a4:=Tryz.isAgg4
 z4:=Tryz.sizeOf4
 v4:=Tryz.zeroValue4
 t5:=Tryz.underlying5
 a5:=Tryz.isAgg5
 z5:=Tryz.sizeOf5
 v5:=Tryz.zeroValue5
 t9:=Tryz.underlying9
 a9:=Tryz.isAgg9
 z9:=Tryz.sizeOf9
 v9:=Tryz.zeroValue9
 t20:=Tryz.underlying20
 a20:=Tryz.isAgg20
 z20:=Tryz.sizeOf20
 v20:=Tryz.zeroValue20
 t37:=Tryz.underlying29
 a37:=Tryz.isAgg29
 z37:=Tryz.sizeOf29
 v37:=Tryz.zeroValue29
 t46:=Tryz.underlying133
 a46:=Tryz.isAgg133
 z46:=Tryz.sizeOf133
 v46:=Tryz.zeroValue133
 t51:=Tryz.underlying48
 a51:=Tryz.isAgg48
 z51:=Tryz.sizeOf48
 v51:=Tryz.zeroValue48
 t53:=Tryz.underlying100
 a53:=Tryz.isAgg100
 z53:=Tryz.sizeOf100
 v53:=Tryz.zeroValue100
 t171:=Tryz.underlying167
 a171:=Tryz.isAgg167
 z171:=Tryz.sizeOf167
 v171:=Tryz.zeroValue167
 t173:=Tryz.underlying170
 a173:=Tryz.isAgg170
 z173:=Tryz.sizeOf170
 v173:=Tryz.zeroValue170
 t212:=Tryz.underlying181
 a212:=Tryz.isAgg181
 z212:=Tryz.sizeOf181
 v212:=Tryz.zeroValue181
 t213:=Tryz.underlying182
 a213:=Tryz.isAgg182
 z213:=Tryz.sizeOf182
 t232:=Tryz.underlying197
 a232:=Tryz.isAgg197
 z232:=Tryz.sizeOf197
 v232:=Tryz.zeroValue197
 t233:=Tryz.underlying198
 a233:=Tryz.isAgg198
 z233:=Tryz.sizeOf198
 v233:=Tryz.zeroValue198
 g17:=by kernel_rfl
 g18:=by kernel_rfl
 g19:=by kernel_rfl
 i0:=by kernel_rfl
 i2:=by kernel_rfl
 i3:=by kernel_rfl
 i4:=by kernel_rfl
 i5:=by kernel_rfl
 i9:=by kernel_rfl
 i20:=by kernel_rfl
 i37:=by kernel_rfl
 i46:=by kernel_rfl
 i51:=by kernel_rfl
 i53:=by kernel_rfl
 i171:=by kernel_rfl
 i173:=by kernel_rfl
 i212:=by kernel_rfl
 i232:=by kernel_rfl
 i233:=by kernel_rfl
 m17:=by kernel_rfl
 m18:=by kernel_rfl
 m19:=by kernel_rfl
def joinLays_ren:Go.Shelf.Ren:=⟨fun|156=>35|165=>70|166=>71|169=>72|240=>112|241=>113|276=>149|277=>150|n=>n,fun|31=>60|9=>9|3=>3|4=>4|0=>0|20=>20|72=>103|76=>107|70=>101|37=>29|75=>106|127=>142|164=>172|5=>5|80=>63|n=>n,fun|n=>n⟩
theorem joinLays:Go.Proofs.Lays.n156 Tryz.prog joinLays_ren where
 mixed:=by kernel_rfl
 f156:=Tryz.func35.trans (congrArg some (by kernel_rfl))
 f165:=Tryz.func70.trans (congrArg some (by kernel_rfl))
 f166:=Tryz.func71.trans (congrArg some (by kernel_rfl))
 f169:=Tryz.func72.trans (congrArg some (by kernel_rfl))
 f240:=Tryz.func112.trans (congrArg some (by kernel_rfl))
 f241:=Tryz.func113.trans (congrArg some (by kernel_rfl))
 f276:=Tryz.func149.trans (congrArg some (by kernel_rfl))
 f277:=Tryz.func150.trans (congrArg some (by kernel_rfl))
 t0:=Tryz.underlying0
 a0:=Tryz.isAgg0
 z0:=Tryz.sizeOf0
 v0:=Tryz.zeroValue0
 t3:=Tryz.underlying3
 a3:=Tryz.isAgg3
 z3:=Tryz.sizeOf3
 v3:=Tryz.zeroValue3
 t4:=Tryz.underlying4
 a4:=Tryz.isAgg4
 z4:=Tryz.sizeOf4
 v4:=Tryz.zeroValue4
 t9:=Tryz.underlying9
 a9:=Tryz.isAgg9
 z9:=Tryz.sizeOf9
 v9:=Tryz.zeroValue9
 t20:=Tryz.underlying20
 a20:=Tryz.isAgg20
 z20:=Tryz.sizeOf20
 v20:=Tryz.zeroValue20
 t31:=Tryz.underlying60
 a31:=Tryz.isAgg60
 z31:=Tryz.sizeOf60
 v31:=Tryz.zeroValue60
 t37:=Tryz.underlying29
 a37:=Tryz.isAgg29
 z37:=Tryz.sizeOf29
 v37:=Tryz.zeroValue29
 t70:=Tryz.underlying101
 a70:=Tryz.isAgg101
 z70:=Tryz.sizeOf101
 v70:=Tryz.zeroValue101
 t72:=Tryz.underlying103
 a72:=Tryz.isAgg103
 z72:=Tryz.sizeOf103
 v72:=Tryz.zeroValue103
 t75:=Tryz.underlying106
 a75:=Tryz.isAgg106
 z75:=Tryz.sizeOf106
 v75:=Tryz.zeroValue106
 t76:=Tryz.underlying107
 a76:=Tryz.isAgg107
 z76:=Tryz.sizeOf107
 v76:=Tryz.zeroValue107
 t127:=Tryz.underlying142
 a127:=Tryz.isAgg142
 z127:=Tryz.sizeOf142
 v127:=Tryz.zeroValue142
 t164:=Tryz.underlying172
 a164:=Tryz.isAgg172
 z164:=Tryz.sizeOf172
 v164:=Tryz.zeroValue172
def joinX_ren:Go.Shelf.Ren:=⟨fun|156=>35|165=>70|166=>71|169=>72|240=>112|241=>113|276=>149|277=>150|n=>n,fun|31=>60|9=>9|3=>3|4=>4|0=>0|20=>20|72=>103|76=>107|70=>101|37=>29|75=>106|127=>142|164=>172|5=>5|80=>63|n=>n,fun|n=>n⟩
theorem joinX:Go.Proofs.Builder.Extra Tryz.prog joinX_ren where
 sizeBuilder:=by kernel_rfl
 liesBuilder:=by kernel_rfl
 t5:=Tryz.underlying5
 a5:=Tryz.isAgg5
 z5:=Tryz.sizeOf5
 v5:=Tryz.zeroValue5
 infoByte:=by kernel_rfl
 cellsByte:=by kernel_rfl
 sizeByte:=by kernel_rfl
 neB5:=by decide
end Go.Proofs.YtgfamepnkhpemaaGreatDoor
namespace Go.Proofs.YtgfamepnkhpemaaGreatDoor
open Go Go.Fm
set_option maxRecDepth 1000000
noncomputable def e_laws_big:Con:=⟨11,⟨[(0, .s K1 [])],[]⟩,⟨[(0, .s K2 [])],[]⟩,false,[],λ code_1=>g_laws_big code_1⟩
noncomputable def e_spec_l01New:Con:=⟨38,⟨[(0, .s K1 [])],[]⟩,⟨[(0, .c (.one (.ptr 0 0)))],[.v K4 []]⟩,true,[],λ code_1=>g_spec_l01New code_1⟩
noncomputable def e_spec_l01Byte:Con:=⟨114,⟨[(0, .c (.one (.ptr 0 0)))],[.v K4 []]⟩,⟨[(0, .s K3 [])],[.v K4 []]⟩,true,[],λ c_1=>g_spec_l01Byte c_1⟩
noncomputable def e_spec_l01Below:Con:=⟨74,⟨[(0, .c (.one (.ptr 0 0))),(1, .s K3 [])],[.v K4 []]⟩,⟨[(0, .s K3 [])],[.v K4 []]⟩,true,[],λ (n_1,c_2)=>g_spec_l01Below n_1 c_2⟩
noncomputable def e_spec_l01Once:Con:=⟨40,⟨[(0, .c (.one (.ptr 0 0))),(1, .s K3 [])],[.v K4 []]⟩,⟨[(0, .s K2 [])],[.v K4 []]⟩,true,[],λ (n_1,c_2)=>g_spec_l01Once n_1 c_2⟩
noncomputable def e_spec_l01Pick:Con:=⟨42,⟨[(0, .c (.one (.ptr 0 0))),(1, .s K10 [])],[.v K4 []]⟩,⟨[(0, .s K5 [])],[.v K4 []]⟩,true,[],λ (list_1,c_2)=>g_spec_l01Pick list_1 c_2⟩
noncomputable def e_spec_l13G:Con:=⟨123,⟨[(0, .s K5 [])],[]⟩,⟨[(0, .s K8 [])],[]⟩,false,[],λ name_1=>g_spec_l13G name_1⟩
noncomputable def e_spec_l13N:Con:=⟨124,⟨[(0, .s K3 [])],[]⟩,⟨[(0, .s K8 [])],[]⟩,false,[],λ n_1=>g_spec_l13N n_1⟩
noncomputable def e_spec_l13Y:Con:=⟨125,⟨[(0, .s K5 [])],[]⟩,⟨[(0, .s K8 [])],[]⟩,false,[],λ name_1=>g_spec_l13Y name_1⟩
noncomputable def e_spec_l08Names:Con:=⟨157,⟨[],[]⟩,⟨[(0, .s K10 [(0,0)])],[.o]⟩,false,[],λ _=>g_spec_l08Names⟩
noncomputable def e_spec_l01In:Con:=⟨143,⟨[(0, .s K3 []),(1, .s K3 []),(2, .s K3 [])],[]⟩,⟨[(0, .s K2 [])],[]⟩,false,[],λ (x_1,a_2,b_3)=>g_spec_l01In x_1 a_2 b_3⟩
noncomputable def e_spec_PrimName:Con:=⟨126,⟨[(0, .s K3 [])],[]⟩,⟨[(0, .s K5 [])],[]⟩,false,[],λ k_1=>g_spec_PrimName k_1⟩
noncomputable def e_spec_l13Word:Con:=⟨122,⟨[(0, .c (.one (.ptr 0 0)))],[.v K4 []]⟩,⟨[(0, .s K9 [(0,1)])],[.v K4 [], .o]⟩,true,[],λ c_1=>g_spec_l13Word c_1⟩
noncomputable def e_spec_l01PickInt:Con:=⟨41,⟨[(0, .c (.one (.ptr 0 0))),(1, .s K11 [])],[.v K4 []]⟩,⟨[(0, .s K3 [])],[.v K4 []]⟩,true,[],λ (list_1,c_2)=>g_spec_l01PickInt list_1 c_2⟩
noncomputable def e_spec_l04Int:Con:=⟨115,⟨[(0, .c (.one (.ptr 0 0)))],[.v K4 []]⟩,⟨[(0, .s K6 [])],[.v K4 []]⟩,true,[],λ c_1=>g_spec_l04Int c_1⟩
noncomputable def e_spec_l02All:Con:=⟨176,⟨[],[]⟩,⟨[(0, .s K5 [])],[]⟩,false,[],λ _=>g_spec_l02All⟩
noncomputable def e_spec_LetterAt:Con:=⟨151,⟨[(0, .s K3 [])],[]⟩,⟨[(0, .s K0 [])],[]⟩,false,[],λ k_1=>g_spec_LetterAt k_1⟩
noncomputable def e_spec_l02Name:Con:=⟨116,⟨[(0, .c (.one (.ptr 0 0)))],[.v K4 []]⟩,⟨[(0, .s K5 [])],[.v K4 []]⟩,true,[],λ c_1=>g_spec_l02Name c_1⟩
noncomputable def e_spec_l04Some:Con:=⟨75,⟨[(0, .c (.one (.ptr 0 0)))],[.v K4 []]⟩,⟨[(0, .s K8 [])],[.v K4 []]⟩,true,[],λ c_1=>g_spec_l04Some c_1⟩
noncomputable def e_spec_l01Word:Con:=⟨117,⟨[(0, .c (.one (.ptr 0 0)))],[.v K4 []]⟩,⟨[(0, .s K7 [])],[.v K4 []]⟩,true,[],λ c_1=>g_spec_l01Word c_1⟩
noncomputable def e_spec_l04Any:Con:=⟨76,⟨[(0, .c (.one (.ptr 0 0)))],[.v K4 []]⟩,⟨[(0, .s K8 [])],[.v K4 []]⟩,true,[],λ c_1=>g_spec_l04Any c_1⟩
noncomputable def e_spec_l13List:Con:=⟨82,⟨[(0, .c (.one (.ptr 0 0))),(1, .s K3 [])],[.v K4 []]⟩,⟨[(0, .s K9 [(0,1)])],[.v K4 [], .o]⟩,true,[],λ (blocks_1,c_2)=>g_spec_l13List blocks_1 c_2⟩
noncomputable def e_spec_l04List:Con:=⟨39,⟨[(0, .c (.one (.ptr 0 0))),(1, .s K3 [])],[.v K4 []]⟩,⟨[(0, .s K9 [(0,1)])],[.v K4 [], .o]⟩,true,[],λ (most_1,c_2)=>g_spec_l04List most_1 c_2⟩
noncomputable def e_spec_l04Num:Con:=⟨158,⟨[(0, .s K6 []),(1, .s K2 []),(2, .s K7 []),(3, .s K7 [])],[]⟩,⟨[(0, .s K12 [(0,0)])],[.o]⟩,false,[],λ (n_1,hex_2,short_3,long_4)=>g_spec_l04Num n_1 hex_2 short_3 long_4⟩
noncomputable def e_spec_LetterOf:Con:=⟨195,⟨[(0, .s K0 [])],[]⟩,⟨[(0, .s K3 [])],[]⟩,false,[],λ b_1=>g_spec_LetterOf b_1⟩
noncomputable def e_spec_NameOk:Con:=⟨184,⟨[(0, .s K5 [])],[]⟩,⟨[(0, .s K2 [])],[]⟩,false,[],λ s_1=>g_spec_NameOk s_1⟩
noncomputable def e_spec_WidthOf:Con:=⟨187,⟨[(0, .s K3 [])],[]⟩,⟨[(0, .s K3 [])],[]⟩,false,[],λ k_1=>g_spec_WidthOf k_1⟩
noncomputable def e_spec_BitsOf:Con:=⟨188,⟨[(0, .s K3 [])],[]⟩,⟨[(0, .s K7 [])],[]⟩,false,[],λ k_1=>g_spec_BitsOf k_1⟩
noncomputable def e_spec_l03One:Con:=⟨186,⟨[(0, .s K5 [])],[]⟩,⟨[(0, .s K7 []),(1, .s K3 [])],[]⟩,false,[],λ s_1=>g_spec_l03One s_1⟩
noncomputable def e_spec_Pack:Con:=⟨162,⟨[(0, .s K5 [])],[]⟩,⟨[(0, .s K12 [(0,0)])],[.o]⟩,false,[],λ s_1=>g_spec_Pack s_1⟩
noncomputable def e_spec_l04Word:Con:=⟨159,⟨[(0, .s K7 []),(1, .s K5 [])],[]⟩,⟨[(0, .s K12 [(0,0)])],[.o]⟩,false,[],λ (tag_1,name_2)=>g_spec_l04Word tag_1 name_2⟩
noncomputable def e_spec_l04Tag:Con:=⟨160,⟨[(0, .s K3 [])],[]⟩,⟨[(0, .s K7 [])],[]⟩,false,[],λ kind_1=>g_spec_l04Tag kind_1⟩
noncomputable def e_spec_CellsOf:Con:=⟨127,⟨[(0, .s K8 [])],[]⟩,⟨[(0, .s K12 [(0,0)])],[.o]⟩,false,[],λ it_1=>g_spec_CellsOf it_1⟩
noncomputable def e_spec_Unparse:Con:=⟨83,⟨[(0, .s K9 [])],[]⟩,⟨[(0, .s K12 [(0,0)]),(1, .s K2 [])],[.o]⟩,false,[],λ list_1=>g_spec_Unparse list_1⟩
noncomputable def e_spec_l22Twin:Con:=⟨84,⟨[(0, .c (.one (.ptr 0 0))),(1, .s K9 [])],[.v K4 []]⟩,⟨[(0, .s K9 [(0,1)])],[.v K4 [], .o]⟩,true,[],λ (list_1,c_2)=>g_spec_l22Twin list_1 c_2⟩
noncomputable def e_spec_l04Cells:Con:=⟨85,⟨[(0, .c (.one (.ptr 0 0)))],[.v K4 []]⟩,⟨[(0, .s K12 [(0,1)])],[.v K4 [], .o]⟩,true,[],λ c_1=>g_spec_l04Cells c_1⟩
noncomputable def e_spec_l22Pair:Con:=⟨47,⟨[(0, .c (.one (.ptr 0 0)))],[.v K4 []]⟩,⟨[(0, .s K12 [(0,1)]),(1, .s K12 [(0,2)])],[.v K4 [], .o, .o]⟩,true,[],λ c_1=>g_spec_l22Pair c_1⟩
noncomputable def e_spec_DrawPlan:Con:=⟨15,⟨[(0, .s K1 [])],[]⟩,⟨[(0, .s K12 [(0,0)]),(1, .s K12 [(0,1)])],[.o, .o]⟩,false,[],λ code_1=>g_spec_DrawPlan code_1⟩
noncomputable def e_impl_within:Con:=⟨166,⟨[(0, .s K3 []),(1, .s K3 []),(2, .s K3 [])],[]⟩,⟨[(0, .s K2 [])],[]⟩,false,[],λ (n_1,low_2,high_3)=>g_impl_within n_1 low_2 high_3⟩
noncomputable def e_impl_WidthOf:Con:=⟨167,⟨[(0, .s K3 [])],[]⟩,⟨[(0, .s K3 [])],[]⟩,false,[],λ k_1=>g_impl_WidthOf k_1⟩
noncomputable def e_impl_BitsOf:Con:=⟨168,⟨[(0, .s K3 [])],[]⟩,⟨[(0, .s K7 [])],[]⟩,false,[],λ k_1=>g_impl_BitsOf k_1⟩
noncomputable def e_impl_Decode:Con:=⟨138,⟨[(0, .s K7 []),(1, .s K3 [])],[]⟩,⟨[(0, .s K3 []),(1, .s K3 [])],[]⟩,false,[],λ (bits_1,n_2)=>g_impl_Decode bits_1 n_2⟩
noncomputable def e_impl_letters:Con:=⟨169,⟨[],[]⟩,⟨[(0, .s K5 [])],[]⟩,false,[],λ _=>g_impl_letters⟩
noncomputable def e_impl_LetterAt:Con:=⟨139,⟨[(0, .s K3 [])],[]⟩,⟨[(0, .s K0 [])],[]⟩,false,[],λ k_1=>g_impl_LetterAt k_1⟩
noncomputable def e_impl_UnpackOne:Con:=⟨101,⟨[(0, .s K7 [])],[]⟩,⟨[(0, .s K5 [])],[]⟩,false,[],λ f_1=>g_impl_UnpackOne f_1⟩
noncomputable def e_ibytealg_IndexByteString:Con:=⟨152,⟨[(0, .s K5 []),(1, .s K0 [])],[]⟩,⟨[(0, .s K3 [])],[]⟩,false,[],λ a=>g_ibytealg_IndexByteString a.1 a.2⟩
noncomputable def e_istringslite_IndexByte:Con:=⟨118,⟨[(0, .s K5 []),(1, .s K0 [])],[]⟩,⟨[(0, .s K3 [])],[]⟩,false,[],λ (s_1,c_2)=>g_istringslite_IndexByte s_1 c_2⟩
noncomputable def e_strings_IndexByte:Con:=⟨78,⟨[(0, .s K5 []),(1, .s K0 [])],[]⟩,⟨[(0, .s K3 [])],[]⟩,false,[],λ (s_1,c_2)=>g_strings_IndexByte s_1 c_2⟩
noncomputable def e_impl_LetterOf:Con:=⟨165,⟨[(0, .s K0 [])],[]⟩,⟨[(0, .s K3 [])],[]⟩,false,[],λ b_1=>g_impl_LetterOf b_1⟩
noncomputable def e_impl_NameOk:Con:=⟨137,⟨[(0, .s K5 [])],[]⟩,⟨[(0, .s K2 [])],[]⟩,false,[],λ s_1=>g_impl_NameOk s_1⟩
noncomputable def e_impl_PackOne:Con:=⟨140,⟨[(0, .s K5 [])],[]⟩,⟨[(0, .s K7 []),(1, .s K3 [])],[]⟩,false,[],λ s_1=>g_impl_PackOne s_1⟩
noncomputable def e_impl_Pack:Con:=⟨103,⟨[(0, .s K5 [])],[]⟩,⟨[(0, .s K12 [(0,0)])],[.o]⟩,false,[],λ s_1=>g_impl_Pack s_1⟩
noncomputable def e_slices_Equal_uint32:Con:=⟨99,⟨[(0, .s K12 []),(1, .s K12 [])],[]⟩,⟨[(0, .s K2 [])],[]⟩,false,[],λ (s1_1,s2_2)=>g_slices_Equal_uint32 s1_1 s2_2⟩
noncomputable def e_impl_Unpack:Con:=⟨97,⟨[(0, .s K12 [])],[]⟩,⟨[(0, .s K5 []),(1, .s K2 [])],[]⟩,false,[],λ list_1=>g_impl_Unpack list_1⟩
noncomputable def e_impl_nameTag:Con:=⟨102,⟨[(0, .s K3 [])],[]⟩,⟨[(0, .s K7 [])],[]⟩,false,[],λ kind_1=>g_impl_nameTag kind_1⟩
noncomputable def e_impl_nameKind:Con:=⟨98,⟨[(0, .s K7 [])],[]⟩,⟨[(0, .s K3 [])],[]⟩,false,[],λ tag_1=>g_impl_nameKind tag_1⟩
noncomputable def e_impl_numberCells:Con:=⟨104,⟨[(0, .s K6 []),(1, .s K2 []),(2, .s K7 []),(3, .s K7 [])],[]⟩,⟨[(0, .s K12 [(0,0)])],[.o]⟩,false,[],λ (n_1,hex_2,short_3,long_4)=>g_impl_numberCells n_1 hex_2 short_3 long_4⟩
noncomputable def e_impl_CellsOf:Con:=⟨60,⟨[(0, .s K8 [])],[]⟩,⟨[(0, .s K12 [(0,0)])],[.o]⟩,false,[],λ it_1=>g_impl_CellsOf it_1⟩
noncomputable def e_impl_FieldOk:Con:=⟨100,⟨[(0, .s K7 [])],[]⟩,⟨[(0, .s K2 [])],[]⟩,false,[],λ f_1=>g_impl_FieldOk f_1⟩
noncomputable def e_impl_parseOne:Con:=⟨59,⟨[(0, .s K12 [])],[]⟩,⟨[(0, .s K8 [])],[]⟩,false,[],λ cells_1=>g_impl_parseOne cells_1⟩
noncomputable def e_impl_ParseCells:Con:=⟨23,⟨[(0, .s K12 [])],[]⟩,⟨[(0, .s K9 [(0,0)])],[.o]⟩,false,[],λ cells_1=>g_impl_ParseCells cells_1⟩
noncomputable def e_impl_hasRawc1:Con:=⟨87,⟨[(0, .s K8 [])],[]⟩,⟨[(0, .s K2 [])],[]⟩,false,[],λ it_1=>g_impl_hasRawc1 it_1⟩
noncomputable def e_slices_IndexFunc_Item_impl_hasRawc1:Con:=⟨128,⟨[(0, .s K9 []),(1, .c (.one (.fn 87 [])))],[]⟩,⟨[(0, .s K3 [])],[]⟩,false,[],λ s_1=>g_slices_IndexFunc_Item_impl_hasRawc1 s_1⟩
noncomputable def e_slices_ContainsFunc_Item_impl_hasRawc1:Con:=⟨86,⟨[(0, .s K9 []),(1, .c (.one (.fn 87 [])))],[]⟩,⟨[(0, .s K2 [])],[]⟩,false,[],λ s_1=>g_slices_ContainsFunc_Item_impl_hasRawc1 s_1⟩
noncomputable def e_impl_hasRaw:Con:=⟨48,⟨[(0, .s K9 [])],[]⟩,⟨[(0, .s K2 [])],[]⟩,false,[],λ list_1=>g_impl_hasRaw list_1⟩
noncomputable def e_impl_common:Con:=⟨49,⟨[(0, .s K9 []),(1, .s K9 [])],[]⟩,⟨[(0, .s K3 [])],[]⟩,false,[],λ (a_1,b_2)=>g_impl_common a_1 b_2⟩
noncomputable def e_slices_Grow_Key_emp:Con:=⟨88,⟨[(0, .c (.one (.emp))),(1, .s K3 [])],[]⟩,⟨[(0, .s K14 [(0,0)])],[.o]⟩,false,[],λ n_1=>g_slices_Grow_Key_emp n_1⟩
noncomputable def e_slices_Concat_Key:Con:=⟨50,⟨[(0, .s K15 [])],[]⟩,⟨[(0, .s K14 [(0,0)])],[.o]⟩,false,[],λ slices_1=>g_slices_Concat_Key slices_1⟩
noncomputable def e_impl_Plan:Con:=⟨16,⟨[(0, .s K12 []),(1, .s K12 [])],[]⟩,⟨[(0, .s K14 [(0,0)]),(1, .s K2 [])],[.o]⟩,false,[],λ (a_1,b_2)=>g_impl_Plan a_1 b_2⟩
noncomputable def e_spec_l04Kind:Con:=⟨129,⟨[(0, .s K7 [])],[]⟩,⟨[(0, .s K3 [])],[]⟩,false,[],λ tag_1=>g_spec_l04Kind tag_1⟩
noncomputable def e_spec_Decode:Con:=⟨163,⟨[(0, .s K7 []),(1, .s K3 [])],[]⟩,⟨[(0, .s K3 []),(1, .s K3 [])],[]⟩,false,[],λ (bits_1,n_2)=>g_spec_Decode bits_1 n_2⟩
noncomputable def e_spec_UnpackOne:Con:=⟨133,⟨[(0, .s K7 [])],[]⟩,⟨[(0, .s K5 [])],[]⟩,false,[],λ f_1=>g_spec_UnpackOne f_1⟩
noncomputable def e_spec_l03Same:Con:=⟨185,⟨[(0, .s K12 []),(1, .s K12 [])],[]⟩,⟨[(0, .s K2 [])],[]⟩,false,[],λ (a_1,b_2)=>g_spec_l03Same a_1 b_2⟩
noncomputable def e_spec_Unpack:Con:=⟨161,⟨[(0, .s K12 [])],[]⟩,⟨[(0, .s K5 []),(1, .s K2 [])],[]⟩,false,[],λ list_1=>g_spec_Unpack list_1⟩
noncomputable def e_spec_l04Name:Con:=⟨130,⟨[(0, .s K12 []),(1, .s K3 []),(2, .s K3 [])],[]⟩,⟨[(0, .s K8 []),(1, .s K3 [])],[]⟩,false,[],λ (cells_1,i_2,kind_3)=>g_spec_l04Name cells_1 i_2 kind_3⟩
noncomputable def e_spec_l04Number:Con:=⟨131,⟨[(0, .s K12 []),(1, .s K3 [])],[]⟩,⟨[(0, .s K8 []),(1, .s K3 [])],[]⟩,false,[],λ (cells_1,i_2)=>g_spec_l04Number cells_1 i_2⟩
noncomputable def e_spec_FieldOk:Con:=⟨132,⟨[(0, .s K7 [])],[]⟩,⟨[(0, .s K2 [])],[]⟩,false,[],λ f_1=>g_spec_FieldOk f_1⟩
noncomputable def e_spec_l04Item:Con:=⟨89,⟨[(0, .s K12 []),(1, .s K3 [])],[]⟩,⟨[(0, .s K8 []),(1, .s K3 [])],[]⟩,false,[],λ (cells_1,i_2)=>g_spec_l04Item cells_1 i_2⟩
noncomputable def e_spec_l22Plain:Con:=⟨52,⟨[(0, .s K9 [])],[]⟩,⟨[(0, .s K2 [])],[]⟩,false,[],λ list_1=>g_spec_l22Plain list_1⟩
noncomputable def e_spec_l14Max:Con:=⟨90,⟨[(0, .s K3 []),(1, .s K3 [])],[]⟩,⟨[(0, .s K3 [])],[]⟩,false,[],λ (a_1,b_2)=>g_spec_l14Max a_1 b_2⟩
noncomputable def e_spec_l22Table:Con:=⟨53,⟨[(0, .s K9 []),(1, .s K9 [])],[]⟩,⟨[(0, .s K16 [])],[]⟩,true,[],λ a=>g_spec_l22Table a.1 a.2⟩
noncomputable def e_spec_ParseCells_imm:Con:=⟨51,⟨[(0, .s K12 [])],[]⟩,⟨[(0, .s K9 [])],[]⟩,true,[],λ cells_1=>g_spec_ParseCells_imm cells_1⟩
noncomputable def e_spec_Plan:Con:=⟨17,⟨[(0, .s K12 []),(1, .s K12 [])],[]⟩,⟨[(0, .s K14 [(0,0)]),(1, .s K2 [])],[.o]⟩,false,[],λ (a_1,b_2)=>g_spec_Plan a_1 b_2⟩
noncomputable def e_impl_OpenEd:Con:=⟨19,⟨[(0, .s K12 [])],[]⟩,⟨[(0, .s K17 [(0,0),(1,1),(2,2)])],[.o, .o, .o]⟩,false,[],λ cells_1=>g_impl_OpenEd cells_1⟩
noncomputable def e_impl_ItemOk:Con:=⟨46,⟨[(0, .s K8 [])],[]⟩,⟨[(0, .s K2 [])],[]⟩,false,[],λ it_1=>g_impl_ItemOk it_1⟩
noncomputable def e_impl_EdOkc1:Con:=⟨91,⟨[(0, .s K8 [])],[]⟩,⟨[(0, .s K2 [])],[]⟩,false,[],λ it_1=>g_impl_EdOkc1 it_1⟩
noncomputable def e_slices_IndexFunc_Item_impl_EdOkc1:Con:=⟨128,⟨[(0, .s K9 []),(1, .c (.one (.fn 91 [])))],[]⟩,⟨[(0, .s K3 [])],[]⟩,false,[],λ s_1=>g_slices_IndexFunc_Item_impl_EdOkc1 s_1⟩
noncomputable def e_slices_ContainsFunc_Item_impl_EdOkc1:Con:=⟨86,⟨[(0, .s K9 []),(1, .c (.one (.fn 91 [])))],[]⟩,⟨[(0, .s K2 [])],[]⟩,false,[],λ s_1=>g_slices_ContainsFunc_Item_impl_EdOkc1 s_1⟩
noncomputable def e_slices_Grow_Item_emp:Con:=⟨136,⟨[(0, .c (.one (.emp))),(1, .s K3 [])],[]⟩,⟨[(0, .s K9 [(0,0)])],[.o]⟩,false,[],λ n_1=>g_slices_Grow_Item_emp n_1⟩
noncomputable def e_slices_Concat_Item:Con:=⟨96,⟨[(0, .s K18 [])],[]⟩,⟨[(0, .s K9 [(0,0)])],[.o]⟩,false,[],λ slices_1=>g_slices_Concat_Item slices_1⟩
noncomputable def e_impl_edItems:Con:=⟨58,⟨[(0, .s K17 [])],[]⟩,⟨[(0, .s K9 [(0,0)])],[.o]⟩,false,[],λ e_1=>g_impl_edItems e_1⟩
noncomputable def e_impl_Unparse:Con:=⟨57,⟨[(0, .s K9 [])],[]⟩,⟨[(0, .s K12 [(0,0)]),(1, .s K2 [])],[.o]⟩,false,[],λ list_1=>g_impl_Unparse list_1⟩
noncomputable def e_slices_Equal_Item:Con:=⟨73,⟨[(0, .s K9 []),(1, .s K9 [])],[]⟩,⟨[(0, .s K2 [])],[]⟩,false,[],λ (s1_1,s2_2)=>g_slices_Equal_Item s1_1 s2_2⟩
noncomputable def e_impl_ListOk:Con:=⟨92,⟨[(0, .s K9 [])],[]⟩,⟨[(0, .s K2 [])],[]⟩,false,[],λ list_1=>g_impl_ListOk list_1⟩
noncomputable def e_impl_EdOk:Con:=⟨54,⟨[(0, .s K17 [])],[]⟩,⟨[(0, .s K2 [])],[]⟩,false,[],λ e_1=>g_impl_EdOk e_1⟩
noncomputable def e_slices_Clone_Item:Con:=⟨93,⟨[(0, .s K9 [])],[]⟩,⟨[(0, .s K9 [(0,0)])],[.o]⟩,false,[],λ s_1=>g_slices_Clone_Item s_1⟩
noncomputable def e_impl_ownEd:Con:=⟨55,⟨[(0, .s K17 [])],[]⟩,⟨[(0, .s K17 [(0,0),(1,1),(2,2)])],[.o, .o, .o]⟩,false,[],λ e_1=>g_impl_ownEd e_1⟩
noncomputable def e_slices_Insert_Item:Con:=⟨94,⟨[(0, .s K9 [(0,0)]),(1, .s K3 []),(2, .s K9 [(0,1)])],[.o, .o]⟩,⟨[(0, .s K9 [(0,2)])],[.d, .d, .o]⟩,false,[],λ a=>g_slices_Insert_Item a.1 a.2.1 a.2.2⟩
noncomputable def e_impl_Recolor:Con:=⟨95,⟨[(0, .s K8 []),(1, .s K3 [])],[]⟩,⟨[(0, .s K8 []),(1, .s K2 [])],[]⟩,false,[],λ (it_1,kind_2)=>g_impl_Recolor it_1 kind_2⟩
noncomputable def e_impl_pressed:Con:=⟨56,⟨[(0, .s K17 []),(1, .s K13 [])],[]⟩,⟨[(0, .s K17 []),(1, .s K2 [])],[]⟩,true,[],λ (e_1,k_2)=>g_impl_pressed e_1 k_2⟩
noncomputable def e_impl_PressAll:Con:=⟨18,⟨[(0, .s K17 []),(1, .s K14 [])],[]⟩,⟨[(0, .s K17 [(0,0),(1,1),(2,2)]),(1, .s K3 [])],[.o, .o, .o]⟩,false,[],λ (e_1,keys_2)=>g_impl_PressAll e_1 keys_2⟩
noncomputable def e_impl_EdCells:Con:=⟨22,⟨[(0, .s K17 [])],[]⟩,⟨[(0, .s K12 [(0,0)])],[.o]⟩,false,[],λ e_1=>g_impl_EdCells e_1⟩
noncomputable def e_laws_padded:Con:=⟨21,⟨[(0, .s K12 [])],[]⟩,⟨[(0, .s K12 [(0,0)])],[.o]⟩,false,[],λ cells_1=>g_laws_padded cells_1⟩
noncomputable def e_laws_sameCells:Con:=⟨20,⟨[(0, .s K12 []),(1, .s K12 [])],[]⟩,⟨[(0, .s K2 [])],[]⟩,false,[],λ (a_1,b_2)=>g_laws_sameCells a_1 b_2⟩
noncomputable def e_impl_Common:Con:=⟨24,⟨[(0, .s K9 []),(1, .s K9 [])],[]⟩,⟨[(0, .s K3 [])],[]⟩,false,[],λ (a_1,b_2)=>g_impl_Common a_1 b_2⟩
noncomputable def e_istrconv_small:Con:=⟨145,⟨[(0, .s K3 [])],[]⟩,⟨[(0, .s K5 [])],[]⟩,false,[],λ i_1=>g_istrconv_small i_1⟩
noncomputable def e_math_bits_Len64:Con:=⟨172,⟨[(0, .s K19 [])],[]⟩,⟨[(0, .s K3 [])],[]⟩,false,[],λ x_1=>g_math_bits_Len64 x_1⟩
noncomputable def e_istrconv_log10Pow2:Con:=⟨171,⟨[(0, .s K3 [])],[]⟩,⟨[(0, .s K3 [])],[]⟩,false,[],λ x_1=>g_istrconv_log10Pow2 x_1⟩
noncomputable def e_istrconv_bool2_int:Con:=⟨173,⟨[(0, .s K2 [])],[]⟩,⟨[(0, .s K3 [])],[]⟩,false,[],λ b_1=>g_istrconv_bool2_int b_1⟩
noncomputable def e_istrconv_numDigits:Con:=⟨146,⟨[(0, .s K19 [])],[]⟩,⟨[(0, .s K3 [])],[]⟩,false,[],λ d_1=>g_istrconv_numDigits d_1⟩
noncomputable def e_istrconv_isPowerOfTwo:Con:=⟨174,⟨[(0, .s K3 [])],[]⟩,⟨[(0, .s K2 [])],[]⟩,false,[],λ x_1=>g_istrconv_isPowerOfTwo x_1⟩
noncomputable def e_math_bits_TrailingZeros64:Con:=⟨191,⟨[(0, .s K19 [])],[]⟩,⟨[(0, .s K3 [])],[]⟩,false,[],λ x_1=>g_math_bits_TrailingZeros64 x_1⟩
noncomputable def e_math_bits_TrailingZeros:Con:=⟨175,⟨[(0, .s K19 [])],[]⟩,⟨[(0, .s K3 [])],[]⟩,false,[],λ x_1=>g_math_bits_TrailingZeros x_1⟩
noncomputable def e_istrconv_formatBits:Con:=⟨148,⟨[(0, .s K1 []),(1, .s K19 []),(2, .s K3 []),(3, .s K2 []),(4, .s K2 [])],[]⟩,⟨[(0, .c (.one (.emp))),(1, .s K5 [])],[]⟩,false,[],λ (dst_1,u_2,base_3,neg_4,append__5)=>g_istrconv_formatBits dst_1 u_2 base_3 neg_4 append__5⟩
noncomputable def e_istrconv_FormatUint:Con:=⟨111,⟨[(0, .s K19 []),(1, .s K3 [])],[]⟩,⟨[(0, .s K5 [])],[]⟩,false,[],λ (i_1,base_2)=>g_istrconv_FormatUint i_1 base_2⟩
noncomputable def e_strconv_FormatUint:Con:=⟨69,⟨[(0, .s K19 []),(1, .s K3 [])],[]⟩,⟨[(0, .s K5 [])],[]⟩,false,[],λ (i_1,base_2)=>g_strconv_FormatUint i_1 base_2⟩
noncomputable def e_impl_HexText:Con:=⟨34,⟨[(0, .s K7 [])],[]⟩,⟨[(0, .s K5 [])],[]⟩,false,[],λ n_1=>g_impl_HexText n_1⟩
noncomputable def e_strconv_Itoa:Con:=⟨68,⟨[(0, .s K3 [])],[]⟩,⟨[(0, .s K5 [])],[]⟩,false,[],λ i_1=>g_strconv_Itoa i_1⟩
noncomputable def e_impl_DecText:Con:=⟨33,⟨[(0, .s K3 [])],[]⟩,⟨[(0, .s K5 [])],[]⟩,false,[],λ n_1=>g_impl_DecText n_1⟩
noncomputable def e_impl_digits:Con:=⟨105,⟨[(0, .s K6 []),(1, .s K2 [])],[]⟩,⟨[(0, .s K5 [])],[]⟩,false,[],λ (n_1,hex_2)=>g_impl_digits n_1 hex_2⟩
noncomputable def e_impl_mark:Con:=⟨106,⟨[(0, .s K3 [])],[]⟩,⟨[(0, .s K5 [])],[]⟩,false,[],λ kind_1=>g_impl_mark kind_1⟩
noncomputable def e_impl_ItemText:Con:=⟨61,⟨[(0, .s K8 [])],[]⟩,⟨[(0, .s K5 [])],[]⟩,false,[],λ it_1=>g_impl_ItemText it_1⟩
noncomputable def e_strings_Join:Con:=⟨35,⟨[(0, .s K10 []),(1, .s K5 [])],[]⟩,⟨[(0, .s K5 [])],[]⟩,false,[],λ a=>g_strings_Join a.1 a.2⟩
noncomputable def e_impl_PlanText:Con:=⟨25,⟨[(0, .s K14 [])],[]⟩,⟨[(0, .s K5 [])],[]⟩,false,[],λ keys_1=>g_impl_PlanText keys_1⟩
noncomputable def e_laws_FnPlan:Con:=⟨5,⟨[(0, .s K1 [])],[]⟩,⟨[(0, .s K2 [])],[]⟩,false,[],λ code_1=>g_laws_FnPlan code_1⟩
abbrev CO (c:Con):Prop:=ConOk Tryz.prog c
abbrev CK (Γ:List Con) (n:Nat) (an:An) (f:Func) (e:Con):Prop:=AnOk TryzT Γ n an (bodyOf f)/\∀ a,fnRun TryzT Γ an (bodyOf f) f.results.toList e.ro e.ps e.rs a=e.g a
theorem fnc {Γ:List Con} {n:Nat} {an:An} {fn:Func} {C:Con} (h:Tryz.prog.follows .mixedOrders=true->∀ c ∈ Γ,CO c) (hf:Tryz.prog.funcs[C.f]? = some fn) (hk:CK Γ n an fn C) (h1:(!(fn.name == "runtime.NumGoroutine")&&okC fn.ntmps (bodyOf fn))=true)
  (h2:∀ a,entB C n fn.ntmps a=true) (h3:∀ r,endB C fn.results.toList.length r=true) (hb:fn.body=some (bodyOf fn)):CO C:=by
 rw[Bool.and_eq_true,Bool.not_eq_true']at h1
 exact fn_ok (P:=λ _=>Tryz.prog) (n:=n) TryzT_eq h hf hb h1.1 rfl rfl h1.2 rfl h2 h3 hk.1 λ a r e=>(hk.2 a).trans e
end Go.Proofs.YtgfamepnkhpemaaGreatDoor
namespace Go.Proofs.YtgfamepnkhpemaaGreatDoor
open Go Go.Fm
set_option maxRecDepth 1000000
noncomputable def ane_laws_big:An:=.z
theorem ke_laws_big:CK [] 0 ane_laws_big Tryz.f11 e_laws_big:=⟨trivial,λ _=>by kernel_rfl⟩
noncomputable def ane_spec_l01New:An:=.q .z (.q .z (.m [(.normal,⟨[(3, .s K3 [])],[]⟩)] [0,2] [] (.q .z (.b (.l ⟨[(0, .s K1 []),(2, .c (.one (.nilp)))],[]⟩ ⟨[(3, .s K3 []),(4, .s K3 [])],[]⟩ [(.exit 0,⟨[(3, .s K3 [])],[]⟩)] (λ code_1 k (h_4,i_5)=>g_spec_l01New_l0 code_1 k h_4 i_5) (.q (.m [(.normal,⟨[(15, .s K2 [])],[]⟩)] [3,4] [] .z .z) .z)))) .z))
theorem ke_spec_l01New:CK [] 0 ane_spec_l01New Tryz.f38 e_spec_l01New:=⟨⟨trivial,⟨trivial,⟨⟨trivial,⟨λ _ _=>rfl,λ _ _ _ _=>by kernel_rfl,⟨⟨trivial,trivial⟩,trivial⟩⟩⟩,trivial⟩⟩⟩,λ _=>by kernel_rfl⟩
noncomputable def ane_spec_l01Byte:An:=.q .z (.q .z (.q .z (.m [(.normal,⟨[(3, .s K3 [])],[.v K4 []]⟩)] [0,2] [] .z .z)))
theorem ke_spec_l01Byte:CK [] 1 ane_spec_l01Byte Tryz.f114 e_spec_l01Byte:=⟨⟨trivial,⟨trivial,⟨trivial,⟨trivial,trivial⟩⟩⟩⟩,λ _=>by kernel_rfl⟩
noncomputable def ane_spec_l01Below:An:=.z
theorem ke_spec_l01Below:CK [e_spec_l01Byte] 1 ane_spec_l01Below Tryz.f74 e_spec_l01Below:=⟨trivial,λ _=>by kernel_rfl⟩
noncomputable def ane_spec_l01Once:An:=.z
theorem ke_spec_l01Once:CK [e_spec_l01Below] 1 ane_spec_l01Once Tryz.f40 e_spec_l01Once:=⟨trivial,λ _=>by kernel_rfl⟩
noncomputable def ane_spec_l01Pick:An:=.z
theorem ke_spec_l01Pick:CK [e_spec_l01Below] 1 ane_spec_l01Pick Tryz.f42 e_spec_l01Pick:=⟨trivial,λ _=>by kernel_rfl⟩
noncomputable def ane_spec_l13G:An:=.z
theorem ke_spec_l13G:CK [] 0 ane_spec_l13G Tryz.f123 e_spec_l13G:=⟨trivial,λ _=>by kernel_rfl⟩
noncomputable def ane_spec_l13N:An:=.z
theorem ke_spec_l13N:CK [] 0 ane_spec_l13N Tryz.f124 e_spec_l13N:=⟨trivial,λ _=>by kernel_rfl⟩
end Go.Proofs.YtgfamepnkhpemaaGreatDoor
namespace Go.Proofs.YtgfamepnkhpemaaGreatDoor
open Go Go.Fm
set_option maxRecDepth 1000000
noncomputable def ane_spec_l13Y:An:=.z
theorem ke_spec_l13Y:CK [] 0 ane_spec_l13Y Tryz.f125 e_spec_l13Y:=⟨trivial,λ _=>by kernel_rfl⟩
noncomputable def ane_spec_l08Names:An:=.z
theorem ke_spec_l08Names:CK [] 0 ane_spec_l08Names Tryz.f157 e_spec_l08Names:=⟨trivial,λ _=>by kernel_rfl⟩
noncomputable def ane_spec_l01In:An:=.z
theorem ke_spec_l01In:CK [] 0 ane_spec_l01In Tryz.f143 e_spec_l01In:=⟨trivial,λ _=>by kernel_rfl⟩
noncomputable def ane_spec_PrimName:An:=.z
theorem ke_spec_PrimName:CK [e_spec_l08Names,e_spec_l01In] 0 ane_spec_PrimName Tryz.f126 e_spec_PrimName:=⟨trivial,λ _=>by kernel_rfl⟩
noncomputable def ane_spec_l13Word:An:=.z
theorem ke_spec_l13Word:CK [e_spec_l01Below,e_spec_l13G,e_spec_l13N,e_spec_l13Y,e_spec_l01Pick,e_spec_PrimName] 1 ane_spec_l13Word Tryz.f122 e_spec_l13Word:=⟨trivial,λ _=>by kernel_rfl⟩
noncomputable def ane_spec_l01PickInt:An:=.z
theorem ke_spec_l01PickInt:CK [e_spec_l01Below] 1 ane_spec_l01PickInt Tryz.f41 e_spec_l01PickInt:=⟨trivial,λ _=>by kernel_rfl⟩
noncomputable def ane_spec_l04Int:An:=.z
theorem ke_spec_l04Int:CK [e_spec_l01Once,e_spec_l01Below,e_spec_l01PickInt] 1 ane_spec_l04Int Tryz.f115 e_spec_l04Int:=⟨trivial,λ _=>by kernel_rfl⟩
noncomputable def ane_spec_l02All:An:=.z
theorem ke_spec_l02All:CK [] 0 ane_spec_l02All Tryz.f176 e_spec_l02All:=⟨trivial,λ _=>by kernel_rfl⟩
end Go.Proofs.YtgfamepnkhpemaaGreatDoor
namespace Go.Proofs.YtgfamepnkhpemaaGreatDoor
open Go Go.Fm
set_option maxRecDepth 1000000
noncomputable def ane_spec_LetterAt:An:=.z
theorem ke_spec_LetterAt:CK [e_spec_l01In,e_spec_l02All] 0 ane_spec_LetterAt Tryz.f151 e_spec_LetterAt:=⟨trivial,λ _=>by kernel_rfl⟩
noncomputable def ane_spec_l02Name:An:=.q .z (.q .z (.q .z (.q .z (.m [(.normal,⟨[(3, .s K1 [(0,2)])],[.v K4 [], .d, .o]⟩)] [0,2,4] [] (.q .z (.b (.l ⟨[(0, .c (.one (.ptr 0 0))),(2, .s K5 []),(4, .s K3 [])],[.n, .n, .n]⟩ ⟨[(3, .s K1 [(0,2)]),(5, .s K3 [])],[.v K4 [], .d, .o]⟩ [(.exit 0,⟨[(3, .s K1 [(0,2)])],[.v K4 [], .d, .o]⟩)] (λ (_,n_10) k (out_11,i_12,x_13)=>g_spec_l02Name_l0 n_10 k out_11 i_12 x_13) .z))) .z))))
theorem ke_spec_l02Name:CK [e_spec_l01Once,e_spec_l01Pick,e_spec_l01Below,e_spec_LetterAt] 1 ane_spec_l02Name Tryz.f116 e_spec_l02Name:=⟨⟨trivial,⟨trivial,⟨trivial,⟨trivial,⟨⟨trivial,⟨λ _ _=>rfl,λ _ _ _ _=>by kernel_rfl,trivial⟩⟩,trivial⟩⟩⟩⟩⟩,λ _=>by kernel_rfl⟩
noncomputable def ane_spec_l04Some:An:=.z
theorem ke_spec_l04Some:CK [e_spec_l01Below,e_spec_l04Int,e_spec_l01Once,e_spec_l01Pick,e_spec_l02Name] 1 ane_spec_l04Some Tryz.f75 e_spec_l04Some:=⟨trivial,λ _=>by kernel_rfl⟩
noncomputable def ane_spec_l01Word:An:=.z
theorem ke_spec_l01Word:CK [e_spec_l01Below,e_spec_l01PickInt] 1 ane_spec_l01Word Tryz.f117 e_spec_l01Word:=⟨trivial,λ _=>by kernel_rfl⟩
noncomputable def ane_spec_l04Any:An:=.q .z (.q .z (.m [(.normal,⟨[],[.v K4 [], .v K8 [], .v K8 []]⟩),(.ret,⟨[],[.v K4 [], .v K8 [], .v K8 []]⟩)] [0,2,3] [] .z .z))
theorem ke_spec_l04Any:CK [e_spec_l04Some,e_spec_l01Below,e_spec_l01Word,e_spec_l01Pick] 1 ane_spec_l04Any Tryz.f76 e_spec_l04Any:=⟨⟨trivial,⟨trivial,⟨trivial,trivial⟩⟩⟩,λ _=>by kernel_rfl⟩
noncomputable def ane_spec_l13List:An:=.q .z (.q .z (.q .z (.m [(.normal,⟨[(5, .s K9 [(0,2)])],[.v K4 [], .d, .o]⟩)] [0,1,4,6] [] (.q .z (.b (.l ⟨[(0, .c (.one (.ptr 0 0))),(1, .s K3 []),(4, .c (.one (.emp))),(6, .s K3 [])],[.n, .n, .n]⟩ ⟨[(5, .s K9 [(0,2)]),(7, .s K3 [])],[.v K4 [], .d, .o]⟩ [(.exit 0,⟨[(5, .s K9 [(0,2)])],[.v K4 [], .d, .o]⟩)] (λ (_,n_8) k (out_9,i_10,x_11)=>g_spec_l13List_l0 n_8 k out_9 i_10 x_11) (.q .z (.m [(.normal,⟨[(5, .s K9 [(0,3)])],[.v K4 [], .d, .d, .o]⟩)] [7] [] (.b (.m [(.normal,⟨[(5, .s K9 [(0,3)])],[.v K4 [], .d, .d, .o]⟩)] [] [] .z (.q .z (.q .z (.m [(.normal,⟨[(5, .s K9 [(0,7)])],[.v K4 [], .d, .d, .d, .d, .d, .d, .o]⟩)] [8] [] (.q .z (.b (.l ⟨[(0, .c (.one (.ptr 0 0))),(1, .s K3 []),(4, .c (.one (.emp))),(6, .s K3 []),(7, .s K3 []),(8, .s K3 [])],[.n, .n, .n, .n, .n, .n, .n, .n]⟩ ⟨[(5, .s K9 [(0,7)]),(9, .s K3 [])],[.v K4 [], .d, .d, .d, .d, .d, .d, .o]⟩ [(.exit 2,⟨[(5, .s K9 [(0,7)])],[.v K4 [], .d, .d, .d, .d, .d, .d, .o]⟩)] (λ (_,_,_,k_27) k (out_28,j_29,x_30)=>g_spec_l13List_l1 k_27 k out_28 j_29 x_30) .z))) .z))))) .z))))) (.m [(.normal,⟨[(5, .s K9 [(0,3)])],[.v K4 [], .d, .d, .o]⟩)] [0,1,4] [] .z .z))))
theorem ke_spec_l13List:CK [e_spec_l01Below,e_spec_l01Once,e_spec_l01Pick,e_spec_l13Word,e_spec_l13G,e_spec_l13N,e_spec_l13Y,e_spec_l04Any,e_spec_PrimName] 1 ane_spec_l13List Tryz.f82 e_spec_l13List:=⟨⟨trivial,⟨trivial,⟨trivial,⟨⟨trivial,⟨λ _ _=>rfl,λ _ _ _ _=>by kernel_rfl,⟨trivial,⟨⟨trivial,⟨trivial,⟨trivial,⟨⟨trivial,⟨λ _ _=>rfl,λ _ _ _ _=>by kernel_rfl,trivial⟩⟩,trivial⟩⟩⟩⟩,trivial⟩⟩⟩⟩,⟨trivial,trivial⟩⟩⟩⟩⟩,λ _=>by kernel_rfl⟩
noncomputable def ane_spec_l04List:An:=.q .z (.q .z (.q .z (.m [(.normal,⟨[(5, .s K9 [(0,2)])],[.v K4 [], .d, .o]⟩)] [0,4,6] [] (.q .z (.b (.l ⟨[(0, .c (.one (.ptr 0 0))),(4, .c (.one (.emp))),(6, .s K3 [])],[.n, .n, .n]⟩ ⟨[(5, .s K9 [(0,2)]),(7, .s K3 [])],[.v K4 [], .d, .o]⟩ [(.exit 0,⟨[(5, .s K9 [(0,2)])],[.v K4 [], .d, .o]⟩)] (λ n_8 k (out_9,i_10,x_11)=>g_spec_l04List_l0 n_8 k out_9 i_10 x_11) (.q .z (.m [(.normal,⟨[(5, .s K9 [(0,3)])],[.v K4 [], .d, .d, .o]⟩)] [7] [] (.b (.q .z (.m [(.normal,⟨[],[.v K4 [], .d, .f, .v K8 []]⟩)] [5,8] [2] .z .z))) .z))))) .z)))
theorem ke_spec_l04List:CK [e_spec_l01Below,e_spec_l04Some,e_spec_l01Once,e_spec_l04Any] 1 ane_spec_l04List Tryz.f39 e_spec_l04List:=⟨⟨trivial,⟨trivial,⟨trivial,⟨⟨trivial,⟨λ _ _=>rfl,λ _ _ _ _=>by kernel_rfl,⟨trivial,⟨⟨trivial,⟨trivial,trivial⟩⟩,trivial⟩⟩⟩⟩,trivial⟩⟩⟩⟩,λ _=>by kernel_rfl⟩
noncomputable def ane_spec_l04Num:An:=.q .z (.q .z (.m [(.normal,⟨[(9, .s K7 [])],[]⟩)] [0,1,2,3,8] [] .z (.q (.m [(.normal,⟨[(16, .s K2 [])],[]⟩)] [0,2,3,8,9] [] .z .z) .z)))
theorem ke_spec_l04Num:CK [] 0 ane_spec_l04Num Tryz.f158 e_spec_l04Num:=⟨⟨trivial,⟨trivial,⟨trivial,⟨⟨trivial,trivial⟩,trivial⟩⟩⟩⟩,λ _=>by kernel_rfl⟩
end Go.Proofs.YtgfamepnkhpemaaGreatDoor
namespace Go.Proofs.YtgfamepnkhpemaaGreatDoor
open Go Go.Fm
set_option maxRecDepth 1000000
noncomputable def ane_spec_LetterOf:An:=.q .z (.q .z (.m [(.normal,⟨[],[]⟩),(.ret,⟨[(2, .s K3 [])],[]⟩)] [0,3] [] (.q .z (.b (.l ⟨[(0, .s K0 []),(3, .s K5 [])],[]⟩ ⟨[(4, .s K3 [])],[]⟩ [(.exit 0,⟨[],[]⟩),(.ret,⟨[(2, .s K3 [])],[]⟩)] (λ (b_1,yu782_3) k i_5=>g_spec_LetterOf_l0 b_1 yu782_3 k i_5) .z))) .z))
theorem ke_spec_LetterOf:CK [e_spec_l02All] 0 ane_spec_LetterOf Tryz.f195 e_spec_LetterOf:=⟨⟨trivial,⟨trivial,⟨⟨trivial,⟨λ _ _=>rfl,λ _ _ _ _=>by kernel_rfl,trivial⟩⟩,trivial⟩⟩⟩,λ _=>by kernel_rfl⟩
noncomputable def ane_spec_NameOk:An:=.q .z (.q .z (.m [(.normal,⟨[],[]⟩),(.ret,⟨[(2, .s K2 [])],[]⟩)] [0] [] (.q .z (.b (.l ⟨[(0, .s K5 [])],[]⟩ ⟨[(3, .s K3 [])],[]⟩ [(.exit 0,⟨[],[]⟩),(.ret,⟨[(2, .s K2 [])],[]⟩)] (λ s_1 k i_5=>g_spec_NameOk_l0 s_1 k i_5) .z))) .z))
theorem ke_spec_NameOk:CK [e_spec_l01In,e_spec_LetterOf] 0 ane_spec_NameOk Tryz.f184 e_spec_NameOk:=⟨⟨trivial,⟨trivial,⟨⟨trivial,⟨λ _ _=>rfl,λ _ _ _ _=>by kernel_rfl,trivial⟩⟩,trivial⟩⟩⟩,λ _=>by kernel_rfl⟩
noncomputable def ane_spec_WidthOf:An:=.z
theorem ke_spec_WidthOf:CK [e_spec_l01In] 0 ane_spec_WidthOf Tryz.f187 e_spec_WidthOf:=⟨trivial,λ _=>by kernel_rfl⟩
noncomputable def ane_spec_BitsOf:An:=.z
theorem ke_spec_BitsOf:CK [e_spec_WidthOf] 0 ane_spec_BitsOf Tryz.f188 e_spec_BitsOf:=⟨trivial,λ _=>by kernel_rfl⟩
noncomputable def ane_spec_l03One:An:=.q .z (.q .z (.q (.b (.l ⟨[(0, .s K5 []),(2, .s K7 []),(3, .s K3 [])],[]⟩ ⟨[(4, .s K3 []),(5, .s K3 []),(6, .s K3 [])],[]⟩ [(.exit 0,⟨[(4, .s K3 []),(6, .s K3 [])],[]⟩)] (λ (s_1,_,_) k (f_6,left_7,n_8)=>g_spec_l03One_l0 s_1 k f_6 left_7 n_8) .z)) .z))
theorem ke_spec_l03One:CK [e_spec_LetterOf,e_spec_WidthOf,e_spec_BitsOf] 0 ane_spec_l03One Tryz.f186 e_spec_l03One:=⟨⟨trivial,⟨trivial,⟨⟨λ _ _=>rfl,λ _ _ _ _=>by kernel_rfl,trivial⟩,trivial⟩⟩⟩,λ _=>by kernel_rfl⟩
noncomputable def ane_spec_Pack:An:=.q .z (.q .z (.q .z (.q (.b (.l ⟨[(2, .c (.one (.emp)))],[.n, .n]⟩ ⟨[(0, .s K5 []),(3, .s K12 [(0,1)])],[.d, .o]⟩ [(.exit 0,⟨[(3, .s K12 [(0,1)])],[.d, .o]⟩)] (λ _ k (s_4,out_5)=>g_spec_Pack_l0 k s_4 out_5) .z)) .z)))
theorem ke_spec_Pack:CK [e_spec_NameOk,e_spec_l03One] 0 ane_spec_Pack Tryz.f162 e_spec_Pack:=⟨⟨trivial,⟨trivial,⟨trivial,⟨⟨λ _ _=>rfl,λ _ _ _ _=>by kernel_rfl,trivial⟩,trivial⟩⟩⟩⟩,λ _=>by kernel_rfl⟩
noncomputable def ane_spec_l04Word:An:=.q .z (.q .z (.m [(.normal,⟨[(5, .s K12 [(0,0)])],[.o]⟩)] [0,4] [] (.q .z (.b (.l ⟨[(0, .s K7 []),(4, .c (.one (.emp)))],[.n]⟩ ⟨[(5, .s K12 [(0,0)]),(6, .s K3 [])],[.o]⟩ [(.exit 0,⟨[(5, .s K12 [(0,0)])],[.o]⟩)] (λ tag_1 k (out_6,i_7)=>g_spec_l04Word_l0 tag_1 k out_6 i_7) (.q .z (.m [(.normal,⟨[(5, .s K12 [(0,0)])],[.o]⟩)] [6] [] .z .z))))) .z))
theorem ke_spec_l04Word:CK [e_spec_Pack] 0 ane_spec_l04Word Tryz.f159 e_spec_l04Word:=⟨⟨trivial,⟨trivial,⟨⟨trivial,⟨λ _ _=>rfl,λ _ _ _ _=>by kernel_rfl,⟨trivial,⟨trivial,trivial⟩⟩⟩⟩,trivial⟩⟩⟩,λ _=>by kernel_rfl⟩
noncomputable def ane_spec_l04Tag:An:=.z
theorem ke_spec_l04Tag:CK [] 0 ane_spec_l04Tag Tryz.f160 e_spec_l04Tag:=⟨trivial,λ _=>by kernel_rfl⟩
end Go.Proofs.YtgfamepnkhpemaaGreatDoor
namespace Go.Proofs.YtgfamepnkhpemaaGreatDoor
open Go Go.Fm
set_option maxRecDepth 1000000
noncomputable def ane_spec_CellsOf:An:=.q .z (.m [(.normal,⟨[(3, .s K2 [])],[.f]⟩)] [1,2] [0] .z (.m [(.normal,⟨[],[.f]⟩),(.ret,⟨[(2, .s K12 [(0,1)])],[.f, .o]⟩)] [1,3] [0] (.q .z (.b (.q .z (.q (.m [(.normal,⟨[(47, .s K2 [])],[.f]⟩)] [2] [] .z .z) (.q .z (.q (.m [(.normal,⟨[(60, .s K2 [])],[.f]⟩)] [2] [] .z .z) (.q .z (.q (.m [(.normal,⟨[(75, .s K2 [])],[.f]⟩)] [2] [] .z .z) (.q .z (.q (.q .z (.m [(.normal,⟨[(98, .s K2 [])],[.f, .f]⟩)] [2,4] [1] .z .z)) (.q .z (.m [(.normal,⟨[(28, .s K2 [])],[.f]⟩)] [2,5] [] .z .z)))))))))))) .z))
theorem ke_spec_CellsOf:CK [e_spec_l04Num,e_spec_l04Word,e_spec_l04Tag] 0 ane_spec_CellsOf Tryz.f127 e_spec_CellsOf:=⟨⟨trivial,⟨trivial,⟨⟨trivial,⟨trivial,⟨⟨trivial,trivial⟩,⟨trivial,⟨⟨trivial,trivial⟩,⟨trivial,⟨⟨trivial,trivial⟩,⟨trivial,⟨⟨trivial,⟨trivial,trivial⟩⟩,⟨trivial,⟨trivial,trivial⟩⟩⟩⟩⟩⟩⟩⟩⟩⟩⟩,trivial⟩⟩⟩,λ _=>by kernel_rfl⟩
noncomputable def ane_spec_Unparse:An:=.q .z (.q .z (.m [(.normal,⟨[(4, .s K12 [(0,1)])],[.d, .o]⟩),(.ret,⟨[(2, .s K12 [(0,1)]),(3, .s K2 [])],[.d, .o]⟩)] [0] [] (.q .z (.b (.l ⟨[(0, .s K9 [])],[.n, .n]⟩ ⟨[(4, .s K12 [(0,1)]),(5, .s K3 [])],[.d, .o]⟩ [(.exit 0,⟨[(4, .s K12 [(0,1)])],[.d, .o]⟩),(.ret,⟨[(2, .s K12 [(0,2)]),(3, .s K2 [])],[.d, .d, .o]⟩)] (λ list_1 k (out_7,i_8)=>g_spec_Unparse_l0 list_1 k out_7 i_8) (.q .z (.q (.b (.q .z (.q (.m [(.normal,⟨[(29, .s K2 [])],[.d, .f, .f]⟩)] [4,5,6] [1,2] .z .z) .z))) .z))))) .z))
theorem ke_spec_Unparse:CK [e_spec_CellsOf] 0 ane_spec_Unparse Tryz.f83 e_spec_Unparse:=⟨⟨trivial,⟨trivial,⟨⟨trivial,⟨λ _ _=>rfl,λ _ _ _ _=>by kernel_rfl,⟨trivial,⟨⟨trivial,⟨⟨trivial,trivial⟩,trivial⟩⟩,trivial⟩⟩⟩⟩,trivial⟩⟩⟩,λ _=>by kernel_rfl⟩
noncomputable def ane_spec_l22Twin:An:=.q .z (.q .z (.m [(.normal,⟨[(5, .s K9 [(0,2)])],[.v K4 [], .d, .o]⟩)] [0,1,4] [] (.q .z (.b (.l ⟨[(0, .c (.one (.ptr 0 0))),(1, .s K9 []),(4, .c (.one (.emp)))],[.n, .n, .n]⟩ ⟨[(5, .s K9 [(0,2)]),(6, .s K3 [])],[.v K4 [], .d, .o]⟩ [(.exit 0,⟨[(5, .s K9 [(0,2)])],[.v K4 [], .d, .o]⟩)] (λ list_1 k (out_7,i_8,x_9)=>g_spec_l22Twin_l0 list_1 k out_7 i_8 x_9) (.q .z (.m [(.normal,⟨[(5, .s K9 [(0,3)])],[.v K4 [], .d, .d, .o]⟩)] [6] [] .z .z))))) .z))
theorem ke_spec_l22Twin:CK [e_spec_l01Below,e_spec_l04Some] 1 ane_spec_l22Twin Tryz.f84 e_spec_l22Twin:=⟨⟨trivial,⟨trivial,⟨⟨trivial,⟨λ _ _=>rfl,λ _ _ _ _=>by kernel_rfl,⟨trivial,⟨trivial,trivial⟩⟩⟩⟩,trivial⟩⟩⟩,λ _=>by kernel_rfl⟩
noncomputable def ane_spec_l04Cells:An:=.q .z (.q .z (.q .z (.m [(.normal,⟨[(3, .s K12 [(0,2)])],[.v K4 [], .d, .o]⟩)] [0,2,4] [] (.q .z (.b (.l ⟨[(0, .c (.one (.ptr 0 0))),(2, .c (.one (.emp))),(4, .s K3 [])],[.n, .n, .n]⟩ ⟨[(3, .s K12 [(0,2)]),(5, .s K3 [])],[.v K4 [], .d, .o]⟩ [(.exit 0,⟨[(3, .s K12 [(0,2)])],[.v K4 [], .d, .o]⟩)] (λ n_7 k (out_8,i_9,x_10)=>g_spec_l04Cells_l0 n_7 k out_8 i_9 x_10) (.q .z (.m [(.normal,⟨[(3, .s K12 [(0,3)])],[.v K4 [], .d, .d, .o]⟩)] [5] [] .z .z))))) (.q (.m [(.normal,⟨[(58, .s K2 [])],[.v K4 [], .d, .f]⟩)] [0,2,3] [2] .z .z) .z))))
theorem ke_spec_l04Cells:CK [e_spec_l01Below,e_spec_l04Some,e_spec_CellsOf,e_spec_l01Word,e_spec_l01PickInt,e_spec_l01Once] 1 ane_spec_l04Cells Tryz.f85 e_spec_l04Cells:=⟨⟨trivial,⟨trivial,⟨trivial,⟨⟨trivial,⟨λ _ _=>rfl,λ _ _ _ _=>by kernel_rfl,⟨trivial,⟨trivial,trivial⟩⟩⟩⟩,⟨⟨trivial,trivial⟩,trivial⟩⟩⟩⟩⟩,λ _=>by kernel_rfl⟩
noncomputable def ane_spec_l22Pair:An:=.q .z (.q .z (.m [(.normal,⟨[(4, .s K9 [(0,2)])],[.v K4 [], .d, .o]⟩)] [0,2,3] [] .z (.q .z (.q .z (.m [(.normal,⟨[(7, .s K12 [(0,6)])],[.v K4 [], .d, .d, .f, .d, .d, .o]⟩)] [0,2,3,5,8] [3] (.m [(.normal,⟨[(32, .s K2 [])],[.v K4 [], .d, .d, .f, .d, .f]⟩)] [7] [5] .z .z) .z)))))
theorem ke_spec_l22Pair:CK [e_spec_l13List,e_spec_l01Once,e_spec_l04List,e_spec_Unparse,e_spec_l22Twin,e_spec_l04Cells] 1 ane_spec_l22Pair Tryz.f47 e_spec_l22Pair:=⟨⟨trivial,⟨trivial,⟨trivial,⟨trivial,⟨trivial,⟨⟨trivial,trivial⟩,trivial⟩⟩⟩⟩⟩⟩,λ _=>by kernel_rfl⟩
noncomputable def ane_spec_DrawPlan:An:=.z
theorem ke_spec_DrawPlan:CK [e_spec_l01New,e_spec_l22Pair] 0 ane_spec_DrawPlan Tryz.f15 e_spec_DrawPlan:=⟨trivial,λ _=>by kernel_rfl⟩
noncomputable def ane_impl_within:An:=.z
theorem ke_impl_within:CK [] 0 ane_impl_within Tryz.f166 e_impl_within:=⟨trivial,λ _=>by kernel_rfl⟩
noncomputable def ane_impl_WidthOf:An:=.z
theorem ke_impl_WidthOf:CK [e_impl_within] 0 ane_impl_WidthOf Tryz.f167 e_impl_WidthOf:=⟨trivial,λ _=>by kernel_rfl⟩
end Go.Proofs.YtgfamepnkhpemaaGreatDoor
namespace Go.Proofs.YtgfamepnkhpemaaGreatDoor
open Go Go.Fm
set_option maxRecDepth 1000000
noncomputable def ane_impl_BitsOf:An:=.z
theorem ke_impl_BitsOf:CK [e_impl_WidthOf] 0 ane_impl_BitsOf Tryz.f168 e_impl_BitsOf:=⟨trivial,λ _=>by kernel_rfl⟩
noncomputable def ane_impl_Decode:An:=.q .z (.q .z (.m [(.normal,⟨[],[]⟩),(.ret,⟨[(4, .s K3 []),(5, .s K3 [])],[]⟩)] [0,1] [] (.q .z (.b (.l ⟨[(0, .s K7 []),(1, .s K3 [])],[]⟩ ⟨[(11, .s K3 [])],[]⟩ [(.exit 0,⟨[],[]⟩),(.ret,⟨[(4, .s K3 []),(5, .s K3 [])],[]⟩)] (λ (bits_1,n_2) k v_8=>g_impl_Decode_l0 bits_1 n_2 k v_8) (.q .z (.q .z (.q (.b (.q .z (.q .z (.m [(.normal,⟨[(32, .s K2 [])],[]⟩)] [6,7,11] [] .z .z)))) .z)))))) .z))
theorem ke_impl_Decode:CK [e_impl_within,e_impl_WidthOf,e_impl_BitsOf] 0 ane_impl_Decode Tryz.f138 e_impl_Decode:=⟨⟨trivial,⟨trivial,⟨⟨trivial,⟨λ _ _=>rfl,λ _ _ _ _=>by kernel_rfl,⟨trivial,⟨trivial,⟨⟨trivial,⟨trivial,⟨trivial,trivial⟩⟩⟩,trivial⟩⟩⟩⟩⟩,trivial⟩⟩⟩,λ _=>by kernel_rfl⟩
noncomputable def ane_impl_letters:An:=.z
theorem ke_impl_letters:CK [] 0 ane_impl_letters Tryz.f169 e_impl_letters:=⟨trivial,λ _=>by kernel_rfl⟩
noncomputable def ane_impl_LetterAt:An:=.z
theorem ke_impl_LetterAt:CK [e_impl_within,e_impl_letters] 0 ane_impl_LetterAt Tryz.f139 e_impl_LetterAt:=⟨trivial,λ _=>by kernel_rfl⟩
noncomputable def ane_impl_UnpackOne:An:=.q .z (.q .z (.q .z (.q (.b (.l ⟨[(0, .s K7 []),(2, .s K5 [])],[.n, .n]⟩ ⟨[(3, .s K1 [(0,1)]),(4, .s K3 [])],[.d, .o]⟩ [(.exit 0,⟨[(3, .s K1 [(0,1)])],[.d, .o]⟩)] (λ (f_1,_) k (out_4,left_5)=>g_impl_UnpackOne_l0 f_1 k out_4 left_5) .z)) .z)))
theorem ke_impl_UnpackOne:CK [e_impl_Decode,e_impl_LetterAt] 0 ane_impl_UnpackOne Tryz.f101 e_impl_UnpackOne:=⟨⟨trivial,⟨trivial,⟨trivial,⟨⟨λ _ _=>rfl,λ _ _ _ _=>by kernel_rfl,trivial⟩,trivial⟩⟩⟩⟩,λ _=>by kernel_rfl⟩
theorem fe_ibytealg_IndexByteString:ConOk Tryz.prog e_ibytealg_IndexByteString:=index_ok (fn:=Tryz.f152) Tryz.func152 (by kernel_rfl) (by kernel_rfl) (by kernel_rfl) (by kernel_rfl)
noncomputable def ane_istringslite_IndexByte:An:=.z
theorem ke_istringslite_IndexByte:CK [e_ibytealg_IndexByteString] 0 ane_istringslite_IndexByte Tryz.f118 e_istringslite_IndexByte:=⟨trivial,λ _=>by kernel_rfl⟩
noncomputable def ane_strings_IndexByte:An:=.z
theorem ke_strings_IndexByte:CK [e_istringslite_IndexByte] 0 ane_strings_IndexByte Tryz.f78 e_strings_IndexByte:=⟨trivial,λ _=>by kernel_rfl⟩
end Go.Proofs.YtgfamepnkhpemaaGreatDoor
namespace Go.Proofs.YtgfamepnkhpemaaGreatDoor
open Go Go.Fm
set_option maxRecDepth 1000000
noncomputable def ane_impl_LetterOf:An:=.z
theorem ke_impl_LetterOf:CK [e_impl_letters,e_strings_IndexByte] 0 ane_impl_LetterOf Tryz.f165 e_impl_LetterOf:=⟨trivial,λ _=>by kernel_rfl⟩
noncomputable def ane_impl_NameOk:An:=.q .z (.m [(.normal,⟨[],[]⟩),(.ret,⟨[(2, .s K2 [])],[]⟩)] [0] [] (.q .z (.b (.l ⟨[(0, .s K5 []),(5, .s K3 [])],[]⟩ ⟨[(6, .s K3 [])],[]⟩ [(.exit 0,⟨[],[]⟩),(.ret,⟨[(2, .s K2 [])],[]⟩)] (λ (s_1,v_4) k v_5=>g_impl_NameOk_l0 s_1 v_4 k v_5) .z))) .z)
theorem ke_impl_NameOk:CK [e_impl_LetterOf,e_impl_within] 0 ane_impl_NameOk Tryz.f137 e_impl_NameOk:=⟨⟨trivial,⟨⟨trivial,⟨λ _ _=>rfl,λ _ _ _ _=>by kernel_rfl,trivial⟩⟩,trivial⟩⟩,λ _=>by kernel_rfl⟩
noncomputable def ane_impl_PackOne:An:=.q .z (.q .z (.q .z (.m [(.normal,⟨[(4, .s K7 []),(6, .s K3 [])],[]⟩)] [0,2,3] [] (.q .z (.b (.l ⟨[(0, .s K5 []),(2, .s K7 []),(3, .s K3 []),(13, .s K3 [])],[]⟩ ⟨[(4, .s K7 []),(5, .s K3 []),(6, .s K3 []),(14, .s K3 [])],[]⟩ [(.exit 0,⟨[(4, .s K7 []),(6, .s K3 [])],[]⟩)] (λ (s_1,_,_,v_9) k (field_10,left_11,many_12,v_13)=>g_impl_PackOne_l0 s_1 v_9 k field_10 left_11 many_12 v_13) .z))) .z)))
theorem ke_impl_PackOne:CK [e_impl_NameOk,e_impl_LetterOf,e_impl_WidthOf,e_impl_BitsOf] 0 ane_impl_PackOne Tryz.f140 e_impl_PackOne:=⟨⟨trivial,⟨trivial,⟨trivial,⟨⟨trivial,⟨λ _ _=>rfl,λ _ _ _ _=>by kernel_rfl,trivial⟩⟩,trivial⟩⟩⟩⟩,λ _=>by kernel_rfl⟩
noncomputable def ane_impl_Pack:An:=.q .z (.q .z (.q (.b (.l ⟨[(2, .c (.one (.emp)))],[.n, .n]⟩ ⟨[(0, .s K5 []),(3, .s K12 [(0,1)])],[.d, .o]⟩ [(.exit 0,⟨[(3, .s K12 [(0,1)])],[.d, .o]⟩)] (λ _ k (s_3,out_4)=>g_impl_Pack_l0 k s_3 out_4) .z)) .z))
theorem ke_impl_Pack:CK [e_impl_NameOk,e_impl_PackOne] 0 ane_impl_Pack Tryz.f103 e_impl_Pack:=⟨⟨trivial,⟨trivial,⟨⟨λ _ _=>rfl,λ _ _ _ _=>by kernel_rfl,trivial⟩,trivial⟩⟩⟩,λ _=>by kernel_rfl⟩
noncomputable def ane_slices_Equal_uint32:An:=.q .z (.q .z (.m [(.normal,⟨[],[]⟩),(.ret,⟨[(4, .s K2 [])],[]⟩)] [0,1] [] (.q .z (.b (.l ⟨[(0, .s K12 []),(1, .s K12 []),(12, .s K3 [])],[]⟩ ⟨[(13, .s K3 [])],[]⟩ [(.exit 0,⟨[],[]⟩),(.ret,⟨[(4, .s K2 [])],[]⟩)] (λ (s1_1,s2_2,v_5) k v_6=>g_slices_Equal_uint32_l0 s1_1 s2_2 v_5 k v_6) .z))) .z))
theorem ke_slices_Equal_uint32:CK [] 0 ane_slices_Equal_uint32 Tryz.f99 e_slices_Equal_uint32:=⟨⟨trivial,⟨trivial,⟨⟨trivial,⟨λ _ _=>rfl,λ _ _ _ _=>by kernel_rfl,trivial⟩⟩,trivial⟩⟩⟩,λ _=>by kernel_rfl⟩
noncomputable def ane_impl_Unpack:An:=.q .z (.q .z (.q .z (.m [(.normal,⟨[(4, .s K5 [])],[]⟩)] [0,2,3] [] (.q .z (.b (.l ⟨[(0, .s K12 []),(2, .s K5 []),(3, .s K2 []),(10, .s K12 []),(11, .s K3 [])],[]⟩ ⟨[(4, .s K5 []),(12, .s K3 [])],[]⟩ [(.exit 0,⟨[(4, .s K5 [])],[]⟩)] (λ (_,_,_,v_7,v_8) k (name_9,v_10)=>g_impl_Unpack_l0 v_7 v_8 k name_9 v_10) .z))) (.q (.m [(.normal,⟨[(30, .s K2 [])],[]⟩)] [0,2,3,4] [] .z .z) .z))))
theorem ke_impl_Unpack:CK [e_impl_UnpackOne,e_impl_NameOk,e_impl_Pack,e_slices_Equal_uint32] 0 ane_impl_Unpack Tryz.f97 e_impl_Unpack:=⟨⟨trivial,⟨trivial,⟨trivial,⟨⟨trivial,⟨λ _ _=>rfl,λ _ _ _ _=>by kernel_rfl,trivial⟩⟩,⟨⟨trivial,trivial⟩,trivial⟩⟩⟩⟩⟩,λ _=>by kernel_rfl⟩
noncomputable def ane_impl_nameTag:An:=.z
theorem ke_impl_nameTag:CK [] 0 ane_impl_nameTag Tryz.f102 e_impl_nameTag:=⟨trivial,λ _=>by kernel_rfl⟩
noncomputable def ane_impl_nameKind:An:=.q .z (.m [(.normal,⟨[],[]⟩),(.ret,⟨[(2, .s K3 [])],[]⟩)] [0] [] (.q .z (.b (.l ⟨[(0, .s K7 [])],[]⟩ ⟨[(3, .s K3 [])],[]⟩ [(.exit 0,⟨[],[]⟩),(.ret,⟨[(2, .s K3 [])],[]⟩)] (λ tag_1 k kind_4=>g_impl_nameKind_l0 tag_1 k kind_4) .z))) .z)
theorem ke_impl_nameKind:CK [e_impl_nameTag] 0 ane_impl_nameKind Tryz.f98 e_impl_nameKind:=⟨⟨trivial,⟨⟨trivial,⟨λ _ _=>rfl,λ _ _ _ _=>by kernel_rfl,trivial⟩⟩,trivial⟩⟩,λ _=>by kernel_rfl⟩
end Go.Proofs.YtgfamepnkhpemaaGreatDoor
namespace Go.Proofs.YtgfamepnkhpemaaGreatDoor
open Go Go.Fm
set_option maxRecDepth 1000000
noncomputable def ane_impl_numberCells:An:=.q .z (.q .z (.m [(.normal,⟨[(9, .s K7 [])],[]⟩)] [0,1,2,3,8] [] .z (.q (.m [(.normal,⟨[(16, .s K2 [])],[]⟩)] [0,2,3,8,9] [] .z .z) .z)))
theorem ke_impl_numberCells:CK [] 0 ane_impl_numberCells Tryz.f104 e_impl_numberCells:=⟨⟨trivial,⟨trivial,⟨trivial,⟨⟨trivial,trivial⟩,trivial⟩⟩⟩⟩,λ _=>by kernel_rfl⟩
noncomputable def ane_impl_CellsOf:An:=.q .z (.q .z (.m [(.normal,⟨[],[.f]⟩),(.ret,⟨[(2, .s K12 [(0,1)])],[.f, .o]⟩)] [1] [0] (.b (.m [(.normal,⟨[(11, .s K2 [])],[.f]⟩)] [2,3] [] .z (.q (.q .z (.m [(.normal,⟨[(4, .s K12 [(0,2)])],[.f, .d, .o]⟩)] [2] [] (.q .z (.b (.l ⟨[(1, .c (.one (.ptr 0 0))),(2, .c (.one (.emp))),(26, .s K12 [(0,2)]),(27, .s K3 [])],[.v K8 [], .n, .o, .n]⟩ ⟨[(3, .s K7 []),(4, .s K12 [(0,3)]),(28, .s K3 [])],[.f, .d, .f, .o]⟩ [(.exit 1,⟨[(4, .s K12 [(0,3)])],[.f, .d, .f, .o]⟩)] (λ (v_8,v_9,_) k (tag_10,out_11,v_12)=>g_impl_CellsOf_l0 v_8 v_9 k tag_10 out_11 v_12) .z))) .z)) .z))) .z))
theorem ke_impl_CellsOf:CK [e_impl_nameTag,e_impl_Pack,e_impl_numberCells] 0 ane_impl_CellsOf Tryz.f60 e_impl_CellsOf:=⟨⟨trivial,⟨trivial,⟨⟨trivial,⟨⟨trivial,⟨⟨trivial,⟨λ _ _=>rfl,λ _ _ _ _=>by kernel_rfl,trivial⟩⟩,trivial⟩⟩,trivial⟩⟩,trivial⟩⟩⟩,λ _=>by kernel_rfl⟩
noncomputable def ane_impl_FieldOk:An:=.z
theorem ke_impl_FieldOk:CK [e_impl_UnpackOne,e_impl_Pack,e_slices_Equal_uint32] 0 ane_impl_FieldOk Tryz.f100 e_impl_FieldOk:=⟨trivial,λ _=>by kernel_rfl⟩
noncomputable def ane_impl_parseOne:An:=.q .z (.q .z (.q .z (.m [(.normal,⟨[],[.f, .v K8 []]⟩)] [0,2,3,4,5] [0] (.q .z (.b (.m [(.normal,⟨[(22, .s K2 [])],[.f, .f]⟩)] [21] [1] .z (.q (.q .z (.m [(.normal,⟨[(6, .s K12 [(0,3)])],[.f, .f, .d, .o]⟩)] [] [1] (.q .z (.b (.l ⟨[(0, .s K12 []),(2, .c (.one (.ptr 0 0))),(3, .s K7 []),(4, .s K7 []),(5, .c (.one (.ptr 1 0))),(33, .s K12 []),(34, .s K3 [])],[.v K8 [], .v K8 [], .n, .n]⟩ ⟨[(6, .s K12 [(0,3)]),(35, .s K3 [])],[.f, .f, .d, .o]⟩ [(.exit 1,⟨[(6, .s K12 [(0,3)])],[.f, .f, .d, .o]⟩)] (λ (_,_,_,v_8,v_10,_,_) k (fields_13,v_14)=>g_impl_parseOne_l0 v_8 v_10 k fields_13 v_14) (.q .z (.q .z (.q (.b (.q .z (.q (.m [(.normal,⟨[(45, .s K2 [])],[.f, .f, .d, .f]⟩)] [6,8,35] [3] .z .z) .z))) .z)))))) .z)) (.q .z (.q .z (.q .z (.q .z (.m [(.normal,⟨[(80, .s K2 [])],[.f, .f]⟩)] [21] [1] .z (.q (.q .z (.q .z (.m [(.normal,⟨[],[.f, .f, .v K8 []]⟩)] [11] [1] .z .z))) (.q .z (.q (.m [(.normal,⟨[(112, .s K2 [])],[.f, .f]⟩)] [] [1] .z .z) .z)))))))))))) .z)))
theorem ke_impl_parseOne:CK [e_impl_Unpack,e_impl_nameKind,e_impl_CellsOf,e_slices_Equal_uint32,e_impl_FieldOk,e_impl_UnpackOne] 0 ane_impl_parseOne Tryz.f59 e_impl_parseOne:=⟨⟨trivial,⟨trivial,⟨trivial,⟨⟨trivial,⟨trivial,⟨⟨trivial,⟨⟨trivial,⟨λ _ _=>rfl,λ _ _ _ _=>by kernel_rfl,⟨trivial,⟨trivial,⟨⟨trivial,⟨⟨trivial,trivial⟩,trivial⟩⟩,trivial⟩⟩⟩⟩⟩,trivial⟩⟩,⟨trivial,⟨trivial,⟨trivial,⟨trivial,⟨trivial,⟨⟨trivial,⟨trivial,⟨trivial,trivial⟩⟩⟩,⟨trivial,⟨⟨trivial,trivial⟩,trivial⟩⟩⟩⟩⟩⟩⟩⟩⟩⟩⟩,trivial⟩⟩⟩⟩,λ _=>by kernel_rfl⟩
noncomputable def ane_impl_ParseCells:An:=.q .z (.q .z (.q .z (.q (.b (.l ⟨[(2, .c (.one (.emp)))],[.n, .n]⟩ ⟨[(0, .s K12 []),(3, .s K9 [(0,1)])],[.d, .o]⟩ [(.exit 0,⟨[(3, .s K9 [(0,1)])],[.d, .o]⟩)] (λ _ k (cells_3,out_4)=>g_impl_ParseCells_l0 k cells_3 out_4) .z)) (.m [(.normal,⟨[(3, .s K9 [(0,2)])],[.d, .d, .o]⟩)] [2] [] (.q .z (.b (.l ⟨[(2, .c (.one (.emp)))],[.n, .n, .n]⟩ ⟨[(3, .s K9 [(0,2)]),(5, .s K3 [])],[.d, .d, .o]⟩ [(.exit 2,⟨[(3, .s K9 [(0,2)])],[.d, .d, .o]⟩)] (λ _ k (out_11,n_12)=>g_impl_ParseCells_l1 k out_11 n_12) (.q (.m [(.normal,⟨[(36, .s K2 [])],[.d, .d, .f]⟩)] [3,5] [2] .z .z) .z)))) .z))))
theorem ke_impl_ParseCells:CK [e_impl_parseOne,e_impl_CellsOf] 0 ane_impl_ParseCells Tryz.f23 e_impl_ParseCells:=⟨⟨trivial,⟨trivial,⟨trivial,⟨⟨λ _ _=>rfl,λ _ _ _ _=>by kernel_rfl,trivial⟩,⟨⟨trivial,⟨λ _ _=>rfl,λ _ _ _ _=>by kernel_rfl,⟨⟨trivial,trivial⟩,trivial⟩⟩⟩,trivial⟩⟩⟩⟩⟩,λ _=>by kernel_rfl⟩
noncomputable def ane_impl_hasRawc1:An:=.z
theorem ke_impl_hasRawc1:CK [] 0 ane_impl_hasRawc1 Tryz.f87 e_impl_hasRawc1:=⟨trivial,λ _=>by kernel_rfl⟩
noncomputable def ane_slices_IndexFunc_Item_impl_hasRawc1:An:=.q .z (.m [(.normal,⟨[],[]⟩),(.ret,⟨[(4, .s K3 [])],[]⟩)] [0,1] [] (.q .z (.b (.l ⟨[(0, .s K9 []),(1, .c (.one (.fn 87 []))),(7, .s K3 [])],[]⟩ ⟨[(8, .s K3 [])],[]⟩ [(.exit 0,⟨[],[]⟩),(.ret,⟨[(4, .s K3 [])],[]⟩)] (λ (s_1,v_4) k v_5=>g_slices_IndexFunc_Item_impl_hasRawc1_l0 s_1 v_4 k v_5) .z))) .z)
theorem ke_slices_IndexFunc_Item_impl_hasRawc1:CK [e_impl_hasRawc1] 0 ane_slices_IndexFunc_Item_impl_hasRawc1 Tryz.f128 e_slices_IndexFunc_Item_impl_hasRawc1:=⟨⟨trivial,⟨⟨trivial,⟨λ _ _=>rfl,λ _ _ _ _=>by kernel_rfl,trivial⟩⟩,trivial⟩⟩,λ _=>by kernel_rfl⟩
noncomputable def ane_slices_ContainsFunc_Item_impl_hasRawc1:An:=.z
theorem ke_slices_ContainsFunc_Item_impl_hasRawc1:CK [e_slices_IndexFunc_Item_impl_hasRawc1] 0 ane_slices_ContainsFunc_Item_impl_hasRawc1 Tryz.f86 e_slices_ContainsFunc_Item_impl_hasRawc1:=⟨trivial,λ _=>by kernel_rfl⟩
end Go.Proofs.YtgfamepnkhpemaaGreatDoor
namespace Go.Proofs.YtgfamepnkhpemaaGreatDoor
open Go Go.Fm
set_option maxRecDepth 1000000
noncomputable def ane_impl_hasRaw:An:=.z
theorem ke_impl_hasRaw:CK [e_slices_ContainsFunc_Item_impl_hasRawc1] 0 ane_impl_hasRaw Tryz.f48 e_impl_hasRaw:=⟨trivial,λ _=>by kernel_rfl⟩
noncomputable def ane_impl_common:An:=.q .z (.q .z (.m [(.normal,⟨[(5, .s K11 [(0,1)])],[.d, .o]⟩)] [0,1,4] [] (.q .z (.b (.l ⟨[(0, .s K9 []),(1, .s K9 []),(4, .s K3 []),(15, .s K9 []),(16, .s K3 [])],[.n, .n]⟩ ⟨[(5, .s K11 [(0,1)]),(17, .s K3 [])],[.d, .o]⟩ [(.exit 0,⟨[(5, .s K11 [(0,1)])],[.d, .o]⟩)] (λ (_,b_2,_,v_7,v_8) k (row_9,v_10)=>g_impl_common_l0 b_2 v_7 v_8 k row_9 v_10) (.q .z (.q .z (.m [(.normal,⟨[(5, .s K11 [(0,2)])],[.d, .d, .o]⟩)] [17] [] (.b (.q .z (.q .z (.m [(.normal,⟨[(8, .s K11 [(0,3)])],[.d, .f, .f, .o]⟩)] [5,7] [1,2] (.q .z (.b (.l ⟨[(0, .s K9 []),(1, .s K9 []),(4, .s K3 []),(5, .s K11 [(0,1)]),(7, .c (.one (.ptr 2 0))),(15, .s K9 []),(16, .s K3 []),(17, .s K3 []),(25, .s K9 []),(26, .s K3 [])],[.n, .o, .v K8 [], .n]⟩ ⟨[(8, .s K11 [(0,3)]),(27, .s K3 [])],[.d, .f, .f, .o]⟩ [(.exit 2,⟨[(8, .s K11 [(0,3)])],[.d, .f, .f, .o]⟩)] (λ (_,_,_,row_9,_,_,_,v_16,v_17,v_13) k (next_18,v_19)=>g_impl_common_l1 row_9 v_16 v_17 v_13 k next_18 v_19) (.q .z (.q .z (.m [(.normal,⟨[(8, .s K11 [(0,3)])],[.d, .f, .f, .o]⟩)] [27] [] .z .z)))))) .z)))) .z)))))) .z))
theorem ke_impl_common:CK [] 0 ane_impl_common Tryz.f49 e_impl_common:=⟨⟨trivial,⟨trivial,⟨⟨trivial,⟨λ _ _=>rfl,λ _ _ _ _=>by kernel_rfl,⟨trivial,⟨trivial,⟨⟨trivial,⟨trivial,⟨⟨trivial,⟨λ _ _=>rfl,λ _ _ _ _=>by kernel_rfl,⟨trivial,⟨trivial,⟨trivial,trivial⟩⟩⟩⟩⟩,trivial⟩⟩⟩,trivial⟩⟩⟩⟩⟩,trivial⟩⟩⟩,λ _=>by kernel_rfl⟩
noncomputable def ane_slices_Grow_Key_emp:An:=.q .z (.m [(.normal,⟨[],[]⟩)] [0,1,4] [] .z (.m [(.normal,⟨[(0, .s K14 [(0,0)])],[.o]⟩)] [4] [] .z .z))
theorem ke_slices_Grow_Key_emp:CK [] 0 ane_slices_Grow_Key_emp Tryz.f88 e_slices_Grow_Key_emp:=⟨⟨trivial,⟨trivial,⟨trivial,trivial⟩⟩⟩,λ _=>by kernel_rfl⟩
noncomputable def ane_slices_Concat_Key:An:=.q .z (.q .z (.m [(.normal,⟨[(3, .s K3 [])],[]⟩)] [0,2] [] (.q .z (.b (.l ⟨[(0, .s K15 []),(2, .c (.one (.emp))),(9, .s K15 []),(10, .s K3 [])],[]⟩ ⟨[(3, .s K3 []),(11, .s K3 [])],[]⟩ [(.exit 0,⟨[(3, .s K3 [])],[]⟩)] (λ (_,v_4,v_5) k (size_6,v_7)=>g_slices_Concat_Key_l0 v_4 v_5 k size_6 v_7) (.q .z (.q .z (.m [(.normal,⟨[(3, .s K3 [])],[]⟩)] [11] [] .z .z)))))) (.q .z (.m [(.normal,⟨[(6, .s K14 [(0,1)])],[.d, .o]⟩)] [0,2] [] (.q .z (.b (.l ⟨[(0, .s K15 []),(2, .c (.one (.emp))),(25, .s K15 []),(26, .s K3 [])],[.n, .n]⟩ ⟨[(6, .s K14 [(0,1)]),(27, .s K3 [])],[.d, .o]⟩ [(.exit 2,⟨[(6, .s K14 [(0,1)])],[.d, .o]⟩)] (λ (_,v_13,v_14) k (newslice_15,v_16)=>g_slices_Concat_Key_l1 v_13 v_14 k newslice_15 v_16) .z))) .z))))
theorem ke_slices_Concat_Key:CK [e_slices_Grow_Key_emp] 0 ane_slices_Concat_Key Tryz.f50 e_slices_Concat_Key:=⟨⟨trivial,⟨trivial,⟨⟨trivial,⟨λ _ _=>rfl,λ _ _ _ _=>by kernel_rfl,⟨trivial,⟨trivial,⟨trivial,trivial⟩⟩⟩⟩⟩,⟨trivial,⟨⟨trivial,⟨λ _ _=>rfl,λ _ _ _ _=>by kernel_rfl,trivial⟩⟩,trivial⟩⟩⟩⟩⟩,λ _=>by kernel_rfl⟩
noncomputable def ane_impl_Plan:An:=.q .z (.q (.m [(.normal,⟨[(18, .s K2 [])],[]⟩)] [0,1,4,5] [] .z .z) (.q .z (.q (.m [(.normal,⟨[(28, .s K2 [])],[.f, .f]⟩)] [4,5,6,7] [0,1] .z .z) (.q .z (.q (.b (.l ⟨[(4, .c (.one (.emp))),(5, .s K2 [])],[.n, .n, .n, .n, .n, .n, .n, .n]⟩ ⟨[(6, .s K9 [(0,4)]),(7, .s K9 [(0,5)]),(8, .s K14 [(0,6)]),(9, .s K14 [(0,7)]),(10, .s K3 [])],[.d, .d, .d, .d, .o, .o, .o, .o]⟩ [(.exit 0,⟨[(8, .s K14 [(0,6)]),(9, .s K14 [(0,7)]),(10, .s K3 [])],[.d, .d, .d, .d, .d, .d, .o, .o]⟩)] (λ _ k (vfrom_12,to_13,first_14,second_15,cuts_16)=>g_impl_Plan_l0 k vfrom_12 to_13 first_14 second_15 cuts_16) (.q .z (.b (.b (.m [(.normal,⟨[(46, .s K2 [])],[.d, .d, .d, .d, .f, .f, .f, .f]⟩)] [6,7,8,9,10] [4,5,6,7] .z (.q .z (.m [(.normal,⟨[(76, .s K2 [])],[.d, .d, .d, .d, .f, .f, .f, .f]⟩)] [6,7,8,9,10] [4,5,6,7] .z .z)))))))) .z)))))
theorem ke_impl_Plan:CK [e_impl_ParseCells,e_impl_hasRaw,e_impl_common,e_slices_Concat_Key] 0 ane_impl_Plan Tryz.f16 e_impl_Plan:=⟨⟨trivial,⟨⟨trivial,trivial⟩,⟨trivial,⟨⟨trivial,trivial⟩,⟨trivial,⟨⟨λ _ _=>rfl,λ _ _ _ _=>by kernel_rfl,⟨trivial,⟨trivial,⟨trivial,⟨trivial,trivial⟩⟩⟩⟩⟩,trivial⟩⟩⟩⟩⟩⟩,λ _=>by kernel_rfl⟩
noncomputable def ane_spec_l04Kind:An:=.q .z (.m [(.normal,⟨[],[]⟩),(.ret,⟨[(2, .s K3 [])],[]⟩)] [0] [] (.q .z (.b (.l ⟨[(0, .s K7 [])],[]⟩ ⟨[(3, .s K3 [])],[]⟩ [(.exit 0,⟨[],[]⟩),(.ret,⟨[(2, .s K3 [])],[]⟩)] (λ tag_1 k k_4=>g_spec_l04Kind_l0 tag_1 k k_4) .z))) .z)
theorem ke_spec_l04Kind:CK [e_spec_l04Tag] 0 ane_spec_l04Kind Tryz.f129 e_spec_l04Kind:=⟨⟨trivial,⟨⟨trivial,⟨λ _ _=>rfl,λ _ _ _ _=>by kernel_rfl,trivial⟩⟩,trivial⟩⟩,λ _=>by kernel_rfl⟩
noncomputable def ane_spec_Decode:An:=.q .z (.q .z (.m [(.normal,⟨[],[]⟩),(.ret,⟨[(4, .s K3 []),(5, .s K3 [])],[]⟩)] [0,1] [] (.q .z (.b (.l ⟨[(0, .s K7 []),(1, .s K3 [])],[]⟩ ⟨[(6, .s K3 [])],[]⟩ [(.exit 0,⟨[],[]⟩),(.ret,⟨[(4, .s K3 []),(5, .s K3 [])],[]⟩)] (λ (bits_1,n_2) k k_8=>g_spec_Decode_l0 bits_1 n_2 k k_8) (.q .z (.m [(.normal,⟨[],[]⟩),(.ret,⟨[(4, .s K3 []),(5, .s K3 [])],[]⟩)] [6] [] .z .z))))) .z))
theorem ke_spec_Decode:CK [e_spec_l01In,e_spec_WidthOf,e_spec_BitsOf] 0 ane_spec_Decode Tryz.f163 e_spec_Decode:=⟨⟨trivial,⟨trivial,⟨⟨trivial,⟨λ _ _=>rfl,λ _ _ _ _=>by kernel_rfl,⟨trivial,⟨trivial,trivial⟩⟩⟩⟩,trivial⟩⟩⟩,λ _=>by kernel_rfl⟩
noncomputable def ane_spec_UnpackOne:An:=.q .z (.q .z (.q .z (.q .z (.q (.b (.l ⟨[(0, .s K7 []),(2, .s K5 [])],[.n, .n]⟩ ⟨[(3, .s K1 [(0,1)]),(4, .s K3 [])],[.d, .o]⟩ [(.exit 0,⟨[(3, .s K1 [(0,1)])],[.d, .o]⟩)] (λ (f_1,_) k (out_4,left_5)=>g_spec_UnpackOne_l0 f_1 k out_4 left_5) (.q (.m [(.normal,⟨[(22, .s K2 [])],[.d, .f]⟩)] [3,4] [1] .z .z) .z))) .z))))
theorem ke_spec_UnpackOne:CK [e_spec_Decode,e_spec_LetterAt] 0 ane_spec_UnpackOne Tryz.f133 e_spec_UnpackOne:=⟨⟨trivial,⟨trivial,⟨trivial,⟨trivial,⟨⟨λ _ _=>rfl,λ _ _ _ _=>by kernel_rfl,⟨⟨trivial,trivial⟩,trivial⟩⟩,trivial⟩⟩⟩⟩⟩,λ _=>by kernel_rfl⟩
end Go.Proofs.YtgfamepnkhpemaaGreatDoor
namespace Go.Proofs.YtgfamepnkhpemaaGreatDoor
open Go Go.Fm
set_option maxRecDepth 1000000
noncomputable def ane_spec_l03Same:An:=.q .z (.q .z (.m [(.normal,⟨[],[]⟩),(.ret,⟨[(4, .s K2 [])],[]⟩)] [0,1] [] (.q .z (.b (.l ⟨[(0, .s K12 []),(1, .s K12 [])],[]⟩ ⟨[(5, .s K3 [])],[]⟩ [(.exit 0,⟨[],[]⟩),(.ret,⟨[(4, .s K2 [])],[]⟩)] (λ (a_1,b_2) k i_5=>g_spec_l03Same_l0 a_1 b_2 k i_5) .z))) .z))
theorem ke_spec_l03Same:CK [] 0 ane_spec_l03Same Tryz.f185 e_spec_l03Same:=⟨⟨trivial,⟨trivial,⟨⟨trivial,⟨λ _ _=>rfl,λ _ _ _ _=>by kernel_rfl,trivial⟩⟩,trivial⟩⟩⟩,λ _=>by kernel_rfl⟩
noncomputable def ane_spec_Unpack:An:=.q .z (.q .z (.q .z (.m [(.normal,⟨[(4, .s K5 [])],[]⟩)] [0,2,3] [] (.q .z (.b (.l ⟨[(0, .s K12 []),(2, .s K5 []),(3, .s K2 [])],[]⟩ ⟨[(4, .s K5 []),(5, .s K3 [])],[]⟩ [(.exit 0,⟨[(4, .s K5 [])],[]⟩)] (λ (list_1,_,_) k (s_7,i_8)=>g_spec_Unpack_l0 list_1 k s_7 i_8) .z))) (.q (.m [(.normal,⟨[(31, .s K2 [])],[]⟩)] [0,2,3,4] [] .z .z) .z))))
theorem ke_spec_Unpack:CK [e_spec_UnpackOne,e_spec_NameOk,e_spec_Pack,e_spec_l03Same] 0 ane_spec_Unpack Tryz.f161 e_spec_Unpack:=⟨⟨trivial,⟨trivial,⟨trivial,⟨⟨trivial,⟨λ _ _=>rfl,λ _ _ _ _=>by kernel_rfl,trivial⟩⟩,⟨⟨trivial,trivial⟩,trivial⟩⟩⟩⟩⟩,λ _=>by kernel_rfl⟩
noncomputable def ane_spec_l04Name:An:=.q .z (.q .z (.m [(.normal,⟨[(8, .s K12 [(0,2)])],[.f, .d, .o]⟩)] [0,1,2,6,7] [0] (.q .z (.b (.l ⟨[(0, .s K12 []),(1, .s K3 []),(2, .s K3 []),(6, .c (.one (.ptr 0 0))),(7, .s K3 [])],[.v K8 [], .n, .n]⟩ ⟨[(8, .s K12 [(0,2)]),(9, .s K3 [])],[.f, .d, .o]⟩ [(.exit 0,⟨[(8, .s K12 [(0,2)])],[.f, .d, .o]⟩)] (λ (cells_1,_,_,_,_) k (fields_10,k_11)=>g_spec_l04Name_l0 cells_1 k fields_10 k_11) (.q (.m [(.normal,⟨[(38, .s K2 [])],[.f, .d, .f]⟩)] [8,9] [2] .z .z) .z)))) .z))
theorem ke_spec_l04Name:CK [e_spec_Unpack] 0 ane_spec_l04Name Tryz.f130 e_spec_l04Name:=⟨⟨trivial,⟨trivial,⟨⟨trivial,⟨λ _ _=>rfl,λ _ _ _ _=>by kernel_rfl,⟨⟨trivial,trivial⟩,trivial⟩⟩⟩,trivial⟩⟩⟩,λ _=>by kernel_rfl⟩
noncomputable def ane_spec_l04Number:An:=.q .z (.q .z (.q .z (.q .z (.m [(.normal,⟨[],[.f, .v K8 []]⟩)] [0,1,4,5,6,7,8] [0] (.m [(.normal,⟨[(24, .s K2 [])],[.f, .f]⟩)] [] [1] .z .z) (.q (.m [(.normal,⟨[(31, .s K2 [])],[.f, .f]⟩)] [0,1,4,5,6,7,8] [0,1] .z .z) (.q (.m [(.normal,⟨[(46, .s K2 [])],[.f, .f]⟩)] [0,1,4,5,6,8] [0,1] .z .z) .z))))))
theorem ke_spec_l04Number:CK [e_spec_CellsOf] 0 ane_spec_l04Number Tryz.f131 e_spec_l04Number:=⟨⟨trivial,⟨trivial,⟨trivial,⟨trivial,⟨⟨trivial,trivial⟩,⟨⟨trivial,trivial⟩,⟨⟨trivial,trivial⟩,trivial⟩⟩⟩⟩⟩⟩⟩,λ _=>by kernel_rfl⟩
noncomputable def ane_spec_FieldOk:An:=.z
theorem ke_spec_FieldOk:CK [e_spec_UnpackOne,e_spec_Pack] 0 ane_spec_FieldOk Tryz.f132 e_spec_FieldOk:=⟨trivial,λ _=>by kernel_rfl⟩
noncomputable def ane_spec_l04Item:An:=.q .z (.q .z (.q .z (.m [(.normal,⟨[(7, .s K3 [])],[.f, .v K8 []]⟩)] [0,1,4,5,6,8] [0] (.b (.q .z (.q .z (.m [(.normal,⟨[(27, .s K2 [])],[.f, .f]⟩)] [7] [1] .z (.q .z (.m [(.normal,⟨[(48, .s K2 [])],[.f, .f]⟩)] [7] [1] .z .z)))))) .z)))
theorem ke_spec_l04Item:CK [e_spec_l04Kind,e_spec_l04Name,e_spec_l04Number,e_spec_FieldOk,e_spec_UnpackOne] 0 ane_spec_l04Item Tryz.f89 e_spec_l04Item:=⟨⟨trivial,⟨trivial,⟨trivial,⟨⟨trivial,⟨trivial,⟨trivial,⟨trivial,⟨trivial,trivial⟩⟩⟩⟩⟩,trivial⟩⟩⟩⟩,λ _=>by kernel_rfl⟩
noncomputable def ane_spec_l22Plain:An:=.q .z (.m [(.normal,⟨[],[]⟩),(.ret,⟨[(2, .s K2 [])],[]⟩)] [0] [] (.q .z (.b (.l ⟨[(0, .s K9 [])],[]⟩ ⟨[(3, .s K3 [])],[]⟩ [(.exit 0,⟨[],[]⟩),(.ret,⟨[(2, .s K2 [])],[]⟩)] (λ list_1 k i_4=>g_spec_l22Plain_l0 list_1 k i_4) .z))) .z)
theorem ke_spec_l22Plain:CK [] 0 ane_spec_l22Plain Tryz.f52 e_spec_l22Plain:=⟨⟨trivial,⟨⟨trivial,⟨λ _ _=>rfl,λ _ _ _ _=>by kernel_rfl,trivial⟩⟩,trivial⟩⟩,λ _=>by kernel_rfl⟩
end Go.Proofs.YtgfamepnkhpemaaGreatDoor
namespace Go.Proofs.YtgfamepnkhpemaaGreatDoor
open Go Go.Fm
set_option maxRecDepth 1000000
noncomputable def ane_spec_l14Max:An:=.z
theorem ke_spec_l14Max:CK [] 0 ane_spec_l14Max Tryz.f90 e_spec_l14Max:=⟨trivial,λ _=>by kernel_rfl⟩
noncomputable def ane_spec_ParseCells_imm:An:=.q .z (.q .z (.q .z (.m [(.normal,⟨[(3, .s K9 [(0,1)])],[.d, .o]⟩)] [0,2] [] (.q .z (.b (.l ⟨[(0, .s K12 []),(2, .c (.one (.emp)))],[.n, .n]⟩ ⟨[(3, .s K9 [(0,1)]),(4, .s K3 [])],[.d, .o]⟩ [(.exit 0,⟨[(3, .s K9 [(0,1)])],[.d, .o]⟩)] (λ cells_1 k (out_4,i_5)=>g_spec_ParseCells_imm_l0 cells_1 k out_4 i_5) .z))) (.q (.b (.l ⟨[(2, .c (.one (.emp)))],[.n, .n, .n]⟩ ⟨[(3, .s K9 [(0,2)])],[.d, .d, .o]⟩ [(.exit 2,⟨[(3, .s K9 [(0,2)])],[.d, .d, .o]⟩)] (λ _ k out_9=>g_spec_ParseCells_imm_l1 k out_9) (.q (.m [(.normal,⟨[(41, .s K2 [])],[.d, .d, .f]⟩)] [3] [2] .z .z) .z))) .z))))
theorem ke_spec_ParseCells_imm:CK [e_spec_l04Item] 0 ane_spec_ParseCells_imm Tryz.f51 e_spec_ParseCells_imm:=⟨⟨trivial,⟨trivial,⟨trivial,⟨⟨trivial,⟨λ _ _=>rfl,λ _ _ _ _=>by kernel_rfl,trivial⟩⟩,⟨⟨λ _ _=>rfl,λ _ _ _ _=>by kernel_rfl,⟨⟨trivial,trivial⟩,trivial⟩⟩,trivial⟩⟩⟩⟩⟩,λ _=>by kernel_rfl⟩
noncomputable def ane_spec_Plan:An:=.q .z (.q .z (.q (.m [(.normal,⟨[(35, .s K2 [])],[]⟩)] [0,1,4,5,6,7] [] .z .z) (.q .z (.q .z (.q .z (.q .z (.q (.b (.l ⟨[(4, .c (.one (.emp))),(5, .s K2 []),(6, .s K9 []),(7, .s K9 []),(8, .s K16 [])],[.n, .n, .n, .n]⟩ ⟨[(9, .s K14 [(0,2)]),(10, .s K14 [(0,3)]),(11, .s K3 []),(12, .s K3 []),(13, .s K3 [])],[.d, .d, .o, .o]⟩ [(.exit 0,⟨[(9, .s K14 [(0,2)]),(10, .s K14 [(0,3)]),(11, .s K3 [])],[.d, .d, .o, .o]⟩)] (λ (_,x_12,y_13,yu1662_10) k (first_14,second_15,cuts_16,i_17,k_18)=>g_spec_Plan_l0 x_12 y_13 yu1662_10 k first_14 second_15 cuts_16 i_17 k_18) (.q (.m [(.normal,⟨[(51, .s K2 [])],[.d, .d, .f, .f]⟩)] [9,10,11,12,13] [2,3] .z .z) (.b (.b (.m [(.normal,⟨[(62, .s K2 [])],[.d, .d, .f, .f]⟩)] [9,10,11,12,13] [2,3] .z (.q .z (.m [(.normal,⟨[(96, .s K2 [])],[.d, .d, .f, .f]⟩)] [9,10,11,12,13] [2,3] .z .z)))))))) .z)))))))
theorem ke_spec_Plan:CK [e_spec_ParseCells_imm,e_spec_l22Plain,e_spec_l22Table] 0 ane_spec_Plan Tryz.f17 e_spec_Plan:=⟨⟨trivial,⟨trivial,⟨⟨trivial,trivial⟩,⟨trivial,⟨trivial,⟨trivial,⟨trivial,⟨⟨λ _ _=>rfl,λ _ _ _ _=>by kernel_rfl,⟨⟨trivial,trivial⟩,⟨trivial,⟨trivial,⟨trivial,trivial⟩⟩⟩⟩⟩,trivial⟩⟩⟩⟩⟩⟩⟩⟩,λ _=>by kernel_rfl⟩
noncomputable def ane_impl_OpenEd:An:=.z
theorem ke_impl_OpenEd:CK [e_impl_ParseCells] 0 ane_impl_OpenEd Tryz.f19 e_impl_OpenEd:=⟨trivial,λ _=>by kernel_rfl⟩
noncomputable def ane_impl_ItemOk:An:=.z
theorem ke_impl_ItemOk:CK [e_impl_CellsOf] 0 ane_impl_ItemOk Tryz.f46 e_impl_ItemOk:=⟨trivial,λ _=>by kernel_rfl⟩
noncomputable def ane_impl_EdOkc1:An:=.z
theorem ke_impl_EdOkc1:CK [e_impl_ItemOk] 0 ane_impl_EdOkc1 Tryz.f91 e_impl_EdOkc1:=⟨trivial,λ _=>by kernel_rfl⟩
noncomputable def ane_slices_IndexFunc_Item_impl_EdOkc1:An:=.q .z (.m [(.normal,⟨[],[]⟩),(.ret,⟨[(4, .s K3 [])],[]⟩)] [0,1] [] (.q .z (.b (.l ⟨[(0, .s K9 []),(1, .c (.one (.fn 91 []))),(7, .s K3 [])],[]⟩ ⟨[(8, .s K3 [])],[]⟩ [(.exit 0,⟨[],[]⟩),(.ret,⟨[(4, .s K3 [])],[]⟩)] (λ (s_1,v_4) k v_5=>g_slices_IndexFunc_Item_impl_EdOkc1_l0 s_1 v_4 k v_5) .z))) .z)
theorem ke_slices_IndexFunc_Item_impl_EdOkc1:CK [e_impl_EdOkc1] 0 ane_slices_IndexFunc_Item_impl_EdOkc1 Tryz.f128 e_slices_IndexFunc_Item_impl_EdOkc1:=⟨⟨trivial,⟨⟨trivial,⟨λ _ _=>rfl,λ _ _ _ _=>by kernel_rfl,trivial⟩⟩,trivial⟩⟩,λ _=>by kernel_rfl⟩
noncomputable def ane_slices_ContainsFunc_Item_impl_EdOkc1:An:=.z
theorem ke_slices_ContainsFunc_Item_impl_EdOkc1:CK [e_slices_IndexFunc_Item_impl_EdOkc1] 0 ane_slices_ContainsFunc_Item_impl_EdOkc1 Tryz.f86 e_slices_ContainsFunc_Item_impl_EdOkc1:=⟨trivial,λ _=>by kernel_rfl⟩
end Go.Proofs.YtgfamepnkhpemaaGreatDoor
namespace Go.Proofs.YtgfamepnkhpemaaGreatDoor
open Go Go.Fm
set_option maxRecDepth 1000000
noncomputable def ane_slices_Grow_Item_emp:An:=.q .z (.m [(.normal,⟨[],[]⟩)] [0,1,4] [] .z (.m [(.normal,⟨[(0, .s K9 [(0,0)])],[.o]⟩)] [4] [] .z .z))
theorem ke_slices_Grow_Item_emp:CK [] 0 ane_slices_Grow_Item_emp Tryz.f136 e_slices_Grow_Item_emp:=⟨⟨trivial,⟨trivial,⟨trivial,trivial⟩⟩⟩,λ _=>by kernel_rfl⟩
noncomputable def ane_slices_Concat_Item:An:=.q .z (.q .z (.m [(.normal,⟨[(3, .s K3 [])],[]⟩)] [0,2] [] (.q .z (.b (.l ⟨[(0, .s K18 []),(2, .c (.one (.emp))),(9, .s K18 []),(10, .s K3 [])],[]⟩ ⟨[(3, .s K3 []),(11, .s K3 [])],[]⟩ [(.exit 0,⟨[(3, .s K3 [])],[]⟩)] (λ (_,v_4,v_5) k (size_6,v_7)=>g_slices_Concat_Item_l0 v_4 v_5 k size_6 v_7) (.q .z (.q .z (.m [(.normal,⟨[(3, .s K3 [])],[]⟩)] [11] [] .z .z)))))) (.q .z (.m [(.normal,⟨[(6, .s K9 [(0,1)])],[.d, .o]⟩)] [0,2] [] (.q .z (.b (.l ⟨[(0, .s K18 []),(2, .c (.one (.emp))),(25, .s K18 []),(26, .s K3 [])],[.n, .n]⟩ ⟨[(6, .s K9 [(0,1)]),(27, .s K3 [])],[.d, .o]⟩ [(.exit 2,⟨[(6, .s K9 [(0,1)])],[.d, .o]⟩)] (λ (_,v_13,v_14) k (newslice_15,v_16)=>g_slices_Concat_Item_l1 v_13 v_14 k newslice_15 v_16) .z))) .z))))
theorem ke_slices_Concat_Item:CK [e_slices_Grow_Item_emp] 0 ane_slices_Concat_Item Tryz.f96 e_slices_Concat_Item:=⟨⟨trivial,⟨trivial,⟨⟨trivial,⟨λ _ _=>rfl,λ _ _ _ _=>by kernel_rfl,⟨trivial,⟨trivial,⟨trivial,trivial⟩⟩⟩⟩⟩,⟨trivial,⟨⟨trivial,⟨λ _ _=>rfl,λ _ _ _ _=>by kernel_rfl,trivial⟩⟩,trivial⟩⟩⟩⟩⟩,λ _=>by kernel_rfl⟩
noncomputable def ane_impl_edItems:An:=.z
theorem ke_impl_edItems:CK [e_slices_Concat_Item] 0 ane_impl_edItems Tryz.f58 e_impl_edItems:=⟨trivial,λ _=>by kernel_rfl⟩
noncomputable def ane_impl_Unparse:An:=.q .z (.q .z (.m [(.normal,⟨[(4, .s K12 [(0,1)])],[.d, .o]⟩),(.ret,⟨[(2, .c (.one (.emp))),(3, .s K2 [])],[.d]⟩)] [0] [] (.q .z (.b (.l ⟨[(0, .s K9 []),(9, .s K9 []),(10, .s K3 [])],[.n, .n]⟩ ⟨[(4, .s K12 [(0,1)]),(11, .s K3 [])],[.d, .o]⟩ [(.exit 0,⟨[(4, .s K12 [(0,1)])],[.d, .o]⟩),(.ret,⟨[(2, .c (.one (.emp))),(3, .s K2 [])],[.d, .d]⟩)] (λ (_,v_6,v_7) k (out_8,v_9)=>g_impl_Unparse_l0 v_6 v_7 k out_8 v_9) (.q .z (.q .z (.q (.b (.q .z (.q .z (.q .z (.m [(.normal,⟨[(27, .s K2 [])],[.d, .d, .d, .f, .f]⟩)] [4,7,11] [3,4] .z .z))))) .z)))))) .z))
theorem ke_impl_Unparse:CK [e_impl_CellsOf] 0 ane_impl_Unparse Tryz.f57 e_impl_Unparse:=⟨⟨trivial,⟨trivial,⟨⟨trivial,⟨λ _ _=>rfl,λ _ _ _ _=>by kernel_rfl,⟨trivial,⟨trivial,⟨⟨trivial,⟨trivial,⟨trivial,⟨trivial,trivial⟩⟩⟩⟩,trivial⟩⟩⟩⟩⟩,trivial⟩⟩⟩,λ _=>by kernel_rfl⟩
noncomputable def ane_slices_Equal_Item:An:=.q .z (.q .z (.m [(.normal,⟨[],[]⟩),(.ret,⟨[(4, .s K2 [])],[]⟩)] [0,1] [] (.q .z (.b (.l ⟨[(0, .s K9 []),(1, .s K9 []),(12, .s K3 [])],[]⟩ ⟨[(13, .s K3 [])],[]⟩ [(.exit 0,⟨[],[]⟩),(.ret,⟨[(4, .s K2 [])],[]⟩)] (λ (s1_1,s2_2,v_5) k v_6=>g_slices_Equal_Item_l0 s1_1 s2_2 v_5 k v_6) .z))) .z))
theorem ke_slices_Equal_Item:CK [] 0 ane_slices_Equal_Item Tryz.f73 e_slices_Equal_Item:=⟨⟨trivial,⟨trivial,⟨⟨trivial,⟨λ _ _=>rfl,λ _ _ _ _=>by kernel_rfl,trivial⟩⟩,trivial⟩⟩⟩,λ _=>by kernel_rfl⟩
noncomputable def ane_impl_ListOk:An:=.z
theorem ke_impl_ListOk:CK [e_impl_Unparse,e_impl_ParseCells,e_slices_Equal_Item] 0 ane_impl_ListOk Tryz.f92 e_impl_ListOk:=⟨trivial,λ _=>by kernel_rfl⟩
noncomputable def ane_impl_EdOk:An:=.z
theorem ke_impl_EdOk:CK [e_slices_ContainsFunc_Item_impl_EdOkc1,e_impl_edItems,e_impl_ListOk] 0 ane_impl_EdOk Tryz.f54 e_impl_EdOk:=⟨trivial,λ _=>by kernel_rfl⟩
theorem fe_slices_Clone_Item:ConOk Tryz.prog e_slices_Clone_Item:=clone_own (P:=λ _=>Tryz.prog) (τ:=K8) TryzT_eq Tryz.func93 rfl rfl ⟨by kernel_rfl,by kernel_rfl,by kernel_rfl⟩ (congrArg TyI.kind TryzT_25) (λ a=>by kernel_rfl)
end Go.Proofs.YtgfamepnkhpemaaGreatDoor
namespace Go.Proofs.YtgfamepnkhpemaaGreatDoor
open Go Go.Fm
set_option maxRecDepth 1000000
noncomputable def ane_impl_ownEd:An:=.z
theorem ke_impl_ownEd:CK [e_slices_Clone_Item] 0 ane_impl_ownEd Tryz.f55 e_impl_ownEd:=⟨trivial,λ _=>by kernel_rfl⟩
def insRen_94:Go.Shelf.Ren:=⟨fun|22=>94|29=>134|30=>135|n=>n,fun|24=>25|9=>50|3=>3|4=>4|0=>0|n=>n,λ n=>n⟩
noncomputable def insZ_94:Value:=((Tryz.prog.info? 50).bind (·.zero)).getD (.bool false)
noncomputable def insB_94:Nat:=((Tryz.prog.info? 50).map (·.bytes)).getD 0
theorem insL_94:InsL Tryz.prog insRen_94 Tryz.f94.name (Ty.size K8) insB_94 insZ_94 where
 mixed:=by kernel_rfl
 f22:=Tryz.func94.trans (congrArg some (by kernel_rfl))
 hn:=by kernel_rfl
 ov:=λ a b w=>Go.run_callFunc_extern Tryz.func134 (by kernel_rfl) (by kernel_rfl) (by kernel_rfl) (e:=Extern.SlicesOverlaps.overlaps #[25,25] #[4]) (by kernel_rfl) #[a,b] w
 t3:=Tryz.underlying3
 a3:=Tryz.isAgg3
 z3:=Tryz.sizeOf3
 v3:=Tryz.zeroValue3
 t4:=Tryz.underlying4
 a4:=Tryz.isAgg4
 z4:=Tryz.sizeOf4
 v4:=Tryz.zeroValue4
 t24:=Tryz.underlying25
 a24:=Tryz.isAgg25
 z24:=Tryz.sizeOf25
 v24:=Tryz.zeroValue25
 z9:=Tryz.sizeOf50
 i9:=insInfo (by kernel_rfl)
theorem fe_slices_Insert_Item:ConOk Tryz.prog e_slices_Insert_Item:=ins_ok insL_94 (of_decide_eq_true (by kernel_rfl)) (of_decide_eq_true (by kernel_rfl)) (by kernel_rfl) (by kernel_rfl) rfl (flat_len (encOk K8).len)
noncomputable def ane_impl_Recolor:An:=.q .z (.m [(.normal,⟨[(6, .s K2 [])],[.f, .f]⟩)] [1,2,4,5] [0,1] .z (.m [(.normal,⟨[(7, .s K2 [])],[.f, .f]⟩)] [1,2,4,5,6] [0,1] .z (.q (.m [(.normal,⟨[(49, .s K2 [])],[.f, .f]⟩)] [1,2,4,5,6,7] [0,1] .z .z) .z)))
theorem ke_impl_Recolor:CK [e_impl_nameTag,e_impl_ItemOk] 0 ane_impl_Recolor Tryz.f95 e_impl_Recolor:=⟨⟨trivial,⟨trivial,⟨trivial,⟨⟨trivial,trivial⟩,trivial⟩⟩⟩⟩,λ _=>by kernel_rfl⟩
noncomputable def ane_impl_pressed:An:=.q .z (.q .z (.m [(.normal,⟨[],[.f, .f, .v K17 [(0,7),(1,8),(2,9)], .d, .d, .d, .v K17 [(0,10),(1,11),(2,12)], .o, .o, .o, .o, .o, .o]⟩),(.ret,⟨[(5, .s K2 [])],[.f, .f, .v K17 [], .o, .o, .o, .v K17 [(0,3),(1,4),(2,5)]]⟩)] [2,3,4,6,7] [0,1] .z .z))
theorem ke_impl_pressed:CK [e_impl_ownEd,e_slices_Insert_Item,e_impl_edItems,e_impl_Recolor,e_impl_EdOk] 0 ane_impl_pressed Tryz.f56 e_impl_pressed:=⟨⟨trivial,⟨trivial,⟨trivial,trivial⟩⟩⟩,λ _=>by kernel_rfl⟩
noncomputable def ane_impl_PressAll:An:=.q .z (.q .z (.q .z (.q .z (.m [(.normal,⟨[(6, .s K3 [])],[.v K17 [], .f, .d, .d, .d]⟩)] [1,2,4,5] [1] (.q .z (.b (.l ⟨[(1, .s K14 []),(2, .c (.one (.ptr 0 0))),(4, .c (.one (.ptr 1 0))),(5, .s K3 []),(19, .s K14 []),(20, .s K3 [])],[.n, .c [.emp, .emp, .emp], .n, .n, .n]⟩ ⟨[(6, .s K3 []),(21, .s K3 [])],[.v K17 [], .f, .d, .d, .d]⟩ [(.exit 0,⟨[(6, .s K3 [])],[.v K17 [], .f, .d, .d, .d]⟩)] (λ (_,_,v_10,v_11) k (refused_12,v_13,x_14)=>g_impl_PressAll_l0 v_10 v_11 k refused_12 v_13 x_14) (.q .z (.q .z (.m [(.normal,⟨[(6, .s K3 [])],[.v K17 [], .f, .d, .d, .d]⟩)] [21] [] .z .z)))))) .z))))
theorem ke_impl_PressAll:CK [e_impl_EdOk,e_impl_ownEd,e_impl_pressed] 0 ane_impl_PressAll Tryz.f18 e_impl_PressAll:=⟨⟨trivial,⟨trivial,⟨trivial,⟨trivial,⟨⟨trivial,⟨λ _ _=>rfl,λ _ _ _ _=>by kernel_rfl,⟨trivial,⟨trivial,⟨trivial,trivial⟩⟩⟩⟩⟩,trivial⟩⟩⟩⟩⟩,λ _=>by kernel_rfl⟩
noncomputable def ane_impl_EdCells:An:=.z
theorem ke_impl_EdCells:CK [e_impl_EdOk,e_impl_edItems,e_impl_Unparse] 0 ane_impl_EdCells Tryz.f22 e_impl_EdCells:=⟨trivial,λ _=>by kernel_rfl⟩
noncomputable def ane_laws_padded:An:=.q .z (.q .z (.q (.b (.l ⟨[(2, .c (.one (.emp)))],[.n, .n, .n]⟩ ⟨[(3, .s K12 [(0,2)])],[.d, .d, .o]⟩ [(.exit 0,⟨[(3, .s K12 [(0,2)])],[.d, .d, .o]⟩)] (λ _ k out_4=>g_laws_padded_l0 k out_4) .z)) .z))
theorem ke_laws_padded:CK [] 0 ane_laws_padded Tryz.f21 e_laws_padded:=⟨⟨trivial,⟨trivial,⟨⟨λ _ _=>rfl,λ _ _ _ _=>by kernel_rfl,trivial⟩,trivial⟩⟩⟩,λ _=>by kernel_rfl⟩
noncomputable def ane_laws_sameCells:An:=.q .z (.q .z (.m [(.normal,⟨[],[]⟩),(.ret,⟨[(4, .s K2 [])],[]⟩)] [0,1] [] (.q .z (.b (.l ⟨[(0, .s K12 []),(1, .s K12 [])],[]⟩ ⟨[(5, .s K3 [])],[]⟩ [(.exit 0,⟨[],[]⟩),(.ret,⟨[(4, .s K2 [])],[]⟩)] (λ (a_1,b_2) k i_5=>g_laws_sameCells_l0 a_1 b_2 k i_5) .z))) .z))
theorem ke_laws_sameCells:CK [] 0 ane_laws_sameCells Tryz.f20 e_laws_sameCells:=⟨⟨trivial,⟨trivial,⟨⟨trivial,⟨λ _ _=>rfl,λ _ _ _ _=>by kernel_rfl,trivial⟩⟩,trivial⟩⟩⟩,λ _=>by kernel_rfl⟩
end Go.Proofs.YtgfamepnkhpemaaGreatDoor
namespace Go.Proofs.YtgfamepnkhpemaaGreatDoor
open Go Go.Fm
set_option maxRecDepth 1000000
noncomputable def ane_impl_Common:An:=.q .z (.q (.m [(.normal,⟨[(12, .s K2 [])],[]⟩)] [0,1,4] [] .z .z) .z)
theorem ke_impl_Common:CK [e_impl_common] 0 ane_impl_Common Tryz.f24 e_impl_Common:=⟨⟨trivial,⟨⟨trivial,trivial⟩,trivial⟩⟩,λ _=>by kernel_rfl⟩
noncomputable def ane_istrconv_small:An:=.z
theorem ke_istrconv_small:CK [] 0 ane_istrconv_small Tryz.f145 e_istrconv_small:=⟨trivial,λ _=>by kernel_rfl⟩
noncomputable def ane_math_bits_Len64:An:=.q .z (.m [(.normal,⟨[(0, .s K19 []),(2, .s K3 [])],[]⟩)] [] [] .z (.m [(.normal,⟨[(0, .s K19 []),(2, .s K3 [])],[]⟩)] [] [] .z (.m [(.normal,⟨[(0, .s K19 []),(2, .s K3 [])],[]⟩)] [] [] .z .z)))
theorem ke_math_bits_Len64:CK [] 0 ane_math_bits_Len64 Tryz.f172 e_math_bits_Len64:=⟨⟨trivial,⟨trivial,⟨trivial,⟨trivial,trivial⟩⟩⟩⟩,λ _=>by kernel_rfl⟩
noncomputable def ane_istrconv_log10Pow2:An:=.z
theorem ke_istrconv_log10Pow2:CK [] 0 ane_istrconv_log10Pow2 Tryz.f171 e_istrconv_log10Pow2:=⟨trivial,λ _=>by kernel_rfl⟩
noncomputable def ane_istrconv_bool2_int:An:=.z
theorem ke_istrconv_bool2_int:CK [] 0 ane_istrconv_bool2_int Tryz.f173 e_istrconv_bool2_int:=⟨trivial,λ _=>by kernel_rfl⟩
noncomputable def ane_istrconv_numDigits:An:=.z
theorem ke_istrconv_numDigits:CK [e_math_bits_Len64,e_istrconv_log10Pow2,e_istrconv_bool2_int] 0 ane_istrconv_numDigits Tryz.f146 e_istrconv_numDigits:=⟨trivial,λ _=>by kernel_rfl⟩
noncomputable def ane_istrconv_isPowerOfTwo:An:=.z
theorem ke_istrconv_isPowerOfTwo:CK [] 0 ane_istrconv_isPowerOfTwo Tryz.f174 e_istrconv_isPowerOfTwo:=⟨trivial,λ _=>by kernel_rfl⟩
noncomputable def ane_math_bits_TrailingZeros64:An:=.z
theorem ke_math_bits_TrailingZeros64:CK [] 0 ane_math_bits_TrailingZeros64 Tryz.f191 e_math_bits_TrailingZeros64:=⟨trivial,λ _=>by kernel_rfl⟩
end Go.Proofs.YtgfamepnkhpemaaGreatDoor
namespace Go.Proofs.YtgfamepnkhpemaaGreatDoor
open Go Go.Fm
set_option maxRecDepth 1000000
noncomputable def ane_math_bits_TrailingZeros:An:=.z
theorem ke_math_bits_TrailingZeros:CK [e_math_bits_TrailingZeros64] 0 ane_math_bits_TrailingZeros Tryz.f175 e_math_bits_TrailingZeros:=⟨trivial,λ _=>by kernel_rfl⟩
noncomputable def ane_istrconv_formatBits:An:=.q .z (.m [(.normal,⟨[],[]⟩)] [0,1,2,3,4,10,11] [] (.m [(.normal,⟨[(28, .s K2 [])],[]⟩)] [] [] .z .z) (.q .z (.q .z (.m [(.normal,⟨[(1, .s K19 [])],[.f]⟩)] [0,2,3,4,10,11,12,13] [0] .z (.m [(.normal,⟨[(13, .s K3 [])],[.r K0]⟩)] [0,2,3,4,10,11,12] [] (.q .z (.q (.q .z (.q .z (.q .z (.q (.b (.l ⟨[(0, .s K1 []),(2, .s K3 []),(3, .s K2 []),(4, .s K2 []),(10, .c (.one (.emp))),(11, .s K5 []),(12, .c (.one (.ptr 0 0))),(14, .s K19 []),(15, .s K19 []),(16, .s K19 [])],[.n]⟩ ⟨[(1, .s K19 []),(13, .s K3 [])],[.r K0]⟩ [(.exit 0,⟨[(1, .s K19 []),(13, .s K3 [])],[.r K0]⟩)] (λ (_,_,_,_,_,shift_14,b_15,m_16) k (u_17,i_18,p_19)=>g_istrconv_formatBits_l0 shift_14 b_15 m_16 k u_17 i_18 p_19) .z)) .z)))) (.q .z (.q (.b (.l ⟨[(0, .s K1 []),(2, .s K3 []),(3, .s K2 []),(4, .s K2 []),(10, .c (.one (.emp))),(11, .s K5 []),(12, .c (.one (.ptr 0 0))),(17, .s K19 [])],[.n]⟩ ⟨[(1, .s K19 []),(13, .s K3 [])],[.r K0]⟩ [(.exit 2,⟨[(1, .s K19 []),(13, .s K3 [])],[.r K0]⟩)] (λ (_,_,_,_,_,b_31) k (u_32,i_33,p_34)=>g_istrconv_formatBits_l1 b_31 k u_32 i_33 p_34) .z)) .z)))) (.m [(.normal,⟨[(13, .s K3 [])],[.r K0]⟩)] [0,3,4,10,11,12] [] .z .z))))))
theorem ke_istrconv_formatBits:CK [e_istrconv_isPowerOfTwo,e_math_bits_TrailingZeros] 0 ane_istrconv_formatBits Tryz.f148 e_istrconv_formatBits:=⟨⟨trivial,⟨⟨trivial,trivial⟩,⟨trivial,⟨trivial,⟨trivial,⟨⟨trivial,⟨⟨trivial,⟨trivial,⟨trivial,⟨⟨λ _ _=>rfl,λ _ _ _ _=>by kernel_rfl,trivial⟩,trivial⟩⟩⟩⟩,⟨trivial,⟨⟨λ _ _=>rfl,λ _ _ _ _=>by kernel_rfl,trivial⟩,trivial⟩⟩⟩⟩,⟨trivial,trivial⟩⟩⟩⟩⟩⟩⟩,λ _=>by kernel_rfl⟩
noncomputable def ane_istrconv_FormatUint:An:=.z
theorem ke_istrconv_FormatUint:CK [e_istrconv_small,e_istrconv_numDigits,e_istrconv_formatBits] 0 ane_istrconv_FormatUint Tryz.f111 e_istrconv_FormatUint:=⟨trivial,λ _=>by kernel_rfl⟩
noncomputable def ane_strconv_FormatUint:An:=.z
theorem ke_strconv_FormatUint:CK [e_istrconv_FormatUint] 0 ane_strconv_FormatUint Tryz.f69 e_strconv_FormatUint:=⟨trivial,λ _=>by kernel_rfl⟩
noncomputable def ane_impl_HexText:An:=.z
theorem ke_impl_HexText:CK [e_strconv_FormatUint] 0 ane_impl_HexText Tryz.f34 e_impl_HexText:=⟨trivial,λ _=>by kernel_rfl⟩
theorem fe_strconv_Itoa:ConOk Tryz.prog e_strconv_Itoa:=itoa_ok (g:=0) itoaLays rfl (by kernel_rfl) (by rw[glob_0,show gtPow10=Go.Lib.pow10Tab from by kernel_rfl])
noncomputable def ane_impl_DecText:An:=.z
theorem ke_impl_DecText:CK [e_strconv_Itoa] 0 ane_impl_DecText Tryz.f33 e_impl_DecText:=⟨trivial,λ _=>by kernel_rfl⟩
noncomputable def ane_impl_digits:An:=.z
theorem ke_impl_digits:CK [e_impl_HexText,e_impl_DecText] 0 ane_impl_digits Tryz.f105 e_impl_digits:=⟨trivial,λ _=>by kernel_rfl⟩
end Go.Proofs.YtgfamepnkhpemaaGreatDoor
namespace Go.Proofs.YtgfamepnkhpemaaGreatDoor
open Go Go.Fm
set_option maxRecDepth 1000000
noncomputable def ane_impl_mark:An:=.z
theorem ke_impl_mark:CK [] 0 ane_impl_mark Tryz.f106 e_impl_mark:=⟨trivial,λ _=>by kernel_rfl⟩
noncomputable def ane_impl_ItemText:An:=.z
theorem ke_impl_ItemText:CK [e_impl_ItemOk,e_impl_HexText,e_impl_digits,e_impl_mark] 0 ane_impl_ItemText Tryz.f61 e_impl_ItemText:=⟨trivial,λ _=>by kernel_rfl⟩
theorem fe_strings_Join:ConOk Tryz.prog e_strings_Join:=joinS_ok joinLays joinX rfl
noncomputable def ane_impl_PlanText:An:=.q .z (.q .z (.m [(.normal,⟨[(3, .s K10 [(0,1)])],[.d, .o]⟩),(.ret,⟨[(2, .s K5 [])],[.d]⟩)] [0] [] (.q .z (.b (.l ⟨[(0, .s K14 []),(7, .s K14 []),(8, .s K3 [])],[.n, .n]⟩ ⟨[(3, .s K10 [(0,1)]),(9, .s K3 [])],[.d, .o]⟩ [(.exit 0,⟨[(3, .s K10 [(0,1)])],[.d, .o]⟩),(.ret,⟨[(2, .s K5 [])],[.d, .d]⟩)] (λ (_,v_5,v_6) k (parts_7,v_8)=>g_impl_PlanText_l0 v_5 v_6 k parts_7 v_8) (.q .z (.q .z (.m [(.normal,⟨[(3, .s K10 [(0,2)])],[.d, .d, .o]⟩),(.ret,⟨[(2, .s K5 [])],[.d, .d]⟩)] [9] [] (.b (.q .z (.b (.q .z (.q .z (.q .z (.q .z (.q .z (.q .z (.m [(.normal,⟨[(34, .s K2 [])],[.d, .f, .f]⟩)] [3,5] [1,2] .z .z)))))))))) .z)))))) .z))
theorem ke_impl_PlanText:CK [e_impl_ItemOk,e_impl_ItemText,e_strings_Join] 0 ane_impl_PlanText Tryz.f25 e_impl_PlanText:=⟨⟨trivial,⟨trivial,⟨⟨trivial,⟨λ _ _=>rfl,λ _ _ _ _=>by kernel_rfl,⟨trivial,⟨trivial,⟨⟨trivial,⟨trivial,⟨trivial,⟨trivial,⟨trivial,⟨trivial,⟨trivial,⟨trivial,trivial⟩⟩⟩⟩⟩⟩⟩⟩,trivial⟩⟩⟩⟩⟩,trivial⟩⟩⟩,λ _=>by kernel_rfl⟩
noncomputable def ane_laws_FnPlan:An:=.q .z (.q .z (.q .z (.q .z (.q .z (.q .z (.q .z (.q .z (.q (.m [(.normal,⟨[(60, .s K2 [])],[.f, .f, .f, .d, .d, .d, .d, .f, .f, .f, .f]⟩)] [2,3,4,5,9,10] [0,1,2,7,8,9,10] .z .z) (.q .z (.m [(.normal,⟨[(11, .s K3 [])],[.f, .f, .f, .d, .d, .d, .d, .f, .f, .f, .f]⟩)] [2,3,4,5,9] [0,1,2,7,8,9,10] (.q .z (.b (.l ⟨[(2, .s K2 []),(3, .s K12 [(0,0)]),(4, .s K12 [(0,1)]),(5, .s K14 [(0,2)]),(9, .c (.one (.ptr 10 0)))],[.o, .o, .o, .n, .n, .n, .n, .o, .o, .o, .v K17 [(0,7),(1,8),(2,9)]]⟩ ⟨[(11, .s K3 []),(12, .s K3 [])],[.f, .f, .f, .d, .d, .d, .d, .f, .f, .f, .f]⟩ [(.exit 0,⟨[(11, .s K3 [])],[.f, .f, .f, .d, .d, .d, .d, .f, .f, .f, .f]⟩)] (λ (_,_,_,keys_18,_) k (puts_20,i_21)=>g_laws_FnPlan_l0 keys_18 k puts_20 i_21) (.q .z (.m [(.normal,⟨[(11, .s K3 [])],[.f, .f, .f, .d, .d, .d, .d, .f, .f, .f, .f]⟩)] [12] [] .z .z))))) .z))))))))))
theorem ke_laws_FnPlan:CK [e_laws_big,e_spec_DrawPlan,e_impl_Plan,e_spec_Plan,e_impl_OpenEd,e_impl_PressAll,e_impl_EdCells,e_laws_padded,e_laws_sameCells,e_impl_ParseCells,e_impl_Common,e_impl_PlanText] 0 ane_laws_FnPlan Tryz.f5 e_laws_FnPlan:=⟨⟨trivial,⟨trivial,⟨trivial,⟨trivial,⟨trivial,⟨trivial,⟨trivial,⟨trivial,⟨⟨trivial,trivial⟩,⟨trivial,⟨⟨trivial,⟨λ _ _=>rfl,λ _ _ _ _=>by kernel_rfl,⟨trivial,⟨trivial,trivial⟩⟩⟩⟩,trivial⟩⟩⟩⟩⟩⟩⟩⟩⟩⟩⟩,λ _=>by kernel_rfl⟩
end Go.Proofs.YtgfamepnkhpemaaGreatDoor
namespace Go.Proofs.YtgfamepnkhpemaaGreatDoor
open Go Go.Fm
set_option maxRecDepth 1000000
theorem item_cs (x:GItem):GItem.cs x=[.int .i64 x.Kind, .str x.Name, .int .i32 x.N, .bool x.Hex, .int .u32 x.Raw]:=by
 cases x;rfl
theorem tl0_1 (xs:List GItem):winC 0 xs.length 5 (xs.flatMap GItem.cs)=xs.flatMap GItem.cs:=fWin (show EncOk GItem.cs 5 from encOk K8) rfl
theorem tl0_2 {h:Nat->HS} {π:List Nat} {f:Nat} (xs:List GItem):lendAll (lendC h π f) (xs.flatMap GItem.cs)=some ([],xs.flatMap GItem.cs):=fLend (show EncOk GItem.cs 5 from encOk K8) xs
theorem tl0_3 (xs:List GItem):riAll (xs.flatMap GItem.cs)=true:=fRi (show EncOk GItem.cs 5 from encOk K8) xs
theorem tl0_4 {σ:Nat->Nat} {b:Bool} (xs:List GItem):(xs.flatMap GItem.cs).map (backC σ b)=xs.flatMap GItem.cs:=fBackB (λ _=>rfl) xs
theorem tl1_1 (xs:List Int):winC 0 xs.length 1 (xs.flatMap (eI .i64))=xs.flatMap (eI .i64):=fWin (eI_ok .i64) rfl
theorem tl1_2 {h:Nat->HS} {π:List Nat} {f:Nat} (xs:List Int):lendAll (lendC h π f) (xs.flatMap (eI .i64))=some ([],xs.flatMap (eI .i64)):=fLend (eI_ok .i64) xs
theorem tl1_3 (xs:List Int):riAll (xs.flatMap (eI .i64))=true:=fRi (eI_ok .i64) xs
theorem tl1_4 {σ:Nat->Nat} {b:Bool} (xs:List Int):(xs.flatMap (eI .i64)).map (backC σ b)=xs.flatMap (eI .i64):=fBackB (λ _=>rfl) xs
theorem tl2_1 (xs:List (List Int)):winC 0 xs.length 1 (xs.flatMap (eL (eI .i64) 1))=xs.flatMap (eL (eI .i64) 1):=fWin (eL_ok (eI .i64) 1) rfl
theorem tl2_2 {h:Nat->HS} {π:List Nat} {f:Nat} (xs:List (List Int)):lendAll (lendC h π f) (xs.flatMap (eL (eI .i64) 1))=some ([],xs.flatMap (eL (eI .i64) 1)):=fLend (eL_ok (eI .i64) 1) xs
theorem tl2_3 (xs:List (List Int)):riAll (xs.flatMap (eL (eI .i64) 1))=true:=fRi (eL_ok (eI .i64) 1) xs
theorem tl2_4 {σ:Nat->Nat} (xs:List (List Int)):(xs.flatMap (eL (eI .i64) 1)).map (backC σ true)=xs.flatMap (eL (eI .i64) 1):=fBack (eL_ok (eI .i64) 1) xs
def TL:=an @tl0_1 <| an @tl0_2 <| an @tl0_3 <| an @tl1_1 <| an @tl1_2 <| an @tl1_3 <| an @tl2_1 <| an @tl2_2 <| @tl2_3
def TT:=an @TryzT_0 <| an @TryzT_1 <| an @TryzT_3 <| an @TryzT_4 <| an @TryzT_9 <| an @TryzT_21 <| an @TryzT_25 <| an @TryzT_48 <| an @TryzT_50 <| an @TryzT_61 <| an @TryzT_85 <| an @item_cs <| an @tl0_1 <| an @tl0_4 <| an @tl1_1 <| an @tl1_4 <| an @tl2_1 <| @tl2_4
def UP:=an @MY <| an @MU <| an @MB <| an @MC <| @TT
def WL:=an @MY <| an @MX <| an @ML <| an @TL <| @TT
def DN:=an @MD <| an @actH.eq_1 <| an @actH.eq_2 <| an @actH.eq_3 <| an @actH.eq_4 <| an @actH.eq_5 <| an @actH.eq_6 <| an @actH.eq_7 <| an @actH.eq_8 <| an @actH.eq_9 <| an @actH.eq_10 <| an @actH.eq_11 <| an @actH.eq_12 <| an @actH.eq_13 <| an @actH.eq_14 <| an @actH.eq_15 <| an @actH.eq_16 <| an @actH.eq_17 <| an @actH.eq_18 <| an @actH.eq_19 <| an @actH.eq_20 <| an @actH.eq_21 <| an @actH.eq_22 <| an @actH.eq_23 <| an @builtinH.eq_1 <| an @builtinH.eq_2 <| an @builtinH.eq_3 <| an @builtinG.eq_1 <| an @builtinG.eq_2 <| an @builtinG.eq_3 <| an @builtinFT.eq_1 <| an @builtinFT.eq_4 <| an @builtinFT.eq_5 <| an @builtinFT.eq_6 <| an @builtinFT.eq_7 <| an @builtinFT.eq_8 <| @b_cap
open Nat renaming reduceEqDiff->r1,reduceLT->r2,reduceLeDiff->r3,reduceAdd->r4,reduceMul->r5,reduceSub->r6
open Int renaming reduceToNat->r7
theorem wn {k0:Nat} {s s':S} (ks π:List Nat) (h:normS k0 ks π 9 s=some s':=by simp only[WL,r1,r2,r3,r4,r5,r6,r7,reduceCtorEq]):Weak k0 s s':=weak_norm h
theorem l22_max (hM:CO e_spec_l14Max) {x y z:Int} (h:g_spec_l14Max x y=some z):Ans Tryz.prog 90 [.one (.int .i64 x), .one (.int .i64 y)] [] λ v h1=>v=.pv (.one (.int .i64 z))/\h1=[] :=
 (hM (x,y) z (good_pure rfl rfl) h).mono λ v h1 e=>⟨e.1,e.2.1⟩
theorem l22_ans (hM:CO e_spec_l14Max) {a:List GItem} {b:List GItem} {r:List (List Int)} (h:g_spec_l22Table a b=some r):Ans Tryz.prog 53 [.one (.imm 5 a.length (a.flatMap GItem.cs)), .one (.imm 5 b.length (b.flatMap GItem.cs))] [] λ v h1=>v=.pv (.one (.imm 1 r.length (r.flatMap (eL (eI .i64) 1))))/\h1=[]:=by
 refine ansK (P:=λ _=>Tryz.prog) TryzT_eq (fn:=Tryz.f53) Tryz.func53 rfl ⟨by kernel_rfl,rfl,rfl,by kernel_rfl⟩ (by simp) (Weak.refl _ _) ?_
 rw[g_spec_l22Table]at h
 obtain ⟨rows,hrows,h⟩:=bS h
 have f1:=(show bldN 0=0 from rfl)
 have f2:=(show bldC []=[] from rfl)
 simp only[↓DN,UP,r1,r2,r3,r4,r5,r6,r7,reduceCtorEq,Tryz.f53,f1,f2]
 refine seqK TryzT_eq (λ p:List HS×Nat×List Nat=>⟨[(0, .pv (.one (.imm 5 a.length (a.flatMap GItem.cs)))),(1, .pv (.one (.imm 5 b.length (b.flatMap GItem.cs)))),(5, .pv (.one (.arr p.2.1 0 p.2.2.length)))],p.1⟩) (λ p=>TabInv p.1 p.2.1 p.2.2 rows (IntKind.wrap .i64 ((b.length:Int)+1)).toNat) (by rfl) ?_ ?_
 ·simp only[↓DN,UP,r1,r2,r3,r4,r5,r6,r7,reduceCtorEq,Tryz.f53]
  refine loopK TryzT_eq (λ p:List HS×Nat×List Nat×List (List Int)×Int=>⟨[(0, .pv (.one (.imm 5 a.length (a.flatMap GItem.cs)))),(1, .pv (.one (.imm 5 b.length (b.flatMap GItem.cs)))),(5, .pv (.one (.arr p.2.1 0 p.2.2.1.length))),(6, .pv (.one (.int .i64 p.2.2.2.2)))],p.1⟩)
   (λ k p=>TabInv p.1 p.2.1 p.2.2.1 p.2.2.2.1 (IntKind.wrap .i64 ((b.length:Int)+1)).toNat/\g_spec_l22Table_l0 a b k p.2.2.2.1 p.2.2.2.2=some rows) (by kernel_rfl) bigK ([.live ⟨1,0,[]⟩],0,[],[],0) (wn [0,1,5,6] [0]) ⟨tab_nil _,hrows⟩ (λ p hp=>nomatch (show none=some _ from hp.2)) ?_
  rintro k ⟨H,o,ids,rs,i⟩ ⟨I,hk⟩
  rw[g_spec_l22Table_l0]at hk
  dsimp only at I hk ⊢
  refine seqN TryzT_eq rfl ?_
  simp only[↓DN,UP,r1,r2,r3,r4,r5,r6,r7,reduceCtorEq,Tryz.f53]
  refine stIf hk (λ hb hk => ?_) (λ hb hk => ?_)
  ·simp only[↓DN,UP,r1,r2,r3,r4,r5,r6,r7,reduceCtorEq,Tryz.f53]
   obtain ⟨z,hz,hk⟩:=bS hk
   obtain ⟨rs',hrs',hk⟩:=bS hk
   have hlo:=I.lto
   have hzl:=mk_len hz
   have g1:=fMk hz
   have g2:=fMkC (e:=eI .i64) (ns:=[.int .i64 0]) hz rfl
   rw[hzl]at g1 g2
   have g3:(o=H.length)=False:=eq_false (by omega)
   have g4:(o=H.length+1)=False:=eq_false (by omega)
   have g5:(H.length=H.length+1)=False:=eq_false (by omega)
   have g6:(H.length+1=H.length)=False:=eq_false (by omega)
   have g7:=fApp hrs' (n:=ids.length) I.len.symm (m:=1) rfl
   have g8:=I.ho
   refine seqN TryzT_eq rfl ?_
   simp only[↓DN,UP,r1,r2,r3,r4,r5,r6,r7,reduceCtorEq,Tryz.f53,g1,g2,g3,g4,g5,g6,g7,g8,bldC_id,bldN_id,setH_end,hOf_setH,winId,winOne]
   obtain ⟨e1,e2⟩:=appSome hrs'
   subst e1
   have hlen:(rs++[z]).length=ids.length+1:=by rw[List.length_append,I.len];rfl
   rw[hlen]
   refine ⟨(_,H.length+2,ids++[H.length],rs++[z],IntKind.wrap .i64 (i+1)),⟨TabInv.app I hzl (by rw[<-hlen];exact e2) (by simp only[setH_len];omega) (by intro j;simp only[hOf_setH];rfl),hk⟩,weak_sub (by simp[lk])⟩
  ·simp only[↓DN,UP,r1,r2,r3,r4,r5,r6,r7,reduceCtorEq,Tryz.f53]
   cases hk
   exact cutT_mk (H,o,ids) I (weak_sub (by simp[lk]))
 ·rintro ⟨H,o,ids⟩ I
  dsimp only at I ⊢
  refine seqK TryzT_eq (λ p:List HS=>⟨[(0, .pv (.one (.imm 5 a.length (a.flatMap GItem.cs)))),(1, .pv (.one (.imm 5 b.length (b.flatMap GItem.cs)))),(5, .pv (.one (.arr o 0 ids.length)))],p⟩) (λ p=>TabInv p o ids r (IntKind.wrap .i64 ((b.length:Int)+1)).toNat) (by rfl) ?_ ?_
  ·simp only[↓DN,UP,r1,r2,r3,r4,r5,r6,r7,reduceCtorEq,Tryz.f53]
   refine loopK TryzT_eq (λ p:List HS×List (List Int)×Int=>⟨[(0, .pv (.one (.imm 5 a.length (a.flatMap GItem.cs)))),(1, .pv (.one (.imm 5 b.length (b.flatMap GItem.cs)))),(5, .pv (.one (.arr o 0 ids.length))),(7, .pv (.one (.int .i64 p.2.2)))],p.1⟩)
    (λ k p=>TabInv p.1 o ids p.2.1 (IntKind.wrap .i64 ((b.length:Int)+1)).toNat/\g_spec_l22Table_l1 a b k p.2.1 p.2.2=some r) (by kernel_rfl) bigK (H,rows,IntKind.wrap .i64 ((a.length:Int)-1)) (weak_sub (by simp[lk])) ⟨I,h⟩ (λ p hp=>nomatch (show none=some _ from hp.2)) ?_
   rintro k ⟨H,rs,i⟩ ⟨I,hk⟩
   rw[g_spec_l22Table_l1]at hk
   dsimp only at I hk ⊢
   refine seqN TryzT_eq rfl ?_
   simp only[↓DN,UP,r1,r2,r3,r4,r5,r6,r7,reduceCtorEq,Tryz.f53]
   refine stIf hk (λ hb hk => ?_) (λ hb hk => ?_)
   ·simp only[↓DN,UP,r1,r2,r3,r4,r5,r6,r7,reduceCtorEq,Tryz.f53]
    obtain ⟨rs2,hrs2,hk⟩:=bS hk
    refine seqK TryzT_eq (λ p:List HS=>⟨[(0, .pv (.one (.imm 5 a.length (a.flatMap GItem.cs)))),(1, .pv (.one (.imm 5 b.length (b.flatMap GItem.cs)))),(5, .pv (.one (.arr o 0 ids.length))),(7, .pv (.one (.int .i64 i)))],p⟩) (λ p=>TabInv p o ids rs2 (IntKind.wrap .i64 ((b.length:Int)+1)).toNat) (by rfl) ?_ ?_
    ·simp only[↓DN,UP,r1,r2,r3,r4,r5,r6,r7,reduceCtorEq,Tryz.f53]
     refine loopK TryzT_eq (λ p:List HS×List (List Int)×Int=>⟨[(0, .pv (.one (.imm 5 a.length (a.flatMap GItem.cs)))),(1, .pv (.one (.imm 5 b.length (b.flatMap GItem.cs)))),(5, .pv (.one (.arr o 0 ids.length))),(7, .pv (.one (.int .i64 i))),(8, .pv (.one (.int .i64 p.2.2)))],p.1⟩)
      (λ k p=>TabInv p.1 o ids p.2.1 (IntKind.wrap .i64 ((b.length:Int)+1)).toNat/\g_spec_l22Table_l2 a b i k p.2.1 p.2.2=some rs2) (by kernel_rfl) bigK (H,rs,IntKind.wrap .i64 ((b.length:Int)-1)) (weak_sub (by simp[lk])) ⟨I,hrs2⟩ (λ p hp=>nomatch (show none=some _ from hp.2)) ?_
     clear hrs2 hk I
     rintro k ⟨H,rs,k1⟩ ⟨I,hk⟩
     rw[g_spec_l22Table_l2]at hk
     dsimp only at I hk ⊢
     refine seqN TryzT_eq rfl ?_
     simp only[↓DN,UP,r1,r2,r3,r4,r5,r6,r7,reduceCtorEq,Tryz.f53]
     refine stIf hk (λ hb hk => ?_) (λ hb hk => ?_)
     ·simp only[↓DN,UP,r1,r2,r3,r4,r5,r6,r7,reduceCtorEq,Tryz.f53]
      obtain ⟨rs3,hrs3,hk⟩:=bS hk
      refine seqK TryzT_eq (λ p:List HS=>⟨[(0, .pv (.one (.imm 5 a.length (a.flatMap GItem.cs)))),(1, .pv (.one (.imm 5 b.length (b.flatMap GItem.cs)))),(5, .pv (.one (.arr o 0 ids.length))),(7, .pv (.one (.int .i64 i))),(8, .pv (.one (.int .i64 k1)))],p⟩) (λ p=>TabInv p o ids rs3 (IntKind.wrap .i64 ((b.length:Int)+1)).toNat) (by rfl) ?_ ?_
      ·rw[g_spec_l22Table_s]at hrs3
       obtain ⟨ra,hrw,hrs3⟩:=bS hrs3
       obtain ⟨rx,hrx,hrs3⟩:=bS hrs3
       obtain ⟨x,hx,hrs3⟩:=bS hrs3
       obtain ⟨y,hy,hrs3⟩:=bS hrs3
       obtain ⟨z,hz,hrs3⟩:=bS hrs3
       obtain ⟨w,hw,hrs3⟩:=bS hrs3
       obtain ⟨p,hp,hrs3⟩:=bS hrs3
       obtain ⟨q,hq,hrs3⟩:=bS hrs3
       obtain ⟨id0,e1,e2,e3,e4,e5⟩:=I.get hrw
       obtain ⟨id1,d1,d2,d3,d4,d5⟩:=I.get hrx
       have hlo:=I.ho
       have l0:=(I.row _ _ _ e1 e2).2
       have l1:=(I.row _ _ _ d1 d2).2
       have g1:=row_get hx l1
       have g2:=row_get hy l0
       have g3:=row_get hw l0
       simp only[↓DN,UP,r1,r2,r3,r4,r5,r6,r7,reduceCtorEq,Tryz.f53,hlo,e3,e4,e5,d3,d4,d5,g1.1,g1.2,g2.1,g2.2,g3.1,g3.2]
       refine callE [] (rd1:=[]) (rd2:=[]) 9 rfl rfl rfl rfl (l22_max hM hz) rfl ?_
       have u1:=row_put hw z
       simp only[↓DN,UP,r1,r2,r3,r4,r5,r6,r7,reduceCtorEq,Tryz.f53,hlo,e3,e4,e5,d3,d4,d5,g1.1,g1.2,g2.1,g2.2,g3.1,g3.2,u1]
       refine ⟨draw_flat (by kernel_rfl),?_⟩
       have I1:=I.set e1 e2 (r':=ra.set k1.toNat z) (by rw[List.length_set])
       have q1:=fAt (show EncOk GItem.cs 5 from encOk K8) hp (n:=a.length) (by simp)
       have q2:=fAt (show EncOk GItem.cs 5 from encOk K8) hq (n:=b.length) (by simp)
       generalize setH H id0 _=H1 at I1 ⊢
       try simp only[↓DN,UP,r1,r2,r3,r4,r5,r6,r7,reduceCtorEq,Tryz.f53,q1,q2]
       refine ⟨rfl,?_⟩
       refine stIf hrs3 (λ hb hrs3 => ?_) (λ hb hrs3 => ?_)
       ·obtain ⟨v,hv,hrs3⟩:=bS hrs3
        obtain ⟨v2,hv2,hrs3⟩:=bS hrs3
        obtain rfl:=Option.some.inj hrs3
        have hne:=I.ne hrw
        have c0:=I1.ho
        obtain ⟨c1,c2⟩:=I1.row _ _ (ra.set k1.toNat z) e1 (by rw[List.getElem?_set_self (List.getElem?_eq_some_iff.1 e2).1])
        obtain ⟨c3,c4⟩:=I1.row _ _ rx d1 (by rw[List.getElem?_set_ne (Ne.symm hne)];exact d2)
        have g4:=row_get hv c4
        have g5:=row_get hv2 c2
        have u2:=row_put hv2 (IntKind.wrap .i64 (v+1))
        try simp only[↓DN,UP,r1,r2,r3,r4,r5,r6,r7,reduceCtorEq,Tryz.f53,c0,c1,c3,e4,e5,d4,d5,g4.1,g4.2,g5.1,g5.2,u2]
        refine ⟨draw_flat (by kernel_rfl),?_⟩
        try simp only[↓DN,UP,r1,r2,r3,r4,r5,r6,r7,reduceCtorEq,Tryz.f53]
        have I2:=I1.set (r':=(ra.set k1.toNat z).set k1.toNat (IntKind.wrap .i64 (v+1))) e1 (by rw[List.getElem?_set_self (List.getElem?_eq_some_iff.1 e2).1]) (by rw[List.length_set])
        rw[show ∀ Y,(rs.set i.toNat (ra.set k1.toNat z)).set i.toNat Y=rs.set i.toNat Y from λ Y=>List.set_set _]at I2
        exact cutT_mk _ I2 (weak_sub (by simp[lk]))
       ·obtain rfl:=Option.some.inj hrs3
        try simp only[↓DN,UP,r1,r2,r3,r4,r5,r6,r7,reduceCtorEq,Tryz.f53]
        exact cutT_mk H1 I1 (weak_sub (by simp[lk]))
      ·intro H I
       simp only[↓DN,UP,r1,r2,r3,r4,r5,r6,r7,reduceCtorEq,Tryz.f53]
       exact ⟨(H,rs3,IntKind.wrap .i64 (k1-1)),⟨I,hk⟩,weak_sub (by simp[lk])⟩
     ·simp only[↓DN,UP,r1,r2,r3,r4,r5,r6,r7,reduceCtorEq,Tryz.f53]
      cases hk
      exact cutT_mk H I (weak_sub (by simp[lk]))
    ·intro H I
     simp only[↓DN,UP,r1,r2,r3,r4,r5,r6,r7,reduceCtorEq,Tryz.f53]
     exact ⟨(H,rs2,IntKind.wrap .i64 (i-1)),⟨I,hk⟩,weak_sub (by simp[lk])⟩
   ·simp only[↓DN,UP,r1,r2,r3,r4,r5,r6,r7,reduceCtorEq,Tryz.f53]
    cases hk
    exact cutT_mk H I (weak_sub (by simp[lk]))
  ·intro H I
   simp only[↓DN,UP,r1,r2,r3,r4,r5,r6,r7,reduceCtorEq,Tryz.f53]
   exact endT_of I.shut ⟨rfl,rfl⟩
theorem l22_con (hM:CO e_spec_l14Max):CO e_spec_l22Table:=λ a r hG h=>(l22_ans hM (a:=a.1) (b:=a.2) h).mono λ v h1 e=>⟨e.1,e.2,good_pure rfl rfl⟩
end Go.Proofs.YtgfamepnkhpemaaGreatDoor
namespace Go.Proofs.YtgfamepnkhpemaaGreatDoor
open Go Go.Fm
set_option maxRecDepth 1000000
theorem ce_laws_big:CO e_laws_big:=fnc (λ _=>con_nil) Tryz.func11 ke_laws_big (by kernel_rfl) (λ _=>by kernel_rfl) (λ _=>by kernel_rfl) rfl
theorem ce_spec_l01New:CO e_spec_l01New:=fnc (λ _=>con_nil) Tryz.func38 ke_spec_l01New (by kernel_rfl) (λ _=>by kernel_rfl) (λ _=>by kernel_rfl) rfl
theorem ce_spec_l01Byte:CO e_spec_l01Byte:=fnc (λ _=>con_nil) Tryz.func114 ke_spec_l01Byte (by kernel_rfl) (λ _=>by kernel_rfl) (λ _=>by kernel_rfl) rfl
theorem ce_spec_l01Below:CO e_spec_l01Below:=fnc (λ _=>con_cons ce_spec_l01Byte con_nil) Tryz.func74 ke_spec_l01Below (by kernel_rfl) (λ _=>by kernel_rfl) (λ _=>by kernel_rfl) rfl
theorem ce_spec_l01Once:CO e_spec_l01Once:=fnc (λ _=>con_cons ce_spec_l01Below con_nil) Tryz.func40 ke_spec_l01Once (by kernel_rfl) (λ _=>by kernel_rfl) (λ _=>by kernel_rfl) rfl
theorem ce_spec_l01Pick:CO e_spec_l01Pick:=fnc (λ _=>con_cons ce_spec_l01Below con_nil) Tryz.func42 ke_spec_l01Pick (by kernel_rfl) (λ _=>by kernel_rfl) (λ _=>by kernel_rfl) rfl
theorem ce_spec_l13G:CO e_spec_l13G:=fnc (λ _=>con_nil) Tryz.func123 ke_spec_l13G (by kernel_rfl) (λ _=>by kernel_rfl) (λ _=>by kernel_rfl) rfl
theorem ce_spec_l13N:CO e_spec_l13N:=fnc (λ _=>con_nil) Tryz.func124 ke_spec_l13N (by kernel_rfl) (λ _=>by kernel_rfl) (λ _=>by kernel_rfl) rfl
theorem ce_spec_l13Y:CO e_spec_l13Y:=fnc (λ _=>con_nil) Tryz.func125 ke_spec_l13Y (by kernel_rfl) (λ _=>by kernel_rfl) (λ _=>by kernel_rfl) rfl
theorem ce_spec_l08Names:CO e_spec_l08Names:=fnc (λ _=>con_nil) Tryz.func157 ke_spec_l08Names (by kernel_rfl) (λ _=>by kernel_rfl) (λ _=>by kernel_rfl) rfl
theorem ce_spec_l01In:CO e_spec_l01In:=fnc (λ _=>con_nil) Tryz.func143 ke_spec_l01In (by kernel_rfl) (λ _=>by kernel_rfl) (λ _=>by kernel_rfl) rfl
theorem ce_spec_PrimName:CO e_spec_PrimName:=fnc (λ _=>con_cons ce_spec_l08Names (con_cons ce_spec_l01In con_nil)) Tryz.func126 ke_spec_PrimName (by kernel_rfl) (λ _=>by kernel_rfl) (λ _=>by kernel_rfl) rfl
theorem ce_spec_l13Word:CO e_spec_l13Word:=fnc (λ _=>con_cons ce_spec_l01Below (con_cons ce_spec_l13G (con_cons ce_spec_l13N (con_cons ce_spec_l13Y (con_cons ce_spec_l01Pick (con_cons ce_spec_PrimName con_nil)))))) Tryz.func122 ke_spec_l13Word (by kernel_rfl) (λ _=>by kernel_rfl) (λ _=>by kernel_rfl) rfl
theorem ce_spec_l01PickInt:CO e_spec_l01PickInt:=fnc (λ _=>con_cons ce_spec_l01Below con_nil) Tryz.func41 ke_spec_l01PickInt (by kernel_rfl) (λ _=>by kernel_rfl) (λ _=>by kernel_rfl) rfl
theorem ce_spec_l04Int:CO e_spec_l04Int:=fnc (λ _=>con_cons ce_spec_l01Once (con_cons ce_spec_l01Below (con_cons ce_spec_l01PickInt con_nil))) Tryz.func115 ke_spec_l04Int (by kernel_rfl) (λ _=>by kernel_rfl) (λ _=>by kernel_rfl) rfl
theorem ce_spec_l02All:CO e_spec_l02All:=fnc (λ _=>con_nil) Tryz.func176 ke_spec_l02All (by kernel_rfl) (λ _=>by kernel_rfl) (λ _=>by kernel_rfl) rfl
theorem ce_spec_LetterAt:CO e_spec_LetterAt:=fnc (λ _=>con_cons ce_spec_l01In (con_cons ce_spec_l02All con_nil)) Tryz.func151 ke_spec_LetterAt (by kernel_rfl) (λ _=>by kernel_rfl) (λ _=>by kernel_rfl) rfl
theorem ce_spec_l02Name:CO e_spec_l02Name:=fnc (λ _=>con_cons ce_spec_l01Once (con_cons ce_spec_l01Pick (con_cons ce_spec_l01Below (con_cons ce_spec_LetterAt con_nil)))) Tryz.func116 ke_spec_l02Name (by kernel_rfl) (λ _=>by kernel_rfl) (λ _=>by kernel_rfl) rfl
theorem ce_spec_l04Some:CO e_spec_l04Some:=fnc (λ _=>con_cons ce_spec_l01Below (con_cons ce_spec_l04Int (con_cons ce_spec_l01Once (con_cons ce_spec_l01Pick (con_cons ce_spec_l02Name con_nil))))) Tryz.func75 ke_spec_l04Some (by kernel_rfl) (λ _=>by kernel_rfl) (λ _=>by kernel_rfl) rfl
theorem ce_spec_l01Word:CO e_spec_l01Word:=fnc (λ _=>con_cons ce_spec_l01Below (con_cons ce_spec_l01PickInt con_nil)) Tryz.func117 ke_spec_l01Word (by kernel_rfl) (λ _=>by kernel_rfl) (λ _=>by kernel_rfl) rfl
theorem ce_spec_l04Any:CO e_spec_l04Any:=fnc (λ _=>con_cons ce_spec_l04Some (con_cons ce_spec_l01Below (con_cons ce_spec_l01Word (con_cons ce_spec_l01Pick con_nil)))) Tryz.func76 ke_spec_l04Any (by kernel_rfl) (λ _=>by kernel_rfl) (λ _=>by kernel_rfl) rfl
theorem ce_spec_l13List:CO e_spec_l13List:=fnc (λ _=>con_cons ce_spec_l01Below (con_cons ce_spec_l01Once (con_cons ce_spec_l01Pick (con_cons ce_spec_l13Word (con_cons ce_spec_l13G (con_cons ce_spec_l13N (con_cons ce_spec_l13Y (con_cons ce_spec_l04Any (con_cons ce_spec_PrimName con_nil))))))))) Tryz.func82 ke_spec_l13List (by kernel_rfl) (λ _=>by kernel_rfl) (λ _=>by kernel_rfl) rfl
theorem ce_spec_l04List:CO e_spec_l04List:=fnc (λ _=>con_cons ce_spec_l01Below (con_cons ce_spec_l04Some (con_cons ce_spec_l01Once (con_cons ce_spec_l04Any con_nil)))) Tryz.func39 ke_spec_l04List (by kernel_rfl) (λ _=>by kernel_rfl) (λ _=>by kernel_rfl) rfl
theorem ce_spec_l04Num:CO e_spec_l04Num:=fnc (λ _=>con_nil) Tryz.func158 ke_spec_l04Num (by kernel_rfl) (λ _=>by kernel_rfl) (λ _=>by kernel_rfl) rfl
theorem ce_spec_LetterOf:CO e_spec_LetterOf:=fnc (λ _=>con_cons ce_spec_l02All con_nil) Tryz.func195 ke_spec_LetterOf (by kernel_rfl) (λ _=>by kernel_rfl) (λ _=>by kernel_rfl) rfl
theorem ce_spec_NameOk:CO e_spec_NameOk:=fnc (λ _=>con_cons ce_spec_l01In (con_cons ce_spec_LetterOf con_nil)) Tryz.func184 ke_spec_NameOk (by kernel_rfl) (λ _=>by kernel_rfl) (λ _=>by kernel_rfl) rfl
theorem ce_spec_WidthOf:CO e_spec_WidthOf:=fnc (λ _=>con_cons ce_spec_l01In con_nil) Tryz.func187 ke_spec_WidthOf (by kernel_rfl) (λ _=>by kernel_rfl) (λ _=>by kernel_rfl) rfl
theorem ce_spec_BitsOf:CO e_spec_BitsOf:=fnc (λ _=>con_cons ce_spec_WidthOf con_nil) Tryz.func188 ke_spec_BitsOf (by kernel_rfl) (λ _=>by kernel_rfl) (λ _=>by kernel_rfl) rfl
theorem ce_spec_l03One:CO e_spec_l03One:=fnc (λ _=>con_cons ce_spec_LetterOf (con_cons ce_spec_WidthOf (con_cons ce_spec_BitsOf con_nil))) Tryz.func186 ke_spec_l03One (by kernel_rfl) (λ _=>by kernel_rfl) (λ _=>by kernel_rfl) rfl
theorem ce_spec_Pack:CO e_spec_Pack:=fnc (λ _=>con_cons ce_spec_NameOk (con_cons ce_spec_l03One con_nil)) Tryz.func162 ke_spec_Pack (by kernel_rfl) (λ _=>by kernel_rfl) (λ _=>by kernel_rfl) rfl
theorem ce_spec_l04Word:CO e_spec_l04Word:=fnc (λ _=>con_cons ce_spec_Pack con_nil) Tryz.func159 ke_spec_l04Word (by kernel_rfl) (λ _=>by kernel_rfl) (λ _=>by kernel_rfl) rfl
theorem ce_spec_l04Tag:CO e_spec_l04Tag:=fnc (λ _=>con_nil) Tryz.func160 ke_spec_l04Tag (by kernel_rfl) (λ _=>by kernel_rfl) (λ _=>by kernel_rfl) rfl
theorem ce_spec_CellsOf:CO e_spec_CellsOf:=fnc (λ _=>con_cons ce_spec_l04Num (con_cons ce_spec_l04Word (con_cons ce_spec_l04Tag con_nil))) Tryz.func127 ke_spec_CellsOf (by kernel_rfl) (λ _=>by kernel_rfl) (λ _=>by kernel_rfl) rfl
theorem ce_spec_Unparse:CO e_spec_Unparse:=fnc (λ _=>con_cons ce_spec_CellsOf con_nil) Tryz.func83 ke_spec_Unparse (by kernel_rfl) (λ _=>by kernel_rfl) (λ _=>by kernel_rfl) rfl
theorem ce_spec_l22Twin:CO e_spec_l22Twin:=fnc (λ _=>con_cons ce_spec_l01Below (con_cons ce_spec_l04Some con_nil)) Tryz.func84 ke_spec_l22Twin (by kernel_rfl) (λ _=>by kernel_rfl) (λ _=>by kernel_rfl) rfl
theorem ce_spec_l04Cells:CO e_spec_l04Cells:=fnc (λ _=>con_cons ce_spec_l01Below (con_cons ce_spec_l04Some (con_cons ce_spec_CellsOf (con_cons ce_spec_l01Word (con_cons ce_spec_l01PickInt (con_cons ce_spec_l01Once con_nil)))))) Tryz.func85 ke_spec_l04Cells (by kernel_rfl) (λ _=>by kernel_rfl) (λ _=>by kernel_rfl) rfl
theorem ce_spec_l22Pair:CO e_spec_l22Pair:=fnc (λ _=>con_cons ce_spec_l13List (con_cons ce_spec_l01Once (con_cons ce_spec_l04List (con_cons ce_spec_Unparse (con_cons ce_spec_l22Twin (con_cons ce_spec_l04Cells con_nil)))))) Tryz.func47 ke_spec_l22Pair (by kernel_rfl) (λ _=>by kernel_rfl) (λ _=>by kernel_rfl) rfl
theorem ce_spec_DrawPlan:CO e_spec_DrawPlan:=fnc (λ _=>con_cons ce_spec_l01New (con_cons ce_spec_l22Pair con_nil)) Tryz.func15 ke_spec_DrawPlan (by kernel_rfl) (λ _=>by kernel_rfl) (λ _=>by kernel_rfl) rfl
theorem ce_impl_within:CO e_impl_within:=fnc (λ _=>con_nil) Tryz.func166 ke_impl_within (by kernel_rfl) (λ _=>by kernel_rfl) (λ _=>by kernel_rfl) rfl
theorem ce_impl_WidthOf:CO e_impl_WidthOf:=fnc (λ _=>con_cons ce_impl_within con_nil) Tryz.func167 ke_impl_WidthOf (by kernel_rfl) (λ _=>by kernel_rfl) (λ _=>by kernel_rfl) rfl
theorem ce_impl_BitsOf:CO e_impl_BitsOf:=fnc (λ _=>con_cons ce_impl_WidthOf con_nil) Tryz.func168 ke_impl_BitsOf (by kernel_rfl) (λ _=>by kernel_rfl) (λ _=>by kernel_rfl) rfl
theorem ce_impl_Decode:CO e_impl_Decode:=fnc (λ _=>con_cons ce_impl_within (con_cons ce_impl_WidthOf (con_cons ce_impl_BitsOf con_nil))) Tryz.func138 ke_impl_Decode (by kernel_rfl) (λ _=>by kernel_rfl) (λ _=>by kernel_rfl) rfl
theorem ce_impl_letters:CO e_impl_letters:=fnc (λ _=>con_nil) Tryz.func169 ke_impl_letters (by kernel_rfl) (λ _=>by kernel_rfl) (λ _=>by kernel_rfl) rfl
theorem ce_impl_LetterAt:CO e_impl_LetterAt:=fnc (λ _=>con_cons ce_impl_within (con_cons ce_impl_letters con_nil)) Tryz.func139 ke_impl_LetterAt (by kernel_rfl) (λ _=>by kernel_rfl) (λ _=>by kernel_rfl) rfl
theorem ce_impl_UnpackOne:CO e_impl_UnpackOne:=fnc (λ _=>con_cons ce_impl_Decode (con_cons ce_impl_LetterAt con_nil)) Tryz.func101 ke_impl_UnpackOne (by kernel_rfl) (λ _=>by kernel_rfl) (λ _=>by kernel_rfl) rfl
theorem ce_ibytealg_IndexByteString:ConOk Tryz.prog e_ibytealg_IndexByteString:=fe_ibytealg_IndexByteString
theorem ce_istringslite_IndexByte:CO e_istringslite_IndexByte:=fnc (λ _=>con_cons ce_ibytealg_IndexByteString con_nil) Tryz.func118 ke_istringslite_IndexByte (by kernel_rfl) (λ _=>by kernel_rfl) (λ _=>by kernel_rfl) rfl
theorem ce_strings_IndexByte:CO e_strings_IndexByte:=fnc (λ _=>con_cons ce_istringslite_IndexByte con_nil) Tryz.func78 ke_strings_IndexByte (by kernel_rfl) (λ _=>by kernel_rfl) (λ _=>by kernel_rfl) rfl
theorem ce_impl_LetterOf:CO e_impl_LetterOf:=fnc (λ _=>con_cons ce_impl_letters (con_cons ce_strings_IndexByte con_nil)) Tryz.func165 ke_impl_LetterOf (by kernel_rfl) (λ _=>by kernel_rfl) (λ _=>by kernel_rfl) rfl
theorem ce_impl_NameOk:CO e_impl_NameOk:=fnc (λ _=>con_cons ce_impl_LetterOf (con_cons ce_impl_within con_nil)) Tryz.func137 ke_impl_NameOk (by kernel_rfl) (λ _=>by kernel_rfl) (λ _=>by kernel_rfl) rfl
theorem ce_impl_PackOne:CO e_impl_PackOne:=fnc (λ _=>con_cons ce_impl_NameOk (con_cons ce_impl_LetterOf (con_cons ce_impl_WidthOf (con_cons ce_impl_BitsOf con_nil)))) Tryz.func140 ke_impl_PackOne (by kernel_rfl) (λ _=>by kernel_rfl) (λ _=>by kernel_rfl) rfl
theorem ce_impl_Pack:CO e_impl_Pack:=fnc (λ _=>con_cons ce_impl_NameOk (con_cons ce_impl_PackOne con_nil)) Tryz.func103 ke_impl_Pack (by kernel_rfl) (λ _=>by kernel_rfl) (λ _=>by kernel_rfl) rfl
theorem ce_slices_Equal_uint32:CO e_slices_Equal_uint32:=fnc (λ _=>con_nil) Tryz.func99 ke_slices_Equal_uint32 (by kernel_rfl) (λ _=>by kernel_rfl) (λ _=>by kernel_rfl) rfl
theorem ce_impl_Unpack:CO e_impl_Unpack:=fnc (λ _=>con_cons ce_impl_UnpackOne (con_cons ce_impl_NameOk (con_cons ce_impl_Pack (con_cons ce_slices_Equal_uint32 con_nil)))) Tryz.func97 ke_impl_Unpack (by kernel_rfl) (λ _=>by kernel_rfl) (λ _=>by kernel_rfl) rfl
theorem ce_impl_nameTag:CO e_impl_nameTag:=fnc (λ _=>con_nil) Tryz.func102 ke_impl_nameTag (by kernel_rfl) (λ _=>by kernel_rfl) (λ _=>by kernel_rfl) rfl
theorem ce_impl_nameKind:CO e_impl_nameKind:=fnc (λ _=>con_cons ce_impl_nameTag con_nil) Tryz.func98 ke_impl_nameKind (by kernel_rfl) (λ _=>by kernel_rfl) (λ _=>by kernel_rfl) rfl
theorem ce_impl_numberCells:CO e_impl_numberCells:=fnc (λ _=>con_nil) Tryz.func104 ke_impl_numberCells (by kernel_rfl) (λ _=>by kernel_rfl) (λ _=>by kernel_rfl) rfl
theorem ce_impl_CellsOf:CO e_impl_CellsOf:=fnc (λ _=>con_cons ce_impl_nameTag (con_cons ce_impl_Pack (con_cons ce_impl_numberCells con_nil))) Tryz.func60 ke_impl_CellsOf (by kernel_rfl) (λ _=>by kernel_rfl) (λ _=>by kernel_rfl) rfl
theorem ce_impl_FieldOk:CO e_impl_FieldOk:=fnc (λ _=>con_cons ce_impl_UnpackOne (con_cons ce_impl_Pack (con_cons ce_slices_Equal_uint32 con_nil))) Tryz.func100 ke_impl_FieldOk (by kernel_rfl) (λ _=>by kernel_rfl) (λ _=>by kernel_rfl) rfl
theorem ce_impl_parseOne:CO e_impl_parseOne:=fnc (λ _=>con_cons ce_impl_Unpack (con_cons ce_impl_nameKind (con_cons ce_impl_CellsOf (con_cons ce_slices_Equal_uint32 (con_cons ce_impl_FieldOk (con_cons ce_impl_UnpackOne con_nil)))))) Tryz.func59 ke_impl_parseOne (by kernel_rfl) (λ _=>by kernel_rfl) (λ _=>by kernel_rfl) rfl
theorem ce_impl_ParseCells:CO e_impl_ParseCells:=fnc (λ _=>con_cons ce_impl_parseOne (con_cons ce_impl_CellsOf con_nil)) Tryz.func23 ke_impl_ParseCells (by kernel_rfl) (λ _=>by kernel_rfl) (λ _=>by kernel_rfl) rfl
theorem ce_impl_hasRawc1:CO e_impl_hasRawc1:=fnc (λ _=>con_nil) Tryz.func87 ke_impl_hasRawc1 (by kernel_rfl) (λ _=>by kernel_rfl) (λ _=>by kernel_rfl) rfl
theorem ce_slices_IndexFunc_Item_impl_hasRawc1:CO e_slices_IndexFunc_Item_impl_hasRawc1:=fnc (λ _=>con_cons ce_impl_hasRawc1 con_nil) Tryz.func128 ke_slices_IndexFunc_Item_impl_hasRawc1 (by kernel_rfl) (λ _=>by kernel_rfl) (λ _=>by kernel_rfl) rfl
theorem ce_slices_ContainsFunc_Item_impl_hasRawc1:CO e_slices_ContainsFunc_Item_impl_hasRawc1:=fnc (λ _=>con_cons ce_slices_IndexFunc_Item_impl_hasRawc1 con_nil) Tryz.func86 ke_slices_ContainsFunc_Item_impl_hasRawc1 (by kernel_rfl) (λ _=>by kernel_rfl) (λ _=>by kernel_rfl) rfl
theorem ce_impl_hasRaw:CO e_impl_hasRaw:=fnc (λ _=>con_cons ce_slices_ContainsFunc_Item_impl_hasRawc1 con_nil) Tryz.func48 ke_impl_hasRaw (by kernel_rfl) (λ _=>by kernel_rfl) (λ _=>by kernel_rfl) rfl
theorem ce_impl_common:CO e_impl_common:=fnc (λ _=>con_nil) Tryz.func49 ke_impl_common (by kernel_rfl) (λ _=>by kernel_rfl) (λ _=>by kernel_rfl) rfl
theorem ce_slices_Grow_Key_emp:CO e_slices_Grow_Key_emp:=fnc (λ _=>con_nil) Tryz.func88 ke_slices_Grow_Key_emp (by kernel_rfl) (λ _=>by kernel_rfl) (λ _=>by kernel_rfl) rfl
theorem ce_slices_Concat_Key:CO e_slices_Concat_Key:=fnc (λ _=>con_cons ce_slices_Grow_Key_emp con_nil) Tryz.func50 ke_slices_Concat_Key (by kernel_rfl) (λ _=>by kernel_rfl) (λ _=>by kernel_rfl) rfl
theorem ce_impl_Plan:CO e_impl_Plan:=fnc (λ _=>con_cons ce_impl_ParseCells (con_cons ce_impl_hasRaw (con_cons ce_impl_common (con_cons ce_slices_Concat_Key con_nil)))) Tryz.func16 ke_impl_Plan (by kernel_rfl) (λ _=>by kernel_rfl) (λ _=>by kernel_rfl) rfl
theorem ce_spec_l04Kind:CO e_spec_l04Kind:=fnc (λ _=>con_cons ce_spec_l04Tag con_nil) Tryz.func129 ke_spec_l04Kind (by kernel_rfl) (λ _=>by kernel_rfl) (λ _=>by kernel_rfl) rfl
theorem ce_spec_Decode:CO e_spec_Decode:=fnc (λ _=>con_cons ce_spec_l01In (con_cons ce_spec_WidthOf (con_cons ce_spec_BitsOf con_nil))) Tryz.func163 ke_spec_Decode (by kernel_rfl) (λ _=>by kernel_rfl) (λ _=>by kernel_rfl) rfl
theorem ce_spec_UnpackOne:CO e_spec_UnpackOne:=fnc (λ _=>con_cons ce_spec_Decode (con_cons ce_spec_LetterAt con_nil)) Tryz.func133 ke_spec_UnpackOne (by kernel_rfl) (λ _=>by kernel_rfl) (λ _=>by kernel_rfl) rfl
theorem ce_spec_l03Same:CO e_spec_l03Same:=fnc (λ _=>con_nil) Tryz.func185 ke_spec_l03Same (by kernel_rfl) (λ _=>by kernel_rfl) (λ _=>by kernel_rfl) rfl
theorem ce_spec_Unpack:CO e_spec_Unpack:=fnc (λ _=>con_cons ce_spec_UnpackOne (con_cons ce_spec_NameOk (con_cons ce_spec_Pack (con_cons ce_spec_l03Same con_nil)))) Tryz.func161 ke_spec_Unpack (by kernel_rfl) (λ _=>by kernel_rfl) (λ _=>by kernel_rfl) rfl
theorem ce_spec_l04Name:CO e_spec_l04Name:=fnc (λ _=>con_cons ce_spec_Unpack con_nil) Tryz.func130 ke_spec_l04Name (by kernel_rfl) (λ _=>by kernel_rfl) (λ _=>by kernel_rfl) rfl
theorem ce_spec_l04Number:CO e_spec_l04Number:=fnc (λ _=>con_cons ce_spec_CellsOf con_nil) Tryz.func131 ke_spec_l04Number (by kernel_rfl) (λ _=>by kernel_rfl) (λ _=>by kernel_rfl) rfl
theorem ce_spec_FieldOk:CO e_spec_FieldOk:=fnc (λ _=>con_cons ce_spec_UnpackOne (con_cons ce_spec_Pack con_nil)) Tryz.func132 ke_spec_FieldOk (by kernel_rfl) (λ _=>by kernel_rfl) (λ _=>by kernel_rfl) rfl
theorem ce_spec_l04Item:CO e_spec_l04Item:=fnc (λ _=>con_cons ce_spec_l04Kind (con_cons ce_spec_l04Name (con_cons ce_spec_l04Number (con_cons ce_spec_FieldOk (con_cons ce_spec_UnpackOne con_nil))))) Tryz.func89 ke_spec_l04Item (by kernel_rfl) (λ _=>by kernel_rfl) (λ _=>by kernel_rfl) rfl
theorem ce_spec_l22Plain:CO e_spec_l22Plain:=fnc (λ _=>con_nil) Tryz.func52 ke_spec_l22Plain (by kernel_rfl) (λ _=>by kernel_rfl) (λ _=>by kernel_rfl) rfl
theorem ce_spec_l14Max:CO e_spec_l14Max:=fnc (λ _=>con_nil) Tryz.func90 ke_spec_l14Max (by kernel_rfl) (λ _=>by kernel_rfl) (λ _=>by kernel_rfl) rfl
theorem ce_spec_l22Table:CO e_spec_l22Table:=l22_con ce_spec_l14Max
theorem ce_spec_ParseCells_imm:CO e_spec_ParseCells_imm:=fnc (λ _=>con_cons ce_spec_l04Item con_nil) Tryz.func51 ke_spec_ParseCells_imm (by kernel_rfl) (λ _=>by kernel_rfl) (λ _=>by kernel_rfl) rfl
theorem ce_spec_Plan:CO e_spec_Plan:=fnc (λ _=>con_cons ce_spec_ParseCells_imm (con_cons ce_spec_l22Plain (con_cons ce_spec_l22Table con_nil))) Tryz.func17 ke_spec_Plan (by kernel_rfl) (λ _=>by kernel_rfl) (λ _=>by kernel_rfl) rfl
theorem ce_impl_OpenEd:CO e_impl_OpenEd:=fnc (λ _=>con_cons ce_impl_ParseCells con_nil) Tryz.func19 ke_impl_OpenEd (by kernel_rfl) (λ _=>by kernel_rfl) (λ _=>by kernel_rfl) rfl
theorem ce_impl_ItemOk:CO e_impl_ItemOk:=fnc (λ _=>con_cons ce_impl_CellsOf con_nil) Tryz.func46 ke_impl_ItemOk (by kernel_rfl) (λ _=>by kernel_rfl) (λ _=>by kernel_rfl) rfl
theorem ce_impl_EdOkc1:CO e_impl_EdOkc1:=fnc (λ _=>con_cons ce_impl_ItemOk con_nil) Tryz.func91 ke_impl_EdOkc1 (by kernel_rfl) (λ _=>by kernel_rfl) (λ _=>by kernel_rfl) rfl
theorem ce_slices_IndexFunc_Item_impl_EdOkc1:CO e_slices_IndexFunc_Item_impl_EdOkc1:=fnc (λ _=>con_cons ce_impl_EdOkc1 con_nil) Tryz.func128 ke_slices_IndexFunc_Item_impl_EdOkc1 (by kernel_rfl) (λ _=>by kernel_rfl) (λ _=>by kernel_rfl) rfl
theorem ce_slices_ContainsFunc_Item_impl_EdOkc1:CO e_slices_ContainsFunc_Item_impl_EdOkc1:=fnc (λ _=>con_cons ce_slices_IndexFunc_Item_impl_EdOkc1 con_nil) Tryz.func86 ke_slices_ContainsFunc_Item_impl_EdOkc1 (by kernel_rfl) (λ _=>by kernel_rfl) (λ _=>by kernel_rfl) rfl
theorem ce_slices_Grow_Item_emp:CO e_slices_Grow_Item_emp:=fnc (λ _=>con_nil) Tryz.func136 ke_slices_Grow_Item_emp (by kernel_rfl) (λ _=>by kernel_rfl) (λ _=>by kernel_rfl) rfl
theorem ce_slices_Concat_Item:CO e_slices_Concat_Item:=fnc (λ _=>con_cons ce_slices_Grow_Item_emp con_nil) Tryz.func96 ke_slices_Concat_Item (by kernel_rfl) (λ _=>by kernel_rfl) (λ _=>by kernel_rfl) rfl
theorem ce_impl_edItems:CO e_impl_edItems:=fnc (λ _=>con_cons ce_slices_Concat_Item con_nil) Tryz.func58 ke_impl_edItems (by kernel_rfl) (λ _=>by kernel_rfl) (λ _=>by kernel_rfl) rfl
theorem ce_impl_Unparse:CO e_impl_Unparse:=fnc (λ _=>con_cons ce_impl_CellsOf con_nil) Tryz.func57 ke_impl_Unparse (by kernel_rfl) (λ _=>by kernel_rfl) (λ _=>by kernel_rfl) rfl
theorem ce_slices_Equal_Item:CO e_slices_Equal_Item:=fnc (λ _=>con_nil) Tryz.func73 ke_slices_Equal_Item (by kernel_rfl) (λ _=>by kernel_rfl) (λ _=>by kernel_rfl) rfl
theorem ce_impl_ListOk:CO e_impl_ListOk:=fnc (λ _=>con_cons ce_impl_Unparse (con_cons ce_impl_ParseCells (con_cons ce_slices_Equal_Item con_nil))) Tryz.func92 ke_impl_ListOk (by kernel_rfl) (λ _=>by kernel_rfl) (λ _=>by kernel_rfl) rfl
theorem ce_impl_EdOk:CO e_impl_EdOk:=fnc (λ _=>con_cons ce_slices_ContainsFunc_Item_impl_EdOkc1 (con_cons ce_impl_edItems (con_cons ce_impl_ListOk con_nil))) Tryz.func54 ke_impl_EdOk (by kernel_rfl) (λ _=>by kernel_rfl) (λ _=>by kernel_rfl) rfl
theorem ce_slices_Clone_Item:ConOk Tryz.prog e_slices_Clone_Item:=fe_slices_Clone_Item
theorem ce_impl_ownEd:CO e_impl_ownEd:=fnc (λ _=>con_cons ce_slices_Clone_Item con_nil) Tryz.func55 ke_impl_ownEd (by kernel_rfl) (λ _=>by kernel_rfl) (λ _=>by kernel_rfl) rfl
theorem ce_slices_Insert_Item:ConOk Tryz.prog e_slices_Insert_Item:=fe_slices_Insert_Item
theorem ce_impl_Recolor:CO e_impl_Recolor:=fnc (λ _=>con_cons ce_impl_nameTag (con_cons ce_impl_ItemOk con_nil)) Tryz.func95 ke_impl_Recolor (by kernel_rfl) (λ _=>by kernel_rfl) (λ _=>by kernel_rfl) rfl
theorem ce_impl_pressed:CO e_impl_pressed:=fnc (λ _=>con_cons ce_impl_ownEd (con_cons ce_slices_Insert_Item (con_cons ce_impl_edItems (con_cons ce_impl_Recolor (con_cons ce_impl_EdOk con_nil))))) Tryz.func56 ke_impl_pressed (by kernel_rfl) (λ _=>by kernel_rfl) (λ _=>by kernel_rfl) rfl
theorem ce_impl_PressAll:CO e_impl_PressAll:=fnc (λ _=>con_cons ce_impl_EdOk (con_cons ce_impl_ownEd (con_cons ce_impl_pressed con_nil))) Tryz.func18 ke_impl_PressAll (by kernel_rfl) (λ _=>by kernel_rfl) (λ _=>by kernel_rfl) rfl
theorem ce_impl_EdCells:CO e_impl_EdCells:=fnc (λ _=>con_cons ce_impl_EdOk (con_cons ce_impl_edItems (con_cons ce_impl_Unparse con_nil))) Tryz.func22 ke_impl_EdCells (by kernel_rfl) (λ _=>by kernel_rfl) (λ _=>by kernel_rfl) rfl
theorem ce_laws_padded:CO e_laws_padded:=fnc (λ _=>con_nil) Tryz.func21 ke_laws_padded (by kernel_rfl) (λ _=>by kernel_rfl) (λ _=>by kernel_rfl) rfl
theorem ce_laws_sameCells:CO e_laws_sameCells:=fnc (λ _=>con_nil) Tryz.func20 ke_laws_sameCells (by kernel_rfl) (λ _=>by kernel_rfl) (λ _=>by kernel_rfl) rfl
theorem ce_impl_Common:CO e_impl_Common:=fnc (λ _=>con_cons ce_impl_common con_nil) Tryz.func24 ke_impl_Common (by kernel_rfl) (λ _=>by kernel_rfl) (λ _=>by kernel_rfl) rfl
theorem ce_istrconv_small:CO e_istrconv_small:=fnc (λ _=>con_nil) Tryz.func145 ke_istrconv_small (by kernel_rfl) (λ _=>by kernel_rfl) (λ _=>by kernel_rfl) rfl
theorem ce_math_bits_Len64:CO e_math_bits_Len64:=fnc (λ _=>con_nil) Tryz.func172 ke_math_bits_Len64 (by kernel_rfl) (λ _=>by kernel_rfl) (λ _=>by kernel_rfl) rfl
theorem ce_istrconv_log10Pow2:CO e_istrconv_log10Pow2:=fnc (λ _=>con_nil) Tryz.func171 ke_istrconv_log10Pow2 (by kernel_rfl) (λ _=>by kernel_rfl) (λ _=>by kernel_rfl) rfl
theorem ce_istrconv_bool2_int:CO e_istrconv_bool2_int:=fnc (λ _=>con_nil) Tryz.func173 ke_istrconv_bool2_int (by kernel_rfl) (λ _=>by kernel_rfl) (λ _=>by kernel_rfl) rfl
theorem ce_istrconv_numDigits:CO e_istrconv_numDigits:=fnc (λ _=>con_cons ce_math_bits_Len64 (con_cons ce_istrconv_log10Pow2 (con_cons ce_istrconv_bool2_int con_nil))) Tryz.func146 ke_istrconv_numDigits (by kernel_rfl) (λ _=>by kernel_rfl) (λ _=>by kernel_rfl) rfl
theorem ce_istrconv_isPowerOfTwo:CO e_istrconv_isPowerOfTwo:=fnc (λ _=>con_nil) Tryz.func174 ke_istrconv_isPowerOfTwo (by kernel_rfl) (λ _=>by kernel_rfl) (λ _=>by kernel_rfl) rfl
theorem ce_math_bits_TrailingZeros64:CO e_math_bits_TrailingZeros64:=fnc (λ _=>con_nil) Tryz.func191 ke_math_bits_TrailingZeros64 (by kernel_rfl) (λ _=>by kernel_rfl) (λ _=>by kernel_rfl) rfl
theorem ce_math_bits_TrailingZeros:CO e_math_bits_TrailingZeros:=fnc (λ _=>con_cons ce_math_bits_TrailingZeros64 con_nil) Tryz.func175 ke_math_bits_TrailingZeros (by kernel_rfl) (λ _=>by kernel_rfl) (λ _=>by kernel_rfl) rfl
theorem ce_istrconv_formatBits:CO e_istrconv_formatBits:=fnc (λ _=>con_cons ce_istrconv_isPowerOfTwo (con_cons ce_math_bits_TrailingZeros con_nil)) Tryz.func148 ke_istrconv_formatBits (by kernel_rfl) (λ _=>by kernel_rfl) (λ _=>by kernel_rfl) rfl
theorem ce_istrconv_FormatUint:CO e_istrconv_FormatUint:=fnc (λ _=>con_cons ce_istrconv_small (con_cons ce_istrconv_numDigits (con_cons ce_istrconv_formatBits con_nil))) Tryz.func111 ke_istrconv_FormatUint (by kernel_rfl) (λ _=>by kernel_rfl) (λ _=>by kernel_rfl) rfl
theorem ce_strconv_FormatUint:CO e_strconv_FormatUint:=fnc (λ _=>con_cons ce_istrconv_FormatUint con_nil) Tryz.func69 ke_strconv_FormatUint (by kernel_rfl) (λ _=>by kernel_rfl) (λ _=>by kernel_rfl) rfl
theorem ce_impl_HexText:CO e_impl_HexText:=fnc (λ _=>con_cons ce_strconv_FormatUint con_nil) Tryz.func34 ke_impl_HexText (by kernel_rfl) (λ _=>by kernel_rfl) (λ _=>by kernel_rfl) rfl
theorem ce_strconv_Itoa:ConOk Tryz.prog e_strconv_Itoa:=fe_strconv_Itoa
theorem ce_impl_DecText:CO e_impl_DecText:=fnc (λ _=>con_cons ce_strconv_Itoa con_nil) Tryz.func33 ke_impl_DecText (by kernel_rfl) (λ _=>by kernel_rfl) (λ _=>by kernel_rfl) rfl
theorem ce_impl_digits:CO e_impl_digits:=fnc (λ _=>con_cons ce_impl_HexText (con_cons ce_impl_DecText con_nil)) Tryz.func105 ke_impl_digits (by kernel_rfl) (λ _=>by kernel_rfl) (λ _=>by kernel_rfl) rfl
theorem ce_impl_mark:CO e_impl_mark:=fnc (λ _=>con_nil) Tryz.func106 ke_impl_mark (by kernel_rfl) (λ _=>by kernel_rfl) (λ _=>by kernel_rfl) rfl
theorem ce_impl_ItemText:CO e_impl_ItemText:=fnc (λ _=>con_cons ce_impl_ItemOk (con_cons ce_impl_HexText (con_cons ce_impl_digits (con_cons ce_impl_mark con_nil)))) Tryz.func61 ke_impl_ItemText (by kernel_rfl) (λ _=>by kernel_rfl) (λ _=>by kernel_rfl) rfl
theorem ce_strings_Join:ConOk Tryz.prog e_strings_Join:=fe_strings_Join
theorem ce_impl_PlanText:CO e_impl_PlanText:=fnc (λ _=>con_cons ce_impl_ItemOk (con_cons ce_impl_ItemText (con_cons ce_strings_Join con_nil))) Tryz.func25 ke_impl_PlanText (by kernel_rfl) (λ _=>by kernel_rfl) (λ _=>by kernel_rfl) rfl
theorem ce_laws_FnPlan:CO e_laws_FnPlan:=fnc (λ _=>con_cons ce_laws_big (con_cons ce_spec_DrawPlan (con_cons ce_impl_Plan (con_cons ce_spec_Plan (con_cons ce_impl_OpenEd (con_cons ce_impl_PressAll (con_cons ce_impl_EdCells (con_cons ce_laws_padded (con_cons ce_laws_sameCells (con_cons ce_impl_ParseCells (con_cons ce_impl_Common (con_cons ce_impl_PlanText con_nil)))))))))))) Tryz.func5 ke_laws_FnPlan (by kernel_rfl) (λ _=>by kernel_rfl) (λ _=>by kernel_rfl) rfl
end Go.Proofs.YtgfamepnkhpemaaGreatDoor

namespace Go.Fm
theorem wI64 {x:Int} (h1 : -9223372036854775808<=x) (h2:x < 9223372036854775808):IntKind.wrap .i64 x=x:=by
 simp[IntKind.wrap,IntKind.bits,IntKind.signed];omega
theorem wU32 {x:Int} (h1:0<=x) (h2:x < 4294967296):IntKind.wrap .u32 x=x:=by
 simp[IntKind.wrap,IntKind.bits,IntKind.signed];omega
theorem wU64 {x:Int} (h1:0<=x) (h2:x < 18446744073709551616):IntKind.wrap .u64 x=x:=by
 simp[IntKind.wrap,IntKind.bits,IntKind.signed];omega
theorem wU32_bd (x:Int):0<=IntKind.wrap .u32 x/\IntKind.wrap .u32 x < 4294967296:=by
 simp[IntKind.wrap,IntKind.bits,IntKind.signed];omega
theorem wI64_bd (x:Int) : -9223372036854775808<=IntKind.wrap .i64 x/\IntKind.wrap .i64 x < 9223372036854775808:=by
 simp[IntKind.wrap,IntKind.bits,IntKind.signed];omega
theorem getI_ex {α:Type} {xs:List α} {i:Int} (h0:0<=i) (h1:i < xs.length):∃ x,getI xs i=some x/\x ∈ xs/\xs[i.toNat]? = some x:=by
 have hi:i.toNat < xs.length:=by omega
 unfold getI
 rw[if_pos h0,List.getElem?_eq_getElem hi]
 exact ⟨_,rfl,List.getElem_mem hi,rfl⟩
theorem getI_nat {α:Type} {xs:List α} {i:Nat}:getI xs (i:Int)=xs[i]? := by
 unfold getI;rw[if_pos (Int.natCast_nonneg i)];rfl
theorem idxS_ex {l:List UInt8} {i:Int} (h0:0<=i) (h1:i < l.length):∃ v,idxS l i=some v/\0<=v/\v < 256/\∃ b ∈ l,v=(b.toNat:Int):=by
 unfold idxS
 rw[if_pos ⟨h0,h1⟩]
 have hi:i.toNat < l.length:=by omega
 refine ⟨_,rfl,Int.natCast_nonneg _,?_,l[i.toNat],List.getElem_mem hi,?_⟩
 ·have:=UInt8.toNat_lt (l.getD i.toNat 0);omega
 ·rw[List.getD_eq_getElem?_getD,List.getElem?_eq_getElem hi];rfl
theorem app_eq {α:Type} {xs ys:List α} (h:xs.length+ys.length<=4294967296):app xs ys=some (xs++ys):=by
 unfold app
 rw[if_pos (by rw[List.length_append];exact h)]
theorem subL_eq {α:Type} {xs:List α} {a b:Int} (h0:0<=a) (h1:a<=b) (h2:b<=xs.length):subL xs a b=some ((xs.drop a.toNat).take (b.toNat-a.toNat)):=by
 unfold subL;rw[if_pos ⟨h0,h1,h2⟩]
theorem subL_drop {α:Type} {xs:List α} {a:Int} (h0:0<=a) (h2:a<=xs.length):subL xs a xs.length=some (xs.drop a.toNat):=by
 rw[subL_eq h0 h2 (Int.le_refl _),List.take_of_length_le]
 rw[List.length_drop];omega
theorem subL_take {α:Type} {xs:List α} {b:Int} (h0:0<=b) (h2:b<=xs.length):subL xs 0 b=some (xs.take b.toNat):=by
 rw[subL_eq (Int.le_refl _) h0 h2];rfl
theorem mk_eq {α:Type} {z:α} {n:Int} (h0:0<=n) (h1:n<=4294967296):mk z n=some (List.replicate n.toNat z):=by
 unfold mk;rw[if_pos ⟨h0,h1⟩]
theorem catS_eq {a b:List UInt8} (h:a.length+b.length < 4611686018427387904):catS a b=some (a++b):=by
 unfold catS;rw[if_pos h]
theorem remI_ex {k:IntKind} {a b:Int} (h0:0<=a) (hb:0 < b):remI k a b=some (a % b)/\0<=a % b/\a % b < b:=by
 unfold remI
 rw[if_neg (by omega),Int.tmod_eq_emod_of_nonneg h0]
 exact ⟨rfl,Int.emod_nonneg _ (by omega),Int.emod_lt_of_pos _ hb⟩
theorem bB_toNat {k:IntKind} {a:Int} (h0:0<=a) (h1:a < 2 ^ k.bits):(bytesB k a).toNat=a.toNat:=by
 unfold bytesB
 rw[BitVec.toNat_ofInt,Int.emod_eq_of_lt h0]
 simpa using h1
theorem wrap_small {k:IntKind} {n:Nat} (h:n < 2 ^ (k.bits-1)):k.wrap n=n:=by
 unfold IntKind.wrap
 have hb:2 ^ (k.bits-1)<=2 ^ k.bits:=Nat.pow_le_pow_right (by decide) (Nat.sub_le _ _)
 have h1:(n:Int) < ((2 ^ k.bits:Nat):Int):=Int.ofNat_lt.2 (Nat.lt_of_lt_of_le h hb)
 have h2:(n:Int) < ((2 ^ (k.bits-1):Nat):Int):=Int.ofNat_lt.2 h
 simp only[Int.natCast_pow,Int.cast_ofNat_Int]at h1 h2
 have e:(n:Int) % (2 ^ k.bits:Int)=n:=Int.emod_eq_of_lt (Int.natCast_nonneg _) h1
 simp only[e]
 rw[if_neg]
 intro hc
 rw[Bool.and_eq_true,decide_eq_true_eq]at hc
 have h3:=hc.2
 omega
theorem and_le {k:IntKind} {a b:Int} (h0:0<=b) (h1:b < 2 ^ (k.bits-1)):0<=andI k a b/\andI k a b<=b:=by
 unfold andI
 have hb:(bytesB k b).toNat=b.toNat:=bB_toNat h0 (Int.lt_of_lt_of_le h1 (by
  have:((2 ^ (k.bits-1):Nat):Int)<=((2 ^ k.bits:Nat):Int):=Int.ofNat_le.2 (Nat.pow_le_pow_right (by decide) (Nat.sub_le _ _))
  simpa only[Int.natCast_pow,Int.cast_ofNat_Int] using this))
 have hle:(bytesB k a &&& bytesB k b).toNat<=b.toNat:=by
  rw[BitVec.toNat_and,hb];exact Nat.and_le_right
 have hlt:(bytesB k a &&& bytesB k b).toNat < 2 ^ (k.bits-1):=by
  refine Nat.lt_of_le_of_lt hle ?_
  have:(b.toNat:Int) < ((2 ^ (k.bits-1):Nat):Int):=by rw[Int.toNat_of_nonneg h0];simpa only[Int.natCast_pow,Int.cast_ofNat_Int] using h1
  exact Int.ofNat_lt.1 this
 rw[wrap_small hlt]
 omega
def Tot {α:Type} (o:Option α) (Q:α->Prop):Prop:=∃ a,o=some a/\Q a
section
variable {α β:Type} {Q Q':α->Prop} {R:β->Prop}
theorem Tot.some {a:α} (h:Q a):Tot (some a) Q:=⟨a,rfl,h⟩
theorem Tot.bind {o:Option α} {f:α->Option β} (h:Tot o Q) (hf:∀ a,Q a->Tot (f a) R):Tot (o.bind f) R:=by
 obtain ⟨a,rfl,ha⟩:=h;exact hf a ha
theorem Tot.bindE {o:Option α} {f:α->Option β} {a:α} (h:o=.some a) (hf:Tot (f a) R):Tot (o.bind f) R:=by subst h;exact hf
theorem Tot.cond {c:Bool} {x y:Option α} (h1:c=true->Tot x Q) (h2:c=false->Tot y Q):Tot (cond c x y) Q:=by
 cases c with
 | true=>exact h1 rfl
 | false=>exact h2 rfl
theorem Tot.condD {p:Prop} [Decidable p] {x y:Option α} (h1:p->Tot x Q) (h2:¬ p->Tot y Q):Tot (_root_.cond (decide p) x y) Q :=
 .cond (λ h=>h1 (of_decide_eq_true h)) (λ h=>h2 (of_decide_eq_false h))
theorem Tot.mono {o:Option α} (h:Tot o Q) (hq:∀ a,Q a->Q' a):Tot o Q':=by obtain ⟨a,e,ha⟩:=h;exact ⟨a,e,hq a ha⟩
end
end Go.Fm
namespace Go.Proofs.YtgfamepnkhpemaaGreatDoor
open Go Go.Fm
set_option maxRecDepth 1000000
def g_spec_ItemOk (it_1:GItem):Option Bool:=(g_spec_CellsOf it_1).bind λ y_3=>some (decide ((y_3.length:Int) > 0))
def g_spec_l07All (e_1:GEd):Option (List GItem):=(cond (decide ((e_1.Left.length:Int) > 64)) (some true) (some (decide ((e_1.Right.length:Int) > 64))):Option (Bool)).bind λ v_3=>cond v_3 ((mk ((⟨0,[],0,false,0⟩:GItem):GItem) 65).bind λ v_4=>some v_4) ((app ([]:List GItem) e_1.Left).bind λ v_5=>(app v_5 e_1.Right).bind λ v_6=>some v_6)
def g_spec_l04Same_l0 (a_1:List GItem) (b_2:List GItem):Nat->Int->Option (Unit ⊕ Bool)
 | 0,_=>none
 | k+1,i_5=>cond (decide (i_5 < (a_1.length:Int))) ((getI a_1 i_5).bind λ v_7=>(getI b_2 i_5).bind λ v_8=>cond (!((v_7.Kind:Int)==v_8.Kind&&((v_7.Name:Bs)==v_8.Name&&((v_7.N:Int)==v_8.N&&((v_7.Hex:Bool)==v_8.Hex&&((v_7.Raw:Int)==v_8.Raw&&true)))))) (some (.inr false)) (g_spec_l04Same_l0 a_1 b_2 k (IntKind.wrap .i64 (i_5+1)))) (some (.inl ()))
def g_spec_l04Same (a_1:List GItem) (b_2:List GItem):Option Bool:=cond ((a_1.length:Int) != (b_2.length:Int)) (some false) (((g_spec_l04Same_l0 a_1 b_2 bigK 0).bind λ o=>match o with | .inl ()=>some (.inl ()) | .inr v_6=>some (.inr v_6):Option (Unit ⊕ Bool)).bind λ o=>match o with | .inl ()=>some true | .inr v_4=>some v_4)
def g_spec_ListOk (list_1:List GItem):Option Bool:=(g_spec_Unparse list_1).bind λ y_3=>cond y_3.2 ((g_spec_ParseCells y_3.1).bind λ y_4=>(g_spec_l04Same y_4 list_1).bind λ y_5=>some y_5) (some false)
def g_spec_l07Move (e_1:GEd) (op_2:Int):Option (GEd×Bool):=(g_spec_l07All e_1).bind λ y_5=>(cond (op_2==0) (some (IntKind.wrap .i64 ((e_1.Left.length:Int)-1))) (cond (op_2==1) (some (IntKind.wrap .i64 ((e_1.Left.length:Int)+1))) (cond (op_2==2) (some 0) (some (y_5.length:Int)))):Option (Int)).bind λ vat_6=>(g_spec_l01In vat_6 0 (y_5.length:Int)).bind λ y_7=>cond (!y_7) (some (e_1,false)) ((subL y_5 0 vat_6).bind λ v_8=>(app ([]:List GItem) v_8).bind λ v_9=>(subL y_5 vat_6 ((y_5.length:Nat):Int)).bind λ v_10=>(app ([]:List GItem) v_10).bind λ v_11=>some ((⟨v_9,v_11,e_1.Cut⟩:GEd),true))
def g_spec_l06Mark (kind_1:Int):Option Bs:=((cond (kind_1==1) (some (kind_1==1)) (some (kind_1==7)):Option (Bool)).bind λ v_4=>cond v_4 (some (.inr [126])) (cond (kind_1==2) (some (.inr [58])) ((cond (kind_1==3) (some (kind_1==3)) (some (kind_1==8)):Option (Bool)).bind λ v_5=>cond v_5 (some (.inr [61])) (cond (kind_1==4) (some (.inr [34])) (cond (kind_1==5) (some (.inr [94])) (cond (kind_1==6) (some (.inr [95])) (cond (kind_1==9) (some (.inr [38])) (some (.inl ())))))))):Option (Unit ⊕ Bs)).bind λ o=>match o with | .inl ()=>some [37] | .inr v_3=>some v_3
def g_spec_HexText_l0:Nat->Bs->Int->Option Bs
 | 0,_,_=>none
 | k+1,out_5,m_6=>cond (decide (m_6 > 0)) ((subL [48,49,50,51,52,53,54,55,56,57,97,98,99,100,101,102] (Int.tmod m_6 16) (IntKind.wrap .i64 ((Int.tmod m_6 16)+1))).bind λ v_8=>(catS v_8 out_5).bind λ v_9=>g_spec_HexText_l0 k v_9 (IntKind.wrap .i64 (Int.tdiv m_6 16))) (some out_5)
def g_spec_HexText (n_1:Int):Option Bs:=cond (n_1==0) (some [48]) (((g_spec_HexText_l0 bigK [] (IntKind.wrap .i64 n_1)).bind λ out_7=>some out_7:Option (Bs)).bind λ out_3=>some out_3)
def g_spec_DecText_l0:Nat->Bs->Int->Option Bs
 | 0,_,_=>none
 | k+1,out_4,m_5=>cond (m_5 != 0) ((cond (decide ((Int.tmod m_5 10) < 0)) (some (IntKind.wrap .i64 (0-(Int.tmod m_5 10)))) (some (Int.tmod m_5 10)):Option (Int)).bind λ d_7=>(subL [48,49,50,51,52,53,54,55,56,57] d_7 (IntKind.wrap .i64 (d_7+1))).bind λ v_8=>(catS v_8 out_4).bind λ v_9=>g_spec_DecText_l0 k v_9 (IntKind.wrap .i64 (Int.tdiv m_5 10))) (some out_4)
def g_spec_DecText (n_1:Int):Option Bs:=cond (n_1==0) (some [48]) ((g_spec_DecText_l0 bigK [] n_1).bind λ out_6=>cond (decide (n_1 < 0)) ((catS [45] out_6).bind λ v_10=>some v_10) (some out_6))
def g_spec_ItemText (it_1:GItem):Option Bs:=(g_spec_ItemOk it_1).bind λ y_3=>cond (!y_3) (some []) ((g_spec_l06Mark it_1.Kind).bind λ y_4=>((cond (it_1.Kind==7) (some (it_1.Kind==7)) (some (it_1.Kind==8)):Option (Bool)).bind λ v_6=>cond v_6 (cond it_1.Hex ((catS y_4 [36]).bind λ v_7=>(g_spec_HexText (IntKind.wrap .u32 it_1.N)).bind λ y_8=>(catS v_7 y_8).bind λ v_9=>some (.inr v_9)) ((catS y_4 [35]).bind λ v_10=>(g_spec_DecText (IntKind.wrap .i64 it_1.N)).bind λ y_11=>(catS v_10 y_11).bind λ v_12=>some (.inr v_12))) (cond (it_1.Kind==9) ((catS y_4 it_1.Name).bind λ v_13=>(catS v_13 [35]).bind λ v_14=>(g_spec_DecText (IntKind.wrap .i64 it_1.N)).bind λ y_15=>(catS v_14 y_15).bind λ v_16=>some (.inr v_16)) (cond (it_1.Kind==0) ((g_spec_HexText it_1.Raw).bind λ y_17=>(catS y_4 y_17).bind λ v_18=>some (.inr v_18)) (some (.inl ())))):Option (Unit ⊕ Bs)).bind λ o=>match o with | .inl ()=>(catS y_4 it_1.Name).bind λ v_19=>some v_19 | .inr v_5=>some v_5)
def g_spec_PlanText_l0 (keys_1:List GKey):Nat->(List Int)->Int->Option ((List Int) ⊕ Bs)
 | 0,_,_=>none
 | k+1,out_5,i_6=>cond (decide (i_6 < (keys_1.length:Int))) (((cond (decide (i_6 > 0)) ((app out_5 [32]).bind λ v_12=>some v_12) (some out_5):Option ((List Int))).bind λ out_11=>(getI keys_1 i_6).bind λ v_13=>cond (v_13.Op==1) ((app out_11 [62]).bind λ v_14=>some (.inl v_14)) ((getI keys_1 i_6).bind λ v_15=>cond (v_15.Op==5) ((app out_11 [120]).bind λ v_16=>some (.inl v_16)) ((getI keys_1 i_6).bind λ v_17=>cond (v_17.Op==2) ((app out_11 [124]).bind λ v_18=>some (.inl v_18)) (((getI keys_1 i_6).bind λ v_20=>cond (v_20.Op==4) ((getI keys_1 i_6).bind λ v_21=>(g_spec_ItemOk v_21.Item).bind λ y_22=>some y_22) (some false):Option (Bool)).bind λ v_19=>cond v_19 ((getI keys_1 i_6).bind λ v_23=>(g_spec_ItemText v_23.Item).bind λ y_24=>(catS [43] y_24).bind λ v_25=>(app out_11 (bsOf v_25)).bind λ v_26=>some (.inl v_26)) (some (.inr []))))):Option ((List Int) ⊕ Bs)).bind λ o=>match o with | .inl out_9=>g_spec_PlanText_l0 keys_1 k out_9 (IntKind.wrap .i64 (i_6+1)) | .inr v_10=>some (.inr v_10)) (some (.inl out_5))
def g_spec_Common (a_1:List GItem) (b_2:List GItem):Option Int:=(cond (decide ((a_1.length:Int) > 64)) (some true) (some (decide ((b_2.length:Int) > 64))):Option (Bool)).bind λ v_4=>cond v_4 (some (-1)) ((g_spec_l22Table a_1 b_2).bind λ y_5=>(getI y_5 0).bind λ v_6=>(getI v_6 0).bind λ v_7=>some v_7)
end Go.Proofs.YtgfamepnkhpemaaGreatDoor
namespace Go.Proofs.YtgfamepnkhpemaaGreatDoor
open Go Go.Fm
def U32 (xs:List Int):Prop:=∀ x ∈ xs,0<=x/\x < 4294967296
theorem U32.app {xs ys:List Int} (h1:U32 xs) (h2:U32 ys):U32 (xs++ys):=λ x hx=>by
 rcases List.mem_append.1 hx with h|h
 ·exact h1 x h
 ·exact h2 x h
theorem U32.one {x:Int} (h:0<=x/\x < 4294967296):U32 [x]:=λ y hy=>by simp at hy;subst hy;exact h
theorem U32.nil:U32 []:=λ x hx=>by simp at hx
theorem U32.set {xs:List Int} {x:Int} {i:Nat} (h1:U32 xs) (h:0<=x/\x < 4294967296):U32 (xs.set i x):=λ y hy=>by
 rcases List.mem_or_eq_of_mem_set hy with h2|h2
 ·exact h1 y h2
 ·subst h2;exact h
theorem specIn_eq {x a b:Int}:g_spec_l01In x a b=some (decide (a<=x/\x<=b)):=by
 unfold g_spec_l01In
 by_cases h:x ≥ a
 ·rw[decide_eq_true h]
  simp only[cond_true]
  congr 1
  exact decide_eq_decide.2 ⟨λ h2=>⟨h,h2⟩,λ h2=>h2.2⟩
 ·rw[decide_eq_false h]
  simp only[cond_false]
  congr 1
  exact (decide_eq_false λ h2=>h h2.1).symm
theorem specNum_ok {n:Int} {hex:Bool} {s l:Int}:Tot (g_spec_l04Num n hex s l) λ r=>U32 r/\r.length<=2:=by
 unfold g_spec_l04Num
 refine .bind (Q:=λ _=>True) (.cond (λ _=>.some trivial) λ _=>.some trivial) λ a _=>.bind (Q:=λ _=>True) (.condD (λ _=>.some trivial) λ _=>.some trivial) λ b _=>.cond (λ _=>.some ⟨.one (wU32_bd _),by simp⟩) λ _=>.some ⟨?_,by simp⟩
 exact (U32.one (wU32_bd _)).app (.one (wU32_bd _))
theorem specLetterOf_ok {b:Int}:Tot (g_spec_LetterOf b) λ r => -1<=r/\r<=47:=by
 unfold g_spec_LetterOf
 refine .bindE (a:=_) rfl ?_
 have key:∀ (k:Nat) (i:Int),0<=i->i<=48->48-i < k->Tot (g_spec_LetterOf_l0 b [32,114,116,111,101,97,110,105,115,109,99,121,108,103,102,119,100,118,112,98,104,120,117,113,48,49,50,51,52,53,54,55,56,57,106,45,107,46,122,47,59,39,33,43,64,42,44,63] k i)
   λ r=>match r with | .inl _=>True | .inr x=>0<=x/\x<=47:=by
  intro k
  induction k with
  | zero=>intro i h0 h1 h2;omega
  | succ k ih =>
   intro i h0 h1 h2
   unfold g_spec_LetterOf_l0
   refine .condD (λ hi => ?_) λ _=>.some trivial
   have hi:i < 48:=by simpa using hi
   obtain ⟨v,hv,_⟩:=idxS_ex (l:=[32,114,116,111,101,97,110,105,115,109,99,121,108,103,102,119,100,118,112,98,104,120,117,113,48,49,50,51,52,53,54,55,56,57,106,45,107,46,122,47,59,39,33,43,64,42,44,63]) h0 (by simpa using hi)
   refine .bindE hv (.cond (λ _=>.some ⟨h0,by omega⟩) λ _ => ?_)
   rw[wI64 (x:=i+1) (by omega) (by omega)]
   exact ih _ (by omega) (by omega) (by omega)
 refine .bind (Q:=λ r=>match r with | .inl _=>True | .inr x=>0<=x/\x<=47) (.bind (key bigK 0 (by decide) (by decide) (by decide)) λ o ho => ?_) λ o ho => ?_
 ·cases o with
  | inl _=>exact .some trivial
  | inr x=>exact .some ho
 ·cases o with
  | inl _=>exact .some ⟨by decide,by decide⟩
  | inr x=>exact .some ⟨by have:=ho.1;omega,ho.2⟩
theorem specNameOk_ok {s:Bs} (hs:s.length<=1048576):Tot (g_spec_NameOk s) λ r=>r=true->1<=s.length/\s.length<=24:=by
 unfold g_spec_NameOk
 refine .bindE specIn_eq (.cond (λ _=>.some λ h=>nomatch h) λ hc => ?_)
 have hl:1<=s.length/\s.length<=24:=by
  have:(1:Int)<=s.length/\(s.length:Int)<=24:=by simpa using hc
  omega
 have key:∀ (k:Nat) (i:Int),0<=i->i<=s.length->s.length-i < k->Tot (g_spec_NameOk_l0 s k i) λ _=>True:=by
  intro k
  induction k with
  | zero=>intro i h0 h1 h2;omega
  | succ k ih =>
   intro i h0 h1 h2
   unfold g_spec_NameOk_l0
   refine .condD (λ hi => ?_) λ _=>.some trivial
   obtain ⟨v,hv,_⟩:=idxS_ex h0 hi
   refine .bindE hv (.bind specLetterOf_ok λ x hx=>.condD (λ _=>.some trivial) λ _ => ?_)
   rw[wI64 (x:=i+1) (by omega) (by omega)]
   exact ih _ (by omega) (by omega) (by omega)
 refine .bind (Q:=λ _=>True) (.bind (key bigK 0 (by decide) (by omega) (by unfold bigK;omega)) λ o ho => ?_) λ o ho => ?_
 ·cases o<;>exact .some trivial
 ·cases o<;>exact .some λ _=>hl
theorem specWidth_ok {k:Int}:Tot (g_spec_WidthOf k) λ w=>0<=w/\w<=7:=by
 unfold g_spec_WidthOf
 exact .bindE specIn_eq (.cond (λ _=>.some (by decide)) λ _=>.bindE specIn_eq (.cond (λ _=>.some (by decide)) λ _=>.bindE specIn_eq (.cond (λ _=>.some (by decide)) λ _=>.some (by decide))))
theorem specBits_ok {k:Int}:Tot (g_spec_BitsOf k) λ w=>True:=by
 unfold g_spec_BitsOf
 exact .bind specWidth_ok λ _ _=>.cond (λ _=>.some trivial) λ _=>.cond (λ _=>.some trivial) λ _=>.cond (λ _=>.some trivial) λ _=>.some trivial
theorem shl_ok {k:IntKind} {a b:Int} (h:0<=b):Tot (shlI k a b) λ _=>True:=by unfold shlI;rw[if_pos h];exact .some trivial
theorem wU64_nn (x:Int):0<=IntKind.wrap .u64 x:=by simp[IntKind.wrap,IntKind.bits,IntKind.signed];omega
theorem specOne_ok {s:Bs} (hs:1<=s.length/\s.length<=24):Tot (g_spec_l03One s) λ r=>(0<=r.1/\r.1 < 4294967296)/\1<=r.2/\r.2<=s.length:=by
 unfold g_spec_l03One
 have key:∀ (k:Nat) (f left n:Int),0<=n->n<=s.length->0<=left->left<=28->(n=0->left=28)->s.length-n < k->Tot (g_spec_l03One_l0 s k f left n) λ r=>1<=r.2/\r.2<=s.length:=by
  intro k
  induction k with
  | zero=>intro f left n h0 h1 h2 h3 h4 h5;omega
  | succ k ih =>
   intro f left n h0 h1 h2 h3 h4 h5
   unfold g_spec_l03One_l0
   refine .condD (λ hi => ?_) λ hi=>.some ⟨by omega,by omega⟩
   obtain ⟨v,hv,_⟩:=idxS_ex h0 hi
   refine .bindE hv (.bind specLetterOf_ok λ x hx=>.bind specWidth_ok λ w hw=>.condD (λ hc=>.some ⟨?_,by omega⟩) λ hc=>.bind specBits_ok λ b _=>.bind (shl_ok (wU64_nn _)) λ d _ => ?_)
   ·by_cases hn:n=0
    ·have:=h4 hn;omega
    ·show 1<=n;omega
   ·rw[wI64 (x:=n+1) (by omega) (by omega),wI64 (x:=left-w) (by omega) (by omega)]
    exact ih _ _ _ (by omega) (by omega) (by omega) (by omega) (by omega) (by omega)
 exact .bind (key bigK 0 28 0 (by decide) (by omega) (by decide) (by decide) (λ _=>rfl) (by unfold bigK;omega)) λ r hr=>.some ⟨wU32_bd _,hr.1,hr.2⟩
theorem specPack_ok {s:Bs} (hs:s.length<=1048576):Tot (g_spec_Pack s) λ r=>U32 r/\r.length<=24:=by
 unfold g_spec_Pack
 refine .bind (specNameOk_ok hs) λ a ha=>.cond (λ _=>.some ⟨.nil,by simp⟩) λ hc => ?_
 have hl:=ha (by simpa using hc)
 have key:∀ (k:Nat) (x:Bs) (out:List Int),x.length<=24->U32 out->out.length+x.length<=24->x.length < k->Tot (g_spec_Pack_l0 k x out) λ r=>U32 r/\r.length<=24:=by
  intro k
  induction k with
  | zero=>intro x out h0 h1 h2 h3;omega
  | succ k ih =>
   intro x out h0 h1 h2 h3
   unfold g_spec_Pack_l0
   refine .cond (λ hx => ?_) λ _=>.some ⟨h1,by omega⟩
   have hx1:1<=x.length:=by
    have:x≠[]:=by simpa using hx
    have:=List.length_pos_iff.2 this
    omega
   refine .bind (specOne_ok ⟨hx1,h0⟩) λ r hr=>.bindE (app_eq (by simp;omega)) (.bindE (subL_drop (by omega) hr.2.2) ?_)
   have hd:(x.drop r.2.toNat).length=x.length-r.2.toNat:=List.length_drop
   exact ih _ _ (by omega) (h1.app (.one hr.1)) (by rw[List.length_append,hd,List.length_singleton];omega) (by omega)
 exact .bind (key bigK s [] hl.2 .nil (by simp;omega) (by unfold bigK;omega)) λ r hr=>.some hr
theorem specWord_ok {tag:Int} {s:Bs} (hs:s.length<=1048576):Tot (g_spec_l04Word tag s) λ r=>U32 r/\r.length<=24:=by
 unfold g_spec_l04Word
 refine .bind (specPack_ok hs) λ a ha => ?_
 have key:∀ (k:Nat) (out:List Int) (i:Int),U32 out->out.length<=24->0<=i->i<=out.length->out.length-i < k->Tot (g_spec_l04Word_l0 tag k out i) λ r=>U32 r/\r.length<=24:=by
  intro k
  induction k with
  | zero=>intro out i h0 h1 h2 h3 h4;omega
  | succ k ih =>
   intro out i h0 h1 h2 h3 h4
   unfold g_spec_l04Word_l0
   refine .condD (λ hi => ?_) λ _=>.some ⟨h0,h1⟩
   obtain ⟨v,hv,_⟩:=getI_ex h2 hi
   refine .bind (Q:=λ o=>U32 o/\o.length=out.length) (.bindE hv (.bindE hv (.cond (λ _ => ?_) λ _=>.some ⟨h0.set (wU32_bd _),by simp⟩))) λ o ho => ?_
   ·obtain ⟨u,hu,_⟩:=getI_ex (xs:=out.set i.toNat (IntKind.wrap .u32 (v*16))) h2 (by simpa using hi)
    exact .bindE hu (.bindE hu (.some ⟨(h0.set (wU32_bd _)).set (wU32_bd _),by simp⟩))
   ·rw[wI64 (x:=i+1) (by omega) (by omega)]
    exact ih _ _ ho.1 (by omega) (by omega) (by omega) (by omega)
 exact .bind (.bind (key bigK a 0 ha.1 ha.2 (by decide) (by omega) (by unfold bigK;omega)) λ r hr=>.some hr) λ r hr=>.some hr
end Go.Proofs.YtgfamepnkhpemaaGreatDoor
namespace Go.Proofs.YtgfamepnkhpemaaGreatDoor
open Go Go.Fm
theorem specTag_ok {k:Int}:Tot (g_spec_l04Tag k) λ _=>True:=by
 unfold g_spec_l04Tag
 exact .cond (λ _=>.some trivial) λ _=>.cond (λ _=>.some trivial) λ _=>.cond (λ _=>.some trivial) λ _=>.cond (λ _=>.some trivial) λ _=>.cond (λ _=>.some trivial) λ _=>.cond (λ _=>.some trivial) λ _=>.some trivial
def EC (o:Unit ⊕ List Int):Prop:=match o with | .inl _=>True | .inr r=>U32 r/\r.length<=25
theorem specCells_ok {it:GItem} (hs:it.Name.length<=1048576) (hr:0<=it.Raw/\it.Raw < 4294967296):Tot (g_spec_CellsOf it) λ r=>U32 r/\r.length<=25:=by
 unfold g_spec_CellsOf
 have t3:∀ {a b c:Bool} {d:Bool},Tot (_root_.cond a (_root_.cond b (some c) (some false)) (some d)) λ _=>True:=λ {a b c d}=>by cases a<;>cases b<;>exact .some trivial
 have t2:∀ {a c d:Bool},Tot (_root_.cond a (some c) (some d)) λ _=>True:=λ {a c d}=>by cases a<;>exact .some trivial
 refine .bind t3 λ p _=>.bind (Q:=EC) ?_ λ o ho => ?_
 ·refine .cond (λ _=>.bind t3 λ a _=>.cond (λ _=>.some ⟨.one hr,by simp⟩) λ _=>.some trivial) λ _=>.cond (λ _=>.bind t2 λ a _=>.cond (λ _=>.bind specNum_ok λ r h=>.some ⟨h.1,by omega⟩) λ _=>.some trivial) λ _ =>
   .cond (λ _=>.bind t2 λ a _=>.cond (λ _=>.bind specNum_ok λ r h=>.some ⟨h.1,by omega⟩) λ _=>.some trivial) λ _ =>
   .cond (λ _=>.bind (specWord_ok hs) λ r h=>.bind t3 λ a _=>.cond (λ _=>.bindE (app_eq (by simp;omega)) (.some ⟨h.1.app (.one (wU32_bd _)),by simp;omega⟩)) λ _=>.some trivial) λ _ =>
   .bind specTag_ok λ t _=>.bind t2 λ a _=>.cond (λ _=>.bind (specWord_ok hs) λ r h=>.some ⟨h.1,by omega⟩) λ _=>.some trivial
 ·cases o with
  | inl _=>exact .some ⟨.nil,by simp⟩
  | inr r=>exact .some ho
end Go.Proofs.YtgfamepnkhpemaaGreatDoor
namespace Go.Fm
theorem nxt {n:Nat} (h:n < 16777216):IntKind.wrap .i64 ((n:Int)+1)=((n+1:Nat):Int):=by rw[wI64 (by omega) (by omega)];omega
def allN {α:Type} (p:Nat->α->Bool):Nat->List α->Bool
 | _,[]=>true
 | n,x::r=>p n x&&allN p (n+1) r
theorem allN_const {α:Type} (p:α->Bool):∀ (n:Nat) (l:List α),allN (λ _=>p) n l=l.all p
 | n,[]=>rfl
 | n,x::r=>by simp only[allN,List.all_cons,allN_const p (n+1) r]
theorem allLoop {α β:Type} {L:List α} {bad:β} (p:Nat->α->Bool) (F:Nat->Int->Option (Unit ⊕ β)) (step:∀ (k n:Nat) (x:α),L[n]? = some x->n < L.length->F (k+1) n=cond (p n x) (F k ((n+1:Nat):Int)) (some (.inr bad)))
  (fin:∀ k n:Nat,L.length<=n->F (k+1) n=some (.inl ())) (hm:L.length<=16777216):F bigK 0=some (cond (allN p 0 L) (.inl ()) (.inr bad)):=by
 have key:∀ (k n:Nat),n<=L.length->L.length-n < k->F k n=some (cond (allN p n (L.drop n)) (.inl ()) (.inr bad)):=by
  intro k
  induction k with
  | zero=>intro n h0 h1;omega
  | succ k ih =>
   intro n h0 h1
   by_cases hn:n < L.length
   ·rw[step k n L[n] (List.getElem?_eq_getElem hn) hn,List.drop_eq_getElem_cons hn]
    show _=some (cond (p n L[n]&&allN p (n+1) (L.drop (n+1))) _ _)
    cases p n L[n] with
    | false=>rfl
    | true=>rw[cond_true,ih (n+1) (by omega) (by omega),Bool.true_and]
   ·rw[fin k n (by omega),List.drop_eq_nil_of_le (by omega)];rfl
 have:=key bigK 0 (Nat.zero_le _) (by unfold bigK;omega)
 rw[List.drop_zero]at this
 exact this
theorem eqList {α:Type} [DecidableEq α] {a b:List α} (F:Nat->Int->Option (Unit ⊕ Bool)) (g:Option Bool) (hg:g=cond ((a.length:Int) != (b.length:Int)) (some false) (((F bigK 0).bind λ o=>match o with | .inl ()=>some (.inl ()) | .inr v=>some (.inr v):Option (Unit ⊕ Bool)).bind λ o=>match o with | .inl ()=>some true | .inr v=>some v))
  (hF:∀ (k:Nat) (i:Int),F (k+1) i=cond (decide (i < (a.length:Int))) ((getI a i).bind λ x=>(getI b i).bind λ y=>cond (!decide (x=y)) (some (.inr false)) (F k (IntKind.wrap .i64 (i+1)))) (some (.inl ()))) (hm:a.length<=1048576):g=some (decide (a=b)):=by
 rw[hg]
 by_cases hl:a.length=b.length
 ·have key:∀ (k n:Nat),n<=a.length->a.length-n < k->F k n=some (if a.drop n=b.drop n then .inl () else .inr false):=by
   intro k
   induction k with
   | zero=>intro n h0 h1;omega
   | succ k ih =>
    intro n h0 h1
    rw[hF]
    by_cases hn:n < a.length
    ·have hn':n < b.length:=by omega
     rw[decide_eq_true (by omega),getI_nat,getI_nat,List.getElem?_eq_getElem hn,List.getElem?_eq_getElem hn',List.drop_eq_getElem_cons hn,List.drop_eq_getElem_cons hn']
     simp only[cond_true,Option.bind_some]
     by_cases he:a[n]=b[n]
     ·rw[decide_eq_true he,Bool.not_true,cond_false,wI64 (by omega) (by omega),show ((n:Int)+1)=((n+1:Nat):Int) by omega,ih (n+1) (by omega) (by omega),he]
      simp only[List.cons.injEq,true_and]
     ·rw[decide_eq_false he,Bool.not_false,cond_true,if_neg (λ h=>he (List.cons.inj h).1)]
    ·rw[decide_eq_false (by omega),cond_false,List.drop_eq_nil_of_le (by omega),List.drop_eq_nil_of_le (by omega),if_pos rfl]
  have:((a.length:Int) != (b.length:Int))=false:=by rw[hl];simp
  rw[this,cond_false]
  have h:=key bigK 0 (Nat.zero_le _) (by unfold bigK;omega)
  rw[show ((0:Nat):Int)=0 from rfl]at h
  rw[h]
  by_cases he:a=b
  ·simp[he]
  ·simp[he]
 ·have:((a.length:Int) != (b.length:Int))=true:=by simp;omega
  rw[this,cond_true,decide_eq_false (λ h=>hl (by rw[h]))]
theorem eqRefl {α:Type} {a:List α} (F:Nat->Int->Option (Unit ⊕ Bool)) (f:Option Bool)
  (hf:f=cond ((a.length:Int) != (a.length:Int)) (some false) (((F bigK 0).bind λ o=>match o with | .inl ()=>some (.inl ()) | .inr v=>some (.inr v):Option (Unit ⊕ Bool)).bind λ o=>match o with | .inl ()=>some true | .inr v=>some v))
  (hs:∀ (k n:Nat) (x:α),a[n]? = some x->n < a.length->F (k+1) n=F k ((n+1:Nat):Int)) (he:∀ (k n:Nat),a.length<=n->F (k+1) n=some (.inl ())) (hm:a.length<=16777216):f=some true:=by
 have h:=allLoop (L:=a) (bad:=false) (λ _ _=>true) F (λ k n x hx hn=>by rw[hs k n x hx hn];rfl) he hm
 rw[hf,h]
 have e:∀ (n:Nat) (l:List α),allN (λ _ _=>true) n l=true:=λ n l=>by rw[allN_const (λ _=>true)];simp
 rw[e]
 simp
theorem bne_self' {α:Type} [BEq α] [LawfulBEq α] (x:α):(x != x)=false:=by simp
end Go.Fm
namespace Go.Proofs.YtgfamepnkhpemaaGreatDoor
open Go Go.Fm
theorem andU {a b:Int} (a0:0<=a) (a1:a < 4294967296) (b0:0<=b) (b1:b < 4294967296):andI .u32 a b=((a.toNat &&& b.toNat:Nat):Int):=by
 unfold andI
 rw[BitVec.toNat_and,bB_toNat (k:=.u32) a0 a1,bB_toNat (k:=.u32) b0 b1]
 have:a.toNat &&& b.toNat<=b.toNat:=Nat.and_le_right
 exact wU32 (Int.natCast_nonneg _) (by omega)
theorem orU {a b:Int} (a0:0<=a) (a1:a < 4294967296) (b0:0<=b) (b1:b < 4294967296):orI .u32 a b=((a.toNat ||| b.toNat:Nat):Int):=by
 unfold orI
 rw[BitVec.toNat_or,bB_toNat (k:=.u32) a0 a1,bB_toNat (k:=.u32) b0 b1]
 have:a.toNat ||| b.toNat < 2 ^ 32:=Nat.or_lt_two_pow (by omega) (by omega)
 exact wU32 (Int.natCast_nonneg _) (by omega)
theorem and15 {v:Int} (h0:0<=v) (h1:v < 4294967296):andI .u32 v 15=v % 16:=by
 rw[andU h0 h1 (by decide) (by decide)]
 have:v.toNat &&& 15=v.toNat % 16:=Nat.and_two_pow_sub_one_eq_mod v.toNat 4
 show ((v.toNat &&& 15:Nat):Int)=_
 rw[this];omega
theorem and16 {v:Int} (h0:0<=v) (h1:v < 4294967296):(andI .u32 v 16 != 0)=decide (v / 16 % 2=1):=by
 rw[andU h0 h1 (by decide) (by decide)]
 show ((((v.toNat &&& 16:Nat):Int)) != 0)=_
 have h2:v.toNat &&& 16=16*(v.toNat / 16 % 2):=by
  have e1:v.toNat &&& 16=(v.toNat &&& 31) &&& 16:=by rw[Nat.and_assoc];rfl
  have e2:v.toNat &&& 31=v.toNat % 32:=Nat.and_two_pow_sub_one_eq_mod v.toNat 5
  have e3:∀ r,r < 32->r &&& 16=16*(r / 16):=by decide
  rw[e1,e2,e3 _ (Nat.mod_lt _ (by decide))]
  omega
 rw[h2]
 by_cases h:v / 16 % 2=1
 ·rw[decide_eq_true h]
  have:v.toNat / 16 % 2=1:=by omega
  rw[this];rfl
 ·rw[decide_eq_false h]
  have:v.toNat / 16 % 2=0:=by omega
  rw[this];rfl
theorem or_low {q r:Nat} (i:Nat) (hr:r < 2 ^ i):(2 ^ i*q) ||| r=2 ^ i*q+r:=(Nat.two_pow_add_eq_or_of_lt hr q).symm
theorem or16 {v t:Int} (h0:0<=v) (h1:v < 268435456) (t0:0<=t) (t1:t < 16):orI .u32 (IntKind.wrap .u32 (v*16)) t=v*16+t:=by
 rw[wU32 (by omega) (by omega),orU (by omega) (by omega) t0 (by omega)]
 have e:(v*16).toNat=2 ^ 4*v.toNat:=by omega
 rw[e,or_low 4 (by omega)]
 omega
theorem within_eq {x a b:Int}:g_impl_within x a b=some (decide (a<=x/\x<=b)):=by
 unfold g_impl_within
 by_cases h:a<=x
 ·rw[decide_eq_true h]
  simp only[cond_true]
  congr 1
  exact decide_eq_decide.2 ⟨λ h2=>⟨h,h2⟩,λ h2=>h2.2⟩
 ·rw[decide_eq_false h]
  simp only[cond_false]
  congr 1
  exact (decide_eq_false λ h2=>h h2.1).symm
theorem width_ok {k:Int}:Tot (g_impl_WidthOf k) λ w=>0<=w/\w<=7/\(0<=k->k<=47->4<=w):=by
 unfold g_impl_WidthOf
 refine .bindE within_eq (.condD (λ _=>.some (by omega)) λ h1=>.bindE within_eq (.condD (λ _=>.some (by omega)) λ h2=>.bindE within_eq (.condD (λ _=>.some (by omega)) λ h3=>.some (by omega))))
theorem bits_ok {k:Int}:Tot (g_impl_BitsOf k) λ w=>True:=by
 unfold g_impl_BitsOf
 exact .bind width_ok λ _ _=>.cond (λ _=>.some trivial) λ _=>.cond (λ _=>.some trivial) λ _=>.cond (λ _=>.some trivial) λ _=>.some trivial
theorem shr_ok {k:IntKind} {a b:Int} (h:0<=b):Tot (shrI k a b) λ _=>True:=by unfold shrI;rw[if_pos h];exact .some trivial
def DC (n:Int) (o:Unit ⊕ (Int×Int)):Prop:=match o with | .inl _=>True | .inr r=>r.1<=47/\4<=r.2/\r.2<=n
theorem decode_ok {f n:Int}:Tot (g_impl_Decode f n) λ r=>r.1<=47/\(1<=r.1->4<=r.2/\r.2<=n):=by
 unfold g_impl_Decode
 refine .bindE within_eq (.cond (λ _=>.some ⟨by decide,λ h=>absurd h (by decide)⟩) λ hc => ?_)
 have hn:1<=n/\n<=32:=by simpa using hc
 have key:∀ (k:Nat) (i:Int),0<=i->i<=48->48-i < k->Tot (g_impl_Decode_l0 f n k i) (DC n):=by
  intro k
  induction k with
  | zero=>intro i h0 h1 h2;omega
  | succ k ih =>
   intro i h0 h1 h2
   unfold g_impl_Decode_l0
   refine .condD (λ hi=>.bind width_ok λ w hw=>.bind (Q:=λ b=>b=true->w<=n) (.condD (λ hc => ?_) λ _=>.some λ h=>nomatch h) λ b hb=>.cond (λ hb2=>.some ⟨by show i<=47;omega,hw.2.2 h0 (by omega),hb hb2⟩) λ _ => ?_) λ _=>.some trivial
   ·rw[wI64 (x:=n-w) (by omega) (by omega)]
    exact .bind (shr_ok (by omega)) λ _ _=>.bind (shl_ok (by omega)) λ _ _=>.bind bits_ok λ _ _=>.some λ _=>hc
   ·rw[wI64 (x:=i+1) (by omega) (by omega)]
    exact ih _ (by omega) (by omega) (by omega)
 refine .bind (Q:=DC n) (.bind (key bigK 0 (by decide) (by decide) (by decide)) λ o ho => ?_) λ o ho => ?_
 ·cases o<;>exact .some ho
 ·cases o with
  | inl _=>exact .some ⟨by decide,λ h=>absurd h (by decide)⟩
  | inr r=>exact .some ⟨ho.1,λ _=>ho.2⟩
def Letters:Bs:=[32,114,116,111,101,97,110,105,115,109,99,121,108,103,102,119,100,118,112,98,104,120,117,113,48,49,50,51,52,53,54,55,56,57,106,45,107,46,122,47,59,39,33,43,64,42,44,63]
theorem letters_len:Letters.length=48:=rfl
theorem letterAt_ok {k:Int}:Tot (g_impl_LetterAt k) λ v=>0<=v/\v < 256:=by
 unfold g_impl_LetterAt
 refine .bindE within_eq (.cond (λ _=>.some (by decide)) λ hc => ?_)
 have hk:0<=k/\k<=47:=by simpa using hc
 obtain ⟨v,hv,h0,h1,_⟩:=idxS_ex (l:=Letters) (i:=k) hk.1 (by rw[letters_len];omega)
 exact .bindE (a:=Letters) rfl (.bindE hv (.some ⟨h0,h1⟩))
theorem unpackOne_ok {f:Int}:Tot (g_impl_UnpackOne f) λ r=>r.length<=7:=by
 unfold g_impl_UnpackOne
 refine .condD (λ _=>.some (by simp)) λ _ => ?_
 have key:∀ (k:Nat) (out:List Int) (left:Int),0<=left->left<=28->(out.length:Int)*4<=28-left->left < k->Tot (g_impl_UnpackOne_l0 f k out left) λ r=>r.length<=7:=by
  intro k
  induction k with
  | zero=>intro out left h0 h1 h2 h3;omega
  | succ k ih =>
   intro out left h0 h1 h2 h3
   unfold g_impl_UnpackOne_l0
   refine .bind (shl_ok h0) λ s _=>.cond (λ _=>.bind decode_ok λ d hd=>.condD (λ _=>.some (by omega)) λ h1=>.bind letterAt_ok λ v _=>.bindE (app_eq (by simp;omega)) ?_) λ _=>.some (by omega)
   have:=hd.2 (by omega)
   rw[wI64 (x:=left-d.2) (by omega) (by omega)]
   exact ih _ _ (by omega) (by omega) (by simp;omega) (by omega)
 refine .bind (key bigK [] 28 (by decide) (by decide) (by decide) (by decide)) λ r hr=>.some ?_
 show (strOf r).length<=7
 unfold strOf;rw[List.length_map];exact hr
theorem idxB_bd {l:List UInt8} {c:Int} : -1<=idxB l c/\idxB l c < l.length:=by
 unfold idxB
 cases h:l.findIdx? (λ b=>(b.toNat:Int)==c) with
 | none=>exact ⟨by decide,by show (-1:Int) < _;omega⟩
 | some i =>
  have:=(List.findIdx?_eq_some_iff_getElem.1 h).1
  exact ⟨by show (-1:Int)<=(i:Int);omega,by show (i:Int) < _;omega⟩
theorem letterOf_ok {b:Int} (h0:0<=b) (h1:b < 256):Tot (g_impl_LetterOf b) λ r => -1<=r/\r<=47:=by
 unfold g_impl_LetterOf g_strings_IndexByte g_istringslite_IndexByte g_ibytealg_IndexByteString gIdxB
 refine .bindE (a:=Letters) rfl (.bind (Q:=λ r => -1<=r/\r<=47) (.bind (Q:=λ r => -1<=r/\r<=47) ?_ λ r h=>.some h) λ r h=>.some h)
 refine .bind (Q:=λ r => -1<=r/\r<=47) ?_ λ r h=>.some h
 rw[if_pos ⟨h0,h1⟩]
 refine .some ⟨idxB_bd.1,?_⟩
 have:=(idxB_bd (l:=Letters) (c:=b)).2
 rw[letters_len]at this
 omega
theorem nameOk_ok {s:Bs} (hs:s.length<=1048576):Tot (g_impl_NameOk s) λ r=>r=true->1<=s.length/\s.length<=24:=by
 unfold g_impl_NameOk
 have key:∀ (k:Nat) (i:Int),0<=i->i<=s.length->s.length-i < k->Tot (g_impl_NameOk_l0 s (s.length:Int) k i) λ o=>match o with | .inl _=>True | .inr v=>v=false:=by
  intro k
  induction k with
  | zero=>intro i h0 h1 h2;omega
  | succ k ih =>
   intro i h0 h1 h2
   unfold g_impl_NameOk_l0
   refine .condD (λ hi => ?_) λ _=>.some trivial
   obtain ⟨v,hv,v0,v1,_⟩:=idxS_ex h0 hi
   refine .bindE hv (.bind (letterOf_ok v0 v1) λ x hx=>.condD (λ _=>.some rfl) λ _ => ?_)
   rw[wI64 (x:=i+1) (by omega) (by omega)]
   exact ih _ (by omega) (by omega) (by omega)
 refine .bind (Q:=λ o:Unit ⊕ Bool=>match o with | .inl _=>True | .inr v=>v=false) (.bind (key bigK 0 (by decide) (by omega) (by unfold bigK;omega)) λ o ho => ?_) λ o ho => ?_
 ·cases o with
  | inl _=>exact .some trivial
  | inr v=>exact .some ho
 ·cases o with
  | inl _=>exact .bindE within_eq (.some λ h=>by have:=of_decide_eq_true h;omega)
  | inr v=>exact .some λ h=>by rw[show v=false from ho]at h;cases h
theorem packOne_ok {s:Bs} (hs:s.length<=1048576):Tot (g_impl_PackOne s) λ r=>(0<=r.1/\r.1 < 4294967296)/\0<=r.2/\r.2<=s.length/\(g_impl_NameOk s=some true->1<=r.2):=by
 unfold g_impl_PackOne
 obtain ⟨b,hb,hl⟩:=nameOk_ok hs
 rw[hb]
 refine .bindE rfl (.cond (λ hc=>.some ⟨by decide,by decide,by show (0:Int)<=_;omega,λ h=>by cases h;cases hc⟩) λ hc => ?_)
 have hb1:b=true:=by simpa using hc
 have hs1:=hl hb1
 have key:∀ (k:Nat) (f left many n:Int),0<=n->n<=s.length->0<=left->left<=28->(n=0->left=28)->many=n->(0<=f/\f < 4294967296)->s.length-n < k →
   Tot (g_impl_PackOne_l0 s (s.length:Int) k f left many n) λ r=>(0<=r.1/\r.1 < 4294967296)/\1<=r.2/\r.2<=s.length:=by
  intro k
  induction k with
  | zero=>intro f left many n h0 h1 h2 h3 h4 h5 h6 h7;omega
  | succ k ih =>
   intro f left many n h0 h1 h2 h3 h4 h5 h6 h7
   unfold g_impl_PackOne_l0
   refine .condD (λ hi => ?_) λ hi=>.some ⟨h6,by show 1<=many;omega,by show many<=_;omega⟩
   obtain ⟨v,hv,v0,v1,_⟩:=idxS_ex h0 hi
   refine .bindE hv (.bind (letterOf_ok v0 v1) λ x hx => ?_)
   obtain ⟨w,hw,hw0,hw1,_⟩:=width_ok (k:=x)
   refine .bindE hw (.condD (λ hc=>.some ⟨h6,?_,by show many<=_;omega⟩) λ hc=>.bindE hw (.bind bits_ok λ b _ => ?_))
   ·show 1<=many
    by_cases hn:n=0
    ·have:=h4 hn;omega
    ·omega
   ·rw[wI64 (x:=n+1) (by omega) (by omega),wI64 (x:=left-w) (by omega) (by omega),wI64 (x:=many+1) (by omega) (by omega)]
    refine .bind (shl_ok (by omega)) λ d _=>ih _ _ _ _ (by omega) (by omega) (by omega) (by omega) (by omega) (by omega) (wU32_bd _) (by omega)
 refine .bind (Q:=λ r:Int×Int=>(0<=r.1/\r.1 < 4294967296)/\1<=r.2/\r.2<=s.length) (.bind (key bigK 0 28 0 0 (by decide) (by omega) (by decide) (by decide) (λ _=>rfl) rfl (by decide) (by unfold bigK;omega)) λ r hr=>.some hr) λ r hr=>.some ⟨hr.1,by have:=hr.2.1;show 0<=r.2;omega,hr.2.2,λ _=>hr.2.1⟩
theorem pack_ok {s:Bs} (hs:s.length<=1048576):Tot (g_impl_Pack s) λ r=>U32 r/\r.length<=24:=by
 unfold g_impl_Pack
 have key:∀ (k:Nat) (x:Bs) (out:List Int),x.length<=1048576->U32 out->(out=[]\/out.length+x.length<=24)->x.length < k->Tot (g_impl_Pack_l0 k x out) λ r=>U32 r/\r.length<=24:=by
  intro k
  induction k with
  | zero=>intro x out h0 h1 h2 h3;omega
  | succ k ih =>
   intro x out h0 h1 h2 h3
   unfold g_impl_Pack_l0
   obtain ⟨b,hb,hl⟩:=nameOk_ok h0
   have ho:out.length<=24:=by
    rcases h2 with rfl|h2
    ·simp
    ·omega
   refine .bindE hb (.cond (λ hc => ?_) λ _=>.some ⟨h1,ho⟩)
   subst hc
   have hx:=hl rfl
   have h2':out.length+x.length<=24:=by
    rcases h2 with rfl|h2
    ·simpa using hx.2
    ·exact h2
   refine .bind (packOne_ok h0) λ r hr=>.bindE (app_eq (by simp;omega)) (.bindE (subL_drop hr.2.1 hr.2.2.1) ?_)
   have h4:=hr.2.2.2 hb
   have hd:(x.drop r.2.toNat).length=x.length-r.2.toNat:=List.length_drop
   exact ih _ _ (by omega) (h1.app (.one hr.1)) (.inr (by rw[List.length_append,hd,List.length_singleton];omega)) (by omega)
 exact .bind (key bigK s [] hs .nil (.inl rfl) (by unfold bigK;omega)) λ r hr=>.some hr
end Go.Proofs.YtgfamepnkhpemaaGreatDoor
