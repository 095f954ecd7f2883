import Derived.Test.YtcnbncafiinfjaaDoorCS
import Derived.Shelf.Sort.Plain
import Derived.KernelRfl
set_option linter.all false
namespace Go.Proofs.YtcnbncafiinfjaaDoor
open Go Go.Fm
set_option maxRecDepth 100000
abbrev Bs:=List UInt8
structure GL01Cur where
 b:List Int
 i:Int
 h:Int
 deriving DecidableEq,Inhabited
structure GOp where
 Kind:Int
 N:Int
 deriving DecidableEq,Inhabited
structure GDef where
 Name:Bs
 Body:List GOp
 deriving DecidableEq,Inhabited
def GL01Cur.cs (x:GL01Cur):List CV:=[.imm 1 x.b.length (x.b.flatMap (eI .u8)), .int .i64 x.i, .int .i64 x.h]
def GOp.cs (x:GOp):List CV:=[.int .i64 x.Kind, .int .i32 x.N]
def GDef.cs (x:GDef):List CV:=[.str x.Name, .imm 2 x.Body.length (x.Body.flatMap GOp.cs)]
instance:StTy:=⟨λ n=>match n with|0=>GL01Cur|1=>GDef|2=>GOp|_=>Unit,λ n=>match n with|0=>3|1=>2|2=>2|_=>0,lkA [(74,1),(82,2),(147,0)]⟩
noncomputable instance:StCs:=⟨λ n=>match n with|0=>GL01Cur.cs|1=>GDef.cs|2=>GOp.cs|_=>λ _=>[]⟩
noncomputable def GL01Cur.lv (x:GL01Cur):List TC:=[.imm (.int .u8) x.b, .int .i64 x.i, .int .i64 x.h]
noncomputable def GL01Cur.of:List TC->Option GL01Cur
 | [c0,c1,c2]=>(tImm (.int .u8) c0).bind λ x0=>(tInt .i64 c1).bind λ x1=>(tInt .i64 c2).bind λ x2=>some ⟨x0,x1,x2⟩
 | _=>none
theorem GL01Cur.made {l:List TC} {v:GL01Cur} (h:GL01Cur.of l=some v):CRs l v.lv:=by
 match l,h with
 | [c0,c1,c2],h =>
  obtain ⟨x0,e0,h⟩:=bS h
  obtain ⟨x1,e1,h⟩:=bS h
  obtain ⟨x2,e2,h⟩:=bS h
  cases h
  exact ⟨tImm_cr e0,tInt_cr e1,tInt_cr e2,trivial⟩
noncomputable def GDef.lv (x:GDef):List TC:=[.str x.Name, .imm (.st 2) x.Body]
noncomputable def GDef.of:List TC->Option GDef
 | [c0,c1]=>(tStr c0).bind λ x0=>(tImm (.st 2) c1).bind λ x1=>some ⟨x0,x1⟩
 | _=>none
theorem GDef.made {l:List TC} {v:GDef} (h:GDef.of l=some v):CRs l v.lv:=by
 match l,h with
 | [c0,c1],h =>
  obtain ⟨x0,e0,h⟩:=bS h
  obtain ⟨x1,e1,h⟩:=bS h
  cases h
  exact ⟨tStr_cr e0,tImm_cr e1,trivial⟩
noncomputable def GOp.lv (x:GOp):List TC:=[.int .i64 x.Kind, .int .i32 x.N]
noncomputable def GOp.of:List TC->Option GOp
 | [c0,c1]=>(tInt .i64 c0).bind λ x0=>(tInt .i32 c1).bind λ x1=>some ⟨x0,x1⟩
 | _=>none
theorem GOp.made {l:List TC} {v:GOp} (h:GOp.of l=some v):CRs l v.lv:=by
 match l,h with
 | [c0,c1],h =>
  obtain ⟨x0,e0,h⟩:=bS h
  obtain ⟨x1,e1,h⟩:=bS h
  cases h
  exact ⟨tInt_cr e0,tInt_cr e1,trivial⟩
noncomputable instance:Structs where
 leaves:=λ n=>match n with|0=>GL01Cur.lv|1=>GDef.lv|2=>GOp.lv|_=>λ _=>[]
 make:=λ n=>match n with|0=>GL01Cur.of|1=>GDef.of|2=>GOp.of|_=>λ _=>none
 plain:=λ n=>match n with|0=>false|1=>false|2=>true|_=>false
 lt:=λ n=>match n with|0=>[(.int .u8), .bool, .bool]|1=>[.bool,(.st 2)]|2=>[.bool, .bool]|_=>[]
 len:=λ n v=>match n,v with|0,_=>rfl|1,_=>rfl|2,_=>rfl|_+3,_=>rfl
 conc:=λ n v=>match n,v with|0,_=>rfl|1,_=>rfl|2,_=>rfl|_+3,_=>rfl
 pure:=λ n v=>match n,v with|0,_=>rfl|1,_=>rfl|2,_=>rfl|_+3,_=>rfl
 made:=λ n l v h=>match n,v,h with|0,v,h=>GL01Cur.made h|1,v,h=>GDef.made h|2,v,h=>GOp.made h|_+3,_,h=>nomatch h
 flat:=λ n v h=>match n,v,h with|0,_,h=>nomatch h|1,_,h=>nomatch h|2,_,_=>rfl|_+3,_,h=>nomatch h
noncomputable instance:Tabs:=⟨λ g=>match g with|0=>some ⟨.int .u8,gtAscii⟩|_=>none,λ g=>match g with|0=>rfl|_+1=>rfl⟩
abbrev K0:Ty:=.int .u8
abbrev K1:Ty:=.list K0
abbrev K2:Ty:=.bool
abbrev K3:Ty:=.int .i64
abbrev K4:Ty:=.st 0
abbrev K5:Ty:=.str
abbrev K7:Ty:=.st 2
abbrev K8:Ty:=.list K7
abbrev K9:Ty:=.st 1
abbrev K10:Ty:=.list K9
abbrev K11:Ty:=.list K3
abbrev K12:Ty:=.list K5
end Go.Proofs.YtcnbncafiinfjaaDoor
namespace Go.Proofs.YtcnbncafiinfjaaDoor
open Go Go.Fm
set_option maxRecDepth 1000000
def g_laws_big (code_1:List Int):Option Bool:=some (decide ((code_1.length:Int) > 1048576))
def g_spec_l01New_l0 (code_1:List Int):Nat->Int->Int->Option Int
 | 0,_,_=>none
 | k+1,h_4,i_5=>(cond (decide (i_5 < (code_1.length:Int))) (some (decide (i_5 < 4000))) (some false):Option (Bool)).bind λ v_7=>cond v_7 ((getI code_1 i_5).bind λ v_8=>g_spec_l01New_l0 code_1 k (andI .i64 (IntKind.wrap .i64 ((IntKind.wrap .i64 ((IntKind.wrap .i64 (h_4*131))+(IntKind.wrap .i64 v_8)))+7)) 1073741823) (IntKind.wrap .i64 (i_5+1))) (some h_4)
def g_spec_l01New (code_1:List Int):Option GL01Cur:=((g_spec_l01New_l0 code_1 bigK (IntKind.wrap .i64 (711711+(code_1.length:Int))) 0).bind λ h_6=>some h_6:Option (Int)).bind λ h_3=>some (⟨code_1,0,h_3⟩:GL01Cur)
def g_spec_l01Byte (c_1:GL01Cur):Option (Int×GL01Cur):=(cond (decide (c_1.i < (c_1.b.length:Int))) ((getI c_1.b c_1.i).bind λ v_6=>some (andI .i64 (IntKind.wrap .i64 ((andI .i64 (xorI .i64 ((IntKind.wrap .i64 ((IntKind.wrap .i64 (c_1.h*6364136223846793005))+1442695040888963407)) / 8589934592) ((IntKind.wrap .i64 ((IntKind.wrap .i64 (c_1.h*6364136223846793005))+1442695040888963407)) / 35184372088832)) 255)+(IntKind.wrap .i64 v_6))) 255,(⟨c_1.b,IntKind.wrap .i64 (c_1.i+1),IntKind.wrap .i64 ((IntKind.wrap .i64 (c_1.h*6364136223846793005))+1442695040888963407)⟩:GL01Cur))) (some (andI .i64 (xorI .i64 ((IntKind.wrap .i64 ((IntKind.wrap .i64 (c_1.h*6364136223846793005))+1442695040888963407)) / 8589934592) ((IntKind.wrap .i64 ((IntKind.wrap .i64 (c_1.h*6364136223846793005))+1442695040888963407)) / 35184372088832)) 255,(⟨c_1.b,c_1.i,IntKind.wrap .i64 ((IntKind.wrap .i64 (c_1.h*6364136223846793005))+1442695040888963407)⟩:GL01Cur))):Option ((Int×GL01Cur))).bind λ (x_4,x_5)=>some (x_4,x_5)
def g_spec_l01Below (n_1:Int) (c_2:GL01Cur):Option (Int×GL01Cur):=cond (decide (n_1<=0)) (some (0,c_2)) (cond (decide (n_1<=256)) ((g_spec_l01Byte c_2).bind λ y_5=>(remI .i64 y_5.1 n_1).bind λ v_6=>some (v_6,y_5.2)) ((g_spec_l01Byte c_2).bind λ y_7=>(g_spec_l01Byte y_7.2).bind λ y_8=>(g_spec_l01Byte y_8.2).bind λ y_9=>(g_spec_l01Byte y_9.2).bind λ y_10=>(remI .i64 (IntKind.wrap .i64 ((IntKind.wrap .i64 ((IntKind.wrap .i64 ((IntKind.wrap .i64 (y_7.1*16777216))+(IntKind.wrap .i64 (y_8.1*65536))))+(IntKind.wrap .i64 (y_9.1*256))))+y_10.1)) n_1).bind λ v_11=>some (v_11,y_10.2)))
def g_spec_l01Once (n_1:Int) (c_2:GL01Cur):Option (Bool×GL01Cur):=(g_spec_l01Below n_1 c_2).bind λ y_5=>some ((y_5.1==0),y_5.2)
def g_spec_l01PickInt (list_1:List Int) (c_2:GL01Cur):Option (Int×GL01Cur):=(g_spec_l01Below (list_1.length:Int) c_2).bind λ y_5=>(getI list_1 y_5.1).bind λ v_6=>some (v_6,y_5.2)
def g_spec_l09Plain (n_1:Int) (c_2:GL01Cur):Option (GOp×GL01Cur):=((g_spec_l01Below 7 c_2).bind λ y_9=>(cond (y_9.1==0) (some (y_9.1==0)) (some (y_9.1==1)):Option (Bool)).bind λ v_10=>cond v_10 ((g_spec_l01Below 9 y_9.2).bind λ y_11=>some (.inr (y_11.2,(⟨0,IntKind.wrap .i32 (IntKind.wrap .i64 (y_11.1-2))⟩:GOp)))) (cond (y_9.1==2) (cond (decide (n_1 > 0)) ((g_spec_l01Below n_1 y_9.2).bind λ y_12=>some (.inr (y_12.2,(⟨2,IntKind.wrap .i32 y_12.1⟩:GOp)))) (some (.inl (y_9.2,(⟨0,0⟩:GOp))))) (some (.inl (y_9.2,(⟨0,0⟩:GOp))))):Option ((GL01Cur×GOp) ⊕ (GL01Cur×GOp))).bind λ o=>match o with | .inl (x_5,x_6)=>(g_spec_l01PickInt [0,0,1,2,3,4,5,5,6,7,8,9,10,11,12,13,14,15,16,17,18,19,20,21,22,22,23] x_5).bind λ y_13=>some ((⟨1,IntKind.wrap .i32 y_13.1⟩:GOp),y_13.2) | .inr (x_7,x_8)=>some (x_8,x_7)
def g_spec_l09Body_l0 (rc_g_spec_l09Body:Int->Int->GL01Cur->Option ((List GOp)×GL01Cur)) (n_1:Int) (deep_2:Int) (k_9:Int):Nat->(List GOp)->Int->GL01Cur->Option ((List GOp)×GL01Cur)
 | 0,_,_,_=>none
 | k+1,out_10,i_11,x_12=>cond (decide (i_11 < k_9)) (((g_spec_l09Plain n_1 x_12).bind λ y_17=>(app out_10 [y_17.1]).bind λ v_18=>(cond (decide (deep_2<=0)) (some (true,y_17.2)) ((g_spec_l01Once 3 y_17.2).bind λ y_21=>some ((!y_21.1),y_21.2)):Option ((Bool×GL01Cur))).bind λ (v_19,x_20)=>cond v_19 (some (v_18,x_20)) ((rc_g_spec_l09Body n_1 (IntKind.wrap .i64 (deep_2-1)) x_20).bind λ y_22=>(g_spec_l01Below 3 y_22.2).bind λ y_23=>cond (y_23.1==0) ((g_spec_l01Below 4 y_23.2).bind λ y_24=>(app v_18 [(⟨0,IntKind.wrap .i32 y_24.1⟩:GOp),(⟨6,0⟩:GOp)]).bind λ v_25=>(app v_25 y_22.1).bind λ v_26=>(app v_26 [(⟨7,0⟩:GOp)]).bind λ v_27=>some (v_27,y_24.2)) (cond (y_23.1==1) ((app v_18 [(⟨3,0⟩:GOp)]).bind λ v_28=>(app v_28 y_22.1).bind λ v_29=>(app v_29 [(⟨5,0⟩:GOp)]).bind λ v_30=>some (v_30,y_23.2)) ((app v_18 [(⟨4,0⟩:GOp)]).bind λ v_31=>(app v_31 y_22.1).bind λ v_32=>(app v_32 [(⟨5,0⟩:GOp)]).bind λ v_33=>some (v_33,y_23.2)))):Option (((List GOp)×GL01Cur))).bind λ (out_15,x_16)=>g_spec_l09Body_l0 rc_g_spec_l09Body n_1 deep_2 k_9 k out_15 (IntKind.wrap .i64 (i_11+1)) x_16) (some (out_10,x_12))
def g_spec_l09Body_b (rc_g_spec_l09Body:Int->Int->GL01Cur->Option ((List GOp)×GL01Cur)) (n_1:Int) (deep_2:Int) (c_3:GL01Cur):Option ((List GOp)×GL01Cur):=(g_spec_l01Below 5 c_3).bind λ y_6=>((g_spec_l09Body_l0 rc_g_spec_l09Body n_1 deep_2 y_6.1 bigK ([]:List GOp) 0 y_6.2).bind λ (out_13,x_14)=>some (out_13,x_14):Option (((List GOp)×GL01Cur))).bind λ (out_7,x_8)=>((g_spec_l01Once 4 x_8).bind λ y_36=>cond y_36.1 ((app out_7 [(⟨8,0⟩:GOp)]).bind λ v_37=>some (v_37,y_36.2)) (some (out_7,y_36.2)):Option (((List GOp)×GL01Cur))).bind λ (out_34,x_35)=>some (out_34,x_35)
def g_spec_l09Body_r:Nat->Int->Int->GL01Cur->Option ((List GOp)×GL01Cur)
 | 0=>λ _ _ _=>none
 | k+1=>g_spec_l09Body_b (g_spec_l09Body_r k)
def g_spec_l09Body (n_1:Int) (deep_2:Int) (c_3:GL01Cur):Option ((List GOp)×GL01Cur):=g_spec_l09Body_r bigK n_1 deep_2 c_3
def g_spec_l01Pick (list_1:List Bs) (c_2:GL01Cur):Option (Bs×GL01Cur):=(g_spec_l01Below (list_1.length:Int) c_2).bind λ y_5=>(getI list_1 y_5.1).bind λ v_6=>some (v_6,y_5.2)
def g_spec_l09Make_l0 (n_7:Int):Nat->(List GDef)->Int->GL01Cur->Option ((List GDef)×GL01Cur)
 | 0,_,_,_=>none
 | k+1,out_8,i_9,x_10=>cond (decide (i_9 < n_7)) ((((g_spec_l01Once 4 x_10).bind λ y_17=>cond y_17.1 (some (n_7,y_17.2)) (some (i_9,y_17.2)):Option ((Int×GL01Cur))).bind λ (calls_15,x_16)=>(g_spec_l09Body calls_15 2 x_16).bind λ y_18=>(cond (decide ((y_18.1.length:Int) > 50)) (some ([]:List GOp)) (some y_18.1):Option ((List GOp))).bind λ body_19=>((g_spec_l01Below 6 y_18.2).bind λ y_22=>cond (y_22.1==0) (some (body_19,y_22.2)) (cond (y_22.1==1) ((cond (decide (calls_15 > 0)) ((g_spec_l01Below calls_15 y_22.2).bind λ y_25=>(app body_19 [(⟨2,IntKind.wrap .i32 y_25.1⟩:GOp)]).bind λ v_26=>some (v_26,y_25.2)) (some (body_19,y_22.2)):Option (((List GOp)×GL01Cur))).bind λ (body_23,x_24)=>(app body_23 [(⟨8,0⟩:GOp)]).bind λ v_27=>some (v_27,x_24)) ((app body_19 [(⟨8,0⟩:GOp)]).bind λ v_28=>some (v_28,y_22.2))):Option (((List GOp)×GL01Cur))).bind λ (body_20,x_21)=>(g_spec_l01Pick [[103,111],[120],[115,113,117,97,114,101],[97,33,97],[116,101,110]] x_21).bind λ y_29=>(app out_8 [(⟨y_29.1,body_20⟩:GDef)]).bind λ v_30=>some (v_30,y_29.2):Option (((List GDef)×GL01Cur))).bind λ (out_13,x_14)=>g_spec_l09Make_l0 n_7 k out_13 (IntKind.wrap .i64 (i_9+1)) x_14) (some (out_8,x_10))
def g_spec_l09Make (c_1:GL01Cur):Option ((List GDef)×GL01Cur):=(g_spec_l01Below 4 c_1).bind λ y_4=>((g_spec_l09Make_l0 (IntKind.wrap .i64 (1+y_4.1)) bigK ([]:List GDef) 0 y_4.2).bind λ (out_11,x_12)=>some (out_11,x_12):Option (((List GDef)×GL01Cur))).bind λ (out_5,x_6)=>some (out_5,x_6)
def g_spec_l09Any_l0:Nat->(List GOp)->GL01Cur->Option ((List GOp)×GL01Cur)
 | 0,_,_=>none
 | k+1,body_17,x_18=>(g_spec_l01Below 4 x_18).bind λ y_21=>cond (decide ((body_17.length:Int) < (IntKind.wrap .i64 (58+y_21.1)))) ((app body_17 [(⟨0,1⟩:GOp)]).bind λ v_22=>g_spec_l09Any_l0 k v_22 y_21.2) (some (body_17,y_21.2))
def g_spec_l09Any (c_1:GL01Cur):Option ((List GOp)×GL01Cur):=(g_spec_l09Body 3 3 c_1).bind λ y_4=>((g_spec_l01Below 8 y_4.2).bind λ y_9=>cond (y_9.1==0) ((g_spec_l01Below 11 y_9.2).bind λ y_10=>(g_spec_l01Below 3 y_10.2).bind λ y_11=>(app y_4.1 [(⟨IntKind.wrap .i64 (y_10.1-1),IntKind.wrap .i32 y_11.1⟩:GOp)]).bind λ v_12=>some (.inr (v_12,y_11.2))) (cond (y_9.1==1) (cond (decide ((y_4.1.length:Int) > 0)) ((g_spec_l01Below (y_4.1.length:Int) y_9.2).bind λ y_13=>(g_spec_l01Below 11 y_13.2).bind λ y_14=>(g_spec_l01PickInt [0,23,24,(-1)] y_14.2).bind λ y_15=>(getI y_4.1 y_13.1).bind λ v_16=>some (.inl (y_4.1.set y_13.1.toNat (⟨IntKind.wrap .i64 (y_14.1-1),IntKind.wrap .i32 y_15.1⟩:GOp),y_15.2))) (some (.inl (y_4.1,y_9.2)))) (cond (y_9.1==2) ((g_spec_l09Any_l0 bigK y_4.1 y_9.2).bind λ (body_19,x_20)=>some (.inl (body_19,x_20))) (some (.inl (y_4.1,y_9.2))))):Option (((List GOp)×GL01Cur) ⊕ ((List GOp)×GL01Cur))).bind λ o=>match o with | .inl (body_5,x_6)=>some (body_5,x_6) | .inr (v_7,x_8)=>some (v_7,x_8)
def g_spec_l09Any_imm_l0:Nat->(List GOp)->GL01Cur->Option ((List GOp)×GL01Cur)
 | 0,_,_=>none
 | k+1,body_17,x_18=>(g_spec_l01Below 4 x_18).bind λ y_21=>cond (decide ((body_17.length:Int) < (IntKind.wrap .i64 (58+y_21.1)))) ((app body_17 [(⟨0,1⟩:GOp)]).bind λ v_22=>g_spec_l09Any_imm_l0 k v_22 y_21.2) (some (body_17,y_21.2))
def g_spec_l09Any_imm (c_1:GL01Cur):Option ((List GOp)×GL01Cur):=(g_spec_l09Body 3 3 c_1).bind λ y_4=>((g_spec_l01Below 8 y_4.2).bind λ y_9=>cond (y_9.1==0) ((g_spec_l01Below 11 y_9.2).bind λ y_10=>(g_spec_l01Below 3 y_10.2).bind λ y_11=>(app y_4.1 [(⟨IntKind.wrap .i64 (y_10.1-1),IntKind.wrap .i32 y_11.1⟩:GOp)]).bind λ v_12=>some (.inr (v_12,y_11.2))) (cond (y_9.1==1) (cond (decide ((y_4.1.length:Int) > 0)) ((g_spec_l01Below (y_4.1.length:Int) y_9.2).bind λ y_13=>(g_spec_l01Below 11 y_13.2).bind λ y_14=>(g_spec_l01PickInt [0,23,24,(-1)] y_14.2).bind λ y_15=>(getI y_4.1 y_13.1).bind λ v_16=>some (.inl (y_4.1.set y_13.1.toNat (⟨IntKind.wrap .i64 (y_14.1-1),IntKind.wrap .i32 y_15.1⟩:GOp),y_15.2))) (some (.inl (y_4.1,y_9.2)))) (cond (y_9.1==2) ((g_spec_l09Any_imm_l0 bigK y_4.1 y_9.2).bind λ (body_19,x_20)=>some (.inl (body_19,x_20))) (some (.inl (y_4.1,y_9.2))))):Option (((List GOp)×GL01Cur) ⊕ ((List GOp)×GL01Cur))).bind λ o=>match o with | .inl (body_5,x_6)=>some (body_5,x_6) | .inr (v_7,x_8)=>some (v_7,x_8)
def g_spec_DrawReach (code_1:List Int):Option ((List GDef)×Int):=(g_spec_l01New code_1).bind λ y_4=>(g_spec_l09Make y_4).bind λ y_5=>((g_spec_l01Once 8 y_5.2).bind λ y_8=>cond y_8.1 ((g_spec_l09Any_imm y_8.2).bind λ y_9=>(getI y_5.1 0).bind λ v_10=>some (y_5.1.set 0 (⟨v_10.Name,y_9.1⟩:GDef),y_9.2)) (some (y_5.1,y_8.2)):Option (((List GDef)×GL01Cur))).bind λ (defs_6,x_7)=>(g_spec_l01Below (IntKind.wrap .i64 ((defs_6.length:Int)+2)) x_7).bind λ y_11=>some (defs_6,IntKind.wrap .i64 (y_11.1-1))
def g_impl_letters:Option Bs:=some [32,114,116,111,101,97,110,105,115,109,99,121,108,103,102,119,100,118,112,98,104,120,117,113,48,49,50,51,52,53,54,55,56,57,106,45,107,46,122,47,59,39,33,43,64,42,44,63]
def g_ibytealg_IndexByteString (s_1:Bs) (c_2:Int):Option Int:=gIdxB s_1 c_2
def g_istringslite_IndexByte (s_1:Bs) (c_2:Int):Option Int:=(g_ibytealg_IndexByteString s_1 c_2).bind λ y_4=>some y_4
def g_strings_IndexByte (s_1:Bs) (c_2:Int):Option Int:=(g_istringslite_IndexByte s_1 c_2).bind λ y_4=>some y_4
def g_impl_LetterOf (b_1:Int):Option Int:=(g_impl_letters).bind λ y_3=>(g_strings_IndexByte y_3 b_1).bind λ y_4=>some y_4
def g_impl_within (n_1:Int) (low_2:Int) (high_3:Int):Option Bool:=cond (decide (low_2<=n_1)) (some (decide (n_1<=high_3))) (some false)
def g_impl_NameOk_l0 (s_1:Bs) (v_4:Int):Nat->Int->Option (Unit ⊕ Bool)
 | 0,_=>none
 | k+1,v_5=>cond (decide (v_5 < v_4)) ((idxS s_1 v_5).bind λ v_7=>(g_impl_LetterOf v_7).bind λ y_8=>cond (decide (y_8 < 1)) (some (.inr false)) (g_impl_NameOk_l0 s_1 v_4 k (IntKind.wrap .i64 (v_5+1)))) (some (.inl ()))
def g_impl_NameOk (s_1:Bs):Option Bool:=((g_impl_NameOk_l0 s_1 (s_1.length:Int) bigK 0).bind λ o=>match o with | .inl ()=>some (.inl ()) | .inr v_6=>some (.inr v_6):Option (Unit ⊕ Bool)).bind λ o=>match o with | .inl ()=>(g_impl_within (s_1.length:Int) 1 24).bind λ y_9=>some y_9 | .inr v_3=>some v_3
def g_strings_Fields_l0 (s_1:Bs):Nat->Int->Int->Int->Int->Option (Int×Int)
 | 0,_,_,_,_=>none
 | k+1,n_5,wasSpace_6,setBits_7,i_8=>cond (decide (i_8 < (s_1.length:Int))) ((idxS s_1 i_8).bind λ v_11=>(getI gtAscii v_11).bind λ v_12=>g_strings_Fields_l0 s_1 k (IntKind.wrap .i64 (n_5+(andI .i64 wasSpace_6 (notI .i64 (IntKind.wrap .i64 v_12))))) (IntKind.wrap .i64 v_12) (orI .u8 setBits_7 v_11) (IntKind.wrap .i64 (i_8+1))) (some (n_5,setBits_7))
def g_strings_Fields_l1 (s_1:Bs):Nat->Int->Option Int
 | 0,_=>none
 | k+1,i_15=>(cond (decide (i_15 < (s_1.length:Int))) ((idxS s_1 i_15).bind λ v_18=>(getI gtAscii v_18).bind λ v_19=>some (v_19 != 0)) (some false):Option (Bool)).bind λ v_17=>cond v_17 (g_strings_Fields_l1 s_1 k (IntKind.wrap .i64 (i_15+1))) (some i_15)
def g_strings_Fields_l3 (s_1:Bs):Nat->Int->Option Int
 | 0,_=>none
 | k+1,i_33=>(cond (decide (i_33 < (s_1.length:Int))) ((idxS s_1 i_33).bind λ v_36=>(getI gtAscii v_36).bind λ v_37=>some (v_37 != 0)) (some false):Option (Bool)).bind λ v_35=>cond v_35 (g_strings_Fields_l3 s_1 k (IntKind.wrap .i64 (i_33+1))) (some i_33)
def g_strings_Fields_l2 (s_1:Bs):Nat->(List Bs)->Int->Int->Int->Option ((List Bs)×Int×Int)
 | 0,_,_,_,_=>none
 | k+1,a_20,na_21,fieldStart_22,i_23=>cond (decide (i_23 < (s_1.length:Int))) ((idxS s_1 i_23).bind λ v_27=>(getI gtAscii v_27).bind λ v_28=>cond (v_28==0) (g_strings_Fields_l2 s_1 k a_20 na_21 fieldStart_22 (IntKind.wrap .i64 (i_23+1))) ((subL s_1 fieldStart_22 i_23).bind λ v_29=>(getI a_20 na_21).bind λ v_30=>(g_strings_Fields_l3 s_1 bigK (IntKind.wrap .i64 (i_23+1))).bind λ i_34=>g_strings_Fields_l2 s_1 k (a_20.set na_21.toNat v_29) (IntKind.wrap .i64 (na_21+1)) i_34 i_34)) (some (a_20,na_21,fieldStart_22))
def g_strings_Fields (s_1:Bs):Option (List Bs):=((g_strings_Fields_l0 s_1 bigK 0 1 0 0).bind λ (n_9,setBits_10)=>some (n_9,setBits_10):Option ((Int×Int))).bind λ (n_3,setBits_4)=>cond (decide (setBits_4 ≥ 128)) (none) ((mk ([]:Bs) n_3).bind λ v_13=>(g_strings_Fields_l1 s_1 bigK 0).bind λ i_16=>(g_strings_Fields_l2 s_1 bigK v_13 0 i_16 i_16).bind λ (a_24,na_25,fieldStart_26)=>(cond (decide (fieldStart_26 < (s_1.length:Int))) ((subL s_1 fieldStart_26 (s_1.length:Int)).bind λ v_39=>(getI a_24 na_25).bind λ v_40=>some (a_24.set na_25.toNat v_39)) (some a_24):Option ((List Bs))).bind λ a_38=>some a_38)
def g_impl_prims:Option (List Bs):=(g_strings_Fields [100,117,112,32,100,114,111,112,32,111,118,101,114,32,110,105,112,32,115,119,97,112,32,43,32,45,32,42,32,97,110,100,32,111,114,32,50,42,32,50,47,32,47,109,111,100,32,64,32,33,32,97,32,97,33,32,101,109,105,116,32,107,101,121,32,112,117,115,104,32,112,111,112,32,105,32,46,32,110,111,112]).bind λ y_2=>some y_2
def g_impl_PrimName (k_1:Int):Option Bs:=(g_impl_prims).bind λ y_3=>(g_impl_within k_1 0 (IntKind.wrap .i64 ((y_3.length:Int)-1))).bind λ y_4=>cond y_4 ((getI y_3 k_1).bind λ v_5=>some v_5) (some [])
def g_impl_opOk (o_1:GOp):Option Bool:=cond (o_1.Kind==0) (some true) (cond (o_1.Kind==1) ((g_impl_PrimName (IntKind.wrap .i64 o_1.N)).bind λ y_3=>some (y_3 != [])) (cond (o_1.Kind==2) ((g_impl_within (IntKind.wrap .i64 o_1.N) 0 23).bind λ y_4=>some y_4) ((g_impl_within o_1.Kind 3 8).bind λ y_5=>cond y_5 (some (o_1.N==0)) (some false))))
def g_impl_openIn_l0 (v_7:List GOp) (v_8:Int):Nat->(List Int)->Int->Option ((List Int) ⊕ ((List Int)×Bool))
 | 0,_,_=>none
 | k+1,vopen_9,v_10=>cond (decide (v_10 < v_8)) (((getI v_7 v_10).bind λ v_17=>(g_impl_opOk v_17).bind λ y_18=>cond (!y_18) (some (.inr ([],false))) ((cond (v_17.Kind==3) (some true) (cond (v_17.Kind==4) (some true) (some (v_17.Kind==6))):Option (Bool)).bind λ v_19=>cond v_19 ((app vopen_9 [v_17.Kind]).bind λ v_20=>some (.inl v_20)) ((cond (v_17.Kind==5) (some true) (some (v_17.Kind==7)):Option (Bool)).bind λ v_21=>cond v_21 ((cond (decide ((IntKind.wrap .i64 ((vopen_9.length:Int)-1)) < 0)) (some true) ((getI vopen_9 (IntKind.wrap .i64 ((vopen_9.length:Int)-1))).bind λ v_23=>some ((v_23==6) != (v_17.Kind==7))):Option (Bool)).bind λ v_22=>cond v_22 (some (.inr ([],false))) ((subL vopen_9 0 (IntKind.wrap .i64 ((vopen_9.length:Int)-1))).bind λ v_24=>some (.inl v_24))) (some (.inl vopen_9)))):Option ((List Int) ⊕ ((List Int)×Bool))).bind λ o=>match o with | .inl vopen_14=>g_impl_openIn_l0 v_7 v_8 k vopen_14 (IntKind.wrap .i64 (v_10+1)) | .inr (v_15,v_16)=>some (.inr (v_15,v_16))) (some (.inl vopen_9))
def g_impl_openIn (body_1:List GOp):Option ((List Int)×Bool):=((g_impl_openIn_l0 body_1 (body_1.length:Int) bigK ([]:List Int) 0).bind λ o=>match o with | .inl vopen_11=>some (.inl vopen_11) | .inr (v_12,v_13)=>some (.inr (v_12,v_13)):Option ((List Int) ⊕ ((List Int)×Bool))).bind λ o=>match o with | .inl vopen_4=>some (vopen_4,decide ((body_1.length:Int)<=60)) | .inr (v_5,v_6)=>some (v_5,v_6)
def g_impl_ShapeOk (body_1:List GOp):Option Bool:=(g_impl_openIn body_1).bind λ y_3=>cond y_3.2 (some ((y_3.1.length:Int)==0)) (some false)
def g_impl_callsBelowc1 (o_1:GOp) (a_2:Int):Option Bool:=cond (o_1.Kind==2) (some (decide ((IntKind.wrap .i64 o_1.N) ≥ a_2))) (some false)
def g_slices_IndexFunc_Op_impl_callsBelowc1_l0 (s_1:List GOp) (v_5:Int) (c_2:Int):Nat->Int->Option (Unit ⊕ Int)
 | 0,_=>none
 | k+1,v_6=>cond (decide (v_6 < v_5)) ((getI s_1 v_6).bind λ v_8=>(g_impl_callsBelowc1 v_8 c_2).bind λ y_9=>cond y_9 (some (.inr v_6)) (g_slices_IndexFunc_Op_impl_callsBelowc1_l0 s_1 v_5 c_2 k (IntKind.wrap .i64 (v_6+1)))) (some (.inl ()))
def g_slices_IndexFunc_Op_impl_callsBelowc1 (s_1:List GOp) (c_2:Int):Option Int:=((g_slices_IndexFunc_Op_impl_callsBelowc1_l0 s_1 (s_1.length:Int) c_2 bigK 0).bind λ o=>match o with | .inl ()=>some (.inl ()) | .inr v_7=>some (.inr v_7):Option (Unit ⊕ Int)).bind λ o=>match o with | .inl ()=>some (-1) | .inr v_4=>some v_4
def g_slices_ContainsFunc_Op_impl_callsBelowc1 (s_1:List GOp) (c_2:Int):Option Bool:=(g_slices_IndexFunc_Op_impl_callsBelowc1 s_1 c_2).bind λ y_4=>some (decide (y_4 ≥ 0))
def g_impl_callsBelow (body_1:List GOp) (n_2:Int):Option Bool:=(g_slices_ContainsFunc_Op_impl_callsBelowc1 body_1 n_2).bind λ y_4=>some (!y_4)
def g_impl_DefsOkc1 (d_1:GDef) (a_2:List GDef):Option Bool:=(g_impl_NameOk d_1.Name).bind λ y_4=>cond (!y_4) (some true) ((g_impl_ShapeOk d_1.Body).bind λ y_5=>cond (!y_5) (some true) ((g_impl_callsBelow d_1.Body (a_2.length:Int)).bind λ y_6=>some (!y_6)))
def g_slices_IndexFunc_Def_impl_DefsOkc1_l0 (s_1:List GDef) (v_5:Int) (c_2:List GDef):Nat->Int->Option (Unit ⊕ Int)
 | 0,_=>none
 | k+1,v_6=>cond (decide (v_6 < v_5)) ((getI s_1 v_6).bind λ v_8=>(g_impl_DefsOkc1 v_8 c_2).bind λ y_9=>cond y_9 (some (.inr v_6)) (g_slices_IndexFunc_Def_impl_DefsOkc1_l0 s_1 v_5 c_2 k (IntKind.wrap .i64 (v_6+1)))) (some (.inl ()))
def g_slices_IndexFunc_Def_impl_DefsOkc1 (s_1:List GDef) (c_2:List GDef):Option Int:=((g_slices_IndexFunc_Def_impl_DefsOkc1_l0 s_1 (s_1.length:Int) c_2 bigK 0).bind λ o=>match o with | .inl ()=>some (.inl ()) | .inr v_7=>some (.inr v_7):Option (Unit ⊕ Int)).bind λ o=>match o with | .inl ()=>some (-1) | .inr v_4=>some v_4
def g_slices_ContainsFunc_Def_impl_DefsOkc1 (s_1:List GDef) (c_2:List GDef):Option Bool:=(g_slices_IndexFunc_Def_impl_DefsOkc1 s_1 c_2).bind λ y_4=>some (decide (y_4 ≥ 0))
def g_impl_DefsOk (defs_1:List GDef):Option Bool:=cond (decide ((defs_1.length:Int)<=24)) ((g_slices_ContainsFunc_Def_impl_DefsOkc1 defs_1 defs_1).bind λ y_3=>some (!y_3)) (some false)
def g_slices_Index_int_l0 (s_1:List Int) (v_2:Int) (v_5:Int):Nat->Int->Option (Unit ⊕ Int)
 | 0,_=>none
 | k+1,v_6=>cond (decide (v_6 < v_5)) ((getI s_1 v_6).bind λ v_8=>cond (v_2==v_8) (some (.inr v_6)) (g_slices_Index_int_l0 s_1 v_2 v_5 k (IntKind.wrap .i64 (v_6+1)))) (some (.inl ()))
def g_slices_Index_int (s_1:List Int) (v_2:Int):Option Int:=((g_slices_Index_int_l0 s_1 v_2 (s_1.length:Int) bigK 0).bind λ o=>match o with | .inl ()=>some (.inl ()) | .inr v_7=>some (.inr v_7):Option (Unit ⊕ Int)).bind λ o=>match o with | .inl ()=>some (-1) | .inr v_4=>some v_4
def g_slices_Contains_int (s_1:List Int) (v_2:Int):Option Bool:=(g_slices_Index_int s_1 v_2).bind λ y_4=>some (decide (y_4 ≥ 0))
def g_slices_Sort_int (x_1:List Int):Option (List Int):=gSort x_1
def g_impl_callsOf_l0 (v_4:List GOp) (v_5:Int):Nat->(List Int)->Int->Option (List Int)
 | 0,_,_=>none
 | k+1,out_6,v_7=>cond (decide (v_7 < v_5)) (((getI v_4 v_7).bind λ v_10=>(cond (v_10.Kind==2) ((g_slices_Contains_int out_6 (IntKind.wrap .i64 v_10.N)).bind λ y_12=>some (!y_12)) (some false):Option (Bool)).bind λ v_11=>cond v_11 ((app out_6 [IntKind.wrap .i64 v_10.N]).bind λ v_13=>some v_13) (some out_6):Option ((List Int))).bind λ out_9=>g_impl_callsOf_l0 v_4 v_5 k out_9 (IntKind.wrap .i64 (v_7+1))) (some out_6)
def g_impl_callsOf (body_1:List GOp):Option (List Int):=((g_impl_callsOf_l0 body_1 (body_1.length:Int) bigK ([]:List Int) 0).bind λ out_8=>some out_8:Option ((List Int))).bind λ out_3=>(g_slices_Sort_int out_3).bind λ y_14=>some y_14
def g_impl_Falls (body_1:List GOp):Option Bool:=(g_impl_ShapeOk body_1).bind λ y_3=>cond y_3 (cond ((body_1.length:Int)==0) (some true) ((getI body_1 (IntKind.wrap .i64 ((body_1.length:Int)-1))).bind λ v_4=>some (v_4.Kind != 8))) (some false)
def g_impl_Reach_l1 (list_15:List Int) (v_20:Int):Nat->(List Int)->Int->Option (List Int)
 | 0,_,_=>none
 | k+1,out_21,v_22=>cond (decide (v_22 < v_20)) (((getI list_15 v_22).bind λ v_25=>(g_slices_Contains_int out_21 v_25).bind λ y_26=>cond (!y_26) ((app out_21 [v_25]).bind λ v_27=>some v_27) (some out_21):Option ((List Int))).bind λ out_24=>g_impl_Reach_l1 list_15 v_20 k out_24 (IntKind.wrap .i64 (v_22+1))) (some out_21)
def g_impl_Reach_l0 (defs_1:List GDef):Nat->(List Int)->Int->Option (List Int)
 | 0,_,_=>none
 | k+1,out_8,i_9=>cond (decide (i_9 < (out_8.length:Int))) (((getI out_8 i_9).bind λ v_12=>(getI defs_1 v_12).bind λ v_13=>(g_impl_callsOf v_13.Body).bind λ y_14=>(((getI defs_1 v_12).bind λ v_17=>(g_impl_Falls v_17.Body).bind λ y_18=>cond y_18 (some (decide ((IntKind.wrap .i64 (v_12+1)) < (defs_1.length:Int)))) (some false):Option (Bool)).bind λ v_16=>cond v_16 ((app y_14 [IntKind.wrap .i64 (v_12+1)]).bind λ v_19=>some v_19) (some y_14):Option ((List Int))).bind λ list_15=>(g_impl_Reach_l1 list_15 (list_15.length:Int) bigK out_8 0).bind λ out_23=>some out_23:Option ((List Int))).bind λ out_11=>g_impl_Reach_l0 defs_1 k out_11 (IntKind.wrap .i64 (i_9+1))) (some out_8)
def g_impl_Reach (defs_1:List GDef) (k_2:Int):Option (List Int):=((g_impl_DefsOk defs_1).bind λ y_5=>cond (!y_5) (some true) ((g_impl_within k_2 0 (IntKind.wrap .i64 ((defs_1.length:Int)-1))).bind λ y_6=>some (!y_6)):Option (Bool)).bind λ v_4=>cond v_4 (some []) (((g_impl_Reach_l0 defs_1 bigK [k_2] 0).bind λ out_10=>some out_10:Option ((List Int))).bind λ out_7=>(g_slices_Sort_int out_7).bind λ y_28=>some y_28)
def g_spec_l01In (x_1:Int) (a_2:Int) (b_3:Int):Option Bool:=cond (decide (x_1 ≥ a_2)) (some (decide (x_1<=b_3))) (some false)
def g_spec_l02All:Option Bs:=some [32,114,116,111,101,97,110,105,115,109,99,121,108,103,102,119,100,118,112,98,104,120,117,113,48,49,50,51,52,53,54,55,56,57,106,45,107,46,122,47,59,39,33,43,64,42,44,63]
def g_spec_LetterOf_l0 (b_1:Int) (y_3:Bs):Nat->Int->Option (Unit ⊕ Int)
 | 0,_=>none
 | k+1,i_5=>cond (decide (i_5 < (y_3.length:Int))) ((idxS y_3 i_5).bind λ v_7=>cond (v_7==b_1) (some (.inr i_5)) (g_spec_LetterOf_l0 b_1 y_3 k (IntKind.wrap .i64 (i_5+1)))) (some (.inl ()))
def g_spec_LetterOf (b_1:Int):Option Int:=(g_spec_l02All).bind λ y_3=>((g_spec_LetterOf_l0 b_1 y_3 bigK 0).bind λ o=>match o with | .inl ()=>some (.inl ()) | .inr v_6=>some (.inr v_6):Option (Unit ⊕ Int)).bind λ o=>match o with | .inl ()=>some (-1) | .inr v_4=>some v_4
def g_spec_NameOk_l0 (s_1:Bs):Nat->Int->Option (Unit ⊕ Bool)
 | 0,_=>none
 | k+1,i_5=>cond (decide (i_5 < (s_1.length:Int))) ((idxS s_1 i_5).bind λ v_7=>(g_spec_LetterOf v_7).bind λ y_8=>cond (decide (y_8 < 1)) (some (.inr false)) (g_spec_NameOk_l0 s_1 k (IntKind.wrap .i64 (i_5+1)))) (some (.inl ()))
def g_spec_NameOk (s_1:Bs):Option Bool:=(g_spec_l01In (s_1.length:Int) 1 24).bind λ y_3=>cond (!y_3) (some false) (((g_spec_NameOk_l0 s_1 bigK 0).bind λ o=>match o with | .inl ()=>some (.inl ()) | .inr v_6=>some (.inr v_6):Option (Unit ⊕ Bool)).bind λ o=>match o with | .inl ()=>some true | .inr v_4=>some v_4)
def g_spec_l08Names:Option (List Bs):=some [[100,117,112],[100,114,111,112],[111,118,101,114],[110,105,112],[115,119,97,112],[43],[45],[42],[97,110,100],[111,114],[50,42],[50,47],[47,109,111,100],[64],[33],[97],[97,33],[101,109,105,116],[107,101,121],[112,117,115,104],[112,111,112],[105],[46],[110,111,112]]
def g_spec_PrimName (k_1:Int):Option Bs:=(g_spec_l08Names).bind λ y_3=>(g_spec_l01In k_1 0 (IntKind.wrap .i64 ((y_3.length:Int)-1))).bind λ y_4=>cond (!y_4) (some []) ((getI y_3 k_1).bind λ v_5=>some v_5)
def g_spec_l09Op (o_1:GOp):Option Bool:=cond (o_1.Kind==0) (some true) (cond (o_1.Kind==1) ((g_spec_PrimName (IntKind.wrap .i64 o_1.N)).bind λ y_3=>some (y_3 != [])) (cond (o_1.Kind==2) ((g_spec_l01In (IntKind.wrap .i64 o_1.N) 0 23).bind λ y_4=>some y_4) ((g_spec_l01In o_1.Kind 3 8).bind λ y_5=>cond y_5 (some (o_1.N==0)) (some false))))
def g_spec_l09Open_l0 (body_1:List GOp):Nat->(List Int)->Int->Option ((List Int) ⊕ Bool)
 | 0,_,_=>none
 | k+1,vopen_6,i_7=>cond (decide (i_7 < (body_1.length:Int))) (((getI body_1 i_7).bind λ v_12=>(cond (v_12.Kind==3) (some (v_12.Kind==3)) (cond (v_12.Kind==4) (some (v_12.Kind==4)) (some (v_12.Kind==6))):Option (Bool)).bind λ v_13=>cond v_13 ((app vopen_6 [v_12.Kind]).bind λ v_14=>some (.inl v_14)) ((cond (v_12.Kind==5) (some (v_12.Kind==5)) (some (v_12.Kind==7)):Option (Bool)).bind λ v_15=>cond v_15 ((cond ((vopen_6.length:Int)==0) (some true) ((getI vopen_6 (IntKind.wrap .i64 ((vopen_6.length:Int)-1))).bind λ v_17=>some ((v_17==6) != (v_12.Kind==7))):Option (Bool)).bind λ v_16=>cond v_16 (some (.inr false)) ((subL vopen_6 0 (IntKind.wrap .i64 ((vopen_6.length:Int)-1))).bind λ v_18=>some (.inl v_18))) (some (.inl vopen_6))):Option ((List Int) ⊕ Bool)).bind λ o=>match o with | .inl vopen_10=>g_spec_l09Open_l0 body_1 k vopen_10 (IntKind.wrap .i64 (i_7+1)) | .inr v_11=>some (.inr v_11)) (some (.inl vopen_6))
def g_spec_l09Open (body_1:List GOp):Option ((List Int)×Bool):=((g_spec_l09Open_l0 body_1 bigK ([]:List Int) 0).bind λ o=>match o with | .inl vopen_8=>some (.inl vopen_8) | .inr v_9=>some (.inr v_9):Option ((List Int) ⊕ Bool)).bind λ o=>match o with | .inl vopen_4=>some (vopen_4,true) | .inr v_5=>some ([],v_5)
def g_spec_ShapeOk_l0 (body_1:List GOp):Nat->Int->Option (Unit ⊕ Bool)
 | 0,_=>none
 | k+1,i_4=>cond (decide (i_4 < (body_1.length:Int))) ((getI body_1 i_4).bind λ v_6=>(g_spec_l09Op v_6).bind λ y_7=>cond (!y_7) (some (.inr false)) (g_spec_ShapeOk_l0 body_1 k (IntKind.wrap .i64 (i_4+1)))) (some (.inl ()))
def g_spec_ShapeOk (body_1:List GOp):Option Bool:=cond (decide ((body_1.length:Int) > 60)) (some false) (((g_spec_ShapeOk_l0 body_1 bigK 0).bind λ o=>match o with | .inl ()=>some (.inl ()) | .inr v_5=>some (.inr v_5):Option (Unit ⊕ Bool)).bind λ o=>match o with | .inl ()=>(g_spec_l09Open body_1).bind λ y_8=>cond y_8.2 (some ((y_8.1.length:Int)==0)) (some false) | .inr v_3=>some v_3)
def g_spec_DefsOk_l1 (defs_1:List GDef) (i_4:Int):Nat->Int->Option (Unit ⊕ Bool)
 | 0,_=>none
 | k+1,k_12=>(getI defs_1 i_4).bind λ v_14=>cond (decide (k_12 < (v_14.Body.length:Int))) ((getI defs_1 i_4).bind λ v_15=>(getI v_15.Body k_12).bind λ v_16=>(cond (v_16.Kind==2) (some (decide ((IntKind.wrap .i64 v_16.N) ≥ (defs_1.length:Int)))) (some false):Option (Bool)).bind λ v_17=>cond v_17 (some (.inr false)) (g_spec_DefsOk_l1 defs_1 i_4 k (IntKind.wrap .i64 (k_12+1)))) (some (.inl ()))
def g_spec_DefsOk_l0 (defs_1:List GDef):Nat->Int->Option (Unit ⊕ Bool)
 | 0,_=>none
 | k+1,i_4=>cond (decide (i_4 < (defs_1.length:Int))) ((((getI defs_1 i_4).bind λ v_8=>(g_spec_NameOk v_8.Name).bind λ y_9=>cond (!y_9) (some true) ((getI defs_1 i_4).bind λ v_10=>(g_spec_ShapeOk v_10.Body).bind λ y_11=>some (!y_11)):Option (Bool)).bind λ v_7=>cond v_7 (some (.inr false)) ((g_spec_DefsOk_l1 defs_1 i_4 bigK 0).bind λ o=>match o with | .inl ()=>some (.inl ()) | .inr v_13=>some (.inr v_13)):Option (Unit ⊕ Bool)).bind λ o=>match o with | .inl ()=>g_spec_DefsOk_l0 defs_1 k (IntKind.wrap .i64 (i_4+1)) | .inr v_6=>some (.inr v_6)) (some (.inl ()))
def g_spec_DefsOk (defs_1:List GDef):Option Bool:=cond (decide ((defs_1.length:Int) > 24)) (some false) (((g_spec_DefsOk_l0 defs_1 bigK 0).bind λ o=>match o with | .inl ()=>some (.inl ()) | .inr v_5=>some (.inr v_5):Option (Unit ⊕ Bool)).bind λ o=>match o with | .inl ()=>some true | .inr v_3=>some v_3)
def g_spec_l20Put_l0 (list_1:List Int) (n_2:Int):Nat->Int->Option Int
 | 0,_=>none
 | k+1,vat_4=>(cond (decide (vat_4 < (list_1.length:Int))) ((getI list_1 vat_4).bind λ v_7=>some (decide (v_7 < n_2))) (some false):Option (Bool)).bind λ v_6=>cond v_6 (g_spec_l20Put_l0 list_1 n_2 k (IntKind.wrap .i64 (vat_4+1))) (some vat_4)
def g_spec_l20Put (list_1:List Int) (n_2:Int):Option (List Int):=(g_spec_l20Put_l0 list_1 n_2 bigK 0).bind λ vat_5=>(cond (decide (vat_5 < (list_1.length:Int))) ((getI list_1 vat_5).bind λ v_9=>some (v_9==n_2)) (some false):Option (Bool)).bind λ v_8=>cond v_8 (some list_1) ((subL list_1 0 vat_5).bind λ v_10=>(app ([]:List Int) v_10).bind λ v_11=>(app v_11 [n_2]).bind λ v_12=>(subL list_1 vat_5 (list_1.length:Int)).bind λ v_13=>(app v_12 v_13).bind λ v_14=>some v_14)
def g_spec_CallsOf_l0 (body_1:List GOp):Nat->(List Int)->Int->Option (List Int)
 | 0,_,_=>none
 | k+1,out_5,i_6=>cond (decide (i_6 < (body_1.length:Int))) (((getI body_1 i_6).bind λ v_9=>cond (v_9.Kind==2) ((getI body_1 i_6).bind λ v_10=>(g_spec_l20Put out_5 (IntKind.wrap .i64 v_10.N)).bind λ y_11=>some y_11) (some out_5):Option ((List Int))).bind λ out_8=>g_spec_CallsOf_l0 body_1 k out_8 (IntKind.wrap .i64 (i_6+1))) (some out_5)
def g_spec_Falls (body_1:List GOp):Option Bool:=(g_spec_ShapeOk body_1).bind λ y_3=>cond y_3 (cond ((body_1.length:Int)==0) (some true) ((getI body_1 (IntKind.wrap .i64 ((body_1.length:Int)-1))).bind λ v_4=>some (v_4.Kind != 8))) (some false)
def g_spec_l20Put_own_l0 (list_1:List Int) (n_2:Int):Nat->Int->Option Int
 | 0,_=>none
 | k+1,vat_4=>(cond (decide (vat_4 < (list_1.length:Int))) ((getI list_1 vat_4).bind λ v_7=>some (decide (v_7 < n_2))) (some false):Option (Bool)).bind λ v_6=>cond v_6 (g_spec_l20Put_own_l0 list_1 n_2 k (IntKind.wrap .i64 (vat_4+1))) (some vat_4)
def g_spec_l20Put_own (list_1:List Int) (n_2:Int):Option (List Int):=(g_spec_l20Put_own_l0 list_1 n_2 bigK 0).bind λ vat_5=>(cond (decide (vat_5 < (list_1.length:Int))) ((getI list_1 vat_5).bind λ v_9=>some (v_9==n_2)) (some false):Option (Bool)).bind λ v_8=>cond v_8 (some list_1) ((subL list_1 0 vat_5).bind λ v_10=>(app ([]:List Int) v_10).bind λ v_11=>(app v_11 [n_2]).bind λ v_12=>(subL list_1 vat_5 ((list_1.length:Nat):Int)).bind λ v_13=>(app v_12 v_13).bind λ v_14=>some v_14)
def g_spec_CallsOf_own_l0 (body_1:List GOp):Nat->(List Int)->Int->Option (List Int)
 | 0,_,_=>none
 | k+1,out_5,i_6=>cond (decide (i_6 < (body_1.length:Int))) (((getI body_1 i_6).bind λ v_9=>cond (v_9.Kind==2) ((getI body_1 i_6).bind λ v_10=>(g_spec_l20Put_own out_5 (IntKind.wrap .i64 v_10.N)).bind λ y_11=>some y_11) (some out_5):Option ((List Int))).bind λ out_8=>g_spec_CallsOf_own_l0 body_1 k out_8 (IntKind.wrap .i64 (i_6+1))) (some out_5)
def g_spec_CallsOf_own (body_1:List GOp):Option (List Int):=(g_spec_ShapeOk body_1).bind λ y_3=>cond (!y_3) (some ([]:List Int)) (((g_spec_CallsOf_own_l0 body_1 bigK ([]:List Int) 0).bind λ out_7=>some out_7:Option ((List Int))).bind λ out_4=>some out_4)
def g_spec_Reach_l2 (list_21:List Int):Nat->(List Int)->Int->Option (List Int)
 | 0,_,_=>none
 | k+1,next_28,j_29=>cond (decide (j_29 < (list_21.length:Int))) ((getI list_21 j_29).bind λ v_31=>(g_spec_l20Put next_28 v_31).bind λ y_32=>g_spec_Reach_l2 list_21 k y_32 (IntKind.wrap .i64 (j_29+1))) (some next_28)
def g_spec_Reach_l1 (defs_1:List GDef) (n_12:Int):Nat->(List Int)->Int->Option (List Int)
 | 0,_,_=>none
 | k+1,out_13,i_14=>cond (decide (i_14 < n_12)) (((getI out_13 i_14).bind λ v_18=>(getI defs_1 v_18).bind λ v_19=>(g_spec_CallsOf_own v_19.Body).bind λ y_20=>(((g_spec_Falls v_19.Body).bind λ y_23=>cond y_23 ((getI out_13 i_14).bind λ v_24=>some (decide ((IntKind.wrap .i64 (v_24+1)) < (defs_1.length:Int)))) (some false):Option (Bool)).bind λ v_22=>cond v_22 ((getI out_13 i_14).bind λ v_25=>(app y_20 [IntKind.wrap .i64 (v_25+1)]).bind λ v_26=>some v_26) (some y_20):Option ((List Int))).bind λ list_21=>((g_spec_Reach_l2 list_21 bigK out_13 0).bind λ next_30=>some next_30:Option ((List Int))).bind λ next_27=>cond (decide ((next_27.length:Int) > (out_13.length:Int))) (some (.inr next_27)) (some (.inl out_13)):Option ((List Int) ⊕ (List Int))).bind λ o=>match o with | .inl out_16=>g_spec_Reach_l1 defs_1 n_12 k out_16 (IntKind.wrap .i64 (i_14+1)) | .inr out_17=>some out_17) (some out_13)
def g_spec_Reach_l0 (defs_1:List GDef):Nat->(List Int)->Bool->Option (List Int)
 | 0,_,_=>none
 | k+1,out_8,more_9=>cond more_9 (((g_spec_Reach_l1 defs_1 (out_8.length:Int) bigK out_8 0).bind λ out_15=>some out_15:Option ((List Int))).bind λ out_11=>g_spec_Reach_l0 defs_1 k out_11 (decide ((out_11.length:Int) > (out_8.length:Int)))) (some out_8)
def g_laws_sameInts_l0 (a_1:List Int) (b_2:List Int):Nat->Int->Option (Unit ⊕ Bool)
 | 0,_=>none
 | k+1,i_5=>cond (decide (i_5 < (a_1.length:Int))) ((getI a_1 i_5).bind λ v_7=>(getI b_2 i_5).bind λ v_8=>cond (v_7 != v_8) (some (.inr false)) (g_laws_sameInts_l0 a_1 b_2 k (IntKind.wrap .i64 (i_5+1)))) (some (.inl ()))
def g_laws_sameInts (a_1:List Int) (b_2:List Int):Option Bool:=cond ((a_1.length:Int) != (b_2.length:Int)) (some false) (((g_laws_sameInts_l0 a_1 b_2 bigK 0).bind λ o=>match o with | .inl ()=>some (.inl ()) | .inr v_6=>some (.inr v_6):Option (Unit ⊕ Bool)).bind λ o=>match o with | .inl ()=>some true | .inr v_4=>some v_4)
def g_spec_Reach_hand_l2 (list_21:List Int):Nat->(List Int)->Int->Option (List Int)
 | 0,_,_=>none
 | k+1,next_28,j_29=>cond (decide (j_29 < (list_21.length:Int))) ((getI list_21 j_29).bind λ v_31=>(g_spec_l20Put next_28 v_31).bind λ y_32=>g_spec_Reach_hand_l2 list_21 k y_32 (IntKind.wrap .i64 (j_29+1))) (some next_28)
def g_spec_Reach_hand_l1 (defs_1:List GDef) (n_12:Int):Nat->(List Int)->Int->Option (List Int)
 | 0,_,_=>none
 | k+1,out_13,i_14=>cond (decide (i_14 < n_12)) (((getI out_13 i_14).bind λ v_18=>(getI defs_1 v_18).bind λ v_19=>(g_spec_CallsOf_own v_19.Body).bind λ y_20=>(((g_spec_Falls v_19.Body).bind λ y_23=>cond y_23 ((getI out_13 i_14).bind λ v_24=>some (decide ((IntKind.wrap .i64 (v_24+1)) < (defs_1.length:Int)))) (some false):Option (Bool)).bind λ v_22=>cond v_22 ((getI out_13 i_14).bind λ v_25=>(app y_20 [IntKind.wrap .i64 (v_25+1)]).bind λ v_26=>some v_26) (some y_20):Option ((List Int))).bind λ list_21=>((g_spec_Reach_hand_l2 list_21 bigK out_13 0).bind λ next_30=>some next_30:Option ((List Int))).bind λ next_27=>cond (decide ((next_27.length:Int) > (out_13.length:Int))) (some (.inr next_27)) (some (.inl out_13)):Option ((List Int) ⊕ (List Int))).bind λ o=>match o with | .inl out_16=>g_spec_Reach_hand_l1 defs_1 n_12 k out_16 (IntKind.wrap .i64 (i_14+1)) | .inr out_17=>some out_17) (some out_13)
def g_spec_Reach_hand_l0 (defs_1:List GDef):Nat->(List Int)->Bool->Option (List Int)
 | 0,_,_=>none
 | k+1,out_8,more_9=>cond more_9 (((g_spec_Reach_hand_l1 defs_1 (out_8.length:Int) bigK out_8 0).bind λ out_15=>some out_15:Option ((List Int))).bind λ out_11=>g_spec_Reach_hand_l0 defs_1 k out_11 (decide ((out_11.length:Int) > (out_8.length:Int)))) (some out_8)
def g_spec_Reach_hand (defs_1:List GDef) (k_2:Int):Option (List Int):=((g_spec_DefsOk defs_1).bind λ y_5=>cond (!y_5) (some true) ((g_spec_l01In k_2 0 (IntKind.wrap .i64 ((defs_1.length:Int)-1))).bind λ y_6=>some (!y_6)):Option (Bool)).bind λ v_4=>cond v_4 (some ([]:List Int)) (((g_spec_Reach_hand_l0 defs_1 bigK [k_2] true).bind λ out_10=>some out_10:Option ((List Int))).bind λ out_7=>some out_7)
def g_impl_CallsOf (body_1:List GOp):Option (List Int):=(g_impl_ShapeOk body_1).bind λ y_3=>cond (!y_3) (some []) ((g_impl_callsOf body_1).bind λ y_4=>some y_4)
def g_slices_Clone_Op (s_1:List GOp):Option (List GOp):=app ([]:List GOp) s_1
def g_impl_Shake_l1 (list_8:List Int) (v_20:Int):Nat->(List GOp)->(List GOp)->Int->Option (List GOp)
 | 0,_,_,_=>none
 | k+1,body_21,v_22,v_23=>cond (decide (v_23 < v_20)) (((getI body_21 v_23).bind λ v_27=>cond (v_27.Kind==2) ((g_slices_Index_int list_8 (IntKind.wrap .i64 v_27.N)).bind λ y_28=>(getI body_21 v_23).bind λ v_29=>some (body_21.set v_23.toNat (⟨v_29.Kind,IntKind.wrap .i32 y_28⟩:GOp),body_21.set v_23.toNat (⟨v_29.Kind,IntKind.wrap .i32 y_28⟩:GOp))) (some (body_21,body_21)):Option (((List GOp)×(List GOp)))).bind λ (body_25,v_26)=>g_impl_Shake_l1 list_8 v_20 k body_25 body_25 (IntKind.wrap .i64 (v_23+1))) (some body_21)
def g_impl_Shake_l0 (defs_1:List GDef) (list_8:List Int) (v_10:Int):Nat->(List GDef)->Int->Option (List GDef)
 | 0,_,_=>none
 | k+1,out_11,v_12=>cond (decide (v_12 < v_10)) (((getI list_8 v_12).bind λ v_15=>(getI defs_1 v_15).bind λ v_16=>(g_slices_Clone_Op v_16.Body).bind λ y_17=>((g_impl_Shake_l1 list_8 (y_17.length:Int) bigK y_17 y_17 0).bind λ body_24=>some body_24:Option ((List GOp))).bind λ body_18=>(getI defs_1 v_15).bind λ v_30=>(app out_11 [(⟨v_30.Name,body_18⟩:GDef)]).bind λ v_31=>some v_31:Option ((List GDef))).bind λ out_14=>g_impl_Shake_l0 defs_1 list_8 v_10 k out_14 (IntKind.wrap .i64 (v_12+1))) (some out_11)
def g_impl_Shake (defs_1:List GDef) (k_2:Int):Option ((List GDef)×Int):=(g_impl_Reach defs_1 k_2).bind λ y_5=>cond ((y_5.length:Int)==0) (some ([],(-1))) (((g_impl_Shake_l0 defs_1 y_5 (y_5.length:Int) bigK ([]:List GDef) 0).bind λ out_13=>some out_13:Option ((List GDef))).bind λ out_6=>(g_slices_Index_int y_5 k_2).bind λ y_32=>some (out_6,y_32))
def g_laws_FnReach_l2 (all_11:List Int) (list_23:List Int) (j_24:Int):Nat->Bool->Int->Option Bool
 | 0,_,_=>none
 | k+1,there_28,n_29=>cond (decide (n_29 < (all_11.length:Int))) (cond there_28 (g_laws_FnReach_l2 all_11 list_23 j_24 k true (IntKind.wrap .i64 (n_29+1))) ((getI all_11 n_29).bind λ v_31=>(getI list_23 j_24).bind λ v_32=>g_laws_FnReach_l2 all_11 list_23 j_24 k (v_31==v_32) (IntKind.wrap .i64 (n_29+1)))) (some there_28)
def g_laws_FnReach_l1 (all_11:List Int) (list_23:List Int):Nat->Int->Option (Unit ⊕ Bool)
 | 0,_=>none
 | k+1,j_24=>cond (decide (j_24 < (list_23.length:Int))) ((((g_laws_FnReach_l2 all_11 list_23 j_24 bigK false 0).bind λ there_30=>some there_30:Option (Bool)).bind λ there_27=>cond (!there_27) (some (.inr false)) (some (.inl ())):Option (Unit ⊕ Bool)).bind λ o=>match o with | .inl ()=>g_laws_FnReach_l1 all_11 list_23 k (IntKind.wrap .i64 (j_24+1)) | .inr v_26=>some (.inr v_26)) (some (.inl ()))
def g_laws_FnReach_l0 (defs_9:List GDef) (all_11:List Int):Nat->Int->Option (Unit ⊕ Bool)
 | 0,_=>none
 | k+1,i_12=>cond (decide (i_12 < (all_11.length:Int))) (((getI all_11 i_12).bind λ v_15=>(g_impl_Reach defs_9 v_15).bind λ y_16=>(cond (decide ((y_16.length:Int) > (all_11.length:Int))) (some true) (cond (decide (i_12 > 0)) ((getI all_11 i_12).bind λ v_18=>(getI all_11 (IntKind.wrap .i64 (i_12-1))).bind λ v_19=>some (decide (v_18<=v_19))) (some false)):Option (Bool)).bind λ v_17=>cond v_17 (some (.inr false)) ((getI all_11 i_12).bind λ v_20=>(getI defs_9 v_20).bind λ v_21=>(g_impl_CallsOf v_21.Body).bind λ y_22=>(g_laws_FnReach_l1 all_11 y_22 bigK 0).bind λ o=>match o with | .inl ()=>some (.inl ()) | .inr v_25=>some (.inr v_25)):Option (Unit ⊕ Bool)).bind λ o=>match o with | .inl ()=>g_laws_FnReach_l0 defs_9 all_11 k (IntKind.wrap .i64 (i_12+1)) | .inr v_14=>some (.inr v_14)) (some (.inl ()))
def g_laws_FnReach (code_1:List Int):Option Bool:=(g_laws_big code_1).bind λ y_3=>cond y_3 (some true) ((g_spec_DrawReach code_1).bind λ y_4=>(g_impl_Reach y_4.1 y_4.2).bind λ y_5=>(g_spec_Reach_hand y_4.1 y_4.2).bind λ y_6=>(g_laws_sameInts y_5 y_6).bind λ y_7=>cond (!y_7) (some false) (((g_laws_FnReach_l0 y_4.1 y_5 bigK 0).bind λ o=>match o with | .inl ()=>some (.inl ()) | .inr v_13=>some (.inr v_13):Option (Unit ⊕ Bool)).bind λ o=>match o with | .inl ()=>(g_impl_Shake y_4.1 y_4.2).bind λ y_33=>(g_impl_Reach y_33.1 y_33.2).bind λ y_34=>some ((y_34.length:Int)==(y_33.1.length:Int)) | .inr v_8=>some v_8))
def bodyOf (f:Func):Code:=match f.body with|some c=>c|none=>.skip
end Go.Proofs.YtcnbncafiinfjaaDoor
namespace Go.Proofs.YtcnbncafiinfjaaDoor
open Go Go.Fm
set_option maxRecDepth 1000000
def sortLays_ren:Go.Shelf.Ren:=⟨fun|189=>66|125=>112|257=>111|128=>155|129=>156|294=>146|295=>147|296=>148|297=>149|298=>150|299=>151|216=>152|300=>153|301=>154|328=>184|329=>185|330=>186|331=>187|332=>188|215=>189|343=>194|n=>n,fun|28=>32|3=>3|46=>134|0=>0|51=>136|53=>176|4=>4|183=>167|182=>166|131=>172|5=>5|9=>9|218=>203|222=>207|228=>214|229=>215|n=>n,fun|n=>n⟩
theorem sortLays:Go.Proofs.Lays.n189 Tryd.prog sortLays_ren where
 mixed:=by kernel_rfl
 f125:=Tryd.func112.trans (congrArg some (by kernel_rfl))
 f128:=Tryd.func155.trans (congrArg some (by kernel_rfl))
 f129:=Tryd.func156.trans (congrArg some (by kernel_rfl))
 f189:=Tryd.func66.trans (congrArg some (by kernel_rfl))
 f215:=Tryd.func189.trans (congrArg some (by kernel_rfl))
 f216:=Tryd.func152.trans (congrArg some (by kernel_rfl))
 f257:=Tryd.func111.trans (congrArg some (by kernel_rfl))
 f294:=Tryd.func146.trans (congrArg some (by kernel_rfl))
 f295:=Tryd.func147.trans (congrArg some (by kernel_rfl))
 f296:=Tryd.func148.trans (congrArg some (by kernel_rfl))
 f297:=Tryd.func149.trans (congrArg some (by kernel_rfl))
 f298:=Tryd.func150.trans (congrArg some (by kernel_rfl))
 f299:=Tryd.func151.trans (congrArg some (by kernel_rfl))
 f300:=Tryd.func153.trans (congrArg some (by kernel_rfl))
 f301:=Tryd.func154.trans (congrArg some (by kernel_rfl))
 f328:=Tryd.func184.trans (congrArg some (by kernel_rfl))
 f329:=Tryd.func185.trans (congrArg some (by kernel_rfl))
 f330:=Tryd.func186.trans (congrArg some (by kernel_rfl))
 f331:=Tryd.func187.trans (congrArg some (by kernel_rfl))
 f332:=Tryd.func188.trans (congrArg some (by kernel_rfl))
 f343:=Tryd.func194.trans (congrArg some (by kernel_rfl))
 t0:=Tryd.underlying0
 a0:=Tryd.isAgg0
 z0:=Tryd.sizeOf0
 v0:=Tryd.zeroValue0
 t3:=Tryd.underlying3
 a3:=Tryd.isAgg3
 z3:=Tryd.sizeOf3
 v3:=Tryd.zeroValue3
 t4:=Tryd.underlying4
 a4:=Tryd.isAgg4
 z4:=Tryd.sizeOf4
 v4:=Tryd.zeroValue4
 t5:=Tryd.underlying5
 a5:=Tryd.isAgg5
 z5:=Tryd.sizeOf5
 v5:=Tryd.zeroValue5
 t9:=Tryd.underlying9
 a9:=Tryd.isAgg9
 z9:=Tryd.sizeOf9
 v9:=Tryd.zeroValue9
 t28:=Tryd.underlying32
 a28:=Tryd.isAgg32
 z28:=Tryd.sizeOf32
 v28:=Tryd.zeroValue32
 t46:=Tryd.underlying134
 a46:=Tryd.isAgg134
 z46:=Tryd.sizeOf134
 v46:=Tryd.zeroValue134
 t51:=Tryd.underlying136
 a51:=Tryd.isAgg136
 z51:=Tryd.sizeOf136
 v51:=Tryd.zeroValue136
 t53:=Tryd.underlying176
 a53:=Tryd.isAgg176
 z53:=Tryd.sizeOf176
 v53:=Tryd.zeroValue176
 t131:=Tryd.underlying172
 a131:=Tryd.isAgg172
 z131:=Tryd.sizeOf172
 v131:=Tryd.zeroValue172
 t182:=Tryd.underlying166
 a182:=Tryd.isAgg166
 z182:=Tryd.sizeOf166
 v182:=Tryd.zeroValue166
 t183:=Tryd.underlying167
 a183:=Tryd.isAgg167
 z183:=Tryd.sizeOf167
 v183:=Tryd.zeroValue167
 t218:=Tryd.underlying203
 a218:=Tryd.isAgg203
 z218:=Tryd.sizeOf203
 v218:=Tryd.zeroValue203
 t222:=Tryd.underlying207
 a222:=Tryd.isAgg207
 z222:=Tryd.sizeOf207
 v222:=Tryd.zeroValue207
 t228:=Tryd.underlying214
 a228:=Tryd.isAgg214
 z228:=Tryd.sizeOf214
 v228:=Tryd.zeroValue214
 t229:=Tryd.underlying215
 a229:=Tryd.isAgg215
 z229:=Tryd.sizeOf215
 v229:=Tryd.zeroValue215
end Go.Proofs.YtcnbncafiinfjaaDoor
namespace Go.Proofs.YtcnbncafiinfjaaDoor
open Go Go.Fm
set_option maxRecDepth 1000000
noncomputable def e_laws_big:Con:=⟨37,⟨[(0, .s K1 [])],[]⟩,⟨[(0, .s K2 [])],[]⟩,false,[],λ code_1=>g_laws_big code_1⟩
noncomputable def e_spec_l01New:Con:=⟨82,⟨[(0, .s K1 [])],[]⟩,⟨[(0, .c (.one (.ptr 0 0)))],[.v K4 []]⟩,true,[],λ code_1=>g_spec_l01New code_1⟩
noncomputable def e_spec_l01Byte:Con:=⟨128,⟨[(0, .c (.one (.ptr 0 0)))],[.v K4 []]⟩,⟨[(0, .s K3 [])],[.v K4 []]⟩,true,[],λ c_1=>g_spec_l01Byte c_1⟩
noncomputable def e_spec_l01Below:Con:=⟨86,⟨[(0, .c (.one (.ptr 0 0))),(1, .s K3 [])],[.v K4 []]⟩,⟨[(0, .s K3 [])],[.v K4 []]⟩,true,[],λ (n_1,c_2)=>g_spec_l01Below n_1 c_2⟩
noncomputable def e_spec_l01Once:Con:=⟨84,⟨[(0, .c (.one (.ptr 0 0))),(1, .s K3 [])],[.v K4 []]⟩,⟨[(0, .s K2 [])],[.v K4 []]⟩,true,[],λ (n_1,c_2)=>g_spec_l01Once n_1 c_2⟩
noncomputable def e_spec_l01PickInt:Con:=⟨127,⟨[(0, .c (.one (.ptr 0 0))),(1, .s K11 [])],[.v K4 []]⟩,⟨[(0, .s K3 [])],[.v K4 []]⟩,true,[],λ (list_1,c_2)=>g_spec_l01PickInt list_1 c_2⟩
noncomputable def e_spec_l09Plain:Con:=⟨171,⟨[(0, .c (.one (.ptr 0 0))),(1, .s K3 [])],[.v K4 []]⟩,⟨[(0, .s K7 [])],[.v K4 []]⟩,true,[],λ (n_1,c_2)=>g_spec_l09Plain n_1 c_2⟩
noncomputable def e_spec_l09Body_r (kk:Nat):Con:=⟨125,⟨[(0, .c (.one (.ptr 0 0))),(1, .s K3 []),(2, .s K3 [])],[.v K4 []]⟩,⟨[(0, .s K8 [(0,1)])],[.v K4 [], .o]⟩,true,[],λ (n_1,deep_2,c_3)=>g_spec_l09Body_r kk n_1 deep_2 c_3⟩
noncomputable def e_spec_l09Body:Con:=⟨125,⟨[(0, .c (.one (.ptr 0 0))),(1, .s K3 []),(2, .s K3 [])],[.v K4 []]⟩,⟨[(0, .s K8 [(0,1)])],[.v K4 [], .o]⟩,true,[],λ (n_1,deep_2,c_3)=>g_spec_l09Body n_1 deep_2 c_3⟩
noncomputable def e_spec_l01Pick:Con:=⟨126,⟨[(0, .c (.one (.ptr 0 0))),(1, .s K12 [])],[.v K4 []]⟩,⟨[(0, .s K5 [])],[.v K4 []]⟩,true,[],λ (list_1,c_2)=>g_spec_l01Pick list_1 c_2⟩
noncomputable def e_spec_l09Make:Con:=⟨83,⟨[(0, .c (.one (.ptr 0 0)))],[.v K4 []]⟩,⟨[(0, .s K10 [(0,1)])],[.v K4 [], .o]⟩,true,[],λ c_1=>g_spec_l09Make c_1⟩
noncomputable def e_spec_l09Any_imm:Con:=⟨85,⟨[(0, .c (.one (.ptr 0 0)))],[.v K4 []]⟩,⟨[(0, .s K8 [])],[.v K4 []]⟩,true,[],λ c_1=>g_spec_l09Any_imm c_1⟩
noncomputable def e_spec_DrawReach:Con:=⟨38,⟨[(0, .s K1 [])],[]⟩,⟨[(0, .s K10 [(0,0)]),(1, .s K3 [])],[.o]⟩,true,[],λ code_1=>g_spec_DrawReach code_1⟩
noncomputable def e_impl_letters:Con:=⟨182,⟨[],[]⟩,⟨[(0, .s K5 [])],[]⟩,false,[],λ _=>g_impl_letters⟩
noncomputable def e_ibytealg_IndexByteString:Con:=⟨196,⟨[(0, .s K5 []),(1, .s K0 [])],[]⟩,⟨[(0, .s K3 [])],[]⟩,false,[],λ a=>g_ibytealg_IndexByteString a.1 a.2⟩
noncomputable def e_istringslite_IndexByte:Con:=⟨193,⟨[(0, .s K5 []),(1, .s K0 [])],[]⟩,⟨[(0, .s K3 [])],[]⟩,false,[],λ (s_1,c_2)=>g_istringslite_IndexByte s_1 c_2⟩
noncomputable def e_strings_IndexByte:Con:=⟨181,⟨[(0, .s K5 []),(1, .s K0 [])],[]⟩,⟨[(0, .s K3 [])],[]⟩,false,[],λ (s_1,c_2)=>g_strings_IndexByte s_1 c_2⟩
noncomputable def e_impl_LetterOf:Con:=⟨143,⟨[(0, .s K0 [])],[]⟩,⟨[(0, .s K3 [])],[]⟩,false,[],λ b_1=>g_impl_LetterOf b_1⟩
noncomputable def e_impl_within:Con:=⟨62,⟨[(0, .s K3 []),(1, .s K3 []),(2, .s K3 [])],[]⟩,⟨[(0, .s K2 [])],[]⟩,false,[],λ (n_1,low_2,high_3)=>g_impl_within n_1 low_2 high_3⟩
noncomputable def e_impl_NameOk:Con:=⟨109,⟨[(0, .s K5 [])],[]⟩,⟨[(0, .s K2 [])],[]⟩,false,[],λ s_1=>g_impl_NameOk s_1⟩
noncomputable def e_strings_Fields:Con:=⟨178,⟨[(0, .s K5 [])],[]⟩,⟨[(0, .s K12 [(0,0)])],[.o]⟩,false,[],λ s_1=>g_strings_Fields s_1⟩
noncomputable def e_impl_prims:Con:=⟨139,⟨[],[]⟩,⟨[(0, .s K12 [(0,0)])],[.o]⟩,false,[],λ _=>g_impl_prims⟩
noncomputable def e_impl_PrimName:Con:=⟨101,⟨[(0, .s K3 [])],[]⟩,⟨[(0, .s K5 [])],[]⟩,false,[],λ k_1=>g_impl_PrimName k_1⟩
noncomputable def e_impl_opOk:Con:=⟨137,⟨[(0, .s K7 [])],[]⟩,⟨[(0, .s K2 [])],[]⟩,false,[],λ o_1=>g_impl_opOk o_1⟩
noncomputable def e_impl_openIn:Con:=⟨96,⟨[(0, .s K8 [])],[]⟩,⟨[(0, .s K11 [(0,0)]),(1, .s K2 [])],[.o]⟩,false,[],λ body_1=>g_impl_openIn body_1⟩
noncomputable def e_impl_ShapeOk:Con:=⟨49,⟨[(0, .s K8 [])],[]⟩,⟨[(0, .s K2 [])],[]⟩,false,[],λ body_1=>g_impl_ShapeOk body_1⟩
noncomputable def e_impl_callsBelowc1:Con:=⟨145,⟨[(0, .s K7 []),(1, .c (.one (.ptr 0 0)))],[.v K3 []]⟩,⟨[(0, .s K2 [])],[.f]⟩,false,[0],λ (o_1,a_2)=>g_impl_callsBelowc1 o_1 a_2⟩
noncomputable def e_slices_IndexFunc_Op_impl_callsBelowc1:Con:=⟨183,⟨[(0, .s K8 []),(1, .c (.one (.fn 145 [(0,0)])))],[.v K3 []]⟩,⟨[(0, .s K3 [])],[.f]⟩,false,[0],λ (s_1,c_2)=>g_slices_IndexFunc_Op_impl_callsBelowc1 s_1 c_2⟩
noncomputable def e_slices_ContainsFunc_Op_impl_callsBelowc1:Con:=⟨144,⟨[(0, .s K8 []),(1, .c (.one (.fn 145 [(0,0)])))],[.v K3 []]⟩,⟨[(0, .s K2 [])],[.f]⟩,false,[0],λ (s_1,c_2)=>g_slices_ContainsFunc_Op_impl_callsBelowc1 s_1 c_2⟩
noncomputable def e_impl_callsBelow:Con:=⟨110,⟨[(0, .s K8 []),(1, .s K3 [])],[]⟩,⟨[(0, .s K2 [])],[]⟩,false,[],λ (body_1,n_2)=>g_impl_callsBelow body_1 n_2⟩
noncomputable def e_impl_DefsOkc1:Con:=⟨108,⟨[(0, .s K9 []),(1, .c (.one (.ptr 0 0)))],[.v K10 []]⟩,⟨[(0, .s K2 [])],[.f]⟩,false,[0],λ (d_1,a_2)=>g_impl_DefsOkc1 d_1 a_2⟩
noncomputable def e_slices_IndexFunc_Def_impl_DefsOkc1:Con:=⟨142,⟨[(0, .s K10 []),(1, .c (.one (.fn 108 [(0,0)])))],[.v K10 []]⟩,⟨[(0, .s K3 [])],[.f]⟩,false,[0],λ (s_1,c_2)=>g_slices_IndexFunc_Def_impl_DefsOkc1 s_1 c_2⟩
noncomputable def e_slices_ContainsFunc_Def_impl_DefsOkc1:Con:=⟨107,⟨[(0, .s K10 []),(1, .c (.one (.fn 108 [(0,0)])))],[.v K10 []]⟩,⟨[(0, .s K2 [])],[.f]⟩,false,[0],λ (s_1,c_2)=>g_slices_ContainsFunc_Def_impl_DefsOkc1 s_1 c_2⟩
noncomputable def e_impl_DefsOk:Con:=⟨61,⟨[(0, .s K10 [])],[]⟩,⟨[(0, .s K2 [])],[]⟩,false,[],λ defs_1=>g_impl_DefsOk defs_1⟩
noncomputable def e_slices_Index_int:Con:=⟨87,⟨[(0, .s K11 []),(1, .s K3 [])],[]⟩,⟨[(0, .s K3 [])],[]⟩,false,[],λ (s_1,v_2)=>g_slices_Index_int s_1 v_2⟩
noncomputable def e_slices_Contains_int:Con:=⟨65,⟨[(0, .s K11 []),(1, .s K3 [])],[]⟩,⟨[(0, .s K2 [])],[]⟩,false,[],λ (s_1,v_2)=>g_slices_Contains_int s_1 v_2⟩
noncomputable def e_slices_Sort_int:Con:=⟨66,⟨[(0, .s K11 [(0,0)])],[.o]⟩,⟨[],[.r K3]⟩,false,[],λ x_1=>g_slices_Sort_int x_1⟩
noncomputable def e_impl_callsOf:Con:=⟨63,⟨[(0, .s K8 [])],[]⟩,⟨[(0, .s K11 [(0,0)])],[.o]⟩,false,[],λ body_1=>g_impl_callsOf body_1⟩
noncomputable def e_impl_Falls:Con:=⟨64,⟨[(0, .s K8 [])],[]⟩,⟨[(0, .s K2 [])],[]⟩,false,[],λ body_1=>g_impl_Falls body_1⟩
noncomputable def e_impl_Reach:Con:=⟨19,⟨[(0, .s K10 []),(1, .s K3 [])],[]⟩,⟨[(0, .s K11 [(0,0)])],[.o]⟩,false,[],λ (defs_1,k_2)=>g_impl_Reach defs_1 k_2⟩
noncomputable def e_spec_l01In:Con:=⟨56,⟨[(0, .s K3 []),(1, .s K3 []),(2, .s K3 [])],[]⟩,⟨[(0, .s K2 [])],[]⟩,false,[],λ (x_1,a_2,b_3)=>g_spec_l01In x_1 a_2 b_3⟩
noncomputable def e_spec_l02All:Con:=⟨180,⟨[],[]⟩,⟨[(0, .s K5 [])],[]⟩,false,[],λ _=>g_spec_l02All⟩
noncomputable def e_spec_LetterOf:Con:=⟨141,⟨[(0, .s K0 [])],[]⟩,⟨[(0, .s K3 [])],[]⟩,false,[],λ b_1=>g_spec_LetterOf b_1⟩
noncomputable def e_spec_NameOk:Con:=⟨106,⟨[(0, .s K5 [])],[]⟩,⟨[(0, .s K2 [])],[]⟩,false,[],λ s_1=>g_spec_NameOk s_1⟩
noncomputable def e_spec_l08Names:Con:=⟨176,⟨[],[]⟩,⟨[(0, .s K12 [(0,0)])],[.o]⟩,false,[],λ _=>g_spec_l08Names⟩
noncomputable def e_spec_PrimName:Con:=⟨135,⟨[(0, .s K3 [])],[]⟩,⟨[(0, .s K5 [])],[]⟩,false,[],λ k_1=>g_spec_PrimName k_1⟩
noncomputable def e_spec_l09Op:Con:=⟨91,⟨[(0, .s K7 [])],[]⟩,⟨[(0, .s K2 [])],[]⟩,false,[],λ o_1=>g_spec_l09Op o_1⟩
noncomputable def e_spec_l09Open:Con:=⟨92,⟨[(0, .s K8 [])],[]⟩,⟨[(0, .s K11 [(0,0)]),(1, .s K2 [])],[.o]⟩,false,[],λ body_1=>g_spec_l09Open body_1⟩
noncomputable def e_spec_ShapeOk:Con:=⟨46,⟨[(0, .s K8 [])],[]⟩,⟨[(0, .s K2 [])],[]⟩,false,[],λ body_1=>g_spec_ShapeOk body_1⟩
noncomputable def e_spec_DefsOk:Con:=⟨55,⟨[(0, .s K10 [])],[]⟩,⟨[(0, .s K2 [])],[]⟩,false,[],λ defs_1=>g_spec_DefsOk defs_1⟩
noncomputable def e_spec_l20Put:Con:=⟨59,⟨[(0, .s K11 []),(1, .s K3 [])],[]⟩,⟨[(0, .s K11 [])],[]⟩,true,[],λ (list_1,n_2)=>g_spec_l20Put list_1 n_2⟩
noncomputable def e_spec_Falls:Con:=⟨58,⟨[(0, .s K8 [])],[]⟩,⟨[(0, .s K2 [])],[]⟩,false,[],λ body_1=>g_spec_Falls body_1⟩
noncomputable def e_spec_l20Put_own:Con:=⟨59,⟨[(0, .s K11 [(0,0)]),(1, .s K3 [])],[.o]⟩,⟨[(0, .s K11 [(0,1)])],[.d, .o]⟩,false,[],λ (list_1,n_2)=>g_spec_l20Put_own list_1 n_2⟩
noncomputable def e_spec_CallsOf_own:Con:=⟨57,⟨[(0, .s K8 [])],[]⟩,⟨[(0, .s K11 [(0,0)])],[.o]⟩,false,[],λ body_1=>g_spec_CallsOf_own body_1⟩
noncomputable def e_laws_sameInts:Con:=⟨39,⟨[(0, .s K11 []),(1, .s K11 [])],[]⟩,⟨[(0, .s K2 [])],[]⟩,false,[],λ (a_1,b_2)=>g_laws_sameInts a_1 b_2⟩
noncomputable def e_spec_Reach_hand:Con:=⟨17,⟨[(0, .s K10 [(0,0)]),(1, .s K3 [])],[.o]⟩,⟨[(0, .s K11 [])],[.f]⟩,true,[0],λ (defs_1,k_2)=>g_spec_Reach_hand defs_1 k_2⟩
noncomputable def e_impl_CallsOf:Con:=⟨40,⟨[(0, .s K8 [])],[]⟩,⟨[(0, .s K11 [(0,0)])],[.o]⟩,false,[],λ body_1=>g_impl_CallsOf body_1⟩
noncomputable def e_slices_Clone_Op:Con:=⟨50,⟨[(0, .s K8 [])],[]⟩,⟨[(0, .s K8 [(0,0)])],[.o]⟩,false,[],λ s_1=>g_slices_Clone_Op s_1⟩
noncomputable def e_impl_Shake:Con:=⟨41,⟨[(0, .s K10 []),(1, .s K3 [])],[]⟩,⟨[(0, .s K10 [(0,0)]),(1, .s K3 [])],[.o]⟩,true,[],λ (defs_1,k_2)=>g_impl_Shake defs_1 k_2⟩
noncomputable def e_laws_FnReach:Con:=⟨6,⟨[(0, .s K1 [])],[]⟩,⟨[(0, .s K2 [])],[]⟩,false,[],λ code_1=>g_laws_FnReach code_1⟩
abbrev CO (c:Con):Prop:=ConOk Tryd.prog c
abbrev CK (Γ:List Con) (n:Nat) (an:An) (f:Func) (e:Con):Prop:=AnOk TrydT Γ n an (bodyOf f)/\∀ a,fnRun TrydT Γ an (bodyOf f) f.results.toList e.ro e.ps e.rs a=e.g a
theorem fnc {Γ:List Con} {n:Nat} {an:An} {fn:Func} {C:Con} (h:Tryd.prog.follows .mixedOrders=true->∀ c ∈ Γ,CO c) (hf:Tryd.prog.funcs[C.f]? = some fn) (hk:CK Γ n an fn C) (h1:(!(fn.name == "runtime.NumGoroutine")&&okC fn.ntmps (bodyOf fn))=true)
  (h2:∀ a,entB C n fn.ntmps a=true) (h3:∀ r,endB C fn.results.toList.length r=true) (hb:fn.body=some (bodyOf fn)):CO C:=by
 rw[Bool.and_eq_true,Bool.not_eq_true']at h1
 exact fn_ok (P:=λ _=>Tryd.prog) (n:=n) TrydT_eq h hf hb h1.1 rfl rfl h1.2 rfl h2 h3 hk.1 λ a r e=>(hk.2 a).trans e
end Go.Proofs.YtcnbncafiinfjaaDoor
namespace Go.Proofs.YtcnbncafiinfjaaDoor
open Go Go.Fm
set_option maxRecDepth 1000000
noncomputable def ane_laws_big:An:=.z
theorem ke_laws_big:CK [] 0 ane_laws_big Tryd.f37 e_laws_big:=⟨trivial,λ _=>by kernel_rfl⟩
noncomputable def ane_spec_l01New:An:=.q .z (.q .z (.m [(.normal,⟨[(3, .s K3 [])],[]⟩)] [0,2] [] (.q .z (.b (.l ⟨[(0, .s K1 []),(2, .c (.one (.nilp)))],[]⟩ ⟨[(3, .s K3 []),(4, .s K3 [])],[]⟩ [(.exit 0,⟨[(3, .s K3 [])],[]⟩)] (λ code_1 k (h_4,i_5)=>g_spec_l01New_l0 code_1 k h_4 i_5) (.q (.m [(.normal,⟨[(15, .s K2 [])],[]⟩)] [3,4] [] .z .z) .z)))) .z))
theorem ke_spec_l01New:CK [] 0 ane_spec_l01New Tryd.f82 e_spec_l01New:=⟨⟨trivial,⟨trivial,⟨⟨trivial,⟨λ _ _=>rfl,λ _ _ _ _=>by kernel_rfl,⟨⟨trivial,trivial⟩,trivial⟩⟩⟩,trivial⟩⟩⟩,λ _=>by kernel_rfl⟩
noncomputable def ane_spec_l01Byte:An:=.q .z (.q .z (.q .z (.m [(.normal,⟨[(3, .s K3 [])],[.v K4 []]⟩)] [0,2] [] .z .z)))
theorem ke_spec_l01Byte:CK [] 1 ane_spec_l01Byte Tryd.f128 e_spec_l01Byte:=⟨⟨trivial,⟨trivial,⟨trivial,⟨trivial,trivial⟩⟩⟩⟩,λ _=>by kernel_rfl⟩
noncomputable def ane_spec_l01Below:An:=.z
theorem ke_spec_l01Below:CK [e_spec_l01Byte] 1 ane_spec_l01Below Tryd.f86 e_spec_l01Below:=⟨trivial,λ _=>by kernel_rfl⟩
noncomputable def ane_spec_l01Once:An:=.z
theorem ke_spec_l01Once:CK [e_spec_l01Below] 1 ane_spec_l01Once Tryd.f84 e_spec_l01Once:=⟨trivial,λ _=>by kernel_rfl⟩
noncomputable def ane_spec_l01PickInt:An:=.z
theorem ke_spec_l01PickInt:CK [e_spec_l01Below] 1 ane_spec_l01PickInt Tryd.f127 e_spec_l01PickInt:=⟨trivial,λ _=>by kernel_rfl⟩
noncomputable def ane_spec_l09Plain:An:=.q .z (.m [(.normal,⟨[],[.v K4 [], .v K7 []]⟩),(.ret,⟨[],[.v K4 [], .v K7 []]⟩)] [0,1,4] [] (.q .z (.b (.m [(.normal,⟨[(7, .s K2 [])],[.f, .f]⟩)] [6] [0,1] .z .z))) .z)
theorem ke_spec_l09Plain:CK [e_spec_l01Below,e_spec_l01PickInt] 1 ane_spec_l09Plain Tryd.f171 e_spec_l09Plain:=⟨⟨trivial,⟨⟨trivial,⟨trivial,trivial⟩⟩,trivial⟩⟩,λ _=>by kernel_rfl⟩
noncomputable def ane_spec_l09Body (kk:Nat):An:=.q .z (.q .z (.q .z (.m [(.normal,⟨[(7, .s K8 [(0,2)])],[.v K4 [], .d, .o]⟩)] [0,1,2,6,8] [] (.q .z (.b (.l ⟨[(0, .c (.one (.ptr 0 0))),(1, .s K3 []),(2, .s K3 []),(6, .c (.one (.emp))),(8, .s K3 [])],[.n, .n, .n]⟩ ⟨[(7, .s K8 [(0,2)]),(9, .s K3 [])],[.v K4 [], .d, .o]⟩ [(.exit 0,⟨[(7, .s K8 [(0,2)])],[.v K4 [], .d, .o]⟩)] (λ (n_1,deep_2,k_9) k (out_10,i_11,x_12)=>g_spec_l09Body_l0 (g_spec_l09Body_r kk) n_1 deep_2 k_9 k out_10 i_11 x_12) (.q .z (.m [(.normal,⟨[(7, .s K8 [(0,3)])],[.v K4 [], .d, .d, .o]⟩)] [9] [] (.b (.q .z (.q (.m [(.normal,⟨[(31, .s K2 [])],[.v K4 [], .d, .d, .d, .f]⟩)] [7] [4] .z .z) .z))) .z))))) (.m [(.normal,⟨[(7, .s K8 [(0,3)])],[.v K4 [], .d, .d, .o]⟩)] [0,6] [] .z .z))))
theorem ke_spec_l09Body (kk:Nat):CK [e_spec_l01Below,e_spec_l09Plain,e_spec_l01Once,(e_spec_l09Body_r kk)] 1 (ane_spec_l09Body kk) Tryd.f125 (e_spec_l09Body_r (kk+1)):=⟨⟨trivial,⟨trivial,⟨trivial,⟨⟨trivial,⟨λ _ _=>rfl,λ _ _ _ _=>by kernel_rfl,⟨trivial,⟨⟨trivial,⟨⟨trivial,trivial⟩,trivial⟩⟩,trivial⟩⟩⟩⟩,⟨trivial,trivial⟩⟩⟩⟩⟩,λ _=>by kernel_rfl⟩
end Go.Proofs.YtcnbncafiinfjaaDoor
namespace Go.Proofs.YtcnbncafiinfjaaDoor
open Go Go.Fm
set_option maxRecDepth 1000000
noncomputable def ane_spec_l01Pick:An:=.z
theorem ke_spec_l01Pick:CK [e_spec_l01Below] 1 ane_spec_l01Pick Tryd.f126 e_spec_l01Pick:=⟨trivial,λ _=>by kernel_rfl⟩
noncomputable def ane_spec_l09Make:An:=.q .z (.q .z (.q .z (.m [(.normal,⟨[(4, .s K10 [(0,2)])],[.v K4 [], .d, .o]⟩)] [0,2,3] [] (.q .z (.b (.l ⟨[(0, .c (.one (.ptr 0 0))),(2, .c (.one (.emp))),(3, .s K3 [])],[.n, .n, .n]⟩ ⟨[(4, .s K10 [(0,2)]),(5, .s K3 [])],[.v K4 [], .d, .o]⟩ [(.exit 0,⟨[(4, .s K10 [(0,2)])],[.v K4 [], .d, .o]⟩)] (λ n_7 k (out_8,i_9,x_10)=>g_spec_l09Make_l0 n_7 k out_8 i_9 x_10) (.q .z (.m [(.normal,⟨[(4, .s K10 [(0,3)])],[.v K4 [], .d, .d, .o]⟩)] [5] [] (.b (.q .z (.m [(.normal,⟨[(6, .s K3 [])],[.v K4 [], .d, .f]⟩)] [4] [2] .z (.q .z (.m [(.normal,⟨[(7, .s K8 [(0,4)])],[.f, .d, .f, .d, .o]⟩)] [4,6] [0,2] .z (.m [(.normal,⟨[(7, .s K8 [])],[.v K4 [], .d, .f, .d, .d]⟩)] [4,6] [2] (.q .z (.b (.q .z (.q .z (.q .z (.q (.m [(.normal,⟨[(7, .s K8 [(0,5)])],[.v K4 [], .d, .f, .d, .d, .o]⟩)] [] [] .z .z) .z)))))) .z)))))) .z))))) .z)))
theorem ke_spec_l09Make:CK [e_spec_l01Below,e_spec_l01Once,e_spec_l09Body,e_spec_l01Pick] 1 ane_spec_l09Make Tryd.f83 e_spec_l09Make:=⟨⟨trivial,⟨trivial,⟨trivial,⟨⟨trivial,⟨λ _ _=>rfl,λ _ _ _ _=>by kernel_rfl,⟨trivial,⟨⟨trivial,⟨trivial,⟨trivial,⟨trivial,⟨⟨trivial,⟨trivial,⟨trivial,⟨trivial,⟨⟨trivial,trivial⟩,trivial⟩⟩⟩⟩⟩,trivial⟩⟩⟩⟩⟩,trivial⟩⟩⟩⟩,trivial⟩⟩⟩⟩,λ _=>by kernel_rfl⟩
noncomputable def ane_spec_l09Any:An:=.q .z (.q .z (.m [(.normal,⟨[(3, .s K8 [(0,2)])],[.v K4 [], .d, .o]⟩),(.ret,⟨[(2, .s K8 [(0,2)])],[.v K4 [], .d, .o]⟩)] [0] [] (.q .z (.b (.q .z (.q .z (.q .z (.q .z (.q .z (.q (.b (.l ⟨[(0, .c (.one (.ptr 0 0))),(2, .c (.one (.emp)))],[.n, .n, .n]⟩ ⟨[(3, .s K8 [(0,2)])],[.v K4 [], .d, .o]⟩ [(.exit 1,⟨[(3, .s K8 [(0,2)])],[.v K4 [], .d, .o]⟩)] (λ _ k (body_17,x_18)=>g_spec_l09Any_l0 k body_17 x_18) .z)) .z)))))))) .z))
noncomputable def ane_spec_l09Any_imm:An:=.q .z (.q .z (.m [(.normal,⟨[(3, .s K8 [(0,2)])],[.v K4 [], .d, .o]⟩),(.ret,⟨[(2, .s K8 [(0,2)])],[.v K4 [], .d, .o]⟩)] [0] [] (.q .z (.b (.q .z (.q .z (.q .z (.q .z (.q .z (.q (.b (.l ⟨[(0, .c (.one (.ptr 0 0))),(2, .c (.one (.emp)))],[.n, .n, .n]⟩ ⟨[(3, .s K8 [(0,2)])],[.v K4 [], .d, .o]⟩ [(.exit 1,⟨[(3, .s K8 [(0,2)])],[.v K4 [], .d, .o]⟩)] (λ _ k (body_17,x_18)=>g_spec_l09Any_imm_l0 k body_17 x_18) .z)) .z)))))))) .z))
theorem ke_spec_l09Any_imm:CK [e_spec_l09Body,e_spec_l01Below,e_spec_l01PickInt] 1 ane_spec_l09Any_imm Tryd.f85 e_spec_l09Any_imm:=⟨⟨trivial,⟨trivial,⟨⟨trivial,⟨trivial,⟨trivial,⟨trivial,⟨trivial,⟨trivial,⟨⟨λ _ _=>rfl,λ _ _ _ _=>by kernel_rfl,trivial⟩,trivial⟩⟩⟩⟩⟩⟩⟩,trivial⟩⟩⟩,λ _=>by kernel_rfl⟩
noncomputable def ane_spec_DrawReach:An:=.q .z (.q .z (.q .z (.m [(.normal,⟨[(5, .s K10 [(0,1)])],[.v K4 [], .o]⟩)] [2,3,4] [] .z .z)))
theorem ke_spec_DrawReach:CK [e_spec_l01New,e_spec_l09Make,e_spec_l01Once,e_spec_l09Any_imm,e_spec_l01Below] 0 ane_spec_DrawReach Tryd.f38 e_spec_DrawReach:=⟨⟨trivial,⟨trivial,⟨trivial,⟨trivial,trivial⟩⟩⟩⟩,λ _=>by kernel_rfl⟩
noncomputable def ane_impl_letters:An:=.z
theorem ke_impl_letters:CK [] 0 ane_impl_letters Tryd.f182 e_impl_letters:=⟨trivial,λ _=>by kernel_rfl⟩
theorem fe_ibytealg_IndexByteString:ConOk Tryd.prog e_ibytealg_IndexByteString:=index_ok (fn:=Tryd.f196) Tryd.func196 (by kernel_rfl) (by kernel_rfl) (by kernel_rfl) (by kernel_rfl)
noncomputable def ane_istringslite_IndexByte:An:=.z
theorem ke_istringslite_IndexByte:CK [e_ibytealg_IndexByteString] 0 ane_istringslite_IndexByte Tryd.f193 e_istringslite_IndexByte:=⟨trivial,λ _=>by kernel_rfl⟩
end Go.Proofs.YtcnbncafiinfjaaDoor
namespace Go.Proofs.YtcnbncafiinfjaaDoor
open Go Go.Fm
set_option maxRecDepth 1000000
noncomputable def ane_strings_IndexByte:An:=.z
theorem ke_strings_IndexByte:CK [e_istringslite_IndexByte] 0 ane_strings_IndexByte Tryd.f181 e_strings_IndexByte:=⟨trivial,λ _=>by kernel_rfl⟩
noncomputable def ane_impl_LetterOf:An:=.z
theorem ke_impl_LetterOf:CK [e_impl_letters,e_strings_IndexByte] 0 ane_impl_LetterOf Tryd.f143 e_impl_LetterOf:=⟨trivial,λ _=>by kernel_rfl⟩
noncomputable def ane_impl_within:An:=.z
theorem ke_impl_within:CK [] 0 ane_impl_within Tryd.f62 e_impl_within:=⟨trivial,λ _=>by kernel_rfl⟩
noncomputable def ane_impl_NameOk:An:=.q .z (.m [(.normal,⟨[],[]⟩),(.ret,⟨[(2, .s K2 [])],[]⟩)] [0] [] (.q .z (.b (.l ⟨[(0, .s K5 []),(5, .s K3 [])],[]⟩ ⟨[(6, .s K3 [])],[]⟩ [(.exit 0,⟨[],[]⟩),(.ret,⟨[(2, .s K2 [])],[]⟩)] (λ (s_1,v_4) k v_5=>g_impl_NameOk_l0 s_1 v_4 k v_5) .z))) .z)
theorem ke_impl_NameOk:CK [e_impl_LetterOf,e_impl_within] 0 ane_impl_NameOk Tryd.f109 e_impl_NameOk:=⟨⟨trivial,⟨⟨trivial,⟨λ _ _=>rfl,λ _ _ _ _=>by kernel_rfl,trivial⟩⟩,trivial⟩⟩,λ _=>by kernel_rfl⟩
noncomputable def ane_strings_Fields:An:=.q .z (.q .z (.q .z (.q .z (.m [(.normal,⟨[(3, .s K3 []),(5, .s K0 [])],[]⟩)] [0,2] [] (.q .z (.b (.l ⟨[(0, .s K5 []),(2, .c (.one (.emp)))],[]⟩ ⟨[(3, .s K3 []),(4, .s K3 []),(5, .s K0 []),(6, .s K3 [])],[]⟩ [(.exit 0,⟨[(3, .s K3 []),(5, .s K0 [])],[]⟩)] (λ s_1 k (n_5,wasSpace_6,setBits_7,i_8)=>g_strings_Fields_l0 s_1 k n_5 wasSpace_6 setBits_7 i_8) .z))) (.q .z (.q .z (.q .z (.q .z (.q .z (.q (.b (.l ⟨[(0, .s K5 []),(2, .c (.one (.emp))),(9, .s K12 [(0,0)]),(10, .s K3 [])],[.o]⟩ ⟨[(12, .s K3 [])],[.f]⟩ [(.exit 2,⟨[(12, .s K3 [])],[.f]⟩)] (λ (s_1,_,_) k i_15=>g_strings_Fields_l1 s_1 k i_15) (.q (.m [(.normal,⟨[(53, .s K2 [])],[.f]⟩)] [12] [] .z .z) .z))) (.q .z (.q (.b (.l ⟨[(0, .s K5 []),(2, .c (.one (.emp)))],[.n]⟩ ⟨[(9, .s K12 [(0,0)]),(10, .s K3 []),(11, .s K3 []),(12, .s K3 [])],[.o]⟩ [(.exit 4,⟨[(9, .s K12 [(0,0)]),(10, .s K3 []),(11, .s K3 [])],[.o]⟩)] (λ s_1 k (a_20,na_21,fieldStart_22,i_23)=>g_strings_Fields_l2 s_1 k a_20 na_21 fieldStart_22 i_23) (.q .z (.b (.q .z (.q .z (.q .z (.q .z (.q (.b (.l ⟨[(0, .s K5 []),(2, .c (.one (.emp))),(9, .s K12 [(0,0)]),(10, .s K3 []),(11, .s K3 [])],[.o]⟩ ⟨[(12, .s K3 [])],[.f]⟩ [(.exit 6,⟨[(12, .s K3 [])],[.f]⟩)] (λ (s_1,_,_,_) k i_33=>g_strings_Fields_l3 s_1 k i_33) (.q (.m [(.normal,⟨[(91, .s K2 [])],[.f]⟩)] [12] [] .z .z) .z))) .z))))))))) (.m [(.normal,⟨[(9, .s K12 [(0,0)])],[.o]⟩)] [0,2,10,11] [] .z .z)))))))))))))
theorem ke_strings_Fields:CK [] 0 ane_strings_Fields Tryd.f178 e_strings_Fields:=⟨⟨trivial,⟨trivial,⟨trivial,⟨trivial,⟨⟨trivial,⟨λ _ _=>rfl,λ _ _ _ _=>by kernel_rfl,trivial⟩⟩,⟨trivial,⟨trivial,⟨trivial,⟨trivial,⟨trivial,⟨⟨λ _ _=>rfl,λ _ _ _ _=>by kernel_rfl,⟨⟨trivial,trivial⟩,trivial⟩⟩,⟨trivial,⟨⟨λ _ _=>rfl,λ _ _ _ _=>by kernel_rfl,⟨trivial,⟨trivial,⟨trivial,⟨trivial,⟨trivial,⟨⟨λ _ _=>rfl,λ _ _ _ _=>by kernel_rfl,⟨⟨trivial,trivial⟩,trivial⟩⟩,trivial⟩⟩⟩⟩⟩⟩⟩,⟨trivial,trivial⟩⟩⟩⟩⟩⟩⟩⟩⟩⟩⟩⟩⟩⟩,λ _=>by kernel_rfl⟩
noncomputable def ane_impl_prims:An:=.z
theorem ke_impl_prims:CK [e_strings_Fields] 0 ane_impl_prims Tryd.f139 e_impl_prims:=⟨trivial,λ _=>by kernel_rfl⟩
noncomputable def ane_impl_PrimName:An:=.z
theorem ke_impl_PrimName:CK [e_impl_prims,e_impl_within] 0 ane_impl_PrimName Tryd.f101 e_impl_PrimName:=⟨trivial,λ _=>by kernel_rfl⟩
noncomputable def ane_impl_opOk:An:=.z
theorem ke_impl_opOk:CK [e_impl_PrimName,e_impl_within] 0 ane_impl_opOk Tryd.f137 e_impl_opOk:=⟨trivial,λ _=>by kernel_rfl⟩
end Go.Proofs.YtcnbncafiinfjaaDoor
namespace Go.Proofs.YtcnbncafiinfjaaDoor
open Go Go.Fm
set_option maxRecDepth 1000000
noncomputable def ane_impl_openIn:An:=.q .z (.q .z (.m [(.normal,⟨[(4, .s K11 [(0,1)])],[.d, .o]⟩),(.ret,⟨[(2, .s K11 [(0,1)]),(3, .s K2 [])],[.d, .o]⟩)] [0] [] (.q .z (.b (.l ⟨[(0, .s K8 []),(9, .s K8 []),(10, .s K3 [])],[.n, .n]⟩ ⟨[(4, .s K11 [(0,1)]),(11, .s K3 [])],[.d, .o]⟩ [(.exit 0,⟨[(4, .s K11 [(0,1)])],[.d, .o]⟩),(.ret,⟨[(2, .s K11 [(0,2)]),(3, .s K2 [])],[.d, .d, .o]⟩)] (λ (_,v_7,v_8) k (vopen_9,v_10)=>g_impl_openIn_l0 v_7 v_8 k vopen_9 v_10) (.q .z (.q .z (.m [(.normal,⟨[(4, .s K11 [(0,2)])],[.d, .d, .o]⟩),(.ret,⟨[(2, .s K11 [(0,2)]),(3, .s K2 [])],[.d, .d, .o]⟩)] [11] [] (.b (.q .z (.q .z (.b (.q .z (.q .z (.m [(.normal,⟨[(22, .s K2 [])],[.d, .f, .f]⟩)] [4,6,7] [1,2] .z (.q .z (.m [(.normal,⟨[(41, .s K2 [])],[.d, .f, .f]⟩)] [4,6,7] [1,2] .z (.q (.q (.m [(.normal,⟨[(62, .s K2 [])],[.d, .f, .f]⟩)] [4,6,7] [1,2] .z .z) .z) .z)))))))))) .z)))))) .z))
theorem ke_impl_openIn:CK [e_impl_opOk] 0 ane_impl_openIn Tryd.f96 e_impl_openIn:=⟨⟨trivial,⟨trivial,⟨⟨trivial,⟨λ _ _=>rfl,λ _ _ _ _=>by kernel_rfl,⟨trivial,⟨trivial,⟨⟨trivial,⟨trivial,⟨trivial,⟨trivial,⟨trivial,⟨trivial,⟨trivial,⟨⟨⟨trivial,trivial⟩,trivial⟩,trivial⟩⟩⟩⟩⟩⟩⟩⟩,trivial⟩⟩⟩⟩⟩,trivial⟩⟩⟩,λ _=>by kernel_rfl⟩
noncomputable def ane_impl_ShapeOk:An:=.z
theorem ke_impl_ShapeOk:CK [e_impl_openIn] 0 ane_impl_ShapeOk Tryd.f49 e_impl_ShapeOk:=⟨trivial,λ _=>by kernel_rfl⟩
noncomputable def ane_impl_callsBelowc1:An:=.z
theorem ke_impl_callsBelowc1:CK [] 1 ane_impl_callsBelowc1 Tryd.f145 e_impl_callsBelowc1:=⟨trivial,λ _=>by kernel_rfl⟩
noncomputable def ane_slices_IndexFunc_Op_impl_callsBelowc1:An:=.q .z (.m [(.normal,⟨[],[.f]⟩),(.ret,⟨[(4, .s K3 [])],[.f]⟩)] [0,1] [] (.q .z (.b (.l ⟨[(0, .s K8 []),(1, .c (.one (.fn 145 [(0,0)]))),(7, .s K3 [])],[.v K3 []]⟩ ⟨[(8, .s K3 [])],[.f]⟩ [(.exit 0,⟨[],[.f]⟩),(.ret,⟨[(4, .s K3 [])],[.f]⟩)] (λ (s_1,v_5,c_2) k v_6=>g_slices_IndexFunc_Op_impl_callsBelowc1_l0 s_1 v_5 c_2 k v_6) .z))) .z)
theorem ke_slices_IndexFunc_Op_impl_callsBelowc1:CK [e_impl_callsBelowc1] 1 ane_slices_IndexFunc_Op_impl_callsBelowc1 Tryd.f183 e_slices_IndexFunc_Op_impl_callsBelowc1:=⟨⟨trivial,⟨⟨trivial,⟨λ _ _=>rfl,λ _ _ _ _=>by kernel_rfl,trivial⟩⟩,trivial⟩⟩,λ _=>by kernel_rfl⟩
noncomputable def ane_slices_ContainsFunc_Op_impl_callsBelowc1:An:=.z
theorem ke_slices_ContainsFunc_Op_impl_callsBelowc1:CK [e_slices_IndexFunc_Op_impl_callsBelowc1] 1 ane_slices_ContainsFunc_Op_impl_callsBelowc1 Tryd.f144 e_slices_ContainsFunc_Op_impl_callsBelowc1:=⟨trivial,λ _=>by kernel_rfl⟩
noncomputable def ane_impl_callsBelow:An:=.z
theorem ke_impl_callsBelow:CK [e_slices_ContainsFunc_Op_impl_callsBelowc1] 0 ane_impl_callsBelow Tryd.f110 e_impl_callsBelow:=⟨trivial,λ _=>by kernel_rfl⟩
noncomputable def ane_impl_DefsOkc1:An:=.z
theorem ke_impl_DefsOkc1:CK [e_impl_NameOk,e_impl_ShapeOk,e_impl_callsBelow] 1 ane_impl_DefsOkc1 Tryd.f108 e_impl_DefsOkc1:=⟨trivial,λ _=>by kernel_rfl⟩
noncomputable def ane_slices_IndexFunc_Def_impl_DefsOkc1:An:=.q .z (.m [(.normal,⟨[],[.f]⟩),(.ret,⟨[(4, .s K3 [])],[.f]⟩)] [0,1] [] (.q .z (.b (.l ⟨[(0, .s K10 []),(1, .c (.one (.fn 108 [(0,0)]))),(7, .s K3 [])],[.v K10 []]⟩ ⟨[(8, .s K3 [])],[.f]⟩ [(.exit 0,⟨[],[.f]⟩),(.ret,⟨[(4, .s K3 [])],[.f]⟩)] (λ (s_1,v_5,c_2) k v_6=>g_slices_IndexFunc_Def_impl_DefsOkc1_l0 s_1 v_5 c_2 k v_6) .z))) .z)
theorem ke_slices_IndexFunc_Def_impl_DefsOkc1:CK [e_impl_DefsOkc1] 1 ane_slices_IndexFunc_Def_impl_DefsOkc1 Tryd.f142 e_slices_IndexFunc_Def_impl_DefsOkc1:=⟨⟨trivial,⟨⟨trivial,⟨λ _ _=>rfl,λ _ _ _ _=>by kernel_rfl,trivial⟩⟩,trivial⟩⟩,λ _=>by kernel_rfl⟩
end Go.Proofs.YtcnbncafiinfjaaDoor
namespace Go.Proofs.YtcnbncafiinfjaaDoor
open Go Go.Fm
set_option maxRecDepth 1000000
noncomputable def ane_slices_ContainsFunc_Def_impl_DefsOkc1:An:=.z
theorem ke_slices_ContainsFunc_Def_impl_DefsOkc1:CK [e_slices_IndexFunc_Def_impl_DefsOkc1] 1 ane_slices_ContainsFunc_Def_impl_DefsOkc1 Tryd.f107 e_slices_ContainsFunc_Def_impl_DefsOkc1:=⟨trivial,λ _=>by kernel_rfl⟩
noncomputable def ane_impl_DefsOk:An:=.z
theorem ke_impl_DefsOk:CK [e_slices_ContainsFunc_Def_impl_DefsOkc1] 0 ane_impl_DefsOk Tryd.f61 e_impl_DefsOk:=⟨trivial,λ _=>by kernel_rfl⟩
noncomputable def ane_slices_Index_int:An:=.q .z (.m [(.normal,⟨[],[]⟩),(.ret,⟨[(4, .s K3 [])],[]⟩)] [0,1] [] (.q .z (.b (.l ⟨[(0, .s K11 []),(1, .s K3 []),(7, .s K3 [])],[]⟩ ⟨[(8, .s K3 [])],[]⟩ [(.exit 0,⟨[],[]⟩),(.ret,⟨[(4, .s K3 [])],[]⟩)] (λ (s_1,v_2,v_5) k v_6=>g_slices_Index_int_l0 s_1 v_2 v_5 k v_6) .z))) .z)
theorem ke_slices_Index_int:CK [] 0 ane_slices_Index_int Tryd.f87 e_slices_Index_int:=⟨⟨trivial,⟨⟨trivial,⟨λ _ _=>rfl,λ _ _ _ _=>by kernel_rfl,trivial⟩⟩,trivial⟩⟩,λ _=>by kernel_rfl⟩
noncomputable def ane_slices_Contains_int:An:=.z
theorem ke_slices_Contains_int:CK [e_slices_Index_int] 0 ane_slices_Contains_int Tryd.f65 e_slices_Contains_int:=⟨trivial,λ _=>by kernel_rfl⟩
theorem fe_slices_Sort_int:ConOk Tryd.prog e_slices_Sort_int:=sort_ok sortLays rfl
noncomputable def ane_impl_callsOf:An:=.q .z (.q .z (.m [(.normal,⟨[(3, .s K11 [(0,1)])],[.d, .o]⟩)] [0,2] [] (.q .z (.b (.l ⟨[(0, .s K8 []),(2, .c (.one (.emp))),(7, .s K8 []),(8, .s K3 [])],[.n, .n]⟩ ⟨[(3, .s K11 [(0,1)]),(9, .s K3 [])],[.d, .o]⟩ [(.exit 0,⟨[(3, .s K11 [(0,1)])],[.d, .o]⟩)] (λ (_,v_4,v_5) k (out_6,v_7)=>g_impl_callsOf_l0 v_4 v_5 k out_6 v_7) (.q .z (.q .z (.m [(.normal,⟨[(3, .s K11 [(0,2)])],[.d, .d, .o]⟩)] [9] [] (.b (.q .z (.m [(.normal,⟨[(23, .s K2 [])],[.d, .f, .f]⟩)] [3,5] [1,2] .z .z))) .z)))))) .z))
theorem ke_impl_callsOf:CK [e_slices_Contains_int,e_slices_Sort_int] 0 ane_impl_callsOf Tryd.f63 e_impl_callsOf:=⟨⟨trivial,⟨trivial,⟨⟨trivial,⟨λ _ _=>rfl,λ _ _ _ _=>by kernel_rfl,⟨trivial,⟨trivial,⟨⟨trivial,⟨trivial,trivial⟩⟩,trivial⟩⟩⟩⟩⟩,trivial⟩⟩⟩,λ _=>by kernel_rfl⟩
noncomputable def ane_impl_Falls:An:=.z
theorem ke_impl_Falls:CK [e_impl_ShapeOk] 0 ane_impl_Falls Tryd.f64 e_impl_Falls:=⟨trivial,λ _=>by kernel_rfl⟩
noncomputable def ane_impl_Reach:An:=.q .z (.q (.m [(.normal,⟨[(21, .s K2 [])],[]⟩)] [0,1,4] [] .z .z) (.q .z (.m [(.normal,⟨[(5, .s K11 [(0,1)])],[.d, .o]⟩)] [0,4] [] (.q .z (.b (.l ⟨[(0, .s K10 []),(4, .c (.one (.emp)))],[.n, .n]⟩ ⟨[(5, .s K11 [(0,1)]),(6, .s K3 [])],[.d, .o]⟩ [(.exit 0,⟨[(5, .s K11 [(0,1)])],[.d, .o]⟩)] (λ defs_1 k (out_8,i_9)=>g_impl_Reach_l0 defs_1 k out_8 i_9) (.q .z (.m [(.normal,⟨[(5, .s K11 [(0,2)])],[.d, .d, .o]⟩)] [6] [] (.b (.q .z (.q .z (.m [(.normal,⟨[(8, .s K11 [(0,3)])],[.d, .f, .d, .o]⟩)] [5,7] [1] (.m [(.normal,⟨[(52, .s K2 [])],[.d, .f, .f]⟩)] [8] [2] .z .z) (.q .z (.b (.l ⟨[(0, .s K10 []),(4, .c (.one (.emp))),(6, .s K3 []),(58, .s K11 [(0,3)]),(59, .s K3 [])],[.n, .n, .n, .o, .n]⟩ ⟨[(5, .s K11 [(0,4)]),(60, .s K3 [])],[.d, .d, .d, .f, .o]⟩ [(.exit 2,⟨[(5, .s K11 [(0,4)])],[.d, .d, .d, .f, .o]⟩)] (λ (_,_,list_15,v_20) k (out_21,v_22)=>g_impl_Reach_l1 list_15 v_20 k out_21 v_22) (.q .z (.q .z (.m [(.normal,⟨[(5, .s K11 [(0,5)])],[.d, .d, .d, .f, .d, .o]⟩)] [60] [] .z .z)))))))))) .z))))) .z)))
theorem ke_impl_Reach:CK [e_impl_DefsOk,e_impl_within,e_impl_callsOf,e_impl_Falls,e_slices_Contains_int,e_slices_Sort_int] 0 ane_impl_Reach Tryd.f19 e_impl_Reach:=⟨⟨trivial,⟨⟨trivial,trivial⟩,⟨trivial,⟨⟨trivial,⟨λ _ _=>rfl,λ _ _ _ _=>by kernel_rfl,⟨trivial,⟨⟨trivial,⟨trivial,⟨⟨trivial,trivial⟩,⟨trivial,⟨λ _ _=>rfl,λ _ _ _ _=>by kernel_rfl,⟨trivial,⟨trivial,⟨trivial,trivial⟩⟩⟩⟩⟩⟩⟩⟩,trivial⟩⟩⟩⟩,trivial⟩⟩⟩⟩,λ _=>by kernel_rfl⟩
end Go.Proofs.YtcnbncafiinfjaaDoor
namespace Go.Proofs.YtcnbncafiinfjaaDoor
open Go Go.Fm
set_option maxRecDepth 1000000
noncomputable def ane_spec_l01In:An:=.z
theorem ke_spec_l01In:CK [] 0 ane_spec_l01In Tryd.f56 e_spec_l01In:=⟨trivial,λ _=>by kernel_rfl⟩
noncomputable def ane_spec_l02All:An:=.z
theorem ke_spec_l02All:CK [] 0 ane_spec_l02All Tryd.f180 e_spec_l02All:=⟨trivial,λ _=>by kernel_rfl⟩
noncomputable def ane_spec_LetterOf:An:=.q .z (.q .z (.m [(.normal,⟨[],[]⟩),(.ret,⟨[(2, .s K3 [])],[]⟩)] [0,3] [] (.q .z (.b (.l ⟨[(0, .s K0 []),(3, .s K5 [])],[]⟩ ⟨[(4, .s K3 [])],[]⟩ [(.exit 0,⟨[],[]⟩),(.ret,⟨[(2, .s K3 [])],[]⟩)] (λ (b_1,yu1189_3) k i_5=>g_spec_LetterOf_l0 b_1 yu1189_3 k i_5) .z))) .z))
theorem ke_spec_LetterOf:CK [e_spec_l02All] 0 ane_spec_LetterOf Tryd.f141 e_spec_LetterOf:=⟨⟨trivial,⟨trivial,⟨⟨trivial,⟨λ _ _=>rfl,λ _ _ _ _=>by kernel_rfl,trivial⟩⟩,trivial⟩⟩⟩,λ _=>by kernel_rfl⟩
noncomputable def ane_spec_NameOk:An:=.q .z (.q .z (.m [(.normal,⟨[],[]⟩),(.ret,⟨[(2, .s K2 [])],[]⟩)] [0] [] (.q .z (.b (.l ⟨[(0, .s K5 [])],[]⟩ ⟨[(3, .s K3 [])],[]⟩ [(.exit 0,⟨[],[]⟩),(.ret,⟨[(2, .s K2 [])],[]⟩)] (λ s_1 k i_5=>g_spec_NameOk_l0 s_1 k i_5) .z))) .z))
theorem ke_spec_NameOk:CK [e_spec_l01In,e_spec_LetterOf] 0 ane_spec_NameOk Tryd.f106 e_spec_NameOk:=⟨⟨trivial,⟨trivial,⟨⟨trivial,⟨λ _ _=>rfl,λ _ _ _ _=>by kernel_rfl,trivial⟩⟩,trivial⟩⟩⟩,λ _=>by kernel_rfl⟩
noncomputable def ane_spec_l08Names:An:=.z
theorem ke_spec_l08Names:CK [] 0 ane_spec_l08Names Tryd.f176 e_spec_l08Names:=⟨trivial,λ _=>by kernel_rfl⟩
noncomputable def ane_spec_PrimName:An:=.z
theorem ke_spec_PrimName:CK [e_spec_l08Names,e_spec_l01In] 0 ane_spec_PrimName Tryd.f135 e_spec_PrimName:=⟨trivial,λ _=>by kernel_rfl⟩
noncomputable def ane_spec_l09Op:An:=.z
theorem ke_spec_l09Op:CK [e_spec_PrimName,e_spec_l01In] 0 ane_spec_l09Op Tryd.f91 e_spec_l09Op:=⟨trivial,λ _=>by kernel_rfl⟩
noncomputable def ane_spec_l09Open:An:=.q .z (.q .z (.m [(.normal,⟨[(4, .s K11 [(0,1)])],[.d, .o]⟩),(.ret,⟨[(2, .c (.one (.emp))),(3, .s K2 [])],[.d]⟩)] [0] [] (.q .z (.b (.l ⟨[(0, .s K8 [])],[.n, .n]⟩ ⟨[(4, .s K11 [(0,1)]),(5, .s K3 [])],[.d, .o]⟩ [(.exit 0,⟨[(4, .s K11 [(0,1)])],[.d, .o]⟩),(.ret,⟨[(2, .c (.one (.emp))),(3, .s K2 [])],[.d, .d]⟩)] (λ body_1 k (vopen_6,i_7)=>g_spec_l09Open_l0 body_1 k vopen_6 i_7) (.q .z (.m [(.normal,⟨[(4, .s K11 [(0,2)])],[.d, .d, .o]⟩),(.ret,⟨[(2, .c (.one (.emp))),(3, .s K2 [])],[.d, .d]⟩)] [5] [] (.b (.q .z (.q .z (.b (.m [(.normal,⟨[(21, .s K2 [])],[.d, .f]⟩)] [4,6,20] [1] .z (.q .z (.m [(.normal,⟨[(29, .s K2 [])],[.d, .f]⟩)] [4,6,20] [1] .z (.q (.q .z (.q (.m [(.normal,⟨[(46, .s K2 [])],[.d, .f]⟩)] [4,6,7] [1] .z .z) .z)) .z)))))))) .z))))) .z))
theorem ke_spec_l09Open:CK [] 0 ane_spec_l09Open Tryd.f92 e_spec_l09Open:=⟨⟨trivial,⟨trivial,⟨⟨trivial,⟨λ _ _=>rfl,λ _ _ _ _=>by kernel_rfl,⟨trivial,⟨⟨trivial,⟨trivial,⟨trivial,⟨trivial,⟨trivial,⟨⟨trivial,⟨⟨trivial,trivial⟩,trivial⟩⟩,trivial⟩⟩⟩⟩⟩⟩,trivial⟩⟩⟩⟩,trivial⟩⟩⟩,λ _=>by kernel_rfl⟩
end Go.Proofs.YtcnbncafiinfjaaDoor
namespace Go.Proofs.YtcnbncafiinfjaaDoor
open Go Go.Fm
set_option maxRecDepth 1000000
noncomputable def ane_spec_ShapeOk:An:=.q .z (.q .z (.m [(.normal,⟨[],[]⟩),(.ret,⟨[(2, .s K2 [])],[]⟩)] [0] [] (.q .z (.b (.l ⟨[(0, .s K8 [])],[]⟩ ⟨[(3, .s K3 [])],[]⟩ [(.exit 0,⟨[],[]⟩),(.ret,⟨[(2, .s K2 [])],[]⟩)] (λ body_1 k i_4=>g_spec_ShapeOk_l0 body_1 k i_4) .z))) .z))
theorem ke_spec_ShapeOk:CK [e_spec_l09Op,e_spec_l09Open] 0 ane_spec_ShapeOk Tryd.f46 e_spec_ShapeOk:=⟨⟨trivial,⟨trivial,⟨⟨trivial,⟨λ _ _=>rfl,λ _ _ _ _=>by kernel_rfl,trivial⟩⟩,trivial⟩⟩⟩,λ _=>by kernel_rfl⟩
noncomputable def ane_spec_DefsOk:An:=.q .z (.q .z (.m [(.normal,⟨[],[]⟩),(.ret,⟨[(2, .s K2 [])],[]⟩)] [0] [] (.q .z (.b (.l ⟨[(0, .s K10 [])],[]⟩ ⟨[(3, .s K3 [])],[]⟩ [(.exit 0,⟨[],[]⟩),(.ret,⟨[(2, .s K2 [])],[]⟩)] (λ defs_1 k i_4=>g_spec_DefsOk_l0 defs_1 k i_4) (.q .z (.m [(.normal,⟨[],[]⟩),(.ret,⟨[(2, .s K2 [])],[]⟩)] [3] [] (.b (.q (.m [(.normal,⟨[(30, .s K2 [])],[]⟩)] [] [] .z .z) (.q .z (.b (.l ⟨[(0, .s K10 []),(3, .s K3 [])],[]⟩ ⟨[(4, .s K3 [])],[]⟩ [(.exit 2,⟨[],[]⟩),(.ret,⟨[(2, .s K2 [])],[]⟩)] (λ (defs_1,i_4) k k_12=>g_spec_DefsOk_l1 defs_1 i_4 k k_12) (.q .z (.q (.b (.q .z (.m [(.normal,⟨[(59, .s K2 [])],[.f]⟩)] [4,5] [0] .z .z))) .z))))))) .z))))) .z))
theorem ke_spec_DefsOk:CK [e_spec_NameOk,e_spec_ShapeOk] 0 ane_spec_DefsOk Tryd.f55 e_spec_DefsOk:=⟨⟨trivial,⟨trivial,⟨⟨trivial,⟨λ _ _=>rfl,λ _ _ _ _=>by kernel_rfl,⟨trivial,⟨⟨⟨trivial,trivial⟩,⟨trivial,⟨λ _ _=>rfl,λ _ _ _ _=>by kernel_rfl,⟨trivial,⟨⟨trivial,⟨trivial,trivial⟩⟩,trivial⟩⟩⟩⟩⟩,trivial⟩⟩⟩⟩,trivial⟩⟩⟩,λ _=>by kernel_rfl⟩
noncomputable def ane_spec_l20Put:An:=.q .z (.q .z (.q (.b (.l ⟨[(0, .s K11 []),(1, .s K3 []),(4, .c (.one (.emp)))],[]⟩ ⟨[(5, .s K3 [])],[]⟩ [(.exit 0,⟨[(5, .s K3 [])],[]⟩)] (λ (list_1,n_2) k vat_4=>g_spec_l20Put_l0 list_1 n_2 k vat_4) (.q (.m [(.normal,⟨[(17, .s K2 [])],[]⟩)] [5] [] .z .z) .z))) (.q (.m [(.normal,⟨[(31, .s K2 [])],[]⟩)] [0,1,4,5] [] .z .z) .z)))
theorem ke_spec_l20Put:CK [] 0 ane_spec_l20Put Tryd.f59 e_spec_l20Put:=⟨⟨trivial,⟨trivial,⟨⟨λ _ _=>rfl,λ _ _ _ _=>by kernel_rfl,⟨⟨trivial,trivial⟩,trivial⟩⟩,⟨⟨trivial,trivial⟩,trivial⟩⟩⟩⟩,λ _=>by kernel_rfl⟩
noncomputable def ane_spec_Falls:An:=.z
theorem ke_spec_Falls:CK [e_spec_ShapeOk] 0 ane_spec_Falls Tryd.f58 e_spec_Falls:=⟨trivial,λ _=>by kernel_rfl⟩
noncomputable def ane_spec_l20Put_own:An:=.q .z (.q .z (.q (.b (.l ⟨[(0, .s K11 [(0,0)]),(1, .s K3 []),(4, .c (.one (.emp)))],[.o]⟩ ⟨[(5, .s K3 [])],[.f]⟩ [(.exit 0,⟨[(5, .s K3 [])],[.f]⟩)] (λ (list_1,n_2) k vat_4=>g_spec_l20Put_own_l0 list_1 n_2 k vat_4) (.q (.m [(.normal,⟨[(17, .s K2 [])],[.f]⟩)] [5] [] .z .z) .z))) (.q (.m [(.normal,⟨[(31, .s K2 [])],[.f]⟩)] [0,1,4,5] [0] .z .z) .z)))
theorem ke_spec_l20Put_own:CK [] 1 ane_spec_l20Put_own Tryd.f59 e_spec_l20Put_own:=⟨⟨trivial,⟨trivial,⟨⟨λ _ _=>rfl,λ _ _ _ _=>by kernel_rfl,⟨⟨trivial,trivial⟩,trivial⟩⟩,⟨⟨trivial,trivial⟩,trivial⟩⟩⟩⟩,λ _=>by kernel_rfl⟩
noncomputable def ane_spec_CallsOf_own:An:=.q .z (.q .z (.q .z (.m [(.normal,⟨[(3, .s K11 [(0,1)])],[.d, .o]⟩)] [0,2] [] (.q .z (.b (.l ⟨[(0, .s K8 []),(2, .c (.one (.emp)))],[.n, .n]⟩ ⟨[(3, .s K11 [(0,1)]),(4, .s K3 [])],[.d, .o]⟩ [(.exit 0,⟨[(3, .s K11 [(0,1)])],[.d, .o]⟩)] (λ body_1 k (out_5,i_6)=>g_spec_CallsOf_own_l0 body_1 k out_5 i_6) (.q .z (.m [(.normal,⟨[(3, .s K11 [(0,2)])],[.d, .d, .o]⟩)] [4] [] .z .z))))) .z)))
theorem ke_spec_CallsOf_own:CK [e_spec_ShapeOk,e_spec_l20Put_own] 0 ane_spec_CallsOf_own Tryd.f57 e_spec_CallsOf_own:=⟨⟨trivial,⟨trivial,⟨trivial,⟨⟨trivial,⟨λ _ _=>rfl,λ _ _ _ _=>by kernel_rfl,⟨trivial,⟨trivial,trivial⟩⟩⟩⟩,trivial⟩⟩⟩⟩,λ _=>by kernel_rfl⟩
end Go.Proofs.YtcnbncafiinfjaaDoor
namespace Go.Proofs.YtcnbncafiinfjaaDoor
open Go Go.Fm
set_option maxRecDepth 1000000
noncomputable def ane_laws_sameInts:An:=.q .z (.q .z (.m [(.normal,⟨[],[]⟩),(.ret,⟨[(4, .s K2 [])],[]⟩)] [0,1] [] (.q .z (.b (.l ⟨[(0, .s K11 []),(1, .s K11 [])],[]⟩ ⟨[(5, .s K3 [])],[]⟩ [(.exit 0,⟨[],[]⟩),(.ret,⟨[(4, .s K2 [])],[]⟩)] (λ (a_1,b_2) k i_5=>g_laws_sameInts_l0 a_1 b_2 k i_5) .z))) .z))
theorem ke_laws_sameInts:CK [] 0 ane_laws_sameInts Tryd.f39 e_laws_sameInts:=⟨⟨trivial,⟨trivial,⟨⟨trivial,⟨λ _ _=>rfl,λ _ _ _ _=>by kernel_rfl,trivial⟩⟩,trivial⟩⟩⟩,λ _=>by kernel_rfl⟩
noncomputable def ane_spec_Reach_hand:An:=.q .z (.q (.m [(.normal,⟨[(23, .s K2 [])],[.f]⟩)] [0,1,4] [] .z .z) (.q .z (.m [(.normal,⟨[(5, .s K11 [])],[.f, .d]⟩)] [0,4] [] (.q .z (.b (.l ⟨[(0, .s K10 [(0,0)]),(4, .c (.one (.emp)))],[.o, .n]⟩ ⟨[(5, .s K11 []),(6, .s K2 [])],[.f, .d]⟩ [(.exit 0,⟨[(5, .s K11 [])],[.f, .d]⟩)] (λ defs_1 k (out_8,more_9)=>g_spec_Reach_hand_l0 defs_1 k out_8 more_9) (.q .z (.b (.q .z (.m [(.normal,⟨[(5, .s K11 [])],[.f, .d]⟩)] [6,7] [] (.q .z (.b (.l ⟨[(0, .s K10 [(0,0)]),(4, .c (.one (.emp))),(6, .s K2 []),(7, .s K3 [])],[.o, .n]⟩ ⟨[(5, .s K11 []),(8, .s K3 [])],[.f, .d]⟩ [(.exit 2,⟨[(5, .s K11 [])],[.f, .d]⟩)] (λ (defs_1,_,n_12) k (out_13,i_14)=>g_spec_Reach_hand_l1 defs_1 n_12 k out_13 i_14) (.q .z (.m [(.normal,⟨[(5, .s K11 [])],[.f, .d]⟩),(.exit 2,⟨[(5, .s K11 [])],[.f, .d]⟩)] [8] [] (.b (.q .z (.q .z (.m [(.normal,⟨[(10, .s K11 [(0,3)])],[.f, .d, .d, .o]⟩)] [5,9] [] (.m [(.normal,⟨[(56, .s K2 [])],[.f, .d, .f]⟩)] [10] [2] .z .z) (.q .z (.m [(.normal,⟨[(11, .s K11 [])],[.f, .d, .d, .f]⟩)] [5,10] [3] (.q .z (.b (.l ⟨[(0, .s K10 [(0,0)]),(4, .c (.one (.emp))),(5, .s K11 []),(6, .s K2 []),(7, .s K3 []),(8, .s K3 []),(10, .s K11 [(0,3)])],[.o, .n, .n, .o]⟩ ⟨[(11, .s K11 []),(12, .s K3 [])],[.f, .d, .d, .f]⟩ [(.exit 4,⟨[(11, .s K11 [])],[.f, .d, .d, .f]⟩)] (λ (_,_,_,_,_,list_21) k (next_28,j_29)=>g_spec_Reach_hand_l2 list_21 k next_28 j_29) .z))) .z)))))) .z))))) .z))))))) .z)))
theorem ke_spec_Reach_hand:CK [e_spec_DefsOk,e_spec_l01In,e_spec_CallsOf_own,e_spec_Falls,e_spec_l20Put] 1 ane_spec_Reach_hand Tryd.f17 e_spec_Reach_hand:=⟨⟨trivial,⟨⟨trivial,trivial⟩,⟨trivial,⟨⟨trivial,⟨λ _ _=>rfl,λ _ _ _ _=>by kernel_rfl,⟨trivial,⟨trivial,⟨⟨trivial,⟨λ _ _=>rfl,λ _ _ _ _=>by kernel_rfl,⟨trivial,⟨⟨trivial,⟨trivial,⟨⟨trivial,trivial⟩,⟨trivial,⟨⟨trivial,⟨λ _ _=>rfl,λ _ _ _ _=>by kernel_rfl,trivial⟩⟩,trivial⟩⟩⟩⟩⟩,trivial⟩⟩⟩⟩,trivial⟩⟩⟩⟩⟩,trivial⟩⟩⟩⟩,λ _=>by kernel_rfl⟩
noncomputable def ane_impl_CallsOf:An:=.z
theorem ke_impl_CallsOf:CK [e_impl_ShapeOk,e_impl_callsOf] 0 ane_impl_CallsOf Tryd.f40 e_impl_CallsOf:=⟨trivial,λ _=>by kernel_rfl⟩
theorem fe_slices_Clone_Op:ConOk Tryd.prog e_slices_Clone_Op:=clone_own (P:=λ _=>Tryd.prog) (τ:=K7) TrydT_eq Tryd.func50 rfl rfl ⟨by kernel_rfl,by kernel_rfl,by kernel_rfl⟩ (congrArg TyI.kind TrydT_24) (λ a=>by kernel_rfl)
noncomputable def ane_impl_Shake:An:=.q .z (.q .z (.q .z (.q .z (.m [(.normal,⟨[(7, .s K10 [(0,2)])],[.f, .d, .o]⟩)] [0,1,4,5,6] [0] (.q .z (.b (.l ⟨[(0, .s K10 []),(1, .s K3 []),(4, .c (.one (.emp))),(5, .s K3 []),(6, .s K11 [(0,0)]),(20, .s K11 [(0,0)]),(21, .s K3 [])],[.o, .n, .n]⟩ ⟨[(7, .s K10 [(0,2)]),(22, .s K3 [])],[.f, .d, .o]⟩ [(.exit 0,⟨[(7, .s K10 [(0,2)])],[.f, .d, .o]⟩)] (λ (defs_1,_,_,list_8,_,v_10) k (out_11,v_12)=>g_impl_Shake_l0 defs_1 list_8 v_10 k out_11 v_12) (.q .z (.q .z (.m [(.normal,⟨[(7, .s K10 [(0,3)])],[.f, .d, .d, .o]⟩)] [22] [] (.b (.q .z (.q .z (.m [(.normal,⟨[(10, .s K8 [])],[.f, .d, .f, .d]⟩)] [7,9] [2] (.q .z (.b (.l ⟨[(0, .s K10 []),(1, .s K3 []),(4, .c (.one (.emp))),(5, .s K3 []),(6, .s K11 [(0,0)]),(7, .s K10 [(0,2)]),(9, .s K3 []),(20, .s K11 [(0,0)]),(21, .s K3 []),(22, .s K3 []),(33, .s K3 [])],[.o, .n, .o, .n]⟩ ⟨[(10, .s K8 [(0,3)]),(32, .s K8 [(0,3)]),(34, .s K3 [])],[.f, .d, .f, .o]⟩ [(.exit 2,⟨[(10, .s K8 [(0,3)])],[.f, .d, .f, .o]⟩)] (λ (_,_,_,list_8,_,_,_,_,_,v_20) k (body_21,v_22,v_23)=>g_impl_Shake_l1 list_8 v_20 k body_21 v_22 v_23) (.q .z (.q .z (.m [(.normal,⟨[(10, .s K8 [(0,3)]),(32, .s K8 [(0,3)])],[.f, .d, .f, .o]⟩)] [34] [] .z .z)))))) .z)))) .z)))))) .z))))
theorem ke_impl_Shake:CK [e_impl_Reach,e_slices_Clone_Op,e_slices_Index_int] 0 ane_impl_Shake Tryd.f41 e_impl_Shake:=⟨⟨trivial,⟨trivial,⟨trivial,⟨trivial,⟨⟨trivial,⟨λ _ _=>rfl,λ _ _ _ _=>by kernel_rfl,⟨trivial,⟨trivial,⟨⟨trivial,⟨trivial,⟨⟨trivial,⟨λ _ _=>rfl,λ _ _ _ _=>by kernel_rfl,⟨trivial,⟨trivial,⟨trivial,trivial⟩⟩⟩⟩⟩,trivial⟩⟩⟩,trivial⟩⟩⟩⟩⟩,trivial⟩⟩⟩⟩⟩,λ _=>by kernel_rfl⟩
noncomputable def ane_laws_FnReach:An:=.q .z (.q .z (.q .z (.q .z (.q .z (.m [(.normal,⟨[],[.f, .f]⟩),(.ret,⟨[(2, .s K2 [])],[.f, .f]⟩)] [3,4,5] [0,1] (.q .z (.b (.l ⟨[(3, .s K10 [(0,0)]),(4, .s K3 []),(5, .s K11 [(0,1)])],[.o, .o]⟩ ⟨[(6, .s K3 [])],[.f, .f]⟩ [(.exit 0,⟨[],[.f, .f]⟩),(.ret,⟨[(2, .s K2 [])],[.f, .f]⟩)] (λ (defs_9,_,all_11) k i_12=>g_laws_FnReach_l0 defs_9 all_11 k i_12) (.q .z (.m [(.normal,⟨[],[.f, .f]⟩),(.ret,⟨[(2, .s K2 [])],[.f, .f]⟩)] [6] [] (.b (.q .z (.q (.m [(.normal,⟨[(62, .s K2 [])],[.f, .f, .f]⟩)] [7] [2] .z .z) (.q .z (.q .z (.b (.l ⟨[(3, .s K10 [(0,0)]),(4, .s K3 []),(5, .s K11 [(0,1)]),(6, .s K3 []),(8, .s K11 [(0,3)])],[.o, .o, .n, .o]⟩ ⟨[(9, .s K3 [])],[.f, .f, .d, .f]⟩ [(.exit 2,⟨[],[.f, .f, .d, .f]⟩),(.ret,⟨[(2, .s K2 [])],[.f, .f, .d, .f]⟩)] (λ (_,_,all_11,_,list_23) k j_24=>g_laws_FnReach_l1 all_11 list_23 k j_24) (.q .z (.m [(.normal,⟨[],[.f, .f, .d, .f]⟩),(.ret,⟨[(2, .s K2 [])],[.f, .f, .d, .f]⟩)] [9] [] (.b (.q .z (.m [(.normal,⟨[(10, .s K2 [])],[.f, .f, .d, .f]⟩)] [] [] (.q .z (.b (.l ⟨[(3, .s K10 [(0,0)]),(4, .s K3 []),(5, .s K11 [(0,1)]),(6, .s K3 []),(8, .s K11 [(0,3)]),(9, .s K3 [])],[.o, .o, .n, .o]⟩ ⟨[(10, .s K2 []),(11, .s K3 [])],[.f, .f, .d, .f]⟩ [(.exit 4,⟨[(10, .s K2 [])],[.f, .f, .d, .f]⟩)] (λ (_,_,all_11,_,list_23,j_24) k (there_28,n_29)=>g_laws_FnReach_l2 all_11 list_23 j_24 k there_28 n_29) .z))) .z))) .z))))))))) .z))))) .z)))))
theorem ke_laws_FnReach:CK [e_laws_big,e_spec_DrawReach,e_impl_Reach,e_spec_Reach_hand,e_laws_sameInts,e_impl_CallsOf,e_impl_Shake] 0 ane_laws_FnReach Tryd.f6 e_laws_FnReach:=⟨⟨trivial,⟨trivial,⟨trivial,⟨trivial,⟨trivial,⟨⟨trivial,⟨λ _ _=>rfl,λ _ _ _ _=>by kernel_rfl,⟨trivial,⟨⟨trivial,⟨⟨trivial,trivial⟩,⟨trivial,⟨trivial,⟨λ _ _=>rfl,λ _ _ _ _=>by kernel_rfl,⟨trivial,⟨⟨trivial,⟨⟨trivial,⟨λ _ _=>rfl,λ _ _ _ _=>by kernel_rfl,trivial⟩⟩,trivial⟩⟩,trivial⟩⟩⟩⟩⟩⟩⟩,trivial⟩⟩⟩⟩,trivial⟩⟩⟩⟩⟩⟩,λ _=>by kernel_rfl⟩
end Go.Proofs.YtcnbncafiinfjaaDoor
namespace Go.Proofs.YtcnbncafiinfjaaDoor
open Go Go.Fm
set_option maxRecDepth 1000000
theorem ce_laws_big:CO e_laws_big:=fnc (λ _=>con_nil) Tryd.func37 ke_laws_big (by kernel_rfl) (λ _=>by kernel_rfl) (λ _=>by kernel_rfl) rfl
theorem ce_spec_l01New:CO e_spec_l01New:=fnc (λ _=>con_nil) Tryd.func82 ke_spec_l01New (by kernel_rfl) (λ _=>by kernel_rfl) (λ _=>by kernel_rfl) rfl
theorem ce_spec_l01Byte:CO e_spec_l01Byte:=fnc (λ _=>con_nil) Tryd.func128 ke_spec_l01Byte (by kernel_rfl) (λ _=>by kernel_rfl) (λ _=>by kernel_rfl) rfl
theorem ce_spec_l01Below:CO e_spec_l01Below:=fnc (λ _=>con_cons ce_spec_l01Byte con_nil) Tryd.func86 ke_spec_l01Below (by kernel_rfl) (λ _=>by kernel_rfl) (λ _=>by kernel_rfl) rfl
theorem ce_spec_l01Once:CO e_spec_l01Once:=fnc (λ _=>con_cons ce_spec_l01Below con_nil) Tryd.func84 ke_spec_l01Once (by kernel_rfl) (λ _=>by kernel_rfl) (λ _=>by kernel_rfl) rfl
theorem ce_spec_l01PickInt:CO e_spec_l01PickInt:=fnc (λ _=>con_cons ce_spec_l01Below con_nil) Tryd.func127 ke_spec_l01PickInt (by kernel_rfl) (λ _=>by kernel_rfl) (λ _=>by kernel_rfl) rfl
theorem ce_spec_l09Plain:CO e_spec_l09Plain:=fnc (λ _=>con_cons ce_spec_l01Below (con_cons ce_spec_l01PickInt con_nil)) Tryd.func171 ke_spec_l09Plain (by kernel_rfl) (λ _=>by kernel_rfl) (λ _=>by kernel_rfl) rfl
theorem ce_spec_l09Body_r:∀ kk,CO (e_spec_l09Body_r kk)
 | 0=>λ _ _ _ h=>nomatch h
 | kk+1=>fnc (λ _=>con_cons ce_spec_l01Below (con_cons ce_spec_l09Plain (con_cons ce_spec_l01Once (con_cons (ce_spec_l09Body_r kk) con_nil)))) Tryd.func125 (ke_spec_l09Body kk) (by kernel_rfl) (λ _=>by kernel_rfl) (λ _=>by kernel_rfl) rfl
theorem ce_spec_l09Body:CO e_spec_l09Body:=ce_spec_l09Body_r bigK
theorem ce_spec_l01Pick:CO e_spec_l01Pick:=fnc (λ _=>con_cons ce_spec_l01Below con_nil) Tryd.func126 ke_spec_l01Pick (by kernel_rfl) (λ _=>by kernel_rfl) (λ _=>by kernel_rfl) rfl
theorem ce_spec_l09Make:CO e_spec_l09Make:=fnc (λ _=>con_cons ce_spec_l01Below (con_cons ce_spec_l01Once (con_cons ce_spec_l09Body (con_cons ce_spec_l01Pick con_nil)))) Tryd.func83 ke_spec_l09Make (by kernel_rfl) (λ _=>by kernel_rfl) (λ _=>by kernel_rfl) rfl
theorem ce_spec_l09Any_imm:CO e_spec_l09Any_imm:=fnc (λ _=>con_cons ce_spec_l09Body (con_cons ce_spec_l01Below (con_cons ce_spec_l01PickInt con_nil))) Tryd.func85 ke_spec_l09Any_imm (by kernel_rfl) (λ _=>by kernel_rfl) (λ _=>by kernel_rfl) rfl
theorem ce_spec_DrawReach:CO e_spec_DrawReach:=fnc (λ _=>con_cons ce_spec_l01New (con_cons ce_spec_l09Make (con_cons ce_spec_l01Once (con_cons ce_spec_l09Any_imm (con_cons ce_spec_l01Below con_nil))))) Tryd.func38 ke_spec_DrawReach (by kernel_rfl) (λ _=>by kernel_rfl) (λ _=>by kernel_rfl) rfl
theorem ce_impl_letters:CO e_impl_letters:=fnc (λ _=>con_nil) Tryd.func182 ke_impl_letters (by kernel_rfl) (λ _=>by kernel_rfl) (λ _=>by kernel_rfl) rfl
theorem ce_ibytealg_IndexByteString:ConOk Tryd.prog e_ibytealg_IndexByteString:=fe_ibytealg_IndexByteString
theorem ce_istringslite_IndexByte:CO e_istringslite_IndexByte:=fnc (λ _=>con_cons ce_ibytealg_IndexByteString con_nil) Tryd.func193 ke_istringslite_IndexByte (by kernel_rfl) (λ _=>by kernel_rfl) (λ _=>by kernel_rfl) rfl
theorem ce_strings_IndexByte:CO e_strings_IndexByte:=fnc (λ _=>con_cons ce_istringslite_IndexByte con_nil) Tryd.func181 ke_strings_IndexByte (by kernel_rfl) (λ _=>by kernel_rfl) (λ _=>by kernel_rfl) rfl
theorem ce_impl_LetterOf:CO e_impl_LetterOf:=fnc (λ _=>con_cons ce_impl_letters (con_cons ce_strings_IndexByte con_nil)) Tryd.func143 ke_impl_LetterOf (by kernel_rfl) (λ _=>by kernel_rfl) (λ _=>by kernel_rfl) rfl
theorem ce_impl_within:CO e_impl_within:=fnc (λ _=>con_nil) Tryd.func62 ke_impl_within (by kernel_rfl) (λ _=>by kernel_rfl) (λ _=>by kernel_rfl) rfl
theorem ce_impl_NameOk:CO e_impl_NameOk:=fnc (λ _=>con_cons ce_impl_LetterOf (con_cons ce_impl_within con_nil)) Tryd.func109 ke_impl_NameOk (by kernel_rfl) (λ _=>by kernel_rfl) (λ _=>by kernel_rfl) rfl
theorem ce_strings_Fields:CO e_strings_Fields:=fnc (λ _=>con_nil) Tryd.func178 ke_strings_Fields (by kernel_rfl) (λ _=>by kernel_rfl) (λ _=>by kernel_rfl) rfl
theorem ce_impl_prims:CO e_impl_prims:=fnc (λ _=>con_cons ce_strings_Fields con_nil) Tryd.func139 ke_impl_prims (by kernel_rfl) (λ _=>by kernel_rfl) (λ _=>by kernel_rfl) rfl
theorem ce_impl_PrimName:CO e_impl_PrimName:=fnc (λ _=>con_cons ce_impl_prims (con_cons ce_impl_within con_nil)) Tryd.func101 ke_impl_PrimName (by kernel_rfl) (λ _=>by kernel_rfl) (λ _=>by kernel_rfl) rfl
theorem ce_impl_opOk:CO e_impl_opOk:=fnc (λ _=>con_cons ce_impl_PrimName (con_cons ce_impl_within con_nil)) Tryd.func137 ke_impl_opOk (by kernel_rfl) (λ _=>by kernel_rfl) (λ _=>by kernel_rfl) rfl
theorem ce_impl_openIn:CO e_impl_openIn:=fnc (λ _=>con_cons ce_impl_opOk con_nil) Tryd.func96 ke_impl_openIn (by kernel_rfl) (λ _=>by kernel_rfl) (λ _=>by kernel_rfl) rfl
theorem ce_impl_ShapeOk:CO e_impl_ShapeOk:=fnc (λ _=>con_cons ce_impl_openIn con_nil) Tryd.func49 ke_impl_ShapeOk (by kernel_rfl) (λ _=>by kernel_rfl) (λ _=>by kernel_rfl) rfl
theorem ce_impl_callsBelowc1:CO e_impl_callsBelowc1:=fnc (λ _=>con_nil) Tryd.func145 ke_impl_callsBelowc1 (by kernel_rfl) (λ _=>by kernel_rfl) (λ _=>by kernel_rfl) rfl
theorem ce_slices_IndexFunc_Op_impl_callsBelowc1:CO e_slices_IndexFunc_Op_impl_callsBelowc1:=fnc (λ _=>con_cons ce_impl_callsBelowc1 con_nil) Tryd.func183 ke_slices_IndexFunc_Op_impl_callsBelowc1 (by kernel_rfl) (λ _=>by kernel_rfl) (λ _=>by kernel_rfl) rfl
theorem ce_slices_ContainsFunc_Op_impl_callsBelowc1:CO e_slices_ContainsFunc_Op_impl_callsBelowc1:=fnc (λ _=>con_cons ce_slices_IndexFunc_Op_impl_callsBelowc1 con_nil) Tryd.func144 ke_slices_ContainsFunc_Op_impl_callsBelowc1 (by kernel_rfl) (λ _=>by kernel_rfl) (λ _=>by kernel_rfl) rfl
theorem ce_impl_callsBelow:CO e_impl_callsBelow:=fnc (λ _=>con_cons ce_slices_ContainsFunc_Op_impl_callsBelowc1 con_nil) Tryd.func110 ke_impl_callsBelow (by kernel_rfl) (λ _=>by kernel_rfl) (λ _=>by kernel_rfl) rfl
theorem ce_impl_DefsOkc1:CO e_impl_DefsOkc1:=fnc (λ _=>con_cons ce_impl_NameOk (con_cons ce_impl_ShapeOk (con_cons ce_impl_callsBelow con_nil))) Tryd.func108 ke_impl_DefsOkc1 (by kernel_rfl) (λ _=>by kernel_rfl) (λ _=>by kernel_rfl) rfl
theorem ce_slices_IndexFunc_Def_impl_DefsOkc1:CO e_slices_IndexFunc_Def_impl_DefsOkc1:=fnc (λ _=>con_cons ce_impl_DefsOkc1 con_nil) Tryd.func142 ke_slices_IndexFunc_Def_impl_DefsOkc1 (by kernel_rfl) (λ _=>by kernel_rfl) (λ _=>by kernel_rfl) rfl
theorem ce_slices_ContainsFunc_Def_impl_DefsOkc1:CO e_slices_ContainsFunc_Def_impl_DefsOkc1:=fnc (λ _=>con_cons ce_slices_IndexFunc_Def_impl_DefsOkc1 con_nil) Tryd.func107 ke_slices_ContainsFunc_Def_impl_DefsOkc1 (by kernel_rfl) (λ _=>by kernel_rfl) (λ _=>by kernel_rfl) rfl
theorem ce_impl_DefsOk:CO e_impl_DefsOk:=fnc (λ _=>con_cons ce_slices_ContainsFunc_Def_impl_DefsOkc1 con_nil) Tryd.func61 ke_impl_DefsOk (by kernel_rfl) (λ _=>by kernel_rfl) (λ _=>by kernel_rfl) rfl
theorem ce_slices_Index_int:CO e_slices_Index_int:=fnc (λ _=>con_nil) Tryd.func87 ke_slices_Index_int (by kernel_rfl) (λ _=>by kernel_rfl) (λ _=>by kernel_rfl) rfl
theorem ce_slices_Contains_int:CO e_slices_Contains_int:=fnc (λ _=>con_cons ce_slices_Index_int con_nil) Tryd.func65 ke_slices_Contains_int (by kernel_rfl) (λ _=>by kernel_rfl) (λ _=>by kernel_rfl) rfl
theorem ce_slices_Sort_int:ConOk Tryd.prog e_slices_Sort_int:=fe_slices_Sort_int
theorem ce_impl_callsOf:CO e_impl_callsOf:=fnc (λ _=>con_cons ce_slices_Contains_int (con_cons ce_slices_Sort_int con_nil)) Tryd.func63 ke_impl_callsOf (by kernel_rfl) (λ _=>by kernel_rfl) (λ _=>by kernel_rfl) rfl
theorem ce_impl_Falls:CO e_impl_Falls:=fnc (λ _=>con_cons ce_impl_ShapeOk con_nil) Tryd.func64 ke_impl_Falls (by kernel_rfl) (λ _=>by kernel_rfl) (λ _=>by kernel_rfl) rfl
theorem ce_impl_Reach:CO e_impl_Reach:=fnc (λ _=>con_cons ce_impl_DefsOk (con_cons ce_impl_within (con_cons ce_impl_callsOf (con_cons ce_impl_Falls (con_cons ce_slices_Contains_int (con_cons ce_slices_Sort_int con_nil)))))) Tryd.func19 ke_impl_Reach (by kernel_rfl) (λ _=>by kernel_rfl) (λ _=>by kernel_rfl) rfl
theorem ce_spec_l01In:CO e_spec_l01In:=fnc (λ _=>con_nil) Tryd.func56 ke_spec_l01In (by kernel_rfl) (λ _=>by kernel_rfl) (λ _=>by kernel_rfl) rfl
theorem ce_spec_l02All:CO e_spec_l02All:=fnc (λ _=>con_nil) Tryd.func180 ke_spec_l02All (by kernel_rfl) (λ _=>by kernel_rfl) (λ _=>by kernel_rfl) rfl
theorem ce_spec_LetterOf:CO e_spec_LetterOf:=fnc (λ _=>con_cons ce_spec_l02All con_nil) Tryd.func141 ke_spec_LetterOf (by kernel_rfl) (λ _=>by kernel_rfl) (λ _=>by kernel_rfl) rfl
theorem ce_spec_NameOk:CO e_spec_NameOk:=fnc (λ _=>con_cons ce_spec_l01In (con_cons ce_spec_LetterOf con_nil)) Tryd.func106 ke_spec_NameOk (by kernel_rfl) (λ _=>by kernel_rfl) (λ _=>by kernel_rfl) rfl
theorem ce_spec_l08Names:CO e_spec_l08Names:=fnc (λ _=>con_nil) Tryd.func176 ke_spec_l08Names (by kernel_rfl) (λ _=>by kernel_rfl) (λ _=>by kernel_rfl) rfl
theorem ce_spec_PrimName:CO e_spec_PrimName:=fnc (λ _=>con_cons ce_spec_l08Names (con_cons ce_spec_l01In con_nil)) Tryd.func135 ke_spec_PrimName (by kernel_rfl) (λ _=>by kernel_rfl) (λ _=>by kernel_rfl) rfl
theorem ce_spec_l09Op:CO e_spec_l09Op:=fnc (λ _=>con_cons ce_spec_PrimName (con_cons ce_spec_l01In con_nil)) Tryd.func91 ke_spec_l09Op (by kernel_rfl) (λ _=>by kernel_rfl) (λ _=>by kernel_rfl) rfl
theorem ce_spec_l09Open:CO e_spec_l09Open:=fnc (λ _=>con_nil) Tryd.func92 ke_spec_l09Open (by kernel_rfl) (λ _=>by kernel_rfl) (λ _=>by kernel_rfl) rfl
theorem ce_spec_ShapeOk:CO e_spec_ShapeOk:=fnc (λ _=>con_cons ce_spec_l09Op (con_cons ce_spec_l09Open con_nil)) Tryd.func46 ke_spec_ShapeOk (by kernel_rfl) (λ _=>by kernel_rfl) (λ _=>by kernel_rfl) rfl
theorem ce_spec_DefsOk:CO e_spec_DefsOk:=fnc (λ _=>con_cons ce_spec_NameOk (con_cons ce_spec_ShapeOk con_nil)) Tryd.func55 ke_spec_DefsOk (by kernel_rfl) (λ _=>by kernel_rfl) (λ _=>by kernel_rfl) rfl
theorem ce_spec_l20Put:CO e_spec_l20Put:=fnc (λ _=>con_nil) Tryd.func59 ke_spec_l20Put (by kernel_rfl) (λ _=>by kernel_rfl) (λ _=>by kernel_rfl) rfl
theorem ce_spec_Falls:CO e_spec_Falls:=fnc (λ _=>con_cons ce_spec_ShapeOk con_nil) Tryd.func58 ke_spec_Falls (by kernel_rfl) (λ _=>by kernel_rfl) (λ _=>by kernel_rfl) rfl
theorem ce_spec_l20Put_own:CO e_spec_l20Put_own:=fnc (λ _=>con_nil) Tryd.func59 ke_spec_l20Put_own (by kernel_rfl) (λ _=>by kernel_rfl) (λ _=>by kernel_rfl) rfl
theorem ce_spec_CallsOf_own:CO e_spec_CallsOf_own:=fnc (λ _=>con_cons ce_spec_ShapeOk (con_cons ce_spec_l20Put_own con_nil)) Tryd.func57 ke_spec_CallsOf_own (by kernel_rfl) (λ _=>by kernel_rfl) (λ _=>by kernel_rfl) rfl
theorem ce_laws_sameInts:CO e_laws_sameInts:=fnc (λ _=>con_nil) Tryd.func39 ke_laws_sameInts (by kernel_rfl) (λ _=>by kernel_rfl) (λ _=>by kernel_rfl) rfl
theorem ce_spec_Reach_hand:CO e_spec_Reach_hand:=fnc (λ _=>con_cons ce_spec_DefsOk (con_cons ce_spec_l01In (con_cons ce_spec_CallsOf_own (con_cons ce_spec_Falls (con_cons ce_spec_l20Put con_nil))))) Tryd.func17 ke_spec_Reach_hand (by kernel_rfl) (λ _=>by kernel_rfl) (λ _=>by kernel_rfl) rfl
theorem ce_impl_CallsOf:CO e_impl_CallsOf:=fnc (λ _=>con_cons ce_impl_ShapeOk (con_cons ce_impl_callsOf con_nil)) Tryd.func40 ke_impl_CallsOf (by kernel_rfl) (λ _=>by kernel_rfl) (λ _=>by kernel_rfl) rfl
theorem ce_slices_Clone_Op:ConOk Tryd.prog e_slices_Clone_Op:=fe_slices_Clone_Op
theorem ce_impl_Shake:CO e_impl_Shake:=fnc (λ _=>con_cons ce_impl_Reach (con_cons ce_slices_Clone_Op (con_cons ce_slices_Index_int con_nil))) Tryd.func41 ke_impl_Shake (by kernel_rfl) (λ _=>by kernel_rfl) (λ _=>by kernel_rfl) rfl
theorem ce_laws_FnReach:CO e_laws_FnReach:=fnc (λ _=>con_cons ce_laws_big (con_cons ce_spec_DrawReach (con_cons ce_impl_Reach (con_cons ce_spec_Reach_hand (con_cons ce_laws_sameInts (con_cons ce_impl_CallsOf (con_cons ce_impl_Shake con_nil))))))) Tryd.func6 ke_laws_FnReach (by kernel_rfl) (λ _=>by kernel_rfl) (λ _=>by kernel_rfl) rfl
end Go.Proofs.YtcnbncafiinfjaaDoor

namespace Go.Fm
theorem wI64 {x:Int} (h1 : -9223372036854775808<=x) (h2:x < 9223372036854775808):IntKind.wrap .i64 x=x:=by
 simp[IntKind.wrap,IntKind.bits,IntKind.signed];omega
theorem wI32 {x:Int} (h1 : -2147483648<=x) (h2:x < 2147483648):IntKind.wrap .i32 x=x:=by
 simp[IntKind.wrap,IntKind.bits,IntKind.signed];omega
theorem getI_ex {α:Type} {xs:List α} {i:Int} (h0:0<=i) (h1:i < xs.length):∃ x,getI xs i=some x/\x ∈ xs/\xs[i.toNat]? = some x:=by
 have hi:i.toNat < xs.length:=by omega
 unfold getI
 rw[if_pos h0,List.getElem?_eq_getElem hi]
 exact ⟨_,rfl,List.getElem_mem hi,rfl⟩
theorem getI_nat {α:Type} {xs:List α} {i:Nat}:getI xs (i:Int)=xs[i]? := by
 unfold getI;rw[if_pos (Int.natCast_nonneg i)];rfl
theorem app_eq {α:Type} {xs ys:List α} (h:xs.length+ys.length<=4294967296):app xs ys=some (xs++ys):=by
 unfold app
 rw[if_pos (by rw[List.length_append];exact h)]
theorem subL_eq {α:Type} {xs:List α} {a b:Int} (h0:0<=a) (h1:a<=b) (h2:b<=xs.length):subL xs a b=some ((xs.drop a.toNat).take (b.toNat-a.toNat)):=by
 unfold subL;rw[if_pos ⟨h0,h1,h2⟩]
theorem subL_drop {α:Type} {xs:List α} {a:Int} (h0:0<=a) (h2:a<=xs.length):subL xs a xs.length=some (xs.drop a.toNat):=by
 rw[subL_eq h0 h2 (Int.le_refl _),List.take_of_length_le]
 rw[List.length_drop];omega
theorem subL_take {α:Type} {xs:List α} {b:Int} (h0:0<=b) (h2:b<=xs.length):subL xs 0 b=some (xs.take b.toNat):=by
 rw[subL_eq (Int.le_refl _) h0 h2];rfl
theorem remI_ex {k:IntKind} {a b:Int} (h0:0<=a) (hb:0 < b):remI k a b=some (a % b)/\0<=a % b/\a % b < b:=by
 unfold remI
 rw[if_neg (by omega),Int.tmod_eq_emod_of_nonneg h0]
 exact ⟨rfl,Int.emod_nonneg _ (by omega),Int.emod_lt_of_pos _ hb⟩
theorem bB_toNat {k:IntKind} {a:Int} (h0:0<=a) (h1:a < 2 ^ k.bits):(bytesB k a).toNat=a.toNat:=by
 unfold bytesB
 rw[BitVec.toNat_ofInt,Int.emod_eq_of_lt h0]
 simpa using h1
theorem wrap_small {k:IntKind} {n:Nat} (h:n < 2 ^ (k.bits-1)):k.wrap n=n:=by
 unfold IntKind.wrap
 have hb:2 ^ (k.bits-1)<=2 ^ k.bits:=Nat.pow_le_pow_right (by decide) (Nat.sub_le _ _)
 have h1:(n:Int) < ((2 ^ k.bits:Nat):Int):=Int.ofNat_lt.2 (Nat.lt_of_lt_of_le h hb)
 have h2:(n:Int) < ((2 ^ (k.bits-1):Nat):Int):=Int.ofNat_lt.2 h
 simp only[Int.natCast_pow,Int.cast_ofNat_Int]at h1 h2
 have e:(n:Int) % (2 ^ k.bits:Int)=n:=Int.emod_eq_of_lt (Int.natCast_nonneg _) h1
 simp only[e]
 rw[if_neg]
 intro hc
 rw[Bool.and_eq_true,decide_eq_true_eq]at hc
 have h3:=hc.2
 omega
theorem and_le {k:IntKind} {a b:Int} (h0:0<=b) (h1:b < 2 ^ (k.bits-1)):0<=andI k a b/\andI k a b<=b:=by
 unfold andI
 have hb:(bytesB k b).toNat=b.toNat:=bB_toNat h0 (Int.lt_of_lt_of_le h1 (by
  have:((2 ^ (k.bits-1):Nat):Int)<=((2 ^ k.bits:Nat):Int):=Int.ofNat_le.2 (Nat.pow_le_pow_right (by decide) (Nat.sub_le _ _))
  simpa only[Int.natCast_pow,Int.cast_ofNat_Int] using this))
 have hle:(bytesB k a &&& bytesB k b).toNat<=b.toNat:=by
  rw[BitVec.toNat_and,hb];exact Nat.and_le_right
 have hlt:(bytesB k a &&& bytesB k b).toNat < 2 ^ (k.bits-1):=by
  refine Nat.lt_of_le_of_lt hle ?_
  have:(b.toNat:Int) < ((2 ^ (k.bits-1):Nat):Int):=by rw[Int.toNat_of_nonneg h0];simpa only[Int.natCast_pow,Int.cast_ofNat_Int] using h1
  exact Int.ofNat_lt.1 this
 rw[wrap_small hlt]
 omega
def Tot {α:Type} (o:Option α) (Q:α->Prop):Prop:=∃ a,o=some a/\Q a
section
variable {α β:Type} {Q Q':α->Prop} {R:β->Prop}
theorem Tot.some {a:α} (h:Q a):Tot (some a) Q:=⟨a,rfl,h⟩
theorem Tot.bind {o:Option α} {f:α->Option β} (h:Tot o Q) (hf:∀ a,Q a->Tot (f a) R):Tot (o.bind f) R:=by
 obtain ⟨a,rfl,ha⟩:=h;exact hf a ha
theorem Tot.bindE {o:Option α} {f:α->Option β} {a:α} (h:o=.some a) (hf:Tot (f a) R):Tot (o.bind f) R:=by subst h;exact hf
theorem Tot.cond {c:Bool} {x y:Option α} (h1:c=true->Tot x Q) (h2:c=false->Tot y Q):Tot (cond c x y) Q:=by
 cases c with
 | true=>exact h1 rfl
 | false=>exact h2 rfl
theorem Tot.condD {p:Prop} [Decidable p] {x y:Option α} (h1:p->Tot x Q) (h2:¬ p->Tot y Q):Tot (_root_.cond (decide p) x y) Q :=
 .cond (λ h=>h1 (of_decide_eq_true h)) (λ h=>h2 (of_decide_eq_false h))
end
end Go.Fm
namespace Go.Fm
theorem nxt {n:Nat} (h:n < 16777216):IntKind.wrap .i64 ((n:Int)+1)=((n+1:Nat):Int):=by rw[wI64 (by omega) (by omega)];omega
def allN {α:Type} (p:Nat->α->Bool):Nat->List α->Bool
 | _,[]=>true
 | n,x::r=>p n x&&allN p (n+1) r
theorem allN_const {α:Type} (p:α->Bool):∀ (n:Nat) (l:List α),allN (λ _=>p) n l=l.all p
 | n,[]=>rfl
 | n,x::r=>by simp only[allN,List.all_cons,allN_const p (n+1) r]
theorem allLoop {α β:Type} {L:List α} {bad:β} (p:Nat->α->Bool) (F:Nat->Int->Option (Unit ⊕ β)) (step:∀ (k n:Nat) (x:α),L[n]? = some x->n < L.length->F (k+1) n=cond (p n x) (F k ((n+1:Nat):Int)) (some (.inr bad)))
  (fin:∀ k n:Nat,L.length<=n->F (k+1) n=some (.inl ())) (hm:L.length<=16777216):F bigK 0=some (cond (allN p 0 L) (.inl ()) (.inr bad)):=by
 have key:∀ (k n:Nat),n<=L.length->L.length-n < k->F k n=some (cond (allN p n (L.drop n)) (.inl ()) (.inr bad)):=by
  intro k
  induction k with
  | zero=>intro n h0 h1;omega
  | succ k ih =>
   intro n h0 h1
   by_cases hn:n < L.length
   ·rw[step k n L[n] (List.getElem?_eq_getElem hn) hn,List.drop_eq_getElem_cons hn]
    show _=some (cond (p n L[n]&&allN p (n+1) (L.drop (n+1))) _ _)
    cases p n L[n] with
    | false=>rfl
    | true=>rw[cond_true,ih (n+1) (by omega) (by omega),Bool.true_and]
   ·rw[fin k n (by omega),List.drop_eq_nil_of_le (by omega)];rfl
 have:=key bigK 0 (Nat.zero_le _) (by unfold bigK;omega)
 rw[List.drop_zero]at this
 exact this
theorem eqList {α:Type} [DecidableEq α] {a b:List α} (F:Nat->Int->Option (Unit ⊕ Bool)) (g:Option Bool) (hg:g=cond ((a.length:Int) != (b.length:Int)) (some false) (((F bigK 0).bind λ o=>match o with | .inl ()=>some (.inl ()) | .inr v=>some (.inr v):Option (Unit ⊕ Bool)).bind λ o=>match o with | .inl ()=>some true | .inr v=>some v))
  (hF:∀ (k:Nat) (i:Int),F (k+1) i=cond (decide (i < (a.length:Int))) ((getI a i).bind λ x=>(getI b i).bind λ y=>cond (!decide (x=y)) (some (.inr false)) (F k (IntKind.wrap .i64 (i+1)))) (some (.inl ()))) (hm:a.length<=1048576):g=some (decide (a=b)):=by
 rw[hg]
 by_cases hl:a.length=b.length
 ·have key:∀ (k n:Nat),n<=a.length->a.length-n < k->F k n=some (if a.drop n=b.drop n then .inl () else .inr false):=by
   intro k
   induction k with
   | zero=>intro n h0 h1;omega
   | succ k ih =>
    intro n h0 h1
    rw[hF]
    by_cases hn:n < a.length
    ·have hn':n < b.length:=by omega
     rw[decide_eq_true (by omega),getI_nat,getI_nat,List.getElem?_eq_getElem hn,List.getElem?_eq_getElem hn',List.drop_eq_getElem_cons hn,List.drop_eq_getElem_cons hn']
     simp only[cond_true,Option.bind_some]
     by_cases he:a[n]=b[n]
     ·rw[decide_eq_true he,Bool.not_true,cond_false,wI64 (by omega) (by omega),show ((n:Int)+1)=((n+1:Nat):Int) by omega,ih (n+1) (by omega) (by omega),he]
      simp only[List.cons.injEq,true_and]
     ·rw[decide_eq_false he,Bool.not_false,cond_true,if_neg (λ h=>he (List.cons.inj h).1)]
    ·rw[decide_eq_false (by omega),cond_false,List.drop_eq_nil_of_le (by omega),List.drop_eq_nil_of_le (by omega),if_pos rfl]
  have:((a.length:Int) != (b.length:Int))=false:=by rw[hl];simp
  rw[this,cond_false]
  have h:=key bigK 0 (Nat.zero_le _) (by unfold bigK;omega)
  rw[show ((0:Nat):Int)=0 from rfl]at h
  rw[h]
  by_cases he:a=b
  ·simp[he]
  ·simp[he]
 ·have:((a.length:Int) != (b.length:Int))=true:=by simp;omega
  rw[this,cond_true,decide_eq_false (λ h=>hl (by rw[h]))]
theorem eqRefl {α:Type} {a:List α} (F:Nat->Int->Option (Unit ⊕ Bool)) (f:Option Bool)
  (hf:f=cond ((a.length:Int) != (a.length:Int)) (some false) (((F bigK 0).bind λ o=>match o with | .inl ()=>some (.inl ()) | .inr v=>some (.inr v):Option (Unit ⊕ Bool)).bind λ o=>match o with | .inl ()=>some true | .inr v=>some v))
  (hs:∀ (k n:Nat) (x:α),a[n]? = some x->n < a.length->F (k+1) n=F k ((n+1:Nat):Int)) (he:∀ (k n:Nat),a.length<=n->F (k+1) n=some (.inl ())) (hm:a.length<=16777216):f=some true:=by
 have h:=allLoop (L:=a) (bad:=false) (λ _ _=>true) F (λ k n x hx hn=>by rw[hs k n x hx hn];rfl) he hm
 rw[hf,h]
 have e:∀ (n:Nat) (l:List α),allN (λ _ _=>true) n l=true:=λ n l=>by rw[allN_const (λ _=>true)];simp
 rw[e]
 simp
theorem bne_self' {α:Type} [BEq α] [LawfulBEq α] (x:α):(x != x)=false:=by simp
end Go.Fm
namespace Go.Proofs.YtcnbncafiinfjaaDoor
open Go Go.Fm
set_option maxRecDepth 100000
theorem specIn_eq {x a b:Int}:g_spec_l01In x a b=some (decide (a<=x/\x<=b)):=by
 unfold g_spec_l01In
 by_cases h:x ≥ a
 ·rw[decide_eq_true h]
  simp only[cond_true]
  congr 1
  exact decide_eq_decide.2 ⟨λ h2=>⟨h,h2⟩,λ h2=>h2.2⟩
 ·rw[decide_eq_false h]
  simp only[cond_false]
  congr 1
  exact (decide_eq_false λ h2=>h h2.1).symm
theorem within_eq {x a b:Int}:g_impl_within x a b=some (decide (a<=x/\x<=b)):=by
 unfold g_impl_within
 by_cases h:a<=x
 ·rw[decide_eq_true h]
  simp only[cond_true]
  congr 1
  exact decide_eq_decide.2 ⟨λ h2=>⟨h,h2⟩,λ h2=>h2.2⟩
 ·rw[decide_eq_false h]
  simp only[cond_false]
  congr 1
  exact (decide_eq_false λ h2=>h h2.1).symm
theorem prims_eq:g_impl_prims=g_spec_l08Names:=by kernel_rfl
theorem name_eq (k:Int):g_impl_PrimName k=g_spec_PrimName k:=by
 unfold g_impl_PrimName g_spec_PrimName
 rw[prims_eq]
 unfold g_spec_l08Names
 simp only[Option.bind_some]
 rw[within_eq,specIn_eq]
 simp only[Option.bind_some]
 have key:∀ (b:Bool) (x y:Option Bs),cond b x y=cond (!b) y x:=λ b x y=>by cases b<;>rfl
 exact key _ _ _
theorem op_eq (o:GOp):g_impl_opOk o=g_spec_l09Op o:=by
 unfold g_impl_opOk g_spec_l09Op
 simp only[name_eq,within_eq,specIn_eq]
theorem name_tot (k:Int):∃ s,g_spec_PrimName k=some s:=by
 unfold g_spec_PrimName
 unfold g_spec_l08Names
 simp only[Option.bind_some]
 rw[specIn_eq]
 simp only[Option.bind_some]
 by_cases h:(0:Int)<=k/\k<=IntKind.wrap .i64 (((([[100,117,112],[100,114,111,112],[111,118,101,114],[110,105,112],[115,119,97,112],[43],[45],[42],[97,110,100],[111,114],[50,42],[50,47],[47,109,111,100],[64],[33],[97],[97,33],[101,109,105,116],[107,101,121],[112,117,115,104],[112,111,112],[105],[46],[110,111,112]]:List Bs).length:Nat):Int)-1)
 ·rw[decide_eq_true h,Bool.not_true,cond_false]
  have h2:k<=23:=h.2
  obtain ⟨x,hx,_⟩:=getI_ex (xs:=([[100,117,112],[100,114,111,112],[111,118,101,114],[110,105,112],[115,119,97,112],[43],[45],[42],[97,110,100],[111,114],[50,42],[50,47],[47,109,111,100],[64],[33],[97],[97,33],[101,109,105,116],[107,101,121],[112,117,115,104],[112,111,112],[105],[46],[110,111,112]]:List Bs)) (i:=k) h.1 (by simp;omega)
  rw[hx]
  exact ⟨_,rfl⟩
 ·rw[decide_eq_false h,Bool.not_false,cond_true]
  exact ⟨_,rfl⟩
theorem op_tot (o:GOp):∃ b,g_spec_l09Op o=some b:=by
 unfold g_spec_l09Op
 obtain ⟨s,hs⟩:=name_tot (IntKind.wrap .i64 o.N)
 rw[hs,specIn_eq,specIn_eq]
 simp only[Option.bind_some]
 cases o.Kind==0
 ·cases o.Kind==1
  ·cases o.Kind==2
   ·simp only[cond_false]
    by_cases h:3<=o.Kind/\o.Kind<=8
    ·rw[decide_eq_true h,cond_true]
     exact ⟨_,rfl⟩
    ·rw[decide_eq_false h,cond_false]
     exact ⟨_,rfl⟩
   ·exact ⟨_,rfl⟩
  ·exact ⟨_,rfl⟩
 ·exact ⟨_,rfl⟩
def okB (o:GOp):Bool:=(g_spec_l09Op o).getD false
theorem okB_eq (o:GOp):g_spec_l09Op o=some (okB o):=by
 obtain ⟨b,h⟩:=op_tot o
 unfold okB
 rw[h]
 rfl
def stepF (v:List Int) (o:GOp):Option (List Int) :=
 if o.Kind=3\/o.Kind=4\/o.Kind=6 then some (v++[o.Kind])
 else if o.Kind=5\/o.Kind=7 then (match v.getLast? with|none=>none|some l=>if decide (l=6)=decide (o.Kind=7) then some v.dropLast else none)
 else some v
def openF:List GOp->List Int->Option (List Int)
 | [],v=>some v
 | o::r,v=>(stepF v o).bind (openF r)
def openG:List GOp->List Int->Option (List Int)
 | [],v=>some v
 | o::r,v=>cond (okB o) ((stepF v o).bind (openG r)) none
theorem openG_eq:∀ (l:List GOp) (v:List Int),openG l v=cond (l.all okB) (openF l v) none
 | [],v=>rfl
 | o::r,v=>by
  rw[List.all_cons]
  unfold openG openF
  cases ho:okB o
  ·rfl
  ·rw[Bool.true_and,cond_true]
   cases hs:stepF v o with
   | none=>cases r.all okB<;>rfl
   | some w=>simp only[Option.bind_some];exact openG_eq r w
theorem stepF_len {v w:List Int} {o:GOp} (h:stepF v o=some w):w.length<=v.length+1:=by
 unfold stepF at h
 split at h
 ·cases h;simp
 ·split at h
  ·split at h
   ·cases h
   ·split at h
    ·cases h;simp;omega
    ·cases h
  ·cases h;omega
def sumE {β:Type} (e:β) (o:Option (List Int)):List Int ⊕ β:=match o with|some w=>.inl w|none=>.inr e
theorem kinds (k:Int):(k==3)=decide (k=3)/\(k==4)=decide (k=4)/\(k==5)=decide (k=5)/\(k==6)=decide (k=6)/\(k==7)=decide (k=7):=by
 refine ⟨?_,?_,?_,?_,?_⟩<;>rw[Bool.eq_iff_iff]<;>simp
theorem last_get {v:List Int} (h:v≠[]) (hl:v.length<=16777216):getI v (IntKind.wrap .i64 ((v.length:Int)-1))=v.getLast? ∧ subL v 0 (IntKind.wrap .i64 ((v.length:Int)-1))=some v.dropLast:=by
 have h0:0 < v.length:=by
  cases v with
  | nil=>exact absurd rfl h
  | cons a r=>simp
 rw[wI64 (by omega) (by omega),show (v.length:Int)-1=((v.length-1:Nat):Int) by omega,getI_nat,subL_take (by omega) (by omega),Int.toNat_natCast,List.getLast?_eq_getElem?,List.dropLast_eq_take]
 exact ⟨rfl,rfl⟩
theorem spec_step {β:Type} (e:β) (v:List Int) (o:GOp) (hl:v.length<=16777216) :
  ((cond (o.Kind==3) (some (o.Kind==3)) (cond (o.Kind==4) (some (o.Kind==4)) (some (o.Kind==6))):Option (Bool)).bind λ v_17=>cond v_17 ((app v [o.Kind]).bind λ v_23=>some (Sum.inl v_23)) ((cond (o.Kind==5) (some (o.Kind==5)) (some (o.Kind==7)):Option (Bool)).bind λ v_24=>cond v_24 ((cond ((v.length:Int)==0) (some true) ((getI v (IntKind.wrap .i64 ((v.length:Int)-1))).bind λ v_33=>some ((v_33==6) != (o.Kind==7))):Option (Bool)).bind λ v_29=>cond v_29 (some (Sum.inr e)) ((subL v 0 (IntKind.wrap .i64 ((v.length:Int)-1))).bind λ v_35=>some (Sum.inl v_35))) (some (Sum.inl v))):Option ((List Int) ⊕ β))=some (sumE e (stepF v o)):=by
 obtain ⟨e3,e4,e5,e6,e7⟩:=kinds o.Kind
 rw[e3,e4,e5,e6,e7]
 unfold stepF
 by_cases h3:o.Kind=3
 ·simp only[h3,decide_true,cond_true,Option.bind_some]
  rw[app_eq (by simp;omega)]
  rfl
 ·by_cases h4:o.Kind=4
  ·rw[decide_eq_false h3,cond_false,decide_eq_true h4,cond_true,Option.bind_some,cond_true,app_eq (by simp;omega),if_pos (.inr (.inl h4))]
   rfl
  ·by_cases h6:o.Kind=6
   ·rw[decide_eq_false h3,cond_false,decide_eq_false h4,cond_false,Option.bind_some,decide_eq_true h6,cond_true,app_eq (by simp;omega),if_pos (.inr (.inr h6))]
    rfl
   ·rw[decide_eq_false h3,cond_false,decide_eq_false h4,cond_false,Option.bind_some,decide_eq_false h6,cond_false,if_neg (by omega)]
    by_cases h57:o.Kind=5\/o.Kind=7
    ·have hc:(cond (decide (o.Kind=5)) (some (decide (o.Kind=5))) (some (decide (o.Kind=7))):Option Bool)=some true:=by
      rcases h57 with h|h
      ·rw[decide_eq_true h];rfl
      ·rw[decide_eq_true h,decide_eq_false (by omega)];rfl
     rw[hc,Option.bind_some,cond_true,if_pos h57]
     cases v with
     | nil=>rfl
     | cons a r =>
      obtain ⟨g1,g2⟩:=last_get (v:=a::r) (by simp) hl
      have hz:(((a::r).length:Int)==0)=false:=by simp;omega
      rw[hz,cond_false,g1,g2]
      obtain ⟨x,hx⟩:∃ x,(a::r).getLast? = some x:=by rw[List.getLast?_cons];exact ⟨_,rfl⟩
      rw[hx]
      simp only[Option.bind_some]
      have ex:(x==6)=decide (x=6):=(kinds x).2.2.2.1
      rw[ex]
      by_cases hq:decide (x=6)=decide (o.Kind=7)
      ·rw[hq,if_pos rfl]
       simp[sumE]
      ·rw[if_neg hq]
       have:(decide (x=6) != decide (o.Kind=7))=true:=by simpa using hq
       rw[this,cond_true]
       rfl
    ·have hc:(cond (decide (o.Kind=5)) (some (decide (o.Kind=5))) (some (decide (o.Kind=7))):Option Bool)=some false:=by
      rw[decide_eq_false (by omega),decide_eq_false (by omega)];rfl
     rw[hc,Option.bind_some,cond_false,if_neg h57]
     rfl
theorem impl_step {β:Type} (e:β) (v:List Int) (o:GOp) (hl:v.length<=16777216) :
  ((cond (o.Kind==3) (some true) (cond (o.Kind==4) (some true) (some (o.Kind==6))):Option (Bool)).bind λ v_19=>cond v_19 ((app v [o.Kind]).bind λ v_25=>some (Sum.inl v_25)) ((cond (o.Kind==5) (some true) (some (o.Kind==7)):Option (Bool)).bind λ v_26=>cond v_26 ((cond (decide ((IntKind.wrap .i64 ((v.length:Int)-1)) < 0)) (some true) ((getI v (IntKind.wrap .i64 ((v.length:Int)-1))).bind λ v_35=>some ((v_35==6) != (o.Kind==7))):Option (Bool)).bind λ v_31=>cond v_31 (some (Sum.inr e)) ((subL v 0 (IntKind.wrap .i64 ((v.length:Int)-1))).bind λ v_37=>some (Sum.inl v_37))) (some (Sum.inl v))):Option ((List Int) ⊕ β))=some (sumE e (stepF v o)):=by
 rw[<-spec_step e v o hl]
 have c1:∀ b:Bool,∀ x:Option Bool,(cond b (some true) x:Option Bool)=cond b (some b) x:=λ b x=>by cases b<;>rfl
 have c2:decide ((IntKind.wrap .i64 ((v.length:Int)-1)) < 0)=((v.length:Int)==0):=by
  rw[wI64 (by omega) (by omega)]
  by_cases h0:v.length=0
  ·rw[h0];rfl
  ·rw[decide_eq_false (by omega),beq_eq_false_iff_ne.2 (by omega)]
 rw[c2,c1 (o.Kind==3),c1 (o.Kind==4),c1 (o.Kind==5)]
theorem spec_l0 {body:List GOp} (hb:body.length<=1048576):∀ (k n:Nat) (v:List Int),n<=body.length->body.length-n < k->v.length<=n->g_spec_l09Open_l0 body k v n=some (sumE false (openF (body.drop n) v)):=by
 intro k
 induction k with
 | zero=>intro n v h0 h1;omega
 | succ k ih =>
  intro n v h0 h1 h2
  rw[g_spec_l09Open_l0]
  by_cases hn:n < body.length
  ·rw[decide_eq_true (by omega),cond_true,getI_nat,List.getElem?_eq_getElem hn,List.drop_eq_getElem_cons hn]
   simp only[Option.bind_some]
   rw[spec_step _ v body[n] (by omega)]
   simp only[Option.bind_some,openF]
   cases hs:stepF v body[n] with
   | none=>rfl
   | some w =>
    have:=stepF_len hs
    simp only[sumE,Option.bind_some]
    rw[wI64 (by omega) (by omega),show (n:Int)+1=((n+1:Nat):Int) by omega,ih (n+1) w (by omega) (by omega) (by omega)]
    rfl
  ·rw[decide_eq_false (by omega),cond_false,List.drop_eq_nil_of_le (by omega)]
   rfl
theorem impl_l0 {body:List GOp} (hb:body.length<=1048576):∀ (k n:Nat) (v:List Int),n<=body.length->body.length-n < k->v.length<=n->g_impl_openIn_l0 body (body.length:Int) k v n=some (sumE (([]:List Int),false) (openG (body.drop n) v)):=by
 intro k
 induction k with
 | zero=>intro n v h0 h1;omega
 | succ k ih =>
  intro n v h0 h1 h2
  rw[g_impl_openIn_l0]
  by_cases hn:n < body.length
  ·rw[decide_eq_true (by omega),cond_true,getI_nat,List.getElem?_eq_getElem hn,List.drop_eq_getElem_cons hn]
   simp only[Option.bind_some]
   rw[op_eq,okB_eq]
   simp only[Option.bind_some,openG]
   cases ho:okB body[n]
   ·rw[Bool.not_false,cond_true,cond_false]
    rfl
   ·rw[Bool.not_true,cond_false,cond_true,impl_step _ v body[n] (by omega)]
    simp only[Option.bind_some]
    cases hs:stepF v body[n] with
    | none=>rfl
    | some w =>
     have:=stepF_len hs
     simp only[sumE,Option.bind_some]
     rw[wI64 (by omega) (by omega),show (n:Int)+1=((n+1:Nat):Int) by omega,ih (n+1) w (by omega) (by omega) (by omega)]
     rfl
  ·rw[decide_eq_false (by omega),cond_false,List.drop_eq_nil_of_le (by omega)]
   rfl
theorem spec_open {body:List GOp} (hb:body.length<=1048576):g_spec_l09Open body=some (match openF body [] with|none=>([],false)|some w=>(w,true)):=by
 unfold g_spec_l09Open
 have h1:=spec_l0 hb bigK 0 [] (Nat.zero_le _) (by unfold bigK;omega) (Nat.le_refl _)
 rw[Int.natCast_zero,List.drop_zero]at h1
 rw[h1]
 cases openF body []<;>rfl
theorem impl_open {body:List GOp} (hb:body.length<=1048576):g_impl_openIn body=some (match cond (body.all okB) (openF body []) none with|none=>([],false)|some w=>(w,decide ((body.length:Int)<=60))):=by
 unfold g_impl_openIn
 have h1:=impl_l0 hb bigK 0 [] (Nat.zero_le _) (by unfold bigK;omega) (Nat.le_refl _)
 rw[Int.natCast_zero,List.drop_zero]at h1
 rw[h1,openG_eq]
 cases cond (body.all okB) (openF body []) none<;>rfl
def shapeB (body:List GOp):Bool:=decide (body.length<=60)&&body.all okB&&decide (openF body []=some [])
theorem specShape {body:List GOp} (hb:body.length<=1048576):g_spec_ShapeOk body=some (shapeB body):=by
 unfold g_spec_ShapeOk shapeB
 by_cases h60:body.length<=60
 ·rw[decide_eq_false (by omega),cond_false,decide_eq_true h60,spec_open hb]
  have:=allLoop (L:=body) (bad:=false) (λ _ o=>okB o) (g_spec_ShapeOk_l0 body) (λ k n x hx hn=>by
   rw[g_spec_ShapeOk_l0,decide_eq_true (by omega),cond_true,getI_nat,hx,Option.bind_some,okB_eq,Option.bind_some,wI64 (by omega) (by omega),show ((n:Int)+1)=((n+1:Nat):Int) by omega]
   cases okB x<;>rfl) (λ k n hn=>by rw[g_spec_ShapeOk_l0,decide_eq_false (by omega),cond_false]) (by omega)
  rw[this,allN_const,Bool.true_and]
  cases body.all okB with
  | false=>rfl
  | true =>
   simp only[cond_true,Option.bind_some,Bool.true_and]
   cases openF body [] with
   | none=>rfl
   | some w=>cases w<;>simp<;>omega
 ·rw[decide_eq_true (by omega),cond_true,decide_eq_false h60];rfl
theorem implShape {body:List GOp} (hb:body.length<=1048576):g_impl_ShapeOk body=some (shapeB body):=by
 unfold g_impl_ShapeOk shapeB
 rw[impl_open hb]
 cases body.all okB with
 | false=>simp
 | true =>
  simp only[cond_true,Option.bind_some,Bool.and_true]
  cases openF body [] with
  | none=>simp
  | some w =>
   by_cases h60:body.length<=60
   ·rw[decide_eq_true (p:=(body.length:Int)<=60) (by omega),decide_eq_true h60]
    cases w<;>simp<;>omega
   ·rw[decide_eq_false (p:=(body.length:Int)<=60) (by omega),decide_eq_false h60];simp
end Go.Proofs.YtcnbncafiinfjaaDoor
namespace Go.Proofs.YtcnbncafiinfjaaDoor
open Go Go.Fm
def ins (n:Int):List Int->List Int
 | []=>[n]
 | x::r=>if x < n then x::ins n r else if x=n then x::r else n::x::r
theorem ins_mem (n:Int):∀ (l:List Int) (y:Int),y ∈ ins n l ↔ y=n\/y ∈ l
 | [],y=>by simp[ins]
 | x::r,y=>by
  unfold ins
  split
  ·rw[List.mem_cons,ins_mem n r,List.mem_cons]
   constructor<;>(rintro (h|h|h)<;>simp[h])
  ·split
   ·rename_i h1 h2;subst h2;simp
   ·simp
theorem ins_asc (n:Int):∀ (l:List Int),l.Pairwise (· < ·)->(ins n l).Pairwise (· < ·)
 | [],_=>by simp[ins]
 | x::r,h=>by
  rw[List.pairwise_cons]at h
  unfold ins
  split
  ·rename_i hx
   rw[List.pairwise_cons]
   refine ⟨λ y hy => ?_,ins_asc n r h.2⟩
   rcases (ins_mem n r y).1 hy with rfl|hy
   ·exact hx
   ·exact h.1 y hy
  ·split
   ·rw[List.pairwise_cons];exact h
   ·rename_i h1 h2
    rw[List.pairwise_cons,List.pairwise_cons]
    refine ⟨λ y hy => ?_,h⟩
    rcases List.mem_cons.1 hy with rfl|hy
    ·omega
    ·have:=h.1 y hy;omega
theorem ins_len (n:Int):∀ (l:List Int),(ins n l).length<=l.length+1
 | []=>by simp[ins]
 | x::r=>by
  have:=ins_len n r
  unfold ins
  split
  ·simp;omega
  ·split<;>simp
def ahd (n:Int):List Int->Nat
 | []=>0
 | x::r=>if x < n then ahd n r+1 else 0
theorem ahd_le (n:Int):∀ l,ahd n l<=l.length
 | []=>Nat.le_refl _
 | x::r=>by have:=ahd_le n r;unfold ahd;split<;>simp;omega
theorem ins_eq (n:Int):∀ l:List Int,ins n l=if l[ahd n l]? = some n then l else l.take (ahd n l)++n::l.drop (ahd n l)
 | []=>by simp[ins,ahd]
 | x::r=>by
  unfold ins ahd
  by_cases h:x < n
  ·rw[if_pos h,if_pos h,ins_eq n r]
   simp only[List.getElem?_cons_succ,List.take_succ_cons,List.drop_succ_cons]
   split<;>rfl
  ·rw[if_neg h,if_neg h]
   by_cases h2:x=n
   ·simp[h2]
   ·simp[h2]
theorem put_l0 {l:List Int} {n:Int} (hl:l.length<=1000):∀ (k i:Nat),i<=l.length->l.length-i < k->g_spec_l20Put_l0 l n k (i:Int)=some ((i+ahd n (l.drop i):Nat):Int):=by
 intro k
 induction k with
 | zero=>intro i h0 h1;omega
 | succ k ih =>
  intro i h0 h1
  rw[g_spec_l20Put_l0]
  by_cases hn:i < l.length
  ·rw[decide_eq_true (by omega),cond_true,getI_nat,List.getElem?_eq_getElem hn,List.drop_eq_getElem_cons hn]
   simp only[Option.bind_some]
   unfold ahd
   by_cases hx:l[i] < n
   ·rw[decide_eq_true hx,cond_true,if_pos hx,nxt (by omega),ih (i+1) (by omega) (by omega)]
    congr 2;omega
   ·rw[decide_eq_false hx,cond_false,if_neg hx];rfl
  ·rw[decide_eq_false (by omega),cond_false,List.drop_eq_nil_of_le (by omega)]
   rfl
theorem put_eq {l:List Int} {n:Int} (hl:l.length<=1000):g_spec_l20Put l n=some (ins n l):=by
 unfold g_spec_l20Put
 have h:=put_l0 (n:=n) hl bigK 0 (Nat.zero_le _) (by unfold bigK;omega)
 rw[show ((0:Nat):Int)=0 from rfl]at h
 have ha:=ahd_le n l
 rw[h,Option.bind_some,List.drop_zero,Nat.zero_add,ins_eq]
 by_cases hn:ahd n l < l.length
 ·rw[decide_eq_true (by omega),cond_true,getI_nat,List.getElem?_eq_getElem hn]
  simp only[Option.bind_some]
  by_cases hx:l[ahd n l]=n
  ·rw[show (l[ahd n l]==n)=true by simp[hx],cond_true,if_pos (by rw[hx])]
  ·rw[show (l[ahd n l]==n)=false by simp[hx],cond_false,if_neg (λ e=>hx (Option.some.inj e)),subL_take (by omega) (by omega),Option.bind_some,app_eq (by simp;omega),Option.bind_some,app_eq (by simp;omega),Option.bind_some,subL_drop (by omega) (by omega),Option.bind_some,app_eq (by simp;omega)]
   simp
 ·rw[decide_eq_false (by omega),cond_false]
  simp only[Option.bind_some,cond_false]
  rw[if_neg (by rw[List.getElem?_eq_none (by omega)];simp),subL_take (by omega) (by omega),Option.bind_some,app_eq (by simp;omega),Option.bind_some,app_eq (by simp;omega),Option.bind_some,subL_drop (by omega) (by omega),Option.bind_some,app_eq (by simp;omega)]
  simp
theorem has_eq {l:List Int} {v:Int} (hl:l.length<=1000):g_slices_Contains_int l v=some (decide (v ∈ l)):=by
 unfold g_slices_Contains_int g_slices_Index_int
 have key:∀ (k n:Nat),n<=l.length->l.length-n < k->∃ o:Unit ⊕ Int,g_slices_Index_int_l0 l v (l.length:Int) k n=some o/\(match o with | .inl _=>v ∉ l.drop n | .inr i=>0<=i/\v ∈ l.drop n):=by
  intro k
  induction k with
  | zero=>intro n h0 h1;omega
  | succ k ih =>
   intro n h0 h1
   rw[g_slices_Index_int_l0]
   by_cases hn:n < l.length
   ·rw[decide_eq_true (by omega),cond_true,getI_nat,List.getElem?_eq_getElem hn]
    have hd:l.drop n=l[n]::l.drop (n+1):=List.drop_eq_getElem_cons hn
    simp only[Option.bind_some]
    by_cases hk:v=l[n]
    ·rw[show (v==l[n])=true by simp[hk],cond_true]
     exact ⟨_,rfl,by show 0<=(n:Int)/\v ∈ l.drop n;rw[hd,List.mem_cons];exact ⟨by omega, .inl hk⟩⟩
    ·rw[show (v==l[n])=false by simp[hk],cond_false,nxt (by omega)]
     obtain ⟨o,g1,g2⟩:=ih (n+1) (by omega) (by omega)
     refine ⟨o,g1,?_⟩
     cases o with
     | inl u=>show v ∉ l.drop n;rw[hd,List.mem_cons];exact λ h=>h.elim hk g2
     | inr i=>show 0<=i/\v ∈ l.drop n;rw[hd,List.mem_cons];exact ⟨g2.1, .inr g2.2⟩
   ·rw[decide_eq_false (by omega),cond_false,List.drop_eq_nil_of_le (by omega)]
    exact ⟨_,rfl,by simp⟩
 obtain ⟨o,h,g⟩:=key bigK 0 (Nat.zero_le _) (by unfold bigK;omega)
 rw[Int.natCast_zero]at h
 rw[List.drop_zero]at g
 rw[h]
 cases o with
 | inl u=>simp only[Option.bind_some];rw[decide_eq_false (show v ∉ l from g)];rfl
 | inr i=>simp only[Option.bind_some];rw[decide_eq_true g.2,decide_eq_true g.1]
structure Same (u s:List Int) (n:Nat):Prop where
 asc:s.Pairwise (· < ·)
 nd:u.Nodup
 mem:∀ x,x ∈ u ↔ x ∈ s
 lu:u.length<=n
 ls:s.length<=n
theorem Same.sort {u s:List Int} {n:Nat} (h:Same u s n):sortI u=s:=by
 have hs:s.Nodup:=h.asc.imp λ hab=>by omega
 have hp:List.Perm (sortI u) s:=(List.mergeSort_perm u _).trans ((List.perm_ext_iff_of_nodup h.nd hs).2 h.mem)
 have h1:(sortI u).Pairwise (λ a b=>decide (a<=b)=true):=List.pairwise_mergeSort (λ a b c=>by simp;omega) (λ a b=>by simp;omega) u
 exact List.Perm.eq_of_pairwise (le:=λ a b=>a<=b) (λ a b _ _ h1 h2=>by omega) (h1.imp λ h=>by simpa using h) (h.asc.imp λ h=>by omega) hp
theorem Same.step {u s:List Int} {n:Nat} (h:Same u s n) (v:Int):Same (if v ∈ u then u else u++[v]) (ins v s) (n+1):=by
 have hl:=ins_len v s
 refine ⟨ins_asc v s h.asc,?_,λ x => ?_,?_,by have:=h.ls;omega⟩
 ·split
  ·exact h.nd
  ·rename_i hv
   rw[List.nodup_append]
   refine ⟨h.nd,by simp,λ a ha b hb => ?_⟩
   rw[List.mem_singleton]at hb
   subst hb
   rintro rfl
   exact hv ha
 ·rw[ins_mem]
  split
  ·rename_i hv
   rw[h.mem]
   constructor
   ·exact λ hx=>.inr hx
   ·rintro (rfl|hx)
    ·exact (h.mem _).1 hv
    ·exact hx
  ·rw[List.mem_append,List.mem_singleton,h.mem]
   constructor
   ·rintro (h|h)
    ·exact .inr h
    ·exact .inl h
   ·rintro (h|h)
    ·exact .inr h
    ·exact .inl h
 ·have:=h.lu
  split
  ·omega
  ·simp;omega
theorem calls_loops {body:List GOp} (hb:body.length<=60):∀ (k i:Nat) (u s:List Int),i<=body.length->body.length-i < k->Same u s i →
  ∃ u' s',Same u' s' body.length/\g_impl_callsOf_l0 body (body.length:Int) k u (i:Int)=some u'/\g_spec_CallsOf_l0 body k s (i:Int)=some s':=by
 intro k
 induction k with
 | zero=>intro i u s h0 h1;omega
 | succ k ih =>
  intro i u s h0 h1 h
  rw[g_impl_callsOf_l0,g_spec_CallsOf_l0]
  by_cases hn:i < body.length
  case neg =>
   have:i=body.length:=by omega
   subst this
   exact ⟨u,s,h,by rw[decide_eq_false (by omega),cond_false],by rw[decide_eq_false (by omega),cond_false]⟩
  rw[decide_eq_true (by omega),cond_true,cond_true,getI_nat,List.getElem?_eq_getElem hn,nxt (by omega)]
  simp only[Option.bind_some]
  cases hk:(body[i].Kind==2) with
  | false =>
   simp only[cond_false,Option.bind_some]
   exact ih (i+1) u s (by omega) (by omega) ⟨h.asc,h.nd,h.mem,by have:=h.lu;omega,by have:=h.ls;omega⟩
  | true =>
   have:=h.lu;have:=h.ls
   simp only[cond_true,Option.bind_some]
   rw[has_eq (by omega),put_eq (by omega)]
   simp only[Option.bind_some]
   have:=h.step (IntKind.wrap .i64 body[i].N)
   by_cases hv:IntKind.wrap .i64 body[i].N ∈ u
   ·rw[if_pos hv]at this
    rw[decide_eq_true hv]
    exact ih (i+1) _ _ (by omega) (by omega) this
   ·rw[if_neg hv]at this
    rw[decide_eq_false hv,Bool.not_false,cond_true,app_eq (by simp;omega)]
    exact ih (i+1) _ _ (by omega) (by omega) this
theorem Same.nil:Same [] [] 0:=⟨.nil,by simp,λ _=>Iff.rfl,Nat.le_refl _,Nat.le_refl _⟩
theorem calls_body {body:List GOp} (hb:body.length<=60):∃ s:List Int,s.length<=60/\s.Pairwise (· < ·)/\g_impl_callsOf body=some s/\g_spec_CallsOf_l0 body bigK [] 0=some s:=by
 obtain ⟨u,s,h,e1,e2⟩:=calls_loops hb bigK 0 [] [] (Nat.zero_le _) (by unfold bigK;omega) .nil
 rw[show ((0:Nat):Int)=0 from rfl]at e1 e2
 have:=h.lu;have:=h.ls
 refine ⟨s,by omega,h.asc,?_,e2⟩
 rw[g_impl_callsOf,e1]
 simp only[Option.bind_some]
 rw[g_slices_Sort_int,gSort,decide_eq_true (by omega),cond_true,h.sort]
 rfl
end Go.Proofs.YtcnbncafiinfjaaDoor
namespace Go.Proofs.YtcnbncafiinfjaaDoor
open Go Go.Fm
inductive Rch (nx:Int->List Int) (k:Int):Int->Prop where
 | refl:Rch nx k k
 | step {x y:Int} (h:Rch nx k x) (hy:y ∈ nx x):Rch nx k y
theorem Rch.iff {nx:Int->List Int} {k:Int} {out:List Int} (hk:k ∈ out) (hr:∀ x ∈ out,Rch nx k x) (hc:∀ x ∈ out,∀ y ∈ nx x,y ∈ out) (x:Int):x ∈ out ↔ Rch nx k x:=by
 refine ⟨hr x,λ h => ?_⟩
 induction h with
 | refl=>exact hk
 | step h hy ih=>exact hc _ ih _ hy
theorem sub_len:∀ {a b:List Int},a.Nodup->(∀ x ∈ a,x ∈ b)->a.length<=b.length
 | [],b,_,_=>Nat.zero_le _
 | x::a,b,hn,hs=>by
  have hx:x ∈ b:=hs x (by simp)
  rw[List.nodup_cons]at hn
  have:=sub_len (a:=a) (b:=b.erase x) hn.2 λ y hy=>by
   have hne:y≠x:=λ e=>hn.1 (e▸hy)
   exact (List.mem_erase_of_ne hne).2 (hs y (by simp[hy]))
  rw[List.length_erase_of_mem hx]at this
  have:0 < b.length:=List.length_pos_of_mem hx
  simp only[List.length_cons]
  omega
def upto:Nat->List Int
 | 0=>[]
 | n+1=>upto n++[(n:Int)]
theorem upto_len:∀ n,(upto n).length=n
 | 0=>rfl
 | n+1=>by simp[upto,upto_len n]
theorem upto_mem:∀ {n:Nat} {x:Int},x ∈ upto n ↔ 0<=x/\x < n
 | 0,x=>by first|(simp[upto];done)|(simp[upto];omega)
 | n+1,x=>by
  simp only[upto,List.mem_append,List.mem_singleton,upto_mem (n:=n)]
  omega
theorem upto_nodup:∀ n,(upto n).Nodup
 | 0=>by simp[upto]
 | n+1=>by
  simp only[upto]
  rw[List.nodup_append]
  refine ⟨upto_nodup n,by simp,λ a ha b hb => ?_⟩
  rw[List.mem_singleton]at hb
  have:=upto_mem.1 ha
  omega
theorem nd_len {u:List Int} {n:Nat} (hn:u.Nodup) (h:∀ x ∈ u,0<=x/\x < n):u.length<=n:=by
 have:=sub_len (b:=upto n) hn λ x hx=>upto_mem.2 (h x hx)
 rwa [upto_len]at this
theorem asc_nodup {s:List Int} (h:s.Pairwise (· < ·)):s.Nodup:=h.imp λ hab=>by omega
theorem asc_eq {a b:List Int} (ha:a.Pairwise (· < ·)) (hb:b.Pairwise (· < ·)) (h:∀ x,x ∈ a ↔ x ∈ b):a=b:=by
 have h1:=Same.sort (u:=a) (s:=b) (n:=a.length+b.length) ⟨hb,asc_nodup ha,h,by omega,by omega⟩
 have h2:=Same.sort (u:=a) (s:=a) (n:=a.length) ⟨ha,asc_nodup ha,λ _=>Iff.rfl,by omega,by omega⟩
 rw[<-h1,h2]
theorem sort_mem {u:List Int} {x:Int}:x ∈ sortI u ↔ x ∈ u:=(List.mergeSort_perm u _).mem_iff
theorem sort_asc {u:List Int} (h:u.Nodup):(sortI u).Pairwise (· < ·):=by
 have h1:(sortI u).Pairwise (λ a b=>decide (a<=b)=true):=List.pairwise_mergeSort (λ a b c=>by simp;omega) (λ a b=>by simp;omega) u
 have h2:(sortI u).Nodup:=(List.mergeSort_perm u _).nodup_iff.2 h
 exact (h1.and h2).imp λ ⟨h3,h4⟩=>by have:=of_decide_eq_true h3;omega
def addAll:List Int->List Int->List Int
 | out,[]=>out
 | out,v::r=>addAll (if v ∈ out then out else out++[v]) r
theorem addAll_mem:∀ {l out:List Int} {x:Int},x ∈ addAll out l ↔ x ∈ out\/x ∈ l
 | [],out,x=>by simp[addAll]
 | v::r,out,x=>by
  rw[addAll,addAll_mem]
  split
  ·rename_i h
   constructor
   ·rintro (h1|h1)
    ·exact .inl h1
    ·exact .inr (by simp[h1])
   ·rintro (h1|h1)
    ·exact .inl h1
    ·rcases List.mem_cons.1 h1 with rfl|h1
     ·exact .inl h
     ·exact .inr h1
  ·simp only[List.mem_append,List.mem_cons,List.not_mem_nil,or_false]
   constructor
   ·rintro ((h1|h1)|h1)
    ·exact .inl h1
    ·exact .inr (.inl h1)
    ·exact .inr (.inr h1)
   ·rintro (h1|h1|h1)
    ·exact .inl (.inl h1)
    ·exact .inl (.inr h1)
    ·exact .inr h1
theorem addAll_nodup:∀ {l out:List Int},out.Nodup->(addAll out l).Nodup
 | [],out,h=>h
 | v::r,out,h=>by
  rw[addAll]
  refine addAll_nodup ?_
  split
  ·exact h
  ·rename_i hv
   rw[List.nodup_append]
   refine ⟨h,by simp,λ a ha b hb => ?_⟩
   rw[List.mem_singleton]at hb
   subst hb
   rintro rfl
   exact hv ha
theorem addAll_get:∀ {l out:List Int} {i:Nat},i < out.length->(addAll out l)[i]? = out[i]? ∧ out.length<=(addAll out l).length
 | [],out,i,h=>⟨rfl,Nat.le_refl _⟩
 | v::r,out,i,h=>by
  rw[addAll]
  split
  ·exact addAll_get h
  ·have:=addAll_get (l:=r) (out:=out++[v]) (i:=i) (by simp;omega)
   rw[List.getElem?_append_left h]at this
   exact ⟨this.1,by have:=this.2;simp at this;omega⟩
def insAll:List Int->List Int->List Int
 | out,[]=>out
 | out,v::r=>insAll (ins v out) r
theorem insAll_mem:∀ {l out:List Int} {x:Int},x ∈ insAll out l ↔ x ∈ out\/x ∈ l
 | [],out,x=>by simp[insAll]
 | v::r,out,x=>by
  rw[insAll,insAll_mem,ins_mem,List.mem_cons]
  constructor
  ·rintro ((h|h)|h)
   ·exact .inr (.inl h)
   ·exact .inl h
   ·exact .inr (.inr h)
  ·rintro (h|h|h)
   ·exact .inl (.inr h)
   ·exact .inl (.inl h)
   ·exact .inr h
theorem insAll_asc:∀ {l out:List Int},out.Pairwise (· < ·)->(insAll out l).Pairwise (· < ·)
 | [],out,h=>h
 | v::r,out,h=>by rw[insAll];exact insAll_asc (ins_asc v out h)
theorem insAll_same {l out:List Int} (ha:out.Pairwise (· < ·)) (h:¬ (insAll out l).length > out.length):∀ y ∈ l,y ∈ out:=by
 intro y hy
 by_cases hm:y ∈ out
 ·exact hm
 ·exfalso
  have h1:(y::out).Nodup:=List.nodup_cons.2 ⟨hm,asc_nodup ha⟩
  have:=sub_len (b:=insAll out l) h1 λ x hx=>by
   rw[insAll_mem]
   rcases List.mem_cons.1 hx with rfl|hx
   ·exact .inr hy
   ·exact .inl hx
  simp at this
  omega
end Go.Proofs.YtcnbncafiinfjaaDoor
namespace Go.Proofs.YtcnbncafiinfjaaDoor
open Go Go.Fm
set_option maxRecDepth 100000
def Cok (c:GL01Cur):Prop:=0<=c.i/\c.b.length<=1048576
theorem byte_ok {c:GL01Cur} (h:Cok c):Tot (g_spec_l01Byte c) λ r=>0<=r.1/\r.1<=255/\Cok r.2:=by
 unfold g_spec_l01Byte
 refine Tot.bind (Q:=λ r=>0<=r.1/\r.1<=255/\Cok r.2) (.condD (λ hi => ?_) (λ hi => ?_)) λ r hr=>.some hr
 ·obtain ⟨v,hv,_⟩:=getI_ex h.1 hi
  refine .bindE hv (.some ⟨(and_le (by decide) (by decide)).1,(and_le (by decide) (by decide)).2,?_,h.2⟩)
  have:=h.1
  have:=h.2
  show 0<=IntKind.wrap .i64 (c.i+1)
  rw[wI64 (by omega) (by omega)]
  omega
 ·exact .some ⟨(and_le (by decide) (by decide)).1,(and_le (by decide) (by decide)).2,h⟩
theorem below_ok {c:GL01Cur} (h:Cok c) {n:Int} (hn:0 < n):Tot (g_spec_l01Below n c) λ r=>0<=r.1/\r.1 < n/\Cok r.2:=by
 unfold g_spec_l01Below
 refine .condD (λ h0=>by omega) λ _=>.condD (λ h1 => ?_) λ h1 => ?_
 ·refine .bind (byte_ok h) λ a ha => ?_
  obtain ⟨e,g1,g2⟩:=remI_ex (k:=.i64) ha.1 hn
  exact .bindE e (.some ⟨g1,g2,ha.2.2⟩)
 ·refine .bind (byte_ok h) λ a ha=>.bind (byte_ok ha.2.2) λ b hb=>.bind (byte_ok hb.2.2) λ d hd=>.bind (byte_ok hd.2.2) λ x hx => ?_
  rw[wI64 (x:=a.1*16777216) (by omega) (by omega),wI64 (x:=b.1*65536) (by omega) (by omega),wI64 (x:=d.1*256) (by omega) (by omega),wI64 (x:=a.1*16777216+b.1*65536) (by omega) (by omega),
   wI64 (x:=a.1*16777216+b.1*65536+d.1*256) (by omega) (by omega),wI64 (x:=a.1*16777216+b.1*65536+d.1*256+x.1) (by omega) (by omega)]
  obtain ⟨e,g1,g2⟩:=remI_ex (k:=.i64) (a:=a.1*16777216+b.1*65536+d.1*256+x.1) (by omega) hn
  exact .bindE e (.some ⟨g1,g2,hx.2.2⟩)
theorem once_ok {c:GL01Cur} (h:Cok c) {n:Int} (hn:0 < n):Tot (g_spec_l01Once n c) λ r=>Cok r.2 :=
 .bind (below_ok h hn) λ a ha=>.some ha.2.2
theorem pickInt_ok {c:GL01Cur} (h:Cok c) {l:List Int} (hl:0 < l.length):Tot (g_spec_l01PickInt l c) λ r=>r.1 ∈ l/\Cok r.2 :=
 .bind (below_ok h (by omega)) λ a ha=>by
  obtain ⟨v,hv,hm,_⟩:=getI_ex (xs:=l) ha.1 ha.2.1
  exact .bindE hv (.some ⟨hm,ha.2.2⟩)
theorem pick_ok {c:GL01Cur} (h:Cok c) {l:List Bs} (hl:0 < l.length):Tot (g_spec_l01Pick l c) λ r=>r.1 ∈ l/\Cok r.2 :=
 .bind (below_ok h (by omega)) λ a ha=>by
  obtain ⟨v,hv,hm,_⟩:=getI_ex (xs:=l) ha.1 ha.2.1
  exact .bindE hv (.some ⟨hm,ha.2.2⟩)
theorem new_ok {code:List Int} (h:code.length<=1048576):Tot (g_spec_l01New code) Cok:=by
 have key:∀ (k:Nat) (hh i:Int),0<=i->i<=4000->4000-i < k->Tot (g_spec_l01New_l0 code k hh i) λ _=>True:=by
  intro k
  induction k with
  | zero=>intro hh i h0 h1 h2;omega
  | succ k ih =>
   intro hh i h0 h1 h2
   unfold g_spec_l01New_l0
   refine .bind (Q:=λ b=>b=true->i < code.length/\i < 4000) (.condD (λ hi=>.some λ hb=>⟨hi,of_decide_eq_true hb⟩) λ _=>.some λ hb=>nomatch hb) λ b hb => ?_
   refine .cond (λ hc => ?_) λ _=>.some trivial
   obtain ⟨g1,g2⟩:=hb hc
   obtain ⟨v,hv,_⟩:=getI_ex h0 g1
   refine .bindE hv ?_
   rw[wI64 (x:=i+1) (by omega) (by omega)]
   exact ih _ _ (by omega) (by omega) (by omega)
 exact .bind (.bind (key bigK _ 0 (by decide) (by decide) (by decide)) λ a ha=>.some (Q:=λ _=>True) trivial) λ a ha=>.some ⟨Int.le_refl _,h⟩
theorem forLoop {S:Type} {n:Int} {F:Nat->Int->S->Option S} (I:Int->S->Prop) (hn:n<=1000000)
  (hs:∀ k i s,0<=i->i < n->I i s->(∀ s',I (i+1) s'->Tot (F k (i+1) s') (I (max 0 n)))->Tot (F (k+1) i s) (I (max 0 n)))
  (he:∀ k i s,n<=i->I i s->F (k+1) i s=some s) {s:S} (h0:I 0 s):Tot (F bigK 0 s) (I (max 0 n)):=by
 have key:∀ (k:Nat) (i:Int) (s:S),0<=i->i<=max 0 n->I i s->(max 0 n)-i < k->Tot (F k i s) (I (max 0 n)):=by
  intro k
  induction k with
  | zero=>intro i s h0 h1 h2 h3;omega
  | succ k ih =>
   intro i s h0 h1 h2 h3
   by_cases hi:i < n
   ·exact hs k i s h0 hi h2 λ s' hs'=>ih _ _ (by omega) (by omega) hs' (by omega)
   ·rw[he k i s (by omega) h2]
    have:i=max 0 n:=by omega
    subst this
    exact .some h2
 exact key bigK 0 s (Int.le_refl _) (by omega) h0 (by unfold bigK;omega)
end Go.Proofs.YtcnbncafiinfjaaDoor
namespace Go.Proofs.YtcnbncafiinfjaaDoor
open Go Go.Fm
set_option maxRecDepth 100000
def GO (n:Int) (o:GOp):Prop:=okB o=true/\(o.Kind=2->0<=o.N/\o.N < n)
theorem okB_of {o:GOp} {b:Bool} (h:g_spec_l09Op o=some b):okB o=b:=by unfold okB;rw[h];rfl
theorem GO.lit {n:Int} (m:Int):GO n ⟨0,m⟩:=⟨okB_of rfl,λ e=>by cases e⟩
theorem GO.prim {n m:Int} (h:0<=m/\m<=23):GO n ⟨1,m⟩:=by
 refine ⟨?_,λ e=>by cases e⟩
 obtain ⟨k,rfl⟩:∃ k:Nat,m=k:=⟨m.toNat,by omega⟩
 have hn:k < 24:=by omega
 match k,hn with
 | 0,_=>exact okB_of (b:=true) (by kernel_rfl)
 | 1,_=>exact okB_of (b:=true) (by kernel_rfl)
 | 2,_=>exact okB_of (b:=true) (by kernel_rfl)
 | 3,_=>exact okB_of (b:=true) (by kernel_rfl)
 | 4,_=>exact okB_of (b:=true) (by kernel_rfl)
 | 5,_=>exact okB_of (b:=true) (by kernel_rfl)
 | 6,_=>exact okB_of (b:=true) (by kernel_rfl)
 | 7,_=>exact okB_of (b:=true) (by kernel_rfl)
 | 8,_=>exact okB_of (b:=true) (by kernel_rfl)
 | 9,_=>exact okB_of (b:=true) (by kernel_rfl)
 | 10,_=>exact okB_of (b:=true) (by kernel_rfl)
 | 11,_=>exact okB_of (b:=true) (by kernel_rfl)
 | 12,_=>exact okB_of (b:=true) (by kernel_rfl)
 | 13,_=>exact okB_of (b:=true) (by kernel_rfl)
 | 14,_=>exact okB_of (b:=true) (by kernel_rfl)
 | 15,_=>exact okB_of (b:=true) (by kernel_rfl)
 | 16,_=>exact okB_of (b:=true) (by kernel_rfl)
 | 17,_=>exact okB_of (b:=true) (by kernel_rfl)
 | 18,_=>exact okB_of (b:=true) (by kernel_rfl)
 | 19,_=>exact okB_of (b:=true) (by kernel_rfl)
 | 20,_=>exact okB_of (b:=true) (by kernel_rfl)
 | 21,_=>exact okB_of (b:=true) (by kernel_rfl)
 | 22,_=>exact okB_of (b:=true) (by kernel_rfl)
 | 23,_=>exact okB_of (b:=true) (by kernel_rfl)
 | n+24,h=>exact absurd h (by omega)
theorem GO.call {n m:Int} (h:0<=m/\m < n) (hn:n<=24):GO n ⟨2,m⟩:=by
 refine ⟨okB_of ?_,λ _=>h⟩
 unfold g_spec_l09Op
 show ((g_spec_l01In (IntKind.wrap .i64 m) 0 23).bind λ y_4=>some y_4)=_
 rw[wI64 (by omega) (by omega),specIn_eq,decide_eq_true (by omega)];rfl
theorem GO.ctl {n k:Int} (h:3<=k/\k<=8):GO n ⟨k,0⟩:=by
 refine ⟨okB_of ?_,λ e=>by have:k=2:=e;omega⟩
 unfold g_spec_l09Op
 show cond (k==0) _ (cond (k==1) _ (cond (k==2) _ ((g_spec_l01In k 3 8).bind λ y_5=>cond y_5 (some ((0:Int)==0)) (some false))))=_
 rw[show (k==0)=false by rw[beq_eq_false_iff_ne];omega,show (k==1)=false by rw[beq_eq_false_iff_ne];omega,show (k==2)=false by rw[beq_eq_false_iff_ne];omega,@specIn_eq k 3 8,decide_eq_true h];rfl
theorem GO.mono {n m:Int} {o:GOp} (h:GO n o) (hn:n<=m):GO m o:=⟨h.1,λ e=>⟨(h.2 e).1,by have:=(h.2 e).2;omega⟩⟩
theorem openF_app:∀ (a b:List GOp) (v:List Int),openF (a++b) v=(openF a v).bind (openF b)
 | [],b,v=>rfl
 | o::r,b,v=>by
  show (stepF v o).bind (openF (r++b))=((stepF v o).bind (openF r)).bind (openF b)
  cases stepF v o with
  | none=>rfl
  | some w=>exact openF_app r b w
structure GB (n:Int) (l:List GOp):Prop where
 ok:∀ o ∈ l,GO n o
 bal:∀ v,openF l v=some v
theorem GB.nil {n:Int}:GB n []:=⟨(λ o h=>by cases h),λ v=>rfl⟩
theorem GB.app {n:Int} {a b:List GOp} (ha:GB n a) (hb:GB n b):GB n (a++b) :=
 ⟨λ o h=>(List.mem_append.1 h).elim (ha.ok o) (hb.ok o),λ v=>by rw[openF_app,ha.bal];exact hb.bal v⟩
theorem GB.one {n:Int} {o:GOp} (h:GO n o) (hk:¬(3<=o.Kind/\o.Kind<=7)):GB n [o]:=by
 refine ⟨λ x hx=>by rw[List.mem_singleton.1 hx];exact h,λ v => ?_⟩
 show (stepF v o).bind (openF [])=_
 unfold stepF
 rw[if_neg (by omega),if_neg (by omega)];rfl
theorem GB.mono {n m:Int} {l:List GOp} (h:GB n l) (hn:n<=m):GB m l:=⟨λ o ho=>(h.ok o ho).mono hn,h.bal⟩
theorem GB.wrap {n k e:Int} {l:List GOp} (h:GB n l) (hk:k=3\/k=4\/k=6) (he:(k=6/\e=7)\/(k≠6/\e=5)):GB n ([⟨k,0⟩]++l++[⟨e,0⟩]):=by
 refine ⟨λ o ho => ?_,λ v => ?_⟩
 ·rcases List.mem_append.1 ho with ho|ho
  ·rcases List.mem_append.1 ho with ho|ho
   ·rw[List.mem_singleton.1 ho];exact .ctl (by omega)
   ·exact h.ok o ho
  ·rw[List.mem_singleton.1 ho];exact .ctl (by omega)
 ·rw[openF_app,openF_app]
  have e1:openF [(⟨k,0⟩:GOp)] v=some (v++[k]):=by
   show (stepF v ⟨k,0⟩).bind (openF [])=_
   unfold stepF
   rw[if_pos hk];rfl
  rw[e1,Option.bind_some,h.bal,Option.bind_some]
  show (stepF (v++[k]) ⟨e,0⟩).bind (openF [])=_
  unfold stepF
  rw[if_neg (by show ¬(e=3\/e=4\/e=6);omega),if_pos (by show e=5\/e=7;omega),List.getLast?_concat]
  show (if decide (k=6)=decide (e=7) then some (v++[k]).dropLast else none).bind (openF [])=_
  rw[if_pos (by rw[decide_eq_decide];omega),List.dropLast_concat];rfl
theorem plain_ok {n:Int} {c:GL01Cur} (h:Cok c) (hn:n<=24):Tot (g_spec_l09Plain n c) λ r=>GB n [r.1]/\Cok r.2:=by
 unfold g_spec_l09Plain
 refine .bind (Q:=λ o=>match o with | .inl (x,_)=>Cok x | .inr (x,o)=>GB n [o]/\Cok x) (.bind (below_ok h (by decide)) λ a ha=>.bind (Q:=λ _=>True) (by cases a.1==0<;>exact .some trivial) λ b _=>.cond (λ _ => ?_) λ _=>.cond (λ _=>.condD (λ hp => ?_) λ _=>.some ha.2.2) λ _=>.some ha.2.2) λ o ho => ?_
 ·exact .bind (below_ok ha.2.2 (by decide)) λ d hd=>.some ⟨.one (.lit _) (by show ¬(3<=(0:Int)/\_);omega),hd.2.2⟩
 ·refine .bind (below_ok ha.2.2 (by omega)) λ d hd=>.some ⟨.one ?_ (by show ¬(3<=(2:Int)/\_);omega),hd.2.2⟩
  rw[wI32 (by omega) (by omega)]
  exact .call ⟨hd.1,hd.2.1⟩ hn
 ·rcases o with ⟨x,y⟩|⟨x,y⟩
  ·refine .bind (pickInt_ok ho (by decide)) λ d hd=>.some ⟨.one ?_ (by show ¬(3<=(1:Int)/\_);omega),hd.2⟩
   have:∀ y ∈ ([0,0,1,2,3,4,5,5,6,7,8,9,10,11,12,13,14,15,16,17,18,19,20,21,22,22,23]:List Int),0<=y/\y<=23:=by decide
   have:=this _ hd.1
   rw[wI32 (by omega) (by omega)]
   exact .prim this
  ·exact .some ⟨ho.1,ho.2⟩
def bodyL:Nat->Nat
 | 0=>5
 | d+1=>4*(bodyL d+4)+1
theorem body_ok:∀ (d k:Nat),d < k->∀ {n:Int} {c:GL01Cur},n<=24->Cok c->d<=4->Tot (g_spec_l09Body_r k n d c) λ r=>(GB n r.1/\r.1.length<=bodyL d)/\Cok r.2:=by
 intro d
 induction d with
 | zero =>
  intro k hk n c hn h _
  obtain ⟨k,rfl⟩:∃ k',k=k'+1:=⟨k-1,by omega⟩
  show Tot (g_spec_l09Body_b (g_spec_l09Body_r k) n 0 c) _
  unfold g_spec_l09Body_b
  refine .bind (below_ok h (by decide)) λ a ha => ?_
  have L:=forLoop (n:=a.1) (F:=λ k' i (s:List GOp×GL01Cur)=>g_spec_l09Body_l0 (g_spec_l09Body_r k) n 0 a.1 k' s.1 i s.2) (λ i s=>(GB n s.1/\(s.1.length:Int)<=i)/\Cok s.2) (by omega) (λ k' i s h0 h1 hI hk=>by
   show Tot (g_spec_l09Body_l0 _ _ _ _ (k'+1) s.1 i s.2) _
   unfold g_spec_l09Body_l0
   rw[decide_eq_true h1,cond_true]
   refine .bind (Q:=λ r=>(GB n r.1/\(r.1.length:Int)<=i+1)/\Cok r.2) (.bind (plain_ok hI.2 hn) λ x hx=>.bindE (app_eq (by simp;omega)) (.bind (Q:=λ r=>r.1=true/\Cok r.2) (.some ⟨rfl,hx.2⟩) λ r hr => ?_)) λ r hr => ?_
   ·obtain ⟨r1,r2⟩:=r
    obtain ⟨e,hr2⟩:=hr
    have e:r1=true:=e
    subst e
    exact .some ⟨⟨hI.1.1.app hx.1,by have:=hI.1.2;simp;omega⟩,hr2⟩
   ·rw[wI64 (x:=i+1) (by omega) (by omega)]
    exact hk (_,_) hr) (λ k' i s hi _=>by
   show g_spec_l09Body_l0 _ _ _ _ (k'+1) s.1 i s.2=_
   unfold g_spec_l09Body_l0
   rw[decide_eq_false (by omega),cond_false]) (s:=([],a.2)) ⟨⟨.nil,by simp⟩,ha.2.2⟩
  refine .bind (.bind L λ x hx=>.some (Q:=λ (r:List GOp×GL01Cur)=>(GB n r.1/\r.1.length<=4)/\Cok r.2) ⟨⟨hx.1.1,by have:=hx.1.2;show x.1.length<=4;omega⟩,hx.2⟩) λ x hx => ?_
  refine .bind (Q:=λ r=>(GB n r.1/\r.1.length<=5)/\Cok r.2) (.bind (once_ok hx.2 (by decide)) λ y hy=>.cond (λ _=>.bindE (app_eq (by simp;omega)) (.some ⟨⟨hx.1.1.app (.one (.ctl (by decide)) (by show ¬(3<=(8:Int)/\(8:Int)<=7);omega)),by simp;omega⟩,hy⟩)) λ _=>.some ⟨⟨hx.1.1,by show x.1.length<=5;omega⟩,hy⟩) λ r hr=>.some hr
 | succ d ih =>
  intro k hk n c hn h hd
  obtain ⟨k,rfl⟩:∃ k',k=k'+1:=⟨k-1,by omega⟩
  show Tot (g_spec_l09Body_b (g_spec_l09Body_r k) n _ c) _
  unfold g_spec_l09Body_b
  have hL:bodyL d<=100000:=by
   match d,hd with
   | 0,_=>decide
   | 1,_=>decide
   | 2,_=>decide
   | 3,_=>decide
  refine .bind (below_ok h (by decide)) λ a ha => ?_
  have L:=forLoop (n:=a.1) (F:=λ k' i (s:List GOp×GL01Cur)=>g_spec_l09Body_l0 (g_spec_l09Body_r k) n ((d+1:Nat):Int) a.1 k' s.1 i s.2) (λ i s=>(GB n s.1/\(s.1.length:Int)<=i*(bodyL d+4))/\Cok s.2) (by omega) (λ k' i s h0 h1 hI hk2=>by
   show Tot (g_spec_l09Body_l0 _ _ _ _ (k'+1) s.1 i s.2) _
   unfold g_spec_l09Body_l0
   have hi:i*((bodyL d:Int)+4)<=4*100004:=by
    have:i<=4:=by omega
    exact Int.le_trans (Int.mul_le_mul_of_nonneg_right this (by omega)) (by omega)
   have hi1:(i+1)*((bodyL d:Int)+4)=i*((bodyL d:Int)+4)+(bodyL d+4):=by rw[Int.add_mul,Int.one_mul]
   have hIl:=hI.1.2
   rw[decide_eq_true h1,cond_true]
   refine .bind (Q:=λ r=>(GB n r.1/\(r.1.length:Int)<=(i+1)*(bodyL d+4))/\Cok r.2) (.bind (plain_ok hI.2 hn) λ x hx=>.bindE (app_eq (by simp;omega)) (.bind (Q:=λ r=>Cok r.2) (.condD (λ hz=>.some hx.2) λ _=>.bind (once_ok hx.2 (by decide)) λ y hy=>.some hy) λ r hr => ?_)) λ r hr => ?_
   ·have g1:=hI.1.1.app hx.1
    refine .cond (λ _=>.some ⟨⟨g1,by simp only[List.length_append,List.length_singleton];omega⟩,hr⟩) λ _ => ?_
    rw[show IntKind.wrap .i64 (((d+1:Nat):Int)-1)=(d:Int) by rw[wI64 (by omega) (by omega)];omega]
    refine .bind (ih k (by omega) hn hr (by omega)) λ u hu=>.bind (below_ok hu.2 (by decide)) λ w hw => ?_
    have hul:=hu.1.2
    refine .cond (λ _=>.bind (below_ok hw.2.2 (by decide)) λ z hz => ?_) λ _=>.cond (λ _ => ?_) λ _ => ?_
    ·rw[app_eq (by simp;omega),Option.bind_some,app_eq (by simp;omega),Option.bind_some,app_eq (by simp;omega),Option.bind_some]
     refine .some ⟨⟨?_,by simp only[List.length_append,List.length_cons,List.length_nil];omega⟩,hz.2.2⟩
     have g2:GB n [(⟨0,IntKind.wrap .i32 z.1⟩:GOp)]:=.one (.lit _) (by show ¬(3<=(0:Int)/\_);omega)
     have:=(g1.app g2).app (hu.1.1.wrap (k:=6) (e:=7) (by omega) (by omega))
     simpa [List.append_assoc] using this
    ·rw[app_eq (by simp;omega),Option.bind_some,app_eq (by simp;omega),Option.bind_some,app_eq (by simp;omega),Option.bind_some]
     refine .some ⟨⟨?_,by simp only[List.length_append,List.length_cons,List.length_nil];omega⟩,hw.2.2⟩
     have:=g1.app (hu.1.1.wrap (k:=3) (e:=5) (by omega) (by omega))
     simpa [List.append_assoc] using this
    ·rw[app_eq (by simp;omega),Option.bind_some,app_eq (by simp;omega),Option.bind_some,app_eq (by simp;omega),Option.bind_some]
     refine .some ⟨⟨?_,by simp only[List.length_append,List.length_cons,List.length_nil];omega⟩,hw.2.2⟩
     have:=g1.app (hu.1.1.wrap (k:=4) (e:=5) (by omega) (by omega))
     simpa [List.append_assoc] using this
   ·rw[wI64 (x:=i+1) (by omega) (by omega)]
    exact hk2 (_,_) hr) (λ k' i s hi _=>by
   show g_spec_l09Body_l0 _ _ _ _ (k'+1) s.1 i s.2=_
   unfold g_spec_l09Body_l0
   rw[decide_eq_false (by omega),cond_false]) (s:=([],a.2)) ⟨⟨.nil,by simp⟩,ha.2.2⟩
  have hm:max 0 a.1*((bodyL d:Int)+4)<=4*((bodyL d:Int)+4):=Int.mul_le_mul_of_nonneg_right (by omega) (by omega)
  refine .bind (.bind L λ x hx=>.some (Q:=λ (r:List GOp×GL01Cur)=>(GB n r.1/\r.1.length<=4*(bodyL d+4))/\Cok r.2) ⟨⟨hx.1.1,by have:=hx.1.2;show x.1.length<=4*(bodyL d+4);omega⟩,hx.2⟩) λ x hx => ?_
  refine .bind (Q:=λ r=>(GB n r.1/\r.1.length<=4*(bodyL d+4)+1)/\Cok r.2) (.bind (once_ok hx.2 (by decide)) λ y hy=>.cond (λ _=>.bindE (app_eq (by simp;omega)) (.some ⟨⟨hx.1.1.app (.one (.ctl (by decide)) (by show ¬(3<=(8:Int)/\(8:Int)<=7);omega)),by simp;omega⟩,hy⟩)) λ _=>.some ⟨⟨hx.1.1,by show x.1.length<=4*(bodyL d+4)+1;omega⟩,hy⟩) λ r hr=>.some hr
end Go.Proofs.YtcnbncafiinfjaaDoor
namespace Go.Proofs.YtcnbncafiinfjaaDoor
open Go Go.Fm
set_option maxRecDepth 100000
def names5:List Bs:=[[103,111],[120],[115,113,117,97,114,101],[97,33,97],[116,101,110]]
structure DD (n:Int) (d:GDef):Prop where
 nm:d.Name ∈ names5
 b:GB n d.Body
 l:d.Body.length<=52
theorem exit_gb {n:Int}:GB n [⟨8,0⟩]:=.one (.ctl (by decide)) (by show ¬(3<=(8:Int)/\(8:Int)<=7);omega)
theorem make9_ok {c:GL01Cur} (h:Cok c):Tot (g_spec_l09Make c) λ r=>((1<=r.1.length/\r.1.length<=4)/\∀ d ∈ r.1,DD r.1.length d)/\Cok r.2:=by
 unfold g_spec_l09Make
 refine .bind (below_ok h (by decide)) λ a ha => ?_
 rw[wI64 (x:=1+a.1) (by omega) (by omega)]
 have L:=forLoop (n:=1+a.1) (F:=λ k i (s:List GDef×GL01Cur)=>g_spec_l09Make_l0 (1+a.1) k s.1 i s.2) (λ i s=>((s.1.length:Int)=i/\∀ d ∈ s.1,DD (1+a.1) d)/\Cok s.2) (by omega) (λ k i s h0 h1 hI hk=>by
  show Tot (g_spec_l09Make_l0 _ (k+1) s.1 i s.2) _
  unfold g_spec_l09Make_l0
  rw[decide_eq_true h1,cond_true]
  refine .bind (Q:=λ r=>((r.1.length:Int)=i+1/\∀ d ∈ r.1,DD (1+a.1) d)/\Cok r.2) ?_ λ r hr => ?_
  ·refine .bind (Q:=λ r=>(0<=r.1/\r.1<=1+a.1)/\Cok r.2) (.bind (once_ok hI.2 (by decide)) λ x hx=>.cond (λ _=>.some ⟨⟨by show 0<=1+a.1;omega,Int.le_refl _⟩,hx⟩) λ _=>.some ⟨⟨h0,by show i<=1+a.1;omega⟩,hx⟩) λ q hq => ?_
   obtain ⟨⟨q0,q1⟩,q2⟩:=hq
   refine .bind (body_ok 2 bigK (by unfold bigK;omega) (by omega) q2 (by omega)) λ b hb => ?_
   refine .bind (Q:=λ r=>GB q.1 r/\r.length<=50) (.condD (λ _=>.some ⟨.nil,by simp⟩) λ hl=>.some ⟨hb.1.1,by omega⟩) λ bd hbd => ?_
   refine .bind (Q:=λ r=>(GB (1+a.1) r.1/\r.1.length<=52)/\Cok r.2) (.bind (below_ok hb.2 (by decide)) λ w hw=>.cond (λ _=>.some ⟨⟨hbd.1.mono q1,by show bd.length<=52;omega⟩,hw.2.2⟩) λ _=>.cond (λ _ => ?_) λ _=>.bindE (app_eq (by simp;omega)) (.some ⟨⟨(hbd.1.app exit_gb).mono q1,by simp;omega⟩,hw.2.2⟩)) λ e he => ?_
   ·refine .bind (Q:=λ r=>(GB q.1 r.1/\r.1.length<=51)/\Cok r.2) (.condD (λ hp=>.bind (below_ok hw.2.2 (by omega)) λ z hz=>.bindE (app_eq (by simp;omega)) (.some ⟨⟨hbd.1.app (.one ?_ (by show ¬(3<=(2:Int)/\_);omega)),by simp;omega⟩,hz.2.2⟩)) λ _=>.some ⟨⟨hbd.1,by show bd.length<=51;omega⟩,hw.2.2⟩) λ u hu=>.bindE (app_eq (by have:=hu.1.2;simp;omega)) (.some ⟨⟨(hu.1.1.app exit_gb).mono q1,by have:=hu.1.2;simp;omega⟩,hu.2⟩)
    rw[wI32 (by omega) (by omega)]
    exact .call ⟨hz.1,hz.2.1⟩ (by omega)
   ·refine .bind (pick_ok he.2 (by decide)) λ z hz=>.bindE (app_eq (by simp;omega)) (.some ⟨⟨by have:=hI.1.1;simp;omega,λ d hd => ?_⟩,hz.2⟩)
    rcases List.mem_append.1 hd with hd|hd
    ·exact hI.1.2 d hd
    ·rw[List.mem_singleton.1 hd];exact ⟨hz.1,he.1.1,he.1.2⟩
  ·rw[wI64 (x:=i+1) (by omega) (by omega)]
   exact hk (_,_) hr) (λ k i s hi _=>by
  show g_spec_l09Make_l0 _ (k+1) s.1 i s.2=_
  unfold g_spec_l09Make_l0
  rw[decide_eq_false (by omega),cond_false]) (s:=([],a.2)) ⟨⟨rfl,λ d hd=>by cases hd⟩,ha.2.2⟩
 refine .bind (.bind L λ x hx=>.some (Q:=λ (r:List GDef×GL01Cur)=>((r.1.length:Int)=1+a.1/\∀ d ∈ r.1,DD (1+a.1) d)/\Cok r.2) ⟨⟨by have:=hx.1.1;show (x.1.length:Int)=_;omega,hx.1.2⟩,hx.2⟩) λ x hx=>.some ⟨⟨⟨by have:=hx.1.1;show 1<=x.1.length;omega,by have:=hx.1.1;show x.1.length<=4;omega⟩,λ d hd => ?_⟩,hx.2⟩
 have e:((x.1.length:Nat):Int)=1+a.1:=hx.1.1
 show DD (x.1.length:Int) d
 rw[e];exact hx.1.2 d hd
theorem names5_ok:∀ s ∈ names5,g_spec_NameOk s=some true:=by
 intro s hs
 unfold names5 at hs
 simp only[List.mem_cons,List.not_mem_nil,or_false]at hs
 rcases hs with rfl|rfl|rfl|rfl|rfl<;>decide +kernel
end Go.Proofs.YtcnbncafiinfjaaDoor
namespace Go.Proofs.YtcnbncafiinfjaaDoor
open Go Go.Fm
set_option maxRecDepth 100000
theorem put_own {l:List Int} {n:Int} (hl:l.length<=1000):g_spec_l20Put_own l n=some (ins n l):=by
 rw[<-put_eq hl]
 have e:∀ k i,g_spec_l20Put_own_l0 l n k i=g_spec_l20Put_l0 l n k i:=by
  intro k
  induction k with
  | zero=>intro i;rfl
  | succ k ih=>intro i;unfold g_spec_l20Put_own_l0 g_spec_l20Put_l0;simp only[ih]
 unfold g_spec_l20Put_own g_spec_l20Put
 simp only[e]
theorem calls_own {body:List GOp} (hb:body.length<=60):∀ (k i:Nat) (s:List Int),i<=body.length->body.length-i < k->s.length<=i →
  ∃ s',g_spec_CallsOf_l0 body k s (i:Int)=some s'/\g_spec_CallsOf_own_l0 body k s (i:Int)=some s'/\∀ x,x ∈ s' ↔ x ∈ s\/∃ o ∈ body.drop i,o.Kind=2/\x=IntKind.wrap .i64 o.N:=by
 intro k
 induction k with
 | zero=>intro i s h0 h1;omega
 | succ k ih =>
  intro i s h0 h1 h2
  rw[g_spec_CallsOf_l0,g_spec_CallsOf_own_l0]
  by_cases hn:i < body.length
  case neg =>
   rw[decide_eq_false (by omega),cond_false,cond_false,List.drop_eq_nil_of_le (by omega)]
   exact ⟨s,rfl,rfl,λ x=>by simp⟩
  rw[decide_eq_true (by omega),cond_true,cond_true,getI_nat,List.getElem?_eq_getElem hn,nxt (by omega),List.drop_eq_getElem_cons hn]
  simp only[Option.bind_some]
  by_cases hk:body[i].Kind=2
  ·rw[show (body[i].Kind==2)=true by simp[hk],cond_true,cond_true,put_eq (by omega),put_own (by omega)]
   simp only[Option.bind_some]
   have hl:=ins_len (IntKind.wrap .i64 body[i].N) s
   obtain ⟨s',e1,e2,e3⟩:=ih (i+1) (ins (IntKind.wrap .i64 body[i].N) s) (by omega) (by omega) (by omega)
   refine ⟨s',e1,e2,λ x => ?_⟩
   rw[e3,ins_mem]
   constructor
   ·rintro ((h|h)|⟨o,ho,h3,h4⟩)
    ·exact .inr ⟨body[i],List.mem_cons_self,hk,h⟩
    ·exact .inl h
    ·exact .inr ⟨o,List.mem_cons_of_mem _ ho,h3,h4⟩
   ·rintro (h|⟨o,ho,h3,h4⟩)
    ·exact .inl (.inr h)
    ·rcases List.mem_cons.1 ho with rfl|ho
     ·exact .inl (.inl h4)
     ·exact .inr ⟨o,ho,h3,h4⟩
  ·rw[show (body[i].Kind==2)=false by simp[hk],cond_false,cond_false]
   simp only[Option.bind_some]
   obtain ⟨s',e1,e2,e3⟩:=ih (i+1) s (by omega) (by omega) (by omega)
   refine ⟨s',e1,e2,λ x => ?_⟩
   rw[e3]
   constructor
   ·rintro (h|⟨o,ho,h3,h4⟩)
    ·exact .inl h
    ·exact .inr ⟨o,List.mem_cons_of_mem _ ho,h3,h4⟩
   ·rintro (h|⟨o,ho,h3,h4⟩)
    ·exact .inl h
    ·rcases List.mem_cons.1 ho with rfl|ho
     ·exact absurd h3 hk
     ·exact .inr ⟨o,ho,h3,h4⟩
def callsL (body:List GOp):List Int:=(g_impl_callsOf body).getD []
structure CallsOk (body:List GOp):Prop where
 i:g_impl_callsOf body=some (callsL body)
 s:g_spec_CallsOf_own_l0 body bigK [] 0=some (callsL body)
 m:∀ x,x ∈ callsL body ↔ ∃ o ∈ body,o.Kind=2/\x=IntKind.wrap .i64 o.N
 l:(callsL body).length<=60
theorem callsL_ok {body:List GOp} (hb:body.length<=60):CallsOk body:=by
 obtain ⟨s,h1,_,h2,h3⟩:=calls_body hb
 have e:callsL body=s:=by unfold callsL;rw[h2];rfl
 obtain ⟨s',e1,e2,e3⟩:=calls_own hb bigK 0 [] (Nat.zero_le _) (by unfold bigK;omega) (Nat.le_refl _)
 rw[show ((0:Nat):Int)=0 from rfl]at e1 e2
 rw[h3]at e1
 cases e1
 refine ⟨by rw[e];exact h2,by rw[e];exact e2,λ x => ?_,by rw[e];exact h1⟩
 rw[e,e3,List.drop_zero]
 simp
def fallsB (body:List GOp):Bool:=shapeB body&&(decide (body.length=0) || decide (∃ o,body.getLast? = some o/\o.Kind≠8))
theorem falls_both {body:List GOp} (hb:body.length<=1048576):g_impl_Falls body=some (fallsB body)/\g_spec_Falls body=some (fallsB body):=by
 have key:(cond (shapeB body) (cond ((body.length:Int)==0) (some true) ((getI body (IntKind.wrap .i64 ((body.length:Int)-1))).bind λ v_4=>some (v_4.Kind != 8))) (some false):Option Bool)=some (fallsB body):=by
  unfold fallsB
  cases shapeB body
  ·rfl
  ·rw[cond_true,Bool.true_and]
   by_cases h0:body.length=0
   ·rw[show ((body.length:Int)==0)=true by simp[h0],cond_true,decide_eq_true h0,Bool.true_or]
   ·rw[show ((body.length:Int)==0)=false by rw[beq_eq_false_iff_ne];omega,cond_false,decide_eq_false h0,Bool.false_or,wI64 (by omega) (by omega),show (body.length:Int)-1=((body.length-1:Nat):Int) by omega,getI_nat,List.getElem?_eq_getElem (by omega),Option.bind_some]
    have e:body.getLast? = some body[body.length-1]:=by
     rw[List.getLast?_eq_getElem?,List.getElem?_eq_getElem (by omega)]
    rw[e]
    congr 1
    by_cases hk:body[body.length-1].Kind=8
    ·rw[hk]
     rw[decide_eq_false]
     ·rfl
     ·rintro ⟨o,ho,h8⟩
      cases ho
      exact h8 hk
    ·rw[decide_eq_true ⟨_,rfl,hk⟩]
     simp[hk]
 unfold g_impl_Falls g_spec_Falls
 rw[implShape hb,specShape hb]
 simp only[Option.bind_some]
 exact ⟨key,key⟩
def bodyAt (defs:List GDef) (x:Int):List GOp:=match defs[x.toNat]? with|some d=>d.Body|none=>[]
def nx (defs:List GDef) (x:Int):List Int:=callsL (bodyAt defs x)++(if fallsB (bodyAt defs x)=true/\x+1 < defs.length then [x+1] else [])
structure DG (defs:List GDef):Prop where
 n:defs.length<=24
 s:∀ d ∈ defs,shapeB d.Body=true
 c:∀ d ∈ defs,∀ o ∈ d.Body,o.Kind=2->0<=IntKind.wrap .i64 o.N/\IntKind.wrap .i64 o.N < defs.length
theorem shape_len {body:List GOp} (h:shapeB body=true):body.length<=60:=by
 unfold shapeB at h;simp only[Bool.and_eq_true,decide_eq_true_eq]at h;exact h.1.1
theorem DG.at {defs:List GDef} (h:DG defs) {x:Int} (h0:0<=x) (h1:x < defs.length):∃ d,getI defs x=some d/\d ∈ defs/\bodyAt defs x=d.Body:=by
 obtain ⟨d,e1,e2,e3⟩:=getI_ex h0 h1
 exact ⟨d,e1,e2,by unfold bodyAt;rw[e3]⟩
theorem DG.nx {defs:List GDef} (h:DG defs) {x y:Int} (h0:0<=x) (h1:x < defs.length) (hy:y ∈ nx defs x):0<=y/\y < defs.length:=by
 obtain ⟨d,_,e2,e3⟩:=h.at h0 h1
 unfold YtcnbncafiinfjaaDoor.nx at hy
 rw[e3]at hy
 rcases List.mem_append.1 hy with hy|hy
 ·obtain ⟨o,ho,hk,rfl⟩:=((callsL_ok (shape_len (h.s d e2))).m y).1 hy
  exact h.c d e2 o ho hk
 ·split at hy
  ·rename_i hc
   rw[List.mem_singleton]at hy
   omega
  ·cases hy
theorem nx_len {defs:List GDef} (h:DG defs) {x:Int} (h0:0<=x) (h1:x < defs.length):(nx defs x).length<=61:=by
 obtain ⟨d,_,e2,e3⟩:=h.at h0 h1
 unfold nx
 rw[e3,List.length_append]
 have:=(callsL_ok (shape_len (h.s d e2))).l
 split<;>simp<;>omega
theorem l1_impl {list:List Int}:∀ (k n:Nat) (out:List Int),n<=list.length->list.length-n < k->list.length<=100->out.length+list.length<=n+800->g_impl_Reach_l1 list (list.length:Int) k out (n:Int)=some (addAll out (list.drop n)):=by
 intro k
 induction k with
 | zero=>intro n out h0 h1;omega
 | succ k ih =>
  intro n out h0 h1 hl h2
  rw[g_impl_Reach_l1]
  by_cases hn:n < list.length
  ·rw[decide_eq_true (by omega),cond_true,getI_nat,List.getElem?_eq_getElem hn,List.drop_eq_getElem_cons hn,addAll]
   simp only[Option.bind_some]
   rw[has_eq (by omega)]
   simp only[Option.bind_some]
   by_cases hm:list[n] ∈ out
   ·rw[decide_eq_true hm,Bool.not_true,cond_false,if_pos hm,Option.bind_some,nxt (by omega)]
    exact ih (n+1) out (by omega) (by omega) hl (by omega)
   ·rw[decide_eq_false hm,Bool.not_false,cond_true,if_neg hm,app_eq (by simp;omega)]
    simp only[Option.bind_some]
    rw[nxt (by omega)]
    exact ih (n+1) _ (by omega) (by omega) hl (by simp;omega)
  ·rw[decide_eq_false (by omega),cond_false,List.drop_eq_nil_of_le (by omega)];rfl
structure RcI (defs:List GDef) (k:Int) (out:List Int) (i:Nat):Prop where
 nd:out.Nodup
 m0:k ∈ out
 v:∀ x ∈ out,0<=x/\x < defs.length
 r:∀ x ∈ out,Rch (nx defs) k x
 le:i<=out.length
 c:∀ (j:Nat) (x:Int),j < i->out[j]? = some x->∀ y ∈ nx defs x,y ∈ out
theorem RcI.len {defs:List GDef} {k:Int} {out:List Int} {i:Nat} (h:RcI defs k out i):out.length<=defs.length:=nd_len h.nd h.v
theorem impl_reach_loop {defs:List GDef} (hd:DG defs) {kk:Int}:∀ (k:Nat) (out:List Int) (i:Nat),RcI defs kk out i->defs.length-i < k →
  ∃ r,g_impl_Reach_l0 defs k out (i:Int)=some r/\RcI defs kk r r.length:=by
 intro k
 induction k with
 | zero=>intro out i h h1;have:=h.len;have:=h.le;omega
 | succ k ih =>
  intro out i h h1
  have hlen:=h.len
  have hi:=h.le
  have hn24:=hd.n
  rw[g_impl_Reach_l0]
  by_cases hn:i < out.length
  case neg =>
   rw[decide_eq_false (by omega),cond_false]
   have:i=out.length:=by omega
   subst this
   exact ⟨out,rfl,h⟩
  have hx:=h.v out[i] (List.getElem_mem hn)
  obtain ⟨d,e1,e2,e3⟩:=hd.at hx.1 hx.2
  have hs:=shape_len (hd.s d e2)
  have hc:=callsL_ok hs
  obtain ⟨f1,_⟩:=falls_both (body:=d.Body) (by omega)
  rw[decide_eq_true (by omega),cond_true,getI_nat,List.getElem?_eq_getElem hn,Option.bind_some,e1]
  simp only[Option.bind_some]
  rw[hc.i,f1]
  simp only[Option.bind_some]
  have hl:((cond (fallsB d.Body) (some (decide ((IntKind.wrap .i64 (out[i]+1)) < (defs.length:Int)))) (some false):Option Bool).bind λ v_16=>cond v_16 ((app (callsL d.Body) [IntKind.wrap .i64 (out[i]+1)]).bind λ v_19=>some v_19) (some (callsL d.Body)):Option (List Int))=some (nx defs out[i]):=by
   unfold nx
   rw[e3,wI64 (by omega) (by omega)]
   cases hf:fallsB d.Body
   ·simp
   ·rw[cond_true,Option.bind_some]
    by_cases hlt:out[i]+1 < defs.length
    ·rw[decide_eq_true hlt,cond_true,app_eq (by have:=hc.l;simp;omega),if_pos ⟨rfl,hlt⟩];rfl
    ·rw[decide_eq_false hlt,cond_false,if_neg (λ h=>hlt h.2)];simp
  rw[hl,Option.bind_some]
  have hnl:=nx_len hd hx.1 hx.2
  have l1:=l1_impl (list:=nx defs out[i]) bigK 0 out (Nat.zero_le _) (by unfold bigK;omega) (by omega) (by omega)
  rw[show ((0:Nat):Int)=0 from rfl,List.drop_zero]at l1
  rw[l1]
  simp only[Option.bind_some]
  rw[nxt (by omega)]
  have hget:∀ j,j < out.length->(addAll out (nx defs out[i]))[j]? = out[j]? := λ j hj=>(addAll_get hj).1
  refine ih _ (i+1) ⟨addAll_nodup h.nd,addAll_mem.2 (.inl h.m0),λ x hx2 => ?_,λ x hx2 => ?_,?_,λ j x hj hjx y hy => ?_⟩ (by omega)
  ·rcases addAll_mem.1 hx2 with hx2|hx2
   ·exact h.v x hx2
   ·exact hd.nx hx.1 hx.2 hx2
  ·rcases addAll_mem.1 hx2 with hx2|hx2
   ·exact h.r x hx2
   ·exact .step (h.r _ (List.getElem_mem hn)) hx2
  ·have:=(addAll_get (l:=nx defs out[i]) hn).2;omega
  ·rw[hget j (by omega)]at hjx
   by_cases hji:j < i
   ·exact addAll_mem.2 (.inl (h.c j x hji hjx y hy))
   ·have:j=i:=by omega
    subst this
    rw[List.getElem?_eq_getElem hn]at hjx
    cases hjx
    exact addAll_mem.2 (.inr hy)
structure IsR (defs:List GDef) (k:Int) (r:List Int):Prop where
 asc:r.Pairwise (· < ·)
 v:∀ x ∈ r,0<=x/\x < defs.length
 m:∀ x,x ∈ r ↔ Rch (nx defs) k x
theorem IsR.len {defs:List GDef} {k:Int} {r:List Int} (h:IsR defs k r):r.length<=defs.length:=nd_len (asc_nodup h.asc) h.v
theorem IsR.uniq {defs:List GDef} {k:Int} {r s:List Int} (h:IsR defs k r) (g:IsR defs k s):r=s:=asc_eq h.asc g.asc λ x=>(h.m x).trans (g.m x).symm
theorem RcI.done {defs:List GDef} {k:Int} {r:List Int} (h:RcI defs k r r.length) (x:Int):x ∈ r ↔ Rch (nx defs) k x :=
 Rch.iff h.m0 h.r (λ x hx y hy=>by
  obtain ⟨j,hj,e⟩:=List.getElem_of_mem hx
  exact h.c j x hj (by rw[List.getElem?_eq_getElem hj,e]) y hy) x
theorem impl_reach_set {defs:List GDef} (hd:DG defs) {k:Int} (h0:0<=k) (h1:k < defs.length):∃ r,(((g_impl_Reach_l0 defs bigK [k] 0).bind λ out_10=>some out_10:Option ((List Int))).bind λ out_7=>(g_slices_Sort_int out_7).bind λ y_28=>some y_28)=some r/\IsR defs k r:=by
 have hn24:=hd.n
 obtain ⟨r,e,h⟩:=impl_reach_loop hd (kk:=k) bigK [k] 0 ⟨by simp,by simp,λ x hx=>by rw[List.mem_singleton.1 hx];exact ⟨h0,h1⟩,λ x hx=>by rw[List.mem_singleton.1 hx];exact .refl,by simp,λ j x hj=>by omega⟩ (by unfold bigK;omega)
 rw[show ((0:Nat):Int)=0 from rfl]at e
 have hl:=h.len
 refine ⟨sortI r,?_,sort_asc h.nd,λ x hx=>h.v x (sort_mem.1 hx),λ x=>sort_mem.trans (h.done x)⟩
 rw[e]
 simp only[Option.bind_some]
 rw[g_slices_Sort_int,gSort,decide_eq_true (by omega),cond_true]
 rfl
theorem l2_spec {list:List Int}:∀ (k n:Nat) (out:List Int),n<=list.length->list.length-n < k->list.length<=100->out.length+list.length<=n+800->g_spec_Reach_hand_l2 list k out (n:Int)=some (insAll out (list.drop n)):=by
 intro k
 induction k with
 | zero=>intro n out h0 h1;omega
 | succ k ih =>
  intro n out h0 h1 hl h2
  rw[g_spec_Reach_hand_l2]
  by_cases hn:n < list.length
  ·rw[decide_eq_true (by omega),cond_true,getI_nat,List.getElem?_eq_getElem hn,List.drop_eq_getElem_cons hn,insAll]
   simp only[Option.bind_some]
   rw[put_eq (by omega)]
   simp only[Option.bind_some]
   rw[nxt (by omega)]
   have:=ins_len list[n] out
   exact ih (n+1) _ (by omega) (by omega) hl (by omega)
  ·rw[decide_eq_false (by omega),cond_false,List.drop_eq_nil_of_le (by omega)];rfl
structure SI (defs:List GDef) (k:Int) (out:List Int):Prop where
 asc:out.Pairwise (· < ·)
 m0:k ∈ out
 v:∀ x ∈ out,0<=x/\x < defs.length
 r:∀ x ∈ out,Rch (nx defs) k x
theorem SI.len {defs:List GDef} {k:Int} {out:List Int} (h:SI defs k out):out.length<=defs.length:=nd_len (asc_nodup h.asc) h.v
theorem l1_spec {defs:List GDef} (hd:DG defs) {kk:Int} {out:List Int} (h:SI defs kk out):∀ (k i:Nat),i<=out.length->out.length-i < k →
  ∃ r,g_spec_Reach_hand_l1 defs (out.length:Int) k out (i:Int)=some r/\SI defs kk r/\(r.length > out.length\/(r=out/\∀ (j:Nat) (x:Int),i<=j->out[j]? = some x->∀ y ∈ nx defs x,y ∈ out)):=by
 intro k
 induction k with
 | zero=>intro i h0 h1;omega
 | succ k ih =>
  intro i h0 h1
  have hlen:=h.len
  have hn24:=hd.n
  rw[g_spec_Reach_hand_l1]
  by_cases hn:i < out.length
  case neg =>
   rw[decide_eq_false (by omega),cond_false]
   exact ⟨out,rfl,h, .inr ⟨rfl,λ j x hj hjx=>by rw[List.getElem?_eq_none (by omega)]at hjx;cases hjx⟩⟩
  have hx:=h.v out[i] (List.getElem_mem hn)
  obtain ⟨d,e1,e2,e3⟩:=hd.at hx.1 hx.2
  have hsh:=hd.s d e2
  have hs:=shape_len hsh
  have hc:=callsL_ok hs
  obtain ⟨_,f1⟩:=falls_both (body:=d.Body) (by omega)
  have hcs:g_spec_CallsOf_own d.Body=some (callsL d.Body):=by
   unfold g_spec_CallsOf_own
   rw[specShape (by omega),hsh,Option.bind_some,Bool.not_true,cond_false,hc.s];rfl
  rw[decide_eq_true (by omega),cond_true,getI_nat,List.getElem?_eq_getElem hn]
  simp only[Option.bind_some]
  rw[e1]
  simp only[Option.bind_some]
  rw[hcs,f1]
  simp only[Option.bind_some]
  have hl:((cond (fallsB d.Body) (some (decide ((IntKind.wrap .i64 (out[i]+1)) < (defs.length:Int)))) (some false):Option Bool).bind λ v_16=>cond v_16 ((app (callsL d.Body) [IntKind.wrap .i64 (out[i]+1)]).bind λ v_19=>some v_19) (some (callsL d.Body)):Option (List Int))=some (nx defs out[i]):=by
   unfold nx
   rw[e3,wI64 (by omega) (by omega)]
   cases hf:fallsB d.Body
   ·simp
   ·rw[cond_true,Option.bind_some]
    by_cases hlt:out[i]+1 < defs.length
    ·rw[decide_eq_true hlt,cond_true,app_eq (by have:=hc.l;simp;omega),if_pos ⟨rfl,hlt⟩];rfl
    ·rw[decide_eq_false hlt,cond_false,if_neg (λ h=>hlt h.2)];simp
  rw[hl,Option.bind_some]
  have hnl:=nx_len hd hx.1 hx.2
  have l2:=l2_spec (list:=nx defs out[i]) bigK 0 out (Nat.zero_le _) (by unfold bigK;omega) (by omega) (by omega)
  rw[show ((0:Nat):Int)=0 from rfl,List.drop_zero]at l2
  rw[l2]
  simp only[Option.bind_some]
  by_cases hg:(insAll out (nx defs out[i])).length > out.length
  ·rw[decide_eq_true (by omega),cond_true]
   refine ⟨_,rfl,⟨insAll_asc h.asc,insAll_mem.2 (.inl h.m0),λ x hx2 => ?_,λ x hx2 => ?_⟩, .inl hg⟩
   ·rcases insAll_mem.1 hx2 with hx2|hx2
    ·exact h.v x hx2
    ·exact hd.nx hx.1 hx.2 hx2
   ·rcases insAll_mem.1 hx2 with hx2|hx2
    ·exact h.r x hx2
    ·exact .step (h.r _ (List.getElem_mem hn)) hx2
  ·rw[decide_eq_false (by omega),cond_false]
   simp only[Option.bind_some]
   rw[nxt (by omega)]
   obtain ⟨r,g1,g2,g3⟩:=ih (i+1) (by omega) (by omega)
   refine ⟨r,g1,g2,g3.imp id λ ⟨g4,g5⟩=>⟨g4,λ j x hj hjx y hy => ?_⟩⟩
   by_cases hji:j=i
   ·subst hji
    rw[List.getElem?_eq_getElem hn]at hjx
    cases hjx
    exact insAll_same h.asc hg y hy
   ·exact g5 j x (by omega) hjx y hy
theorem spec_reach_loop {defs:List GDef} (hd:DG defs) {kk:Int}:∀ (k:Nat) (out:List Int) (more:Bool),SI defs kk out->(more=false->∀ x ∈ out,∀ y ∈ nx defs x,y ∈ out)->defs.length-out.length+(if more then 1 else 0) < k →
  ∃ r,g_spec_Reach_hand_l0 defs k out more=some r/\IsR defs kk r:=by
 intro k
 induction k with
 | zero=>intro out more h hm h1;omega
 | succ k ih =>
  intro out more h hm h1
  have hlen:=h.len
  rw[g_spec_Reach_hand_l0]
  cases more with
  | false=>exact ⟨out,rfl,h.asc,h.v,Rch.iff h.m0 h.r (hm rfl)⟩
  | true =>
   rw[cond_true]
   obtain ⟨r,g1,g2,g3⟩:=l1_spec hd h bigK 0 (Nat.zero_le _) (by have:=hd.n;unfold bigK;omega)
   rw[show ((0:Nat):Int)=0 from rfl]at g1
   rw[g1]
   simp only[Option.bind_some]
   have hr:=g2.len
   simp only[if_true]at h1
   rcases g3 with g3|⟨rfl,g3⟩
   ·rw[decide_eq_true (by omega)]
    exact ih r true g2 (λ h=>by cases h) (by simp only[if_true];omega)
   ·rw[decide_eq_false (by omega)]
    exact ih r false g2 (λ _ x hx y hy=>by
     obtain ⟨j,hj,e⟩:=List.getElem_of_mem hx
     exact g3 j x (Nat.zero_le _) (by rw[List.getElem?_eq_getElem hj,e]) y hy) (by simp;omega)
theorem spec_reach_set {defs:List GDef} (hd:DG defs) {k:Int} (h0:0<=k) (h1:k < defs.length):∃ r,(((g_spec_Reach_hand_l0 defs bigK [k] true).bind λ out_10=>some out_10:Option ((List Int))).bind λ out_7=>some out_7)=some r/\IsR defs k r:=by
 have hn24:=hd.n
 obtain ⟨r,e,h⟩:=spec_reach_loop hd (kk:=k) bigK [k] true ⟨by simp,by simp,λ x hx=>by rw[List.mem_singleton.1 hx];exact ⟨h0,h1⟩,λ x hx=>by rw[List.mem_singleton.1 hx];exact .refl⟩ (λ h=>by cases h) (by unfold bigK;simp;omega)
 exact ⟨r,by rw[e];rfl,h⟩
end Go.Proofs.YtcnbncafiinfjaaDoor
namespace Go.Proofs.YtcnbncafiinfjaaDoor
open Go Go.Fm
set_option maxRecDepth 100000
theorem idxLoop {α:Type} {L:List α} (p:α->Bool) (F:Nat->Int->Option (Unit ⊕ Int)) (step:∀ (k n:Nat) (x:α),L[n]? = some x->n < L.length->F (k+1) n=cond (p x) (some (.inr (n:Int))) (F k ((n+1:Nat):Int)))
  (fin:∀ k n:Nat,L.length<=n->F (k+1) n=some (.inl ())) (hm:L.length<=16777216):∃ o,F bigK 0=some o/\(match o with | .inl _=>L.any p=false | .inr v=>0<=v/\L.any p=true):=by
 have key:∀ (k n:Nat),n<=L.length->L.length-n < k->∃ o,F k n=some o/\(match o with | .inl _=>(L.drop n).any p=false | .inr v=>0<=v/\(L.drop n).any p=true):=by
  intro k
  induction k with
  | zero=>intro n h0 h1;omega
  | succ k ih =>
   intro n h0 h1
   by_cases hn:n < L.length
   ·rw[step k n L[n] (List.getElem?_eq_getElem hn) hn,List.drop_eq_getElem_cons hn,List.any_cons]
    cases hp:p L[n] with
    | true=>exact ⟨_,rfl,by show 0<=(n:Int)/\_;exact ⟨by omega,rfl⟩⟩
    | false =>
     rw[cond_false,Bool.false_or]
     exact ih (n+1) (by omega) (by omega)
   ·rw[fin k n (by omega),List.drop_eq_nil_of_le (by omega)]
    exact ⟨_,rfl,rfl⟩
 have:=key bigK 0 (Nat.zero_le _) (by unfold bigK;omega)
 rw[List.drop_zero]at this
 exact this
def tooFar (n:Int) (o:GOp):Bool:=o.Kind==2&&decide (IntKind.wrap .i64 o.N ≥ n)
theorem below_eq {body:List GOp} {n:Int} (hb:body.length<=1048576):g_impl_callsBelow body n=some (!(body.any (tooFar n))):=by
 unfold g_impl_callsBelow g_slices_ContainsFunc_Op_impl_callsBelowc1 g_slices_IndexFunc_Op_impl_callsBelowc1
 obtain ⟨o,h1,h2⟩:=idxLoop (L:=body) (tooFar n) (g_slices_IndexFunc_Op_impl_callsBelowc1_l0 body (body.length:Int) n) (λ k i x hx hi=>by
  rw[g_slices_IndexFunc_Op_impl_callsBelowc1_l0,decide_eq_true (by omega),cond_true,getI_nat,hx,Option.bind_some]
  unfold g_impl_callsBelowc1 tooFar
  rw[nxt (by omega)]
  cases x.Kind==2<;>rfl) (λ k i hi=>by rw[g_slices_IndexFunc_Op_impl_callsBelowc1_l0,decide_eq_false (by omega),cond_false]) (by omega)
 rw[h1]
 cases o with
 | inl u=>simp only[Option.bind_some];rw[h2];rfl
 | inr v=>simp only[Option.bind_some];rw[h2.2,decide_eq_true h2.1]
def defB (n:Int) (d:GDef):Bool:=shapeB d.Body && !(d.Body.any (tooFar n))
def defsB (defs:List GDef):Bool:=decide (defs.length<=24)&&defs.all (defB defs.length)
structure DW (defs:List GDef):Prop where
 n:defs.length<=1000
 nm:∀ d ∈ defs,d.Name ∈ names5
 l:∀ d ∈ defs,d.Body.length<=1000
theorem names5_impl:∀ s ∈ names5,g_impl_NameOk s=some true:=by
 intro s hs
 unfold names5 at hs
 simp only[List.mem_cons,List.not_mem_nil,or_false]at hs
 rcases hs with rfl|rfl|rfl|rfl|rfl<;>decide +kernel
theorem defsOk_impl {defs:List GDef} (h:DW defs):g_impl_DefsOk defs=some (defsB defs):=by
 have hn:=h.n
 unfold g_impl_DefsOk defsB
 by_cases hl:defs.length<=24
 ·rw[decide_eq_true (by omega),decide_eq_true hl,cond_true,Bool.true_and]
  unfold g_slices_ContainsFunc_Def_impl_DefsOkc1 g_slices_IndexFunc_Def_impl_DefsOkc1
  obtain ⟨o,h1,h2⟩:=idxLoop (L:=defs) (λ d => !(defB defs.length d)) (g_slices_IndexFunc_Def_impl_DefsOkc1_l0 defs (defs.length:Int) defs) (λ k i d hx hi=>by
   have hd:=List.mem_of_getElem? hx
   rw[g_slices_IndexFunc_Def_impl_DefsOkc1_l0,decide_eq_true (by omega),cond_true,getI_nat,hx,Option.bind_some]
   unfold g_impl_DefsOkc1
   have:=h.l d hd
   rw[names5_impl _ (h.nm d hd),implShape (by omega),below_eq (by omega),nxt (by omega)]
   simp only[Option.bind_some,Bool.not_true,cond_false]
   unfold defB
   cases shapeB d.Body
   ·rfl
   ·simp) (λ k i hi=>by rw[g_slices_IndexFunc_Def_impl_DefsOkc1_l0,decide_eq_false (by omega),cond_false]) (by omega)
  rw[h1]
  have e:defs.all (defB defs.length) = !(defs.any λ d => !(defB defs.length d)):=by rw[List.not_any_eq_all_not];simp
  rw[e]
  cases o with
  | inl u=>simp only[Option.bind_some];rw[h2];rfl
  | inr v=>simp only[Option.bind_some];rw[h2.2,decide_eq_true h2.1]
 ·rw[decide_eq_false (by omega),decide_eq_false hl,cond_false,Bool.false_and]
theorem defsOk_spec {defs:List GDef} (h:DW defs):g_spec_DefsOk defs=some (defsB defs):=by
 have hn:=h.n
 unfold g_spec_DefsOk defsB
 by_cases hl:defs.length<=24
 ·rw[decide_eq_false (by omega),decide_eq_true hl,cond_false,Bool.true_and]
  have h0:=allLoop (L:=defs) (bad:=false) (λ _ d=>defB defs.length d) (g_spec_DefsOk_l0 defs) (λ k n d hx hi=>by
   have hd:=List.mem_of_getElem? hx
   have hb:=h.l d hd
   have h1:=allLoop (L:=d.Body) (bad:=false) (λ _ o => !(tooFar defs.length o)) (g_spec_DefsOk_l1 defs (n:Int)) (λ k m o ho hm=>by
    rw[g_spec_DefsOk_l1,getI_nat,hx]
    simp only[Option.bind_some]
    rw[decide_eq_true (by omega),cond_true,getI_nat,ho]
    simp only[Option.bind_some]
    rw[nxt (by omega)]
    unfold tooFar
    cases o.Kind==2
    ·rfl
    ·simp only[cond_true,Option.bind_some,Bool.true_and]
     cases decide (IntKind.wrap .i64 o.N ≥ (defs.length:Int))<;>rfl) (λ k m hm=>by
    rw[g_spec_DefsOk_l1,getI_nat,hx]
    simp only[Option.bind_some]
    rw[decide_eq_false (by omega),cond_false]) (by omega)
   rw[g_spec_DefsOk_l0,decide_eq_true (by omega),cond_true,getI_nat,hx]
   simp only[Option.bind_some]
   rw[names5_ok _ (h.nm d hd),specShape (by omega),h1,allN_const,nxt (by omega)]
   simp only[Option.bind_some,Bool.not_true,cond_false]
   unfold defB
   have e:(d.Body.all λ o => !(tooFar defs.length o)) = !(d.Body.any (tooFar defs.length)):=by rw[List.not_any_eq_all_not]
   rw[e]
   cases shapeB d.Body
   ·rfl
   ·cases (d.Body.any (tooFar defs.length))<;>rfl) (λ k n hi=>by rw[g_spec_DefsOk_l0,decide_eq_false (by omega),cond_false]) (by omega)
  rw[h0,allN_const]
  cases defs.all (defB defs.length)<;>rfl
 ·rw[decide_eq_true (by omega),decide_eq_false hl,cond_true,Bool.false_and]
theorem okB_call {o:GOp} (h:okB o=true) (hk:o.Kind=2):0<=IntKind.wrap .i64 o.N:=by
 have:=okB_eq o
 rw[h]at this
 unfold g_spec_l09Op at this
 rw[hk]at this
 simp only[show ((2:Int)==0)=false from rfl,show ((2:Int)==1)=false from rfl,show ((2:Int)==2)=true from rfl,cond_false,cond_true]at this
 rw[specIn_eq]at this
 simp only[Option.bind_some,Option.some.injEq,decide_eq_true_eq]at this
 exact this.1
theorem DG.of {defs:List GDef} (h:defsB defs=true):DG defs:=by
 unfold defsB at h
 rw[Bool.and_eq_true,decide_eq_true_eq,List.all_eq_true]at h
 refine ⟨h.1,λ d hd => ?_,λ d hd o ho hk => ?_⟩
 ·have:=h.2 d hd
  unfold defB at this
  rw[Bool.and_eq_true]at this
  exact this.1
 ·have:=h.2 d hd
  unfold defB at this
  rw[Bool.and_eq_true,Bool.not_eq_true',List.any_eq_false]at this
  have h2:=this.2 o ho
  have h1:=this.1
  unfold shapeB at h1
  simp only[Bool.and_eq_true,List.all_eq_true]at h1
  have h3:=okB_call (h1.1.2 o ho) hk
  unfold tooFar at h2
  rw[hk]at h2
  simp only[beq_self_eq_true,Bool.true_and,decide_eq_true_eq]at h2
  omega
theorem reach_both {defs:List GDef} (h:DW defs) (k:Int):∃ r,g_impl_Reach defs k=some r/\g_spec_Reach_hand defs k=some r/\((DG defs/\(0<=k/\k < defs.length)/\IsR defs k r)\/(r=[]/\¬ (defsB defs=true/\0<=k/\k < defs.length))):=by
 have hn:=h.n
 unfold g_impl_Reach g_spec_Reach_hand
 rw[defsOk_impl h,defsOk_spec h,within_eq,specIn_eq,wI64 (by omega) (by omega)]
 simp only[Option.bind_some]
 by_cases hb:defsB defs=true
 ·rw[hb,Bool.not_true,cond_false]
  simp only[Option.bind_some]
  by_cases hk:0<=k/\k < defs.length
  ·rw[decide_eq_true (by omega),Bool.not_true,cond_false,cond_false]
   have hd:=DG.of hb
   obtain ⟨r,e1,h1⟩:=impl_reach_set hd hk.1 hk.2
   obtain ⟨s,e2,h2⟩:=spec_reach_set hd hk.1 hk.2
   obtain rfl:=h1.uniq h2
   exact ⟨r,e1,e2, .inl ⟨hd,hk,h1⟩⟩
  ·rw[decide_eq_false (by omega),Bool.not_false,cond_true,cond_true]
   exact ⟨[],rfl,rfl, .inr ⟨rfl,λ h=>hk h.2⟩⟩
 ·rw[Bool.not_eq_true]at hb
  rw[hb,Bool.not_false,cond_true]
  simp only[Option.bind_some,cond_true]
  exact ⟨[],rfl,rfl, .inr ⟨rfl,λ h=>by cases h.1⟩⟩
def ixI (v:Int):List Int->Int->Int
 | [],_ => -1
 | x::r,n=>if v=x then n else ixI v r (n+1)
theorem ixI_get {v:Int}:∀ {l:List Int} {n:Int} {j:Nat},l.Nodup->l[j]? = some v->ixI v l n=n+j
 | [],n,j,hn,h=>by simp at h
 | x::r,n,0,hn,h=>by
  simp at h
  subst h
  simp[ixI]
 | x::r,n,j+1,hn,h=>by
  rw[List.nodup_cons]at hn
  rw[List.getElem?_cons_succ]at h
  have hne:v≠x:=λ e=>hn.1 (e▸List.mem_of_getElem? h)
  rw[ixI,if_neg hne,ixI_get hn.2 h]
  omega
theorem index_eq {l:List Int} {v:Int} (hl:l.length<=1000):g_slices_Index_int l v=some (ixI v l 0):=by
 unfold g_slices_Index_int
 have key:∀ (k n:Nat),n<=l.length->l.length-n < k->∃ o:Unit ⊕ Int,g_slices_Index_int_l0 l v (l.length:Int) k n=some o/\(match o with | .inl _=>ixI v (l.drop n) n = -1 | .inr i=>ixI v (l.drop n) n=i):=by
  intro k
  induction k with
  | zero=>intro n h0 h1;omega
  | succ k ih =>
   intro n h0 h1
   rw[g_slices_Index_int_l0]
   by_cases hn:n < l.length
   ·rw[decide_eq_true (by omega),cond_true,getI_nat,List.getElem?_eq_getElem hn,List.drop_eq_getElem_cons hn]
    simp only[Option.bind_some]
    by_cases hk:v=l[n]
    ·rw[show (v==l[n])=true by simp[hk],cond_true]
     exact ⟨_,rfl,by show ixI v (l[n]::_) n=n;rw[ixI,if_pos hk]⟩
    ·rw[show (v==l[n])=false by simp[hk],cond_false,nxt (by omega)]
     obtain ⟨o,g1,g2⟩:=ih (n+1) (by omega) (by omega)
     refine ⟨o,g1,?_⟩
     have e:ixI v (l[n]::l.drop (n+1)) n=ixI v (l.drop (n+1)) ((n+1:Nat):Int):=by rw[ixI,if_neg hk];rfl
     cases o with
     | inl u=>show ixI v (l[n]::l.drop (n+1)) n = -1;rw[e];exact g2
     | inr i=>show ixI v (l[n]::l.drop (n+1)) n=i;rw[e];exact g2
   ·rw[decide_eq_false (by omega),cond_false,List.drop_eq_nil_of_le (by omega)]
    exact ⟨_,rfl,rfl⟩
 obtain ⟨o,h,g⟩:=key bigK 0 (Nat.zero_le _) (by unfold bigK;omega)
 rw[Int.natCast_zero,]at h
 rw[List.drop_zero]at g
 rw[h]
 cases o with
 | inl u=>simp only[Option.bind_some];rw[show ixI v l 0 = -1 from g]
 | inr i=>simp only[Option.bind_some];rw[show ixI v l 0=i from g]
def reOp (r:List Int) (o:GOp):GOp:=if o.Kind=2 then ⟨o.Kind,IntKind.wrap .i32 (ixI (IntKind.wrap .i64 o.N) r 0)⟩ else o
theorem reOp_kind (r:List Int) (o:GOp):(reOp r o).Kind=o.Kind:=by unfold reOp;split<;>rfl
theorem shake_l1 {r:List Int} (hr:r.length<=1000) {body:List GOp} (hb:body.length<=1000):∀ (k i:Nat) (b v:List GOp),i<=body.length->body.length-i < k->b=(body.take i).map (reOp r)++body.drop i →
  g_impl_Shake_l1 r (body.length:Int) k b v (i:Int)=some (body.map (reOp r)):=by
 intro k
 induction k with
 | zero=>intro i b v h0 h1;omega
 | succ k ih =>
  intro i b v h0 h1 h2
  rw[g_impl_Shake_l1]
  by_cases hn:i < body.length
  case neg =>
   rw[decide_eq_false (by omega),cond_false,h2,List.drop_eq_nil_of_le (by omega),List.take_of_length_le (by omega),List.append_nil]
  have hl:((body.take i).map (reOp r)).length=i:=by rw[List.length_map,List.length_take];omega
  have hg:b[i]? = some body[i]:=by
   rw[h2,List.getElem?_append_right (by omega),hl,Nat.sub_self,List.getElem?_drop,Nat.add_zero,List.getElem?_eq_getElem hn]
  have hnext:∀ o,reOp r body[i]=o->b.set i o=(body.take (i+1)).map (reOp r)++body.drop (i+1):=by
   intro o ho
   rw[h2,List.set_append_right _ _ (by omega),hl,Nat.sub_self,List.drop_eq_getElem_cons hn,List.set_cons_zero,List.take_succ_eq_append_getElem hn,List.map_append,List.append_assoc,<-ho]
   rfl
  rw[decide_eq_true (by omega),cond_true,getI_nat,hg,nxt (by omega)]
  simp only[Option.bind_some]
  by_cases hk:body[i].Kind=2
  ·rw[show (body[i].Kind==2)=true by simp[hk],cond_true,index_eq hr]
   simp only[Option.bind_some,Int.toNat_natCast]
   exact ih (i+1) _ _ (by omega) (by omega) (hnext _ (by unfold reOp;rw[if_pos hk]))
  ·rw[show (body[i].Kind==2)=false by simp[hk],cond_false]
   simp only[Option.bind_some]
   refine ih (i+1) _ _ (by omega) (by omega) ?_
   rw[<-hnext body[i] (by unfold reOp;rw[if_neg hk])]
   obtain ⟨hib,hbe⟩:=List.getElem?_eq_some_iff.1 hg
   rw[<-hbe,List.set_getElem_self]
def shD (defs:List GDef) (r:List Int) (x:Int):GDef:=⟨(match defs[x.toNat]? with|some d=>d.Name|none=>[]),(bodyAt defs x).map (reOp r)⟩
theorem shake_l0 {defs:List GDef} (hw:DW defs) {r:List Int} (hr:r.length<=1000) (hv:∀ x ∈ r,0<=x/\x < defs.length):∀ (k i:Nat) (out:List GDef),i<=r.length->r.length-i < k->out.length<=i →
  g_impl_Shake_l0 defs r (r.length:Int) k out (i:Int)=some (out++(r.drop i).map (shD defs r)):=by
 intro k
 induction k with
 | zero=>intro i out h0 h1;omega
 | succ k ih =>
  intro i out h0 h1 h2
  rw[g_impl_Shake_l0]
  by_cases hn:i < r.length
  ·have hx:=hv r[i] (List.getElem_mem hn)
   obtain ⟨d,e1,e2,e3⟩:=getI_ex hx.1 hx.2
   have hb:=hw.l d e2
   rw[decide_eq_true (by omega),cond_true,getI_nat,List.getElem?_eq_getElem hn,List.drop_eq_getElem_cons hn,List.map_cons]
   simp only[Option.bind_some]
   rw[e1]
   simp only[Option.bind_some]
   have hcl:g_slices_Clone_Op d.Body=some d.Body:=by unfold g_slices_Clone_Op;rw[app_eq (by simp;omega)];rfl
   rw[hcl]
   simp only[Option.bind_some]
   have l1:=shake_l1 hr hb bigK 0 d.Body d.Body (Nat.zero_le _) (by unfold bigK;omega) (by simp)
   rw[show ((0:Nat):Int)=0 from rfl]at l1
   rw[l1]
   simp only[Option.bind_some]
   rw[app_eq (by simp;omega)]
   simp only[Option.bind_some]
   rw[nxt (by omega),ih (i+1) _ (by omega) (by omega) (by simp;omega)]
   have es:(⟨d.Name,d.Body.map (reOp r)⟩:GDef)=shD defs r r[i]:=by unfold shD bodyAt;rw[e3]
   rw[es,List.append_assoc]
   rfl
  ·rw[decide_eq_false (by omega),cond_false,List.drop_eq_nil_of_le (by omega)];simp
theorem stepF_kind {v:List Int} {o p:GOp} (h:o.Kind=p.Kind):stepF v o=stepF v p:=by unfold stepF;rw[h]
theorem openF_re (r:List Int):∀ (l:List GOp) (v:List Int),openF (l.map (reOp r)) v=openF l v
 | [],v=>rfl
 | o::l,v=>by
  show (stepF v (reOp r o)).bind (openF (l.map (reOp r)))=(stepF v o).bind (openF l)
  rw[stepF_kind (reOp_kind r o)]
  cases stepF v o with
  | none=>rfl
  | some w=>exact openF_re r l w
theorem falls_re (r:List Int) {body:List GOp} (h1:shapeB body=true) (h2:shapeB (body.map (reOp r))=true):fallsB (body.map (reOp r))=fallsB body:=by
 unfold fallsB
 rw[h1,h2,List.length_map,List.getLast?_map]
 congr 2
 rw[decide_eq_decide]
 constructor
 ·rintro ⟨o,ho,hk⟩
  cases hb:body.getLast? with
  | none=>rw[hb]at ho;cases ho
  | some p =>
   rw[hb]at ho
   cases ho
   exact ⟨p,rfl,by rw[reOp_kind]at hk;exact hk⟩
 ·rintro ⟨o,ho,hk⟩
  rw[ho]
  exact ⟨_,rfl,by rw[reOp_kind];exact hk⟩
section
variable {defs:List GDef} {k:Int} {r:List Int}
theorem IsR.ix (h:IsR defs k r) {x:Int} (hx:x ∈ r):∃ j:Nat,j < r.length/\r[j]? = some x/\ixI x r 0=j:=by
 obtain ⟨j,hj,e⟩:=List.getElem_of_mem hx
 have hg:r[j]? = some x:=by rw[List.getElem?_eq_getElem hj,e]
 exact ⟨j,hj,hg,by rw[ixI_get (asc_nodup h.asc) hg];omega⟩
theorem IsR.next (h:IsR defs k r) {x y:Int} (hx:x ∈ r) (hy:y ∈ nx defs x):y ∈ r:=(h.m y).2 (.step ((h.m x).1 hx) hy)
theorem sh_at (h:IsR defs k r) {x:Int} (hx:x ∈ r):bodyAt (r.map (shD defs r)) (ixI x r 0)=(bodyAt defs x).map (reOp r):=by
 obtain ⟨j,hj,hg,e⟩:=h.ix hx
 rw[e]
 unfold bodyAt
 rw[Int.toNat_natCast,List.getElem?_map,hg]
 rfl
theorem sh_ok (hd:DG defs) (h:IsR defs k r) {x:Int} (hx:x ∈ r):shapeB ((bodyAt defs x).map (reOp r))=true/\∀ o ∈ (bodyAt defs x).map (reOp r),o.Kind=2->∃ y,y ∈ r/\(∃ p ∈ bodyAt defs x,p.Kind=2/\y=IntKind.wrap .i64 p.N)/\IntKind.wrap .i64 o.N=ixI y r 0:=by
 have hv:=h.v x hx
 obtain ⟨d,e1,e2,e3⟩:=hd.at hv.1 hv.2
 have hs:=hd.s d e2
 have hl:=h.len
 have hn:=hd.n
 have key:∀ o ∈ d.Body,o.Kind=2->∃ j:Nat,j < r.length/\IntKind.wrap .i64 o.N ∈ r/\ixI (IntKind.wrap .i64 o.N) r 0=j:=by
  intro o ho hk
  have hy:IntKind.wrap .i64 o.N ∈ nx defs x:=by
   unfold nx
   rw[e3]
   exact List.mem_append_left _ (((callsL_ok (shape_len hs)).m _).2 ⟨o,ho,hk,rfl⟩)
  have hm:=h.next hx hy
  obtain ⟨j,hj,_,e⟩:=h.ix hm
  exact ⟨j,hj,hm,e⟩
 rw[e3]
 refine ⟨?_,λ o ho hk => ?_⟩
 ·unfold shapeB at hs ⊢
  simp only[Bool.and_eq_true,decide_eq_true_eq,List.all_eq_true]at hs ⊢
  refine ⟨⟨by rw[List.length_map];exact hs.1.1,λ o ho => ?_⟩,by rw[openF_re];exact hs.2⟩
  obtain ⟨p,hp,rfl⟩:=List.mem_map.1 ho
  unfold reOp
  split
  ·rename_i hk
   obtain ⟨j,hj,_,e⟩:=key p hp hk
   rw[e,hk,wI32 (by omega) (by omega)]
   exact (GO.call (n:=24) (m:=(j:Int)) ⟨by omega,by omega⟩ (by omega)).1
  ·exact hs.1.2 p hp
 ·obtain ⟨p,hp,rfl⟩:=List.mem_map.1 ho
  rw[reOp_kind]at hk
  obtain ⟨j,hj,hm,e⟩:=key p hp hk
  refine ⟨_,hm,⟨p,hp,hk,rfl⟩,?_⟩
  unfold reOp
  rw[if_pos hk]
  show IntKind.wrap .i64 (IntKind.wrap .i32 _)=_
  rw[e,wI32 (by omega) (by omega),wI64 (by omega) (by omega)]
theorem sh_DW (hw:DW defs) (h:IsR defs k r):DW (r.map (shD defs r)):=by
 have hl:=h.len
 have hn:=hw.n
 refine ⟨by rw[List.length_map];omega,λ d hd => ?_,λ d hd => ?_⟩
 ·obtain ⟨x,hx,rfl⟩:=List.mem_map.1 hd
  have hv:=h.v x hx
  obtain ⟨d,e1,e2,e3⟩:=getI_ex hv.1 hv.2
  unfold shD
  rw[e3]
  exact hw.nm d e2
 ·obtain ⟨x,hx,rfl⟩:=List.mem_map.1 hd
  have hv:=h.v x hx
  obtain ⟨d,e1,e2,e3⟩:=getI_ex hv.1 hv.2
  unfold shD bodyAt
  rw[e3]
  show (d.Body.map _).length<=_
  rw[List.length_map]
  exact hw.l d e2
theorem sh_defsB (hd:DG defs) (h:IsR defs k r):defsB (r.map (shD defs r))=true:=by
 have hl:=h.len
 have hn:=hd.n
 unfold defsB
 rw[Bool.and_eq_true,decide_eq_true_eq,List.all_eq_true,List.length_map]
 refine ⟨by omega,λ d hd2 => ?_⟩
 obtain ⟨x,hx,rfl⟩:=List.mem_map.1 hd2
 obtain ⟨h1,h2⟩:=sh_ok hd h hx
 unfold defB
 show (shapeB ((bodyAt defs x).map (reOp r)) && !(((bodyAt defs x).map (reOp r)).any (tooFar r.length)))=true
 rw[h1,Bool.true_and,Bool.not_eq_true',List.any_eq_false]
 intro o ho
 unfold tooFar
 by_cases hk:o.Kind=2
 ·obtain ⟨y,hy,_,e⟩:=h2 o ho hk
  obtain ⟨j,hj,_,e2⟩:=h.ix hy
  rw[e,e2,decide_eq_false (by omega)]
  simp
 ·rw[show (o.Kind==2)=false by simp[hk]];simp
theorem sh_next (hd:DG defs) (h:IsR defs k r) {x y:Int} (hx:x ∈ r) (hy:y ∈ nx defs x):ixI y r 0 ∈ nx (r.map (shD defs r)) (ixI x r 0):=by
 have hyr:=h.next hx hy
 obtain ⟨h1,h2⟩:=sh_ok hd h hx
 have hv:=h.v x hx
 obtain ⟨d,e1,e2,e3⟩:=hd.at hv.1 hv.2
 have hl:=h.len
 have hn:=hd.n
 have hc:=callsL_ok (shape_len h1)
 unfold nx at hy ⊢
 rw[sh_at h hx]
 rcases List.mem_append.1 hy with hy|hy
 ·refine List.mem_append_left _ ((hc.m _).2 ?_)
  rw[e3]at hy
  obtain ⟨o,ho,hk,rfl⟩:=((callsL_ok (shape_len (hd.s d e2))).m y).1 hy
  rw[e3]at h2 ⊢
  have hm:reOp r o ∈ d.Body.map (reOp r):=List.mem_map_of_mem ho
  refine ⟨reOp r o,hm,by rw[reOp_kind];exact hk,?_⟩
  obtain ⟨j,hj,_,e⟩:=h.ix hyr
  unfold reOp
  rw[if_pos hk]
  show _=IntKind.wrap .i64 (IntKind.wrap .i32 _)
  rw[e,wI32 (by omega) (by omega),wI64 (by omega) (by omega)]
 ·split at hy
  ·rename_i hf
   rw[List.mem_singleton]at hy
   subst hy
   obtain ⟨j,hj,hgj,ej⟩:=h.ix hx
   obtain ⟨i,hi,hgi,ei⟩:=h.ix hyr
   have hij:i=j+1:=by
    have hp:=List.pairwise_iff_getElem.1 h.asc
    have gj:r[j]=x:=by rw[List.getElem?_eq_getElem hj]at hgj;exact Option.some.inj hgj
    have gi:r[i]=x+1:=by rw[List.getElem?_eq_getElem hi]at hgi;exact Option.some.inj hgi
    rcases Nat.lt_trichotomy i j with hlt|heq|hgt
    ·have:=hp i j hi hj hlt;omega
    ·subst heq;omega
    ·by_cases h3:i=j+1
     ·exact h3
     ·have hm:j+1 < r.length:=by omega
      have a1:=hp j (j+1) hj hm (by omega)
      have a2:=hp (j+1) i hm hi (by omega)
      omega
   refine List.mem_append_right _ ?_
   rw[e3]at hf h1 ⊢
   rw[falls_re r (hd.s d e2) h1,List.length_map,ej,ei,if_pos ⟨hf.1,by omega⟩,List.mem_singleton]
   omega
  ·cases hy
theorem sh_rch (hd:DG defs) (h:IsR defs k r) {x:Int} (hx:Rch (nx defs) k x):Rch (nx (r.map (shD defs r))) (ixI k r 0) (ixI x r 0):=by
 induction hx with
 | refl=>exact .refl
 | step h1 hy ih=>exact .step ih (sh_next hd h ((h.m _).2 h1) hy)
end
theorem Rch.trans {nx:Int->List Int} {a b c:Int} (h:Rch nx a b) (g:Rch nx b c):Rch nx a c:=by
 induction g with
 | refl=>exact h
 | step _ hy ih=>exact .step ih hy
theorem same_l {a:List Int} (h:a.length<=1048576):g_laws_sameInts a a=some true :=
 eqRefl (g_laws_sameInts_l0 a a) _ rfl (λ k n x hx hn=>by
  rw[g_laws_sameInts_l0,decide_eq_true (by omega),cond_true,getI_nat,hx]
  simp only[Option.bind_some,bne_self',cond_false]
  rw[nxt (by omega)]) (λ k n hn=>by rw[g_laws_sameInts_l0,decide_eq_false (by omega),cond_false]) (by omega)
theorem l2_law {all list:List Int} {v:Int} {j:Nat} (hj:list[j]? = some v) (hl:all.length<=1000):∀ (k n:Nat) (t:Bool),n<=all.length->all.length-n < k->(t=true\/v ∈ all.drop n)->g_laws_FnReach_l2 all list (j:Int) k t (n:Int)=some true:=by
 intro k
 induction k with
 | zero=>intro n t h0 h1;omega
 | succ k ih =>
  intro n t h0 h1 h2
  rw[g_laws_FnReach_l2]
  by_cases hn:n < all.length
  ·rw[decide_eq_true (by omega),cond_true,nxt (by omega)]
   cases t with
   | true=>rw[cond_true];exact ih (n+1) true (by omega) (by omega) (.inl rfl)
   | false =>
    rw[cond_false,getI_nat,List.getElem?_eq_getElem hn,getI_nat,hj]
    simp only[Option.bind_some]
    refine ih (n+1) _ (by omega) (by omega) ?_
    have h3:=h2.resolve_left (by simp)
    rw[List.drop_eq_getElem_cons hn]at h3
    rcases List.mem_cons.1 h3 with h3|h3
    ·exact .inl (by simp[h3])
    ·exact .inr h3
  ·rw[decide_eq_false (by omega),cond_false]
   rw[List.drop_eq_nil_of_le (by omega)]at h2
   rw[h2.resolve_right (by simp)]
theorem l1_law {all list:List Int} (hm:∀ y ∈ list,y ∈ all) (hl:all.length<=1000) (hl2:list.length<=1000):∀ (k j:Nat),j<=list.length->list.length-j < k->g_laws_FnReach_l1 all list k (j:Int)=some (.inl ()):=by
 intro k
 induction k with
 | zero=>intro j h0 h1;omega
 | succ k ih =>
  intro j h0 h1
  rw[g_laws_FnReach_l1]
  by_cases hn:j < list.length
  ·have:=l2_law (all:=all) (list:=list) (v:=list[j]) (j:=j) (List.getElem?_eq_getElem hn) hl bigK 0 false (Nat.zero_le _) (by unfold bigK;omega) (.inr (by rw[List.drop_zero];exact hm _ (List.getElem_mem hn)))
   rw[show ((0:Nat):Int)=0 from rfl]at this
   rw[decide_eq_true (by omega),cond_true,this,nxt (by omega)]
   simp only[Option.bind_some,Bool.not_true,cond_false]
   exact ih (j+1) (by omega) (by omega)
  ·rw[decide_eq_false (by omega),cond_false]
theorem l0_law {defs:List GDef} (hw:DW defs) (hd:DG defs) {kk:Int} {all:List Int} (h:IsR defs kk all):∀ (k i:Nat),i<=all.length->all.length-i < k->g_laws_FnReach_l0 defs all k (i:Int)=some (.inl ()):=by
 intro k
 induction k with
 | zero=>intro i h0 h1;omega
 | succ k ih =>
  intro i h0 h1
  have hl:=h.len
  have hn24:=hd.n
  rw[g_laws_FnReach_l0]
  by_cases hn:i < all.length
  ·have hx:=List.getElem_mem hn
   have hv:=h.v _ hx
   obtain ⟨d,e1,e2,e3⟩:=hd.at hv.1 hv.2
   have hs:=shape_len (hd.s d e2)
   have hc:=callsL_ok hs
   obtain ⟨r,r1,r2,r3⟩:=reach_both hw all[i]
   have hr:r.length<=all.length:=by
    rcases r3 with ⟨_,_,r4⟩|⟨rfl,_⟩
    ·exact sub_len (asc_nodup r4.asc) λ y hy=>(h.m y).2 (((h.m _).1 hx).trans ((r4.m y).1 hy))
    ·exact Nat.zero_le _
   have hca:g_impl_CallsOf d.Body=some (callsL d.Body):=by
    unfold g_impl_CallsOf
    rw[implShape (by omega),hd.s d e2,Option.bind_some,Bool.not_true,cond_false,hc.i];rfl
   have hcl:=hc.l
   have hl1:=l1_law (all:=all) (list:=callsL d.Body) (λ y hy=>h.next hx (by unfold nx;rw[e3];exact List.mem_append_left _ hy)) (by omega) (by omega) bigK 0 (Nat.zero_le _) (by unfold bigK;omega)
   rw[show ((0:Nat):Int)=0 from rfl]at hl1
   have ho:(cond (decide ((i:Int) > 0)) ((getI all (i:Int)).bind λ v_18=>(getI all (IntKind.wrap .i64 ((i:Int)-1))).bind λ v_19=>some (decide (v_18<=v_19))) (some false):Option Bool)=some false:=by
    by_cases hi:i=0
    ·subst hi;rfl
    ·rw[decide_eq_true (by omega),cond_true,wI64 (by omega) (by omega),show (i:Int)-1=((i-1:Nat):Int) by omega,getI_nat,getI_nat,List.getElem?_eq_getElem hn,List.getElem?_eq_getElem (by omega)]
     simp only[Option.bind_some]
     have:=List.pairwise_iff_getElem.1 h.asc (i-1) i (by omega) hn (by omega)
     rw[decide_eq_false (by omega)]
   have hg:getI all (i:Int)=some all[i]:=by rw[getI_nat,List.getElem?_eq_getElem hn]
   rw[decide_eq_true (by omega),cond_true,ho,hg]
   simp only[Option.bind_some]
   rw[r1]
   simp only[Option.bind_some]
   rw[decide_eq_false (by omega),cond_false]
   simp only[Option.bind_some,cond_false]
   rw[e1]
   simp only[Option.bind_some]
   rw[hca]
   simp only[Option.bind_some]
   rw[hl1]
   simp only[Option.bind_some]
   rw[nxt (by omega)]
   exact ih (i+1) (by omega) (by omega)
  ·rw[decide_eq_false (by omega),cond_false]
theorem shake_len {defs:List GDef} (hw:DW defs) (k:Int):∃ q,g_impl_Shake defs k=some q/\∃ s,g_impl_Reach q.1 q.2=some s/\s.length=q.1.length:=by
 obtain ⟨r,e1,_,h⟩:=reach_both hw k
 unfold g_impl_Shake
 rw[e1]
 simp only[Option.bind_some]
 rcases h with ⟨hd,hk,h⟩|⟨rfl,_⟩
 ·have hkr:k ∈ r:=(h.m k).2 .refl
  have hpos:0 < r.length:=List.length_pos_of_mem hkr
  have hl:=h.len
  have hn:=hd.n
  rw[show ((r.length:Int)==0)=false by rw[beq_eq_false_iff_ne];omega,cond_false]
  have l0:=shake_l0 hw (r:=r) (by omega) h.v bigK 0 [] (Nat.zero_le _) (by unfold bigK;omega) (Nat.le_refl _)
  rw[show ((0:Nat):Int)=0 from rfl,List.drop_zero,List.nil_append]at l0
  rw[l0]
  simp only[Option.bind_some]
  rw[index_eq (by omega)]
  simp only[Option.bind_some]
  refine ⟨_,rfl,?_⟩
  have hw2:=sh_DW hw h
  obtain ⟨s,s1,_,s3⟩:=reach_both hw2 (ixI k r 0)
  refine ⟨s,s1,?_⟩
  obtain ⟨j,hj,_,ej⟩:=h.ix hkr
  rcases s3 with ⟨_,_,s4⟩|⟨_,s4⟩
  ·have h1:=s4.len
   refine Nat.le_antisymm h1 ?_
   show (r.map (shD defs r)).length<=_
   rw[List.length_map]
   have:=sub_len (b:=s) (upto_nodup r.length) λ y hy=>by
    have hy:=upto_mem.1 hy
    obtain ⟨i,rfl⟩:∃ i:Nat,y=i:=⟨y.toNat,by omega⟩
    have hi:i < r.length:=by omega
    have hx:=List.getElem_mem hi
    have:=sh_rch hd h ((h.m _).1 hx)
    rw[ixI_get (asc_nodup h.asc) (List.getElem?_eq_getElem hi),Int.zero_add]at this
    exact (s4.m _).2 this
   rwa [upto_len]at this
  ·exfalso
   refine s4 ⟨sh_defsB hd h,?_,?_⟩
   ·rw[ej];omega
   ·rw[ej,List.length_map];omega
 ·rw[show ((([]:List Int).length:Int)==0)=true from rfl,cond_true]
  refine ⟨_,rfl,?_⟩
  obtain ⟨s,s1,_,s3⟩:=reach_both (defs:=[]) ⟨by simp,(λ d hd=>nomatch hd),(λ d hd=>nomatch hd)⟩ (-1)
  refine ⟨s,s1,?_⟩
  rcases s3 with ⟨_,s4,_⟩|⟨rfl,_⟩
  ·omega
  ·rfl
theorem any9_ok {c:GL01Cur} (h:Cok c):Tot (g_spec_l09Any_imm c) λ r=>r.1.length<=1000/\Cok r.2:=by
 have loop:∀ (k:Nat) (b:List GOp) (x:GL01Cur),Cok x->b.length<=1000->1001-b.length < k->Tot (g_spec_l09Any_imm_l0 k b x) λ r=>r.1.length<=1000/\Cok r.2:=by
  intro k
  induction k with
  | zero=>intro b x hx h0 h1;omega
  | succ k ih =>
   intro b x hx h0 h1
   unfold g_spec_l09Any_imm_l0
   refine .bind (below_ok hx (by decide)) λ a ha => ?_
   rw[wI64 (by omega) (by omega)]
   refine .condD (λ hlt => ?_) λ _=>.some ⟨h0,ha.2.2⟩
   refine .bindE (app_eq (by simp;omega)) (ih _ _ ha.2.2 (by simp;omega) (by simp;omega))
 unfold g_spec_l09Any_imm
 refine .bind (body_ok 3 bigK (by unfold bigK;omega) (by omega) h (by omega)) λ y hy => ?_
 have hyl:y.1.length<=677:=hy.1.2
 refine .bind (Q:=λ o=>match o with | .inl r=>r.1.length<=1000/\Cok r.2 | .inr r=>r.1.length<=1000/\Cok r.2) ?_ λ o ho => ?_
 ·refine .bind (below_ok hy.2 (by decide)) λ a ha=>.cond (λ _ => ?_) λ _=>.cond (λ _ => ?_) λ _=>.cond (λ _ => ?_) λ _ => ?_
  ·refine .bind (below_ok ha.2.2 (by decide)) λ b hb=>.bind (below_ok hb.2.2 (by decide)) λ d hd=>.bindE (app_eq (by simp;omega)) (.some ?_)
   exact ⟨by simp;omega,hd.2.2⟩
  ·refine .condD (λ hp => ?_) λ _=>.some ⟨by show y.1.length<=1000;omega,ha.2.2⟩
   refine .bind (below_ok ha.2.2 hp) λ b hb=>.bind (below_ok hb.2.2 (by decide)) λ d hd=>.bind (pickInt_ok hd.2.2 (by decide)) λ e he => ?_
   obtain ⟨x,hx,_⟩:=getI_ex hb.1 hb.2.1
   exact .bindE hx (.some ⟨by show (y.1.set _ _).length<=1000;rw[List.length_set];omega,he.2⟩)
  ·refine .bind (loop bigK y.1 a.2 ha.2.2 (by omega) (by unfold bigK;omega)) λ r hr=>.some hr
  ·exact .some ⟨by show y.1.length<=1000;omega,ha.2.2⟩
 ·cases o with
  | inl r=>exact .some ho
  | inr r=>exact .some ho
theorem draw_ok {code:List Int} (hc:code.length<=1048576):Tot (g_spec_DrawReach code) λ r=>DW r.1:=by
 unfold g_spec_DrawReach
 refine .bind (new_ok hc) λ c h=>.bind (make9_ok h) λ m hm => ?_
 have hl:=hm.1.1
 have hdw:DW m.1:=⟨by omega,λ d hd=>(hm.1.2 d hd).nm,λ d hd=>by have:=(hm.1.2 d hd).l;omega⟩
 refine .bind (Q:=λ r=>DW r.1/\Cok r.2) (.bind (once_ok hm.2 (by decide)) λ o ho=>.cond (λ _ => ?_) λ _=>.some ⟨hdw,ho⟩) λ r hr => ?_
 ·refine .bind (any9_ok ho) λ a ha => ?_
  obtain ⟨d,e1,e2,e3⟩:=getI_ex (xs:=m.1) (i:=0) (by decide) (by omega)
  refine .bindE e1 (.some ⟨⟨?_,λ x hx => ?_,λ x hx => ?_⟩,ha.2⟩)
  ·show (m.1.set 0 _).length<=1000;rw[List.length_set];omega
  ·rcases List.mem_or_eq_of_mem_set hx with hx|rfl
   ·exact hdw.nm x hx
   ·exact hdw.nm d e2
  ·rcases List.mem_or_eq_of_mem_set hx with hx|rfl
   ·exact hdw.l x hx
   ·exact ha.1
 ·obtain ⟨r1,r2⟩:=r
  obtain ⟨hr1,hr2⟩:=hr
  simp only at hr1 hr2
  have:=hr1.n
  show Tot ((g_spec_l01Below (IntKind.wrap .i64 ((r1.length:Int)+2)) r2).bind _) _
  rw[wI64 (by omega) (by omega)]
  exact .bind (below_ok hr2 (by omega)) λ b hb=>.some hr1
theorem law_reach (code:List Int):g_laws_FnReach code=some true:=by
 unfold g_laws_FnReach g_laws_big
 rw[Option.bind_some]
 by_cases hc:code.length<=1048576
 ·rw[decide_eq_false (by omega),cond_false]
  obtain ⟨q,hq,hw⟩:=draw_ok hc
  obtain ⟨r,e1,e2,h⟩:=reach_both hw q.2
  have hr:r.length<=1000:=by
   rcases h with ⟨hd,_,h⟩|⟨rfl,_⟩
   ·have:=h.len;have:=hd.n;omega
   ·simp
  have hl0:g_laws_FnReach_l0 q.1 r bigK 0=some (.inl ()):=by
   rcases h with ⟨hd,_,h⟩|⟨rfl,_⟩
   ·have:=l0_law hw hd h bigK 0 (Nat.zero_le _) (by have:=hd.n;have:=h.len;unfold bigK;omega)
    rwa [show ((0:Nat):Int)=0 from rfl]at this
   ·kernel_rfl
  obtain ⟨p,p1,s,p2,p3⟩:=shake_len hw q.2
  rw[hq]
  simp only[Option.bind_some]
  rw[e1,e2]
  simp only[Option.bind_some]
  rw[same_l (by omega)]
  simp only[Option.bind_some,Bool.not_true,cond_false]
  rw[hl0]
  simp only[Option.bind_some]
  rw[p1]
  simp only[Option.bind_some]
  rw[p2]
  simp only[Option.bind_some]
  rw[p3]
  simp
 ·rw[decide_eq_true (by omega),cond_true]
end Go.Proofs.YtcnbncafiinfjaaDoor

namespace Go.Proofs.YtcnbncafiinfjaaDoor
open Go Go.Fm
set_option maxRecDepth 100000
theorem ans_FnReach (x0:List Int) (g0:(λ xs:List Int=>xs.length<=maxLen/\∀ x ∈ xs,(λ n:Int=>(Lit.int .u8 n).wf=true) x) x0) :
  Ans Tryd.prog 6 [.one (.imm 1 x0.length (x0.flatMap (eI .u8)))] [] λ v _=>v=Go.Fm.one (.bool true):=λ hm=>by
 obtain ⟨r,h1,a,b,c,_⟩:=ce_laws_FnReach (x0) true (good_pure rfl rfl) (law_reach x0) hm
 exact ⟨r,h1,a,b⟩
end Go.Proofs.YtcnbncafiinfjaaDoor
