import Derived.Test.YtmedombacbpofaaGreatDoorCS
import Derived.Shelf.Strconv.Itoa3
set_option linter.all false
namespace Go.Proofs.YtmedombacbpofaaGreatDoor
open Go Go.Fm
set_option maxRecDepth 100000
abbrev Bs:=List UInt8
structure GTree where
 Kind:Int
 N:Int
 Kids:List GTree
 deriving Inhabited
structure GSlot where
 Kind:Int
 N:Int
 deriving DecidableEq,Inhabited
structure GSt where
 Data:List Int
 Ret:List GSlot
 A:Int
 Mem:List Int
 Cells:List Int
 Vars:List Int
 Out:List Int
 In:List Int
 Fault:Int
 Fuel:Int
 deriving DecidableEq,Inhabited
structure GMeaning where
 trees:List (List GTree)
 st:GSt
 deriving Inhabited
structure GEffect where
 Ok:Bool
 Need:Int
 Most:Int
 Gain:Int
 deriving DecidableEq,Inhabited
structure GL01Cur where
 b:List Int
 i:Int
 h:Int
 deriving DecidableEq,Inhabited
structure GOp where
 Kind:Int
 N:Int
 deriving DecidableEq,Inhabited
structure GDef where
 Name:Bs
 Body:List GOp
 deriving DecidableEq,Inhabited
structure GStore where
 Cells:List Int
 deriving DecidableEq,Inhabited
structure GItem where
 Kind:Int
 Name:Bs
 N:Int
 Hex:Bool
 Raw:Int
 deriving DecidableEq,Inhabited
mutual
def GTree.cs:GTree->List CV
 | ⟨x_Kind,x_N,x_Kids⟩=>[.int .i64 x_Kind, .int .i32 x_N, .imm 3 x_Kids.length (GTree.css x_Kids)]
def GTree.css:List GTree->List CV
 | []=>[]
 | x::r=>GTree.cs x++GTree.css r
end
theorem GTree.css_eq:∀ l:List GTree,GTree.css l=l.flatMap GTree.cs
 | []=>rfl
 | x::r=>by rw[GTree.css,GTree.css_eq r];rfl
theorem GTree.cs_eq (x:GTree):x.cs=[.int .i64 x.Kind, .int .i32 x.N, .imm 3 x.Kids.length (x.Kids.flatMap GTree.cs)]:=by
 cases x;rw[GTree.cs];simp only[GTree.css_eq]
def GSlot.cs (x:GSlot):List CV:=[.int .i64 x.Kind, .int .i32 x.N]
def GMeaning.cs (x:GMeaning):List CV:=[.imm 1 x.trees.length (x.trees.flatMap (eL GTree.cs 3)), .imm 1 x.st.Data.length (x.st.Data.flatMap (eI .i32)), .imm 2 x.st.Ret.length (x.st.Ret.flatMap GSlot.cs), .int .i32 x.st.A, .imm 1 x.st.Mem.length (x.st.Mem.flatMap (eI .i32)), .imm 1 x.st.Cells.length (x.st.Cells.flatMap (eI .u32)), .imm 1 x.st.Vars.length (x.st.Vars.flatMap (eI .i64)), .imm 1 x.st.Out.length (x.st.Out.flatMap (eI .u8)), .imm 1 x.st.In.length (x.st.In.flatMap (eI .u8)), .int .i64 x.st.Fault, .int .i64 x.st.Fuel]
def GSt.cs (x:GSt):List CV:=[.imm 1 x.Data.length (x.Data.flatMap (eI .i32)), .imm 2 x.Ret.length (x.Ret.flatMap GSlot.cs), .int .i32 x.A, .imm 1 x.Mem.length (x.Mem.flatMap (eI .i32)), .imm 1 x.Cells.length (x.Cells.flatMap (eI .u32)), .imm 1 x.Vars.length (x.Vars.flatMap (eI .i64)), .imm 1 x.Out.length (x.Out.flatMap (eI .u8)), .imm 1 x.In.length (x.In.flatMap (eI .u8)), .int .i64 x.Fault, .int .i64 x.Fuel]
def GEffect.cs (x:GEffect):List CV:=[.bool x.Ok, .int .i64 x.Need, .int .i64 x.Most, .int .i64 x.Gain]
def GL01Cur.cs (x:GL01Cur):List CV:=[.imm 1 x.b.length (x.b.flatMap (eI .u8)), .int .i64 x.i, .int .i64 x.h]
def GOp.cs (x:GOp):List CV:=[.int .i64 x.Kind, .int .i32 x.N]
def GDef.cs (x:GDef):List CV:=[.str x.Name, .imm 2 x.Body.length (x.Body.flatMap GOp.cs)]
def GStore.cs (x:GStore):List CV:=[.imm 1 x.Cells.length (x.Cells.flatMap (eI .u32))]
def GItem.cs (x:GItem):List CV:=[.int .i64 x.Kind, .str x.Name, .int .i32 x.N, .bool x.Hex, .int .u32 x.Raw]
instance:StTy:=⟨λ n=>match n with|0=>GTree|1=>GMeaning|2=>GSt|3=>GSlot|4=>GEffect|5=>GL01Cur|6=>GDef|7=>GOp|8=>GStore|9=>GItem|_=>Unit,λ n=>match n with|0=>3|1=>11|2=>10|3=>2|4=>4|5=>3|6=>2|7=>2|8=>1|9=>5|_=>0,lkA [(33,2),(39,6),(55,7),(64,3),(67,8),(72,1),(89,5),(134,0),(151,9),(192,4)]⟩
noncomputable instance:StCs:=⟨λ n=>match n with|0=>GTree.cs|1=>GMeaning.cs|2=>GSt.cs|3=>GSlot.cs|4=>GEffect.cs|5=>GL01Cur.cs|6=>GDef.cs|7=>GOp.cs|8=>GStore.cs|9=>GItem.cs|_=>λ _=>[]⟩
noncomputable def GTree.lv (x:GTree):List TC:=[.int .i64 x.Kind, .int .i32 x.N, .imm (.st 0) x.Kids]
noncomputable def GTree.of:List TC->Option GTree
 | [c0,c1,c2]=>(tInt .i64 c0).bind λ x0=>(tInt .i32 c1).bind λ x1=>(tImm (.st 0) c2).bind λ x2=>some ⟨x0,x1,x2⟩
 | _=>none
theorem GTree.made {l:List TC} {v:GTree} (h:GTree.of l=some v):CRs l v.lv:=by
 match l,h with
 | [c0,c1,c2],h =>
  obtain ⟨x0,e0,h⟩:=bS h
  obtain ⟨x1,e1,h⟩:=bS h
  obtain ⟨x2,e2,h⟩:=bS h
  cases h
  exact ⟨tInt_cr e0,tInt_cr e1,tImm_cr e2,trivial⟩
noncomputable def GMeaning.lv (x:GMeaning):List TC:=[.imm (.list (.st 0)) x.trees, .imm (.int .i32) x.st.Data, .imm (.st 3) x.st.Ret, .int .i32 x.st.A, .imm (.int .i32) x.st.Mem, .imm (.int .u32) x.st.Cells, .imm (.int .i64) x.st.Vars, .imm (.int .u8) x.st.Out, .imm (.int .u8) x.st.In, .int .i64 x.st.Fault, .int .i64 x.st.Fuel]
noncomputable def GMeaning.of:List TC->Option GMeaning
 | [c0,c1,c2,c3,c4,c5,c6,c7,c8,c9,c10]=>(tImm (.list (.st 0)) c0).bind λ x0=>(tImm (.int .i32) c1).bind λ x1=>(tImm (.st 3) c2).bind λ x2=>(tInt .i32 c3).bind λ x3=>(tImm (.int .i32) c4).bind λ x4=>(tImm (.int .u32) c5).bind λ x5=>(tImm (.int .i64) c6).bind λ x6=>(tImm (.int .u8) c7).bind λ x7=>(tImm (.int .u8) c8).bind λ x8=>(tInt .i64 c9).bind λ x9=>(tInt .i64 c10).bind λ x10=>some ⟨x0,⟨x1,x2,x3,x4,x5,x6,x7,x8,x9,x10⟩⟩
 | _=>none
theorem GMeaning.made {l:List TC} {v:GMeaning} (h:GMeaning.of l=some v):CRs l v.lv:=by
 match l,h with
 | [c0,c1,c2,c3,c4,c5,c6,c7,c8,c9,c10],h =>
  obtain ⟨x0,e0,h⟩:=bS h
  obtain ⟨x1,e1,h⟩:=bS h
  obtain ⟨x2,e2,h⟩:=bS h
  obtain ⟨x3,e3,h⟩:=bS h
  obtain ⟨x4,e4,h⟩:=bS h
  obtain ⟨x5,e5,h⟩:=bS h
  obtain ⟨x6,e6,h⟩:=bS h
  obtain ⟨x7,e7,h⟩:=bS h
  obtain ⟨x8,e8,h⟩:=bS h
  obtain ⟨x9,e9,h⟩:=bS h
  obtain ⟨x10,e10,h⟩:=bS h
  cases h
  exact ⟨tImm_cr e0,tImm_cr e1,tImm_cr e2,tInt_cr e3,tImm_cr e4,tImm_cr e5,tImm_cr e6,tImm_cr e7,tImm_cr e8,tInt_cr e9,tInt_cr e10,trivial⟩
noncomputable def GSt.lv (x:GSt):List TC:=[.imm (.int .i32) x.Data, .imm (.st 3) x.Ret, .int .i32 x.A, .imm (.int .i32) x.Mem, .imm (.int .u32) x.Cells, .imm (.int .i64) x.Vars, .imm (.int .u8) x.Out, .imm (.int .u8) x.In, .int .i64 x.Fault, .int .i64 x.Fuel]
noncomputable def GSt.of:List TC->Option GSt
 | [c0,c1,c2,c3,c4,c5,c6,c7,c8,c9]=>(tImm (.int .i32) c0).bind λ x0=>(tImm (.st 3) c1).bind λ x1=>(tInt .i32 c2).bind λ x2=>(tImm (.int .i32) c3).bind λ x3=>(tImm (.int .u32) c4).bind λ x4=>(tImm (.int .i64) c5).bind λ x5=>(tImm (.int .u8) c6).bind λ x6=>(tImm (.int .u8) c7).bind λ x7=>(tInt .i64 c8).bind λ x8=>(tInt .i64 c9).bind λ x9=>some ⟨x0,x1,x2,x3,x4,x5,x6,x7,x8,x9⟩
 | _=>none
theorem GSt.made {l:List TC} {v:GSt} (h:GSt.of l=some v):CRs l v.lv:=by
 match l,h with
 | [c0,c1,c2,c3,c4,c5,c6,c7,c8,c9],h =>
  obtain ⟨x0,e0,h⟩:=bS h
  obtain ⟨x1,e1,h⟩:=bS h
  obtain ⟨x2,e2,h⟩:=bS h
  obtain ⟨x3,e3,h⟩:=bS h
  obtain ⟨x4,e4,h⟩:=bS h
  obtain ⟨x5,e5,h⟩:=bS h
  obtain ⟨x6,e6,h⟩:=bS h
  obtain ⟨x7,e7,h⟩:=bS h
  obtain ⟨x8,e8,h⟩:=bS h
  obtain ⟨x9,e9,h⟩:=bS h
  cases h
  exact ⟨tImm_cr e0,tImm_cr e1,tInt_cr e2,tImm_cr e3,tImm_cr e4,tImm_cr e5,tImm_cr e6,tImm_cr e7,tInt_cr e8,tInt_cr e9,trivial⟩
noncomputable def GSlot.lv (x:GSlot):List TC:=[.int .i64 x.Kind, .int .i32 x.N]
noncomputable def GSlot.of:List TC->Option GSlot
 | [c0,c1]=>(tInt .i64 c0).bind λ x0=>(tInt .i32 c1).bind λ x1=>some ⟨x0,x1⟩
 | _=>none
theorem GSlot.made {l:List TC} {v:GSlot} (h:GSlot.of l=some v):CRs l v.lv:=by
 match l,h with
 | [c0,c1],h =>
  obtain ⟨x0,e0,h⟩:=bS h
  obtain ⟨x1,e1,h⟩:=bS h
  cases h
  exact ⟨tInt_cr e0,tInt_cr e1,trivial⟩
noncomputable def GEffect.lv (x:GEffect):List TC:=[.bool x.Ok, .int .i64 x.Need, .int .i64 x.Most, .int .i64 x.Gain]
noncomputable def GEffect.of:List TC->Option GEffect
 | [c0,c1,c2,c3]=>(tBool c0).bind λ x0=>(tInt .i64 c1).bind λ x1=>(tInt .i64 c2).bind λ x2=>(tInt .i64 c3).bind λ x3=>some ⟨x0,x1,x2,x3⟩
 | _=>none
theorem GEffect.made {l:List TC} {v:GEffect} (h:GEffect.of l=some v):CRs l v.lv:=by
 match l,h with
 | [c0,c1,c2,c3],h =>
  obtain ⟨x0,e0,h⟩:=bS h
  obtain ⟨x1,e1,h⟩:=bS h
  obtain ⟨x2,e2,h⟩:=bS h
  obtain ⟨x3,e3,h⟩:=bS h
  cases h
  exact ⟨tBool_cr e0,tInt_cr e1,tInt_cr e2,tInt_cr e3,trivial⟩
noncomputable def GL01Cur.lv (x:GL01Cur):List TC:=[.imm (.int .u8) x.b, .int .i64 x.i, .int .i64 x.h]
noncomputable def GL01Cur.of:List TC->Option GL01Cur
 | [c0,c1,c2]=>(tImm (.int .u8) c0).bind λ x0=>(tInt .i64 c1).bind λ x1=>(tInt .i64 c2).bind λ x2=>some ⟨x0,x1,x2⟩
 | _=>none
theorem GL01Cur.made {l:List TC} {v:GL01Cur} (h:GL01Cur.of l=some v):CRs l v.lv:=by
 match l,h with
 | [c0,c1,c2],h =>
  obtain ⟨x0,e0,h⟩:=bS h
  obtain ⟨x1,e1,h⟩:=bS h
  obtain ⟨x2,e2,h⟩:=bS h
  cases h
  exact ⟨tImm_cr e0,tInt_cr e1,tInt_cr e2,trivial⟩
noncomputable def GDef.lv (x:GDef):List TC:=[.str x.Name, .imm (.st 7) x.Body]
noncomputable def GDef.of:List TC->Option GDef
 | [c0,c1]=>(tStr c0).bind λ x0=>(tImm (.st 7) c1).bind λ x1=>some ⟨x0,x1⟩
 | _=>none
theorem GDef.made {l:List TC} {v:GDef} (h:GDef.of l=some v):CRs l v.lv:=by
 match l,h with
 | [c0,c1],h =>
  obtain ⟨x0,e0,h⟩:=bS h
  obtain ⟨x1,e1,h⟩:=bS h
  cases h
  exact ⟨tStr_cr e0,tImm_cr e1,trivial⟩
noncomputable def GOp.lv (x:GOp):List TC:=[.int .i64 x.Kind, .int .i32 x.N]
noncomputable def GOp.of:List TC->Option GOp
 | [c0,c1]=>(tInt .i64 c0).bind λ x0=>(tInt .i32 c1).bind λ x1=>some ⟨x0,x1⟩
 | _=>none
theorem GOp.made {l:List TC} {v:GOp} (h:GOp.of l=some v):CRs l v.lv:=by
 match l,h with
 | [c0,c1],h =>
  obtain ⟨x0,e0,h⟩:=bS h
  obtain ⟨x1,e1,h⟩:=bS h
  cases h
  exact ⟨tInt_cr e0,tInt_cr e1,trivial⟩
noncomputable def GStore.lv (x:GStore):List TC:=[.imm (.int .u32) x.Cells]
noncomputable def GStore.of:List TC->Option GStore
 | [c0]=>(tImm (.int .u32) c0).bind λ x0=>some ⟨x0⟩
 | _=>none
theorem GStore.made {l:List TC} {v:GStore} (h:GStore.of l=some v):CRs l v.lv:=by
 match l,h with
 | [c0],h =>
  obtain ⟨x0,e0,h⟩:=bS h
  cases h
  exact ⟨tImm_cr e0,trivial⟩
noncomputable def GItem.lv (x:GItem):List TC:=[.int .i64 x.Kind, .str x.Name, .int .i32 x.N, .bool x.Hex, .int .u32 x.Raw]
noncomputable def GItem.of:List TC->Option GItem
 | [c0,c1,c2,c3,c4]=>(tInt .i64 c0).bind λ x0=>(tStr c1).bind λ x1=>(tInt .i32 c2).bind λ x2=>(tBool c3).bind λ x3=>(tInt .u32 c4).bind λ x4=>some ⟨x0,x1,x2,x3,x4⟩
 | _=>none
theorem GItem.made {l:List TC} {v:GItem} (h:GItem.of l=some v):CRs l v.lv:=by
 match l,h with
 | [c0,c1,c2,c3,c4],h =>
  obtain ⟨x0,e0,h⟩:=bS h
  obtain ⟨x1,e1,h⟩:=bS h
  obtain ⟨x2,e2,h⟩:=bS h
  obtain ⟨x3,e3,h⟩:=bS h
  obtain ⟨x4,e4,h⟩:=bS h
  cases h
  exact ⟨tInt_cr e0,tStr_cr e1,tInt_cr e2,tBool_cr e3,tInt_cr e4,trivial⟩
noncomputable instance:Structs where
 leaves:=λ n=>match n with|0=>GTree.lv|1=>GMeaning.lv|2=>GSt.lv|3=>GSlot.lv|4=>GEffect.lv|5=>GL01Cur.lv|6=>GDef.lv|7=>GOp.lv|8=>GStore.lv|9=>GItem.lv|_=>λ _=>[]
 make:=λ n=>match n with|0=>GTree.of|1=>GMeaning.of|2=>GSt.of|3=>GSlot.of|4=>GEffect.of|5=>GL01Cur.of|6=>GDef.of|7=>GOp.of|8=>GStore.of|9=>GItem.of|_=>λ _=>none
 plain:=λ n=>match n with|0=>false|1=>false|2=>false|3=>true|4=>true|5=>false|6=>false|7=>true|8=>false|9=>true|_=>false
 lt:=λ n=>match n with|0=>[.bool, .bool,(.st 0)]|1=>[(.list (.st 0)),(.int .i32),(.st 3), .bool,(.int .i32),(.int .u32),(.int .i64),(.int .u8),(.int .u8), .bool, .bool]|2=>[(.int .i32),(.st 3), .bool,(.int .i32),(.int .u32),(.int .i64),(.int .u8),(.int .u8), .bool, .bool]|3=>[.bool, .bool]|4=>[.bool, .bool, .bool, .bool]|5=>[(.int .u8), .bool, .bool]|6=>[.bool,(.st 7)]|7=>[.bool, .bool]|8=>[(.int .u32)]|9=>[.bool, .bool, .bool, .bool, .bool]|_=>[]
 len:=λ n v=>match n,v with|0,_=>rfl|1,_=>rfl|2,_=>rfl|3,_=>rfl|4,_=>rfl|5,_=>rfl|6,_=>rfl|7,_=>rfl|8,_=>rfl|9,_=>rfl|_+10,_=>rfl
 conc:=λ n v=>match n,v with|0,v=>(GTree.cs_eq v).symm|1,_=>rfl|2,_=>rfl|3,_=>rfl|4,_=>rfl|5,_=>rfl|6,_=>rfl|7,_=>rfl|8,_=>rfl|9,_=>rfl|_+10,_=>rfl
 pure:=λ n v=>match n,v with|0,_=>rfl|1,_=>rfl|2,_=>rfl|3,_=>rfl|4,_=>rfl|5,_=>rfl|6,_=>rfl|7,_=>rfl|8,_=>rfl|9,_=>rfl|_+10,_=>rfl
 made:=λ n l v h=>match n,v,h with|0,v,h=>GTree.made h|1,v,h=>GMeaning.made h|2,v,h=>GSt.made h|3,v,h=>GSlot.made h|4,v,h=>GEffect.made h|5,v,h=>GL01Cur.made h|6,v,h=>GDef.made h|7,v,h=>GOp.made h|8,v,h=>GStore.made h|9,v,h=>GItem.made h|_+10,_,h=>nomatch h
 flat:=λ n v h=>match n,v,h with|0,_,h=>nomatch h|1,_,h=>nomatch h|2,_,h=>nomatch h|3,_,_=>rfl|4,_,_=>rfl|5,_,h=>nomatch h|6,_,h=>nomatch h|7,_,_=>rfl|8,_,h=>nomatch h|9,_,_=>rfl|_+10,_,h=>nomatch h
noncomputable instance:Tabs:=⟨λ g=>match g with|0=>some ⟨.int .u8,gtAscii⟩|3=>some ⟨.int .u64,gtPow10⟩|5=>some ⟨.int .u8,gtBruijn⟩|_=>none,λ g=>match g with|0=>rfl|1=>rfl|2=>rfl|3=>rfl|4=>rfl|5=>rfl|_+6=>rfl⟩
abbrev K0:Ty:=.int .i64
abbrev K1:Ty:=.int .i32
abbrev K2:Ty:=.st 0
abbrev K3:Ty:=.list K2
abbrev K5:Ty:=.list K1
abbrev K6:Ty:=.st 3
abbrev K7:Ty:=.list K6
abbrev K8:Ty:=.int .u32
abbrev K9:Ty:=.list K8
abbrev K10:Ty:=.list K0
abbrev K11:Ty:=.int .u8
abbrev K12:Ty:=.list K11
abbrev K13:Ty:=.st 2
abbrev K14:Ty:=.st 1
abbrev K15:Ty:=.bool
abbrev K16:Ty:=.str
abbrev K17:Ty:=.list K16
abbrev K18:Ty:=.st 4
abbrev K19:Ty:=.st 5
abbrev K20:Ty:=.st 7
abbrev K21:Ty:=.list K20
abbrev K22:Ty:=.st 6
abbrev K23:Ty:=.list K22
abbrev K24:Ty:=.st 8
abbrev K25:Ty:=.st 9
end Go.Proofs.YtmedombacbpofaaGreatDoor
namespace Go.Proofs.YtmedombacbpofaaGreatDoor
open Go Go.Fm
set_option maxRecDepth 1000000
def g_impl_St_pushes_inGMeaning_1 (n_1:Int) (st_2:GMeaning):Option GMeaning:=cond ((st_2.st.Data.length:Int)==16) (some (⟨st_2.trees,(⟨st_2.st.Data,st_2.st.Ret,st_2.st.A,st_2.st.Mem,st_2.st.Cells,st_2.st.Vars,st_2.st.Out,st_2.st.In,2,st_2.st.Fuel⟩:GSt)⟩:GMeaning)) ((app st_2.st.Data [n_1]).bind λ v_4=>some (⟨st_2.trees,(⟨v_4,st_2.st.Ret,st_2.st.A,st_2.st.Mem,st_2.st.Cells,st_2.st.Vars,st_2.st.Out,st_2.st.In,st_2.st.Fault,st_2.st.Fuel⟩:GSt)⟩:GMeaning))
def g_impl_meaning_fail_own (fault_1:Int) (m_2:GMeaning):Option GMeaning:=some (⟨m_2.trees,(⟨m_2.st.Data,m_2.st.Ret,m_2.st.A,m_2.st.Mem,m_2.st.Cells,m_2.st.Vars,m_2.st.Out,m_2.st.In,fault_1,m_2.st.Fuel⟩:GSt)⟩:GMeaning)
def g_impl_meaning_burn_own (m_1:GMeaning):Option (Bool×GMeaning):=cond (m_1.st.Fuel==0) ((g_impl_meaning_fail_own 6 m_1).bind λ y_4=>some (false,y_4)) (some (true,(⟨m_1.trees,(⟨m_1.st.Data,m_1.st.Ret,m_1.st.A,m_1.st.Mem,m_1.st.Cells,m_1.st.Vars,m_1.st.Out,m_1.st.In,m_1.st.Fault,IntKind.wrap .i64 (m_1.st.Fuel-1)⟩:GSt)⟩:GMeaning)))
def g_strings_Fields_l0 (s_1:Bs):Nat->Int->Int->Int->Int->Option (Int×Int)
 | 0,_,_,_,_=>none
 | k+1,n_5,wasSpace_6,setBits_7,i_8=>cond (decide (i_8 < (s_1.length:Int))) ((idxS s_1 i_8).bind λ v_11=>(getI gtAscii v_11).bind λ v_12=>g_strings_Fields_l0 s_1 k (IntKind.wrap .i64 (n_5+(andI .i64 wasSpace_6 (notI .i64 (IntKind.wrap .i64 v_12))))) (IntKind.wrap .i64 v_12) (orI .u8 setBits_7 v_11) (IntKind.wrap .i64 (i_8+1))) (some (n_5,setBits_7))
def g_strings_Fields_l1 (s_1:Bs):Nat->Int->Option Int
 | 0,_=>none
 | k+1,i_15=>(cond (decide (i_15 < (s_1.length:Int))) ((idxS s_1 i_15).bind λ v_18=>(getI gtAscii v_18).bind λ v_19=>some (v_19 != 0)) (some false):Option (Bool)).bind λ v_17=>cond v_17 (g_strings_Fields_l1 s_1 k (IntKind.wrap .i64 (i_15+1))) (some i_15)
def g_strings_Fields_l3 (s_1:Bs):Nat->Int->Option Int
 | 0,_=>none
 | k+1,i_33=>(cond (decide (i_33 < (s_1.length:Int))) ((idxS s_1 i_33).bind λ v_36=>(getI gtAscii v_36).bind λ v_37=>some (v_37 != 0)) (some false):Option (Bool)).bind λ v_35=>cond v_35 (g_strings_Fields_l3 s_1 k (IntKind.wrap .i64 (i_33+1))) (some i_33)
def g_strings_Fields_l2 (s_1:Bs):Nat->(List Bs)->Int->Int->Int->Option ((List Bs)×Int×Int)
 | 0,_,_,_,_=>none
 | k+1,a_20,na_21,fieldStart_22,i_23=>cond (decide (i_23 < (s_1.length:Int))) ((idxS s_1 i_23).bind λ v_27=>(getI gtAscii v_27).bind λ v_28=>cond (v_28==0) (g_strings_Fields_l2 s_1 k a_20 na_21 fieldStart_22 (IntKind.wrap .i64 (i_23+1))) ((subL s_1 fieldStart_22 i_23).bind λ v_29=>(getI a_20 na_21).bind λ v_30=>(g_strings_Fields_l3 s_1 bigK (IntKind.wrap .i64 (i_23+1))).bind λ i_34=>g_strings_Fields_l2 s_1 k (a_20.set na_21.toNat v_29) (IntKind.wrap .i64 (na_21+1)) i_34 i_34)) (some (a_20,na_21,fieldStart_22))
def g_strings_Fields (s_1:Bs):Option (List Bs):=((g_strings_Fields_l0 s_1 bigK 0 1 0 0).bind λ (n_9,setBits_10)=>some (n_9,setBits_10):Option ((Int×Int))).bind λ (n_3,setBits_4)=>cond (decide (setBits_4 ≥ 128)) (none) ((mk ([]:Bs) n_3).bind λ v_13=>(g_strings_Fields_l1 s_1 bigK 0).bind λ i_16=>(g_strings_Fields_l2 s_1 bigK v_13 0 i_16 i_16).bind λ (a_24,na_25,fieldStart_26)=>(cond (decide (fieldStart_26 < (s_1.length:Int))) ((subL s_1 fieldStart_26 (s_1.length:Int)).bind λ v_39=>(getI a_24 na_25).bind λ v_40=>some (a_24.set na_25.toNat v_39)) (some a_24):Option ((List Bs))).bind λ a_38=>some a_38)
def g_impl_prims:Option (List Bs):=(g_strings_Fields [100,117,112,32,100,114,111,112,32,111,118,101,114,32,110,105,112,32,115,119,97,112,32,43,32,45,32,42,32,97,110,100,32,111,114,32,50,42,32,50,47,32,47,109,111,100,32,64,32,33,32,97,32,97,33,32,101,109,105,116,32,107,101,121,32,112,117,115,104,32,112,111,112,32,105,32,46,32,110,111,112]).bind λ y_2=>some y_2
def g_impl_within (n_1:Int) (low_2:Int) (high_3:Int):Option Bool:=cond (decide (low_2<=n_1)) (some (decide (n_1<=high_3))) (some false)
def g_impl_PrimName (k_1:Int):Option Bs:=(g_impl_prims).bind λ y_3=>(g_impl_within k_1 0 (IntKind.wrap .i64 ((y_3.length:Int)-1))).bind λ y_4=>cond y_4 ((getI y_3 k_1).bind λ v_5=>some v_5) (some [])
def g_slices_Clone_int32 (s_1:List Int):Option (List Int):=app ([]:List Int) s_1
def g_slices_Clone_Slot (s_1:List GSlot):Option (List GSlot):=app ([]:List GSlot) s_1
def g_slices_Clone_uint32 (s_1:List Int):Option (List Int):=app ([]:List Int) s_1
def g_slices_Clone_int (s_1:List Int):Option (List Int):=app ([]:List Int) s_1
def g_slices_Clone_byte (s_1:List Int):Option (List Int):=app ([]:List Int) s_1
def g_impl_ownSt (st_1:GSt):Option GSt:=(g_slices_Clone_int32 st_1.Data).bind λ y_3=>(g_slices_Clone_Slot st_1.Ret).bind λ y_4=>(g_slices_Clone_int32 st_1.Mem).bind λ y_5=>(g_slices_Clone_uint32 st_1.Cells).bind λ y_6=>(g_slices_Clone_int st_1.Vars).bind λ y_7=>(g_slices_Clone_byte st_1.Out).bind λ y_8=>(g_slices_Clone_byte st_1.In).bind λ y_9=>some (⟨y_3,y_4,st_1.A,y_5,y_6,y_7,y_8,y_9,st_1.Fault,st_1.Fuel⟩:GSt)
def g_impl_doesc1 (fault_1:Int) (a_2:GSt):Option GSt:=(g_impl_ownSt a_2).bind λ y_4=>some (⟨y_4.Data,y_4.Ret,y_4.A,y_4.Mem,y_4.Cells,y_4.Vars,y_4.Out,y_4.In,fault_1,y_4.Fuel⟩:GSt)
def g_impl_PrimEffect (k_1:Int):Option GEffect:=((g_impl_PrimName k_1).bind λ y_7=>cond (y_7==[100,117,112]) (some (.inl ((⟨false,0,0,0⟩:GEffect),(⟨true,1,1,1⟩:GEffect)))) ((cond (y_7==[100,114,111,112]) (some (y_7==[100,114,111,112])) (cond (y_7==[97,33]) (some (y_7==[97,33])) (cond (y_7==[101,109,105,116]) (some (y_7==[101,109,105,116])) (cond (y_7==[112,117,115,104]) (some (y_7==[112,117,115,104])) (some (y_7==[46]))))):Option (Bool)).bind λ v_8=>cond v_8 (some (.inl ((⟨false,0,0,0⟩:GEffect),(⟨true,1,0,(-1)⟩:GEffect)))) (cond (y_7==[111,118,101,114]) (some (.inl ((⟨false,0,0,0⟩:GEffect),(⟨true,2,1,1⟩:GEffect)))) ((cond (y_7==[110,105,112]) (some (y_7==[110,105,112])) (cond (y_7==[43]) (some (y_7==[43])) (cond (y_7==[42]) (some (y_7==[42])) (cond (y_7==[97,110,100]) (some (y_7==[97,110,100])) (some (y_7==[111,114]))))):Option (Bool)).bind λ v_9=>cond v_9 (some (.inl ((⟨false,0,0,0⟩:GEffect),(⟨true,2,0,(-1)⟩:GEffect)))) ((cond (y_7==[115,119,97,112]) (some (y_7==[115,119,97,112])) (some (y_7==[47,109,111,100])):Option (Bool)).bind λ v_10=>cond v_10 (some (.inl ((⟨false,0,0,0⟩:GEffect),(⟨true,2,0,0⟩:GEffect)))) ((cond (y_7==[45]) (some (y_7==[45])) (cond (y_7==[50,42]) (some (y_7==[50,42])) (cond (y_7==[50,47]) (some (y_7==[50,47])) (some (y_7==[64])))):Option (Bool)).bind λ v_11=>cond v_11 (some (.inl ((⟨false,0,0,0⟩:GEffect),(⟨true,1,0,0⟩:GEffect)))) (cond (y_7==[33]) (some (.inl ((⟨false,0,0,0⟩:GEffect),(⟨true,2,0,(-2)⟩:GEffect)))) ((cond (y_7==[97]) (some (y_7==[97])) (cond (y_7==[107,101,121]) (some (y_7==[107,101,121])) (cond (y_7==[112,111,112]) (some (y_7==[112,111,112])) (some (y_7==[105])))):Option (Bool)).bind λ v_12=>cond v_12 (some (.inl ((⟨false,0,0,0⟩:GEffect),(⟨true,0,1,1⟩:GEffect)))) (cond (y_7==[110,111,112]) (some (.inl ((⟨false,0,0,0⟩:GEffect),(⟨true,0,0,0⟩:GEffect)))) (some (.inr ((⟨false,0,0,0⟩:GEffect),(⟨true,0,0,0⟩:GEffect)))))))))))):Option ((GEffect×GEffect) ⊕ (GEffect×GEffect))).bind λ o=>match o with | .inl (x_3,x_4)=>some x_4 | .inr (x_5,x_6)=>some x_5
def g_impl_wants (k_1:Int):Option Int:=(g_impl_PrimEffect k_1).bind λ y_3=>some y_3.Need
def g_slices_Index_int_l0 (s_1:List Int) (v_2:Int) (v_5:Int):Nat->Int->Option (Unit ⊕ Int)
 | 0,_=>none
 | k+1,v_6=>cond (decide (v_6 < v_5)) ((getI s_1 v_6).bind λ v_8=>cond (v_2==v_8) (some (.inr v_6)) (g_slices_Index_int_l0 s_1 v_2 v_5 k (IntKind.wrap .i64 (v_6+1)))) (some (.inl ()))
def g_slices_Index_int (s_1:List Int) (v_2:Int):Option Int:=((g_slices_Index_int_l0 s_1 v_2 (s_1.length:Int) bigK 0).bind λ o=>match o with | .inl ()=>some (.inl ()) | .inr v_7=>some (.inr v_7):Option (Unit ⊕ Int)).bind λ o=>match o with | .inl ()=>some (-1) | .inr v_4=>some v_4
def g_slices_Contains_int (s_1:List Int) (v_2:Int):Option Bool:=(g_slices_Index_int s_1 v_2).bind λ y_4=>some (decide (y_4 ≥ 0))
def g_impl_St_written (s_1:Bs) (st_2:GSt):Option (Int×GSt):=cond (decide ((IntKind.wrap .i64 ((st_2.Out.length:Int)+(s_1.length:Int))) > 400)) (some (13,st_2)) ((app st_2.Out (bsOf s_1)).bind λ v_5=>some (0,(⟨st_2.Data,st_2.Ret,st_2.A,st_2.Mem,st_2.Cells,st_2.Vars,v_5,st_2.In,st_2.Fault,st_2.Fuel⟩:GSt)))
def g_strconv_Itoa (i_1:Int):Option Bs:=gItoa i_1
def g_impl_DecText (n_1:Int):Option Bs:=(g_strconv_Itoa n_1).bind λ y_3=>some y_3
def g_impl_result (name_1:Bs) (x_2:Int) (y_3:Int):Option ((List Int)×Int):=cond (name_1==[100,117,112]) (some ([y_3,y_3],0)) (cond (name_1==[100,114,111,112]) (some ([],0)) (cond (name_1==[111,118,101,114]) (some ([x_2,y_3,x_2],0)) (cond (name_1==[110,105,112]) (some ([y_3],0)) (cond (name_1==[115,119,97,112]) (some ([y_3,x_2],0)) (cond (name_1==[43]) (some ([IntKind.wrap .i32 (x_2+y_3)],0)) (cond (name_1==[45]) (some ([notI .i32 y_3],0)) (cond (name_1==[42]) (some ([IntKind.wrap .i32 (x_2*y_3)],0)) (cond (name_1==[97,110,100]) (some ([andI .i32 x_2 y_3],0)) (cond (name_1==[111,114]) (some ([xorI .i32 x_2 y_3],0)) (cond (name_1==[50,42]) (some ([IntKind.wrap .i32 (2*y_3)],0)) (cond (name_1==[50,47]) (some ([y_3 / 2],0)) (cond (name_1==[47,109,111,100]) (cond (y_3==0) (some ([],5)) ((quoI .i64 (IntKind.wrap .i64 x_2) (IntKind.wrap .i64 y_3)).bind λ v_6=>(remI .i64 (IntKind.wrap .i64 x_2) (IntKind.wrap .i64 y_3)).bind λ v_7=>some ([IntKind.wrap .i32 v_7,IntKind.wrap .i32 v_6],0))) (some ([],0))))))))))))))
def g_impl_St_place_rd (address_1:Int) (st_2:GSt):Option (Int×Bool×Bool):=(g_impl_within (IntKind.wrap .i64 address_1) 0 31).bind λ y_6=>cond y_6 (some (IntKind.wrap .i64 address_1,true,true)) ((g_impl_within (IntKind.wrap .i64 ((IntKind.wrap .i64 address_1)-1024)) 0 (IntKind.wrap .i64 ((st_2.Cells.length:Int)-1))).bind λ y_7=>cond y_7 (some (IntKind.wrap .i64 ((IntKind.wrap .i64 address_1)-1024),false,true)) (some (0,false,false)))
def g_impl_St_effect (name_1:Bs) (x_2:Int) (y_3:Int) (st_4:GSt):Option ((List Int)×Int×GSt):=(cond (name_1==[64]) ((g_impl_St_place_rd y_3 st_4).bind λ y_12=>cond (!y_12.2.2) (some (.inr ([],4,st_4))) (cond y_12.2.1 ((getI st_4.Mem y_12.1).bind λ v_13=>some (.inr ([v_13],0,st_4))) ((getI st_4.Cells y_12.1).bind λ v_14=>some (.inr ([IntKind.wrap .i32 v_14],0,st_4))))) (cond (name_1==[33]) ((g_impl_St_place_rd y_3 st_4).bind λ y_15=>(cond (!y_15.2.2) (some true) (cond (!y_15.2.1) ((g_slices_Contains_int st_4.Vars y_15.1).bind λ y_17=>some (!y_17)) (some false)):Option (Bool)).bind λ v_16=>cond v_16 (some (.inr ([],4,st_4))) (cond y_15.2.1 ((getI st_4.Mem y_15.1).bind λ v_18=>some (.inl (⟨st_4.Data,st_4.Ret,st_4.A,st_4.Mem.set y_15.1.toNat x_2,st_4.Cells,st_4.Vars,st_4.Out,st_4.In,st_4.Fault,st_4.Fuel⟩:GSt))) ((getI st_4.Cells y_15.1).bind λ v_19=>some (.inl (⟨st_4.Data,st_4.Ret,st_4.A,st_4.Mem,st_4.Cells.set y_15.1.toNat (IntKind.wrap .u32 x_2),st_4.Vars,st_4.Out,st_4.In,st_4.Fault,st_4.Fuel⟩:GSt))))) (cond (name_1==[97]) (some (.inr ([st_4.A],0,st_4))) (cond (name_1==[97,33]) (some (.inl (⟨st_4.Data,st_4.Ret,y_3,st_4.Mem,st_4.Cells,st_4.Vars,st_4.Out,st_4.In,st_4.Fault,st_4.Fuel⟩:GSt))) (cond (name_1==[101,109,105,116]) ((g_impl_St_written (strOf [IntKind.wrap .u8 y_3]) st_4).bind λ y_20=>some (.inr ([],y_20.1,y_20.2))) (cond (name_1==[46]) ((g_impl_DecText (IntKind.wrap .i64 y_3)).bind λ y_21=>(catS y_21 [32]).bind λ v_22=>(g_impl_St_written v_22 st_4).bind λ y_23=>some (.inr ([],y_23.1,y_23.2))) (cond (name_1==[107,101,121]) (cond ((st_4.In.length:Int)==0) (some (.inr ([(-1)],0,st_4))) ((getI st_4.In 0).bind λ v_24=>(subL st_4.In 1 ((st_4.In.length:Nat):Int)).bind λ v_25=>some (.inr ([IntKind.wrap .i32 v_24],0,(⟨st_4.Data,st_4.Ret,st_4.A,st_4.Mem,st_4.Cells,st_4.Vars,st_4.Out,v_25,st_4.Fault,st_4.Fuel⟩:GSt))))) (cond (name_1==[112,117,115,104]) (cond ((st_4.Ret.length:Int)==24) (some (.inr ([],3,st_4))) ((app st_4.Ret [(⟨0,y_3⟩:GSlot)]).bind λ v_26=>some (.inl (⟨st_4.Data,v_26,st_4.A,st_4.Mem,st_4.Cells,st_4.Vars,st_4.Out,st_4.In,st_4.Fault,st_4.Fuel⟩:GSt)))) ((cond (name_1==[112,111,112]) (some (name_1==[112,111,112])) (some (name_1==[105])):Option (Bool)).bind λ v_27=>cond v_27 (cond (decide ((IntKind.wrap .i64 ((st_4.Ret.length:Int)-1)) < 0)) (some (.inr ([],3,st_4))) ((cond (name_1==[112,111,112]) ((getI st_4.Ret (IntKind.wrap .i64 ((st_4.Ret.length:Int)-1))).bind λ v_29=>cond (v_29.Kind != 0) (some true) ((getI st_4.Ret (IntKind.wrap .i64 ((st_4.Ret.length:Int)-1))).bind λ v_30=>some (v_30.Kind==2))) ((getI st_4.Ret (IntKind.wrap .i64 ((st_4.Ret.length:Int)-1))).bind λ v_31=>some (v_31.Kind==2)):Option (Bool)).bind λ v_28=>cond v_28 (some (.inr ([],11,st_4))) ((getI st_4.Ret (IntKind.wrap .i64 ((st_4.Ret.length:Int)-1))).bind λ v_32=>(cond (name_1==[112,111,112]) ((subL st_4.Ret 0 (IntKind.wrap .i64 ((st_4.Ret.length:Int)-1))).bind λ v_41=>some (⟨st_4.Data,v_41,st_4.A,st_4.Mem,st_4.Cells,st_4.Vars,st_4.Out,st_4.In,st_4.Fault,st_4.Fuel⟩:GSt)) (some st_4):Option (GSt)).bind λ x_40=>some (.inr ([v_32.N],0,x_40))))) ((g_impl_result name_1 x_2 y_3).bind λ y_42=>some (.inr (y_42.1,y_42.2,st_4))))))))))):Option (GSt ⊕ ((List Int)×Int×GSt))).bind λ o=>match o with | .inl x_8=>some ([],0,x_8) | .inr (v_9,v_10,x_11)=>some (v_9,v_10,x_11)
def g_impl_does (st_1:GSt) (k_2:Int):Option GSt:=(g_impl_PrimName k_2).bind λ y_4=>cond (y_4==[]) ((g_impl_doesc1 1 st_1).bind λ y_5=>some y_5) ((g_impl_wants k_2).bind λ y_6=>cond (decide ((st_1.Data.length:Int) < y_6)) ((g_impl_doesc1 2 st_1).bind λ y_7=>some y_7) ((g_impl_ownSt st_1).bind λ y_8=>(cond (decide ((st_1.Data.length:Int) > 1)) ((getI st_1.Data (IntKind.wrap .i64 ((st_1.Data.length:Int)-2))).bind λ v_10=>some v_10) (some 0):Option (Int)).bind λ x_9=>(cond (decide ((st_1.Data.length:Int) > 0)) ((getI st_1.Data (IntKind.wrap .i64 ((st_1.Data.length:Int)-1))).bind λ v_12=>some v_12) (some 0):Option (Int)).bind λ y_11=>(g_impl_St_effect y_4 x_9 y_11 y_8).bind λ y_13=>(g_impl_wants k_2).bind λ y_14=>(subL y_13.2.2.Data 0 (IntKind.wrap .i64 ((st_1.Data.length:Int)-y_14))).bind λ v_15=>(app v_15 y_13.1).bind λ v_16=>cond (y_13.2.1 != 0) ((g_impl_doesc1 y_13.2.1 st_1).bind λ y_17=>some y_17) (cond (decide ((v_16.length:Int) > 16)) ((g_impl_doesc1 2 st_1).bind λ y_18=>some y_18) (some (⟨v_16,y_13.2.2.Ret,y_13.2.2.A,y_13.2.2.Mem,y_13.2.2.Cells,y_13.2.2.Vars,y_13.2.2.Out,y_13.2.2.In,y_13.2.2.Fault,y_13.2.2.Fuel⟩:GSt)))))
def g_impl_meaning_enter_l0 (rc_g_impl_meaning_all:(List GTree)->GMeaning->Option (Bool×GMeaning)):Nat->Int->GMeaning->Option (GMeaning ⊕ GMeaning)
 | 0,_,_=>none
 | k+1,k_6,x_7=>cond (decide (k_6 < (x_7.trees.length:Int))) (((getI x_7.trees k_6).bind λ v_12=>(rc_g_impl_meaning_all v_12 x_7).bind λ y_13=>cond y_13.1 (some (true,y_13.2)) (some ((y_13.2.st.Fault != 0),y_13.2)):Option ((Bool×GMeaning))).bind λ (v_10,x_11)=>cond v_10 (some (.inr x_11)) (g_impl_meaning_enter_l0 rc_g_impl_meaning_all k (IntKind.wrap .i64 (k_6+1)) x_11)) (some (.inl x_7))
def g_impl_meaning_enter_p (rc_g_impl_meaning_all:(List GTree)->GMeaning->Option (Bool×GMeaning)) (k_1:Int) (m_2:GMeaning):Option GMeaning:=cond ((m_2.st.Ret.length:Int)==24) ((g_impl_meaning_fail_own 3 m_2).bind λ y_4=>some y_4) ((app m_2.st.Ret [(⟨2,0⟩:GSlot)]).bind λ v_5=>(g_impl_meaning_enter_l0 rc_g_impl_meaning_all bigK k_1 (⟨m_2.trees,(⟨m_2.st.Data,v_5,m_2.st.A,m_2.st.Mem,m_2.st.Cells,m_2.st.Vars,m_2.st.Out,m_2.st.In,m_2.st.Fault,m_2.st.Fuel⟩:GSt)⟩:GMeaning)).bind λ o=>match o with | .inl x_8=>(g_impl_meaning_fail_own 10 x_8).bind λ y_14=>some y_14 | .inr x_9=>some x_9)
def g_impl_St_begin_inGMeaning_1 (st_1:GMeaning):Option GMeaning:=cond (decide ((IntKind.wrap .i64 ((st_1.st.Data.length:Int)-1)) < 0)) (some (⟨st_1.trees,(⟨st_1.st.Data,st_1.st.Ret,st_1.st.A,st_1.st.Mem,st_1.st.Cells,st_1.st.Vars,st_1.st.Out,st_1.st.In,2,st_1.st.Fuel⟩:GSt)⟩:GMeaning)) (cond ((st_1.st.Ret.length:Int)==24) (some (⟨st_1.trees,(⟨st_1.st.Data,st_1.st.Ret,st_1.st.A,st_1.st.Mem,st_1.st.Cells,st_1.st.Vars,st_1.st.Out,st_1.st.In,3,st_1.st.Fuel⟩:GSt)⟩:GMeaning)) ((getI st_1.st.Data (IntKind.wrap .i64 ((st_1.st.Data.length:Int)-1))).bind λ v_3=>(app st_1.st.Ret [(⟨1,v_3⟩:GSlot)]).bind λ v_4=>(subL st_1.st.Data 0 (IntKind.wrap .i64 ((st_1.st.Data.length:Int)-1))).bind λ v_5=>some (⟨st_1.trees,(⟨v_5,v_4,st_1.st.A,st_1.st.Mem,st_1.st.Cells,st_1.st.Vars,st_1.st.Out,st_1.st.In,st_1.st.Fault,st_1.st.Fuel⟩:GSt)⟩:GMeaning)))
def g_impl_St_again_inGMeaning_1 (st_1:GMeaning):Option (Bool×GMeaning):=cond (decide ((IntKind.wrap .i64 ((st_1.st.Ret.length:Int)-1)) < 0)) (some (false,(⟨st_1.trees,(⟨st_1.st.Data,st_1.st.Ret,st_1.st.A,st_1.st.Mem,st_1.st.Cells,st_1.st.Vars,st_1.st.Out,st_1.st.In,3,st_1.st.Fuel⟩:GSt)⟩:GMeaning))) ((getI st_1.st.Ret (IntKind.wrap .i64 ((st_1.st.Ret.length:Int)-1))).bind λ v_4=>cond (v_4.Kind != 1) (some (false,(⟨st_1.trees,(⟨st_1.st.Data,st_1.st.Ret,st_1.st.A,st_1.st.Mem,st_1.st.Cells,st_1.st.Vars,st_1.st.Out,st_1.st.In,11,st_1.st.Fuel⟩:GSt)⟩:GMeaning))) ((getI st_1.st.Ret (IntKind.wrap .i64 ((st_1.st.Ret.length:Int)-1))).bind λ v_5=>cond (decide ((IntKind.wrap .i32 (v_5.N-1)) > 0)) ((getI st_1.st.Ret (IntKind.wrap .i64 ((st_1.st.Ret.length:Int)-1))).bind λ v_6=>some (true,(⟨st_1.trees,(⟨st_1.st.Data,st_1.st.Ret.set (IntKind.wrap .i64 ((st_1.st.Ret.length:Int)-1)).toNat (⟨v_6.Kind,IntKind.wrap .i32 (v_5.N-1)⟩:GSlot),st_1.st.A,st_1.st.Mem,st_1.st.Cells,st_1.st.Vars,st_1.st.Out,st_1.st.In,st_1.st.Fault,st_1.st.Fuel⟩:GSt)⟩:GMeaning))) ((subL st_1.st.Ret 0 (IntKind.wrap .i64 ((st_1.st.Ret.length:Int)-1))).bind λ v_7=>some (false,(⟨st_1.trees,(⟨st_1.st.Data,v_7,st_1.st.A,st_1.st.Mem,st_1.st.Cells,st_1.st.Vars,st_1.st.Out,st_1.st.In,st_1.st.Fault,st_1.st.Fuel⟩:GSt)⟩:GMeaning)))))
def g_impl_meaning_loop_l0 (rc_g_impl_meaning_all:(List GTree)->GMeaning->Option (Bool×GMeaning)) (kids_1:List GTree):Nat->GMeaning->Option (GMeaning ⊕ (Bool×GMeaning))
 | 0,_=>none
 | k+1,x_6=>cond (x_6.st.Fault==0) ((rc_g_impl_meaning_all kids_1 x_6).bind λ y_10=>cond y_10.1 (some (.inr (true,y_10.2))) ((cond (y_10.2.st.Fault != 0) (some (true,y_10.2)) ((g_impl_meaning_burn_own y_10.2).bind λ y_13=>cond (!y_13.1) (some (true,y_13.2)) ((g_impl_St_again_inGMeaning_1 y_13.2).bind λ y_14=>some ((!y_14.1),y_14.2))):Option ((Bool×GMeaning))).bind λ (v_11,x_12)=>cond v_11 (some (.inr (false,x_12))) (g_impl_meaning_loop_l0 rc_g_impl_meaning_all kids_1 k x_12))) (some (.inl x_6))
def g_impl_meaning_loop_p (rc_g_impl_meaning_all:(List GTree)->GMeaning->Option (Bool×GMeaning)) (kids_1:List GTree) (m_2:GMeaning):Option (Bool×GMeaning):=(g_impl_St_begin_inGMeaning_1 m_2).bind λ y_5=>(g_impl_meaning_loop_l0 rc_g_impl_meaning_all kids_1 bigK y_5).bind λ o=>match o with | .inl x_7=>some (false,x_7) | .inr (v_8,x_9)=>some (v_8,x_9)
def g_impl_meaning_one_p (rc_g_impl_meaning_all:(List GTree)->GMeaning->Option (Bool×GMeaning)) (t_1:GTree) (m_2:GMeaning):Option (Bool×GMeaning):=(g_impl_meaning_burn_own m_2).bind λ y_5=>cond (!y_5.1) (some (false,y_5.2)) ((cond (t_1.Kind==0) ((g_impl_St_pushes_inGMeaning_1 t_1.N y_5.2).bind λ y_9=>some (.inl y_9)) (cond (t_1.Kind==1) ((g_impl_does y_5.2.st (IntKind.wrap .i64 t_1.N)).bind λ y_10=>some (.inl (⟨y_5.2.trees,y_10⟩:GMeaning))) (cond (t_1.Kind==2) ((g_impl_meaning_enter_p rc_g_impl_meaning_all (IntKind.wrap .i64 t_1.N) y_5.2).bind λ y_11=>some (.inl y_11)) (cond (t_1.Kind==8) ((cond (decide ((IntKind.wrap .i64 ((y_5.2.st.Ret.length:Int)-1)) < 0)) (some true) ((getI y_5.2.st.Ret (IntKind.wrap .i64 ((y_5.2.st.Ret.length:Int)-1))).bind λ v_13=>some (v_13.Kind != 2)):Option (Bool)).bind λ v_12=>cond v_12 ((g_impl_meaning_fail_own 11 y_5.2).bind λ y_14=>some (.inr (false,y_14))) ((subL y_5.2.st.Ret 0 (IntKind.wrap .i64 ((y_5.2.st.Ret.length:Int)-1))).bind λ v_15=>some (.inr (true,(⟨y_5.2.trees,(⟨y_5.2.st.Data,v_15,y_5.2.st.A,y_5.2.st.Mem,y_5.2.st.Cells,y_5.2.st.Vars,y_5.2.st.Out,y_5.2.st.In,y_5.2.st.Fault,y_5.2.st.Fuel⟩:GSt)⟩:GMeaning))))) ((cond (t_1.Kind==3) (some (t_1.Kind==3)) (some (t_1.Kind==4)):Option (Bool)).bind λ v_16=>cond v_16 (cond (decide ((IntKind.wrap .i64 ((y_5.2.st.Data.length:Int)-1)) < 0)) ((g_impl_meaning_fail_own 2 y_5.2).bind λ y_17=>some (.inl y_17)) ((cond (t_1.Kind==3) ((getI y_5.2.st.Data (IntKind.wrap .i64 ((y_5.2.st.Data.length:Int)-1))).bind λ v_19=>cond (v_19 != 0) (some true) (cond (t_1.Kind==4) ((getI y_5.2.st.Data (IntKind.wrap .i64 ((y_5.2.st.Data.length:Int)-1))).bind λ v_20=>some (decide (v_20 < 0))) (some false))) (cond (t_1.Kind==4) ((getI y_5.2.st.Data (IntKind.wrap .i64 ((y_5.2.st.Data.length:Int)-1))).bind λ v_21=>some (decide (v_21 < 0))) (some false)):Option (Bool)).bind λ v_18=>cond v_18 ((rc_g_impl_meaning_all t_1.Kids y_5.2).bind λ y_22=>some (.inr (y_22.1,y_22.2))) (some (.inl y_5.2)))) (cond (t_1.Kind==6) ((g_impl_meaning_loop_p rc_g_impl_meaning_all t_1.Kids y_5.2).bind λ y_23=>some (.inr (y_23.1,y_23.2))) (some (.inl y_5.2))))))):Option (GMeaning ⊕ (Bool×GMeaning))).bind λ o=>match o with | .inl x_6=>some (false,x_6) | .inr (v_7,x_8)=>some (v_7,x_8))
def g_impl_meaning_all_l0 (rc_g_impl_meaning_all:(List GTree)->GMeaning->Option (Bool×GMeaning)) (v_8:List GTree) (v_9:Int):Nat->Int->GMeaning->Option (GMeaning ⊕ (Bool×GMeaning))
 | 0,_,_=>none
 | k+1,v_10,x_11=>cond (decide (v_10 < v_9)) ((getI v_8 v_10).bind λ v_15=>(g_impl_meaning_one_p rc_g_impl_meaning_all (⟨v_15.Kind,v_15.N,v_15.Kids⟩:GTree) x_11).bind λ y_16=>cond y_16.1 (some (.inr (true,y_16.2))) (cond (y_16.2.st.Fault != 0) (some (.inr (false,y_16.2))) (g_impl_meaning_all_l0 rc_g_impl_meaning_all v_8 v_9 k (IntKind.wrap .i64 (v_10+1)) y_16.2))) (some (.inl x_11))
def g_impl_meaning_all_b (rc_g_impl_meaning_all:(List GTree)->GMeaning->Option (Bool×GMeaning)) (list_1:List GTree) (m_2:GMeaning):Option (Bool×GMeaning):=((g_impl_meaning_all_l0 rc_g_impl_meaning_all list_1 (list_1.length:Int) bigK 0 m_2).bind λ o=>match o with | .inl x_12=>some (.inl x_12) | .inr (v_13,x_14)=>some (.inr (v_13,x_14)):Option (GMeaning ⊕ (Bool×GMeaning))).bind λ o=>match o with | .inl x_5=>some (false,x_5) | .inr (v_6,x_7)=>some (v_6,x_7)
def g_impl_meaning_all_r:Nat->(List GTree)->GMeaning->Option (Bool×GMeaning)
 | 0=>λ _ _=>none
 | k+1=>g_impl_meaning_all_b (g_impl_meaning_all_r k)
def g_impl_meaning_all (list_1:List GTree) (m_2:GMeaning):Option (Bool×GMeaning):=g_impl_meaning_all_r bigK list_1 m_2
def g_impl_meaning_enter (k_1:Int) (m_2:GMeaning):Option GMeaning:=g_impl_meaning_enter_p g_impl_meaning_all k_1 m_2
def g_laws_big (code_1:List Int):Option Bool:=some (decide ((code_1.length:Int) > 1048576))
def g_spec_l01New_l0 (code_1:List Int):Nat->Int->Int->Option Int
 | 0,_,_=>none
 | k+1,h_4,i_5=>(cond (decide (i_5 < (code_1.length:Int))) (some (decide (i_5 < 4000))) (some false):Option (Bool)).bind λ v_7=>cond v_7 ((getI code_1 i_5).bind λ v_8=>g_spec_l01New_l0 code_1 k (andI .i64 (IntKind.wrap .i64 ((IntKind.wrap .i64 ((IntKind.wrap .i64 (h_4*131))+(IntKind.wrap .i64 v_8)))+7)) 1073741823) (IntKind.wrap .i64 (i_5+1))) (some h_4)
def g_spec_l01New (code_1:List Int):Option GL01Cur:=((g_spec_l01New_l0 code_1 bigK (IntKind.wrap .i64 (711711+(code_1.length:Int))) 0).bind λ h_6=>some h_6:Option (Int)).bind λ h_3=>some (⟨code_1,0,h_3⟩:GL01Cur)
def g_spec_l01Byte (c_1:GL01Cur):Option (Int×GL01Cur):=(cond (decide (c_1.i < (c_1.b.length:Int))) ((getI c_1.b c_1.i).bind λ v_6=>some (andI .i64 (IntKind.wrap .i64 ((andI .i64 (xorI .i64 ((IntKind.wrap .i64 ((IntKind.wrap .i64 (c_1.h*6364136223846793005))+1442695040888963407)) / 8589934592) ((IntKind.wrap .i64 ((IntKind.wrap .i64 (c_1.h*6364136223846793005))+1442695040888963407)) / 35184372088832)) 255)+(IntKind.wrap .i64 v_6))) 255,(⟨c_1.b,IntKind.wrap .i64 (c_1.i+1),IntKind.wrap .i64 ((IntKind.wrap .i64 (c_1.h*6364136223846793005))+1442695040888963407)⟩:GL01Cur))) (some (andI .i64 (xorI .i64 ((IntKind.wrap .i64 ((IntKind.wrap .i64 (c_1.h*6364136223846793005))+1442695040888963407)) / 8589934592) ((IntKind.wrap .i64 ((IntKind.wrap .i64 (c_1.h*6364136223846793005))+1442695040888963407)) / 35184372088832)) 255,(⟨c_1.b,c_1.i,IntKind.wrap .i64 ((IntKind.wrap .i64 (c_1.h*6364136223846793005))+1442695040888963407)⟩:GL01Cur))):Option ((Int×GL01Cur))).bind λ (x_4,x_5)=>some (x_4,x_5)
def g_spec_l01Below (n_1:Int) (c_2:GL01Cur):Option (Int×GL01Cur):=cond (decide (n_1<=0)) (some (0,c_2)) (cond (decide (n_1<=256)) ((g_spec_l01Byte c_2).bind λ y_5=>(remI .i64 y_5.1 n_1).bind λ v_6=>some (v_6,y_5.2)) ((g_spec_l01Byte c_2).bind λ y_7=>(g_spec_l01Byte y_7.2).bind λ y_8=>(g_spec_l01Byte y_8.2).bind λ y_9=>(g_spec_l01Byte y_9.2).bind λ y_10=>(remI .i64 (IntKind.wrap .i64 ((IntKind.wrap .i64 ((IntKind.wrap .i64 ((IntKind.wrap .i64 (y_7.1*16777216))+(IntKind.wrap .i64 (y_8.1*65536))))+(IntKind.wrap .i64 (y_9.1*256))))+y_10.1)) n_1).bind λ v_11=>some (v_11,y_10.2)))
def g_spec_l01Once (n_1:Int) (c_2:GL01Cur):Option (Bool×GL01Cur):=(g_spec_l01Below n_1 c_2).bind λ y_5=>some ((y_5.1==0),y_5.2)
def g_spec_l01PickInt (list_1:List Int) (c_2:GL01Cur):Option (Int×GL01Cur):=(g_spec_l01Below (list_1.length:Int) c_2).bind λ y_5=>(getI list_1 y_5.1).bind λ v_6=>some (v_6,y_5.2)
def g_spec_l09Plain (n_1:Int) (c_2:GL01Cur):Option (GOp×GL01Cur):=((g_spec_l01Below 7 c_2).bind λ y_9=>(cond (y_9.1==0) (some (y_9.1==0)) (some (y_9.1==1)):Option (Bool)).bind λ v_10=>cond v_10 ((g_spec_l01Below 9 y_9.2).bind λ y_11=>some (.inr (y_11.2,(⟨0,IntKind.wrap .i32 (IntKind.wrap .i64 (y_11.1-2))⟩:GOp)))) (cond (y_9.1==2) (cond (decide (n_1 > 0)) ((g_spec_l01Below n_1 y_9.2).bind λ y_12=>some (.inr (y_12.2,(⟨2,IntKind.wrap .i32 y_12.1⟩:GOp)))) (some (.inl (y_9.2,(⟨0,0⟩:GOp))))) (some (.inl (y_9.2,(⟨0,0⟩:GOp))))):Option ((GL01Cur×GOp) ⊕ (GL01Cur×GOp))).bind λ o=>match o with | .inl (x_5,x_6)=>(g_spec_l01PickInt [0,0,1,2,3,4,5,5,6,7,8,9,10,11,12,13,14,15,16,17,18,19,20,21,22,22,23] x_5).bind λ y_13=>some ((⟨1,IntKind.wrap .i32 y_13.1⟩:GOp),y_13.2) | .inr (x_7,x_8)=>some (x_8,x_7)
def g_spec_l09Body_l0 (rc_g_spec_l09Body:Int->Int->GL01Cur->Option ((List GOp)×GL01Cur)) (n_1:Int) (deep_2:Int) (k_9:Int):Nat->(List GOp)->Int->GL01Cur->Option ((List GOp)×GL01Cur)
 | 0,_,_,_=>none
 | k+1,out_10,i_11,x_12=>cond (decide (i_11 < k_9)) (((g_spec_l09Plain n_1 x_12).bind λ y_17=>(app out_10 [y_17.1]).bind λ v_18=>(cond (decide (deep_2<=0)) (some (true,y_17.2)) ((g_spec_l01Once 3 y_17.2).bind λ y_21=>some ((!y_21.1),y_21.2)):Option ((Bool×GL01Cur))).bind λ (v_19,x_20)=>cond v_19 (some (v_18,x_20)) ((rc_g_spec_l09Body n_1 (IntKind.wrap .i64 (deep_2-1)) x_20).bind λ y_22=>(g_spec_l01Below 3 y_22.2).bind λ y_23=>cond (y_23.1==0) ((g_spec_l01Below 4 y_23.2).bind λ y_24=>(app v_18 [(⟨0,IntKind.wrap .i32 y_24.1⟩:GOp),(⟨6,0⟩:GOp)]).bind λ v_25=>(app v_25 y_22.1).bind λ v_26=>(app v_26 [(⟨7,0⟩:GOp)]).bind λ v_27=>some (v_27,y_24.2)) (cond (y_23.1==1) ((app v_18 [(⟨3,0⟩:GOp)]).bind λ v_28=>(app v_28 y_22.1).bind λ v_29=>(app v_29 [(⟨5,0⟩:GOp)]).bind λ v_30=>some (v_30,y_23.2)) ((app v_18 [(⟨4,0⟩:GOp)]).bind λ v_31=>(app v_31 y_22.1).bind λ v_32=>(app v_32 [(⟨5,0⟩:GOp)]).bind λ v_33=>some (v_33,y_23.2)))):Option (((List GOp)×GL01Cur))).bind λ (out_15,x_16)=>g_spec_l09Body_l0 rc_g_spec_l09Body n_1 deep_2 k_9 k out_15 (IntKind.wrap .i64 (i_11+1)) x_16) (some (out_10,x_12))
def g_spec_l09Body_b (rc_g_spec_l09Body:Int->Int->GL01Cur->Option ((List GOp)×GL01Cur)) (n_1:Int) (deep_2:Int) (c_3:GL01Cur):Option ((List GOp)×GL01Cur):=(g_spec_l01Below 5 c_3).bind λ y_6=>((g_spec_l09Body_l0 rc_g_spec_l09Body n_1 deep_2 y_6.1 bigK ([]:List GOp) 0 y_6.2).bind λ (out_13,x_14)=>some (out_13,x_14):Option (((List GOp)×GL01Cur))).bind λ (out_7,x_8)=>((g_spec_l01Once 4 x_8).bind λ y_36=>cond y_36.1 ((app out_7 [(⟨8,0⟩:GOp)]).bind λ v_37=>some (v_37,y_36.2)) (some (out_7,y_36.2)):Option (((List GOp)×GL01Cur))).bind λ (out_34,x_35)=>some (out_34,x_35)
def g_spec_l09Body_r:Nat->Int->Int->GL01Cur->Option ((List GOp)×GL01Cur)
 | 0=>λ _ _ _=>none
 | k+1=>g_spec_l09Body_b (g_spec_l09Body_r k)
def g_spec_l09Body (n_1:Int) (deep_2:Int) (c_3:GL01Cur):Option ((List GOp)×GL01Cur):=g_spec_l09Body_r bigK n_1 deep_2 c_3
def g_spec_l01Pick (list_1:List Bs) (c_2:GL01Cur):Option (Bs×GL01Cur):=(g_spec_l01Below (list_1.length:Int) c_2).bind λ y_5=>(getI list_1 y_5.1).bind λ v_6=>some (v_6,y_5.2)
def g_spec_l09Make_l0 (n_7:Int):Nat->(List GDef)->Int->GL01Cur->Option ((List GDef)×GL01Cur)
 | 0,_,_,_=>none
 | k+1,out_8,i_9,x_10=>cond (decide (i_9 < n_7)) ((((g_spec_l01Once 4 x_10).bind λ y_17=>cond y_17.1 (some (n_7,y_17.2)) (some (i_9,y_17.2)):Option ((Int×GL01Cur))).bind λ (calls_15,x_16)=>(g_spec_l09Body calls_15 2 x_16).bind λ y_18=>(cond (decide ((y_18.1.length:Int) > 50)) (some ([]:List GOp)) (some y_18.1):Option ((List GOp))).bind λ body_19=>((g_spec_l01Below 6 y_18.2).bind λ y_22=>cond (y_22.1==0) (some (body_19,y_22.2)) (cond (y_22.1==1) ((cond (decide (calls_15 > 0)) ((g_spec_l01Below calls_15 y_22.2).bind λ y_25=>(app body_19 [(⟨2,IntKind.wrap .i32 y_25.1⟩:GOp)]).bind λ v_26=>some (v_26,y_25.2)) (some (body_19,y_22.2)):Option (((List GOp)×GL01Cur))).bind λ (body_23,x_24)=>(app body_23 [(⟨8,0⟩:GOp)]).bind λ v_27=>some (v_27,x_24)) ((app body_19 [(⟨8,0⟩:GOp)]).bind λ v_28=>some (v_28,y_22.2))):Option (((List GOp)×GL01Cur))).bind λ (body_20,x_21)=>(g_spec_l01Pick [[103,111],[120],[115,113,117,97,114,101],[97,33,97],[116,101,110]] x_21).bind λ y_29=>(app out_8 [(⟨y_29.1,body_20⟩:GDef)]).bind λ v_30=>some (v_30,y_29.2):Option (((List GDef)×GL01Cur))).bind λ (out_13,x_14)=>g_spec_l09Make_l0 n_7 k out_13 (IntKind.wrap .i64 (i_9+1)) x_14) (some (out_8,x_10))
def g_spec_l09Make (c_1:GL01Cur):Option ((List GDef)×GL01Cur):=(g_spec_l01Below 4 c_1).bind λ y_4=>((g_spec_l09Make_l0 (IntKind.wrap .i64 (1+y_4.1)) bigK ([]:List GDef) 0 y_4.2).bind λ (out_11,x_12)=>some (out_11,x_12):Option (((List GDef)×GL01Cur))).bind λ (out_5,x_6)=>some (out_5,x_6)
def g_spec_l04Int (c_1:GL01Cur):Option (Int×GL01Cur):=(g_spec_l01Once 2 c_1).bind λ y_4=>cond y_4.1 ((g_spec_l01Below 200 y_4.2).bind λ y_5=>some (IntKind.wrap .i32 (IntKind.wrap .i64 (y_5.1-40)),y_5.2)) ((g_spec_l01PickInt [0,67108863,67108864,(-67108864),(-67108865),2147483647,(-2147483648),1000000,(-1)] y_4.2).bind λ y_6=>some (IntKind.wrap .i32 y_6.1,y_6.2))
def g_spec_l09Any_l0:Nat->(List GOp)->GL01Cur->Option ((List GOp)×GL01Cur)
 | 0,_,_=>none
 | k+1,body_17,x_18=>(g_spec_l01Below 4 x_18).bind λ y_21=>cond (decide ((body_17.length:Int) < (IntKind.wrap .i64 (58+y_21.1)))) ((app body_17 [(⟨0,1⟩:GOp)]).bind λ v_22=>g_spec_l09Any_l0 k v_22 y_21.2) (some (body_17,y_21.2))
def g_spec_l09Any (c_1:GL01Cur):Option ((List GOp)×GL01Cur):=(g_spec_l09Body 3 3 c_1).bind λ y_4=>((g_spec_l01Below 8 y_4.2).bind λ y_9=>cond (y_9.1==0) ((g_spec_l01Below 11 y_9.2).bind λ y_10=>(g_spec_l01Below 3 y_10.2).bind λ y_11=>(app y_4.1 [(⟨IntKind.wrap .i64 (y_10.1-1),IntKind.wrap .i32 y_11.1⟩:GOp)]).bind λ v_12=>some (.inr (v_12,y_11.2))) (cond (y_9.1==1) (cond (decide ((y_4.1.length:Int) > 0)) ((g_spec_l01Below (y_4.1.length:Int) y_9.2).bind λ y_13=>(g_spec_l01Below 11 y_13.2).bind λ y_14=>(g_spec_l01PickInt [0,23,24,(-1)] y_14.2).bind λ y_15=>(getI y_4.1 y_13.1).bind λ v_16=>some (.inl (y_4.1.set y_13.1.toNat (⟨IntKind.wrap .i64 (y_14.1-1),IntKind.wrap .i32 y_15.1⟩:GOp),y_15.2))) (some (.inl (y_4.1,y_9.2)))) (cond (y_9.1==2) ((g_spec_l09Any_l0 bigK y_4.1 y_9.2).bind λ (body_19,x_20)=>some (.inl (body_19,x_20))) (some (.inl (y_4.1,y_9.2))))):Option (((List GOp)×GL01Cur) ⊕ ((List GOp)×GL01Cur))).bind λ o=>match o with | .inl (body_5,x_6)=>some (body_5,x_6) | .inr (v_7,x_8)=>some (v_7,x_8)
def g_spec_l15Body_l0 (n_7:Int):Nat->(List GOp)->Int->GL01Cur->Option ((List GOp)×GL01Cur)
 | 0,_,_,_=>none
 | k+1,out_8,i_9,x_10=>cond (decide (i_9 < n_7)) (((g_spec_l01Below 4 x_10).bind λ y_15=>(cond (y_15.1==0) (some (y_15.1==0)) (some (y_15.1==1)):Option (Bool)).bind λ v_16=>cond v_16 ((g_spec_l04Int y_15.2).bind λ y_17=>(app out_8 [(⟨0,y_17.1⟩:GOp)]).bind λ v_18=>some (v_18,y_17.2)) (cond (y_15.1==2) ((g_spec_l01PickInt [0,1,4,5,6,7,8,9,10,11,23,4,1] y_15.2).bind λ y_19=>(app out_8 [(⟨1,IntKind.wrap .i32 y_19.1⟩:GOp)]).bind λ v_20=>some (v_20,y_19.2)) ((g_spec_l09Body 3 1 y_15.2).bind λ y_21=>(app out_8 y_21.1).bind λ v_22=>some (v_22,y_21.2))):Option (((List GOp)×GL01Cur))).bind λ (out_13,x_14)=>g_spec_l15Body_l0 n_7 k out_13 (IntKind.wrap .i64 (i_9+1)) x_14) (some (out_8,x_10))
def g_spec_l15Body (c_1:GL01Cur):Option ((List GOp)×GL01Cur):=(g_spec_l01Below 10 c_1).bind λ y_4=>((g_spec_l15Body_l0 y_4.1 bigK ([]:List GOp) 0 y_4.2).bind λ (out_11,x_12)=>some (out_11,x_12):Option (((List GOp)×GL01Cur))).bind λ (out_5,x_6)=>(cond (decide ((out_5.length:Int) > 60)) (some (true,x_6)) ((g_spec_l01Once 12 x_6).bind λ y_25=>some (y_25.1,y_25.2)):Option ((Bool×GL01Cur))).bind λ (v_23,x_24)=>cond v_23 ((g_spec_l09Any x_24).bind λ y_26=>some (y_26.1,y_26.2)) (some (out_5,x_24))
def g_spec_l08Names:Option (List Bs):=some [[100,117,112],[100,114,111,112],[111,118,101,114],[110,105,112],[115,119,97,112],[43],[45],[42],[97,110,100],[111,114],[50,42],[50,47],[47,109,111,100],[64],[33],[97],[97,33],[101,109,105,116],[107,101,121],[112,117,115,104],[112,111,112],[105],[46],[110,111,112]]
def g_spec_l01In (x_1:Int) (a_2:Int) (b_3:Int):Option Bool:=cond (decide (x_1 ≥ a_2)) (some (decide (x_1<=b_3))) (some false)
def g_spec_PrimName (k_1:Int):Option Bs:=(g_spec_l08Names).bind λ y_3=>(g_spec_l01In k_1 0 (IntKind.wrap .i64 ((y_3.length:Int)-1))).bind λ y_4=>cond (!y_4) (some []) ((getI y_3 k_1).bind λ v_5=>some v_5)
def g_spec_l09Op (o_1:GOp):Option Bool:=cond (o_1.Kind==0) (some true) (cond (o_1.Kind==1) ((g_spec_PrimName (IntKind.wrap .i64 o_1.N)).bind λ y_3=>some (y_3 != [])) (cond (o_1.Kind==2) ((g_spec_l01In (IntKind.wrap .i64 o_1.N) 0 23).bind λ y_4=>some y_4) ((g_spec_l01In o_1.Kind 3 8).bind λ y_5=>cond y_5 (some (o_1.N==0)) (some false))))
def g_spec_l09Open_l0 (body_1:List GOp):Nat->(List Int)->Int->Option ((List Int) ⊕ Bool)
 | 0,_,_=>none
 | k+1,vopen_6,i_7=>cond (decide (i_7 < (body_1.length:Int))) (((getI body_1 i_7).bind λ v_12=>(cond (v_12.Kind==3) (some (v_12.Kind==3)) (cond (v_12.Kind==4) (some (v_12.Kind==4)) (some (v_12.Kind==6))):Option (Bool)).bind λ v_13=>cond v_13 ((app vopen_6 [v_12.Kind]).bind λ v_14=>some (.inl v_14)) ((cond (v_12.Kind==5) (some (v_12.Kind==5)) (some (v_12.Kind==7)):Option (Bool)).bind λ v_15=>cond v_15 ((cond ((vopen_6.length:Int)==0) (some true) ((getI vopen_6 (IntKind.wrap .i64 ((vopen_6.length:Int)-1))).bind λ v_17=>some ((v_17==6) != (v_12.Kind==7))):Option (Bool)).bind λ v_16=>cond v_16 (some (.inr false)) ((subL vopen_6 0 (IntKind.wrap .i64 ((vopen_6.length:Int)-1))).bind λ v_18=>some (.inl v_18))) (some (.inl vopen_6))):Option ((List Int) ⊕ Bool)).bind λ o=>match o with | .inl vopen_10=>g_spec_l09Open_l0 body_1 k vopen_10 (IntKind.wrap .i64 (i_7+1)) | .inr v_11=>some (.inr v_11)) (some (.inl vopen_6))
def g_spec_l09Open (body_1:List GOp):Option ((List Int)×Bool):=((g_spec_l09Open_l0 body_1 bigK ([]:List Int) 0).bind λ o=>match o with | .inl vopen_8=>some (.inl vopen_8) | .inr v_9=>some (.inr v_9):Option ((List Int) ⊕ Bool)).bind λ o=>match o with | .inl vopen_4=>some (vopen_4,true) | .inr v_5=>some ([],v_5)
def g_spec_ShapeOk_l0 (body_1:List GOp):Nat->Int->Option (Unit ⊕ Bool)
 | 0,_=>none
 | k+1,i_4=>cond (decide (i_4 < (body_1.length:Int))) ((getI body_1 i_4).bind λ v_6=>(g_spec_l09Op v_6).bind λ y_7=>cond (!y_7) (some (.inr false)) (g_spec_ShapeOk_l0 body_1 k (IntKind.wrap .i64 (i_4+1)))) (some (.inl ()))
def g_spec_ShapeOk (body_1:List GOp):Option Bool:=cond (decide ((body_1.length:Int) > 60)) (some false) (((g_spec_ShapeOk_l0 body_1 bigK 0).bind λ o=>match o with | .inl ()=>some (.inl ()) | .inr v_5=>some (.inr v_5):Option (Unit ⊕ Bool)).bind λ o=>match o with | .inl ()=>(g_spec_l09Open body_1).bind λ y_8=>cond y_8.2 (some ((y_8.1.length:Int)==0)) (some false) | .inr v_3=>some v_3)
def g_spec_DrawSimpleOf_l0:Nat->(List GDef)->Int->GL01Cur->Option ((List GDef)×GL01Cur)
 | 0,_,_,_=>none
 | k+1,defs_7,i_8,x_9=>cond (decide (i_8 < (defs_7.length:Int))) (((g_spec_l15Body x_9).bind λ y_14=>(app y_14.1 [(⟨8,0⟩:GOp)]).bind λ v_15=>((g_spec_l01Once 2 y_14.2).bind λ y_19=>cond y_19.1 ((g_spec_ShapeOk v_15).bind λ y_20=>some (v_15,y_20,y_19.2)) (some (v_15,false,y_19.2)):Option (((List GOp)×Bool×GL01Cur))).bind λ (body_16,v_17,x_18)=>cond v_17 ((getI defs_7 i_8).bind λ v_21=>some (defs_7.set i_8.toNat (⟨v_21.Name,body_16⟩:GDef),x_18)) (some (defs_7,x_18)):Option (((List GDef)×GL01Cur))).bind λ (defs_12,x_13)=>g_spec_DrawSimpleOf_l0 k defs_12 (IntKind.wrap .i64 (i_8+1)) x_13) (some (defs_7,x_9))
def g_spec_DrawSimpleOf (code_1:List Int):Option (List GDef):=(g_spec_l01New code_1).bind λ y_3=>(g_spec_l09Make y_3).bind λ y_4=>((g_spec_DrawSimpleOf_l0 bigK y_4.1 0 y_4.2).bind λ (defs_10,x_11)=>some (defs_10,x_11):Option (((List GDef)×GL01Cur))).bind λ (defs_5,x_6)=>some defs_5
def g_impl_letters:Option Bs:=some [32,114,116,111,101,97,110,105,115,109,99,121,108,103,102,119,100,118,112,98,104,120,117,113,48,49,50,51,52,53,54,55,56,57,106,45,107,46,122,47,59,39,33,43,64,42,44,63]
def g_ibytealg_IndexByteString (s_1:Bs) (c_2:Int):Option Int:=gIdxB s_1 c_2
def g_istringslite_IndexByte (s_1:Bs) (c_2:Int):Option Int:=(g_ibytealg_IndexByteString s_1 c_2).bind λ y_4=>some y_4
def g_strings_IndexByte (s_1:Bs) (c_2:Int):Option Int:=(g_istringslite_IndexByte s_1 c_2).bind λ y_4=>some y_4
def g_impl_LetterOf (b_1:Int):Option Int:=(g_impl_letters).bind λ y_3=>(g_strings_IndexByte y_3 b_1).bind λ y_4=>some y_4
def g_impl_NameOk_l0 (s_1:Bs) (v_4:Int):Nat->Int->Option (Unit ⊕ Bool)
 | 0,_=>none
 | k+1,v_5=>cond (decide (v_5 < v_4)) ((idxS s_1 v_5).bind λ v_7=>(g_impl_LetterOf v_7).bind λ y_8=>cond (decide (y_8 < 1)) (some (.inr false)) (g_impl_NameOk_l0 s_1 v_4 k (IntKind.wrap .i64 (v_5+1)))) (some (.inl ()))
def g_impl_NameOk (s_1:Bs):Option Bool:=((g_impl_NameOk_l0 s_1 (s_1.length:Int) bigK 0).bind λ o=>match o with | .inl ()=>some (.inl ()) | .inr v_6=>some (.inr v_6):Option (Unit ⊕ Bool)).bind λ o=>match o with | .inl ()=>(g_impl_within (s_1.length:Int) 1 24).bind λ y_9=>some y_9 | .inr v_3=>some v_3
def g_impl_opOk (o_1:GOp):Option Bool:=cond (o_1.Kind==0) (some true) (cond (o_1.Kind==1) ((g_impl_PrimName (IntKind.wrap .i64 o_1.N)).bind λ y_3=>some (y_3 != [])) (cond (o_1.Kind==2) ((g_impl_within (IntKind.wrap .i64 o_1.N) 0 23).bind λ y_4=>some y_4) ((g_impl_within o_1.Kind 3 8).bind λ y_5=>cond y_5 (some (o_1.N==0)) (some false))))
def g_impl_openIn_l0 (v_7:List GOp) (v_8:Int):Nat->(List Int)->Int->Option ((List Int) ⊕ ((List Int)×Bool))
 | 0,_,_=>none
 | k+1,vopen_9,v_10=>cond (decide (v_10 < v_8)) (((getI v_7 v_10).bind λ v_17=>(g_impl_opOk v_17).bind λ y_18=>cond (!y_18) (some (.inr ([],false))) ((cond (v_17.Kind==3) (some true) (cond (v_17.Kind==4) (some true) (some (v_17.Kind==6))):Option (Bool)).bind λ v_19=>cond v_19 ((app vopen_9 [v_17.Kind]).bind λ v_20=>some (.inl v_20)) ((cond (v_17.Kind==5) (some true) (some (v_17.Kind==7)):Option (Bool)).bind λ v_21=>cond v_21 ((cond (decide ((IntKind.wrap .i64 ((vopen_9.length:Int)-1)) < 0)) (some true) ((getI vopen_9 (IntKind.wrap .i64 ((vopen_9.length:Int)-1))).bind λ v_23=>some ((v_23==6) != (v_17.Kind==7))):Option (Bool)).bind λ v_22=>cond v_22 (some (.inr ([],false))) ((subL vopen_9 0 (IntKind.wrap .i64 ((vopen_9.length:Int)-1))).bind λ v_24=>some (.inl v_24))) (some (.inl vopen_9)))):Option ((List Int) ⊕ ((List Int)×Bool))).bind λ o=>match o with | .inl vopen_14=>g_impl_openIn_l0 v_7 v_8 k vopen_14 (IntKind.wrap .i64 (v_10+1)) | .inr (v_15,v_16)=>some (.inr (v_15,v_16))) (some (.inl vopen_9))
def g_impl_openIn (body_1:List GOp):Option ((List Int)×Bool):=((g_impl_openIn_l0 body_1 (body_1.length:Int) bigK ([]:List Int) 0).bind λ o=>match o with | .inl vopen_11=>some (.inl vopen_11) | .inr (v_12,v_13)=>some (.inr (v_12,v_13)):Option ((List Int) ⊕ ((List Int)×Bool))).bind λ o=>match o with | .inl vopen_4=>some (vopen_4,decide ((body_1.length:Int)<=60)) | .inr (v_5,v_6)=>some (v_5,v_6)
def g_impl_ShapeOk (body_1:List GOp):Option Bool:=(g_impl_openIn body_1).bind λ y_3=>cond y_3.2 (some ((y_3.1.length:Int)==0)) (some false)
def g_impl_callsBelowc1 (o_1:GOp) (a_2:Int):Option Bool:=cond (o_1.Kind==2) (some (decide ((IntKind.wrap .i64 o_1.N) ≥ a_2))) (some false)
def g_slices_IndexFunc_Op_impl_callsBelowc1_l0 (s_1:List GOp) (v_5:Int) (c_2:Int):Nat->Int->Option (Unit ⊕ Int)
 | 0,_=>none
 | k+1,v_6=>cond (decide (v_6 < v_5)) ((getI s_1 v_6).bind λ v_8=>(g_impl_callsBelowc1 v_8 c_2).bind λ y_9=>cond y_9 (some (.inr v_6)) (g_slices_IndexFunc_Op_impl_callsBelowc1_l0 s_1 v_5 c_2 k (IntKind.wrap .i64 (v_6+1)))) (some (.inl ()))
def g_slices_IndexFunc_Op_impl_callsBelowc1 (s_1:List GOp) (c_2:Int):Option Int:=((g_slices_IndexFunc_Op_impl_callsBelowc1_l0 s_1 (s_1.length:Int) c_2 bigK 0).bind λ o=>match o with | .inl ()=>some (.inl ()) | .inr v_7=>some (.inr v_7):Option (Unit ⊕ Int)).bind λ o=>match o with | .inl ()=>some (-1) | .inr v_4=>some v_4
def g_slices_ContainsFunc_Op_impl_callsBelowc1 (s_1:List GOp) (c_2:Int):Option Bool:=(g_slices_IndexFunc_Op_impl_callsBelowc1 s_1 c_2).bind λ y_4=>some (decide (y_4 ≥ 0))
def g_impl_callsBelow (body_1:List GOp) (n_2:Int):Option Bool:=(g_slices_ContainsFunc_Op_impl_callsBelowc1 body_1 n_2).bind λ y_4=>some (!y_4)
def g_impl_DefsOkc1 (d_1:GDef) (a_2:List GDef):Option Bool:=(g_impl_NameOk d_1.Name).bind λ y_4=>cond (!y_4) (some true) ((g_impl_ShapeOk d_1.Body).bind λ y_5=>cond (!y_5) (some true) ((g_impl_callsBelow d_1.Body (a_2.length:Int)).bind λ y_6=>some (!y_6)))
def g_slices_IndexFunc_Def_impl_DefsOkc1_l0 (s_1:List GDef) (v_5:Int) (c_2:List GDef):Nat->Int->Option (Unit ⊕ Int)
 | 0,_=>none
 | k+1,v_6=>cond (decide (v_6 < v_5)) ((getI s_1 v_6).bind λ v_8=>(g_impl_DefsOkc1 v_8 c_2).bind λ y_9=>cond y_9 (some (.inr v_6)) (g_slices_IndexFunc_Def_impl_DefsOkc1_l0 s_1 v_5 c_2 k (IntKind.wrap .i64 (v_6+1)))) (some (.inl ()))
def g_slices_IndexFunc_Def_impl_DefsOkc1 (s_1:List GDef) (c_2:List GDef):Option Int:=((g_slices_IndexFunc_Def_impl_DefsOkc1_l0 s_1 (s_1.length:Int) c_2 bigK 0).bind λ o=>match o with | .inl ()=>some (.inl ()) | .inr v_7=>some (.inr v_7):Option (Unit ⊕ Int)).bind λ o=>match o with | .inl ()=>some (-1) | .inr v_4=>some v_4
def g_slices_ContainsFunc_Def_impl_DefsOkc1 (s_1:List GDef) (c_2:List GDef):Option Bool:=(g_slices_IndexFunc_Def_impl_DefsOkc1 s_1 c_2).bind λ y_4=>some (decide (y_4 ≥ 0))
def g_impl_DefsOk (defs_1:List GDef):Option Bool:=cond (decide ((defs_1.length:Int)<=24)) ((g_slices_ContainsFunc_Def_impl_DefsOkc1 defs_1 defs_1).bind λ y_3=>some (!y_3)) (some false)
def g_impl_grow_l0 (rc_g_impl_grow:(List GOp)->Option ((List GTree)×(List GOp))):Nat->(List GOp)->(List GTree)->Option ((List GTree) ⊕ ((List GTree)×(List GOp)))
 | 0,_,_=>none
 | k+1,body_4,out_5=>cond (decide ((body_4.length:Int) > 0)) ((getI body_4 0).bind λ v_9=>(subL body_4 1 (body_4.length:Int)).bind λ v_10=>((cond (v_9.Kind==5) (some (v_9.Kind==5)) (some (v_9.Kind==7)):Option (Bool)).bind λ v_20=>cond v_20 (some (.inr (out_5,v_10,(⟨v_9.Kind,v_9.N,[]⟩:GTree)))) ((cond (v_9.Kind==3) (some (v_9.Kind==3)) (cond (v_9.Kind==4) (some (v_9.Kind==4)) (some (v_9.Kind==6))):Option (Bool)).bind λ v_21=>cond v_21 ((rc_g_impl_grow v_10).bind λ y_22=>some (.inl (y_22.2,out_5,(⟨v_9.Kind,v_9.N,y_22.1⟩:GTree)))) (some (.inl (v_10,out_5,(⟨v_9.Kind,v_9.N,[]⟩:GTree))))):Option (((List GOp)×(List GTree)×GTree) ⊕ ((List GTree)×(List GOp)×GTree))).bind λ o=>match o with | .inl (body_14,out_15,x_16)=>(app out_15 [(⟨x_16.Kind,x_16.N,x_16.Kids⟩:GTree)]).bind λ v_23=>g_impl_grow_l0 rc_g_impl_grow k body_14 v_23 | .inr (v_17,v_18,x_19)=>some (.inr (v_17,v_18))) (some (.inl out_5))
def g_impl_grow_b (rc_g_impl_grow:(List GOp)->Option ((List GTree)×(List GOp))) (body_1:List GOp):Option ((List GTree)×(List GOp)):=(g_impl_grow_l0 rc_g_impl_grow bigK body_1 ([]:List GTree)).bind λ o=>match o with | .inl out_6=>some (out_6,[]) | .inr (v_7,v_8)=>some (v_7,v_8)
def g_impl_grow_r:Nat->(List GOp)->Option ((List GTree)×(List GOp))
 | 0=>λ _=>none
 | k+1=>g_impl_grow_b (g_impl_grow_r k)
def g_impl_grow (body_1:List GOp):Option ((List GTree)×(List GOp)):=g_impl_grow_r bigK body_1
def g_impl_TreeOf (body_1:List GOp):Option (List GTree):=(g_impl_ShapeOk body_1).bind λ y_3=>cond (!y_3) (some []) ((g_impl_grow body_1).bind λ y_4=>some y_4.1)
def g_impl_pruned_imm_l0 (rc_g_impl_pruned_imm:(List GTree)->Option (List GTree)) (v_4:List GTree) (v_5:Int):Nat->(List GTree)->Int->Option (List GTree)
 | 0,_,_=>none
 | k+1,out_6,v_7=>cond (decide (v_7 < v_5)) ((getI v_4 v_7).bind λ v_9=>(rc_g_impl_pruned_imm v_9.Kids).bind λ y_10=>(app out_6 [(⟨v_9.Kind,v_9.N,y_10⟩:GTree)]).bind λ v_11=>cond (v_9.Kind==8) (some v_11) (g_impl_pruned_imm_l0 rc_g_impl_pruned_imm v_4 v_5 k v_11 (IntKind.wrap .i64 (v_7+1)))) (some out_6)
def g_impl_pruned_imm_b (rc_g_impl_pruned_imm:(List GTree)->Option (List GTree)) (list_1:List GTree):Option (List GTree):=((g_impl_pruned_imm_l0 rc_g_impl_pruned_imm list_1 (list_1.length:Int) bigK ([]:List GTree) 0).bind λ out_8=>some out_8:Option ((List GTree))).bind λ out_3=>some out_3
def g_impl_pruned_imm_r:Nat->(List GTree)->Option (List GTree)
 | 0=>λ _=>none
 | k+1=>g_impl_pruned_imm_b (g_impl_pruned_imm_r k)
def g_impl_pruned_imm (list_1:List GTree):Option (List GTree):=g_impl_pruned_imm_r bigK list_1
def g_impl_pruned_l0 (v_4:List GTree) (v_5:Int):Nat->(List GTree)->Int->Option (List GTree)
 | 0,_,_=>none
 | k+1,out_6,v_7=>cond (decide (v_7 < v_5)) ((getI v_4 v_7).bind λ v_9=>(g_impl_pruned_imm v_9.Kids).bind λ y_10=>(app out_6 [(⟨v_9.Kind,v_9.N,y_10⟩:GTree)]).bind λ v_11=>cond (v_9.Kind==8) (some v_11) (g_impl_pruned_l0 v_4 v_5 k v_11 (IntKind.wrap .i64 (v_7+1)))) (some out_6)
def g_impl_pruned (list_1:List GTree):Option (List GTree):=((g_impl_pruned_l0 list_1 (list_1.length:Int) bigK ([]:List GTree) 0).bind λ out_8=>some out_8:Option ((List GTree))).bind λ out_3=>some out_3
def g_impl_flat_l0 (rc_g_impl_flat:(List GTree)->(List GOp)->Option ((List GOp)×Bool)) (v_8:List GTree) (v_9:Int):Nat->(List GOp)->Int->Option ((List GOp) ⊕ ((List GOp)×Bool))
 | 0,_,_=>none
 | k+1,body_10,v_11=>cond (decide (v_11 < v_9)) (((getI v_8 v_11).bind λ v_18=>((cond (decide ((body_10.length:Int) > 60)) (some true) (cond (v_18.Kind==5) (some true) (some (v_18.Kind==7))):Option (Bool)).bind λ v_21=>cond v_21 (some (.inr false)) (cond (v_18.Kind==6) (some (.inl 7)) (some (.inl 5))):Option (Int ⊕ Bool)).bind λ o=>match o with | .inl ends_19=>(app body_10 [(⟨v_18.Kind,v_18.N⟩:GOp)]).bind λ v_22=>(cond (v_18.Kind != 3) (cond (v_18.Kind != 4) (some (v_18.Kind != 6)) (some false)) (some false):Option (Bool)).bind λ v_23=>cond v_23 (cond (decide ((v_18.Kids.length:Int) > 0)) (some (.inr ([],false))) (some (.inl v_22))) ((rc_g_impl_flat v_18.Kids v_22).bind λ y_24=>cond (!y_24.2) (some (.inr ([],false))) ((app y_24.1 [(⟨ends_19,0⟩:GOp)]).bind λ v_25=>some (.inl v_25))) | .inr v_20=>some (.inr ([],v_20)):Option ((List GOp) ⊕ ((List GOp)×Bool))).bind λ o=>match o with | .inl body_15=>g_impl_flat_l0 rc_g_impl_flat v_8 v_9 k body_15 (IntKind.wrap .i64 (v_11+1)) | .inr (v_16,v_17)=>some (.inr (v_16,v_17))) (some (.inl body_10))
def g_impl_flat_b (rc_g_impl_flat:(List GTree)->(List GOp)->Option ((List GOp)×Bool)) (list_1:List GTree) (body_2:List GOp):Option ((List GOp)×Bool):=((g_impl_flat_l0 rc_g_impl_flat list_1 (list_1.length:Int) bigK body_2 0).bind λ o=>match o with | .inl body_12=>some (.inl body_12) | .inr (v_13,v_14)=>some (.inr (v_13,v_14)):Option ((List GOp) ⊕ ((List GOp)×Bool))).bind λ o=>match o with | .inl body_5=>some (body_5,true) | .inr (v_6,v_7)=>some (v_6,v_7)
def g_impl_flat_r:Nat->(List GTree)->(List GOp)->Option ((List GOp)×Bool)
 | 0=>λ _ _=>none
 | k+1=>g_impl_flat_b (g_impl_flat_r k)
def g_impl_flat (list_1:List GTree) (body_2:List GOp):Option ((List GOp)×Bool):=g_impl_flat_r bigK list_1 body_2
def g_impl_flat_emp_l0 (v_7:List GTree) (v_8:Int):Nat->(List GOp)->Int->Option ((List GOp) ⊕ ((List GOp)×Bool))
 | 0,_,_=>none
 | k+1,body_9,v_10=>cond (decide (v_10 < v_8)) (((getI v_7 v_10).bind λ v_17=>((cond (decide ((body_9.length:Int) > 60)) (some true) (cond (v_17.Kind==5) (some true) (some (v_17.Kind==7))):Option (Bool)).bind λ v_20=>cond v_20 (some (.inr false)) (cond (v_17.Kind==6) (some (.inl 7)) (some (.inl 5))):Option (Int ⊕ Bool)).bind λ o=>match o with | .inl ends_18=>(app body_9 [(⟨v_17.Kind,v_17.N⟩:GOp)]).bind λ v_21=>(cond (v_17.Kind != 3) (cond (v_17.Kind != 4) (some (v_17.Kind != 6)) (some false)) (some false):Option (Bool)).bind λ v_22=>cond v_22 (cond (decide ((v_17.Kids.length:Int) > 0)) (some (.inr ([],false))) (some (.inl v_21))) ((g_impl_flat v_17.Kids v_21).bind λ y_23=>cond (!y_23.2) (some (.inr ([],false))) ((app y_23.1 [(⟨ends_18,0⟩:GOp)]).bind λ v_24=>some (.inl v_24))) | .inr v_19=>some (.inr ([],v_19)):Option ((List GOp) ⊕ ((List GOp)×Bool))).bind λ o=>match o with | .inl body_14=>g_impl_flat_emp_l0 v_7 v_8 k body_14 (IntKind.wrap .i64 (v_10+1)) | .inr (v_15,v_16)=>some (.inr (v_15,v_16))) (some (.inl body_9))
def g_impl_flat_emp (list_1:List GTree):Option ((List GOp)×Bool):=((g_impl_flat_emp_l0 list_1 (list_1.length:Int) bigK [] 0).bind λ o=>match o with | .inl body_11=>some (.inl body_11) | .inr (v_12,v_13)=>some (.inr (v_12,v_13)):Option ((List GOp) ⊕ ((List GOp)×Bool))).bind λ o=>match o with | .inl body_4=>some (body_4,true) | .inr (v_5,v_6)=>some (v_5,v_6)
def g_impl_FlatOf (list_1:List GTree):Option (List GOp):=(g_impl_flat_emp list_1).bind λ y_3=>(cond (!y_3.2) (some true) ((g_impl_ShapeOk y_3.1).bind λ y_5=>some (!y_5)):Option (Bool)).bind λ v_4=>cond v_4 (some []) (some y_3.1)
def g_impl_prune (body_1:List GOp):Option (List GOp):=(g_impl_TreeOf body_1).bind λ y_3=>(g_impl_pruned y_3).bind λ y_4=>(g_impl_FlatOf y_4).bind λ y_5=>some y_5
def g_slices_Clone_Op (s_1:List GOp):Option (List GOp):=app ([]:List GOp) s_1
def g_impl_foldedc1 (k_1:Int) (a_2:List GOp):Option GOp:=cond (decide (k_1 < (a_2.length:Int))) ((getI a_2 k_1).bind λ v_4=>some v_4) (some (⟨8,0⟩:GOp))
def g_slices_Index_string_l0 (s_1:List Bs) (v_2:Bs) (v_5:Int):Nat->Int->Option (Unit ⊕ Int)
 | 0,_=>none
 | k+1,v_6=>cond (decide (v_6 < v_5)) ((getI s_1 v_6).bind λ v_8=>cond (v_2==v_8) (some (.inr v_6)) (g_slices_Index_string_l0 s_1 v_2 v_5 k (IntKind.wrap .i64 (v_6+1)))) (some (.inl ()))
def g_slices_Index_string (s_1:List Bs) (v_2:Bs):Option Int:=((g_slices_Index_string_l0 s_1 v_2 (s_1.length:Int) bigK 0).bind λ o=>match o with | .inl ()=>some (.inl ()) | .inr v_7=>some (.inr v_7):Option (Unit ⊕ Int)).bind λ o=>match o with | .inl ()=>some (-1) | .inr v_4=>some v_4
def g_slices_Contains_string (s_1:List Bs) (v_2:Bs):Option Bool:=(g_slices_Index_string s_1 v_2).bind λ y_4=>some (decide (y_4 ≥ 0))
def g_impl_isPrim (o_1:GOp) (names_2:List Bs):Option Bool:=cond (o_1.Kind==1) ((g_impl_PrimName (IntKind.wrap .i64 o_1.N)).bind λ y_4=>(g_slices_Contains_string names_2 y_4).bind λ y_5=>some y_5) (some false)
def g_impl_foldedc2 (name_1:Bs) (x_2:Int) (y_3:Int):Option (List GOp):=(g_impl_result name_1 x_2 y_3).bind λ y_5=>(getI y_5.1 0).bind λ v_6=>some [(⟨0,v_6⟩:GOp)]
def g_impl_folded (body_1:List GOp):Option ((List GOp)×Int):=(g_impl_foldedc1 0 body_1).bind λ y_4=>(g_impl_foldedc1 1 body_1).bind λ y_5=>(g_impl_foldedc1 2 body_1).bind λ y_6=>((cond (y_4.Kind==0) (cond (y_5.Kind==0) ((g_impl_isPrim y_6 [[43],[42],[97,110,100],[111,114]]).bind λ y_10=>some y_10) (some false)) (some false):Option (Bool)).bind λ v_9=>cond v_9 ((g_impl_PrimName (IntKind.wrap .i64 y_6.N)).bind λ y_11=>(g_impl_foldedc2 y_11 y_4.N y_5.N).bind λ y_12=>some (.inr (y_12,3))) ((cond (y_4.Kind==0) ((g_impl_isPrim y_5 [[45],[50,42],[50,47]]).bind λ y_14=>some y_14) (some false):Option (Bool)).bind λ v_13=>cond v_13 ((g_impl_PrimName (IntKind.wrap .i64 y_5.N)).bind λ y_15=>(g_impl_foldedc2 y_15 0 y_4.N).bind λ y_16=>some (.inr (y_16,2))) (((cond (y_4.Kind==0) ((g_impl_isPrim y_5 [[100,114,111,112]]).bind λ y_19=>some y_19) (some false):Option (Bool)).bind λ v_18=>cond v_18 (some v_18) (((g_impl_isPrim y_4 [[100,117,112]]).bind λ y_21=>cond y_21 ((g_impl_isPrim y_5 [[100,114,111,112]]).bind λ y_22=>some y_22) (some false):Option (Bool)).bind λ v_20=>cond v_20 (some v_20) (((g_impl_isPrim y_4 [[115,119,97,112]]).bind λ y_24=>cond y_24 ((g_impl_isPrim y_5 [[115,119,97,112]]).bind λ y_25=>some y_25) (some false):Option (Bool)).bind λ v_23=>cond v_23 (some v_23) ((g_impl_isPrim y_4 [[45]]).bind λ y_26=>cond y_26 ((g_impl_isPrim y_5 [[45]]).bind λ y_27=>some y_27) (some false)))):Option (Bool)).bind λ v_17=>cond v_17 (some (.inr ([],2))) ((g_impl_isPrim y_4 [[110,111,112]]).bind λ y_28=>cond y_28 (some (.inr ([],1))) (some (.inl ()))))):Option (Unit ⊕ ((List GOp)×Int))).bind λ o=>match o with | .inl ()=>some ([],0) | .inr (v_7,v_8)=>some (v_7,v_8)
def g_slices_Replace_Op (s_1:List GOp) (i_2 j_3:Int) (v_4:List GOp):Option (List GOp):=gRep s_1 i_2 j_3 v_4
def g_impl_Fold_l0:Nat->(List GOp)->Int->Option (List GOp)
 | 0,_,_=>none
 | k+1,out_6,i_7=>cond (decide (i_7 < (out_6.length:Int))) ((subL out_6 i_7 ((out_6.length:Nat):Int)).bind λ v_9=>(g_impl_folded v_9).bind λ y_10=>cond (y_10.2==0) (g_impl_Fold_l0 k out_6 (IntKind.wrap .i64 (i_7+1))) ((g_slices_Replace_Op out_6 i_7 (IntKind.wrap .i64 (i_7+y_10.2)) y_10.1).bind λ y_11=>g_impl_Fold_l0 k y_11 0)) (some out_6)
def g_impl_Fold (body_1:List GOp):Option (List GOp):=(g_impl_ShapeOk body_1).bind λ y_3=>cond (!y_3) (some []) ((g_slices_Clone_Op body_1).bind λ y_4=>((g_impl_Fold_l0 bigK y_4 0).bind λ out_8=>some out_8:Option ((List GOp))).bind λ out_5=>some out_5)
def g_impl_Fold_imm_l0:Nat->(List GOp)->Int->Option (List GOp)
 | 0,_,_=>none
 | k+1,out_6,i_7=>cond (decide (i_7 < (out_6.length:Int))) ((subL out_6 i_7 ((out_6.length:Nat):Int)).bind λ v_9=>(g_impl_folded v_9).bind λ y_10=>cond (y_10.2==0) (g_impl_Fold_imm_l0 k out_6 (IntKind.wrap .i64 (i_7+1))) ((g_slices_Replace_Op out_6 i_7 (IntKind.wrap .i64 (i_7+y_10.2)) y_10.1).bind λ y_11=>g_impl_Fold_imm_l0 k y_11 0)) (some out_6)
def g_impl_Fold_imm (body_1:List GOp):Option (List GOp):=(g_impl_ShapeOk body_1).bind λ y_3=>cond (!y_3) (some []) ((g_slices_Clone_Op body_1).bind λ y_4=>((g_impl_Fold_imm_l0 bigK y_4 0).bind λ out_8=>some out_8:Option ((List GOp))).bind λ out_5=>some out_5)
def g_impl_SimpleOf_l0 (v_5:List GDef) (v_6:Int):Nat->(List GDef)->Int->Option (List GDef)
 | 0,_,_=>none
 | k+1,out_7,v_8=>cond (decide (v_8 < v_6)) ((getI v_5 v_8).bind λ v_10=>(g_impl_prune v_10.Body).bind λ y_11=>(g_impl_Fold_imm y_11).bind λ y_12=>(app out_7 [(⟨v_10.Name,y_12⟩:GDef)]).bind λ v_13=>g_impl_SimpleOf_l0 v_5 v_6 k v_13 (IntKind.wrap .i64 (v_8+1))) (some out_7)
def g_spec_l02All:Option Bs:=some [32,114,116,111,101,97,110,105,115,109,99,121,108,103,102,119,100,118,112,98,104,120,117,113,48,49,50,51,52,53,54,55,56,57,106,45,107,46,122,47,59,39,33,43,64,42,44,63]
def g_spec_LetterOf_l0 (b_1:Int) (y_3:Bs):Nat->Int->Option (Unit ⊕ Int)
 | 0,_=>none
 | k+1,i_5=>cond (decide (i_5 < (y_3.length:Int))) ((idxS y_3 i_5).bind λ v_7=>cond (v_7==b_1) (some (.inr i_5)) (g_spec_LetterOf_l0 b_1 y_3 k (IntKind.wrap .i64 (i_5+1)))) (some (.inl ()))
def g_spec_LetterOf (b_1:Int):Option Int:=(g_spec_l02All).bind λ y_3=>((g_spec_LetterOf_l0 b_1 y_3 bigK 0).bind λ o=>match o with | .inl ()=>some (.inl ()) | .inr v_6=>some (.inr v_6):Option (Unit ⊕ Int)).bind λ o=>match o with | .inl ()=>some (-1) | .inr v_4=>some v_4
def g_spec_NameOk_l0 (s_1:Bs):Nat->Int->Option (Unit ⊕ Bool)
 | 0,_=>none
 | k+1,i_5=>cond (decide (i_5 < (s_1.length:Int))) ((idxS s_1 i_5).bind λ v_7=>(g_spec_LetterOf v_7).bind λ y_8=>cond (decide (y_8 < 1)) (some (.inr false)) (g_spec_NameOk_l0 s_1 k (IntKind.wrap .i64 (i_5+1)))) (some (.inl ()))
def g_spec_NameOk (s_1:Bs):Option Bool:=(g_spec_l01In (s_1.length:Int) 1 24).bind λ y_3=>cond (!y_3) (some false) (((g_spec_NameOk_l0 s_1 bigK 0).bind λ o=>match o with | .inl ()=>some (.inl ()) | .inr v_6=>some (.inr v_6):Option (Unit ⊕ Bool)).bind λ o=>match o with | .inl ()=>some true | .inr v_4=>some v_4)
def g_spec_DefsOk_l1 (defs_1:List GDef) (i_4:Int):Nat->Int->Option (Unit ⊕ Bool)
 | 0,_=>none
 | k+1,k_12=>(getI defs_1 i_4).bind λ v_14=>cond (decide (k_12 < (v_14.Body.length:Int))) ((getI defs_1 i_4).bind λ v_15=>(getI v_15.Body k_12).bind λ v_16=>(cond (v_16.Kind==2) (some (decide ((IntKind.wrap .i64 v_16.N) ≥ (defs_1.length:Int)))) (some false):Option (Bool)).bind λ v_17=>cond v_17 (some (.inr false)) (g_spec_DefsOk_l1 defs_1 i_4 k (IntKind.wrap .i64 (k_12+1)))) (some (.inl ()))
def g_spec_DefsOk_l0 (defs_1:List GDef):Nat->Int->Option (Unit ⊕ Bool)
 | 0,_=>none
 | k+1,i_4=>cond (decide (i_4 < (defs_1.length:Int))) ((((getI defs_1 i_4).bind λ v_8=>(g_spec_NameOk v_8.Name).bind λ y_9=>cond (!y_9) (some true) ((getI defs_1 i_4).bind λ v_10=>(g_spec_ShapeOk v_10.Body).bind λ y_11=>some (!y_11)):Option (Bool)).bind λ v_7=>cond v_7 (some (.inr false)) ((g_spec_DefsOk_l1 defs_1 i_4 bigK 0).bind λ o=>match o with | .inl ()=>some (.inl ()) | .inr v_13=>some (.inr v_13)):Option (Unit ⊕ Bool)).bind λ o=>match o with | .inl ()=>g_spec_DefsOk_l0 defs_1 k (IntKind.wrap .i64 (i_4+1)) | .inr v_6=>some (.inr v_6)) (some (.inl ()))
def g_spec_DefsOk (defs_1:List GDef):Option Bool:=cond (decide ((defs_1.length:Int) > 24)) (some false) (((g_spec_DefsOk_l0 defs_1 bigK 0).bind λ o=>match o with | .inl ()=>some (.inl ()) | .inr v_5=>some (.inr v_5):Option (Unit ⊕ Bool)).bind λ o=>match o with | .inl ()=>some true | .inr v_3=>some v_3)
def g_impl_SimpleOf_hand_l0 (defs_1:List GDef) (v_6:Int):Nat->(List GDef)->Int->Option (List GDef)
 | 0,_,_=>none
 | k+1,out_7,v_8=>cond (decide (v_8 < v_6)) ((getI defs_1 v_8).bind λ v_10=>(g_impl_prune v_10.Body).bind λ y_11=>(g_impl_Fold_imm y_11).bind λ y_12=>(app out_7 [(⟨v_10.Name,y_12⟩:GDef)]).bind λ v_13=>g_impl_SimpleOf_hand_l0 defs_1 v_6 k v_13 (IntKind.wrap .i64 (v_8+1))) (some out_7)
def g_impl_SimpleOf_hand (defs_1:List GDef):Option (List GDef):=(g_impl_DefsOk defs_1).bind λ y_3=>cond (!y_3) (some []) (((g_impl_SimpleOf_hand_l0 defs_1 (defs_1.length:Int) bigK ([]:List GDef) 0).bind λ out_9=>some out_9:Option ((List GDef))).bind λ out_4=>some out_4)
def g_spec_NewStore (n_1:Int):Option GStore:=(g_spec_l01In n_1 0 12).bind λ y_3=>cond (!y_3) (some (⟨[]⟩:GStore)) ((mk (0:Int) (IntKind.wrap .i64 (n_1*64))).bind λ v_4=>some (⟨v_4⟩:GStore))
def g_spec_LetterAt (k_1:Int):Option Int:=(g_spec_l01In k_1 0 47).bind λ y_3=>cond (!y_3) (some 0) ((g_spec_l02All).bind λ y_4=>(idxS y_4 k_1).bind λ v_5=>some v_5)
def g_spec_l02Name_l0 (n_10:Int):Nat->(List Int)->Int->GL01Cur->Option ((List Int)×GL01Cur)
 | 0,_,_,_=>none
 | k+1,out_11,i_12,x_13=>cond (decide (i_12 < n_10)) ((g_spec_l01Below 47 x_13).bind λ y_16=>(g_spec_LetterAt (IntKind.wrap .i64 (1+y_16.1))).bind λ y_17=>(app out_11 [y_17]).bind λ v_18=>g_spec_l02Name_l0 n_10 k v_18 (IntKind.wrap .i64 (i_12+1)) y_16.2) (some (out_11,x_13))
def g_spec_l02Name (c_1:GL01Cur):Option (Bs×GL01Cur):=(g_spec_l01Once 2 c_1).bind λ y_4=>cond y_4.1 ((g_spec_l01Pick [[100,117,112],[111,118,101,114],[115,113,117,97,114,101],[97,33],[50,42],[103,111],[45,105,102],[59],[63],[114,114,114,114,114,114,114],[114,116,111,101,97,110,105],[119,119,119,119,119,119],[113,113,113,113,113],[120]] y_4.2).bind λ y_5=>some (y_5.1,y_5.2)) ((g_spec_l01Below 9 y_4.2).bind λ y_6=>((g_spec_l02Name_l0 (IntKind.wrap .i64 (1+y_6.1)) bigK ([]:List Int) 0 y_6.2).bind λ (out_14,x_15)=>some (out_14,x_15):Option (((List Int)×GL01Cur))).bind λ (out_7,x_8)=>some (strOf out_7,x_8))
def g_spec_l04Some (c_1:GL01Cur):Option (GItem×GL01Cur):=(g_spec_l01Below 8 c_1).bind λ y_4=>cond (y_4.1==0) ((g_spec_l04Int y_4.2).bind λ y_5=>(g_spec_l01Once 3 y_5.2).bind λ y_6=>some ((⟨7,[],y_5.1,y_6.1,0⟩:GItem),y_6.2)) (cond (y_4.1==1) ((g_spec_l04Int y_4.2).bind λ y_7=>(g_spec_l01Once 3 y_7.2).bind λ y_8=>some ((⟨8,[],y_7.1,y_8.1,0⟩:GItem),y_8.2)) (cond (y_4.1==2) ((g_spec_l01Pick [[120],[97,116],[113,113,113,113],[116,101,110]] y_4.2).bind λ y_9=>(g_spec_l04Int y_9.2).bind λ y_10=>some ((⟨9,y_9.1,y_10.1,false,0⟩:GItem),y_10.2)) ((g_spec_l01Below 6 y_4.2).bind λ y_11=>(g_spec_l02Name y_11.2).bind λ y_12=>some ((⟨IntKind.wrap .i64 (1+y_11.1),y_12.1,0,false,0⟩:GItem),y_12.2))))
def g_spec_l04Num (n_1:Int) (hex_2:Bool) (short_3:Int) (long_4:Int):Option (List Int):=(cond hex_2 (some 16) (some 0):Option (Int)).bind λ bit_6=>(cond (decide (n_1 ≥ (-67108864))) (some (decide (n_1<=67108863))) (some false):Option (Bool)).bind λ v_7=>cond v_7 (some [IntKind.wrap .u32 ((IntKind.wrap .u32 ((IntKind.wrap .u32 ((IntKind.wrap .u32 n_1)*32))+bit_6))+short_3)]) (some [IntKind.wrap .u32 (bit_6+long_4),IntKind.wrap .u32 n_1])
def g_spec_WidthOf (k_1:Int):Option Int:=(g_spec_l01In k_1 0 7).bind λ y_3=>cond y_3 (some 4) ((g_spec_l01In k_1 8 15).bind λ y_4=>cond y_4 (some 5) ((g_spec_l01In k_1 16 47).bind λ y_5=>cond y_5 (some 7) (some 0)))
def g_spec_BitsOf (k_1:Int):Option Int:=(g_spec_WidthOf k_1).bind λ y_3=>cond (y_3==4) (some (IntKind.wrap .u32 k_1)) (cond (y_3==5) (some (IntKind.wrap .u32 (IntKind.wrap .i64 (k_1+8)))) (cond (y_3==7) (some (IntKind.wrap .u32 (IntKind.wrap .i64 (k_1+80)))) (some 0)))
def g_spec_l03One_l0 (s_1:Bs):Nat->Int->Int->Int->Option (Int×Int)
 | 0,_,_,_=>none
 | k+1,f_6,left_7,n_8=>cond (decide (n_8 < (s_1.length:Int))) ((idxS s_1 n_8).bind λ v_11=>(g_spec_LetterOf v_11).bind λ y_12=>(g_spec_WidthOf y_12).bind λ y_13=>cond (decide (y_13 > left_7)) (some (f_6,n_8)) ((g_spec_BitsOf y_12).bind λ y_14=>(shlI .i64 (IntKind.wrap .i64 y_14) (IntKind.wrap .u64 (IntKind.wrap .i64 (left_7-y_13)))).bind λ v_15=>g_spec_l03One_l0 s_1 k (IntKind.wrap .i64 (f_6+v_15)) (IntKind.wrap .i64 (left_7-y_13)) (IntKind.wrap .i64 (n_8+1)))) (some (f_6,n_8))
def g_spec_l03One (s_1:Bs):Option (Int×Int):=(g_spec_l03One_l0 s_1 bigK 0 28 0).bind λ (f_9,n_10)=>some (IntKind.wrap .u32 f_9,n_10)
def g_spec_Pack_l0:Nat->Bs->(List Int)->Option (List Int)
 | 0,_,_=>none
 | k+1,s_4,out_5=>cond (s_4 != []) ((g_spec_l03One s_4).bind λ y_7=>(app out_5 [y_7.1]).bind λ v_8=>(subL s_4 y_7.2 (s_4.length:Int)).bind λ v_9=>g_spec_Pack_l0 k v_9 v_8) (some out_5)
def g_spec_Pack (s_1:Bs):Option (List Int):=(g_spec_NameOk s_1).bind λ y_3=>cond (!y_3) (some ([]:List Int)) ((g_spec_Pack_l0 bigK s_1 ([]:List Int)).bind λ out_6=>some out_6)
def g_spec_l04Word_l0 (tag_1:Int):Nat->(List Int)->Int->Option (List Int)
 | 0,_,_=>none
 | k+1,out_6,i_7=>cond (decide (i_7 < (out_6.length:Int))) (((getI out_6 i_7).bind λ v_10=>(getI out_6 i_7).bind λ v_11=>cond (i_7==0) ((getI (out_6.set i_7.toNat (IntKind.wrap .u32 (v_10*16))) i_7).bind λ v_12=>(getI (out_6.set i_7.toNat (IntKind.wrap .u32 (v_10*16))) i_7).bind λ v_13=>some ((out_6.set i_7.toNat (IntKind.wrap .u32 (v_10*16))).set i_7.toNat (IntKind.wrap .u32 (v_12+tag_1)))) (some (out_6.set i_7.toNat (IntKind.wrap .u32 (v_10*16)))):Option ((List Int))).bind λ out_9=>g_spec_l04Word_l0 tag_1 k out_9 (IntKind.wrap .i64 (i_7+1))) (some out_6)
def g_spec_l04Word (tag_1:Int) (name_2:Bs):Option (List Int):=(g_spec_Pack name_2).bind λ y_4=>((g_spec_l04Word_l0 tag_1 bigK y_4 0).bind λ out_8=>some out_8:Option ((List Int))).bind λ out_5=>some out_5
def g_spec_l04Tag (kind_1:Int):Option Int:=cond (kind_1==1) (some 1) (cond (kind_1==2) (some 3) (cond (kind_1==3) (some 4) (cond (kind_1==4) (some 9) (cond (kind_1==5) (some 10) (cond (kind_1==6) (some 11) (some 0))))))
def g_spec_CellsOf (it_1:GItem):Option (List Int):=(cond (it_1.N==0) (cond (!it_1.Hex) (some (it_1.Raw==0)) (some false)) (some false):Option (Bool)).bind λ plain_3=>(cond (it_1.Kind==0) ((cond (it_1.Name==[]) (cond (it_1.N==0) (some (!it_1.Hex)) (some false)) (some false):Option (Bool)).bind λ v_5=>cond v_5 (some (.inr [it_1.Raw])) (some (.inl ()))) (cond (it_1.Kind==7) ((cond (it_1.Name==[]) (some (it_1.Raw==0)) (some false):Option (Bool)).bind λ v_6=>cond v_6 ((g_spec_l04Num it_1.N it_1.Hex 8 2).bind λ y_7=>some (.inr y_7)) (some (.inl ()))) (cond (it_1.Kind==8) ((cond (it_1.Name==[]) (some (it_1.Raw==0)) (some false):Option (Bool)).bind λ v_8=>cond v_8 ((g_spec_l04Num it_1.N it_1.Hex 6 5).bind λ y_9=>some (.inr y_9)) (some (.inl ()))) (cond (it_1.Kind==9) ((g_spec_l04Word 12 it_1.Name).bind λ y_10=>(cond ((y_10.length:Int)==1) (cond (!it_1.Hex) (some (it_1.Raw==0)) (some false)) (some false):Option (Bool)).bind λ v_11=>cond v_11 ((app y_10 [IntKind.wrap .u32 it_1.N]).bind λ v_12=>some (.inr v_12)) (some (.inl ()))) ((g_spec_l04Tag it_1.Kind).bind λ y_13=>(cond (decide (y_13 > 0)) (some plain_3) (some false):Option (Bool)).bind λ v_14=>cond v_14 ((g_spec_l04Word y_13 it_1.Name).bind λ y_15=>some (.inr y_15)) (some (.inl ())))))):Option (Unit ⊕ (List Int))).bind λ o=>match o with | .inl ()=>some ([]:List Int) | .inr v_4=>some v_4
def g_spec_l01Word (c_1:GL01Cur):Option (Int×GL01Cur):=(g_spec_l01Below 4 c_1).bind λ y_4=>cond (y_4.1==0) ((g_spec_l01PickInt [0,1,2,31,32,255,256,2147483647,2147483648,4294967295,4294967294] y_4.2).bind λ y_5=>some (IntKind.wrap .u32 y_5.1,y_5.2)) (cond (y_4.1==1) ((g_spec_l01Below 300 y_4.2).bind λ y_6=>some (IntKind.wrap .u32 y_6.1,y_6.2)) ((g_spec_l01Below 65536 y_4.2).bind λ y_7=>(g_spec_l01Below 65536 y_7.2).bind λ y_8=>some (IntKind.wrap .u32 ((IntKind.wrap .u32 ((IntKind.wrap .u32 y_7.1)*65536))+(IntKind.wrap .u32 y_8.1)),y_8.2)))
def g_spec_l04Cells_l0 (n_7:Int):Nat->(List Int)->Int->GL01Cur->Option ((List Int)×GL01Cur)
 | 0,_,_,_=>none
 | k+1,out_8,i_9,x_10=>cond (decide (i_9 < n_7)) (((g_spec_l04Some x_10).bind λ y_15=>(g_spec_CellsOf y_15.1).bind λ y_16=>(app out_8 y_16).bind λ v_17=>(g_spec_l01Below 9 y_15.2).bind λ y_18=>cond (y_18.1==0) ((g_spec_l01Word y_18.2).bind λ y_19=>(app v_17 [y_19.1]).bind λ v_20=>some (v_20,y_19.2)) (cond (y_18.1==1) ((app v_17 [0]).bind λ v_21=>some (v_21,y_18.2)) (cond (y_18.1==2) ((g_spec_l01Below 4096 y_18.2).bind λ y_22=>(app v_17 [IntKind.wrap .u32 ((IntKind.wrap .u32 y_22.1)*16)]).bind λ v_23=>some (v_23,y_22.2)) (cond (y_18.1==3) ((g_spec_l01PickInt [2,18,5,34,12] y_18.2).bind λ y_24=>(app v_17 [IntKind.wrap .u32 y_24.1]).bind λ v_25=>some (v_25,y_24.2)) (some (v_17,y_18.2))))):Option (((List Int)×GL01Cur))).bind λ (out_13,x_14)=>g_spec_l04Cells_l0 n_7 k out_13 (IntKind.wrap .i64 (i_9+1)) x_14) (some (out_8,x_10))
def g_spec_l04Cells (c_1:GL01Cur):Option ((List Int)×GL01Cur):=(g_spec_l01Below 14 c_1).bind λ y_4=>((g_spec_l04Cells_l0 y_4.1 bigK ([]:List Int) 0 y_4.2).bind λ (out_11,x_12)=>some (out_11,x_12):Option (((List Int)×GL01Cur))).bind λ (out_5,x_6)=>(cond (decide ((out_5.length:Int) > 64)) ((g_spec_l01Once 6 x_6).bind λ y_28=>some ((!y_28.1),y_28.2)) (some (false,x_6)):Option ((Bool×GL01Cur))).bind λ (v_26,x_27)=>cond v_26 ((subL out_5 0 64).bind λ v_29=>some (v_29,x_27)) (some (out_5,x_27))
def g_spec_l05Make_l1 (b_8:Int) (cells_16:List Int):Nat->Int->GStore->Option GStore
 | 0,_,_=>none
 | k+1,i_18,x_19=>(cond (decide (i_18 < (cells_16.length:Int))) (some (decide (i_18 < 64))) (some false):Option (Bool)).bind λ v_21=>cond v_21 ((getI cells_16 i_18).bind λ v_22=>(getI x_19.Cells (IntKind.wrap .i64 ((IntKind.wrap .i64 (b_8*64))+i_18))).bind λ v_23=>g_spec_l05Make_l1 b_8 cells_16 k (IntKind.wrap .i64 (i_18+1)) (⟨x_19.Cells.set (IntKind.wrap .i64 ((IntKind.wrap .i64 (b_8*64))+i_18)).toNat v_22⟩:GStore)) (some x_19)
def g_spec_l05Make_l0:Nat->Int->GL01Cur->GStore->Option (GL01Cur×GStore)
 | 0,_,_,_=>none
 | k+1,b_8,x_9,x_10=>cond (decide (b_8 < (IntKind.wrap .i64 (Int.tdiv (x_10.Cells.length:Int) 64)))) (((g_spec_l04Cells x_9).bind λ y_15=>(g_spec_l05Make_l1 b_8 y_15.1 bigK 0 x_10).bind λ x_20=>some (y_15.2,x_20):Option ((GL01Cur×GStore))).bind λ (x_13,x_14)=>g_spec_l05Make_l0 k (IntKind.wrap .i64 (b_8+1)) x_13 x_14) (some (x_9,x_10))
def g_spec_l05Make (c_1:GL01Cur):Option (GStore×GL01Cur):=(g_spec_l01Below 3 c_1).bind λ y_4=>(g_spec_NewStore (IntKind.wrap .i64 (1+y_4.1))).bind λ y_5=>((g_spec_l05Make_l0 bigK 0 y_4.2 y_5).bind λ (x_11,x_12)=>some (x_11,x_12):Option ((GL01Cur×GStore))).bind λ (x_6,x_7)=>some (x_7,x_6)
def g_spec_StoreOk (s_1:GStore):Option Bool:=cond ((Int.tmod (s_1.Cells.length:Int) 64)==0) (some (decide ((s_1.Cells.length:Int)<=768))) (some false)
def g_spec_NewSt (s_1:GStore) (vin_2:List Int) (fuel_3:Int):Option GSt:=(mk (0:Int) 32).bind λ v_5=>(cond (decide ((vin_2.length:Int) > 100)) (some true) ((g_spec_StoreOk s_1).bind λ y_7=>cond (!y_7) (some true) ((g_spec_l01In fuel_3 0 4000).bind λ y_8=>some (!y_8))):Option (Bool)).bind λ v_6=>cond v_6 (some (⟨[],[],0,[],[],[],[],[],0,0⟩:GSt)) ((app ([]:List Int) s_1.Cells).bind λ v_9=>(app ([]:List Int) vin_2).bind λ v_10=>some (⟨[],[],0,v_5,v_9,[],[],v_10,0,fuel_3⟩:GSt))
def g_spec_l08First (st_1:GSt):Option Int:=cond ((st_1.Vars.length:Int)==0) (some 0) ((getI st_1.Vars 0).bind λ v_3=>some v_3)
def g_spec_l08Make_l0 (n_10:Int):Nat->Int->GL01Cur->GSt->Option (GL01Cur×GSt)
 | 0,_,_,_=>none
 | k+1,i_16,x_17,x_18=>cond (decide (i_16 < n_10)) ((g_spec_l04Int x_17).bind λ y_21=>(app x_18.Data [y_21.1]).bind λ v_22=>g_spec_l08Make_l0 n_10 k (IntKind.wrap .i64 (i_16+1)) y_21.2 (⟨v_22,x_18.Ret,x_18.A,x_18.Mem,x_18.Cells,x_18.Vars,x_18.Out,x_18.In,x_18.Fault,x_18.Fuel⟩:GSt)) (some (x_17,x_18))
def g_spec_l08Make_l1 (n_24:Int):Nat->Int->GL01Cur->GSt->Option (GL01Cur×GSt)
 | 0,_,_,_=>none
 | k+1,i_30,x_31,x_32=>cond (decide (i_30 < n_24)) ((g_spec_l01PickInt [0,0,1,2] x_31).bind λ y_35=>(g_spec_l04Int y_35.2).bind λ y_36=>(app x_32.Ret [(⟨y_35.1,y_36.1⟩:GSlot)]).bind λ v_37=>g_spec_l08Make_l1 n_24 k (IntKind.wrap .i64 (i_30+1)) y_36.2 (⟨x_32.Data,v_37,x_32.A,x_32.Mem,x_32.Cells,x_32.Vars,x_32.Out,x_32.In,x_32.Fault,x_32.Fuel⟩:GSt)) (some (x_31,x_32))
def g_spec_l08Make_l2 (n_41:Int):Nat->Int->GL01Cur->GSt->Option (GL01Cur×GSt)
 | 0,_,_,_=>none
 | k+1,i_42,x_43,x_44=>cond (decide (i_42 < n_41)) ((g_spec_l01Below 7 x_43).bind λ y_47=>(app x_44.Vars [IntKind.wrap .i64 ((IntKind.wrap .i64 (i_42*7))+y_47.1)]).bind λ v_48=>g_spec_l08Make_l2 n_41 k (IntKind.wrap .i64 (i_42+1)) y_47.2 (⟨x_44.Data,x_44.Ret,x_44.A,x_44.Mem,x_44.Cells,v_48,x_44.Out,x_44.In,x_44.Fault,x_44.Fuel⟩:GSt)) (some (x_43,x_44))
def g_spec_l08Make_l3 (n_73:Int):Nat->Int->GSt->Option GSt
 | 0,_,_=>none
 | k+1,i_75,x_76=>cond (decide (i_75 < n_73)) ((app x_76.Out [120]).bind λ v_78=>g_spec_l08Make_l3 n_73 k (IntKind.wrap .i64 (i_75+1)) (⟨x_76.Data,x_76.Ret,x_76.A,x_76.Mem,x_76.Cells,x_76.Vars,v_78,x_76.In,x_76.Fault,x_76.Fuel⟩:GSt)) (some x_76)
def g_spec_l08Make (c_1:GL01Cur):Option (GSt×GL01Cur):=(g_spec_l05Make c_1).bind λ y_4=>(g_spec_l01Pick [[],[97],[104,101,108,108,111],[0,255]] y_4.2).bind λ y_5=>(s2b y_5.1).bind λ v_6=>(g_spec_l01Below 300 y_5.2).bind λ y_7=>(g_spec_NewSt y_4.1 v_6 (IntKind.wrap .i64 (1+y_7.1))).bind λ y_8=>(g_spec_l01Below 7 y_7.2).bind λ y_9=>((g_spec_l01Once 12 y_9.2).bind λ y_12=>cond y_12.1 ((g_spec_l01Below 3 y_12.2).bind λ y_13=>some (IntKind.wrap .i64 (14+y_13.1),y_13.2)) (some (y_9.1,y_12.2)):Option ((Int×GL01Cur))).bind λ (n_10,x_11)=>((g_spec_l08Make_l0 n_10 bigK 0 x_11 y_8).bind λ (x_19,x_20)=>some (x_19,x_20):Option ((GL01Cur×GSt))).bind λ (x_14,x_15)=>(g_spec_l01Below 3 x_14).bind λ y_23=>((g_spec_l01Once 20 y_23.2).bind λ y_26=>cond y_26.1 ((g_spec_l01Below 3 y_26.2).bind λ y_27=>some (IntKind.wrap .i64 (22+y_27.1),y_27.2)) (some (y_23.1,y_26.2)):Option ((Int×GL01Cur))).bind λ (n_24,x_25)=>((g_spec_l08Make_l1 n_24 bigK 0 x_25 x_15).bind λ (x_33,x_34)=>some (x_33,x_34):Option ((GL01Cur×GSt))).bind λ (x_28,x_29)=>(g_spec_l01Below 3 x_28).bind λ y_38=>((g_spec_l08Make_l2 y_38.1 bigK 0 y_38.2 x_29).bind λ (x_45,x_46)=>some (x_45,x_46):Option ((GL01Cur×GSt))).bind λ (x_39,x_40)=>(((g_spec_l01Once 3 x_39).bind λ y_65=>cond y_65.1 (some (decide ((x_40.Data.length:Int) > 0),y_65.2)) (some (false,y_65.2)):Option ((Bool×GL01Cur))).bind λ (v_63,x_64)=>cond v_63 ((g_spec_l08First x_40).bind λ y_66=>(g_spec_l01PickInt [0,31,32,(-1),1023,1024,IntKind.wrap .i64 (1024+(x_40.Cells.length:Int)),IntKind.wrap .i64 (1023+(x_40.Cells.length:Int)),IntKind.wrap .i64 (1024+y_66)] x_64).bind λ y_67=>(getI x_40.Data (IntKind.wrap .i64 ((x_40.Data.length:Int)-1))).bind λ v_68=>some (y_67.2,(⟨x_40.Data.set (IntKind.wrap .i64 ((x_40.Data.length:Int)-1)).toNat (IntKind.wrap .i32 y_67.1),x_40.Ret,x_40.A,x_40.Mem,x_40.Cells,x_40.Vars,x_40.Out,x_40.In,x_40.Fault,x_40.Fuel⟩:GSt))) (some (x_64,x_40)):Option ((GL01Cur×GSt))).bind λ (x_61,x_62)=>((g_spec_l01Once 30 x_61).bind λ y_71=>cond y_71.1 ((g_spec_l01Below 6 y_71.2).bind λ y_72=>(g_spec_l08Make_l3 (IntKind.wrap .i64 (395+y_72.1)) bigK 0 x_62).bind λ x_77=>some (y_72.2,x_77)) (some (y_71.2,x_62)):Option ((GL01Cur×GSt))).bind λ (x_69,x_70)=>some (x_70,x_69)
def g_spec_l08Any (c_1:GL01Cur):Option (GSt×GL01Cur):=(g_spec_l08Make c_1).bind λ y_4=>((g_spec_l01Below 20 y_4.2).bind λ y_15=>cond (y_15.1==0) ((g_spec_l01Below 17 y_15.2).bind λ y_16=>some (y_16.2,(⟨y_4.1.Data,y_4.1.Ret,y_4.1.A,y_4.1.Mem,y_4.1.Cells,y_4.1.Vars,y_4.1.Out,y_4.1.In,IntKind.wrap .i64 (y_16.1-1),y_4.1.Fuel⟩:GSt))) (cond (y_15.1==1) ((g_spec_l01PickInt [0,(-1),(y_4.1.Cells.length:Int),IntKind.wrap .i64 ((y_4.1.Cells.length:Int)-1)] y_15.2).bind λ y_17=>(app y_4.1.Vars [y_17.1]).bind λ v_18=>some (y_17.2,(⟨y_4.1.Data,y_4.1.Ret,y_4.1.A,y_4.1.Mem,y_4.1.Cells,v_18,y_4.1.Out,y_4.1.In,y_4.1.Fault,y_4.1.Fuel⟩:GSt))) (cond (y_15.1==2) ((subL y_4.1.Mem 0 31).bind λ v_19=>some (y_15.2,(⟨y_4.1.Data,y_4.1.Ret,y_4.1.A,v_19,y_4.1.Cells,y_4.1.Vars,y_4.1.Out,y_4.1.In,y_4.1.Fault,y_4.1.Fuel⟩:GSt))) (cond (y_15.1==3) ((g_spec_l01PickInt [(-1),0,4000,4001] y_15.2).bind λ y_20=>some (y_20.2,(⟨y_4.1.Data,y_4.1.Ret,y_4.1.A,y_4.1.Mem,y_4.1.Cells,y_4.1.Vars,y_4.1.Out,y_4.1.In,y_4.1.Fault,y_20.1⟩:GSt))) (cond (y_15.1==4) ((g_spec_l01Below 5 y_15.2).bind λ y_21=>(app y_4.1.Ret [(⟨IntKind.wrap .i64 (y_21.1-1),0⟩:GSlot)]).bind λ v_22=>some (y_21.2,(⟨y_4.1.Data,v_22,y_4.1.A,y_4.1.Mem,y_4.1.Cells,y_4.1.Vars,y_4.1.Out,y_4.1.In,y_4.1.Fault,y_4.1.Fuel⟩:GSt))) (cond (y_15.1==5) ((app y_4.1.Cells [1]).bind λ v_23=>some (y_15.2,(⟨y_4.1.Data,y_4.1.Ret,y_4.1.A,y_4.1.Mem,v_23,y_4.1.Vars,y_4.1.Out,y_4.1.In,y_4.1.Fault,y_4.1.Fuel⟩:GSt))) (some (y_15.2,y_4.1))))))):Option ((GL01Cur×GSt))).bind λ (x_13,x_14)=>some (x_14,x_13)
def g_spec_l09Any_imm_l0:Nat->(List GOp)->GL01Cur->Option ((List GOp)×GL01Cur)
 | 0,_,_=>none
 | k+1,body_17,x_18=>(g_spec_l01Below 4 x_18).bind λ y_21=>cond (decide ((body_17.length:Int) < (IntKind.wrap .i64 (58+y_21.1)))) ((app body_17 [(⟨0,1⟩:GOp)]).bind λ v_22=>g_spec_l09Any_imm_l0 k v_22 y_21.2) (some (body_17,y_21.2))
def g_spec_l09Any_imm (c_1:GL01Cur):Option ((List GOp)×GL01Cur):=(g_spec_l09Body 3 3 c_1).bind λ y_4=>((g_spec_l01Below 8 y_4.2).bind λ y_9=>cond (y_9.1==0) ((g_spec_l01Below 11 y_9.2).bind λ y_10=>(g_spec_l01Below 3 y_10.2).bind λ y_11=>(app y_4.1 [(⟨IntKind.wrap .i64 (y_10.1-1),IntKind.wrap .i32 y_11.1⟩:GOp)]).bind λ v_12=>some (.inr (v_12,y_11.2))) (cond (y_9.1==1) (cond (decide ((y_4.1.length:Int) > 0)) ((g_spec_l01Below (y_4.1.length:Int) y_9.2).bind λ y_13=>(g_spec_l01Below 11 y_13.2).bind λ y_14=>(g_spec_l01PickInt [0,23,24,(-1)] y_14.2).bind λ y_15=>(getI y_4.1 y_13.1).bind λ v_16=>some (.inl (y_4.1.set y_13.1.toNat (⟨IntKind.wrap .i64 (y_14.1-1),IntKind.wrap .i32 y_15.1⟩:GOp),y_15.2))) (some (.inl (y_4.1,y_9.2)))) (cond (y_9.1==2) ((g_spec_l09Any_imm_l0 bigK y_4.1 y_9.2).bind λ (body_19,x_20)=>some (.inl (body_19,x_20))) (some (.inl (y_4.1,y_9.2))))):Option (((List GOp)×GL01Cur) ⊕ ((List GOp)×GL01Cur))).bind λ o=>match o with | .inl (body_5,x_6)=>some (body_5,x_6) | .inr (v_7,x_8)=>some (v_7,x_8)
def g_spec_DrawMeans (code_1:List Int):Option ((List GDef)×Int×GSt):=(g_spec_l01New code_1).bind λ y_5=>(g_spec_l09Make y_5).bind λ y_6=>(g_spec_l08Make y_6.2).bind λ y_7=>((g_spec_l01Once 10 y_7.2).bind λ y_24=>cond y_24.1 ((g_spec_l08Any y_24.2).bind λ y_25=>some (y_25.2,y_25.1)) (some (y_24.2,y_7.1)):Option ((GL01Cur×GSt))).bind λ (x_22,x_23)=>((g_spec_l01Once 20 x_22).bind λ y_28=>cond y_28.1 ((g_spec_l09Any_imm y_28.2).bind λ y_29=>(getI y_6.1 0).bind λ v_30=>some (y_6.1.set 0 (⟨v_30.Name,y_29.1⟩:GDef),y_29.2)) (some (y_6.1,y_28.2)):Option (((List GDef)×GL01Cur))).bind λ (defs_26,x_27)=>(g_spec_l01Below (IntKind.wrap .i64 ((defs_26.length:Int)+1)) x_27).bind λ y_31=>(g_spec_l01Below 8 y_31.2).bind λ y_32=>some (defs_26,IntKind.wrap .i64 (y_31.1-(IntKind.wrap .i64 (Int.tdiv y_32.1 7))),x_23)
def g_spec_StOk_l0 (st_1:GSt):Nat->Int->Option (Unit ⊕ Bool)
 | 0,_=>none
 | k+1,i_5=>cond (decide (i_5 < (st_1.Ret.length:Int))) ((getI st_1.Ret i_5).bind λ v_7=>(g_spec_l01In v_7.Kind 0 2).bind λ y_8=>cond (!y_8) (some (.inr false)) (g_spec_StOk_l0 st_1 k (IntKind.wrap .i64 (i_5+1)))) (some (.inl ()))
def g_spec_StOk_l2 (i_10:Int) (st_1:GSt):Nat->Int->Option (Unit ⊕ Bool)
 | 0,_=>none
 | k+1,k_15=>cond (decide (k_15 < i_10)) ((getI st_1.Vars k_15).bind λ v_17=>(getI st_1.Vars i_10).bind λ v_18=>cond (v_17==v_18) (some (.inr false)) (g_spec_StOk_l2 i_10 st_1 k (IntKind.wrap .i64 (k_15+1)))) (some (.inl ()))
def g_spec_StOk_l1 (st_1:GSt):Nat->Int->Option (Unit ⊕ Bool)
 | 0,_=>none
 | k+1,i_10=>cond (decide (i_10 < (st_1.Vars.length:Int))) (((getI st_1.Vars i_10).bind λ v_13=>(g_spec_l01In v_13 0 (IntKind.wrap .i64 ((st_1.Cells.length:Int)-1))).bind λ y_14=>cond (!y_14) (some (.inr false)) ((g_spec_StOk_l2 i_10 st_1 bigK 0).bind λ o=>match o with | .inl ()=>some (.inl ()) | .inr v_16=>some (.inr v_16)):Option (Unit ⊕ Bool)).bind λ o=>match o with | .inl ()=>g_spec_StOk_l1 st_1 k (IntKind.wrap .i64 (i_10+1)) | .inr v_12=>some (.inr v_12)) (some (.inl ()))
def g_spec_StOk (st_1:GSt):Option Bool:=(cond (decide ((st_1.Data.length:Int) > 16)) (some true) (cond (decide ((st_1.Ret.length:Int) > 24)) (some true) (cond ((st_1.Mem.length:Int) != 32) (some true) (cond (decide ((st_1.Vars.length:Int) > 20)) (some true) (cond (decide ((st_1.Out.length:Int) > 400)) (some true) (some (decide ((st_1.In.length:Int) > 100))))))):Option (Bool)).bind λ v_3=>cond v_3 (some false) (((g_spec_StOk_l0 st_1 bigK 0).bind λ o=>match o with | .inl ()=>some (.inl ()) | .inr v_6=>some (.inr v_6):Option (Unit ⊕ Bool)).bind λ o=>match o with | .inl ()=>(((g_spec_StOk_l1 st_1 bigK 0).bind λ o=>match o with | .inl ()=>some (.inl ()) | .inr v_11=>some (.inr v_11):Option (Unit ⊕ Bool)).bind λ o=>match o with | .inl ()=>(g_spec_StoreOk (⟨st_1.Cells⟩:GStore)).bind λ y_19=>cond y_19 ((g_spec_l01In st_1.Fault 0 13).bind λ y_20=>cond y_20 ((g_spec_l01In st_1.Fuel 0 4000).bind λ y_21=>some y_21) (some false)) (some false) | .inr v_9=>some v_9) | .inr v_4=>some v_4)
def g_impl_StoreOk (s_1:GStore):Option Bool:=cond ((Int.tmod (s_1.Cells.length:Int) 64)==0) (some (decide ((s_1.Cells.length:Int)<=768))) (some false)
def g_impl_StOk_l0 (v_6:List GSlot) (v_7:Int):Nat->Int->Option (Unit ⊕ Bool)
 | 0,_=>none
 | k+1,v_8=>cond (decide (v_8 < v_7)) ((getI v_6 v_8).bind λ v_10=>(g_impl_within v_10.Kind 0 2).bind λ y_11=>cond (!y_11) (some (.inr false)) (g_impl_StOk_l0 v_6 v_7 k (IntKind.wrap .i64 (v_8+1)))) (some (.inl ()))
def g_impl_StOk_l1 (v_13:List Int) (v_14:Int) (st_1:GSt):Nat->Int->Option (Unit ⊕ Bool)
 | 0,_=>none
 | k+1,v_15=>cond (decide (v_15 < v_14)) ((getI v_13 v_15).bind λ v_17=>((g_impl_within v_17 0 (IntKind.wrap .i64 ((st_1.Cells.length:Int)-1))).bind λ y_19=>cond (!y_19) (some true) ((subL st_1.Vars 0 v_15).bind λ v_20=>(g_slices_Contains_int v_20 v_17).bind λ y_21=>some y_21):Option (Bool)).bind λ v_18=>cond v_18 (some (.inr false)) (g_impl_StOk_l1 v_13 v_14 st_1 k (IntKind.wrap .i64 (v_15+1)))) (some (.inl ()))
def g_impl_StOk (st_1:GSt):Option Bool:=(cond (decide ((st_1.Data.length:Int) > 16)) (some true) (cond (decide ((st_1.Ret.length:Int) > 24)) (some true) (cond ((st_1.Mem.length:Int) != 32) (some true) ((g_impl_StoreOk (⟨st_1.Cells⟩:GStore)).bind λ y_4=>cond (!y_4) (some true) (some (decide ((st_1.Vars.length:Int) > 20)))))):Option (Bool)).bind λ v_3=>cond v_3 (some false) (((g_impl_StOk_l0 st_1.Ret (st_1.Ret.length:Int) bigK 0).bind λ o=>match o with | .inl ()=>some (.inl ()) | .inr v_9=>some (.inr v_9):Option (Unit ⊕ Bool)).bind λ o=>match o with | .inl ()=>(((g_impl_StOk_l1 st_1.Vars (st_1.Vars.length:Int) st_1 bigK 0).bind λ o=>match o with | .inl ()=>some (.inl ()) | .inr v_16=>some (.inr v_16):Option (Unit ⊕ Bool)).bind λ o=>match o with | .inl ()=>cond (decide ((st_1.Out.length:Int)<=400)) (cond (decide ((st_1.In.length:Int)<=100)) ((g_impl_within st_1.Fault 0 13).bind λ y_22=>cond y_22 ((g_impl_within st_1.Fuel 0 4000).bind λ y_23=>some y_23) (some false)) (some false)) (some false) | .inr v_12=>some v_12) | .inr v_5=>some v_5)
def g_impl_goes (st_1:GSt):Option Bool:=(g_impl_StOk st_1).bind λ y_3=>cond y_3 (some (st_1.Fault==0)) (some false)
def g_impl_TreeOf_imm (body_1:List GOp):Option (List GTree):=(g_impl_ShapeOk body_1).bind λ y_3=>cond (!y_3) (some []) ((g_impl_grow body_1).bind λ y_4=>some y_4.1)
def g_impl_Means_l0 (v_11:List GDef) (v_12:Int):Nat->Int->GMeaning->Option GMeaning
 | 0,_,_=>none
 | k+1,v_13,x_14=>cond (decide (v_13 < v_12)) ((getI v_11 v_13).bind λ v_16=>(g_impl_TreeOf_imm v_16.Body).bind λ y_17=>(app x_14.trees [y_17]).bind λ v_18=>g_impl_Means_l0 v_11 v_12 k (IntKind.wrap .i64 (v_13+1)) (⟨v_18,x_14.st⟩:GMeaning)) (some x_14)
def g_impl_Means (defs_1:List GDef) (k_2:Int) (st_3:GSt):Option GSt:=((g_impl_DefsOk defs_1).bind λ y_6=>cond (!y_6) (some true) ((g_impl_within k_2 0 (IntKind.wrap .i64 ((defs_1.length:Int)-1))).bind λ y_7=>cond (!y_7) (some true) ((g_impl_goes st_3).bind λ y_8=>some (!y_8))):Option (Bool)).bind λ v_5=>cond v_5 (some (⟨[],[],0,[],[],[],[],[],0,0⟩:GSt)) ((g_impl_ownSt st_3).bind λ y_9=>((g_impl_Means_l0 defs_1 (defs_1.length:Int) bigK 0 (⟨[],y_9⟩:GMeaning)).bind λ x_15=>some x_15:Option (GMeaning)).bind λ x_10=>(g_impl_meaning_enter k_2 x_10).bind λ y_19=>(g_impl_ownSt y_19.st).bind λ y_20=>some y_20)
def g_laws_sameNums_l0 (a_1:List Int) (b_2:List Int):Nat->Int->Option (Unit ⊕ Bool)
 | 0,_=>none
 | k+1,i_5=>cond (decide (i_5 < (a_1.length:Int))) ((getI a_1 i_5).bind λ v_7=>(getI b_2 i_5).bind λ v_8=>cond (v_7 != v_8) (some (.inr false)) (g_laws_sameNums_l0 a_1 b_2 k (IntKind.wrap .i64 (i_5+1)))) (some (.inl ()))
def g_laws_sameNums (a_1:List Int) (b_2:List Int):Option Bool:=cond ((a_1.length:Int) != (b_2.length:Int)) (some false) (((g_laws_sameNums_l0 a_1 b_2 bigK 0).bind λ o=>match o with | .inl ()=>some (.inl ()) | .inr v_6=>some (.inr v_6):Option (Unit ⊕ Bool)).bind λ o=>match o with | .inl ()=>some true | .inr v_4=>some v_4)
def g_laws_sameCells_l0 (a_1:List Int) (b_2:List Int):Nat->Int->Option (Unit ⊕ Bool)
 | 0,_=>none
 | k+1,i_5=>cond (decide (i_5 < (a_1.length:Int))) ((getI a_1 i_5).bind λ v_7=>(getI b_2 i_5).bind λ v_8=>cond (v_7 != v_8) (some (.inr false)) (g_laws_sameCells_l0 a_1 b_2 k (IntKind.wrap .i64 (i_5+1)))) (some (.inl ()))
def g_laws_sameCells (a_1:List Int) (b_2:List Int):Option Bool:=cond ((a_1.length:Int) != (b_2.length:Int)) (some false) (((g_laws_sameCells_l0 a_1 b_2 bigK 0).bind λ o=>match o with | .inl ()=>some (.inl ()) | .inr v_6=>some (.inr v_6):Option (Unit ⊕ Bool)).bind λ o=>match o with | .inl ()=>some true | .inr v_4=>some v_4)
def g_laws_sameInts_l0 (a_1:List Int) (b_2:List Int):Nat->Int->Option (Unit ⊕ Bool)
 | 0,_=>none
 | k+1,i_5=>cond (decide (i_5 < (a_1.length:Int))) ((getI a_1 i_5).bind λ v_7=>(getI b_2 i_5).bind λ v_8=>cond (v_7 != v_8) (some (.inr false)) (g_laws_sameInts_l0 a_1 b_2 k (IntKind.wrap .i64 (i_5+1)))) (some (.inl ()))
def g_laws_sameInts (a_1:List Int) (b_2:List Int):Option Bool:=cond ((a_1.length:Int) != (b_2.length:Int)) (some false) (((g_laws_sameInts_l0 a_1 b_2 bigK 0).bind λ o=>match o with | .inl ()=>some (.inl ()) | .inr v_6=>some (.inr v_6):Option (Unit ⊕ Bool)).bind λ o=>match o with | .inl ()=>some true | .inr v_4=>some v_4)
def g_laws_sameBytes_l0 (a_1:List Int) (b_2:List Int):Nat->Int->Option (Unit ⊕ Bool)
 | 0,_=>none
 | k+1,i_5=>cond (decide (i_5 < (a_1.length:Int))) ((getI a_1 i_5).bind λ v_7=>(getI b_2 i_5).bind λ v_8=>cond (v_7 != v_8) (some (.inr false)) (g_laws_sameBytes_l0 a_1 b_2 k (IntKind.wrap .i64 (i_5+1)))) (some (.inl ()))
def g_laws_sameBytes (a_1:List Int) (b_2:List Int):Option Bool:=cond ((a_1.length:Int) != (b_2.length:Int)) (some false) (((g_laws_sameBytes_l0 a_1 b_2 bigK 0).bind λ o=>match o with | .inl ()=>some (.inl ()) | .inr v_6=>some (.inr v_6):Option (Unit ⊕ Bool)).bind λ o=>match o with | .inl ()=>some true | .inr v_4=>some v_4)
def g_laws_sameBut (a_1:GSt) (b_2:GSt):Option Bool:=(g_laws_sameNums a_1.Data b_2.Data).bind λ y_4=>cond y_4 (cond (a_1.A==b_2.A) ((g_laws_sameNums a_1.Mem b_2.Mem).bind λ y_5=>cond y_5 ((g_laws_sameCells a_1.Cells b_2.Cells).bind λ y_6=>cond y_6 ((g_laws_sameInts a_1.Vars b_2.Vars).bind λ y_7=>cond y_7 ((g_laws_sameBytes a_1.Out b_2.Out).bind λ y_8=>cond y_8 ((g_laws_sameBytes a_1.In b_2.In).bind λ y_9=>some y_9) (some false)) (some false)) (some false)) (some false)) (some false)) (some false)
def g_laws_sameRet_l0 (a_1:List GSlot) (b_2:List GSlot):Nat->Int->Option (Unit ⊕ Bool)
 | 0,_=>none
 | k+1,i_5=>cond (decide (i_5 < (a_1.length:Int))) ((getI a_1 i_5).bind λ v_7=>(getI b_2 i_5).bind λ v_8=>cond (!((v_7.Kind:Int)==v_8.Kind&&((v_7.N:Int)==v_8.N&&true))) (some (.inr false)) (g_laws_sameRet_l0 a_1 b_2 k (IntKind.wrap .i64 (i_5+1)))) (some (.inl ()))
def g_laws_sameRet (a_1:List GSlot) (b_2:List GSlot):Option Bool:=cond ((a_1.length:Int) != (b_2.length:Int)) (some false) (((g_laws_sameRet_l0 a_1 b_2 bigK 0).bind λ o=>match o with | .inl ()=>some (.inl ()) | .inr v_6=>some (.inr v_6):Option (Unit ⊕ Bool)).bind λ o=>match o with | .inl ()=>some true | .inr v_4=>some v_4)
def g_laws_FnSimple_l0 (defs_13:List GDef) (list_14:List GDef) (x_15:GSt):Nat->Int->Option (Unit ⊕ Bool)
 | 0,_=>none
 | k+1,k_16=>cond (decide (k_16 < (defs_13.length:Int))) ((((getI list_14 k_16).bind λ v_20=>(getI defs_13 k_16).bind λ v_21=>cond (decide ((v_20.Body.length:Int) > (v_21.Body.length:Int))) (some true) ((getI list_14 k_16).bind λ v_22=>(getI defs_13 k_16).bind λ v_23=>some (v_22.Name != v_23.Name)):Option (Bool)).bind λ v_19=>cond v_19 (some (.inr false)) ((g_impl_Means defs_13 k_16 x_15).bind λ y_24=>cond (y_24.Fault != 0) (some (.inl ())) ((g_impl_Means list_14 k_16 x_15).bind λ y_25=>(cond (y_25.Fault != 0) (some true) ((g_laws_sameBut y_24 y_25).bind λ y_27=>cond (!y_27) (some true) ((g_laws_sameRet y_24.Ret y_25.Ret).bind λ y_28=>cond (!y_28) (some true) (some (decide (y_25.Fuel < y_24.Fuel))))):Option (Bool)).bind λ v_26=>cond v_26 (some (.inr false)) (some (.inl ())))):Option (Unit ⊕ Bool)).bind λ o=>match o with | .inl ()=>g_laws_FnSimple_l0 defs_13 list_14 x_15 k (IntKind.wrap .i64 (k_16+1)) | .inr v_18=>some (.inr v_18)) (some (.inl ()))
def g_laws_FnSimple (code_1:List Int):Option Bool:=(g_laws_big code_1).bind λ y_3=>cond y_3 (some true) ((g_spec_DrawSimpleOf code_1).bind λ y_4=>(g_impl_SimpleOf_hand y_4).bind λ y_5=>(g_spec_DefsOk y_4).bind λ y_6=>cond (!y_6) (some ((y_5.length:Int)==0)) ((cond ((y_5.length:Int) != (y_4.length:Int)) (some true) ((g_impl_DefsOk y_5).bind λ y_8=>some (!y_8)):Option (Bool)).bind λ v_7=>cond v_7 (some false) ((g_spec_DrawMeans code_1).bind λ y_9=>((g_spec_StOk y_9.2.2).bind λ y_11=>cond (!y_11) (some true) (some (y_9.2.2.Fault != 0)):Option (Bool)).bind λ v_10=>cond v_10 (some true) (((g_laws_FnSimple_l0 y_4 y_5 y_9.2.2 bigK 0).bind λ o=>match o with | .inl ()=>some (.inl ()) | .inr v_17=>some (.inr v_17):Option (Unit ⊕ Bool)).bind λ o=>match o with | .inl ()=>some true | .inr v_12=>some v_12))))
def bodyOf (f:Func):Code:=match f.body with|some c=>c|none=>.skip
end Go.Proofs.YtmedombacbpofaaGreatDoor
namespace Go.Proofs.YtmedombacbpofaaGreatDoor
open Go Go.Fm
set_option maxRecDepth 1000000
def itoaLays_ren:Go.Shelf.Ren:=⟨fun|171=>174|243=>179|246=>180|283=>181|284=>182|285=>183|286=>184|129=>146|317=>185|318=>186|319=>187|320=>188|337=>189|338=>190|n=>n,fun|3=>3|9=>9|2=>2|4=>4|171=>221|0=>0|53=>171|37=>22|5=>5|173=>223|212=>226|51=>103|20=>20|213=>227|46=>140|232=>228|233=>229|n=>n,fun|17=>3|18=>4|19=>5|n=>n⟩
theorem itoaLays:Go.Proofs.LaysM.n171 Tryz.prog itoaLays_ren where
 mixed:=by kernel_rfl
 f129:=Tryz.func146.trans (congrArg some (by kernel_rfl))
 f171:=Tryz.func174.trans (congrArg some (by kernel_rfl))
 f243:=Tryz.func179.trans (congrArg some (by kernel_rfl))
 f246:=Tryz.func180.trans (congrArg some (by kernel_rfl))
 f283:=Tryz.func181.trans (congrArg some (by kernel_rfl))
 f284:=Tryz.func182.trans (congrArg some (by kernel_rfl))
 f285:=Tryz.func183.trans (congrArg some (by kernel_rfl))
 f286:=Tryz.func184.trans (congrArg some (by kernel_rfl))
 f317:=Tryz.func185.trans (congrArg some (by kernel_rfl))
 f318:=Tryz.func186.trans (congrArg some (by kernel_rfl))
 f319:=Tryz.func187.trans (congrArg some (by kernel_rfl))
 f320:=Tryz.func188.trans (congrArg some (by kernel_rfl))
 f337:=Tryz.func189.trans (congrArg some (by kernel_rfl))
 f338:=Tryz.func190.trans (congrArg some (by kernel_rfl))
 t0:=Tryz.underlying0
 a0:=Tryz.isAgg0
 z0:=Tryz.sizeOf0
 v0:=Tryz.zeroValue0
 t2:=Tryz.underlying2
 a2:=Tryz.isAgg2
 z2:=Tryz.sizeOf2
 v2:=Tryz.zeroValue2
 t3:=Tryz.underlying3
 a3:=Tryz.isAgg3
 z3:=Tryz.sizeOf3
 v3:=Tryz.zeroValue3
 t4:=Tryz.underlying4
 a4:=Tryz.isAgg4
 z4:=Tryz.sizeOf4
 v4:=Tryz.zeroValue4
 t5:=Tryz.underlying5
 a5:=Tryz.isAgg5
 z5:=Tryz.sizeOf5
 v5:=Tryz.zeroValue5
 t9:=Tryz.underlying9
 a9:=Tryz.isAgg9
 z9:=Tryz.sizeOf9
 v9:=Tryz.zeroValue9
 t20:=Tryz.underlying20
 a20:=Tryz.isAgg20
 z20:=Tryz.sizeOf20
 v20:=Tryz.zeroValue20
 t37:=Tryz.underlying22
 a37:=Tryz.isAgg22
 z37:=Tryz.sizeOf22
 v37:=Tryz.zeroValue22
 t46:=Tryz.underlying140
 a46:=Tryz.isAgg140
 z46:=Tryz.sizeOf140
 v46:=Tryz.zeroValue140
 t51:=Tryz.underlying103
 a51:=Tryz.isAgg103
 z51:=Tryz.sizeOf103
 v51:=Tryz.zeroValue103
 t53:=Tryz.underlying171
 a53:=Tryz.isAgg171
 z53:=Tryz.sizeOf171
 v53:=Tryz.zeroValue171
 t171:=Tryz.underlying221
 a171:=Tryz.isAgg221
 z171:=Tryz.sizeOf221
 v171:=Tryz.zeroValue221
 t173:=Tryz.underlying223
 a173:=Tryz.isAgg223
 z173:=Tryz.sizeOf223
 v173:=Tryz.zeroValue223
 t212:=Tryz.underlying226
 a212:=Tryz.isAgg226
 z212:=Tryz.sizeOf226
 v212:=Tryz.zeroValue226
 t213:=Tryz.underlying227
 a213:=Tryz.isAgg227
 z213:=Tryz.sizeOf227
 t232:=Tryz.underlying228
 a232:=Tryz.isAgg228
 z232:=Tryz.sizeOf228
 v232:=Tryz.zeroValue228
 t233:=Tryz.underlying229
 a233:=Tryz.isAgg229
 z233:=Tryz.sizeOf229
 v233:=Tryz.zeroValue229
 g17:=by kernel_rfl
 g18:=by kernel_rfl
 g19:=by kernel_rfl
 i0:=by kernel_rfl
 i2:=by kernel_rfl
 i3:=by kernel_rfl
 i4:=by kernel_rfl
 i5:=by kernel_rfl
 i9:=by kernel_rfl
 i20:=by kernel_rfl
 i37:=by kernel_rfl
 i46:=by kernel_rfl
 i51:=by kernel_rfl
 i53:=by kernel_rfl
 i171:=by kernel_rfl
 i173:=by kernel_rfl
 i212:=by kernel_rfl
 i232:=by kernel_rfl
 i233:=by kernel_rfl
 m17:=by kernel_rfl
 m18:=by kernel_rfl
 m19:=by kernel_rfl
end Go.Proofs.YtmedombacbpofaaGreatDoor
namespace Go.Proofs.YtmedombacbpofaaGreatDoor
open Go Go.Fm Go.Proofs Go.Shelf Go.RowKit Go.Lib
set_option maxHeartbeats 4000000 in
set_option maxRecDepth 1000000 in
theorem rep_end_54 (b off i m d c vc:Nat) (A:Option Addr) (w W1 W2:World) (hd:0 < d) (hc:i+m+d<=c) (hn:i+m+d<=4294967296)
  (happ:(Builtin.append_ #[37,37] 37 #[.slice (some ⟨b,off,none⟩) i c, .slice A m vc]).run Tryz.prog w=.ok (.slice (some ⟨b,off,none⟩) (i+m) c) W1)
  (hclr:(Builtin.clear_ #[37] 0 #[.slice (some ⟨b,off+(i+m)*2,none⟩) d (c-(i+m))]).run Tryz.prog W1=.ok (.tuple #[]) W2) :
  Calls Tryz.prog 54 #[.slice (some ⟨b,off,none⟩) (i+m+d) c, .int .i64 i, .int .i64 ((i:Int)+m+d), .slice A m vc] w λ e w'=>e=.returned (.slice (some ⟨b,off,none⟩) (i+m) c)/\w'=W2:=by
 have hw1:¬ ((i:Int)=(i:Int)+m+d):=by omega
 have hb1:(0:Int)<=(i:Int)+m+d:=by omega
 have hb2:(i:Int)<=(i:Int)+m+d:=by omega
 have hb3:(i:Int)+m+d<=(c:Int):=by omega
 have hb4:((i:Int)+m+d).toNat=i+m+d:=by omega
 have hb5:¬ (c=i):=by omega
 have hb6:¬ (c=i+m):=by omega
 have hb7:(i:Int)<=(c:Int):=by omega
 have hb8:i+m < i+m+d:=by omega
 have hb9:(i:Int)+m < (i:Int)+m+d:=by omega
 have hb10:(i:Int)+m<=(i:Int)+m+d:=by omega
 go_enter Tryz.func54,Tryz.ntmps54
 go_wp2_with (first
  | (at_builtin;refine Lib.wpList_append_run _ rfl _ _ _ _ rfl _ _ rfl rfl _ _ happ ?_)
  | (at_builtin;refine wpList_clearI _ rfl _ _ rfl _ rfl hclr ?_))
 go_ret
 exact ⟨rfl,rfl⟩
set_option maxHeartbeats 4000000 in
set_option maxRecDepth 1000000 in
theorem rep_mid_54 (b off i m d q c vc:Nat) (A:Option Addr) (w W1 W2 W3:World) (hd:0 < d) (hq:0 < q) (hc:i+m+d+q<=c) (hn:i+m+d+q<=4294967296)
  (hcp1:∀ dl dc,dl=m+q->(Builtin.copy_ #[37,37] 3 #[.slice (some ⟨b,off+i*2,none⟩) dl dc, .slice A m vc]).run Tryz.prog w.drew=.ok (goInt m) W1)
  (hcp2:∀ dl dc sl sc,dl=q->sl=q->(Builtin.copy_ #[37,37] 3 #[.slice (some ⟨b,off+(i+m)*2,none⟩) dl dc, .slice (some ⟨b,off+(i+m+d)*2,none⟩) sl sc]).run Tryz.prog W1.drew=.ok (goInt q) W2)
  (hclr:∀ dl dc,dl=d->(Builtin.clear_ #[37] 0 #[.slice (some ⟨b,off+(i+m+q)*2,none⟩) dl dc]).run Tryz.prog W2=.ok (.tuple #[]) W3) :
  Calls Tryz.prog 54 #[.slice (some ⟨b,off,none⟩) (i+m+d+q) c, .int .i64 i, .int .i64 ((i:Int)+m+d), .slice A m vc] w λ e w'=>e=.returned (.slice (some ⟨b,off,none⟩) (i+m+q) c)/\w'=W3:=by
 have hw1:¬ ((i:Int)=(i:Int)+m+d):=by omega
 have hw2:¬ ((i:Int)+m+d=(i:Int)+m+d+q):=by omega
 have hb1:(0:Int)<=(i:Int)+m+d:=by omega
 have hb2:(i:Int)<=(i:Int)+m+d:=by omega
 have hb3:(i:Int)+m+d<=(c:Int):=by omega
 have hb4:((i:Int)+m+d).toNat=i+m+d:=by omega
 have hb5:¬ (c=i):=by omega
 have hb6:¬ (c=i+m):=by omega
 have hb7:(i:Int)<=(c:Int):=by omega
 have hb11:(i:Int)+m+d<=(i:Int)+m+d+q:=by omega
 have hb12:¬ (c=i+m+d):=by omega
 have hb13:¬ (c=i+m+q):=by omega
 have hb14:¬ ((c:Int) < (i:Int)+m+q):=by omega
 have hb15:(i:Int)+m+q<=(c:Int):=by omega
 have hb16:(0:Int)<=(i:Int)+m+q:=by omega
 have hb17:((i:Int)+m+q).toNat=i+m+q:=by omega
 have hb18:(i:Int)<=(i:Int)+m+q:=by omega
 have hb19:(i:Int)+m<=(i:Int)+m+d:=by omega
 have hb20:(i:Int)+m<=(i:Int)+m+q:=by omega
 have hb21:(0:Int)<=(i:Int)+m:=by omega
 have hb22:((i:Int)+m).toNat=i+m:=by omega
 have hb23:(i:Int)+m+q<=(i:Int)+m+d+q:=by omega
 have hb24:IntKind.i64.wrap ((i:Int)+m)=(i:Int)+m:=by rw[IntKind.wrap_i64];omega
 have hb25:IntKind.i64.wrap ((i:Int)+m+q)=(i:Int)+m+q:=by rw[IntKind.wrap_i64];omega
 have mixed:Tryz.prog.follows .mixedOrders=true:=by kernel_rfl
 go_enter Tryz.func54,Tryz.ntmps54
 go_wp2
 go_big_region_o
 have h1:=hcp1 (i+m+q-i) (c-i) (by omega)
 have h3:=hclr (i+m+d+q-(i+m+q)) (c-(i+m+q)) (by omega)
 go_wp2
 go_region_law_o (refine step_copy_runI rfl _ _ 37 37 rfl _ _ (by simp[Act.eval,Act.put]) (by simp[Act.eval,Act.put]) (hcp2 _ _ _ _ (by omega) (by omega)) ?_)
 go_wp2
 go_ret
 exact ⟨rfl,rfl⟩
end Go.Proofs.YtmedombacbpofaaGreatDoor
namespace Go.Proofs.YtmedombacbpofaaGreatDoor
open Go Go.Fm
set_option maxRecDepth 1000000
noncomputable def e_impl_St_pushes_inGMeaning_1:Con:=⟨130,⟨[(0, .c (.one (.ptr 0 1))),(1, .s K1 [])],[.v K14 [(0,1),(1,2),(2,3),(4,4),(5,5),(6,6),(7,7),(8,8)], .o, .o, .o, .o, .o, .o, .o, .o]⟩,⟨[],[.v K14 [(0,1),(1,9),(2,3),(4,4),(5,5),(6,6),(7,7),(8,8)], .o, .d, .o, .o, .o, .o, .o, .o, .o]⟩,true,[],λ (n_1,st_2)=>g_impl_St_pushes_inGMeaning_1 n_1 st_2⟩
noncomputable def e_impl_meaning_fail_own:Con:=⟨85,⟨[(0, .c (.one (.ptr 0 0))),(1, .s K0 [])],[.v K14 [(0,1),(1,2),(2,3),(4,4),(5,5),(6,6),(7,7),(8,8)], .o, .o, .o, .o, .o, .o, .o, .o]⟩,⟨[],[.v K14 [(0,1),(1,2),(2,3),(4,4),(5,5),(6,6),(7,7),(8,8)], .o, .o, .o, .o, .o, .o, .o, .o]⟩,true,[],λ (fault_1,m_2)=>g_impl_meaning_fail_own fault_1 m_2⟩
noncomputable def e_impl_meaning_burn_own:Con:=⟨129,⟨[(0, .c (.one (.ptr 0 0)))],[.v K14 [(0,1),(1,2),(2,3),(4,4),(5,5),(6,6),(7,7),(8,8)], .o, .o, .o, .o, .o, .o, .o, .o]⟩,⟨[(0, .s K15 [])],[.v K14 [(0,1),(1,2),(2,3),(4,4),(5,5),(6,6),(7,7),(8,8)], .o, .o, .o, .o, .o, .o, .o, .o]⟩,true,[],λ m_1=>g_impl_meaning_burn_own m_1⟩
noncomputable def e_strings_Fields:Con:=⟨134,⟨[(0, .s K16 [])],[]⟩,⟨[(0, .s K17 [(0,0)])],[.o]⟩,false,[],λ s_1=>g_strings_Fields s_1⟩
noncomputable def e_impl_prims:Con:=⟨119,⟨[],[]⟩,⟨[(0, .s K17 [(0,0)])],[.o]⟩,false,[],λ _=>g_impl_prims⟩
noncomputable def e_impl_within:Con:=⟨43,⟨[(0, .s K0 []),(1, .s K0 []),(2, .s K0 [])],[]⟩,⟨[(0, .s K15 [])],[]⟩,false,[],λ (n_1,low_2,high_3)=>g_impl_within n_1 low_2 high_3⟩
noncomputable def e_impl_PrimName:Con:=⟨91,⟨[(0, .s K0 [])],[]⟩,⟨[(0, .s K16 [])],[]⟩,false,[],λ k_1=>g_impl_PrimName k_1⟩
noncomputable def e_slices_Clone_int32:Con:=⟨79,⟨[(0, .s K5 [])],[]⟩,⟨[(0, .s K5 [(0,0)])],[.o]⟩,false,[],λ s_1=>g_slices_Clone_int32 s_1⟩
noncomputable def e_slices_Clone_Slot:Con:=⟨80,⟨[(0, .s K7 [])],[]⟩,⟨[(0, .s K7 [(0,0)])],[.o]⟩,false,[],λ s_1=>g_slices_Clone_Slot s_1⟩
noncomputable def e_slices_Clone_uint32:Con:=⟨81,⟨[(0, .s K9 [])],[]⟩,⟨[(0, .s K9 [(0,0)])],[.o]⟩,false,[],λ s_1=>g_slices_Clone_uint32 s_1⟩
noncomputable def e_slices_Clone_int:Con:=⟨82,⟨[(0, .s K10 [])],[]⟩,⟨[(0, .s K10 [(0,0)])],[.o]⟩,false,[],λ s_1=>g_slices_Clone_int s_1⟩
noncomputable def e_slices_Clone_byte:Con:=⟨83,⟨[(0, .s K12 [])],[]⟩,⟨[(0, .s K12 [(0,0)])],[.o]⟩,false,[],λ s_1=>g_slices_Clone_byte s_1⟩
noncomputable def e_impl_ownSt:Con:=⟨45,⟨[(0, .s K13 [])],[]⟩,⟨[(0, .s K13 [(0,0),(1,1),(3,2),(4,3),(5,4),(6,5),(7,6)])],[.o, .o, .o, .o, .o, .o, .o]⟩,false,[],λ st_1=>g_impl_ownSt st_1⟩
noncomputable def e_impl_doesc1:Con:=⟨152,⟨[(0, .s K0 []),(1, .c (.one (.ptr 0 0)))],[.v K13 []]⟩,⟨[(0, .s K13 [(0,1),(1,2),(3,3),(4,4),(5,5),(6,6),(7,7)])],[.f, .o, .o, .o, .o, .o, .o, .o]⟩,false,[0],λ (fault_1,a_2)=>g_impl_doesc1 fault_1 a_2⟩
noncomputable def e_impl_PrimEffect:Con:=⟨167,⟨[(0, .s K0 [])],[]⟩,⟨[(0, .s K18 [])],[]⟩,false,[],λ k_1=>g_impl_PrimEffect k_1⟩
noncomputable def e_impl_wants:Con:=⟨153,⟨[(0, .s K0 [])],[]⟩,⟨[(0, .s K0 [])],[]⟩,false,[],λ k_1=>g_impl_wants k_1⟩
noncomputable def e_slices_Index_int:Con:=⟨59,⟨[(0, .s K10 []),(1, .s K0 [])],[]⟩,⟨[(0, .s K0 [])],[]⟩,false,[],λ (s_1,v_2)=>g_slices_Index_int s_1 v_2⟩
noncomputable def e_slices_Contains_int:Con:=⟨102,⟨[(0, .s K10 []),(1, .s K0 [])],[]⟩,⟨[(0, .s K15 [])],[]⟩,false,[],λ (s_1,v_2)=>g_slices_Contains_int s_1 v_2⟩
noncomputable def e_impl_St_written:Con:=⟨169,⟨[(0, .c (.one (.ptr 0 0))),(1, .s K16 [])],[.v K13 [(0,1),(1,2),(3,3),(4,4),(5,5),(6,6),(7,7)], .o, .o, .o, .o, .o, .o, .o]⟩,⟨[(0, .s K0 [])],[.v K13 [(0,1),(1,2),(3,3),(4,4),(5,5),(6,8),(7,7)], .o, .o, .o, .o, .o, .d, .o, .o]⟩,false,[],λ (s_1,st_2)=>g_impl_St_written s_1 st_2⟩
noncomputable def e_strconv_Itoa:Con:=⟨174,⟨[(0, .s K0 [])],[]⟩,⟨[(0, .s K16 [])],[]⟩,false,[],λ i_1=>g_strconv_Itoa i_1⟩
noncomputable def e_impl_DecText:Con:=⟨170,⟨[(0, .s K0 [])],[]⟩,⟨[(0, .s K16 [])],[]⟩,false,[],λ n_1=>g_impl_DecText n_1⟩
noncomputable def e_impl_result:Con:=⟨89,⟨[(0, .s K16 []),(1, .s K1 []),(2, .s K1 [])],[]⟩,⟨[(0, .s K5 [(0,0)]),(1, .s K0 [])],[.o]⟩,false,[],λ (name_1,x_2,y_3)=>g_impl_result name_1 x_2 y_3⟩
noncomputable def e_impl_St_place_rd:Con:=⟨168,⟨[(0, .c (.one (.ptr 0 0))),(1, .s K1 [])],[.v K13 [(0,1),(1,2),(3,3),(4,4),(5,5),(6,6),(7,7)], .o, .o, .o, .o, .o, .o, .o]⟩,⟨[(0, .s K0 []),(1, .s K15 []),(2, .s K15 [])],[.f, .f, .f, .f, .f, .f, .f, .f]⟩,false,[0,1,2,3,4,5,6,7],λ (address_1,st_2)=>g_impl_St_place_rd address_1 st_2⟩
noncomputable def e_impl_St_effect:Con:=⟨154,⟨[(0, .c (.one (.ptr 0 0))),(1, .s K16 []),(2, .s K1 []),(3, .s K1 [])],[.v K13 [(0,1),(1,2),(3,3),(4,4),(5,5),(6,6),(7,7)], .o, .o, .o, .o, .o, .o, .o]⟩,⟨[(0, .s K5 [(0,8)]),(1, .s K0 [])],[.v K13 [(0,1),(1,9),(3,3),(4,4),(5,5),(6,10),(7,11)], .o, .d, .o, .o, .o, .d, .d, .o, .o, .o, .o]⟩,false,[],λ (name_1,x_2,y_3,st_4)=>g_impl_St_effect name_1 x_2 y_3 st_4⟩
noncomputable def e_impl_does:Con:=⟨131,⟨[(0, .s K13 []),(1, .s K0 [])],[]⟩,⟨[(0, .s K13 [(0,0),(1,1),(3,2),(4,3),(5,4),(6,5),(7,6)])],[.o, .o, .o, .o, .o, .o, .o]⟩,false,[],λ (st_1,k_2)=>g_impl_does st_1 k_2⟩
noncomputable def e_impl_meaning_enter_r (kk:Nat):Con:=⟨47,⟨[(0, .c (.one (.ptr 0 0))),(1, .s K0 [])],[.v K14 [(0,1),(1,2),(2,3),(4,4),(5,5),(6,6),(7,7),(8,8)], .o, .o, .o, .o, .o, .o, .o, .o]⟩,⟨[],[.v K14 [(0,1),(1,9),(2,10),(4,11),(5,12),(6,13),(7,14),(8,15)], .o, .d, .d, .d, .d, .d, .d, .d, .o, .o, .o, .o, .o, .o, .o]⟩,true,[],λ (k_1,m_2)=>g_impl_meaning_enter_p (g_impl_meaning_all_r kk) k_1 m_2⟩
noncomputable def e_impl_St_begin_inGMeaning_1:Con:=⟨155,⟨[(0, .c (.one (.ptr 0 1)))],[.v K14 [(0,1),(1,2),(2,3),(4,4),(5,5),(6,6),(7,7),(8,8)], .o, .o, .o, .o, .o, .o, .o, .o]⟩,⟨[],[.v K14 [(0,1),(1,9),(2,10),(4,4),(5,5),(6,6),(7,7),(8,8)], .o, .d, .d, .o, .o, .o, .o, .o, .o, .o]⟩,true,[],λ st_1=>g_impl_St_begin_inGMeaning_1 st_1⟩
noncomputable def e_impl_St_again_inGMeaning_1:Con:=⟨156,⟨[(0, .c (.one (.ptr 0 1)))],[.v K14 [(0,1),(1,2),(2,3),(4,4),(5,5),(6,6),(7,7),(8,8)], .o, .o, .o, .o, .o, .o, .o, .o]⟩,⟨[(0, .s K15 [])],[.v K14 [(0,1),(1,2),(2,9),(4,4),(5,5),(6,6),(7,7),(8,8)], .o, .o, .d, .o, .o, .o, .o, .o, .o]⟩,true,[],λ st_1=>g_impl_St_again_inGMeaning_1 st_1⟩
noncomputable def e_impl_meaning_loop_r (kk:Nat):Con:=⟨132,⟨[(0, .c (.one (.ptr 0 0))),(1, .s K3 [])],[.v K14 [(0,1),(1,2),(2,3),(4,4),(5,5),(6,6),(7,7),(8,8)], .o, .o, .o, .o, .o, .o, .o, .o]⟩,⟨[(0, .s K15 [])],[.v K14 [(0,1),(1,9),(2,10),(4,11),(5,12),(6,13),(7,14),(8,15)], .o, .d, .d, .d, .d, .d, .d, .d, .o, .o, .o, .o, .o, .o, .o]⟩,true,[],λ (kids_1,m_2)=>g_impl_meaning_loop_p (g_impl_meaning_all_r kk) kids_1 m_2⟩
noncomputable def e_impl_meaning_one_r (kk:Nat):Con:=⟨117,⟨[(0, .c (.one (.ptr 0 0))),(1, .s K2 [])],[.v K14 [(0,1),(1,2),(2,3),(4,4),(5,5),(6,6),(7,7),(8,8)], .o, .o, .o, .o, .o, .o, .o, .o]⟩,⟨[(0, .s K15 [])],[.v K14 [(0,1),(1,9),(2,10),(4,11),(5,12),(6,13),(7,14),(8,15)], .o, .d, .d, .d, .d, .d, .d, .d, .o, .o, .o, .o, .o, .o, .o]⟩,true,[],λ (t_1,m_2)=>g_impl_meaning_one_p (g_impl_meaning_all_r kk) t_1 m_2⟩
noncomputable def e_impl_meaning_all_r (kk:Nat):Con:=⟨86,⟨[(0, .c (.one (.ptr 0 0))),(1, .s K3 [])],[.v K14 [(0,1),(1,2),(2,3),(4,4),(5,5),(6,6),(7,7),(8,8)], .o, .o, .o, .o, .o, .o, .o, .o]⟩,⟨[(0, .s K15 [])],[.v K14 [(0,1),(1,9),(2,10),(4,11),(5,12),(6,13),(7,14),(8,15)], .o, .d, .d, .d, .d, .d, .d, .d, .o, .o, .o, .o, .o, .o, .o]⟩,true,[],λ (list_1,m_2)=>g_impl_meaning_all_r kk list_1 m_2⟩
noncomputable def e_impl_meaning_all:Con:=⟨86,⟨[(0, .c (.one (.ptr 0 0))),(1, .s K3 [])],[.v K14 [(0,1),(1,2),(2,3),(4,4),(5,5),(6,6),(7,7),(8,8)], .o, .o, .o, .o, .o, .o, .o, .o]⟩,⟨[(0, .s K15 [])],[.v K14 [(0,1),(1,9),(2,10),(4,11),(5,12),(6,13),(7,14),(8,15)], .o, .d, .d, .d, .d, .d, .d, .d, .o, .o, .o, .o, .o, .o, .o]⟩,true,[],λ (list_1,m_2)=>g_impl_meaning_all list_1 m_2⟩
noncomputable def e_impl_meaning_enter:Con:=⟨47,⟨[(0, .c (.one (.ptr 0 0))),(1, .s K0 [])],[.v K14 [(0,1),(1,2),(2,3),(4,4),(5,5),(6,6),(7,7),(8,8)], .o, .o, .o, .o, .o, .o, .o, .o]⟩,⟨[],[.v K14 [(0,1),(1,9),(2,10),(4,11),(5,12),(6,13),(7,14),(8,15)], .o, .d, .d, .d, .d, .d, .d, .d, .o, .o, .o, .o, .o, .o, .o]⟩,true,[],λ (k_1,m_2)=>g_impl_meaning_enter k_1 m_2⟩
noncomputable def e_laws_big:Con:=⟨6,⟨[(0, .s K12 [])],[]⟩,⟨[(0, .s K15 [])],[]⟩,false,[],λ code_1=>g_laws_big code_1⟩
noncomputable def e_spec_l01New:Con:=⟨26,⟨[(0, .s K12 [])],[]⟩,⟨[(0, .c (.one (.ptr 0 0)))],[.v K19 []]⟩,true,[],λ code_1=>g_spec_l01New code_1⟩
noncomputable def e_spec_l01Byte:Con:=⟨77,⟨[(0, .c (.one (.ptr 0 0)))],[.v K19 []]⟩,⟨[(0, .s K0 [])],[.v K19 []]⟩,true,[],λ c_1=>g_spec_l01Byte c_1⟩
noncomputable def e_spec_l01Below:Con:=⟨40,⟨[(0, .c (.one (.ptr 0 0))),(1, .s K0 [])],[.v K19 []]⟩,⟨[(0, .s K0 [])],[.v K19 []]⟩,true,[],λ (n_1,c_2)=>g_spec_l01Below n_1 c_2⟩
noncomputable def e_spec_l01Once:Con:=⟨29,⟨[(0, .c (.one (.ptr 0 0))),(1, .s K0 [])],[.v K19 []]⟩,⟨[(0, .s K15 [])],[.v K19 []]⟩,true,[],λ (n_1,c_2)=>g_spec_l01Once n_1 c_2⟩
noncomputable def e_spec_l01PickInt:Con:=⟨65,⟨[(0, .c (.one (.ptr 0 0))),(1, .s K10 [])],[.v K19 []]⟩,⟨[(0, .s K0 [])],[.v K19 []]⟩,true,[],λ (list_1,c_2)=>g_spec_l01PickInt list_1 c_2⟩
noncomputable def e_spec_l09Plain:Con:=⟨107,⟨[(0, .c (.one (.ptr 0 0))),(1, .s K0 [])],[.v K19 []]⟩,⟨[(0, .s K20 [])],[.v K19 []]⟩,true,[],λ (n_1,c_2)=>g_spec_l09Plain n_1 c_2⟩
noncomputable def e_spec_l09Body_r (kk:Nat):Con:=⟨62,⟨[(0, .c (.one (.ptr 0 0))),(1, .s K0 []),(2, .s K0 [])],[.v K19 []]⟩,⟨[(0, .s K21 [(0,1)])],[.v K19 [], .o]⟩,true,[],λ (n_1,deep_2,c_3)=>g_spec_l09Body_r kk n_1 deep_2 c_3⟩
noncomputable def e_spec_l09Body:Con:=⟨62,⟨[(0, .c (.one (.ptr 0 0))),(1, .s K0 []),(2, .s K0 [])],[.v K19 []]⟩,⟨[(0, .s K21 [(0,1)])],[.v K19 [], .o]⟩,true,[],λ (n_1,deep_2,c_3)=>g_spec_l09Body n_1 deep_2 c_3⟩
noncomputable def e_spec_l01Pick:Con:=⟨63,⟨[(0, .c (.one (.ptr 0 0))),(1, .s K17 [])],[.v K19 []]⟩,⟨[(0, .s K16 [])],[.v K19 []]⟩,true,[],λ (list_1,c_2)=>g_spec_l01Pick list_1 c_2⟩
noncomputable def e_spec_l09Make:Con:=⟨27,⟨[(0, .c (.one (.ptr 0 0)))],[.v K19 []]⟩,⟨[(0, .s K23 [(0,1)])],[.v K19 [], .o]⟩,true,[],λ c_1=>g_spec_l09Make c_1⟩
noncomputable def e_spec_l04Int:Con:=⟨64,⟨[(0, .c (.one (.ptr 0 0)))],[.v K19 []]⟩,⟨[(0, .s K1 [])],[.v K19 []]⟩,true,[],λ c_1=>g_spec_l04Int c_1⟩
noncomputable def e_spec_l09Any:Con:=⟨39,⟨[(0, .c (.one (.ptr 0 0)))],[.v K19 []]⟩,⟨[(0, .s K21 [(0,1)])],[.v K19 [], .o]⟩,true,[],λ c_1=>g_spec_l09Any c_1⟩
noncomputable def e_spec_l15Body:Con:=⟨28,⟨[(0, .c (.one (.ptr 0 0)))],[.v K19 []]⟩,⟨[(0, .s K21 [(0,1)])],[.v K19 [], .o]⟩,true,[],λ c_1=>g_spec_l15Body c_1⟩
noncomputable def e_spec_l08Names:Con:=⟨122,⟨[],[]⟩,⟨[(0, .s K17 [(0,0)])],[.o]⟩,false,[],λ _=>g_spec_l08Names⟩
noncomputable def e_spec_l01In:Con:=⟨41,⟨[(0, .s K0 []),(1, .s K0 []),(2, .s K0 [])],[]⟩,⟨[(0, .s K15 [])],[]⟩,false,[],λ (x_1,a_2,b_3)=>g_spec_l01In x_1 a_2 b_3⟩
noncomputable def e_spec_PrimName:Con:=⟨99,⟨[(0, .s K0 [])],[]⟩,⟨[(0, .s K16 [])],[]⟩,false,[],λ k_1=>g_spec_PrimName k_1⟩
noncomputable def e_spec_l09Op:Con:=⟨56,⟨[(0, .s K20 [])],[]⟩,⟨[(0, .s K15 [])],[]⟩,false,[],λ o_1=>g_spec_l09Op o_1⟩
noncomputable def e_spec_l09Open:Con:=⟨57,⟨[(0, .s K21 [])],[]⟩,⟨[(0, .s K10 [(0,0)]),(1, .s K15 [])],[.o]⟩,false,[],λ body_1=>g_spec_l09Open body_1⟩
noncomputable def e_spec_ShapeOk:Con:=⟨21,⟨[(0, .s K21 [])],[]⟩,⟨[(0, .s K15 [])],[]⟩,false,[],λ body_1=>g_spec_ShapeOk body_1⟩
noncomputable def e_spec_DrawSimpleOf:Con:=⟨7,⟨[(0, .s K12 [])],[]⟩,⟨[(0, .s K23 [(0,0)])],[.o]⟩,true,[],λ code_1=>g_spec_DrawSimpleOf code_1⟩
noncomputable def e_impl_letters:Con:=⟨111,⟨[],[]⟩,⟨[(0, .s K16 [])],[]⟩,false,[],λ _=>g_impl_letters⟩
noncomputable def e_ibytealg_IndexByteString:Con:=⟨147,⟨[(0, .s K16 []),(1, .s K11 [])],[]⟩,⟨[(0, .s K0 [])],[]⟩,false,[],λ a=>g_ibytealg_IndexByteString a.1 a.2⟩
noncomputable def e_istringslite_IndexByte:Con:=⟨125,⟨[(0, .s K16 []),(1, .s K11 [])],[]⟩,⟨[(0, .s K0 [])],[]⟩,false,[],λ (s_1,c_2)=>g_istringslite_IndexByte s_1 c_2⟩
noncomputable def e_strings_IndexByte:Con:=⟨110,⟨[(0, .s K16 []),(1, .s K11 [])],[]⟩,⟨[(0, .s K0 [])],[]⟩,false,[],λ (s_1,c_2)=>g_strings_IndexByte s_1 c_2⟩
noncomputable def e_impl_LetterOf:Con:=⟨70,⟨[(0, .s K11 [])],[]⟩,⟨[(0, .s K0 [])],[]⟩,false,[],λ b_1=>g_impl_LetterOf b_1⟩
noncomputable def e_impl_NameOk:Con:=⟨34,⟨[(0, .s K16 [])],[]⟩,⟨[(0, .s K15 [])],[]⟩,false,[],λ s_1=>g_impl_NameOk s_1⟩
noncomputable def e_impl_opOk:Con:=⟨112,⟨[(0, .s K20 [])],[]⟩,⟨[(0, .s K15 [])],[]⟩,false,[],λ o_1=>g_impl_opOk o_1⟩
noncomputable def e_impl_openIn:Con:=⟨71,⟨[(0, .s K21 [])],[]⟩,⟨[(0, .s K10 [(0,0)]),(1, .s K15 [])],[.o]⟩,false,[],λ body_1=>g_impl_openIn body_1⟩
noncomputable def e_impl_ShapeOk:Con:=⟨35,⟨[(0, .s K21 [])],[]⟩,⟨[(0, .s K15 [])],[]⟩,false,[],λ body_1=>g_impl_ShapeOk body_1⟩
noncomputable def e_impl_callsBelowc1:Con:=⟨73,⟨[(0, .s K20 []),(1, .c (.one (.ptr 0 0)))],[.v K0 []]⟩,⟨[(0, .s K15 [])],[.f]⟩,false,[0],λ (o_1,a_2)=>g_impl_callsBelowc1 o_1 a_2⟩
noncomputable def e_slices_IndexFunc_Op_impl_callsBelowc1:Con:=⟨113,⟨[(0, .s K21 []),(1, .c (.one (.fn 73 [(0,0)])))],[.v K0 []]⟩,⟨[(0, .s K0 [])],[.f]⟩,false,[0],λ (s_1,c_2)=>g_slices_IndexFunc_Op_impl_callsBelowc1 s_1 c_2⟩
noncomputable def e_slices_ContainsFunc_Op_impl_callsBelowc1:Con:=⟨72,⟨[(0, .s K21 []),(1, .c (.one (.fn 73 [(0,0)])))],[.v K0 []]⟩,⟨[(0, .s K15 [])],[.f]⟩,false,[0],λ (s_1,c_2)=>g_slices_ContainsFunc_Op_impl_callsBelowc1 s_1 c_2⟩
noncomputable def e_impl_callsBelow:Con:=⟨36,⟨[(0, .s K21 []),(1, .s K0 [])],[]⟩,⟨[(0, .s K15 [])],[]⟩,false,[],λ (body_1,n_2)=>g_impl_callsBelow body_1 n_2⟩
noncomputable def e_impl_DefsOkc1:Con:=⟨33,⟨[(0, .s K22 []),(1, .c (.one (.ptr 0 0)))],[.v K23 []]⟩,⟨[(0, .s K15 [])],[.f]⟩,false,[0],λ (d_1,a_2)=>g_impl_DefsOkc1 d_1 a_2⟩
noncomputable def e_slices_IndexFunc_Def_impl_DefsOkc1:Con:=⟨69,⟨[(0, .s K23 []),(1, .c (.one (.fn 33 [(0,0)])))],[.v K23 []]⟩,⟨[(0, .s K0 [])],[.f]⟩,false,[0],λ (s_1,c_2)=>g_slices_IndexFunc_Def_impl_DefsOkc1 s_1 c_2⟩
noncomputable def e_slices_ContainsFunc_Def_impl_DefsOkc1:Con:=⟨32,⟨[(0, .s K23 []),(1, .c (.one (.fn 33 [(0,0)])))],[.v K23 []]⟩,⟨[(0, .s K15 [])],[.f]⟩,false,[0],λ (s_1,c_2)=>g_slices_ContainsFunc_Def_impl_DefsOkc1 s_1 c_2⟩
noncomputable def e_impl_DefsOk:Con:=⟨10,⟨[(0, .s K23 [])],[]⟩,⟨[(0, .s K15 [])],[]⟩,false,[],λ defs_1=>g_impl_DefsOk defs_1⟩
noncomputable def e_impl_grow_r (kk:Nat):Con:=⟨84,⟨[(0, .s K21 [])],[]⟩,⟨[(0, .s K3 [(0,0)]),(1, .s K21 [])],[.o]⟩,true,[],λ body_1=>g_impl_grow_r kk body_1⟩
noncomputable def e_impl_grow:Con:=⟨84,⟨[(0, .s K21 [])],[]⟩,⟨[(0, .s K3 [(0,0)]),(1, .s K21 [])],[.o]⟩,true,[],λ body_1=>g_impl_grow body_1⟩
noncomputable def e_impl_TreeOf:Con:=⟨46,⟨[(0, .s K21 [])],[]⟩,⟨[(0, .s K3 [(0,0)])],[.o]⟩,true,[],λ body_1=>g_impl_TreeOf body_1⟩
noncomputable def e_impl_pruned_imm_r (kk:Nat):Con:=⟨67,⟨[(0, .s K3 [])],[]⟩,⟨[(0, .s K3 [])],[]⟩,true,[],λ list_1=>g_impl_pruned_imm_r kk list_1⟩
noncomputable def e_impl_pruned_imm:Con:=⟨67,⟨[(0, .s K3 [])],[]⟩,⟨[(0, .s K3 [])],[]⟩,true,[],λ list_1=>g_impl_pruned_imm list_1⟩
noncomputable def e_impl_pruned:Con:=⟨67,⟨[(0, .s K3 [])],[]⟩,⟨[(0, .s K3 [(0,0)])],[.o]⟩,true,[],λ list_1=>g_impl_pruned list_1⟩
noncomputable def e_impl_flat_r (kk:Nat):Con:=⟨108,⟨[(0, .s K3 []),(1, .s K21 [(0,0)])],[.o]⟩,⟨[(0, .s K21 [(0,1)]),(1, .s K15 [])],[.d, .o]⟩,false,[],λ (list_1,body_2)=>g_impl_flat_r kk list_1 body_2⟩
noncomputable def e_impl_flat:Con:=⟨108,⟨[(0, .s K3 []),(1, .s K21 [(0,0)])],[.o]⟩,⟨[(0, .s K21 [(0,1)]),(1, .s K15 [])],[.d, .o]⟩,false,[],λ (list_1,body_2)=>g_impl_flat list_1 body_2⟩
noncomputable def e_impl_flat_emp:Con:=⟨108,⟨[(0, .s K3 []),(1, .c (.one (.emp)))],[]⟩,⟨[(0, .s K21 [(0,0)]),(1, .s K15 [])],[.o]⟩,false,[],λ list_1=>g_impl_flat_emp list_1⟩
noncomputable def e_impl_FlatOf:Con:=⟨66,⟨[(0, .s K3 [])],[]⟩,⟨[(0, .s K21 [(0,0)])],[.o]⟩,false,[],λ list_1=>g_impl_FlatOf list_1⟩
noncomputable def e_impl_prune:Con:=⟨30,⟨[(0, .s K21 [])],[]⟩,⟨[(0, .s K21 [(0,0)])],[.o]⟩,false,[],λ body_1=>g_impl_prune body_1⟩
noncomputable def e_slices_Clone_Op:Con:=⟨52,⟨[(0, .s K21 [])],[]⟩,⟨[(0, .s K21 [(0,0)])],[.o]⟩,false,[],λ s_1=>g_slices_Clone_Op s_1⟩
noncomputable def e_impl_foldedc1:Con:=⟨87,⟨[(0, .s K0 []),(1, .c (.one (.ptr 0 0)))],[.v K21 []]⟩,⟨[(0, .s K20 [])],[.f]⟩,false,[0],λ (k_1,a_2)=>g_impl_foldedc1 k_1 a_2⟩
noncomputable def e_slices_Index_string:Con:=⟨133,⟨[(0, .s K17 []),(1, .s K16 [])],[]⟩,⟨[(0, .s K0 [])],[]⟩,false,[],λ (s_1,v_2)=>g_slices_Index_string s_1 v_2⟩
noncomputable def e_slices_Contains_string:Con:=⟨118,⟨[(0, .s K17 []),(1, .s K16 [])],[]⟩,⟨[(0, .s K15 [])],[]⟩,false,[],λ (s_1,v_2)=>g_slices_Contains_string s_1 v_2⟩
noncomputable def e_impl_isPrim:Con:=⟨90,⟨[(0, .s K20 []),(1, .s K17 [])],[]⟩,⟨[(0, .s K15 [])],[]⟩,false,[],λ (o_1,names_2)=>g_impl_isPrim o_1 names_2⟩
noncomputable def e_impl_foldedc2:Con:=⟨88,⟨[(0, .s K16 []),(1, .s K1 []),(2, .s K1 [])],[]⟩,⟨[(0, .s K21 [(0,0)])],[.o]⟩,false,[],λ (name_1,x_2,y_3)=>g_impl_foldedc2 name_1 x_2 y_3⟩
noncomputable def e_impl_folded:Con:=⟨53,⟨[(0, .s K21 [])],[]⟩,⟨[(0, .s K21 [(0,0)]),(1, .s K0 [])],[.o]⟩,false,[],λ body_1=>g_impl_folded body_1⟩
noncomputable def e_slices_Replace_Op:Con:=⟨54,⟨[(0, .s K21 [(0,0)]),(1, .s K0 []),(2, .s K0 []),(3, .s K21 [(0,1)])],[.o, .o]⟩,⟨[(0, .s K21 [(0,2)])],[.d, .d, .o]⟩,false,[],λ a=>g_slices_Replace_Op a.1 a.2.1 a.2.2.1 a.2.2.2⟩
noncomputable def e_impl_Fold_imm:Con:=⟨17,⟨[(0, .s K21 [])],[]⟩,⟨[(0, .s K21 [])],[]⟩,true,[],λ body_1=>g_impl_Fold_imm body_1⟩
noncomputable def e_spec_l02All:Con:=⟨109,⟨[],[]⟩,⟨[(0, .s K16 [])],[]⟩,false,[],λ _=>g_spec_l02All⟩
noncomputable def e_spec_LetterOf:Con:=⟨68,⟨[(0, .s K11 [])],[]⟩,⟨[(0, .s K0 [])],[]⟩,false,[],λ b_1=>g_spec_LetterOf b_1⟩
noncomputable def e_spec_NameOk:Con:=⟨31,⟨[(0, .s K16 [])],[]⟩,⟨[(0, .s K15 [])],[]⟩,false,[],λ s_1=>g_spec_NameOk s_1⟩
noncomputable def e_spec_DefsOk:Con:=⟨9,⟨[(0, .s K23 [])],[]⟩,⟨[(0, .s K15 [])],[]⟩,false,[],λ defs_1=>g_spec_DefsOk defs_1⟩
noncomputable def e_impl_SimpleOf_hand:Con:=⟨8,⟨[(0, .s K23 [(0,0)])],[.o]⟩,⟨[(0, .s K23 [(0,1)])],[.f, .o]⟩,true,[0],λ defs_1=>g_impl_SimpleOf_hand defs_1⟩
noncomputable def e_spec_NewStore:Con:=⟨114,⟨[(0, .s K0 [])],[]⟩,⟨[(0, .s K24 [(0,0)])],[.o]⟩,false,[],λ n_1=>g_spec_NewStore n_1⟩
noncomputable def e_spec_LetterAt:Con:=⟨166,⟨[(0, .s K0 [])],[]⟩,⟨[(0, .s K11 [])],[]⟩,false,[],λ k_1=>g_spec_LetterAt k_1⟩
noncomputable def e_spec_l02Name:Con:=⟨151,⟨[(0, .c (.one (.ptr 0 0)))],[.v K19 []]⟩,⟨[(0, .s K16 [])],[.v K19 []]⟩,true,[],λ c_1=>g_spec_l02Name c_1⟩
noncomputable def e_spec_l04Some:Con:=⟨127,⟨[(0, .c (.one (.ptr 0 0)))],[.v K19 []]⟩,⟨[(0, .s K25 [])],[.v K19 []]⟩,true,[],λ c_1=>g_spec_l04Some c_1⟩
noncomputable def e_spec_l04Num:Con:=⟨148,⟨[(0, .s K1 []),(1, .s K15 []),(2, .s K8 []),(3, .s K8 [])],[]⟩,⟨[(0, .s K9 [(0,0)])],[.o]⟩,false,[],λ (n_1,hex_2,short_3,long_4)=>g_spec_l04Num n_1 hex_2 short_3 long_4⟩
noncomputable def e_spec_WidthOf:Con:=⟨177,⟨[(0, .s K0 [])],[]⟩,⟨[(0, .s K0 [])],[]⟩,false,[],λ k_1=>g_spec_WidthOf k_1⟩
noncomputable def e_spec_BitsOf:Con:=⟨178,⟨[(0, .s K0 [])],[]⟩,⟨[(0, .s K8 [])],[]⟩,false,[],λ k_1=>g_spec_BitsOf k_1⟩
noncomputable def e_spec_l03One:Con:=⟨173,⟨[(0, .s K16 [])],[]⟩,⟨[(0, .s K8 []),(1, .s K0 [])],[]⟩,false,[],λ s_1=>g_spec_l03One s_1⟩
noncomputable def e_spec_Pack:Con:=⟨165,⟨[(0, .s K16 [])],[]⟩,⟨[(0, .s K9 [(0,0)])],[.o]⟩,false,[],λ s_1=>g_spec_Pack s_1⟩
noncomputable def e_spec_l04Word:Con:=⟨149,⟨[(0, .s K8 []),(1, .s K16 [])],[]⟩,⟨[(0, .s K9 [(0,0)])],[.o]⟩,false,[],λ (tag_1,name_2)=>g_spec_l04Word tag_1 name_2⟩
noncomputable def e_spec_l04Tag:Con:=⟨150,⟨[(0, .s K0 [])],[]⟩,⟨[(0, .s K8 [])],[]⟩,false,[],λ kind_1=>g_spec_l04Tag kind_1⟩
noncomputable def e_spec_CellsOf:Con:=⟨126,⟨[(0, .s K25 [])],[]⟩,⟨[(0, .s K9 [(0,0)])],[.o]⟩,false,[],λ it_1=>g_spec_CellsOf it_1⟩
noncomputable def e_spec_l01Word:Con:=⟨128,⟨[(0, .c (.one (.ptr 0 0)))],[.v K19 []]⟩,⟨[(0, .s K8 [])],[.v K19 []]⟩,true,[],λ c_1=>g_spec_l01Word c_1⟩
noncomputable def e_spec_l04Cells:Con:=⟨115,⟨[(0, .c (.one (.ptr 0 0)))],[.v K19 []]⟩,⟨[(0, .s K9 [(0,1)])],[.v K19 [], .o]⟩,true,[],λ c_1=>g_spec_l04Cells c_1⟩
noncomputable def e_spec_l05Make:Con:=⟨75,⟨[(0, .c (.one (.ptr 0 0)))],[.v K19 []]⟩,⟨[(0, .s K24 [(0,1)])],[.v K19 [], .o]⟩,true,[],λ c_1=>g_spec_l05Make c_1⟩
noncomputable def e_spec_StoreOk:Con:=⟨42,⟨[(0, .s K24 [])],[]⟩,⟨[(0, .s K15 [])],[]⟩,false,[],λ s_1=>g_spec_StoreOk s_1⟩
noncomputable def e_spec_NewSt:Con:=⟨74,⟨[(0, .s K24 []),(1, .s K12 []),(2, .s K0 [])],[]⟩,⟨[(0, .s K13 [(0,0),(1,1),(3,2),(4,3),(5,4),(6,5),(7,6)])],[.o, .o, .o, .o, .o, .o, .o]⟩,false,[],λ (s_1,vin_2,fuel_3)=>g_spec_NewSt s_1 vin_2 fuel_3⟩
noncomputable def e_spec_l08First:Con:=⟨76,⟨[(0, .s K13 [])],[]⟩,⟨[(0, .s K0 [])],[]⟩,false,[],λ st_1=>g_spec_l08First st_1⟩
noncomputable def e_spec_l08Make:Con:=⟨37,⟨[(0, .c (.one (.ptr 0 0)))],[.v K19 []]⟩,⟨[(0, .s K13 [(0,1),(1,2),(3,3),(4,4),(5,5),(6,6),(7,7)])],[.v K19 [], .o, .o, .o, .o, .o, .o, .o]⟩,true,[],λ c_1=>g_spec_l08Make c_1⟩
noncomputable def e_spec_l08Any:Con:=⟨38,⟨[(0, .c (.one (.ptr 0 0)))],[.v K19 []]⟩,⟨[(0, .s K13 [(0,1),(1,2),(3,3),(4,4),(5,5),(6,6),(7,7)])],[.v K19 [], .o, .o, .o, .o, .o, .o, .o]⟩,true,[],λ c_1=>g_spec_l08Any c_1⟩
noncomputable def e_spec_l09Any_imm:Con:=⟨39,⟨[(0, .c (.one (.ptr 0 0)))],[.v K19 []]⟩,⟨[(0, .s K21 [])],[.v K19 []]⟩,true,[],λ c_1=>g_spec_l09Any_imm c_1⟩
noncomputable def e_spec_DrawMeans:Con:=⟨11,⟨[(0, .s K12 [])],[]⟩,⟨[(0, .s K23 [(0,0)]),(1, .s K0 []),(2, .s K13 [(0,1),(1,2),(3,3),(4,4),(5,5),(6,6),(7,7)])],[.o, .o, .o, .o, .o, .o, .o, .o]⟩,true,[],λ code_1=>g_spec_DrawMeans code_1⟩
noncomputable def e_spec_StOk:Con:=⟨12,⟨[(0, .s K13 [])],[]⟩,⟨[(0, .s K15 [])],[]⟩,false,[],λ st_1=>g_spec_StOk st_1⟩
noncomputable def e_impl_StoreOk:Con:=⟨116,⟨[(0, .s K24 [])],[]⟩,⟨[(0, .s K15 [])],[]⟩,false,[],λ s_1=>g_impl_StoreOk s_1⟩
noncomputable def e_impl_StOk:Con:=⟨78,⟨[(0, .s K13 [])],[]⟩,⟨[(0, .s K15 [])],[]⟩,false,[],λ st_1=>g_impl_StOk st_1⟩
noncomputable def e_impl_goes:Con:=⟨44,⟨[(0, .s K13 [])],[]⟩,⟨[(0, .s K15 [])],[]⟩,false,[],λ st_1=>g_impl_goes st_1⟩
noncomputable def e_impl_TreeOf_imm:Con:=⟨46,⟨[(0, .s K21 [])],[]⟩,⟨[(0, .s K3 [])],[]⟩,true,[],λ body_1=>g_impl_TreeOf_imm body_1⟩
noncomputable def e_impl_Means:Con:=⟨13,⟨[(0, .s K23 []),(1, .s K0 []),(2, .s K13 [])],[]⟩,⟨[(0, .s K13 [(0,0),(1,1),(3,2),(4,3),(5,4),(6,5),(7,6)])],[.o, .o, .o, .o, .o, .o, .o]⟩,false,[],λ (defs_1,k_2,st_3)=>g_impl_Means defs_1 k_2 st_3⟩
noncomputable def e_laws_sameNums:Con:=⟨48,⟨[(0, .s K5 []),(1, .s K5 [])],[]⟩,⟨[(0, .s K15 [])],[]⟩,false,[],λ (a_1,b_2)=>g_laws_sameNums a_1 b_2⟩
noncomputable def e_laws_sameCells:Con:=⟨49,⟨[(0, .s K9 []),(1, .s K9 [])],[]⟩,⟨[(0, .s K15 [])],[]⟩,false,[],λ (a_1,b_2)=>g_laws_sameCells a_1 b_2⟩
noncomputable def e_laws_sameInts:Con:=⟨50,⟨[(0, .s K10 []),(1, .s K10 [])],[]⟩,⟨[(0, .s K15 [])],[]⟩,false,[],λ (a_1,b_2)=>g_laws_sameInts a_1 b_2⟩
noncomputable def e_laws_sameBytes:Con:=⟨51,⟨[(0, .s K12 []),(1, .s K12 [])],[]⟩,⟨[(0, .s K15 [])],[]⟩,false,[],λ (a_1,b_2)=>g_laws_sameBytes a_1 b_2⟩
noncomputable def e_laws_sameBut:Con:=⟨14,⟨[(0, .s K13 []),(1, .s K13 [])],[]⟩,⟨[(0, .s K15 [])],[]⟩,false,[],λ (a_1,b_2)=>g_laws_sameBut a_1 b_2⟩
noncomputable def e_laws_sameRet:Con:=⟨15,⟨[(0, .s K7 []),(1, .s K7 [])],[]⟩,⟨[(0, .s K15 [])],[]⟩,false,[],λ (a_1,b_2)=>g_laws_sameRet a_1 b_2⟩
noncomputable def e_laws_FnSimple:Con:=⟨3,⟨[(0, .s K12 [])],[]⟩,⟨[(0, .s K15 [])],[]⟩,false,[],λ code_1=>g_laws_FnSimple code_1⟩
abbrev CO (c:Con):Prop:=ConOk Tryz.prog c
abbrev CK (Γ:List Con) (n:Nat) (an:An) (f:Func) (e:Con):Prop:=AnOk TryzT Γ n an (bodyOf f)/\∀ a,fnRun TryzT Γ an (bodyOf f) f.results.toList e.ro e.ps e.rs a=e.g a
theorem fnc {Γ:List Con} {n:Nat} {an:An} {fn:Func} {C:Con} (h:Tryz.prog.follows .mixedOrders=true->∀ c ∈ Γ,CO c) (hf:Tryz.prog.funcs[C.f]? = some fn) (hk:CK Γ n an fn C) (h1:(!(fn.name == "runtime.NumGoroutine")&&okC fn.ntmps (bodyOf fn))=true)
  (h2:∀ a,entB C n fn.ntmps a=true) (h3:∀ r,endB C fn.results.toList.length r=true) (hb:fn.body=some (bodyOf fn)):CO C:=by
 rw[Bool.and_eq_true,Bool.not_eq_true']at h1
 exact fn_ok (P:=λ _=>Tryz.prog) (n:=n) TryzT_eq h hf hb h1.1 rfl rfl h1.2 rfl h2 h3 hk.1 λ a r e=>(hk.2 a).trans e
end Go.Proofs.YtmedombacbpofaaGreatDoor
namespace Go.Proofs.YtmedombacbpofaaGreatDoor
open Go Go.Fm
set_option maxRecDepth 1000000
noncomputable def ane_impl_St_pushes_inGMeaning_1:An:=.z
theorem ke_impl_St_pushes_inGMeaning_1:CK [] 9 ane_impl_St_pushes_inGMeaning_1 Tryz.f130 e_impl_St_pushes_inGMeaning_1:=⟨trivial,λ _=>by kernel_rfl⟩
noncomputable def ane_impl_meaning_fail_own:An:=.z
theorem ke_impl_meaning_fail_own:CK [] 9 ane_impl_meaning_fail_own Tryz.f85 e_impl_meaning_fail_own:=⟨trivial,λ _=>by kernel_rfl⟩
noncomputable def ane_impl_meaning_burn_own:An:=.z
theorem ke_impl_meaning_burn_own:CK [e_impl_meaning_fail_own] 9 ane_impl_meaning_burn_own Tryz.f129 e_impl_meaning_burn_own:=⟨trivial,λ _=>by kernel_rfl⟩
noncomputable def ane_strings_Fields:An:=.q .z (.q .z (.q .z (.q .z (.m [(.normal,⟨[(3, .s K0 []),(5, .s K11 [])],[]⟩)] [0,2] [] (.q .z (.b (.l ⟨[(0, .s K16 []),(2, .c (.one (.emp)))],[]⟩ ⟨[(3, .s K0 []),(4, .s K0 []),(5, .s K11 []),(6, .s K0 [])],[]⟩ [(.exit 0,⟨[(3, .s K0 []),(5, .s K11 [])],[]⟩)] (λ s_1 k (n_5,wasSpace_6,setBits_7,i_8)=>g_strings_Fields_l0 s_1 k n_5 wasSpace_6 setBits_7 i_8) .z))) (.q .z (.q .z (.q .z (.q .z (.q .z (.q (.b (.l ⟨[(0, .s K16 []),(2, .c (.one (.emp))),(9, .s K17 [(0,0)]),(10, .s K0 [])],[.o]⟩ ⟨[(12, .s K0 [])],[.f]⟩ [(.exit 2,⟨[(12, .s K0 [])],[.f]⟩)] (λ (s_1,_,_) k i_15=>g_strings_Fields_l1 s_1 k i_15) (.q (.m [(.normal,⟨[(53, .s K15 [])],[.f]⟩)] [12] [] .z .z) .z))) (.q .z (.q (.b (.l ⟨[(0, .s K16 []),(2, .c (.one (.emp)))],[.n]⟩ ⟨[(9, .s K17 [(0,0)]),(10, .s K0 []),(11, .s K0 []),(12, .s K0 [])],[.o]⟩ [(.exit 4,⟨[(9, .s K17 [(0,0)]),(10, .s K0 []),(11, .s K0 [])],[.o]⟩)] (λ s_1 k (a_20,na_21,fieldStart_22,i_23)=>g_strings_Fields_l2 s_1 k a_20 na_21 fieldStart_22 i_23) (.q .z (.b (.q .z (.q .z (.q .z (.q .z (.q (.b (.l ⟨[(0, .s K16 []),(2, .c (.one (.emp))),(9, .s K17 [(0,0)]),(10, .s K0 []),(11, .s K0 [])],[.o]⟩ ⟨[(12, .s K0 [])],[.f]⟩ [(.exit 6,⟨[(12, .s K0 [])],[.f]⟩)] (λ (s_1,_,_,_) k i_33=>g_strings_Fields_l3 s_1 k i_33) (.q (.m [(.normal,⟨[(91, .s K15 [])],[.f]⟩)] [12] [] .z .z) .z))) .z))))))))) (.m [(.normal,⟨[(9, .s K17 [(0,0)])],[.o]⟩)] [0,2,10,11] [] .z .z)))))))))))))
theorem ke_strings_Fields:CK [] 0 ane_strings_Fields Tryz.f134 e_strings_Fields:=⟨⟨trivial,⟨trivial,⟨trivial,⟨trivial,⟨⟨trivial,⟨λ _ _=>rfl,λ _ _ _ _=>by kernel_rfl,trivial⟩⟩,⟨trivial,⟨trivial,⟨trivial,⟨trivial,⟨trivial,⟨⟨λ _ _=>rfl,λ _ _ _ _=>by kernel_rfl,⟨⟨trivial,trivial⟩,trivial⟩⟩,⟨trivial,⟨⟨λ _ _=>rfl,λ _ _ _ _=>by kernel_rfl,⟨trivial,⟨trivial,⟨trivial,⟨trivial,⟨trivial,⟨⟨λ _ _=>rfl,λ _ _ _ _=>by kernel_rfl,⟨⟨trivial,trivial⟩,trivial⟩⟩,trivial⟩⟩⟩⟩⟩⟩⟩,⟨trivial,trivial⟩⟩⟩⟩⟩⟩⟩⟩⟩⟩⟩⟩⟩⟩,λ _=>by kernel_rfl⟩
noncomputable def ane_impl_prims:An:=.z
theorem ke_impl_prims:CK [e_strings_Fields] 0 ane_impl_prims Tryz.f119 e_impl_prims:=⟨trivial,λ _=>by kernel_rfl⟩
noncomputable def ane_impl_within:An:=.z
theorem ke_impl_within:CK [] 0 ane_impl_within Tryz.f43 e_impl_within:=⟨trivial,λ _=>by kernel_rfl⟩
end Go.Proofs.YtmedombacbpofaaGreatDoor
namespace Go.Proofs.YtmedombacbpofaaGreatDoor
open Go Go.Fm
set_option maxRecDepth 1000000
noncomputable def ane_impl_PrimName:An:=.z
theorem ke_impl_PrimName:CK [e_impl_prims,e_impl_within] 0 ane_impl_PrimName Tryz.f91 e_impl_PrimName:=⟨trivial,λ _=>by kernel_rfl⟩
theorem fe_slices_Clone_int32:ConOk Tryz.prog e_slices_Clone_int32:=clone_own (P:=λ _=>Tryz.prog) (τ:=K1) TryzT_eq Tryz.func79 rfl rfl ⟨by kernel_rfl,by kernel_rfl,by kernel_rfl⟩ (congrArg TyI.kind TryzT_28) (λ a=>by kernel_rfl)
theorem fe_slices_Clone_Slot:ConOk Tryz.prog e_slices_Clone_Slot:=clone_own (P:=λ _=>Tryz.prog) (τ:=K6) TryzT_eq Tryz.func80 rfl rfl ⟨by kernel_rfl,by kernel_rfl,by kernel_rfl⟩ (congrArg TyI.kind TryzT_29) (λ a=>by kernel_rfl)
theorem fe_slices_Clone_uint32:ConOk Tryz.prog e_slices_Clone_uint32:=clone_own (P:=λ _=>Tryz.prog) (τ:=K8) TryzT_eq Tryz.func81 rfl rfl ⟨by kernel_rfl,by kernel_rfl,by kernel_rfl⟩ (congrArg TyI.kind TryzT_30) (λ a=>by kernel_rfl)
theorem fe_slices_Clone_int:ConOk Tryz.prog e_slices_Clone_int:=clone_own (P:=λ _=>Tryz.prog) (τ:=K0) TryzT_eq Tryz.func82 rfl rfl ⟨by kernel_rfl,by kernel_rfl,by kernel_rfl⟩ (congrArg TyI.kind TryzT_31) (λ a=>by kernel_rfl)
theorem fe_slices_Clone_byte:ConOk Tryz.prog e_slices_Clone_byte:=clone_own (P:=λ _=>Tryz.prog) (τ:=K11) TryzT_eq Tryz.func83 rfl rfl ⟨by kernel_rfl,by kernel_rfl,by kernel_rfl⟩ (congrArg TyI.kind TryzT_22) (λ a=>by kernel_rfl)
noncomputable def ane_impl_ownSt:An:=.z
theorem ke_impl_ownSt:CK [e_slices_Clone_int32,e_slices_Clone_Slot,e_slices_Clone_uint32,e_slices_Clone_int,e_slices_Clone_byte] 0 ane_impl_ownSt Tryz.f45 e_impl_ownSt:=⟨trivial,λ _=>by kernel_rfl⟩
noncomputable def ane_impl_doesc1:An:=.z
theorem ke_impl_doesc1:CK [e_impl_ownSt] 1 ane_impl_doesc1 Tryz.f152 e_impl_doesc1:=⟨trivial,λ _=>by kernel_rfl⟩
end Go.Proofs.YtmedombacbpofaaGreatDoor
namespace Go.Proofs.YtmedombacbpofaaGreatDoor
open Go Go.Fm
set_option maxRecDepth 1000000
noncomputable def ane_impl_PrimEffect:An:=.q .z (.q .z (.m [(.normal,⟨[],[.v K18 [], .v K18 []]⟩),(.ret,⟨[],[.v K18 [], .v K18 []]⟩)] [0,2,3] [] (.q .z (.b (.q .z (.q .z (.m [(.normal,⟨[(13, .s K15 [])],[.f, .f]⟩)] [6] [0,1] .z (.q .z (.q .z (.q .z (.m [(.normal,⟨[(26, .s K15 [])],[.f, .f]⟩)] [6] [0,1] .z (.q .z (.m [(.normal,⟨[(34, .s K15 [])],[.f, .f]⟩)] [6] [0,1] .z (.q .z (.m [(.normal,⟨[(38, .s K15 [])],[.f, .f]⟩)] [6] [0,1] .z (.q .z (.q .z (.q .z (.m [(.normal,⟨[(48, .s K15 [])],[.f, .f]⟩)] [6] [0,1] .z .z))))))))))))))))) .z))
theorem ke_impl_PrimEffect:CK [e_impl_PrimName] 0 ane_impl_PrimEffect Tryz.f167 e_impl_PrimEffect:=⟨⟨trivial,⟨trivial,⟨⟨trivial,⟨trivial,⟨trivial,⟨trivial,⟨trivial,⟨trivial,⟨trivial,⟨trivial,⟨trivial,⟨trivial,⟨trivial,⟨trivial,⟨trivial,⟨trivial,⟨trivial,⟨trivial,trivial⟩⟩⟩⟩⟩⟩⟩⟩⟩⟩⟩⟩⟩⟩⟩⟩,trivial⟩⟩⟩,λ _=>by kernel_rfl⟩
noncomputable def ane_impl_wants:An:=.z
theorem ke_impl_wants:CK [e_impl_PrimEffect] 0 ane_impl_wants Tryz.f153 e_impl_wants:=⟨trivial,λ _=>by kernel_rfl⟩
noncomputable def ane_slices_Index_int:An:=.q .z (.m [(.normal,⟨[],[]⟩),(.ret,⟨[(4, .s K0 [])],[]⟩)] [0,1] [] (.q .z (.b (.l ⟨[(0, .s K10 []),(1, .s K0 []),(7, .s K0 [])],[]⟩ ⟨[(8, .s K0 [])],[]⟩ [(.exit 0,⟨[],[]⟩),(.ret,⟨[(4, .s K0 [])],[]⟩)] (λ (s_1,v_2,v_5) k v_6=>g_slices_Index_int_l0 s_1 v_2 v_5 k v_6) .z))) .z)
theorem ke_slices_Index_int:CK [] 0 ane_slices_Index_int Tryz.f59 e_slices_Index_int:=⟨⟨trivial,⟨⟨trivial,⟨λ _ _=>rfl,λ _ _ _ _=>by kernel_rfl,trivial⟩⟩,trivial⟩⟩,λ _=>by kernel_rfl⟩
noncomputable def ane_slices_Contains_int:An:=.z
theorem ke_slices_Contains_int:CK [e_slices_Index_int] 0 ane_slices_Contains_int Tryz.f102 e_slices_Contains_int:=⟨trivial,λ _=>by kernel_rfl⟩
noncomputable def ane_impl_St_written:An:=.z
theorem ke_impl_St_written:CK [] 8 ane_impl_St_written Tryz.f169 e_impl_St_written:=⟨trivial,λ _=>by kernel_rfl⟩
theorem fe_strconv_Itoa:ConOk Tryz.prog e_strconv_Itoa:=itoa_ok (g:=3) itoaLays rfl (by kernel_rfl) (by rw[glob_3,show gtPow10=Go.Lib.pow10Tab from by kernel_rfl])
noncomputable def ane_impl_DecText:An:=.z
theorem ke_impl_DecText:CK [e_strconv_Itoa] 0 ane_impl_DecText Tryz.f170 e_impl_DecText:=⟨trivial,λ _=>by kernel_rfl⟩
end Go.Proofs.YtmedombacbpofaaGreatDoor
namespace Go.Proofs.YtmedombacbpofaaGreatDoor
open Go Go.Fm
set_option maxRecDepth 1000000
noncomputable def ane_impl_result:An:=.z
theorem ke_impl_result:CK [] 0 ane_impl_result Tryz.f89 e_impl_result:=⟨trivial,λ _=>by kernel_rfl⟩
noncomputable def ane_impl_St_place_rd:An:=.z
theorem ke_impl_St_place_rd:CK [e_impl_within] 8 ane_impl_St_place_rd Tryz.f168 e_impl_St_place_rd:=⟨trivial,λ _=>by kernel_rfl⟩
noncomputable def ane_impl_St_effect:An:=.q .z (.m [(.normal,⟨[],[.v K13 [(0,1),(1,8),(3,3),(4,4),(5,5),(6,6),(7,7)], .o, .d, .o, .o, .o, .o, .o, .o]⟩),(.ret,⟨[(8, .s K5 [(0,8)]),(9, .s K0 [])],[.v K13 [(0,1),(1,9),(3,3),(4,4),(5,5),(6,10),(7,11)], .o, .d, .o, .o, .o, .d, .d, .o, .o, .o, .o]⟩)] [0,1,2,3] [] (.q .z (.b (.q .z (.q .z (.q .z (.q (.q .z (.b (.m [(.normal,⟨[(74, .s K15 [])],[.f, .f, .f, .f, .f, .f, .f, .f]⟩)] [8,9,13,14,15] [0,1,2,3,4,5,6,7] .z .z))) (.q .z (.q .z (.q .z (.q .z (.q .z (.q .z (.q .z (.q .z (.q .z (.q .z (.q .z (.q .z (.m [(.normal,⟨[(173, .s K15 [])],[.f, .f, .f, .f, .f, .f, .f, .f]⟩)] [8,9,19] [0,1,2,3,4,5,6,7] .z (.q (.q .z (.q (.b (.q .z (.q .z (.m [(.normal,⟨[(185, .s K15 [])],[.f, .f, .f, .f, .f, .f, .f, .f]⟩)] [8,9,17] [0,1,2,3,4,5,6,7] .z .z)))) (.q .z (.m [(.normal,⟨[],[.v K13 [(0,1),(1,8),(3,3),(4,4),(5,5),(6,6),(7,7)], .o, .d, .o, .o, .o, .o, .o, .o]⟩)] [8,9,17,18] [] .z .z)))) .z)))))))))))))))))))) .z)
theorem ke_impl_St_effect:CK [e_impl_St_place_rd,e_slices_Contains_int,e_impl_St_written,e_impl_DecText,e_impl_result] 8 ane_impl_St_effect Tryz.f154 e_impl_St_effect:=⟨⟨trivial,⟨⟨trivial,⟨trivial,⟨trivial,⟨trivial,⟨⟨trivial,⟨trivial,trivial⟩⟩,⟨trivial,⟨trivial,⟨trivial,⟨trivial,⟨trivial,⟨trivial,⟨trivial,⟨trivial,⟨trivial,⟨trivial,⟨trivial,⟨trivial,⟨trivial,⟨⟨trivial,⟨⟨trivial,⟨trivial,⟨trivial,trivial⟩⟩⟩,⟨trivial,⟨trivial,trivial⟩⟩⟩⟩,trivial⟩⟩⟩⟩⟩⟩⟩⟩⟩⟩⟩⟩⟩⟩⟩⟩⟩⟩⟩,trivial⟩⟩,λ _=>by kernel_rfl⟩
noncomputable def ane_impl_does:An:=.q .z (.q .z (.q .z (.q .z (.q .z (.m [(.normal,⟨[(9, .s K1 [])],[.f, .f, .f, .f, .f, .f, .f, .f, .f, .f]⟩)] [1,2,4,5,6,7,8,10] [0,1,2,3,4,5,6,7,8,9] .z (.m [(.normal,⟨[(10, .s K1 [])],[.f, .f, .f, .f, .f, .f, .f, .f, .f, .f]⟩)] [1,2,4,5,6,7,8,9] [0,1,2,3,4,5,6,7,8,9] .z .z))))))
theorem ke_impl_does:CK [e_impl_PrimName,e_impl_doesc1,e_impl_wants,e_impl_ownSt,e_impl_St_effect] 0 ane_impl_does Tryz.f131 e_impl_does:=⟨⟨trivial,⟨trivial,⟨trivial,⟨trivial,⟨trivial,⟨trivial,⟨trivial,trivial⟩⟩⟩⟩⟩⟩⟩,λ _=>by kernel_rfl⟩
noncomputable def ane_impl_meaning_enter (kk:Nat):An:=.q .z (.q .z (.q (.b (.l ⟨[(0, .c (.one (.ptr 0 0)))],[.n, .n, .n, .d, .n, .n, .n, .n, .n, .n, .n, .n, .n, .n, .n, .n, .n, .n]⟩ ⟨[(1, .s K0 [])],[.v K14 [(0,1),(1,11),(2,12),(4,13),(5,14),(6,15),(7,16),(8,17)], .o, .d, .f, .d, .d, .d, .d, .d, .d, .d, .o, .o, .o, .o, .o, .o, .o]⟩ [(.exit 0,⟨[],[.v K14 [(0,1),(1,11),(2,12),(4,13),(5,14),(6,15),(7,16),(8,17)], .o, .d, .f, .d, .d, .d, .d, .d, .d, .d, .o, .o, .o, .o, .o, .o, .o]⟩),(.ret,⟨[],[.v K14 [(0,1),(1,18),(2,19),(4,20),(5,21),(6,22),(7,23),(8,24)], .o, .d, .f, .d, .d, .d, .d, .d, .d, .d, .d, .d, .d, .d, .d, .d, .d, .o, .o, .o, .o, .o, .o, .o]⟩)] (λ _ k (k_6,x_7)=>g_impl_meaning_enter_l0 (g_impl_meaning_all_r kk) k k_6 x_7) (.q .z (.q (.b (.m [(.normal,⟨[(50, .s K15 [])],[.v K14 [(0,1),(1,18),(2,19),(4,20),(5,21),(6,22),(7,23),(8,24)], .o, .f, .f, .f, .f, .f, .f, .f, .d, .d, .d, .d, .d, .d, .d, .d, .d, .o, .o, .o, .o, .o, .o, .o]⟩)] [1] [2,4,5,6,7,8] .z .z)) .z)))) .z))
theorem ke_impl_meaning_enter (kk:Nat):CK [e_impl_meaning_fail_own,(e_impl_meaning_all_r kk)] 9 (ane_impl_meaning_enter kk) Tryz.f47 (e_impl_meaning_enter_r kk):=⟨⟨trivial,⟨trivial,⟨⟨λ _ _=>rfl,λ _ _ _ _=>by kernel_rfl,⟨trivial,⟨⟨trivial,trivial⟩,trivial⟩⟩⟩,trivial⟩⟩⟩,λ _=>by kernel_rfl⟩
noncomputable def ane_impl_St_begin_inGMeaning_1:An:=.z
theorem ke_impl_St_begin_inGMeaning_1:CK [] 9 ane_impl_St_begin_inGMeaning_1 Tryz.f155 e_impl_St_begin_inGMeaning_1:=⟨trivial,λ _=>by kernel_rfl⟩
noncomputable def ane_impl_St_again_inGMeaning_1:An:=.z
theorem ke_impl_St_again_inGMeaning_1:CK [] 9 ane_impl_St_again_inGMeaning_1 Tryz.f156 e_impl_St_again_inGMeaning_1:=⟨trivial,λ _=>by kernel_rfl⟩
noncomputable def ane_impl_meaning_loop (kk:Nat):An:=.q .z (.q .z (.q (.b (.l ⟨[(0, .c (.one (.ptr 0 0))),(1, .s K3 [])],[.n, .n, .d, .d, .n, .n, .n, .n, .n, .n, .n, .n, .n, .n, .n, .n, .n, .n]⟩ ⟨[],[.v K14 [(0,1),(1,11),(2,12),(4,13),(5,14),(6,15),(7,16),(8,17)], .o, .f, .f, .d, .d, .d, .d, .d, .d, .d, .o, .o, .o, .o, .o, .o, .o]⟩ [(.exit 0,⟨[],[.v K14 [(0,1),(1,11),(2,12),(4,13),(5,14),(6,15),(7,16),(8,17)], .o, .f, .f, .d, .d, .d, .d, .d, .d, .d, .o, .o, .o, .o, .o, .o, .o]⟩),(.ret,⟨[(4, .s K15 [])],[.v K14 [(0,1),(1,18),(2,19),(4,20),(5,21),(6,22),(7,23),(8,24)], .o, .f, .f, .d, .d, .d, .d, .d, .d, .d, .d, .d, .d, .d, .d, .d, .d, .o, .o, .o, .o, .o, .o, .o]⟩)] (λ kids_1 k x_6=>g_impl_meaning_loop_l0 (g_impl_meaning_all_r kk) kids_1 k x_6) (.q .z (.b (.q .z (.m [(.normal,⟨[(35, .s K15 [])],[.v K14 [(0,1),(1,18),(2,25),(4,20),(5,21),(6,22),(7,23),(8,24)], .o, .f, .f, .f, .f, .f, .f, .f, .d, .d, .d, .d, .d, .d, .d, .d, .d, .o, .d, .o, .o, .o, .o, .o, .o]⟩)] [] [4,5,6,7,8] .z .z)))))) .z))
theorem ke_impl_meaning_loop (kk:Nat):CK [e_impl_St_begin_inGMeaning_1,(e_impl_meaning_all_r kk),e_impl_meaning_burn_own,e_impl_St_again_inGMeaning_1] 9 (ane_impl_meaning_loop kk) Tryz.f132 (e_impl_meaning_loop_r kk):=⟨⟨trivial,⟨trivial,⟨⟨λ _ _=>rfl,λ _ _ _ _=>by kernel_rfl,⟨trivial,⟨trivial,⟨trivial,trivial⟩⟩⟩⟩,trivial⟩⟩⟩,λ _=>by kernel_rfl⟩
end Go.Proofs.YtmedombacbpofaaGreatDoor
namespace Go.Proofs.YtmedombacbpofaaGreatDoor
open Go Go.Fm
set_option maxRecDepth 1000000
noncomputable def ane_impl_meaning_one (kk:Nat):An:=.q .z (.q .z (.q .z (.m [(.normal,⟨[],[.v K14 [(0,1),(1,10),(2,11),(4,12),(5,13),(6,14),(7,15),(8,16)], .o, .d, .d, .d, .d, .d, .d, .d, .f, .o, .o, .o, .o, .o, .o, .o]⟩),(.ret,⟨[(4, .s K15 [])],[.v K14 [(0,1),(1,10),(2,11),(4,12),(5,13),(6,14),(7,15),(8,16)], .o, .d, .d, .d, .d, .d, .d, .d, .f, .o, .o, .o, .o, .o, .o, .o]⟩)] [0,3,5] [9] (.q .z (.b (.q .z (.q .z (.q .z (.q .z (.q .z (.q .z (.q .z (.q (.q .z (.q (.m [(.normal,⟨[(69, .s K15 [])],[.f, .f, .f, .f, .f, .f, .f, .f, .f, .f]⟩)] [4,6] [0,1,2,3,4,5,6,7,8] .z .z) .z)) (.m [(.normal,⟨[(83, .s K15 [])],[.f, .f, .f, .f, .f, .f, .f, .f, .f, .f]⟩)] [4,18] [0,1,2,3,4,5,6,7,8] .z (.q (.b (.q .z (.q .z (.m [(.normal,⟨[(91, .s K15 [])],[.f, .f, .f, .f, .f, .f, .f, .f, .f, .f]⟩)] [4] [0,1,2,3,4,5,6,7,8] .z .z)))) .z)))))))))))) .z)))
theorem ke_impl_meaning_one (kk:Nat):CK [e_impl_meaning_burn_own,e_impl_St_pushes_inGMeaning_1,e_impl_does,(e_impl_meaning_enter_r kk),e_impl_meaning_fail_own,(e_impl_meaning_all_r kk),(e_impl_meaning_loop_r kk)] 9 (ane_impl_meaning_one kk) Tryz.f117 (e_impl_meaning_one_r kk):=⟨⟨trivial,⟨trivial,⟨trivial,⟨⟨trivial,⟨trivial,⟨trivial,⟨trivial,⟨trivial,⟨trivial,⟨trivial,⟨trivial,⟨⟨trivial,⟨⟨trivial,trivial⟩,trivial⟩⟩,⟨trivial,⟨⟨trivial,⟨trivial,⟨trivial,trivial⟩⟩⟩,trivial⟩⟩⟩⟩⟩⟩⟩⟩⟩⟩⟩,trivial⟩⟩⟩⟩,λ _=>by kernel_rfl⟩
noncomputable def ane_impl_meaning_all (kk:Nat):An:=.q .z (.m [(.normal,⟨[],[.v K14 [(0,1),(1,9),(2,10),(4,11),(5,12),(6,13),(7,14),(8,15)], .o, .d, .d, .d, .d, .d, .d, .d, .o, .o, .o, .o, .o, .o, .o]⟩),(.ret,⟨[(4, .s K15 [])],[.v K14 [(0,1),(1,9),(2,10),(4,11),(5,12),(6,13),(7,14),(8,15)], .o, .d, .d, .d, .d, .d, .d, .d, .o, .o, .o, .o, .o, .o, .o]⟩)] [0,1] [] (.q .z (.b (.l ⟨[(0, .c (.one (.ptr 0 0))),(1, .s K3 []),(7, .s K3 []),(8, .s K0 [])],[.n, .n, .n, .n, .n, .n, .n, .n, .n, .n, .n, .n, .n, .n, .n, .n]⟩ ⟨[(9, .s K0 [])],[.v K14 [(0,1),(1,9),(2,10),(4,11),(5,12),(6,13),(7,14),(8,15)], .o, .d, .d, .d, .d, .d, .d, .d, .o, .o, .o, .o, .o, .o, .o]⟩ [(.exit 0,⟨[],[.v K14 [(0,1),(1,9),(2,10),(4,11),(5,12),(6,13),(7,14),(8,15)], .o, .d, .d, .d, .d, .d, .d, .d, .o, .o, .o, .o, .o, .o, .o]⟩),(.ret,⟨[(4, .s K15 [])],[.v K14 [(0,1),(1,16),(2,17),(4,18),(5,19),(6,20),(7,21),(8,22)], .o, .d, .d, .d, .d, .d, .d, .d, .d, .d, .d, .d, .d, .d, .d, .o, .o, .o, .o, .o, .o, .o]⟩)] (λ (_,v_8,v_9) k (v_10,x_11)=>g_impl_meaning_all_l0 (g_impl_meaning_all_r kk) v_8 v_9 k v_10 x_11) .z))) .z)
theorem ke_impl_meaning_all (kk:Nat):CK [(e_impl_meaning_one_r kk)] 9 (ane_impl_meaning_all kk) Tryz.f86 (e_impl_meaning_all_r (kk+1)):=⟨⟨trivial,⟨⟨trivial,⟨λ _ _=>rfl,λ _ _ _ _=>by kernel_rfl,trivial⟩⟩,trivial⟩⟩,λ _=>by kernel_rfl⟩
noncomputable def ane_laws_big:An:=.z
theorem ke_laws_big:CK [] 0 ane_laws_big Tryz.f6 e_laws_big:=⟨trivial,λ _=>by kernel_rfl⟩
noncomputable def ane_spec_l01New:An:=.q .z (.q .z (.m [(.normal,⟨[(3, .s K0 [])],[]⟩)] [0,2] [] (.q .z (.b (.l ⟨[(0, .s K12 []),(2, .c (.one (.nilp)))],[]⟩ ⟨[(3, .s K0 []),(4, .s K0 [])],[]⟩ [(.exit 0,⟨[(3, .s K0 [])],[]⟩)] (λ code_1 k (h_4,i_5)=>g_spec_l01New_l0 code_1 k h_4 i_5) (.q (.m [(.normal,⟨[(15, .s K15 [])],[]⟩)] [3,4] [] .z .z) .z)))) .z))
theorem ke_spec_l01New:CK [] 0 ane_spec_l01New Tryz.f26 e_spec_l01New:=⟨⟨trivial,⟨trivial,⟨⟨trivial,⟨λ _ _=>rfl,λ _ _ _ _=>by kernel_rfl,⟨⟨trivial,trivial⟩,trivial⟩⟩⟩,trivial⟩⟩⟩,λ _=>by kernel_rfl⟩
noncomputable def ane_spec_l01Byte:An:=.q .z (.q .z (.q .z (.m [(.normal,⟨[(3, .s K0 [])],[.v K19 []]⟩)] [0,2] [] .z .z)))
theorem ke_spec_l01Byte:CK [] 1 ane_spec_l01Byte Tryz.f77 e_spec_l01Byte:=⟨⟨trivial,⟨trivial,⟨trivial,⟨trivial,trivial⟩⟩⟩⟩,λ _=>by kernel_rfl⟩
noncomputable def ane_spec_l01Below:An:=.z
theorem ke_spec_l01Below:CK [e_spec_l01Byte] 1 ane_spec_l01Below Tryz.f40 e_spec_l01Below:=⟨trivial,λ _=>by kernel_rfl⟩
noncomputable def ane_spec_l01Once:An:=.z
theorem ke_spec_l01Once:CK [e_spec_l01Below] 1 ane_spec_l01Once Tryz.f29 e_spec_l01Once:=⟨trivial,λ _=>by kernel_rfl⟩
noncomputable def ane_spec_l01PickInt:An:=.z
theorem ke_spec_l01PickInt:CK [e_spec_l01Below] 1 ane_spec_l01PickInt Tryz.f65 e_spec_l01PickInt:=⟨trivial,λ _=>by kernel_rfl⟩
end Go.Proofs.YtmedombacbpofaaGreatDoor
namespace Go.Proofs.YtmedombacbpofaaGreatDoor
open Go Go.Fm
set_option maxRecDepth 1000000
noncomputable def ane_spec_l09Plain:An:=.q .z (.m [(.normal,⟨[],[.v K19 [], .v K20 []]⟩),(.ret,⟨[],[.v K19 [], .v K20 []]⟩)] [0,1,4] [] (.q .z (.b (.m [(.normal,⟨[(7, .s K15 [])],[.f, .f]⟩)] [6] [0,1] .z .z))) .z)
theorem ke_spec_l09Plain:CK [e_spec_l01Below,e_spec_l01PickInt] 1 ane_spec_l09Plain Tryz.f107 e_spec_l09Plain:=⟨⟨trivial,⟨⟨trivial,⟨trivial,trivial⟩⟩,trivial⟩⟩,λ _=>by kernel_rfl⟩
noncomputable def ane_spec_l09Body (kk:Nat):An:=.q .z (.q .z (.q .z (.m [(.normal,⟨[(7, .s K21 [(0,2)])],[.v K19 [], .d, .o]⟩)] [0,1,2,6,8] [] (.q .z (.b (.l ⟨[(0, .c (.one (.ptr 0 0))),(1, .s K0 []),(2, .s K0 []),(6, .c (.one (.emp))),(8, .s K0 [])],[.n, .n, .n]⟩ ⟨[(7, .s K21 [(0,2)]),(9, .s K0 [])],[.v K19 [], .d, .o]⟩ [(.exit 0,⟨[(7, .s K21 [(0,2)])],[.v K19 [], .d, .o]⟩)] (λ (n_1,deep_2,k_9) k (out_10,i_11,x_12)=>g_spec_l09Body_l0 (g_spec_l09Body_r kk) n_1 deep_2 k_9 k out_10 i_11 x_12) (.q .z (.m [(.normal,⟨[(7, .s K21 [(0,3)])],[.v K19 [], .d, .d, .o]⟩)] [9] [] (.b (.q .z (.q (.m [(.normal,⟨[(31, .s K15 [])],[.v K19 [], .d, .d, .d, .f]⟩)] [7] [4] .z .z) .z))) .z))))) (.m [(.normal,⟨[(7, .s K21 [(0,3)])],[.v K19 [], .d, .d, .o]⟩)] [0,6] [] .z .z))))
theorem ke_spec_l09Body (kk:Nat):CK [e_spec_l01Below,e_spec_l09Plain,e_spec_l01Once,(e_spec_l09Body_r kk)] 1 (ane_spec_l09Body kk) Tryz.f62 (e_spec_l09Body_r (kk+1)):=⟨⟨trivial,⟨trivial,⟨trivial,⟨⟨trivial,⟨λ _ _=>rfl,λ _ _ _ _=>by kernel_rfl,⟨trivial,⟨⟨trivial,⟨⟨trivial,trivial⟩,trivial⟩⟩,trivial⟩⟩⟩⟩,⟨trivial,trivial⟩⟩⟩⟩⟩,λ _=>by kernel_rfl⟩
noncomputable def ane_spec_l01Pick:An:=.z
theorem ke_spec_l01Pick:CK [e_spec_l01Below] 1 ane_spec_l01Pick Tryz.f63 e_spec_l01Pick:=⟨trivial,λ _=>by kernel_rfl⟩
noncomputable def ane_spec_l09Make:An:=.q .z (.q .z (.q .z (.m [(.normal,⟨[(4, .s K23 [(0,2)])],[.v K19 [], .d, .o]⟩)] [0,2,3] [] (.q .z (.b (.l ⟨[(0, .c (.one (.ptr 0 0))),(2, .c (.one (.emp))),(3, .s K0 [])],[.n, .n, .n]⟩ ⟨[(4, .s K23 [(0,2)]),(5, .s K0 [])],[.v K19 [], .d, .o]⟩ [(.exit 0,⟨[(4, .s K23 [(0,2)])],[.v K19 [], .d, .o]⟩)] (λ n_7 k (out_8,i_9,x_10)=>g_spec_l09Make_l0 n_7 k out_8 i_9 x_10) (.q .z (.m [(.normal,⟨[(4, .s K23 [(0,3)])],[.v K19 [], .d, .d, .o]⟩)] [5] [] (.b (.q .z (.m [(.normal,⟨[(6, .s K0 [])],[.v K19 [], .d, .f]⟩)] [4] [2] .z (.q .z (.m [(.normal,⟨[(7, .s K21 [(0,4)])],[.f, .d, .f, .d, .o]⟩)] [4,6] [0,2] .z (.m [(.normal,⟨[(7, .s K21 [])],[.v K19 [], .d, .f, .d, .d]⟩)] [4,6] [2] (.q .z (.b (.q .z (.q .z (.q .z (.q (.m [(.normal,⟨[(7, .s K21 [(0,5)])],[.v K19 [], .d, .f, .d, .d, .o]⟩)] [] [] .z .z) .z)))))) .z)))))) .z))))) .z)))
theorem ke_spec_l09Make:CK [e_spec_l01Below,e_spec_l01Once,e_spec_l09Body,e_spec_l01Pick] 1 ane_spec_l09Make Tryz.f27 e_spec_l09Make:=⟨⟨trivial,⟨trivial,⟨trivial,⟨⟨trivial,⟨λ _ _=>rfl,λ _ _ _ _=>by kernel_rfl,⟨trivial,⟨⟨trivial,⟨trivial,⟨trivial,⟨trivial,⟨⟨trivial,⟨trivial,⟨trivial,⟨trivial,⟨⟨trivial,trivial⟩,trivial⟩⟩⟩⟩⟩,trivial⟩⟩⟩⟩⟩,trivial⟩⟩⟩⟩,trivial⟩⟩⟩⟩,λ _=>by kernel_rfl⟩
noncomputable def ane_spec_l04Int:An:=.z
theorem ke_spec_l04Int:CK [e_spec_l01Once,e_spec_l01Below,e_spec_l01PickInt] 1 ane_spec_l04Int Tryz.f64 e_spec_l04Int:=⟨trivial,λ _=>by kernel_rfl⟩
noncomputable def ane_spec_l09Any:An:=.q .z (.q .z (.m [(.normal,⟨[(3, .s K21 [(0,2)])],[.v K19 [], .d, .o]⟩),(.ret,⟨[(2, .s K21 [(0,2)])],[.v K19 [], .d, .o]⟩)] [0] [] (.q .z (.b (.q .z (.q .z (.q .z (.q .z (.q .z (.q (.b (.l ⟨[(0, .c (.one (.ptr 0 0))),(2, .c (.one (.emp)))],[.n, .n, .n]⟩ ⟨[(3, .s K21 [(0,2)])],[.v K19 [], .d, .o]⟩ [(.exit 1,⟨[(3, .s K21 [(0,2)])],[.v K19 [], .d, .o]⟩)] (λ _ k (body_17,x_18)=>g_spec_l09Any_l0 k body_17 x_18) .z)) .z)))))))) .z))
theorem ke_spec_l09Any:CK [e_spec_l09Body,e_spec_l01Below,e_spec_l01PickInt] 1 ane_spec_l09Any Tryz.f39 e_spec_l09Any:=⟨⟨trivial,⟨trivial,⟨⟨trivial,⟨trivial,⟨trivial,⟨trivial,⟨trivial,⟨trivial,⟨⟨λ _ _=>rfl,λ _ _ _ _=>by kernel_rfl,trivial⟩,trivial⟩⟩⟩⟩⟩⟩⟩,trivial⟩⟩⟩,λ _=>by kernel_rfl⟩
noncomputable def ane_spec_l15Body:An:=.q .z (.q .z (.q .z (.m [(.normal,⟨[(3, .s K21 [(0,2)])],[.v K19 [], .d, .o]⟩)] [0,2,4] [] (.q .z (.b (.l ⟨[(0, .c (.one (.ptr 0 0))),(2, .c (.one (.emp))),(4, .s K0 [])],[.n, .n, .n]⟩ ⟨[(3, .s K21 [(0,2)]),(5, .s K0 [])],[.v K19 [], .d, .o]⟩ [(.exit 0,⟨[(3, .s K21 [(0,2)])],[.v K19 [], .d, .o]⟩)] (λ n_7 k (out_8,i_9,x_10)=>g_spec_l15Body_l0 n_7 k out_8 i_9 x_10) (.q .z (.m [(.normal,⟨[(3, .s K21 [(0,3)])],[.v K19 [], .d, .d, .o]⟩)] [5] [] (.b (.q .z (.b (.m [(.normal,⟨[(20, .s K15 [])],[.f, .d, .f]⟩)] [3,15] [0,2] .z .z)))) .z))))) (.q (.m [(.normal,⟨[(45, .s K15 [])],[.v K19 [], .d, .f]⟩)] [0,2,3] [2] .z .z) .z))))
theorem ke_spec_l15Body:CK [e_spec_l01Below,e_spec_l04Int,e_spec_l01PickInt,e_spec_l09Body,e_spec_l01Once,e_spec_l09Any] 1 ane_spec_l15Body Tryz.f28 e_spec_l15Body:=⟨⟨trivial,⟨trivial,⟨trivial,⟨⟨trivial,⟨λ _ _=>rfl,λ _ _ _ _=>by kernel_rfl,⟨trivial,⟨⟨trivial,⟨trivial,trivial⟩⟩,trivial⟩⟩⟩⟩,⟨⟨trivial,trivial⟩,trivial⟩⟩⟩⟩⟩,λ _=>by kernel_rfl⟩
noncomputable def ane_spec_l08Names:An:=.z
theorem ke_spec_l08Names:CK [] 0 ane_spec_l08Names Tryz.f122 e_spec_l08Names:=⟨trivial,λ _=>by kernel_rfl⟩
end Go.Proofs.YtmedombacbpofaaGreatDoor
namespace Go.Proofs.YtmedombacbpofaaGreatDoor
open Go Go.Fm
set_option maxRecDepth 1000000
noncomputable def ane_spec_l01In:An:=.z
theorem ke_spec_l01In:CK [] 0 ane_spec_l01In Tryz.f41 e_spec_l01In:=⟨trivial,λ _=>by kernel_rfl⟩
noncomputable def ane_spec_PrimName:An:=.z
theorem ke_spec_PrimName:CK [e_spec_l08Names,e_spec_l01In] 0 ane_spec_PrimName Tryz.f99 e_spec_PrimName:=⟨trivial,λ _=>by kernel_rfl⟩
noncomputable def ane_spec_l09Op:An:=.z
theorem ke_spec_l09Op:CK [e_spec_PrimName,e_spec_l01In] 0 ane_spec_l09Op Tryz.f56 e_spec_l09Op:=⟨trivial,λ _=>by kernel_rfl⟩
noncomputable def ane_spec_l09Open:An:=.q .z (.q .z (.m [(.normal,⟨[(4, .s K10 [(0,1)])],[.d, .o]⟩),(.ret,⟨[(2, .c (.one (.emp))),(3, .s K15 [])],[.d]⟩)] [0] [] (.q .z (.b (.l ⟨[(0, .s K21 [])],[.n, .n]⟩ ⟨[(4, .s K10 [(0,1)]),(5, .s K0 [])],[.d, .o]⟩ [(.exit 0,⟨[(4, .s K10 [(0,1)])],[.d, .o]⟩),(.ret,⟨[(2, .c (.one (.emp))),(3, .s K15 [])],[.d, .d]⟩)] (λ body_1 k (vopen_6,i_7)=>g_spec_l09Open_l0 body_1 k vopen_6 i_7) (.q .z (.m [(.normal,⟨[(4, .s K10 [(0,2)])],[.d, .d, .o]⟩),(.ret,⟨[(2, .c (.one (.emp))),(3, .s K15 [])],[.d, .d]⟩)] [5] [] (.b (.q .z (.q .z (.b (.m [(.normal,⟨[(21, .s K15 [])],[.d, .f]⟩)] [4,6,20] [1] .z (.q .z (.m [(.normal,⟨[(29, .s K15 [])],[.d, .f]⟩)] [4,6,20] [1] .z (.q (.q .z (.q (.m [(.normal,⟨[(46, .s K15 [])],[.d, .f]⟩)] [4,6,7] [1] .z .z) .z)) .z)))))))) .z))))) .z))
theorem ke_spec_l09Open:CK [] 0 ane_spec_l09Open Tryz.f57 e_spec_l09Open:=⟨⟨trivial,⟨trivial,⟨⟨trivial,⟨λ _ _=>rfl,λ _ _ _ _=>by kernel_rfl,⟨trivial,⟨⟨trivial,⟨trivial,⟨trivial,⟨trivial,⟨trivial,⟨⟨trivial,⟨⟨trivial,trivial⟩,trivial⟩⟩,trivial⟩⟩⟩⟩⟩⟩,trivial⟩⟩⟩⟩,trivial⟩⟩⟩,λ _=>by kernel_rfl⟩
noncomputable def ane_spec_ShapeOk:An:=.q .z (.q .z (.m [(.normal,⟨[],[]⟩),(.ret,⟨[(2, .s K15 [])],[]⟩)] [0] [] (.q .z (.b (.l ⟨[(0, .s K21 [])],[]⟩ ⟨[(3, .s K0 [])],[]⟩ [(.exit 0,⟨[],[]⟩),(.ret,⟨[(2, .s K15 [])],[]⟩)] (λ body_1 k i_4=>g_spec_ShapeOk_l0 body_1 k i_4) .z))) .z))
theorem ke_spec_ShapeOk:CK [e_spec_l09Op,e_spec_l09Open] 0 ane_spec_ShapeOk Tryz.f21 e_spec_ShapeOk:=⟨⟨trivial,⟨trivial,⟨⟨trivial,⟨λ _ _=>rfl,λ _ _ _ _=>by kernel_rfl,trivial⟩⟩,trivial⟩⟩⟩,λ _=>by kernel_rfl⟩
noncomputable def ane_spec_DrawSimpleOf:An:=.q .z (.q .z (.q .z (.m [(.normal,⟨[(4, .s K23 [(0,1)])],[.v K19 [], .o]⟩)] [2,3] [] (.q .z (.b (.l ⟨[(2, .c (.one (.emp))),(3, .c (.one (.ptr 0 0)))],[.n, .n]⟩ ⟨[(4, .s K23 [(0,1)]),(5, .s K0 [])],[.v K19 [], .o]⟩ [(.exit 0,⟨[(4, .s K23 [(0,1)])],[.v K19 [], .o]⟩)] (λ _ k (defs_7,i_8,x_9)=>g_spec_DrawSimpleOf_l0 k defs_7 i_8 x_9) (.q .z (.m [(.normal,⟨[(4, .s K23 [(0,1)])],[.v K19 [], .o]⟩)] [5] [] (.b (.q .z (.m [(.normal,⟨[(6, .s K21 []),(27, .s K15 [])],[.v K19 [], .f, .d, .d, .d]⟩)] [4] [1] .z .z))) .z))))) .z)))
theorem ke_spec_DrawSimpleOf:CK [e_spec_l01New,e_spec_l09Make,e_spec_l15Body,e_spec_l01Once,e_spec_ShapeOk] 0 ane_spec_DrawSimpleOf Tryz.f7 e_spec_DrawSimpleOf:=⟨⟨trivial,⟨trivial,⟨trivial,⟨⟨trivial,⟨λ _ _=>rfl,λ _ _ _ _=>by kernel_rfl,⟨trivial,⟨⟨trivial,⟨trivial,trivial⟩⟩,trivial⟩⟩⟩⟩,trivial⟩⟩⟩⟩,λ _=>by kernel_rfl⟩
noncomputable def ane_impl_letters:An:=.z
theorem ke_impl_letters:CK [] 0 ane_impl_letters Tryz.f111 e_impl_letters:=⟨trivial,λ _=>by kernel_rfl⟩
theorem fe_ibytealg_IndexByteString:ConOk Tryz.prog e_ibytealg_IndexByteString:=index_ok (fn:=Tryz.f147) Tryz.func147 (by kernel_rfl) (by kernel_rfl) (by kernel_rfl) (by kernel_rfl)
noncomputable def ane_istringslite_IndexByte:An:=.z
theorem ke_istringslite_IndexByte:CK [e_ibytealg_IndexByteString] 0 ane_istringslite_IndexByte Tryz.f125 e_istringslite_IndexByte:=⟨trivial,λ _=>by kernel_rfl⟩
end Go.Proofs.YtmedombacbpofaaGreatDoor
namespace Go.Proofs.YtmedombacbpofaaGreatDoor
open Go Go.Fm
set_option maxRecDepth 1000000
noncomputable def ane_strings_IndexByte:An:=.z
theorem ke_strings_IndexByte:CK [e_istringslite_IndexByte] 0 ane_strings_IndexByte Tryz.f110 e_strings_IndexByte:=⟨trivial,λ _=>by kernel_rfl⟩
noncomputable def ane_impl_LetterOf:An:=.z
theorem ke_impl_LetterOf:CK [e_impl_letters,e_strings_IndexByte] 0 ane_impl_LetterOf Tryz.f70 e_impl_LetterOf:=⟨trivial,λ _=>by kernel_rfl⟩
noncomputable def ane_impl_NameOk:An:=.q .z (.m [(.normal,⟨[],[]⟩),(.ret,⟨[(2, .s K15 [])],[]⟩)] [0] [] (.q .z (.b (.l ⟨[(0, .s K16 []),(5, .s K0 [])],[]⟩ ⟨[(6, .s K0 [])],[]⟩ [(.exit 0,⟨[],[]⟩),(.ret,⟨[(2, .s K15 [])],[]⟩)] (λ (s_1,v_4) k v_5=>g_impl_NameOk_l0 s_1 v_4 k v_5) .z))) .z)
theorem ke_impl_NameOk:CK [e_impl_LetterOf,e_impl_within] 0 ane_impl_NameOk Tryz.f34 e_impl_NameOk:=⟨⟨trivial,⟨⟨trivial,⟨λ _ _=>rfl,λ _ _ _ _=>by kernel_rfl,trivial⟩⟩,trivial⟩⟩,λ _=>by kernel_rfl⟩
noncomputable def ane_impl_opOk:An:=.z
theorem ke_impl_opOk:CK [e_impl_PrimName,e_impl_within] 0 ane_impl_opOk Tryz.f112 e_impl_opOk:=⟨trivial,λ _=>by kernel_rfl⟩
noncomputable def ane_impl_openIn:An:=.q .z (.q .z (.m [(.normal,⟨[(4, .s K10 [(0,1)])],[.d, .o]⟩),(.ret,⟨[(2, .s K10 [(0,1)]),(3, .s K15 [])],[.d, .o]⟩)] [0] [] (.q .z (.b (.l ⟨[(0, .s K21 []),(9, .s K21 []),(10, .s K0 [])],[.n, .n]⟩ ⟨[(4, .s K10 [(0,1)]),(11, .s K0 [])],[.d, .o]⟩ [(.exit 0,⟨[(4, .s K10 [(0,1)])],[.d, .o]⟩),(.ret,⟨[(2, .s K10 [(0,2)]),(3, .s K15 [])],[.d, .d, .o]⟩)] (λ (_,v_7,v_8) k (vopen_9,v_10)=>g_impl_openIn_l0 v_7 v_8 k vopen_9 v_10) (.q .z (.q .z (.m [(.normal,⟨[(4, .s K10 [(0,2)])],[.d, .d, .o]⟩),(.ret,⟨[(2, .s K10 [(0,2)]),(3, .s K15 [])],[.d, .d, .o]⟩)] [11] [] (.b (.q .z (.q .z (.b (.q .z (.q .z (.m [(.normal,⟨[(22, .s K15 [])],[.d, .f, .f]⟩)] [4,6,7] [1,2] .z (.q .z (.m [(.normal,⟨[(41, .s K15 [])],[.d, .f, .f]⟩)] [4,6,7] [1,2] .z (.q (.q (.m [(.normal,⟨[(62, .s K15 [])],[.d, .f, .f]⟩)] [4,6,7] [1,2] .z .z) .z) .z)))))))))) .z)))))) .z))
theorem ke_impl_openIn:CK [e_impl_opOk] 0 ane_impl_openIn Tryz.f71 e_impl_openIn:=⟨⟨trivial,⟨trivial,⟨⟨trivial,⟨λ _ _=>rfl,λ _ _ _ _=>by kernel_rfl,⟨trivial,⟨trivial,⟨⟨trivial,⟨trivial,⟨trivial,⟨trivial,⟨trivial,⟨trivial,⟨trivial,⟨⟨⟨trivial,trivial⟩,trivial⟩,trivial⟩⟩⟩⟩⟩⟩⟩⟩,trivial⟩⟩⟩⟩⟩,trivial⟩⟩⟩,λ _=>by kernel_rfl⟩
noncomputable def ane_impl_ShapeOk:An:=.z
theorem ke_impl_ShapeOk:CK [e_impl_openIn] 0 ane_impl_ShapeOk Tryz.f35 e_impl_ShapeOk:=⟨trivial,λ _=>by kernel_rfl⟩
noncomputable def ane_impl_callsBelowc1:An:=.z
theorem ke_impl_callsBelowc1:CK [] 1 ane_impl_callsBelowc1 Tryz.f73 e_impl_callsBelowc1:=⟨trivial,λ _=>by kernel_rfl⟩
noncomputable def ane_slices_IndexFunc_Op_impl_callsBelowc1:An:=.q .z (.m [(.normal,⟨[],[.f]⟩),(.ret,⟨[(4, .s K0 [])],[.f]⟩)] [0,1] [] (.q .z (.b (.l ⟨[(0, .s K21 []),(1, .c (.one (.fn 73 [(0,0)]))),(7, .s K0 [])],[.v K0 []]⟩ ⟨[(8, .s K0 [])],[.f]⟩ [(.exit 0,⟨[],[.f]⟩),(.ret,⟨[(4, .s K0 [])],[.f]⟩)] (λ (s_1,v_5,c_2) k v_6=>g_slices_IndexFunc_Op_impl_callsBelowc1_l0 s_1 v_5 c_2 k v_6) .z))) .z)
theorem ke_slices_IndexFunc_Op_impl_callsBelowc1:CK [e_impl_callsBelowc1] 1 ane_slices_IndexFunc_Op_impl_callsBelowc1 Tryz.f113 e_slices_IndexFunc_Op_impl_callsBelowc1:=⟨⟨trivial,⟨⟨trivial,⟨λ _ _=>rfl,λ _ _ _ _=>by kernel_rfl,trivial⟩⟩,trivial⟩⟩,λ _=>by kernel_rfl⟩
end Go.Proofs.YtmedombacbpofaaGreatDoor
namespace Go.Proofs.YtmedombacbpofaaGreatDoor
open Go Go.Fm
set_option maxRecDepth 1000000
noncomputable def ane_slices_ContainsFunc_Op_impl_callsBelowc1:An:=.z
theorem ke_slices_ContainsFunc_Op_impl_callsBelowc1:CK [e_slices_IndexFunc_Op_impl_callsBelowc1] 1 ane_slices_ContainsFunc_Op_impl_callsBelowc1 Tryz.f72 e_slices_ContainsFunc_Op_impl_callsBelowc1:=⟨trivial,λ _=>by kernel_rfl⟩
noncomputable def ane_impl_callsBelow:An:=.z
theorem ke_impl_callsBelow:CK [e_slices_ContainsFunc_Op_impl_callsBelowc1] 0 ane_impl_callsBelow Tryz.f36 e_impl_callsBelow:=⟨trivial,λ _=>by kernel_rfl⟩
noncomputable def ane_impl_DefsOkc1:An:=.z
theorem ke_impl_DefsOkc1:CK [e_impl_NameOk,e_impl_ShapeOk,e_impl_callsBelow] 1 ane_impl_DefsOkc1 Tryz.f33 e_impl_DefsOkc1:=⟨trivial,λ _=>by kernel_rfl⟩
noncomputable def ane_slices_IndexFunc_Def_impl_DefsOkc1:An:=.q .z (.m [(.normal,⟨[],[.f]⟩),(.ret,⟨[(4, .s K0 [])],[.f]⟩)] [0,1] [] (.q .z (.b (.l ⟨[(0, .s K23 []),(1, .c (.one (.fn 33 [(0,0)]))),(7, .s K0 [])],[.v K23 []]⟩ ⟨[(8, .s K0 [])],[.f]⟩ [(.exit 0,⟨[],[.f]⟩),(.ret,⟨[(4, .s K0 [])],[.f]⟩)] (λ (s_1,v_5,c_2) k v_6=>g_slices_IndexFunc_Def_impl_DefsOkc1_l0 s_1 v_5 c_2 k v_6) .z))) .z)
theorem ke_slices_IndexFunc_Def_impl_DefsOkc1:CK [e_impl_DefsOkc1] 1 ane_slices_IndexFunc_Def_impl_DefsOkc1 Tryz.f69 e_slices_IndexFunc_Def_impl_DefsOkc1:=⟨⟨trivial,⟨⟨trivial,⟨λ _ _=>rfl,λ _ _ _ _=>by kernel_rfl,trivial⟩⟩,trivial⟩⟩,λ _=>by kernel_rfl⟩
noncomputable def ane_slices_ContainsFunc_Def_impl_DefsOkc1:An:=.z
theorem ke_slices_ContainsFunc_Def_impl_DefsOkc1:CK [e_slices_IndexFunc_Def_impl_DefsOkc1] 1 ane_slices_ContainsFunc_Def_impl_DefsOkc1 Tryz.f32 e_slices_ContainsFunc_Def_impl_DefsOkc1:=⟨trivial,λ _=>by kernel_rfl⟩
noncomputable def ane_impl_DefsOk:An:=.z
theorem ke_impl_DefsOk:CK [e_slices_ContainsFunc_Def_impl_DefsOkc1] 0 ane_impl_DefsOk Tryz.f10 e_impl_DefsOk:=⟨trivial,λ _=>by kernel_rfl⟩
noncomputable def ane_impl_grow (kk:Nat):An:=.q .z (.q .z (.q (.b (.l ⟨[],[.n, .n]⟩ ⟨[(0, .s K21 []),(4, .s K3 [(0,1)])],[.d, .o]⟩ [(.exit 0,⟨[(4, .s K3 [(0,1)])],[.d, .o]⟩),(.ret,⟨[(2, .s K3 [(0,1)]),(3, .s K21 [])],[.d, .o]⟩)] (λ _ k (body_4,out_5)=>g_impl_grow_l0 (g_impl_grow_r kk) k body_4 out_5) (.q .z (.b (.q .z (.q .z (.q .z (.m [(.normal,⟨[(0, .s K21 []),(4, .s K3 [(0,1)])],[.d, .o, .f, .v K2 []]⟩),(.ret,⟨[(2, .s K3 [(0,1)]),(3, .s K21 [])],[.d, .o, .f, .v K2 [(2,4)], .o]⟩)] [5,6] [2] (.q .z (.b (.m [(.normal,⟨[(23, .s K15 [])],[.d, .f, .f, .f]⟩)] [0,4,22] [1,3] .z (.q .z (.m [(.normal,⟨[(28, .s K15 [])],[.d, .f, .f, .f]⟩)] [0,4,22] [1,3] .z .z))))) .z)))))))) .z))
theorem ke_impl_grow (kk:Nat):CK [(e_impl_grow_r kk)] 0 (ane_impl_grow kk) Tryz.f84 (e_impl_grow_r (kk+1)):=⟨⟨trivial,⟨trivial,⟨⟨λ _ _=>rfl,λ _ _ _ _=>by kernel_rfl,⟨trivial,⟨trivial,⟨trivial,⟨trivial,⟨⟨trivial,⟨trivial,⟨trivial,⟨trivial,trivial⟩⟩⟩⟩,trivial⟩⟩⟩⟩⟩⟩,trivial⟩⟩⟩,λ _=>by kernel_rfl⟩
noncomputable def ane_impl_TreeOf:An:=.z
theorem ke_impl_TreeOf:CK [e_impl_ShapeOk,e_impl_grow] 0 ane_impl_TreeOf Tryz.f46 e_impl_TreeOf:=⟨trivial,λ _=>by kernel_rfl⟩
end Go.Proofs.YtmedombacbpofaaGreatDoor
namespace Go.Proofs.YtmedombacbpofaaGreatDoor
open Go Go.Fm
set_option maxRecDepth 1000000
noncomputable def ane_impl_pruned_imm (kk:Nat):An:=.q .z (.q .z (.m [(.normal,⟨[(3, .s K3 [(0,1)])],[.d, .o]⟩)] [0,2] [] (.q .z (.b (.l ⟨[(0, .s K3 []),(2, .c (.one (.emp))),(7, .s K3 []),(8, .s K0 [])],[.n, .n]⟩ ⟨[(3, .s K3 [(0,1)]),(9, .s K0 [])],[.d, .o]⟩ [(.exit 0,⟨[(3, .s K3 [(0,2)])],[.d, .d, .o]⟩)] (λ (_,v_4,v_5) k (out_6,v_7)=>g_impl_pruned_imm_l0 (g_impl_pruned_imm_r kk) v_4 v_5 k out_6 v_7) .z))) .z))
theorem ke_impl_pruned_imm (kk:Nat):CK [(e_impl_pruned_imm_r kk)] 0 (ane_impl_pruned_imm kk) Tryz.f67 (e_impl_pruned_imm_r (kk+1)):=⟨⟨trivial,⟨trivial,⟨⟨trivial,⟨λ _ _=>rfl,λ _ _ _ _=>by kernel_rfl,trivial⟩⟩,trivial⟩⟩⟩,λ _=>by kernel_rfl⟩
noncomputable def ane_impl_pruned:An:=.q .z (.q .z (.m [(.normal,⟨[(3, .s K3 [(0,1)])],[.d, .o]⟩)] [0,2] [] (.q .z (.b (.l ⟨[(0, .s K3 []),(2, .c (.one (.emp))),(7, .s K3 []),(8, .s K0 [])],[.n, .n]⟩ ⟨[(3, .s K3 [(0,1)]),(9, .s K0 [])],[.d, .o]⟩ [(.exit 0,⟨[(3, .s K3 [(0,2)])],[.d, .d, .o]⟩)] (λ (_,v_4,v_5) k (out_6,v_7)=>g_impl_pruned_l0 v_4 v_5 k out_6 v_7) .z))) .z))
theorem ke_impl_pruned:CK [e_impl_pruned_imm] 0 ane_impl_pruned Tryz.f67 e_impl_pruned:=⟨⟨trivial,⟨trivial,⟨⟨trivial,⟨λ _ _=>rfl,λ _ _ _ _=>by kernel_rfl,trivial⟩⟩,trivial⟩⟩⟩,λ _=>by kernel_rfl⟩
noncomputable def ane_impl_flat (kk:Nat):An:=.q .z (.m [(.normal,⟨[(1, .s K21 [(0,1)])],[.d, .o]⟩),(.ret,⟨[(4, .s K21 [(0,1)]),(5, .s K15 [])],[.d, .o]⟩)] [0] [] (.q .z (.b (.l ⟨[(0, .s K3 []),(11, .s K3 []),(12, .s K0 [])],[.n, .n]⟩ ⟨[(1, .s K21 [(0,1)]),(13, .s K0 [])],[.d, .o]⟩ [(.exit 0,⟨[(1, .s K21 [(0,1)])],[.d, .o]⟩),(.ret,⟨[(4, .s K21 [(0,2)]),(5, .s K15 [])],[.d, .d, .o]⟩)] (λ (_,v_8,v_9) k (body_10,v_11)=>g_impl_flat_l0 (g_impl_flat_r kk) v_8 v_9 k body_10 v_11) (.q .z (.q .z (.m [(.normal,⟨[(1, .s K21 [(0,2)])],[.f, .d, .o]⟩),(.ret,⟨[(4, .s K21 [(0,2)]),(5, .s K15 [])],[.f, .d, .o]⟩)] [13] [0] (.b (.q .z (.q .z (.m [(.normal,⟨[(8, .s K0 [])],[.f, .f, .f]⟩),(.ret,⟨[(4, .c (.one (.emp))),(5, .s K15 [])],[.f, .f, .f]⟩)] [1,7] [1,2] (.b (.m [(.normal,⟨[(17, .s K15 [])],[.f, .f, .f]⟩)] [8] [] .z .z)) (.q .z (.q (.m [(.normal,⟨[(55, .s K15 [])],[.f, .d, .f, .d, .f]⟩)] [1,7,8] [2,4] .z .z) .z)))))) .z)))))) .z)
theorem ke_impl_flat (kk:Nat):CK [(e_impl_flat_r kk)] 1 (ane_impl_flat kk) Tryz.f108 (e_impl_flat_r (kk+1)):=⟨⟨trivial,⟨⟨trivial,⟨λ _ _=>rfl,λ _ _ _ _=>by kernel_rfl,⟨trivial,⟨trivial,⟨⟨trivial,⟨trivial,⟨⟨trivial,trivial⟩,⟨trivial,⟨⟨trivial,trivial⟩,trivial⟩⟩⟩⟩⟩,trivial⟩⟩⟩⟩⟩,trivial⟩⟩,λ _=>by kernel_rfl⟩
noncomputable def ane_impl_flat_emp:An:=.q .z (.m [(.normal,⟨[(1, .s K21 [(0,0)])],[.o]⟩),(.ret,⟨[(4, .s K21 [(0,0)]),(5, .s K15 [])],[.o]⟩)] [0] [] (.q .z (.b (.l ⟨[(0, .s K3 []),(11, .s K3 []),(12, .s K0 [])],[.n]⟩ ⟨[(1, .s K21 [(0,0)]),(13, .s K0 [])],[.o]⟩ [(.exit 0,⟨[(1, .s K21 [(0,0)])],[.o]⟩),(.ret,⟨[(4, .s K21 [(0,1)]),(5, .s K15 [])],[.d, .o]⟩)] (λ (_,v_7,v_8) k (body_9,v_10)=>g_impl_flat_emp_l0 v_7 v_8 k body_9 v_10) (.q .z (.q .z (.m [(.normal,⟨[(1, .s K21 [(0,1)])],[.d, .o]⟩),(.ret,⟨[(4, .s K21 [(0,1)]),(5, .s K15 [])],[.d, .o]⟩)] [13] [] (.b (.q .z (.q .z (.m [(.normal,⟨[(8, .s K0 [])],[.f, .f]⟩),(.ret,⟨[(4, .c (.one (.emp))),(5, .s K15 [])],[.f, .f]⟩)] [1,7] [0,1] (.b (.m [(.normal,⟨[(17, .s K15 [])],[.f, .f]⟩)] [8] [] .z .z)) (.q .z (.q (.m [(.normal,⟨[(55, .s K15 [])],[.d, .f, .d, .f]⟩)] [1,7,8] [1,3] .z .z) .z)))))) .z)))))) .z)
theorem ke_impl_flat_emp:CK [e_impl_flat] 0 ane_impl_flat_emp Tryz.f108 e_impl_flat_emp:=⟨⟨trivial,⟨⟨trivial,⟨λ _ _=>rfl,λ _ _ _ _=>by kernel_rfl,⟨trivial,⟨trivial,⟨⟨trivial,⟨trivial,⟨⟨trivial,trivial⟩,⟨trivial,⟨⟨trivial,trivial⟩,trivial⟩⟩⟩⟩⟩,trivial⟩⟩⟩⟩⟩,trivial⟩⟩,λ _=>by kernel_rfl⟩
noncomputable def ane_impl_FlatOf:An:=.q .z (.q .z (.q (.m [(.normal,⟨[(16, .s K15 [])],[.f]⟩)] [2,3,4] [0] .z .z) .z))
theorem ke_impl_FlatOf:CK [e_impl_flat_emp,e_impl_ShapeOk] 0 ane_impl_FlatOf Tryz.f66 e_impl_FlatOf:=⟨⟨trivial,⟨trivial,⟨⟨trivial,trivial⟩,trivial⟩⟩⟩,λ _=>by kernel_rfl⟩
noncomputable def ane_impl_prune:An:=.z
theorem ke_impl_prune:CK [e_impl_TreeOf,e_impl_pruned,e_impl_FlatOf] 0 ane_impl_prune Tryz.f30 e_impl_prune:=⟨trivial,λ _=>by kernel_rfl⟩
theorem fe_slices_Clone_Op:ConOk Tryz.prog e_slices_Clone_Op:=clone_own (P:=λ _=>Tryz.prog) (τ:=K20) TryzT_eq Tryz.func52 rfl rfl ⟨by kernel_rfl,by kernel_rfl,by kernel_rfl⟩ (congrArg TyI.kind TryzT_37) (λ a=>by kernel_rfl)
noncomputable def ane_impl_foldedc1:An:=.z
theorem ke_impl_foldedc1:CK [] 1 ane_impl_foldedc1 Tryz.f87 e_impl_foldedc1:=⟨trivial,λ _=>by kernel_rfl⟩
end Go.Proofs.YtmedombacbpofaaGreatDoor
namespace Go.Proofs.YtmedombacbpofaaGreatDoor
open Go Go.Fm
set_option maxRecDepth 1000000
noncomputable def ane_slices_Index_string:An:=.q .z (.m [(.normal,⟨[],[]⟩),(.ret,⟨[(4, .s K0 [])],[]⟩)] [0,1] [] (.q .z (.b (.l ⟨[(0, .s K17 []),(1, .s K16 []),(7, .s K0 [])],[]⟩ ⟨[(8, .s K0 [])],[]⟩ [(.exit 0,⟨[],[]⟩),(.ret,⟨[(4, .s K0 [])],[]⟩)] (λ (s_1,v_2,v_5) k v_6=>g_slices_Index_string_l0 s_1 v_2 v_5 k v_6) .z))) .z)
theorem ke_slices_Index_string:CK [] 0 ane_slices_Index_string Tryz.f133 e_slices_Index_string:=⟨⟨trivial,⟨⟨trivial,⟨λ _ _=>rfl,λ _ _ _ _=>by kernel_rfl,trivial⟩⟩,trivial⟩⟩,λ _=>by kernel_rfl⟩
noncomputable def ane_slices_Contains_string:An:=.z
theorem ke_slices_Contains_string:CK [e_slices_Index_string] 0 ane_slices_Contains_string Tryz.f118 e_slices_Contains_string:=⟨trivial,λ _=>by kernel_rfl⟩
noncomputable def ane_impl_isPrim:An:=.z
theorem ke_impl_isPrim:CK [e_impl_PrimName,e_slices_Contains_string] 0 ane_impl_isPrim Tryz.f90 e_impl_isPrim:=⟨trivial,λ _=>by kernel_rfl⟩
noncomputable def ane_impl_foldedc2:An:=.z
theorem ke_impl_foldedc2:CK [e_impl_result] 0 ane_impl_foldedc2 Tryz.f88 e_impl_foldedc2:=⟨trivial,λ _=>by kernel_rfl⟩
noncomputable def ane_impl_folded:An:=.q .z (.q .z (.q .z (.q .z (.m [(.normal,⟨[],[.d, .f, .f, .f]⟩),(.ret,⟨[(2, .s K21 [(0,4)]),(3, .s K0 [])],[.d, .f, .f, .f, .o]⟩)] [5,6,7,8] [1,2,3] (.b (.m [(.normal,⟨[(16, .s K15 [])],[.d, .f, .f, .f]⟩)] [2,3] [] .z (.q .z (.m [(.normal,⟨[(40, .s K15 [])],[.d, .f, .f, .f]⟩)] [2,3] [] .z (.q .z (.m [(.normal,⟨[(57, .s K15 [])],[.d, .f, .f, .f]⟩)] [2,3] [] (.m [(.normal,⟨[(57, .s K15 [])],[.d, .f, .f, .f]⟩)] [] [] .z (.q .z (.m [(.normal,⟨[(57, .s K15 [])],[.d, .f, .f, .f]⟩)] [] [] .z (.q .z (.m [(.normal,⟨[(57, .s K15 [])],[.d, .f, .f, .f]⟩)] [] [] .z .z))))) .z)))))) .z))))
theorem ke_impl_folded:CK [e_impl_foldedc1,e_impl_isPrim,e_impl_PrimName,e_impl_foldedc2] 0 ane_impl_folded Tryz.f53 e_impl_folded:=⟨⟨trivial,⟨trivial,⟨trivial,⟨trivial,⟨⟨trivial,⟨trivial,⟨trivial,⟨trivial,⟨⟨trivial,⟨trivial,⟨trivial,⟨trivial,⟨trivial,trivial⟩⟩⟩⟩⟩,trivial⟩⟩⟩⟩⟩,trivial⟩⟩⟩⟩⟩,λ _=>by kernel_rfl⟩
noncomputable def repZ_54:Value:=((Tryz.prog.info? 55).bind (·.zero)).getD (.bool false)
noncomputable def repB_54:Nat:=((Tryz.prog.info? 55).map (·.bytes)).getD 0
theorem repL_54:RepL Tryz.prog 54 Tryz.f54 37 55 (Ty.size K20) repB_54 repZ_54 where
 hf:=Tryz.func54
 hn:=by kernel_rfl
 hb:=⟨_,rfl⟩
 t:=Tryz.underlying37
 z:=Tryz.sizeOf55
 i:=insInfo (by kernel_rfl)
 fin:=rep_end_54
 mid:=rep_mid_54
theorem fe_slices_Replace_Op:ConOk Tryz.prog e_slices_Replace_Op:=rep_ok repL_54 (by kernel_rfl) (by kernel_rfl) (flat_len (encOk K20).len)
noncomputable def ane_impl_Fold:An:=.q .z (.q .z (.q .z (.m [(.normal,⟨[(3, .s K21 [(0,1)])],[.d, .o]⟩)] [2] [] (.q .z (.b (.l ⟨[(2, .c (.one (.emp)))],[.n, .n]⟩ ⟨[(3, .s K21 [(0,1)]),(4, .s K0 [])],[.d, .o]⟩ [(.exit 0,⟨[(3, .s K21 [(0,1)])],[.d, .o]⟩)] (λ _ k (out_6,i_7)=>g_impl_Fold_l0 k out_6 i_7) .z))) .z)))
noncomputable def ane_impl_Fold_imm:An:=.q .z (.q .z (.q .z (.m [(.normal,⟨[(3, .s K21 [(0,1)])],[.d, .o]⟩)] [2] [] (.q .z (.b (.l ⟨[(2, .c (.one (.emp)))],[.n, .n]⟩ ⟨[(3, .s K21 [(0,1)]),(4, .s K0 [])],[.d, .o]⟩ [(.exit 0,⟨[(3, .s K21 [(0,1)])],[.d, .o]⟩)] (λ _ k (out_6,i_7)=>g_impl_Fold_imm_l0 k out_6 i_7) .z))) .z)))
theorem ke_impl_Fold_imm:CK [e_impl_ShapeOk,e_slices_Clone_Op,e_impl_folded,e_slices_Replace_Op] 0 ane_impl_Fold_imm Tryz.f17 e_impl_Fold_imm:=⟨⟨trivial,⟨trivial,⟨trivial,⟨⟨trivial,⟨λ _ _=>rfl,λ _ _ _ _=>by kernel_rfl,trivial⟩⟩,trivial⟩⟩⟩⟩,λ _=>by kernel_rfl⟩
end Go.Proofs.YtmedombacbpofaaGreatDoor
namespace Go.Proofs.YtmedombacbpofaaGreatDoor
open Go Go.Fm
set_option maxRecDepth 1000000
noncomputable def ane_spec_l02All:An:=.z
theorem ke_spec_l02All:CK [] 0 ane_spec_l02All Tryz.f109 e_spec_l02All:=⟨trivial,λ _=>by kernel_rfl⟩
noncomputable def ane_spec_LetterOf:An:=.q .z (.q .z (.m [(.normal,⟨[],[]⟩),(.ret,⟨[(2, .s K0 [])],[]⟩)] [0,3] [] (.q .z (.b (.l ⟨[(0, .s K11 []),(3, .s K16 [])],[]⟩ ⟨[(4, .s K0 [])],[]⟩ [(.exit 0,⟨[],[]⟩),(.ret,⟨[(2, .s K0 [])],[]⟩)] (λ (b_1,yu4582_3) k i_5=>g_spec_LetterOf_l0 b_1 yu4582_3 k i_5) .z))) .z))
theorem ke_spec_LetterOf:CK [e_spec_l02All] 0 ane_spec_LetterOf Tryz.f68 e_spec_LetterOf:=⟨⟨trivial,⟨trivial,⟨⟨trivial,⟨λ _ _=>rfl,λ _ _ _ _=>by kernel_rfl,trivial⟩⟩,trivial⟩⟩⟩,λ _=>by kernel_rfl⟩
noncomputable def ane_spec_NameOk:An:=.q .z (.q .z (.m [(.normal,⟨[],[]⟩),(.ret,⟨[(2, .s K15 [])],[]⟩)] [0] [] (.q .z (.b (.l ⟨[(0, .s K16 [])],[]⟩ ⟨[(3, .s K0 [])],[]⟩ [(.exit 0,⟨[],[]⟩),(.ret,⟨[(2, .s K15 [])],[]⟩)] (λ s_1 k i_5=>g_spec_NameOk_l0 s_1 k i_5) .z))) .z))
theorem ke_spec_NameOk:CK [e_spec_l01In,e_spec_LetterOf] 0 ane_spec_NameOk Tryz.f31 e_spec_NameOk:=⟨⟨trivial,⟨trivial,⟨⟨trivial,⟨λ _ _=>rfl,λ _ _ _ _=>by kernel_rfl,trivial⟩⟩,trivial⟩⟩⟩,λ _=>by kernel_rfl⟩
noncomputable def ane_spec_DefsOk:An:=.q .z (.q .z (.m [(.normal,⟨[],[]⟩),(.ret,⟨[(2, .s K15 [])],[]⟩)] [0] [] (.q .z (.b (.l ⟨[(0, .s K23 [])],[]⟩ ⟨[(3, .s K0 [])],[]⟩ [(.exit 0,⟨[],[]⟩),(.ret,⟨[(2, .s K15 [])],[]⟩)] (λ defs_1 k i_4=>g_spec_DefsOk_l0 defs_1 k i_4) (.q .z (.m [(.normal,⟨[],[]⟩),(.ret,⟨[(2, .s K15 [])],[]⟩)] [3] [] (.b (.q (.m [(.normal,⟨[(30, .s K15 [])],[]⟩)] [] [] .z .z) (.q .z (.b (.l ⟨[(0, .s K23 []),(3, .s K0 [])],[]⟩ ⟨[(4, .s K0 [])],[]⟩ [(.exit 2,⟨[],[]⟩),(.ret,⟨[(2, .s K15 [])],[]⟩)] (λ (defs_1,i_4) k k_12=>g_spec_DefsOk_l1 defs_1 i_4 k k_12) (.q .z (.q (.b (.q .z (.m [(.normal,⟨[(59, .s K15 [])],[.f]⟩)] [4,5] [0] .z .z))) .z))))))) .z))))) .z))
theorem ke_spec_DefsOk:CK [e_spec_NameOk,e_spec_ShapeOk] 0 ane_spec_DefsOk Tryz.f9 e_spec_DefsOk:=⟨⟨trivial,⟨trivial,⟨⟨trivial,⟨λ _ _=>rfl,λ _ _ _ _=>by kernel_rfl,⟨trivial,⟨⟨⟨trivial,trivial⟩,⟨trivial,⟨λ _ _=>rfl,λ _ _ _ _=>by kernel_rfl,⟨trivial,⟨⟨trivial,⟨trivial,trivial⟩⟩,trivial⟩⟩⟩⟩⟩,trivial⟩⟩⟩⟩,trivial⟩⟩⟩,λ _=>by kernel_rfl⟩
noncomputable def ane_impl_SimpleOf_hand:An:=.q .z (.q .z (.q .z (.m [(.normal,⟨[(3, .s K23 [(0,2)])],[.f, .d, .o]⟩)] [0,2] [] (.q .z (.b (.l ⟨[(0, .s K23 [(0,0)]),(2, .c (.one (.emp))),(10, .s K23 [(0,0)]),(11, .s K0 [])],[.o, .n, .n]⟩ ⟨[(3, .s K23 [(0,2)]),(12, .s K0 [])],[.f, .d, .o]⟩ [(.exit 0,⟨[(3, .s K23 [(0,2)])],[.f, .d, .o]⟩)] (λ (defs_1,_,v_6) k (out_7,v_8)=>g_impl_SimpleOf_hand_l0 defs_1 v_6 k out_7 v_8) .z))) .z)))
theorem ke_impl_SimpleOf_hand:CK [e_impl_DefsOk,e_impl_prune,e_impl_Fold_imm] 1 ane_impl_SimpleOf_hand Tryz.f8 e_impl_SimpleOf_hand:=⟨⟨trivial,⟨trivial,⟨trivial,⟨⟨trivial,⟨λ _ _=>rfl,λ _ _ _ _=>by kernel_rfl,trivial⟩⟩,trivial⟩⟩⟩⟩,λ _=>by kernel_rfl⟩
noncomputable def ane_spec_NewStore:An:=.z
theorem ke_spec_NewStore:CK [e_spec_l01In] 0 ane_spec_NewStore Tryz.f114 e_spec_NewStore:=⟨trivial,λ _=>by kernel_rfl⟩
noncomputable def ane_spec_LetterAt:An:=.z
theorem ke_spec_LetterAt:CK [e_spec_l01In,e_spec_l02All] 0 ane_spec_LetterAt Tryz.f166 e_spec_LetterAt:=⟨trivial,λ _=>by kernel_rfl⟩
end Go.Proofs.YtmedombacbpofaaGreatDoor
namespace Go.Proofs.YtmedombacbpofaaGreatDoor
open Go Go.Fm
set_option maxRecDepth 1000000
noncomputable def ane_spec_l02Name:An:=.q .z (.q .z (.q .z (.q .z (.m [(.normal,⟨[(3, .s K12 [(0,2)])],[.v K19 [], .d, .o]⟩)] [0,2,4] [] (.q .z (.b (.l ⟨[(0, .c (.one (.ptr 0 0))),(2, .s K16 []),(4, .s K0 [])],[.n, .n, .n]⟩ ⟨[(3, .s K12 [(0,2)]),(5, .s K0 [])],[.v K19 [], .d, .o]⟩ [(.exit 0,⟨[(3, .s K12 [(0,2)])],[.v K19 [], .d, .o]⟩)] (λ (_,n_10) k (out_11,i_12,x_13)=>g_spec_l02Name_l0 n_10 k out_11 i_12 x_13) .z))) .z))))
theorem ke_spec_l02Name:CK [e_spec_l01Once,e_spec_l01Pick,e_spec_l01Below,e_spec_LetterAt] 1 ane_spec_l02Name Tryz.f151 e_spec_l02Name:=⟨⟨trivial,⟨trivial,⟨trivial,⟨trivial,⟨⟨trivial,⟨λ _ _=>rfl,λ _ _ _ _=>by kernel_rfl,trivial⟩⟩,trivial⟩⟩⟩⟩⟩,λ _=>by kernel_rfl⟩
noncomputable def ane_spec_l04Some:An:=.z
theorem ke_spec_l04Some:CK [e_spec_l01Below,e_spec_l04Int,e_spec_l01Once,e_spec_l01Pick,e_spec_l02Name] 1 ane_spec_l04Some Tryz.f127 e_spec_l04Some:=⟨trivial,λ _=>by kernel_rfl⟩
noncomputable def ane_spec_l04Num:An:=.q .z (.q .z (.m [(.normal,⟨[(9, .s K8 [])],[]⟩)] [0,1,2,3,8] [] .z (.q (.m [(.normal,⟨[(16, .s K15 [])],[]⟩)] [0,2,3,8,9] [] .z .z) .z)))
theorem ke_spec_l04Num:CK [] 0 ane_spec_l04Num Tryz.f148 e_spec_l04Num:=⟨⟨trivial,⟨trivial,⟨trivial,⟨⟨trivial,trivial⟩,trivial⟩⟩⟩⟩,λ _=>by kernel_rfl⟩
noncomputable def ane_spec_WidthOf:An:=.z
theorem ke_spec_WidthOf:CK [e_spec_l01In] 0 ane_spec_WidthOf Tryz.f177 e_spec_WidthOf:=⟨trivial,λ _=>by kernel_rfl⟩
noncomputable def ane_spec_BitsOf:An:=.z
theorem ke_spec_BitsOf:CK [e_spec_WidthOf] 0 ane_spec_BitsOf Tryz.f178 e_spec_BitsOf:=⟨trivial,λ _=>by kernel_rfl⟩
noncomputable def ane_spec_l03One:An:=.q .z (.q .z (.q (.b (.l ⟨[(0, .s K16 []),(2, .s K8 []),(3, .s K0 [])],[]⟩ ⟨[(4, .s K0 []),(5, .s K0 []),(6, .s K0 [])],[]⟩ [(.exit 0,⟨[(4, .s K0 []),(6, .s K0 [])],[]⟩)] (λ (s_1,_,_) k (f_6,left_7,n_8)=>g_spec_l03One_l0 s_1 k f_6 left_7 n_8) .z)) .z))
theorem ke_spec_l03One:CK [e_spec_LetterOf,e_spec_WidthOf,e_spec_BitsOf] 0 ane_spec_l03One Tryz.f173 e_spec_l03One:=⟨⟨trivial,⟨trivial,⟨⟨λ _ _=>rfl,λ _ _ _ _=>by kernel_rfl,trivial⟩,trivial⟩⟩⟩,λ _=>by kernel_rfl⟩
noncomputable def ane_spec_Pack:An:=.q .z (.q .z (.q .z (.q (.b (.l ⟨[(2, .c (.one (.emp)))],[.n, .n]⟩ ⟨[(0, .s K16 []),(3, .s K9 [(0,1)])],[.d, .o]⟩ [(.exit 0,⟨[(3, .s K9 [(0,1)])],[.d, .o]⟩)] (λ _ k (s_4,out_5)=>g_spec_Pack_l0 k s_4 out_5) .z)) .z)))
theorem ke_spec_Pack:CK [e_spec_NameOk,e_spec_l03One] 0 ane_spec_Pack Tryz.f165 e_spec_Pack:=⟨⟨trivial,⟨trivial,⟨trivial,⟨⟨λ _ _=>rfl,λ _ _ _ _=>by kernel_rfl,trivial⟩,trivial⟩⟩⟩⟩,λ _=>by kernel_rfl⟩
noncomputable def ane_spec_l04Word:An:=.q .z (.q .z (.m [(.normal,⟨[(5, .s K9 [(0,0)])],[.o]⟩)] [0,4] [] (.q .z (.b (.l ⟨[(0, .s K8 []),(4, .c (.one (.emp)))],[.n]⟩ ⟨[(5, .s K9 [(0,0)]),(6, .s K0 [])],[.o]⟩ [(.exit 0,⟨[(5, .s K9 [(0,0)])],[.o]⟩)] (λ tag_1 k (out_6,i_7)=>g_spec_l04Word_l0 tag_1 k out_6 i_7) (.q .z (.m [(.normal,⟨[(5, .s K9 [(0,0)])],[.o]⟩)] [6] [] .z .z))))) .z))
theorem ke_spec_l04Word:CK [e_spec_Pack] 0 ane_spec_l04Word Tryz.f149 e_spec_l04Word:=⟨⟨trivial,⟨trivial,⟨⟨trivial,⟨λ _ _=>rfl,λ _ _ _ _=>by kernel_rfl,⟨trivial,⟨trivial,trivial⟩⟩⟩⟩,trivial⟩⟩⟩,λ _=>by kernel_rfl⟩
end Go.Proofs.YtmedombacbpofaaGreatDoor
namespace Go.Proofs.YtmedombacbpofaaGreatDoor
open Go Go.Fm
set_option maxRecDepth 1000000
noncomputable def ane_spec_l04Tag:An:=.z
theorem ke_spec_l04Tag:CK [] 0 ane_spec_l04Tag Tryz.f150 e_spec_l04Tag:=⟨trivial,λ _=>by kernel_rfl⟩
noncomputable def ane_spec_CellsOf:An:=.q .z (.m [(.normal,⟨[(3, .s K15 [])],[.f]⟩)] [1,2] [0] .z (.m [(.normal,⟨[],[.f]⟩),(.ret,⟨[(2, .s K9 [(0,1)])],[.f, .o]⟩)] [1,3] [0] (.q .z (.b (.q .z (.q (.m [(.normal,⟨[(47, .s K15 [])],[.f]⟩)] [2] [] .z .z) (.q .z (.q (.m [(.normal,⟨[(60, .s K15 [])],[.f]⟩)] [2] [] .z .z) (.q .z (.q (.m [(.normal,⟨[(75, .s K15 [])],[.f]⟩)] [2] [] .z .z) (.q .z (.q (.q .z (.m [(.normal,⟨[(98, .s K15 [])],[.f, .f]⟩)] [2,4] [1] .z .z)) (.q .z (.m [(.normal,⟨[(28, .s K15 [])],[.f]⟩)] [2,5] [] .z .z)))))))))))) .z))
theorem ke_spec_CellsOf:CK [e_spec_l04Num,e_spec_l04Word,e_spec_l04Tag] 0 ane_spec_CellsOf Tryz.f126 e_spec_CellsOf:=⟨⟨trivial,⟨trivial,⟨⟨trivial,⟨trivial,⟨⟨trivial,trivial⟩,⟨trivial,⟨⟨trivial,trivial⟩,⟨trivial,⟨⟨trivial,trivial⟩,⟨trivial,⟨⟨trivial,⟨trivial,trivial⟩⟩,⟨trivial,⟨trivial,trivial⟩⟩⟩⟩⟩⟩⟩⟩⟩⟩⟩,trivial⟩⟩⟩,λ _=>by kernel_rfl⟩
noncomputable def ane_spec_l01Word:An:=.z
theorem ke_spec_l01Word:CK [e_spec_l01Below,e_spec_l01PickInt] 1 ane_spec_l01Word Tryz.f128 e_spec_l01Word:=⟨trivial,λ _=>by kernel_rfl⟩
noncomputable def ane_spec_l04Cells:An:=.q .z (.q .z (.q .z (.m [(.normal,⟨[(3, .s K9 [(0,2)])],[.v K19 [], .d, .o]⟩)] [0,2,4] [] (.q .z (.b (.l ⟨[(0, .c (.one (.ptr 0 0))),(2, .c (.one (.emp))),(4, .s K0 [])],[.n, .n, .n]⟩ ⟨[(3, .s K9 [(0,2)]),(5, .s K0 [])],[.v K19 [], .d, .o]⟩ [(.exit 0,⟨[(3, .s K9 [(0,2)])],[.v K19 [], .d, .o]⟩)] (λ n_7 k (out_8,i_9,x_10)=>g_spec_l04Cells_l0 n_7 k out_8 i_9 x_10) (.q .z (.m [(.normal,⟨[(3, .s K9 [(0,3)])],[.v K19 [], .d, .d, .o]⟩)] [5] [] .z .z))))) (.q (.m [(.normal,⟨[(58, .s K15 [])],[.v K19 [], .d, .f]⟩)] [0,2,3] [2] .z .z) .z))))
theorem ke_spec_l04Cells:CK [e_spec_l01Below,e_spec_l04Some,e_spec_CellsOf,e_spec_l01Word,e_spec_l01PickInt,e_spec_l01Once] 1 ane_spec_l04Cells Tryz.f115 e_spec_l04Cells:=⟨⟨trivial,⟨trivial,⟨trivial,⟨⟨trivial,⟨λ _ _=>rfl,λ _ _ _ _=>by kernel_rfl,⟨trivial,⟨trivial,trivial⟩⟩⟩⟩,⟨⟨trivial,trivial⟩,trivial⟩⟩⟩⟩⟩,λ _=>by kernel_rfl⟩
noncomputable def ane_spec_l05Make:An:=.q .z (.q .z (.m [(.normal,⟨[],[.v K19 [], .f, .o, .v K24 [(0,2)]]⟩)] [0,2,3] [1] (.q .z (.b (.l ⟨[(0, .c (.one (.ptr 0 0))),(2, .c (.one (.ptr 1 0))),(3, .c (.one (.ptr 3 0)))],[.n, .c [.emp], .n, .n]⟩ ⟨[(4, .s K0 [])],[.v K19 [], .f, .o, .v K24 [(0,2)]]⟩ [(.exit 0,⟨[],[.v K19 [], .f, .o, .v K24 [(0,2)]]⟩)] (λ _ k (b_8,x_9,x_10)=>g_spec_l05Make_l0 k b_8 x_9 x_10) (.q .z (.m [(.normal,⟨[],[.v K19 [], .f, .o, .v K24 [(0,2)]]⟩)] [4] [] (.b (.q .z (.q .z (.b (.l ⟨[(0, .c (.one (.ptr 0 0))),(2, .c (.one (.ptr 1 0))),(3, .c (.one (.ptr 3 0))),(4, .s K0 []),(5, .s K9 [(0,4)])],[.v K19 [], .c [.emp], .n, .n, .o]⟩ ⟨[(6, .s K0 [])],[.f, .f, .o, .v K24 [(0,2)], .f]⟩ [(.exit 2,⟨[],[.f, .f, .o, .v K24 [(0,2)], .f]⟩)] (λ (b_8,cells_16,_) k (i_18,x_19)=>g_spec_l05Make_l1 b_8 cells_16 k i_18 x_19) (.q (.m [(.normal,⟨[(28, .s K15 [])],[.f, .f, .f, .f, .f]⟩)] [6] [2,3] .z .z) .z)))))) .z))))) .z))
theorem ke_spec_l05Make:CK [e_spec_l01Below,e_spec_NewStore,e_spec_l04Cells] 1 ane_spec_l05Make Tryz.f75 e_spec_l05Make:=⟨⟨trivial,⟨trivial,⟨⟨trivial,⟨λ _ _=>rfl,λ _ _ _ _=>by kernel_rfl,⟨trivial,⟨⟨trivial,⟨trivial,⟨λ _ _=>rfl,λ _ _ _ _=>by kernel_rfl,⟨⟨trivial,trivial⟩,trivial⟩⟩⟩⟩,trivial⟩⟩⟩⟩,trivial⟩⟩⟩,λ _=>by kernel_rfl⟩
noncomputable def ane_spec_StoreOk:An:=.z
theorem ke_spec_StoreOk:CK [] 0 ane_spec_StoreOk Tryz.f42 e_spec_StoreOk:=⟨trivial,λ _=>by kernel_rfl⟩
noncomputable def ane_spec_NewSt:An:=.q .z (.q .z (.q (.m [(.normal,⟨[(23, .s K15 [])],[.f, .f, .f, .f]⟩)] [1,2,3,6,7] [0,1,2,3] .z .z) .z))
theorem ke_spec_NewSt:CK [e_spec_StoreOk,e_spec_l01In] 0 ane_spec_NewSt Tryz.f74 e_spec_NewSt:=⟨⟨trivial,⟨trivial,⟨⟨trivial,trivial⟩,trivial⟩⟩⟩,λ _=>by kernel_rfl⟩
noncomputable def ane_spec_l08First:An:=.z
theorem ke_spec_l08First:CK [] 0 ane_spec_l08First Tryz.f76 e_spec_l08First:=⟨trivial,λ _=>by kernel_rfl⟩
end Go.Proofs.YtmedombacbpofaaGreatDoor
namespace Go.Proofs.YtmedombacbpofaaGreatDoor
open Go Go.Fm
set_option maxRecDepth 1000000
noncomputable def ane_spec_l08Make:An:=.q .z (.q .z (.q .z (.m [(.normal,⟨[(4, .s K0 [])],[.v K19 [], .f, .d, .d, .d, .f, .f, .f, .f, .f, .f, .f, .f]⟩)] [0,2,3] [1,5,6,7,8,9,10,11,12] .z (.m [(.normal,⟨[],[.v K19 [], .f, .d, .d, .d, .d, .o, .o, .o, .o, .o, .o, .v K13 [(0,13),(1,6),(3,7),(4,8),(5,9),(6,10),(7,11)], .o]⟩)] [0,2,3,4] [1] (.q .z (.b (.l ⟨[(0, .c (.one (.ptr 0 0))),(2, .c (.one (.ptr 1 0))),(3, .c (.one (.ptr 12 0))),(4, .s K0 [])],[.n, .c [.emp, .emp, .int .i32 0, .emp, .emp, .emp, .emp, .emp, .int .i64 0, .int .i64 0], .n, .n, .n, .n, .n, .n, .n, .n, .n, .n, .n, .n]⟩ ⟨[(5, .s K0 [])],[.v K19 [], .f, .d, .d, .d, .d, .o, .o, .o, .o, .o, .o, .v K13 [(0,13),(1,6),(3,7),(4,8),(5,9),(6,10),(7,11)], .o]⟩ [(.exit 0,⟨[],[.v K19 [], .f, .d, .d, .d, .d, .o, .o, .o, .o, .o, .o, .v K13 [(0,13),(1,6),(3,7),(4,8),(5,9),(6,10),(7,11)], .o]⟩)] (λ n_10 k (i_16,x_17,x_18)=>g_spec_l08Make_l0 n_10 k i_16 x_17 x_18) .z))) (.q .z (.m [(.normal,⟨[(4, .s K0 [])],[.v K19 [], .f, .d, .d, .d, .d, .f, .f, .f, .f, .f, .f, .f, .f]⟩)] [0,2,3] [1,6,7,8,9,10,11,12,13] .z (.m [(.normal,⟨[],[.v K19 [], .f, .d, .d, .d, .d, .d, .o, .o, .o, .o, .o, .v K13 [(0,13),(1,14),(3,7),(4,8),(5,9),(6,10),(7,11)], .o, .o]⟩)] [0,2,3,4] [1] (.q .z (.b (.l ⟨[(0, .c (.one (.ptr 0 0))),(2, .c (.one (.ptr 1 0))),(3, .c (.one (.ptr 12 0))),(4, .s K0 [])],[.n, .c [.emp, .emp, .int .i32 0, .emp, .emp, .emp, .emp, .emp, .int .i64 0, .int .i64 0], .n, .n, .n, .n, .n, .n, .n, .n, .n, .n, .n, .n, .n]⟩ ⟨[(6, .s K0 [])],[.v K19 [], .f, .d, .d, .d, .d, .d, .o, .o, .o, .o, .o, .v K13 [(0,13),(1,14),(3,7),(4,8),(5,9),(6,10),(7,11)], .o, .o]⟩ [(.exit 2,⟨[],[.v K19 [], .f, .d, .d, .d, .d, .d, .o, .o, .o, .o, .o, .v K13 [(0,13),(1,14),(3,7),(4,8),(5,9),(6,10),(7,11)], .o, .o]⟩)] (λ n_24 k (i_30,x_31,x_32)=>g_spec_l08Make_l1 n_24 k i_30 x_31 x_32) .z))) (.q .z (.m [(.normal,⟨[],[.v K19 [], .f, .d, .d, .d, .d, .d, .o, .o, .d, .o, .o, .v K13 [(0,13),(1,14),(3,7),(4,8),(5,15),(6,10),(7,11)], .o, .o, .o]⟩)] [0,2,3,4] [1] (.q .z (.b (.l ⟨[(0, .c (.one (.ptr 0 0))),(2, .c (.one (.ptr 1 0))),(3, .c (.one (.ptr 12 0))),(4, .s K0 [])],[.n, .c [.emp, .emp, .int .i32 0, .emp, .emp, .emp, .emp, .emp, .int .i64 0, .int .i64 0], .n, .n, .n, .n, .n, .n, .n, .n, .n, .n, .n, .n, .n, .n]⟩ ⟨[(7, .s K0 [])],[.v K19 [], .f, .d, .d, .d, .d, .d, .o, .o, .d, .o, .o, .v K13 [(0,13),(1,14),(3,7),(4,8),(5,15),(6,10),(7,11)], .o, .o, .o]⟩ [(.exit 4,⟨[],[.v K19 [], .f, .d, .d, .d, .d, .d, .o, .o, .d, .o, .o, .v K13 [(0,13),(1,14),(3,7),(4,8),(5,15),(6,10),(7,11)], .o, .o, .o]⟩)] (λ n_41 k (i_42,x_43,x_44)=>g_spec_l08Make_l2 n_41 k i_42 x_43 x_44) .z))) (.m [(.normal,⟨[],[.v K19 [], .f, .d, .d, .d, .d, .d, .o, .o, .d, .o, .o, .v K13 [(0,13),(1,14),(3,7),(4,8),(5,15),(6,10),(7,11)], .o, .o, .o]⟩)] [0,2,3] [1] (.m [(.normal,⟨[(85, .s K15 [])],[.v K19 [], .f, .d, .d, .d, .d, .d, .f, .f, .d, .f, .f, .f, .f, .f, .f]⟩)] [] [7,8,10,11,12,13,14,15] .z .z) (.m [(.normal,⟨[],[.v K19 [], .f, .d, .d, .d, .d, .d, .o, .o, .d, .d, .o, .v K13 [(0,13),(1,14),(3,7),(4,8),(5,15),(6,16),(7,11)], .o, .o, .o, .o]⟩)] [0,2,3] [1] (.q .z (.q (.q .z (.q .z (.b (.l ⟨[(0, .c (.one (.ptr 0 0))),(2, .c (.one (.ptr 1 0))),(3, .c (.one (.ptr 12 0))),(4, .s K0 [])],[.v K19 [], .c [.emp, .emp, .int .i32 0, .emp, .emp, .emp, .emp, .emp, .int .i64 0, .int .i64 0], .n, .n, .n, .n, .n, .n, .n, .n, .n, .n, .n, .n, .n, .n, .n]⟩ ⟨[(8, .s K0 [])],[.f, .f, .d, .d, .d, .d, .d, .o, .o, .d, .d, .o, .v K13 [(0,13),(1,14),(3,7),(4,8),(5,15),(6,16),(7,11)], .o, .o, .o, .o]⟩ [(.exit 6,⟨[],[.f, .f, .d, .d, .d, .d, .d, .o, .o, .d, .d, .o, .v K13 [(0,13),(1,14),(3,7),(4,8),(5,15),(6,16),(7,11)], .o, .o, .o, .o]⟩)] (λ (n_73,_) k (i_75,x_76)=>g_spec_l08Make_l3 n_73 k i_75 x_76) .z)))) .z)) .z)))))))))))
theorem ke_spec_l08Make:CK [e_spec_l05Make,e_spec_l01Pick,e_spec_l01Below,e_spec_NewSt,e_spec_l01Once,e_spec_l04Int,e_spec_l01PickInt,e_spec_l08First] 1 ane_spec_l08Make Tryz.f37 e_spec_l08Make:=⟨⟨trivial,⟨trivial,⟨trivial,⟨trivial,⟨⟨trivial,⟨λ _ _=>rfl,λ _ _ _ _=>by kernel_rfl,trivial⟩⟩,⟨trivial,⟨trivial,⟨⟨trivial,⟨λ _ _=>rfl,λ _ _ _ _=>by kernel_rfl,trivial⟩⟩,⟨trivial,⟨⟨trivial,⟨λ _ _=>rfl,λ _ _ _ _=>by kernel_rfl,trivial⟩⟩,⟨⟨trivial,trivial⟩,⟨⟨trivial,⟨⟨trivial,⟨trivial,⟨λ _ _=>rfl,λ _ _ _ _=>by kernel_rfl,trivial⟩⟩⟩,trivial⟩⟩,trivial⟩⟩⟩⟩⟩⟩⟩⟩⟩⟩⟩⟩,λ _=>by kernel_rfl⟩
noncomputable def ane_spec_l08Any:An:=.q .z (.q .z (.m [(.normal,⟨[],[.v K19 [], .f, .o, .d, .d, .d, .d, .o, .o, .v K13 [(0,2),(1,10),(3,11),(4,12),(5,13),(6,7),(7,8)], .o, .o, .o, .o]⟩)] [0,2,3] [1] .z .z))
theorem ke_spec_l08Any:CK [e_spec_l08Make,e_spec_l01Below,e_spec_l01PickInt] 1 ane_spec_l08Any Tryz.f38 e_spec_l08Any:=⟨⟨trivial,⟨trivial,⟨trivial,trivial⟩⟩⟩,λ _=>by kernel_rfl⟩
noncomputable def ane_spec_l09Any_imm:An:=.q .z (.q .z (.m [(.normal,⟨[(3, .s K21 [(0,2)])],[.v K19 [], .d, .o]⟩),(.ret,⟨[(2, .s K21 [(0,2)])],[.v K19 [], .d, .o]⟩)] [0] [] (.q .z (.b (.q .z (.q .z (.q .z (.q .z (.q .z (.q (.b (.l ⟨[(0, .c (.one (.ptr 0 0))),(2, .c (.one (.emp)))],[.n, .n, .n]⟩ ⟨[(3, .s K21 [(0,2)])],[.v K19 [], .d, .o]⟩ [(.exit 1,⟨[(3, .s K21 [(0,2)])],[.v K19 [], .d, .o]⟩)] (λ _ k (body_17,x_18)=>g_spec_l09Any_imm_l0 k body_17 x_18) .z)) .z)))))))) .z))
theorem ke_spec_l09Any_imm:CK [e_spec_l09Body,e_spec_l01Below,e_spec_l01PickInt] 1 ane_spec_l09Any_imm Tryz.f39 e_spec_l09Any_imm:=⟨⟨trivial,⟨trivial,⟨⟨trivial,⟨trivial,⟨trivial,⟨trivial,⟨trivial,⟨trivial,⟨⟨λ _ _=>rfl,λ _ _ _ _=>by kernel_rfl,trivial⟩,trivial⟩⟩⟩⟩⟩⟩⟩,trivial⟩⟩⟩,λ _=>by kernel_rfl⟩
noncomputable def ane_spec_DrawMeans:An:=.q .z (.q .z (.q .z (.q .z (.m [(.normal,⟨[],[.f, .v K19 [], .f, .d, .d, .d, .d, .d, .d, .d, .v K13 [(0,11),(1,12),(3,13),(4,14),(5,15),(6,16),(7,17)], .o, .o, .o, .o, .o, .o, .o]⟩)] [2,3,4,5,6,7] [0,2] .z (.m [(.normal,⟨[(6, .s K23 [(0,2)])],[.f, .v K19 [], .o, .d, .d, .d, .d, .d, .d, .d, .f, .f, .f, .f, .f, .f, .f, .f]⟩)] [2,3,4,5,7] [0,10,11,12,13,14,15,16,17] .z .z)))))
theorem ke_spec_DrawMeans:CK [e_spec_l01New,e_spec_l09Make,e_spec_l08Make,e_spec_l01Once,e_spec_l08Any,e_spec_l09Any_imm,e_spec_l01Below] 0 ane_spec_DrawMeans Tryz.f11 e_spec_DrawMeans:=⟨⟨trivial,⟨trivial,⟨trivial,⟨trivial,⟨trivial,⟨trivial,trivial⟩⟩⟩⟩⟩⟩,λ _=>by kernel_rfl⟩
noncomputable def ane_spec_StOk:An:=.q .z (.q (.m [(.normal,⟨[(39, .s K15 [])],[.f]⟩)] [1,2] [0] .z .z) (.m [(.normal,⟨[],[.f]⟩),(.ret,⟨[(2, .s K15 [])],[.f]⟩)] [1] [0] (.q .z (.b (.l ⟨[(1, .c (.one (.ptr 0 0)))],[.v K13 []]⟩ ⟨[(3, .s K0 [])],[.f]⟩ [(.exit 0,⟨[],[.f]⟩),(.ret,⟨[(2, .s K15 [])],[.f]⟩)] (λ st_1 k i_5=>g_spec_StOk_l0 st_1 k i_5) .z))) (.m [(.normal,⟨[],[.f]⟩),(.ret,⟨[(2, .s K15 [])],[.f]⟩)] [1] [0] (.q .z (.b (.l ⟨[(1, .c (.one (.ptr 0 0)))],[.v K13 []]⟩ ⟨[(4, .s K0 [])],[.f]⟩ [(.exit 2,⟨[],[.f]⟩),(.ret,⟨[(2, .s K15 [])],[.f]⟩)] (λ st_1 k i_10=>g_spec_StOk_l1 st_1 k i_10) (.q .z (.m [(.normal,⟨[],[.f]⟩),(.ret,⟨[(2, .s K15 [])],[.f]⟩)] [4] [] (.b (.q .z (.q .z (.b (.l ⟨[(1, .c (.one (.ptr 0 0))),(4, .s K0 [])],[.v K13 []]⟩ ⟨[(5, .s K0 [])],[.f]⟩ [(.exit 4,⟨[],[.f]⟩),(.ret,⟨[(2, .s K15 [])],[.f]⟩)] (λ (i_10,st_1) k k_15=>g_spec_StOk_l2 i_10 st_1 k k_15) .z))))) .z))))) .z)))
theorem ke_spec_StOk:CK [e_spec_l01In,e_spec_StoreOk] 0 ane_spec_StOk Tryz.f12 e_spec_StOk:=⟨⟨trivial,⟨⟨trivial,trivial⟩,⟨⟨trivial,⟨λ _ _=>rfl,λ _ _ _ _=>by kernel_rfl,trivial⟩⟩,⟨⟨trivial,⟨λ _ _=>rfl,λ _ _ _ _=>by kernel_rfl,⟨trivial,⟨⟨trivial,⟨trivial,⟨λ _ _=>rfl,λ _ _ _ _=>by kernel_rfl,trivial⟩⟩⟩,trivial⟩⟩⟩⟩,trivial⟩⟩⟩⟩,λ _=>by kernel_rfl⟩
noncomputable def ane_impl_StoreOk:An:=.z
theorem ke_impl_StoreOk:CK [] 0 ane_impl_StoreOk Tryz.f116 e_impl_StoreOk:=⟨trivial,λ _=>by kernel_rfl⟩
noncomputable def ane_impl_StOk:An:=.q .z (.q (.m [(.normal,⟨[(35, .s K15 [])],[.f]⟩)] [1,2] [0] .z .z) (.m [(.normal,⟨[],[.f]⟩),(.ret,⟨[(2, .s K15 [])],[.f]⟩)] [1] [0] (.q .z (.b (.l ⟨[(1, .c (.one (.ptr 0 0))),(37, .s K7 []),(38, .s K0 [])],[.v K13 []]⟩ ⟨[(39, .s K0 [])],[.f]⟩ [(.exit 0,⟨[],[.f]⟩),(.ret,⟨[(2, .s K15 [])],[.f]⟩)] (λ (v_6,v_7,_) k v_8=>g_impl_StOk_l0 v_6 v_7 k v_8) .z))) (.m [(.normal,⟨[],[.f]⟩),(.ret,⟨[(2, .s K15 [])],[.f]⟩)] [1] [0] (.q .z (.b (.l ⟨[(1, .c (.one (.ptr 0 0))),(49, .s K10 []),(50, .s K0 [])],[.v K13 []]⟩ ⟨[(51, .s K0 [])],[.f]⟩ [(.exit 2,⟨[],[.f]⟩),(.ret,⟨[(2, .s K15 [])],[.f]⟩)] (λ (v_13,v_14,st_1) k v_15=>g_impl_StOk_l1 v_13 v_14 st_1 k v_15) (.q .z (.q .z (.q (.b (.q .z (.m [(.normal,⟨[(70, .s K15 [])],[.f]⟩)] [5,6,51] [] .z .z))) .z)))))) .z)))
theorem ke_impl_StOk:CK [e_impl_StoreOk,e_impl_within,e_slices_Contains_int] 0 ane_impl_StOk Tryz.f78 e_impl_StOk:=⟨⟨trivial,⟨⟨trivial,trivial⟩,⟨⟨trivial,⟨λ _ _=>rfl,λ _ _ _ _=>by kernel_rfl,trivial⟩⟩,⟨⟨trivial,⟨λ _ _=>rfl,λ _ _ _ _=>by kernel_rfl,⟨trivial,⟨trivial,⟨⟨trivial,⟨trivial,trivial⟩⟩,trivial⟩⟩⟩⟩⟩,trivial⟩⟩⟩⟩,λ _=>by kernel_rfl⟩
noncomputable def ane_impl_goes:An:=.z
theorem ke_impl_goes:CK [e_impl_StOk] 0 ane_impl_goes Tryz.f44 e_impl_goes:=⟨trivial,λ _=>by kernel_rfl⟩
end Go.Proofs.YtmedombacbpofaaGreatDoor
namespace Go.Proofs.YtmedombacbpofaaGreatDoor
open Go Go.Fm
set_option maxRecDepth 1000000
noncomputable def ane_impl_TreeOf_imm:An:=.z
theorem ke_impl_TreeOf_imm:CK [e_impl_ShapeOk,e_impl_grow] 0 ane_impl_TreeOf_imm Tryz.f46 e_impl_TreeOf_imm:=⟨trivial,λ _=>by kernel_rfl⟩
noncomputable def ane_impl_Means:An:=.q .z (.q (.m [(.normal,⟨[(25, .s K15 [])],[.f, .f]⟩)] [0,1,5,6] [0,1] .z .z) (.q .z (.m [(.normal,⟨[],[.d, .f, .o, .o, .o, .o, .o, .o, .o, .v K14 [(0,10),(1,2),(2,3),(4,4),(5,5),(6,6),(7,7),(8,8)], .o]⟩)] [0,1,6,7] [1] (.q .z (.b (.l ⟨[(0, .s K23 []),(1, .s K0 []),(6, .c (.one (.ptr 1 0))),(7, .c (.one (.ptr 9 0))),(31, .s K23 []),(32, .s K0 [])],[.n, .c [.emp, .emp, .int .i32 0, .emp, .emp, .emp, .emp, .emp, .int .i64 0, .int .i64 0], .n, .n, .n, .n, .n, .n, .n, .n, .n]⟩ ⟨[(33, .s K0 [])],[.d, .f, .o, .o, .o, .o, .o, .o, .o, .v K14 [(0,10),(1,2),(2,3),(4,4),(5,5),(6,6),(7,7),(8,8)], .o]⟩ [(.exit 0,⟨[],[.d, .f, .o, .o, .o, .o, .o, .o, .o, .v K14 [(0,10),(1,2),(2,3),(4,4),(5,5),(6,6),(7,7),(8,8)], .o]⟩)] (λ (_,_,v_11,v_12) k (v_13,x_14)=>g_impl_Means_l0 v_11 v_12 k v_13 x_14) .z))) .z)))
theorem ke_impl_Means:CK [e_impl_DefsOk,e_impl_within,e_impl_goes,e_impl_ownSt,e_impl_TreeOf_imm,e_impl_meaning_enter] 0 ane_impl_Means Tryz.f13 e_impl_Means:=⟨⟨trivial,⟨⟨trivial,trivial⟩,⟨trivial,⟨⟨trivial,⟨λ _ _=>rfl,λ _ _ _ _=>by kernel_rfl,trivial⟩⟩,trivial⟩⟩⟩⟩,λ _=>by kernel_rfl⟩
noncomputable def ane_laws_sameNums:An:=.q .z (.q .z (.m [(.normal,⟨[],[]⟩),(.ret,⟨[(4, .s K15 [])],[]⟩)] [0,1] [] (.q .z (.b (.l ⟨[(0, .s K5 []),(1, .s K5 [])],[]⟩ ⟨[(5, .s K0 [])],[]⟩ [(.exit 0,⟨[],[]⟩),(.ret,⟨[(4, .s K15 [])],[]⟩)] (λ (a_1,b_2) k i_5=>g_laws_sameNums_l0 a_1 b_2 k i_5) .z))) .z))
theorem ke_laws_sameNums:CK [] 0 ane_laws_sameNums Tryz.f48 e_laws_sameNums:=⟨⟨trivial,⟨trivial,⟨⟨trivial,⟨λ _ _=>rfl,λ _ _ _ _=>by kernel_rfl,trivial⟩⟩,trivial⟩⟩⟩,λ _=>by kernel_rfl⟩
noncomputable def ane_laws_sameCells:An:=.q .z (.q .z (.m [(.normal,⟨[],[]⟩),(.ret,⟨[(4, .s K15 [])],[]⟩)] [0,1] [] (.q .z (.b (.l ⟨[(0, .s K9 []),(1, .s K9 [])],[]⟩ ⟨[(5, .s K0 [])],[]⟩ [(.exit 0,⟨[],[]⟩),(.ret,⟨[(4, .s K15 [])],[]⟩)] (λ (a_1,b_2) k i_5=>g_laws_sameCells_l0 a_1 b_2 k i_5) .z))) .z))
theorem ke_laws_sameCells:CK [] 0 ane_laws_sameCells Tryz.f49 e_laws_sameCells:=⟨⟨trivial,⟨trivial,⟨⟨trivial,⟨λ _ _=>rfl,λ _ _ _ _=>by kernel_rfl,trivial⟩⟩,trivial⟩⟩⟩,λ _=>by kernel_rfl⟩
noncomputable def ane_laws_sameInts:An:=.q .z (.q .z (.m [(.normal,⟨[],[]⟩),(.ret,⟨[(4, .s K15 [])],[]⟩)] [0,1] [] (.q .z (.b (.l ⟨[(0, .s K10 []),(1, .s K10 [])],[]⟩ ⟨[(5, .s K0 [])],[]⟩ [(.exit 0,⟨[],[]⟩),(.ret,⟨[(4, .s K15 [])],[]⟩)] (λ (a_1,b_2) k i_5=>g_laws_sameInts_l0 a_1 b_2 k i_5) .z))) .z))
theorem ke_laws_sameInts:CK [] 0 ane_laws_sameInts Tryz.f50 e_laws_sameInts:=⟨⟨trivial,⟨trivial,⟨⟨trivial,⟨λ _ _=>rfl,λ _ _ _ _=>by kernel_rfl,trivial⟩⟩,trivial⟩⟩⟩,λ _=>by kernel_rfl⟩
noncomputable def ane_laws_sameBytes:An:=.q .z (.q .z (.m [(.normal,⟨[],[]⟩),(.ret,⟨[(4, .s K15 [])],[]⟩)] [0,1] [] (.q .z (.b (.l ⟨[(0, .s K12 []),(1, .s K12 [])],[]⟩ ⟨[(5, .s K0 [])],[]⟩ [(.exit 0,⟨[],[]⟩),(.ret,⟨[(4, .s K15 [])],[]⟩)] (λ (a_1,b_2) k i_5=>g_laws_sameBytes_l0 a_1 b_2 k i_5) .z))) .z))
theorem ke_laws_sameBytes:CK [] 0 ane_laws_sameBytes Tryz.f51 e_laws_sameBytes:=⟨⟨trivial,⟨trivial,⟨⟨trivial,⟨λ _ _=>rfl,λ _ _ _ _=>by kernel_rfl,trivial⟩⟩,trivial⟩⟩⟩,λ _=>by kernel_rfl⟩
noncomputable def ane_laws_sameBut:An:=.z
theorem ke_laws_sameBut:CK [e_laws_sameNums,e_laws_sameCells,e_laws_sameInts,e_laws_sameBytes] 0 ane_laws_sameBut Tryz.f14 e_laws_sameBut:=⟨trivial,λ _=>by kernel_rfl⟩
noncomputable def ane_laws_sameRet:An:=.q .z (.q .z (.m [(.normal,⟨[],[]⟩),(.ret,⟨[(4, .s K15 [])],[]⟩)] [0,1] [] (.q .z (.b (.l ⟨[(0, .s K7 []),(1, .s K7 [])],[]⟩ ⟨[(5, .s K0 [])],[]⟩ [(.exit 0,⟨[],[]⟩),(.ret,⟨[(4, .s K15 [])],[]⟩)] (λ (a_1,b_2) k i_5=>g_laws_sameRet_l0 a_1 b_2 k i_5) .z))) .z))
theorem ke_laws_sameRet:CK [] 0 ane_laws_sameRet Tryz.f15 e_laws_sameRet:=⟨⟨trivial,⟨trivial,⟨⟨trivial,⟨λ _ _=>rfl,λ _ _ _ _=>by kernel_rfl,trivial⟩⟩,trivial⟩⟩⟩,λ _=>by kernel_rfl⟩
end Go.Proofs.YtmedombacbpofaaGreatDoor
namespace Go.Proofs.YtmedombacbpofaaGreatDoor
open Go Go.Fm
set_option maxRecDepth 1000000
noncomputable def ane_laws_FnSimple:An:=.q .z (.q .z (.q .z (.q .z (.q .z (.q (.m [(.normal,⟨[(32, .s K15 [])],[.f, .f]⟩)] [0,2,3,4] [0,1] .z .z) (.q .z (.q (.m [(.normal,⟨[(46, .s K15 [])],[.f, .f, .d, .f, .f, .f, .f, .f, .f, .f, .f]⟩)] [2,3,4,7] [0,1,3,4,5,6,7,8,9,10] .z .z) (.m [(.normal,⟨[],[.f, .f, .d, .f, .f, .f, .f, .f, .f, .f, .f]⟩),(.ret,⟨[(2, .s K15 [])],[.f, .f, .d, .f, .f, .f, .f, .f, .f, .f, .f]⟩)] [3,4,7] [0,1,3,4,5,6,7,8,9,10] (.q .z (.b (.l ⟨[(3, .s K23 [(0,0)]),(4, .s K23 [(0,1)]),(7, .c (.one (.ptr 10 0)))],[.o, .o, .n, .o, .o, .o, .o, .o, .o, .o, .v K13 [(0,3),(1,4),(3,5),(4,6),(5,7),(6,8),(7,9)]]⟩ ⟨[(8, .s K0 [])],[.f, .f, .d, .f, .f, .f, .f, .f, .f, .f, .f]⟩ [(.exit 0,⟨[],[.f, .f, .d, .f, .f, .f, .f, .f, .f, .f, .f]⟩),(.ret,⟨[(2, .s K15 [])],[.f, .f, .d, .f, .f, .f, .f, .f, .f, .f, .f]⟩)] (λ (defs_13,list_14,x_15) k k_16=>g_laws_FnSimple_l0 defs_13 list_14 x_15 k k_16) (.q .z (.m [(.normal,⟨[],[.f, .f, .d, .f, .f, .f, .f, .f, .f, .f, .f]⟩),(.ret,⟨[(2, .s K15 [])],[.f, .f, .d, .f, .f, .f, .f, .f, .f, .f, .f]⟩)] [8] [] (.b (.q (.m [(.normal,⟨[(78, .s K15 [])],[.f, .f, .d, .f, .f, .f, .f, .f, .f, .f, .f]⟩)] [] [] .z .z) (.q .z (.q .z (.q .z (.m [(.normal,⟨[(113, .s K15 [])],[.f, .f, .d, .f, .f, .f, .f, .f, .f, .f, .f, .f, .f, .f, .f, .f, .f, .f, .f, .f, .f, .f, .f, .f, .f, .f, .f]⟩)] [9,10] [11,12,13,14,15,16,17,18,19,20,21,22,23,24,25,26] .z .z)))))) .z))))) .z))))))))
theorem ke_laws_FnSimple:CK [e_laws_big,e_spec_DrawSimpleOf,e_impl_SimpleOf_hand,e_spec_DefsOk,e_impl_DefsOk,e_spec_DrawMeans,e_spec_StOk,e_impl_Means,e_laws_sameBut,e_laws_sameRet] 0 ane_laws_FnSimple Tryz.f3 e_laws_FnSimple:=⟨⟨trivial,⟨trivial,⟨trivial,⟨trivial,⟨trivial,⟨⟨trivial,trivial⟩,⟨trivial,⟨⟨trivial,trivial⟩,⟨⟨trivial,⟨λ _ _=>rfl,λ _ _ _ _=>by kernel_rfl,⟨trivial,⟨⟨⟨trivial,trivial⟩,⟨trivial,⟨trivial,⟨trivial,⟨trivial,trivial⟩⟩⟩⟩⟩,trivial⟩⟩⟩⟩,trivial⟩⟩⟩⟩⟩⟩⟩⟩⟩,λ _=>by kernel_rfl⟩
end Go.Proofs.YtmedombacbpofaaGreatDoor
namespace Go.Proofs.YtmedombacbpofaaGreatDoor
open Go Go.Fm
set_option maxRecDepth 1000000
theorem ce_impl_St_pushes_inGMeaning_1:CO e_impl_St_pushes_inGMeaning_1:=fnc (λ _=>con_nil) Tryz.func130 ke_impl_St_pushes_inGMeaning_1 (by kernel_rfl) (λ _=>by kernel_rfl) (λ _=>by kernel_rfl) rfl
theorem ce_impl_meaning_fail_own:CO e_impl_meaning_fail_own:=fnc (λ _=>con_nil) Tryz.func85 ke_impl_meaning_fail_own (by kernel_rfl) (λ _=>by kernel_rfl) (λ _=>by kernel_rfl) rfl
theorem ce_impl_meaning_burn_own:CO e_impl_meaning_burn_own:=fnc (λ _=>con_cons ce_impl_meaning_fail_own con_nil) Tryz.func129 ke_impl_meaning_burn_own (by kernel_rfl) (λ _=>by kernel_rfl) (λ _=>by kernel_rfl) rfl
theorem ce_strings_Fields:CO e_strings_Fields:=fnc (λ _=>con_nil) Tryz.func134 ke_strings_Fields (by kernel_rfl) (λ _=>by kernel_rfl) (λ _=>by kernel_rfl) rfl
theorem ce_impl_prims:CO e_impl_prims:=fnc (λ _=>con_cons ce_strings_Fields con_nil) Tryz.func119 ke_impl_prims (by kernel_rfl) (λ _=>by kernel_rfl) (λ _=>by kernel_rfl) rfl
theorem ce_impl_within:CO e_impl_within:=fnc (λ _=>con_nil) Tryz.func43 ke_impl_within (by kernel_rfl) (λ _=>by kernel_rfl) (λ _=>by kernel_rfl) rfl
theorem ce_impl_PrimName:CO e_impl_PrimName:=fnc (λ _=>con_cons ce_impl_prims (con_cons ce_impl_within con_nil)) Tryz.func91 ke_impl_PrimName (by kernel_rfl) (λ _=>by kernel_rfl) (λ _=>by kernel_rfl) rfl
theorem ce_slices_Clone_int32:ConOk Tryz.prog e_slices_Clone_int32:=fe_slices_Clone_int32
theorem ce_slices_Clone_Slot:ConOk Tryz.prog e_slices_Clone_Slot:=fe_slices_Clone_Slot
theorem ce_slices_Clone_uint32:ConOk Tryz.prog e_slices_Clone_uint32:=fe_slices_Clone_uint32
theorem ce_slices_Clone_int:ConOk Tryz.prog e_slices_Clone_int:=fe_slices_Clone_int
theorem ce_slices_Clone_byte:ConOk Tryz.prog e_slices_Clone_byte:=fe_slices_Clone_byte
theorem ce_impl_ownSt:CO e_impl_ownSt:=fnc (λ _=>con_cons ce_slices_Clone_int32 (con_cons ce_slices_Clone_Slot (con_cons ce_slices_Clone_uint32 (con_cons ce_slices_Clone_int (con_cons ce_slices_Clone_byte con_nil))))) Tryz.func45 ke_impl_ownSt (by kernel_rfl) (λ _=>by kernel_rfl) (λ _=>by kernel_rfl) rfl
theorem ce_impl_doesc1:CO e_impl_doesc1:=fnc (λ _=>con_cons ce_impl_ownSt con_nil) Tryz.func152 ke_impl_doesc1 (by kernel_rfl) (λ _=>by kernel_rfl) (λ _=>by kernel_rfl) rfl
theorem ce_impl_PrimEffect:CO e_impl_PrimEffect:=fnc (λ _=>con_cons ce_impl_PrimName con_nil) Tryz.func167 ke_impl_PrimEffect (by kernel_rfl) (λ _=>by kernel_rfl) (λ _=>by kernel_rfl) rfl
theorem ce_impl_wants:CO e_impl_wants:=fnc (λ _=>con_cons ce_impl_PrimEffect con_nil) Tryz.func153 ke_impl_wants (by kernel_rfl) (λ _=>by kernel_rfl) (λ _=>by kernel_rfl) rfl
theorem ce_slices_Index_int:CO e_slices_Index_int:=fnc (λ _=>con_nil) Tryz.func59 ke_slices_Index_int (by kernel_rfl) (λ _=>by kernel_rfl) (λ _=>by kernel_rfl) rfl
theorem ce_slices_Contains_int:CO e_slices_Contains_int:=fnc (λ _=>con_cons ce_slices_Index_int con_nil) Tryz.func102 ke_slices_Contains_int (by kernel_rfl) (λ _=>by kernel_rfl) (λ _=>by kernel_rfl) rfl
theorem ce_impl_St_written:CO e_impl_St_written:=fnc (λ _=>con_nil) Tryz.func169 ke_impl_St_written (by kernel_rfl) (λ _=>by kernel_rfl) (λ _=>by kernel_rfl) rfl
theorem ce_strconv_Itoa:ConOk Tryz.prog e_strconv_Itoa:=fe_strconv_Itoa
theorem ce_impl_DecText:CO e_impl_DecText:=fnc (λ _=>con_cons ce_strconv_Itoa con_nil) Tryz.func170 ke_impl_DecText (by kernel_rfl) (λ _=>by kernel_rfl) (λ _=>by kernel_rfl) rfl
theorem ce_impl_result:CO e_impl_result:=fnc (λ _=>con_nil) Tryz.func89 ke_impl_result (by kernel_rfl) (λ _=>by kernel_rfl) (λ _=>by kernel_rfl) rfl
theorem ce_impl_St_place_rd:CO e_impl_St_place_rd:=fnc (λ _=>con_cons ce_impl_within con_nil) Tryz.func168 ke_impl_St_place_rd (by kernel_rfl) (λ _=>by kernel_rfl) (λ _=>by kernel_rfl) rfl
theorem ce_impl_St_effect:CO e_impl_St_effect:=fnc (λ _=>con_cons ce_impl_St_place_rd (con_cons ce_slices_Contains_int (con_cons ce_impl_St_written (con_cons ce_impl_DecText (con_cons ce_impl_result con_nil))))) Tryz.func154 ke_impl_St_effect (by kernel_rfl) (λ _=>by kernel_rfl) (λ _=>by kernel_rfl) rfl
theorem ce_impl_does:CO e_impl_does:=fnc (λ _=>con_cons ce_impl_PrimName (con_cons ce_impl_doesc1 (con_cons ce_impl_wants (con_cons ce_impl_ownSt (con_cons ce_impl_St_effect con_nil))))) Tryz.func131 ke_impl_does (by kernel_rfl) (λ _=>by kernel_rfl) (λ _=>by kernel_rfl) rfl
theorem ce_impl_meaning_enter_r (kk:Nat) (h:CO (e_impl_meaning_all_r kk)):CO (e_impl_meaning_enter_r kk):=fnc (λ _=>con_cons ce_impl_meaning_fail_own (con_cons h con_nil)) Tryz.func47 (ke_impl_meaning_enter kk) (by kernel_rfl) (λ _=>by kernel_rfl) (λ _=>by kernel_rfl) rfl
theorem ce_impl_St_begin_inGMeaning_1:CO e_impl_St_begin_inGMeaning_1:=fnc (λ _=>con_nil) Tryz.func155 ke_impl_St_begin_inGMeaning_1 (by kernel_rfl) (λ _=>by kernel_rfl) (λ _=>by kernel_rfl) rfl
theorem ce_impl_St_again_inGMeaning_1:CO e_impl_St_again_inGMeaning_1:=fnc (λ _=>con_nil) Tryz.func156 ke_impl_St_again_inGMeaning_1 (by kernel_rfl) (λ _=>by kernel_rfl) (λ _=>by kernel_rfl) rfl
theorem ce_impl_meaning_loop_r (kk:Nat) (h:CO (e_impl_meaning_all_r kk)):CO (e_impl_meaning_loop_r kk):=fnc (λ _=>con_cons ce_impl_St_begin_inGMeaning_1 (con_cons h (con_cons ce_impl_meaning_burn_own (con_cons ce_impl_St_again_inGMeaning_1 con_nil)))) Tryz.func132 (ke_impl_meaning_loop kk) (by kernel_rfl) (λ _=>by kernel_rfl) (λ _=>by kernel_rfl) rfl
theorem ce_impl_meaning_one_r (kk:Nat) (h:CO (e_impl_meaning_all_r kk)):CO (e_impl_meaning_one_r kk):=fnc (λ _=>con_cons ce_impl_meaning_burn_own (con_cons ce_impl_St_pushes_inGMeaning_1 (con_cons ce_impl_does (con_cons (ce_impl_meaning_enter_r kk h) (con_cons ce_impl_meaning_fail_own (con_cons h (con_cons (ce_impl_meaning_loop_r kk h) con_nil))))))) Tryz.func117 (ke_impl_meaning_one kk) (by kernel_rfl) (λ _=>by kernel_rfl) (λ _=>by kernel_rfl) rfl
theorem ce_impl_meaning_all_r:∀ kk,CO (e_impl_meaning_all_r kk)
 | 0=>λ _ _ _ h=>nomatch h
 | kk+1=>fnc (λ _=>con_cons (ce_impl_meaning_one_r kk (ce_impl_meaning_all_r kk)) con_nil) Tryz.func86 (ke_impl_meaning_all kk) (by kernel_rfl) (λ _=>by kernel_rfl) (λ _=>by kernel_rfl) rfl
theorem ce_impl_meaning_all:CO e_impl_meaning_all:=ce_impl_meaning_all_r bigK
theorem ce_impl_meaning_enter:CO e_impl_meaning_enter:=ce_impl_meaning_enter_r bigK ce_impl_meaning_all
theorem ce_laws_big:CO e_laws_big:=fnc (λ _=>con_nil) Tryz.func6 ke_laws_big (by kernel_rfl) (λ _=>by kernel_rfl) (λ _=>by kernel_rfl) rfl
theorem ce_spec_l01New:CO e_spec_l01New:=fnc (λ _=>con_nil) Tryz.func26 ke_spec_l01New (by kernel_rfl) (λ _=>by kernel_rfl) (λ _=>by kernel_rfl) rfl
theorem ce_spec_l01Byte:CO e_spec_l01Byte:=fnc (λ _=>con_nil) Tryz.func77 ke_spec_l01Byte (by kernel_rfl) (λ _=>by kernel_rfl) (λ _=>by kernel_rfl) rfl
theorem ce_spec_l01Below:CO e_spec_l01Below:=fnc (λ _=>con_cons ce_spec_l01Byte con_nil) Tryz.func40 ke_spec_l01Below (by kernel_rfl) (λ _=>by kernel_rfl) (λ _=>by kernel_rfl) rfl
theorem ce_spec_l01Once:CO e_spec_l01Once:=fnc (λ _=>con_cons ce_spec_l01Below con_nil) Tryz.func29 ke_spec_l01Once (by kernel_rfl) (λ _=>by kernel_rfl) (λ _=>by kernel_rfl) rfl
theorem ce_spec_l01PickInt:CO e_spec_l01PickInt:=fnc (λ _=>con_cons ce_spec_l01Below con_nil) Tryz.func65 ke_spec_l01PickInt (by kernel_rfl) (λ _=>by kernel_rfl) (λ _=>by kernel_rfl) rfl
theorem ce_spec_l09Plain:CO e_spec_l09Plain:=fnc (λ _=>con_cons ce_spec_l01Below (con_cons ce_spec_l01PickInt con_nil)) Tryz.func107 ke_spec_l09Plain (by kernel_rfl) (λ _=>by kernel_rfl) (λ _=>by kernel_rfl) rfl
theorem ce_spec_l09Body_r:∀ kk,CO (e_spec_l09Body_r kk)
 | 0=>λ _ _ _ h=>nomatch h
 | kk+1=>fnc (λ _=>con_cons ce_spec_l01Below (con_cons ce_spec_l09Plain (con_cons ce_spec_l01Once (con_cons (ce_spec_l09Body_r kk) con_nil)))) Tryz.func62 (ke_spec_l09Body kk) (by kernel_rfl) (λ _=>by kernel_rfl) (λ _=>by kernel_rfl) rfl
theorem ce_spec_l09Body:CO e_spec_l09Body:=ce_spec_l09Body_r bigK
theorem ce_spec_l01Pick:CO e_spec_l01Pick:=fnc (λ _=>con_cons ce_spec_l01Below con_nil) Tryz.func63 ke_spec_l01Pick (by kernel_rfl) (λ _=>by kernel_rfl) (λ _=>by kernel_rfl) rfl
theorem ce_spec_l09Make:CO e_spec_l09Make:=fnc (λ _=>con_cons ce_spec_l01Below (con_cons ce_spec_l01Once (con_cons ce_spec_l09Body (con_cons ce_spec_l01Pick con_nil)))) Tryz.func27 ke_spec_l09Make (by kernel_rfl) (λ _=>by kernel_rfl) (λ _=>by kernel_rfl) rfl
theorem ce_spec_l04Int:CO e_spec_l04Int:=fnc (λ _=>con_cons ce_spec_l01Once (con_cons ce_spec_l01Below (con_cons ce_spec_l01PickInt con_nil))) Tryz.func64 ke_spec_l04Int (by kernel_rfl) (λ _=>by kernel_rfl) (λ _=>by kernel_rfl) rfl
theorem ce_spec_l09Any:CO e_spec_l09Any:=fnc (λ _=>con_cons ce_spec_l09Body (con_cons ce_spec_l01Below (con_cons ce_spec_l01PickInt con_nil))) Tryz.func39 ke_spec_l09Any (by kernel_rfl) (λ _=>by kernel_rfl) (λ _=>by kernel_rfl) rfl
theorem ce_spec_l15Body:CO e_spec_l15Body:=fnc (λ _=>con_cons ce_spec_l01Below (con_cons ce_spec_l04Int (con_cons ce_spec_l01PickInt (con_cons ce_spec_l09Body (con_cons ce_spec_l01Once (con_cons ce_spec_l09Any con_nil)))))) Tryz.func28 ke_spec_l15Body (by kernel_rfl) (λ _=>by kernel_rfl) (λ _=>by kernel_rfl) rfl
theorem ce_spec_l08Names:CO e_spec_l08Names:=fnc (λ _=>con_nil) Tryz.func122 ke_spec_l08Names (by kernel_rfl) (λ _=>by kernel_rfl) (λ _=>by kernel_rfl) rfl
theorem ce_spec_l01In:CO e_spec_l01In:=fnc (λ _=>con_nil) Tryz.func41 ke_spec_l01In (by kernel_rfl) (λ _=>by kernel_rfl) (λ _=>by kernel_rfl) rfl
theorem ce_spec_PrimName:CO e_spec_PrimName:=fnc (λ _=>con_cons ce_spec_l08Names (con_cons ce_spec_l01In con_nil)) Tryz.func99 ke_spec_PrimName (by kernel_rfl) (λ _=>by kernel_rfl) (λ _=>by kernel_rfl) rfl
theorem ce_spec_l09Op:CO e_spec_l09Op:=fnc (λ _=>con_cons ce_spec_PrimName (con_cons ce_spec_l01In con_nil)) Tryz.func56 ke_spec_l09Op (by kernel_rfl) (λ _=>by kernel_rfl) (λ _=>by kernel_rfl) rfl
theorem ce_spec_l09Open:CO e_spec_l09Open:=fnc (λ _=>con_nil) Tryz.func57 ke_spec_l09Open (by kernel_rfl) (λ _=>by kernel_rfl) (λ _=>by kernel_rfl) rfl
theorem ce_spec_ShapeOk:CO e_spec_ShapeOk:=fnc (λ _=>con_cons ce_spec_l09Op (con_cons ce_spec_l09Open con_nil)) Tryz.func21 ke_spec_ShapeOk (by kernel_rfl) (λ _=>by kernel_rfl) (λ _=>by kernel_rfl) rfl
theorem ce_spec_DrawSimpleOf:CO e_spec_DrawSimpleOf:=fnc (λ _=>con_cons ce_spec_l01New (con_cons ce_spec_l09Make (con_cons ce_spec_l15Body (con_cons ce_spec_l01Once (con_cons ce_spec_ShapeOk con_nil))))) Tryz.func7 ke_spec_DrawSimpleOf (by kernel_rfl) (λ _=>by kernel_rfl) (λ _=>by kernel_rfl) rfl
theorem ce_impl_letters:CO e_impl_letters:=fnc (λ _=>con_nil) Tryz.func111 ke_impl_letters (by kernel_rfl) (λ _=>by kernel_rfl) (λ _=>by kernel_rfl) rfl
theorem ce_ibytealg_IndexByteString:ConOk Tryz.prog e_ibytealg_IndexByteString:=fe_ibytealg_IndexByteString
theorem ce_istringslite_IndexByte:CO e_istringslite_IndexByte:=fnc (λ _=>con_cons ce_ibytealg_IndexByteString con_nil) Tryz.func125 ke_istringslite_IndexByte (by kernel_rfl) (λ _=>by kernel_rfl) (λ _=>by kernel_rfl) rfl
theorem ce_strings_IndexByte:CO e_strings_IndexByte:=fnc (λ _=>con_cons ce_istringslite_IndexByte con_nil) Tryz.func110 ke_strings_IndexByte (by kernel_rfl) (λ _=>by kernel_rfl) (λ _=>by kernel_rfl) rfl
theorem ce_impl_LetterOf:CO e_impl_LetterOf:=fnc (λ _=>con_cons ce_impl_letters (con_cons ce_strings_IndexByte con_nil)) Tryz.func70 ke_impl_LetterOf (by kernel_rfl) (λ _=>by kernel_rfl) (λ _=>by kernel_rfl) rfl
theorem ce_impl_NameOk:CO e_impl_NameOk:=fnc (λ _=>con_cons ce_impl_LetterOf (con_cons ce_impl_within con_nil)) Tryz.func34 ke_impl_NameOk (by kernel_rfl) (λ _=>by kernel_rfl) (λ _=>by kernel_rfl) rfl
theorem ce_impl_opOk:CO e_impl_opOk:=fnc (λ _=>con_cons ce_impl_PrimName (con_cons ce_impl_within con_nil)) Tryz.func112 ke_impl_opOk (by kernel_rfl) (λ _=>by kernel_rfl) (λ _=>by kernel_rfl) rfl
theorem ce_impl_openIn:CO e_impl_openIn:=fnc (λ _=>con_cons ce_impl_opOk con_nil) Tryz.func71 ke_impl_openIn (by kernel_rfl) (λ _=>by kernel_rfl) (λ _=>by kernel_rfl) rfl
theorem ce_impl_ShapeOk:CO e_impl_ShapeOk:=fnc (λ _=>con_cons ce_impl_openIn con_nil) Tryz.func35 ke_impl_ShapeOk (by kernel_rfl) (λ _=>by kernel_rfl) (λ _=>by kernel_rfl) rfl
theorem ce_impl_callsBelowc1:CO e_impl_callsBelowc1:=fnc (λ _=>con_nil) Tryz.func73 ke_impl_callsBelowc1 (by kernel_rfl) (λ _=>by kernel_rfl) (λ _=>by kernel_rfl) rfl
theorem ce_slices_IndexFunc_Op_impl_callsBelowc1:CO e_slices_IndexFunc_Op_impl_callsBelowc1:=fnc (λ _=>con_cons ce_impl_callsBelowc1 con_nil) Tryz.func113 ke_slices_IndexFunc_Op_impl_callsBelowc1 (by kernel_rfl) (λ _=>by kernel_rfl) (λ _=>by kernel_rfl) rfl
theorem ce_slices_ContainsFunc_Op_impl_callsBelowc1:CO e_slices_ContainsFunc_Op_impl_callsBelowc1:=fnc (λ _=>con_cons ce_slices_IndexFunc_Op_impl_callsBelowc1 con_nil) Tryz.func72 ke_slices_ContainsFunc_Op_impl_callsBelowc1 (by kernel_rfl) (λ _=>by kernel_rfl) (λ _=>by kernel_rfl) rfl
theorem ce_impl_callsBelow:CO e_impl_callsBelow:=fnc (λ _=>con_cons ce_slices_ContainsFunc_Op_impl_callsBelowc1 con_nil) Tryz.func36 ke_impl_callsBelow (by kernel_rfl) (λ _=>by kernel_rfl) (λ _=>by kernel_rfl) rfl
theorem ce_impl_DefsOkc1:CO e_impl_DefsOkc1:=fnc (λ _=>con_cons ce_impl_NameOk (con_cons ce_impl_ShapeOk (con_cons ce_impl_callsBelow con_nil))) Tryz.func33 ke_impl_DefsOkc1 (by kernel_rfl) (λ _=>by kernel_rfl) (λ _=>by kernel_rfl) rfl
theorem ce_slices_IndexFunc_Def_impl_DefsOkc1:CO e_slices_IndexFunc_Def_impl_DefsOkc1:=fnc (λ _=>con_cons ce_impl_DefsOkc1 con_nil) Tryz.func69 ke_slices_IndexFunc_Def_impl_DefsOkc1 (by kernel_rfl) (λ _=>by kernel_rfl) (λ _=>by kernel_rfl) rfl
theorem ce_slices_ContainsFunc_Def_impl_DefsOkc1:CO e_slices_ContainsFunc_Def_impl_DefsOkc1:=fnc (λ _=>con_cons ce_slices_IndexFunc_Def_impl_DefsOkc1 con_nil) Tryz.func32 ke_slices_ContainsFunc_Def_impl_DefsOkc1 (by kernel_rfl) (λ _=>by kernel_rfl) (λ _=>by kernel_rfl) rfl
theorem ce_impl_DefsOk:CO e_impl_DefsOk:=fnc (λ _=>con_cons ce_slices_ContainsFunc_Def_impl_DefsOkc1 con_nil) Tryz.func10 ke_impl_DefsOk (by kernel_rfl) (λ _=>by kernel_rfl) (λ _=>by kernel_rfl) rfl
theorem ce_impl_grow_r:∀ kk,CO (e_impl_grow_r kk)
 | 0=>λ _ _ _ h=>nomatch h
 | kk+1=>fnc (λ _=>con_cons (ce_impl_grow_r kk) con_nil) Tryz.func84 (ke_impl_grow kk) (by kernel_rfl) (λ _=>by kernel_rfl) (λ _=>by kernel_rfl) rfl
theorem ce_impl_grow:CO e_impl_grow:=ce_impl_grow_r bigK
theorem ce_impl_TreeOf:CO e_impl_TreeOf:=fnc (λ _=>con_cons ce_impl_ShapeOk (con_cons ce_impl_grow con_nil)) Tryz.func46 ke_impl_TreeOf (by kernel_rfl) (λ _=>by kernel_rfl) (λ _=>by kernel_rfl) rfl
theorem ce_impl_pruned_imm_r:∀ kk,CO (e_impl_pruned_imm_r kk)
 | 0=>λ _ _ _ h=>nomatch h
 | kk+1=>fnc (λ _=>con_cons (ce_impl_pruned_imm_r kk) con_nil) Tryz.func67 (ke_impl_pruned_imm kk) (by kernel_rfl) (λ _=>by kernel_rfl) (λ _=>by kernel_rfl) rfl
theorem ce_impl_pruned_imm:CO e_impl_pruned_imm:=ce_impl_pruned_imm_r bigK
theorem ce_impl_pruned:CO e_impl_pruned:=fnc (λ _=>con_cons ce_impl_pruned_imm con_nil) Tryz.func67 ke_impl_pruned (by kernel_rfl) (λ _=>by kernel_rfl) (λ _=>by kernel_rfl) rfl
theorem ce_impl_flat_r:∀ kk,CO (e_impl_flat_r kk)
 | 0=>λ _ _ _ h=>nomatch h
 | kk+1=>fnc (λ _=>con_cons (ce_impl_flat_r kk) con_nil) Tryz.func108 (ke_impl_flat kk) (by kernel_rfl) (λ _=>by kernel_rfl) (λ _=>by kernel_rfl) rfl
theorem ce_impl_flat:CO e_impl_flat:=ce_impl_flat_r bigK
theorem ce_impl_flat_emp:CO e_impl_flat_emp:=fnc (λ _=>con_cons ce_impl_flat con_nil) Tryz.func108 ke_impl_flat_emp (by kernel_rfl) (λ _=>by kernel_rfl) (λ _=>by kernel_rfl) rfl
theorem ce_impl_FlatOf:CO e_impl_FlatOf:=fnc (λ _=>con_cons ce_impl_flat_emp (con_cons ce_impl_ShapeOk con_nil)) Tryz.func66 ke_impl_FlatOf (by kernel_rfl) (λ _=>by kernel_rfl) (λ _=>by kernel_rfl) rfl
theorem ce_impl_prune:CO e_impl_prune:=fnc (λ _=>con_cons ce_impl_TreeOf (con_cons ce_impl_pruned (con_cons ce_impl_FlatOf con_nil))) Tryz.func30 ke_impl_prune (by kernel_rfl) (λ _=>by kernel_rfl) (λ _=>by kernel_rfl) rfl
theorem ce_slices_Clone_Op:ConOk Tryz.prog e_slices_Clone_Op:=fe_slices_Clone_Op
theorem ce_impl_foldedc1:CO e_impl_foldedc1:=fnc (λ _=>con_nil) Tryz.func87 ke_impl_foldedc1 (by kernel_rfl) (λ _=>by kernel_rfl) (λ _=>by kernel_rfl) rfl
theorem ce_slices_Index_string:CO e_slices_Index_string:=fnc (λ _=>con_nil) Tryz.func133 ke_slices_Index_string (by kernel_rfl) (λ _=>by kernel_rfl) (λ _=>by kernel_rfl) rfl
theorem ce_slices_Contains_string:CO e_slices_Contains_string:=fnc (λ _=>con_cons ce_slices_Index_string con_nil) Tryz.func118 ke_slices_Contains_string (by kernel_rfl) (λ _=>by kernel_rfl) (λ _=>by kernel_rfl) rfl
theorem ce_impl_isPrim:CO e_impl_isPrim:=fnc (λ _=>con_cons ce_impl_PrimName (con_cons ce_slices_Contains_string con_nil)) Tryz.func90 ke_impl_isPrim (by kernel_rfl) (λ _=>by kernel_rfl) (λ _=>by kernel_rfl) rfl
theorem ce_impl_foldedc2:CO e_impl_foldedc2:=fnc (λ _=>con_cons ce_impl_result con_nil) Tryz.func88 ke_impl_foldedc2 (by kernel_rfl) (λ _=>by kernel_rfl) (λ _=>by kernel_rfl) rfl
theorem ce_impl_folded:CO e_impl_folded:=fnc (λ _=>con_cons ce_impl_foldedc1 (con_cons ce_impl_isPrim (con_cons ce_impl_PrimName (con_cons ce_impl_foldedc2 con_nil)))) Tryz.func53 ke_impl_folded (by kernel_rfl) (λ _=>by kernel_rfl) (λ _=>by kernel_rfl) rfl
theorem ce_slices_Replace_Op:ConOk Tryz.prog e_slices_Replace_Op:=fe_slices_Replace_Op
theorem ce_impl_Fold_imm:CO e_impl_Fold_imm:=fnc (λ _=>con_cons ce_impl_ShapeOk (con_cons ce_slices_Clone_Op (con_cons ce_impl_folded (con_cons ce_slices_Replace_Op con_nil)))) Tryz.func17 ke_impl_Fold_imm (by kernel_rfl) (λ _=>by kernel_rfl) (λ _=>by kernel_rfl) rfl
theorem ce_spec_l02All:CO e_spec_l02All:=fnc (λ _=>con_nil) Tryz.func109 ke_spec_l02All (by kernel_rfl) (λ _=>by kernel_rfl) (λ _=>by kernel_rfl) rfl
theorem ce_spec_LetterOf:CO e_spec_LetterOf:=fnc (λ _=>con_cons ce_spec_l02All con_nil) Tryz.func68 ke_spec_LetterOf (by kernel_rfl) (λ _=>by kernel_rfl) (λ _=>by kernel_rfl) rfl
theorem ce_spec_NameOk:CO e_spec_NameOk:=fnc (λ _=>con_cons ce_spec_l01In (con_cons ce_spec_LetterOf con_nil)) Tryz.func31 ke_spec_NameOk (by kernel_rfl) (λ _=>by kernel_rfl) (λ _=>by kernel_rfl) rfl
theorem ce_spec_DefsOk:CO e_spec_DefsOk:=fnc (λ _=>con_cons ce_spec_NameOk (con_cons ce_spec_ShapeOk con_nil)) Tryz.func9 ke_spec_DefsOk (by kernel_rfl) (λ _=>by kernel_rfl) (λ _=>by kernel_rfl) rfl
theorem ce_impl_SimpleOf_hand:CO e_impl_SimpleOf_hand:=fnc (λ _=>con_cons ce_impl_DefsOk (con_cons ce_impl_prune (con_cons ce_impl_Fold_imm con_nil))) Tryz.func8 ke_impl_SimpleOf_hand (by kernel_rfl) (λ _=>by kernel_rfl) (λ _=>by kernel_rfl) rfl
theorem ce_spec_NewStore:CO e_spec_NewStore:=fnc (λ _=>con_cons ce_spec_l01In con_nil) Tryz.func114 ke_spec_NewStore (by kernel_rfl) (λ _=>by kernel_rfl) (λ _=>by kernel_rfl) rfl
theorem ce_spec_LetterAt:CO e_spec_LetterAt:=fnc (λ _=>con_cons ce_spec_l01In (con_cons ce_spec_l02All con_nil)) Tryz.func166 ke_spec_LetterAt (by kernel_rfl) (λ _=>by kernel_rfl) (λ _=>by kernel_rfl) rfl
theorem ce_spec_l02Name:CO e_spec_l02Name:=fnc (λ _=>con_cons ce_spec_l01Once (con_cons ce_spec_l01Pick (con_cons ce_spec_l01Below (con_cons ce_spec_LetterAt con_nil)))) Tryz.func151 ke_spec_l02Name (by kernel_rfl) (λ _=>by kernel_rfl) (λ _=>by kernel_rfl) rfl
theorem ce_spec_l04Some:CO e_spec_l04Some:=fnc (λ _=>con_cons ce_spec_l01Below (con_cons ce_spec_l04Int (con_cons ce_spec_l01Once (con_cons ce_spec_l01Pick (con_cons ce_spec_l02Name con_nil))))) Tryz.func127 ke_spec_l04Some (by kernel_rfl) (λ _=>by kernel_rfl) (λ _=>by kernel_rfl) rfl
theorem ce_spec_l04Num:CO e_spec_l04Num:=fnc (λ _=>con_nil) Tryz.func148 ke_spec_l04Num (by kernel_rfl) (λ _=>by kernel_rfl) (λ _=>by kernel_rfl) rfl
theorem ce_spec_WidthOf:CO e_spec_WidthOf:=fnc (λ _=>con_cons ce_spec_l01In con_nil) Tryz.func177 ke_spec_WidthOf (by kernel_rfl) (λ _=>by kernel_rfl) (λ _=>by kernel_rfl) rfl
theorem ce_spec_BitsOf:CO e_spec_BitsOf:=fnc (λ _=>con_cons ce_spec_WidthOf con_nil) Tryz.func178 ke_spec_BitsOf (by kernel_rfl) (λ _=>by kernel_rfl) (λ _=>by kernel_rfl) rfl
theorem ce_spec_l03One:CO e_spec_l03One:=fnc (λ _=>con_cons ce_spec_LetterOf (con_cons ce_spec_WidthOf (con_cons ce_spec_BitsOf con_nil))) Tryz.func173 ke_spec_l03One (by kernel_rfl) (λ _=>by kernel_rfl) (λ _=>by kernel_rfl) rfl
theorem ce_spec_Pack:CO e_spec_Pack:=fnc (λ _=>con_cons ce_spec_NameOk (con_cons ce_spec_l03One con_nil)) Tryz.func165 ke_spec_Pack (by kernel_rfl) (λ _=>by kernel_rfl) (λ _=>by kernel_rfl) rfl
theorem ce_spec_l04Word:CO e_spec_l04Word:=fnc (λ _=>con_cons ce_spec_Pack con_nil) Tryz.func149 ke_spec_l04Word (by kernel_rfl) (λ _=>by kernel_rfl) (λ _=>by kernel_rfl) rfl
theorem ce_spec_l04Tag:CO e_spec_l04Tag:=fnc (λ _=>con_nil) Tryz.func150 ke_spec_l04Tag (by kernel_rfl) (λ _=>by kernel_rfl) (λ _=>by kernel_rfl) rfl
theorem ce_spec_CellsOf:CO e_spec_CellsOf:=fnc (λ _=>con_cons ce_spec_l04Num (con_cons ce_spec_l04Word (con_cons ce_spec_l04Tag con_nil))) Tryz.func126 ke_spec_CellsOf (by kernel_rfl) (λ _=>by kernel_rfl) (λ _=>by kernel_rfl) rfl
theorem ce_spec_l01Word:CO e_spec_l01Word:=fnc (λ _=>con_cons ce_spec_l01Below (con_cons ce_spec_l01PickInt con_nil)) Tryz.func128 ke_spec_l01Word (by kernel_rfl) (λ _=>by kernel_rfl) (λ _=>by kernel_rfl) rfl
theorem ce_spec_l04Cells:CO e_spec_l04Cells:=fnc (λ _=>con_cons ce_spec_l01Below (con_cons ce_spec_l04Some (con_cons ce_spec_CellsOf (con_cons ce_spec_l01Word (con_cons ce_spec_l01PickInt (con_cons ce_spec_l01Once con_nil)))))) Tryz.func115 ke_spec_l04Cells (by kernel_rfl) (λ _=>by kernel_rfl) (λ _=>by kernel_rfl) rfl
theorem ce_spec_l05Make:CO e_spec_l05Make:=fnc (λ _=>con_cons ce_spec_l01Below (con_cons ce_spec_NewStore (con_cons ce_spec_l04Cells con_nil))) Tryz.func75 ke_spec_l05Make (by kernel_rfl) (λ _=>by kernel_rfl) (λ _=>by kernel_rfl) rfl
theorem ce_spec_StoreOk:CO e_spec_StoreOk:=fnc (λ _=>con_nil) Tryz.func42 ke_spec_StoreOk (by kernel_rfl) (λ _=>by kernel_rfl) (λ _=>by kernel_rfl) rfl
theorem ce_spec_NewSt:CO e_spec_NewSt:=fnc (λ _=>con_cons ce_spec_StoreOk (con_cons ce_spec_l01In con_nil)) Tryz.func74 ke_spec_NewSt (by kernel_rfl) (λ _=>by kernel_rfl) (λ _=>by kernel_rfl) rfl
theorem ce_spec_l08First:CO e_spec_l08First:=fnc (λ _=>con_nil) Tryz.func76 ke_spec_l08First (by kernel_rfl) (λ _=>by kernel_rfl) (λ _=>by kernel_rfl) rfl
theorem ce_spec_l08Make:CO e_spec_l08Make:=fnc (λ _=>con_cons ce_spec_l05Make (con_cons ce_spec_l01Pick (con_cons ce_spec_l01Below (con_cons ce_spec_NewSt (con_cons ce_spec_l01Once (con_cons ce_spec_l04Int (con_cons ce_spec_l01PickInt (con_cons ce_spec_l08First con_nil)))))))) Tryz.func37 ke_spec_l08Make (by kernel_rfl) (λ _=>by kernel_rfl) (λ _=>by kernel_rfl) rfl
theorem ce_spec_l08Any:CO e_spec_l08Any:=fnc (λ _=>con_cons ce_spec_l08Make (con_cons ce_spec_l01Below (con_cons ce_spec_l01PickInt con_nil))) Tryz.func38 ke_spec_l08Any (by kernel_rfl) (λ _=>by kernel_rfl) (λ _=>by kernel_rfl) rfl
theorem ce_spec_l09Any_imm:CO e_spec_l09Any_imm:=fnc (λ _=>con_cons ce_spec_l09Body (con_cons ce_spec_l01Below (con_cons ce_spec_l01PickInt con_nil))) Tryz.func39 ke_spec_l09Any_imm (by kernel_rfl) (λ _=>by kernel_rfl) (λ _=>by kernel_rfl) rfl
theorem ce_spec_DrawMeans:CO e_spec_DrawMeans:=fnc (λ _=>con_cons ce_spec_l01New (con_cons ce_spec_l09Make (con_cons ce_spec_l08Make (con_cons ce_spec_l01Once (con_cons ce_spec_l08Any (con_cons ce_spec_l09Any_imm (con_cons ce_spec_l01Below con_nil))))))) Tryz.func11 ke_spec_DrawMeans (by kernel_rfl) (λ _=>by kernel_rfl) (λ _=>by kernel_rfl) rfl
theorem ce_spec_StOk:CO e_spec_StOk:=fnc (λ _=>con_cons ce_spec_l01In (con_cons ce_spec_StoreOk con_nil)) Tryz.func12 ke_spec_StOk (by kernel_rfl) (λ _=>by kernel_rfl) (λ _=>by kernel_rfl) rfl
theorem ce_impl_StoreOk:CO e_impl_StoreOk:=fnc (λ _=>con_nil) Tryz.func116 ke_impl_StoreOk (by kernel_rfl) (λ _=>by kernel_rfl) (λ _=>by kernel_rfl) rfl
theorem ce_impl_StOk:CO e_impl_StOk:=fnc (λ _=>con_cons ce_impl_StoreOk (con_cons ce_impl_within (con_cons ce_slices_Contains_int con_nil))) Tryz.func78 ke_impl_StOk (by kernel_rfl) (λ _=>by kernel_rfl) (λ _=>by kernel_rfl) rfl
theorem ce_impl_goes:CO e_impl_goes:=fnc (λ _=>con_cons ce_impl_StOk con_nil) Tryz.func44 ke_impl_goes (by kernel_rfl) (λ _=>by kernel_rfl) (λ _=>by kernel_rfl) rfl
theorem ce_impl_TreeOf_imm:CO e_impl_TreeOf_imm:=fnc (λ _=>con_cons ce_impl_ShapeOk (con_cons ce_impl_grow con_nil)) Tryz.func46 ke_impl_TreeOf_imm (by kernel_rfl) (λ _=>by kernel_rfl) (λ _=>by kernel_rfl) rfl
theorem ce_impl_Means:CO e_impl_Means:=fnc (λ _=>con_cons ce_impl_DefsOk (con_cons ce_impl_within (con_cons ce_impl_goes (con_cons ce_impl_ownSt (con_cons ce_impl_TreeOf_imm (con_cons ce_impl_meaning_enter con_nil)))))) Tryz.func13 ke_impl_Means (by kernel_rfl) (λ _=>by kernel_rfl) (λ _=>by kernel_rfl) rfl
theorem ce_laws_sameNums:CO e_laws_sameNums:=fnc (λ _=>con_nil) Tryz.func48 ke_laws_sameNums (by kernel_rfl) (λ _=>by kernel_rfl) (λ _=>by kernel_rfl) rfl
theorem ce_laws_sameCells:CO e_laws_sameCells:=fnc (λ _=>con_nil) Tryz.func49 ke_laws_sameCells (by kernel_rfl) (λ _=>by kernel_rfl) (λ _=>by kernel_rfl) rfl
theorem ce_laws_sameInts:CO e_laws_sameInts:=fnc (λ _=>con_nil) Tryz.func50 ke_laws_sameInts (by kernel_rfl) (λ _=>by kernel_rfl) (λ _=>by kernel_rfl) rfl
theorem ce_laws_sameBytes:CO e_laws_sameBytes:=fnc (λ _=>con_nil) Tryz.func51 ke_laws_sameBytes (by kernel_rfl) (λ _=>by kernel_rfl) (λ _=>by kernel_rfl) rfl
theorem ce_laws_sameBut:CO e_laws_sameBut:=fnc (λ _=>con_cons ce_laws_sameNums (con_cons ce_laws_sameCells (con_cons ce_laws_sameInts (con_cons ce_laws_sameBytes con_nil)))) Tryz.func14 ke_laws_sameBut (by kernel_rfl) (λ _=>by kernel_rfl) (λ _=>by kernel_rfl) rfl
theorem ce_laws_sameRet:CO e_laws_sameRet:=fnc (λ _=>con_nil) Tryz.func15 ke_laws_sameRet (by kernel_rfl) (λ _=>by kernel_rfl) (λ _=>by kernel_rfl) rfl
theorem ce_laws_FnSimple:CO e_laws_FnSimple:=fnc (λ _=>con_cons ce_laws_big (con_cons ce_spec_DrawSimpleOf (con_cons ce_impl_SimpleOf_hand (con_cons ce_spec_DefsOk (con_cons ce_impl_DefsOk (con_cons ce_spec_DrawMeans (con_cons ce_spec_StOk (con_cons ce_impl_Means (con_cons ce_laws_sameBut (con_cons ce_laws_sameRet con_nil)))))))))) Tryz.func3 ke_laws_FnSimple (by kernel_rfl) (λ _=>by kernel_rfl) (λ _=>by kernel_rfl) rfl
end Go.Proofs.YtmedombacbpofaaGreatDoor

namespace Go.Fm
theorem wI64 {x:Int} (h1 : -9223372036854775808<=x) (h2:x < 9223372036854775808):IntKind.wrap .i64 x=x:=by
 simp[IntKind.wrap,IntKind.bits,IntKind.signed];omega
theorem wI32 {x:Int} (h1 : -2147483648<=x) (h2:x < 2147483648):IntKind.wrap .i32 x=x:=by
 simp[IntKind.wrap,IntKind.bits,IntKind.signed];omega
theorem wU32_bd (x:Int):0<=IntKind.wrap .u32 x/\IntKind.wrap .u32 x < 4294967296:=by
 simp[IntKind.wrap,IntKind.bits,IntKind.signed];omega
theorem wI32_bd (x:Int) : -2147483648<=IntKind.wrap .i32 x/\IntKind.wrap .i32 x < 2147483648:=by
 simp[IntKind.wrap,IntKind.bits,IntKind.signed];omega
theorem getI_ex {α:Type} {xs:List α} {i:Int} (h0:0<=i) (h1:i < xs.length):∃ x,getI xs i=some x/\x ∈ xs/\xs[i.toNat]? = some x:=by
 have hi:i.toNat < xs.length:=by omega
 unfold getI
 rw[if_pos h0,List.getElem?_eq_getElem hi]
 exact ⟨_,rfl,List.getElem_mem hi,rfl⟩
theorem getI_nat {α:Type} {xs:List α} {i:Nat}:getI xs (i:Int)=xs[i]? := by
 unfold getI;rw[if_pos (Int.natCast_nonneg i)];rfl
theorem idxS_ex {l:List UInt8} {i:Int} (h0:0<=i) (h1:i < l.length):∃ v,idxS l i=some v/\0<=v/\v < 256/\∃ b ∈ l,v=(b.toNat:Int):=by
 unfold idxS
 rw[if_pos ⟨h0,h1⟩]
 have hi:i.toNat < l.length:=by omega
 refine ⟨_,rfl,Int.natCast_nonneg _,?_,l[i.toNat],List.getElem_mem hi,?_⟩
 ·have:=UInt8.toNat_lt (l.getD i.toNat 0);omega
 ·rw[List.getD_eq_getElem?_getD,List.getElem?_eq_getElem hi];rfl
theorem app_eq {α:Type} {xs ys:List α} (h:xs.length+ys.length<=4294967296):app xs ys=some (xs++ys):=by
 unfold app
 rw[if_pos (by rw[List.length_append];exact h)]
theorem subL_eq {α:Type} {xs:List α} {a b:Int} (h0:0<=a) (h1:a<=b) (h2:b<=xs.length):subL xs a b=some ((xs.drop a.toNat).take (b.toNat-a.toNat)):=by
 unfold subL;rw[if_pos ⟨h0,h1,h2⟩]
theorem subL_drop {α:Type} {xs:List α} {a:Int} (h0:0<=a) (h2:a<=xs.length):subL xs a xs.length=some (xs.drop a.toNat):=by
 rw[subL_eq h0 h2 (Int.le_refl _),List.take_of_length_le]
 rw[List.length_drop];omega
theorem subL_take {α:Type} {xs:List α} {b:Int} (h0:0<=b) (h2:b<=xs.length):subL xs 0 b=some (xs.take b.toNat):=by
 rw[subL_eq (Int.le_refl _) h0 h2];rfl
theorem mk_eq {α:Type} {z:α} {n:Int} (h0:0<=n) (h1:n<=4294967296):mk z n=some (List.replicate n.toNat z):=by
 unfold mk;rw[if_pos ⟨h0,h1⟩]
theorem catS_eq {a b:List UInt8} (h:a.length+b.length < 4611686018427387904):catS a b=some (a++b):=by
 unfold catS;rw[if_pos h]
theorem remI_ex {k:IntKind} {a b:Int} (h0:0<=a) (hb:0 < b):remI k a b=some (a % b)/\0<=a % b/\a % b < b:=by
 unfold remI
 rw[if_neg (by omega),Int.tmod_eq_emod_of_nonneg h0]
 exact ⟨rfl,Int.emod_nonneg _ (by omega),Int.emod_lt_of_pos _ hb⟩
theorem bB_toNat {k:IntKind} {a:Int} (h0:0<=a) (h1:a < 2 ^ k.bits):(bytesB k a).toNat=a.toNat:=by
 unfold bytesB
 rw[BitVec.toNat_ofInt,Int.emod_eq_of_lt h0]
 simpa using h1
theorem wrap_small {k:IntKind} {n:Nat} (h:n < 2 ^ (k.bits-1)):k.wrap n=n:=by
 unfold IntKind.wrap
 have hb:2 ^ (k.bits-1)<=2 ^ k.bits:=Nat.pow_le_pow_right (by decide) (Nat.sub_le _ _)
 have h1:(n:Int) < ((2 ^ k.bits:Nat):Int):=Int.ofNat_lt.2 (Nat.lt_of_lt_of_le h hb)
 have h2:(n:Int) < ((2 ^ (k.bits-1):Nat):Int):=Int.ofNat_lt.2 h
 simp only[Int.natCast_pow,Int.cast_ofNat_Int]at h1 h2
 have e:(n:Int) % (2 ^ k.bits:Int)=n:=Int.emod_eq_of_lt (Int.natCast_nonneg _) h1
 simp only[e]
 rw[if_neg]
 intro hc
 rw[Bool.and_eq_true,decide_eq_true_eq]at hc
 have h3:=hc.2
 omega
theorem and_le {k:IntKind} {a b:Int} (h0:0<=b) (h1:b < 2 ^ (k.bits-1)):0<=andI k a b/\andI k a b<=b:=by
 unfold andI
 have hb:(bytesB k b).toNat=b.toNat:=bB_toNat h0 (Int.lt_of_lt_of_le h1 (by
  have:((2 ^ (k.bits-1):Nat):Int)<=((2 ^ k.bits:Nat):Int):=Int.ofNat_le.2 (Nat.pow_le_pow_right (by decide) (Nat.sub_le _ _))
  simpa only[Int.natCast_pow,Int.cast_ofNat_Int] using this))
 have hle:(bytesB k a &&& bytesB k b).toNat<=b.toNat:=by
  rw[BitVec.toNat_and,hb];exact Nat.and_le_right
 have hlt:(bytesB k a &&& bytesB k b).toNat < 2 ^ (k.bits-1):=by
  refine Nat.lt_of_le_of_lt hle ?_
  have:(b.toNat:Int) < ((2 ^ (k.bits-1):Nat):Int):=by rw[Int.toNat_of_nonneg h0];simpa only[Int.natCast_pow,Int.cast_ofNat_Int] using h1
  exact Int.ofNat_lt.1 this
 rw[wrap_small hlt]
 omega
def Tot {α:Type} (o:Option α) (Q:α->Prop):Prop:=∃ a,o=some a/\Q a
section
variable {α β:Type} {Q Q':α->Prop} {R:β->Prop}
theorem Tot.some {a:α} (h:Q a):Tot (some a) Q:=⟨a,rfl,h⟩
theorem Tot.bind {o:Option α} {f:α->Option β} (h:Tot o Q) (hf:∀ a,Q a->Tot (f a) R):Tot (o.bind f) R:=by
 obtain ⟨a,rfl,ha⟩:=h;exact hf a ha
theorem Tot.bindE {o:Option α} {f:α->Option β} {a:α} (h:o=.some a) (hf:Tot (f a) R):Tot (o.bind f) R:=by subst h;exact hf
theorem Tot.cond {c:Bool} {x y:Option α} (h1:c=true->Tot x Q) (h2:c=false->Tot y Q):Tot (cond c x y) Q:=by
 cases c with
 | true=>exact h1 rfl
 | false=>exact h2 rfl
theorem Tot.condD {p:Prop} [Decidable p] {x y:Option α} (h1:p->Tot x Q) (h2:¬ p->Tot y Q):Tot (_root_.cond (decide p) x y) Q :=
 .cond (λ h=>h1 (of_decide_eq_true h)) (λ h=>h2 (of_decide_eq_false h))
end
end Go.Fm
namespace Go.Fm
theorem nxt {n:Nat} (h:n < 16777216):IntKind.wrap .i64 ((n:Int)+1)=((n+1:Nat):Int):=by rw[wI64 (by omega) (by omega)];omega
theorem flipC {α:Type} (b:Bool) (x y:Option α):cond (!b) x y=cond b y x:=by cases b<;>rfl
def allN {α:Type} (p:Nat->α->Bool):Nat->List α->Bool
 | _,[]=>true
 | n,x::r=>p n x&&allN p (n+1) r
theorem allN_const {α:Type} (p:α->Bool):∀ (n:Nat) (l:List α),allN (λ _=>p) n l=l.all p
 | n,[]=>rfl
 | n,x::r=>by simp only[allN,List.all_cons,allN_const p (n+1) r]
theorem allLoop {α β:Type} {L:List α} {bad:β} (p:Nat->α->Bool) (F:Nat->Int->Option (Unit ⊕ β)) (step:∀ (k n:Nat) (x:α),L[n]? = some x->n < L.length->F (k+1) n=cond (p n x) (F k ((n+1:Nat):Int)) (some (.inr bad)))
  (fin:∀ k n:Nat,L.length<=n->F (k+1) n=some (.inl ())) (hm:L.length<=16777216):F bigK 0=some (cond (allN p 0 L) (.inl ()) (.inr bad)):=by
 have key:∀ (k n:Nat),n<=L.length->L.length-n < k->F k n=some (cond (allN p n (L.drop n)) (.inl ()) (.inr bad)):=by
  intro k
  induction k with
  | zero=>intro n h0 h1;omega
  | succ k ih =>
   intro n h0 h1
   by_cases hn:n < L.length
   ·rw[step k n L[n] (List.getElem?_eq_getElem hn) hn,List.drop_eq_getElem_cons hn]
    show _=some (cond (p n L[n]&&allN p (n+1) (L.drop (n+1))) _ _)
    cases p n L[n] with
    | false=>rfl
    | true=>rw[cond_true,ih (n+1) (by omega) (by omega),Bool.true_and]
   ·rw[fin k n (by omega),List.drop_eq_nil_of_le (by omega)];rfl
 have:=key bigK 0 (Nat.zero_le _) (by unfold bigK;omega)
 rw[List.drop_zero]at this
 exact this
theorem eqList {α:Type} [DecidableEq α] {a b:List α} (F:Nat->Int->Option (Unit ⊕ Bool)) (g:Option Bool) (hg:g=cond ((a.length:Int) != (b.length:Int)) (some false) (((F bigK 0).bind λ o=>match o with | .inl ()=>some (.inl ()) | .inr v=>some (.inr v):Option (Unit ⊕ Bool)).bind λ o=>match o with | .inl ()=>some true | .inr v=>some v))
  (hF:∀ (k:Nat) (i:Int),F (k+1) i=cond (decide (i < (a.length:Int))) ((getI a i).bind λ x=>(getI b i).bind λ y=>cond (!decide (x=y)) (some (.inr false)) (F k (IntKind.wrap .i64 (i+1)))) (some (.inl ()))) (hm:a.length<=1048576):g=some (decide (a=b)):=by
 rw[hg]
 by_cases hl:a.length=b.length
 ·have key:∀ (k n:Nat),n<=a.length->a.length-n < k->F k n=some (if a.drop n=b.drop n then .inl () else .inr false):=by
   intro k
   induction k with
   | zero=>intro n h0 h1;omega
   | succ k ih =>
    intro n h0 h1
    rw[hF]
    by_cases hn:n < a.length
    ·have hn':n < b.length:=by omega
     rw[decide_eq_true (by omega),getI_nat,getI_nat,List.getElem?_eq_getElem hn,List.getElem?_eq_getElem hn',List.drop_eq_getElem_cons hn,List.drop_eq_getElem_cons hn']
     simp only[cond_true,Option.bind_some]
     by_cases he:a[n]=b[n]
     ·rw[decide_eq_true he,Bool.not_true,cond_false,wI64 (by omega) (by omega),show ((n:Int)+1)=((n+1:Nat):Int) by omega,ih (n+1) (by omega) (by omega),he]
      simp only[List.cons.injEq,true_and]
     ·rw[decide_eq_false he,Bool.not_false,cond_true,if_neg (λ h=>he (List.cons.inj h).1)]
    ·rw[decide_eq_false (by omega),cond_false,List.drop_eq_nil_of_le (by omega),List.drop_eq_nil_of_le (by omega),if_pos rfl]
  have:((a.length:Int) != (b.length:Int))=false:=by rw[hl];simp
  rw[this,cond_false]
  have h:=key bigK 0 (Nat.zero_le _) (by unfold bigK;omega)
  rw[show ((0:Nat):Int)=0 from rfl]at h
  rw[h]
  by_cases he:a=b
  ·simp[he]
  ·simp[he]
 ·have:((a.length:Int) != (b.length:Int))=true:=by simp;omega
  rw[this,cond_true,decide_eq_false (λ h=>hl (by rw[h]))]
theorem eqRefl {α:Type} {a:List α} (F:Nat->Int->Option (Unit ⊕ Bool)) (f:Option Bool)
  (hf:f=cond ((a.length:Int) != (a.length:Int)) (some false) (((F bigK 0).bind λ o=>match o with | .inl ()=>some (.inl ()) | .inr v=>some (.inr v):Option (Unit ⊕ Bool)).bind λ o=>match o with | .inl ()=>some true | .inr v=>some v))
  (hs:∀ (k n:Nat) (x:α),a[n]? = some x->n < a.length->F (k+1) n=F k ((n+1:Nat):Int)) (he:∀ (k n:Nat),a.length<=n->F (k+1) n=some (.inl ())) (hm:a.length<=16777216):f=some true:=by
 have h:=allLoop (L:=a) (bad:=false) (λ _ _=>true) F (λ k n x hx hn=>by rw[hs k n x hx hn];rfl) he hm
 rw[hf,h]
 have e:∀ (n:Nat) (l:List α),allN (λ _ _=>true) n l=true:=λ n l=>by rw[allN_const (λ _=>true)];simp
 rw[e]
 simp
theorem bne_self' {α:Type} [BEq α] [LawfulBEq α] (x:α):(x != x)=false:=by simp
abbrev LN:Nat:=9223372036854775807
end Go.Fm
