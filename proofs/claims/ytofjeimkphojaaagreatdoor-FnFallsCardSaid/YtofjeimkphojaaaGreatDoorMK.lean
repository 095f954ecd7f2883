import Derived.Test.YtofjeimkphojaaaGreatDoorCS
import Derived.Shelf.Strconv.Itoa3
import Derived.Shelf.Strings.OnBuilder
import Derived.KernelRfl
set_option linter.all false
namespace Go.Proofs.YtofjeimkphojaaaGreatDoor
open Go Go.Fm
set_option maxRecDepth 100000
abbrev Bs:=List UInt8
structure GTree where
 Kind:Int
 N:Int
 Kids:List GTree
 deriving Inhabited
structure GSlot where
 Kind:Int
 N:Int
 deriving DecidableEq,Inhabited
structure GSt where
 Data:List Int
 Ret:List GSlot
 A:Int
 Mem:List Int
 Cells:List Int
 Vars:List Int
 Out:List Int
 In:List Int
 Fault:Int
 Fuel:Int
 deriving DecidableEq,Inhabited
structure GMeaning where
 trees:List (List GTree)
 st:GSt
 deriving Inhabited
structure GEffect where
 Ok:Bool
 Need:Int
 Most:Int
 Gain:Int
 deriving DecidableEq,Inhabited
structure GL01Cur where
 b:List Int
 i:Int
 h:Int
 deriving DecidableEq,Inhabited
structure GOp where
 Kind:Int
 N:Int
 deriving DecidableEq,Inhabited
structure GDef where
 Name:Bs
 Body:List GOp
 deriving DecidableEq,Inhabited
structure GStore where
 Cells:List Int
 deriving DecidableEq,Inhabited
structure GItem where
 Kind:Int
 Name:Bs
 N:Int
 Hex:Bool
 Raw:Int
 deriving DecidableEq,Inhabited
structure GIns where
 Op:Int
 N:Int
 deriving DecidableEq,Inhabited
structure GMach where
 St:GSt
 At:Int
 Done:Bool
 deriving DecidableEq,Inhabited
mutual
def GTree.cs:GTree->List CV
 | ⟨x_Kind,x_N,x_Kids⟩=>[.int .i64 x_Kind, .int .i32 x_N, .imm 3 x_Kids.length (GTree.css x_Kids)]
def GTree.css:List GTree->List CV
 | []=>[]
 | x::r=>GTree.cs x++GTree.css r
end
theorem GTree.css_eq:∀ l:List GTree,GTree.css l=l.flatMap GTree.cs
 | []=>rfl
 | x::r=>by rw[GTree.css,GTree.css_eq r];rfl
theorem GTree.cs_eq (x:GTree):x.cs=[.int .i64 x.Kind, .int .i32 x.N, .imm 3 x.Kids.length (x.Kids.flatMap GTree.cs)]:=by
 cases x;rw[GTree.cs];simp only[GTree.css_eq]
def GSlot.cs (x:GSlot):List CV:=[.int .i64 x.Kind, .int .i32 x.N]
def GMeaning.cs (x:GMeaning):List CV:=[.imm 1 x.trees.length (x.trees.flatMap (eL GTree.cs 3)), .imm 1 x.st.Data.length (x.st.Data.flatMap (eI .i32)), .imm 2 x.st.Ret.length (x.st.Ret.flatMap GSlot.cs), .int .i32 x.st.A, .imm 1 x.st.Mem.length (x.st.Mem.flatMap (eI .i32)), .imm 1 x.st.Cells.length (x.st.Cells.flatMap (eI .u32)), .imm 1 x.st.Vars.length (x.st.Vars.flatMap (eI .i64)), .imm 1 x.st.Out.length (x.st.Out.flatMap (eI .u8)), .imm 1 x.st.In.length (x.st.In.flatMap (eI .u8)), .int .i64 x.st.Fault, .int .i64 x.st.Fuel]
def GSt.cs (x:GSt):List CV:=[.imm 1 x.Data.length (x.Data.flatMap (eI .i32)), .imm 2 x.Ret.length (x.Ret.flatMap GSlot.cs), .int .i32 x.A, .imm 1 x.Mem.length (x.Mem.flatMap (eI .i32)), .imm 1 x.Cells.length (x.Cells.flatMap (eI .u32)), .imm 1 x.Vars.length (x.Vars.flatMap (eI .i64)), .imm 1 x.Out.length (x.Out.flatMap (eI .u8)), .imm 1 x.In.length (x.In.flatMap (eI .u8)), .int .i64 x.Fault, .int .i64 x.Fuel]
def GEffect.cs (x:GEffect):List CV:=[.bool x.Ok, .int .i64 x.Need, .int .i64 x.Most, .int .i64 x.Gain]
def GL01Cur.cs (x:GL01Cur):List CV:=[.imm 1 x.b.length (x.b.flatMap (eI .u8)), .int .i64 x.i, .int .i64 x.h]
def GOp.cs (x:GOp):List CV:=[.int .i64 x.Kind, .int .i32 x.N]
def GDef.cs (x:GDef):List CV:=[.str x.Name, .imm 2 x.Body.length (x.Body.flatMap GOp.cs)]
def GStore.cs (x:GStore):List CV:=[.imm 1 x.Cells.length (x.Cells.flatMap (eI .u32))]
def GItem.cs (x:GItem):List CV:=[.int .i64 x.Kind, .str x.Name, .int .i32 x.N, .bool x.Hex, .int .u32 x.Raw]
def GIns.cs (x:GIns):List CV:=[.int .i64 x.Op, .int .i64 x.N]
def GMach.cs (x:GMach):List CV:=[.imm 1 x.St.Data.length (x.St.Data.flatMap (eI .i32)), .imm 2 x.St.Ret.length (x.St.Ret.flatMap GSlot.cs), .int .i32 x.St.A, .imm 1 x.St.Mem.length (x.St.Mem.flatMap (eI .i32)), .imm 1 x.St.Cells.length (x.St.Cells.flatMap (eI .u32)), .imm 1 x.St.Vars.length (x.St.Vars.flatMap (eI .i64)), .imm 1 x.St.Out.length (x.St.Out.flatMap (eI .u8)), .imm 1 x.St.In.length (x.St.In.flatMap (eI .u8)), .int .i64 x.St.Fault, .int .i64 x.St.Fuel, .int .i64 x.At, .bool x.Done]
instance:StTy:=⟨λ n=>match n with|0=>GTree|1=>GMeaning|2=>GSt|3=>GSlot|4=>GEffect|5=>GL01Cur|6=>GOp|7=>GDef|8=>GStore|9=>GItem|10=>GIns|11=>GMach|_=>Unit,λ n=>match n with|0=>3|1=>11|2=>10|3=>2|4=>4|5=>3|6=>2|7=>2|8=>1|9=>5|10=>2|11=>12|_=>0,lkA [(33,2),(38,7),(40,6),(47,2),(49,11),(53,11),(91,3),(94,8),(101,1),(112,10),(114,10),(131,5),(183,0),(191,3),(211,9),(221,4)]⟩
noncomputable instance:StCs:=⟨λ n=>match n with|0=>GTree.cs|1=>GMeaning.cs|2=>GSt.cs|3=>GSlot.cs|4=>GEffect.cs|5=>GL01Cur.cs|6=>GOp.cs|7=>GDef.cs|8=>GStore.cs|9=>GItem.cs|10=>GIns.cs|11=>GMach.cs|_=>λ _=>[]⟩
noncomputable def GTree.lv (x:GTree):List TC:=[.int .i64 x.Kind, .int .i32 x.N, .imm (.st 0) x.Kids]
noncomputable def GTree.of:List TC->Option GTree
 | [c0,c1,c2]=>(tInt .i64 c0).bind λ x0=>(tInt .i32 c1).bind λ x1=>(tImm (.st 0) c2).bind λ x2=>some ⟨x0,x1,x2⟩
 | _=>none
theorem GTree.made {l:List TC} {v:GTree} (h:GTree.of l=some v):CRs l v.lv:=by
 match l,h with
 | [c0,c1,c2],h =>
  obtain ⟨x0,e0,h⟩:=bS h
  obtain ⟨x1,e1,h⟩:=bS h
  obtain ⟨x2,e2,h⟩:=bS h
  cases h
  exact ⟨tInt_cr e0,tInt_cr e1,tImm_cr e2,trivial⟩
noncomputable def GMeaning.lv (x:GMeaning):List TC:=[.imm (.list (.st 0)) x.trees, .imm (.int .i32) x.st.Data, .imm (.st 3) x.st.Ret, .int .i32 x.st.A, .imm (.int .i32) x.st.Mem, .imm (.int .u32) x.st.Cells, .imm (.int .i64) x.st.Vars, .imm (.int .u8) x.st.Out, .imm (.int .u8) x.st.In, .int .i64 x.st.Fault, .int .i64 x.st.Fuel]
noncomputable def GMeaning.of:List TC->Option GMeaning
 | [c0,c1,c2,c3,c4,c5,c6,c7,c8,c9,c10]=>(tImm (.list (.st 0)) c0).bind λ x0=>(tImm (.int .i32) c1).bind λ x1=>(tImm (.st 3) c2).bind λ x2=>(tInt .i32 c3).bind λ x3=>(tImm (.int .i32) c4).bind λ x4=>(tImm (.int .u32) c5).bind λ x5=>(tImm (.int .i64) c6).bind λ x6=>(tImm (.int .u8) c7).bind λ x7=>(tImm (.int .u8) c8).bind λ x8=>(tInt .i64 c9).bind λ x9=>(tInt .i64 c10).bind λ x10=>some ⟨x0,⟨x1,x2,x3,x4,x5,x6,x7,x8,x9,x10⟩⟩
 | _=>none
theorem GMeaning.made {l:List TC} {v:GMeaning} (h:GMeaning.of l=some v):CRs l v.lv:=by
 match l,h with
 | [c0,c1,c2,c3,c4,c5,c6,c7,c8,c9,c10],h =>
  obtain ⟨x0,e0,h⟩:=bS h
  obtain ⟨x1,e1,h⟩:=bS h
  obtain ⟨x2,e2,h⟩:=bS h
  obtain ⟨x3,e3,h⟩:=bS h
  obtain ⟨x4,e4,h⟩:=bS h
  obtain ⟨x5,e5,h⟩:=bS h
  obtain ⟨x6,e6,h⟩:=bS h
  obtain ⟨x7,e7,h⟩:=bS h
  obtain ⟨x8,e8,h⟩:=bS h
  obtain ⟨x9,e9,h⟩:=bS h
  obtain ⟨x10,e10,h⟩:=bS h
  cases h
  exact ⟨tImm_cr e0,tImm_cr e1,tImm_cr e2,tInt_cr e3,tImm_cr e4,tImm_cr e5,tImm_cr e6,tImm_cr e7,tImm_cr e8,tInt_cr e9,tInt_cr e10,trivial⟩
noncomputable def GSt.lv (x:GSt):List TC:=[.imm (.int .i32) x.Data, .imm (.st 3) x.Ret, .int .i32 x.A, .imm (.int .i32) x.Mem, .imm (.int .u32) x.Cells, .imm (.int .i64) x.Vars, .imm (.int .u8) x.Out, .imm (.int .u8) x.In, .int .i64 x.Fault, .int .i64 x.Fuel]
noncomputable def GSt.of:List TC->Option GSt
 | [c0,c1,c2,c3,c4,c5,c6,c7,c8,c9]=>(tImm (.int .i32) c0).bind λ x0=>(tImm (.st 3) c1).bind λ x1=>(tInt .i32 c2).bind λ x2=>(tImm (.int .i32) c3).bind λ x3=>(tImm (.int .u32) c4).bind λ x4=>(tImm (.int .i64) c5).bind λ x5=>(tImm (.int .u8) c6).bind λ x6=>(tImm (.int .u8) c7).bind λ x7=>(tInt .i64 c8).bind λ x8=>(tInt .i64 c9).bind λ x9=>some ⟨x0,x1,x2,x3,x4,x5,x6,x7,x8,x9⟩
 | _=>none
theorem GSt.made {l:List TC} {v:GSt} (h:GSt.of l=some v):CRs l v.lv:=by
 match l,h with
 | [c0,c1,c2,c3,c4,c5,c6,c7,c8,c9],h =>
  obtain ⟨x0,e0,h⟩:=bS h
  obtain ⟨x1,e1,h⟩:=bS h
  obtain ⟨x2,e2,h⟩:=bS h
  obtain ⟨x3,e3,h⟩:=bS h
  obtain ⟨x4,e4,h⟩:=bS h
  obtain ⟨x5,e5,h⟩:=bS h
  obtain ⟨x6,e6,h⟩:=bS h
  obtain ⟨x7,e7,h⟩:=bS h
  obtain ⟨x8,e8,h⟩:=bS h
  obtain ⟨x9,e9,h⟩:=bS h
  cases h
  exact ⟨tImm_cr e0,tImm_cr e1,tInt_cr e2,tImm_cr e3,tImm_cr e4,tImm_cr e5,tImm_cr e6,tImm_cr e7,tInt_cr e8,tInt_cr e9,trivial⟩
noncomputable def GSlot.lv (x:GSlot):List TC:=[.int .i64 x.Kind, .int .i32 x.N]
noncomputable def GSlot.of:List TC->Option GSlot
 | [c0,c1]=>(tInt .i64 c0).bind λ x0=>(tInt .i32 c1).bind λ x1=>some ⟨x0,x1⟩
 | _=>none
theorem GSlot.made {l:List TC} {v:GSlot} (h:GSlot.of l=some v):CRs l v.lv:=by
 match l,h with
 | [c0,c1],h =>
  obtain ⟨x0,e0,h⟩:=bS h
  obtain ⟨x1,e1,h⟩:=bS h
  cases h
  exact ⟨tInt_cr e0,tInt_cr e1,trivial⟩
noncomputable def GEffect.lv (x:GEffect):List TC:=[.bool x.Ok, .int .i64 x.Need, .int .i64 x.Most, .int .i64 x.Gain]
noncomputable def GEffect.of:List TC->Option GEffect
 | [c0,c1,c2,c3]=>(tBool c0).bind λ x0=>(tInt .i64 c1).bind λ x1=>(tInt .i64 c2).bind λ x2=>(tInt .i64 c3).bind λ x3=>some ⟨x0,x1,x2,x3⟩
 | _=>none
theorem GEffect.made {l:List TC} {v:GEffect} (h:GEffect.of l=some v):CRs l v.lv:=by
 match l,h with
 | [c0,c1,c2,c3],h =>
  obtain ⟨x0,e0,h⟩:=bS h
  obtain ⟨x1,e1,h⟩:=bS h
  obtain ⟨x2,e2,h⟩:=bS h
  obtain ⟨x3,e3,h⟩:=bS h
  cases h
  exact ⟨tBool_cr e0,tInt_cr e1,tInt_cr e2,tInt_cr e3,trivial⟩
noncomputable def GL01Cur.lv (x:GL01Cur):List TC:=[.imm (.int .u8) x.b, .int .i64 x.i, .int .i64 x.h]
noncomputable def GL01Cur.of:List TC->Option GL01Cur
 | [c0,c1,c2]=>(tImm (.int .u8) c0).bind λ x0=>(tInt .i64 c1).bind λ x1=>(tInt .i64 c2).bind λ x2=>some ⟨x0,x1,x2⟩
 | _=>none
theorem GL01Cur.made {l:List TC} {v:GL01Cur} (h:GL01Cur.of l=some v):CRs l v.lv:=by
 match l,h with
 | [c0,c1,c2],h =>
  obtain ⟨x0,e0,h⟩:=bS h
  obtain ⟨x1,e1,h⟩:=bS h
  obtain ⟨x2,e2,h⟩:=bS h
  cases h
  exact ⟨tImm_cr e0,tInt_cr e1,tInt_cr e2,trivial⟩
noncomputable def GOp.lv (x:GOp):List TC:=[.int .i64 x.Kind, .int .i32 x.N]
noncomputable def GOp.of:List TC->Option GOp
 | [c0,c1]=>(tInt .i64 c0).bind λ x0=>(tInt .i32 c1).bind λ x1=>some ⟨x0,x1⟩
 | _=>none
theorem GOp.made {l:List TC} {v:GOp} (h:GOp.of l=some v):CRs l v.lv:=by
 match l,h with
 | [c0,c1],h =>
  obtain ⟨x0,e0,h⟩:=bS h
  obtain ⟨x1,e1,h⟩:=bS h
  cases h
  exact ⟨tInt_cr e0,tInt_cr e1,trivial⟩
noncomputable def GDef.lv (x:GDef):List TC:=[.str x.Name, .imm (.st 6) x.Body]
noncomputable def GDef.of:List TC->Option GDef
 | [c0,c1]=>(tStr c0).bind λ x0=>(tImm (.st 6) c1).bind λ x1=>some ⟨x0,x1⟩
 | _=>none
theorem GDef.made {l:List TC} {v:GDef} (h:GDef.of l=some v):CRs l v.lv:=by
 match l,h with
 | [c0,c1],h =>
  obtain ⟨x0,e0,h⟩:=bS h
  obtain ⟨x1,e1,h⟩:=bS h
  cases h
  exact ⟨tStr_cr e0,tImm_cr e1,trivial⟩
noncomputable def GStore.lv (x:GStore):List TC:=[.imm (.int .u32) x.Cells]
noncomputable def GStore.of:List TC->Option GStore
 | [c0]=>(tImm (.int .u32) c0).bind λ x0=>some ⟨x0⟩
 | _=>none
theorem GStore.made {l:List TC} {v:GStore} (h:GStore.of l=some v):CRs l v.lv:=by
 match l,h with
 | [c0],h =>
  obtain ⟨x0,e0,h⟩:=bS h
  cases h
  exact ⟨tImm_cr e0,trivial⟩
noncomputable def GItem.lv (x:GItem):List TC:=[.int .i64 x.Kind, .str x.Name, .int .i32 x.N, .bool x.Hex, .int .u32 x.Raw]
noncomputable def GItem.of:List TC->Option GItem
 | [c0,c1,c2,c3,c4]=>(tInt .i64 c0).bind λ x0=>(tStr c1).bind λ x1=>(tInt .i32 c2).bind λ x2=>(tBool c3).bind λ x3=>(tInt .u32 c4).bind λ x4=>some ⟨x0,x1,x2,x3,x4⟩
 | _=>none
theorem GItem.made {l:List TC} {v:GItem} (h:GItem.of l=some v):CRs l v.lv:=by
 match l,h with
 | [c0,c1,c2,c3,c4],h =>
  obtain ⟨x0,e0,h⟩:=bS h
  obtain ⟨x1,e1,h⟩:=bS h
  obtain ⟨x2,e2,h⟩:=bS h
  obtain ⟨x3,e3,h⟩:=bS h
  obtain ⟨x4,e4,h⟩:=bS h
  cases h
  exact ⟨tInt_cr e0,tStr_cr e1,tInt_cr e2,tBool_cr e3,tInt_cr e4,trivial⟩
noncomputable def GIns.lv (x:GIns):List TC:=[.int .i64 x.Op, .int .i64 x.N]
noncomputable def GIns.of:List TC->Option GIns
 | [c0,c1]=>(tInt .i64 c0).bind λ x0=>(tInt .i64 c1).bind λ x1=>some ⟨x0,x1⟩
 | _=>none
theorem GIns.made {l:List TC} {v:GIns} (h:GIns.of l=some v):CRs l v.lv:=by
 match l,h with
 | [c0,c1],h =>
  obtain ⟨x0,e0,h⟩:=bS h
  obtain ⟨x1,e1,h⟩:=bS h
  cases h
  exact ⟨tInt_cr e0,tInt_cr e1,trivial⟩
noncomputable def GMach.lv (x:GMach):List TC:=[.imm (.int .i32) x.St.Data, .imm (.st 3) x.St.Ret, .int .i32 x.St.A, .imm (.int .i32) x.St.Mem, .imm (.int .u32) x.St.Cells, .imm (.int .i64) x.St.Vars, .imm (.int .u8) x.St.Out, .imm (.int .u8) x.St.In, .int .i64 x.St.Fault, .int .i64 x.St.Fuel, .int .i64 x.At, .bool x.Done]
noncomputable def GMach.of:List TC->Option GMach
 | [c0,c1,c2,c3,c4,c5,c6,c7,c8,c9,c10,c11]=>(tImm (.int .i32) c0).bind λ x0=>(tImm (.st 3) c1).bind λ x1=>(tInt .i32 c2).bind λ x2=>(tImm (.int .i32) c3).bind λ x3=>(tImm (.int .u32) c4).bind λ x4=>(tImm (.int .i64) c5).bind λ x5=>(tImm (.int .u8) c6).bind λ x6=>(tImm (.int .u8) c7).bind λ x7=>(tInt .i64 c8).bind λ x8=>(tInt .i64 c9).bind λ x9=>(tInt .i64 c10).bind λ x10=>(tBool c11).bind λ x11=>some ⟨⟨x0,x1,x2,x3,x4,x5,x6,x7,x8,x9⟩,x10,x11⟩
 | _=>none
theorem GMach.made {l:List TC} {v:GMach} (h:GMach.of l=some v):CRs l v.lv:=by
 match l,h with
 | [c0,c1,c2,c3,c4,c5,c6,c7,c8,c9,c10,c11],h =>
  obtain ⟨x0,e0,h⟩:=bS h
  obtain ⟨x1,e1,h⟩:=bS h
  obtain ⟨x2,e2,h⟩:=bS h
  obtain ⟨x3,e3,h⟩:=bS h
  obtain ⟨x4,e4,h⟩:=bS h
  obtain ⟨x5,e5,h⟩:=bS h
  obtain ⟨x6,e6,h⟩:=bS h
  obtain ⟨x7,e7,h⟩:=bS h
  obtain ⟨x8,e8,h⟩:=bS h
  obtain ⟨x9,e9,h⟩:=bS h
  obtain ⟨x10,e10,h⟩:=bS h
  obtain ⟨x11,e11,h⟩:=bS h
  cases h
  exact ⟨tImm_cr e0,tImm_cr e1,tInt_cr e2,tImm_cr e3,tImm_cr e4,tImm_cr e5,tImm_cr e6,tImm_cr e7,tInt_cr e8,tInt_cr e9,tInt_cr e10,tBool_cr e11,trivial⟩
noncomputable instance:Structs where
 leaves:=λ n=>match n with|0=>GTree.lv|1=>GMeaning.lv|2=>GSt.lv|3=>GSlot.lv|4=>GEffect.lv|5=>GL01Cur.lv|6=>GOp.lv|7=>GDef.lv|8=>GStore.lv|9=>GItem.lv|10=>GIns.lv|11=>GMach.lv|_=>λ _=>[]
 make:=λ n=>match n with|0=>GTree.of|1=>GMeaning.of|2=>GSt.of|3=>GSlot.of|4=>GEffect.of|5=>GL01Cur.of|6=>GOp.of|7=>GDef.of|8=>GStore.of|9=>GItem.of|10=>GIns.of|11=>GMach.of|_=>λ _=>none
 plain:=λ n=>match n with|0=>false|1=>false|2=>false|3=>true|4=>true|5=>false|6=>true|7=>false|8=>false|9=>true|10=>true|11=>false|_=>false
 lt:=λ n=>match n with|0=>[.bool, .bool,(.st 0)]|1=>[(.list (.st 0)),(.int .i32),(.st 3), .bool,(.int .i32),(.int .u32),(.int .i64),(.int .u8),(.int .u8), .bool, .bool]|2=>[(.int .i32),(.st 3), .bool,(.int .i32),(.int .u32),(.int .i64),(.int .u8),(.int .u8), .bool, .bool]|3=>[.bool, .bool]|4=>[.bool, .bool, .bool, .bool]|5=>[(.int .u8), .bool, .bool]|6=>[.bool, .bool]|7=>[.bool,(.st 6)]|8=>[(.int .u32)]|9=>[.bool, .bool, .bool, .bool, .bool]|10=>[.bool, .bool]|11=>[(.int .i32),(.st 3), .bool,(.int .i32),(.int .u32),(.int .i64),(.int .u8),(.int .u8), .bool, .bool, .bool, .bool]|_=>[]
 len:=λ n v=>match n,v with|0,_=>rfl|1,_=>rfl|2,_=>rfl|3,_=>rfl|4,_=>rfl|5,_=>rfl|6,_=>rfl|7,_=>rfl|8,_=>rfl|9,_=>rfl|10,_=>rfl|11,_=>rfl|_+12,_=>rfl
 conc:=λ n v=>match n,v with|0,v=>(GTree.cs_eq v).symm|1,_=>rfl|2,_=>rfl|3,_=>rfl|4,_=>rfl|5,_=>rfl|6,_=>rfl|7,_=>rfl|8,_=>rfl|9,_=>rfl|10,_=>rfl|11,_=>rfl|_+12,_=>rfl
 pure:=λ n v=>match n,v with|0,_=>rfl|1,_=>rfl|2,_=>rfl|3,_=>rfl|4,_=>rfl|5,_=>rfl|6,_=>rfl|7,_=>rfl|8,_=>rfl|9,_=>rfl|10,_=>rfl|11,_=>rfl|_+12,_=>rfl
 made:=λ n l v h=>match n,v,h with|0,v,h=>GTree.made h|1,v,h=>GMeaning.made h|2,v,h=>GSt.made h|3,v,h=>GSlot.made h|4,v,h=>GEffect.made h|5,v,h=>GL01Cur.made h|6,v,h=>GOp.made h|7,v,h=>GDef.made h|8,v,h=>GStore.made h|9,v,h=>GItem.made h|10,v,h=>GIns.made h|11,v,h=>GMach.made h|_+12,_,h=>nomatch h
 flat:=λ n v h=>match n,v,h with|0,_,h=>nomatch h|1,_,h=>nomatch h|2,_,h=>nomatch h|3,_,_=>rfl|4,_,_=>rfl|5,_,h=>nomatch h|6,_,_=>rfl|7,_,h=>nomatch h|8,_,h=>nomatch h|9,_,_=>rfl|10,_,_=>rfl|11,_,h=>nomatch h|_+12,_,h=>nomatch h
noncomputable instance:Tabs:=⟨λ g=>match g with|0=>some ⟨.int .u8,gtAscii⟩|3=>some ⟨.int .u64,gtPow10⟩|5=>some ⟨.int .u8,gtBruijn⟩|_=>none,λ g=>match g with|0=>rfl|1=>rfl|2=>rfl|3=>rfl|4=>rfl|5=>rfl|_+6=>rfl⟩
abbrev K0:Ty:=.int .i64
abbrev K1:Ty:=.int .i32
abbrev K2:Ty:=.st 0
abbrev K3:Ty:=.list K2
abbrev K5:Ty:=.list K1
abbrev K6:Ty:=.st 3
abbrev K7:Ty:=.list K6
abbrev K8:Ty:=.int .u32
abbrev K9:Ty:=.list K8
abbrev K10:Ty:=.list K0
abbrev K11:Ty:=.int .u8
abbrev K12:Ty:=.list K11
abbrev K13:Ty:=.st 2
abbrev K14:Ty:=.st 1
abbrev K15:Ty:=.bool
abbrev K16:Ty:=.str
abbrev K17:Ty:=.list K16
abbrev K18:Ty:=.st 4
abbrev K19:Ty:=.st 5
abbrev K20:Ty:=.st 6
abbrev K21:Ty:=.list K20
abbrev K22:Ty:=.st 7
abbrev K23:Ty:=.list K22
abbrev K24:Ty:=.st 8
abbrev K25:Ty:=.st 9
end Go.Proofs.YtofjeimkphojaaaGreatDoor
namespace Go.Proofs.YtofjeimkphojaaaGreatDoor
open Go Go.Fm
set_option maxRecDepth 1000000
def g_impl_St_pushes_inGMeaning_1 (n_1:Int) (st_2:GMeaning):Option GMeaning:=cond ((st_2.st.Data.length:Int)==16) (some (⟨st_2.trees,(⟨st_2.st.Data,st_2.st.Ret,st_2.st.A,st_2.st.Mem,st_2.st.Cells,st_2.st.Vars,st_2.st.Out,st_2.st.In,2,st_2.st.Fuel⟩:GSt)⟩:GMeaning)) ((app st_2.st.Data [n_1]).bind λ v_4=>some (⟨st_2.trees,(⟨v_4,st_2.st.Ret,st_2.st.A,st_2.st.Mem,st_2.st.Cells,st_2.st.Vars,st_2.st.Out,st_2.st.In,st_2.st.Fault,st_2.st.Fuel⟩:GSt)⟩:GMeaning))
def g_impl_meaning_fail_own (fault_1:Int) (m_2:GMeaning):Option GMeaning:=some (⟨m_2.trees,(⟨m_2.st.Data,m_2.st.Ret,m_2.st.A,m_2.st.Mem,m_2.st.Cells,m_2.st.Vars,m_2.st.Out,m_2.st.In,fault_1,m_2.st.Fuel⟩:GSt)⟩:GMeaning)
def g_impl_meaning_burn_own (m_1:GMeaning):Option (Bool×GMeaning):=cond (m_1.st.Fuel==0) ((g_impl_meaning_fail_own 6 m_1).bind λ y_4=>some (false,y_4)) (some (true,(⟨m_1.trees,(⟨m_1.st.Data,m_1.st.Ret,m_1.st.A,m_1.st.Mem,m_1.st.Cells,m_1.st.Vars,m_1.st.Out,m_1.st.In,m_1.st.Fault,IntKind.wrap .i64 (m_1.st.Fuel-1)⟩:GSt)⟩:GMeaning)))
def g_strings_Fields_l0 (s_1:Bs):Nat->Int->Int->Int->Int->Option (Int×Int)
 | 0,_,_,_,_=>none
 | k+1,n_5,wasSpace_6,setBits_7,i_8=>cond (decide (i_8 < (s_1.length:Int))) ((idxS s_1 i_8).bind λ v_11=>(getI gtAscii v_11).bind λ v_12=>g_strings_Fields_l0 s_1 k (IntKind.wrap .i64 (n_5+(andI .i64 wasSpace_6 (notI .i64 (IntKind.wrap .i64 v_12))))) (IntKind.wrap .i64 v_12) (orI .u8 setBits_7 v_11) (IntKind.wrap .i64 (i_8+1))) (some (n_5,setBits_7))
def g_strings_Fields_l1 (s_1:Bs):Nat->Int->Option Int
 | 0,_=>none
 | k+1,i_15=>(cond (decide (i_15 < (s_1.length:Int))) ((idxS s_1 i_15).bind λ v_18=>(getI gtAscii v_18).bind λ v_19=>some (v_19 != 0)) (some false):Option (Bool)).bind λ v_17=>cond v_17 (g_strings_Fields_l1 s_1 k (IntKind.wrap .i64 (i_15+1))) (some i_15)
def g_strings_Fields_l3 (s_1:Bs):Nat->Int->Option Int
 | 0,_=>none
 | k+1,i_33=>(cond (decide (i_33 < (s_1.length:Int))) ((idxS s_1 i_33).bind λ v_36=>(getI gtAscii v_36).bind λ v_37=>some (v_37 != 0)) (some false):Option (Bool)).bind λ v_35=>cond v_35 (g_strings_Fields_l3 s_1 k (IntKind.wrap .i64 (i_33+1))) (some i_33)
def g_strings_Fields_l2 (s_1:Bs):Nat->(List Bs)->Int->Int->Int->Option ((List Bs)×Int×Int)
 | 0,_,_,_,_=>none
 | k+1,a_20,na_21,fieldStart_22,i_23=>cond (decide (i_23 < (s_1.length:Int))) ((idxS s_1 i_23).bind λ v_27=>(getI gtAscii v_27).bind λ v_28=>cond (v_28==0) (g_strings_Fields_l2 s_1 k a_20 na_21 fieldStart_22 (IntKind.wrap .i64 (i_23+1))) ((subL s_1 fieldStart_22 i_23).bind λ v_29=>(getI a_20 na_21).bind λ v_30=>(g_strings_Fields_l3 s_1 bigK (IntKind.wrap .i64 (i_23+1))).bind λ i_34=>g_strings_Fields_l2 s_1 k (a_20.set na_21.toNat v_29) (IntKind.wrap .i64 (na_21+1)) i_34 i_34)) (some (a_20,na_21,fieldStart_22))
def g_strings_Fields (s_1:Bs):Option (List Bs):=((g_strings_Fields_l0 s_1 bigK 0 1 0 0).bind λ (n_9,setBits_10)=>some (n_9,setBits_10):Option ((Int×Int))).bind λ (n_3,setBits_4)=>cond (decide (setBits_4 ≥ 128)) (none) ((mk ([]:Bs) n_3).bind λ v_13=>(g_strings_Fields_l1 s_1 bigK 0).bind λ i_16=>(g_strings_Fields_l2 s_1 bigK v_13 0 i_16 i_16).bind λ (a_24,na_25,fieldStart_26)=>(cond (decide (fieldStart_26 < (s_1.length:Int))) ((subL s_1 fieldStart_26 (s_1.length:Int)).bind λ v_39=>(getI a_24 na_25).bind λ v_40=>some (a_24.set na_25.toNat v_39)) (some a_24):Option ((List Bs))).bind λ a_38=>some a_38)
def g_impl_prims:Option (List Bs):=(g_strings_Fields [100,117,112,32,100,114,111,112,32,111,118,101,114,32,110,105,112,32,115,119,97,112,32,43,32,45,32,42,32,97,110,100,32,111,114,32,50,42,32,50,47,32,47,109,111,100,32,64,32,33,32,97,32,97,33,32,101,109,105,116,32,107,101,121,32,112,117,115,104,32,112,111,112,32,105,32,46,32,110,111,112]).bind λ y_2=>some y_2
def g_impl_within (n_1:Int) (low_2:Int) (high_3:Int):Option Bool:=cond (decide (low_2<=n_1)) (some (decide (n_1<=high_3))) (some false)
def g_impl_PrimName (k_1:Int):Option Bs:=(g_impl_prims).bind λ y_3=>(g_impl_within k_1 0 (IntKind.wrap .i64 ((y_3.length:Int)-1))).bind λ y_4=>cond y_4 ((getI y_3 k_1).bind λ v_5=>some v_5) (some [])
def g_slices_Clone_int32 (s_1:List Int):Option (List Int):=app ([]:List Int) s_1
def g_slices_Clone_Slot (s_1:List GSlot):Option (List GSlot):=app ([]:List GSlot) s_1
def g_slices_Clone_uint32 (s_1:List Int):Option (List Int):=app ([]:List Int) s_1
def g_slices_Clone_int (s_1:List Int):Option (List Int):=app ([]:List Int) s_1
def g_slices_Clone_byte (s_1:List Int):Option (List Int):=app ([]:List Int) s_1
def g_impl_ownSt (st_1:GSt):Option GSt:=(g_slices_Clone_int32 st_1.Data).bind λ y_3=>(g_slices_Clone_Slot st_1.Ret).bind λ y_4=>(g_slices_Clone_int32 st_1.Mem).bind λ y_5=>(g_slices_Clone_uint32 st_1.Cells).bind λ y_6=>(g_slices_Clone_int st_1.Vars).bind λ y_7=>(g_slices_Clone_byte st_1.Out).bind λ y_8=>(g_slices_Clone_byte st_1.In).bind λ y_9=>some (⟨y_3,y_4,st_1.A,y_5,y_6,y_7,y_8,y_9,st_1.Fault,st_1.Fuel⟩:GSt)
def g_impl_doesc1 (fault_1:Int) (a_2:GSt):Option GSt:=(g_impl_ownSt a_2).bind λ y_4=>some (⟨y_4.Data,y_4.Ret,y_4.A,y_4.Mem,y_4.Cells,y_4.Vars,y_4.Out,y_4.In,fault_1,y_4.Fuel⟩:GSt)
def g_impl_PrimEffect (k_1:Int):Option GEffect:=((g_impl_PrimName k_1).bind λ y_7=>cond (y_7==[100,117,112]) (some (.inl ((⟨false,0,0,0⟩:GEffect),(⟨true,1,1,1⟩:GEffect)))) ((cond (y_7==[100,114,111,112]) (some (y_7==[100,114,111,112])) (cond (y_7==[97,33]) (some (y_7==[97,33])) (cond (y_7==[101,109,105,116]) (some (y_7==[101,109,105,116])) (cond (y_7==[112,117,115,104]) (some (y_7==[112,117,115,104])) (some (y_7==[46]))))):Option (Bool)).bind λ v_8=>cond v_8 (some (.inl ((⟨false,0,0,0⟩:GEffect),(⟨true,1,0,(-1)⟩:GEffect)))) (cond (y_7==[111,118,101,114]) (some (.inl ((⟨false,0,0,0⟩:GEffect),(⟨true,2,1,1⟩:GEffect)))) ((cond (y_7==[110,105,112]) (some (y_7==[110,105,112])) (cond (y_7==[43]) (some (y_7==[43])) (cond (y_7==[42]) (some (y_7==[42])) (cond (y_7==[97,110,100]) (some (y_7==[97,110,100])) (some (y_7==[111,114]))))):Option (Bool)).bind λ v_9=>cond v_9 (some (.inl ((⟨false,0,0,0⟩:GEffect),(⟨true,2,0,(-1)⟩:GEffect)))) ((cond (y_7==[115,119,97,112]) (some (y_7==[115,119,97,112])) (some (y_7==[47,109,111,100])):Option (Bool)).bind λ v_10=>cond v_10 (some (.inl ((⟨false,0,0,0⟩:GEffect),(⟨true,2,0,0⟩:GEffect)))) ((cond (y_7==[45]) (some (y_7==[45])) (cond (y_7==[50,42]) (some (y_7==[50,42])) (cond (y_7==[50,47]) (some (y_7==[50,47])) (some (y_7==[64])))):Option (Bool)).bind λ v_11=>cond v_11 (some (.inl ((⟨false,0,0,0⟩:GEffect),(⟨true,1,0,0⟩:GEffect)))) (cond (y_7==[33]) (some (.inl ((⟨false,0,0,0⟩:GEffect),(⟨true,2,0,(-2)⟩:GEffect)))) ((cond (y_7==[97]) (some (y_7==[97])) (cond (y_7==[107,101,121]) (some (y_7==[107,101,121])) (cond (y_7==[112,111,112]) (some (y_7==[112,111,112])) (some (y_7==[105])))):Option (Bool)).bind λ v_12=>cond v_12 (some (.inl ((⟨false,0,0,0⟩:GEffect),(⟨true,0,1,1⟩:GEffect)))) (cond (y_7==[110,111,112]) (some (.inl ((⟨false,0,0,0⟩:GEffect),(⟨true,0,0,0⟩:GEffect)))) (some (.inr ((⟨false,0,0,0⟩:GEffect),(⟨true,0,0,0⟩:GEffect)))))))))))):Option ((GEffect×GEffect) ⊕ (GEffect×GEffect))).bind λ o=>match o with | .inl (x_3,x_4)=>some x_4 | .inr (x_5,x_6)=>some x_5
def g_impl_wants (k_1:Int):Option Int:=(g_impl_PrimEffect k_1).bind λ y_3=>some y_3.Need
def g_slices_Index_int_l0 (s_1:List Int) (v_2:Int) (v_5:Int):Nat->Int->Option (Unit ⊕ Int)
 | 0,_=>none
 | k+1,v_6=>cond (decide (v_6 < v_5)) ((getI s_1 v_6).bind λ v_8=>cond (v_2==v_8) (some (.inr v_6)) (g_slices_Index_int_l0 s_1 v_2 v_5 k (IntKind.wrap .i64 (v_6+1)))) (some (.inl ()))
def g_slices_Index_int (s_1:List Int) (v_2:Int):Option Int:=((g_slices_Index_int_l0 s_1 v_2 (s_1.length:Int) bigK 0).bind λ o=>match o with | .inl ()=>some (.inl ()) | .inr v_7=>some (.inr v_7):Option (Unit ⊕ Int)).bind λ o=>match o with | .inl ()=>some (-1) | .inr v_4=>some v_4
def g_slices_Contains_int (s_1:List Int) (v_2:Int):Option Bool:=(g_slices_Index_int s_1 v_2).bind λ y_4=>some (decide (y_4 ≥ 0))
def g_impl_St_written (s_1:Bs) (st_2:GSt):Option (Int×GSt):=cond (decide ((IntKind.wrap .i64 ((st_2.Out.length:Int)+(s_1.length:Int))) > 400)) (some (13,st_2)) ((app st_2.Out (bsOf s_1)).bind λ v_5=>some (0,(⟨st_2.Data,st_2.Ret,st_2.A,st_2.Mem,st_2.Cells,st_2.Vars,v_5,st_2.In,st_2.Fault,st_2.Fuel⟩:GSt)))
def g_strconv_Itoa (i_1:Int):Option Bs:=gItoa i_1
def g_impl_DecText (n_1:Int):Option Bs:=(g_strconv_Itoa n_1).bind λ y_3=>some y_3
def g_impl_result (name_1:Bs) (x_2:Int) (y_3:Int):Option ((List Int)×Int):=cond (name_1==[100,117,112]) (some ([y_3,y_3],0)) (cond (name_1==[100,114,111,112]) (some ([],0)) (cond (name_1==[111,118,101,114]) (some ([x_2,y_3,x_2],0)) (cond (name_1==[110,105,112]) (some ([y_3],0)) (cond (name_1==[115,119,97,112]) (some ([y_3,x_2],0)) (cond (name_1==[43]) (some ([IntKind.wrap .i32 (x_2+y_3)],0)) (cond (name_1==[45]) (some ([notI .i32 y_3],0)) (cond (name_1==[42]) (some ([IntKind.wrap .i32 (x_2*y_3)],0)) (cond (name_1==[97,110,100]) (some ([andI .i32 x_2 y_3],0)) (cond (name_1==[111,114]) (some ([xorI .i32 x_2 y_3],0)) (cond (name_1==[50,42]) (some ([IntKind.wrap .i32 (2*y_3)],0)) (cond (name_1==[50,47]) (some ([y_3 / 2],0)) (cond (name_1==[47,109,111,100]) (cond (y_3==0) (some ([],5)) ((quoI .i64 (IntKind.wrap .i64 x_2) (IntKind.wrap .i64 y_3)).bind λ v_6=>(remI .i64 (IntKind.wrap .i64 x_2) (IntKind.wrap .i64 y_3)).bind λ v_7=>some ([IntKind.wrap .i32 v_7,IntKind.wrap .i32 v_6],0))) (some ([],0))))))))))))))
def g_impl_St_place_rd (address_1:Int) (st_2:GSt):Option (Int×Bool×Bool):=(g_impl_within (IntKind.wrap .i64 address_1) 0 31).bind λ y_6=>cond y_6 (some (IntKind.wrap .i64 address_1,true,true)) ((g_impl_within (IntKind.wrap .i64 ((IntKind.wrap .i64 address_1)-1024)) 0 (IntKind.wrap .i64 ((st_2.Cells.length:Int)-1))).bind λ y_7=>cond y_7 (some (IntKind.wrap .i64 ((IntKind.wrap .i64 address_1)-1024),false,true)) (some (0,false,false)))
def g_impl_St_effect (name_1:Bs) (x_2:Int) (y_3:Int) (st_4:GSt):Option ((List Int)×Int×GSt):=(cond (name_1==[64]) ((g_impl_St_place_rd y_3 st_4).bind λ y_12=>cond (!y_12.2.2) (some (.inr ([],4,st_4))) (cond y_12.2.1 ((getI st_4.Mem y_12.1).bind λ v_13=>some (.inr ([v_13],0,st_4))) ((getI st_4.Cells y_12.1).bind λ v_14=>some (.inr ([IntKind.wrap .i32 v_14],0,st_4))))) (cond (name_1==[33]) ((g_impl_St_place_rd y_3 st_4).bind λ y_15=>(cond (!y_15.2.2) (some true) (cond (!y_15.2.1) ((g_slices_Contains_int st_4.Vars y_15.1).bind λ y_17=>some (!y_17)) (some false)):Option (Bool)).bind λ v_16=>cond v_16 (some (.inr ([],4,st_4))) (cond y_15.2.1 ((getI st_4.Mem y_15.1).bind λ v_18=>some (.inl (⟨st_4.Data,st_4.Ret,st_4.A,st_4.Mem.set y_15.1.toNat x_2,st_4.Cells,st_4.Vars,st_4.Out,st_4.In,st_4.Fault,st_4.Fuel⟩:GSt))) ((getI st_4.Cells y_15.1).bind λ v_19=>some (.inl (⟨st_4.Data,st_4.Ret,st_4.A,st_4.Mem,st_4.Cells.set y_15.1.toNat (IntKind.wrap .u32 x_2),st_4.Vars,st_4.Out,st_4.In,st_4.Fault,st_4.Fuel⟩:GSt))))) (cond (name_1==[97]) (some (.inr ([st_4.A],0,st_4))) (cond (name_1==[97,33]) (some (.inl (⟨st_4.Data,st_4.Ret,y_3,st_4.Mem,st_4.Cells,st_4.Vars,st_4.Out,st_4.In,st_4.Fault,st_4.Fuel⟩:GSt))) (cond (name_1==[101,109,105,116]) ((g_impl_St_written (strOf [IntKind.wrap .u8 y_3]) st_4).bind λ y_20=>some (.inr ([],y_20.1,y_20.2))) (cond (name_1==[46]) ((g_impl_DecText (IntKind.wrap .i64 y_3)).bind λ y_21=>(catS y_21 [32]).bind λ v_22=>(g_impl_St_written v_22 st_4).bind λ y_23=>some (.inr ([],y_23.1,y_23.2))) (cond (name_1==[107,101,121]) (cond ((st_4.In.length:Int)==0) (some (.inr ([(-1)],0,st_4))) ((getI st_4.In 0).bind λ v_24=>(subL st_4.In 1 ((st_4.In.length:Nat):Int)).bind λ v_25=>some (.inr ([IntKind.wrap .i32 v_24],0,(⟨st_4.Data,st_4.Ret,st_4.A,st_4.Mem,st_4.Cells,st_4.Vars,st_4.Out,v_25,st_4.Fault,st_4.Fuel⟩:GSt))))) (cond (name_1==[112,117,115,104]) (cond ((st_4.Ret.length:Int)==24) (some (.inr ([],3,st_4))) ((app st_4.Ret [(⟨0,y_3⟩:GSlot)]).bind λ v_26=>some (.inl (⟨st_4.Data,v_26,st_4.A,st_4.Mem,st_4.Cells,st_4.Vars,st_4.Out,st_4.In,st_4.Fault,st_4.Fuel⟩:GSt)))) ((cond (name_1==[112,111,112]) (some (name_1==[112,111,112])) (some (name_1==[105])):Option (Bool)).bind λ v_27=>cond v_27 (cond (decide ((IntKind.wrap .i64 ((st_4.Ret.length:Int)-1)) < 0)) (some (.inr ([],3,st_4))) ((cond (name_1==[112,111,112]) ((getI st_4.Ret (IntKind.wrap .i64 ((st_4.Ret.length:Int)-1))).bind λ v_29=>cond (v_29.Kind != 0) (some true) ((getI st_4.Ret (IntKind.wrap .i64 ((st_4.Ret.length:Int)-1))).bind λ v_30=>some (v_30.Kind==2))) ((getI st_4.Ret (IntKind.wrap .i64 ((st_4.Ret.length:Int)-1))).bind λ v_31=>some (v_31.Kind==2)):Option (Bool)).bind λ v_28=>cond v_28 (some (.inr ([],11,st_4))) ((getI st_4.Ret (IntKind.wrap .i64 ((st_4.Ret.length:Int)-1))).bind λ v_32=>(cond (name_1==[112,111,112]) ((subL st_4.Ret 0 (IntKind.wrap .i64 ((st_4.Ret.length:Int)-1))).bind λ v_41=>some (⟨st_4.Data,v_41,st_4.A,st_4.Mem,st_4.Cells,st_4.Vars,st_4.Out,st_4.In,st_4.Fault,st_4.Fuel⟩:GSt)) (some st_4):Option (GSt)).bind λ x_40=>some (.inr ([v_32.N],0,x_40))))) ((g_impl_result name_1 x_2 y_3).bind λ y_42=>some (.inr (y_42.1,y_42.2,st_4))))))))))):Option (GSt ⊕ ((List Int)×Int×GSt))).bind λ o=>match o with | .inl x_8=>some ([],0,x_8) | .inr (v_9,v_10,x_11)=>some (v_9,v_10,x_11)
def g_impl_does (st_1:GSt) (k_2:Int):Option GSt:=(g_impl_PrimName k_2).bind λ y_4=>cond (y_4==[]) ((g_impl_doesc1 1 st_1).bind λ y_5=>some y_5) ((g_impl_wants k_2).bind λ y_6=>cond (decide ((st_1.Data.length:Int) < y_6)) ((g_impl_doesc1 2 st_1).bind λ y_7=>some y_7) ((g_impl_ownSt st_1).bind λ y_8=>(cond (decide ((st_1.Data.length:Int) > 1)) ((getI st_1.Data (IntKind.wrap .i64 ((st_1.Data.length:Int)-2))).bind λ v_10=>some v_10) (some 0):Option (Int)).bind λ x_9=>(cond (decide ((st_1.Data.length:Int) > 0)) ((getI st_1.Data (IntKind.wrap .i64 ((st_1.Data.length:Int)-1))).bind λ v_12=>some v_12) (some 0):Option (Int)).bind λ y_11=>(g_impl_St_effect y_4 x_9 y_11 y_8).bind λ y_13=>(g_impl_wants k_2).bind λ y_14=>(subL y_13.2.2.Data 0 (IntKind.wrap .i64 ((st_1.Data.length:Int)-y_14))).bind λ v_15=>(app v_15 y_13.1).bind λ v_16=>cond (y_13.2.1 != 0) ((g_impl_doesc1 y_13.2.1 st_1).bind λ y_17=>some y_17) (cond (decide ((v_16.length:Int) > 16)) ((g_impl_doesc1 2 st_1).bind λ y_18=>some y_18) (some (⟨v_16,y_13.2.2.Ret,y_13.2.2.A,y_13.2.2.Mem,y_13.2.2.Cells,y_13.2.2.Vars,y_13.2.2.Out,y_13.2.2.In,y_13.2.2.Fault,y_13.2.2.Fuel⟩:GSt)))))
def g_impl_meaning_enter_l0 (rc_g_impl_meaning_all:(List GTree)->GMeaning->Option (Bool×GMeaning)):Nat->Int->GMeaning->Option (GMeaning ⊕ GMeaning)
 | 0,_,_=>none
 | k+1,k_6,x_7=>cond (decide (k_6 < (x_7.trees.length:Int))) (((getI x_7.trees k_6).bind λ v_12=>(rc_g_impl_meaning_all v_12 x_7).bind λ y_13=>cond y_13.1 (some (true,y_13.2)) (some ((y_13.2.st.Fault != 0),y_13.2)):Option ((Bool×GMeaning))).bind λ (v_10,x_11)=>cond v_10 (some (.inr x_11)) (g_impl_meaning_enter_l0 rc_g_impl_meaning_all k (IntKind.wrap .i64 (k_6+1)) x_11)) (some (.inl x_7))
def g_impl_meaning_enter_p (rc_g_impl_meaning_all:(List GTree)->GMeaning->Option (Bool×GMeaning)) (k_1:Int) (m_2:GMeaning):Option GMeaning:=cond ((m_2.st.Ret.length:Int)==24) ((g_impl_meaning_fail_own 3 m_2).bind λ y_4=>some y_4) ((app m_2.st.Ret [(⟨2,0⟩:GSlot)]).bind λ v_5=>(g_impl_meaning_enter_l0 rc_g_impl_meaning_all bigK k_1 (⟨m_2.trees,(⟨m_2.st.Data,v_5,m_2.st.A,m_2.st.Mem,m_2.st.Cells,m_2.st.Vars,m_2.st.Out,m_2.st.In,m_2.st.Fault,m_2.st.Fuel⟩:GSt)⟩:GMeaning)).bind λ o=>match o with | .inl x_8=>(g_impl_meaning_fail_own 10 x_8).bind λ y_14=>some y_14 | .inr x_9=>some x_9)
def g_impl_St_begin_inGMeaning_1 (st_1:GMeaning):Option GMeaning:=cond (decide ((IntKind.wrap .i64 ((st_1.st.Data.length:Int)-1)) < 0)) (some (⟨st_1.trees,(⟨st_1.st.Data,st_1.st.Ret,st_1.st.A,st_1.st.Mem,st_1.st.Cells,st_1.st.Vars,st_1.st.Out,st_1.st.In,2,st_1.st.Fuel⟩:GSt)⟩:GMeaning)) (cond ((st_1.st.Ret.length:Int)==24) (some (⟨st_1.trees,(⟨st_1.st.Data,st_1.st.Ret,st_1.st.A,st_1.st.Mem,st_1.st.Cells,st_1.st.Vars,st_1.st.Out,st_1.st.In,3,st_1.st.Fuel⟩:GSt)⟩:GMeaning)) ((getI st_1.st.Data (IntKind.wrap .i64 ((st_1.st.Data.length:Int)-1))).bind λ v_3=>(app st_1.st.Ret [(⟨1,v_3⟩:GSlot)]).bind λ v_4=>(subL st_1.st.Data 0 (IntKind.wrap .i64 ((st_1.st.Data.length:Int)-1))).bind λ v_5=>some (⟨st_1.trees,(⟨v_5,v_4,st_1.st.A,st_1.st.Mem,st_1.st.Cells,st_1.st.Vars,st_1.st.Out,st_1.st.In,st_1.st.Fault,st_1.st.Fuel⟩:GSt)⟩:GMeaning)))
def g_impl_St_again_inGMeaning_1 (st_1:GMeaning):Option (Bool×GMeaning):=cond (decide ((IntKind.wrap .i64 ((st_1.st.Ret.length:Int)-1)) < 0)) (some (false,(⟨st_1.trees,(⟨st_1.st.Data,st_1.st.Ret,st_1.st.A,st_1.st.Mem,st_1.st.Cells,st_1.st.Vars,st_1.st.Out,st_1.st.In,3,st_1.st.Fuel⟩:GSt)⟩:GMeaning))) ((getI st_1.st.Ret (IntKind.wrap .i64 ((st_1.st.Ret.length:Int)-1))).bind λ v_4=>cond (v_4.Kind != 1) (some (false,(⟨st_1.trees,(⟨st_1.st.Data,st_1.st.Ret,st_1.st.A,st_1.st.Mem,st_1.st.Cells,st_1.st.Vars,st_1.st.Out,st_1.st.In,11,st_1.st.Fuel⟩:GSt)⟩:GMeaning))) ((getI st_1.st.Ret (IntKind.wrap .i64 ((st_1.st.Ret.length:Int)-1))).bind λ v_5=>cond (decide ((IntKind.wrap .i32 (v_5.N-1)) > 0)) ((getI st_1.st.Ret (IntKind.wrap .i64 ((st_1.st.Ret.length:Int)-1))).bind λ v_6=>some (true,(⟨st_1.trees,(⟨st_1.st.Data,st_1.st.Ret.set (IntKind.wrap .i64 ((st_1.st.Ret.length:Int)-1)).toNat (⟨v_6.Kind,IntKind.wrap .i32 (v_5.N-1)⟩:GSlot),st_1.st.A,st_1.st.Mem,st_1.st.Cells,st_1.st.Vars,st_1.st.Out,st_1.st.In,st_1.st.Fault,st_1.st.Fuel⟩:GSt)⟩:GMeaning))) ((subL st_1.st.Ret 0 (IntKind.wrap .i64 ((st_1.st.Ret.length:Int)-1))).bind λ v_7=>some (false,(⟨st_1.trees,(⟨st_1.st.Data,v_7,st_1.st.A,st_1.st.Mem,st_1.st.Cells,st_1.st.Vars,st_1.st.Out,st_1.st.In,st_1.st.Fault,st_1.st.Fuel⟩:GSt)⟩:GMeaning)))))
def g_impl_meaning_loop_l0 (rc_g_impl_meaning_all:(List GTree)->GMeaning->Option (Bool×GMeaning)) (kids_1:List GTree):Nat->GMeaning->Option (GMeaning ⊕ (Bool×GMeaning))
 | 0,_=>none
 | k+1,x_6=>cond (x_6.st.Fault==0) ((rc_g_impl_meaning_all kids_1 x_6).bind λ y_10=>cond y_10.1 (some (.inr (true,y_10.2))) ((cond (y_10.2.st.Fault != 0) (some (true,y_10.2)) ((g_impl_meaning_burn_own y_10.2).bind λ y_13=>cond (!y_13.1) (some (true,y_13.2)) ((g_impl_St_again_inGMeaning_1 y_13.2).bind λ y_14=>some ((!y_14.1),y_14.2))):Option ((Bool×GMeaning))).bind λ (v_11,x_12)=>cond v_11 (some (.inr (false,x_12))) (g_impl_meaning_loop_l0 rc_g_impl_meaning_all kids_1 k x_12))) (some (.inl x_6))
def g_impl_meaning_loop_p (rc_g_impl_meaning_all:(List GTree)->GMeaning->Option (Bool×GMeaning)) (kids_1:List GTree) (m_2:GMeaning):Option (Bool×GMeaning):=(g_impl_St_begin_inGMeaning_1 m_2).bind λ y_5=>(g_impl_meaning_loop_l0 rc_g_impl_meaning_all kids_1 bigK y_5).bind λ o=>match o with | .inl x_7=>some (false,x_7) | .inr (v_8,x_9)=>some (v_8,x_9)
def g_impl_meaning_one_p (rc_g_impl_meaning_all:(List GTree)->GMeaning->Option (Bool×GMeaning)) (t_1:GTree) (m_2:GMeaning):Option (Bool×GMeaning):=(g_impl_meaning_burn_own m_2).bind λ y_5=>cond (!y_5.1) (some (false,y_5.2)) ((cond (t_1.Kind==0) ((g_impl_St_pushes_inGMeaning_1 t_1.N y_5.2).bind λ y_9=>some (.inl y_9)) (cond (t_1.Kind==1) ((g_impl_does y_5.2.st (IntKind.wrap .i64 t_1.N)).bind λ y_10=>some (.inl (⟨y_5.2.trees,y_10⟩:GMeaning))) (cond (t_1.Kind==2) ((g_impl_meaning_enter_p rc_g_impl_meaning_all (IntKind.wrap .i64 t_1.N) y_5.2).bind λ y_11=>some (.inl y_11)) (cond (t_1.Kind==8) ((cond (decide ((IntKind.wrap .i64 ((y_5.2.st.Ret.length:Int)-1)) < 0)) (some true) ((getI y_5.2.st.Ret (IntKind.wrap .i64 ((y_5.2.st.Ret.length:Int)-1))).bind λ v_13=>some (v_13.Kind != 2)):Option (Bool)).bind λ v_12=>cond v_12 ((g_impl_meaning_fail_own 11 y_5.2).bind λ y_14=>some (.inr (false,y_14))) ((subL y_5.2.st.Ret 0 (IntKind.wrap .i64 ((y_5.2.st.Ret.length:Int)-1))).bind λ v_15=>some (.inr (true,(⟨y_5.2.trees,(⟨y_5.2.st.Data,v_15,y_5.2.st.A,y_5.2.st.Mem,y_5.2.st.Cells,y_5.2.st.Vars,y_5.2.st.Out,y_5.2.st.In,y_5.2.st.Fault,y_5.2.st.Fuel⟩:GSt)⟩:GMeaning))))) ((cond (t_1.Kind==3) (some (t_1.Kind==3)) (some (t_1.Kind==4)):Option (Bool)).bind λ v_16=>cond v_16 (cond (decide ((IntKind.wrap .i64 ((y_5.2.st.Data.length:Int)-1)) < 0)) ((g_impl_meaning_fail_own 2 y_5.2).bind λ y_17=>some (.inl y_17)) ((cond (t_1.Kind==3) ((getI y_5.2.st.Data (IntKind.wrap .i64 ((y_5.2.st.Data.length:Int)-1))).bind λ v_19=>cond (v_19 != 0) (some true) (cond (t_1.Kind==4) ((getI y_5.2.st.Data (IntKind.wrap .i64 ((y_5.2.st.Data.length:Int)-1))).bind λ v_20=>some (decide (v_20 < 0))) (some false))) (cond (t_1.Kind==4) ((getI y_5.2.st.Data (IntKind.wrap .i64 ((y_5.2.st.Data.length:Int)-1))).bind λ v_21=>some (decide (v_21 < 0))) (some false)):Option (Bool)).bind λ v_18=>cond v_18 ((rc_g_impl_meaning_all t_1.Kids y_5.2).bind λ y_22=>some (.inr (y_22.1,y_22.2))) (some (.inl y_5.2)))) (cond (t_1.Kind==6) ((g_impl_meaning_loop_p rc_g_impl_meaning_all t_1.Kids y_5.2).bind λ y_23=>some (.inr (y_23.1,y_23.2))) (some (.inl y_5.2))))))):Option (GMeaning ⊕ (Bool×GMeaning))).bind λ o=>match o with | .inl x_6=>some (false,x_6) | .inr (v_7,x_8)=>some (v_7,x_8))
def g_impl_meaning_all_l0 (rc_g_impl_meaning_all:(List GTree)->GMeaning->Option (Bool×GMeaning)) (v_8:List GTree) (v_9:Int):Nat->Int->GMeaning->Option (GMeaning ⊕ (Bool×GMeaning))
 | 0,_,_=>none
 | k+1,v_10,x_11=>cond (decide (v_10 < v_9)) ((getI v_8 v_10).bind λ v_15=>(g_impl_meaning_one_p rc_g_impl_meaning_all (⟨v_15.Kind,v_15.N,v_15.Kids⟩:GTree) x_11).bind λ y_16=>cond y_16.1 (some (.inr (true,y_16.2))) (cond (y_16.2.st.Fault != 0) (some (.inr (false,y_16.2))) (g_impl_meaning_all_l0 rc_g_impl_meaning_all v_8 v_9 k (IntKind.wrap .i64 (v_10+1)) y_16.2))) (some (.inl x_11))
def g_impl_meaning_all_b (rc_g_impl_meaning_all:(List GTree)->GMeaning->Option (Bool×GMeaning)) (list_1:List GTree) (m_2:GMeaning):Option (Bool×GMeaning):=((g_impl_meaning_all_l0 rc_g_impl_meaning_all list_1 (list_1.length:Int) bigK 0 m_2).bind λ o=>match o with | .inl x_12=>some (.inl x_12) | .inr (v_13,x_14)=>some (.inr (v_13,x_14)):Option (GMeaning ⊕ (Bool×GMeaning))).bind λ o=>match o with | .inl x_5=>some (false,x_5) | .inr (v_6,x_7)=>some (v_6,x_7)
def g_impl_meaning_all_r:Nat->(List GTree)->GMeaning->Option (Bool×GMeaning)
 | 0=>λ _ _=>none
 | k+1=>g_impl_meaning_all_b (g_impl_meaning_all_r k)
def g_impl_meaning_all (list_1:List GTree) (m_2:GMeaning):Option (Bool×GMeaning):=g_impl_meaning_all_r bigK list_1 m_2
def g_impl_meaning_enter (k_1:Int) (m_2:GMeaning):Option GMeaning:=g_impl_meaning_enter_p g_impl_meaning_all k_1 m_2
def g_laws_big (code_1:List Int):Option Bool:=some (decide ((code_1.length:Int) > 1048576))
def g_spec_l01New_l0 (code_1:List Int):Nat->Int->Int->Option Int
 | 0,_,_=>none
 | k+1,h_4,i_5=>(cond (decide (i_5 < (code_1.length:Int))) (some (decide (i_5 < 4000))) (some false):Option (Bool)).bind λ v_7=>cond v_7 ((getI code_1 i_5).bind λ v_8=>g_spec_l01New_l0 code_1 k (andI .i64 (IntKind.wrap .i64 ((IntKind.wrap .i64 ((IntKind.wrap .i64 (h_4*131))+(IntKind.wrap .i64 v_8)))+7)) 1073741823) (IntKind.wrap .i64 (i_5+1))) (some h_4)
def g_spec_l01New (code_1:List Int):Option GL01Cur:=((g_spec_l01New_l0 code_1 bigK (IntKind.wrap .i64 (711711+(code_1.length:Int))) 0).bind λ h_6=>some h_6:Option (Int)).bind λ h_3=>some (⟨code_1,0,h_3⟩:GL01Cur)
def g_spec_l01Byte (c_1:GL01Cur):Option (Int×GL01Cur):=(cond (decide (c_1.i < (c_1.b.length:Int))) ((getI c_1.b c_1.i).bind λ v_6=>some (andI .i64 (IntKind.wrap .i64 ((andI .i64 (xorI .i64 ((IntKind.wrap .i64 ((IntKind.wrap .i64 (c_1.h*6364136223846793005))+1442695040888963407)) / 8589934592) ((IntKind.wrap .i64 ((IntKind.wrap .i64 (c_1.h*6364136223846793005))+1442695040888963407)) / 35184372088832)) 255)+(IntKind.wrap .i64 v_6))) 255,(⟨c_1.b,IntKind.wrap .i64 (c_1.i+1),IntKind.wrap .i64 ((IntKind.wrap .i64 (c_1.h*6364136223846793005))+1442695040888963407)⟩:GL01Cur))) (some (andI .i64 (xorI .i64 ((IntKind.wrap .i64 ((IntKind.wrap .i64 (c_1.h*6364136223846793005))+1442695040888963407)) / 8589934592) ((IntKind.wrap .i64 ((IntKind.wrap .i64 (c_1.h*6364136223846793005))+1442695040888963407)) / 35184372088832)) 255,(⟨c_1.b,c_1.i,IntKind.wrap .i64 ((IntKind.wrap .i64 (c_1.h*6364136223846793005))+1442695040888963407)⟩:GL01Cur))):Option ((Int×GL01Cur))).bind λ (x_4,x_5)=>some (x_4,x_5)
def g_spec_l01Below (n_1:Int) (c_2:GL01Cur):Option (Int×GL01Cur):=cond (decide (n_1<=0)) (some (0,c_2)) (cond (decide (n_1<=256)) ((g_spec_l01Byte c_2).bind λ y_5=>(remI .i64 y_5.1 n_1).bind λ v_6=>some (v_6,y_5.2)) ((g_spec_l01Byte c_2).bind λ y_7=>(g_spec_l01Byte y_7.2).bind λ y_8=>(g_spec_l01Byte y_8.2).bind λ y_9=>(g_spec_l01Byte y_9.2).bind λ y_10=>(remI .i64 (IntKind.wrap .i64 ((IntKind.wrap .i64 ((IntKind.wrap .i64 ((IntKind.wrap .i64 (y_7.1*16777216))+(IntKind.wrap .i64 (y_8.1*65536))))+(IntKind.wrap .i64 (y_9.1*256))))+y_10.1)) n_1).bind λ v_11=>some (v_11,y_10.2)))
def g_spec_l01PickInt (list_1:List Int) (c_2:GL01Cur):Option (Int×GL01Cur):=(g_spec_l01Below (list_1.length:Int) c_2).bind λ y_5=>(getI list_1 y_5.1).bind λ v_6=>some (v_6,y_5.2)
def g_spec_l09Plain (n_1:Int) (c_2:GL01Cur):Option (GOp×GL01Cur):=((g_spec_l01Below 7 c_2).bind λ y_9=>(cond (y_9.1==0) (some (y_9.1==0)) (some (y_9.1==1)):Option (Bool)).bind λ v_10=>cond v_10 ((g_spec_l01Below 9 y_9.2).bind λ y_11=>some (.inr (y_11.2,(⟨0,IntKind.wrap .i32 (IntKind.wrap .i64 (y_11.1-2))⟩:GOp)))) (cond (y_9.1==2) (cond (decide (n_1 > 0)) ((g_spec_l01Below n_1 y_9.2).bind λ y_12=>some (.inr (y_12.2,(⟨2,IntKind.wrap .i32 y_12.1⟩:GOp)))) (some (.inl (y_9.2,(⟨0,0⟩:GOp))))) (some (.inl (y_9.2,(⟨0,0⟩:GOp))))):Option ((GL01Cur×GOp) ⊕ (GL01Cur×GOp))).bind λ o=>match o with | .inl (x_5,x_6)=>(g_spec_l01PickInt [0,0,1,2,3,4,5,5,6,7,8,9,10,11,12,13,14,15,16,17,18,19,20,21,22,22,23] x_5).bind λ y_13=>some ((⟨1,IntKind.wrap .i32 y_13.1⟩:GOp),y_13.2) | .inr (x_7,x_8)=>some (x_8,x_7)
def g_spec_l01Once (n_1:Int) (c_2:GL01Cur):Option (Bool×GL01Cur):=(g_spec_l01Below n_1 c_2).bind λ y_5=>some ((y_5.1==0),y_5.2)
def g_spec_l09Body_l0 (rc_g_spec_l09Body:Int->Int->GL01Cur->Option ((List GOp)×GL01Cur)) (n_1:Int) (deep_2:Int) (k_9:Int):Nat->(List GOp)->Int->GL01Cur->Option ((List GOp)×GL01Cur)
 | 0,_,_,_=>none
 | k+1,out_10,i_11,x_12=>cond (decide (i_11 < k_9)) (((g_spec_l09Plain n_1 x_12).bind λ y_17=>(app out_10 [y_17.1]).bind λ v_18=>(cond (decide (deep_2<=0)) (some (true,y_17.2)) ((g_spec_l01Once 3 y_17.2).bind λ y_21=>some ((!y_21.1),y_21.2)):Option ((Bool×GL01Cur))).bind λ (v_19,x_20)=>cond v_19 (some (v_18,x_20)) ((rc_g_spec_l09Body n_1 (IntKind.wrap .i64 (deep_2-1)) x_20).bind λ y_22=>(g_spec_l01Below 3 y_22.2).bind λ y_23=>cond (y_23.1==0) ((g_spec_l01Below 4 y_23.2).bind λ y_24=>(app v_18 [(⟨0,IntKind.wrap .i32 y_24.1⟩:GOp),(⟨6,0⟩:GOp)]).bind λ v_25=>(app v_25 y_22.1).bind λ v_26=>(app v_26 [(⟨7,0⟩:GOp)]).bind λ v_27=>some (v_27,y_24.2)) (cond (y_23.1==1) ((app v_18 [(⟨3,0⟩:GOp)]).bind λ v_28=>(app v_28 y_22.1).bind λ v_29=>(app v_29 [(⟨5,0⟩:GOp)]).bind λ v_30=>some (v_30,y_23.2)) ((app v_18 [(⟨4,0⟩:GOp)]).bind λ v_31=>(app v_31 y_22.1).bind λ v_32=>(app v_32 [(⟨5,0⟩:GOp)]).bind λ v_33=>some (v_33,y_23.2)))):Option (((List GOp)×GL01Cur))).bind λ (out_15,x_16)=>g_spec_l09Body_l0 rc_g_spec_l09Body n_1 deep_2 k_9 k out_15 (IntKind.wrap .i64 (i_11+1)) x_16) (some (out_10,x_12))
def g_spec_l09Body_b (rc_g_spec_l09Body:Int->Int->GL01Cur->Option ((List GOp)×GL01Cur)) (n_1:Int) (deep_2:Int) (c_3:GL01Cur):Option ((List GOp)×GL01Cur):=(g_spec_l01Below 5 c_3).bind λ y_6=>((g_spec_l09Body_l0 rc_g_spec_l09Body n_1 deep_2 y_6.1 bigK ([]:List GOp) 0 y_6.2).bind λ (out_13,x_14)=>some (out_13,x_14):Option (((List GOp)×GL01Cur))).bind λ (out_7,x_8)=>((g_spec_l01Once 4 x_8).bind λ y_36=>cond y_36.1 ((app out_7 [(⟨8,0⟩:GOp)]).bind λ v_37=>some (v_37,y_36.2)) (some (out_7,y_36.2)):Option (((List GOp)×GL01Cur))).bind λ (out_34,x_35)=>some (out_34,x_35)
def g_spec_l09Body_r:Nat->Int->Int->GL01Cur->Option ((List GOp)×GL01Cur)
 | 0=>λ _ _ _=>none
 | k+1=>g_spec_l09Body_b (g_spec_l09Body_r k)
def g_spec_l09Body (n_1:Int) (deep_2:Int) (c_3:GL01Cur):Option ((List GOp)×GL01Cur):=g_spec_l09Body_r bigK n_1 deep_2 c_3
def g_spec_l09Any_l0:Nat->(List GOp)->GL01Cur->Option ((List GOp)×GL01Cur)
 | 0,_,_=>none
 | k+1,body_17,x_18=>(g_spec_l01Below 4 x_18).bind λ y_21=>cond (decide ((body_17.length:Int) < (IntKind.wrap .i64 (58+y_21.1)))) ((app body_17 [(⟨0,1⟩:GOp)]).bind λ v_22=>g_spec_l09Any_l0 k v_22 y_21.2) (some (body_17,y_21.2))
def g_spec_l09Any (c_1:GL01Cur):Option ((List GOp)×GL01Cur):=(g_spec_l09Body 3 3 c_1).bind λ y_4=>((g_spec_l01Below 8 y_4.2).bind λ y_9=>cond (y_9.1==0) ((g_spec_l01Below 11 y_9.2).bind λ y_10=>(g_spec_l01Below 3 y_10.2).bind λ y_11=>(app y_4.1 [(⟨IntKind.wrap .i64 (y_10.1-1),IntKind.wrap .i32 y_11.1⟩:GOp)]).bind λ v_12=>some (.inr (v_12,y_11.2))) (cond (y_9.1==1) (cond (decide ((y_4.1.length:Int) > 0)) ((g_spec_l01Below (y_4.1.length:Int) y_9.2).bind λ y_13=>(g_spec_l01Below 11 y_13.2).bind λ y_14=>(g_spec_l01PickInt [0,23,24,(-1)] y_14.2).bind λ y_15=>(getI y_4.1 y_13.1).bind λ v_16=>some (.inl (y_4.1.set y_13.1.toNat (⟨IntKind.wrap .i64 (y_14.1-1),IntKind.wrap .i32 y_15.1⟩:GOp),y_15.2))) (some (.inl (y_4.1,y_9.2)))) (cond (y_9.1==2) ((g_spec_l09Any_l0 bigK y_4.1 y_9.2).bind λ (body_19,x_20)=>some (.inl (body_19,x_20))) (some (.inl (y_4.1,y_9.2))))):Option (((List GOp)×GL01Cur) ⊕ ((List GOp)×GL01Cur))).bind λ o=>match o with | .inl (body_5,x_6)=>some (body_5,x_6) | .inr (v_7,x_8)=>some (v_7,x_8)
def g_spec_DrawFalls (code_1:List Int):Option (List GOp):=(g_spec_l01New code_1).bind λ y_3=>(g_spec_l09Any y_3).bind λ y_4=>some y_4.1
def g_impl_opOk (o_1:GOp):Option Bool:=cond (o_1.Kind==0) (some true) (cond (o_1.Kind==1) ((g_impl_PrimName (IntKind.wrap .i64 o_1.N)).bind λ y_3=>some (y_3 != [])) (cond (o_1.Kind==2) ((g_impl_within (IntKind.wrap .i64 o_1.N) 0 23).bind λ y_4=>some y_4) ((g_impl_within o_1.Kind 3 8).bind λ y_5=>cond y_5 (some (o_1.N==0)) (some false))))
def g_impl_openIn_l0 (v_7:List GOp) (v_8:Int):Nat->(List Int)->Int->Option ((List Int) ⊕ ((List Int)×Bool))
 | 0,_,_=>none
 | k+1,vopen_9,v_10=>cond (decide (v_10 < v_8)) (((getI v_7 v_10).bind λ v_17=>(g_impl_opOk v_17).bind λ y_18=>cond (!y_18) (some (.inr ([],false))) ((cond (v_17.Kind==3) (some true) (cond (v_17.Kind==4) (some true) (some (v_17.Kind==6))):Option (Bool)).bind λ v_19=>cond v_19 ((app vopen_9 [v_17.Kind]).bind λ v_20=>some (.inl v_20)) ((cond (v_17.Kind==5) (some true) (some (v_17.Kind==7)):Option (Bool)).bind λ v_21=>cond v_21 ((cond (decide ((IntKind.wrap .i64 ((vopen_9.length:Int)-1)) < 0)) (some true) ((getI vopen_9 (IntKind.wrap .i64 ((vopen_9.length:Int)-1))).bind λ v_23=>some ((v_23==6) != (v_17.Kind==7))):Option (Bool)).bind λ v_22=>cond v_22 (some (.inr ([],false))) ((subL vopen_9 0 (IntKind.wrap .i64 ((vopen_9.length:Int)-1))).bind λ v_24=>some (.inl v_24))) (some (.inl vopen_9)))):Option ((List Int) ⊕ ((List Int)×Bool))).bind λ o=>match o with | .inl vopen_14=>g_impl_openIn_l0 v_7 v_8 k vopen_14 (IntKind.wrap .i64 (v_10+1)) | .inr (v_15,v_16)=>some (.inr (v_15,v_16))) (some (.inl vopen_9))
def g_impl_openIn (body_1:List GOp):Option ((List Int)×Bool):=((g_impl_openIn_l0 body_1 (body_1.length:Int) bigK ([]:List Int) 0).bind λ o=>match o with | .inl vopen_11=>some (.inl vopen_11) | .inr (v_12,v_13)=>some (.inr (v_12,v_13)):Option ((List Int) ⊕ ((List Int)×Bool))).bind λ o=>match o with | .inl vopen_4=>some (vopen_4,decide ((body_1.length:Int)<=60)) | .inr (v_5,v_6)=>some (v_5,v_6)
def g_impl_ShapeOk (body_1:List GOp):Option Bool:=(g_impl_openIn body_1).bind λ y_3=>cond y_3.2 (some ((y_3.1.length:Int)==0)) (some false)
def g_impl_Falls (body_1:List GOp):Option Bool:=(g_impl_ShapeOk body_1).bind λ y_3=>cond y_3 (cond ((body_1.length:Int)==0) (some true) ((getI body_1 (IntKind.wrap .i64 ((body_1.length:Int)-1))).bind λ v_4=>some (v_4.Kind != 8))) (some false)
def g_spec_l08Names:Option (List Bs):=some [[100,117,112],[100,114,111,112],[111,118,101,114],[110,105,112],[115,119,97,112],[43],[45],[42],[97,110,100],[111,114],[50,42],[50,47],[47,109,111,100],[64],[33],[97],[97,33],[101,109,105,116],[107,101,121],[112,117,115,104],[112,111,112],[105],[46],[110,111,112]]
def g_spec_l01In (x_1:Int) (a_2:Int) (b_3:Int):Option Bool:=cond (decide (x_1 ≥ a_2)) (some (decide (x_1<=b_3))) (some false)
def g_spec_PrimName (k_1:Int):Option Bs:=(g_spec_l08Names).bind λ y_3=>(g_spec_l01In k_1 0 (IntKind.wrap .i64 ((y_3.length:Int)-1))).bind λ y_4=>cond (!y_4) (some []) ((getI y_3 k_1).bind λ v_5=>some v_5)
def g_spec_l09Op (o_1:GOp):Option Bool:=cond (o_1.Kind==0) (some true) (cond (o_1.Kind==1) ((g_spec_PrimName (IntKind.wrap .i64 o_1.N)).bind λ y_3=>some (y_3 != [])) (cond (o_1.Kind==2) ((g_spec_l01In (IntKind.wrap .i64 o_1.N) 0 23).bind λ y_4=>some y_4) ((g_spec_l01In o_1.Kind 3 8).bind λ y_5=>cond y_5 (some (o_1.N==0)) (some false))))
def g_spec_l09Open_l0 (body_1:List GOp):Nat->(List Int)->Int->Option ((List Int) ⊕ Bool)
 | 0,_,_=>none
 | k+1,vopen_6,i_7=>cond (decide (i_7 < (body_1.length:Int))) (((getI body_1 i_7).bind λ v_12=>(cond (v_12.Kind==3) (some (v_12.Kind==3)) (cond (v_12.Kind==4) (some (v_12.Kind==4)) (some (v_12.Kind==6))):Option (Bool)).bind λ v_13=>cond v_13 ((app vopen_6 [v_12.Kind]).bind λ v_14=>some (.inl v_14)) ((cond (v_12.Kind==5) (some (v_12.Kind==5)) (some (v_12.Kind==7)):Option (Bool)).bind λ v_15=>cond v_15 ((cond ((vopen_6.length:Int)==0) (some true) ((getI vopen_6 (IntKind.wrap .i64 ((vopen_6.length:Int)-1))).bind λ v_17=>some ((v_17==6) != (v_12.Kind==7))):Option (Bool)).bind λ v_16=>cond v_16 (some (.inr false)) ((subL vopen_6 0 (IntKind.wrap .i64 ((vopen_6.length:Int)-1))).bind λ v_18=>some (.inl v_18))) (some (.inl vopen_6))):Option ((List Int) ⊕ Bool)).bind λ o=>match o with | .inl vopen_10=>g_spec_l09Open_l0 body_1 k vopen_10 (IntKind.wrap .i64 (i_7+1)) | .inr v_11=>some (.inr v_11)) (some (.inl vopen_6))
def g_spec_l09Open (body_1:List GOp):Option ((List Int)×Bool):=((g_spec_l09Open_l0 body_1 bigK ([]:List Int) 0).bind λ o=>match o with | .inl vopen_8=>some (.inl vopen_8) | .inr v_9=>some (.inr v_9):Option ((List Int) ⊕ Bool)).bind λ o=>match o with | .inl vopen_4=>some (vopen_4,true) | .inr v_5=>some ([],v_5)
def g_spec_ShapeOk_l0 (body_1:List GOp):Nat->Int->Option (Unit ⊕ Bool)
 | 0,_=>none
 | k+1,i_4=>cond (decide (i_4 < (body_1.length:Int))) ((getI body_1 i_4).bind λ v_6=>(g_spec_l09Op v_6).bind λ y_7=>cond (!y_7) (some (.inr false)) (g_spec_ShapeOk_l0 body_1 k (IntKind.wrap .i64 (i_4+1)))) (some (.inl ()))
def g_spec_ShapeOk (body_1:List GOp):Option Bool:=cond (decide ((body_1.length:Int) > 60)) (some false) (((g_spec_ShapeOk_l0 body_1 bigK 0).bind λ o=>match o with | .inl ()=>some (.inl ()) | .inr v_5=>some (.inr v_5):Option (Unit ⊕ Bool)).bind λ o=>match o with | .inl ()=>(g_spec_l09Open body_1).bind λ y_8=>cond y_8.2 (some ((y_8.1.length:Int)==0)) (some false) | .inr v_3=>some v_3)
def g_spec_Falls (body_1:List GOp):Option Bool:=(g_spec_ShapeOk body_1).bind λ y_3=>cond y_3 (cond ((body_1.length:Int)==0) (some true) ((getI body_1 (IntKind.wrap .i64 ((body_1.length:Int)-1))).bind λ v_4=>some (v_4.Kind != 8))) (some false)
def g_spec_l01Pick (list_1:List Bs) (c_2:GL01Cur):Option (Bs×GL01Cur):=(g_spec_l01Below (list_1.length:Int) c_2).bind λ y_5=>(getI list_1 y_5.1).bind λ v_6=>some (v_6,y_5.2)
def g_spec_l09Make_l0 (n_7:Int):Nat->(List GDef)->Int->GL01Cur->Option ((List GDef)×GL01Cur)
 | 0,_,_,_=>none
 | k+1,out_8,i_9,x_10=>cond (decide (i_9 < n_7)) ((((g_spec_l01Once 4 x_10).bind λ y_17=>cond y_17.1 (some (n_7,y_17.2)) (some (i_9,y_17.2)):Option ((Int×GL01Cur))).bind λ (calls_15,x_16)=>(g_spec_l09Body calls_15 2 x_16).bind λ y_18=>(cond (decide ((y_18.1.length:Int) > 50)) (some ([]:List GOp)) (some y_18.1):Option ((List GOp))).bind λ body_19=>((g_spec_l01Below 6 y_18.2).bind λ y_22=>cond (y_22.1==0) (some (body_19,y_22.2)) (cond (y_22.1==1) ((cond (decide (calls_15 > 0)) ((g_spec_l01Below calls_15 y_22.2).bind λ y_25=>(app body_19 [(⟨2,IntKind.wrap .i32 y_25.1⟩:GOp)]).bind λ v_26=>some (v_26,y_25.2)) (some (body_19,y_22.2)):Option (((List GOp)×GL01Cur))).bind λ (body_23,x_24)=>(app body_23 [(⟨8,0⟩:GOp)]).bind λ v_27=>some (v_27,x_24)) ((app body_19 [(⟨8,0⟩:GOp)]).bind λ v_28=>some (v_28,y_22.2))):Option (((List GOp)×GL01Cur))).bind λ (body_20,x_21)=>(g_spec_l01Pick [[103,111],[120],[115,113,117,97,114,101],[97,33,97],[116,101,110]] x_21).bind λ y_29=>(app out_8 [(⟨y_29.1,body_20⟩:GDef)]).bind λ v_30=>some (v_30,y_29.2):Option (((List GDef)×GL01Cur))).bind λ (out_13,x_14)=>g_spec_l09Make_l0 n_7 k out_13 (IntKind.wrap .i64 (i_9+1)) x_14) (some (out_8,x_10))
def g_spec_l09Make (c_1:GL01Cur):Option ((List GDef)×GL01Cur):=(g_spec_l01Below 4 c_1).bind λ y_4=>((g_spec_l09Make_l0 (IntKind.wrap .i64 (1+y_4.1)) bigK ([]:List GDef) 0 y_4.2).bind λ (out_11,x_12)=>some (out_11,x_12):Option (((List GDef)×GL01Cur))).bind λ (out_5,x_6)=>some (out_5,x_6)
def g_spec_NewStore (n_1:Int):Option GStore:=(g_spec_l01In n_1 0 12).bind λ y_3=>cond (!y_3) (some (⟨[]⟩:GStore)) ((mk (0:Int) (IntKind.wrap .i64 (n_1*64))).bind λ v_4=>some (⟨v_4⟩:GStore))
def g_spec_l04Int (c_1:GL01Cur):Option (Int×GL01Cur):=(g_spec_l01Once 2 c_1).bind λ y_4=>cond y_4.1 ((g_spec_l01Below 200 y_4.2).bind λ y_5=>some (IntKind.wrap .i32 (IntKind.wrap .i64 (y_5.1-40)),y_5.2)) ((g_spec_l01PickInt [0,67108863,67108864,(-67108864),(-67108865),2147483647,(-2147483648),1000000,(-1)] y_4.2).bind λ y_6=>some (IntKind.wrap .i32 y_6.1,y_6.2))
def g_spec_l02All:Option Bs:=some [32,114,116,111,101,97,110,105,115,109,99,121,108,103,102,119,100,118,112,98,104,120,117,113,48,49,50,51,52,53,54,55,56,57,106,45,107,46,122,47,59,39,33,43,64,42,44,63]
def g_spec_LetterAt (k_1:Int):Option Int:=(g_spec_l01In k_1 0 47).bind λ y_3=>cond (!y_3) (some 0) ((g_spec_l02All).bind λ y_4=>(idxS y_4 k_1).bind λ v_5=>some v_5)
def g_spec_l02Name_l0 (n_10:Int):Nat->(List Int)->Int->GL01Cur->Option ((List Int)×GL01Cur)
 | 0,_,_,_=>none
 | k+1,out_11,i_12,x_13=>cond (decide (i_12 < n_10)) ((g_spec_l01Below 47 x_13).bind λ y_16=>(g_spec_LetterAt (IntKind.wrap .i64 (1+y_16.1))).bind λ y_17=>(app out_11 [y_17]).bind λ v_18=>g_spec_l02Name_l0 n_10 k v_18 (IntKind.wrap .i64 (i_12+1)) y_16.2) (some (out_11,x_13))
def g_spec_l02Name (c_1:GL01Cur):Option (Bs×GL01Cur):=(g_spec_l01Once 2 c_1).bind λ y_4=>cond y_4.1 ((g_spec_l01Pick [[100,117,112],[111,118,101,114],[115,113,117,97,114,101],[97,33],[50,42],[103,111],[45,105,102],[59],[63],[114,114,114,114,114,114,114],[114,116,111,101,97,110,105],[119,119,119,119,119,119],[113,113,113,113,113],[120]] y_4.2).bind λ y_5=>some (y_5.1,y_5.2)) ((g_spec_l01Below 9 y_4.2).bind λ y_6=>((g_spec_l02Name_l0 (IntKind.wrap .i64 (1+y_6.1)) bigK ([]:List Int) 0 y_6.2).bind λ (out_14,x_15)=>some (out_14,x_15):Option (((List Int)×GL01Cur))).bind λ (out_7,x_8)=>some (strOf out_7,x_8))
def g_spec_l04Some (c_1:GL01Cur):Option (GItem×GL01Cur):=(g_spec_l01Below 8 c_1).bind λ y_4=>cond (y_4.1==0) ((g_spec_l04Int y_4.2).bind λ y_5=>(g_spec_l01Once 3 y_5.2).bind λ y_6=>some ((⟨7,[],y_5.1,y_6.1,0⟩:GItem),y_6.2)) (cond (y_4.1==1) ((g_spec_l04Int y_4.2).bind λ y_7=>(g_spec_l01Once 3 y_7.2).bind λ y_8=>some ((⟨8,[],y_7.1,y_8.1,0⟩:GItem),y_8.2)) (cond (y_4.1==2) ((g_spec_l01Pick [[120],[97,116],[113,113,113,113],[116,101,110]] y_4.2).bind λ y_9=>(g_spec_l04Int y_9.2).bind λ y_10=>some ((⟨9,y_9.1,y_10.1,false,0⟩:GItem),y_10.2)) ((g_spec_l01Below 6 y_4.2).bind λ y_11=>(g_spec_l02Name y_11.2).bind λ y_12=>some ((⟨IntKind.wrap .i64 (1+y_11.1),y_12.1,0,false,0⟩:GItem),y_12.2))))
def g_spec_l04Num (n_1:Int) (hex_2:Bool) (short_3:Int) (long_4:Int):Option (List Int):=(cond hex_2 (some 16) (some 0):Option (Int)).bind λ bit_6=>(cond (decide (n_1 ≥ (-67108864))) (some (decide (n_1<=67108863))) (some false):Option (Bool)).bind λ v_7=>cond v_7 (some [IntKind.wrap .u32 ((IntKind.wrap .u32 ((IntKind.wrap .u32 ((IntKind.wrap .u32 n_1)*32))+bit_6))+short_3)]) (some [IntKind.wrap .u32 (bit_6+long_4),IntKind.wrap .u32 n_1])
def g_spec_LetterOf_l0 (b_1:Int) (y_3:Bs):Nat->Int->Option (Unit ⊕ Int)
 | 0,_=>none
 | k+1,i_5=>cond (decide (i_5 < (y_3.length:Int))) ((idxS y_3 i_5).bind λ v_7=>cond (v_7==b_1) (some (.inr i_5)) (g_spec_LetterOf_l0 b_1 y_3 k (IntKind.wrap .i64 (i_5+1)))) (some (.inl ()))
def g_spec_LetterOf (b_1:Int):Option Int:=(g_spec_l02All).bind λ y_3=>((g_spec_LetterOf_l0 b_1 y_3 bigK 0).bind λ o=>match o with | .inl ()=>some (.inl ()) | .inr v_6=>some (.inr v_6):Option (Unit ⊕ Int)).bind λ o=>match o with | .inl ()=>some (-1) | .inr v_4=>some v_4
def g_spec_NameOk_l0 (s_1:Bs):Nat->Int->Option (Unit ⊕ Bool)
 | 0,_=>none
 | k+1,i_5=>cond (decide (i_5 < (s_1.length:Int))) ((idxS s_1 i_5).bind λ v_7=>(g_spec_LetterOf v_7).bind λ y_8=>cond (decide (y_8 < 1)) (some (.inr false)) (g_spec_NameOk_l0 s_1 k (IntKind.wrap .i64 (i_5+1)))) (some (.inl ()))
def g_spec_NameOk (s_1:Bs):Option Bool:=(g_spec_l01In (s_1.length:Int) 1 24).bind λ y_3=>cond (!y_3) (some false) (((g_spec_NameOk_l0 s_1 bigK 0).bind λ o=>match o with | .inl ()=>some (.inl ()) | .inr v_6=>some (.inr v_6):Option (Unit ⊕ Bool)).bind λ o=>match o with | .inl ()=>some true | .inr v_4=>some v_4)
def g_spec_WidthOf (k_1:Int):Option Int:=(g_spec_l01In k_1 0 7).bind λ y_3=>cond y_3 (some 4) ((g_spec_l01In k_1 8 15).bind λ y_4=>cond y_4 (some 5) ((g_spec_l01In k_1 16 47).bind λ y_5=>cond y_5 (some 7) (some 0)))
def g_spec_BitsOf (k_1:Int):Option Int:=(g_spec_WidthOf k_1).bind λ y_3=>cond (y_3==4) (some (IntKind.wrap .u32 k_1)) (cond (y_3==5) (some (IntKind.wrap .u32 (IntKind.wrap .i64 (k_1+8)))) (cond (y_3==7) (some (IntKind.wrap .u32 (IntKind.wrap .i64 (k_1+80)))) (some 0)))
def g_spec_l03One_l0 (s_1:Bs):Nat->Int->Int->Int->Option (Int×Int)
 | 0,_,_,_=>none
 | k+1,f_6,left_7,n_8=>cond (decide (n_8 < (s_1.length:Int))) ((idxS s_1 n_8).bind λ v_11=>(g_spec_LetterOf v_11).bind λ y_12=>(g_spec_WidthOf y_12).bind λ y_13=>cond (decide (y_13 > left_7)) (some (f_6,n_8)) ((g_spec_BitsOf y_12).bind λ y_14=>(shlI .i64 (IntKind.wrap .i64 y_14) (IntKind.wrap .u64 (IntKind.wrap .i64 (left_7-y_13)))).bind λ v_15=>g_spec_l03One_l0 s_1 k (IntKind.wrap .i64 (f_6+v_15)) (IntKind.wrap .i64 (left_7-y_13)) (IntKind.wrap .i64 (n_8+1)))) (some (f_6,n_8))
def g_spec_l03One (s_1:Bs):Option (Int×Int):=(g_spec_l03One_l0 s_1 bigK 0 28 0).bind λ (f_9,n_10)=>some (IntKind.wrap .u32 f_9,n_10)
def g_spec_Pack_l0:Nat->Bs->(List Int)->Option (List Int)
 | 0,_,_=>none
 | k+1,s_4,out_5=>cond (s_4 != []) ((g_spec_l03One s_4).bind λ y_7=>(app out_5 [y_7.1]).bind λ v_8=>(subL s_4 y_7.2 (s_4.length:Int)).bind λ v_9=>g_spec_Pack_l0 k v_9 v_8) (some out_5)
def g_spec_Pack (s_1:Bs):Option (List Int):=(g_spec_NameOk s_1).bind λ y_3=>cond (!y_3) (some ([]:List Int)) ((g_spec_Pack_l0 bigK s_1 ([]:List Int)).bind λ out_6=>some out_6)
def g_spec_l04Word_l0 (tag_1:Int):Nat->(List Int)->Int->Option (List Int)
 | 0,_,_=>none
 | k+1,out_6,i_7=>cond (decide (i_7 < (out_6.length:Int))) (((getI out_6 i_7).bind λ v_10=>(getI out_6 i_7).bind λ v_11=>cond (i_7==0) ((getI (out_6.set i_7.toNat (IntKind.wrap .u32 (v_10*16))) i_7).bind λ v_12=>(getI (out_6.set i_7.toNat (IntKind.wrap .u32 (v_10*16))) i_7).bind λ v_13=>some ((out_6.set i_7.toNat (IntKind.wrap .u32 (v_10*16))).set i_7.toNat (IntKind.wrap .u32 (v_12+tag_1)))) (some (out_6.set i_7.toNat (IntKind.wrap .u32 (v_10*16)))):Option ((List Int))).bind λ out_9=>g_spec_l04Word_l0 tag_1 k out_9 (IntKind.wrap .i64 (i_7+1))) (some out_6)
def g_spec_l04Word (tag_1:Int) (name_2:Bs):Option (List Int):=(g_spec_Pack name_2).bind λ y_4=>((g_spec_l04Word_l0 tag_1 bigK y_4 0).bind λ out_8=>some out_8:Option ((List Int))).bind λ out_5=>some out_5
def g_spec_l04Tag (kind_1:Int):Option Int:=cond (kind_1==1) (some 1) (cond (kind_1==2) (some 3) (cond (kind_1==3) (some 4) (cond (kind_1==4) (some 9) (cond (kind_1==5) (some 10) (cond (kind_1==6) (some 11) (some 0))))))
def g_spec_CellsOf (it_1:GItem):Option (List Int):=(cond (it_1.N==0) (cond (!it_1.Hex) (some (it_1.Raw==0)) (some false)) (some false):Option (Bool)).bind λ plain_3=>(cond (it_1.Kind==0) ((cond (it_1.Name==[]) (cond (it_1.N==0) (some (!it_1.Hex)) (some false)) (some false):Option (Bool)).bind λ v_5=>cond v_5 (some (.inr [it_1.Raw])) (some (.inl ()))) (cond (it_1.Kind==7) ((cond (it_1.Name==[]) (some (it_1.Raw==0)) (some false):Option (Bool)).bind λ v_6=>cond v_6 ((g_spec_l04Num it_1.N it_1.Hex 8 2).bind λ y_7=>some (.inr y_7)) (some (.inl ()))) (cond (it_1.Kind==8) ((cond (it_1.Name==[]) (some (it_1.Raw==0)) (some false):Option (Bool)).bind λ v_8=>cond v_8 ((g_spec_l04Num it_1.N it_1.Hex 6 5).bind λ y_9=>some (.inr y_9)) (some (.inl ()))) (cond (it_1.Kind==9) ((g_spec_l04Word 12 it_1.Name).bind λ y_10=>(cond ((y_10.length:Int)==1) (cond (!it_1.Hex) (some (it_1.Raw==0)) (some false)) (some false):Option (Bool)).bind λ v_11=>cond v_11 ((app y_10 [IntKind.wrap .u32 it_1.N]).bind λ v_12=>some (.inr v_12)) (some (.inl ()))) ((g_spec_l04Tag it_1.Kind).bind λ y_13=>(cond (decide (y_13 > 0)) (some plain_3) (some false):Option (Bool)).bind λ v_14=>cond v_14 ((g_spec_l04Word y_13 it_1.Name).bind λ y_15=>some (.inr y_15)) (some (.inl ())))))):Option (Unit ⊕ (List Int))).bind λ o=>match o with | .inl ()=>some ([]:List Int) | .inr v_4=>some v_4
def g_spec_l01Word (c_1:GL01Cur):Option (Int×GL01Cur):=(g_spec_l01Below 4 c_1).bind λ y_4=>cond (y_4.1==0) ((g_spec_l01PickInt [0,1,2,31,32,255,256,2147483647,2147483648,4294967295,4294967294] y_4.2).bind λ y_5=>some (IntKind.wrap .u32 y_5.1,y_5.2)) (cond (y_4.1==1) ((g_spec_l01Below 300 y_4.2).bind λ y_6=>some (IntKind.wrap .u32 y_6.1,y_6.2)) ((g_spec_l01Below 65536 y_4.2).bind λ y_7=>(g_spec_l01Below 65536 y_7.2).bind λ y_8=>some (IntKind.wrap .u32 ((IntKind.wrap .u32 ((IntKind.wrap .u32 y_7.1)*65536))+(IntKind.wrap .u32 y_8.1)),y_8.2)))
def g_spec_l04Cells_l0 (n_7:Int):Nat->(List Int)->Int->GL01Cur->Option ((List Int)×GL01Cur)
 | 0,_,_,_=>none
 | k+1,out_8,i_9,x_10=>cond (decide (i_9 < n_7)) (((g_spec_l04Some x_10).bind λ y_15=>(g_spec_CellsOf y_15.1).bind λ y_16=>(app out_8 y_16).bind λ v_17=>(g_spec_l01Below 9 y_15.2).bind λ y_18=>cond (y_18.1==0) ((g_spec_l01Word y_18.2).bind λ y_19=>(app v_17 [y_19.1]).bind λ v_20=>some (v_20,y_19.2)) (cond (y_18.1==1) ((app v_17 [0]).bind λ v_21=>some (v_21,y_18.2)) (cond (y_18.1==2) ((g_spec_l01Below 4096 y_18.2).bind λ y_22=>(app v_17 [IntKind.wrap .u32 ((IntKind.wrap .u32 y_22.1)*16)]).bind λ v_23=>some (v_23,y_22.2)) (cond (y_18.1==3) ((g_spec_l01PickInt [2,18,5,34,12] y_18.2).bind λ y_24=>(app v_17 [IntKind.wrap .u32 y_24.1]).bind λ v_25=>some (v_25,y_24.2)) (some (v_17,y_18.2))))):Option (((List Int)×GL01Cur))).bind λ (out_13,x_14)=>g_spec_l04Cells_l0 n_7 k out_13 (IntKind.wrap .i64 (i_9+1)) x_14) (some (out_8,x_10))
def g_spec_l04Cells (c_1:GL01Cur):Option ((List Int)×GL01Cur):=(g_spec_l01Below 14 c_1).bind λ y_4=>((g_spec_l04Cells_l0 y_4.1 bigK ([]:List Int) 0 y_4.2).bind λ (out_11,x_12)=>some (out_11,x_12):Option (((List Int)×GL01Cur))).bind λ (out_5,x_6)=>(cond (decide ((out_5.length:Int) > 64)) ((g_spec_l01Once 6 x_6).bind λ y_28=>some ((!y_28.1),y_28.2)) (some (false,x_6)):Option ((Bool×GL01Cur))).bind λ (v_26,x_27)=>cond v_26 ((subL out_5 0 64).bind λ v_29=>some (v_29,x_27)) (some (out_5,x_27))
def g_spec_l05Make_l1 (b_8:Int) (cells_16:List Int):Nat->Int->GStore->Option GStore
 | 0,_,_=>none
 | k+1,i_18,x_19=>(cond (decide (i_18 < (cells_16.length:Int))) (some (decide (i_18 < 64))) (some false):Option (Bool)).bind λ v_21=>cond v_21 ((getI cells_16 i_18).bind λ v_22=>(getI x_19.Cells (IntKind.wrap .i64 ((IntKind.wrap .i64 (b_8*64))+i_18))).bind λ v_23=>g_spec_l05Make_l1 b_8 cells_16 k (IntKind.wrap .i64 (i_18+1)) (⟨x_19.Cells.set (IntKind.wrap .i64 ((IntKind.wrap .i64 (b_8*64))+i_18)).toNat v_22⟩:GStore)) (some x_19)
def g_spec_l05Make_l0:Nat->Int->GL01Cur->GStore->Option (GL01Cur×GStore)
 | 0,_,_,_=>none
 | k+1,b_8,x_9,x_10=>cond (decide (b_8 < (IntKind.wrap .i64 (Int.tdiv (x_10.Cells.length:Int) 64)))) (((g_spec_l04Cells x_9).bind λ y_15=>(g_spec_l05Make_l1 b_8 y_15.1 bigK 0 x_10).bind λ x_20=>some (y_15.2,x_20):Option ((GL01Cur×GStore))).bind λ (x_13,x_14)=>g_spec_l05Make_l0 k (IntKind.wrap .i64 (b_8+1)) x_13 x_14) (some (x_9,x_10))
def g_spec_l05Make (c_1:GL01Cur):Option (GStore×GL01Cur):=(g_spec_l01Below 3 c_1).bind λ y_4=>(g_spec_NewStore (IntKind.wrap .i64 (1+y_4.1))).bind λ y_5=>((g_spec_l05Make_l0 bigK 0 y_4.2 y_5).bind λ (x_11,x_12)=>some (x_11,x_12):Option ((GL01Cur×GStore))).bind λ (x_6,x_7)=>some (x_7,x_6)
def g_spec_StoreOk (s_1:GStore):Option Bool:=cond ((Int.tmod (s_1.Cells.length:Int) 64)==0) (some (decide ((s_1.Cells.length:Int)<=768))) (some false)
def g_spec_NewSt (s_1:GStore) (vin_2:List Int) (fuel_3:Int):Option GSt:=(mk (0:Int) 32).bind λ v_5=>(cond (decide ((vin_2.length:Int) > 100)) (some true) ((g_spec_StoreOk s_1).bind λ y_7=>cond (!y_7) (some true) ((g_spec_l01In fuel_3 0 4000).bind λ y_8=>some (!y_8))):Option (Bool)).bind λ v_6=>cond v_6 (some (⟨[],[],0,[],[],[],[],[],0,0⟩:GSt)) ((app ([]:List Int) s_1.Cells).bind λ v_9=>(app ([]:List Int) vin_2).bind λ v_10=>some (⟨[],[],0,v_5,v_9,[],[],v_10,0,fuel_3⟩:GSt))
def g_spec_l08First (st_1:GSt):Option Int:=cond ((st_1.Vars.length:Int)==0) (some 0) ((getI st_1.Vars 0).bind λ v_3=>some v_3)
def g_spec_l08Make_l0 (n_10:Int):Nat->Int->GL01Cur->GSt->Option (GL01Cur×GSt)
 | 0,_,_,_=>none
 | k+1,i_16,x_17,x_18=>cond (decide (i_16 < n_10)) ((g_spec_l04Int x_17).bind λ y_21=>(app x_18.Data [y_21.1]).bind λ v_22=>g_spec_l08Make_l0 n_10 k (IntKind.wrap .i64 (i_16+1)) y_21.2 (⟨v_22,x_18.Ret,x_18.A,x_18.Mem,x_18.Cells,x_18.Vars,x_18.Out,x_18.In,x_18.Fault,x_18.Fuel⟩:GSt)) (some (x_17,x_18))
def g_spec_l08Make_l1 (n_24:Int):Nat->Int->GL01Cur->GSt->Option (GL01Cur×GSt)
 | 0,_,_,_=>none
 | k+1,i_30,x_31,x_32=>cond (decide (i_30 < n_24)) ((g_spec_l01PickInt [0,0,1,2] x_31).bind λ y_35=>(g_spec_l04Int y_35.2).bind λ y_36=>(app x_32.Ret [(⟨y_35.1,y_36.1⟩:GSlot)]).bind λ v_37=>g_spec_l08Make_l1 n_24 k (IntKind.wrap .i64 (i_30+1)) y_36.2 (⟨x_32.Data,v_37,x_32.A,x_32.Mem,x_32.Cells,x_32.Vars,x_32.Out,x_32.In,x_32.Fault,x_32.Fuel⟩:GSt)) (some (x_31,x_32))
def g_spec_l08Make_l2 (n_41:Int):Nat->Int->GL01Cur->GSt->Option (GL01Cur×GSt)
 | 0,_,_,_=>none
 | k+1,i_42,x_43,x_44=>cond (decide (i_42 < n_41)) ((g_spec_l01Below 7 x_43).bind λ y_47=>(app x_44.Vars [IntKind.wrap .i64 ((IntKind.wrap .i64 (i_42*7))+y_47.1)]).bind λ v_48=>g_spec_l08Make_l2 n_41 k (IntKind.wrap .i64 (i_42+1)) y_47.2 (⟨x_44.Data,x_44.Ret,x_44.A,x_44.Mem,x_44.Cells,v_48,x_44.Out,x_44.In,x_44.Fault,x_44.Fuel⟩:GSt)) (some (x_43,x_44))
def g_spec_l08Make_l3 (n_73:Int):Nat->Int->GSt->Option GSt
 | 0,_,_=>none
 | k+1,i_75,x_76=>cond (decide (i_75 < n_73)) ((app x_76.Out [120]).bind λ v_78=>g_spec_l08Make_l3 n_73 k (IntKind.wrap .i64 (i_75+1)) (⟨x_76.Data,x_76.Ret,x_76.A,x_76.Mem,x_76.Cells,x_76.Vars,v_78,x_76.In,x_76.Fault,x_76.Fuel⟩:GSt)) (some x_76)
def g_spec_l08Make (c_1:GL01Cur):Option (GSt×GL01Cur):=(g_spec_l05Make c_1).bind λ y_4=>(g_spec_l01Pick [[],[97],[104,101,108,108,111],[0,255]] y_4.2).bind λ y_5=>(s2b y_5.1).bind λ v_6=>(g_spec_l01Below 300 y_5.2).bind λ y_7=>(g_spec_NewSt y_4.1 v_6 (IntKind.wrap .i64 (1+y_7.1))).bind λ y_8=>(g_spec_l01Below 7 y_7.2).bind λ y_9=>((g_spec_l01Once 12 y_9.2).bind λ y_12=>cond y_12.1 ((g_spec_l01Below 3 y_12.2).bind λ y_13=>some (IntKind.wrap .i64 (14+y_13.1),y_13.2)) (some (y_9.1,y_12.2)):Option ((Int×GL01Cur))).bind λ (n_10,x_11)=>((g_spec_l08Make_l0 n_10 bigK 0 x_11 y_8).bind λ (x_19,x_20)=>some (x_19,x_20):Option ((GL01Cur×GSt))).bind λ (x_14,x_15)=>(g_spec_l01Below 3 x_14).bind λ y_23=>((g_spec_l01Once 20 y_23.2).bind λ y_26=>cond y_26.1 ((g_spec_l01Below 3 y_26.2).bind λ y_27=>some (IntKind.wrap .i64 (22+y_27.1),y_27.2)) (some (y_23.1,y_26.2)):Option ((Int×GL01Cur))).bind λ (n_24,x_25)=>((g_spec_l08Make_l1 n_24 bigK 0 x_25 x_15).bind λ (x_33,x_34)=>some (x_33,x_34):Option ((GL01Cur×GSt))).bind λ (x_28,x_29)=>(g_spec_l01Below 3 x_28).bind λ y_38=>((g_spec_l08Make_l2 y_38.1 bigK 0 y_38.2 x_29).bind λ (x_45,x_46)=>some (x_45,x_46):Option ((GL01Cur×GSt))).bind λ (x_39,x_40)=>(((g_spec_l01Once 3 x_39).bind λ y_65=>cond y_65.1 (some (decide ((x_40.Data.length:Int) > 0),y_65.2)) (some (false,y_65.2)):Option ((Bool×GL01Cur))).bind λ (v_63,x_64)=>cond v_63 ((g_spec_l08First x_40).bind λ y_66=>(g_spec_l01PickInt [0,31,32,(-1),1023,1024,IntKind.wrap .i64 (1024+(x_40.Cells.length:Int)),IntKind.wrap .i64 (1023+(x_40.Cells.length:Int)),IntKind.wrap .i64 (1024+y_66)] x_64).bind λ y_67=>(getI x_40.Data (IntKind.wrap .i64 ((x_40.Data.length:Int)-1))).bind λ v_68=>some (y_67.2,(⟨x_40.Data.set (IntKind.wrap .i64 ((x_40.Data.length:Int)-1)).toNat (IntKind.wrap .i32 y_67.1),x_40.Ret,x_40.A,x_40.Mem,x_40.Cells,x_40.Vars,x_40.Out,x_40.In,x_40.Fault,x_40.Fuel⟩:GSt))) (some (x_64,x_40)):Option ((GL01Cur×GSt))).bind λ (x_61,x_62)=>((g_spec_l01Once 30 x_61).bind λ y_71=>cond y_71.1 ((g_spec_l01Below 6 y_71.2).bind λ y_72=>(g_spec_l08Make_l3 (IntKind.wrap .i64 (395+y_72.1)) bigK 0 x_62).bind λ x_77=>some (y_72.2,x_77)) (some (y_71.2,x_62)):Option ((GL01Cur×GSt))).bind λ (x_69,x_70)=>some (x_70,x_69)
def g_spec_l08Any (c_1:GL01Cur):Option (GSt×GL01Cur):=(g_spec_l08Make c_1).bind λ y_4=>((g_spec_l01Below 20 y_4.2).bind λ y_15=>cond (y_15.1==0) ((g_spec_l01Below 17 y_15.2).bind λ y_16=>some (y_16.2,(⟨y_4.1.Data,y_4.1.Ret,y_4.1.A,y_4.1.Mem,y_4.1.Cells,y_4.1.Vars,y_4.1.Out,y_4.1.In,IntKind.wrap .i64 (y_16.1-1),y_4.1.Fuel⟩:GSt))) (cond (y_15.1==1) ((g_spec_l01PickInt [0,(-1),(y_4.1.Cells.length:Int),IntKind.wrap .i64 ((y_4.1.Cells.length:Int)-1)] y_15.2).bind λ y_17=>(app y_4.1.Vars [y_17.1]).bind λ v_18=>some (y_17.2,(⟨y_4.1.Data,y_4.1.Ret,y_4.1.A,y_4.1.Mem,y_4.1.Cells,v_18,y_4.1.Out,y_4.1.In,y_4.1.Fault,y_4.1.Fuel⟩:GSt))) (cond (y_15.1==2) ((subL y_4.1.Mem 0 31).bind λ v_19=>some (y_15.2,(⟨y_4.1.Data,y_4.1.Ret,y_4.1.A,v_19,y_4.1.Cells,y_4.1.Vars,y_4.1.Out,y_4.1.In,y_4.1.Fault,y_4.1.Fuel⟩:GSt))) (cond (y_15.1==3) ((g_spec_l01PickInt [(-1),0,4000,4001] y_15.2).bind λ y_20=>some (y_20.2,(⟨y_4.1.Data,y_4.1.Ret,y_4.1.A,y_4.1.Mem,y_4.1.Cells,y_4.1.Vars,y_4.1.Out,y_4.1.In,y_4.1.Fault,y_20.1⟩:GSt))) (cond (y_15.1==4) ((g_spec_l01Below 5 y_15.2).bind λ y_21=>(app y_4.1.Ret [(⟨IntKind.wrap .i64 (y_21.1-1),0⟩:GSlot)]).bind λ v_22=>some (y_21.2,(⟨y_4.1.Data,v_22,y_4.1.A,y_4.1.Mem,y_4.1.Cells,y_4.1.Vars,y_4.1.Out,y_4.1.In,y_4.1.Fault,y_4.1.Fuel⟩:GSt))) (cond (y_15.1==5) ((app y_4.1.Cells [1]).bind λ v_23=>some (y_15.2,(⟨y_4.1.Data,y_4.1.Ret,y_4.1.A,y_4.1.Mem,v_23,y_4.1.Vars,y_4.1.Out,y_4.1.In,y_4.1.Fault,y_4.1.Fuel⟩:GSt))) (some (y_15.2,y_4.1))))))):Option ((GL01Cur×GSt))).bind λ (x_13,x_14)=>some (x_14,x_13)
def g_spec_l09Any_imm_l0:Nat->(List GOp)->GL01Cur->Option ((List GOp)×GL01Cur)
 | 0,_,_=>none
 | k+1,body_17,x_18=>(g_spec_l01Below 4 x_18).bind λ y_21=>cond (decide ((body_17.length:Int) < (IntKind.wrap .i64 (58+y_21.1)))) ((app body_17 [(⟨0,1⟩:GOp)]).bind λ v_22=>g_spec_l09Any_imm_l0 k v_22 y_21.2) (some (body_17,y_21.2))
def g_spec_l09Any_imm (c_1:GL01Cur):Option ((List GOp)×GL01Cur):=(g_spec_l09Body 3 3 c_1).bind λ y_4=>((g_spec_l01Below 8 y_4.2).bind λ y_9=>cond (y_9.1==0) ((g_spec_l01Below 11 y_9.2).bind λ y_10=>(g_spec_l01Below 3 y_10.2).bind λ y_11=>(app y_4.1 [(⟨IntKind.wrap .i64 (y_10.1-1),IntKind.wrap .i32 y_11.1⟩:GOp)]).bind λ v_12=>some (.inr (v_12,y_11.2))) (cond (y_9.1==1) (cond (decide ((y_4.1.length:Int) > 0)) ((g_spec_l01Below (y_4.1.length:Int) y_9.2).bind λ y_13=>(g_spec_l01Below 11 y_13.2).bind λ y_14=>(g_spec_l01PickInt [0,23,24,(-1)] y_14.2).bind λ y_15=>(getI y_4.1 y_13.1).bind λ v_16=>some (.inl (y_4.1.set y_13.1.toNat (⟨IntKind.wrap .i64 (y_14.1-1),IntKind.wrap .i32 y_15.1⟩:GOp),y_15.2))) (some (.inl (y_4.1,y_9.2)))) (cond (y_9.1==2) ((g_spec_l09Any_imm_l0 bigK y_4.1 y_9.2).bind λ (body_19,x_20)=>some (.inl (body_19,x_20))) (some (.inl (y_4.1,y_9.2))))):Option (((List GOp)×GL01Cur) ⊕ ((List GOp)×GL01Cur))).bind λ o=>match o with | .inl (body_5,x_6)=>some (body_5,x_6) | .inr (v_7,x_8)=>some (v_7,x_8)
def g_spec_DrawMeans (code_1:List Int):Option ((List GDef)×Int×GSt):=(g_spec_l01New code_1).bind λ y_5=>(g_spec_l09Make y_5).bind λ y_6=>(g_spec_l08Make y_6.2).bind λ y_7=>((g_spec_l01Once 10 y_7.2).bind λ y_24=>cond y_24.1 ((g_spec_l08Any y_24.2).bind λ y_25=>some (y_25.2,y_25.1)) (some (y_24.2,y_7.1)):Option ((GL01Cur×GSt))).bind λ (x_22,x_23)=>((g_spec_l01Once 20 x_22).bind λ y_28=>cond y_28.1 ((g_spec_l09Any_imm y_28.2).bind λ y_29=>(getI y_6.1 0).bind λ v_30=>some (y_6.1.set 0 (⟨v_30.Name,y_29.1⟩:GDef),y_29.2)) (some (y_6.1,y_28.2)):Option (((List GDef)×GL01Cur))).bind λ (defs_26,x_27)=>(g_spec_l01Below (IntKind.wrap .i64 ((defs_26.length:Int)+1)) x_27).bind λ y_31=>(g_spec_l01Below 8 y_31.2).bind λ y_32=>some (defs_26,IntKind.wrap .i64 (y_31.1-(IntKind.wrap .i64 (Int.tdiv y_32.1 7))),x_23)
def g_spec_StOk_l0 (st_1:GSt):Nat->Int->Option (Unit ⊕ Bool)
 | 0,_=>none
 | k+1,i_5=>cond (decide (i_5 < (st_1.Ret.length:Int))) ((getI st_1.Ret i_5).bind λ v_7=>(g_spec_l01In v_7.Kind 0 2).bind λ y_8=>cond (!y_8) (some (.inr false)) (g_spec_StOk_l0 st_1 k (IntKind.wrap .i64 (i_5+1)))) (some (.inl ()))
def g_spec_StOk_l2 (i_10:Int) (st_1:GSt):Nat->Int->Option (Unit ⊕ Bool)
 | 0,_=>none
 | k+1,k_15=>cond (decide (k_15 < i_10)) ((getI st_1.Vars k_15).bind λ v_17=>(getI st_1.Vars i_10).bind λ v_18=>cond (v_17==v_18) (some (.inr false)) (g_spec_StOk_l2 i_10 st_1 k (IntKind.wrap .i64 (k_15+1)))) (some (.inl ()))
def g_spec_StOk_l1 (st_1:GSt):Nat->Int->Option (Unit ⊕ Bool)
 | 0,_=>none
 | k+1,i_10=>cond (decide (i_10 < (st_1.Vars.length:Int))) (((getI st_1.Vars i_10).bind λ v_13=>(g_spec_l01In v_13 0 (IntKind.wrap .i64 ((st_1.Cells.length:Int)-1))).bind λ y_14=>cond (!y_14) (some (.inr false)) ((g_spec_StOk_l2 i_10 st_1 bigK 0).bind λ o=>match o with | .inl ()=>some (.inl ()) | .inr v_16=>some (.inr v_16)):Option (Unit ⊕ Bool)).bind λ o=>match o with | .inl ()=>g_spec_StOk_l1 st_1 k (IntKind.wrap .i64 (i_10+1)) | .inr v_12=>some (.inr v_12)) (some (.inl ()))
def g_spec_StOk (st_1:GSt):Option Bool:=(cond (decide ((st_1.Data.length:Int) > 16)) (some true) (cond (decide ((st_1.Ret.length:Int) > 24)) (some true) (cond ((st_1.Mem.length:Int) != 32) (some true) (cond (decide ((st_1.Vars.length:Int) > 20)) (some true) (cond (decide ((st_1.Out.length:Int) > 400)) (some true) (some (decide ((st_1.In.length:Int) > 100))))))):Option (Bool)).bind λ v_3=>cond v_3 (some false) (((g_spec_StOk_l0 st_1 bigK 0).bind λ o=>match o with | .inl ()=>some (.inl ()) | .inr v_6=>some (.inr v_6):Option (Unit ⊕ Bool)).bind λ o=>match o with | .inl ()=>(((g_spec_StOk_l1 st_1 bigK 0).bind λ o=>match o with | .inl ()=>some (.inl ()) | .inr v_11=>some (.inr v_11):Option (Unit ⊕ Bool)).bind λ o=>match o with | .inl ()=>(g_spec_StoreOk (⟨st_1.Cells⟩:GStore)).bind λ y_19=>cond y_19 ((g_spec_l01In st_1.Fault 0 13).bind λ y_20=>cond y_20 ((g_spec_l01In st_1.Fuel 0 4000).bind λ y_21=>some y_21) (some false)) (some false) | .inr v_9=>some v_9) | .inr v_4=>some v_4)
def g_spec_DefsOk_l1 (defs_1:List GDef) (i_4:Int):Nat->Int->Option (Unit ⊕ Bool)
 | 0,_=>none
 | k+1,k_12=>(getI defs_1 i_4).bind λ v_14=>cond (decide (k_12 < (v_14.Body.length:Int))) ((getI defs_1 i_4).bind λ v_15=>(getI v_15.Body k_12).bind λ v_16=>(cond (v_16.Kind==2) (some (decide ((IntKind.wrap .i64 v_16.N) ≥ (defs_1.length:Int)))) (some false):Option (Bool)).bind λ v_17=>cond v_17 (some (.inr false)) (g_spec_DefsOk_l1 defs_1 i_4 k (IntKind.wrap .i64 (k_12+1)))) (some (.inl ()))
def g_spec_DefsOk_l0 (defs_1:List GDef):Nat->Int->Option (Unit ⊕ Bool)
 | 0,_=>none
 | k+1,i_4=>cond (decide (i_4 < (defs_1.length:Int))) ((((getI defs_1 i_4).bind λ v_8=>(g_spec_NameOk v_8.Name).bind λ y_9=>cond (!y_9) (some true) ((getI defs_1 i_4).bind λ v_10=>(g_spec_ShapeOk v_10.Body).bind λ y_11=>some (!y_11)):Option (Bool)).bind λ v_7=>cond v_7 (some (.inr false)) ((g_spec_DefsOk_l1 defs_1 i_4 bigK 0).bind λ o=>match o with | .inl ()=>some (.inl ()) | .inr v_13=>some (.inr v_13)):Option (Unit ⊕ Bool)).bind λ o=>match o with | .inl ()=>g_spec_DefsOk_l0 defs_1 k (IntKind.wrap .i64 (i_4+1)) | .inr v_6=>some (.inr v_6)) (some (.inl ()))
def g_spec_DefsOk (defs_1:List GDef):Option Bool:=cond (decide ((defs_1.length:Int) > 24)) (some false) (((g_spec_DefsOk_l0 defs_1 bigK 0).bind λ o=>match o with | .inl ()=>some (.inl ()) | .inr v_5=>some (.inr v_5):Option (Unit ⊕ Bool)).bind λ o=>match o with | .inl ()=>some true | .inr v_3=>some v_3)
def g_impl_letters:Option Bs:=some [32,114,116,111,101,97,110,105,115,109,99,121,108,103,102,119,100,118,112,98,104,120,117,113,48,49,50,51,52,53,54,55,56,57,106,45,107,46,122,47,59,39,33,43,64,42,44,63]
def g_ibytealg_IndexByteString (s_1:Bs) (c_2:Int):Option Int:=gIdxB s_1 c_2
def g_istringslite_IndexByte (s_1:Bs) (c_2:Int):Option Int:=(g_ibytealg_IndexByteString s_1 c_2).bind λ y_4=>some y_4
def g_strings_IndexByte (s_1:Bs) (c_2:Int):Option Int:=(g_istringslite_IndexByte s_1 c_2).bind λ y_4=>some y_4
def g_impl_LetterOf (b_1:Int):Option Int:=(g_impl_letters).bind λ y_3=>(g_strings_IndexByte y_3 b_1).bind λ y_4=>some y_4
def g_impl_NameOk_l0 (s_1:Bs) (v_4:Int):Nat->Int->Option (Unit ⊕ Bool)
 | 0,_=>none
 | k+1,v_5=>cond (decide (v_5 < v_4)) ((idxS s_1 v_5).bind λ v_7=>(g_impl_LetterOf v_7).bind λ y_8=>cond (decide (y_8 < 1)) (some (.inr false)) (g_impl_NameOk_l0 s_1 v_4 k (IntKind.wrap .i64 (v_5+1)))) (some (.inl ()))
def g_impl_NameOk (s_1:Bs):Option Bool:=((g_impl_NameOk_l0 s_1 (s_1.length:Int) bigK 0).bind λ o=>match o with | .inl ()=>some (.inl ()) | .inr v_6=>some (.inr v_6):Option (Unit ⊕ Bool)).bind λ o=>match o with | .inl ()=>(g_impl_within (s_1.length:Int) 1 24).bind λ y_9=>some y_9 | .inr v_3=>some v_3
def g_impl_callsBelowc1 (o_1:GOp) (a_2:Int):Option Bool:=cond (o_1.Kind==2) (some (decide ((IntKind.wrap .i64 o_1.N) ≥ a_2))) (some false)
def g_slices_IndexFunc_Op_impl_callsBelowc1_l0 (s_1:List GOp) (v_5:Int) (c_2:Int):Nat->Int->Option (Unit ⊕ Int)
 | 0,_=>none
 | k+1,v_6=>cond (decide (v_6 < v_5)) ((getI s_1 v_6).bind λ v_8=>(g_impl_callsBelowc1 v_8 c_2).bind λ y_9=>cond y_9 (some (.inr v_6)) (g_slices_IndexFunc_Op_impl_callsBelowc1_l0 s_1 v_5 c_2 k (IntKind.wrap .i64 (v_6+1)))) (some (.inl ()))
def g_slices_IndexFunc_Op_impl_callsBelowc1 (s_1:List GOp) (c_2:Int):Option Int:=((g_slices_IndexFunc_Op_impl_callsBelowc1_l0 s_1 (s_1.length:Int) c_2 bigK 0).bind λ o=>match o with | .inl ()=>some (.inl ()) | .inr v_7=>some (.inr v_7):Option (Unit ⊕ Int)).bind λ o=>match o with | .inl ()=>some (-1) | .inr v_4=>some v_4
def g_slices_ContainsFunc_Op_impl_callsBelowc1 (s_1:List GOp) (c_2:Int):Option Bool:=(g_slices_IndexFunc_Op_impl_callsBelowc1 s_1 c_2).bind λ y_4=>some (decide (y_4 ≥ 0))
def g_impl_callsBelow (body_1:List GOp) (n_2:Int):Option Bool:=(g_slices_ContainsFunc_Op_impl_callsBelowc1 body_1 n_2).bind λ y_4=>some (!y_4)
def g_impl_DefsOkc1 (d_1:GDef) (a_2:List GDef):Option Bool:=(g_impl_NameOk d_1.Name).bind λ y_4=>cond (!y_4) (some true) ((g_impl_ShapeOk d_1.Body).bind λ y_5=>cond (!y_5) (some true) ((g_impl_callsBelow d_1.Body (a_2.length:Int)).bind λ y_6=>some (!y_6)))
def g_slices_IndexFunc_Def_impl_DefsOkc1_l0 (s_1:List GDef) (v_5:Int) (c_2:List GDef):Nat->Int->Option (Unit ⊕ Int)
 | 0,_=>none
 | k+1,v_6=>cond (decide (v_6 < v_5)) ((getI s_1 v_6).bind λ v_8=>(g_impl_DefsOkc1 v_8 c_2).bind λ y_9=>cond y_9 (some (.inr v_6)) (g_slices_IndexFunc_Def_impl_DefsOkc1_l0 s_1 v_5 c_2 k (IntKind.wrap .i64 (v_6+1)))) (some (.inl ()))
def g_slices_IndexFunc_Def_impl_DefsOkc1 (s_1:List GDef) (c_2:List GDef):Option Int:=((g_slices_IndexFunc_Def_impl_DefsOkc1_l0 s_1 (s_1.length:Int) c_2 bigK 0).bind λ o=>match o with | .inl ()=>some (.inl ()) | .inr v_7=>some (.inr v_7):Option (Unit ⊕ Int)).bind λ o=>match o with | .inl ()=>some (-1) | .inr v_4=>some v_4
def g_slices_ContainsFunc_Def_impl_DefsOkc1 (s_1:List GDef) (c_2:List GDef):Option Bool:=(g_slices_IndexFunc_Def_impl_DefsOkc1 s_1 c_2).bind λ y_4=>some (decide (y_4 ≥ 0))
def g_impl_DefsOk (defs_1:List GDef):Option Bool:=cond (decide ((defs_1.length:Int)<=24)) ((g_slices_ContainsFunc_Def_impl_DefsOkc1 defs_1 defs_1).bind λ y_3=>some (!y_3)) (some false)
def g_impl_StoreOk (s_1:GStore):Option Bool:=cond ((Int.tmod (s_1.Cells.length:Int) 64)==0) (some (decide ((s_1.Cells.length:Int)<=768))) (some false)
def g_impl_StOk_l0 (v_6:List GSlot) (v_7:Int):Nat->Int->Option (Unit ⊕ Bool)
 | 0,_=>none
 | k+1,v_8=>cond (decide (v_8 < v_7)) ((getI v_6 v_8).bind λ v_10=>(g_impl_within v_10.Kind 0 2).bind λ y_11=>cond (!y_11) (some (.inr false)) (g_impl_StOk_l0 v_6 v_7 k (IntKind.wrap .i64 (v_8+1)))) (some (.inl ()))
def g_impl_StOk_l1 (v_13:List Int) (v_14:Int) (st_1:GSt):Nat->Int->Option (Unit ⊕ Bool)
 | 0,_=>none
 | k+1,v_15=>cond (decide (v_15 < v_14)) ((getI v_13 v_15).bind λ v_17=>((g_impl_within v_17 0 (IntKind.wrap .i64 ((st_1.Cells.length:Int)-1))).bind λ y_19=>cond (!y_19) (some true) ((subL st_1.Vars 0 v_15).bind λ v_20=>(g_slices_Contains_int v_20 v_17).bind λ y_21=>some y_21):Option (Bool)).bind λ v_18=>cond v_18 (some (.inr false)) (g_impl_StOk_l1 v_13 v_14 st_1 k (IntKind.wrap .i64 (v_15+1)))) (some (.inl ()))
def g_impl_StOk (st_1:GSt):Option Bool:=(cond (decide ((st_1.Data.length:Int) > 16)) (some true) (cond (decide ((st_1.Ret.length:Int) > 24)) (some true) (cond ((st_1.Mem.length:Int) != 32) (some true) ((g_impl_StoreOk (⟨st_1.Cells⟩:GStore)).bind λ y_4=>cond (!y_4) (some true) (some (decide ((st_1.Vars.length:Int) > 20)))))):Option (Bool)).bind λ v_3=>cond v_3 (some false) (((g_impl_StOk_l0 st_1.Ret (st_1.Ret.length:Int) bigK 0).bind λ o=>match o with | .inl ()=>some (.inl ()) | .inr v_9=>some (.inr v_9):Option (Unit ⊕ Bool)).bind λ o=>match o with | .inl ()=>(((g_impl_StOk_l1 st_1.Vars (st_1.Vars.length:Int) st_1 bigK 0).bind λ o=>match o with | .inl ()=>some (.inl ()) | .inr v_16=>some (.inr v_16):Option (Unit ⊕ Bool)).bind λ o=>match o with | .inl ()=>cond (decide ((st_1.Out.length:Int)<=400)) (cond (decide ((st_1.In.length:Int)<=100)) ((g_impl_within st_1.Fault 0 13).bind λ y_22=>cond y_22 ((g_impl_within st_1.Fuel 0 4000).bind λ y_23=>some y_23) (some false)) (some false)) (some false) | .inr v_12=>some v_12) | .inr v_5=>some v_5)
def g_impl_goes (st_1:GSt):Option Bool:=(g_impl_StOk st_1).bind λ y_3=>cond y_3 (some (st_1.Fault==0)) (some false)
def g_impl_grow_l0 (rc_g_impl_grow:(List GOp)->Option ((List GTree)×(List GOp))):Nat->(List GOp)->(List GTree)->Option ((List GTree) ⊕ ((List GTree)×(List GOp)))
 | 0,_,_=>none
 | k+1,body_4,out_5=>cond (decide ((body_4.length:Int) > 0)) ((getI body_4 0).bind λ v_9=>(subL body_4 1 (body_4.length:Int)).bind λ v_10=>((cond (v_9.Kind==5) (some (v_9.Kind==5)) (some (v_9.Kind==7)):Option (Bool)).bind λ v_20=>cond v_20 (some (.inr (out_5,v_10,(⟨v_9.Kind,v_9.N,[]⟩:GTree)))) ((cond (v_9.Kind==3) (some (v_9.Kind==3)) (cond (v_9.Kind==4) (some (v_9.Kind==4)) (some (v_9.Kind==6))):Option (Bool)).bind λ v_21=>cond v_21 ((rc_g_impl_grow v_10).bind λ y_22=>some (.inl (y_22.2,out_5,(⟨v_9.Kind,v_9.N,y_22.1⟩:GTree)))) (some (.inl (v_10,out_5,(⟨v_9.Kind,v_9.N,[]⟩:GTree))))):Option (((List GOp)×(List GTree)×GTree) ⊕ ((List GTree)×(List GOp)×GTree))).bind λ o=>match o with | .inl (body_14,out_15,x_16)=>(app out_15 [(⟨x_16.Kind,x_16.N,x_16.Kids⟩:GTree)]).bind λ v_23=>g_impl_grow_l0 rc_g_impl_grow k body_14 v_23 | .inr (v_17,v_18,x_19)=>some (.inr (v_17,v_18))) (some (.inl out_5))
def g_impl_grow_b (rc_g_impl_grow:(List GOp)->Option ((List GTree)×(List GOp))) (body_1:List GOp):Option ((List GTree)×(List GOp)):=(g_impl_grow_l0 rc_g_impl_grow bigK body_1 ([]:List GTree)).bind λ o=>match o with | .inl out_6=>some (out_6,[]) | .inr (v_7,v_8)=>some (v_7,v_8)
def g_impl_grow_r:Nat->(List GOp)->Option ((List GTree)×(List GOp))
 | 0=>λ _=>none
 | k+1=>g_impl_grow_b (g_impl_grow_r k)
def g_impl_grow (body_1:List GOp):Option ((List GTree)×(List GOp)):=g_impl_grow_r bigK body_1
def g_impl_TreeOf_imm (body_1:List GOp):Option (List GTree):=(g_impl_ShapeOk body_1).bind λ y_3=>cond (!y_3) (some []) ((g_impl_grow body_1).bind λ y_4=>some y_4.1)
def g_impl_Means_l0 (v_11:List GDef) (v_12:Int):Nat->Int->GMeaning->Option GMeaning
 | 0,_,_=>none
 | k+1,v_13,x_14=>cond (decide (v_13 < v_12)) ((getI v_11 v_13).bind λ v_16=>(g_impl_TreeOf_imm v_16.Body).bind λ y_17=>(app x_14.trees [y_17]).bind λ v_18=>g_impl_Means_l0 v_11 v_12 k (IntKind.wrap .i64 (v_13+1)) (⟨v_18,x_14.st⟩:GMeaning)) (some x_14)
def g_impl_Means (defs_1:List GDef) (k_2:Int) (st_3:GSt):Option GSt:=((g_impl_DefsOk defs_1).bind λ y_6=>cond (!y_6) (some true) ((g_impl_within k_2 0 (IntKind.wrap .i64 ((defs_1.length:Int)-1))).bind λ y_7=>cond (!y_7) (some true) ((g_impl_goes st_3).bind λ y_8=>some (!y_8))):Option (Bool)).bind λ v_5=>cond v_5 (some (⟨[],[],0,[],[],[],[],[],0,0⟩:GSt)) ((g_impl_ownSt st_3).bind λ y_9=>((g_impl_Means_l0 defs_1 (defs_1.length:Int) bigK 0 (⟨[],y_9⟩:GMeaning)).bind λ x_15=>some x_15:Option (GMeaning)).bind λ x_10=>(g_impl_meaning_enter k_2 x_10).bind λ y_19=>(g_impl_ownSt y_19.st).bind λ y_20=>some y_20)
def g_laws_sameNums_l0 (a_1:List Int) (b_2:List Int):Nat->Int->Option (Unit ⊕ Bool)
 | 0,_=>none
 | k+1,i_5=>cond (decide (i_5 < (a_1.length:Int))) ((getI a_1 i_5).bind λ v_7=>(getI b_2 i_5).bind λ v_8=>cond (v_7 != v_8) (some (.inr false)) (g_laws_sameNums_l0 a_1 b_2 k (IntKind.wrap .i64 (i_5+1)))) (some (.inl ()))
def g_laws_sameNums (a_1:List Int) (b_2:List Int):Option Bool:=cond ((a_1.length:Int) != (b_2.length:Int)) (some false) (((g_laws_sameNums_l0 a_1 b_2 bigK 0).bind λ o=>match o with | .inl ()=>some (.inl ()) | .inr v_6=>some (.inr v_6):Option (Unit ⊕ Bool)).bind λ o=>match o with | .inl ()=>some true | .inr v_4=>some v_4)
def g_laws_sameCells_l0 (a_1:List Int) (b_2:List Int):Nat->Int->Option (Unit ⊕ Bool)
 | 0,_=>none
 | k+1,i_5=>cond (decide (i_5 < (a_1.length:Int))) ((getI a_1 i_5).bind λ v_7=>(getI b_2 i_5).bind λ v_8=>cond (v_7 != v_8) (some (.inr false)) (g_laws_sameCells_l0 a_1 b_2 k (IntKind.wrap .i64 (i_5+1)))) (some (.inl ()))
def g_laws_sameCells (a_1:List Int) (b_2:List Int):Option Bool:=cond ((a_1.length:Int) != (b_2.length:Int)) (some false) (((g_laws_sameCells_l0 a_1 b_2 bigK 0).bind λ o=>match o with | .inl ()=>some (.inl ()) | .inr v_6=>some (.inr v_6):Option (Unit ⊕ Bool)).bind λ o=>match o with | .inl ()=>some true | .inr v_4=>some v_4)
def g_laws_sameInts_l0 (a_1:List Int) (b_2:List Int):Nat->Int->Option (Unit ⊕ Bool)
 | 0,_=>none
 | k+1,i_5=>cond (decide (i_5 < (a_1.length:Int))) ((getI a_1 i_5).bind λ v_7=>(getI b_2 i_5).bind λ v_8=>cond (v_7 != v_8) (some (.inr false)) (g_laws_sameInts_l0 a_1 b_2 k (IntKind.wrap .i64 (i_5+1)))) (some (.inl ()))
def g_laws_sameInts (a_1:List Int) (b_2:List Int):Option Bool:=cond ((a_1.length:Int) != (b_2.length:Int)) (some false) (((g_laws_sameInts_l0 a_1 b_2 bigK 0).bind λ o=>match o with | .inl ()=>some (.inl ()) | .inr v_6=>some (.inr v_6):Option (Unit ⊕ Bool)).bind λ o=>match o with | .inl ()=>some true | .inr v_4=>some v_4)
def g_laws_sameBytes_l0 (a_1:List Int) (b_2:List Int):Nat->Int->Option (Unit ⊕ Bool)
 | 0,_=>none
 | k+1,i_5=>cond (decide (i_5 < (a_1.length:Int))) ((getI a_1 i_5).bind λ v_7=>(getI b_2 i_5).bind λ v_8=>cond (v_7 != v_8) (some (.inr false)) (g_laws_sameBytes_l0 a_1 b_2 k (IntKind.wrap .i64 (i_5+1)))) (some (.inl ()))
def g_laws_sameBytes (a_1:List Int) (b_2:List Int):Option Bool:=cond ((a_1.length:Int) != (b_2.length:Int)) (some false) (((g_laws_sameBytes_l0 a_1 b_2 bigK 0).bind λ o=>match o with | .inl ()=>some (.inl ()) | .inr v_6=>some (.inr v_6):Option (Unit ⊕ Bool)).bind λ o=>match o with | .inl ()=>some true | .inr v_4=>some v_4)
def g_laws_sameBut (a_1:GSt) (b_2:GSt):Option Bool:=(g_laws_sameNums a_1.Data b_2.Data).bind λ y_4=>cond y_4 (cond (a_1.A==b_2.A) ((g_laws_sameNums a_1.Mem b_2.Mem).bind λ y_5=>cond y_5 ((g_laws_sameCells a_1.Cells b_2.Cells).bind λ y_6=>cond y_6 ((g_laws_sameInts a_1.Vars b_2.Vars).bind λ y_7=>cond y_7 ((g_laws_sameBytes a_1.Out b_2.Out).bind λ y_8=>cond y_8 ((g_laws_sameBytes a_1.In b_2.In).bind λ y_9=>some y_9) (some false)) (some false)) (some false)) (some false)) (some false)) (some false)
def g_laws_sameRet_l0 (a_1:List GSlot) (b_2:List GSlot):Nat->Int->Option (Unit ⊕ Bool)
 | 0,_=>none
 | k+1,i_5=>cond (decide (i_5 < (a_1.length:Int))) ((getI a_1 i_5).bind λ v_7=>(getI b_2 i_5).bind λ v_8=>cond (!((v_7.Kind:Int)==v_8.Kind&&((v_7.N:Int)==v_8.N&&true))) (some (.inr false)) (g_laws_sameRet_l0 a_1 b_2 k (IntKind.wrap .i64 (i_5+1)))) (some (.inl ()))
def g_laws_sameRet (a_1:List GSlot) (b_2:List GSlot):Option Bool:=cond ((a_1.length:Int) != (b_2.length:Int)) (some false) (((g_laws_sameRet_l0 a_1 b_2 bigK 0).bind λ o=>match o with | .inl ()=>some (.inl ()) | .inr v_6=>some (.inr v_6):Option (Unit ⊕ Bool)).bind λ o=>match o with | .inl ()=>some true | .inr v_4=>some v_4)
def g_laws_sameSt (a_1:GSt) (b_2:GSt):Option Bool:=(g_laws_sameBut a_1 b_2).bind λ y_4=>cond y_4 ((g_laws_sameRet a_1.Ret b_2.Ret).bind λ y_5=>cond y_5 (cond (a_1.Fault==b_2.Fault) (some (a_1.Fuel==b_2.Fuel)) (some false)) (some false)) (some false)
def g_laws_FnFalls (code_1:List Int):Option Bool:=(g_laws_big code_1).bind λ y_3=>cond y_3 (some true) ((g_spec_DrawFalls code_1).bind λ y_4=>(g_impl_Falls y_4).bind λ y_5=>(g_spec_Falls y_4).bind λ y_6=>cond (y_5 != y_6) (some false) ((g_spec_DrawMeans code_1).bind λ y_7=>(cond y_5 (some true) ((g_spec_ShapeOk y_4).bind λ y_9=>cond (!y_9) (some true) ((g_spec_StOk y_7.2.2).bind λ y_10=>cond (!y_10) (some true) (some (y_7.2.2.Fault != 0)))):Option (Bool)).bind λ v_8=>cond v_8 (some true) ((app ([]:List GOp) y_4).bind λ v_11=>(app ([]:List GOp) y_4).bind λ v_12=>(g_spec_DefsOk [(⟨[97],v_11⟩:GDef)]).bind λ y_13=>cond (!y_13) (some true) ((g_impl_Means [(⟨[97],v_11⟩:GDef)] 0 y_7.2.2).bind λ y_14=>(g_impl_Means [(⟨[97],v_12⟩:GDef),(⟨[98],[(⟨0,7⟩:GOp)]⟩:GDef)] 0 y_7.2.2).bind λ y_15=>(g_laws_sameSt y_14 y_15).bind λ y_16=>some y_16))))
def g_spec_l09Trees_l0 (rc_g_spec_l09Trees:(List GOp)->Int->Option ((List GTree)×Int)) (body_1:List GOp):Nat->Int->(List GTree)->Option (Int×(List GTree))
 | 0,_,_=>none
 | k+1,i_6,out_7=>(cond (decide (i_6 < (body_1.length:Int))) ((getI body_1 i_6).bind λ v_11=>cond (v_11.Kind != 5) ((getI body_1 i_6).bind λ v_12=>some (v_12.Kind != 7)) (some false)) (some false):Option (Bool)).bind λ v_10=>cond v_10 ((getI body_1 i_6).bind λ v_13=>(getI body_1 i_6).bind λ v_14=>((cond (v_13.Kind==3) (some true) (cond (v_13.Kind==4) (some true) (some (v_13.Kind==6))):Option (Bool)).bind λ v_17=>cond v_17 ((rc_g_spec_l09Trees body_1 (IntKind.wrap .i64 (i_6+1))).bind λ y_18=>some (IntKind.wrap .i64 (y_18.2+1),(⟨v_13.Kind,v_14.N,y_18.1⟩:GTree))) (some (IntKind.wrap .i64 (i_6+1),(⟨v_13.Kind,v_14.N,[]⟩:GTree))):Option ((Int×GTree))).bind λ (i_15,x_16)=>(app out_7 [(⟨x_16.Kind,x_16.N,x_16.Kids⟩:GTree)]).bind λ v_19=>g_spec_l09Trees_l0 rc_g_spec_l09Trees body_1 k i_15 v_19) (some (i_6,out_7))
def g_spec_l09Trees_b (rc_g_spec_l09Trees:(List GOp)->Int->Option ((List GTree)×Int)) (body_1:List GOp) (i_2:Int):Option ((List GTree)×Int):=(g_spec_l09Trees_l0 rc_g_spec_l09Trees body_1 bigK i_2 ([]:List GTree)).bind λ (i_8,out_9)=>some (out_9,i_8)
def g_spec_l09Trees_r:Nat->(List GOp)->Int->Option ((List GTree)×Int)
 | 0=>λ _ _=>none
 | k+1=>g_spec_l09Trees_b (g_spec_l09Trees_r k)
def g_impl_Mach_back (n_1:Int) (m_2:GMach):Option (Bool×GMach):=cond ((m_2.St.Ret.length:Int)==24) (some (false,(⟨(⟨m_2.St.Data,m_2.St.Ret,m_2.St.A,m_2.St.Mem,m_2.St.Cells,m_2.St.Vars,m_2.St.Out,m_2.St.In,3,m_2.St.Fuel⟩:GSt),m_2.At,m_2.Done⟩:GMach))) ((app m_2.St.Ret [(⟨2,IntKind.wrap .i32 n_1⟩:GSlot)]).bind λ v_5=>some (true,(⟨(⟨m_2.St.Data,v_5,m_2.St.A,m_2.St.Mem,m_2.St.Cells,m_2.St.Vars,m_2.St.Out,m_2.St.In,m_2.St.Fault,m_2.St.Fuel⟩:GSt),m_2.At,m_2.Done⟩:GMach)))
def g_impl_St_pushes_inGMach_0 (n_1:Int) (st_2:GMach):Option GMach:=cond ((st_2.St.Data.length:Int)==16) (some (⟨(⟨st_2.St.Data,st_2.St.Ret,st_2.St.A,st_2.St.Mem,st_2.St.Cells,st_2.St.Vars,st_2.St.Out,st_2.St.In,2,st_2.St.Fuel⟩:GSt),st_2.At,st_2.Done⟩:GMach)) ((app st_2.St.Data [n_1]).bind λ v_4=>some (⟨(⟨v_4,st_2.St.Ret,st_2.St.A,st_2.St.Mem,st_2.St.Cells,st_2.St.Vars,st_2.St.Out,st_2.St.In,st_2.St.Fault,st_2.St.Fuel⟩:GSt),st_2.At,st_2.Done⟩:GMach))
def g_impl_St_begin_inGMach_0 (st_1:GMach):Option GMach:=cond (decide ((IntKind.wrap .i64 ((st_1.St.Data.length:Int)-1)) < 0)) (some (⟨(⟨st_1.St.Data,st_1.St.Ret,st_1.St.A,st_1.St.Mem,st_1.St.Cells,st_1.St.Vars,st_1.St.Out,st_1.St.In,2,st_1.St.Fuel⟩:GSt),st_1.At,st_1.Done⟩:GMach)) (cond ((st_1.St.Ret.length:Int)==24) (some (⟨(⟨st_1.St.Data,st_1.St.Ret,st_1.St.A,st_1.St.Mem,st_1.St.Cells,st_1.St.Vars,st_1.St.Out,st_1.St.In,3,st_1.St.Fuel⟩:GSt),st_1.At,st_1.Done⟩:GMach)) ((getI st_1.St.Data (IntKind.wrap .i64 ((st_1.St.Data.length:Int)-1))).bind λ v_3=>(app st_1.St.Ret [(⟨1,v_3⟩:GSlot)]).bind λ v_4=>(subL st_1.St.Data 0 (IntKind.wrap .i64 ((st_1.St.Data.length:Int)-1))).bind λ v_5=>some (⟨(⟨v_5,v_4,st_1.St.A,st_1.St.Mem,st_1.St.Cells,st_1.St.Vars,st_1.St.Out,st_1.St.In,st_1.St.Fault,st_1.St.Fuel⟩:GSt),st_1.At,st_1.Done⟩:GMach)))
def g_impl_St_again_inGMach_0 (st_1:GMach):Option (Bool×GMach):=cond (decide ((IntKind.wrap .i64 ((st_1.St.Ret.length:Int)-1)) < 0)) (some (false,(⟨(⟨st_1.St.Data,st_1.St.Ret,st_1.St.A,st_1.St.Mem,st_1.St.Cells,st_1.St.Vars,st_1.St.Out,st_1.St.In,3,st_1.St.Fuel⟩:GSt),st_1.At,st_1.Done⟩:GMach))) ((getI st_1.St.Ret (IntKind.wrap .i64 ((st_1.St.Ret.length:Int)-1))).bind λ v_4=>cond (v_4.Kind != 1) (some (false,(⟨(⟨st_1.St.Data,st_1.St.Ret,st_1.St.A,st_1.St.Mem,st_1.St.Cells,st_1.St.Vars,st_1.St.Out,st_1.St.In,11,st_1.St.Fuel⟩:GSt),st_1.At,st_1.Done⟩:GMach))) ((getI st_1.St.Ret (IntKind.wrap .i64 ((st_1.St.Ret.length:Int)-1))).bind λ v_5=>cond (decide ((IntKind.wrap .i32 (v_5.N-1)) > 0)) ((getI st_1.St.Ret (IntKind.wrap .i64 ((st_1.St.Ret.length:Int)-1))).bind λ v_6=>some (true,(⟨(⟨st_1.St.Data,st_1.St.Ret.set (IntKind.wrap .i64 ((st_1.St.Ret.length:Int)-1)).toNat (⟨v_6.Kind,IntKind.wrap .i32 (v_5.N-1)⟩:GSlot),st_1.St.A,st_1.St.Mem,st_1.St.Cells,st_1.St.Vars,st_1.St.Out,st_1.St.In,st_1.St.Fault,st_1.St.Fuel⟩:GSt),st_1.At,st_1.Done⟩:GMach))) ((subL st_1.St.Ret 0 (IntKind.wrap .i64 ((st_1.St.Ret.length:Int)-1))).bind λ v_7=>some (false,(⟨(⟨st_1.St.Data,v_7,st_1.St.A,st_1.St.Mem,st_1.St.Cells,st_1.St.Vars,st_1.St.Out,st_1.St.In,st_1.St.Fault,st_1.St.Fuel⟩:GSt),st_1.At,st_1.Done⟩:GMach)))))
def g_impl_Mach_leave_own (code_1:List GIns) (m_2:GMach):Option (Int×GMach):=(cond (decide ((IntKind.wrap .i64 ((m_2.St.Ret.length:Int)-1)) < 0)) (some true) ((getI m_2.St.Ret (IntKind.wrap .i64 ((m_2.St.Ret.length:Int)-1))).bind λ v_6=>some (v_6.Kind != 2)):Option (Bool)).bind λ v_5=>cond v_5 (some (m_2.At,(⟨(⟨m_2.St.Data,m_2.St.Ret,m_2.St.A,m_2.St.Mem,m_2.St.Cells,m_2.St.Vars,m_2.St.Out,m_2.St.In,11,m_2.St.Fuel⟩:GSt),m_2.At,m_2.Done⟩:GMach))) ((getI m_2.St.Ret (IntKind.wrap .i64 ((m_2.St.Ret.length:Int)-1))).bind λ v_7=>(cond ((IntKind.wrap .i64 v_7.N) != (-1)) ((g_impl_within (IntKind.wrap .i64 v_7.N) 0 (IntKind.wrap .i64 ((code_1.length:Int)-1))).bind λ y_9=>some (!y_9)) (some false):Option (Bool)).bind λ v_8=>cond v_8 (some (m_2.At,(⟨(⟨m_2.St.Data,m_2.St.Ret,m_2.St.A,m_2.St.Mem,m_2.St.Cells,m_2.St.Vars,m_2.St.Out,m_2.St.In,11,m_2.St.Fuel⟩:GSt),m_2.At,m_2.Done⟩:GMach))) ((subL m_2.St.Ret 0 (IntKind.wrap .i64 ((m_2.St.Ret.length:Int)-1))).bind λ v_10=>cond ((IntKind.wrap .i64 v_7.N)==(-1)) (some (m_2.At,(⟨(⟨m_2.St.Data,v_10,m_2.St.A,m_2.St.Mem,m_2.St.Cells,m_2.St.Vars,m_2.St.Out,m_2.St.In,m_2.St.Fault,m_2.St.Fuel⟩:GSt),m_2.At,true⟩:GMach))) (some (IntKind.wrap .i64 v_7.N,(⟨(⟨m_2.St.Data,v_10,m_2.St.A,m_2.St.Mem,m_2.St.Cells,m_2.St.Vars,m_2.St.Out,m_2.St.In,m_2.St.Fault,m_2.St.Fuel⟩:GSt),m_2.At,m_2.Done⟩:GMach)))))
def g_impl_Mach_step (code_1:List GIns) (m_2:GMach):Option GMach:=(getI code_1 m_2.At).bind λ v_4=>cond (v_4.Op==9) (some (⟨(⟨m_2.St.Data,m_2.St.Ret,m_2.St.A,m_2.St.Mem,m_2.St.Cells,m_2.St.Vars,m_2.St.Out,m_2.St.In,10,m_2.St.Fuel⟩:GSt),m_2.At,m_2.Done⟩:GMach)) (cond (m_2.St.Fuel==0) (some (⟨(⟨m_2.St.Data,m_2.St.Ret,m_2.St.A,m_2.St.Mem,m_2.St.Cells,m_2.St.Vars,m_2.St.Out,m_2.St.In,6,m_2.St.Fuel⟩:GSt),m_2.At,m_2.Done⟩:GMach)) ((cond (v_4.Op==0) ((g_impl_St_pushes_inGMach_0 (IntKind.wrap .i32 v_4.N) (⟨(⟨m_2.St.Data,m_2.St.Ret,m_2.St.A,m_2.St.Mem,m_2.St.Cells,m_2.St.Vars,m_2.St.Out,m_2.St.In,m_2.St.Fault,IntKind.wrap .i64 (m_2.St.Fuel-1)⟩:GSt),m_2.At,m_2.Done⟩:GMach)).bind λ y_7=>some (IntKind.wrap .i64 (m_2.At+1),y_7)) (cond (v_4.Op==1) ((g_impl_does (⟨m_2.St.Data,m_2.St.Ret,m_2.St.A,m_2.St.Mem,m_2.St.Cells,m_2.St.Vars,m_2.St.Out,m_2.St.In,m_2.St.Fault,IntKind.wrap .i64 (m_2.St.Fuel-1)⟩:GSt) v_4.N).bind λ y_8=>some (IntKind.wrap .i64 (m_2.At+1),(⟨y_8,m_2.At,m_2.Done⟩:GMach))) (cond (v_4.Op==2) ((g_impl_Mach_back (IntKind.wrap .i64 (m_2.At+1)) (⟨(⟨m_2.St.Data,m_2.St.Ret,m_2.St.A,m_2.St.Mem,m_2.St.Cells,m_2.St.Vars,m_2.St.Out,m_2.St.In,m_2.St.Fault,IntKind.wrap .i64 (m_2.St.Fuel-1)⟩:GSt),m_2.At,m_2.Done⟩:GMach)).bind λ y_9=>cond y_9.1 (some (v_4.N,y_9.2)) (some (IntKind.wrap .i64 (m_2.At+1),y_9.2))) (cond (v_4.Op==3) (some (v_4.N,(⟨(⟨m_2.St.Data,m_2.St.Ret,m_2.St.A,m_2.St.Mem,m_2.St.Cells,m_2.St.Vars,m_2.St.Out,m_2.St.In,m_2.St.Fault,IntKind.wrap .i64 (m_2.St.Fuel-1)⟩:GSt),m_2.At,m_2.Done⟩:GMach))) ((cond (v_4.Op==4) (some (v_4.Op==4)) (some (v_4.Op==5)):Option (Bool)).bind λ v_10=>cond v_10 (cond (decide ((IntKind.wrap .i64 ((m_2.St.Data.length:Int)-1)) < 0)) (some (IntKind.wrap .i64 (m_2.At+1),(⟨(⟨m_2.St.Data,m_2.St.Ret,m_2.St.A,m_2.St.Mem,m_2.St.Cells,m_2.St.Vars,m_2.St.Out,m_2.St.In,2,IntKind.wrap .i64 (m_2.St.Fuel-1)⟩:GSt),m_2.At,m_2.Done⟩:GMach))) ((cond (v_4.Op==4) ((getI m_2.St.Data (IntKind.wrap .i64 ((m_2.St.Data.length:Int)-1))).bind λ v_12=>cond (v_12==0) (some true) (cond (v_4.Op==5) ((getI m_2.St.Data (IntKind.wrap .i64 ((m_2.St.Data.length:Int)-1))).bind λ v_13=>some (decide (v_13 ≥ 0))) (some false))) (cond (v_4.Op==5) ((getI m_2.St.Data (IntKind.wrap .i64 ((m_2.St.Data.length:Int)-1))).bind λ v_14=>some (decide (v_14 ≥ 0))) (some false)):Option (Bool)).bind λ v_11=>cond v_11 (some (v_4.N,(⟨(⟨m_2.St.Data,m_2.St.Ret,m_2.St.A,m_2.St.Mem,m_2.St.Cells,m_2.St.Vars,m_2.St.Out,m_2.St.In,m_2.St.Fault,IntKind.wrap .i64 (m_2.St.Fuel-1)⟩:GSt),m_2.At,m_2.Done⟩:GMach))) (some (IntKind.wrap .i64 (m_2.At+1),(⟨(⟨m_2.St.Data,m_2.St.Ret,m_2.St.A,m_2.St.Mem,m_2.St.Cells,m_2.St.Vars,m_2.St.Out,m_2.St.In,m_2.St.Fault,IntKind.wrap .i64 (m_2.St.Fuel-1)⟩:GSt),m_2.At,m_2.Done⟩:GMach))))) (cond (v_4.Op==6) ((g_impl_St_begin_inGMach_0 (⟨(⟨m_2.St.Data,m_2.St.Ret,m_2.St.A,m_2.St.Mem,m_2.St.Cells,m_2.St.Vars,m_2.St.Out,m_2.St.In,m_2.St.Fault,IntKind.wrap .i64 (m_2.St.Fuel-1)⟩:GSt),m_2.At,m_2.Done⟩:GMach)).bind λ y_15=>some (IntKind.wrap .i64 (m_2.At+1),y_15)) (cond (v_4.Op==7) ((g_impl_St_again_inGMach_0 (⟨(⟨m_2.St.Data,m_2.St.Ret,m_2.St.A,m_2.St.Mem,m_2.St.Cells,m_2.St.Vars,m_2.St.Out,m_2.St.In,m_2.St.Fault,IntKind.wrap .i64 (m_2.St.Fuel-1)⟩:GSt),m_2.At,m_2.Done⟩:GMach)).bind λ y_16=>cond y_16.1 (some (v_4.N,y_16.2)) (some (IntKind.wrap .i64 (m_2.At+1),y_16.2))) (cond (v_4.Op==8) ((g_impl_Mach_leave_own code_1 (⟨(⟨m_2.St.Data,m_2.St.Ret,m_2.St.A,m_2.St.Mem,m_2.St.Cells,m_2.St.Vars,m_2.St.Out,m_2.St.In,m_2.St.Fault,IntKind.wrap .i64 (m_2.St.Fuel-1)⟩:GSt),m_2.At,m_2.Done⟩:GMach)).bind λ y_17=>some (y_17.1,y_17.2)) (some (IntKind.wrap .i64 (m_2.At+1),(⟨(⟨m_2.St.Data,m_2.St.Ret,m_2.St.A,m_2.St.Mem,m_2.St.Cells,m_2.St.Vars,m_2.St.Out,m_2.St.In,m_2.St.Fault,IntKind.wrap .i64 (m_2.St.Fuel-1)⟩:GSt),m_2.At,m_2.Done⟩:GMach)))))))))):Option ((Int×GMach))).bind λ (next_5,x_6)=>cond (x_6.St.Fault==0) (some (⟨x_6.St,next_5,x_6.Done⟩:GMach)) (some x_6)))
def g_impl_StText_l1 (v_17:List GSlot) (v_18:Int):Nat->Bs->Int->Option Bs
 | 0,_,_=>none
 | k+1,out_19,v_20=>cond (decide (v_20 < v_18)) ((getI v_17 v_20).bind λ v_22=>(subL [100,99,98] v_22.Kind (IntKind.wrap .i64 (v_22.Kind+1))).bind λ v_23=>(catS [32] v_23).bind λ v_24=>(g_impl_DecText (IntKind.wrap .i64 v_22.N)).bind λ y_25=>(catS v_24 y_25).bind λ v_26=>(catS out_19 v_26).bind λ v_27=>g_impl_StText_l1 v_17 v_18 k v_27 (IntKind.wrap .i64 (v_20+1))) (some out_19)
def g_spec_l08Copy (st_1:GSt):Option GSt:=(app ([]:List Int) st_1.Data).bind λ v_3=>(app ([]:List GSlot) st_1.Ret).bind λ v_4=>(app ([]:List Int) st_1.Mem).bind λ v_5=>(app ([]:List Int) st_1.Cells).bind λ v_6=>(app ([]:List Int) st_1.Vars).bind λ v_7=>(app ([]:List Int) st_1.Out).bind λ v_8=>(app ([]:List Int) st_1.In).bind λ v_9=>some (⟨v_3,v_4,st_1.A,v_5,v_6,v_7,v_8,v_9,st_1.Fault,st_1.Fuel⟩:GSt)
def g_spec_l08Fault (st_1:GSt) (f_2:Int):Option GSt:=(g_spec_l08Copy st_1).bind λ y_4=>some (⟨y_4.Data,y_4.Ret,y_4.A,y_4.Mem,y_4.Cells,y_4.Vars,y_4.Out,y_4.In,f_2,y_4.Fuel⟩:GSt)
def g_spec_l12Put (st_1:GSt) (s_2:GSlot):Option GSt:=cond ((st_1.Ret.length:Int)==24) ((g_spec_l08Fault st_1 3).bind λ y_4=>some y_4) ((g_spec_l08Copy st_1).bind λ y_5=>(app y_5.Ret [s_2]).bind λ v_6=>some (⟨y_5.Data,v_6,y_5.A,y_5.Mem,y_5.Cells,y_5.Vars,y_5.Out,y_5.In,y_5.Fault,y_5.Fuel⟩:GSt))
def g_spec_DecText_l0:Nat->Bs->Int->Option Bs
 | 0,_,_=>none
 | k+1,out_4,m_5=>cond (m_5 != 0) ((cond (decide ((Int.tmod m_5 10) < 0)) (some (IntKind.wrap .i64 (0-(Int.tmod m_5 10)))) (some (Int.tmod m_5 10)):Option (Int)).bind λ d_7=>(subL [48,49,50,51,52,53,54,55,56,57] d_7 (IntKind.wrap .i64 (d_7+1))).bind λ v_8=>(catS v_8 out_4).bind λ v_9=>g_spec_DecText_l0 k v_9 (IntKind.wrap .i64 (Int.tdiv m_5 10))) (some out_4)
def g_spec_DecText (n_1:Int):Option Bs:=cond (n_1==0) (some [48]) ((g_spec_DecText_l0 bigK [] n_1).bind λ out_6=>cond (decide (n_1 < 0)) ((catS [45] out_6).bind λ v_10=>some v_10) (some out_6))
def g_spec_l12To (m_1:GMach) (st_2:GSt) (vat_3:Int):Option GMach:=(cond (st_2.Fault != 0) (some m_1.At) (some vat_3):Option (Int)).bind λ vat_5=>some (⟨st_2,vat_5,false⟩:GMach)
def g_spec_l08Put (st_1:GSt) (take_2:Int) (list_3:List Int):Option GSt:=cond (decide ((IntKind.wrap .i64 ((IntKind.wrap .i64 ((st_1.Data.length:Int)-take_2))+(list_3.length:Int))) > 16)) ((g_spec_l08Fault st_1 2).bind λ y_5=>some y_5) ((g_spec_l08Copy st_1).bind λ y_6=>(subL y_6.Data 0 (IntKind.wrap .i64 ((st_1.Data.length:Int)-take_2))).bind λ v_7=>(app v_7 list_3).bind λ v_8=>some (⟨v_8,y_6.Ret,y_6.A,y_6.Mem,y_6.Cells,y_6.Vars,y_6.Out,y_6.In,y_6.Fault,y_6.Fuel⟩:GSt))
def g_spec_PushN (st_1:GSt) (n_2:Int):Option GSt:=(g_spec_StOk st_1).bind λ y_4=>cond (!y_4) (some (⟨[],[],0,[],[],[],[],[],0,0⟩:GSt)) (cond (st_1.Fault != 0) ((g_spec_l08Copy st_1).bind λ y_5=>some y_5) ((g_spec_l08Put st_1 0 [n_2]).bind λ y_6=>some y_6))
def g_spec_l08Takes (name_1:Bs):Option Int:=((cond (name_1==[111,118,101,114]) (some (name_1==[111,118,101,114])) (cond (name_1==[110,105,112]) (some (name_1==[110,105,112])) (cond (name_1==[115,119,97,112]) (some (name_1==[115,119,97,112])) (cond (name_1==[43]) (some (name_1==[43])) (cond (name_1==[42]) (some (name_1==[42])) (cond (name_1==[97,110,100]) (some (name_1==[97,110,100])) (cond (name_1==[111,114]) (some (name_1==[111,114])) (cond (name_1==[47,109,111,100]) (some (name_1==[47,109,111,100])) (some (name_1==[33]))))))))):Option (Bool)).bind λ v_4=>cond v_4 (some (.inr 2)) ((cond (name_1==[97]) (some (name_1==[97])) (cond (name_1==[107,101,121]) (some (name_1==[107,101,121])) (cond (name_1==[112,111,112]) (some (name_1==[112,111,112])) (cond (name_1==[105]) (some (name_1==[105])) (some (name_1==[110,111,112]))))):Option (Bool)).bind λ v_5=>cond v_5 (some (.inr 0)) (some (.inl ()))):Option (Unit ⊕ Int)).bind λ o=>match o with | .inl ()=>some 1 | .inr v_3=>some v_3
def g_spec_l08Pure (name_1:Bs) (x_2:Int) (y_3:Int):Option ((List Int)×Bool):=(cond (name_1==[100,117,112]) (some (.inr ([y_3,y_3],true))) ((cond (name_1==[100,114,111,112]) (some (name_1==[100,114,111,112])) (some (name_1==[110,111,112])):Option (Bool)).bind λ v_8=>cond v_8 (some (.inr (([]:List Int),true))) (cond (name_1==[111,118,101,114]) (some (.inr ([x_2,y_3,x_2],true))) (cond (name_1==[110,105,112]) (some (.inr ([y_3],true))) (cond (name_1==[115,119,97,112]) (some (.inr ([y_3,x_2],true))) (cond (name_1==[43]) (some (.inr ([IntKind.wrap .i32 (x_2+y_3)],true))) (cond (name_1==[45]) (some (.inr ([IntKind.wrap .i32 ((-1)-y_3)],true))) (cond (name_1==[42]) (some (.inr ([IntKind.wrap .i32 (x_2*y_3)],true))) (cond (name_1==[97,110,100]) (some (.inr ([andI .i32 x_2 y_3],true))) (cond (name_1==[111,114]) (some (.inr ([xorI .i32 x_2 y_3],true))) (cond (name_1==[50,42]) (some (.inr ([IntKind.wrap .i32 (y_3+y_3)],true))) (cond (name_1==[50,47]) (some (.inr ([y_3 / 2],true))) (some (.inl ()))))))))))))):Option (Unit ⊕ ((List Int)×Bool))).bind λ o=>match o with | .inl ()=>some ([],false) | .inr (v_6,v_7)=>some (v_6,v_7)
def g_spec_l08Divide (st_1:GSt) (x_2:Int) (y_3:Int):Option GSt:=cond (y_3==0) ((g_spec_l08Fault st_1 5).bind λ y_5=>some y_5) ((quoI .i64 (IntKind.wrap .i64 x_2) (IntKind.wrap .i64 y_3)).bind λ v_6=>(remI .i64 (IntKind.wrap .i64 x_2) (IntKind.wrap .i64 y_3)).bind λ v_7=>(g_spec_l08Put st_1 2 [IntKind.wrap .i32 v_7,IntKind.wrap .i32 v_6]).bind λ y_8=>some y_8)
def g_spec_l08Place (st_1:GSt) (addr_2:Int):Option Int:=(g_spec_l01In (IntKind.wrap .i64 addr_2) 0 31).bind λ y_4=>cond y_4 (some (IntKind.wrap .i64 addr_2)) ((g_spec_l01In (IntKind.wrap .i64 addr_2) 1024 (IntKind.wrap .i64 ((IntKind.wrap .i64 (1024+(st_1.Cells.length:Int)))-1))).bind λ y_5=>cond y_5 (some (IntKind.wrap .i64 ((IntKind.wrap .i64 (32+(IntKind.wrap .i64 addr_2)))-1024))) (some (-1)))
def g_spec_l08Fetch (st_1:GSt) (addr_2:Int):Option GSt:=(g_spec_l08Place st_1 addr_2).bind λ y_4=>cond (decide (y_4 < 0)) ((g_spec_l08Fault st_1 4).bind λ y_5=>some y_5) (cond (decide (y_4 < 32)) ((getI st_1.Mem y_4).bind λ v_6=>(g_spec_l08Put st_1 1 [v_6]).bind λ y_7=>some y_7) ((getI st_1.Cells (IntKind.wrap .i64 (y_4-32))).bind λ v_8=>(g_spec_l08Put st_1 1 [IntKind.wrap .i32 v_8]).bind λ y_9=>some y_9))
def g_spec_l08Store_l0 (n_2:Int) (y_5:Int) (st_1:GSt):Nat->Int->GSt->GSt->Option ((GSt×GSt) ⊕ (GSt×GSt))
 | 0,_,_,_=>none
 | k+1,i_13,x_14,x_15=>cond (decide (i_13 < (st_1.Vars.length:Int))) ((cond (decide (y_5 ≥ 0)) ((getI st_1.Vars i_13).bind λ v_21=>some (v_21==(IntKind.wrap .i64 (y_5-32)))) (some false):Option (Bool)).bind λ v_20=>cond v_20 ((getI st_1.Vars i_13).bind λ v_22=>(getI x_15.Cells v_22).bind λ v_23=>some (.inr ((⟨x_15.Data,x_15.Ret,x_15.A,x_15.Mem,x_15.Cells.set v_22.toNat (IntKind.wrap .u32 n_2),x_15.Vars,x_15.Out,x_15.In,x_15.Fault,x_15.Fuel⟩:GSt),(⟨x_15.Data,x_15.Ret,x_15.A,x_15.Mem,x_15.Cells.set v_22.toNat (IntKind.wrap .u32 n_2),x_15.Vars,x_15.Out,x_15.In,x_15.Fault,x_15.Fuel⟩:GSt)))) (g_spec_l08Store_l0 n_2 y_5 st_1 k (IntKind.wrap .i64 (i_13+1)) x_14 x_15)) (some (.inl (x_14,x_15)))
def g_spec_l08Store (st_1:GSt) (n_2:Int) (addr_3:Int):Option GSt:=(g_spec_l08Place st_1 addr_3).bind λ y_5=>(g_spec_l08Put st_1 2 ([]:List Int)).bind λ y_6=>(g_spec_l01In y_5 0 31).bind λ y_7=>cond y_7 ((getI y_6.Mem y_5).bind λ v_8=>some (⟨y_6.Data,y_6.Ret,y_6.A,y_6.Mem.set y_5.toNat n_2,y_6.Cells,y_6.Vars,y_6.Out,y_6.In,y_6.Fault,y_6.Fuel⟩:GSt)) (((g_spec_l08Store_l0 n_2 y_5 st_1 bigK 0 (⟨[],[],0,[],[],[],[],[],0,0⟩:GSt) y_6).bind λ o=>match o with | .inl (x_16,x_17)=>some (.inl (x_16,x_17)) | .inr (x_18,x_19)=>some (.inr (x_18,(⟨x_18.Data,x_18.Ret,x_19.A,x_18.Mem,x_18.Cells,x_18.Vars,x_18.Out,x_18.In,x_19.Fault,x_19.Fuel⟩:GSt))):Option ((GSt×GSt) ⊕ (GSt×GSt))).bind λ o=>match o with | .inl (x_9,x_10)=>(g_spec_l08Fault st_1 4).bind λ y_24=>some y_24 | .inr (x_11,x_12)=>some x_11)
def g_spec_l08Say (st_1:GSt) (b_2:List Int):Option GSt:=cond (decide ((IntKind.wrap .i64 ((st_1.Out.length:Int)+(b_2.length:Int))) > 400)) ((g_spec_l08Fault st_1 13).bind λ y_4=>some y_4) ((g_spec_l08Put st_1 1 ([]:List Int)).bind λ y_5=>(app y_5.Out b_2).bind λ v_6=>some (⟨y_5.Data,y_5.Ret,y_5.A,y_5.Mem,y_5.Cells,y_5.Vars,v_6,y_5.In,y_5.Fault,y_5.Fuel⟩:GSt))
def g_spec_l08Back (st_1:GSt) (take_2:Bool):Option GSt:=cond ((st_1.Ret.length:Int)==0) ((g_spec_l08Fault st_1 3).bind λ y_4=>some y_4) ((getI st_1.Ret (IntKind.wrap .i64 ((st_1.Ret.length:Int)-1))).bind λ v_5=>(cond (v_5.Kind==2) (some true) (cond take_2 (some (v_5.Kind != 0)) (some false)):Option (Bool)).bind λ v_6=>cond v_6 ((g_spec_l08Fault st_1 11).bind λ y_7=>some y_7) ((g_spec_l08Put st_1 0 [v_5.N]).bind λ y_8=>((cond take_2 (some (y_8.Fault==0)) (some false):Option (Bool)).bind λ v_17=>cond v_17 ((subL y_8.Ret 0 (IntKind.wrap .i64 ((st_1.Ret.length:Int)-1))).bind λ v_18=>some (⟨y_8.Data,v_18,y_8.A,y_8.Mem,y_8.Cells,y_8.Vars,y_8.Out,y_8.In,y_8.Fault,y_8.Fuel⟩:GSt)) (some y_8):Option (GSt)).bind λ x_16=>some x_16))
def g_spec_l08Other (st_1:GSt) (name_2:Bs) (x_3:Int) (y_4:Int):Option GSt:=cond (name_2==[47,109,111,100]) ((g_spec_l08Divide st_1 x_3 y_4).bind λ y_6=>some y_6) (cond (name_2==[64]) ((g_spec_l08Fetch st_1 y_4).bind λ y_7=>some y_7) (cond (name_2==[33]) ((g_spec_l08Store st_1 x_3 y_4).bind λ y_8=>some y_8) (cond (name_2==[97]) ((g_spec_l08Put st_1 0 [st_1.A]).bind λ y_9=>some y_9) (cond (name_2==[97,33]) ((g_spec_l08Put st_1 1 ([]:List Int)).bind λ y_10=>some (⟨y_10.Data,y_10.Ret,y_4,y_10.Mem,y_10.Cells,y_10.Vars,y_10.Out,y_10.In,y_10.Fault,y_10.Fuel⟩:GSt)) (cond (name_2==[101,109,105,116]) ((g_spec_l08Say st_1 [IntKind.wrap .u8 (andI .i32 y_4 255)]).bind λ y_11=>some y_11) (cond (name_2==[46]) ((g_spec_DecText (IntKind.wrap .i64 y_4)).bind λ y_12=>(catS y_12 [32]).bind λ v_13=>(s2b v_13).bind λ v_14=>(g_spec_l08Say st_1 v_14).bind λ y_15=>some y_15) (cond (name_2==[107,101,121]) ((cond (decide ((st_1.In.length:Int) > 0)) ((getI st_1.In 0).bind λ v_17=>some (IntKind.wrap .i32 v_17)) (some (-1)):Option (Int)).bind λ n_16=>(g_spec_l08Put st_1 0 [n_16]).bind λ y_18=>((cond (y_18.Fault==0) (some (decide ((y_18.In.length:Int) > 0))) (some false):Option (Bool)).bind λ v_27=>cond v_27 ((subL y_18.In 1 ((y_18.In.length:Nat):Int)).bind λ v_28=>some (⟨y_18.Data,y_18.Ret,y_18.A,y_18.Mem,y_18.Cells,y_18.Vars,y_18.Out,v_28,y_18.Fault,y_18.Fuel⟩:GSt)) (some y_18):Option (GSt)).bind λ x_26=>some x_26) (cond (name_2==[112,117,115,104]) (cond ((st_1.Ret.length:Int)==24) ((g_spec_l08Fault st_1 3).bind λ y_29=>some y_29) ((g_spec_l08Put st_1 1 ([]:List Int)).bind λ y_30=>(app y_30.Ret [(⟨0,y_4⟩:GSlot)]).bind λ v_31=>some (⟨y_30.Data,v_31,y_30.A,y_30.Mem,y_30.Cells,y_30.Vars,y_30.Out,y_30.In,y_30.Fault,y_30.Fuel⟩:GSt))) ((g_spec_l08Back st_1 (name_2==[112,111,112])).bind λ y_32=>some y_32)))))))))
def g_spec_Do (st_1:GSt) (k_2:Int):Option GSt:=(g_spec_StOk st_1).bind λ y_4=>cond (!y_4) (some (⟨[],[],0,[],[],[],[],[],0,0⟩:GSt)) (cond (st_1.Fault != 0) ((g_spec_l08Copy st_1).bind λ y_5=>some y_5) ((g_spec_PrimName k_2).bind λ y_6=>cond (y_6==[]) ((g_spec_l08Fault st_1 1).bind λ y_7=>some y_7) ((g_spec_l08Takes y_6).bind λ y_8=>cond (decide ((st_1.Data.length:Int) < y_8)) ((g_spec_l08Fault st_1 2).bind λ y_9=>some y_9) ((cond (decide (y_8 > 0)) ((getI st_1.Data (IntKind.wrap .i64 ((st_1.Data.length:Int)-1))).bind λ v_11=>some v_11) (some 0):Option (Int)).bind λ y_10=>(cond (decide (y_8 > 1)) ((getI st_1.Data (IntKind.wrap .i64 ((st_1.Data.length:Int)-2))).bind λ v_13=>some v_13) (some 0):Option (Int)).bind λ x_12=>(g_spec_l08Pure y_6 x_12 y_10).bind λ y_14=>cond y_14.2 ((g_spec_l08Put st_1 y_8 y_14.1).bind λ y_15=>some y_15) ((g_spec_l08Other st_1 y_6 x_12 y_10).bind λ y_16=>some y_16)))))
def g_spec_l12For (m_1:GMach) (st_2:GSt):Option GMach:=cond ((st_2.Data.length:Int)==0) ((g_spec_l08Fault st_2 2).bind λ y_4=>(g_spec_l12To m_1 y_4 0).bind λ y_5=>some y_5) ((getI st_2.Data (IntKind.wrap .i64 ((st_2.Data.length:Int)-1))).bind λ v_6=>(g_spec_l12Put st_2 (⟨1,v_6⟩:GSlot)).bind λ y_7=>(cond (y_7.Fault==0) ((subL y_7.Data 0 (IntKind.wrap .i64 ((st_2.Data.length:Int)-1))).bind λ v_16=>some (⟨v_16,y_7.Ret,y_7.A,y_7.Mem,y_7.Cells,y_7.Vars,y_7.Out,y_7.In,y_7.Fault,y_7.Fuel⟩:GSt)) (some y_7):Option (GSt)).bind λ x_15=>(g_spec_l12To m_1 x_15 (IntKind.wrap .i64 (m_1.At+1))).bind λ y_17=>some y_17)
def g_spec_l12Drop (st_1:GSt):Option GSt:=(g_spec_l08Copy st_1).bind λ y_3=>(subL y_3.Ret 0 (IntKind.wrap .i64 ((y_3.Ret.length:Int)-1))).bind λ v_4=>some (⟨y_3.Data,v_4,y_3.A,y_3.Mem,y_3.Cells,y_3.Vars,y_3.Out,y_3.In,y_3.Fault,y_3.Fuel⟩:GSt)
def g_spec_l12Next (m_1:GMach) (st_2:GSt) (to_3:Int):Option GMach:=cond ((st_2.Ret.length:Int)==0) ((g_spec_l08Fault st_2 3).bind λ y_5=>(g_spec_l12To m_1 y_5 0).bind λ y_6=>some y_6) ((getI st_2.Ret (IntKind.wrap .i64 ((st_2.Ret.length:Int)-1))).bind λ v_7=>cond (v_7.Kind != 1) ((g_spec_l08Fault st_2 11).bind λ y_8=>(g_spec_l12To m_1 y_8 0).bind λ y_9=>some y_9) ((g_spec_l08Copy st_2).bind λ y_10=>(getI y_10.Ret (IntKind.wrap .i64 ((st_2.Ret.length:Int)-1))).bind λ v_11=>(getI y_10.Ret (IntKind.wrap .i64 ((st_2.Ret.length:Int)-1))).bind λ v_12=>(getI (y_10.Ret.set (IntKind.wrap .i64 ((st_2.Ret.length:Int)-1)).toNat (⟨v_12.Kind,IntKind.wrap .i32 (v_11.N-1)⟩:GSlot)) (IntKind.wrap .i64 ((st_2.Ret.length:Int)-1))).bind λ v_13=>cond (decide (v_13.N > 0)) ((g_spec_l12To m_1 (⟨y_10.Data,y_10.Ret.set (IntKind.wrap .i64 ((st_2.Ret.length:Int)-1)).toNat (⟨v_12.Kind,IntKind.wrap .i32 (v_11.N-1)⟩:GSlot),y_10.A,y_10.Mem,y_10.Cells,y_10.Vars,y_10.Out,y_10.In,y_10.Fault,y_10.Fuel⟩:GSt) to_3).bind λ y_14=>some y_14) ((g_spec_l12Drop (⟨y_10.Data,y_10.Ret.set (IntKind.wrap .i64 ((st_2.Ret.length:Int)-1)).toNat (⟨v_12.Kind,IntKind.wrap .i32 (v_11.N-1)⟩:GSlot),y_10.A,y_10.Mem,y_10.Cells,y_10.Vars,y_10.Out,y_10.In,y_10.Fault,y_10.Fuel⟩:GSt)).bind λ y_15=>(g_spec_l12To m_1 y_15 (IntKind.wrap .i64 (m_1.At+1))).bind λ y_16=>some y_16)))
def g_spec_l12Ret (m_1:GMach) (st_2:GSt) (n_3:Int):Option GMach:=(cond ((st_2.Ret.length:Int)==0) (some true) ((getI st_2.Ret (IntKind.wrap .i64 ((st_2.Ret.length:Int)-1))).bind λ v_6=>some (v_6.Kind != 2)):Option (Bool)).bind λ v_5=>cond v_5 ((g_spec_l08Fault st_2 11).bind λ y_7=>(g_spec_l12To m_1 y_7 0).bind λ y_8=>some y_8) ((getI st_2.Ret (IntKind.wrap .i64 ((st_2.Ret.length:Int)-1))).bind λ v_9=>cond ((IntKind.wrap .i64 v_9.N)==(-1)) ((g_spec_l12Drop st_2).bind λ y_10=>some (⟨y_10,m_1.At,true⟩:GMach)) ((g_spec_l01In (IntKind.wrap .i64 v_9.N) 0 (IntKind.wrap .i64 (n_3-1))).bind λ y_11=>cond (!y_11) ((g_spec_l08Fault st_2 11).bind λ y_12=>(g_spec_l12To m_1 y_12 0).bind λ y_13=>some y_13) ((g_spec_l12Drop st_2).bind λ y_14=>(g_spec_l12To m_1 y_14 (IntKind.wrap .i64 v_9.N)).bind λ y_15=>some y_15)))
def g_spec_l12Test (m_1:GMach) (st_2:GSt) (x_3:GIns):Option GMach:=cond ((st_2.Data.length:Int)==0) ((g_spec_l08Fault st_2 2).bind λ y_5=>(g_spec_l12To m_1 y_5 0).bind λ y_6=>some y_6) ((getI st_2.Data (IntKind.wrap .i64 ((st_2.Data.length:Int)-1))).bind λ v_7=>(cond (x_3.Op==4) (cond (v_7==0) (some true) (cond (x_3.Op==5) (some (decide (v_7 ≥ 0))) (some false))) (cond (x_3.Op==5) (some (decide (v_7 ≥ 0))) (some false)):Option (Bool)).bind λ v_8=>cond v_8 ((g_spec_l12To m_1 st_2 x_3.N).bind λ y_9=>some y_9) ((g_spec_l12To m_1 st_2 (IntKind.wrap .i64 (m_1.At+1))).bind λ y_10=>some y_10))
def g_spec_l12Step (code_1:List GIns) (m_2:GMach):Option GMach:=(getI code_1 m_2.At).bind λ v_4=>cond (v_4.Op==9) ((g_spec_l08Fault m_2.St 10).bind λ y_5=>(g_spec_l12To m_2 y_5 0).bind λ y_6=>some y_6) (cond (m_2.St.Fuel==0) ((g_spec_l08Fault m_2.St 6).bind λ y_7=>(g_spec_l12To m_2 y_7 0).bind λ y_8=>some y_8) ((g_spec_l08Copy m_2.St).bind λ y_9=>cond (v_4.Op==0) ((g_spec_PushN (⟨y_9.Data,y_9.Ret,y_9.A,y_9.Mem,y_9.Cells,y_9.Vars,y_9.Out,y_9.In,y_9.Fault,IntKind.wrap .i64 (y_9.Fuel-1)⟩:GSt) (IntKind.wrap .i32 v_4.N)).bind λ y_10=>(g_spec_l12To m_2 y_10 (IntKind.wrap .i64 (m_2.At+1))).bind λ y_11=>some y_11) (cond (v_4.Op==1) ((g_spec_Do (⟨y_9.Data,y_9.Ret,y_9.A,y_9.Mem,y_9.Cells,y_9.Vars,y_9.Out,y_9.In,y_9.Fault,IntKind.wrap .i64 (y_9.Fuel-1)⟩:GSt) v_4.N).bind λ y_12=>(g_spec_l12To m_2 y_12 (IntKind.wrap .i64 (m_2.At+1))).bind λ y_13=>some y_13) (cond (v_4.Op==2) ((g_spec_l12Put (⟨y_9.Data,y_9.Ret,y_9.A,y_9.Mem,y_9.Cells,y_9.Vars,y_9.Out,y_9.In,y_9.Fault,IntKind.wrap .i64 (y_9.Fuel-1)⟩:GSt) (⟨2,IntKind.wrap .i32 (IntKind.wrap .i64 (m_2.At+1))⟩:GSlot)).bind λ y_14=>(g_spec_l12To m_2 y_14 v_4.N).bind λ y_15=>some y_15) (cond (v_4.Op==3) ((g_spec_l12To m_2 (⟨y_9.Data,y_9.Ret,y_9.A,y_9.Mem,y_9.Cells,y_9.Vars,y_9.Out,y_9.In,y_9.Fault,IntKind.wrap .i64 (y_9.Fuel-1)⟩:GSt) v_4.N).bind λ y_16=>some y_16) (cond (v_4.Op==6) ((g_spec_l12For m_2 (⟨y_9.Data,y_9.Ret,y_9.A,y_9.Mem,y_9.Cells,y_9.Vars,y_9.Out,y_9.In,y_9.Fault,IntKind.wrap .i64 (y_9.Fuel-1)⟩:GSt)).bind λ y_17=>some y_17) (cond (v_4.Op==7) ((g_spec_l12Next m_2 (⟨y_9.Data,y_9.Ret,y_9.A,y_9.Mem,y_9.Cells,y_9.Vars,y_9.Out,y_9.In,y_9.Fault,IntKind.wrap .i64 (y_9.Fuel-1)⟩:GSt) v_4.N).bind λ y_18=>some y_18) (cond (v_4.Op==8) ((g_spec_l12Ret m_2 (⟨y_9.Data,y_9.Ret,y_9.A,y_9.Mem,y_9.Cells,y_9.Vars,y_9.Out,y_9.In,y_9.Fault,IntKind.wrap .i64 (y_9.Fuel-1)⟩:GSt) (code_1.length:Int)).bind λ y_19=>some y_19) ((g_spec_l12Test m_2 (⟨y_9.Data,y_9.Ret,y_9.A,y_9.Mem,y_9.Cells,y_9.Vars,y_9.Out,y_9.In,y_9.Fault,IntKind.wrap .i64 (y_9.Fuel-1)⟩:GSt) v_4).bind λ y_20=>some y_20)))))))))
def bodyOf (f:Func):Code:=match f.body with|some c=>c|none=>.skip
end Go.Proofs.YtofjeimkphojaaaGreatDoor
namespace Go.Proofs.YtofjeimkphojaaaGreatDoor
open Go Go.Fm
set_option maxRecDepth 1000000
def itoaLays_ren:Go.Shelf.Ren:=⟨fun|171=>164|243=>195|246=>218|283=>229|284=>230|285=>231|286=>232|129=>238|317=>237|318=>239|319=>240|320=>241|337=>245|338=>246|n=>n,fun|3=>3|9=>9|2=>2|4=>4|171=>241|0=>0|53=>242|37=>22|5=>5|173=>245|212=>255|51=>138|20=>20|213=>256|46=>177|232=>274|233=>275|n=>n,fun|17=>3|18=>4|19=>5|n=>n⟩
theorem itoaLays:Go.Proofs.LaysM.n171 Tryz.prog itoaLays_ren where
 mixed:=by kernel_rfl
 f129:=Tryz.func238.trans (congrArg some (by kernel_rfl))
 f171:=Tryz.func164.trans (congrArg some (by kernel_rfl))
 f243:=Tryz.func195.trans (congrArg some (by kernel_rfl))
 f246:=Tryz.func218.trans (congrArg some (by kernel_rfl))
 f283:=Tryz.func229.trans (congrArg some (by kernel_rfl))
 f284:=Tryz.func230.trans (congrArg some (by kernel_rfl))
 f285:=Tryz.func231.trans (congrArg some (by kernel_rfl))
 f286:=Tryz.func232.trans (congrArg some (by kernel_rfl))
 f317:=Tryz.func237.trans (congrArg some (by kernel_rfl))
 f318:=Tryz.func239.trans (congrArg some (by kernel_rfl))
 f319:=Tryz.func240.trans (congrArg some (by kernel_rfl))
 f320:=Tryz.func241.trans (congrArg some (by kernel_rfl))
 f337:=Tryz.func245.trans (congrArg some (by kernel_rfl))
 f338:=Tryz.func246.trans (congrArg some (by kernel_rfl))
 t0:=Tryz.underlying0
 a0:=Tryz.isAgg0
 z0:=Tryz.sizeOf0
 v0:=Tryz.zeroValue0
 t2:=Tryz.underlying2
 a2:=Tryz.isAgg2
 z2:=Tryz.sizeOf2
 v2:=Tryz.zeroValue2
 t3:=Tryz.underlying3
 a3:=Tryz.isAgg3
 z3:=Tryz.sizeOf3
 v3:=Tryz.zeroValue3
 t4:=Tryz.underlying4
 a4:=Tryz.isAgg4
 z4:=Tryz.sizeOf4
 v4:=Tryz.zeroValue4
 t5:=Tryz.underlying5
 a5:=Tryz.isAgg5
 z5:=Tryz.sizeOf5
 v5:=Tryz.zeroValue5
 t9:=Tryz.underlying9
 a9:=Tryz.isAgg9
 z9:=Tryz.sizeOf9
 v9:=Tryz.zeroValue9
 t20:=Tryz.underlying20
 a20:=Tryz.isAgg20
 z20:=Tryz.sizeOf20
 v20:=Tryz.zeroValue20
 t37:=Tryz.underlying22
 a37:=Tryz.isAgg22
 z37:=Tryz.sizeOf22
 v37:=Tryz.zeroValue22
 t46:=Tryz.underlying177
 a46:=Tryz.isAgg177
 z46:=Tryz.sizeOf177
 v46:=Tryz.zeroValue177
 t51:=Tryz.underlying138
 a51:=Tryz.isAgg138
 z51:=Tryz.sizeOf138
 v51:=Tryz.zeroValue138
 t53:=Tryz.underlying242
 a53:=Tryz.isAgg242
 z53:=Tryz.sizeOf242
 v53:=Tryz.zeroValue242
 t171:=Tryz.underlying241
 a171:=Tryz.isAgg241
 z171:=Tryz.sizeOf241
 v171:=Tryz.zeroValue241
 t173:=Tryz.underlying245
 a173:=Tryz.isAgg245
 z173:=Tryz.sizeOf245
 v173:=Tryz.zeroValue245
 t212:=Tryz.underlying255
 a212:=Tryz.isAgg255
 z212:=Tryz.sizeOf255
 v212:=Tryz.zeroValue255
 t213:=Tryz.underlying256
 a213:=Tryz.isAgg256
 z213:=Tryz.sizeOf256
 t232:=Tryz.underlying274
 a232:=Tryz.isAgg274
 z232:=Tryz.sizeOf274
 v232:=Tryz.zeroValue274
 t233:=Tryz.underlying275
 a233:=Tryz.isAgg275
 z233:=Tryz.sizeOf275
 v233:=Tryz.zeroValue275
 g17:=by kernel_rfl
 g18:=by kernel_rfl
 g19:=by kernel_rfl
 i0:=by kernel_rfl
 i2:=by kernel_rfl
 i3:=by kernel_rfl
 i4:=by kernel_rfl
 i5:=by kernel_rfl
 i9:=by kernel_rfl
 i20:=by kernel_rfl
 i37:=by kernel_rfl
 i46:=by kernel_rfl
 i51:=by kernel_rfl
 i53:=by kernel_rfl
 i171:=by kernel_rfl
 i173:=by kernel_rfl
 i212:=by kernel_rfl
 i232:=by kernel_rfl
 i233:=by kernel_rfl
 m17:=by kernel_rfl
 m18:=by kernel_rfl
 m19:=by kernel_rfl
end Go.Proofs.YtofjeimkphojaaaGreatDoor
namespace Go.Proofs.YtofjeimkphojaaaGreatDoor
open Go Go.Fm
set_option maxRecDepth 1000000
noncomputable def e_impl_St_pushes_inGMeaning_1:Con:=⟨138,⟨[(0, .c (.one (.ptr 0 1))),(1, .s K1 [])],[.v K14 [(0,1),(1,2),(2,3),(4,4),(5,5),(6,6),(7,7),(8,8)], .o, .o, .o, .o, .o, .o, .o, .o]⟩,⟨[],[.v K14 [(0,1),(1,9),(2,3),(4,4),(5,5),(6,6),(7,7),(8,8)], .o, .d, .o, .o, .o, .o, .o, .o, .o]⟩,true,[],λ (n_1,st_2)=>g_impl_St_pushes_inGMeaning_1 n_1 st_2⟩
noncomputable def e_impl_meaning_fail_own:Con:=⟨117,⟨[(0, .c (.one (.ptr 0 0))),(1, .s K0 [])],[.v K14 [(0,1),(1,2),(2,3),(4,4),(5,5),(6,6),(7,7),(8,8)], .o, .o, .o, .o, .o, .o, .o, .o]⟩,⟨[],[.v K14 [(0,1),(1,2),(2,3),(4,4),(5,5),(6,6),(7,7),(8,8)], .o, .o, .o, .o, .o, .o, .o, .o]⟩,true,[],λ (fault_1,m_2)=>g_impl_meaning_fail_own fault_1 m_2⟩
noncomputable def e_impl_meaning_burn_own:Con:=⟨202,⟨[(0, .c (.one (.ptr 0 0)))],[.v K14 [(0,1),(1,2),(2,3),(4,4),(5,5),(6,6),(7,7),(8,8)], .o, .o, .o, .o, .o, .o, .o, .o]⟩,⟨[(0, .s K15 [])],[.v K14 [(0,1),(1,2),(2,3),(4,4),(5,5),(6,6),(7,7),(8,8)], .o, .o, .o, .o, .o, .o, .o, .o]⟩,true,[],λ m_1=>g_impl_meaning_burn_own m_1⟩
noncomputable def e_strings_Fields:Con:=⟨215,⟨[(0, .s K16 [])],[]⟩,⟨[(0, .s K17 [(0,0)])],[.o]⟩,false,[],λ s_1=>g_strings_Fields s_1⟩
noncomputable def e_impl_prims:Con:=⟨191,⟨[],[]⟩,⟨[(0, .s K17 [(0,0)])],[.o]⟩,false,[],λ _=>g_impl_prims⟩
noncomputable def e_impl_within:Con:=⟨60,⟨[(0, .s K0 []),(1, .s K0 []),(2, .s K0 [])],[]⟩,⟨[(0, .s K15 [])],[]⟩,false,[],λ (n_1,low_2,high_3)=>g_impl_within n_1 low_2 high_3⟩
noncomputable def e_impl_PrimName:Con:=⟨160,⟨[(0, .s K0 [])],[]⟩,⟨[(0, .s K16 [])],[]⟩,false,[],λ k_1=>g_impl_PrimName k_1⟩
noncomputable def e_slices_Clone_int32:Con:=⟨111,⟨[(0, .s K5 [])],[]⟩,⟨[(0, .s K5 [(0,0)])],[.o]⟩,false,[],λ s_1=>g_slices_Clone_int32 s_1⟩
noncomputable def e_slices_Clone_Slot:Con:=⟨112,⟨[(0, .s K7 [])],[]⟩,⟨[(0, .s K7 [(0,0)])],[.o]⟩,false,[],λ s_1=>g_slices_Clone_Slot s_1⟩
noncomputable def e_slices_Clone_uint32:Con:=⟨113,⟨[(0, .s K9 [])],[]⟩,⟨[(0, .s K9 [(0,0)])],[.o]⟩,false,[],λ s_1=>g_slices_Clone_uint32 s_1⟩
noncomputable def e_slices_Clone_int:Con:=⟨114,⟨[(0, .s K10 [])],[]⟩,⟨[(0, .s K10 [(0,0)])],[.o]⟩,false,[],λ s_1=>g_slices_Clone_int s_1⟩
noncomputable def e_slices_Clone_byte:Con:=⟨115,⟨[(0, .s K12 [])],[]⟩,⟨[(0, .s K12 [(0,0)])],[.o]⟩,false,[],λ s_1=>g_slices_Clone_byte s_1⟩
noncomputable def e_impl_ownSt:Con:=⟨62,⟨[(0, .s K13 [])],[]⟩,⟨[(0, .s K13 [(0,0),(1,1),(3,2),(4,3),(5,4),(6,5),(7,6)])],[.o, .o, .o, .o, .o, .o, .o]⟩,false,[],λ st_1=>g_impl_ownSt st_1⟩
noncomputable def e_impl_doesc1:Con:=⟨184,⟨[(0, .s K0 []),(1, .c (.one (.ptr 0 0)))],[.v K13 []]⟩,⟨[(0, .s K13 [(0,1),(1,2),(3,3),(4,4),(5,5),(6,6),(7,7)])],[.f, .o, .o, .o, .o, .o, .o, .o]⟩,false,[0],λ (fault_1,a_2)=>g_impl_doesc1 fault_1 a_2⟩
noncomputable def e_impl_PrimEffect:Con:=⟨210,⟨[(0, .s K0 [])],[]⟩,⟨[(0, .s K18 [])],[]⟩,false,[],λ k_1=>g_impl_PrimEffect k_1⟩
noncomputable def e_impl_wants:Con:=⟨185,⟨[(0, .s K0 [])],[]⟩,⟨[(0, .s K0 [])],[]⟩,false,[],λ k_1=>g_impl_wants k_1⟩
noncomputable def e_slices_Index_int:Con:=⟨144,⟨[(0, .s K10 []),(1, .s K0 [])],[]⟩,⟨[(0, .s K0 [])],[]⟩,false,[],λ (s_1,v_2)=>g_slices_Index_int s_1 v_2⟩
noncomputable def e_slices_Contains_int:Con:=⟨77,⟨[(0, .s K10 []),(1, .s K0 [])],[]⟩,⟨[(0, .s K15 [])],[]⟩,false,[],λ (s_1,v_2)=>g_slices_Contains_int s_1 v_2⟩
noncomputable def e_impl_St_written:Con:=⟨212,⟨[(0, .c (.one (.ptr 0 0))),(1, .s K16 [])],[.v K13 [(0,1),(1,2),(3,3),(4,4),(5,5),(6,6),(7,7)], .o, .o, .o, .o, .o, .o, .o]⟩,⟨[(0, .s K0 [])],[.v K13 [(0,1),(1,2),(3,3),(4,4),(5,5),(6,8),(7,7)], .o, .o, .o, .o, .o, .d, .o, .o]⟩,false,[],λ (s_1,st_2)=>g_impl_St_written s_1 st_2⟩
noncomputable def e_strconv_Itoa:Con:=⟨164,⟨[(0, .s K0 [])],[]⟩,⟨[(0, .s K16 [])],[]⟩,false,[],λ i_1=>g_strconv_Itoa i_1⟩
noncomputable def e_impl_DecText:Con:=⟨93,⟨[(0, .s K0 [])],[]⟩,⟨[(0, .s K16 [])],[]⟩,false,[],λ n_1=>g_impl_DecText n_1⟩
noncomputable def e_impl_result:Con:=⟨213,⟨[(0, .s K16 []),(1, .s K1 []),(2, .s K1 [])],[]⟩,⟨[(0, .s K5 [(0,0)]),(1, .s K0 [])],[.o]⟩,false,[],λ (name_1,x_2,y_3)=>g_impl_result name_1 x_2 y_3⟩
noncomputable def e_impl_St_place_rd:Con:=⟨211,⟨[(0, .c (.one (.ptr 0 0))),(1, .s K1 [])],[.v K13 [(0,1),(1,2),(3,3),(4,4),(5,5),(6,6),(7,7)], .o, .o, .o, .o, .o, .o, .o]⟩,⟨[(0, .s K0 []),(1, .s K15 []),(2, .s K15 [])],[.f, .f, .f, .f, .f, .f, .f, .f]⟩,false,[0,1,2,3,4,5,6,7],λ (address_1,st_2)=>g_impl_St_place_rd address_1 st_2⟩
noncomputable def e_impl_St_effect:Con:=⟨186,⟨[(0, .c (.one (.ptr 0 0))),(1, .s K16 []),(2, .s K1 []),(3, .s K1 [])],[.v K13 [(0,1),(1,2),(3,3),(4,4),(5,5),(6,6),(7,7)], .o, .o, .o, .o, .o, .o, .o]⟩,⟨[(0, .s K5 [(0,8)]),(1, .s K0 [])],[.v K13 [(0,1),(1,9),(3,3),(4,4),(5,5),(6,10),(7,11)], .o, .d, .o, .o, .o, .d, .d, .o, .o, .o, .o]⟩,false,[],λ (name_1,x_2,y_3,st_4)=>g_impl_St_effect name_1 x_2 y_3 st_4⟩
noncomputable def e_impl_does:Con:=⟨139,⟨[(0, .s K13 []),(1, .s K0 [])],[]⟩,⟨[(0, .s K13 [(0,0),(1,1),(3,2),(4,3),(5,4),(6,5),(7,6)])],[.o, .o, .o, .o, .o, .o, .o]⟩,false,[],λ (st_1,k_2)=>g_impl_does st_1 k_2⟩
noncomputable def e_impl_meaning_enter_r (kk:Nat):Con:=⟨64,⟨[(0, .c (.one (.ptr 0 0))),(1, .s K0 [])],[.v K14 [(0,1),(1,2),(2,3),(4,4),(5,5),(6,6),(7,7),(8,8)], .o, .o, .o, .o, .o, .o, .o, .o]⟩,⟨[],[.v K14 [(0,1),(1,9),(2,10),(4,11),(5,12),(6,13),(7,14),(8,15)], .o, .d, .d, .d, .d, .d, .d, .d, .o, .o, .o, .o, .o, .o, .o]⟩,true,[],λ (k_1,m_2)=>g_impl_meaning_enter_p (g_impl_meaning_all_r kk) k_1 m_2⟩
noncomputable def e_impl_St_begin_inGMeaning_1:Con:=⟨141,⟨[(0, .c (.one (.ptr 0 1)))],[.v K14 [(0,1),(1,2),(2,3),(4,4),(5,5),(6,6),(7,7),(8,8)], .o, .o, .o, .o, .o, .o, .o, .o]⟩,⟨[],[.v K14 [(0,1),(1,9),(2,10),(4,4),(5,5),(6,6),(7,7),(8,8)], .o, .d, .d, .o, .o, .o, .o, .o, .o, .o]⟩,true,[],λ st_1=>g_impl_St_begin_inGMeaning_1 st_1⟩
noncomputable def e_impl_St_again_inGMeaning_1:Con:=⟨142,⟨[(0, .c (.one (.ptr 0 1)))],[.v K14 [(0,1),(1,2),(2,3),(4,4),(5,5),(6,6),(7,7),(8,8)], .o, .o, .o, .o, .o, .o, .o, .o]⟩,⟨[(0, .s K15 [])],[.v K14 [(0,1),(1,2),(2,9),(4,4),(5,5),(6,6),(7,7),(8,8)], .o, .o, .d, .o, .o, .o, .o, .o, .o]⟩,true,[],λ st_1=>g_impl_St_again_inGMeaning_1 st_1⟩
noncomputable def e_impl_meaning_loop_r (kk:Nat):Con:=⟨203,⟨[(0, .c (.one (.ptr 0 0))),(1, .s K3 [])],[.v K14 [(0,1),(1,2),(2,3),(4,4),(5,5),(6,6),(7,7),(8,8)], .o, .o, .o, .o, .o, .o, .o, .o]⟩,⟨[(0, .s K15 [])],[.v K14 [(0,1),(1,9),(2,10),(4,11),(5,12),(6,13),(7,14),(8,15)], .o, .d, .d, .d, .d, .d, .d, .d, .o, .o, .o, .o, .o, .o, .o]⟩,true,[],λ (kids_1,m_2)=>g_impl_meaning_loop_p (g_impl_meaning_all_r kk) kids_1 m_2⟩
noncomputable def e_impl_meaning_one_r (kk:Nat):Con:=⟨175,⟨[(0, .c (.one (.ptr 0 0))),(1, .s K2 [])],[.v K14 [(0,1),(1,2),(2,3),(4,4),(5,5),(6,6),(7,7),(8,8)], .o, .o, .o, .o, .o, .o, .o, .o]⟩,⟨[(0, .s K15 [])],[.v K14 [(0,1),(1,9),(2,10),(4,11),(5,12),(6,13),(7,14),(8,15)], .o, .d, .d, .d, .d, .d, .d, .d, .o, .o, .o, .o, .o, .o, .o]⟩,true,[],λ (t_1,m_2)=>g_impl_meaning_one_p (g_impl_meaning_all_r kk) t_1 m_2⟩
noncomputable def e_impl_meaning_all_r (kk:Nat):Con:=⟨118,⟨[(0, .c (.one (.ptr 0 0))),(1, .s K3 [])],[.v K14 [(0,1),(1,2),(2,3),(4,4),(5,5),(6,6),(7,7),(8,8)], .o, .o, .o, .o, .o, .o, .o, .o]⟩,⟨[(0, .s K15 [])],[.v K14 [(0,1),(1,9),(2,10),(4,11),(5,12),(6,13),(7,14),(8,15)], .o, .d, .d, .d, .d, .d, .d, .d, .o, .o, .o, .o, .o, .o, .o]⟩,true,[],λ (list_1,m_2)=>g_impl_meaning_all_r kk list_1 m_2⟩
noncomputable def e_impl_meaning_all:Con:=⟨118,⟨[(0, .c (.one (.ptr 0 0))),(1, .s K3 [])],[.v K14 [(0,1),(1,2),(2,3),(4,4),(5,5),(6,6),(7,7),(8,8)], .o, .o, .o, .o, .o, .o, .o, .o]⟩,⟨[(0, .s K15 [])],[.v K14 [(0,1),(1,9),(2,10),(4,11),(5,12),(6,13),(7,14),(8,15)], .o, .d, .d, .d, .d, .d, .d, .d, .o, .o, .o, .o, .o, .o, .o]⟩,true,[],λ (list_1,m_2)=>g_impl_meaning_all list_1 m_2⟩
noncomputable def e_impl_meaning_enter:Con:=⟨64,⟨[(0, .c (.one (.ptr 0 0))),(1, .s K0 [])],[.v K14 [(0,1),(1,2),(2,3),(4,4),(5,5),(6,6),(7,7),(8,8)], .o, .o, .o, .o, .o, .o, .o, .o]⟩,⟨[],[.v K14 [(0,1),(1,9),(2,10),(4,11),(5,12),(6,13),(7,14),(8,15)], .o, .d, .d, .d, .d, .d, .d, .d, .o, .o, .o, .o, .o, .o, .o]⟩,true,[],λ (k_1,m_2)=>g_impl_meaning_enter k_1 m_2⟩
noncomputable def e_laws_big:Con:=⟨8,⟨[(0, .s K12 [])],[]⟩,⟨[(0, .s K15 [])],[]⟩,false,[],λ code_1=>g_laws_big code_1⟩
noncomputable def e_spec_l01New:Con:=⟨44,⟨[(0, .s K12 [])],[]⟩,⟨[(0, .c (.one (.ptr 0 0)))],[.v K19 []]⟩,true,[],λ code_1=>g_spec_l01New code_1⟩
noncomputable def e_spec_l01Byte:Con:=⟨101,⟨[(0, .c (.one (.ptr 0 0)))],[.v K19 []]⟩,⟨[(0, .s K0 [])],[.v K19 []]⟩,true,[],λ c_1=>g_spec_l01Byte c_1⟩
noncomputable def e_spec_l01Below:Con:=⟨51,⟨[(0, .c (.one (.ptr 0 0))),(1, .s K0 [])],[.v K19 []]⟩,⟨[(0, .s K0 [])],[.v K19 []]⟩,true,[],λ (n_1,c_2)=>g_spec_l01Below n_1 c_2⟩
noncomputable def e_spec_l01PickInt:Con:=⟨87,⟨[(0, .c (.one (.ptr 0 0))),(1, .s K10 [])],[.v K19 []]⟩,⟨[(0, .s K0 [])],[.v K19 []]⟩,true,[],λ (list_1,c_2)=>g_spec_l01PickInt list_1 c_2⟩
noncomputable def e_spec_l09Plain:Con:=⟨165,⟨[(0, .c (.one (.ptr 0 0))),(1, .s K0 [])],[.v K19 []]⟩,⟨[(0, .s K20 [])],[.v K19 []]⟩,true,[],λ (n_1,c_2)=>g_spec_l09Plain n_1 c_2⟩
noncomputable def e_spec_l01Once:Con:=⟨49,⟨[(0, .c (.one (.ptr 0 0))),(1, .s K0 [])],[.v K19 []]⟩,⟨[(0, .s K15 [])],[.v K19 []]⟩,true,[],λ (n_1,c_2)=>g_spec_l01Once n_1 c_2⟩
noncomputable def e_spec_l09Body_r (kk:Nat):Con:=⟨94,⟨[(0, .c (.one (.ptr 0 0))),(1, .s K0 []),(2, .s K0 [])],[.v K19 []]⟩,⟨[(0, .s K21 [(0,1)])],[.v K19 [], .o]⟩,true,[],λ (n_1,deep_2,c_3)=>g_spec_l09Body_r kk n_1 deep_2 c_3⟩
noncomputable def e_spec_l09Body:Con:=⟨94,⟨[(0, .c (.one (.ptr 0 0))),(1, .s K0 []),(2, .s K0 [])],[.v K19 []]⟩,⟨[(0, .s K21 [(0,1)])],[.v K19 [], .o]⟩,true,[],λ (n_1,deep_2,c_3)=>g_spec_l09Body n_1 deep_2 c_3⟩
noncomputable def e_spec_l09Any:Con:=⟨45,⟨[(0, .c (.one (.ptr 0 0)))],[.v K19 []]⟩,⟨[(0, .s K21 [(0,1)])],[.v K19 [], .o]⟩,true,[],λ c_1=>g_spec_l09Any c_1⟩
noncomputable def e_spec_DrawFalls:Con:=⟨9,⟨[(0, .s K12 [])],[]⟩,⟨[(0, .s K21 [(0,0)])],[.o]⟩,false,[],λ code_1=>g_spec_DrawFalls code_1⟩
noncomputable def e_impl_opOk:Con:=⟨166,⟨[(0, .s K20 [])],[]⟩,⟨[(0, .s K15 [])],[]⟩,false,[],λ o_1=>g_impl_opOk o_1⟩
noncomputable def e_impl_openIn:Con:=⟨95,⟨[(0, .s K21 [])],[]⟩,⟨[(0, .s K10 [(0,0)]),(1, .s K15 [])],[.o]⟩,false,[],λ body_1=>g_impl_openIn body_1⟩
noncomputable def e_impl_ShapeOk:Con:=⟨46,⟨[(0, .s K21 [])],[]⟩,⟨[(0, .s K15 [])],[]⟩,false,[],λ body_1=>g_impl_ShapeOk body_1⟩
noncomputable def e_impl_Falls:Con:=⟨10,⟨[(0, .s K21 [])],[]⟩,⟨[(0, .s K15 [])],[]⟩,false,[],λ body_1=>g_impl_Falls body_1⟩
noncomputable def e_spec_l08Names:Con:=⟨169,⟨[],[]⟩,⟨[(0, .s K17 [(0,0)])],[.o]⟩,false,[],λ _=>g_spec_l08Names⟩
noncomputable def e_spec_l01In:Con:=⟨54,⟨[(0, .s K0 []),(1, .s K0 []),(2, .s K0 [])],[]⟩,⟨[(0, .s K15 [])],[]⟩,false,[],λ (x_1,a_2,b_3)=>g_spec_l01In x_1 a_2 b_3⟩
noncomputable def e_spec_PrimName:Con:=⟨102,⟨[(0, .s K0 [])],[]⟩,⟨[(0, .s K16 [])],[]⟩,false,[],λ k_1=>g_spec_PrimName k_1⟩
noncomputable def e_spec_l09Op:Con:=⟨52,⟨[(0, .s K20 [])],[]⟩,⟨[(0, .s K15 [])],[]⟩,false,[],λ o_1=>g_spec_l09Op o_1⟩
noncomputable def e_spec_l09Open:Con:=⟨53,⟨[(0, .s K21 [])],[]⟩,⟨[(0, .s K10 [(0,0)]),(1, .s K15 [])],[.o]⟩,false,[],λ body_1=>g_spec_l09Open body_1⟩
noncomputable def e_spec_ShapeOk:Con:=⟨13,⟨[(0, .s K21 [])],[]⟩,⟨[(0, .s K15 [])],[]⟩,false,[],λ body_1=>g_spec_ShapeOk body_1⟩
noncomputable def e_spec_Falls:Con:=⟨11,⟨[(0, .s K21 [])],[]⟩,⟨[(0, .s K15 [])],[]⟩,false,[],λ body_1=>g_spec_Falls body_1⟩
noncomputable def e_spec_l01Pick:Con:=⟨96,⟨[(0, .c (.one (.ptr 0 0))),(1, .s K17 [])],[.v K19 []]⟩,⟨[(0, .s K16 [])],[.v K19 []]⟩,true,[],λ (list_1,c_2)=>g_spec_l01Pick list_1 c_2⟩
noncomputable def e_spec_l09Make:Con:=⟨47,⟨[(0, .c (.one (.ptr 0 0)))],[.v K19 []]⟩,⟨[(0, .s K23 [(0,1)])],[.v K19 [], .o]⟩,true,[],λ c_1=>g_spec_l09Make c_1⟩
noncomputable def e_spec_NewStore:Con:=⟨167,⟨[(0, .s K0 [])],[]⟩,⟨[(0, .s K24 [(0,0)])],[.o]⟩,false,[],λ n_1=>g_spec_NewStore n_1⟩
noncomputable def e_spec_l04Int:Con:=⟨99,⟨[(0, .c (.one (.ptr 0 0)))],[.v K19 []]⟩,⟨[(0, .s K1 [])],[.v K19 []]⟩,true,[],λ c_1=>g_spec_l04Int c_1⟩
noncomputable def e_spec_l02All:Con:=⟨170,⟨[],[]⟩,⟨[(0, .s K16 [])],[]⟩,false,[],λ _=>g_spec_l02All⟩
noncomputable def e_spec_LetterAt:Con:=⟨234,⟨[(0, .s K0 [])],[]⟩,⟨[(0, .s K11 [])],[]⟩,false,[],λ k_1=>g_spec_LetterAt k_1⟩
noncomputable def e_spec_l02Name:Con:=⟨222,⟨[(0, .c (.one (.ptr 0 0)))],[.v K19 []]⟩,⟨[(0, .s K16 [])],[.v K19 []]⟩,true,[],λ c_1=>g_spec_l02Name c_1⟩
noncomputable def e_spec_l04Some:Con:=⟨197,⟨[(0, .c (.one (.ptr 0 0)))],[.v K19 []]⟩,⟨[(0, .s K25 [])],[.v K19 []]⟩,true,[],λ c_1=>g_spec_l04Some c_1⟩
noncomputable def e_spec_l04Num:Con:=⟨219,⟨[(0, .s K1 []),(1, .s K15 []),(2, .s K8 []),(3, .s K8 [])],[]⟩,⟨[(0, .s K9 [(0,0)])],[.o]⟩,false,[],λ (n_1,hex_2,short_3,long_4)=>g_spec_l04Num n_1 hex_2 short_3 long_4⟩
noncomputable def e_spec_LetterOf:Con:=⟨103,⟨[(0, .s K11 [])],[]⟩,⟨[(0, .s K0 [])],[]⟩,false,[],λ b_1=>g_spec_LetterOf b_1⟩
noncomputable def e_spec_NameOk:Con:=⟨56,⟨[(0, .s K16 [])],[]⟩,⟨[(0, .s K15 [])],[]⟩,false,[],λ s_1=>g_spec_NameOk s_1⟩
noncomputable def e_spec_WidthOf:Con:=⟨247,⟨[(0, .s K0 [])],[]⟩,⟨[(0, .s K0 [])],[]⟩,false,[],λ k_1=>g_spec_WidthOf k_1⟩
noncomputable def e_spec_BitsOf:Con:=⟨248,⟨[(0, .s K0 [])],[]⟩,⟨[(0, .s K8 [])],[]⟩,false,[],λ k_1=>g_spec_BitsOf k_1⟩
noncomputable def e_spec_l03One:Con:=⟨242,⟨[(0, .s K16 [])],[]⟩,⟨[(0, .s K8 []),(1, .s K0 [])],[]⟩,false,[],λ s_1=>g_spec_l03One s_1⟩
noncomputable def e_spec_Pack:Con:=⟨233,⟨[(0, .s K16 [])],[]⟩,⟨[(0, .s K9 [(0,0)])],[.o]⟩,false,[],λ s_1=>g_spec_Pack s_1⟩
noncomputable def e_spec_l04Word:Con:=⟨220,⟨[(0, .s K8 []),(1, .s K16 [])],[]⟩,⟨[(0, .s K9 [(0,0)])],[.o]⟩,false,[],λ (tag_1,name_2)=>g_spec_l04Word tag_1 name_2⟩
noncomputable def e_spec_l04Tag:Con:=⟨221,⟨[(0, .s K0 [])],[]⟩,⟨[(0, .s K8 [])],[]⟩,false,[],λ kind_1=>g_spec_l04Tag kind_1⟩
noncomputable def e_spec_CellsOf:Con:=⟨196,⟨[(0, .s K25 [])],[]⟩,⟨[(0, .s K9 [(0,0)])],[.o]⟩,false,[],λ it_1=>g_spec_CellsOf it_1⟩
noncomputable def e_spec_l01Word:Con:=⟨198,⟨[(0, .c (.one (.ptr 0 0)))],[.v K19 []]⟩,⟨[(0, .s K8 [])],[.v K19 []]⟩,true,[],λ c_1=>g_spec_l01Word c_1⟩
noncomputable def e_spec_l04Cells:Con:=⟨168,⟨[(0, .c (.one (.ptr 0 0)))],[.v K19 []]⟩,⟨[(0, .s K9 [(0,1)])],[.v K19 [], .o]⟩,true,[],λ c_1=>g_spec_l04Cells c_1⟩
noncomputable def e_spec_l05Make:Con:=⟨98,⟨[(0, .c (.one (.ptr 0 0)))],[.v K19 []]⟩,⟨[(0, .s K24 [(0,1)])],[.v K19 [], .o]⟩,true,[],λ c_1=>g_spec_l05Make c_1⟩
noncomputable def e_spec_StoreOk:Con:=⟨55,⟨[(0, .s K24 [])],[]⟩,⟨[(0, .s K15 [])],[]⟩,false,[],λ s_1=>g_spec_StoreOk s_1⟩
noncomputable def e_spec_NewSt:Con:=⟨97,⟨[(0, .s K24 []),(1, .s K12 []),(2, .s K0 [])],[]⟩,⟨[(0, .s K13 [(0,0),(1,1),(3,2),(4,3),(5,4),(6,5),(7,6)])],[.o, .o, .o, .o, .o, .o, .o]⟩,false,[],λ (s_1,vin_2,fuel_3)=>g_spec_NewSt s_1 vin_2 fuel_3⟩
noncomputable def e_spec_l08First:Con:=⟨100,⟨[(0, .s K13 [])],[]⟩,⟨[(0, .s K0 [])],[]⟩,false,[],λ st_1=>g_spec_l08First st_1⟩
noncomputable def e_spec_l08Make:Con:=⟨48,⟨[(0, .c (.one (.ptr 0 0)))],[.v K19 []]⟩,⟨[(0, .s K13 [(0,1),(1,2),(3,3),(4,4),(5,5),(6,6),(7,7)])],[.v K19 [], .o, .o, .o, .o, .o, .o, .o]⟩,true,[],λ c_1=>g_spec_l08Make c_1⟩
noncomputable def e_spec_l08Any:Con:=⟨50,⟨[(0, .c (.one (.ptr 0 0)))],[.v K19 []]⟩,⟨[(0, .s K13 [(0,1),(1,2),(3,3),(4,4),(5,5),(6,6),(7,7)])],[.v K19 [], .o, .o, .o, .o, .o, .o, .o]⟩,true,[],λ c_1=>g_spec_l08Any c_1⟩
noncomputable def e_spec_l09Any_imm:Con:=⟨45,⟨[(0, .c (.one (.ptr 0 0)))],[.v K19 []]⟩,⟨[(0, .s K21 [])],[.v K19 []]⟩,true,[],λ c_1=>g_spec_l09Any_imm c_1⟩
noncomputable def e_spec_DrawMeans:Con:=⟨12,⟨[(0, .s K12 [])],[]⟩,⟨[(0, .s K23 [(0,0)]),(1, .s K0 []),(2, .s K13 [(0,1),(1,2),(3,3),(4,4),(5,5),(6,6),(7,7)])],[.o, .o, .o, .o, .o, .o, .o, .o]⟩,true,[],λ code_1=>g_spec_DrawMeans code_1⟩
noncomputable def e_spec_StOk:Con:=⟨14,⟨[(0, .s K13 [])],[]⟩,⟨[(0, .s K15 [])],[]⟩,false,[],λ st_1=>g_spec_StOk st_1⟩
noncomputable def e_spec_DefsOk:Con:=⟨15,⟨[(0, .s K23 [])],[]⟩,⟨[(0, .s K15 [])],[]⟩,false,[],λ defs_1=>g_spec_DefsOk defs_1⟩
noncomputable def e_impl_letters:Con:=⟨200,⟨[],[]⟩,⟨[(0, .s K16 [])],[]⟩,false,[],λ _=>g_impl_letters⟩
noncomputable def e_ibytealg_IndexByteString:Con:=⟨235,⟨[(0, .s K16 []),(1, .s K11 [])],[]⟩,⟨[(0, .s K0 [])],[]⟩,false,[],λ a=>g_ibytealg_IndexByteString a.1 a.2⟩
noncomputable def e_istringslite_IndexByte:Con:=⟨223,⟨[(0, .s K16 []),(1, .s K11 [])],[]⟩,⟨[(0, .s K0 [])],[]⟩,false,[],λ (s_1,c_2)=>g_istringslite_IndexByte s_1 c_2⟩
noncomputable def e_strings_IndexByte:Con:=⟨199,⟨[(0, .s K16 []),(1, .s K11 [])],[]⟩,⟨[(0, .s K0 [])],[]⟩,false,[],λ (s_1,c_2)=>g_strings_IndexByte s_1 c_2⟩
noncomputable def e_impl_LetterOf:Con:=⟨172,⟨[(0, .s K11 [])],[]⟩,⟨[(0, .s K0 [])],[]⟩,false,[],λ b_1=>g_impl_LetterOf b_1⟩
noncomputable def e_impl_NameOk:Con:=⟨109,⟨[(0, .s K16 [])],[]⟩,⟨[(0, .s K15 [])],[]⟩,false,[],λ s_1=>g_impl_NameOk s_1⟩
noncomputable def e_impl_callsBelowc1:Con:=⟨174,⟨[(0, .s K20 []),(1, .c (.one (.ptr 0 0)))],[.v K0 []]⟩,⟨[(0, .s K15 [])],[.f]⟩,false,[0],λ (o_1,a_2)=>g_impl_callsBelowc1 o_1 a_2⟩
noncomputable def e_slices_IndexFunc_Op_impl_callsBelowc1:Con:=⟨201,⟨[(0, .s K21 []),(1, .c (.one (.fn 174 [(0,0)])))],[.v K0 []]⟩,⟨[(0, .s K0 [])],[.f]⟩,false,[0],λ (s_1,c_2)=>g_slices_IndexFunc_Op_impl_callsBelowc1 s_1 c_2⟩
noncomputable def e_slices_ContainsFunc_Op_impl_callsBelowc1:Con:=⟨173,⟨[(0, .s K21 []),(1, .c (.one (.fn 174 [(0,0)])))],[.v K0 []]⟩,⟨[(0, .s K15 [])],[.f]⟩,false,[0],λ (s_1,c_2)=>g_slices_ContainsFunc_Op_impl_callsBelowc1 s_1 c_2⟩
noncomputable def e_impl_callsBelow:Con:=⟨110,⟨[(0, .s K21 []),(1, .s K0 [])],[]⟩,⟨[(0, .s K15 [])],[]⟩,false,[],λ (body_1,n_2)=>g_impl_callsBelow body_1 n_2⟩
noncomputable def e_impl_DefsOkc1:Con:=⟨108,⟨[(0, .s K22 []),(1, .c (.one (.ptr 0 0)))],[.v K23 []]⟩,⟨[(0, .s K15 [])],[.f]⟩,false,[0],λ (d_1,a_2)=>g_impl_DefsOkc1 d_1 a_2⟩
noncomputable def e_slices_IndexFunc_Def_impl_DefsOkc1:Con:=⟨171,⟨[(0, .s K23 []),(1, .c (.one (.fn 108 [(0,0)])))],[.v K23 []]⟩,⟨[(0, .s K0 [])],[.f]⟩,false,[0],λ (s_1,c_2)=>g_slices_IndexFunc_Def_impl_DefsOkc1 s_1 c_2⟩
noncomputable def e_slices_ContainsFunc_Def_impl_DefsOkc1:Con:=⟨107,⟨[(0, .s K23 []),(1, .c (.one (.fn 108 [(0,0)])))],[.v K23 []]⟩,⟨[(0, .s K15 [])],[.f]⟩,false,[0],λ (s_1,c_2)=>g_slices_ContainsFunc_Def_impl_DefsOkc1 s_1 c_2⟩
noncomputable def e_impl_DefsOk:Con:=⟨59,⟨[(0, .s K23 [])],[]⟩,⟨[(0, .s K15 [])],[]⟩,false,[],λ defs_1=>g_impl_DefsOk defs_1⟩
noncomputable def e_impl_StoreOk:Con:=⟨162,⟨[(0, .s K24 [])],[]⟩,⟨[(0, .s K15 [])],[]⟩,false,[],λ s_1=>g_impl_StoreOk s_1⟩
noncomputable def e_impl_StOk:Con:=⟨91,⟨[(0, .s K13 [])],[]⟩,⟨[(0, .s K15 [])],[]⟩,false,[],λ st_1=>g_impl_StOk st_1⟩
noncomputable def e_impl_goes:Con:=⟨61,⟨[(0, .s K13 [])],[]⟩,⟨[(0, .s K15 [])],[]⟩,false,[],λ st_1=>g_impl_goes st_1⟩
noncomputable def e_impl_grow_r (kk:Nat):Con:=⟨116,⟨[(0, .s K21 [])],[]⟩,⟨[(0, .s K3 [(0,0)]),(1, .s K21 [])],[.o]⟩,true,[],λ body_1=>g_impl_grow_r kk body_1⟩
noncomputable def e_impl_grow:Con:=⟨116,⟨[(0, .s K21 [])],[]⟩,⟨[(0, .s K3 [(0,0)]),(1, .s K21 [])],[.o]⟩,true,[],λ body_1=>g_impl_grow body_1⟩
noncomputable def e_impl_TreeOf_imm:Con:=⟨63,⟨[(0, .s K21 [])],[]⟩,⟨[(0, .s K3 [])],[]⟩,true,[],λ body_1=>g_impl_TreeOf_imm body_1⟩
noncomputable def e_impl_Means:Con:=⟨17,⟨[(0, .s K23 []),(1, .s K0 []),(2, .s K13 [])],[]⟩,⟨[(0, .s K13 [(0,0),(1,1),(3,2),(4,3),(5,4),(6,5),(7,6)])],[.o, .o, .o, .o, .o, .o, .o]⟩,false,[],λ (defs_1,k_2,st_3)=>g_impl_Means defs_1 k_2 st_3⟩
noncomputable def e_laws_sameNums:Con:=⟨104,⟨[(0, .s K5 []),(1, .s K5 [])],[]⟩,⟨[(0, .s K15 [])],[]⟩,false,[],λ (a_1,b_2)=>g_laws_sameNums a_1 b_2⟩
noncomputable def e_laws_sameCells:Con:=⟨105,⟨[(0, .s K9 []),(1, .s K9 [])],[]⟩,⟨[(0, .s K15 [])],[]⟩,false,[],λ (a_1,b_2)=>g_laws_sameCells a_1 b_2⟩
noncomputable def e_laws_sameInts:Con:=⟨34,⟨[(0, .s K10 []),(1, .s K10 [])],[]⟩,⟨[(0, .s K15 [])],[]⟩,false,[],λ (a_1,b_2)=>g_laws_sameInts a_1 b_2⟩
noncomputable def e_laws_sameBytes:Con:=⟨106,⟨[(0, .s K12 []),(1, .s K12 [])],[]⟩,⟨[(0, .s K15 [])],[]⟩,false,[],λ (a_1,b_2)=>g_laws_sameBytes a_1 b_2⟩
noncomputable def e_laws_sameBut:Con:=⟨57,⟨[(0, .s K13 []),(1, .s K13 [])],[]⟩,⟨[(0, .s K15 [])],[]⟩,false,[],λ (a_1,b_2)=>g_laws_sameBut a_1 b_2⟩
noncomputable def e_laws_sameRet:Con:=⟨58,⟨[(0, .s K7 []),(1, .s K7 [])],[]⟩,⟨[(0, .s K15 [])],[]⟩,false,[],λ (a_1,b_2)=>g_laws_sameRet a_1 b_2⟩
noncomputable def e_laws_sameSt:Con:=⟨16,⟨[(0, .s K13 []),(1, .s K13 [])],[]⟩,⟨[(0, .s K15 [])],[]⟩,false,[],λ (a_1,b_2)=>g_laws_sameSt a_1 b_2⟩
noncomputable def e_laws_FnFalls:Con:=⟨3,⟨[(0, .s K12 [])],[]⟩,⟨[(0, .s K15 [])],[]⟩,false,[],λ code_1=>g_laws_FnFalls code_1⟩
abbrev CO (c:Con):Prop:=ConOk Tryz.prog c
abbrev CK (Γ:List Con) (n:Nat) (an:An) (f:Func) (e:Con):Prop:=AnOk TryzT Γ n an (bodyOf f)/\∀ a,fnRun TryzT Γ an (bodyOf f) f.results.toList e.ro e.ps e.rs a=e.g a
theorem fnc {Γ:List Con} {n:Nat} {an:An} {fn:Func} {C:Con} (h:Tryz.prog.follows .mixedOrders=true->∀ c ∈ Γ,CO c) (hf:Tryz.prog.funcs[C.f]? = some fn) (hk:CK Γ n an fn C) (h1:(!(fn.name == "runtime.NumGoroutine")&&okC fn.ntmps (bodyOf fn))=true)
  (h2:∀ a,entB C n fn.ntmps a=true) (h3:∀ r,endB C fn.results.toList.length r=true) (hb:fn.body=some (bodyOf fn)):CO C:=by
 rw[Bool.and_eq_true,Bool.not_eq_true']at h1
 exact fn_ok (P:=λ _=>Tryz.prog) (n:=n) TryzT_eq h hf hb h1.1 rfl rfl h1.2 rfl h2 h3 hk.1 λ a r e=>(hk.2 a).trans e
end Go.Proofs.YtofjeimkphojaaaGreatDoor
namespace Go.Proofs.YtofjeimkphojaaaGreatDoor
open Go Go.Fm
set_option maxRecDepth 1000000
noncomputable def ane_impl_St_pushes_inGMeaning_1:An:=.z
theorem ke_impl_St_pushes_inGMeaning_1:CK [] 9 ane_impl_St_pushes_inGMeaning_1 Tryz.f138 e_impl_St_pushes_inGMeaning_1:=⟨trivial,λ _=>by kernel_rfl⟩
noncomputable def ane_impl_meaning_fail_own:An:=.z
theorem ke_impl_meaning_fail_own:CK [] 9 ane_impl_meaning_fail_own Tryz.f117 e_impl_meaning_fail_own:=⟨trivial,λ _=>by kernel_rfl⟩
noncomputable def ane_impl_meaning_burn_own:An:=.z
theorem ke_impl_meaning_burn_own:CK [e_impl_meaning_fail_own] 9 ane_impl_meaning_burn_own Tryz.f202 e_impl_meaning_burn_own:=⟨trivial,λ _=>by kernel_rfl⟩
noncomputable def ane_strings_Fields:An:=.q .z (.q .z (.q .z (.q .z (.m [(.normal,⟨[(3, .s K0 []),(5, .s K11 [])],[]⟩)] [0,2] [] (.q .z (.b (.l ⟨[(0, .s K16 []),(2, .c (.one (.emp)))],[]⟩ ⟨[(3, .s K0 []),(4, .s K0 []),(5, .s K11 []),(6, .s K0 [])],[]⟩ [(.exit 0,⟨[(3, .s K0 []),(5, .s K11 [])],[]⟩)] (λ s_1 k (n_5,wasSpace_6,setBits_7,i_8)=>g_strings_Fields_l0 s_1 k n_5 wasSpace_6 setBits_7 i_8) .z))) (.q .z (.q .z (.q .z (.q .z (.q .z (.q (.b (.l ⟨[(0, .s K16 []),(2, .c (.one (.emp))),(9, .s K17 [(0,0)]),(10, .s K0 [])],[.o]⟩ ⟨[(12, .s K0 [])],[.f]⟩ [(.exit 2,⟨[(12, .s K0 [])],[.f]⟩)] (λ (s_1,_,_) k i_15=>g_strings_Fields_l1 s_1 k i_15) (.q (.m [(.normal,⟨[(53, .s K15 [])],[.f]⟩)] [12] [] .z .z) .z))) (.q .z (.q (.b (.l ⟨[(0, .s K16 []),(2, .c (.one (.emp)))],[.n]⟩ ⟨[(9, .s K17 [(0,0)]),(10, .s K0 []),(11, .s K0 []),(12, .s K0 [])],[.o]⟩ [(.exit 4,⟨[(9, .s K17 [(0,0)]),(10, .s K0 []),(11, .s K0 [])],[.o]⟩)] (λ s_1 k (a_20,na_21,fieldStart_22,i_23)=>g_strings_Fields_l2 s_1 k a_20 na_21 fieldStart_22 i_23) (.q .z (.b (.q .z (.q .z (.q .z (.q .z (.q (.b (.l ⟨[(0, .s K16 []),(2, .c (.one (.emp))),(9, .s K17 [(0,0)]),(10, .s K0 []),(11, .s K0 [])],[.o]⟩ ⟨[(12, .s K0 [])],[.f]⟩ [(.exit 6,⟨[(12, .s K0 [])],[.f]⟩)] (λ (s_1,_,_,_) k i_33=>g_strings_Fields_l3 s_1 k i_33) (.q (.m [(.normal,⟨[(91, .s K15 [])],[.f]⟩)] [12] [] .z .z) .z))) .z))))))))) (.m [(.normal,⟨[(9, .s K17 [(0,0)])],[.o]⟩)] [0,2,10,11] [] .z .z)))))))))))))
theorem ke_strings_Fields:CK [] 0 ane_strings_Fields Tryz.f215 e_strings_Fields:=⟨⟨trivial,⟨trivial,⟨trivial,⟨trivial,⟨⟨trivial,⟨λ _ _=>rfl,λ _ _ _ _=>by kernel_rfl,trivial⟩⟩,⟨trivial,⟨trivial,⟨trivial,⟨trivial,⟨trivial,⟨⟨λ _ _=>rfl,λ _ _ _ _=>by kernel_rfl,⟨⟨trivial,trivial⟩,trivial⟩⟩,⟨trivial,⟨⟨λ _ _=>rfl,λ _ _ _ _=>by kernel_rfl,⟨trivial,⟨trivial,⟨trivial,⟨trivial,⟨trivial,⟨⟨λ _ _=>rfl,λ _ _ _ _=>by kernel_rfl,⟨⟨trivial,trivial⟩,trivial⟩⟩,trivial⟩⟩⟩⟩⟩⟩⟩,⟨trivial,trivial⟩⟩⟩⟩⟩⟩⟩⟩⟩⟩⟩⟩⟩⟩,λ _=>by kernel_rfl⟩
noncomputable def ane_impl_prims:An:=.z
theorem ke_impl_prims:CK [e_strings_Fields] 0 ane_impl_prims Tryz.f191 e_impl_prims:=⟨trivial,λ _=>by kernel_rfl⟩
noncomputable def ane_impl_within:An:=.z
theorem ke_impl_within:CK [] 0 ane_impl_within Tryz.f60 e_impl_within:=⟨trivial,λ _=>by kernel_rfl⟩
end Go.Proofs.YtofjeimkphojaaaGreatDoor
namespace Go.Proofs.YtofjeimkphojaaaGreatDoor
open Go Go.Fm
set_option maxRecDepth 1000000
noncomputable def ane_impl_PrimName:An:=.z
theorem ke_impl_PrimName:CK [e_impl_prims,e_impl_within] 0 ane_impl_PrimName Tryz.f160 e_impl_PrimName:=⟨trivial,λ _=>by kernel_rfl⟩
theorem fe_slices_Clone_int32:ConOk Tryz.prog e_slices_Clone_int32:=clone_own (P:=λ _=>Tryz.prog) (τ:=K1) TryzT_eq Tryz.func111 rfl rfl ⟨by kernel_rfl,by kernel_rfl,by kernel_rfl⟩ (congrArg TyI.kind TryzT_28) (λ a=>by kernel_rfl)
theorem fe_slices_Clone_Slot:ConOk Tryz.prog e_slices_Clone_Slot:=clone_own (P:=λ _=>Tryz.prog) (τ:=K6) TryzT_eq Tryz.func112 rfl rfl ⟨by kernel_rfl,by kernel_rfl,by kernel_rfl⟩ (congrArg TyI.kind TryzT_29) (λ a=>by kernel_rfl)
theorem fe_slices_Clone_uint32:ConOk Tryz.prog e_slices_Clone_uint32:=clone_own (P:=λ _=>Tryz.prog) (τ:=K8) TryzT_eq Tryz.func113 rfl rfl ⟨by kernel_rfl,by kernel_rfl,by kernel_rfl⟩ (congrArg TyI.kind TryzT_30) (λ a=>by kernel_rfl)
theorem fe_slices_Clone_int:ConOk Tryz.prog e_slices_Clone_int:=clone_own (P:=λ _=>Tryz.prog) (τ:=K0) TryzT_eq Tryz.func114 rfl rfl ⟨by kernel_rfl,by kernel_rfl,by kernel_rfl⟩ (congrArg TyI.kind TryzT_31) (λ a=>by kernel_rfl)
theorem fe_slices_Clone_byte:ConOk Tryz.prog e_slices_Clone_byte:=clone_own (P:=λ _=>Tryz.prog) (τ:=K11) TryzT_eq Tryz.func115 rfl rfl ⟨by kernel_rfl,by kernel_rfl,by kernel_rfl⟩ (congrArg TyI.kind TryzT_22) (λ a=>by kernel_rfl)
noncomputable def ane_impl_ownSt:An:=.z
theorem ke_impl_ownSt:CK [e_slices_Clone_int32,e_slices_Clone_Slot,e_slices_Clone_uint32,e_slices_Clone_int,e_slices_Clone_byte] 0 ane_impl_ownSt Tryz.f62 e_impl_ownSt:=⟨trivial,λ _=>by kernel_rfl⟩
noncomputable def ane_impl_doesc1:An:=.z
theorem ke_impl_doesc1:CK [e_impl_ownSt] 1 ane_impl_doesc1 Tryz.f184 e_impl_doesc1:=⟨trivial,λ _=>by kernel_rfl⟩
end Go.Proofs.YtofjeimkphojaaaGreatDoor
namespace Go.Proofs.YtofjeimkphojaaaGreatDoor
open Go Go.Fm
set_option maxRecDepth 1000000
noncomputable def ane_impl_PrimEffect:An:=.q .z (.q .z (.m [(.normal,⟨[],[.v K18 [], .v K18 []]⟩),(.ret,⟨[],[.v K18 [], .v K18 []]⟩)] [0,2,3] [] (.q .z (.b (.q .z (.q .z (.m [(.normal,⟨[(13, .s K15 [])],[.f, .f]⟩)] [6] [0,1] .z (.q .z (.q .z (.q .z (.m [(.normal,⟨[(26, .s K15 [])],[.f, .f]⟩)] [6] [0,1] .z (.q .z (.m [(.normal,⟨[(34, .s K15 [])],[.f, .f]⟩)] [6] [0,1] .z (.q .z (.m [(.normal,⟨[(38, .s K15 [])],[.f, .f]⟩)] [6] [0,1] .z (.q .z (.q .z (.q .z (.m [(.normal,⟨[(48, .s K15 [])],[.f, .f]⟩)] [6] [0,1] .z .z))))))))))))))))) .z))
theorem ke_impl_PrimEffect:CK [e_impl_PrimName] 0 ane_impl_PrimEffect Tryz.f210 e_impl_PrimEffect:=⟨⟨trivial,⟨trivial,⟨⟨trivial,⟨trivial,⟨trivial,⟨trivial,⟨trivial,⟨trivial,⟨trivial,⟨trivial,⟨trivial,⟨trivial,⟨trivial,⟨trivial,⟨trivial,⟨trivial,⟨trivial,⟨trivial,trivial⟩⟩⟩⟩⟩⟩⟩⟩⟩⟩⟩⟩⟩⟩⟩⟩,trivial⟩⟩⟩,λ _=>by kernel_rfl⟩
noncomputable def ane_impl_wants:An:=.z
theorem ke_impl_wants:CK [e_impl_PrimEffect] 0 ane_impl_wants Tryz.f185 e_impl_wants:=⟨trivial,λ _=>by kernel_rfl⟩
noncomputable def ane_slices_Index_int:An:=.q .z (.m [(.normal,⟨[],[]⟩),(.ret,⟨[(4, .s K0 [])],[]⟩)] [0,1] [] (.q .z (.b (.l ⟨[(0, .s K10 []),(1, .s K0 []),(7, .s K0 [])],[]⟩ ⟨[(8, .s K0 [])],[]⟩ [(.exit 0,⟨[],[]⟩),(.ret,⟨[(4, .s K0 [])],[]⟩)] (λ (s_1,v_2,v_5) k v_6=>g_slices_Index_int_l0 s_1 v_2 v_5 k v_6) .z))) .z)
theorem ke_slices_Index_int:CK [] 0 ane_slices_Index_int Tryz.f144 e_slices_Index_int:=⟨⟨trivial,⟨⟨trivial,⟨λ _ _=>rfl,λ _ _ _ _=>by kernel_rfl,trivial⟩⟩,trivial⟩⟩,λ _=>by kernel_rfl⟩
noncomputable def ane_slices_Contains_int:An:=.z
theorem ke_slices_Contains_int:CK [e_slices_Index_int] 0 ane_slices_Contains_int Tryz.f77 e_slices_Contains_int:=⟨trivial,λ _=>by kernel_rfl⟩
noncomputable def ane_impl_St_written:An:=.z
theorem ke_impl_St_written:CK [] 8 ane_impl_St_written Tryz.f212 e_impl_St_written:=⟨trivial,λ _=>by kernel_rfl⟩
theorem fe_strconv_Itoa:ConOk Tryz.prog e_strconv_Itoa:=itoa_ok (g:=3) itoaLays rfl (by kernel_rfl) (by rw[glob_3,show gtPow10=Go.Lib.pow10Tab from by kernel_rfl])
noncomputable def ane_impl_DecText:An:=.z
theorem ke_impl_DecText:CK [e_strconv_Itoa] 0 ane_impl_DecText Tryz.f93 e_impl_DecText:=⟨trivial,λ _=>by kernel_rfl⟩
end Go.Proofs.YtofjeimkphojaaaGreatDoor
namespace Go.Proofs.YtofjeimkphojaaaGreatDoor
open Go Go.Fm
set_option maxRecDepth 1000000
noncomputable def ane_impl_result:An:=.z
theorem ke_impl_result:CK [] 0 ane_impl_result Tryz.f213 e_impl_result:=⟨trivial,λ _=>by kernel_rfl⟩
noncomputable def ane_impl_St_place_rd:An:=.z
theorem ke_impl_St_place_rd:CK [e_impl_within] 8 ane_impl_St_place_rd Tryz.f211 e_impl_St_place_rd:=⟨trivial,λ _=>by kernel_rfl⟩
noncomputable def ane_impl_St_effect:An:=.q .z (.m [(.normal,⟨[],[.v K13 [(0,1),(1,8),(3,3),(4,4),(5,5),(6,6),(7,7)], .o, .d, .o, .o, .o, .o, .o, .o]⟩),(.ret,⟨[(8, .s K5 [(0,8)]),(9, .s K0 [])],[.v K13 [(0,1),(1,9),(3,3),(4,4),(5,5),(6,10),(7,11)], .o, .d, .o, .o, .o, .d, .d, .o, .o, .o, .o]⟩)] [0,1,2,3] [] (.q .z (.b (.q .z (.q .z (.q .z (.q (.q .z (.b (.m [(.normal,⟨[(74, .s K15 [])],[.f, .f, .f, .f, .f, .f, .f, .f]⟩)] [8,9,13,14,15] [0,1,2,3,4,5,6,7] .z .z))) (.q .z (.q .z (.q .z (.q .z (.q .z (.q .z (.q .z (.q .z (.q .z (.q .z (.q .z (.q .z (.m [(.normal,⟨[(173, .s K15 [])],[.f, .f, .f, .f, .f, .f, .f, .f]⟩)] [8,9,19] [0,1,2,3,4,5,6,7] .z (.q (.q .z (.q (.b (.q .z (.q .z (.m [(.normal,⟨[(185, .s K15 [])],[.f, .f, .f, .f, .f, .f, .f, .f]⟩)] [8,9,17] [0,1,2,3,4,5,6,7] .z .z)))) (.q .z (.m [(.normal,⟨[],[.v K13 [(0,1),(1,8),(3,3),(4,4),(5,5),(6,6),(7,7)], .o, .d, .o, .o, .o, .o, .o, .o]⟩)] [8,9,17,18] [] .z .z)))) .z)))))))))))))))))))) .z)
theorem ke_impl_St_effect:CK [e_impl_St_place_rd,e_slices_Contains_int,e_impl_St_written,e_impl_DecText,e_impl_result] 8 ane_impl_St_effect Tryz.f186 e_impl_St_effect:=⟨⟨trivial,⟨⟨trivial,⟨trivial,⟨trivial,⟨trivial,⟨⟨trivial,⟨trivial,trivial⟩⟩,⟨trivial,⟨trivial,⟨trivial,⟨trivial,⟨trivial,⟨trivial,⟨trivial,⟨trivial,⟨trivial,⟨trivial,⟨trivial,⟨trivial,⟨trivial,⟨⟨trivial,⟨⟨trivial,⟨trivial,⟨trivial,trivial⟩⟩⟩,⟨trivial,⟨trivial,trivial⟩⟩⟩⟩,trivial⟩⟩⟩⟩⟩⟩⟩⟩⟩⟩⟩⟩⟩⟩⟩⟩⟩⟩⟩,trivial⟩⟩,λ _=>by kernel_rfl⟩
noncomputable def ane_impl_does:An:=.q .z (.q .z (.q .z (.q .z (.q .z (.m [(.normal,⟨[(9, .s K1 [])],[.f, .f, .f, .f, .f, .f, .f, .f, .f, .f]⟩)] [1,2,4,5,6,7,8,10] [0,1,2,3,4,5,6,7,8,9] .z (.m [(.normal,⟨[(10, .s K1 [])],[.f, .f, .f, .f, .f, .f, .f, .f, .f, .f]⟩)] [1,2,4,5,6,7,8,9] [0,1,2,3,4,5,6,7,8,9] .z .z))))))
theorem ke_impl_does:CK [e_impl_PrimName,e_impl_doesc1,e_impl_wants,e_impl_ownSt,e_impl_St_effect] 0 ane_impl_does Tryz.f139 e_impl_does:=⟨⟨trivial,⟨trivial,⟨trivial,⟨trivial,⟨trivial,⟨trivial,⟨trivial,trivial⟩⟩⟩⟩⟩⟩⟩,λ _=>by kernel_rfl⟩
noncomputable def ane_impl_meaning_enter (kk:Nat):An:=.q .z (.q .z (.q (.b (.l ⟨[(0, .c (.one (.ptr 0 0)))],[.n, .n, .n, .d, .n, .n, .n, .n, .n, .n, .n, .n, .n, .n, .n, .n, .n, .n]⟩ ⟨[(1, .s K0 [])],[.v K14 [(0,1),(1,11),(2,12),(4,13),(5,14),(6,15),(7,16),(8,17)], .o, .d, .f, .d, .d, .d, .d, .d, .d, .d, .o, .o, .o, .o, .o, .o, .o]⟩ [(.exit 0,⟨[],[.v K14 [(0,1),(1,11),(2,12),(4,13),(5,14),(6,15),(7,16),(8,17)], .o, .d, .f, .d, .d, .d, .d, .d, .d, .d, .o, .o, .o, .o, .o, .o, .o]⟩),(.ret,⟨[],[.v K14 [(0,1),(1,18),(2,19),(4,20),(5,21),(6,22),(7,23),(8,24)], .o, .d, .f, .d, .d, .d, .d, .d, .d, .d, .d, .d, .d, .d, .d, .d, .d, .o, .o, .o, .o, .o, .o, .o]⟩)] (λ _ k (k_6,x_7)=>g_impl_meaning_enter_l0 (g_impl_meaning_all_r kk) k k_6 x_7) (.q .z (.q (.b (.m [(.normal,⟨[(50, .s K15 [])],[.v K14 [(0,1),(1,18),(2,19),(4,20),(5,21),(6,22),(7,23),(8,24)], .o, .f, .f, .f, .f, .f, .f, .f, .d, .d, .d, .d, .d, .d, .d, .d, .d, .o, .o, .o, .o, .o, .o, .o]⟩)] [1] [2,4,5,6,7,8] .z .z)) .z)))) .z))
theorem ke_impl_meaning_enter (kk:Nat):CK [e_impl_meaning_fail_own,(e_impl_meaning_all_r kk)] 9 (ane_impl_meaning_enter kk) Tryz.f64 (e_impl_meaning_enter_r kk):=⟨⟨trivial,⟨trivial,⟨⟨λ _ _=>rfl,λ _ _ _ _=>by kernel_rfl,⟨trivial,⟨⟨trivial,trivial⟩,trivial⟩⟩⟩,trivial⟩⟩⟩,λ _=>by kernel_rfl⟩
noncomputable def ane_impl_St_begin_inGMeaning_1:An:=.z
theorem ke_impl_St_begin_inGMeaning_1:CK [] 9 ane_impl_St_begin_inGMeaning_1 Tryz.f141 e_impl_St_begin_inGMeaning_1:=⟨trivial,λ _=>by kernel_rfl⟩
noncomputable def ane_impl_St_again_inGMeaning_1:An:=.z
theorem ke_impl_St_again_inGMeaning_1:CK [] 9 ane_impl_St_again_inGMeaning_1 Tryz.f142 e_impl_St_again_inGMeaning_1:=⟨trivial,λ _=>by kernel_rfl⟩
noncomputable def ane_impl_meaning_loop (kk:Nat):An:=.q .z (.q .z (.q (.b (.l ⟨[(0, .c (.one (.ptr 0 0))),(1, .s K3 [])],[.n, .n, .d, .d, .n, .n, .n, .n, .n, .n, .n, .n, .n, .n, .n, .n, .n, .n]⟩ ⟨[],[.v K14 [(0,1),(1,11),(2,12),(4,13),(5,14),(6,15),(7,16),(8,17)], .o, .f, .f, .d, .d, .d, .d, .d, .d, .d, .o, .o, .o, .o, .o, .o, .o]⟩ [(.exit 0,⟨[],[.v K14 [(0,1),(1,11),(2,12),(4,13),(5,14),(6,15),(7,16),(8,17)], .o, .f, .f, .d, .d, .d, .d, .d, .d, .d, .o, .o, .o, .o, .o, .o, .o]⟩),(.ret,⟨[(4, .s K15 [])],[.v K14 [(0,1),(1,18),(2,19),(4,20),(5,21),(6,22),(7,23),(8,24)], .o, .f, .f, .d, .d, .d, .d, .d, .d, .d, .d, .d, .d, .d, .d, .d, .d, .o, .o, .o, .o, .o, .o, .o]⟩)] (λ kids_1 k x_6=>g_impl_meaning_loop_l0 (g_impl_meaning_all_r kk) kids_1 k x_6) (.q .z (.b (.q .z (.m [(.normal,⟨[(35, .s K15 [])],[.v K14 [(0,1),(1,18),(2,25),(4,20),(5,21),(6,22),(7,23),(8,24)], .o, .f, .f, .f, .f, .f, .f, .f, .d, .d, .d, .d, .d, .d, .d, .d, .d, .o, .d, .o, .o, .o, .o, .o, .o]⟩)] [] [4,5,6,7,8] .z .z)))))) .z))
theorem ke_impl_meaning_loop (kk:Nat):CK [e_impl_St_begin_inGMeaning_1,(e_impl_meaning_all_r kk),e_impl_meaning_burn_own,e_impl_St_again_inGMeaning_1] 9 (ane_impl_meaning_loop kk) Tryz.f203 (e_impl_meaning_loop_r kk):=⟨⟨trivial,⟨trivial,⟨⟨λ _ _=>rfl,λ _ _ _ _=>by kernel_rfl,⟨trivial,⟨trivial,⟨trivial,trivial⟩⟩⟩⟩,trivial⟩⟩⟩,λ _=>by kernel_rfl⟩
end Go.Proofs.YtofjeimkphojaaaGreatDoor
namespace Go.Proofs.YtofjeimkphojaaaGreatDoor
open Go Go.Fm
set_option maxRecDepth 1000000
noncomputable def ane_impl_meaning_one (kk:Nat):An:=.q .z (.q .z (.q .z (.m [(.normal,⟨[],[.v K14 [(0,1),(1,10),(2,11),(4,12),(5,13),(6,14),(7,15),(8,16)], .o, .d, .d, .d, .d, .d, .d, .d, .f, .o, .o, .o, .o, .o, .o, .o]⟩),(.ret,⟨[(4, .s K15 [])],[.v K14 [(0,1),(1,10),(2,11),(4,12),(5,13),(6,14),(7,15),(8,16)], .o, .d, .d, .d, .d, .d, .d, .d, .f, .o, .o, .o, .o, .o, .o, .o]⟩)] [0,3,5] [9] (.q .z (.b (.q .z (.q .z (.q .z (.q .z (.q .z (.q .z (.q .z (.q (.q .z (.q (.m [(.normal,⟨[(69, .s K15 [])],[.f, .f, .f, .f, .f, .f, .f, .f, .f, .f]⟩)] [4,6] [0,1,2,3,4,5,6,7,8] .z .z) .z)) (.m [(.normal,⟨[(83, .s K15 [])],[.f, .f, .f, .f, .f, .f, .f, .f, .f, .f]⟩)] [4,18] [0,1,2,3,4,5,6,7,8] .z (.q (.b (.q .z (.q .z (.m [(.normal,⟨[(91, .s K15 [])],[.f, .f, .f, .f, .f, .f, .f, .f, .f, .f]⟩)] [4] [0,1,2,3,4,5,6,7,8] .z .z)))) .z)))))))))))) .z)))
theorem ke_impl_meaning_one (kk:Nat):CK [e_impl_meaning_burn_own,e_impl_St_pushes_inGMeaning_1,e_impl_does,(e_impl_meaning_enter_r kk),e_impl_meaning_fail_own,(e_impl_meaning_all_r kk),(e_impl_meaning_loop_r kk)] 9 (ane_impl_meaning_one kk) Tryz.f175 (e_impl_meaning_one_r kk):=⟨⟨trivial,⟨trivial,⟨trivial,⟨⟨trivial,⟨trivial,⟨trivial,⟨trivial,⟨trivial,⟨trivial,⟨trivial,⟨trivial,⟨⟨trivial,⟨⟨trivial,trivial⟩,trivial⟩⟩,⟨trivial,⟨⟨trivial,⟨trivial,⟨trivial,trivial⟩⟩⟩,trivial⟩⟩⟩⟩⟩⟩⟩⟩⟩⟩⟩,trivial⟩⟩⟩⟩,λ _=>by kernel_rfl⟩
noncomputable def ane_impl_meaning_all (kk:Nat):An:=.q .z (.m [(.normal,⟨[],[.v K14 [(0,1),(1,9),(2,10),(4,11),(5,12),(6,13),(7,14),(8,15)], .o, .d, .d, .d, .d, .d, .d, .d, .o, .o, .o, .o, .o, .o, .o]⟩),(.ret,⟨[(4, .s K15 [])],[.v K14 [(0,1),(1,9),(2,10),(4,11),(5,12),(6,13),(7,14),(8,15)], .o, .d, .d, .d, .d, .d, .d, .d, .o, .o, .o, .o, .o, .o, .o]⟩)] [0,1] [] (.q .z (.b (.l ⟨[(0, .c (.one (.ptr 0 0))),(1, .s K3 []),(7, .s K3 []),(8, .s K0 [])],[.n, .n, .n, .n, .n, .n, .n, .n, .n, .n, .n, .n, .n, .n, .n, .n]⟩ ⟨[(9, .s K0 [])],[.v K14 [(0,1),(1,9),(2,10),(4,11),(5,12),(6,13),(7,14),(8,15)], .o, .d, .d, .d, .d, .d, .d, .d, .o, .o, .o, .o, .o, .o, .o]⟩ [(.exit 0,⟨[],[.v K14 [(0,1),(1,9),(2,10),(4,11),(5,12),(6,13),(7,14),(8,15)], .o, .d, .d, .d, .d, .d, .d, .d, .o, .o, .o, .o, .o, .o, .o]⟩),(.ret,⟨[(4, .s K15 [])],[.v K14 [(0,1),(1,16),(2,17),(4,18),(5,19),(6,20),(7,21),(8,22)], .o, .d, .d, .d, .d, .d, .d, .d, .d, .d, .d, .d, .d, .d, .d, .o, .o, .o, .o, .o, .o, .o]⟩)] (λ (_,v_8,v_9) k (v_10,x_11)=>g_impl_meaning_all_l0 (g_impl_meaning_all_r kk) v_8 v_9 k v_10 x_11) .z))) .z)
theorem ke_impl_meaning_all (kk:Nat):CK [(e_impl_meaning_one_r kk)] 9 (ane_impl_meaning_all kk) Tryz.f118 (e_impl_meaning_all_r (kk+1)):=⟨⟨trivial,⟨⟨trivial,⟨λ _ _=>rfl,λ _ _ _ _=>by kernel_rfl,trivial⟩⟩,trivial⟩⟩,λ _=>by kernel_rfl⟩
noncomputable def ane_laws_big:An:=.z
theorem ke_laws_big:CK [] 0 ane_laws_big Tryz.f8 e_laws_big:=⟨trivial,λ _=>by kernel_rfl⟩
noncomputable def ane_spec_l01New:An:=.q .z (.q .z (.m [(.normal,⟨[(3, .s K0 [])],[]⟩)] [0,2] [] (.q .z (.b (.l ⟨[(0, .s K12 []),(2, .c (.one (.nilp)))],[]⟩ ⟨[(3, .s K0 []),(4, .s K0 [])],[]⟩ [(.exit 0,⟨[(3, .s K0 [])],[]⟩)] (λ code_1 k (h_4,i_5)=>g_spec_l01New_l0 code_1 k h_4 i_5) (.q (.m [(.normal,⟨[(15, .s K15 [])],[]⟩)] [3,4] [] .z .z) .z)))) .z))
theorem ke_spec_l01New:CK [] 0 ane_spec_l01New Tryz.f44 e_spec_l01New:=⟨⟨trivial,⟨trivial,⟨⟨trivial,⟨λ _ _=>rfl,λ _ _ _ _=>by kernel_rfl,⟨⟨trivial,trivial⟩,trivial⟩⟩⟩,trivial⟩⟩⟩,λ _=>by kernel_rfl⟩
noncomputable def ane_spec_l01Byte:An:=.q .z (.q .z (.q .z (.m [(.normal,⟨[(3, .s K0 [])],[.v K19 []]⟩)] [0,2] [] .z .z)))
theorem ke_spec_l01Byte:CK [] 1 ane_spec_l01Byte Tryz.f101 e_spec_l01Byte:=⟨⟨trivial,⟨trivial,⟨trivial,⟨trivial,trivial⟩⟩⟩⟩,λ _=>by kernel_rfl⟩
noncomputable def ane_spec_l01Below:An:=.z
theorem ke_spec_l01Below:CK [e_spec_l01Byte] 1 ane_spec_l01Below Tryz.f51 e_spec_l01Below:=⟨trivial,λ _=>by kernel_rfl⟩
noncomputable def ane_spec_l01PickInt:An:=.z
theorem ke_spec_l01PickInt:CK [e_spec_l01Below] 1 ane_spec_l01PickInt Tryz.f87 e_spec_l01PickInt:=⟨trivial,λ _=>by kernel_rfl⟩
noncomputable def ane_spec_l09Plain:An:=.q .z (.m [(.normal,⟨[],[.v K19 [], .v K20 []]⟩),(.ret,⟨[],[.v K19 [], .v K20 []]⟩)] [0,1,4] [] (.q .z (.b (.m [(.normal,⟨[(7, .s K15 [])],[.f, .f]⟩)] [6] [0,1] .z .z))) .z)
theorem ke_spec_l09Plain:CK [e_spec_l01Below,e_spec_l01PickInt] 1 ane_spec_l09Plain Tryz.f165 e_spec_l09Plain:=⟨⟨trivial,⟨⟨trivial,⟨trivial,trivial⟩⟩,trivial⟩⟩,λ _=>by kernel_rfl⟩
end Go.Proofs.YtofjeimkphojaaaGreatDoor
namespace Go.Proofs.YtofjeimkphojaaaGreatDoor
open Go Go.Fm
set_option maxRecDepth 1000000
noncomputable def ane_spec_l01Once:An:=.z
theorem ke_spec_l01Once:CK [e_spec_l01Below] 1 ane_spec_l01Once Tryz.f49 e_spec_l01Once:=⟨trivial,λ _=>by kernel_rfl⟩
noncomputable def ane_spec_l09Body (kk:Nat):An:=.q .z (.q .z (.q .z (.m [(.normal,⟨[(7, .s K21 [(0,2)])],[.v K19 [], .d, .o]⟩)] [0,1,2,6,8] [] (.q .z (.b (.l ⟨[(0, .c (.one (.ptr 0 0))),(1, .s K0 []),(2, .s K0 []),(6, .c (.one (.emp))),(8, .s K0 [])],[.n, .n, .n]⟩ ⟨[(7, .s K21 [(0,2)]),(9, .s K0 [])],[.v K19 [], .d, .o]⟩ [(.exit 0,⟨[(7, .s K21 [(0,2)])],[.v K19 [], .d, .o]⟩)] (λ (n_1,deep_2,k_9) k (out_10,i_11,x_12)=>g_spec_l09Body_l0 (g_spec_l09Body_r kk) n_1 deep_2 k_9 k out_10 i_11 x_12) (.q .z (.m [(.normal,⟨[(7, .s K21 [(0,3)])],[.v K19 [], .d, .d, .o]⟩)] [9] [] (.b (.q .z (.q (.m [(.normal,⟨[(31, .s K15 [])],[.v K19 [], .d, .d, .d, .f]⟩)] [7] [4] .z .z) .z))) .z))))) (.m [(.normal,⟨[(7, .s K21 [(0,3)])],[.v K19 [], .d, .d, .o]⟩)] [0,6] [] .z .z))))
theorem ke_spec_l09Body (kk:Nat):CK [e_spec_l01Below,e_spec_l09Plain,e_spec_l01Once,(e_spec_l09Body_r kk)] 1 (ane_spec_l09Body kk) Tryz.f94 (e_spec_l09Body_r (kk+1)):=⟨⟨trivial,⟨trivial,⟨trivial,⟨⟨trivial,⟨λ _ _=>rfl,λ _ _ _ _=>by kernel_rfl,⟨trivial,⟨⟨trivial,⟨⟨trivial,trivial⟩,trivial⟩⟩,trivial⟩⟩⟩⟩,⟨trivial,trivial⟩⟩⟩⟩⟩,λ _=>by kernel_rfl⟩
noncomputable def ane_spec_l09Any:An:=.q .z (.q .z (.m [(.normal,⟨[(3, .s K21 [(0,2)])],[.v K19 [], .d, .o]⟩),(.ret,⟨[(2, .s K21 [(0,2)])],[.v K19 [], .d, .o]⟩)] [0] [] (.q .z (.b (.q .z (.q .z (.q .z (.q .z (.q .z (.q (.b (.l ⟨[(0, .c (.one (.ptr 0 0))),(2, .c (.one (.emp)))],[.n, .n, .n]⟩ ⟨[(3, .s K21 [(0,2)])],[.v K19 [], .d, .o]⟩ [(.exit 1,⟨[(3, .s K21 [(0,2)])],[.v K19 [], .d, .o]⟩)] (λ _ k (body_17,x_18)=>g_spec_l09Any_l0 k body_17 x_18) .z)) .z)))))))) .z))
theorem ke_spec_l09Any:CK [e_spec_l09Body,e_spec_l01Below,e_spec_l01PickInt] 1 ane_spec_l09Any Tryz.f45 e_spec_l09Any:=⟨⟨trivial,⟨trivial,⟨⟨trivial,⟨trivial,⟨trivial,⟨trivial,⟨trivial,⟨trivial,⟨⟨λ _ _=>rfl,λ _ _ _ _=>by kernel_rfl,trivial⟩,trivial⟩⟩⟩⟩⟩⟩⟩,trivial⟩⟩⟩,λ _=>by kernel_rfl⟩
noncomputable def ane_spec_DrawFalls:An:=.z
theorem ke_spec_DrawFalls:CK [e_spec_l01New,e_spec_l09Any] 0 ane_spec_DrawFalls Tryz.f9 e_spec_DrawFalls:=⟨trivial,λ _=>by kernel_rfl⟩
noncomputable def ane_impl_opOk:An:=.z
theorem ke_impl_opOk:CK [e_impl_PrimName,e_impl_within] 0 ane_impl_opOk Tryz.f166 e_impl_opOk:=⟨trivial,λ _=>by kernel_rfl⟩
noncomputable def ane_impl_openIn:An:=.q .z (.q .z (.m [(.normal,⟨[(4, .s K10 [(0,1)])],[.d, .o]⟩),(.ret,⟨[(2, .s K10 [(0,1)]),(3, .s K15 [])],[.d, .o]⟩)] [0] [] (.q .z (.b (.l ⟨[(0, .s K21 []),(9, .s K21 []),(10, .s K0 [])],[.n, .n]⟩ ⟨[(4, .s K10 [(0,1)]),(11, .s K0 [])],[.d, .o]⟩ [(.exit 0,⟨[(4, .s K10 [(0,1)])],[.d, .o]⟩),(.ret,⟨[(2, .s K10 [(0,2)]),(3, .s K15 [])],[.d, .d, .o]⟩)] (λ (_,v_7,v_8) k (vopen_9,v_10)=>g_impl_openIn_l0 v_7 v_8 k vopen_9 v_10) (.q .z (.q .z (.m [(.normal,⟨[(4, .s K10 [(0,2)])],[.d, .d, .o]⟩),(.ret,⟨[(2, .s K10 [(0,2)]),(3, .s K15 [])],[.d, .d, .o]⟩)] [11] [] (.b (.q .z (.q .z (.b (.q .z (.q .z (.m [(.normal,⟨[(22, .s K15 [])],[.d, .f, .f]⟩)] [4,6,7] [1,2] .z (.q .z (.m [(.normal,⟨[(41, .s K15 [])],[.d, .f, .f]⟩)] [4,6,7] [1,2] .z (.q (.q (.m [(.normal,⟨[(62, .s K15 [])],[.d, .f, .f]⟩)] [4,6,7] [1,2] .z .z) .z) .z)))))))))) .z)))))) .z))
theorem ke_impl_openIn:CK [e_impl_opOk] 0 ane_impl_openIn Tryz.f95 e_impl_openIn:=⟨⟨trivial,⟨trivial,⟨⟨trivial,⟨λ _ _=>rfl,λ _ _ _ _=>by kernel_rfl,⟨trivial,⟨trivial,⟨⟨trivial,⟨trivial,⟨trivial,⟨trivial,⟨trivial,⟨trivial,⟨trivial,⟨⟨⟨trivial,trivial⟩,trivial⟩,trivial⟩⟩⟩⟩⟩⟩⟩⟩,trivial⟩⟩⟩⟩⟩,trivial⟩⟩⟩,λ _=>by kernel_rfl⟩
noncomputable def ane_impl_ShapeOk:An:=.z
theorem ke_impl_ShapeOk:CK [e_impl_openIn] 0 ane_impl_ShapeOk Tryz.f46 e_impl_ShapeOk:=⟨trivial,λ _=>by kernel_rfl⟩
noncomputable def ane_impl_Falls:An:=.z
theorem ke_impl_Falls:CK [e_impl_ShapeOk] 0 ane_impl_Falls Tryz.f10 e_impl_Falls:=⟨trivial,λ _=>by kernel_rfl⟩
end Go.Proofs.YtofjeimkphojaaaGreatDoor
namespace Go.Proofs.YtofjeimkphojaaaGreatDoor
open Go Go.Fm
set_option maxRecDepth 1000000
noncomputable def ane_spec_l08Names:An:=.z
theorem ke_spec_l08Names:CK [] 0 ane_spec_l08Names Tryz.f169 e_spec_l08Names:=⟨trivial,λ _=>by kernel_rfl⟩
noncomputable def ane_spec_l01In:An:=.z
theorem ke_spec_l01In:CK [] 0 ane_spec_l01In Tryz.f54 e_spec_l01In:=⟨trivial,λ _=>by kernel_rfl⟩
noncomputable def ane_spec_PrimName:An:=.z
theorem ke_spec_PrimName:CK [e_spec_l08Names,e_spec_l01In] 0 ane_spec_PrimName Tryz.f102 e_spec_PrimName:=⟨trivial,λ _=>by kernel_rfl⟩
noncomputable def ane_spec_l09Op:An:=.z
theorem ke_spec_l09Op:CK [e_spec_PrimName,e_spec_l01In] 0 ane_spec_l09Op Tryz.f52 e_spec_l09Op:=⟨trivial,λ _=>by kernel_rfl⟩
noncomputable def ane_spec_l09Open:An:=.q .z (.q .z (.m [(.normal,⟨[(4, .s K10 [(0,1)])],[.d, .o]⟩),(.ret,⟨[(2, .c (.one (.emp))),(3, .s K15 [])],[.d]⟩)] [0] [] (.q .z (.b (.l ⟨[(0, .s K21 [])],[.n, .n]⟩ ⟨[(4, .s K10 [(0,1)]),(5, .s K0 [])],[.d, .o]⟩ [(.exit 0,⟨[(4, .s K10 [(0,1)])],[.d, .o]⟩),(.ret,⟨[(2, .c (.one (.emp))),(3, .s K15 [])],[.d, .d]⟩)] (λ body_1 k (vopen_6,i_7)=>g_spec_l09Open_l0 body_1 k vopen_6 i_7) (.q .z (.m [(.normal,⟨[(4, .s K10 [(0,2)])],[.d, .d, .o]⟩),(.ret,⟨[(2, .c (.one (.emp))),(3, .s K15 [])],[.d, .d]⟩)] [5] [] (.b (.q .z (.q .z (.b (.m [(.normal,⟨[(21, .s K15 [])],[.d, .f]⟩)] [4,6,20] [1] .z (.q .z (.m [(.normal,⟨[(29, .s K15 [])],[.d, .f]⟩)] [4,6,20] [1] .z (.q (.q .z (.q (.m [(.normal,⟨[(46, .s K15 [])],[.d, .f]⟩)] [4,6,7] [1] .z .z) .z)) .z)))))))) .z))))) .z))
theorem ke_spec_l09Open:CK [] 0 ane_spec_l09Open Tryz.f53 e_spec_l09Open:=⟨⟨trivial,⟨trivial,⟨⟨trivial,⟨λ _ _=>rfl,λ _ _ _ _=>by kernel_rfl,⟨trivial,⟨⟨trivial,⟨trivial,⟨trivial,⟨trivial,⟨trivial,⟨⟨trivial,⟨⟨trivial,trivial⟩,trivial⟩⟩,trivial⟩⟩⟩⟩⟩⟩,trivial⟩⟩⟩⟩,trivial⟩⟩⟩,λ _=>by kernel_rfl⟩
noncomputable def ane_spec_ShapeOk:An:=.q .z (.q .z (.m [(.normal,⟨[],[]⟩),(.ret,⟨[(2, .s K15 [])],[]⟩)] [0] [] (.q .z (.b (.l ⟨[(0, .s K21 [])],[]⟩ ⟨[(3, .s K0 [])],[]⟩ [(.exit 0,⟨[],[]⟩),(.ret,⟨[(2, .s K15 [])],[]⟩)] (λ body_1 k i_4=>g_spec_ShapeOk_l0 body_1 k i_4) .z))) .z))
theorem ke_spec_ShapeOk:CK [e_spec_l09Op,e_spec_l09Open] 0 ane_spec_ShapeOk Tryz.f13 e_spec_ShapeOk:=⟨⟨trivial,⟨trivial,⟨⟨trivial,⟨λ _ _=>rfl,λ _ _ _ _=>by kernel_rfl,trivial⟩⟩,trivial⟩⟩⟩,λ _=>by kernel_rfl⟩
noncomputable def ane_spec_Falls:An:=.z
theorem ke_spec_Falls:CK [e_spec_ShapeOk] 0 ane_spec_Falls Tryz.f11 e_spec_Falls:=⟨trivial,λ _=>by kernel_rfl⟩
noncomputable def ane_spec_l01Pick:An:=.z
theorem ke_spec_l01Pick:CK [e_spec_l01Below] 1 ane_spec_l01Pick Tryz.f96 e_spec_l01Pick:=⟨trivial,λ _=>by kernel_rfl⟩
end Go.Proofs.YtofjeimkphojaaaGreatDoor
namespace Go.Proofs.YtofjeimkphojaaaGreatDoor
open Go Go.Fm
set_option maxRecDepth 1000000
noncomputable def ane_spec_l09Make:An:=.q .z (.q .z (.q .z (.m [(.normal,⟨[(4, .s K23 [(0,2)])],[.v K19 [], .d, .o]⟩)] [0,2,3] [] (.q .z (.b (.l ⟨[(0, .c (.one (.ptr 0 0))),(2, .c (.one (.emp))),(3, .s K0 [])],[.n, .n, .n]⟩ ⟨[(4, .s K23 [(0,2)]),(5, .s K0 [])],[.v K19 [], .d, .o]⟩ [(.exit 0,⟨[(4, .s K23 [(0,2)])],[.v K19 [], .d, .o]⟩)] (λ n_7 k (out_8,i_9,x_10)=>g_spec_l09Make_l0 n_7 k out_8 i_9 x_10) (.q .z (.m [(.normal,⟨[(4, .s K23 [(0,3)])],[.v K19 [], .d, .d, .o]⟩)] [5] [] (.b (.q .z (.m [(.normal,⟨[(6, .s K0 [])],[.v K19 [], .d, .f]⟩)] [4] [2] .z (.q .z (.m [(.normal,⟨[(7, .s K21 [(0,4)])],[.f, .d, .f, .d, .o]⟩)] [4,6] [0,2] .z (.m [(.normal,⟨[(7, .s K21 [])],[.v K19 [], .d, .f, .d, .d]⟩)] [4,6] [2] (.q .z (.b (.q .z (.q .z (.q .z (.q (.m [(.normal,⟨[(7, .s K21 [(0,5)])],[.v K19 [], .d, .f, .d, .d, .o]⟩)] [] [] .z .z) .z)))))) .z)))))) .z))))) .z)))
theorem ke_spec_l09Make:CK [e_spec_l01Below,e_spec_l01Once,e_spec_l09Body,e_spec_l01Pick] 1 ane_spec_l09Make Tryz.f47 e_spec_l09Make:=⟨⟨trivial,⟨trivial,⟨trivial,⟨⟨trivial,⟨λ _ _=>rfl,λ _ _ _ _=>by kernel_rfl,⟨trivial,⟨⟨trivial,⟨trivial,⟨trivial,⟨trivial,⟨⟨trivial,⟨trivial,⟨trivial,⟨trivial,⟨⟨trivial,trivial⟩,trivial⟩⟩⟩⟩⟩,trivial⟩⟩⟩⟩⟩,trivial⟩⟩⟩⟩,trivial⟩⟩⟩⟩,λ _=>by kernel_rfl⟩
noncomputable def ane_spec_NewStore:An:=.z
theorem ke_spec_NewStore:CK [e_spec_l01In] 0 ane_spec_NewStore Tryz.f167 e_spec_NewStore:=⟨trivial,λ _=>by kernel_rfl⟩
noncomputable def ane_spec_l04Int:An:=.z
theorem ke_spec_l04Int:CK [e_spec_l01Once,e_spec_l01Below,e_spec_l01PickInt] 1 ane_spec_l04Int Tryz.f99 e_spec_l04Int:=⟨trivial,λ _=>by kernel_rfl⟩
noncomputable def ane_spec_l02All:An:=.z
theorem ke_spec_l02All:CK [] 0 ane_spec_l02All Tryz.f170 e_spec_l02All:=⟨trivial,λ _=>by kernel_rfl⟩
noncomputable def ane_spec_LetterAt:An:=.z
theorem ke_spec_LetterAt:CK [e_spec_l01In,e_spec_l02All] 0 ane_spec_LetterAt Tryz.f234 e_spec_LetterAt:=⟨trivial,λ _=>by kernel_rfl⟩
noncomputable def ane_spec_l02Name:An:=.q .z (.q .z (.q .z (.q .z (.m [(.normal,⟨[(3, .s K12 [(0,2)])],[.v K19 [], .d, .o]⟩)] [0,2,4] [] (.q .z (.b (.l ⟨[(0, .c (.one (.ptr 0 0))),(2, .s K16 []),(4, .s K0 [])],[.n, .n, .n]⟩ ⟨[(3, .s K12 [(0,2)]),(5, .s K0 [])],[.v K19 [], .d, .o]⟩ [(.exit 0,⟨[(3, .s K12 [(0,2)])],[.v K19 [], .d, .o]⟩)] (λ (_,n_10) k (out_11,i_12,x_13)=>g_spec_l02Name_l0 n_10 k out_11 i_12 x_13) .z))) .z))))
theorem ke_spec_l02Name:CK [e_spec_l01Once,e_spec_l01Pick,e_spec_l01Below,e_spec_LetterAt] 1 ane_spec_l02Name Tryz.f222 e_spec_l02Name:=⟨⟨trivial,⟨trivial,⟨trivial,⟨trivial,⟨⟨trivial,⟨λ _ _=>rfl,λ _ _ _ _=>by kernel_rfl,trivial⟩⟩,trivial⟩⟩⟩⟩⟩,λ _=>by kernel_rfl⟩
noncomputable def ane_spec_l04Some:An:=.z
theorem ke_spec_l04Some:CK [e_spec_l01Below,e_spec_l04Int,e_spec_l01Once,e_spec_l01Pick,e_spec_l02Name] 1 ane_spec_l04Some Tryz.f197 e_spec_l04Some:=⟨trivial,λ _=>by kernel_rfl⟩
noncomputable def ane_spec_l04Num:An:=.q .z (.q .z (.m [(.normal,⟨[(9, .s K8 [])],[]⟩)] [0,1,2,3,8] [] .z (.q (.m [(.normal,⟨[(16, .s K15 [])],[]⟩)] [0,2,3,8,9] [] .z .z) .z)))
theorem ke_spec_l04Num:CK [] 0 ane_spec_l04Num Tryz.f219 e_spec_l04Num:=⟨⟨trivial,⟨trivial,⟨trivial,⟨⟨trivial,trivial⟩,trivial⟩⟩⟩⟩,λ _=>by kernel_rfl⟩
end Go.Proofs.YtofjeimkphojaaaGreatDoor
namespace Go.Proofs.YtofjeimkphojaaaGreatDoor
open Go Go.Fm
set_option maxRecDepth 1000000
noncomputable def ane_spec_LetterOf:An:=.q .z (.q .z (.m [(.normal,⟨[],[]⟩),(.ret,⟨[(2, .s K0 [])],[]⟩)] [0,3] [] (.q .z (.b (.l ⟨[(0, .s K11 []),(3, .s K16 [])],[]⟩ ⟨[(4, .s K0 [])],[]⟩ [(.exit 0,⟨[],[]⟩),(.ret,⟨[(2, .s K0 [])],[]⟩)] (λ (b_1,yu3758_3) k i_5=>g_spec_LetterOf_l0 b_1 yu3758_3 k i_5) .z))) .z))
theorem ke_spec_LetterOf:CK [e_spec_l02All] 0 ane_spec_LetterOf Tryz.f103 e_spec_LetterOf:=⟨⟨trivial,⟨trivial,⟨⟨trivial,⟨λ _ _=>rfl,λ _ _ _ _=>by kernel_rfl,trivial⟩⟩,trivial⟩⟩⟩,λ _=>by kernel_rfl⟩
noncomputable def ane_spec_NameOk:An:=.q .z (.q .z (.m [(.normal,⟨[],[]⟩),(.ret,⟨[(2, .s K15 [])],[]⟩)] [0] [] (.q .z (.b (.l ⟨[(0, .s K16 [])],[]⟩ ⟨[(3, .s K0 [])],[]⟩ [(.exit 0,⟨[],[]⟩),(.ret,⟨[(2, .s K15 [])],[]⟩)] (λ s_1 k i_5=>g_spec_NameOk_l0 s_1 k i_5) .z))) .z))
theorem ke_spec_NameOk:CK [e_spec_l01In,e_spec_LetterOf] 0 ane_spec_NameOk Tryz.f56 e_spec_NameOk:=⟨⟨trivial,⟨trivial,⟨⟨trivial,⟨λ _ _=>rfl,λ _ _ _ _=>by kernel_rfl,trivial⟩⟩,trivial⟩⟩⟩,λ _=>by kernel_rfl⟩
noncomputable def ane_spec_WidthOf:An:=.z
theorem ke_spec_WidthOf:CK [e_spec_l01In] 0 ane_spec_WidthOf Tryz.f247 e_spec_WidthOf:=⟨trivial,λ _=>by kernel_rfl⟩
noncomputable def ane_spec_BitsOf:An:=.z
theorem ke_spec_BitsOf:CK [e_spec_WidthOf] 0 ane_spec_BitsOf Tryz.f248 e_spec_BitsOf:=⟨trivial,λ _=>by kernel_rfl⟩
noncomputable def ane_spec_l03One:An:=.q .z (.q .z (.q (.b (.l ⟨[(0, .s K16 []),(2, .s K8 []),(3, .s K0 [])],[]⟩ ⟨[(4, .s K0 []),(5, .s K0 []),(6, .s K0 [])],[]⟩ [(.exit 0,⟨[(4, .s K0 []),(6, .s K0 [])],[]⟩)] (λ (s_1,_,_) k (f_6,left_7,n_8)=>g_spec_l03One_l0 s_1 k f_6 left_7 n_8) .z)) .z))
theorem ke_spec_l03One:CK [e_spec_LetterOf,e_spec_WidthOf,e_spec_BitsOf] 0 ane_spec_l03One Tryz.f242 e_spec_l03One:=⟨⟨trivial,⟨trivial,⟨⟨λ _ _=>rfl,λ _ _ _ _=>by kernel_rfl,trivial⟩,trivial⟩⟩⟩,λ _=>by kernel_rfl⟩
noncomputable def ane_spec_Pack:An:=.q .z (.q .z (.q .z (.q (.b (.l ⟨[(2, .c (.one (.emp)))],[.n, .n]⟩ ⟨[(0, .s K16 []),(3, .s K9 [(0,1)])],[.d, .o]⟩ [(.exit 0,⟨[(3, .s K9 [(0,1)])],[.d, .o]⟩)] (λ _ k (s_4,out_5)=>g_spec_Pack_l0 k s_4 out_5) .z)) .z)))
theorem ke_spec_Pack:CK [e_spec_NameOk,e_spec_l03One] 0 ane_spec_Pack Tryz.f233 e_spec_Pack:=⟨⟨trivial,⟨trivial,⟨trivial,⟨⟨λ _ _=>rfl,λ _ _ _ _=>by kernel_rfl,trivial⟩,trivial⟩⟩⟩⟩,λ _=>by kernel_rfl⟩
noncomputable def ane_spec_l04Word:An:=.q .z (.q .z (.m [(.normal,⟨[(5, .s K9 [(0,0)])],[.o]⟩)] [0,4] [] (.q .z (.b (.l ⟨[(0, .s K8 []),(4, .c (.one (.emp)))],[.n]⟩ ⟨[(5, .s K9 [(0,0)]),(6, .s K0 [])],[.o]⟩ [(.exit 0,⟨[(5, .s K9 [(0,0)])],[.o]⟩)] (λ tag_1 k (out_6,i_7)=>g_spec_l04Word_l0 tag_1 k out_6 i_7) (.q .z (.m [(.normal,⟨[(5, .s K9 [(0,0)])],[.o]⟩)] [6] [] .z .z))))) .z))
theorem ke_spec_l04Word:CK [e_spec_Pack] 0 ane_spec_l04Word Tryz.f220 e_spec_l04Word:=⟨⟨trivial,⟨trivial,⟨⟨trivial,⟨λ _ _=>rfl,λ _ _ _ _=>by kernel_rfl,⟨trivial,⟨trivial,trivial⟩⟩⟩⟩,trivial⟩⟩⟩,λ _=>by kernel_rfl⟩
noncomputable def ane_spec_l04Tag:An:=.z
theorem ke_spec_l04Tag:CK [] 0 ane_spec_l04Tag Tryz.f221 e_spec_l04Tag:=⟨trivial,λ _=>by kernel_rfl⟩
end Go.Proofs.YtofjeimkphojaaaGreatDoor
namespace Go.Proofs.YtofjeimkphojaaaGreatDoor
open Go Go.Fm
set_option maxRecDepth 1000000
noncomputable def ane_spec_CellsOf:An:=.q .z (.m [(.normal,⟨[(3, .s K15 [])],[.f]⟩)] [1,2] [0] .z (.m [(.normal,⟨[],[.f]⟩),(.ret,⟨[(2, .s K9 [(0,1)])],[.f, .o]⟩)] [1,3] [0] (.q .z (.b (.q .z (.q (.m [(.normal,⟨[(47, .s K15 [])],[.f]⟩)] [2] [] .z .z) (.q .z (.q (.m [(.normal,⟨[(60, .s K15 [])],[.f]⟩)] [2] [] .z .z) (.q .z (.q (.m [(.normal,⟨[(75, .s K15 [])],[.f]⟩)] [2] [] .z .z) (.q .z (.q (.q .z (.m [(.normal,⟨[(98, .s K15 [])],[.f, .f]⟩)] [2,4] [1] .z .z)) (.q .z (.m [(.normal,⟨[(28, .s K15 [])],[.f]⟩)] [2,5] [] .z .z)))))))))))) .z))
theorem ke_spec_CellsOf:CK [e_spec_l04Num,e_spec_l04Word,e_spec_l04Tag] 0 ane_spec_CellsOf Tryz.f196 e_spec_CellsOf:=⟨⟨trivial,⟨trivial,⟨⟨trivial,⟨trivial,⟨⟨trivial,trivial⟩,⟨trivial,⟨⟨trivial,trivial⟩,⟨trivial,⟨⟨trivial,trivial⟩,⟨trivial,⟨⟨trivial,⟨trivial,trivial⟩⟩,⟨trivial,⟨trivial,trivial⟩⟩⟩⟩⟩⟩⟩⟩⟩⟩⟩,trivial⟩⟩⟩,λ _=>by kernel_rfl⟩
noncomputable def ane_spec_l01Word:An:=.z
theorem ke_spec_l01Word:CK [e_spec_l01Below,e_spec_l01PickInt] 1 ane_spec_l01Word Tryz.f198 e_spec_l01Word:=⟨trivial,λ _=>by kernel_rfl⟩
noncomputable def ane_spec_l04Cells:An:=.q .z (.q .z (.q .z (.m [(.normal,⟨[(3, .s K9 [(0,2)])],[.v K19 [], .d, .o]⟩)] [0,2,4] [] (.q .z (.b (.l ⟨[(0, .c (.one (.ptr 0 0))),(2, .c (.one (.emp))),(4, .s K0 [])],[.n, .n, .n]⟩ ⟨[(3, .s K9 [(0,2)]),(5, .s K0 [])],[.v K19 [], .d, .o]⟩ [(.exit 0,⟨[(3, .s K9 [(0,2)])],[.v K19 [], .d, .o]⟩)] (λ n_7 k (out_8,i_9,x_10)=>g_spec_l04Cells_l0 n_7 k out_8 i_9 x_10) (.q .z (.m [(.normal,⟨[(3, .s K9 [(0,3)])],[.v K19 [], .d, .d, .o]⟩)] [5] [] .z .z))))) (.q (.m [(.normal,⟨[(58, .s K15 [])],[.v K19 [], .d, .f]⟩)] [0,2,3] [2] .z .z) .z))))
theorem ke_spec_l04Cells:CK [e_spec_l01Below,e_spec_l04Some,e_spec_CellsOf,e_spec_l01Word,e_spec_l01PickInt,e_spec_l01Once] 1 ane_spec_l04Cells Tryz.f168 e_spec_l04Cells:=⟨⟨trivial,⟨trivial,⟨trivial,⟨⟨trivial,⟨λ _ _=>rfl,λ _ _ _ _=>by kernel_rfl,⟨trivial,⟨trivial,trivial⟩⟩⟩⟩,⟨⟨trivial,trivial⟩,trivial⟩⟩⟩⟩⟩,λ _=>by kernel_rfl⟩
noncomputable def ane_spec_l05Make:An:=.q .z (.q .z (.m [(.normal,⟨[],[.v K19 [], .f, .o, .v K24 [(0,2)]]⟩)] [0,2,3] [1] (.q .z (.b (.l ⟨[(0, .c (.one (.ptr 0 0))),(2, .c (.one (.ptr 1 0))),(3, .c (.one (.ptr 3 0)))],[.n, .c [.emp], .n, .n]⟩ ⟨[(4, .s K0 [])],[.v K19 [], .f, .o, .v K24 [(0,2)]]⟩ [(.exit 0,⟨[],[.v K19 [], .f, .o, .v K24 [(0,2)]]⟩)] (λ _ k (b_8,x_9,x_10)=>g_spec_l05Make_l0 k b_8 x_9 x_10) (.q .z (.m [(.normal,⟨[],[.v K19 [], .f, .o, .v K24 [(0,2)]]⟩)] [4] [] (.b (.q .z (.q .z (.b (.l ⟨[(0, .c (.one (.ptr 0 0))),(2, .c (.one (.ptr 1 0))),(3, .c (.one (.ptr 3 0))),(4, .s K0 []),(5, .s K9 [(0,4)])],[.v K19 [], .c [.emp], .n, .n, .o]⟩ ⟨[(6, .s K0 [])],[.f, .f, .o, .v K24 [(0,2)], .f]⟩ [(.exit 2,⟨[],[.f, .f, .o, .v K24 [(0,2)], .f]⟩)] (λ (b_8,cells_16,_) k (i_18,x_19)=>g_spec_l05Make_l1 b_8 cells_16 k i_18 x_19) (.q (.m [(.normal,⟨[(28, .s K15 [])],[.f, .f, .f, .f, .f]⟩)] [6] [2,3] .z .z) .z)))))) .z))))) .z))
theorem ke_spec_l05Make:CK [e_spec_l01Below,e_spec_NewStore,e_spec_l04Cells] 1 ane_spec_l05Make Tryz.f98 e_spec_l05Make:=⟨⟨trivial,⟨trivial,⟨⟨trivial,⟨λ _ _=>rfl,λ _ _ _ _=>by kernel_rfl,⟨trivial,⟨⟨trivial,⟨trivial,⟨λ _ _=>rfl,λ _ _ _ _=>by kernel_rfl,⟨⟨trivial,trivial⟩,trivial⟩⟩⟩⟩,trivial⟩⟩⟩⟩,trivial⟩⟩⟩,λ _=>by kernel_rfl⟩
noncomputable def ane_spec_StoreOk:An:=.z
theorem ke_spec_StoreOk:CK [] 0 ane_spec_StoreOk Tryz.f55 e_spec_StoreOk:=⟨trivial,λ _=>by kernel_rfl⟩
noncomputable def ane_spec_NewSt:An:=.q .z (.q .z (.q (.m [(.normal,⟨[(23, .s K15 [])],[.f, .f, .f, .f]⟩)] [1,2,3,6,7] [0,1,2,3] .z .z) .z))
theorem ke_spec_NewSt:CK [e_spec_StoreOk,e_spec_l01In] 0 ane_spec_NewSt Tryz.f97 e_spec_NewSt:=⟨⟨trivial,⟨trivial,⟨⟨trivial,trivial⟩,trivial⟩⟩⟩,λ _=>by kernel_rfl⟩
noncomputable def ane_spec_l08First:An:=.z
theorem ke_spec_l08First:CK [] 0 ane_spec_l08First Tryz.f100 e_spec_l08First:=⟨trivial,λ _=>by kernel_rfl⟩
noncomputable def ane_spec_l08Make:An:=.q .z (.q .z (.q .z (.m [(.normal,⟨[(4, .s K0 [])],[.v K19 [], .f, .d, .d, .d, .f, .f, .f, .f, .f, .f, .f, .f]⟩)] [0,2,3] [1,5,6,7,8,9,10,11,12] .z (.m [(.normal,⟨[],[.v K19 [], .f, .d, .d, .d, .d, .o, .o, .o, .o, .o, .o, .v K13 [(0,13),(1,6),(3,7),(4,8),(5,9),(6,10),(7,11)], .o]⟩)] [0,2,3,4] [1] (.q .z (.b (.l ⟨[(0, .c (.one (.ptr 0 0))),(2, .c (.one (.ptr 1 0))),(3, .c (.one (.ptr 12 0))),(4, .s K0 [])],[.n, .c [.emp, .emp, .int .i32 0, .emp, .emp, .emp, .emp, .emp, .int .i64 0, .int .i64 0], .n, .n, .n, .n, .n, .n, .n, .n, .n, .n, .n, .n]⟩ ⟨[(5, .s K0 [])],[.v K19 [], .f, .d, .d, .d, .d, .o, .o, .o, .o, .o, .o, .v K13 [(0,13),(1,6),(3,7),(4,8),(5,9),(6,10),(7,11)], .o]⟩ [(.exit 0,⟨[],[.v K19 [], .f, .d, .d, .d, .d, .o, .o, .o, .o, .o, .o, .v K13 [(0,13),(1,6),(3,7),(4,8),(5,9),(6,10),(7,11)], .o]⟩)] (λ n_10 k (i_16,x_17,x_18)=>g_spec_l08Make_l0 n_10 k i_16 x_17 x_18) .z))) (.q .z (.m [(.normal,⟨[(4, .s K0 [])],[.v K19 [], .f, .d, .d, .d, .d, .f, .f, .f, .f, .f, .f, .f, .f]⟩)] [0,2,3] [1,6,7,8,9,10,11,12,13] .z (.m [(.normal,⟨[],[.v K19 [], .f, .d, .d, .d, .d, .d, .o, .o, .o, .o, .o, .v K13 [(0,13),(1,14),(3,7),(4,8),(5,9),(6,10),(7,11)], .o, .o]⟩)] [0,2,3,4] [1] (.q .z (.b (.l ⟨[(0, .c (.one (.ptr 0 0))),(2, .c (.one (.ptr 1 0))),(3, .c (.one (.ptr 12 0))),(4, .s K0 [])],[.n, .c [.emp, .emp, .int .i32 0, .emp, .emp, .emp, .emp, .emp, .int .i64 0, .int .i64 0], .n, .n, .n, .n, .n, .n, .n, .n, .n, .n, .n, .n, .n]⟩ ⟨[(6, .s K0 [])],[.v K19 [], .f, .d, .d, .d, .d, .d, .o, .o, .o, .o, .o, .v K13 [(0,13),(1,14),(3,7),(4,8),(5,9),(6,10),(7,11)], .o, .o]⟩ [(.exit 2,⟨[],[.v K19 [], .f, .d, .d, .d, .d, .d, .o, .o, .o, .o, .o, .v K13 [(0,13),(1,14),(3,7),(4,8),(5,9),(6,10),(7,11)], .o, .o]⟩)] (λ n_24 k (i_30,x_31,x_32)=>g_spec_l08Make_l1 n_24 k i_30 x_31 x_32) .z))) (.q .z (.m [(.normal,⟨[],[.v K19 [], .f, .d, .d, .d, .d, .d, .o, .o, .d, .o, .o, .v K13 [(0,13),(1,14),(3,7),(4,8),(5,15),(6,10),(7,11)], .o, .o, .o]⟩)] [0,2,3,4] [1] (.q .z (.b (.l ⟨[(0, .c (.one (.ptr 0 0))),(2, .c (.one (.ptr 1 0))),(3, .c (.one (.ptr 12 0))),(4, .s K0 [])],[.n, .c [.emp, .emp, .int .i32 0, .emp, .emp, .emp, .emp, .emp, .int .i64 0, .int .i64 0], .n, .n, .n, .n, .n, .n, .n, .n, .n, .n, .n, .n, .n, .n]⟩ ⟨[(7, .s K0 [])],[.v K19 [], .f, .d, .d, .d, .d, .d, .o, .o, .d, .o, .o, .v K13 [(0,13),(1,14),(3,7),(4,8),(5,15),(6,10),(7,11)], .o, .o, .o]⟩ [(.exit 4,⟨[],[.v K19 [], .f, .d, .d, .d, .d, .d, .o, .o, .d, .o, .o, .v K13 [(0,13),(1,14),(3,7),(4,8),(5,15),(6,10),(7,11)], .o, .o, .o]⟩)] (λ n_41 k (i_42,x_43,x_44)=>g_spec_l08Make_l2 n_41 k i_42 x_43 x_44) .z))) (.m [(.normal,⟨[],[.v K19 [], .f, .d, .d, .d, .d, .d, .o, .o, .d, .o, .o, .v K13 [(0,13),(1,14),(3,7),(4,8),(5,15),(6,10),(7,11)], .o, .o, .o]⟩)] [0,2,3] [1] (.m [(.normal,⟨[(85, .s K15 [])],[.v K19 [], .f, .d, .d, .d, .d, .d, .f, .f, .d, .f, .f, .f, .f, .f, .f]⟩)] [] [7,8,10,11,12,13,14,15] .z .z) (.m [(.normal,⟨[],[.v K19 [], .f, .d, .d, .d, .d, .d, .o, .o, .d, .d, .o, .v K13 [(0,13),(1,14),(3,7),(4,8),(5,15),(6,16),(7,11)], .o, .o, .o, .o]⟩)] [0,2,3] [1] (.q .z (.q (.q .z (.q .z (.b (.l ⟨[(0, .c (.one (.ptr 0 0))),(2, .c (.one (.ptr 1 0))),(3, .c (.one (.ptr 12 0))),(4, .s K0 [])],[.v K19 [], .c [.emp, .emp, .int .i32 0, .emp, .emp, .emp, .emp, .emp, .int .i64 0, .int .i64 0], .n, .n, .n, .n, .n, .n, .n, .n, .n, .n, .n, .n, .n, .n, .n]⟩ ⟨[(8, .s K0 [])],[.f, .f, .d, .d, .d, .d, .d, .o, .o, .d, .d, .o, .v K13 [(0,13),(1,14),(3,7),(4,8),(5,15),(6,16),(7,11)], .o, .o, .o, .o]⟩ [(.exit 6,⟨[],[.f, .f, .d, .d, .d, .d, .d, .o, .o, .d, .d, .o, .v K13 [(0,13),(1,14),(3,7),(4,8),(5,15),(6,16),(7,11)], .o, .o, .o, .o]⟩)] (λ (n_73,_) k (i_75,x_76)=>g_spec_l08Make_l3 n_73 k i_75 x_76) .z)))) .z)) .z)))))))))))
theorem ke_spec_l08Make:CK [e_spec_l05Make,e_spec_l01Pick,e_spec_l01Below,e_spec_NewSt,e_spec_l01Once,e_spec_l04Int,e_spec_l01PickInt,e_spec_l08First] 1 ane_spec_l08Make Tryz.f48 e_spec_l08Make:=⟨⟨trivial,⟨trivial,⟨trivial,⟨trivial,⟨⟨trivial,⟨λ _ _=>rfl,λ _ _ _ _=>by kernel_rfl,trivial⟩⟩,⟨trivial,⟨trivial,⟨⟨trivial,⟨λ _ _=>rfl,λ _ _ _ _=>by kernel_rfl,trivial⟩⟩,⟨trivial,⟨⟨trivial,⟨λ _ _=>rfl,λ _ _ _ _=>by kernel_rfl,trivial⟩⟩,⟨⟨trivial,trivial⟩,⟨⟨trivial,⟨⟨trivial,⟨trivial,⟨λ _ _=>rfl,λ _ _ _ _=>by kernel_rfl,trivial⟩⟩⟩,trivial⟩⟩,trivial⟩⟩⟩⟩⟩⟩⟩⟩⟩⟩⟩⟩,λ _=>by kernel_rfl⟩
end Go.Proofs.YtofjeimkphojaaaGreatDoor
namespace Go.Proofs.YtofjeimkphojaaaGreatDoor
open Go Go.Fm
set_option maxRecDepth 1000000
noncomputable def ane_spec_l08Any:An:=.q .z (.q .z (.m [(.normal,⟨[],[.v K19 [], .f, .o, .d, .d, .d, .d, .o, .o, .v K13 [(0,2),(1,10),(3,11),(4,12),(5,13),(6,7),(7,8)], .o, .o, .o, .o]⟩)] [0,2,3] [1] .z .z))
theorem ke_spec_l08Any:CK [e_spec_l08Make,e_spec_l01Below,e_spec_l01PickInt] 1 ane_spec_l08Any Tryz.f50 e_spec_l08Any:=⟨⟨trivial,⟨trivial,⟨trivial,trivial⟩⟩⟩,λ _=>by kernel_rfl⟩
noncomputable def ane_spec_l09Any_imm:An:=.q .z (.q .z (.m [(.normal,⟨[(3, .s K21 [(0,2)])],[.v K19 [], .d, .o]⟩),(.ret,⟨[(2, .s K21 [(0,2)])],[.v K19 [], .d, .o]⟩)] [0] [] (.q .z (.b (.q .z (.q .z (.q .z (.q .z (.q .z (.q (.b (.l ⟨[(0, .c (.one (.ptr 0 0))),(2, .c (.one (.emp)))],[.n, .n, .n]⟩ ⟨[(3, .s K21 [(0,2)])],[.v K19 [], .d, .o]⟩ [(.exit 1,⟨[(3, .s K21 [(0,2)])],[.v K19 [], .d, .o]⟩)] (λ _ k (body_17,x_18)=>g_spec_l09Any_imm_l0 k body_17 x_18) .z)) .z)))))))) .z))
theorem ke_spec_l09Any_imm:CK [e_spec_l09Body,e_spec_l01Below,e_spec_l01PickInt] 1 ane_spec_l09Any_imm Tryz.f45 e_spec_l09Any_imm:=⟨⟨trivial,⟨trivial,⟨⟨trivial,⟨trivial,⟨trivial,⟨trivial,⟨trivial,⟨trivial,⟨⟨λ _ _=>rfl,λ _ _ _ _=>by kernel_rfl,trivial⟩,trivial⟩⟩⟩⟩⟩⟩⟩,trivial⟩⟩⟩,λ _=>by kernel_rfl⟩
noncomputable def ane_spec_DrawMeans:An:=.q .z (.q .z (.q .z (.q .z (.m [(.normal,⟨[],[.f, .v K19 [], .f, .d, .d, .d, .d, .d, .d, .d, .v K13 [(0,11),(1,12),(3,13),(4,14),(5,15),(6,16),(7,17)], .o, .o, .o, .o, .o, .o, .o]⟩)] [2,3,4,5,6,7] [0,2] .z (.m [(.normal,⟨[(6, .s K23 [(0,2)])],[.f, .v K19 [], .o, .d, .d, .d, .d, .d, .d, .d, .f, .f, .f, .f, .f, .f, .f, .f]⟩)] [2,3,4,5,7] [0,10,11,12,13,14,15,16,17] .z .z)))))
theorem ke_spec_DrawMeans:CK [e_spec_l01New,e_spec_l09Make,e_spec_l08Make,e_spec_l01Once,e_spec_l08Any,e_spec_l09Any_imm,e_spec_l01Below] 0 ane_spec_DrawMeans Tryz.f12 e_spec_DrawMeans:=⟨⟨trivial,⟨trivial,⟨trivial,⟨trivial,⟨trivial,⟨trivial,trivial⟩⟩⟩⟩⟩⟩,λ _=>by kernel_rfl⟩
noncomputable def ane_spec_StOk:An:=.q .z (.q (.m [(.normal,⟨[(39, .s K15 [])],[.f]⟩)] [1,2] [0] .z .z) (.m [(.normal,⟨[],[.f]⟩),(.ret,⟨[(2, .s K15 [])],[.f]⟩)] [1] [0] (.q .z (.b (.l ⟨[(1, .c (.one (.ptr 0 0)))],[.v K13 []]⟩ ⟨[(3, .s K0 [])],[.f]⟩ [(.exit 0,⟨[],[.f]⟩),(.ret,⟨[(2, .s K15 [])],[.f]⟩)] (λ st_1 k i_5=>g_spec_StOk_l0 st_1 k i_5) .z))) (.m [(.normal,⟨[],[.f]⟩),(.ret,⟨[(2, .s K15 [])],[.f]⟩)] [1] [0] (.q .z (.b (.l ⟨[(1, .c (.one (.ptr 0 0)))],[.v K13 []]⟩ ⟨[(4, .s K0 [])],[.f]⟩ [(.exit 2,⟨[],[.f]⟩),(.ret,⟨[(2, .s K15 [])],[.f]⟩)] (λ st_1 k i_10=>g_spec_StOk_l1 st_1 k i_10) (.q .z (.m [(.normal,⟨[],[.f]⟩),(.ret,⟨[(2, .s K15 [])],[.f]⟩)] [4] [] (.b (.q .z (.q .z (.b (.l ⟨[(1, .c (.one (.ptr 0 0))),(4, .s K0 [])],[.v K13 []]⟩ ⟨[(5, .s K0 [])],[.f]⟩ [(.exit 4,⟨[],[.f]⟩),(.ret,⟨[(2, .s K15 [])],[.f]⟩)] (λ (i_10,st_1) k k_15=>g_spec_StOk_l2 i_10 st_1 k k_15) .z))))) .z))))) .z)))
theorem ke_spec_StOk:CK [e_spec_l01In,e_spec_StoreOk] 0 ane_spec_StOk Tryz.f14 e_spec_StOk:=⟨⟨trivial,⟨⟨trivial,trivial⟩,⟨⟨trivial,⟨λ _ _=>rfl,λ _ _ _ _=>by kernel_rfl,trivial⟩⟩,⟨⟨trivial,⟨λ _ _=>rfl,λ _ _ _ _=>by kernel_rfl,⟨trivial,⟨⟨trivial,⟨trivial,⟨λ _ _=>rfl,λ _ _ _ _=>by kernel_rfl,trivial⟩⟩⟩,trivial⟩⟩⟩⟩,trivial⟩⟩⟩⟩,λ _=>by kernel_rfl⟩
noncomputable def ane_spec_DefsOk:An:=.q .z (.q .z (.m [(.normal,⟨[],[]⟩),(.ret,⟨[(2, .s K15 [])],[]⟩)] [0] [] (.q .z (.b (.l ⟨[(0, .s K23 [])],[]⟩ ⟨[(3, .s K0 [])],[]⟩ [(.exit 0,⟨[],[]⟩),(.ret,⟨[(2, .s K15 [])],[]⟩)] (λ defs_1 k i_4=>g_spec_DefsOk_l0 defs_1 k i_4) (.q .z (.m [(.normal,⟨[],[]⟩),(.ret,⟨[(2, .s K15 [])],[]⟩)] [3] [] (.b (.q (.m [(.normal,⟨[(30, .s K15 [])],[]⟩)] [] [] .z .z) (.q .z (.b (.l ⟨[(0, .s K23 []),(3, .s K0 [])],[]⟩ ⟨[(4, .s K0 [])],[]⟩ [(.exit 2,⟨[],[]⟩),(.ret,⟨[(2, .s K15 [])],[]⟩)] (λ (defs_1,i_4) k k_12=>g_spec_DefsOk_l1 defs_1 i_4 k k_12) (.q .z (.q (.b (.q .z (.m [(.normal,⟨[(59, .s K15 [])],[.f]⟩)] [4,5] [0] .z .z))) .z))))))) .z))))) .z))
theorem ke_spec_DefsOk:CK [e_spec_NameOk,e_spec_ShapeOk] 0 ane_spec_DefsOk Tryz.f15 e_spec_DefsOk:=⟨⟨trivial,⟨trivial,⟨⟨trivial,⟨λ _ _=>rfl,λ _ _ _ _=>by kernel_rfl,⟨trivial,⟨⟨⟨trivial,trivial⟩,⟨trivial,⟨λ _ _=>rfl,λ _ _ _ _=>by kernel_rfl,⟨trivial,⟨⟨trivial,⟨trivial,trivial⟩⟩,trivial⟩⟩⟩⟩⟩,trivial⟩⟩⟩⟩,trivial⟩⟩⟩,λ _=>by kernel_rfl⟩
noncomputable def ane_impl_letters:An:=.z
theorem ke_impl_letters:CK [] 0 ane_impl_letters Tryz.f200 e_impl_letters:=⟨trivial,λ _=>by kernel_rfl⟩
theorem fe_ibytealg_IndexByteString:ConOk Tryz.prog e_ibytealg_IndexByteString:=index_ok (fn:=Tryz.f235) Tryz.func235 (by kernel_rfl) (by kernel_rfl) (by kernel_rfl) (by kernel_rfl)
noncomputable def ane_istringslite_IndexByte:An:=.z
theorem ke_istringslite_IndexByte:CK [e_ibytealg_IndexByteString] 0 ane_istringslite_IndexByte Tryz.f223 e_istringslite_IndexByte:=⟨trivial,λ _=>by kernel_rfl⟩
end Go.Proofs.YtofjeimkphojaaaGreatDoor
namespace Go.Proofs.YtofjeimkphojaaaGreatDoor
open Go Go.Fm
set_option maxRecDepth 1000000
noncomputable def ane_strings_IndexByte:An:=.z
theorem ke_strings_IndexByte:CK [e_istringslite_IndexByte] 0 ane_strings_IndexByte Tryz.f199 e_strings_IndexByte:=⟨trivial,λ _=>by kernel_rfl⟩
noncomputable def ane_impl_LetterOf:An:=.z
theorem ke_impl_LetterOf:CK [e_impl_letters,e_strings_IndexByte] 0 ane_impl_LetterOf Tryz.f172 e_impl_LetterOf:=⟨trivial,λ _=>by kernel_rfl⟩
noncomputable def ane_impl_NameOk:An:=.q .z (.m [(.normal,⟨[],[]⟩),(.ret,⟨[(2, .s K15 [])],[]⟩)] [0] [] (.q .z (.b (.l ⟨[(0, .s K16 []),(5, .s K0 [])],[]⟩ ⟨[(6, .s K0 [])],[]⟩ [(.exit 0,⟨[],[]⟩),(.ret,⟨[(2, .s K15 [])],[]⟩)] (λ (s_1,v_4) k v_5=>g_impl_NameOk_l0 s_1 v_4 k v_5) .z))) .z)
theorem ke_impl_NameOk:CK [e_impl_LetterOf,e_impl_within] 0 ane_impl_NameOk Tryz.f109 e_impl_NameOk:=⟨⟨trivial,⟨⟨trivial,⟨λ _ _=>rfl,λ _ _ _ _=>by kernel_rfl,trivial⟩⟩,trivial⟩⟩,λ _=>by kernel_rfl⟩
noncomputable def ane_impl_callsBelowc1:An:=.z
theorem ke_impl_callsBelowc1:CK [] 1 ane_impl_callsBelowc1 Tryz.f174 e_impl_callsBelowc1:=⟨trivial,λ _=>by kernel_rfl⟩
noncomputable def ane_slices_IndexFunc_Op_impl_callsBelowc1:An:=.q .z (.m [(.normal,⟨[],[.f]⟩),(.ret,⟨[(4, .s K0 [])],[.f]⟩)] [0,1] [] (.q .z (.b (.l ⟨[(0, .s K21 []),(1, .c (.one (.fn 174 [(0,0)]))),(7, .s K0 [])],[.v K0 []]⟩ ⟨[(8, .s K0 [])],[.f]⟩ [(.exit 0,⟨[],[.f]⟩),(.ret,⟨[(4, .s K0 [])],[.f]⟩)] (λ (s_1,v_5,c_2) k v_6=>g_slices_IndexFunc_Op_impl_callsBelowc1_l0 s_1 v_5 c_2 k v_6) .z))) .z)
theorem ke_slices_IndexFunc_Op_impl_callsBelowc1:CK [e_impl_callsBelowc1] 1 ane_slices_IndexFunc_Op_impl_callsBelowc1 Tryz.f201 e_slices_IndexFunc_Op_impl_callsBelowc1:=⟨⟨trivial,⟨⟨trivial,⟨λ _ _=>rfl,λ _ _ _ _=>by kernel_rfl,trivial⟩⟩,trivial⟩⟩,λ _=>by kernel_rfl⟩
noncomputable def ane_slices_ContainsFunc_Op_impl_callsBelowc1:An:=.z
theorem ke_slices_ContainsFunc_Op_impl_callsBelowc1:CK [e_slices_IndexFunc_Op_impl_callsBelowc1] 1 ane_slices_ContainsFunc_Op_impl_callsBelowc1 Tryz.f173 e_slices_ContainsFunc_Op_impl_callsBelowc1:=⟨trivial,λ _=>by kernel_rfl⟩
noncomputable def ane_impl_callsBelow:An:=.z
theorem ke_impl_callsBelow:CK [e_slices_ContainsFunc_Op_impl_callsBelowc1] 0 ane_impl_callsBelow Tryz.f110 e_impl_callsBelow:=⟨trivial,λ _=>by kernel_rfl⟩
noncomputable def ane_impl_DefsOkc1:An:=.z
theorem ke_impl_DefsOkc1:CK [e_impl_NameOk,e_impl_ShapeOk,e_impl_callsBelow] 1 ane_impl_DefsOkc1 Tryz.f108 e_impl_DefsOkc1:=⟨trivial,λ _=>by kernel_rfl⟩
end Go.Proofs.YtofjeimkphojaaaGreatDoor
namespace Go.Proofs.YtofjeimkphojaaaGreatDoor
open Go Go.Fm
set_option maxRecDepth 1000000
noncomputable def ane_slices_IndexFunc_Def_impl_DefsOkc1:An:=.q .z (.m [(.normal,⟨[],[.f]⟩),(.ret,⟨[(4, .s K0 [])],[.f]⟩)] [0,1] [] (.q .z (.b (.l ⟨[(0, .s K23 []),(1, .c (.one (.fn 108 [(0,0)]))),(7, .s K0 [])],[.v K23 []]⟩ ⟨[(8, .s K0 [])],[.f]⟩ [(.exit 0,⟨[],[.f]⟩),(.ret,⟨[(4, .s K0 [])],[.f]⟩)] (λ (s_1,v_5,c_2) k v_6=>g_slices_IndexFunc_Def_impl_DefsOkc1_l0 s_1 v_5 c_2 k v_6) .z))) .z)
theorem ke_slices_IndexFunc_Def_impl_DefsOkc1:CK [e_impl_DefsOkc1] 1 ane_slices_IndexFunc_Def_impl_DefsOkc1 Tryz.f171 e_slices_IndexFunc_Def_impl_DefsOkc1:=⟨⟨trivial,⟨⟨trivial,⟨λ _ _=>rfl,λ _ _ _ _=>by kernel_rfl,trivial⟩⟩,trivial⟩⟩,λ _=>by kernel_rfl⟩
noncomputable def ane_slices_ContainsFunc_Def_impl_DefsOkc1:An:=.z
theorem ke_slices_ContainsFunc_Def_impl_DefsOkc1:CK [e_slices_IndexFunc_Def_impl_DefsOkc1] 1 ane_slices_ContainsFunc_Def_impl_DefsOkc1 Tryz.f107 e_slices_ContainsFunc_Def_impl_DefsOkc1:=⟨trivial,λ _=>by kernel_rfl⟩
noncomputable def ane_impl_DefsOk:An:=.z
theorem ke_impl_DefsOk:CK [e_slices_ContainsFunc_Def_impl_DefsOkc1] 0 ane_impl_DefsOk Tryz.f59 e_impl_DefsOk:=⟨trivial,λ _=>by kernel_rfl⟩
noncomputable def ane_impl_StoreOk:An:=.z
theorem ke_impl_StoreOk:CK [] 0 ane_impl_StoreOk Tryz.f162 e_impl_StoreOk:=⟨trivial,λ _=>by kernel_rfl⟩
noncomputable def ane_impl_StOk:An:=.q .z (.q (.m [(.normal,⟨[(35, .s K15 [])],[.f]⟩)] [1,2] [0] .z .z) (.m [(.normal,⟨[],[.f]⟩),(.ret,⟨[(2, .s K15 [])],[.f]⟩)] [1] [0] (.q .z (.b (.l ⟨[(1, .c (.one (.ptr 0 0))),(37, .s K7 []),(38, .s K0 [])],[.v K13 []]⟩ ⟨[(39, .s K0 [])],[.f]⟩ [(.exit 0,⟨[],[.f]⟩),(.ret,⟨[(2, .s K15 [])],[.f]⟩)] (λ (v_6,v_7,_) k v_8=>g_impl_StOk_l0 v_6 v_7 k v_8) .z))) (.m [(.normal,⟨[],[.f]⟩),(.ret,⟨[(2, .s K15 [])],[.f]⟩)] [1] [0] (.q .z (.b (.l ⟨[(1, .c (.one (.ptr 0 0))),(49, .s K10 []),(50, .s K0 [])],[.v K13 []]⟩ ⟨[(51, .s K0 [])],[.f]⟩ [(.exit 2,⟨[],[.f]⟩),(.ret,⟨[(2, .s K15 [])],[.f]⟩)] (λ (v_13,v_14,st_1) k v_15=>g_impl_StOk_l1 v_13 v_14 st_1 k v_15) (.q .z (.q .z (.q (.b (.q .z (.m [(.normal,⟨[(70, .s K15 [])],[.f]⟩)] [5,6,51] [] .z .z))) .z)))))) .z)))
theorem ke_impl_StOk:CK [e_impl_StoreOk,e_impl_within,e_slices_Contains_int] 0 ane_impl_StOk Tryz.f91 e_impl_StOk:=⟨⟨trivial,⟨⟨trivial,trivial⟩,⟨⟨trivial,⟨λ _ _=>rfl,λ _ _ _ _=>by kernel_rfl,trivial⟩⟩,⟨⟨trivial,⟨λ _ _=>rfl,λ _ _ _ _=>by kernel_rfl,⟨trivial,⟨trivial,⟨⟨trivial,⟨trivial,trivial⟩⟩,trivial⟩⟩⟩⟩⟩,trivial⟩⟩⟩⟩,λ _=>by kernel_rfl⟩
noncomputable def ane_impl_goes:An:=.z
theorem ke_impl_goes:CK [e_impl_StOk] 0 ane_impl_goes Tryz.f61 e_impl_goes:=⟨trivial,λ _=>by kernel_rfl⟩
noncomputable def ane_impl_grow (kk:Nat):An:=.q .z (.q .z (.q (.b (.l ⟨[],[.n, .n]⟩ ⟨[(0, .s K21 []),(4, .s K3 [(0,1)])],[.d, .o]⟩ [(.exit 0,⟨[(4, .s K3 [(0,1)])],[.d, .o]⟩),(.ret,⟨[(2, .s K3 [(0,1)]),(3, .s K21 [])],[.d, .o]⟩)] (λ _ k (body_4,out_5)=>g_impl_grow_l0 (g_impl_grow_r kk) k body_4 out_5) (.q .z (.b (.q .z (.q .z (.q .z (.m [(.normal,⟨[(0, .s K21 []),(4, .s K3 [(0,1)])],[.d, .o, .f, .v K2 []]⟩),(.ret,⟨[(2, .s K3 [(0,1)]),(3, .s K21 [])],[.d, .o, .f, .v K2 [(2,4)], .o]⟩)] [5,6] [2] (.q .z (.b (.m [(.normal,⟨[(23, .s K15 [])],[.d, .f, .f, .f]⟩)] [0,4,22] [1,3] .z (.q .z (.m [(.normal,⟨[(28, .s K15 [])],[.d, .f, .f, .f]⟩)] [0,4,22] [1,3] .z .z))))) .z)))))))) .z))
theorem ke_impl_grow (kk:Nat):CK [(e_impl_grow_r kk)] 0 (ane_impl_grow kk) Tryz.f116 (e_impl_grow_r (kk+1)):=⟨⟨trivial,⟨trivial,⟨⟨λ _ _=>rfl,λ _ _ _ _=>by kernel_rfl,⟨trivial,⟨trivial,⟨trivial,⟨trivial,⟨⟨trivial,⟨trivial,⟨trivial,⟨trivial,trivial⟩⟩⟩⟩,trivial⟩⟩⟩⟩⟩⟩,trivial⟩⟩⟩,λ _=>by kernel_rfl⟩
end Go.Proofs.YtofjeimkphojaaaGreatDoor
namespace Go.Proofs.YtofjeimkphojaaaGreatDoor
open Go Go.Fm
set_option maxRecDepth 1000000
noncomputable def ane_impl_TreeOf_imm:An:=.z
theorem ke_impl_TreeOf_imm:CK [e_impl_ShapeOk,e_impl_grow] 0 ane_impl_TreeOf_imm Tryz.f63 e_impl_TreeOf_imm:=⟨trivial,λ _=>by kernel_rfl⟩
noncomputable def ane_impl_Means:An:=.q .z (.q (.m [(.normal,⟨[(25, .s K15 [])],[.f, .f]⟩)] [0,1,5,6] [0,1] .z .z) (.q .z (.m [(.normal,⟨[],[.d, .f, .o, .o, .o, .o, .o, .o, .o, .v K14 [(0,10),(1,2),(2,3),(4,4),(5,5),(6,6),(7,7),(8,8)], .o]⟩)] [0,1,6,7] [1] (.q .z (.b (.l ⟨[(0, .s K23 []),(1, .s K0 []),(6, .c (.one (.ptr 1 0))),(7, .c (.one (.ptr 9 0))),(31, .s K23 []),(32, .s K0 [])],[.n, .c [.emp, .emp, .int .i32 0, .emp, .emp, .emp, .emp, .emp, .int .i64 0, .int .i64 0], .n, .n, .n, .n, .n, .n, .n, .n, .n]⟩ ⟨[(33, .s K0 [])],[.d, .f, .o, .o, .o, .o, .o, .o, .o, .v K14 [(0,10),(1,2),(2,3),(4,4),(5,5),(6,6),(7,7),(8,8)], .o]⟩ [(.exit 0,⟨[],[.d, .f, .o, .o, .o, .o, .o, .o, .o, .v K14 [(0,10),(1,2),(2,3),(4,4),(5,5),(6,6),(7,7),(8,8)], .o]⟩)] (λ (_,_,v_11,v_12) k (v_13,x_14)=>g_impl_Means_l0 v_11 v_12 k v_13 x_14) .z))) .z)))
theorem ke_impl_Means:CK [e_impl_DefsOk,e_impl_within,e_impl_goes,e_impl_ownSt,e_impl_TreeOf_imm,e_impl_meaning_enter] 0 ane_impl_Means Tryz.f17 e_impl_Means:=⟨⟨trivial,⟨⟨trivial,trivial⟩,⟨trivial,⟨⟨trivial,⟨λ _ _=>rfl,λ _ _ _ _=>by kernel_rfl,trivial⟩⟩,trivial⟩⟩⟩⟩,λ _=>by kernel_rfl⟩
noncomputable def ane_laws_sameNums:An:=.q .z (.q .z (.m [(.normal,⟨[],[]⟩),(.ret,⟨[(4, .s K15 [])],[]⟩)] [0,1] [] (.q .z (.b (.l ⟨[(0, .s K5 []),(1, .s K5 [])],[]⟩ ⟨[(5, .s K0 [])],[]⟩ [(.exit 0,⟨[],[]⟩),(.ret,⟨[(4, .s K15 [])],[]⟩)] (λ (a_1,b_2) k i_5=>g_laws_sameNums_l0 a_1 b_2 k i_5) .z))) .z))
theorem ke_laws_sameNums:CK [] 0 ane_laws_sameNums Tryz.f104 e_laws_sameNums:=⟨⟨trivial,⟨trivial,⟨⟨trivial,⟨λ _ _=>rfl,λ _ _ _ _=>by kernel_rfl,trivial⟩⟩,trivial⟩⟩⟩,λ _=>by kernel_rfl⟩
noncomputable def ane_laws_sameCells:An:=.q .z (.q .z (.m [(.normal,⟨[],[]⟩),(.ret,⟨[(4, .s K15 [])],[]⟩)] [0,1] [] (.q .z (.b (.l ⟨[(0, .s K9 []),(1, .s K9 [])],[]⟩ ⟨[(5, .s K0 [])],[]⟩ [(.exit 0,⟨[],[]⟩),(.ret,⟨[(4, .s K15 [])],[]⟩)] (λ (a_1,b_2) k i_5=>g_laws_sameCells_l0 a_1 b_2 k i_5) .z))) .z))
theorem ke_laws_sameCells:CK [] 0 ane_laws_sameCells Tryz.f105 e_laws_sameCells:=⟨⟨trivial,⟨trivial,⟨⟨trivial,⟨λ _ _=>rfl,λ _ _ _ _=>by kernel_rfl,trivial⟩⟩,trivial⟩⟩⟩,λ _=>by kernel_rfl⟩
noncomputable def ane_laws_sameInts:An:=.q .z (.q .z (.m [(.normal,⟨[],[]⟩),(.ret,⟨[(4, .s K15 [])],[]⟩)] [0,1] [] (.q .z (.b (.l ⟨[(0, .s K10 []),(1, .s K10 [])],[]⟩ ⟨[(5, .s K0 [])],[]⟩ [(.exit 0,⟨[],[]⟩),(.ret,⟨[(4, .s K15 [])],[]⟩)] (λ (a_1,b_2) k i_5=>g_laws_sameInts_l0 a_1 b_2 k i_5) .z))) .z))
theorem ke_laws_sameInts:CK [] 0 ane_laws_sameInts Tryz.f34 e_laws_sameInts:=⟨⟨trivial,⟨trivial,⟨⟨trivial,⟨λ _ _=>rfl,λ _ _ _ _=>by kernel_rfl,trivial⟩⟩,trivial⟩⟩⟩,λ _=>by kernel_rfl⟩
noncomputable def ane_laws_sameBytes:An:=.q .z (.q .z (.m [(.normal,⟨[],[]⟩),(.ret,⟨[(4, .s K15 [])],[]⟩)] [0,1] [] (.q .z (.b (.l ⟨[(0, .s K12 []),(1, .s K12 [])],[]⟩ ⟨[(5, .s K0 [])],[]⟩ [(.exit 0,⟨[],[]⟩),(.ret,⟨[(4, .s K15 [])],[]⟩)] (λ (a_1,b_2) k i_5=>g_laws_sameBytes_l0 a_1 b_2 k i_5) .z))) .z))
theorem ke_laws_sameBytes:CK [] 0 ane_laws_sameBytes Tryz.f106 e_laws_sameBytes:=⟨⟨trivial,⟨trivial,⟨⟨trivial,⟨λ _ _=>rfl,λ _ _ _ _=>by kernel_rfl,trivial⟩⟩,trivial⟩⟩⟩,λ _=>by kernel_rfl⟩
noncomputable def ane_laws_sameBut:An:=.z
theorem ke_laws_sameBut:CK [e_laws_sameNums,e_laws_sameCells,e_laws_sameInts,e_laws_sameBytes] 0 ane_laws_sameBut Tryz.f57 e_laws_sameBut:=⟨trivial,λ _=>by kernel_rfl⟩
noncomputable def ane_laws_sameRet:An:=.q .z (.q .z (.m [(.normal,⟨[],[]⟩),(.ret,⟨[(4, .s K15 [])],[]⟩)] [0,1] [] (.q .z (.b (.l ⟨[(0, .s K7 []),(1, .s K7 [])],[]⟩ ⟨[(5, .s K0 [])],[]⟩ [(.exit 0,⟨[],[]⟩),(.ret,⟨[(4, .s K15 [])],[]⟩)] (λ (a_1,b_2) k i_5=>g_laws_sameRet_l0 a_1 b_2 k i_5) .z))) .z))
theorem ke_laws_sameRet:CK [] 0 ane_laws_sameRet Tryz.f58 e_laws_sameRet:=⟨⟨trivial,⟨trivial,⟨⟨trivial,⟨λ _ _=>rfl,λ _ _ _ _=>by kernel_rfl,trivial⟩⟩,trivial⟩⟩⟩,λ _=>by kernel_rfl⟩
end Go.Proofs.YtofjeimkphojaaaGreatDoor
namespace Go.Proofs.YtofjeimkphojaaaGreatDoor
open Go Go.Fm
set_option maxRecDepth 1000000
noncomputable def ane_laws_sameSt:An:=.z
theorem ke_laws_sameSt:CK [e_laws_sameBut,e_laws_sameRet] 0 ane_laws_sameSt Tryz.f16 e_laws_sameSt:=⟨trivial,λ _=>by kernel_rfl⟩
noncomputable def ane_laws_FnFalls:An:=.q .z (.q .z (.q .z (.q .z (.q .z (.q .z (.q (.m [(.normal,⟨[(41, .s K15 [])],[.f, .d, .f, .f, .f, .f, .f, .f, .f, .f]⟩)] [2,3,4,7] [0,2,3,4,5,6,7,8,9] .z .z) .z))))))
theorem ke_laws_FnFalls:CK [e_laws_big,e_spec_DrawFalls,e_impl_Falls,e_spec_Falls,e_spec_DrawMeans,e_spec_ShapeOk,e_spec_StOk,e_spec_DefsOk,e_impl_Means,e_laws_sameSt] 0 ane_laws_FnFalls Tryz.f3 e_laws_FnFalls:=⟨⟨trivial,⟨trivial,⟨trivial,⟨trivial,⟨trivial,⟨trivial,⟨⟨trivial,trivial⟩,trivial⟩⟩⟩⟩⟩⟩⟩,λ _=>by kernel_rfl⟩
end Go.Proofs.YtofjeimkphojaaaGreatDoor
namespace Go.Proofs.YtofjeimkphojaaaGreatDoor
open Go Go.Fm
set_option maxRecDepth 1000000
end Go.Proofs.YtofjeimkphojaaaGreatDoor
namespace Go.Proofs.YtofjeimkphojaaaGreatDoor
open Go Go.Fm
set_option maxRecDepth 1000000
end Go.Proofs.YtofjeimkphojaaaGreatDoor
namespace Go.Proofs.YtofjeimkphojaaaGreatDoor
open Go Go.Fm
set_option maxRecDepth 1000000
end Go.Proofs.YtofjeimkphojaaaGreatDoor
namespace Go.Proofs.YtofjeimkphojaaaGreatDoor
open Go Go.Fm
set_option maxRecDepth 1000000
end Go.Proofs.YtofjeimkphojaaaGreatDoor
namespace Go.Proofs.YtofjeimkphojaaaGreatDoor
open Go Go.Fm
set_option maxRecDepth 1000000
end Go.Proofs.YtofjeimkphojaaaGreatDoor
namespace Go.Proofs.YtofjeimkphojaaaGreatDoor
open Go Go.Fm
set_option maxRecDepth 1000000
end Go.Proofs.YtofjeimkphojaaaGreatDoor
namespace Go.Proofs.YtofjeimkphojaaaGreatDoor
open Go Go.Fm
set_option maxRecDepth 1000000
end Go.Proofs.YtofjeimkphojaaaGreatDoor
namespace Go.Proofs.YtofjeimkphojaaaGreatDoor
open Go Go.Fm
set_option maxRecDepth 1000000
end Go.Proofs.YtofjeimkphojaaaGreatDoor
namespace Go.Proofs.YtofjeimkphojaaaGreatDoor
open Go Go.Fm
set_option maxRecDepth 1000000
end Go.Proofs.YtofjeimkphojaaaGreatDoor
namespace Go.Proofs.YtofjeimkphojaaaGreatDoor
open Go Go.Fm
set_option maxRecDepth 1000000
end Go.Proofs.YtofjeimkphojaaaGreatDoor
namespace Go.Proofs.YtofjeimkphojaaaGreatDoor
open Go Go.Fm
set_option maxRecDepth 1000000
end Go.Proofs.YtofjeimkphojaaaGreatDoor
namespace Go.Proofs.YtofjeimkphojaaaGreatDoor
open Go Go.Fm
set_option maxRecDepth 1000000
end Go.Proofs.YtofjeimkphojaaaGreatDoor
namespace Go.Proofs.YtofjeimkphojaaaGreatDoor
open Go Go.Fm
set_option maxRecDepth 1000000
end Go.Proofs.YtofjeimkphojaaaGreatDoor
namespace Go.Proofs.YtofjeimkphojaaaGreatDoor
open Go Go.Fm
set_option maxRecDepth 1000000
end Go.Proofs.YtofjeimkphojaaaGreatDoor
namespace Go.Proofs.YtofjeimkphojaaaGreatDoor
open Go Go.Fm
set_option maxRecDepth 1000000
theorem ce_impl_St_pushes_inGMeaning_1:CO e_impl_St_pushes_inGMeaning_1:=fnc (λ _=>con_nil) Tryz.func138 ke_impl_St_pushes_inGMeaning_1 (by kernel_rfl) (λ _=>by kernel_rfl) (λ _=>by kernel_rfl) rfl
theorem ce_impl_meaning_fail_own:CO e_impl_meaning_fail_own:=fnc (λ _=>con_nil) Tryz.func117 ke_impl_meaning_fail_own (by kernel_rfl) (λ _=>by kernel_rfl) (λ _=>by kernel_rfl) rfl
theorem ce_impl_meaning_burn_own:CO e_impl_meaning_burn_own:=fnc (λ _=>con_cons ce_impl_meaning_fail_own con_nil) Tryz.func202 ke_impl_meaning_burn_own (by kernel_rfl) (λ _=>by kernel_rfl) (λ _=>by kernel_rfl) rfl
theorem ce_strings_Fields:CO e_strings_Fields:=fnc (λ _=>con_nil) Tryz.func215 ke_strings_Fields (by kernel_rfl) (λ _=>by kernel_rfl) (λ _=>by kernel_rfl) rfl
theorem ce_impl_prims:CO e_impl_prims:=fnc (λ _=>con_cons ce_strings_Fields con_nil) Tryz.func191 ke_impl_prims (by kernel_rfl) (λ _=>by kernel_rfl) (λ _=>by kernel_rfl) rfl
theorem ce_impl_within:CO e_impl_within:=fnc (λ _=>con_nil) Tryz.func60 ke_impl_within (by kernel_rfl) (λ _=>by kernel_rfl) (λ _=>by kernel_rfl) rfl
theorem ce_impl_PrimName:CO e_impl_PrimName:=fnc (λ _=>con_cons ce_impl_prims (con_cons ce_impl_within con_nil)) Tryz.func160 ke_impl_PrimName (by kernel_rfl) (λ _=>by kernel_rfl) (λ _=>by kernel_rfl) rfl
theorem ce_slices_Clone_int32:ConOk Tryz.prog e_slices_Clone_int32:=fe_slices_Clone_int32
theorem ce_slices_Clone_Slot:ConOk Tryz.prog e_slices_Clone_Slot:=fe_slices_Clone_Slot
theorem ce_slices_Clone_uint32:ConOk Tryz.prog e_slices_Clone_uint32:=fe_slices_Clone_uint32
theorem ce_slices_Clone_int:ConOk Tryz.prog e_slices_Clone_int:=fe_slices_Clone_int
theorem ce_slices_Clone_byte:ConOk Tryz.prog e_slices_Clone_byte:=fe_slices_Clone_byte
theorem ce_impl_ownSt:CO e_impl_ownSt:=fnc (λ _=>con_cons ce_slices_Clone_int32 (con_cons ce_slices_Clone_Slot (con_cons ce_slices_Clone_uint32 (con_cons ce_slices_Clone_int (con_cons ce_slices_Clone_byte con_nil))))) Tryz.func62 ke_impl_ownSt (by kernel_rfl) (λ _=>by kernel_rfl) (λ _=>by kernel_rfl) rfl
theorem ce_impl_doesc1:CO e_impl_doesc1:=fnc (λ _=>con_cons ce_impl_ownSt con_nil) Tryz.func184 ke_impl_doesc1 (by kernel_rfl) (λ _=>by kernel_rfl) (λ _=>by kernel_rfl) rfl
theorem ce_impl_PrimEffect:CO e_impl_PrimEffect:=fnc (λ _=>con_cons ce_impl_PrimName con_nil) Tryz.func210 ke_impl_PrimEffect (by kernel_rfl) (λ _=>by kernel_rfl) (λ _=>by kernel_rfl) rfl
theorem ce_impl_wants:CO e_impl_wants:=fnc (λ _=>con_cons ce_impl_PrimEffect con_nil) Tryz.func185 ke_impl_wants (by kernel_rfl) (λ _=>by kernel_rfl) (λ _=>by kernel_rfl) rfl
theorem ce_slices_Index_int:CO e_slices_Index_int:=fnc (λ _=>con_nil) Tryz.func144 ke_slices_Index_int (by kernel_rfl) (λ _=>by kernel_rfl) (λ _=>by kernel_rfl) rfl
theorem ce_slices_Contains_int:CO e_slices_Contains_int:=fnc (λ _=>con_cons ce_slices_Index_int con_nil) Tryz.func77 ke_slices_Contains_int (by kernel_rfl) (λ _=>by kernel_rfl) (λ _=>by kernel_rfl) rfl
theorem ce_impl_St_written:CO e_impl_St_written:=fnc (λ _=>con_nil) Tryz.func212 ke_impl_St_written (by kernel_rfl) (λ _=>by kernel_rfl) (λ _=>by kernel_rfl) rfl
theorem ce_strconv_Itoa:ConOk Tryz.prog e_strconv_Itoa:=fe_strconv_Itoa
theorem ce_impl_DecText:CO e_impl_DecText:=fnc (λ _=>con_cons ce_strconv_Itoa con_nil) Tryz.func93 ke_impl_DecText (by kernel_rfl) (λ _=>by kernel_rfl) (λ _=>by kernel_rfl) rfl
theorem ce_impl_result:CO e_impl_result:=fnc (λ _=>con_nil) Tryz.func213 ke_impl_result (by kernel_rfl) (λ _=>by kernel_rfl) (λ _=>by kernel_rfl) rfl
theorem ce_impl_St_place_rd:CO e_impl_St_place_rd:=fnc (λ _=>con_cons ce_impl_within con_nil) Tryz.func211 ke_impl_St_place_rd (by kernel_rfl) (λ _=>by kernel_rfl) (λ _=>by kernel_rfl) rfl
theorem ce_impl_St_effect:CO e_impl_St_effect:=fnc (λ _=>con_cons ce_impl_St_place_rd (con_cons ce_slices_Contains_int (con_cons ce_impl_St_written (con_cons ce_impl_DecText (con_cons ce_impl_result con_nil))))) Tryz.func186 ke_impl_St_effect (by kernel_rfl) (λ _=>by kernel_rfl) (λ _=>by kernel_rfl) rfl
theorem ce_impl_does:CO e_impl_does:=fnc (λ _=>con_cons ce_impl_PrimName (con_cons ce_impl_doesc1 (con_cons ce_impl_wants (con_cons ce_impl_ownSt (con_cons ce_impl_St_effect con_nil))))) Tryz.func139 ke_impl_does (by kernel_rfl) (λ _=>by kernel_rfl) (λ _=>by kernel_rfl) rfl
theorem ce_impl_meaning_enter_r (kk:Nat) (h:CO (e_impl_meaning_all_r kk)):CO (e_impl_meaning_enter_r kk):=fnc (λ _=>con_cons ce_impl_meaning_fail_own (con_cons h con_nil)) Tryz.func64 (ke_impl_meaning_enter kk) (by kernel_rfl) (λ _=>by kernel_rfl) (λ _=>by kernel_rfl) rfl
theorem ce_impl_St_begin_inGMeaning_1:CO e_impl_St_begin_inGMeaning_1:=fnc (λ _=>con_nil) Tryz.func141 ke_impl_St_begin_inGMeaning_1 (by kernel_rfl) (λ _=>by kernel_rfl) (λ _=>by kernel_rfl) rfl
theorem ce_impl_St_again_inGMeaning_1:CO e_impl_St_again_inGMeaning_1:=fnc (λ _=>con_nil) Tryz.func142 ke_impl_St_again_inGMeaning_1 (by kernel_rfl) (λ _=>by kernel_rfl) (λ _=>by kernel_rfl) rfl
theorem ce_impl_meaning_loop_r (kk:Nat) (h:CO (e_impl_meaning_all_r kk)):CO (e_impl_meaning_loop_r kk):=fnc (λ _=>con_cons ce_impl_St_begin_inGMeaning_1 (con_cons h (con_cons ce_impl_meaning_burn_own (con_cons ce_impl_St_again_inGMeaning_1 con_nil)))) Tryz.func203 (ke_impl_meaning_loop kk) (by kernel_rfl) (λ _=>by kernel_rfl) (λ _=>by kernel_rfl) rfl
theorem ce_impl_meaning_one_r (kk:Nat) (h:CO (e_impl_meaning_all_r kk)):CO (e_impl_meaning_one_r kk):=fnc (λ _=>con_cons ce_impl_meaning_burn_own (con_cons ce_impl_St_pushes_inGMeaning_1 (con_cons ce_impl_does (con_cons (ce_impl_meaning_enter_r kk h) (con_cons ce_impl_meaning_fail_own (con_cons h (con_cons (ce_impl_meaning_loop_r kk h) con_nil))))))) Tryz.func175 (ke_impl_meaning_one kk) (by kernel_rfl) (λ _=>by kernel_rfl) (λ _=>by kernel_rfl) rfl
theorem ce_impl_meaning_all_r:∀ kk,CO (e_impl_meaning_all_r kk)
 | 0=>λ _ _ _ h=>nomatch h
 | kk+1=>fnc (λ _=>con_cons (ce_impl_meaning_one_r kk (ce_impl_meaning_all_r kk)) con_nil) Tryz.func118 (ke_impl_meaning_all kk) (by kernel_rfl) (λ _=>by kernel_rfl) (λ _=>by kernel_rfl) rfl
theorem ce_impl_meaning_all:CO e_impl_meaning_all:=ce_impl_meaning_all_r bigK
theorem ce_impl_meaning_enter:CO e_impl_meaning_enter:=ce_impl_meaning_enter_r bigK ce_impl_meaning_all
theorem ce_laws_big:CO e_laws_big:=fnc (λ _=>con_nil) Tryz.func8 ke_laws_big (by kernel_rfl) (λ _=>by kernel_rfl) (λ _=>by kernel_rfl) rfl
theorem ce_spec_l01New:CO e_spec_l01New:=fnc (λ _=>con_nil) Tryz.func44 ke_spec_l01New (by kernel_rfl) (λ _=>by kernel_rfl) (λ _=>by kernel_rfl) rfl
theorem ce_spec_l01Byte:CO e_spec_l01Byte:=fnc (λ _=>con_nil) Tryz.func101 ke_spec_l01Byte (by kernel_rfl) (λ _=>by kernel_rfl) (λ _=>by kernel_rfl) rfl
theorem ce_spec_l01Below:CO e_spec_l01Below:=fnc (λ _=>con_cons ce_spec_l01Byte con_nil) Tryz.func51 ke_spec_l01Below (by kernel_rfl) (λ _=>by kernel_rfl) (λ _=>by kernel_rfl) rfl
theorem ce_spec_l01PickInt:CO e_spec_l01PickInt:=fnc (λ _=>con_cons ce_spec_l01Below con_nil) Tryz.func87 ke_spec_l01PickInt (by kernel_rfl) (λ _=>by kernel_rfl) (λ _=>by kernel_rfl) rfl
theorem ce_spec_l09Plain:CO e_spec_l09Plain:=fnc (λ _=>con_cons ce_spec_l01Below (con_cons ce_spec_l01PickInt con_nil)) Tryz.func165 ke_spec_l09Plain (by kernel_rfl) (λ _=>by kernel_rfl) (λ _=>by kernel_rfl) rfl
theorem ce_spec_l01Once:CO e_spec_l01Once:=fnc (λ _=>con_cons ce_spec_l01Below con_nil) Tryz.func49 ke_spec_l01Once (by kernel_rfl) (λ _=>by kernel_rfl) (λ _=>by kernel_rfl) rfl
theorem ce_spec_l09Body_r:∀ kk,CO (e_spec_l09Body_r kk)
 | 0=>λ _ _ _ h=>nomatch h
 | kk+1=>fnc (λ _=>con_cons ce_spec_l01Below (con_cons ce_spec_l09Plain (con_cons ce_spec_l01Once (con_cons (ce_spec_l09Body_r kk) con_nil)))) Tryz.func94 (ke_spec_l09Body kk) (by kernel_rfl) (λ _=>by kernel_rfl) (λ _=>by kernel_rfl) rfl
theorem ce_spec_l09Body:CO e_spec_l09Body:=ce_spec_l09Body_r bigK
theorem ce_spec_l09Any:CO e_spec_l09Any:=fnc (λ _=>con_cons ce_spec_l09Body (con_cons ce_spec_l01Below (con_cons ce_spec_l01PickInt con_nil))) Tryz.func45 ke_spec_l09Any (by kernel_rfl) (λ _=>by kernel_rfl) (λ _=>by kernel_rfl) rfl
theorem ce_spec_DrawFalls:CO e_spec_DrawFalls:=fnc (λ _=>con_cons ce_spec_l01New (con_cons ce_spec_l09Any con_nil)) Tryz.func9 ke_spec_DrawFalls (by kernel_rfl) (λ _=>by kernel_rfl) (λ _=>by kernel_rfl) rfl
theorem ce_impl_opOk:CO e_impl_opOk:=fnc (λ _=>con_cons ce_impl_PrimName (con_cons ce_impl_within con_nil)) Tryz.func166 ke_impl_opOk (by kernel_rfl) (λ _=>by kernel_rfl) (λ _=>by kernel_rfl) rfl
theorem ce_impl_openIn:CO e_impl_openIn:=fnc (λ _=>con_cons ce_impl_opOk con_nil) Tryz.func95 ke_impl_openIn (by kernel_rfl) (λ _=>by kernel_rfl) (λ _=>by kernel_rfl) rfl
theorem ce_impl_ShapeOk:CO e_impl_ShapeOk:=fnc (λ _=>con_cons ce_impl_openIn con_nil) Tryz.func46 ke_impl_ShapeOk (by kernel_rfl) (λ _=>by kernel_rfl) (λ _=>by kernel_rfl) rfl
theorem ce_impl_Falls:CO e_impl_Falls:=fnc (λ _=>con_cons ce_impl_ShapeOk con_nil) Tryz.func10 ke_impl_Falls (by kernel_rfl) (λ _=>by kernel_rfl) (λ _=>by kernel_rfl) rfl
theorem ce_spec_l08Names:CO e_spec_l08Names:=fnc (λ _=>con_nil) Tryz.func169 ke_spec_l08Names (by kernel_rfl) (λ _=>by kernel_rfl) (λ _=>by kernel_rfl) rfl
theorem ce_spec_l01In:CO e_spec_l01In:=fnc (λ _=>con_nil) Tryz.func54 ke_spec_l01In (by kernel_rfl) (λ _=>by kernel_rfl) (λ _=>by kernel_rfl) rfl
theorem ce_spec_PrimName:CO e_spec_PrimName:=fnc (λ _=>con_cons ce_spec_l08Names (con_cons ce_spec_l01In con_nil)) Tryz.func102 ke_spec_PrimName (by kernel_rfl) (λ _=>by kernel_rfl) (λ _=>by kernel_rfl) rfl
theorem ce_spec_l09Op:CO e_spec_l09Op:=fnc (λ _=>con_cons ce_spec_PrimName (con_cons ce_spec_l01In con_nil)) Tryz.func52 ke_spec_l09Op (by kernel_rfl) (λ _=>by kernel_rfl) (λ _=>by kernel_rfl) rfl
theorem ce_spec_l09Open:CO e_spec_l09Open:=fnc (λ _=>con_nil) Tryz.func53 ke_spec_l09Open (by kernel_rfl) (λ _=>by kernel_rfl) (λ _=>by kernel_rfl) rfl
theorem ce_spec_ShapeOk:CO e_spec_ShapeOk:=fnc (λ _=>con_cons ce_spec_l09Op (con_cons ce_spec_l09Open con_nil)) Tryz.func13 ke_spec_ShapeOk (by kernel_rfl) (λ _=>by kernel_rfl) (λ _=>by kernel_rfl) rfl
theorem ce_spec_Falls:CO e_spec_Falls:=fnc (λ _=>con_cons ce_spec_ShapeOk con_nil) Tryz.func11 ke_spec_Falls (by kernel_rfl) (λ _=>by kernel_rfl) (λ _=>by kernel_rfl) rfl
theorem ce_spec_l01Pick:CO e_spec_l01Pick:=fnc (λ _=>con_cons ce_spec_l01Below con_nil) Tryz.func96 ke_spec_l01Pick (by kernel_rfl) (λ _=>by kernel_rfl) (λ _=>by kernel_rfl) rfl
theorem ce_spec_l09Make:CO e_spec_l09Make:=fnc (λ _=>con_cons ce_spec_l01Below (con_cons ce_spec_l01Once (con_cons ce_spec_l09Body (con_cons ce_spec_l01Pick con_nil)))) Tryz.func47 ke_spec_l09Make (by kernel_rfl) (λ _=>by kernel_rfl) (λ _=>by kernel_rfl) rfl
theorem ce_spec_NewStore:CO e_spec_NewStore:=fnc (λ _=>con_cons ce_spec_l01In con_nil) Tryz.func167 ke_spec_NewStore (by kernel_rfl) (λ _=>by kernel_rfl) (λ _=>by kernel_rfl) rfl
theorem ce_spec_l04Int:CO e_spec_l04Int:=fnc (λ _=>con_cons ce_spec_l01Once (con_cons ce_spec_l01Below (con_cons ce_spec_l01PickInt con_nil))) Tryz.func99 ke_spec_l04Int (by kernel_rfl) (λ _=>by kernel_rfl) (λ _=>by kernel_rfl) rfl
theorem ce_spec_l02All:CO e_spec_l02All:=fnc (λ _=>con_nil) Tryz.func170 ke_spec_l02All (by kernel_rfl) (λ _=>by kernel_rfl) (λ _=>by kernel_rfl) rfl
theorem ce_spec_LetterAt:CO e_spec_LetterAt:=fnc (λ _=>con_cons ce_spec_l01In (con_cons ce_spec_l02All con_nil)) Tryz.func234 ke_spec_LetterAt (by kernel_rfl) (λ _=>by kernel_rfl) (λ _=>by kernel_rfl) rfl
theorem ce_spec_l02Name:CO e_spec_l02Name:=fnc (λ _=>con_cons ce_spec_l01Once (con_cons ce_spec_l01Pick (con_cons ce_spec_l01Below (con_cons ce_spec_LetterAt con_nil)))) Tryz.func222 ke_spec_l02Name (by kernel_rfl) (λ _=>by kernel_rfl) (λ _=>by kernel_rfl) rfl
theorem ce_spec_l04Some:CO e_spec_l04Some:=fnc (λ _=>con_cons ce_spec_l01Below (con_cons ce_spec_l04Int (con_cons ce_spec_l01Once (con_cons ce_spec_l01Pick (con_cons ce_spec_l02Name con_nil))))) Tryz.func197 ke_spec_l04Some (by kernel_rfl) (λ _=>by kernel_rfl) (λ _=>by kernel_rfl) rfl
theorem ce_spec_l04Num:CO e_spec_l04Num:=fnc (λ _=>con_nil) Tryz.func219 ke_spec_l04Num (by kernel_rfl) (λ _=>by kernel_rfl) (λ _=>by kernel_rfl) rfl
theorem ce_spec_LetterOf:CO e_spec_LetterOf:=fnc (λ _=>con_cons ce_spec_l02All con_nil) Tryz.func103 ke_spec_LetterOf (by kernel_rfl) (λ _=>by kernel_rfl) (λ _=>by kernel_rfl) rfl
theorem ce_spec_NameOk:CO e_spec_NameOk:=fnc (λ _=>con_cons ce_spec_l01In (con_cons ce_spec_LetterOf con_nil)) Tryz.func56 ke_spec_NameOk (by kernel_rfl) (λ _=>by kernel_rfl) (λ _=>by kernel_rfl) rfl
theorem ce_spec_WidthOf:CO e_spec_WidthOf:=fnc (λ _=>con_cons ce_spec_l01In con_nil) Tryz.func247 ke_spec_WidthOf (by kernel_rfl) (λ _=>by kernel_rfl) (λ _=>by kernel_rfl) rfl
theorem ce_spec_BitsOf:CO e_spec_BitsOf:=fnc (λ _=>con_cons ce_spec_WidthOf con_nil) Tryz.func248 ke_spec_BitsOf (by kernel_rfl) (λ _=>by kernel_rfl) (λ _=>by kernel_rfl) rfl
theorem ce_spec_l03One:CO e_spec_l03One:=fnc (λ _=>con_cons ce_spec_LetterOf (con_cons ce_spec_WidthOf (con_cons ce_spec_BitsOf con_nil))) Tryz.func242 ke_spec_l03One (by kernel_rfl) (λ _=>by kernel_rfl) (λ _=>by kernel_rfl) rfl
theorem ce_spec_Pack:CO e_spec_Pack:=fnc (λ _=>con_cons ce_spec_NameOk (con_cons ce_spec_l03One con_nil)) Tryz.func233 ke_spec_Pack (by kernel_rfl) (λ _=>by kernel_rfl) (λ _=>by kernel_rfl) rfl
theorem ce_spec_l04Word:CO e_spec_l04Word:=fnc (λ _=>con_cons ce_spec_Pack con_nil) Tryz.func220 ke_spec_l04Word (by kernel_rfl) (λ _=>by kernel_rfl) (λ _=>by kernel_rfl) rfl
theorem ce_spec_l04Tag:CO e_spec_l04Tag:=fnc (λ _=>con_nil) Tryz.func221 ke_spec_l04Tag (by kernel_rfl) (λ _=>by kernel_rfl) (λ _=>by kernel_rfl) rfl
theorem ce_spec_CellsOf:CO e_spec_CellsOf:=fnc (λ _=>con_cons ce_spec_l04Num (con_cons ce_spec_l04Word (con_cons ce_spec_l04Tag con_nil))) Tryz.func196 ke_spec_CellsOf (by kernel_rfl) (λ _=>by kernel_rfl) (λ _=>by kernel_rfl) rfl
theorem ce_spec_l01Word:CO e_spec_l01Word:=fnc (λ _=>con_cons ce_spec_l01Below (con_cons ce_spec_l01PickInt con_nil)) Tryz.func198 ke_spec_l01Word (by kernel_rfl) (λ _=>by kernel_rfl) (λ _=>by kernel_rfl) rfl
theorem ce_spec_l04Cells:CO e_spec_l04Cells:=fnc (λ _=>con_cons ce_spec_l01Below (con_cons ce_spec_l04Some (con_cons ce_spec_CellsOf (con_cons ce_spec_l01Word (con_cons ce_spec_l01PickInt (con_cons ce_spec_l01Once con_nil)))))) Tryz.func168 ke_spec_l04Cells (by kernel_rfl) (λ _=>by kernel_rfl) (λ _=>by kernel_rfl) rfl
theorem ce_spec_l05Make:CO e_spec_l05Make:=fnc (λ _=>con_cons ce_spec_l01Below (con_cons ce_spec_NewStore (con_cons ce_spec_l04Cells con_nil))) Tryz.func98 ke_spec_l05Make (by kernel_rfl) (λ _=>by kernel_rfl) (λ _=>by kernel_rfl) rfl
theorem ce_spec_StoreOk:CO e_spec_StoreOk:=fnc (λ _=>con_nil) Tryz.func55 ke_spec_StoreOk (by kernel_rfl) (λ _=>by kernel_rfl) (λ _=>by kernel_rfl) rfl
theorem ce_spec_NewSt:CO e_spec_NewSt:=fnc (λ _=>con_cons ce_spec_StoreOk (con_cons ce_spec_l01In con_nil)) Tryz.func97 ke_spec_NewSt (by kernel_rfl) (λ _=>by kernel_rfl) (λ _=>by kernel_rfl) rfl
theorem ce_spec_l08First:CO e_spec_l08First:=fnc (λ _=>con_nil) Tryz.func100 ke_spec_l08First (by kernel_rfl) (λ _=>by kernel_rfl) (λ _=>by kernel_rfl) rfl
theorem ce_spec_l08Make:CO e_spec_l08Make:=fnc (λ _=>con_cons ce_spec_l05Make (con_cons ce_spec_l01Pick (con_cons ce_spec_l01Below (con_cons ce_spec_NewSt (con_cons ce_spec_l01Once (con_cons ce_spec_l04Int (con_cons ce_spec_l01PickInt (con_cons ce_spec_l08First con_nil)))))))) Tryz.func48 ke_spec_l08Make (by kernel_rfl) (λ _=>by kernel_rfl) (λ _=>by kernel_rfl) rfl
theorem ce_spec_l08Any:CO e_spec_l08Any:=fnc (λ _=>con_cons ce_spec_l08Make (con_cons ce_spec_l01Below (con_cons ce_spec_l01PickInt con_nil))) Tryz.func50 ke_spec_l08Any (by kernel_rfl) (λ _=>by kernel_rfl) (λ _=>by kernel_rfl) rfl
theorem ce_spec_l09Any_imm:CO e_spec_l09Any_imm:=fnc (λ _=>con_cons ce_spec_l09Body (con_cons ce_spec_l01Below (con_cons ce_spec_l01PickInt con_nil))) Tryz.func45 ke_spec_l09Any_imm (by kernel_rfl) (λ _=>by kernel_rfl) (λ _=>by kernel_rfl) rfl
theorem ce_spec_DrawMeans:CO e_spec_DrawMeans:=fnc (λ _=>con_cons ce_spec_l01New (con_cons ce_spec_l09Make (con_cons ce_spec_l08Make (con_cons ce_spec_l01Once (con_cons ce_spec_l08Any (con_cons ce_spec_l09Any_imm (con_cons ce_spec_l01Below con_nil))))))) Tryz.func12 ke_spec_DrawMeans (by kernel_rfl) (λ _=>by kernel_rfl) (λ _=>by kernel_rfl) rfl
theorem ce_spec_StOk:CO e_spec_StOk:=fnc (λ _=>con_cons ce_spec_l01In (con_cons ce_spec_StoreOk con_nil)) Tryz.func14 ke_spec_StOk (by kernel_rfl) (λ _=>by kernel_rfl) (λ _=>by kernel_rfl) rfl
theorem ce_spec_DefsOk:CO e_spec_DefsOk:=fnc (λ _=>con_cons ce_spec_NameOk (con_cons ce_spec_ShapeOk con_nil)) Tryz.func15 ke_spec_DefsOk (by kernel_rfl) (λ _=>by kernel_rfl) (λ _=>by kernel_rfl) rfl
theorem ce_impl_letters:CO e_impl_letters:=fnc (λ _=>con_nil) Tryz.func200 ke_impl_letters (by kernel_rfl) (λ _=>by kernel_rfl) (λ _=>by kernel_rfl) rfl
theorem ce_ibytealg_IndexByteString:ConOk Tryz.prog e_ibytealg_IndexByteString:=fe_ibytealg_IndexByteString
theorem ce_istringslite_IndexByte:CO e_istringslite_IndexByte:=fnc (λ _=>con_cons ce_ibytealg_IndexByteString con_nil) Tryz.func223 ke_istringslite_IndexByte (by kernel_rfl) (λ _=>by kernel_rfl) (λ _=>by kernel_rfl) rfl
theorem ce_strings_IndexByte:CO e_strings_IndexByte:=fnc (λ _=>con_cons ce_istringslite_IndexByte con_nil) Tryz.func199 ke_strings_IndexByte (by kernel_rfl) (λ _=>by kernel_rfl) (λ _=>by kernel_rfl) rfl
theorem ce_impl_LetterOf:CO e_impl_LetterOf:=fnc (λ _=>con_cons ce_impl_letters (con_cons ce_strings_IndexByte con_nil)) Tryz.func172 ke_impl_LetterOf (by kernel_rfl) (λ _=>by kernel_rfl) (λ _=>by kernel_rfl) rfl
theorem ce_impl_NameOk:CO e_impl_NameOk:=fnc (λ _=>con_cons ce_impl_LetterOf (con_cons ce_impl_within con_nil)) Tryz.func109 ke_impl_NameOk (by kernel_rfl) (λ _=>by kernel_rfl) (λ _=>by kernel_rfl) rfl
theorem ce_impl_callsBelowc1:CO e_impl_callsBelowc1:=fnc (λ _=>con_nil) Tryz.func174 ke_impl_callsBelowc1 (by kernel_rfl) (λ _=>by kernel_rfl) (λ _=>by kernel_rfl) rfl
theorem ce_slices_IndexFunc_Op_impl_callsBelowc1:CO e_slices_IndexFunc_Op_impl_callsBelowc1:=fnc (λ _=>con_cons ce_impl_callsBelowc1 con_nil) Tryz.func201 ke_slices_IndexFunc_Op_impl_callsBelowc1 (by kernel_rfl) (λ _=>by kernel_rfl) (λ _=>by kernel_rfl) rfl
theorem ce_slices_ContainsFunc_Op_impl_callsBelowc1:CO e_slices_ContainsFunc_Op_impl_callsBelowc1:=fnc (λ _=>con_cons ce_slices_IndexFunc_Op_impl_callsBelowc1 con_nil) Tryz.func173 ke_slices_ContainsFunc_Op_impl_callsBelowc1 (by kernel_rfl) (λ _=>by kernel_rfl) (λ _=>by kernel_rfl) rfl
theorem ce_impl_callsBelow:CO e_impl_callsBelow:=fnc (λ _=>con_cons ce_slices_ContainsFunc_Op_impl_callsBelowc1 con_nil) Tryz.func110 ke_impl_callsBelow (by kernel_rfl) (λ _=>by kernel_rfl) (λ _=>by kernel_rfl) rfl
theorem ce_impl_DefsOkc1:CO e_impl_DefsOkc1:=fnc (λ _=>con_cons ce_impl_NameOk (con_cons ce_impl_ShapeOk (con_cons ce_impl_callsBelow con_nil))) Tryz.func108 ke_impl_DefsOkc1 (by kernel_rfl) (λ _=>by kernel_rfl) (λ _=>by kernel_rfl) rfl
theorem ce_slices_IndexFunc_Def_impl_DefsOkc1:CO e_slices_IndexFunc_Def_impl_DefsOkc1:=fnc (λ _=>con_cons ce_impl_DefsOkc1 con_nil) Tryz.func171 ke_slices_IndexFunc_Def_impl_DefsOkc1 (by kernel_rfl) (λ _=>by kernel_rfl) (λ _=>by kernel_rfl) rfl
theorem ce_slices_ContainsFunc_Def_impl_DefsOkc1:CO e_slices_ContainsFunc_Def_impl_DefsOkc1:=fnc (λ _=>con_cons ce_slices_IndexFunc_Def_impl_DefsOkc1 con_nil) Tryz.func107 ke_slices_ContainsFunc_Def_impl_DefsOkc1 (by kernel_rfl) (λ _=>by kernel_rfl) (λ _=>by kernel_rfl) rfl
theorem ce_impl_DefsOk:CO e_impl_DefsOk:=fnc (λ _=>con_cons ce_slices_ContainsFunc_Def_impl_DefsOkc1 con_nil) Tryz.func59 ke_impl_DefsOk (by kernel_rfl) (λ _=>by kernel_rfl) (λ _=>by kernel_rfl) rfl
theorem ce_impl_StoreOk:CO e_impl_StoreOk:=fnc (λ _=>con_nil) Tryz.func162 ke_impl_StoreOk (by kernel_rfl) (λ _=>by kernel_rfl) (λ _=>by kernel_rfl) rfl
theorem ce_impl_StOk:CO e_impl_StOk:=fnc (λ _=>con_cons ce_impl_StoreOk (con_cons ce_impl_within (con_cons ce_slices_Contains_int con_nil))) Tryz.func91 ke_impl_StOk (by kernel_rfl) (λ _=>by kernel_rfl) (λ _=>by kernel_rfl) rfl
theorem ce_impl_goes:CO e_impl_goes:=fnc (λ _=>con_cons ce_impl_StOk con_nil) Tryz.func61 ke_impl_goes (by kernel_rfl) (λ _=>by kernel_rfl) (λ _=>by kernel_rfl) rfl
theorem ce_impl_grow_r:∀ kk,CO (e_impl_grow_r kk)
 | 0=>λ _ _ _ h=>nomatch h
 | kk+1=>fnc (λ _=>con_cons (ce_impl_grow_r kk) con_nil) Tryz.func116 (ke_impl_grow kk) (by kernel_rfl) (λ _=>by kernel_rfl) (λ _=>by kernel_rfl) rfl
theorem ce_impl_grow:CO e_impl_grow:=ce_impl_grow_r bigK
theorem ce_impl_TreeOf_imm:CO e_impl_TreeOf_imm:=fnc (λ _=>con_cons ce_impl_ShapeOk (con_cons ce_impl_grow con_nil)) Tryz.func63 ke_impl_TreeOf_imm (by kernel_rfl) (λ _=>by kernel_rfl) (λ _=>by kernel_rfl) rfl
theorem ce_impl_Means:CO e_impl_Means:=fnc (λ _=>con_cons ce_impl_DefsOk (con_cons ce_impl_within (con_cons ce_impl_goes (con_cons ce_impl_ownSt (con_cons ce_impl_TreeOf_imm (con_cons ce_impl_meaning_enter con_nil)))))) Tryz.func17 ke_impl_Means (by kernel_rfl) (λ _=>by kernel_rfl) (λ _=>by kernel_rfl) rfl
theorem ce_laws_sameNums:CO e_laws_sameNums:=fnc (λ _=>con_nil) Tryz.func104 ke_laws_sameNums (by kernel_rfl) (λ _=>by kernel_rfl) (λ _=>by kernel_rfl) rfl
theorem ce_laws_sameCells:CO e_laws_sameCells:=fnc (λ _=>con_nil) Tryz.func105 ke_laws_sameCells (by kernel_rfl) (λ _=>by kernel_rfl) (λ _=>by kernel_rfl) rfl
theorem ce_laws_sameInts:CO e_laws_sameInts:=fnc (λ _=>con_nil) Tryz.func34 ke_laws_sameInts (by kernel_rfl) (λ _=>by kernel_rfl) (λ _=>by kernel_rfl) rfl
theorem ce_laws_sameBytes:CO e_laws_sameBytes:=fnc (λ _=>con_nil) Tryz.func106 ke_laws_sameBytes (by kernel_rfl) (λ _=>by kernel_rfl) (λ _=>by kernel_rfl) rfl
theorem ce_laws_sameBut:CO e_laws_sameBut:=fnc (λ _=>con_cons ce_laws_sameNums (con_cons ce_laws_sameCells (con_cons ce_laws_sameInts (con_cons ce_laws_sameBytes con_nil)))) Tryz.func57 ke_laws_sameBut (by kernel_rfl) (λ _=>by kernel_rfl) (λ _=>by kernel_rfl) rfl
theorem ce_laws_sameRet:CO e_laws_sameRet:=fnc (λ _=>con_nil) Tryz.func58 ke_laws_sameRet (by kernel_rfl) (λ _=>by kernel_rfl) (λ _=>by kernel_rfl) rfl
theorem ce_laws_sameSt:CO e_laws_sameSt:=fnc (λ _=>con_cons ce_laws_sameBut (con_cons ce_laws_sameRet con_nil)) Tryz.func16 ke_laws_sameSt (by kernel_rfl) (λ _=>by kernel_rfl) (λ _=>by kernel_rfl) rfl
theorem ce_laws_FnFalls:CO e_laws_FnFalls:=fnc (λ _=>con_cons ce_laws_big (con_cons ce_spec_DrawFalls (con_cons ce_impl_Falls (con_cons ce_spec_Falls (con_cons ce_spec_DrawMeans (con_cons ce_spec_ShapeOk (con_cons ce_spec_StOk (con_cons ce_spec_DefsOk (con_cons ce_impl_Means (con_cons ce_laws_sameSt con_nil)))))))))) Tryz.func3 ke_laws_FnFalls (by kernel_rfl) (λ _=>by kernel_rfl) (λ _=>by kernel_rfl) rfl
end Go.Proofs.YtofjeimkphojaaaGreatDoor

namespace Go.Fm
theorem wI64 {x:Int} (h1 : -9223372036854775808<=x) (h2:x < 9223372036854775808):IntKind.wrap .i64 x=x:=by
 simp[IntKind.wrap,IntKind.bits,IntKind.signed];omega
theorem wI32 {x:Int} (h1 : -2147483648<=x) (h2:x < 2147483648):IntKind.wrap .i32 x=x:=by
 simp[IntKind.wrap,IntKind.bits,IntKind.signed];omega
theorem wU32_bd (x:Int):0<=IntKind.wrap .u32 x/\IntKind.wrap .u32 x < 4294967296:=by
 simp[IntKind.wrap,IntKind.bits,IntKind.signed];omega
theorem wI32_bd (x:Int) : -2147483648<=IntKind.wrap .i32 x/\IntKind.wrap .i32 x < 2147483648:=by
 simp[IntKind.wrap,IntKind.bits,IntKind.signed];omega
theorem getI_ex {α:Type} {xs:List α} {i:Int} (h0:0<=i) (h1:i < xs.length):∃ x,getI xs i=some x/\x ∈ xs/\xs[i.toNat]? = some x:=by
 have hi:i.toNat < xs.length:=by omega
 unfold getI
 rw[if_pos h0,List.getElem?_eq_getElem hi]
 exact ⟨_,rfl,List.getElem_mem hi,rfl⟩
theorem getI_nat {α:Type} {xs:List α} {i:Nat}:getI xs (i:Int)=xs[i]? := by
 unfold getI;rw[if_pos (Int.natCast_nonneg i)];rfl
theorem idxS_ex {l:List UInt8} {i:Int} (h0:0<=i) (h1:i < l.length):∃ v,idxS l i=some v/\0<=v/\v < 256/\∃ b ∈ l,v=(b.toNat:Int):=by
 unfold idxS
 rw[if_pos ⟨h0,h1⟩]
 have hi:i.toNat < l.length:=by omega
 refine ⟨_,rfl,Int.natCast_nonneg _,?_,l[i.toNat],List.getElem_mem hi,?_⟩
 ·have:=UInt8.toNat_lt (l.getD i.toNat 0);omega
 ·rw[List.getD_eq_getElem?_getD,List.getElem?_eq_getElem hi];rfl
theorem app_eq {α:Type} {xs ys:List α} (h:xs.length+ys.length<=4294967296):app xs ys=some (xs++ys):=by
 unfold app
 rw[if_pos (by rw[List.length_append];exact h)]
theorem subL_eq {α:Type} {xs:List α} {a b:Int} (h0:0<=a) (h1:a<=b) (h2:b<=xs.length):subL xs a b=some ((xs.drop a.toNat).take (b.toNat-a.toNat)):=by
 unfold subL;rw[if_pos ⟨h0,h1,h2⟩]
theorem subL_drop {α:Type} {xs:List α} {a:Int} (h0:0<=a) (h2:a<=xs.length):subL xs a xs.length=some (xs.drop a.toNat):=by
 rw[subL_eq h0 h2 (Int.le_refl _),List.take_of_length_le]
 rw[List.length_drop];omega
theorem subL_take {α:Type} {xs:List α} {b:Int} (h0:0<=b) (h2:b<=xs.length):subL xs 0 b=some (xs.take b.toNat):=by
 rw[subL_eq (Int.le_refl _) h0 h2];rfl
theorem mk_eq {α:Type} {z:α} {n:Int} (h0:0<=n) (h1:n<=4294967296):mk z n=some (List.replicate n.toNat z):=by
 unfold mk;rw[if_pos ⟨h0,h1⟩]
theorem catS_eq {a b:List UInt8} (h:a.length+b.length < 4611686018427387904):catS a b=some (a++b):=by
 unfold catS;rw[if_pos h]
theorem remI_ex {k:IntKind} {a b:Int} (h0:0<=a) (hb:0 < b):remI k a b=some (a % b)/\0<=a % b/\a % b < b:=by
 unfold remI
 rw[if_neg (by omega),Int.tmod_eq_emod_of_nonneg h0]
 exact ⟨rfl,Int.emod_nonneg _ (by omega),Int.emod_lt_of_pos _ hb⟩
theorem bB_toNat {k:IntKind} {a:Int} (h0:0<=a) (h1:a < 2 ^ k.bits):(bytesB k a).toNat=a.toNat:=by
 unfold bytesB
 rw[BitVec.toNat_ofInt,Int.emod_eq_of_lt h0]
 simpa using h1
theorem wrap_small {k:IntKind} {n:Nat} (h:n < 2 ^ (k.bits-1)):k.wrap n=n:=by
 unfold IntKind.wrap
 have hb:2 ^ (k.bits-1)<=2 ^ k.bits:=Nat.pow_le_pow_right (by decide) (Nat.sub_le _ _)
 have h1:(n:Int) < ((2 ^ k.bits:Nat):Int):=Int.ofNat_lt.2 (Nat.lt_of_lt_of_le h hb)
 have h2:(n:Int) < ((2 ^ (k.bits-1):Nat):Int):=Int.ofNat_lt.2 h
 simp only[Int.natCast_pow,Int.cast_ofNat_Int]at h1 h2
 have e:(n:Int) % (2 ^ k.bits:Int)=n:=Int.emod_eq_of_lt (Int.natCast_nonneg _) h1
 simp only[e]
 rw[if_neg]
 intro hc
 rw[Bool.and_eq_true,decide_eq_true_eq]at hc
 have h3:=hc.2
 omega
theorem and_le {k:IntKind} {a b:Int} (h0:0<=b) (h1:b < 2 ^ (k.bits-1)):0<=andI k a b/\andI k a b<=b:=by
 unfold andI
 have hb:(bytesB k b).toNat=b.toNat:=bB_toNat h0 (Int.lt_of_lt_of_le h1 (by
  have:((2 ^ (k.bits-1):Nat):Int)<=((2 ^ k.bits:Nat):Int):=Int.ofNat_le.2 (Nat.pow_le_pow_right (by decide) (Nat.sub_le _ _))
  simpa only[Int.natCast_pow,Int.cast_ofNat_Int] using this))
 have hle:(bytesB k a &&& bytesB k b).toNat<=b.toNat:=by
  rw[BitVec.toNat_and,hb];exact Nat.and_le_right
 have hlt:(bytesB k a &&& bytesB k b).toNat < 2 ^ (k.bits-1):=by
  refine Nat.lt_of_le_of_lt hle ?_
  have:(b.toNat:Int) < ((2 ^ (k.bits-1):Nat):Int):=by rw[Int.toNat_of_nonneg h0];simpa only[Int.natCast_pow,Int.cast_ofNat_Int] using h1
  exact Int.ofNat_lt.1 this
 rw[wrap_small hlt]
 omega
def Tot {α:Type} (o:Option α) (Q:α->Prop):Prop:=∃ a,o=some a/\Q a
section
variable {α β:Type} {Q Q':α->Prop} {R:β->Prop}
theorem Tot.some {a:α} (h:Q a):Tot (some a) Q:=⟨a,rfl,h⟩
theorem Tot.bind {o:Option α} {f:α->Option β} (h:Tot o Q) (hf:∀ a,Q a->Tot (f a) R):Tot (o.bind f) R:=by
 obtain ⟨a,rfl,ha⟩:=h;exact hf a ha
theorem Tot.bindE {o:Option α} {f:α->Option β} {a:α} (h:o=.some a) (hf:Tot (f a) R):Tot (o.bind f) R:=by subst h;exact hf
theorem Tot.cond {c:Bool} {x y:Option α} (h1:c=true->Tot x Q) (h2:c=false->Tot y Q):Tot (cond c x y) Q:=by
 cases c with
 | true=>exact h1 rfl
 | false=>exact h2 rfl
theorem Tot.condD {p:Prop} [Decidable p] {x y:Option α} (h1:p->Tot x Q) (h2:¬ p->Tot y Q):Tot (_root_.cond (decide p) x y) Q :=
 .cond (λ h=>h1 (of_decide_eq_true h)) (λ h=>h2 (of_decide_eq_false h))
end
end Go.Fm
namespace Go.Fm
theorem nxt {n:Nat} (h:n < 16777216):IntKind.wrap .i64 ((n:Int)+1)=((n+1:Nat):Int):=by rw[wI64 (by omega) (by omega)];omega
theorem flipC {α:Type} (b:Bool) (x y:Option α):cond (!b) x y=cond b y x:=by cases b<;>rfl
def allN {α:Type} (p:Nat->α->Bool):Nat->List α->Bool
 | _,[]=>true
 | n,x::r=>p n x&&allN p (n+1) r
theorem allN_const {α:Type} (p:α->Bool):∀ (n:Nat) (l:List α),allN (λ _=>p) n l=l.all p
 | n,[]=>rfl
 | n,x::r=>by simp only[allN,List.all_cons,allN_const p (n+1) r]
theorem allLoop {α β:Type} {L:List α} {bad:β} (p:Nat->α->Bool) (F:Nat->Int->Option (Unit ⊕ β)) (step:∀ (k n:Nat) (x:α),L[n]? = some x->n < L.length->F (k+1) n=cond (p n x) (F k ((n+1:Nat):Int)) (some (.inr bad)))
  (fin:∀ k n:Nat,L.length<=n->F (k+1) n=some (.inl ())) (hm:L.length<=16777216):F bigK 0=some (cond (allN p 0 L) (.inl ()) (.inr bad)):=by
 have key:∀ (k n:Nat),n<=L.length->L.length-n < k->F k n=some (cond (allN p n (L.drop n)) (.inl ()) (.inr bad)):=by
  intro k
  induction k with
  | zero=>intro n h0 h1;omega
  | succ k ih =>
   intro n h0 h1
   by_cases hn:n < L.length
   ·rw[step k n L[n] (List.getElem?_eq_getElem hn) hn,List.drop_eq_getElem_cons hn]
    show _=some (cond (p n L[n]&&allN p (n+1) (L.drop (n+1))) _ _)
    cases p n L[n] with
    | false=>rfl
    | true=>rw[cond_true,ih (n+1) (by omega) (by omega),Bool.true_and]
   ·rw[fin k n (by omega),List.drop_eq_nil_of_le (by omega)];rfl
 have:=key bigK 0 (Nat.zero_le _) (by unfold bigK;omega)
 rw[List.drop_zero]at this
 exact this
theorem eqList {α:Type} [DecidableEq α] {a b:List α} (F:Nat->Int->Option (Unit ⊕ Bool)) (g:Option Bool) (hg:g=cond ((a.length:Int) != (b.length:Int)) (some false) (((F bigK 0).bind λ o=>match o with | .inl ()=>some (.inl ()) | .inr v=>some (.inr v):Option (Unit ⊕ Bool)).bind λ o=>match o with | .inl ()=>some true | .inr v=>some v))
  (hF:∀ (k:Nat) (i:Int),F (k+1) i=cond (decide (i < (a.length:Int))) ((getI a i).bind λ x=>(getI b i).bind λ y=>cond (!decide (x=y)) (some (.inr false)) (F k (IntKind.wrap .i64 (i+1)))) (some (.inl ()))) (hm:a.length<=1048576):g=some (decide (a=b)):=by
 rw[hg]
 by_cases hl:a.length=b.length
 ·have key:∀ (k n:Nat),n<=a.length->a.length-n < k->F k n=some (if a.drop n=b.drop n then .inl () else .inr false):=by
   intro k
   induction k with
   | zero=>intro n h0 h1;omega
   | succ k ih =>
    intro n h0 h1
    rw[hF]
    by_cases hn:n < a.length
    ·have hn':n < b.length:=by omega
     rw[decide_eq_true (by omega),getI_nat,getI_nat,List.getElem?_eq_getElem hn,List.getElem?_eq_getElem hn',List.drop_eq_getElem_cons hn,List.drop_eq_getElem_cons hn']
     simp only[cond_true,Option.bind_some]
     by_cases he:a[n]=b[n]
     ·rw[decide_eq_true he,Bool.not_true,cond_false,wI64 (by omega) (by omega),show ((n:Int)+1)=((n+1:Nat):Int) by omega,ih (n+1) (by omega) (by omega),he]
      simp only[List.cons.injEq,true_and]
     ·rw[decide_eq_false he,Bool.not_false,cond_true,if_neg (λ h=>he (List.cons.inj h).1)]
    ·rw[decide_eq_false (by omega),cond_false,List.drop_eq_nil_of_le (by omega),List.drop_eq_nil_of_le (by omega),if_pos rfl]
  have:((a.length:Int) != (b.length:Int))=false:=by rw[hl];simp
  rw[this,cond_false]
  have h:=key bigK 0 (Nat.zero_le _) (by unfold bigK;omega)
  rw[show ((0:Nat):Int)=0 from rfl]at h
  rw[h]
  by_cases he:a=b
  ·simp[he]
  ·simp[he]
 ·have:((a.length:Int) != (b.length:Int))=true:=by simp;omega
  rw[this,cond_true,decide_eq_false (λ h=>hl (by rw[h]))]
theorem eqRefl {α:Type} {a:List α} (F:Nat->Int->Option (Unit ⊕ Bool)) (f:Option Bool)
  (hf:f=cond ((a.length:Int) != (a.length:Int)) (some false) (((F bigK 0).bind λ o=>match o with | .inl ()=>some (.inl ()) | .inr v=>some (.inr v):Option (Unit ⊕ Bool)).bind λ o=>match o with | .inl ()=>some true | .inr v=>some v))
  (hs:∀ (k n:Nat) (x:α),a[n]? = some x->n < a.length->F (k+1) n=F k ((n+1:Nat):Int)) (he:∀ (k n:Nat),a.length<=n->F (k+1) n=some (.inl ())) (hm:a.length<=16777216):f=some true:=by
 have h:=allLoop (L:=a) (bad:=false) (λ _ _=>true) F (λ k n x hx hn=>by rw[hs k n x hx hn];rfl) he hm
 rw[hf,h]
 have e:∀ (n:Nat) (l:List α),allN (λ _ _=>true) n l=true:=λ n l=>by rw[allN_const (λ _=>true)];simp
 rw[e]
 simp
theorem bne_self' {α:Type} [BEq α] [LawfulBEq α] (x:α):(x != x)=false:=by simp
abbrev LN:Nat:=9223372036854775807
end Go.Fm
namespace Go.Proofs.YtofjeimkphojaaaGreatDoor
open Go Go.Fm
set_option maxRecDepth 100000
theorem specIn_eq {x a b:Int}:g_spec_l01In x a b=some (decide (a<=x/\x<=b)):=by
 unfold g_spec_l01In
 by_cases h:x ≥ a
 ·rw[decide_eq_true h]
  simp only[cond_true]
  congr 1
  exact decide_eq_decide.2 ⟨λ h2=>⟨h,h2⟩,λ h2=>h2.2⟩
 ·rw[decide_eq_false h]
  simp only[cond_false]
  congr 1
  exact (decide_eq_false λ h2=>h h2.1).symm
theorem within_eq {x a b:Int}:g_impl_within x a b=some (decide (a<=x/\x<=b)):=by
 unfold g_impl_within
 by_cases h:a<=x
 ·rw[decide_eq_true h]
  simp only[cond_true]
  congr 1
  exact decide_eq_decide.2 ⟨λ h2=>⟨h,h2⟩,λ h2=>h2.2⟩
 ·rw[decide_eq_false h]
  simp only[cond_false]
  congr 1
  exact (decide_eq_false λ h2=>h h2.1).symm
def inB (x a b:Int):Bool:=decide (a<=x/\x<=b)
theorem wIn (x a b:Int):g_impl_within x a b=some (inB x a b):=within_eq
theorem sIn (x a b:Int):g_spec_l01In x a b=some (inB x a b):=specIn_eq
end Go.Proofs.YtofjeimkphojaaaGreatDoor
namespace Go.Proofs.YtofjeimkphojaaaGreatDoor
open Go Go.Fm
set_option maxRecDepth 100000
theorem has_l0 {l:List Int} {v:Int} (hl:l.length<=1048576):g_slices_Contains_int l v=some (l.any λ x=>v==x):=by
 unfold g_slices_Contains_int g_slices_Index_int
 have key:∀ (k n:Nat),n<=l.length->l.length-n < k->∃ o:Unit ⊕ Int,g_slices_Index_int_l0 l v (l.length:Int) k n=some o/\(match o with | .inl _=>((l.drop n).any λ x=>v==x)=false | .inr i=>0<=i/\((l.drop n).any λ x=>v==x)=true):=by
  intro k
  induction k with
  | zero=>intro n h0 h1;omega
  | succ k ih =>
   intro n h0 h1
   rw[g_slices_Index_int_l0]
   by_cases hn:n < l.length
   ·rw[decide_eq_true (by omega),cond_true,getI_nat,List.getElem?_eq_getElem hn,List.drop_eq_getElem_cons hn,List.any_cons]
    simp only[Option.bind_some]
    cases hk:(v==l[n])
    ·rw[cond_false,nxt (by omega)]
     obtain ⟨o,g1,g2⟩:=ih (n+1) (by omega) (by omega)
     exact ⟨o,g1,by cases o<;>simpa using g2⟩
    ·rw[cond_true]
     exact ⟨_,rfl,by simp⟩
   ·rw[decide_eq_false (by omega),cond_false,List.drop_eq_nil_of_le (by omega)]
    exact ⟨_,rfl,rfl⟩
 obtain ⟨o,h,g⟩:=key bigK 0 (Nat.zero_le _) (by unfold bigK;omega)
 rw[Int.natCast_zero]at h
 rw[List.drop_zero]at g
 rw[h]
 cases o with
 | inl u=>simp only[Option.bind_some];rw[show (l.any λ x=>v==x)=false from g];rfl
 | inr i=>simp only[Option.bind_some];rw[g.2,decide_eq_true g.1]
def StB (st:GSt):Bool :=
 !decide ((st.Data.length:Int) > 16)&&(!decide ((st.Ret.length:Int) > 24)&&(!((st.Mem.length:Int) != 32)&&(!decide ((st.Vars.length:Int) > 20)&&(!decide ((st.Out.length:Int) > 400)&&(!decide ((st.In.length:Int) > 100) &&
  (st.Ret.all (λ o=>inB o.Kind 0 2)&&(allN (λ n v=>inB v 0 (IntKind.wrap .i64 ((st.Cells.length:Int)-1)) && !((st.Vars.take n).any λ x=>v==x)) 0 st.Vars&&((((Int.tmod (st.Cells.length:Int) 64)==0)&&decide ((st.Cells.length:Int)<=768))&&(inB st.Fault 0 13&&inB st.Fuel 0 4000)))))))))
structure StSz (st:GSt):Prop where
 r:st.Ret.length<=1048576
 v:st.Vars.length<=1048576
theorem spec_in {l:List Int} {v:Int} {n:Nat} (hn:n<=l.length) (hl:l.length<=1048576) {st:GSt} (hst:st.Vars=l) (hv:l[n]? = some v):g_spec_StOk_l2 (n:Int) st bigK 0=some (cond (!((l.take n).any λ x=>v==x)) (.inl ()) (.inr false)):=by
 subst hst
 have hlen:(st.Vars.take n).length=n:=by rw[List.length_take];omega
 have h:=allLoop (L:=st.Vars.take n) (λ _ x => !(v==x)) (g_spec_StOk_l2 (n:Int) st) (λ k m x hx hm=>by
   rw[hlen]at hm
   rw[List.getElem?_take,if_pos hm]at hx
   rw[g_spec_StOk_l2,decide_eq_true (by omega),cond_true,getI_nat,hx,getI_nat,hv]
   simp only[Option.bind_some]
   rw[nxt (by omega),flipC,show (x==v)=(v==x) from Bool.beq_comm]) (λ k m hm=>by rw[hlen]at hm;rw[g_spec_StOk_l2,decide_eq_false (by omega),cond_false]) (by rw[hlen];omega)
 rw[h,allN_const]
 congr 2
 rw[List.all_eq_not_any_not]
 simp
theorem spec_st {st:GSt} (h:StSz st):g_spec_StOk st=some (StB st):=by
 unfold g_spec_StOk StB
 have hr:=h.r
 have hv:=h.v
 have h0:=allLoop (L:=st.Ret) (λ _ o=>inB o.Kind 0 2) (g_spec_StOk_l0 st) (λ k n x hx hn=>by
   rw[g_spec_StOk_l0,decide_eq_true (by omega),cond_true,getI_nat,hx]
   simp only[Option.bind_some]
   rw[sIn]
   simp only[Option.bind_some]
   rw[nxt (by omega),flipC]) (λ k n hn=>by rw[g_spec_StOk_l0,decide_eq_false (by omega),cond_false]) (by omega)
 have h1:=allLoop (L:=st.Vars) (λ n v=>inB v 0 (IntKind.wrap .i64 ((st.Cells.length:Int)-1)) && !((st.Vars.take n).any λ x=>v==x)) (g_spec_StOk_l1 st) (λ k n x hx hn=>by
   rw[g_spec_StOk_l1,decide_eq_true (by omega),cond_true,getI_nat,hx]
   simp only[Option.bind_some]
   rw[sIn]
   simp only[Option.bind_some]
   rw[spec_in (l:=st.Vars) (by omega) hv rfl hx,nxt (by omega)]
   cases inB x 0 (IntKind.wrap .i64 ((st.Cells.length:Int)-1))
   ·rfl
   ·cases ((st.Vars.take n).any λ y=>x==y)<;>rfl) (λ k n hn=>by rw[g_spec_StOk_l1,decide_eq_false (by omega),cond_false]) (by omega)
 rw[h0,h1]
 unfold g_spec_StoreOk
 rw[sIn,sIn,allN_const]
 generalize decide ((st.Data.length:Int) > 16)=b1
 generalize decide ((st.Ret.length:Int) > 24)=b2
 generalize ((st.Mem.length:Int) != 32)=b3
 generalize decide ((st.Vars.length:Int) > 20)=b4
 generalize decide ((st.Out.length:Int) > 400)=b5
 generalize decide ((st.In.length:Int) > 100)=b6
 generalize (st.Ret.all λ o=>inB o.Kind 0 2)=b7
 generalize allN _ 0 st.Vars=b8
 generalize (Int.tmod (st.Cells.length:Int) 64==0)=b9
 generalize decide ((st.Cells.length:Int)<=768)=b10
 generalize inB st.Fault 0 13=b11
 generalize inB st.Fuel 0 4000=b12
 revert b1 b2 b3 b4 b5 b6 b7 b8 b9 b10 b11 b12
 decide +kernel
theorem impl_st {st:GSt} (h:StSz st):g_impl_StOk st=some (StB st):=by
 unfold g_impl_StOk StB
 have hr:=h.r
 have hv:=h.v
 have h0:=allLoop (L:=st.Ret) (λ _ o=>inB o.Kind 0 2) (g_impl_StOk_l0 st.Ret (st.Ret.length:Int)) (λ k n x hx hn=>by
   rw[g_impl_StOk_l0,decide_eq_true (by omega),cond_true,getI_nat,hx]
   simp only[Option.bind_some]
   rw[wIn]
   simp only[Option.bind_some]
   rw[nxt (by omega),flipC]) (λ k n hn=>by rw[g_impl_StOk_l0,decide_eq_false (by omega),cond_false]) (by omega)
 have h1:=allLoop (L:=st.Vars) (λ n v=>inB v 0 (IntKind.wrap .i64 ((st.Cells.length:Int)-1)) && !((st.Vars.take n).any λ x=>v==x)) (g_impl_StOk_l1 st.Vars (st.Vars.length:Int) st) (λ k n x hx hn=>by
   rw[g_impl_StOk_l1,decide_eq_true (by omega),cond_true,getI_nat,hx]
   simp only[Option.bind_some]
   rw[wIn]
   simp only[Option.bind_some]
   rw[subL_take (by omega) (by omega),Int.toNat_natCast]
   simp only[Option.bind_some]
   rw[has_l0 (by rw[List.length_take];omega),nxt (by omega)]
   simp only[Option.bind_some]
   cases inB x 0 (IntKind.wrap .i64 ((st.Cells.length:Int)-1))
   ·rfl
   ·cases ((st.Vars.take n).any λ y=>x==y)<;>rfl) (λ k n hn=>by rw[g_impl_StOk_l1,decide_eq_false (by omega),cond_false]) (by omega)
 rw[h0,h1]
 unfold g_impl_StoreOk
 rw[wIn,wIn,allN_const]
 have e5:decide ((st.Out.length:Int)<=400) = !decide ((st.Out.length:Int) > 400):=by rw[<-decide_not];congr 1;simp
 have e6:decide ((st.In.length:Int)<=100) = !decide ((st.In.length:Int) > 100):=by rw[<-decide_not];congr 1;simp
 rw[e5,e6]
 generalize decide ((st.Data.length:Int) > 16)=b1
 generalize decide ((st.Ret.length:Int) > 24)=b2
 generalize ((st.Mem.length:Int) != 32)=b3
 generalize decide ((st.Vars.length:Int) > 20)=b4
 generalize decide ((st.Out.length:Int) > 400)=b5
 generalize decide ((st.In.length:Int) > 100)=b6
 generalize (st.Ret.all λ o=>inB o.Kind 0 2)=b7
 generalize allN _ 0 st.Vars=b8
 generalize (Int.tmod (st.Cells.length:Int) 64==0)=b9
 generalize decide ((st.Cells.length:Int)<=768)=b10
 generalize inB st.Fault 0 13=b11
 generalize inB st.Fuel 0 4000=b12
 revert b1 b2 b3 b4 b5 b6 b7 b8 b9 b10 b11 b12
 decide +kernel
structure StW (st:GSt):Prop where
 d:st.Data.length<=LN
 r:st.Ret.length<=LN
 m:st.Mem.length<=LN
 c:st.Cells.length<=LN
 v:st.Vars.length<=LN
 o:st.Out.length<=LN
 i:st.In.length<=LN
structure StAll (st:GSt):Prop where
 d:st.Data.length<=1048576
 r:st.Ret.length<=1048576
 m:st.Mem.length<=1048576
 c:st.Cells.length<=1048576
 v:st.Vars.length<=1048576
 o:st.Out.length<=1048576
 i:st.In.length<=1048576
end Go.Proofs.YtofjeimkphojaaaGreatDoor
namespace Go.Proofs.YtofjeimkphojaaaGreatDoor
open Go Go.Fm
theorem dec_len:∀ (k u:Nat),u < 10 ^ (k+1)->(Lib.decDigits u).length<=k+1:=by
 intro k
 induction k with
 | zero =>
  intro u h
  rw[Lib.decDigits,dif_pos (by omega)];simp
 | succ k ih =>
  intro u h
  rw[Lib.decDigits]
  split
  ·simp
  ·have:u / 10 < 10 ^ (k+1):=by rw[Nat.div_lt_iff_lt_mul (by omega)];rw[Nat.pow_succ]at h;omega
   have:=ih (u / 10) this
   simp;omega
theorem itoa_len {n:Int} (h0 : -9223372036854775808<=n) (h1:n<=9223372036854775807):(Lib.itoa n).length<=21:=by
 unfold Lib.itoa
 split
 ·have:=dec_len 19 n.natAbs (by omega)
  simp;omega
 ·have:=dec_len 19 n.toNat (by omega)
  omega
theorem impl_dec {n:Int} (h0 : -9223372036854775808<=n) (h1:n<=9223372036854775807):g_impl_DecText n=some (Lib.itoa n):=by
 unfold g_impl_DecText g_strconv_Itoa gItoa
 rw[decide_eq_true ⟨h0,h1⟩];rfl
theorem digit {d:Nat} (h:d < 10):subL ([48,49,50,51,52,53,54,55,56,57]:List UInt8) (d:Int) (IntKind.wrap .i64 ((d:Int)+1))=some [UInt8.ofNat (48+d)]:=by
 match d,h with
 | 0,_=>rfl
 | 1,_=>rfl
 | 2,_=>rfl
 | 3,_=>rfl
 | 4,_=>rfl
 | 5,_=>rfl
 | 6,_=>rfl
 | 7,_=>rfl
 | 8,_=>rfl
 | 9,_=>rfl
theorem tm10 (u:Nat):Int.tmod (u:Int) 10=((u % 10:Nat):Int):=(Int.ofNat_tmod u 10).symm
theorem td10 (u:Nat):Int.tdiv (u:Int) 10=((u / 10:Nat):Int):=(Int.ofNat_tdiv u 10).symm
theorem spec_loop:∀ (u k:Nat) (m:Int) (out:List UInt8),m.natAbs=u->u≠0->u<=9223372036854775808->u < k->out.length+(Lib.decDigits u).length<=1000->(m < 0\/u < 9223372036854775808) →
  g_spec_DecText_l0 k out m=some (Lib.decDigits u++out):=by
 intro u
 induction u using Nat.strongRecOn with
 | _ u ih =>
  intro k m out hm h0 h1 hk ho hr
  obtain ⟨k,rfl⟩:∃ k',k=k'+1:=⟨k-1,by omega⟩
  rw[g_spec_DecText_l0,show (m != 0)=true by simp;omega,cond_true]
  have hd:((cond (decide ((Int.tmod m 10) < 0)) (some (IntKind.wrap .i64 (0-(Int.tmod m 10)))) (some (Int.tmod m 10)):Option Int))=some ((u % 10:Nat):Int):=by
   have h2:Int.tmod m 10=if m < 0 then -((u % 10:Nat):Int) else ((u % 10:Nat):Int):=by
    split
    ·have:m = -(u:Int):=by omega
     rw[this,Int.neg_tmod,tm10]
    ·have:m=(u:Int):=by omega
     rw[this,tm10]
   rw[h2]
   by_cases hneg:m < 0
   ·rw[if_pos hneg]
    by_cases hz:u % 10=0
    ·rw[hz];rfl
    ·rw[decide_eq_true (by omega),cond_true,wI64 (by omega) (by omega)]
     congr 1;omega
   ·rw[if_neg hneg,decide_eq_false (by omega),cond_false]
  have hq:IntKind.wrap .i64 (Int.tdiv m 10)=if m < 0 then -((u / 10:Nat):Int) else ((u / 10:Nat):Int):=by
   split
   ·have:m = -(u:Int):=by omega
    rw[this,Int.neg_tdiv,td10,wI64 (by omega) (by omega)]
   ·have:m=(u:Int):=by omega
    rw[this,td10,wI64 (by omega) (by omega)]
  rw[hd,Option.bind_some,digit (Nat.mod_lt _ (by omega)),Option.bind_some,catS_eq (by simp;omega),Option.bind_some,hq]
  by_cases h10:u < 10
  ·obtain ⟨k,rfl⟩:∃ k',k=k'+1:=⟨k-1,by omega⟩
   rw[Lib.decDigits,dif_pos h10,Nat.div_eq_of_lt h10,Nat.mod_eq_of_lt h10]
   have:(if m < 0 then -((0:Nat):Int) else ((0:Nat):Int))=0:=by split<;>rfl
   rw[this,g_spec_DecText_l0]
   rfl
  ·have hlen:(Lib.decDigits u).length=(Lib.decDigits (u / 10)).length+1:=by
    rw[Lib.decDigits.eq_def u,dif_neg h10];simp
   rw[ih (u / 10) (by omega) k _ _ (by split<;>omega) (by omega) (by omega) (by omega) (by simp;omega) (by split<;>omega)]
   rw[Lib.decDigits.eq_def u,dif_neg h10]
   simp
theorem spec_dec {n:Int} (h0 : -9223372036854775808<=n) (h1:n<=9223372036854775807):g_spec_DecText n=some (Lib.itoa n):=by
 unfold g_spec_DecText
 by_cases hz:n=0
 ·subst hz
  have:Lib.itoa 0=[48]:=by
   unfold Lib.itoa
   rw[if_neg (by omega),Lib.decDigits];rfl
  rw[this];rfl
 ·rw[show (n==0)=false by simp[hz],cond_false,spec_loop n.natAbs bigK n [] rfl (by omega) (by omega) (by unfold bigK;omega) (by have:=dec_len 19 n.natAbs (by omega);simp;omega) (by omega),Option.bind_some]
  unfold Lib.itoa
  have:=dec_len 19 n.natAbs (by omega)
  by_cases hn:n < 0
  ·rw[decide_eq_true hn,cond_true,if_pos hn,catS_eq (by simp;omega)]
   simp
  ·rw[decide_eq_false hn,cond_false,if_neg hn,show n.toNat=n.natAbs by omega]
   simp
end Go.Proofs.YtofjeimkphojaaaGreatDoor
namespace Go.Proofs.YtofjeimkphojaaaGreatDoor
open Go Go.Fm
def i64B (x:Int):Prop := -9223372036854775808<=x/\x<=9223372036854775807
def blk (l:List Int):List UInt8:=l.flatMap λ x=>Lib.itoa x++[32]
structure RetN (l:List GSlot):Prop where
 k:∀ s ∈ l,0<=s.Kind/\s.Kind<=2
 n:∀ s ∈ l,i64B s.N
structure StNum (st:GSt):Prop where
 d:∀ x ∈ st.Data,i64B x
 r:∀ s ∈ st.Ret,i64B s.N
 a:i64B st.A
 f:i64B st.Fault
 u:i64B st.Fuel
end Go.Proofs.YtofjeimkphojaaaGreatDoor
namespace Go.Proofs.YtofjeimkphojaaaGreatDoor
open Go Go.Fm
set_option maxRecDepth 100000
theorem prims_eq:g_impl_prims=g_spec_l08Names:=by kernel_rfl
theorem name_eq (k:Int):g_impl_PrimName k=g_spec_PrimName k:=by
 unfold g_impl_PrimName g_spec_PrimName
 rw[prims_eq]
 unfold g_spec_l08Names
 simp only[Option.bind_some]
 rw[within_eq,specIn_eq]
 simp only[Option.bind_some]
 have key:∀ (b:Bool) (x y:Option Bs),cond b x y=cond (!b) y x:=λ b x y=>by cases b<;>rfl
 exact key _ _ _
theorem name_tot (k:Int):∃ s,g_spec_PrimName k=some s:=by
 unfold g_spec_PrimName
 unfold g_spec_l08Names
 simp only[Option.bind_some]
 rw[specIn_eq]
 simp only[Option.bind_some]
 by_cases h:(0:Int)<=k/\k<=IntKind.wrap .i64 (((([[100,117,112],[100,114,111,112],[111,118,101,114],[110,105,112],[115,119,97,112],[43],[45],[42],[97,110,100],[111,114],[50,42],[50,47],[47,109,111,100],[64],[33],[97],[97,33],[101,109,105,116],[107,101,121],[112,117,115,104],[112,111,112],[105],[46],[110,111,112]]:List Bs).length:Nat):Int)-1)
 ·rw[decide_eq_true h,Bool.not_true,cond_false]
  have h2:k<=23:=h.2
  obtain ⟨x,hx,_⟩:=getI_ex (xs:=([[100,117,112],[100,114,111,112],[111,118,101,114],[110,105,112],[115,119,97,112],[43],[45],[42],[97,110,100],[111,114],[50,42],[50,47],[47,109,111,100],[64],[33],[97],[97,33],[101,109,105,116],[107,101,121],[112,117,115,104],[112,111,112],[105],[46],[110,111,112]]:List Bs)) (i:=k) h.1 (by simp;omega)
  rw[hx]
  exact ⟨_,rfl⟩
 ·rw[decide_eq_false h,Bool.not_false,cond_true]
  exact ⟨_,rfl⟩
end Go.Proofs.YtofjeimkphojaaaGreatDoor
