import Derived.Test.YtcnbncafiinfjaaDoorCS
import Derived.KernelRfl
set_option linter.all false
namespace Go.Proofs.YtcnbncafiinfjaaDoor
open Go Go.Fm
set_option maxRecDepth 100000
abbrev Bs:=List UInt8
structure GStore where
 Cells:List Int
 deriving DecidableEq,Inhabited
structure GSlot where
 Kind:Int
 N:Int
 deriving DecidableEq,Inhabited
structure GSt where
 Data:List Int
 Ret:List GSlot
 A:Int
 Mem:List Int
 Cells:List Int
 Vars:List Int
 Out:List Int
 In:List Int
 Fault:Int
 Fuel:Int
 deriving DecidableEq,Inhabited
structure GOp where
 Kind:Int
 N:Int
 deriving DecidableEq,Inhabited
structure GDef where
 Name:Bs
 Body:List GOp
 deriving DecidableEq,Inhabited
structure GEntry where
 Name:Bs
 Var:Bool
 N:Int
 deriving DecidableEq,Inhabited
structure GWorld where
 Defs:List GDef
 Dict:List GEntry
 St:GSt
 Open:Bool
 Yellow:Bool
 deriving DecidableEq,Inhabited
structure GItem where
 Kind:Int
 Name:Bs
 N:Int
 Hex:Bool
 Raw:Int
 deriving DecidableEq,Inhabited
structure GEd where
 Left:List GItem
 Right:List GItem
 Cut:List GItem
 deriving DecidableEq,Inhabited
structure GSession where
 World:GWorld
 Ed:GEd
 Block:Int
 deriving DecidableEq,Inhabited
def GStore.cs (x:GStore):List CV:=[.imm 1 x.Cells.length (x.Cells.flatMap (eI .u32))]
def GSlot.cs (x:GSlot):List CV:=[.int .i64 x.Kind, .int .i32 x.N]
def GSt.cs (x:GSt):List CV:=[.imm 1 x.Data.length (x.Data.flatMap (eI .i32)), .imm 2 x.Ret.length (x.Ret.flatMap GSlot.cs), .int .i32 x.A, .imm 1 x.Mem.length (x.Mem.flatMap (eI .i32)), .imm 1 x.Cells.length (x.Cells.flatMap (eI .u32)), .imm 1 x.Vars.length (x.Vars.flatMap (eI .i64)), .imm 1 x.Out.length (x.Out.flatMap (eI .u8)), .imm 1 x.In.length (x.In.flatMap (eI .u8)), .int .i64 x.Fault, .int .i64 x.Fuel]
def GOp.cs (x:GOp):List CV:=[.int .i64 x.Kind, .int .i32 x.N]
def GDef.cs (x:GDef):List CV:=[.str x.Name, .imm 2 x.Body.length (x.Body.flatMap GOp.cs)]
def GEntry.cs (x:GEntry):List CV:=[.str x.Name, .bool x.Var, .int .i64 x.N]
def GWorld.cs (x:GWorld):List CV:=[.imm 2 x.Defs.length (x.Defs.flatMap GDef.cs), .imm 3 x.Dict.length (x.Dict.flatMap GEntry.cs), .imm 1 x.St.Data.length (x.St.Data.flatMap (eI .i32)), .imm 2 x.St.Ret.length (x.St.Ret.flatMap GSlot.cs), .int .i32 x.St.A, .imm 1 x.St.Mem.length (x.St.Mem.flatMap (eI .i32)), .imm 1 x.St.Cells.length (x.St.Cells.flatMap (eI .u32)), .imm 1 x.St.Vars.length (x.St.Vars.flatMap (eI .i64)), .imm 1 x.St.Out.length (x.St.Out.flatMap (eI .u8)), .imm 1 x.St.In.length (x.St.In.flatMap (eI .u8)), .int .i64 x.St.Fault, .int .i64 x.St.Fuel, .bool x.Open, .bool x.Yellow]
def GItem.cs (x:GItem):List CV:=[.int .i64 x.Kind, .str x.Name, .int .i32 x.N, .bool x.Hex, .int .u32 x.Raw]
def GSession.cs (x:GSession):List CV:=[.imm 2 x.World.Defs.length (x.World.Defs.flatMap GDef.cs), .imm 3 x.World.Dict.length (x.World.Dict.flatMap GEntry.cs), .imm 1 x.World.St.Data.length (x.World.St.Data.flatMap (eI .i32)), .imm 2 x.World.St.Ret.length (x.World.St.Ret.flatMap GSlot.cs), .int .i32 x.World.St.A, .imm 1 x.World.St.Mem.length (x.World.St.Mem.flatMap (eI .i32)), .imm 1 x.World.St.Cells.length (x.World.St.Cells.flatMap (eI .u32)), .imm 1 x.World.St.Vars.length (x.World.St.Vars.flatMap (eI .i64)), .imm 1 x.World.St.Out.length (x.World.St.Out.flatMap (eI .u8)), .imm 1 x.World.St.In.length (x.World.St.In.flatMap (eI .u8)), .int .i64 x.World.St.Fault, .int .i64 x.World.St.Fuel, .bool x.World.Open, .bool x.World.Yellow, .imm 5 x.Ed.Left.length (x.Ed.Left.flatMap GItem.cs), .imm 5 x.Ed.Right.length (x.Ed.Right.flatMap GItem.cs), .imm 5 x.Ed.Cut.length (x.Ed.Cut.flatMap GItem.cs), .int .i64 x.Block]
def GEd.cs (x:GEd):List CV:=[.imm 5 x.Left.length (x.Left.flatMap GItem.cs), .imm 5 x.Right.length (x.Right.flatMap GItem.cs), .imm 5 x.Cut.length (x.Cut.flatMap GItem.cs)]
instance:StTy:=⟨λ n=>match n with|0=>GStore|1=>GSt|2=>GSlot|3=>GWorld|4=>GDef|5=>GOp|6=>GEntry|7=>GSession|8=>GEd|9=>GItem|_=>Unit,λ n=>match n with|0=>1|1=>10|2=>2|3=>14|4=>2|5=>2|6=>3|7=>18|8=>3|9=>5|_=>0,lkA [(43,0),(50,1),(52,3),(55,8),(57,7),(59,0),(74,4),(82,5),(139,6),(178,2),(184,9)]⟩
noncomputable instance:StCs:=⟨λ n=>match n with|0=>GStore.cs|1=>GSt.cs|2=>GSlot.cs|3=>GWorld.cs|4=>GDef.cs|5=>GOp.cs|6=>GEntry.cs|7=>GSession.cs|8=>GEd.cs|9=>GItem.cs|_=>λ _=>[]⟩
noncomputable def GStore.lv (x:GStore):List TC:=[.imm (.int .u32) x.Cells]
noncomputable def GStore.of:List TC->Option GStore
 | [c0]=>(tImm (.int .u32) c0).bind λ x0=>some ⟨x0⟩
 | _=>none
theorem GStore.made {l:List TC} {v:GStore} (h:GStore.of l=some v):CRs l v.lv:=by
 match l,h with
 | [c0],h =>
  obtain ⟨x0,e0,h⟩:=bS h
  cases h
  exact ⟨tImm_cr e0,trivial⟩
noncomputable def GSt.lv (x:GSt):List TC:=[.imm (.int .i32) x.Data, .imm (.st 2) x.Ret, .int .i32 x.A, .imm (.int .i32) x.Mem, .imm (.int .u32) x.Cells, .imm (.int .i64) x.Vars, .imm (.int .u8) x.Out, .imm (.int .u8) x.In, .int .i64 x.Fault, .int .i64 x.Fuel]
noncomputable def GSt.of:List TC->Option GSt
 | [c0,c1,c2,c3,c4,c5,c6,c7,c8,c9]=>(tImm (.int .i32) c0).bind λ x0=>(tImm (.st 2) c1).bind λ x1=>(tInt .i32 c2).bind λ x2=>(tImm (.int .i32) c3).bind λ x3=>(tImm (.int .u32) c4).bind λ x4=>(tImm (.int .i64) c5).bind λ x5=>(tImm (.int .u8) c6).bind λ x6=>(tImm (.int .u8) c7).bind λ x7=>(tInt .i64 c8).bind λ x8=>(tInt .i64 c9).bind λ x9=>some ⟨x0,x1,x2,x3,x4,x5,x6,x7,x8,x9⟩
 | _=>none
theorem GSt.made {l:List TC} {v:GSt} (h:GSt.of l=some v):CRs l v.lv:=by
 match l,h with
 | [c0,c1,c2,c3,c4,c5,c6,c7,c8,c9],h =>
  obtain ⟨x0,e0,h⟩:=bS h
  obtain ⟨x1,e1,h⟩:=bS h
  obtain ⟨x2,e2,h⟩:=bS h
  obtain ⟨x3,e3,h⟩:=bS h
  obtain ⟨x4,e4,h⟩:=bS h
  obtain ⟨x5,e5,h⟩:=bS h
  obtain ⟨x6,e6,h⟩:=bS h
  obtain ⟨x7,e7,h⟩:=bS h
  obtain ⟨x8,e8,h⟩:=bS h
  obtain ⟨x9,e9,h⟩:=bS h
  cases h
  exact ⟨tImm_cr e0,tImm_cr e1,tInt_cr e2,tImm_cr e3,tImm_cr e4,tImm_cr e5,tImm_cr e6,tImm_cr e7,tInt_cr e8,tInt_cr e9,trivial⟩
noncomputable def GSlot.lv (x:GSlot):List TC:=[.int .i64 x.Kind, .int .i32 x.N]
noncomputable def GSlot.of:List TC->Option GSlot
 | [c0,c1]=>(tInt .i64 c0).bind λ x0=>(tInt .i32 c1).bind λ x1=>some ⟨x0,x1⟩
 | _=>none
theorem GSlot.made {l:List TC} {v:GSlot} (h:GSlot.of l=some v):CRs l v.lv:=by
 match l,h with
 | [c0,c1],h =>
  obtain ⟨x0,e0,h⟩:=bS h
  obtain ⟨x1,e1,h⟩:=bS h
  cases h
  exact ⟨tInt_cr e0,tInt_cr e1,trivial⟩
noncomputable def GWorld.lv (x:GWorld):List TC:=[.imm (.st 4) x.Defs, .imm (.st 6) x.Dict, .imm (.int .i32) x.St.Data, .imm (.st 2) x.St.Ret, .int .i32 x.St.A, .imm (.int .i32) x.St.Mem, .imm (.int .u32) x.St.Cells, .imm (.int .i64) x.St.Vars, .imm (.int .u8) x.St.Out, .imm (.int .u8) x.St.In, .int .i64 x.St.Fault, .int .i64 x.St.Fuel, .bool x.Open, .bool x.Yellow]
noncomputable def GWorld.of:List TC->Option GWorld
 | [c0,c1,c2,c3,c4,c5,c6,c7,c8,c9,c10,c11,c12,c13]=>(tImm (.st 4) c0).bind λ x0=>(tImm (.st 6) c1).bind λ x1=>(tImm (.int .i32) c2).bind λ x2=>(tImm (.st 2) c3).bind λ x3=>(tInt .i32 c4).bind λ x4=>(tImm (.int .i32) c5).bind λ x5=>(tImm (.int .u32) c6).bind λ x6=>(tImm (.int .i64) c7).bind λ x7=>(tImm (.int .u8) c8).bind λ x8=>(tImm (.int .u8) c9).bind λ x9=>(tInt .i64 c10).bind λ x10=>(tInt .i64 c11).bind λ x11=>(tBool c12).bind λ x12=>(tBool c13).bind λ x13=>some ⟨x0,x1,⟨x2,x3,x4,x5,x6,x7,x8,x9,x10,x11⟩,x12,x13⟩
 | _=>none
theorem GWorld.made {l:List TC} {v:GWorld} (h:GWorld.of l=some v):CRs l v.lv:=by
 match l,h with
 | [c0,c1,c2,c3,c4,c5,c6,c7,c8,c9,c10,c11,c12,c13],h =>
  obtain ⟨x0,e0,h⟩:=bS h
  obtain ⟨x1,e1,h⟩:=bS h
  obtain ⟨x2,e2,h⟩:=bS h
  obtain ⟨x3,e3,h⟩:=bS h
  obtain ⟨x4,e4,h⟩:=bS h
  obtain ⟨x5,e5,h⟩:=bS h
  obtain ⟨x6,e6,h⟩:=bS h
  obtain ⟨x7,e7,h⟩:=bS h
  obtain ⟨x8,e8,h⟩:=bS h
  obtain ⟨x9,e9,h⟩:=bS h
  obtain ⟨x10,e10,h⟩:=bS h
  obtain ⟨x11,e11,h⟩:=bS h
  obtain ⟨x12,e12,h⟩:=bS h
  obtain ⟨x13,e13,h⟩:=bS h
  cases h
  exact ⟨tImm_cr e0,tImm_cr e1,tImm_cr e2,tImm_cr e3,tInt_cr e4,tImm_cr e5,tImm_cr e6,tImm_cr e7,tImm_cr e8,tImm_cr e9,tInt_cr e10,tInt_cr e11,tBool_cr e12,tBool_cr e13,trivial⟩
noncomputable def GDef.lv (x:GDef):List TC:=[.str x.Name, .imm (.st 5) x.Body]
noncomputable def GDef.of:List TC->Option GDef
 | [c0,c1]=>(tStr c0).bind λ x0=>(tImm (.st 5) c1).bind λ x1=>some ⟨x0,x1⟩
 | _=>none
theorem GDef.made {l:List TC} {v:GDef} (h:GDef.of l=some v):CRs l v.lv:=by
 match l,h with
 | [c0,c1],h =>
  obtain ⟨x0,e0,h⟩:=bS h
  obtain ⟨x1,e1,h⟩:=bS h
  cases h
  exact ⟨tStr_cr e0,tImm_cr e1,trivial⟩
noncomputable def GOp.lv (x:GOp):List TC:=[.int .i64 x.Kind, .int .i32 x.N]
noncomputable def GOp.of:List TC->Option GOp
 | [c0,c1]=>(tInt .i64 c0).bind λ x0=>(tInt .i32 c1).bind λ x1=>some ⟨x0,x1⟩
 | _=>none
theorem GOp.made {l:List TC} {v:GOp} (h:GOp.of l=some v):CRs l v.lv:=by
 match l,h with
 | [c0,c1],h =>
  obtain ⟨x0,e0,h⟩:=bS h
  obtain ⟨x1,e1,h⟩:=bS h
  cases h
  exact ⟨tInt_cr e0,tInt_cr e1,trivial⟩
noncomputable def GEntry.lv (x:GEntry):List TC:=[.str x.Name, .bool x.Var, .int .i64 x.N]
noncomputable def GEntry.of:List TC->Option GEntry
 | [c0,c1,c2]=>(tStr c0).bind λ x0=>(tBool c1).bind λ x1=>(tInt .i64 c2).bind λ x2=>some ⟨x0,x1,x2⟩
 | _=>none
theorem GEntry.made {l:List TC} {v:GEntry} (h:GEntry.of l=some v):CRs l v.lv:=by
 match l,h with
 | [c0,c1,c2],h =>
  obtain ⟨x0,e0,h⟩:=bS h
  obtain ⟨x1,e1,h⟩:=bS h
  obtain ⟨x2,e2,h⟩:=bS h
  cases h
  exact ⟨tStr_cr e0,tBool_cr e1,tInt_cr e2,trivial⟩
noncomputable def GSession.lv (x:GSession):List TC:=[.imm (.st 4) x.World.Defs, .imm (.st 6) x.World.Dict, .imm (.int .i32) x.World.St.Data, .imm (.st 2) x.World.St.Ret, .int .i32 x.World.St.A, .imm (.int .i32) x.World.St.Mem, .imm (.int .u32) x.World.St.Cells, .imm (.int .i64) x.World.St.Vars, .imm (.int .u8) x.World.St.Out, .imm (.int .u8) x.World.St.In, .int .i64 x.World.St.Fault, .int .i64 x.World.St.Fuel, .bool x.World.Open, .bool x.World.Yellow, .imm (.st 9) x.Ed.Left, .imm (.st 9) x.Ed.Right, .imm (.st 9) x.Ed.Cut, .int .i64 x.Block]
noncomputable def GSession.of:List TC->Option GSession
 | [c0,c1,c2,c3,c4,c5,c6,c7,c8,c9,c10,c11,c12,c13,c14,c15,c16,c17]=>(tImm (.st 4) c0).bind λ x0=>(tImm (.st 6) c1).bind λ x1=>(tImm (.int .i32) c2).bind λ x2=>(tImm (.st 2) c3).bind λ x3=>(tInt .i32 c4).bind λ x4=>(tImm (.int .i32) c5).bind λ x5=>(tImm (.int .u32) c6).bind λ x6=>(tImm (.int .i64) c7).bind λ x7=>(tImm (.int .u8) c8).bind λ x8=>(tImm (.int .u8) c9).bind λ x9=>(tInt .i64 c10).bind λ x10=>(tInt .i64 c11).bind λ x11=>(tBool c12).bind λ x12=>(tBool c13).bind λ x13=>(tImm (.st 9) c14).bind λ x14=>(tImm (.st 9) c15).bind λ x15=>(tImm (.st 9) c16).bind λ x16=>(tInt .i64 c17).bind λ x17=>some ⟨⟨x0,x1,⟨x2,x3,x4,x5,x6,x7,x8,x9,x10,x11⟩,x12,x13⟩,⟨x14,x15,x16⟩,x17⟩
 | _=>none
theorem GSession.made {l:List TC} {v:GSession} (h:GSession.of l=some v):CRs l v.lv:=by
 match l,h with
 | [c0,c1,c2,c3,c4,c5,c6,c7,c8,c9,c10,c11,c12,c13,c14,c15,c16,c17],h =>
  obtain ⟨x0,e0,h⟩:=bS h
  obtain ⟨x1,e1,h⟩:=bS h
  obtain ⟨x2,e2,h⟩:=bS h
  obtain ⟨x3,e3,h⟩:=bS h
  obtain ⟨x4,e4,h⟩:=bS h
  obtain ⟨x5,e5,h⟩:=bS h
  obtain ⟨x6,e6,h⟩:=bS h
  obtain ⟨x7,e7,h⟩:=bS h
  obtain ⟨x8,e8,h⟩:=bS h
  obtain ⟨x9,e9,h⟩:=bS h
  obtain ⟨x10,e10,h⟩:=bS h
  obtain ⟨x11,e11,h⟩:=bS h
  obtain ⟨x12,e12,h⟩:=bS h
  obtain ⟨x13,e13,h⟩:=bS h
  obtain ⟨x14,e14,h⟩:=bS h
  obtain ⟨x15,e15,h⟩:=bS h
  obtain ⟨x16,e16,h⟩:=bS h
  obtain ⟨x17,e17,h⟩:=bS h
  cases h
  exact ⟨tImm_cr e0,tImm_cr e1,tImm_cr e2,tImm_cr e3,tInt_cr e4,tImm_cr e5,tImm_cr e6,tImm_cr e7,tImm_cr e8,tImm_cr e9,tInt_cr e10,tInt_cr e11,tBool_cr e12,tBool_cr e13,tImm_cr e14,tImm_cr e15,tImm_cr e16,tInt_cr e17,trivial⟩
noncomputable def GEd.lv (x:GEd):List TC:=[.imm (.st 9) x.Left, .imm (.st 9) x.Right, .imm (.st 9) x.Cut]
noncomputable def GEd.of:List TC->Option GEd
 | [c0,c1,c2]=>(tImm (.st 9) c0).bind λ x0=>(tImm (.st 9) c1).bind λ x1=>(tImm (.st 9) c2).bind λ x2=>some ⟨x0,x1,x2⟩
 | _=>none
theorem GEd.made {l:List TC} {v:GEd} (h:GEd.of l=some v):CRs l v.lv:=by
 match l,h with
 | [c0,c1,c2],h =>
  obtain ⟨x0,e0,h⟩:=bS h
  obtain ⟨x1,e1,h⟩:=bS h
  obtain ⟨x2,e2,h⟩:=bS h
  cases h
  exact ⟨tImm_cr e0,tImm_cr e1,tImm_cr e2,trivial⟩
noncomputable def GItem.lv (x:GItem):List TC:=[.int .i64 x.Kind, .str x.Name, .int .i32 x.N, .bool x.Hex, .int .u32 x.Raw]
noncomputable def GItem.of:List TC->Option GItem
 | [c0,c1,c2,c3,c4]=>(tInt .i64 c0).bind λ x0=>(tStr c1).bind λ x1=>(tInt .i32 c2).bind λ x2=>(tBool c3).bind λ x3=>(tInt .u32 c4).bind λ x4=>some ⟨x0,x1,x2,x3,x4⟩
 | _=>none
theorem GItem.made {l:List TC} {v:GItem} (h:GItem.of l=some v):CRs l v.lv:=by
 match l,h with
 | [c0,c1,c2,c3,c4],h =>
  obtain ⟨x0,e0,h⟩:=bS h
  obtain ⟨x1,e1,h⟩:=bS h
  obtain ⟨x2,e2,h⟩:=bS h
  obtain ⟨x3,e3,h⟩:=bS h
  obtain ⟨x4,e4,h⟩:=bS h
  cases h
  exact ⟨tInt_cr e0,tStr_cr e1,tInt_cr e2,tBool_cr e3,tInt_cr e4,trivial⟩
noncomputable instance:Structs where
 leaves:=λ n=>match n with|0=>GStore.lv|1=>GSt.lv|2=>GSlot.lv|3=>GWorld.lv|4=>GDef.lv|5=>GOp.lv|6=>GEntry.lv|7=>GSession.lv|8=>GEd.lv|9=>GItem.lv|_=>λ _=>[]
 make:=λ n=>match n with|0=>GStore.of|1=>GSt.of|2=>GSlot.of|3=>GWorld.of|4=>GDef.of|5=>GOp.of|6=>GEntry.of|7=>GSession.of|8=>GEd.of|9=>GItem.of|_=>λ _=>none
 plain:=λ n=>match n with|0=>false|1=>false|2=>true|3=>false|4=>false|5=>true|6=>true|7=>false|8=>false|9=>true|_=>false
 lt:=λ n=>match n with|0=>[(.int .u32)]|1=>[(.int .i32),(.st 2), .bool,(.int .i32),(.int .u32),(.int .i64),(.int .u8),(.int .u8), .bool, .bool]|2=>[.bool, .bool]|3=>[(.st 4),(.st 6),(.int .i32),(.st 2), .bool,(.int .i32),(.int .u32),(.int .i64),(.int .u8),(.int .u8), .bool, .bool, .bool, .bool]|4=>[.bool,(.st 5)]|5=>[.bool, .bool]|6=>[.bool, .bool, .bool]|7=>[(.st 4),(.st 6),(.int .i32),(.st 2), .bool,(.int .i32),(.int .u32),(.int .i64),(.int .u8),(.int .u8), .bool, .bool, .bool, .bool,(.st 9),(.st 9),(.st 9), .bool]|8=>[(.st 9),(.st 9),(.st 9)]|9=>[.bool, .bool, .bool, .bool, .bool]|_=>[]
 len:=λ n v=>match n,v with|0,_=>rfl|1,_=>rfl|2,_=>rfl|3,_=>rfl|4,_=>rfl|5,_=>rfl|6,_=>rfl|7,_=>rfl|8,_=>rfl|9,_=>rfl|_+10,_=>rfl
 conc:=λ n v=>match n,v with|0,_=>rfl|1,_=>rfl|2,_=>rfl|3,_=>rfl|4,_=>rfl|5,_=>rfl|6,_=>rfl|7,_=>rfl|8,_=>rfl|9,_=>rfl|_+10,_=>rfl
 pure:=λ n v=>match n,v with|0,_=>rfl|1,_=>rfl|2,_=>rfl|3,_=>rfl|4,_=>rfl|5,_=>rfl|6,_=>rfl|7,_=>rfl|8,_=>rfl|9,_=>rfl|_+10,_=>rfl
 made:=λ n l v h=>match n,v,h with|0,v,h=>GStore.made h|1,v,h=>GSt.made h|2,v,h=>GSlot.made h|3,v,h=>GWorld.made h|4,v,h=>GDef.made h|5,v,h=>GOp.made h|6,v,h=>GEntry.made h|7,v,h=>GSession.made h|8,v,h=>GEd.made h|9,v,h=>GItem.made h|_+10,_,h=>nomatch h
 flat:=λ n v h=>match n,v,h with|0,_,h=>nomatch h|1,_,h=>nomatch h|2,_,_=>rfl|3,_,h=>nomatch h|4,_,h=>nomatch h|5,_,_=>rfl|6,_,_=>rfl|7,_,h=>nomatch h|8,_,h=>nomatch h|9,_,_=>rfl|_+10,_,h=>nomatch h
noncomputable instance:Tabs:=⟨λ g=>match g with|0=>some ⟨.int .u8,gtAscii⟩|_=>none,λ g=>match g with|0=>rfl|_+1=>rfl⟩
abbrev K0:Ty:=.int .u32
abbrev K1:Ty:=.list K0
abbrev K2:Ty:=.st 0
abbrev K3:Ty:=.int .u8
abbrev K4:Ty:=.list K3
abbrev K5:Ty:=.int .i64
abbrev K6:Ty:=.bool
abbrev K7:Ty:=.int .i32
abbrev K8:Ty:=.list K7
abbrev K9:Ty:=.st 2
abbrev K10:Ty:=.list K9
abbrev K11:Ty:=.list K5
abbrev K12:Ty:=.st 1
abbrev K13:Ty:=.str
abbrev K14:Ty:=.st 5
abbrev K15:Ty:=.list K14
abbrev K16:Ty:=.st 4
abbrev K17:Ty:=.list K16
abbrev K18:Ty:=.st 6
abbrev K19:Ty:=.list K18
abbrev K20:Ty:=.st 3
abbrev K21:Ty:=.st 9
abbrev K22:Ty:=.list K21
abbrev K23:Ty:=.st 8
abbrev K24:Ty:=.st 7
abbrev K25:Ty:=.list K13
end Go.Proofs.YtcnbncafiinfjaaDoor
namespace Go.Proofs.YtcnbncafiinfjaaDoor
open Go Go.Fm
set_option maxRecDepth 1000000
def g_laws_szUint32S (a_1:List Int) (left_2:Int):Option Int:=cond (decide ((IntKind.wrap .i64 (left_2-(a_1.length:Int))) < 0)) (some (-1)) (some (IntKind.wrap .i64 (left_2-(a_1.length:Int))))
def g_laws_szStore (a_1:GStore) (left_2:Int):Option Int:=(g_laws_szUint32S a_1.Cells left_2).bind λ y_4=>cond (decide (y_4 < 0)) (some (-1)) (some y_4)
def g_laws_toUint32S_l0 (a_1:List Int):Nat->(List Int)->Int->Option (List Int)
 | 0,_,_=>none
 | k+1,out_5,i_6=>cond (decide (i_6 < (a_1.length:Int))) ((getI a_1 i_6).bind λ v_8=>(getI out_5 i_6).bind λ v_9=>g_laws_toUint32S_l0 a_1 k (out_5.set i_6.toNat v_8) (IntKind.wrap .i64 (i_6+1))) (some out_5)
def g_laws_toUint32S (a_1:List Int):Option (List Int):=(mk (0:Int) (a_1.length:Int)).bind λ v_3=>((g_laws_toUint32S_l0 a_1 bigK v_3 0).bind λ out_7=>some out_7:Option ((List Int))).bind λ out_4=>some out_4
def g_laws_toStore (a_1:GStore):Option GStore:=(g_laws_toUint32S a_1.Cells).bind λ y_3=>some (⟨y_3⟩:GStore)
def g_laws_toByteS_l0 (a_1:List Int):Nat->(List Int)->Int->Option (List Int)
 | 0,_,_=>none
 | k+1,out_5,i_6=>cond (decide (i_6 < (a_1.length:Int))) ((getI a_1 i_6).bind λ v_8=>(getI out_5 i_6).bind λ v_9=>g_laws_toByteS_l0 a_1 k (out_5.set i_6.toNat v_8) (IntKind.wrap .i64 (i_6+1))) (some out_5)
def g_laws_toByteS (a_1:List Int):Option (List Int):=(mk (0:Int) (a_1.length:Int)).bind λ v_3=>((g_laws_toByteS_l0 a_1 bigK v_3 0).bind λ out_7=>some out_7:Option ((List Int))).bind λ out_4=>some out_4
def g_spec_StoreOk (s_1:GStore):Option Bool:=cond ((Int.tmod (s_1.Cells.length:Int) 64)==0) (some (decide ((s_1.Cells.length:Int)<=768))) (some false)
def g_spec_l01In (x_1:Int) (a_2:Int) (b_3:Int):Option Bool:=cond (decide (x_1 ≥ a_2)) (some (decide (x_1<=b_3))) (some false)
def g_spec_NewSt (s_1:GStore) (vin_2:List Int) (fuel_3:Int):Option GSt:=(mk (0:Int) 32).bind λ v_5=>(cond (decide ((vin_2.length:Int) > 100)) (some true) ((g_spec_StoreOk s_1).bind λ y_7=>cond (!y_7) (some true) ((g_spec_l01In fuel_3 0 4000).bind λ y_8=>some (!y_8))):Option (Bool)).bind λ v_6=>cond v_6 (some (⟨[],[],0,[],[],[],[],[],0,0⟩:GSt)) ((app ([]:List Int) s_1.Cells).bind λ v_9=>(app ([]:List Int) vin_2).bind λ v_10=>some (⟨[],[],0,v_5,v_9,[],[],v_10,0,fuel_3⟩:GSt))
def g_spec_NewWorld (s_1:GStore) (vin_2:List Int) (fuel_3:Int):Option GWorld:=(g_spec_NewSt s_1 vin_2 fuel_3).bind λ y_5=>some (⟨[],[],y_5,false,false⟩:GWorld)
def g_spec_Open (st_1:GStore) (vin_2:List Int) (fuel_3:Int):Option GSession:=(g_spec_NewWorld st_1 vin_2 fuel_3).bind λ y_5=>cond ((y_5.St.Mem.length:Int)==0) (some (⟨(⟨[],[],(⟨[],[],0,[],[],[],[],[],0,0⟩:GSt),false,false⟩:GWorld),(⟨[],[],[]⟩:GEd),0⟩:GSession)) (some (⟨y_5,(⟨[],[],[]⟩:GEd),(-1)⟩:GSession))
def g_slices_Clone_uint32 (s_1:List Int):Option (List Int):=app ([]:List Int) s_1
def g_slices_Clone_byte (s_1:List Int):Option (List Int):=app ([]:List Int) s_1
def g_impl_StoreOk (s_1:GStore):Option Bool:=cond ((Int.tmod (s_1.Cells.length:Int) 64)==0) (some (decide ((s_1.Cells.length:Int)<=768))) (some false)
def g_impl_within (n_1:Int) (low_2:Int) (high_3:Int):Option Bool:=cond (decide (low_2<=n_1)) (some (decide (n_1<=high_3))) (some false)
def g_slices_Index_int_l0 (s_1:List Int) (v_2:Int) (v_5:Int):Nat->Int->Option (Unit ⊕ Int)
 | 0,_=>none
 | k+1,v_6=>cond (decide (v_6 < v_5)) ((getI s_1 v_6).bind λ v_8=>cond (v_2==v_8) (some (.inr v_6)) (g_slices_Index_int_l0 s_1 v_2 v_5 k (IntKind.wrap .i64 (v_6+1)))) (some (.inl ()))
def g_slices_Index_int (s_1:List Int) (v_2:Int):Option Int:=((g_slices_Index_int_l0 s_1 v_2 (s_1.length:Int) bigK 0).bind λ o=>match o with | .inl ()=>some (.inl ()) | .inr v_7=>some (.inr v_7):Option (Unit ⊕ Int)).bind λ o=>match o with | .inl ()=>some (-1) | .inr v_4=>some v_4
def g_slices_Contains_int (s_1:List Int) (v_2:Int):Option Bool:=(g_slices_Index_int s_1 v_2).bind λ y_4=>some (decide (y_4 ≥ 0))
def g_impl_StOk_l0 (v_6:List GSlot) (v_7:Int):Nat->Int->Option (Unit ⊕ Bool)
 | 0,_=>none
 | k+1,v_8=>cond (decide (v_8 < v_7)) ((getI v_6 v_8).bind λ v_10=>(g_impl_within v_10.Kind 0 2).bind λ y_11=>cond (!y_11) (some (.inr false)) (g_impl_StOk_l0 v_6 v_7 k (IntKind.wrap .i64 (v_8+1)))) (some (.inl ()))
def g_impl_StOk_l1 (v_13:List Int) (v_14:Int) (st_1:GSt):Nat->Int->Option (Unit ⊕ Bool)
 | 0,_=>none
 | k+1,v_15=>cond (decide (v_15 < v_14)) ((getI v_13 v_15).bind λ v_17=>((g_impl_within v_17 0 (IntKind.wrap .i64 ((st_1.Cells.length:Int)-1))).bind λ y_19=>cond (!y_19) (some true) ((subL st_1.Vars 0 v_15).bind λ v_20=>(g_slices_Contains_int v_20 v_17).bind λ y_21=>some y_21):Option (Bool)).bind λ v_18=>cond v_18 (some (.inr false)) (g_impl_StOk_l1 v_13 v_14 st_1 k (IntKind.wrap .i64 (v_15+1)))) (some (.inl ()))
def g_impl_StOk (st_1:GSt):Option Bool:=(cond (decide ((st_1.Data.length:Int) > 16)) (some true) (cond (decide ((st_1.Ret.length:Int) > 24)) (some true) (cond ((st_1.Mem.length:Int) != 32) (some true) ((g_impl_StoreOk (⟨st_1.Cells⟩:GStore)).bind λ y_4=>cond (!y_4) (some true) (some (decide ((st_1.Vars.length:Int) > 20)))))):Option (Bool)).bind λ v_3=>cond v_3 (some false) (((g_impl_StOk_l0 st_1.Ret (st_1.Ret.length:Int) bigK 0).bind λ o=>match o with | .inl ()=>some (.inl ()) | .inr v_9=>some (.inr v_9):Option (Unit ⊕ Bool)).bind λ o=>match o with | .inl ()=>(((g_impl_StOk_l1 st_1.Vars (st_1.Vars.length:Int) st_1 bigK 0).bind λ o=>match o with | .inl ()=>some (.inl ()) | .inr v_16=>some (.inr v_16):Option (Unit ⊕ Bool)).bind λ o=>match o with | .inl ()=>cond (decide ((st_1.Out.length:Int)<=400)) (cond (decide ((st_1.In.length:Int)<=100)) ((g_impl_within st_1.Fault 0 13).bind λ y_22=>cond y_22 ((g_impl_within st_1.Fuel 0 4000).bind λ y_23=>some y_23) (some false)) (some false)) (some false) | .inr v_12=>some v_12) | .inr v_5=>some v_5)
def g_impl_NewSt (s_1:GStore) (vin_2:List Int) (fuel_3:Int):Option GSt:=(mk (0:Int) 32).bind λ v_5=>(g_slices_Clone_uint32 s_1.Cells).bind λ y_6=>(g_slices_Clone_byte vin_2).bind λ y_7=>(g_impl_StOk (⟨[],[],0,v_5,y_6,[],[],y_7,0,fuel_3⟩:GSt)).bind λ y_8=>cond (!y_8) (some (⟨[],[],0,[],[],[],[],[],0,0⟩:GSt)) (some (⟨[],[],0,v_5,y_6,[],[],y_7,0,fuel_3⟩:GSt))
def g_impl_NewWorld (s_1:GStore) (vin_2:List Int) (fuel_3:Int):Option GWorld:=(g_impl_NewSt s_1 vin_2 fuel_3).bind λ y_5=>some (⟨[],[],y_5,false,false⟩:GWorld)
def g_strings_Fields_l0 (s_1:Bs):Nat->Int->Int->Int->Int->Option (Int×Int)
 | 0,_,_,_,_=>none
 | k+1,n_5,wasSpace_6,setBits_7,i_8=>cond (decide (i_8 < (s_1.length:Int))) ((idxS s_1 i_8).bind λ v_11=>(getI gtAscii v_11).bind λ v_12=>g_strings_Fields_l0 s_1 k (IntKind.wrap .i64 (n_5+(andI .i64 wasSpace_6 (notI .i64 (IntKind.wrap .i64 v_12))))) (IntKind.wrap .i64 v_12) (orI .u8 setBits_7 v_11) (IntKind.wrap .i64 (i_8+1))) (some (n_5,setBits_7))
def g_strings_Fields_l1 (s_1:Bs):Nat->Int->Option Int
 | 0,_=>none
 | k+1,i_15=>(cond (decide (i_15 < (s_1.length:Int))) ((idxS s_1 i_15).bind λ v_18=>(getI gtAscii v_18).bind λ v_19=>some (v_19 != 0)) (some false):Option (Bool)).bind λ v_17=>cond v_17 (g_strings_Fields_l1 s_1 k (IntKind.wrap .i64 (i_15+1))) (some i_15)
def g_strings_Fields_l3 (s_1:Bs):Nat->Int->Option Int
 | 0,_=>none
 | k+1,i_33=>(cond (decide (i_33 < (s_1.length:Int))) ((idxS s_1 i_33).bind λ v_36=>(getI gtAscii v_36).bind λ v_37=>some (v_37 != 0)) (some false):Option (Bool)).bind λ v_35=>cond v_35 (g_strings_Fields_l3 s_1 k (IntKind.wrap .i64 (i_33+1))) (some i_33)
def g_strings_Fields_l2 (s_1:Bs):Nat->(List Bs)->Int->Int->Int->Option ((List Bs)×Int×Int)
 | 0,_,_,_,_=>none
 | k+1,a_20,na_21,fieldStart_22,i_23=>cond (decide (i_23 < (s_1.length:Int))) ((idxS s_1 i_23).bind λ v_27=>(getI gtAscii v_27).bind λ v_28=>cond (v_28==0) (g_strings_Fields_l2 s_1 k a_20 na_21 fieldStart_22 (IntKind.wrap .i64 (i_23+1))) ((subL s_1 fieldStart_22 i_23).bind λ v_29=>(getI a_20 na_21).bind λ v_30=>(g_strings_Fields_l3 s_1 bigK (IntKind.wrap .i64 (i_23+1))).bind λ i_34=>g_strings_Fields_l2 s_1 k (a_20.set na_21.toNat v_29) (IntKind.wrap .i64 (na_21+1)) i_34 i_34)) (some (a_20,na_21,fieldStart_22))
def g_strings_Fields (s_1:Bs):Option (List Bs):=((g_strings_Fields_l0 s_1 bigK 0 1 0 0).bind λ (n_9,setBits_10)=>some (n_9,setBits_10):Option ((Int×Int))).bind λ (n_3,setBits_4)=>cond (decide (setBits_4 ≥ 128)) (none) ((mk ([]:Bs) n_3).bind λ v_13=>(g_strings_Fields_l1 s_1 bigK 0).bind λ i_16=>(g_strings_Fields_l2 s_1 bigK v_13 0 i_16 i_16).bind λ (a_24,na_25,fieldStart_26)=>(cond (decide (fieldStart_26 < (s_1.length:Int))) ((subL s_1 fieldStart_26 (s_1.length:Int)).bind λ v_39=>(getI a_24 na_25).bind λ v_40=>some (a_24.set na_25.toNat v_39)) (some a_24):Option ((List Bs))).bind λ a_38=>some a_38)
def g_impl_prims:Option (List Bs):=(g_strings_Fields [100,117,112,32,100,114,111,112,32,111,118,101,114,32,110,105,112,32,115,119,97,112,32,43,32,45,32,42,32,97,110,100,32,111,114,32,50,42,32,50,47,32,47,109,111,100,32,64,32,33,32,97,32,97,33,32,101,109,105,116,32,107,101,121,32,112,117,115,104,32,112,111,112,32,105,32,46,32,110,111,112]).bind λ y_2=>some y_2
def g_impl_PrimName (k_1:Int):Option Bs:=(g_impl_prims).bind λ y_3=>(g_impl_within k_1 0 (IntKind.wrap .i64 ((y_3.length:Int)-1))).bind λ y_4=>cond y_4 ((getI y_3 k_1).bind λ v_5=>some v_5) (some [])
def g_impl_opOk (o_1:GOp):Option Bool:=cond (o_1.Kind==0) (some true) (cond (o_1.Kind==1) ((g_impl_PrimName (IntKind.wrap .i64 o_1.N)).bind λ y_3=>some (y_3 != [])) (cond (o_1.Kind==2) ((g_impl_within (IntKind.wrap .i64 o_1.N) 0 23).bind λ y_4=>some y_4) ((g_impl_within o_1.Kind 3 8).bind λ y_5=>cond y_5 (some (o_1.N==0)) (some false))))
def g_impl_openIn_l0 (v_7:List GOp) (v_8:Int):Nat->(List Int)->Int->Option ((List Int) ⊕ ((List Int)×Bool))
 | 0,_,_=>none
 | k+1,vopen_9,v_10=>cond (decide (v_10 < v_8)) (((getI v_7 v_10).bind λ v_17=>(g_impl_opOk v_17).bind λ y_18=>cond (!y_18) (some (.inr ([],false))) ((cond (v_17.Kind==3) (some true) (cond (v_17.Kind==4) (some true) (some (v_17.Kind==6))):Option (Bool)).bind λ v_19=>cond v_19 ((app vopen_9 [v_17.Kind]).bind λ v_20=>some (.inl v_20)) ((cond (v_17.Kind==5) (some true) (some (v_17.Kind==7)):Option (Bool)).bind λ v_21=>cond v_21 ((cond (decide ((IntKind.wrap .i64 ((vopen_9.length:Int)-1)) < 0)) (some true) ((getI vopen_9 (IntKind.wrap .i64 ((vopen_9.length:Int)-1))).bind λ v_23=>some ((v_23==6) != (v_17.Kind==7))):Option (Bool)).bind λ v_22=>cond v_22 (some (.inr ([],false))) ((subL vopen_9 0 (IntKind.wrap .i64 ((vopen_9.length:Int)-1))).bind λ v_24=>some (.inl v_24))) (some (.inl vopen_9)))):Option ((List Int) ⊕ ((List Int)×Bool))).bind λ o=>match o with | .inl vopen_14=>g_impl_openIn_l0 v_7 v_8 k vopen_14 (IntKind.wrap .i64 (v_10+1)) | .inr (v_15,v_16)=>some (.inr (v_15,v_16))) (some (.inl vopen_9))
def g_impl_openIn (body_1:List GOp):Option ((List Int)×Bool):=((g_impl_openIn_l0 body_1 (body_1.length:Int) bigK ([]:List Int) 0).bind λ o=>match o with | .inl vopen_11=>some (.inl vopen_11) | .inr (v_12,v_13)=>some (.inr (v_12,v_13)):Option ((List Int) ⊕ ((List Int)×Bool))).bind λ o=>match o with | .inl vopen_4=>some (vopen_4,decide ((body_1.length:Int)<=60)) | .inr (v_5,v_6)=>some (v_5,v_6)
def g_impl_letters:Option Bs:=some [32,114,116,111,101,97,110,105,115,109,99,121,108,103,102,119,100,118,112,98,104,120,117,113,48,49,50,51,52,53,54,55,56,57,106,45,107,46,122,47,59,39,33,43,64,42,44,63]
def g_ibytealg_IndexByteString (s_1:Bs) (c_2:Int):Option Int:=gIdxB s_1 c_2
def g_istringslite_IndexByte (s_1:Bs) (c_2:Int):Option Int:=(g_ibytealg_IndexByteString s_1 c_2).bind λ y_4=>some y_4
def g_strings_IndexByte (s_1:Bs) (c_2:Int):Option Int:=(g_istringslite_IndexByte s_1 c_2).bind λ y_4=>some y_4
def g_impl_LetterOf (b_1:Int):Option Int:=(g_impl_letters).bind λ y_3=>(g_strings_IndexByte y_3 b_1).bind λ y_4=>some y_4
def g_impl_NameOk_l0 (s_1:Bs) (v_4:Int):Nat->Int->Option (Unit ⊕ Bool)
 | 0,_=>none
 | k+1,v_5=>cond (decide (v_5 < v_4)) ((idxS s_1 v_5).bind λ v_7=>(g_impl_LetterOf v_7).bind λ y_8=>cond (decide (y_8 < 1)) (some (.inr false)) (g_impl_NameOk_l0 s_1 v_4 k (IntKind.wrap .i64 (v_5+1)))) (some (.inl ()))
def g_impl_NameOk (s_1:Bs):Option Bool:=((g_impl_NameOk_l0 s_1 (s_1.length:Int) bigK 0).bind λ o=>match o with | .inl ()=>some (.inl ()) | .inr v_6=>some (.inr v_6):Option (Unit ⊕ Bool)).bind λ o=>match o with | .inl ()=>(g_impl_within (s_1.length:Int) 1 24).bind λ y_9=>some y_9 | .inr v_3=>some v_3
def g_impl_callsBelowc1 (o_1:GOp) (a_2:Int):Option Bool:=cond (o_1.Kind==2) (some (decide ((IntKind.wrap .i64 o_1.N) ≥ a_2))) (some false)
def g_slices_IndexFunc_Op_impl_callsBelowc1_l0 (s_1:List GOp) (v_5:Int) (c_2:Int):Nat->Int->Option (Unit ⊕ Int)
 | 0,_=>none
 | k+1,v_6=>cond (decide (v_6 < v_5)) ((getI s_1 v_6).bind λ v_8=>(g_impl_callsBelowc1 v_8 c_2).bind λ y_9=>cond y_9 (some (.inr v_6)) (g_slices_IndexFunc_Op_impl_callsBelowc1_l0 s_1 v_5 c_2 k (IntKind.wrap .i64 (v_6+1)))) (some (.inl ()))
def g_slices_IndexFunc_Op_impl_callsBelowc1 (s_1:List GOp) (c_2:Int):Option Int:=((g_slices_IndexFunc_Op_impl_callsBelowc1_l0 s_1 (s_1.length:Int) c_2 bigK 0).bind λ o=>match o with | .inl ()=>some (.inl ()) | .inr v_7=>some (.inr v_7):Option (Unit ⊕ Int)).bind λ o=>match o with | .inl ()=>some (-1) | .inr v_4=>some v_4
def g_slices_ContainsFunc_Op_impl_callsBelowc1 (s_1:List GOp) (c_2:Int):Option Bool:=(g_slices_IndexFunc_Op_impl_callsBelowc1 s_1 c_2).bind λ y_4=>some (decide (y_4 ≥ 0))
def g_impl_callsBelow (body_1:List GOp) (n_2:Int):Option Bool:=(g_slices_ContainsFunc_Op_impl_callsBelowc1 body_1 n_2).bind λ y_4=>some (!y_4)
def g_impl_WorldOk_l0 (v_6:List GDef) (v_7:Int) (w_1:GWorld):Nat->Int->Option (Unit ⊕ Bool)
 | 0,_=>none
 | k+1,v_8=>cond (decide (v_8 < v_7)) ((getI v_6 v_8).bind λ v_10=>(g_impl_openIn v_10.Body).bind λ y_11=>(cond (!y_11.2) (some true) ((g_impl_NameOk v_10.Name).bind λ y_13=>cond (!y_13) (some true) ((g_impl_callsBelow v_10.Body (w_1.Defs.length:Int)).bind λ y_14=>cond (!y_14) (some true) (cond (decide ((y_11.1.length:Int) > 0)) (cond w_1.Open (some (!(v_8==(IntKind.wrap .i64 ((w_1.Defs.length:Int)-1))))) (some true)) (some false)))):Option (Bool)).bind λ v_12=>cond v_12 (some (.inr false)) (g_impl_WorldOk_l0 v_6 v_7 w_1 k (IntKind.wrap .i64 (v_8+1)))) (some (.inl ()))
def g_impl_WorldOk_l1 (v_16:List GEntry) (v_17:Int) (w_1:GWorld):Nat->Int->Option (Unit ⊕ Bool)
 | 0,_=>none
 | k+1,v_18=>cond (decide (v_18 < v_17)) (((getI v_16 v_18).bind λ v_21=>(g_impl_within v_21.N 0 (IntKind.wrap .i64 ((w_1.Defs.length:Int)-1))).bind λ y_22=>(cond v_21.Var ((g_slices_Contains_int w_1.St.Vars v_21.N).bind λ y_24=>some y_24) (some y_22):Option (Bool)).bind λ fine_23=>(cond (!fine_23) (some true) ((g_impl_NameOk v_21.Name).bind λ y_26=>some (!y_26)):Option (Bool)).bind λ v_25=>cond v_25 (some (.inr false)) (some (.inl ())):Option (Unit ⊕ Bool)).bind λ o=>match o with | .inl ()=>g_impl_WorldOk_l1 v_16 v_17 w_1 k (IntKind.wrap .i64 (v_18+1)) | .inr v_20=>some (.inr v_20)) (some (.inl ()))
def g_impl_WorldOk (w_1:GWorld):Option Bool:=((g_impl_StOk w_1.St).bind λ y_4=>cond (!y_4) (some true) (cond (decide ((w_1.Defs.length:Int) > 24)) (some true) (cond (decide ((w_1.Dict.length:Int) > 40)) (some true) (cond w_1.Open (some ((w_1.Defs.length:Int)==0)) (some false)))):Option (Bool)).bind λ v_3=>cond v_3 (some false) (((g_impl_WorldOk_l0 w_1.Defs (w_1.Defs.length:Int) w_1 bigK 0).bind λ o=>match o with | .inl ()=>some (.inl ()) | .inr v_9=>some (.inr v_9):Option (Unit ⊕ Bool)).bind λ o=>match o with | .inl ()=>(((g_impl_WorldOk_l1 w_1.Dict (w_1.Dict.length:Int) w_1 bigK 0).bind λ o=>match o with | .inl ()=>some (.inl ()) | .inr v_19=>some (.inr v_19):Option (Unit ⊕ Bool)).bind λ o=>match o with | .inl ()=>some true | .inr v_15=>some v_15) | .inr v_5=>some v_5)
def g_impl_Open (st_1:GStore) (vin_2:List Int) (fuel_3:Int):Option GSession:=(g_impl_NewWorld st_1 vin_2 fuel_3).bind λ y_5=>(g_impl_WorldOk y_5).bind λ y_6=>cond (!y_6) (some (⟨(⟨[],[],(⟨[],[],0,[],[],[],[],[],0,0⟩:GSt),false,false⟩:GWorld),(⟨[],[],[]⟩:GEd),0⟩:GSession)) (some (⟨y_5,(⟨[],[],[]⟩:GEd),(-1)⟩:GSession))
def g_laws_eqOp (a_1:GOp) (b_2:GOp):Option Bool:=cond (a_1.Kind != b_2.Kind) (some false) (cond (a_1.N != b_2.N) (some false) (some true))
def g_laws_eqOpS_l0 (a_1:List GOp) (b_2:List GOp):Nat->Int->Option (Unit ⊕ Bool)
 | 0,_=>none
 | k+1,i_5=>cond (decide (i_5 < (a_1.length:Int))) ((getI a_1 i_5).bind λ v_7=>(getI b_2 i_5).bind λ v_8=>(g_laws_eqOp v_7 v_8).bind λ y_9=>cond (!y_9) (some (.inr false)) (g_laws_eqOpS_l0 a_1 b_2 k (IntKind.wrap .i64 (i_5+1)))) (some (.inl ()))
def g_laws_eqOpS (a_1:List GOp) (b_2:List GOp):Option Bool:=cond ((a_1.length:Int) != (b_2.length:Int)) (some false) (((g_laws_eqOpS_l0 a_1 b_2 bigK 0).bind λ o=>match o with | .inl ()=>some (.inl ()) | .inr v_6=>some (.inr v_6):Option (Unit ⊕ Bool)).bind λ o=>match o with | .inl ()=>some true | .inr v_4=>some v_4)
def g_laws_eqDef (a_1:GDef) (b_2:GDef):Option Bool:=cond (a_1.Name != b_2.Name) (some false) ((g_laws_eqOpS a_1.Body b_2.Body).bind λ y_4=>cond (!y_4) (some false) (some true))
def g_laws_eqDefS_l0 (a_1:List GDef) (b_2:List GDef):Nat->Int->Option (Unit ⊕ Bool)
 | 0,_=>none
 | k+1,i_5=>cond (decide (i_5 < (a_1.length:Int))) ((getI a_1 i_5).bind λ v_7=>(getI b_2 i_5).bind λ v_8=>(g_laws_eqDef v_7 v_8).bind λ y_9=>cond (!y_9) (some (.inr false)) (g_laws_eqDefS_l0 a_1 b_2 k (IntKind.wrap .i64 (i_5+1)))) (some (.inl ()))
def g_laws_eqDefS (a_1:List GDef) (b_2:List GDef):Option Bool:=cond ((a_1.length:Int) != (b_2.length:Int)) (some false) (((g_laws_eqDefS_l0 a_1 b_2 bigK 0).bind λ o=>match o with | .inl ()=>some (.inl ()) | .inr v_6=>some (.inr v_6):Option (Unit ⊕ Bool)).bind λ o=>match o with | .inl ()=>some true | .inr v_4=>some v_4)
def g_laws_eqEntry (a_1:GEntry) (b_2:GEntry):Option Bool:=cond (a_1.Name != b_2.Name) (some false) (cond (a_1.Var != b_2.Var) (some false) (cond (a_1.N != b_2.N) (some false) (some true)))
def g_laws_eqEntryS_l0 (a_1:List GEntry) (b_2:List GEntry):Nat->Int->Option (Unit ⊕ Bool)
 | 0,_=>none
 | k+1,i_5=>cond (decide (i_5 < (a_1.length:Int))) ((getI a_1 i_5).bind λ v_7=>(getI b_2 i_5).bind λ v_8=>(g_laws_eqEntry v_7 v_8).bind λ y_9=>cond (!y_9) (some (.inr false)) (g_laws_eqEntryS_l0 a_1 b_2 k (IntKind.wrap .i64 (i_5+1)))) (some (.inl ()))
def g_laws_eqEntryS (a_1:List GEntry) (b_2:List GEntry):Option Bool:=cond ((a_1.length:Int) != (b_2.length:Int)) (some false) (((g_laws_eqEntryS_l0 a_1 b_2 bigK 0).bind λ o=>match o with | .inl ()=>some (.inl ()) | .inr v_6=>some (.inr v_6):Option (Unit ⊕ Bool)).bind λ o=>match o with | .inl ()=>some true | .inr v_4=>some v_4)
def g_laws_eqInt32S_l0 (a_1:List Int) (b_2:List Int):Nat->Int->Option (Unit ⊕ Bool)
 | 0,_=>none
 | k+1,i_5=>cond (decide (i_5 < (a_1.length:Int))) ((getI a_1 i_5).bind λ v_7=>(getI b_2 i_5).bind λ v_8=>cond (v_7 != v_8) (some (.inr false)) (g_laws_eqInt32S_l0 a_1 b_2 k (IntKind.wrap .i64 (i_5+1)))) (some (.inl ()))
def g_laws_eqInt32S (a_1:List Int) (b_2:List Int):Option Bool:=cond ((a_1.length:Int) != (b_2.length:Int)) (some false) (((g_laws_eqInt32S_l0 a_1 b_2 bigK 0).bind λ o=>match o with | .inl ()=>some (.inl ()) | .inr v_6=>some (.inr v_6):Option (Unit ⊕ Bool)).bind λ o=>match o with | .inl ()=>some true | .inr v_4=>some v_4)
def g_laws_eqSlot (a_1:GSlot) (b_2:GSlot):Option Bool:=cond (a_1.Kind != b_2.Kind) (some false) (cond (a_1.N != b_2.N) (some false) (some true))
def g_laws_eqSlotS_l0 (a_1:List GSlot) (b_2:List GSlot):Nat->Int->Option (Unit ⊕ Bool)
 | 0,_=>none
 | k+1,i_5=>cond (decide (i_5 < (a_1.length:Int))) ((getI a_1 i_5).bind λ v_7=>(getI b_2 i_5).bind λ v_8=>(g_laws_eqSlot v_7 v_8).bind λ y_9=>cond (!y_9) (some (.inr false)) (g_laws_eqSlotS_l0 a_1 b_2 k (IntKind.wrap .i64 (i_5+1)))) (some (.inl ()))
def g_laws_eqSlotS (a_1:List GSlot) (b_2:List GSlot):Option Bool:=cond ((a_1.length:Int) != (b_2.length:Int)) (some false) (((g_laws_eqSlotS_l0 a_1 b_2 bigK 0).bind λ o=>match o with | .inl ()=>some (.inl ()) | .inr v_6=>some (.inr v_6):Option (Unit ⊕ Bool)).bind λ o=>match o with | .inl ()=>some true | .inr v_4=>some v_4)
def g_laws_eqUint32S_l0 (a_1:List Int) (b_2:List Int):Nat->Int->Option (Unit ⊕ Bool)
 | 0,_=>none
 | k+1,i_5=>cond (decide (i_5 < (a_1.length:Int))) ((getI a_1 i_5).bind λ v_7=>(getI b_2 i_5).bind λ v_8=>cond (v_7 != v_8) (some (.inr false)) (g_laws_eqUint32S_l0 a_1 b_2 k (IntKind.wrap .i64 (i_5+1)))) (some (.inl ()))
def g_laws_eqUint32S (a_1:List Int) (b_2:List Int):Option Bool:=cond ((a_1.length:Int) != (b_2.length:Int)) (some false) (((g_laws_eqUint32S_l0 a_1 b_2 bigK 0).bind λ o=>match o with | .inl ()=>some (.inl ()) | .inr v_6=>some (.inr v_6):Option (Unit ⊕ Bool)).bind λ o=>match o with | .inl ()=>some true | .inr v_4=>some v_4)
def g_laws_eqIntS_l0 (a_1:List Int) (b_2:List Int):Nat->Int->Option (Unit ⊕ Bool)
 | 0,_=>none
 | k+1,i_5=>cond (decide (i_5 < (a_1.length:Int))) ((getI a_1 i_5).bind λ v_7=>(getI b_2 i_5).bind λ v_8=>cond (v_7 != v_8) (some (.inr false)) (g_laws_eqIntS_l0 a_1 b_2 k (IntKind.wrap .i64 (i_5+1)))) (some (.inl ()))
def g_laws_eqIntS (a_1:List Int) (b_2:List Int):Option Bool:=cond ((a_1.length:Int) != (b_2.length:Int)) (some false) (((g_laws_eqIntS_l0 a_1 b_2 bigK 0).bind λ o=>match o with | .inl ()=>some (.inl ()) | .inr v_6=>some (.inr v_6):Option (Unit ⊕ Bool)).bind λ o=>match o with | .inl ()=>some true | .inr v_4=>some v_4)
def g_laws_eqByteS_l0 (a_1:List Int) (b_2:List Int):Nat->Int->Option (Unit ⊕ Bool)
 | 0,_=>none
 | k+1,i_5=>cond (decide (i_5 < (a_1.length:Int))) ((getI a_1 i_5).bind λ v_7=>(getI b_2 i_5).bind λ v_8=>cond (v_7 != v_8) (some (.inr false)) (g_laws_eqByteS_l0 a_1 b_2 k (IntKind.wrap .i64 (i_5+1)))) (some (.inl ()))
def g_laws_eqByteS (a_1:List Int) (b_2:List Int):Option Bool:=cond ((a_1.length:Int) != (b_2.length:Int)) (some false) (((g_laws_eqByteS_l0 a_1 b_2 bigK 0).bind λ o=>match o with | .inl ()=>some (.inl ()) | .inr v_6=>some (.inr v_6):Option (Unit ⊕ Bool)).bind λ o=>match o with | .inl ()=>some true | .inr v_4=>some v_4)
def g_laws_eqSt (a_1:GSt) (b_2:GSt):Option Bool:=(g_laws_eqInt32S a_1.Data b_2.Data).bind λ y_4=>cond (!y_4) (some false) ((g_laws_eqSlotS a_1.Ret b_2.Ret).bind λ y_5=>cond (!y_5) (some false) (cond (a_1.A != b_2.A) (some false) ((g_laws_eqInt32S a_1.Mem b_2.Mem).bind λ y_6=>cond (!y_6) (some false) ((g_laws_eqUint32S a_1.Cells b_2.Cells).bind λ y_7=>cond (!y_7) (some false) ((g_laws_eqIntS a_1.Vars b_2.Vars).bind λ y_8=>cond (!y_8) (some false) ((g_laws_eqByteS a_1.Out b_2.Out).bind λ y_9=>cond (!y_9) (some false) ((g_laws_eqByteS a_1.In b_2.In).bind λ y_10=>cond (!y_10) (some false) (cond (a_1.Fault != b_2.Fault) (some false) (cond (a_1.Fuel != b_2.Fuel) (some false) (some true))))))))))
def g_laws_eqWorld (a_1:GWorld) (b_2:GWorld):Option Bool:=(g_laws_eqDefS a_1.Defs b_2.Defs).bind λ y_4=>cond (!y_4) (some false) ((g_laws_eqEntryS a_1.Dict b_2.Dict).bind λ y_5=>cond (!y_5) (some false) ((g_laws_eqSt a_1.St b_2.St).bind λ y_6=>cond (!y_6) (some false) (cond (a_1.Open != b_2.Open) (some false) (cond (a_1.Yellow != b_2.Yellow) (some false) (some true)))))
def g_laws_eqItem (a_1:GItem) (b_2:GItem):Option Bool:=cond (a_1.Kind != b_2.Kind) (some false) (cond (a_1.Name != b_2.Name) (some false) (cond (a_1.N != b_2.N) (some false) (cond (a_1.Hex != b_2.Hex) (some false) (cond (a_1.Raw != b_2.Raw) (some false) (some true)))))
def g_laws_eqItemS_l0 (a_1:List GItem) (b_2:List GItem):Nat->Int->Option (Unit ⊕ Bool)
 | 0,_=>none
 | k+1,i_5=>cond (decide (i_5 < (a_1.length:Int))) ((getI a_1 i_5).bind λ v_7=>(getI b_2 i_5).bind λ v_8=>(g_laws_eqItem v_7 v_8).bind λ y_9=>cond (!y_9) (some (.inr false)) (g_laws_eqItemS_l0 a_1 b_2 k (IntKind.wrap .i64 (i_5+1)))) (some (.inl ()))
def g_laws_eqItemS (a_1:List GItem) (b_2:List GItem):Option Bool:=cond ((a_1.length:Int) != (b_2.length:Int)) (some false) (((g_laws_eqItemS_l0 a_1 b_2 bigK 0).bind λ o=>match o with | .inl ()=>some (.inl ()) | .inr v_6=>some (.inr v_6):Option (Unit ⊕ Bool)).bind λ o=>match o with | .inl ()=>some true | .inr v_4=>some v_4)
def g_laws_eqEd (a_1:GEd) (b_2:GEd):Option Bool:=(g_laws_eqItemS a_1.Left b_2.Left).bind λ y_4=>cond (!y_4) (some false) ((g_laws_eqItemS a_1.Right b_2.Right).bind λ y_5=>cond (!y_5) (some false) ((g_laws_eqItemS a_1.Cut b_2.Cut).bind λ y_6=>cond (!y_6) (some false) (some true)))
def g_laws_eqSession (a_1:GSession) (b_2:GSession):Option Bool:=(g_laws_eqWorld a_1.World b_2.World).bind λ y_4=>cond (!y_4) (some false) ((g_laws_eqEd a_1.Ed b_2.Ed).bind λ y_5=>cond (!y_5) (some false) (cond (a_1.Block != b_2.Block) (some false) (some true)))
def g_laws_eqStore (a_1:GStore) (b_2:GStore):Option Bool:=(g_laws_eqUint32S a_1.Cells b_2.Cells).bind λ y_4=>cond (!y_4) (some false) (some true)
def g_impl_NewWorld_hand (s_1:GStore) (vin_2:List Int) (fuel_3:Int):Option GWorld:=(g_impl_NewSt s_1 vin_2 fuel_3).bind λ y_5=>some (⟨[],[],y_5,false,false⟩:GWorld)
def g_impl_Open_hand (st_1:GStore) (vin_2:List Int) (fuel_3:Int):Option GSession:=(g_impl_NewWorld_hand st_1 vin_2 fuel_3).bind λ y_5=>(g_impl_WorldOk y_5).bind λ y_6=>cond (!y_6) (some (⟨(⟨[],[],(⟨[],[],0,[],[],[],[],[],0,0⟩:GSt),false,false⟩:GWorld),(⟨[],[],[]⟩:GEd),0⟩:GSession)) (some (⟨y_5,(⟨[],[],[]⟩:GEd),(-1)⟩:GSession))
def g_laws_markUint32S_l0:Nat->(List Int)->Int->Int->Option (Int×(List Int))
 | 0,_,_,_=>none
 | k+1,a_8,k_9,i_10=>cond (decide (i_10 < (a_8.length:Int))) ((getI a_8 i_10).bind λ v_13=>g_laws_markUint32S_l0 k (a_8.set i_10.toNat (IntKind.wrap .u32 k_9)) (IntKind.wrap .i64 (k_9+1)) (IntKind.wrap .i64 (i_10+1))) (some (k_9,a_8))
def g_laws_markUint32S (a_1:List Int) (k_2:Int):Option (Int×(List Int)):=((g_laws_markUint32S_l0 bigK a_1 k_2 0).bind λ (k_11,p_12)=>some (k_11,p_12):Option ((Int×(List Int)))).bind λ (k_5,p_6)=>some (k_5,p_6)
def g_laws_markStore (a_1:GStore) (k_2:Int):Option (Int×(List Int)):=(g_laws_markUint32S a_1.Cells k_2).bind λ y_5=>some (y_5.1,y_5.2)
def g_laws_markByteS_l0:Nat->(List Int)->Int->Int->Option (Int×(List Int))
 | 0,_,_,_=>none
 | k+1,a_8,k_9,i_10=>cond (decide (i_10 < (a_8.length:Int))) ((getI a_8 i_10).bind λ v_13=>g_laws_markByteS_l0 k (a_8.set i_10.toNat (IntKind.wrap .u8 k_9)) (IntKind.wrap .i64 (k_9+1)) (IntKind.wrap .i64 (i_10+1))) (some (k_9,a_8))
def g_laws_markByteS (a_1:List Int) (k_2:Int):Option (Int×(List Int)):=((g_laws_markByteS_l0 bigK a_1 k_2 0).bind λ (k_11,p_12)=>some (k_11,p_12):Option ((Int×(List Int)))).bind λ (k_5,p_6)=>some (k_5,p_6)
def g_laws_markText_l0:Nat->Int->Bs->Option Bs
 | 0,_,_=>none
 | k+1,k_4,out_5=>cond (decide (k_4 > 0)) ((catS (strOf [IntKind.wrap .u8 (IntKind.wrap .i64 (48+(Int.tmod k_4 10)))]) out_5).bind λ v_7=>g_laws_markText_l0 k (IntKind.wrap .i64 (Int.tdiv k_4 10)) v_7) (some out_5)
def g_laws_markText (k_1:Int):Option Bs:=cond (decide (k_1<=0)) (some [109,48]) ((g_laws_markText_l0 bigK k_1 []).bind λ out_6=>(catS [109] out_6).bind λ v_8=>some v_8)
def g_laws_markDefS_l0 (a_1:List GDef):Nat->Int->Int->Option Int
 | 0,_,_=>none
 | k+1,k_6,i_7=>cond (decide (i_7 < (a_1.length:Int))) ((g_laws_markText k_6).bind λ y_9=>(getI a_1 i_7).bind λ v_10=>none) (some k_6)
def g_laws_markDefS (a_1:List GDef) (k_2:Int):Option Int:=((g_laws_markDefS_l0 a_1 bigK k_2 0).bind λ k_8=>some k_8:Option (Int)).bind λ k_4=>some k_4
def g_laws_markEntryS_l0:Nat->(List GEntry)->Int->Int->Option (Int×(List GEntry))
 | 0,_,_,_=>none
 | k+1,a_8,k_9,i_10=>cond (decide (i_10 < (a_8.length:Int))) ((g_laws_markText k_9).bind λ y_13=>(getI a_8 i_10).bind λ v_14=>(getI (a_8.set i_10.toNat (⟨y_13,v_14.Var,v_14.N⟩:GEntry)) i_10).bind λ v_15=>(getI ((a_8.set i_10.toNat (⟨y_13,v_14.Var,v_14.N⟩:GEntry)).set i_10.toNat (⟨v_15.Name,((Int.tmod (IntKind.wrap .i64 (k_9+1)) 3)==0),v_15.N⟩:GEntry)) i_10).bind λ v_16=>g_laws_markEntryS_l0 k (((a_8.set i_10.toNat (⟨y_13,v_14.Var,v_14.N⟩:GEntry)).set i_10.toNat (⟨v_15.Name,((Int.tmod (IntKind.wrap .i64 (k_9+1)) 3)==0),v_15.N⟩:GEntry)).set i_10.toNat (⟨v_16.Name,v_16.Var,IntKind.wrap .i64 ((IntKind.wrap .i64 (k_9+1))+1)⟩:GEntry)) (IntKind.wrap .i64 ((IntKind.wrap .i64 ((IntKind.wrap .i64 (k_9+1))+1))+1)) (IntKind.wrap .i64 (i_10+1))) (some (k_9,a_8))
def g_laws_markEntryS (a_1:List GEntry) (k_2:Int):Option (Int×(List GEntry)):=((g_laws_markEntryS_l0 bigK a_1 k_2 0).bind λ (k_11,p_12)=>some (k_11,p_12):Option ((Int×(List GEntry)))).bind λ (k_5,p_6)=>some (k_5,p_6)
def g_laws_markInt32S_l0:Nat->(List Int)->Int->Int->Option (Int×(List Int))
 | 0,_,_,_=>none
 | k+1,a_8,k_9,i_10=>cond (decide (i_10 < (a_8.length:Int))) ((getI a_8 i_10).bind λ v_13=>g_laws_markInt32S_l0 k (a_8.set i_10.toNat (IntKind.wrap .i32 k_9)) (IntKind.wrap .i64 (k_9+1)) (IntKind.wrap .i64 (i_10+1))) (some (k_9,a_8))
def g_laws_markInt32S (a_1:List Int) (k_2:Int):Option (Int×(List Int)):=((g_laws_markInt32S_l0 bigK a_1 k_2 0).bind λ (k_11,p_12)=>some (k_11,p_12):Option ((Int×(List Int)))).bind λ (k_5,p_6)=>some (k_5,p_6)
def g_laws_markSlotS_l0:Nat->(List GSlot)->Int->Int->Option (Int×(List GSlot))
 | 0,_,_,_=>none
 | k+1,a_8,k_9,i_10=>cond (decide (i_10 < (a_8.length:Int))) ((getI a_8 i_10).bind λ v_13=>(getI (a_8.set i_10.toNat (⟨k_9,v_13.N⟩:GSlot)) i_10).bind λ v_14=>g_laws_markSlotS_l0 k ((a_8.set i_10.toNat (⟨k_9,v_13.N⟩:GSlot)).set i_10.toNat (⟨v_14.Kind,IntKind.wrap .i32 (IntKind.wrap .i64 (k_9+1))⟩:GSlot)) (IntKind.wrap .i64 ((IntKind.wrap .i64 (k_9+1))+1)) (IntKind.wrap .i64 (i_10+1))) (some (k_9,a_8))
def g_laws_markSlotS (a_1:List GSlot) (k_2:Int):Option (Int×(List GSlot)):=((g_laws_markSlotS_l0 bigK a_1 k_2 0).bind λ (k_11,p_12)=>some (k_11,p_12):Option ((Int×(List GSlot)))).bind λ (k_5,p_6)=>some (k_5,p_6)
def g_laws_markIntS_l0:Nat->(List Int)->Int->Int->Option (Int×(List Int))
 | 0,_,_,_=>none
 | k+1,a_8,k_9,i_10=>cond (decide (i_10 < (a_8.length:Int))) ((getI a_8 i_10).bind λ v_13=>g_laws_markIntS_l0 k (a_8.set i_10.toNat k_9) (IntKind.wrap .i64 (k_9+1)) (IntKind.wrap .i64 (i_10+1))) (some (k_9,a_8))
def g_laws_markIntS (a_1:List Int) (k_2:Int):Option (Int×(List Int)):=((g_laws_markIntS_l0 bigK a_1 k_2 0).bind λ (k_11,p_12)=>some (k_11,p_12):Option ((Int×(List Int)))).bind λ (k_5,p_6)=>some (k_5,p_6)
def g_laws_markSt (a_1:GSt) (k_2:Int):Option (Int×(List Int)×(List GSlot)×(List Int)×(List Int)×(List Int)×(List Int)×(List Int)):=(g_laws_markInt32S a_1.Data k_2).bind λ y_11=>(g_laws_markSlotS a_1.Ret y_11.1).bind λ y_12=>(g_laws_markInt32S a_1.Mem y_12.1).bind λ y_13=>(g_laws_markUint32S a_1.Cells y_13.1).bind λ y_14=>(g_laws_markIntS a_1.Vars y_14.1).bind λ y_15=>(g_laws_markByteS a_1.Out y_15.1).bind λ y_16=>(g_laws_markByteS a_1.In y_16.1).bind λ y_17=>some (y_17.1,y_11.2,y_12.2,y_13.2,y_14.2,y_15.2,y_16.2,y_17.2)
def g_laws_markWorld (a_1:GWorld) (k_2:Int):Option (Int×(List GDef)×(List GEntry)×(List Int)×(List GSlot)×(List Int)×(List Int)×(List Int)×(List Int)×(List Int)):=(g_laws_markDefS a_1.Defs k_2).bind λ y_13=>(g_laws_markEntryS a_1.Dict y_13).bind λ y_14=>(g_laws_markSt a_1.St y_14.1).bind λ y_15=>some (y_15.1,a_1.Defs,y_14.2,y_15.2.1,y_15.2.2.1,y_15.2.2.2.1,y_15.2.2.2.2.1,y_15.2.2.2.2.2.1,y_15.2.2.2.2.2.2.1,y_15.2.2.2.2.2.2.2)
def g_laws_markItemS_l0:Nat->(List GItem)->Int->Int->Option (Int×(List GItem))
 | 0,_,_,_=>none
 | k+1,a_8,k_9,i_10=>cond (decide (i_10 < (a_8.length:Int))) ((getI a_8 i_10).bind λ v_13=>(g_laws_markText (IntKind.wrap .i64 (k_9+1))).bind λ y_14=>(getI (a_8.set i_10.toNat (⟨k_9,v_13.Name,v_13.N,v_13.Hex,v_13.Raw⟩:GItem)) i_10).bind λ v_15=>(getI ((a_8.set i_10.toNat (⟨k_9,v_13.Name,v_13.N,v_13.Hex,v_13.Raw⟩:GItem)).set i_10.toNat (⟨v_15.Kind,y_14,v_15.N,v_15.Hex,v_15.Raw⟩:GItem)) i_10).bind λ v_16=>(getI (((a_8.set i_10.toNat (⟨k_9,v_13.Name,v_13.N,v_13.Hex,v_13.Raw⟩:GItem)).set i_10.toNat (⟨v_15.Kind,y_14,v_15.N,v_15.Hex,v_15.Raw⟩:GItem)).set i_10.toNat (⟨v_16.Kind,v_16.Name,IntKind.wrap .i32 (IntKind.wrap .i64 ((IntKind.wrap .i64 (k_9+1))+1)),v_16.Hex,v_16.Raw⟩:GItem)) i_10).bind λ v_17=>(getI ((((a_8.set i_10.toNat (⟨k_9,v_13.Name,v_13.N,v_13.Hex,v_13.Raw⟩:GItem)).set i_10.toNat (⟨v_15.Kind,y_14,v_15.N,v_15.Hex,v_15.Raw⟩:GItem)).set i_10.toNat (⟨v_16.Kind,v_16.Name,IntKind.wrap .i32 (IntKind.wrap .i64 ((IntKind.wrap .i64 (k_9+1))+1)),v_16.Hex,v_16.Raw⟩:GItem)).set i_10.toNat (⟨v_17.Kind,v_17.Name,v_17.N,((Int.tmod (IntKind.wrap .i64 ((IntKind.wrap .i64 ((IntKind.wrap .i64 (k_9+1))+1))+1)) 3)==0),v_17.Raw⟩:GItem)) i_10).bind λ v_18=>g_laws_markItemS_l0 k (((((a_8.set i_10.toNat (⟨k_9,v_13.Name,v_13.N,v_13.Hex,v_13.Raw⟩:GItem)).set i_10.toNat (⟨v_15.Kind,y_14,v_15.N,v_15.Hex,v_15.Raw⟩:GItem)).set i_10.toNat (⟨v_16.Kind,v_16.Name,IntKind.wrap .i32 (IntKind.wrap .i64 ((IntKind.wrap .i64 (k_9+1))+1)),v_16.Hex,v_16.Raw⟩:GItem)).set i_10.toNat (⟨v_17.Kind,v_17.Name,v_17.N,((Int.tmod (IntKind.wrap .i64 ((IntKind.wrap .i64 ((IntKind.wrap .i64 (k_9+1))+1))+1)) 3)==0),v_17.Raw⟩:GItem)).set i_10.toNat (⟨v_18.Kind,v_18.Name,v_18.N,v_18.Hex,IntKind.wrap .u32 (IntKind.wrap .i64 ((IntKind.wrap .i64 ((IntKind.wrap .i64 ((IntKind.wrap .i64 (k_9+1))+1))+1))+1))⟩:GItem)) (IntKind.wrap .i64 ((IntKind.wrap .i64 ((IntKind.wrap .i64 ((IntKind.wrap .i64 ((IntKind.wrap .i64 (k_9+1))+1))+1))+1))+1)) (IntKind.wrap .i64 (i_10+1))) (some (k_9,a_8))
def g_laws_markItemS (a_1:List GItem) (k_2:Int):Option (Int×(List GItem)):=((g_laws_markItemS_l0 bigK a_1 k_2 0).bind λ (k_11,p_12)=>some (k_11,p_12):Option ((Int×(List GItem)))).bind λ (k_5,p_6)=>some (k_5,p_6)
def g_laws_markEd (a_1:GEd) (k_2:Int):Option (Int×(List GItem)×(List GItem)×(List GItem)):=(g_laws_markItemS a_1.Left k_2).bind λ y_7=>(g_laws_markItemS a_1.Right y_7.1).bind λ y_8=>(g_laws_markItemS a_1.Cut y_8.1).bind λ y_9=>some (y_9.1,y_7.2,y_8.2,y_9.2)
def g_laws_markSession (a_1:GSession) (k_2:Int):Option (Int×(List GDef)×(List GEntry)×(List Int)×(List GSlot)×(List Int)×(List Int)×(List Int)×(List Int)×(List Int)×(List GItem)×(List GItem)×(List GItem)):=(g_laws_markWorld a_1.World k_2).bind λ y_16=>(g_laws_markEd a_1.Ed y_16.1).bind λ y_17=>some (y_17.1,y_16.2.1,y_16.2.2.1,y_16.2.2.2.1,y_16.2.2.2.2.1,y_16.2.2.2.2.2.1,y_16.2.2.2.2.2.2.1,y_16.2.2.2.2.2.2.2.1,y_16.2.2.2.2.2.2.2.2.1,y_16.2.2.2.2.2.2.2.2.2,y_17.2.1,y_17.2.2.1,y_17.2.2.2)
def g_laws_heldOpS_l0 (a_1:List GOp):Nat->Int->Int->Option (Int ⊕ Int)
 | 0,_,_=>none
 | k+1,k_6,i_7=>cond (decide (i_7 < (a_1.length:Int))) ((getI a_1 i_7).bind λ v_10=>cond (v_10.Kind != k_6) (some (.inr (-1))) ((getI a_1 i_7).bind λ v_11=>cond (v_11.N != (IntKind.wrap .i32 (IntKind.wrap .i64 (k_6+1)))) (some (.inr (-1))) (g_laws_heldOpS_l0 a_1 k (IntKind.wrap .i64 ((IntKind.wrap .i64 (k_6+1))+1)) (IntKind.wrap .i64 (i_7+1))))) (some (.inl k_6))
def g_laws_heldOpS (a_1:List GOp) (k_2:Int):Option Int:=((g_laws_heldOpS_l0 a_1 bigK k_2 0).bind λ o=>match o with | .inl k_8=>some (.inl k_8) | .inr v_9=>some (.inr v_9):Option (Int ⊕ Int)).bind λ o=>match o with | .inl k_4=>some k_4 | .inr v_5=>some v_5
def g_laws_heldDefS_l0 (a_1:List GDef):Nat->Int->Int->Option (Int ⊕ Int)
 | 0,_,_=>none
 | k+1,k_6,i_7=>cond (decide (i_7 < (a_1.length:Int))) ((getI a_1 i_7).bind λ v_10=>(g_laws_markText k_6).bind λ y_11=>cond (v_10.Name != y_11) (some (.inr (-1))) ((getI a_1 i_7).bind λ v_12=>(g_laws_heldOpS v_12.Body (IntKind.wrap .i64 (k_6+1))).bind λ y_13=>cond (decide (y_13 < 0)) (some (.inr (-1))) (g_laws_heldDefS_l0 a_1 k y_13 (IntKind.wrap .i64 (i_7+1))))) (some (.inl k_6))
def g_laws_heldDefS (a_1:List GDef) (k_2:Int):Option Int:=((g_laws_heldDefS_l0 a_1 bigK k_2 0).bind λ o=>match o with | .inl k_8=>some (.inl k_8) | .inr v_9=>some (.inr v_9):Option (Int ⊕ Int)).bind λ o=>match o with | .inl k_4=>some k_4 | .inr v_5=>some v_5
def g_laws_heldEntryS_l0 (a_1:List GEntry):Nat->Int->Int->Option (Int ⊕ Int)
 | 0,_,_=>none
 | k+1,k_6,i_7=>cond (decide (i_7 < (a_1.length:Int))) ((getI a_1 i_7).bind λ v_10=>(g_laws_markText k_6).bind λ y_11=>cond (v_10.Name != y_11) (some (.inr (-1))) ((getI a_1 i_7).bind λ v_12=>cond (v_12.Var != ((Int.tmod (IntKind.wrap .i64 (k_6+1)) 3)==0)) (some (.inr (-1))) ((getI a_1 i_7).bind λ v_13=>cond (v_13.N != (IntKind.wrap .i64 ((IntKind.wrap .i64 (k_6+1))+1))) (some (.inr (-1))) (g_laws_heldEntryS_l0 a_1 k (IntKind.wrap .i64 ((IntKind.wrap .i64 ((IntKind.wrap .i64 (k_6+1))+1))+1)) (IntKind.wrap .i64 (i_7+1)))))) (some (.inl k_6))
def g_laws_heldEntryS (a_1:List GEntry) (k_2:Int):Option Int:=((g_laws_heldEntryS_l0 a_1 bigK k_2 0).bind λ o=>match o with | .inl k_8=>some (.inl k_8) | .inr v_9=>some (.inr v_9):Option (Int ⊕ Int)).bind λ o=>match o with | .inl k_4=>some k_4 | .inr v_5=>some v_5
def g_laws_heldInt32S_l0 (a_1:List Int):Nat->Int->Int->Option (Int ⊕ Int)
 | 0,_,_=>none
 | k+1,k_6,i_7=>cond (decide (i_7 < (a_1.length:Int))) ((getI a_1 i_7).bind λ v_10=>cond (v_10 != (IntKind.wrap .i32 k_6)) (some (.inr (-1))) (g_laws_heldInt32S_l0 a_1 k (IntKind.wrap .i64 (k_6+1)) (IntKind.wrap .i64 (i_7+1)))) (some (.inl k_6))
def g_laws_heldInt32S (a_1:List Int) (k_2:Int):Option Int:=((g_laws_heldInt32S_l0 a_1 bigK k_2 0).bind λ o=>match o with | .inl k_8=>some (.inl k_8) | .inr v_9=>some (.inr v_9):Option (Int ⊕ Int)).bind λ o=>match o with | .inl k_4=>some k_4 | .inr v_5=>some v_5
def g_laws_heldSlotS_l0 (a_1:List GSlot):Nat->Int->Int->Option (Int ⊕ Int)
 | 0,_,_=>none
 | k+1,k_6,i_7=>cond (decide (i_7 < (a_1.length:Int))) ((getI a_1 i_7).bind λ v_10=>cond (v_10.Kind != k_6) (some (.inr (-1))) ((getI a_1 i_7).bind λ v_11=>cond (v_11.N != (IntKind.wrap .i32 (IntKind.wrap .i64 (k_6+1)))) (some (.inr (-1))) (g_laws_heldSlotS_l0 a_1 k (IntKind.wrap .i64 ((IntKind.wrap .i64 (k_6+1))+1)) (IntKind.wrap .i64 (i_7+1))))) (some (.inl k_6))
def g_laws_heldSlotS (a_1:List GSlot) (k_2:Int):Option Int:=((g_laws_heldSlotS_l0 a_1 bigK k_2 0).bind λ o=>match o with | .inl k_8=>some (.inl k_8) | .inr v_9=>some (.inr v_9):Option (Int ⊕ Int)).bind λ o=>match o with | .inl k_4=>some k_4 | .inr v_5=>some v_5
def g_laws_heldUint32S_l0 (a_1:List Int):Nat->Int->Int->Option (Int ⊕ Int)
 | 0,_,_=>none
 | k+1,k_6,i_7=>cond (decide (i_7 < (a_1.length:Int))) ((getI a_1 i_7).bind λ v_10=>cond (v_10 != (IntKind.wrap .u32 k_6)) (some (.inr (-1))) (g_laws_heldUint32S_l0 a_1 k (IntKind.wrap .i64 (k_6+1)) (IntKind.wrap .i64 (i_7+1)))) (some (.inl k_6))
def g_laws_heldUint32S (a_1:List Int) (k_2:Int):Option Int:=((g_laws_heldUint32S_l0 a_1 bigK k_2 0).bind λ o=>match o with | .inl k_8=>some (.inl k_8) | .inr v_9=>some (.inr v_9):Option (Int ⊕ Int)).bind λ o=>match o with | .inl k_4=>some k_4 | .inr v_5=>some v_5
def g_laws_heldIntS_l0 (a_1:List Int):Nat->Int->Int->Option (Int ⊕ Int)
 | 0,_,_=>none
 | k+1,k_6,i_7=>cond (decide (i_7 < (a_1.length:Int))) ((getI a_1 i_7).bind λ v_10=>cond (v_10 != k_6) (some (.inr (-1))) (g_laws_heldIntS_l0 a_1 k (IntKind.wrap .i64 (k_6+1)) (IntKind.wrap .i64 (i_7+1)))) (some (.inl k_6))
def g_laws_heldIntS (a_1:List Int) (k_2:Int):Option Int:=((g_laws_heldIntS_l0 a_1 bigK k_2 0).bind λ o=>match o with | .inl k_8=>some (.inl k_8) | .inr v_9=>some (.inr v_9):Option (Int ⊕ Int)).bind λ o=>match o with | .inl k_4=>some k_4 | .inr v_5=>some v_5
def g_laws_heldByteS_l0 (a_1:List Int):Nat->Int->Int->Option (Int ⊕ Int)
 | 0,_,_=>none
 | k+1,k_6,i_7=>cond (decide (i_7 < (a_1.length:Int))) ((getI a_1 i_7).bind λ v_10=>cond (v_10 != (IntKind.wrap .u8 k_6)) (some (.inr (-1))) (g_laws_heldByteS_l0 a_1 k (IntKind.wrap .i64 (k_6+1)) (IntKind.wrap .i64 (i_7+1)))) (some (.inl k_6))
def g_laws_heldByteS (a_1:List Int) (k_2:Int):Option Int:=((g_laws_heldByteS_l0 a_1 bigK k_2 0).bind λ o=>match o with | .inl k_8=>some (.inl k_8) | .inr v_9=>some (.inr v_9):Option (Int ⊕ Int)).bind λ o=>match o with | .inl k_4=>some k_4 | .inr v_5=>some v_5
def g_laws_heldSt (a_1:GSt) (k_2:Int):Option Int:=(g_laws_heldInt32S a_1.Data k_2).bind λ y_4=>cond (decide (y_4 < 0)) (some (-1)) ((g_laws_heldSlotS a_1.Ret y_4).bind λ y_5=>cond (decide (y_5 < 0)) (some (-1)) ((g_laws_heldInt32S a_1.Mem y_5).bind λ y_6=>cond (decide (y_6 < 0)) (some (-1)) ((g_laws_heldUint32S a_1.Cells y_6).bind λ y_7=>cond (decide (y_7 < 0)) (some (-1)) ((g_laws_heldIntS a_1.Vars y_7).bind λ y_8=>cond (decide (y_8 < 0)) (some (-1)) ((g_laws_heldByteS a_1.Out y_8).bind λ y_9=>cond (decide (y_9 < 0)) (some (-1)) ((g_laws_heldByteS a_1.In y_9).bind λ y_10=>cond (decide (y_10 < 0)) (some (-1)) (some y_10)))))))
def g_laws_heldWorld (a_1:GWorld) (k_2:Int):Option Int:=(g_laws_heldDefS a_1.Defs k_2).bind λ y_4=>cond (decide (y_4 < 0)) (some (-1)) ((g_laws_heldEntryS a_1.Dict y_4).bind λ y_5=>cond (decide (y_5 < 0)) (some (-1)) ((g_laws_heldSt a_1.St y_5).bind λ y_6=>cond (decide (y_6 < 0)) (some (-1)) (some y_6)))
def g_laws_heldItemS_l0 (a_1:List GItem):Nat->Int->Int->Option (Int ⊕ Int)
 | 0,_,_=>none
 | k+1,k_6,i_7=>cond (decide (i_7 < (a_1.length:Int))) ((getI a_1 i_7).bind λ v_10=>cond (v_10.Kind != k_6) (some (.inr (-1))) ((getI a_1 i_7).bind λ v_11=>(g_laws_markText (IntKind.wrap .i64 (k_6+1))).bind λ y_12=>cond (v_11.Name != y_12) (some (.inr (-1))) ((getI a_1 i_7).bind λ v_13=>cond (v_13.N != (IntKind.wrap .i32 (IntKind.wrap .i64 ((IntKind.wrap .i64 (k_6+1))+1)))) (some (.inr (-1))) ((getI a_1 i_7).bind λ v_14=>cond (v_14.Hex != ((Int.tmod (IntKind.wrap .i64 ((IntKind.wrap .i64 ((IntKind.wrap .i64 (k_6+1))+1))+1)) 3)==0)) (some (.inr (-1))) ((getI a_1 i_7).bind λ v_15=>cond (v_15.Raw != (IntKind.wrap .u32 (IntKind.wrap .i64 ((IntKind.wrap .i64 ((IntKind.wrap .i64 ((IntKind.wrap .i64 (k_6+1))+1))+1))+1)))) (some (.inr (-1))) (g_laws_heldItemS_l0 a_1 k (IntKind.wrap .i64 ((IntKind.wrap .i64 ((IntKind.wrap .i64 ((IntKind.wrap .i64 ((IntKind.wrap .i64 (k_6+1))+1))+1))+1))+1)) (IntKind.wrap .i64 (i_7+1)))))))) (some (.inl k_6))
def g_laws_heldItemS (a_1:List GItem) (k_2:Int):Option Int:=((g_laws_heldItemS_l0 a_1 bigK k_2 0).bind λ o=>match o with | .inl k_8=>some (.inl k_8) | .inr v_9=>some (.inr v_9):Option (Int ⊕ Int)).bind λ o=>match o with | .inl k_4=>some k_4 | .inr v_5=>some v_5
def g_laws_heldEd (a_1:GEd) (k_2:Int):Option Int:=(g_laws_heldItemS a_1.Left k_2).bind λ y_4=>cond (decide (y_4 < 0)) (some (-1)) ((g_laws_heldItemS a_1.Right y_4).bind λ y_5=>cond (decide (y_5 < 0)) (some (-1)) ((g_laws_heldItemS a_1.Cut y_5).bind λ y_6=>cond (decide (y_6 < 0)) (some (-1)) (some y_6)))
def g_laws_heldSession (a_1:GSession) (k_2:Int):Option Int:=(g_laws_heldWorld a_1.World k_2).bind λ y_4=>cond (decide (y_4 < 0)) (some (-1)) ((g_laws_heldEd a_1.Ed y_4).bind λ y_5=>cond (decide (y_5 < 0)) (some (-1)) (some y_5))
def g_laws_FnExactOpen (aSt_1:GStore) (aIn_2:List Int) (aFuel_3:Int):Option Bool:=cond (decide ((aIn_2.length:Int) > 1048576)) (some true) ((g_laws_szStore aSt_1 1048576).bind λ y_5=>cond (decide (y_5 < 0)) (some true) ((g_laws_toStore aSt_1).bind λ y_6=>(g_laws_toByteS aIn_2).bind λ y_7=>(g_spec_Open y_6 y_7 aFuel_3).bind λ y_8=>(g_laws_toStore aSt_1).bind λ y_9=>(g_laws_toByteS aIn_2).bind λ y_10=>(g_impl_Open_hand y_9 y_10 aFuel_3).bind λ y_11=>(g_laws_eqSession y_11 y_8).bind λ y_12=>cond (!y_12) (some false) ((g_laws_toStore aSt_1).bind λ y_13=>(g_laws_eqStore y_9 y_13).bind λ y_14=>cond (!y_14) (some false) ((g_laws_toByteS aIn_2).bind λ y_15=>(g_laws_eqByteS y_10 y_15).bind λ y_16=>cond (!y_16) (some false) ((g_laws_markStore y_9 1).bind λ y_17=>(g_laws_markByteS y_10 y_17.1).bind λ y_18=>(cond (decide (y_18.1 < 0)) (some true) ((g_laws_eqSession y_11 y_8).bind λ y_20=>some (!y_20)):Option (Bool)).bind λ v_19=>cond v_19 (some false) ((g_laws_markSession y_11 1).bind λ y_21=>(g_laws_heldSession (⟨(⟨y_21.2.1,y_21.2.2.1,(⟨y_21.2.2.2.1,y_21.2.2.2.2.1,y_11.World.St.A,y_21.2.2.2.2.2.1,y_21.2.2.2.2.2.2.1,y_21.2.2.2.2.2.2.2.1,y_21.2.2.2.2.2.2.2.2.1,y_21.2.2.2.2.2.2.2.2.2.1,y_11.World.St.Fault,y_11.World.St.Fuel⟩:GSt),y_11.World.Open,y_11.World.Yellow⟩:GWorld),(⟨y_21.2.2.2.2.2.2.2.2.2.2.1,y_21.2.2.2.2.2.2.2.2.2.2.2.1,y_21.2.2.2.2.2.2.2.2.2.2.2.2⟩:GEd),y_11.Block⟩:GSession) 1).bind λ y_22=>cond (decide (y_22 < 0)) (some false) (cond (y_22 != y_21.1) (some false) ((g_laws_toStore aSt_1).bind λ y_23=>(g_laws_toByteS aIn_2).bind λ y_24=>(g_impl_Open y_23 y_24 aFuel_3).bind λ y_25=>(g_laws_eqSession y_25 y_8).bind λ y_26=>cond (!y_26) (some false) ((g_laws_heldSession (⟨(⟨y_21.2.1,y_21.2.2.1,(⟨y_21.2.2.2.1,y_21.2.2.2.2.1,y_11.World.St.A,y_21.2.2.2.2.2.1,y_21.2.2.2.2.2.2.1,y_21.2.2.2.2.2.2.2.1,y_21.2.2.2.2.2.2.2.2.1,y_21.2.2.2.2.2.2.2.2.2.1,y_11.World.St.Fault,y_11.World.St.Fuel⟩:GSt),y_11.World.Open,y_11.World.Yellow⟩:GWorld),(⟨y_21.2.2.2.2.2.2.2.2.2.2.1,y_21.2.2.2.2.2.2.2.2.2.2.2.1,y_21.2.2.2.2.2.2.2.2.2.2.2.2⟩:GEd),y_11.Block⟩:GSession) 1).bind λ y_27=>cond (decide (y_27 < 0)) (some false) (cond (y_27 != y_21.1) (some false) (some true)))))))))))
def bodyOf (f:Func):Code:=match f.body with|some c=>c|none=>.skip
end Go.Proofs.YtcnbncafiinfjaaDoor
namespace Go.Proofs.YtcnbncafiinfjaaDoor
open Go Go.Fm
set_option maxRecDepth 1000000
noncomputable def e_laws_szUint32S:Con:=⟨69,⟨[(0, .s K1 []),(1, .s K5 [])],[]⟩,⟨[(0, .s K5 [])],[]⟩,false,[],λ (a_1,left_2)=>g_laws_szUint32S a_1 left_2⟩
noncomputable def e_laws_szStore:Con:=⟨25,⟨[(0, .s K2 []),(1, .s K5 [])],[]⟩,⟨[(0, .s K5 [])],[]⟩,false,[],λ (a_1,left_2)=>g_laws_szStore a_1 left_2⟩
noncomputable def e_laws_toUint32S:Con:=⟨71,⟨[(0, .s K1 [])],[]⟩,⟨[(0, .s K1 [(0,0)])],[.o]⟩,false,[],λ a_1=>g_laws_toUint32S a_1⟩
noncomputable def e_laws_toStore:Con:=⟨27,⟨[(0, .s K2 [])],[]⟩,⟨[(0, .s K2 [(0,0)])],[.o]⟩,false,[],λ a_1=>g_laws_toStore a_1⟩
noncomputable def e_laws_toByteS:Con:=⟨28,⟨[(0, .s K4 [])],[]⟩,⟨[(0, .s K4 [(0,0)])],[.o]⟩,false,[],λ a_1=>g_laws_toByteS a_1⟩
noncomputable def e_spec_StoreOk:Con:=⟨157,⟨[(0, .s K2 [])],[]⟩,⟨[(0, .s K6 [])],[]⟩,false,[],λ s_1=>g_spec_StoreOk s_1⟩
noncomputable def e_spec_l01In:Con:=⟨56,⟨[(0, .s K5 []),(1, .s K5 []),(2, .s K5 [])],[]⟩,⟨[(0, .s K6 [])],[]⟩,false,[],λ (x_1,a_2,b_3)=>g_spec_l01In x_1 a_2 b_3⟩
noncomputable def e_spec_NewSt:Con:=⟨113,⟨[(0, .s K2 []),(1, .s K4 []),(2, .s K5 [])],[]⟩,⟨[(0, .s K12 [(0,0),(1,1),(3,2),(4,3),(5,4),(6,5),(7,6)])],[.o, .o, .o, .o, .o, .o, .o]⟩,false,[],λ (s_1,vin_2,fuel_3)=>g_spec_NewSt s_1 vin_2 fuel_3⟩
noncomputable def e_spec_NewWorld:Con:=⟨70,⟨[(0, .s K2 []),(1, .s K4 []),(2, .s K5 [])],[]⟩,⟨[(0, .s K20 [(0,0),(1,1),(2,2),(3,3),(5,4),(6,5),(7,6),(8,7),(9,8)])],[.o, .o, .o, .o, .o, .o, .o, .o, .o]⟩,true,[],λ (s_1,vin_2,fuel_3)=>g_spec_NewWorld s_1 vin_2 fuel_3⟩
noncomputable def e_spec_Open:Con:=⟨26,⟨[(0, .s K2 []),(1, .s K4 []),(2, .s K5 [])],[]⟩,⟨[(0, .s K24 [(0,0),(1,1),(2,2),(3,3),(5,4),(6,5),(7,6),(8,7),(9,8),(14,9),(15,10),(16,11)])],[.o, .o, .o, .o, .o, .o, .o, .o, .o, .o, .o, .o]⟩,true,[],λ (st_1,vin_2,fuel_3)=>g_spec_Open st_1 vin_2 fuel_3⟩
noncomputable def e_slices_Clone_uint32:Con:=⟨158,⟨[(0, .s K1 [])],[]⟩,⟨[(0, .s K1 [(0,0)])],[.o]⟩,false,[],λ s_1=>g_slices_Clone_uint32 s_1⟩
noncomputable def e_slices_Clone_byte:Con:=⟨159,⟨[(0, .s K4 [])],[]⟩,⟨[(0, .s K4 [(0,0)])],[.o]⟩,false,[],λ s_1=>g_slices_Clone_byte s_1⟩
noncomputable def e_impl_StoreOk:Con:=⟨160,⟨[(0, .s K2 [])],[]⟩,⟨[(0, .s K6 [])],[]⟩,false,[],λ s_1=>g_impl_StoreOk s_1⟩
noncomputable def e_impl_within:Con:=⟨62,⟨[(0, .s K5 []),(1, .s K5 []),(2, .s K5 [])],[]⟩,⟨[(0, .s K6 [])],[]⟩,false,[],λ (n_1,low_2,high_3)=>g_impl_within n_1 low_2 high_3⟩
noncomputable def e_slices_Index_int:Con:=⟨87,⟨[(0, .s K11 []),(1, .s K5 [])],[]⟩,⟨[(0, .s K5 [])],[]⟩,false,[],λ (s_1,v_2)=>g_slices_Index_int s_1 v_2⟩
noncomputable def e_slices_Contains_int:Con:=⟨65,⟨[(0, .s K11 []),(1, .s K5 [])],[]⟩,⟨[(0, .s K6 [])],[]⟩,false,[],λ (s_1,v_2)=>g_slices_Contains_int s_1 v_2⟩
noncomputable def e_impl_StOk:Con:=⟨115,⟨[(0, .s K12 [])],[]⟩,⟨[(0, .s K6 [])],[]⟩,false,[],λ st_1=>g_impl_StOk st_1⟩
noncomputable def e_impl_NewSt:Con:=⟨114,⟨[(0, .s K2 []),(1, .s K4 []),(2, .s K5 [])],[]⟩,⟨[(0, .s K12 [(0,0),(1,1),(3,2),(4,3),(5,4),(6,5),(7,6)])],[.o, .o, .o, .o, .o, .o, .o]⟩,false,[],λ (s_1,vin_2,fuel_3)=>g_impl_NewSt s_1 vin_2 fuel_3⟩
noncomputable def e_impl_NewWorld:Con:=⟨72,⟨[(0, .s K2 []),(1, .s K4 []),(2, .s K5 [])],[]⟩,⟨[(0, .s K20 [(0,0),(1,1),(2,2),(3,3),(5,4),(6,5),(7,6),(8,7),(9,8)])],[.o, .o, .o, .o, .o, .o, .o, .o, .o]⟩,true,[],λ (s_1,vin_2,fuel_3)=>g_impl_NewWorld s_1 vin_2 fuel_3⟩
noncomputable def e_strings_Fields:Con:=⟨178,⟨[(0, .s K13 [])],[]⟩,⟨[(0, .s K25 [(0,0)])],[.o]⟩,false,[],λ s_1=>g_strings_Fields s_1⟩
noncomputable def e_impl_prims:Con:=⟨139,⟨[],[]⟩,⟨[(0, .s K25 [(0,0)])],[.o]⟩,false,[],λ _=>g_impl_prims⟩
noncomputable def e_impl_PrimName:Con:=⟨101,⟨[(0, .s K5 [])],[]⟩,⟨[(0, .s K13 [])],[]⟩,false,[],λ k_1=>g_impl_PrimName k_1⟩
noncomputable def e_impl_opOk:Con:=⟨137,⟨[(0, .s K14 [])],[]⟩,⟨[(0, .s K6 [])],[]⟩,false,[],λ o_1=>g_impl_opOk o_1⟩
noncomputable def e_impl_openIn:Con:=⟨96,⟨[(0, .s K15 [])],[]⟩,⟨[(0, .s K11 [(0,0)]),(1, .s K6 [])],[.o]⟩,false,[],λ body_1=>g_impl_openIn body_1⟩
noncomputable def e_impl_letters:Con:=⟨182,⟨[],[]⟩,⟨[(0, .s K13 [])],[]⟩,false,[],λ _=>g_impl_letters⟩
noncomputable def e_ibytealg_IndexByteString:Con:=⟨196,⟨[(0, .s K13 []),(1, .s K3 [])],[]⟩,⟨[(0, .s K5 [])],[]⟩,false,[],λ a=>g_ibytealg_IndexByteString a.1 a.2⟩
noncomputable def e_istringslite_IndexByte:Con:=⟨193,⟨[(0, .s K13 []),(1, .s K3 [])],[]⟩,⟨[(0, .s K5 [])],[]⟩,false,[],λ (s_1,c_2)=>g_istringslite_IndexByte s_1 c_2⟩
noncomputable def e_strings_IndexByte:Con:=⟨181,⟨[(0, .s K13 []),(1, .s K3 [])],[]⟩,⟨[(0, .s K5 [])],[]⟩,false,[],λ (s_1,c_2)=>g_strings_IndexByte s_1 c_2⟩
noncomputable def e_impl_LetterOf:Con:=⟨143,⟨[(0, .s K3 [])],[]⟩,⟨[(0, .s K5 [])],[]⟩,false,[],λ b_1=>g_impl_LetterOf b_1⟩
noncomputable def e_impl_NameOk:Con:=⟨109,⟨[(0, .s K13 [])],[]⟩,⟨[(0, .s K6 [])],[]⟩,false,[],λ s_1=>g_impl_NameOk s_1⟩
noncomputable def e_impl_callsBelowc1:Con:=⟨145,⟨[(0, .s K14 []),(1, .c (.one (.ptr 0 0)))],[.v K5 []]⟩,⟨[(0, .s K6 [])],[.f]⟩,false,[0],λ (o_1,a_2)=>g_impl_callsBelowc1 o_1 a_2⟩
noncomputable def e_slices_IndexFunc_Op_impl_callsBelowc1:Con:=⟨183,⟨[(0, .s K15 []),(1, .c (.one (.fn 145 [(0,0)])))],[.v K5 []]⟩,⟨[(0, .s K5 [])],[.f]⟩,false,[0],λ (s_1,c_2)=>g_slices_IndexFunc_Op_impl_callsBelowc1 s_1 c_2⟩
noncomputable def e_slices_ContainsFunc_Op_impl_callsBelowc1:Con:=⟨144,⟨[(0, .s K15 []),(1, .c (.one (.fn 145 [(0,0)])))],[.v K5 []]⟩,⟨[(0, .s K6 [])],[.f]⟩,false,[0],λ (s_1,c_2)=>g_slices_ContainsFunc_Op_impl_callsBelowc1 s_1 c_2⟩
noncomputable def e_impl_callsBelow:Con:=⟨110,⟨[(0, .s K15 []),(1, .s K5 [])],[]⟩,⟨[(0, .s K6 [])],[]⟩,false,[],λ (body_1,n_2)=>g_impl_callsBelow body_1 n_2⟩
noncomputable def e_impl_WorldOk:Con:=⟨73,⟨[(0, .s K20 [])],[]⟩,⟨[(0, .s K6 [])],[]⟩,false,[],λ w_1=>g_impl_WorldOk w_1⟩
noncomputable def e_impl_Open:Con:=⟨29,⟨[(0, .s K2 []),(1, .s K4 []),(2, .s K5 [])],[]⟩,⟨[(0, .s K24 [(0,0),(1,1),(2,2),(3,3),(5,4),(6,5),(7,6),(8,7),(9,8),(14,9),(15,10),(16,11)])],[.o, .o, .o, .o, .o, .o, .o, .o, .o, .o, .o, .o]⟩,true,[],λ (st_1,vin_2,fuel_3)=>g_impl_Open st_1 vin_2 fuel_3⟩
noncomputable def e_laws_eqOp:Con:=⟨53,⟨[(0, .s K14 []),(1, .s K14 [])],[]⟩,⟨[(0, .s K6 [])],[]⟩,false,[],λ (a_1,b_2)=>g_laws_eqOp a_1 b_2⟩
noncomputable def e_laws_eqOpS:Con:=⟨13,⟨[(0, .s K15 []),(1, .s K15 [])],[]⟩,⟨[(0, .s K6 [])],[]⟩,false,[],λ (a_1,b_2)=>g_laws_eqOpS a_1 b_2⟩
noncomputable def e_laws_eqDef:Con:=⟨67,⟨[(0, .s K16 []),(1, .s K16 [])],[]⟩,⟨[(0, .s K6 [])],[]⟩,false,[],λ (a_1,b_2)=>g_laws_eqDef a_1 b_2⟩
noncomputable def e_laws_eqDefS:Con:=⟨21,⟨[(0, .s K17 []),(1, .s K17 [])],[]⟩,⟨[(0, .s K6 [])],[]⟩,false,[],λ (a_1,b_2)=>g_laws_eqDefS a_1 b_2⟩
noncomputable def e_laws_eqEntry:Con:=⟨161,⟨[(0, .s K18 []),(1, .s K18 [])],[]⟩,⟨[(0, .s K6 [])],[]⟩,false,[],λ (a_1,b_2)=>g_laws_eqEntry a_1 b_2⟩
noncomputable def e_laws_eqEntryS:Con:=⟨116,⟨[(0, .s K19 []),(1, .s K19 [])],[]⟩,⟨[(0, .s K6 [])],[]⟩,false,[],λ (a_1,b_2)=>g_laws_eqEntryS a_1 b_2⟩
noncomputable def e_laws_eqInt32S:Con:=⟨162,⟨[(0, .s K8 []),(1, .s K8 [])],[]⟩,⟨[(0, .s K6 [])],[]⟩,false,[],λ (a_1,b_2)=>g_laws_eqInt32S a_1 b_2⟩
noncomputable def e_laws_eqSlot:Con:=⟨190,⟨[(0, .s K9 []),(1, .s K9 [])],[]⟩,⟨[(0, .s K6 [])],[]⟩,false,[],λ (a_1,b_2)=>g_laws_eqSlot a_1 b_2⟩
noncomputable def e_laws_eqSlotS:Con:=⟨163,⟨[(0, .s K10 []),(1, .s K10 [])],[]⟩,⟨[(0, .s K6 [])],[]⟩,false,[],λ (a_1,b_2)=>g_laws_eqSlotS a_1 b_2⟩
noncomputable def e_laws_eqUint32S:Con:=⟨76,⟨[(0, .s K1 []),(1, .s K1 [])],[]⟩,⟨[(0, .s K6 [])],[]⟩,false,[],λ (a_1,b_2)=>g_laws_eqUint32S a_1 b_2⟩
noncomputable def e_laws_eqIntS:Con:=⟨20,⟨[(0, .s K11 []),(1, .s K11 [])],[]⟩,⟨[(0, .s K6 [])],[]⟩,false,[],λ (a_1,b_2)=>g_laws_eqIntS a_1 b_2⟩
noncomputable def e_laws_eqByteS:Con:=⟨32,⟨[(0, .s K4 []),(1, .s K4 [])],[]⟩,⟨[(0, .s K6 [])],[]⟩,false,[],λ (a_1,b_2)=>g_laws_eqByteS a_1 b_2⟩
noncomputable def e_laws_eqSt:Con:=⟨117,⟨[(0, .s K12 []),(1, .s K12 [])],[]⟩,⟨[(0, .s K6 [])],[]⟩,false,[],λ (a_1,b_2)=>g_laws_eqSt a_1 b_2⟩
noncomputable def e_laws_eqWorld:Con:=⟨74,⟨[(0, .s K20 []),(1, .s K20 [])],[]⟩,⟨[(0, .s K6 [])],[]⟩,false,[],λ (a_1,b_2)=>g_laws_eqWorld a_1 b_2⟩
noncomputable def e_laws_eqItem:Con:=⟨164,⟨[(0, .s K21 []),(1, .s K21 [])],[]⟩,⟨[(0, .s K6 [])],[]⟩,false,[],λ (a_1,b_2)=>g_laws_eqItem a_1 b_2⟩
noncomputable def e_laws_eqItemS:Con:=⟨118,⟨[(0, .s K22 []),(1, .s K22 [])],[]⟩,⟨[(0, .s K6 [])],[]⟩,false,[],λ (a_1,b_2)=>g_laws_eqItemS a_1 b_2⟩
noncomputable def e_laws_eqEd:Con:=⟨75,⟨[(0, .s K23 []),(1, .s K23 [])],[]⟩,⟨[(0, .s K6 [])],[]⟩,false,[],λ (a_1,b_2)=>g_laws_eqEd a_1 b_2⟩
noncomputable def e_laws_eqSession:Con:=⟨30,⟨[(0, .s K24 []),(1, .s K24 [])],[]⟩,⟨[(0, .s K6 [])],[]⟩,false,[],λ (a_1,b_2)=>g_laws_eqSession a_1 b_2⟩
noncomputable def e_laws_eqStore:Con:=⟨31,⟨[(0, .s K2 []),(1, .s K2 [])],[]⟩,⟨[(0, .s K6 [])],[]⟩,false,[],λ (a_1,b_2)=>g_laws_eqStore a_1 b_2⟩
noncomputable def e_impl_NewWorld_hand:Con:=⟨72,⟨[(0, .s K2 [(0,0)]),(1, .s K4 [(0,1)]),(2, .s K5 [])],[.o, .o]⟩,⟨[(0, .s K20 [(0,2),(1,3),(2,4),(3,5),(5,6),(6,7),(7,8),(8,9),(9,10)])],[.f, .f, .o, .o, .o, .o, .o, .o, .o, .o, .o]⟩,true,[0,1],λ (s_1,vin_2,fuel_3)=>g_impl_NewWorld_hand s_1 vin_2 fuel_3⟩
noncomputable def e_impl_Open_hand:Con:=⟨29,⟨[(0, .s K2 [(0,0)]),(1, .s K4 [(0,1)]),(2, .s K5 [])],[.o, .o]⟩,⟨[(0, .s K24 [(0,2),(1,3),(2,4),(3,5),(5,6),(6,7),(7,8),(8,9),(9,10),(14,11),(15,12),(16,13)])],[.f, .f, .o, .o, .o, .o, .o, .o, .o, .o, .o, .o, .o, .o]⟩,true,[0,1],λ (st_1,vin_2,fuel_3)=>g_impl_Open_hand st_1 vin_2 fuel_3⟩
noncomputable def e_laws_markUint32S:Con:=⟨77,⟨[(0, .s K1 [(0,0)]),(1, .s K5 [])],[.o]⟩,⟨[(0, .s K5 [])],[.r K0]⟩,false,[],λ (a_1,k_2)=>g_laws_markUint32S a_1 k_2⟩
noncomputable def e_laws_markStore:Con:=⟨33,⟨[(0, .s K2 [(0,0)]),(1, .s K5 [])],[.o]⟩,⟨[(0, .s K5 [])],[.r K0]⟩,false,[],λ (a_1,k_2)=>g_laws_markStore a_1 k_2⟩
noncomputable def e_laws_markByteS:Con:=⟨34,⟨[(0, .s K4 [(0,0)]),(1, .s K5 [])],[.o]⟩,⟨[(0, .s K5 [])],[.r K3]⟩,false,[],λ (a_1,k_2)=>g_laws_markByteS a_1 k_2⟩
noncomputable def e_laws_markText:Con:=⟨68,⟨[(0, .s K5 [])],[]⟩,⟨[(0, .s K13 [])],[]⟩,false,[],λ k_1=>g_laws_markText k_1⟩
noncomputable def e_laws_markDefS:Con:=⟨22,⟨[(0, .s K17 []),(1, .s K5 [])],[]⟩,⟨[(0, .s K5 [])],[]⟩,false,[],λ (a_1,k_2)=>g_laws_markDefS a_1 k_2⟩
noncomputable def e_laws_markEntryS:Con:=⟨119,⟨[(0, .s K19 [(0,0)]),(1, .s K5 [])],[.o]⟩,⟨[(0, .s K5 [])],[.r K18]⟩,false,[],λ (a_1,k_2)=>g_laws_markEntryS a_1 k_2⟩
noncomputable def e_laws_markInt32S:Con:=⟨165,⟨[(0, .s K8 [(0,0)]),(1, .s K5 [])],[.o]⟩,⟨[(0, .s K5 [])],[.r K7]⟩,false,[],λ (a_1,k_2)=>g_laws_markInt32S a_1 k_2⟩
noncomputable def e_laws_markSlotS:Con:=⟨166,⟨[(0, .s K10 [(0,0)]),(1, .s K5 [])],[.o]⟩,⟨[(0, .s K5 [])],[.r K9]⟩,false,[],λ (a_1,k_2)=>g_laws_markSlotS a_1 k_2⟩
noncomputable def e_laws_markIntS:Con:=⟨23,⟨[(0, .s K11 [(0,0)]),(1, .s K5 [])],[.o]⟩,⟨[(0, .s K5 [])],[.r K5]⟩,false,[],λ (a_1,k_2)=>g_laws_markIntS a_1 k_2⟩
noncomputable def e_laws_markSt:Con:=⟨120,⟨[(0, .s K12 [(0,0),(1,1),(3,2),(4,3),(5,4),(6,5),(7,6)]),(1, .s K5 [])],[.o, .o, .o, .o, .o, .o, .o]⟩,⟨[(0, .s K5 [])],[.r K7, .r K9, .r K7, .r K0, .r K5, .r K3, .r K3]⟩,false,[],λ (a_1,k_2)=>g_laws_markSt a_1 k_2⟩
noncomputable def e_laws_markWorld:Con:=⟨78,⟨[(0, .s K20 [(0,0),(1,1),(2,2),(3,3),(5,4),(6,5),(7,6),(8,7),(9,8)]),(1, .s K5 [])],[.o, .o, .o, .o, .o, .o, .o, .o, .o]⟩,⟨[(0, .s K5 [])],[.r K16, .r K18, .r K7, .r K9, .r K7, .r K0, .r K5, .r K3, .r K3]⟩,true,[],λ (a_1,k_2)=>g_laws_markWorld a_1 k_2⟩
noncomputable def e_laws_markItemS:Con:=⟨121,⟨[(0, .s K22 [(0,0)]),(1, .s K5 [])],[.o]⟩,⟨[(0, .s K5 [])],[.r K21]⟩,false,[],λ (a_1,k_2)=>g_laws_markItemS a_1 k_2⟩
noncomputable def e_laws_markEd:Con:=⟨79,⟨[(0, .s K23 [(0,0),(1,1),(2,2)]),(1, .s K5 [])],[.o, .o, .o]⟩,⟨[(0, .s K5 [])],[.r K21, .r K21, .r K21]⟩,false,[],λ (a_1,k_2)=>g_laws_markEd a_1 k_2⟩
noncomputable def e_laws_markSession:Con:=⟨35,⟨[(0, .s K24 [(0,0),(1,1),(2,2),(3,3),(5,4),(6,5),(7,6),(8,7),(9,8),(14,9),(15,10),(16,11)]),(1, .s K5 [])],[.o, .o, .o, .o, .o, .o, .o, .o, .o, .o, .o, .o]⟩,⟨[(0, .s K5 [])],[.r K16, .r K18, .r K7, .r K9, .r K7, .r K0, .r K5, .r K3, .r K3, .r K21, .r K21, .r K21]⟩,true,[],λ (a_1,k_2)=>g_laws_markSession a_1 k_2⟩
noncomputable def e_laws_heldOpS:Con:=⟨15,⟨[(0, .s K15 []),(1, .s K5 [])],[]⟩,⟨[(0, .s K5 [])],[]⟩,false,[],λ (a_1,k_2)=>g_laws_heldOpS a_1 k_2⟩
noncomputable def e_laws_heldDefS:Con:=⟨43,⟨[(0, .s K17 []),(1, .s K5 [])],[]⟩,⟨[(0, .s K5 [])],[]⟩,false,[],λ (a_1,k_2)=>g_laws_heldDefS a_1 k_2⟩
noncomputable def e_laws_heldEntryS:Con:=⟨122,⟨[(0, .s K19 []),(1, .s K5 [])],[]⟩,⟨[(0, .s K5 [])],[]⟩,false,[],λ (a_1,k_2)=>g_laws_heldEntryS a_1 k_2⟩
noncomputable def e_laws_heldInt32S:Con:=⟨167,⟨[(0, .s K8 []),(1, .s K5 [])],[]⟩,⟨[(0, .s K5 [])],[]⟩,false,[],λ (a_1,k_2)=>g_laws_heldInt32S a_1 k_2⟩
noncomputable def e_laws_heldSlotS:Con:=⟨168,⟨[(0, .s K10 []),(1, .s K5 [])],[]⟩,⟨[(0, .s K5 [])],[]⟩,false,[],λ (a_1,k_2)=>g_laws_heldSlotS a_1 k_2⟩
noncomputable def e_laws_heldUint32S:Con:=⟨169,⟨[(0, .s K1 []),(1, .s K5 [])],[]⟩,⟨[(0, .s K5 [])],[]⟩,false,[],λ (a_1,k_2)=>g_laws_heldUint32S a_1 k_2⟩
noncomputable def e_laws_heldIntS:Con:=⟨24,⟨[(0, .s K11 []),(1, .s K5 [])],[]⟩,⟨[(0, .s K5 [])],[]⟩,false,[],λ (a_1,k_2)=>g_laws_heldIntS a_1 k_2⟩
noncomputable def e_laws_heldByteS:Con:=⟨170,⟨[(0, .s K4 []),(1, .s K5 [])],[]⟩,⟨[(0, .s K5 [])],[]⟩,false,[],λ (a_1,k_2)=>g_laws_heldByteS a_1 k_2⟩
noncomputable def e_laws_heldSt:Con:=⟨123,⟨[(0, .s K12 []),(1, .s K5 [])],[]⟩,⟨[(0, .s K5 [])],[]⟩,false,[],λ (a_1,k_2)=>g_laws_heldSt a_1 k_2⟩
noncomputable def e_laws_heldWorld:Con:=⟨80,⟨[(0, .s K20 []),(1, .s K5 [])],[]⟩,⟨[(0, .s K5 [])],[]⟩,false,[],λ (a_1,k_2)=>g_laws_heldWorld a_1 k_2⟩
noncomputable def e_laws_heldItemS:Con:=⟨124,⟨[(0, .s K22 []),(1, .s K5 [])],[]⟩,⟨[(0, .s K5 [])],[]⟩,false,[],λ (a_1,k_2)=>g_laws_heldItemS a_1 k_2⟩
noncomputable def e_laws_heldEd:Con:=⟨81,⟨[(0, .s K23 []),(1, .s K5 [])],[]⟩,⟨[(0, .s K5 [])],[]⟩,false,[],λ (a_1,k_2)=>g_laws_heldEd a_1 k_2⟩
noncomputable def e_laws_heldSession:Con:=⟨36,⟨[(0, .s K24 []),(1, .s K5 [])],[]⟩,⟨[(0, .s K5 [])],[]⟩,false,[],λ (a_1,k_2)=>g_laws_heldSession a_1 k_2⟩
noncomputable def e_laws_FnExactOpen:Con:=⟨5,⟨[(0, .s K2 []),(1, .s K4 []),(2, .s K5 [])],[]⟩,⟨[(0, .s K6 [])],[]⟩,false,[],λ (aSt_1,aIn_2,aFuel_3)=>g_laws_FnExactOpen aSt_1 aIn_2 aFuel_3⟩
abbrev CO (c:Con):Prop:=ConOk Tryd.prog c
abbrev CK (Γ:List Con) (n:Nat) (an:An) (f:Func) (e:Con):Prop:=AnOk TrydT Γ n an (bodyOf f)/\∀ a,fnRun TrydT Γ an (bodyOf f) f.results.toList e.ro e.ps e.rs a=e.g a
theorem fnc {Γ:List Con} {n:Nat} {an:An} {fn:Func} {C:Con} (h:Tryd.prog.follows .mixedOrders=true->∀ c ∈ Γ,CO c) (hf:Tryd.prog.funcs[C.f]? = some fn) (hk:CK Γ n an fn C) (h1:(!(fn.name == "runtime.NumGoroutine")&&okC fn.ntmps (bodyOf fn))=true)
  (h2:∀ a,entB C n fn.ntmps a=true) (h3:∀ r,endB C fn.results.toList.length r=true) (hb:fn.body=some (bodyOf fn)):CO C:=by
 rw[Bool.and_eq_true,Bool.not_eq_true']at h1
 exact fn_ok (P:=λ _=>Tryd.prog) (n:=n) TrydT_eq h hf hb h1.1 rfl rfl h1.2 rfl h2 h3 hk.1 λ a r e=>(hk.2 a).trans e
end Go.Proofs.YtcnbncafiinfjaaDoor
namespace Go.Proofs.YtcnbncafiinfjaaDoor
open Go Go.Fm
set_option maxRecDepth 1000000
noncomputable def ane_laws_szUint32S:An:=.z
theorem ke_laws_szUint32S:CK [] 0 ane_laws_szUint32S Tryd.f69 e_laws_szUint32S:=⟨trivial,λ _=>by kernel_rfl⟩
noncomputable def ane_laws_szStore:An:=.z
theorem ke_laws_szStore:CK [e_laws_szUint32S] 0 ane_laws_szStore Tryd.f25 e_laws_szStore:=⟨trivial,λ _=>by kernel_rfl⟩
noncomputable def ane_laws_toUint32S:An:=.q .z (.q .z (.m [(.normal,⟨[(3, .s K1 [(0,0)])],[.o]⟩)] [0,2] [] (.q .z (.b (.l ⟨[(0, .s K1 []),(2, .c (.one (.emp)))],[.n]⟩ ⟨[(3, .s K1 [(0,0)]),(4, .s K5 [])],[.o]⟩ [(.exit 0,⟨[(3, .s K1 [(0,0)])],[.o]⟩)] (λ a_1 k (out_5,i_6)=>g_laws_toUint32S_l0 a_1 k out_5 i_6) .z))) .z))
theorem ke_laws_toUint32S:CK [] 0 ane_laws_toUint32S Tryd.f71 e_laws_toUint32S:=⟨⟨trivial,⟨trivial,⟨⟨trivial,⟨λ _ _=>rfl,λ _ _ _ _=>by kernel_rfl,trivial⟩⟩,trivial⟩⟩⟩,λ _=>by kernel_rfl⟩
noncomputable def ane_laws_toStore:An:=.z
theorem ke_laws_toStore:CK [e_laws_toUint32S] 0 ane_laws_toStore Tryd.f27 e_laws_toStore:=⟨trivial,λ _=>by kernel_rfl⟩
noncomputable def ane_laws_toByteS:An:=.q .z (.q .z (.m [(.normal,⟨[(3, .s K4 [(0,0)])],[.o]⟩)] [0,2] [] (.q .z (.b (.l ⟨[(0, .s K4 []),(2, .c (.one (.emp)))],[.n]⟩ ⟨[(3, .s K4 [(0,0)]),(4, .s K5 [])],[.o]⟩ [(.exit 0,⟨[(3, .s K4 [(0,0)])],[.o]⟩)] (λ a_1 k (out_5,i_6)=>g_laws_toByteS_l0 a_1 k out_5 i_6) .z))) .z))
theorem ke_laws_toByteS:CK [] 0 ane_laws_toByteS Tryd.f28 e_laws_toByteS:=⟨⟨trivial,⟨trivial,⟨⟨trivial,⟨λ _ _=>rfl,λ _ _ _ _=>by kernel_rfl,trivial⟩⟩,trivial⟩⟩⟩,λ _=>by kernel_rfl⟩
noncomputable def ane_spec_StoreOk:An:=.z
theorem ke_spec_StoreOk:CK [] 0 ane_spec_StoreOk Tryd.f157 e_spec_StoreOk:=⟨trivial,λ _=>by kernel_rfl⟩
noncomputable def ane_spec_l01In:An:=.z
theorem ke_spec_l01In:CK [] 0 ane_spec_l01In Tryd.f56 e_spec_l01In:=⟨trivial,λ _=>by kernel_rfl⟩
noncomputable def ane_spec_NewSt:An:=.q .z (.q .z (.q (.m [(.normal,⟨[(23, .s K6 [])],[.f, .f, .f, .f]⟩)] [1,2,3,6,7] [0,1,2,3] .z .z) .z))
theorem ke_spec_NewSt:CK [e_spec_StoreOk,e_spec_l01In] 0 ane_spec_NewSt Tryd.f113 e_spec_NewSt:=⟨⟨trivial,⟨trivial,⟨⟨trivial,trivial⟩,trivial⟩⟩⟩,λ _=>by kernel_rfl⟩
end Go.Proofs.YtcnbncafiinfjaaDoor
namespace Go.Proofs.YtcnbncafiinfjaaDoor
open Go Go.Fm
set_option maxRecDepth 1000000
noncomputable def ane_spec_NewWorld:An:=.z
theorem ke_spec_NewWorld:CK [e_spec_NewSt] 0 ane_spec_NewWorld Tryd.f70 e_spec_NewWorld:=⟨trivial,λ _=>by kernel_rfl⟩
noncomputable def ane_spec_Open:An:=.z
theorem ke_spec_Open:CK [e_spec_NewWorld] 0 ane_spec_Open Tryd.f26 e_spec_Open:=⟨trivial,λ _=>by kernel_rfl⟩
theorem fe_slices_Clone_uint32:ConOk Tryd.prog e_slices_Clone_uint32:=clone_own (P:=λ _=>Tryd.prog) (τ:=K0) TrydT_eq Tryd.func158 rfl rfl ⟨by kernel_rfl,by kernel_rfl,by kernel_rfl⟩ (congrArg TyI.kind TrydT_41) (λ a=>by kernel_rfl)
theorem fe_slices_Clone_byte:ConOk Tryd.prog e_slices_Clone_byte:=clone_own (P:=λ _=>Tryd.prog) (τ:=K3) TrydT_eq Tryd.func159 rfl rfl ⟨by kernel_rfl,by kernel_rfl,by kernel_rfl⟩ (congrArg TyI.kind TrydT_44) (λ a=>by kernel_rfl)
noncomputable def ane_impl_StoreOk:An:=.z
theorem ke_impl_StoreOk:CK [] 0 ane_impl_StoreOk Tryd.f160 e_impl_StoreOk:=⟨trivial,λ _=>by kernel_rfl⟩
noncomputable def ane_impl_within:An:=.z
theorem ke_impl_within:CK [] 0 ane_impl_within Tryd.f62 e_impl_within:=⟨trivial,λ _=>by kernel_rfl⟩
noncomputable def ane_slices_Index_int:An:=.q .z (.m [(.normal,⟨[],[]⟩),(.ret,⟨[(4, .s K5 [])],[]⟩)] [0,1] [] (.q .z (.b (.l ⟨[(0, .s K11 []),(1, .s K5 []),(7, .s K5 [])],[]⟩ ⟨[(8, .s K5 [])],[]⟩ [(.exit 0,⟨[],[]⟩),(.ret,⟨[(4, .s K5 [])],[]⟩)] (λ (s_1,v_2,v_5) k v_6=>g_slices_Index_int_l0 s_1 v_2 v_5 k v_6) .z))) .z)
theorem ke_slices_Index_int:CK [] 0 ane_slices_Index_int Tryd.f87 e_slices_Index_int:=⟨⟨trivial,⟨⟨trivial,⟨λ _ _=>rfl,λ _ _ _ _=>by kernel_rfl,trivial⟩⟩,trivial⟩⟩,λ _=>by kernel_rfl⟩
noncomputable def ane_slices_Contains_int:An:=.z
theorem ke_slices_Contains_int:CK [e_slices_Index_int] 0 ane_slices_Contains_int Tryd.f65 e_slices_Contains_int:=⟨trivial,λ _=>by kernel_rfl⟩
end Go.Proofs.YtcnbncafiinfjaaDoor
namespace Go.Proofs.YtcnbncafiinfjaaDoor
open Go Go.Fm
set_option maxRecDepth 1000000
noncomputable def ane_impl_StOk:An:=.q .z (.q (.m [(.normal,⟨[(35, .s K6 [])],[.f]⟩)] [1,2] [0] .z .z) (.m [(.normal,⟨[],[.f]⟩),(.ret,⟨[(2, .s K6 [])],[.f]⟩)] [1] [0] (.q .z (.b (.l ⟨[(1, .c (.one (.ptr 0 0))),(37, .s K10 []),(38, .s K5 [])],[.v K12 []]⟩ ⟨[(39, .s K5 [])],[.f]⟩ [(.exit 0,⟨[],[.f]⟩),(.ret,⟨[(2, .s K6 [])],[.f]⟩)] (λ (v_6,v_7,_) k v_8=>g_impl_StOk_l0 v_6 v_7 k v_8) .z))) (.m [(.normal,⟨[],[.f]⟩),(.ret,⟨[(2, .s K6 [])],[.f]⟩)] [1] [0] (.q .z (.b (.l ⟨[(1, .c (.one (.ptr 0 0))),(49, .s K11 []),(50, .s K5 [])],[.v K12 []]⟩ ⟨[(51, .s K5 [])],[.f]⟩ [(.exit 2,⟨[],[.f]⟩),(.ret,⟨[(2, .s K6 [])],[.f]⟩)] (λ (v_13,v_14,st_1) k v_15=>g_impl_StOk_l1 v_13 v_14 st_1 k v_15) (.q .z (.q .z (.q (.b (.q .z (.m [(.normal,⟨[(70, .s K6 [])],[.f]⟩)] [5,6,51] [] .z .z))) .z)))))) .z)))
theorem ke_impl_StOk:CK [e_impl_StoreOk,e_impl_within,e_slices_Contains_int] 0 ane_impl_StOk Tryd.f115 e_impl_StOk:=⟨⟨trivial,⟨⟨trivial,trivial⟩,⟨⟨trivial,⟨λ _ _=>rfl,λ _ _ _ _=>by kernel_rfl,trivial⟩⟩,⟨⟨trivial,⟨λ _ _=>rfl,λ _ _ _ _=>by kernel_rfl,⟨trivial,⟨trivial,⟨⟨trivial,⟨trivial,trivial⟩⟩,trivial⟩⟩⟩⟩⟩,trivial⟩⟩⟩⟩,λ _=>by kernel_rfl⟩
noncomputable def ane_impl_NewSt:An:=.z
theorem ke_impl_NewSt:CK [e_slices_Clone_uint32,e_slices_Clone_byte,e_impl_StOk] 0 ane_impl_NewSt Tryd.f114 e_impl_NewSt:=⟨trivial,λ _=>by kernel_rfl⟩
noncomputable def ane_impl_NewWorld:An:=.z
theorem ke_impl_NewWorld:CK [e_impl_NewSt] 0 ane_impl_NewWorld Tryd.f72 e_impl_NewWorld:=⟨trivial,λ _=>by kernel_rfl⟩
noncomputable def ane_strings_Fields:An:=.q .z (.q .z (.q .z (.q .z (.m [(.normal,⟨[(3, .s K5 []),(5, .s K3 [])],[]⟩)] [0,2] [] (.q .z (.b (.l ⟨[(0, .s K13 []),(2, .c (.one (.emp)))],[]⟩ ⟨[(3, .s K5 []),(4, .s K5 []),(5, .s K3 []),(6, .s K5 [])],[]⟩ [(.exit 0,⟨[(3, .s K5 []),(5, .s K3 [])],[]⟩)] (λ s_1 k (n_5,wasSpace_6,setBits_7,i_8)=>g_strings_Fields_l0 s_1 k n_5 wasSpace_6 setBits_7 i_8) .z))) (.q .z (.q .z (.q .z (.q .z (.q .z (.q (.b (.l ⟨[(0, .s K13 []),(2, .c (.one (.emp))),(9, .s K25 [(0,0)]),(10, .s K5 [])],[.o]⟩ ⟨[(12, .s K5 [])],[.f]⟩ [(.exit 2,⟨[(12, .s K5 [])],[.f]⟩)] (λ (s_1,_,_) k i_15=>g_strings_Fields_l1 s_1 k i_15) (.q (.m [(.normal,⟨[(53, .s K6 [])],[.f]⟩)] [12] [] .z .z) .z))) (.q .z (.q (.b (.l ⟨[(0, .s K13 []),(2, .c (.one (.emp)))],[.n]⟩ ⟨[(9, .s K25 [(0,0)]),(10, .s K5 []),(11, .s K5 []),(12, .s K5 [])],[.o]⟩ [(.exit 4,⟨[(9, .s K25 [(0,0)]),(10, .s K5 []),(11, .s K5 [])],[.o]⟩)] (λ s_1 k (a_20,na_21,fieldStart_22,i_23)=>g_strings_Fields_l2 s_1 k a_20 na_21 fieldStart_22 i_23) (.q .z (.b (.q .z (.q .z (.q .z (.q .z (.q (.b (.l ⟨[(0, .s K13 []),(2, .c (.one (.emp))),(9, .s K25 [(0,0)]),(10, .s K5 []),(11, .s K5 [])],[.o]⟩ ⟨[(12, .s K5 [])],[.f]⟩ [(.exit 6,⟨[(12, .s K5 [])],[.f]⟩)] (λ (s_1,_,_,_) k i_33=>g_strings_Fields_l3 s_1 k i_33) (.q (.m [(.normal,⟨[(91, .s K6 [])],[.f]⟩)] [12] [] .z .z) .z))) .z))))))))) (.m [(.normal,⟨[(9, .s K25 [(0,0)])],[.o]⟩)] [0,2,10,11] [] .z .z)))))))))))))
theorem ke_strings_Fields:CK [] 0 ane_strings_Fields Tryd.f178 e_strings_Fields:=⟨⟨trivial,⟨trivial,⟨trivial,⟨trivial,⟨⟨trivial,⟨λ _ _=>rfl,λ _ _ _ _=>by kernel_rfl,trivial⟩⟩,⟨trivial,⟨trivial,⟨trivial,⟨trivial,⟨trivial,⟨⟨λ _ _=>rfl,λ _ _ _ _=>by kernel_rfl,⟨⟨trivial,trivial⟩,trivial⟩⟩,⟨trivial,⟨⟨λ _ _=>rfl,λ _ _ _ _=>by kernel_rfl,⟨trivial,⟨trivial,⟨trivial,⟨trivial,⟨trivial,⟨⟨λ _ _=>rfl,λ _ _ _ _=>by kernel_rfl,⟨⟨trivial,trivial⟩,trivial⟩⟩,trivial⟩⟩⟩⟩⟩⟩⟩,⟨trivial,trivial⟩⟩⟩⟩⟩⟩⟩⟩⟩⟩⟩⟩⟩⟩,λ _=>by kernel_rfl⟩
noncomputable def ane_impl_prims:An:=.z
theorem ke_impl_prims:CK [e_strings_Fields] 0 ane_impl_prims Tryd.f139 e_impl_prims:=⟨trivial,λ _=>by kernel_rfl⟩
noncomputable def ane_impl_PrimName:An:=.z
theorem ke_impl_PrimName:CK [e_impl_prims,e_impl_within] 0 ane_impl_PrimName Tryd.f101 e_impl_PrimName:=⟨trivial,λ _=>by kernel_rfl⟩
noncomputable def ane_impl_opOk:An:=.z
theorem ke_impl_opOk:CK [e_impl_PrimName,e_impl_within] 0 ane_impl_opOk Tryd.f137 e_impl_opOk:=⟨trivial,λ _=>by kernel_rfl⟩
noncomputable def ane_impl_openIn:An:=.q .z (.q .z (.m [(.normal,⟨[(4, .s K11 [(0,1)])],[.d, .o]⟩),(.ret,⟨[(2, .s K11 [(0,1)]),(3, .s K6 [])],[.d, .o]⟩)] [0] [] (.q .z (.b (.l ⟨[(0, .s K15 []),(9, .s K15 []),(10, .s K5 [])],[.n, .n]⟩ ⟨[(4, .s K11 [(0,1)]),(11, .s K5 [])],[.d, .o]⟩ [(.exit 0,⟨[(4, .s K11 [(0,1)])],[.d, .o]⟩),(.ret,⟨[(2, .s K11 [(0,2)]),(3, .s K6 [])],[.d, .d, .o]⟩)] (λ (_,v_7,v_8) k (vopen_9,v_10)=>g_impl_openIn_l0 v_7 v_8 k vopen_9 v_10) (.q .z (.q .z (.m [(.normal,⟨[(4, .s K11 [(0,2)])],[.d, .d, .o]⟩),(.ret,⟨[(2, .s K11 [(0,2)]),(3, .s K6 [])],[.d, .d, .o]⟩)] [11] [] (.b (.q .z (.q .z (.b (.q .z (.q .z (.m [(.normal,⟨[(22, .s K6 [])],[.d, .f, .f]⟩)] [4,6,7] [1,2] .z (.q .z (.m [(.normal,⟨[(41, .s K6 [])],[.d, .f, .f]⟩)] [4,6,7] [1,2] .z (.q (.q (.m [(.normal,⟨[(62, .s K6 [])],[.d, .f, .f]⟩)] [4,6,7] [1,2] .z .z) .z) .z)))))))))) .z)))))) .z))
theorem ke_impl_openIn:CK [e_impl_opOk] 0 ane_impl_openIn Tryd.f96 e_impl_openIn:=⟨⟨trivial,⟨trivial,⟨⟨trivial,⟨λ _ _=>rfl,λ _ _ _ _=>by kernel_rfl,⟨trivial,⟨trivial,⟨⟨trivial,⟨trivial,⟨trivial,⟨trivial,⟨trivial,⟨trivial,⟨trivial,⟨⟨⟨trivial,trivial⟩,trivial⟩,trivial⟩⟩⟩⟩⟩⟩⟩⟩,trivial⟩⟩⟩⟩⟩,trivial⟩⟩⟩,λ _=>by kernel_rfl⟩
end Go.Proofs.YtcnbncafiinfjaaDoor
namespace Go.Proofs.YtcnbncafiinfjaaDoor
open Go Go.Fm
set_option maxRecDepth 1000000
noncomputable def ane_impl_letters:An:=.z
theorem ke_impl_letters:CK [] 0 ane_impl_letters Tryd.f182 e_impl_letters:=⟨trivial,λ _=>by kernel_rfl⟩
theorem fe_ibytealg_IndexByteString:ConOk Tryd.prog e_ibytealg_IndexByteString:=index_ok (fn:=Tryd.f196) Tryd.func196 (by kernel_rfl) (by kernel_rfl) (by kernel_rfl) (by kernel_rfl)
noncomputable def ane_istringslite_IndexByte:An:=.z
theorem ke_istringslite_IndexByte:CK [e_ibytealg_IndexByteString] 0 ane_istringslite_IndexByte Tryd.f193 e_istringslite_IndexByte:=⟨trivial,λ _=>by kernel_rfl⟩
noncomputable def ane_strings_IndexByte:An:=.z
theorem ke_strings_IndexByte:CK [e_istringslite_IndexByte] 0 ane_strings_IndexByte Tryd.f181 e_strings_IndexByte:=⟨trivial,λ _=>by kernel_rfl⟩
noncomputable def ane_impl_LetterOf:An:=.z
theorem ke_impl_LetterOf:CK [e_impl_letters,e_strings_IndexByte] 0 ane_impl_LetterOf Tryd.f143 e_impl_LetterOf:=⟨trivial,λ _=>by kernel_rfl⟩
noncomputable def ane_impl_NameOk:An:=.q .z (.m [(.normal,⟨[],[]⟩),(.ret,⟨[(2, .s K6 [])],[]⟩)] [0] [] (.q .z (.b (.l ⟨[(0, .s K13 []),(5, .s K5 [])],[]⟩ ⟨[(6, .s K5 [])],[]⟩ [(.exit 0,⟨[],[]⟩),(.ret,⟨[(2, .s K6 [])],[]⟩)] (λ (s_1,v_4) k v_5=>g_impl_NameOk_l0 s_1 v_4 k v_5) .z))) .z)
theorem ke_impl_NameOk:CK [e_impl_LetterOf,e_impl_within] 0 ane_impl_NameOk Tryd.f109 e_impl_NameOk:=⟨⟨trivial,⟨⟨trivial,⟨λ _ _=>rfl,λ _ _ _ _=>by kernel_rfl,trivial⟩⟩,trivial⟩⟩,λ _=>by kernel_rfl⟩
noncomputable def ane_impl_callsBelowc1:An:=.z
theorem ke_impl_callsBelowc1:CK [] 1 ane_impl_callsBelowc1 Tryd.f145 e_impl_callsBelowc1:=⟨trivial,λ _=>by kernel_rfl⟩
noncomputable def ane_slices_IndexFunc_Op_impl_callsBelowc1:An:=.q .z (.m [(.normal,⟨[],[.f]⟩),(.ret,⟨[(4, .s K5 [])],[.f]⟩)] [0,1] [] (.q .z (.b (.l ⟨[(0, .s K15 []),(1, .c (.one (.fn 145 [(0,0)]))),(7, .s K5 [])],[.v K5 []]⟩ ⟨[(8, .s K5 [])],[.f]⟩ [(.exit 0,⟨[],[.f]⟩),(.ret,⟨[(4, .s K5 [])],[.f]⟩)] (λ (s_1,v_5,c_2) k v_6=>g_slices_IndexFunc_Op_impl_callsBelowc1_l0 s_1 v_5 c_2 k v_6) .z))) .z)
theorem ke_slices_IndexFunc_Op_impl_callsBelowc1:CK [e_impl_callsBelowc1] 1 ane_slices_IndexFunc_Op_impl_callsBelowc1 Tryd.f183 e_slices_IndexFunc_Op_impl_callsBelowc1:=⟨⟨trivial,⟨⟨trivial,⟨λ _ _=>rfl,λ _ _ _ _=>by kernel_rfl,trivial⟩⟩,trivial⟩⟩,λ _=>by kernel_rfl⟩
end Go.Proofs.YtcnbncafiinfjaaDoor
namespace Go.Proofs.YtcnbncafiinfjaaDoor
open Go Go.Fm
set_option maxRecDepth 1000000
noncomputable def ane_slices_ContainsFunc_Op_impl_callsBelowc1:An:=.z
theorem ke_slices_ContainsFunc_Op_impl_callsBelowc1:CK [e_slices_IndexFunc_Op_impl_callsBelowc1] 1 ane_slices_ContainsFunc_Op_impl_callsBelowc1 Tryd.f144 e_slices_ContainsFunc_Op_impl_callsBelowc1:=⟨trivial,λ _=>by kernel_rfl⟩
noncomputable def ane_impl_callsBelow:An:=.z
theorem ke_impl_callsBelow:CK [e_slices_ContainsFunc_Op_impl_callsBelowc1] 0 ane_impl_callsBelow Tryd.f110 e_impl_callsBelow:=⟨trivial,λ _=>by kernel_rfl⟩
noncomputable def ane_impl_WorldOk:An:=.q .z (.q (.m [(.normal,⟨[(35, .s K6 [])],[.f]⟩)] [1,2] [0] .z .z) (.m [(.normal,⟨[],[.f]⟩),(.ret,⟨[(2, .s K6 [])],[.f]⟩)] [1] [0] (.q .z (.b (.l ⟨[(1, .c (.one (.ptr 0 0))),(37, .s K17 []),(38, .s K5 [])],[.v K20 []]⟩ ⟨[(39, .s K5 [])],[.f]⟩ [(.exit 0,⟨[],[.f]⟩),(.ret,⟨[(2, .s K6 [])],[.f]⟩)] (λ (v_6,v_7,w_1) k v_8=>g_impl_WorldOk_l0 v_6 v_7 w_1 k v_8) (.q .z (.q .z (.q (.b (.q .z (.q .z (.m [(.normal,⟨[(84, .s K6 [])],[.f, .f, .f]⟩)] [3,4,5,6,39] [1,2] .z .z)))) .z)))))) (.m [(.normal,⟨[],[.f]⟩),(.ret,⟨[(2, .s K6 [])],[.f]⟩)] [1] [0] (.q .z (.b (.l ⟨[(1, .c (.one (.ptr 0 0))),(87, .s K19 []),(88, .s K5 [])],[.v K20 []]⟩ ⟨[(89, .s K5 [])],[.f]⟩ [(.exit 2,⟨[],[.f]⟩),(.ret,⟨[(2, .s K6 [])],[.f]⟩)] (λ (v_16,v_17,w_1) k v_18=>g_impl_WorldOk_l1 v_16 v_17 w_1 k v_18) (.q .z (.q .z (.m [(.normal,⟨[],[.f]⟩),(.ret,⟨[(2, .s K6 [])],[.f]⟩)] [89] [] (.b (.q .z (.q .z (.m [(.normal,⟨[(9, .s K6 [])],[.f, .f]⟩)] [8] [1] .z (.m [(.normal,⟨[(115, .s K6 [])],[.f, .f]⟩)] [8,9] [1] .z .z))))) .z)))))) .z)))
theorem ke_impl_WorldOk:CK [e_impl_StOk,e_impl_openIn,e_impl_NameOk,e_impl_callsBelow,e_impl_within,e_slices_Contains_int] 0 ane_impl_WorldOk Tryd.f73 e_impl_WorldOk:=⟨⟨trivial,⟨⟨trivial,trivial⟩,⟨⟨trivial,⟨λ _ _=>rfl,λ _ _ _ _=>by kernel_rfl,⟨trivial,⟨trivial,⟨⟨trivial,⟨trivial,⟨trivial,trivial⟩⟩⟩,trivial⟩⟩⟩⟩⟩,⟨⟨trivial,⟨λ _ _=>rfl,λ _ _ _ _=>by kernel_rfl,⟨trivial,⟨trivial,⟨⟨trivial,⟨trivial,⟨trivial,⟨trivial,trivial⟩⟩⟩⟩,trivial⟩⟩⟩⟩⟩,trivial⟩⟩⟩⟩,λ _=>by kernel_rfl⟩
noncomputable def ane_impl_Open:An:=.z
theorem ke_impl_Open:CK [e_impl_NewWorld,e_impl_WorldOk] 0 ane_impl_Open Tryd.f29 e_impl_Open:=⟨trivial,λ _=>by kernel_rfl⟩
noncomputable def ane_laws_eqOp:An:=.z
theorem ke_laws_eqOp:CK [] 0 ane_laws_eqOp Tryd.f53 e_laws_eqOp:=⟨trivial,λ _=>by kernel_rfl⟩
noncomputable def ane_laws_eqOpS:An:=.q .z (.q .z (.m [(.normal,⟨[],[]⟩),(.ret,⟨[(4, .s K6 [])],[]⟩)] [0,1] [] (.q .z (.b (.l ⟨[(0, .s K15 []),(1, .s K15 [])],[]⟩ ⟨[(5, .s K5 [])],[]⟩ [(.exit 0,⟨[],[]⟩),(.ret,⟨[(4, .s K6 [])],[]⟩)] (λ (a_1,b_2) k i_5=>g_laws_eqOpS_l0 a_1 b_2 k i_5) .z))) .z))
theorem ke_laws_eqOpS:CK [e_laws_eqOp] 0 ane_laws_eqOpS Tryd.f13 e_laws_eqOpS:=⟨⟨trivial,⟨trivial,⟨⟨trivial,⟨λ _ _=>rfl,λ _ _ _ _=>by kernel_rfl,trivial⟩⟩,trivial⟩⟩⟩,λ _=>by kernel_rfl⟩
noncomputable def ane_laws_eqDef:An:=.z
theorem ke_laws_eqDef:CK [e_laws_eqOpS] 0 ane_laws_eqDef Tryd.f67 e_laws_eqDef:=⟨trivial,λ _=>by kernel_rfl⟩
noncomputable def ane_laws_eqDefS:An:=.q .z (.q .z (.m [(.normal,⟨[],[]⟩),(.ret,⟨[(4, .s K6 [])],[]⟩)] [0,1] [] (.q .z (.b (.l ⟨[(0, .s K17 []),(1, .s K17 [])],[]⟩ ⟨[(5, .s K5 [])],[]⟩ [(.exit 0,⟨[],[]⟩),(.ret,⟨[(4, .s K6 [])],[]⟩)] (λ (a_1,b_2) k i_5=>g_laws_eqDefS_l0 a_1 b_2 k i_5) .z))) .z))
theorem ke_laws_eqDefS:CK [e_laws_eqDef] 0 ane_laws_eqDefS Tryd.f21 e_laws_eqDefS:=⟨⟨trivial,⟨trivial,⟨⟨trivial,⟨λ _ _=>rfl,λ _ _ _ _=>by kernel_rfl,trivial⟩⟩,trivial⟩⟩⟩,λ _=>by kernel_rfl⟩
end Go.Proofs.YtcnbncafiinfjaaDoor
namespace Go.Proofs.YtcnbncafiinfjaaDoor
open Go Go.Fm
set_option maxRecDepth 1000000
noncomputable def ane_laws_eqEntry:An:=.z
theorem ke_laws_eqEntry:CK [] 0 ane_laws_eqEntry Tryd.f161 e_laws_eqEntry:=⟨trivial,λ _=>by kernel_rfl⟩
noncomputable def ane_laws_eqEntryS:An:=.q .z (.q .z (.m [(.normal,⟨[],[]⟩),(.ret,⟨[(4, .s K6 [])],[]⟩)] [0,1] [] (.q .z (.b (.l ⟨[(0, .s K19 []),(1, .s K19 [])],[]⟩ ⟨[(5, .s K5 [])],[]⟩ [(.exit 0,⟨[],[]⟩),(.ret,⟨[(4, .s K6 [])],[]⟩)] (λ (a_1,b_2) k i_5=>g_laws_eqEntryS_l0 a_1 b_2 k i_5) .z))) .z))
theorem ke_laws_eqEntryS:CK [e_laws_eqEntry] 0 ane_laws_eqEntryS Tryd.f116 e_laws_eqEntryS:=⟨⟨trivial,⟨trivial,⟨⟨trivial,⟨λ _ _=>rfl,λ _ _ _ _=>by kernel_rfl,trivial⟩⟩,trivial⟩⟩⟩,λ _=>by kernel_rfl⟩
noncomputable def ane_laws_eqInt32S:An:=.q .z (.q .z (.m [(.normal,⟨[],[]⟩),(.ret,⟨[(4, .s K6 [])],[]⟩)] [0,1] [] (.q .z (.b (.l ⟨[(0, .s K8 []),(1, .s K8 [])],[]⟩ ⟨[(5, .s K5 [])],[]⟩ [(.exit 0,⟨[],[]⟩),(.ret,⟨[(4, .s K6 [])],[]⟩)] (λ (a_1,b_2) k i_5=>g_laws_eqInt32S_l0 a_1 b_2 k i_5) .z))) .z))
theorem ke_laws_eqInt32S:CK [] 0 ane_laws_eqInt32S Tryd.f162 e_laws_eqInt32S:=⟨⟨trivial,⟨trivial,⟨⟨trivial,⟨λ _ _=>rfl,λ _ _ _ _=>by kernel_rfl,trivial⟩⟩,trivial⟩⟩⟩,λ _=>by kernel_rfl⟩
noncomputable def ane_laws_eqSlot:An:=.z
theorem ke_laws_eqSlot:CK [] 0 ane_laws_eqSlot Tryd.f190 e_laws_eqSlot:=⟨trivial,λ _=>by kernel_rfl⟩
noncomputable def ane_laws_eqSlotS:An:=.q .z (.q .z (.m [(.normal,⟨[],[]⟩),(.ret,⟨[(4, .s K6 [])],[]⟩)] [0,1] [] (.q .z (.b (.l ⟨[(0, .s K10 []),(1, .s K10 [])],[]⟩ ⟨[(5, .s K5 [])],[]⟩ [(.exit 0,⟨[],[]⟩),(.ret,⟨[(4, .s K6 [])],[]⟩)] (λ (a_1,b_2) k i_5=>g_laws_eqSlotS_l0 a_1 b_2 k i_5) .z))) .z))
theorem ke_laws_eqSlotS:CK [e_laws_eqSlot] 0 ane_laws_eqSlotS Tryd.f163 e_laws_eqSlotS:=⟨⟨trivial,⟨trivial,⟨⟨trivial,⟨λ _ _=>rfl,λ _ _ _ _=>by kernel_rfl,trivial⟩⟩,trivial⟩⟩⟩,λ _=>by kernel_rfl⟩
noncomputable def ane_laws_eqUint32S:An:=.q .z (.q .z (.m [(.normal,⟨[],[]⟩),(.ret,⟨[(4, .s K6 [])],[]⟩)] [0,1] [] (.q .z (.b (.l ⟨[(0, .s K1 []),(1, .s K1 [])],[]⟩ ⟨[(5, .s K5 [])],[]⟩ [(.exit 0,⟨[],[]⟩),(.ret,⟨[(4, .s K6 [])],[]⟩)] (λ (a_1,b_2) k i_5=>g_laws_eqUint32S_l0 a_1 b_2 k i_5) .z))) .z))
theorem ke_laws_eqUint32S:CK [] 0 ane_laws_eqUint32S Tryd.f76 e_laws_eqUint32S:=⟨⟨trivial,⟨trivial,⟨⟨trivial,⟨λ _ _=>rfl,λ _ _ _ _=>by kernel_rfl,trivial⟩⟩,trivial⟩⟩⟩,λ _=>by kernel_rfl⟩
noncomputable def ane_laws_eqIntS:An:=.q .z (.q .z (.m [(.normal,⟨[],[]⟩),(.ret,⟨[(4, .s K6 [])],[]⟩)] [0,1] [] (.q .z (.b (.l ⟨[(0, .s K11 []),(1, .s K11 [])],[]⟩ ⟨[(5, .s K5 [])],[]⟩ [(.exit 0,⟨[],[]⟩),(.ret,⟨[(4, .s K6 [])],[]⟩)] (λ (a_1,b_2) k i_5=>g_laws_eqIntS_l0 a_1 b_2 k i_5) .z))) .z))
theorem ke_laws_eqIntS:CK [] 0 ane_laws_eqIntS Tryd.f20 e_laws_eqIntS:=⟨⟨trivial,⟨trivial,⟨⟨trivial,⟨λ _ _=>rfl,λ _ _ _ _=>by kernel_rfl,trivial⟩⟩,trivial⟩⟩⟩,λ _=>by kernel_rfl⟩
noncomputable def ane_laws_eqByteS:An:=.q .z (.q .z (.m [(.normal,⟨[],[]⟩),(.ret,⟨[(4, .s K6 [])],[]⟩)] [0,1] [] (.q .z (.b (.l ⟨[(0, .s K4 []),(1, .s K4 [])],[]⟩ ⟨[(5, .s K5 [])],[]⟩ [(.exit 0,⟨[],[]⟩),(.ret,⟨[(4, .s K6 [])],[]⟩)] (λ (a_1,b_2) k i_5=>g_laws_eqByteS_l0 a_1 b_2 k i_5) .z))) .z))
theorem ke_laws_eqByteS:CK [] 0 ane_laws_eqByteS Tryd.f32 e_laws_eqByteS:=⟨⟨trivial,⟨trivial,⟨⟨trivial,⟨λ _ _=>rfl,λ _ _ _ _=>by kernel_rfl,trivial⟩⟩,trivial⟩⟩⟩,λ _=>by kernel_rfl⟩
end Go.Proofs.YtcnbncafiinfjaaDoor
namespace Go.Proofs.YtcnbncafiinfjaaDoor
open Go Go.Fm
set_option maxRecDepth 1000000
noncomputable def ane_laws_eqSt:An:=.z
theorem ke_laws_eqSt:CK [e_laws_eqInt32S,e_laws_eqSlotS,e_laws_eqUint32S,e_laws_eqIntS,e_laws_eqByteS] 0 ane_laws_eqSt Tryd.f117 e_laws_eqSt:=⟨trivial,λ _=>by kernel_rfl⟩
noncomputable def ane_laws_eqWorld:An:=.z
theorem ke_laws_eqWorld:CK [e_laws_eqDefS,e_laws_eqEntryS,e_laws_eqSt] 0 ane_laws_eqWorld Tryd.f74 e_laws_eqWorld:=⟨trivial,λ _=>by kernel_rfl⟩
noncomputable def ane_laws_eqItem:An:=.z
theorem ke_laws_eqItem:CK [] 0 ane_laws_eqItem Tryd.f164 e_laws_eqItem:=⟨trivial,λ _=>by kernel_rfl⟩
noncomputable def ane_laws_eqItemS:An:=.q .z (.q .z (.m [(.normal,⟨[],[]⟩),(.ret,⟨[(4, .s K6 [])],[]⟩)] [0,1] [] (.q .z (.b (.l ⟨[(0, .s K22 []),(1, .s K22 [])],[]⟩ ⟨[(5, .s K5 [])],[]⟩ [(.exit 0,⟨[],[]⟩),(.ret,⟨[(4, .s K6 [])],[]⟩)] (λ (a_1,b_2) k i_5=>g_laws_eqItemS_l0 a_1 b_2 k i_5) .z))) .z))
theorem ke_laws_eqItemS:CK [e_laws_eqItem] 0 ane_laws_eqItemS Tryd.f118 e_laws_eqItemS:=⟨⟨trivial,⟨trivial,⟨⟨trivial,⟨λ _ _=>rfl,λ _ _ _ _=>by kernel_rfl,trivial⟩⟩,trivial⟩⟩⟩,λ _=>by kernel_rfl⟩
noncomputable def ane_laws_eqEd:An:=.z
theorem ke_laws_eqEd:CK [e_laws_eqItemS] 0 ane_laws_eqEd Tryd.f75 e_laws_eqEd:=⟨trivial,λ _=>by kernel_rfl⟩
noncomputable def ane_laws_eqSession:An:=.z
theorem ke_laws_eqSession:CK [e_laws_eqWorld,e_laws_eqEd] 0 ane_laws_eqSession Tryd.f30 e_laws_eqSession:=⟨trivial,λ _=>by kernel_rfl⟩
noncomputable def ane_laws_eqStore:An:=.z
theorem ke_laws_eqStore:CK [e_laws_eqUint32S] 0 ane_laws_eqStore Tryd.f31 e_laws_eqStore:=⟨trivial,λ _=>by kernel_rfl⟩
noncomputable def ane_impl_NewWorld_hand:An:=.z
theorem ke_impl_NewWorld_hand:CK [e_impl_NewSt] 2 ane_impl_NewWorld_hand Tryd.f72 e_impl_NewWorld_hand:=⟨trivial,λ _=>by kernel_rfl⟩
end Go.Proofs.YtcnbncafiinfjaaDoor
namespace Go.Proofs.YtcnbncafiinfjaaDoor
open Go Go.Fm
set_option maxRecDepth 1000000
noncomputable def ane_impl_Open_hand:An:=.z
theorem ke_impl_Open_hand:CK [e_impl_NewWorld_hand,e_impl_WorldOk] 2 ane_impl_Open_hand Tryd.f29 e_impl_Open_hand:=⟨trivial,λ _=>by kernel_rfl⟩
noncomputable def ane_laws_markUint32S:An:=.q .z (.m [(.normal,⟨[(1, .s K5 [])],[.r K0]⟩)] [4] [] (.q .z (.b (.l ⟨[(4, .s K5 [])],[.n]⟩ ⟨[(0, .s K1 [(0,0)]),(1, .s K5 []),(5, .s K5 [])],[.o]⟩ [(.exit 0,⟨[(1, .s K5 [])],[.r K0]⟩)] (λ _ k (a_8,k_9,i_10)=>g_laws_markUint32S_l0 k a_8 k_9 i_10) .z))) .z)
theorem ke_laws_markUint32S:CK [] 1 ane_laws_markUint32S Tryd.f77 e_laws_markUint32S:=⟨⟨trivial,⟨⟨trivial,⟨λ _ _=>rfl,λ _ _ _ _=>by kernel_rfl,trivial⟩⟩,trivial⟩⟩,λ _=>by kernel_rfl⟩
noncomputable def ane_laws_markStore:An:=.z
theorem ke_laws_markStore:CK [e_laws_markUint32S] 1 ane_laws_markStore Tryd.f33 e_laws_markStore:=⟨trivial,λ _=>by kernel_rfl⟩
noncomputable def ane_laws_markByteS:An:=.q .z (.m [(.normal,⟨[(1, .s K5 [])],[.r K3]⟩)] [4] [] (.q .z (.b (.l ⟨[(4, .s K5 [])],[.n]⟩ ⟨[(0, .s K4 [(0,0)]),(1, .s K5 []),(5, .s K5 [])],[.o]⟩ [(.exit 0,⟨[(1, .s K5 [])],[.r K3]⟩)] (λ _ k (a_8,k_9,i_10)=>g_laws_markByteS_l0 k a_8 k_9 i_10) .z))) .z)
theorem ke_laws_markByteS:CK [] 1 ane_laws_markByteS Tryd.f34 e_laws_markByteS:=⟨⟨trivial,⟨⟨trivial,⟨λ _ _=>rfl,λ _ _ _ _=>by kernel_rfl,trivial⟩⟩,trivial⟩⟩,λ _=>by kernel_rfl⟩
noncomputable def ane_laws_markText:An:=.q .z (.q .z (.q .z (.q (.b (.l ⟨[(2, .s K13 [])],[]⟩ ⟨[(0, .s K5 []),(3, .s K13 [])],[]⟩ [(.exit 0,⟨[(3, .s K13 [])],[]⟩)] (λ _ k (k_4,out_5)=>g_laws_markText_l0 k k_4 out_5) .z)) .z)))
theorem ke_laws_markText:CK [] 0 ane_laws_markText Tryd.f68 e_laws_markText:=⟨⟨trivial,⟨trivial,⟨trivial,⟨⟨λ _ _=>rfl,λ _ _ _ _=>by kernel_rfl,trivial⟩,trivial⟩⟩⟩⟩,λ _=>by kernel_rfl⟩
noncomputable def ane_laws_markDefS:An:=.q .z (.m [(.normal,⟨[(1, .s K5 [])],[]⟩)] [0,4] [] (.q .z (.b (.l ⟨[(0, .s K17 []),(4, .s K5 [])],[]⟩ ⟨[(1, .s K5 []),(5, .s K5 [])],[]⟩ [(.exit 0,⟨[(1, .s K5 [])],[]⟩)] (λ (a_1,_) k (k_6,i_7)=>g_laws_markDefS_l0 a_1 k k_6 i_7) .z))) .z)
theorem ke_laws_markDefS:CK [e_laws_markText] 0 ane_laws_markDefS Tryd.f22 e_laws_markDefS:=⟨⟨trivial,⟨⟨trivial,⟨λ _ _=>rfl,λ _ _ _ _=>by kernel_rfl,trivial⟩⟩,trivial⟩⟩,λ _=>by kernel_rfl⟩
noncomputable def ane_laws_markEntryS:An:=.q .z (.m [(.normal,⟨[(1, .s K5 [])],[.r K18]⟩)] [4] [] (.q .z (.b (.l ⟨[(4, .s K5 [])],[.n]⟩ ⟨[(0, .s K19 [(0,0)]),(1, .s K5 []),(5, .s K5 [])],[.o]⟩ [(.exit 0,⟨[(1, .s K5 [])],[.r K18]⟩)] (λ _ k (a_8,k_9,i_10)=>g_laws_markEntryS_l0 k a_8 k_9 i_10) .z))) .z)
theorem ke_laws_markEntryS:CK [e_laws_markText] 1 ane_laws_markEntryS Tryd.f119 e_laws_markEntryS:=⟨⟨trivial,⟨⟨trivial,⟨λ _ _=>rfl,λ _ _ _ _=>by kernel_rfl,trivial⟩⟩,trivial⟩⟩,λ _=>by kernel_rfl⟩
end Go.Proofs.YtcnbncafiinfjaaDoor
namespace Go.Proofs.YtcnbncafiinfjaaDoor
open Go Go.Fm
set_option maxRecDepth 1000000
noncomputable def ane_laws_markInt32S:An:=.q .z (.m [(.normal,⟨[(1, .s K5 [])],[.r K7]⟩)] [4] [] (.q .z (.b (.l ⟨[(4, .s K5 [])],[.n]⟩ ⟨[(0, .s K8 [(0,0)]),(1, .s K5 []),(5, .s K5 [])],[.o]⟩ [(.exit 0,⟨[(1, .s K5 [])],[.r K7]⟩)] (λ _ k (a_8,k_9,i_10)=>g_laws_markInt32S_l0 k a_8 k_9 i_10) .z))) .z)
theorem ke_laws_markInt32S:CK [] 1 ane_laws_markInt32S Tryd.f165 e_laws_markInt32S:=⟨⟨trivial,⟨⟨trivial,⟨λ _ _=>rfl,λ _ _ _ _=>by kernel_rfl,trivial⟩⟩,trivial⟩⟩,λ _=>by kernel_rfl⟩
noncomputable def ane_laws_markSlotS:An:=.q .z (.m [(.normal,⟨[(1, .s K5 [])],[.r K9]⟩)] [4] [] (.q .z (.b (.l ⟨[(4, .s K5 [])],[.n]⟩ ⟨[(0, .s K10 [(0,0)]),(1, .s K5 []),(5, .s K5 [])],[.o]⟩ [(.exit 0,⟨[(1, .s K5 [])],[.r K9]⟩)] (λ _ k (a_8,k_9,i_10)=>g_laws_markSlotS_l0 k a_8 k_9 i_10) .z))) .z)
theorem ke_laws_markSlotS:CK [] 1 ane_laws_markSlotS Tryd.f166 e_laws_markSlotS:=⟨⟨trivial,⟨⟨trivial,⟨λ _ _=>rfl,λ _ _ _ _=>by kernel_rfl,trivial⟩⟩,trivial⟩⟩,λ _=>by kernel_rfl⟩
noncomputable def ane_laws_markIntS:An:=.q .z (.m [(.normal,⟨[(1, .s K5 [])],[.r K5]⟩)] [4] [] (.q .z (.b (.l ⟨[(4, .s K5 [])],[.n]⟩ ⟨[(0, .s K11 [(0,0)]),(1, .s K5 []),(5, .s K5 [])],[.o]⟩ [(.exit 0,⟨[(1, .s K5 [])],[.r K5]⟩)] (λ _ k (a_8,k_9,i_10)=>g_laws_markIntS_l0 k a_8 k_9 i_10) .z))) .z)
theorem ke_laws_markIntS:CK [] 1 ane_laws_markIntS Tryd.f23 e_laws_markIntS:=⟨⟨trivial,⟨⟨trivial,⟨λ _ _=>rfl,λ _ _ _ _=>by kernel_rfl,trivial⟩⟩,trivial⟩⟩,λ _=>by kernel_rfl⟩
noncomputable def ane_laws_markSt:An:=.z
theorem ke_laws_markSt:CK [e_laws_markInt32S,e_laws_markSlotS,e_laws_markUint32S,e_laws_markIntS,e_laws_markByteS] 7 ane_laws_markSt Tryd.f120 e_laws_markSt:=⟨trivial,λ _=>by kernel_rfl⟩
noncomputable def ane_laws_markWorld:An:=.z
theorem ke_laws_markWorld:CK [e_laws_markDefS,e_laws_markEntryS,e_laws_markSt] 9 ane_laws_markWorld Tryd.f78 e_laws_markWorld:=⟨trivial,λ _=>by kernel_rfl⟩
noncomputable def ane_laws_markItemS:An:=.q .z (.m [(.normal,⟨[(1, .s K5 [])],[.r K21]⟩)] [4] [] (.q .z (.b (.l ⟨[(4, .s K5 [])],[.n]⟩ ⟨[(0, .s K22 [(0,0)]),(1, .s K5 []),(5, .s K5 [])],[.o]⟩ [(.exit 0,⟨[(1, .s K5 [])],[.r K21]⟩)] (λ _ k (a_8,k_9,i_10)=>g_laws_markItemS_l0 k a_8 k_9 i_10) .z))) .z)
theorem ke_laws_markItemS:CK [e_laws_markText] 1 ane_laws_markItemS Tryd.f121 e_laws_markItemS:=⟨⟨trivial,⟨⟨trivial,⟨λ _ _=>rfl,λ _ _ _ _=>by kernel_rfl,trivial⟩⟩,trivial⟩⟩,λ _=>by kernel_rfl⟩
noncomputable def ane_laws_markEd:An:=.z
theorem ke_laws_markEd:CK [e_laws_markItemS] 3 ane_laws_markEd Tryd.f79 e_laws_markEd:=⟨trivial,λ _=>by kernel_rfl⟩
noncomputable def ane_laws_markSession:An:=.z
theorem ke_laws_markSession:CK [e_laws_markWorld,e_laws_markEd] 12 ane_laws_markSession Tryd.f35 e_laws_markSession:=⟨trivial,λ _=>by kernel_rfl⟩
end Go.Proofs.YtcnbncafiinfjaaDoor
namespace Go.Proofs.YtcnbncafiinfjaaDoor
open Go Go.Fm
set_option maxRecDepth 1000000
noncomputable def ane_laws_heldOpS:An:=.q .z (.m [(.normal,⟨[(1, .s K5 [])],[]⟩),(.ret,⟨[(4, .s K5 [])],[]⟩)] [0] [] (.q .z (.b (.l ⟨[(0, .s K15 [])],[]⟩ ⟨[(1, .s K5 []),(5, .s K5 [])],[]⟩ [(.exit 0,⟨[(1, .s K5 [])],[]⟩),(.ret,⟨[(4, .s K5 [])],[]⟩)] (λ a_1 k (k_6,i_7)=>g_laws_heldOpS_l0 a_1 k k_6 i_7) .z))) .z)
theorem ke_laws_heldOpS:CK [] 0 ane_laws_heldOpS Tryd.f15 e_laws_heldOpS:=⟨⟨trivial,⟨⟨trivial,⟨λ _ _=>rfl,λ _ _ _ _=>by kernel_rfl,trivial⟩⟩,trivial⟩⟩,λ _=>by kernel_rfl⟩
noncomputable def ane_laws_heldDefS:An:=.q .z (.m [(.normal,⟨[(1, .s K5 [])],[]⟩),(.ret,⟨[(4, .s K5 [])],[]⟩)] [0] [] (.q .z (.b (.l ⟨[(0, .s K17 [])],[]⟩ ⟨[(1, .s K5 []),(5, .s K5 [])],[]⟩ [(.exit 0,⟨[(1, .s K5 [])],[]⟩),(.ret,⟨[(4, .s K5 [])],[]⟩)] (λ a_1 k (k_6,i_7)=>g_laws_heldDefS_l0 a_1 k k_6 i_7) .z))) .z)
theorem ke_laws_heldDefS:CK [e_laws_markText,e_laws_heldOpS] 0 ane_laws_heldDefS Tryd.f43 e_laws_heldDefS:=⟨⟨trivial,⟨⟨trivial,⟨λ _ _=>rfl,λ _ _ _ _=>by kernel_rfl,trivial⟩⟩,trivial⟩⟩,λ _=>by kernel_rfl⟩
noncomputable def ane_laws_heldEntryS:An:=.q .z (.m [(.normal,⟨[(1, .s K5 [])],[]⟩),(.ret,⟨[(4, .s K5 [])],[]⟩)] [0] [] (.q .z (.b (.l ⟨[(0, .s K19 [])],[]⟩ ⟨[(1, .s K5 []),(5, .s K5 [])],[]⟩ [(.exit 0,⟨[(1, .s K5 [])],[]⟩),(.ret,⟨[(4, .s K5 [])],[]⟩)] (λ a_1 k (k_6,i_7)=>g_laws_heldEntryS_l0 a_1 k k_6 i_7) .z))) .z)
theorem ke_laws_heldEntryS:CK [e_laws_markText] 0 ane_laws_heldEntryS Tryd.f122 e_laws_heldEntryS:=⟨⟨trivial,⟨⟨trivial,⟨λ _ _=>rfl,λ _ _ _ _=>by kernel_rfl,trivial⟩⟩,trivial⟩⟩,λ _=>by kernel_rfl⟩
noncomputable def ane_laws_heldInt32S:An:=.q .z (.m [(.normal,⟨[(1, .s K5 [])],[]⟩),(.ret,⟨[(4, .s K5 [])],[]⟩)] [0] [] (.q .z (.b (.l ⟨[(0, .s K8 [])],[]⟩ ⟨[(1, .s K5 []),(5, .s K5 [])],[]⟩ [(.exit 0,⟨[(1, .s K5 [])],[]⟩),(.ret,⟨[(4, .s K5 [])],[]⟩)] (λ a_1 k (k_6,i_7)=>g_laws_heldInt32S_l0 a_1 k k_6 i_7) .z))) .z)
theorem ke_laws_heldInt32S:CK [] 0 ane_laws_heldInt32S Tryd.f167 e_laws_heldInt32S:=⟨⟨trivial,⟨⟨trivial,⟨λ _ _=>rfl,λ _ _ _ _=>by kernel_rfl,trivial⟩⟩,trivial⟩⟩,λ _=>by kernel_rfl⟩
noncomputable def ane_laws_heldSlotS:An:=.q .z (.m [(.normal,⟨[(1, .s K5 [])],[]⟩),(.ret,⟨[(4, .s K5 [])],[]⟩)] [0] [] (.q .z (.b (.l ⟨[(0, .s K10 [])],[]⟩ ⟨[(1, .s K5 []),(5, .s K5 [])],[]⟩ [(.exit 0,⟨[(1, .s K5 [])],[]⟩),(.ret,⟨[(4, .s K5 [])],[]⟩)] (λ a_1 k (k_6,i_7)=>g_laws_heldSlotS_l0 a_1 k k_6 i_7) .z))) .z)
theorem ke_laws_heldSlotS:CK [] 0 ane_laws_heldSlotS Tryd.f168 e_laws_heldSlotS:=⟨⟨trivial,⟨⟨trivial,⟨λ _ _=>rfl,λ _ _ _ _=>by kernel_rfl,trivial⟩⟩,trivial⟩⟩,λ _=>by kernel_rfl⟩
noncomputable def ane_laws_heldUint32S:An:=.q .z (.m [(.normal,⟨[(1, .s K5 [])],[]⟩),(.ret,⟨[(4, .s K5 [])],[]⟩)] [0] [] (.q .z (.b (.l ⟨[(0, .s K1 [])],[]⟩ ⟨[(1, .s K5 []),(5, .s K5 [])],[]⟩ [(.exit 0,⟨[(1, .s K5 [])],[]⟩),(.ret,⟨[(4, .s K5 [])],[]⟩)] (λ a_1 k (k_6,i_7)=>g_laws_heldUint32S_l0 a_1 k k_6 i_7) .z))) .z)
theorem ke_laws_heldUint32S:CK [] 0 ane_laws_heldUint32S Tryd.f169 e_laws_heldUint32S:=⟨⟨trivial,⟨⟨trivial,⟨λ _ _=>rfl,λ _ _ _ _=>by kernel_rfl,trivial⟩⟩,trivial⟩⟩,λ _=>by kernel_rfl⟩
noncomputable def ane_laws_heldIntS:An:=.q .z (.m [(.normal,⟨[(1, .s K5 [])],[]⟩),(.ret,⟨[(4, .s K5 [])],[]⟩)] [0] [] (.q .z (.b (.l ⟨[(0, .s K11 [])],[]⟩ ⟨[(1, .s K5 []),(5, .s K5 [])],[]⟩ [(.exit 0,⟨[(1, .s K5 [])],[]⟩),(.ret,⟨[(4, .s K5 [])],[]⟩)] (λ a_1 k (k_6,i_7)=>g_laws_heldIntS_l0 a_1 k k_6 i_7) .z))) .z)
theorem ke_laws_heldIntS:CK [] 0 ane_laws_heldIntS Tryd.f24 e_laws_heldIntS:=⟨⟨trivial,⟨⟨trivial,⟨λ _ _=>rfl,λ _ _ _ _=>by kernel_rfl,trivial⟩⟩,trivial⟩⟩,λ _=>by kernel_rfl⟩
noncomputable def ane_laws_heldByteS:An:=.q .z (.m [(.normal,⟨[(1, .s K5 [])],[]⟩),(.ret,⟨[(4, .s K5 [])],[]⟩)] [0] [] (.q .z (.b (.l ⟨[(0, .s K4 [])],[]⟩ ⟨[(1, .s K5 []),(5, .s K5 [])],[]⟩ [(.exit 0,⟨[(1, .s K5 [])],[]⟩),(.ret,⟨[(4, .s K5 [])],[]⟩)] (λ a_1 k (k_6,i_7)=>g_laws_heldByteS_l0 a_1 k k_6 i_7) .z))) .z)
theorem ke_laws_heldByteS:CK [] 0 ane_laws_heldByteS Tryd.f170 e_laws_heldByteS:=⟨⟨trivial,⟨⟨trivial,⟨λ _ _=>rfl,λ _ _ _ _=>by kernel_rfl,trivial⟩⟩,trivial⟩⟩,λ _=>by kernel_rfl⟩
end Go.Proofs.YtcnbncafiinfjaaDoor
namespace Go.Proofs.YtcnbncafiinfjaaDoor
open Go Go.Fm
set_option maxRecDepth 1000000
noncomputable def ane_laws_heldSt:An:=.z
theorem ke_laws_heldSt:CK [e_laws_heldInt32S,e_laws_heldSlotS,e_laws_heldUint32S,e_laws_heldIntS,e_laws_heldByteS] 0 ane_laws_heldSt Tryd.f123 e_laws_heldSt:=⟨trivial,λ _=>by kernel_rfl⟩
noncomputable def ane_laws_heldWorld:An:=.z
theorem ke_laws_heldWorld:CK [e_laws_heldDefS,e_laws_heldEntryS,e_laws_heldSt] 0 ane_laws_heldWorld Tryd.f80 e_laws_heldWorld:=⟨trivial,λ _=>by kernel_rfl⟩
noncomputable def ane_laws_heldItemS:An:=.q .z (.m [(.normal,⟨[(1, .s K5 [])],[]⟩),(.ret,⟨[(4, .s K5 [])],[]⟩)] [0] [] (.q .z (.b (.l ⟨[(0, .s K22 [])],[]⟩ ⟨[(1, .s K5 []),(5, .s K5 [])],[]⟩ [(.exit 0,⟨[(1, .s K5 [])],[]⟩),(.ret,⟨[(4, .s K5 [])],[]⟩)] (λ a_1 k (k_6,i_7)=>g_laws_heldItemS_l0 a_1 k k_6 i_7) .z))) .z)
theorem ke_laws_heldItemS:CK [e_laws_markText] 0 ane_laws_heldItemS Tryd.f124 e_laws_heldItemS:=⟨⟨trivial,⟨⟨trivial,⟨λ _ _=>rfl,λ _ _ _ _=>by kernel_rfl,trivial⟩⟩,trivial⟩⟩,λ _=>by kernel_rfl⟩
noncomputable def ane_laws_heldEd:An:=.z
theorem ke_laws_heldEd:CK [e_laws_heldItemS] 0 ane_laws_heldEd Tryd.f81 e_laws_heldEd:=⟨trivial,λ _=>by kernel_rfl⟩
noncomputable def ane_laws_heldSession:An:=.z
theorem ke_laws_heldSession:CK [e_laws_heldWorld,e_laws_heldEd] 0 ane_laws_heldSession Tryd.f36 e_laws_heldSession:=⟨trivial,λ _=>by kernel_rfl⟩
noncomputable def ane_laws_FnExactOpen:An:=.q .z (.q .z (.q .z (.q .z (.q .z (.q .z (.q .z (.q .z (.q .z (.q .z (.q .z (.q .z (.q .z (.q .z (.q .z (.q (.m [(.normal,⟨[(65, .s K6 [])],[.f, .d, .d, .f, .f, .f, .f, .f, .f, .f, .f, .f, .f, .f, .f, .f, .d, .d, .d, .f, .f, .f, .f, .f, .f, .f, .f, .f, .f, .f, .f, .f, .d, .d]⟩)] [1,2,3,6,8,11,12] [0,3,4,5,6,7,8,9,10,11,12,13,14,15,19,20,21,22,23,24,25,26,27,28,29,30,31] .z .z) .z)))))))))))))))
theorem ke_laws_FnExactOpen:CK [e_laws_szStore,e_laws_toStore,e_laws_toByteS,e_spec_Open,e_impl_Open_hand,e_laws_eqSession,e_laws_eqStore,e_laws_eqByteS,e_laws_markStore,e_laws_markByteS,e_laws_markSession,e_laws_heldSession,e_impl_Open] 0 ane_laws_FnExactOpen Tryd.f5 e_laws_FnExactOpen:=⟨⟨trivial,⟨trivial,⟨trivial,⟨trivial,⟨trivial,⟨trivial,⟨trivial,⟨trivial,⟨trivial,⟨trivial,⟨trivial,⟨trivial,⟨trivial,⟨trivial,⟨trivial,⟨⟨trivial,trivial⟩,trivial⟩⟩⟩⟩⟩⟩⟩⟩⟩⟩⟩⟩⟩⟩⟩⟩,λ _=>by kernel_rfl⟩
end Go.Proofs.YtcnbncafiinfjaaDoor
namespace Go.Proofs.YtcnbncafiinfjaaDoor
open Go Go.Fm
set_option maxRecDepth 1000000
theorem ce_laws_szUint32S:CO e_laws_szUint32S:=fnc (λ _=>con_nil) Tryd.func69 ke_laws_szUint32S (by kernel_rfl) (λ _=>by kernel_rfl) (λ _=>by kernel_rfl) rfl
theorem ce_laws_szStore:CO e_laws_szStore:=fnc (λ _=>con_cons ce_laws_szUint32S con_nil) Tryd.func25 ke_laws_szStore (by kernel_rfl) (λ _=>by kernel_rfl) (λ _=>by kernel_rfl) rfl
theorem ce_laws_toUint32S:CO e_laws_toUint32S:=fnc (λ _=>con_nil) Tryd.func71 ke_laws_toUint32S (by kernel_rfl) (λ _=>by kernel_rfl) (λ _=>by kernel_rfl) rfl
theorem ce_laws_toStore:CO e_laws_toStore:=fnc (λ _=>con_cons ce_laws_toUint32S con_nil) Tryd.func27 ke_laws_toStore (by kernel_rfl) (λ _=>by kernel_rfl) (λ _=>by kernel_rfl) rfl
theorem ce_laws_toByteS:CO e_laws_toByteS:=fnc (λ _=>con_nil) Tryd.func28 ke_laws_toByteS (by kernel_rfl) (λ _=>by kernel_rfl) (λ _=>by kernel_rfl) rfl
theorem ce_spec_StoreOk:CO e_spec_StoreOk:=fnc (λ _=>con_nil) Tryd.func157 ke_spec_StoreOk (by kernel_rfl) (λ _=>by kernel_rfl) (λ _=>by kernel_rfl) rfl
theorem ce_spec_l01In:CO e_spec_l01In:=fnc (λ _=>con_nil) Tryd.func56 ke_spec_l01In (by kernel_rfl) (λ _=>by kernel_rfl) (λ _=>by kernel_rfl) rfl
theorem ce_spec_NewSt:CO e_spec_NewSt:=fnc (λ _=>con_cons ce_spec_StoreOk (con_cons ce_spec_l01In con_nil)) Tryd.func113 ke_spec_NewSt (by kernel_rfl) (λ _=>by kernel_rfl) (λ _=>by kernel_rfl) rfl
theorem ce_spec_NewWorld:CO e_spec_NewWorld:=fnc (λ _=>con_cons ce_spec_NewSt con_nil) Tryd.func70 ke_spec_NewWorld (by kernel_rfl) (λ _=>by kernel_rfl) (λ _=>by kernel_rfl) rfl
theorem ce_spec_Open:CO e_spec_Open:=fnc (λ _=>con_cons ce_spec_NewWorld con_nil) Tryd.func26 ke_spec_Open (by kernel_rfl) (λ _=>by kernel_rfl) (λ _=>by kernel_rfl) rfl
theorem ce_slices_Clone_uint32:ConOk Tryd.prog e_slices_Clone_uint32:=fe_slices_Clone_uint32
theorem ce_slices_Clone_byte:ConOk Tryd.prog e_slices_Clone_byte:=fe_slices_Clone_byte
theorem ce_impl_StoreOk:CO e_impl_StoreOk:=fnc (λ _=>con_nil) Tryd.func160 ke_impl_StoreOk (by kernel_rfl) (λ _=>by kernel_rfl) (λ _=>by kernel_rfl) rfl
theorem ce_impl_within:CO e_impl_within:=fnc (λ _=>con_nil) Tryd.func62 ke_impl_within (by kernel_rfl) (λ _=>by kernel_rfl) (λ _=>by kernel_rfl) rfl
theorem ce_slices_Index_int:CO e_slices_Index_int:=fnc (λ _=>con_nil) Tryd.func87 ke_slices_Index_int (by kernel_rfl) (λ _=>by kernel_rfl) (λ _=>by kernel_rfl) rfl
theorem ce_slices_Contains_int:CO e_slices_Contains_int:=fnc (λ _=>con_cons ce_slices_Index_int con_nil) Tryd.func65 ke_slices_Contains_int (by kernel_rfl) (λ _=>by kernel_rfl) (λ _=>by kernel_rfl) rfl
theorem ce_impl_StOk:CO e_impl_StOk:=fnc (λ _=>con_cons ce_impl_StoreOk (con_cons ce_impl_within (con_cons ce_slices_Contains_int con_nil))) Tryd.func115 ke_impl_StOk (by kernel_rfl) (λ _=>by kernel_rfl) (λ _=>by kernel_rfl) rfl
theorem ce_impl_NewSt:CO e_impl_NewSt:=fnc (λ _=>con_cons ce_slices_Clone_uint32 (con_cons ce_slices_Clone_byte (con_cons ce_impl_StOk con_nil))) Tryd.func114 ke_impl_NewSt (by kernel_rfl) (λ _=>by kernel_rfl) (λ _=>by kernel_rfl) rfl
theorem ce_impl_NewWorld:CO e_impl_NewWorld:=fnc (λ _=>con_cons ce_impl_NewSt con_nil) Tryd.func72 ke_impl_NewWorld (by kernel_rfl) (λ _=>by kernel_rfl) (λ _=>by kernel_rfl) rfl
theorem ce_strings_Fields:CO e_strings_Fields:=fnc (λ _=>con_nil) Tryd.func178 ke_strings_Fields (by kernel_rfl) (λ _=>by kernel_rfl) (λ _=>by kernel_rfl) rfl
theorem ce_impl_prims:CO e_impl_prims:=fnc (λ _=>con_cons ce_strings_Fields con_nil) Tryd.func139 ke_impl_prims (by kernel_rfl) (λ _=>by kernel_rfl) (λ _=>by kernel_rfl) rfl
theorem ce_impl_PrimName:CO e_impl_PrimName:=fnc (λ _=>con_cons ce_impl_prims (con_cons ce_impl_within con_nil)) Tryd.func101 ke_impl_PrimName (by kernel_rfl) (λ _=>by kernel_rfl) (λ _=>by kernel_rfl) rfl
theorem ce_impl_opOk:CO e_impl_opOk:=fnc (λ _=>con_cons ce_impl_PrimName (con_cons ce_impl_within con_nil)) Tryd.func137 ke_impl_opOk (by kernel_rfl) (λ _=>by kernel_rfl) (λ _=>by kernel_rfl) rfl
theorem ce_impl_openIn:CO e_impl_openIn:=fnc (λ _=>con_cons ce_impl_opOk con_nil) Tryd.func96 ke_impl_openIn (by kernel_rfl) (λ _=>by kernel_rfl) (λ _=>by kernel_rfl) rfl
theorem ce_impl_letters:CO e_impl_letters:=fnc (λ _=>con_nil) Tryd.func182 ke_impl_letters (by kernel_rfl) (λ _=>by kernel_rfl) (λ _=>by kernel_rfl) rfl
theorem ce_ibytealg_IndexByteString:ConOk Tryd.prog e_ibytealg_IndexByteString:=fe_ibytealg_IndexByteString
theorem ce_istringslite_IndexByte:CO e_istringslite_IndexByte:=fnc (λ _=>con_cons ce_ibytealg_IndexByteString con_nil) Tryd.func193 ke_istringslite_IndexByte (by kernel_rfl) (λ _=>by kernel_rfl) (λ _=>by kernel_rfl) rfl
theorem ce_strings_IndexByte:CO e_strings_IndexByte:=fnc (λ _=>con_cons ce_istringslite_IndexByte con_nil) Tryd.func181 ke_strings_IndexByte (by kernel_rfl) (λ _=>by kernel_rfl) (λ _=>by kernel_rfl) rfl
theorem ce_impl_LetterOf:CO e_impl_LetterOf:=fnc (λ _=>con_cons ce_impl_letters (con_cons ce_strings_IndexByte con_nil)) Tryd.func143 ke_impl_LetterOf (by kernel_rfl) (λ _=>by kernel_rfl) (λ _=>by kernel_rfl) rfl
theorem ce_impl_NameOk:CO e_impl_NameOk:=fnc (λ _=>con_cons ce_impl_LetterOf (con_cons ce_impl_within con_nil)) Tryd.func109 ke_impl_NameOk (by kernel_rfl) (λ _=>by kernel_rfl) (λ _=>by kernel_rfl) rfl
theorem ce_impl_callsBelowc1:CO e_impl_callsBelowc1:=fnc (λ _=>con_nil) Tryd.func145 ke_impl_callsBelowc1 (by kernel_rfl) (λ _=>by kernel_rfl) (λ _=>by kernel_rfl) rfl
theorem ce_slices_IndexFunc_Op_impl_callsBelowc1:CO e_slices_IndexFunc_Op_impl_callsBelowc1:=fnc (λ _=>con_cons ce_impl_callsBelowc1 con_nil) Tryd.func183 ke_slices_IndexFunc_Op_impl_callsBelowc1 (by kernel_rfl) (λ _=>by kernel_rfl) (λ _=>by kernel_rfl) rfl
theorem ce_slices_ContainsFunc_Op_impl_callsBelowc1:CO e_slices_ContainsFunc_Op_impl_callsBelowc1:=fnc (λ _=>con_cons ce_slices_IndexFunc_Op_impl_callsBelowc1 con_nil) Tryd.func144 ke_slices_ContainsFunc_Op_impl_callsBelowc1 (by kernel_rfl) (λ _=>by kernel_rfl) (λ _=>by kernel_rfl) rfl
theorem ce_impl_callsBelow:CO e_impl_callsBelow:=fnc (λ _=>con_cons ce_slices_ContainsFunc_Op_impl_callsBelowc1 con_nil) Tryd.func110 ke_impl_callsBelow (by kernel_rfl) (λ _=>by kernel_rfl) (λ _=>by kernel_rfl) rfl
theorem ce_impl_WorldOk:CO e_impl_WorldOk:=fnc (λ _=>con_cons ce_impl_StOk (con_cons ce_impl_openIn (con_cons ce_impl_NameOk (con_cons ce_impl_callsBelow (con_cons ce_impl_within (con_cons ce_slices_Contains_int con_nil)))))) Tryd.func73 ke_impl_WorldOk (by kernel_rfl) (λ _=>by kernel_rfl) (λ _=>by kernel_rfl) rfl
theorem ce_impl_Open:CO e_impl_Open:=fnc (λ _=>con_cons ce_impl_NewWorld (con_cons ce_impl_WorldOk con_nil)) Tryd.func29 ke_impl_Open (by kernel_rfl) (λ _=>by kernel_rfl) (λ _=>by kernel_rfl) rfl
theorem ce_laws_eqOp:CO e_laws_eqOp:=fnc (λ _=>con_nil) Tryd.func53 ke_laws_eqOp (by kernel_rfl) (λ _=>by kernel_rfl) (λ _=>by kernel_rfl) rfl
theorem ce_laws_eqOpS:CO e_laws_eqOpS:=fnc (λ _=>con_cons ce_laws_eqOp con_nil) Tryd.func13 ke_laws_eqOpS (by kernel_rfl) (λ _=>by kernel_rfl) (λ _=>by kernel_rfl) rfl
theorem ce_laws_eqDef:CO e_laws_eqDef:=fnc (λ _=>con_cons ce_laws_eqOpS con_nil) Tryd.func67 ke_laws_eqDef (by kernel_rfl) (λ _=>by kernel_rfl) (λ _=>by kernel_rfl) rfl
theorem ce_laws_eqDefS:CO e_laws_eqDefS:=fnc (λ _=>con_cons ce_laws_eqDef con_nil) Tryd.func21 ke_laws_eqDefS (by kernel_rfl) (λ _=>by kernel_rfl) (λ _=>by kernel_rfl) rfl
theorem ce_laws_eqEntry:CO e_laws_eqEntry:=fnc (λ _=>con_nil) Tryd.func161 ke_laws_eqEntry (by kernel_rfl) (λ _=>by kernel_rfl) (λ _=>by kernel_rfl) rfl
theorem ce_laws_eqEntryS:CO e_laws_eqEntryS:=fnc (λ _=>con_cons ce_laws_eqEntry con_nil) Tryd.func116 ke_laws_eqEntryS (by kernel_rfl) (λ _=>by kernel_rfl) (λ _=>by kernel_rfl) rfl
theorem ce_laws_eqInt32S:CO e_laws_eqInt32S:=fnc (λ _=>con_nil) Tryd.func162 ke_laws_eqInt32S (by kernel_rfl) (λ _=>by kernel_rfl) (λ _=>by kernel_rfl) rfl
theorem ce_laws_eqSlot:CO e_laws_eqSlot:=fnc (λ _=>con_nil) Tryd.func190 ke_laws_eqSlot (by kernel_rfl) (λ _=>by kernel_rfl) (λ _=>by kernel_rfl) rfl
theorem ce_laws_eqSlotS:CO e_laws_eqSlotS:=fnc (λ _=>con_cons ce_laws_eqSlot con_nil) Tryd.func163 ke_laws_eqSlotS (by kernel_rfl) (λ _=>by kernel_rfl) (λ _=>by kernel_rfl) rfl
theorem ce_laws_eqUint32S:CO e_laws_eqUint32S:=fnc (λ _=>con_nil) Tryd.func76 ke_laws_eqUint32S (by kernel_rfl) (λ _=>by kernel_rfl) (λ _=>by kernel_rfl) rfl
theorem ce_laws_eqIntS:CO e_laws_eqIntS:=fnc (λ _=>con_nil) Tryd.func20 ke_laws_eqIntS (by kernel_rfl) (λ _=>by kernel_rfl) (λ _=>by kernel_rfl) rfl
theorem ce_laws_eqByteS:CO e_laws_eqByteS:=fnc (λ _=>con_nil) Tryd.func32 ke_laws_eqByteS (by kernel_rfl) (λ _=>by kernel_rfl) (λ _=>by kernel_rfl) rfl
theorem ce_laws_eqSt:CO e_laws_eqSt:=fnc (λ _=>con_cons ce_laws_eqInt32S (con_cons ce_laws_eqSlotS (con_cons ce_laws_eqUint32S (con_cons ce_laws_eqIntS (con_cons ce_laws_eqByteS con_nil))))) Tryd.func117 ke_laws_eqSt (by kernel_rfl) (λ _=>by kernel_rfl) (λ _=>by kernel_rfl) rfl
theorem ce_laws_eqWorld:CO e_laws_eqWorld:=fnc (λ _=>con_cons ce_laws_eqDefS (con_cons ce_laws_eqEntryS (con_cons ce_laws_eqSt con_nil))) Tryd.func74 ke_laws_eqWorld (by kernel_rfl) (λ _=>by kernel_rfl) (λ _=>by kernel_rfl) rfl
theorem ce_laws_eqItem:CO e_laws_eqItem:=fnc (λ _=>con_nil) Tryd.func164 ke_laws_eqItem (by kernel_rfl) (λ _=>by kernel_rfl) (λ _=>by kernel_rfl) rfl
theorem ce_laws_eqItemS:CO e_laws_eqItemS:=fnc (λ _=>con_cons ce_laws_eqItem con_nil) Tryd.func118 ke_laws_eqItemS (by kernel_rfl) (λ _=>by kernel_rfl) (λ _=>by kernel_rfl) rfl
theorem ce_laws_eqEd:CO e_laws_eqEd:=fnc (λ _=>con_cons ce_laws_eqItemS con_nil) Tryd.func75 ke_laws_eqEd (by kernel_rfl) (λ _=>by kernel_rfl) (λ _=>by kernel_rfl) rfl
theorem ce_laws_eqSession:CO e_laws_eqSession:=fnc (λ _=>con_cons ce_laws_eqWorld (con_cons ce_laws_eqEd con_nil)) Tryd.func30 ke_laws_eqSession (by kernel_rfl) (λ _=>by kernel_rfl) (λ _=>by kernel_rfl) rfl
theorem ce_laws_eqStore:CO e_laws_eqStore:=fnc (λ _=>con_cons ce_laws_eqUint32S con_nil) Tryd.func31 ke_laws_eqStore (by kernel_rfl) (λ _=>by kernel_rfl) (λ _=>by kernel_rfl) rfl
theorem ce_impl_NewWorld_hand:CO e_impl_NewWorld_hand:=fnc (λ _=>con_cons ce_impl_NewSt con_nil) Tryd.func72 ke_impl_NewWorld_hand (by kernel_rfl) (λ _=>by kernel_rfl) (λ _=>by kernel_rfl) rfl
theorem ce_impl_Open_hand:CO e_impl_Open_hand:=fnc (λ _=>con_cons ce_impl_NewWorld_hand (con_cons ce_impl_WorldOk con_nil)) Tryd.func29 ke_impl_Open_hand (by kernel_rfl) (λ _=>by kernel_rfl) (λ _=>by kernel_rfl) rfl
theorem ce_laws_markUint32S:CO e_laws_markUint32S:=fnc (λ _=>con_nil) Tryd.func77 ke_laws_markUint32S (by kernel_rfl) (λ _=>by kernel_rfl) (λ _=>by kernel_rfl) rfl
theorem ce_laws_markStore:CO e_laws_markStore:=fnc (λ _=>con_cons ce_laws_markUint32S con_nil) Tryd.func33 ke_laws_markStore (by kernel_rfl) (λ _=>by kernel_rfl) (λ _=>by kernel_rfl) rfl
theorem ce_laws_markByteS:CO e_laws_markByteS:=fnc (λ _=>con_nil) Tryd.func34 ke_laws_markByteS (by kernel_rfl) (λ _=>by kernel_rfl) (λ _=>by kernel_rfl) rfl
theorem ce_laws_markText:CO e_laws_markText:=fnc (λ _=>con_nil) Tryd.func68 ke_laws_markText (by kernel_rfl) (λ _=>by kernel_rfl) (λ _=>by kernel_rfl) rfl
theorem ce_laws_markDefS:CO e_laws_markDefS:=fnc (λ _=>con_cons ce_laws_markText con_nil) Tryd.func22 ke_laws_markDefS (by kernel_rfl) (λ _=>by kernel_rfl) (λ _=>by kernel_rfl) rfl
theorem ce_laws_markEntryS:CO e_laws_markEntryS:=fnc (λ _=>con_cons ce_laws_markText con_nil) Tryd.func119 ke_laws_markEntryS (by kernel_rfl) (λ _=>by kernel_rfl) (λ _=>by kernel_rfl) rfl
theorem ce_laws_markInt32S:CO e_laws_markInt32S:=fnc (λ _=>con_nil) Tryd.func165 ke_laws_markInt32S (by kernel_rfl) (λ _=>by kernel_rfl) (λ _=>by kernel_rfl) rfl
theorem ce_laws_markSlotS:CO e_laws_markSlotS:=fnc (λ _=>con_nil) Tryd.func166 ke_laws_markSlotS (by kernel_rfl) (λ _=>by kernel_rfl) (λ _=>by kernel_rfl) rfl
theorem ce_laws_markIntS:CO e_laws_markIntS:=fnc (λ _=>con_nil) Tryd.func23 ke_laws_markIntS (by kernel_rfl) (λ _=>by kernel_rfl) (λ _=>by kernel_rfl) rfl
theorem ce_laws_markSt:CO e_laws_markSt:=fnc (λ _=>con_cons ce_laws_markInt32S (con_cons ce_laws_markSlotS (con_cons ce_laws_markUint32S (con_cons ce_laws_markIntS (con_cons ce_laws_markByteS con_nil))))) Tryd.func120 ke_laws_markSt (by kernel_rfl) (λ _=>by kernel_rfl) (λ _=>by kernel_rfl) rfl
theorem ce_laws_markWorld:CO e_laws_markWorld:=fnc (λ _=>con_cons ce_laws_markDefS (con_cons ce_laws_markEntryS (con_cons ce_laws_markSt con_nil))) Tryd.func78 ke_laws_markWorld (by kernel_rfl) (λ _=>by kernel_rfl) (λ _=>by kernel_rfl) rfl
theorem ce_laws_markItemS:CO e_laws_markItemS:=fnc (λ _=>con_cons ce_laws_markText con_nil) Tryd.func121 ke_laws_markItemS (by kernel_rfl) (λ _=>by kernel_rfl) (λ _=>by kernel_rfl) rfl
theorem ce_laws_markEd:CO e_laws_markEd:=fnc (λ _=>con_cons ce_laws_markItemS con_nil) Tryd.func79 ke_laws_markEd (by kernel_rfl) (λ _=>by kernel_rfl) (λ _=>by kernel_rfl) rfl
theorem ce_laws_markSession:CO e_laws_markSession:=fnc (λ _=>con_cons ce_laws_markWorld (con_cons ce_laws_markEd con_nil)) Tryd.func35 ke_laws_markSession (by kernel_rfl) (λ _=>by kernel_rfl) (λ _=>by kernel_rfl) rfl
theorem ce_laws_heldOpS:CO e_laws_heldOpS:=fnc (λ _=>con_nil) Tryd.func15 ke_laws_heldOpS (by kernel_rfl) (λ _=>by kernel_rfl) (λ _=>by kernel_rfl) rfl
theorem ce_laws_heldDefS:CO e_laws_heldDefS:=fnc (λ _=>con_cons ce_laws_markText (con_cons ce_laws_heldOpS con_nil)) Tryd.func43 ke_laws_heldDefS (by kernel_rfl) (λ _=>by kernel_rfl) (λ _=>by kernel_rfl) rfl
theorem ce_laws_heldEntryS:CO e_laws_heldEntryS:=fnc (λ _=>con_cons ce_laws_markText con_nil) Tryd.func122 ke_laws_heldEntryS (by kernel_rfl) (λ _=>by kernel_rfl) (λ _=>by kernel_rfl) rfl
theorem ce_laws_heldInt32S:CO e_laws_heldInt32S:=fnc (λ _=>con_nil) Tryd.func167 ke_laws_heldInt32S (by kernel_rfl) (λ _=>by kernel_rfl) (λ _=>by kernel_rfl) rfl
theorem ce_laws_heldSlotS:CO e_laws_heldSlotS:=fnc (λ _=>con_nil) Tryd.func168 ke_laws_heldSlotS (by kernel_rfl) (λ _=>by kernel_rfl) (λ _=>by kernel_rfl) rfl
theorem ce_laws_heldUint32S:CO e_laws_heldUint32S:=fnc (λ _=>con_nil) Tryd.func169 ke_laws_heldUint32S (by kernel_rfl) (λ _=>by kernel_rfl) (λ _=>by kernel_rfl) rfl
theorem ce_laws_heldIntS:CO e_laws_heldIntS:=fnc (λ _=>con_nil) Tryd.func24 ke_laws_heldIntS (by kernel_rfl) (λ _=>by kernel_rfl) (λ _=>by kernel_rfl) rfl
theorem ce_laws_heldByteS:CO e_laws_heldByteS:=fnc (λ _=>con_nil) Tryd.func170 ke_laws_heldByteS (by kernel_rfl) (λ _=>by kernel_rfl) (λ _=>by kernel_rfl) rfl
theorem ce_laws_heldSt:CO e_laws_heldSt:=fnc (λ _=>con_cons ce_laws_heldInt32S (con_cons ce_laws_heldSlotS (con_cons ce_laws_heldUint32S (con_cons ce_laws_heldIntS (con_cons ce_laws_heldByteS con_nil))))) Tryd.func123 ke_laws_heldSt (by kernel_rfl) (λ _=>by kernel_rfl) (λ _=>by kernel_rfl) rfl
theorem ce_laws_heldWorld:CO e_laws_heldWorld:=fnc (λ _=>con_cons ce_laws_heldDefS (con_cons ce_laws_heldEntryS (con_cons ce_laws_heldSt con_nil))) Tryd.func80 ke_laws_heldWorld (by kernel_rfl) (λ _=>by kernel_rfl) (λ _=>by kernel_rfl) rfl
theorem ce_laws_heldItemS:CO e_laws_heldItemS:=fnc (λ _=>con_cons ce_laws_markText con_nil) Tryd.func124 ke_laws_heldItemS (by kernel_rfl) (λ _=>by kernel_rfl) (λ _=>by kernel_rfl) rfl
theorem ce_laws_heldEd:CO e_laws_heldEd:=fnc (λ _=>con_cons ce_laws_heldItemS con_nil) Tryd.func81 ke_laws_heldEd (by kernel_rfl) (λ _=>by kernel_rfl) (λ _=>by kernel_rfl) rfl
theorem ce_laws_heldSession:CO e_laws_heldSession:=fnc (λ _=>con_cons ce_laws_heldWorld (con_cons ce_laws_heldEd con_nil)) Tryd.func36 ke_laws_heldSession (by kernel_rfl) (λ _=>by kernel_rfl) (λ _=>by kernel_rfl) rfl
theorem ce_laws_FnExactOpen:CO e_laws_FnExactOpen:=fnc (λ _=>con_cons ce_laws_szStore (con_cons ce_laws_toStore (con_cons ce_laws_toByteS (con_cons ce_spec_Open (con_cons ce_impl_Open_hand (con_cons ce_laws_eqSession (con_cons ce_laws_eqStore (con_cons ce_laws_eqByteS (con_cons ce_laws_markStore (con_cons ce_laws_markByteS (con_cons ce_laws_markSession (con_cons ce_laws_heldSession (con_cons ce_impl_Open con_nil))))))))))))) Tryd.func5 ke_laws_FnExactOpen (by kernel_rfl) (λ _=>by kernel_rfl) (λ _=>by kernel_rfl) rfl
end Go.Proofs.YtcnbncafiinfjaaDoor

namespace Go.Fm
theorem wI64 {x:Int} (h1 : -9223372036854775808<=x) (h2:x < 9223372036854775808):IntKind.wrap .i64 x=x:=by
 simp[IntKind.wrap,IntKind.bits,IntKind.signed];omega
theorem getI_nat {α:Type} {xs:List α} {i:Nat}:getI xs (i:Int)=xs[i]? := by
 unfold getI;rw[if_pos (Int.natCast_nonneg i)];rfl
theorem app_eq {α:Type} {xs ys:List α} (h:xs.length+ys.length<=4294967296):app xs ys=some (xs++ys):=by
 unfold app
 rw[if_pos (by rw[List.length_append];exact h)]
theorem subL_eq {α:Type} {xs:List α} {a b:Int} (h0:0<=a) (h1:a<=b) (h2:b<=xs.length):subL xs a b=some ((xs.drop a.toNat).take (b.toNat-a.toNat)):=by
 unfold subL;rw[if_pos ⟨h0,h1,h2⟩]
theorem subL_take {α:Type} {xs:List α} {b:Int} (h0:0<=b) (h2:b<=xs.length):subL xs 0 b=some (xs.take b.toNat):=by
 rw[subL_eq (Int.le_refl _) h0 h2];rfl
theorem mk_eq {α:Type} {z:α} {n:Int} (h0:0<=n) (h1:n<=4294967296):mk z n=some (List.replicate n.toNat z):=by
 unfold mk;rw[if_pos ⟨h0,h1⟩]
section
variable {α β:Type} {Q Q':α->Prop} {R:β->Prop}
end
end Go.Fm
namespace Go.Fm
theorem nxt {n:Nat} (h:n < 16777216):IntKind.wrap .i64 ((n:Int)+1)=((n+1:Nat):Int):=by rw[wI64 (by omega) (by omega)];omega
theorem flipC {α:Type} (b:Bool) (x y:Option α):cond (!b) x y=cond b y x:=by cases b<;>rfl
def allN {α:Type} (p:Nat->α->Bool):Nat->List α->Bool
 | _,[]=>true
 | n,x::r=>p n x&&allN p (n+1) r
theorem allN_const {α:Type} (p:α->Bool):∀ (n:Nat) (l:List α),allN (λ _=>p) n l=l.all p
 | n,[]=>rfl
 | n,x::r=>by simp only[allN,List.all_cons,allN_const p (n+1) r]
theorem allLoop {α β:Type} {L:List α} {bad:β} (p:Nat->α->Bool) (F:Nat->Int->Option (Unit ⊕ β)) (step:∀ (k n:Nat) (x:α),L[n]? = some x->n < L.length->F (k+1) n=cond (p n x) (F k ((n+1:Nat):Int)) (some (.inr bad)))
  (fin:∀ k n:Nat,L.length<=n->F (k+1) n=some (.inl ())) (hm:L.length<=16777216):F bigK 0=some (cond (allN p 0 L) (.inl ()) (.inr bad)):=by
 have key:∀ (k n:Nat),n<=L.length->L.length-n < k->F k n=some (cond (allN p n (L.drop n)) (.inl ()) (.inr bad)):=by
  intro k
  induction k with
  | zero=>intro n h0 h1;omega
  | succ k ih =>
   intro n h0 h1
   by_cases hn:n < L.length
   ·rw[step k n L[n] (List.getElem?_eq_getElem hn) hn,List.drop_eq_getElem_cons hn]
    show _=some (cond (p n L[n]&&allN p (n+1) (L.drop (n+1))) _ _)
    cases p n L[n] with
    | false=>rfl
    | true=>rw[cond_true,ih (n+1) (by omega) (by omega),Bool.true_and]
   ·rw[fin k n (by omega),List.drop_eq_nil_of_le (by omega)];rfl
 have:=key bigK 0 (Nat.zero_le _) (by unfold bigK;omega)
 rw[List.drop_zero]at this
 exact this
theorem eqList {α:Type} [DecidableEq α] {a b:List α} (F:Nat->Int->Option (Unit ⊕ Bool)) (g:Option Bool) (hg:g=cond ((a.length:Int) != (b.length:Int)) (some false) (((F bigK 0).bind λ o=>match o with | .inl ()=>some (.inl ()) | .inr v=>some (.inr v):Option (Unit ⊕ Bool)).bind λ o=>match o with | .inl ()=>some true | .inr v=>some v))
  (hF:∀ (k:Nat) (i:Int),F (k+1) i=cond (decide (i < (a.length:Int))) ((getI a i).bind λ x=>(getI b i).bind λ y=>cond (!decide (x=y)) (some (.inr false)) (F k (IntKind.wrap .i64 (i+1)))) (some (.inl ()))) (hm:a.length<=1048576):g=some (decide (a=b)):=by
 rw[hg]
 by_cases hl:a.length=b.length
 ·have key:∀ (k n:Nat),n<=a.length->a.length-n < k->F k n=some (if a.drop n=b.drop n then .inl () else .inr false):=by
   intro k
   induction k with
   | zero=>intro n h0 h1;omega
   | succ k ih =>
    intro n h0 h1
    rw[hF]
    by_cases hn:n < a.length
    ·have hn':n < b.length:=by omega
     rw[decide_eq_true (by omega),getI_nat,getI_nat,List.getElem?_eq_getElem hn,List.getElem?_eq_getElem hn',List.drop_eq_getElem_cons hn,List.drop_eq_getElem_cons hn']
     simp only[cond_true,Option.bind_some]
     by_cases he:a[n]=b[n]
     ·rw[decide_eq_true he,Bool.not_true,cond_false,wI64 (by omega) (by omega),show ((n:Int)+1)=((n+1:Nat):Int) by omega,ih (n+1) (by omega) (by omega),he]
      simp only[List.cons.injEq,true_and]
     ·rw[decide_eq_false he,Bool.not_false,cond_true,if_neg (λ h=>he (List.cons.inj h).1)]
    ·rw[decide_eq_false (by omega),cond_false,List.drop_eq_nil_of_le (by omega),List.drop_eq_nil_of_le (by omega),if_pos rfl]
  have:((a.length:Int) != (b.length:Int))=false:=by rw[hl];simp
  rw[this,cond_false]
  have h:=key bigK 0 (Nat.zero_le _) (by unfold bigK;omega)
  rw[show ((0:Nat):Int)=0 from rfl]at h
  rw[h]
  by_cases he:a=b
  ·simp[he]
  ·simp[he]
 ·have:((a.length:Int) != (b.length:Int))=true:=by simp;omega
  rw[this,cond_true,decide_eq_false (λ h=>hl (by rw[h]))]
theorem copyM {α:Type} {a:List α} (F:Nat->List α->Int->Option (List α))
  (hs:∀ (k n:Nat) (out:List α) (x y:α),a[n]? = some x->n < a.length->out[n]? = some y->F (k+1) out n=F k (out.set n x) ((n+1:Nat):Int))
  (he:∀ (k n:Nat) (out:List α),a.length<=n->F (k+1) out n=some out) (hm:a.length<=16777216) {z:List α} (hz:z.length=a.length):F bigK z 0=some a:=by
 have key:∀ (k n:Nat) (rest:List α),n<=a.length->a.length-n < k->rest.length=a.length-n->F k (a.take n++rest) n=some a:=by
  intro k
  induction k with
  | zero=>intro n rest h0 h1;omega
  | succ k ih =>
   intro n rest h0 h1 h2
   by_cases hn:n < a.length
   ·cases rest with
    | nil=>simp at h2;omega
    | cons x r =>
     have hl:(a.take n).length=n:=by rw[List.length_take];omega
     rw[hs k n _ a[n] x (List.getElem?_eq_getElem hn) hn (by rw[List.getElem?_append_right (by omega),hl,Nat.sub_self];rfl)]
     have hset:(a.take n++x::r).set n a[n]=a.take (n+1)++r:=by
      rw[List.set_append_right _ _ (by omega),hl,Nat.sub_self,List.set_cons_zero,List.take_succ_eq_append_getElem hn,List.append_assoc]
      rfl
     rw[hset]
     exact ih (n+1) r (by omega) (by omega) (by simp at h2;omega)
   ·have hr:rest=[]:=List.length_eq_zero_iff.1 (by omega)
    rw[he k n _ (by omega),hr,List.append_nil,List.take_of_length_le (by omega)]
 have h:=key bigK 0 z (Nat.zero_le _) (by unfold bigK;omega) (by omega)
 rw[Int.natCast_zero,List.take_zero,List.nil_append]at h
 exact h
theorem copyLoop {α:Type} {a:List α} (F:Nat->List α->Int->Option (List α))
  (hs:∀ (k:Nat) (out:List α) (i:Int),F (k+1) out i=cond (decide (i < (a.length:Int))) ((getI a i).bind λ x=>(getI out i).bind λ _=>F k (out.set i.toNat x) (IntKind.wrap .i64 (i+1))) (some out))
  (hm:a.length<=16777216) {z:List α} (hz:z.length=a.length):F bigK z 0=some a:=by
 by_cases hb:a.length < 16777216
 ·exact copyM F (λ k n out x y hx hn hy=>by
   rw[hs,decide_eq_true (by omega),cond_true,getI_nat,hx]
   simp only[Option.bind_some]
   rw[getI_nat,hy,nxt (by omega)]
   rfl) (λ k n out hn=>by rw[hs,decide_eq_false (by omega),cond_false]) hm hz
 ·exact copyM F (λ k n out x y hx hn hy=>by
   rw[hs,decide_eq_true (by omega),cond_true,getI_nat,hx]
   simp only[Option.bind_some]
   rw[getI_nat,hy,nxt (by omega)]
   rfl) (λ k n out hn=>by rw[hs,decide_eq_false (by omega),cond_false]) hm hz
theorem eqRefl {α:Type} {a:List α} (F:Nat->Int->Option (Unit ⊕ Bool)) (f:Option Bool)
  (hf:f=cond ((a.length:Int) != (a.length:Int)) (some false) (((F bigK 0).bind λ o=>match o with | .inl ()=>some (.inl ()) | .inr v=>some (.inr v):Option (Unit ⊕ Bool)).bind λ o=>match o with | .inl ()=>some true | .inr v=>some v))
  (hs:∀ (k n:Nat) (x:α),a[n]? = some x->n < a.length->F (k+1) n=F k ((n+1:Nat):Int)) (he:∀ (k n:Nat),a.length<=n->F (k+1) n=some (.inl ())) (hm:a.length<=16777216):f=some true:=by
 have h:=allLoop (L:=a) (bad:=false) (λ _ _=>true) F (λ k n x hx hn=>by rw[hs k n x hx hn];rfl) he hm
 rw[hf,h]
 have e:∀ (n:Nat) (l:List α),allN (λ _ _=>true) n l=true:=λ n l=>by rw[allN_const (λ _=>true)];simp
 rw[e]
 simp
theorem bne_self' {α:Type} [BEq α] [LawfulBEq α] (x:α):(x != x)=false:=by simp
abbrev LN:Nat:=9223372036854775807
def marksN {β:Type} (val:Nat->β) (s:Nat):Nat->Nat->List β
 | _,0=>[]
 | k,n+1=>val k::marksN val s (k+s) n
theorem marksN_len {β:Type} (val:Nat->β) (s:Nat):∀ (n k:Nat),(marksN val s k n).length=n
 | 0,k=>rfl
 | n+1,k=>by rw[marksN,List.length_cons,marksN_len val s n]
theorem markL {β:Type} (val:Nat->β) (s N:Nat) (F:Nat->List β->Int->Int->Option (Int×List β)) 
  (hs:∀ (k:Nat) (a:List β) (kk n:Nat),n < a.length->a.length<=1048576->kk<=N->F (k+1) a kk n=F k (a.set n (val kk)) ((kk+s:Nat):Int) ((n+1:Nat):Int))
  (he:∀ (k:Nat) (a:List β) (kk n:Nat),a.length<=n->F (k+1) a kk n=some ((kk:Int),a)) :
  ∀ (k:Nat) (done rest:List β) (kk:Nat),kk+s*rest.length<=N->done.length+rest.length<=1048576->rest.length < k->F k (done++rest) kk done.length=some (((kk+s*rest.length:Nat):Int),done++marksN val s kk rest.length):=by
 intro k
 induction k with
 | zero=>intro done rest kk h0 h1 h2;omega
 | succ k ih =>
  intro done rest kk h0 h1 h2
  cases rest with
  | nil=>rw[he _ _ _ _ (by simp)];simp[marksN]
  | cons x r =>
   simp only[List.length_cons,Nat.mul_add,Nat.mul_one]at h0 h1 h2
   rw[hs _ _ _ _ (by simp) (by simp;omega) (by omega),List.set_append_right _ _ (Nat.le_refl _),Nat.sub_self,List.set_cons_zero]
   have:=ih (done++[val kk]) r (kk+s) (by omega) (by simp;omega) (by omega)
   simp only[List.append_assoc,List.singleton_append,List.length_append,List.length_singleton]at this
   rw[this]
   simp only[marksN,List.length_cons,Nat.mul_add,Nat.mul_one]
   congr 3
   omega
theorem heldL {β:Type} (val:Nat->β) (s N:Nat) {L:List β} (F:Nat->Int->Int->Option (Int ⊕ Int))
  (hs:∀ (k kk n:Nat) (h:n < L.length),n<=1048576->kk<=N->L[n]=val kk->F (k+1) kk n=F k ((kk+s:Nat):Int) ((n+1:Nat):Int))
  (he:∀ (k kk n:Nat),L.length<=n->F (k+1) kk n=some (.inl (kk:Int))) :
  ∀ (k:Nat) (done:List β) (kk m:Nat),L=done++marksN val s kk m->L.length<=1048576->kk+s*m<=N->m < k->F k kk done.length=some (.inl ((kk+s*m:Nat):Int)):=by
 intro k
 induction k with
 | zero=>intro done kk m h0 hL h1 h2;omega
 | succ k ih =>
  intro done kk m h0 hL h1 h2
  cases m with
  | zero=>rw[he _ _ _ (by rw[h0];simp[marksN])];simp
  | succ m =>
   have hl:done.length < L.length:=by rw[h0];simp[marksN]
   have hg:L[done.length]=val kk:=by
    have:L[done.length]? = some (val kk):=by rw[h0,List.getElem?_append_right (Nat.le_refl _),Nat.sub_self];rfl
    rw[List.getElem?_eq_getElem hl]at this
    exact Option.some.inj this
   simp only[Nat.mul_add,Nat.mul_one]at h1
   rw[hs _ _ _ hl (by omega) (by omega) hg]
   have:=ih (done++[val kk]) (kk+s) m (by rw[h0,List.append_assoc];rfl) hL (by omega) (by omega)
   rw[List.length_append,List.length_singleton]at this
   rw[this]
   simp only[Nat.mul_add,Nat.mul_one]
   congr 3
   omega
end Go.Fm
namespace Go.Proofs.YtcnbncafiinfjaaDoor
open Go Go.Fm
set_option maxRecDepth 100000
theorem specIn_eq {x a b:Int}:g_spec_l01In x a b=some (decide (a<=x/\x<=b)):=by
 unfold g_spec_l01In
 by_cases h:x ≥ a
 ·rw[decide_eq_true h]
  simp only[cond_true]
  congr 1
  exact decide_eq_decide.2 ⟨λ h2=>⟨h,h2⟩,λ h2=>h2.2⟩
 ·rw[decide_eq_false h]
  simp only[cond_false]
  congr 1
  exact (decide_eq_false λ h2=>h h2.1).symm
theorem within_eq {x a b:Int}:g_impl_within x a b=some (decide (a<=x/\x<=b)):=by
 unfold g_impl_within
 by_cases h:a<=x
 ·rw[decide_eq_true h]
  simp only[cond_true]
  congr 1
  exact decide_eq_decide.2 ⟨λ h2=>⟨h,h2⟩,λ h2=>h2.2⟩
 ·rw[decide_eq_false h]
  simp only[cond_false]
  congr 1
  exact (decide_eq_false λ h2=>h h2.1).symm
def inB (x a b:Int):Bool:=decide (a<=x/\x<=b)
theorem wIn (x a b:Int):g_impl_within x a b=some (inB x a b):=within_eq
end Go.Proofs.YtcnbncafiinfjaaDoor
namespace Go.Proofs.YtcnbncafiinfjaaDoor
open Go Go.Fm
set_option maxRecDepth 100000
theorem has_l0 {l:List Int} {v:Int} (hl:l.length<=1048576):g_slices_Contains_int l v=some (l.any λ x=>v==x):=by
 unfold g_slices_Contains_int g_slices_Index_int
 have key:∀ (k n:Nat),n<=l.length->l.length-n < k->∃ o:Unit ⊕ Int,g_slices_Index_int_l0 l v (l.length:Int) k n=some o/\(match o with | .inl _=>((l.drop n).any λ x=>v==x)=false | .inr i=>0<=i/\((l.drop n).any λ x=>v==x)=true):=by
  intro k
  induction k with
  | zero=>intro n h0 h1;omega
  | succ k ih =>
   intro n h0 h1
   rw[g_slices_Index_int_l0]
   by_cases hn:n < l.length
   ·rw[decide_eq_true (by omega),cond_true,getI_nat,List.getElem?_eq_getElem hn,List.drop_eq_getElem_cons hn,List.any_cons]
    simp only[Option.bind_some]
    cases hk:(v==l[n])
    ·rw[cond_false,nxt (by omega)]
     obtain ⟨o,g1,g2⟩:=ih (n+1) (by omega) (by omega)
     exact ⟨o,g1,by cases o<;>simpa using g2⟩
    ·rw[cond_true]
     exact ⟨_,rfl,by simp⟩
   ·rw[decide_eq_false (by omega),cond_false,List.drop_eq_nil_of_le (by omega)]
    exact ⟨_,rfl,rfl⟩
 obtain ⟨o,h,g⟩:=key bigK 0 (Nat.zero_le _) (by unfold bigK;omega)
 rw[Int.natCast_zero]at h
 rw[List.drop_zero]at g
 rw[h]
 cases o with
 | inl u=>simp only[Option.bind_some];rw[show (l.any λ x=>v==x)=false from g];rfl
 | inr i=>simp only[Option.bind_some];rw[g.2,decide_eq_true g.1]
def StB (st:GSt):Bool :=
 !decide ((st.Data.length:Int) > 16)&&(!decide ((st.Ret.length:Int) > 24)&&(!((st.Mem.length:Int) != 32)&&(!decide ((st.Vars.length:Int) > 20)&&(!decide ((st.Out.length:Int) > 400)&&(!decide ((st.In.length:Int) > 100) &&
  (st.Ret.all (λ o=>inB o.Kind 0 2)&&(allN (λ n v=>inB v 0 (IntKind.wrap .i64 ((st.Cells.length:Int)-1)) && !((st.Vars.take n).any λ x=>v==x)) 0 st.Vars&&((((Int.tmod (st.Cells.length:Int) 64)==0)&&decide ((st.Cells.length:Int)<=768))&&(inB st.Fault 0 13&&inB st.Fuel 0 4000)))))))))
structure StSz (st:GSt):Prop where
 r:st.Ret.length<=1048576
 v:st.Vars.length<=1048576
theorem impl_st {st:GSt} (h:StSz st):g_impl_StOk st=some (StB st):=by
 unfold g_impl_StOk StB
 have hr:=h.r
 have hv:=h.v
 have h0:=allLoop (L:=st.Ret) (λ _ o=>inB o.Kind 0 2) (g_impl_StOk_l0 st.Ret (st.Ret.length:Int)) (λ k n x hx hn=>by
   rw[g_impl_StOk_l0,decide_eq_true (by omega),cond_true,getI_nat,hx]
   simp only[Option.bind_some]
   rw[wIn]
   simp only[Option.bind_some]
   rw[nxt (by omega),flipC]) (λ k n hn=>by rw[g_impl_StOk_l0,decide_eq_false (by omega),cond_false]) (by omega)
 have h1:=allLoop (L:=st.Vars) (λ n v=>inB v 0 (IntKind.wrap .i64 ((st.Cells.length:Int)-1)) && !((st.Vars.take n).any λ x=>v==x)) (g_impl_StOk_l1 st.Vars (st.Vars.length:Int) st) (λ k n x hx hn=>by
   rw[g_impl_StOk_l1,decide_eq_true (by omega),cond_true,getI_nat,hx]
   simp only[Option.bind_some]
   rw[wIn]
   simp only[Option.bind_some]
   rw[subL_take (by omega) (by omega),Int.toNat_natCast]
   simp only[Option.bind_some]
   rw[has_l0 (by rw[List.length_take];omega),nxt (by omega)]
   simp only[Option.bind_some]
   cases inB x 0 (IntKind.wrap .i64 ((st.Cells.length:Int)-1))
   ·rfl
   ·cases ((st.Vars.take n).any λ y=>x==y)<;>rfl) (λ k n hn=>by rw[g_impl_StOk_l1,decide_eq_false (by omega),cond_false]) (by omega)
 rw[h0,h1]
 unfold g_impl_StoreOk
 rw[wIn,wIn,allN_const]
 have e5:decide ((st.Out.length:Int)<=400) = !decide ((st.Out.length:Int) > 400):=by rw[<-decide_not];congr 1;simp
 have e6:decide ((st.In.length:Int)<=100) = !decide ((st.In.length:Int) > 100):=by rw[<-decide_not];congr 1;simp
 rw[e5,e6]
 generalize decide ((st.Data.length:Int) > 16)=b1
 generalize decide ((st.Ret.length:Int) > 24)=b2
 generalize ((st.Mem.length:Int) != 32)=b3
 generalize decide ((st.Vars.length:Int) > 20)=b4
 generalize decide ((st.Out.length:Int) > 400)=b5
 generalize decide ((st.In.length:Int) > 100)=b6
 generalize (st.Ret.all λ o=>inB o.Kind 0 2)=b7
 generalize allN _ 0 st.Vars=b8
 generalize (Int.tmod (st.Cells.length:Int) 64==0)=b9
 generalize decide ((st.Cells.length:Int)<=768)=b10
 generalize inB st.Fault 0 13=b11
 generalize inB st.Fuel 0 4000=b12
 revert b1 b2 b3 b4 b5 b6 b7 b8 b9 b10 b11 b12
 decide +kernel
theorem toUint32S {a:List Int} (h:a.length<=1048576):g_laws_toUint32S a=some a:=by
 unfold g_laws_toUint32S
 rw[mk_eq (by omega) (by omega),Option.bind_some,copyLoop (g_laws_toUint32S_l0 a) (λ _ _ _=>rfl) (by omega) (by simp)]
 rfl
theorem toByteS {a:List Int} (h:a.length<=1048576):g_laws_toByteS a=some a:=by
 unfold g_laws_toByteS
 rw[mk_eq (by omega) (by omega),Option.bind_some,copyLoop (g_laws_toByteS_l0 a) (λ _ _ _=>rfl) (by omega) (by simp)]
 rfl
theorem eqInt32S {a:List Int} (h:a.length<=1048576):g_laws_eqInt32S a a=some true:=by
 rw[show g_laws_eqInt32S a a=some (decide (a=a)) from eqList (g_laws_eqInt32S_l0 a a) _ rfl (λ _ _=>rfl) (by omega)];simp
theorem eqUint32S {a:List Int} (h:a.length<=1048576):g_laws_eqUint32S a a=some true:=by
 rw[show g_laws_eqUint32S a a=some (decide (a=a)) from eqList (g_laws_eqUint32S_l0 a a) _ rfl (λ _ _=>rfl) (by omega)];simp
theorem eqIntS {a:List Int} (h:a.length<=1048576):g_laws_eqIntS a a=some true:=by
 rw[show g_laws_eqIntS a a=some (decide (a=a)) from eqList (g_laws_eqIntS_l0 a a) _ rfl (λ _ _=>rfl) (by omega)];simp
theorem eqByteS {a:List Int} (h:a.length<=1048576):g_laws_eqByteS a a=some true:=by
 rw[show g_laws_eqByteS a a=some (decide (a=a)) from eqList (g_laws_eqByteS_l0 a a) _ rfl (λ _ _=>rfl) (by omega)];simp
theorem eqSlotS {a:List GSlot} (h:a.length<=1048576):g_laws_eqSlotS a a=some true :=
 eqRefl (g_laws_eqSlotS_l0 a a) _ rfl (λ k n x hx hn=>by
  rw[g_laws_eqSlotS_l0,decide_eq_true (by omega),cond_true,getI_nat,hx]
  unfold g_laws_eqSlot
  simp only[Option.bind_some,bne_self',cond_false,Bool.not_true]
  rw[nxt (by omega)]) (λ k n hn=>by rw[g_laws_eqSlotS_l0,decide_eq_false (by omega),cond_false]) (by omega)
structure StW (st:GSt):Prop where
 d:st.Data.length<=LN
 r:st.Ret.length<=LN
 m:st.Mem.length<=LN
 c:st.Cells.length<=LN
 v:st.Vars.length<=LN
 o:st.Out.length<=LN
 i:st.In.length<=LN
structure StAll (st:GSt):Prop where
 d:st.Data.length<=1048576
 r:st.Ret.length<=1048576
 m:st.Mem.length<=1048576
 c:st.Cells.length<=1048576
 v:st.Vars.length<=1048576
 o:st.Out.length<=1048576
 i:st.In.length<=1048576
theorem eqSt_eq {st:GSt} (h:StAll st):g_laws_eqSt st st=some true:=by
 unfold g_laws_eqSt
 simp only[eqInt32S h.d,eqSlotS h.r,eqInt32S h.m,eqUint32S h.c,eqIntS h.v,eqByteS h.o,eqByteS h.i,Option.bind_some,Bool.not_true,cond_false,bne_self_eq_false]
end Go.Proofs.YtcnbncafiinfjaaDoor
namespace Go.Proofs.YtcnbncafiinfjaaDoor
open Go Go.Fm
set_option maxRecDepth 100000
def stO (mem cells inn:List Int) (f:Int):GSt:=⟨[],[],0,mem,cells,[],[],inn,0,f⟩
def sessO (mem cells inn:List Int) (f b:Int):GSession:=⟨⟨[],[],stO mem cells inn f,false,false⟩,⟨[],[],[]⟩,b⟩
theorem worldO {mem cells inn:List Int} {f:Int}:g_impl_WorldOk ⟨[],[],stO mem cells inn f,false,false⟩=(g_impl_StOk (stO mem cells inn f)).bind λ y=>some y:=by
 unfold g_impl_WorldOk
 cases h:g_impl_StOk (stO mem cells inn f) with
 | none=>simp only[h];rfl
 | some y =>
  simp only[h]
  cases y
  ·rfl
  ·simp only[Option.bind_some,Bool.not_true,cond_false]
   kernel_rfl
def okO (cells inn:List Int) (f:Int):Bool:=decide (inn.length<=100)&&(((Int.tmod (cells.length:Int) 64)==0)&&decide ((cells.length:Int)<=768))&&decide (0<=f/\f<=4000)
theorem stB_O {cells inn:List Int} {f:Int}:StB (stO (List.replicate 32 0) cells inn f)=okO cells inn f:=by
 unfold StB okO stO inB
 simp only[List.length_nil,List.length_replicate,List.all_nil,allN]
 have:decide ((inn.length:Int) > 100) = !decide (inn.length<=100):=by
  by_cases h:inn.length<=100
  ·rw[decide_eq_true h,decide_eq_false (by omega)];rfl
  ·rw[decide_eq_false h,decide_eq_true (by omega)];rfl
 rw[this]
 simp[Bool.and_assoc]
theorem open_both {cells inn:List Int} {f:Int} (hc:cells.length<=1048576) (hi:inn.length<=1048576):∃ mem cs ins g b,mem.length<=32/\cs.length<=1048576/\ins.length<=1048576 ∧
  g_spec_Open ⟨cells⟩ inn f=some (sessO mem cs ins g b)/\g_impl_Open ⟨cells⟩ inn f=some (sessO mem cs ins g b)/\g_impl_Open_hand ⟨cells⟩ inn f=some (sessO mem cs ins g b):=by
 have hm:mk (0:Int) 32=some (List.replicate 32 0):=mk_eq (by decide) (by decide)
 have hs:g_impl_NewSt ⟨cells⟩ inn f=some (cond (okO cells inn f) (stO (List.replicate 32 0) cells inn f) ⟨[],[],0,[],[],[],[],[],0,0⟩):=by
  unfold g_impl_NewSt g_slices_Clone_uint32 g_slices_Clone_byte
  rw[hm]
  simp only[Option.bind_some]
  rw[app_eq (by simp;omega),app_eq (by simp;omega)]
  simp only[Option.bind_some,List.nil_append]
  have:=impl_st (st:=stO (List.replicate 32 0) cells inn f) ⟨by simp[stO],by simp[stO]⟩
  rw[stB_O]at this
  show (g_impl_StOk (stO (List.replicate 32 0) cells inn f)).bind _=_
  rw[this]
  cases okO cells inn f<;>rfl
 have hp:g_spec_NewSt ⟨cells⟩ inn f=some (cond (okO cells inn f) (stO (List.replicate 32 0) cells inn f) ⟨[],[],0,[],[],[],[],[],0,0⟩):=by
  unfold g_spec_NewSt g_spec_StoreOk
  rw[hm,specIn_eq]
  simp only[Option.bind_some]
  rw[app_eq (by simp;omega),app_eq (by simp;omega)]
  simp only[Option.bind_some,List.nil_append]
  unfold okO stO
  by_cases h1:inn.length<=100
  ·rw[decide_eq_false (by omega:¬ (inn.length:Int) > 100),decide_eq_true h1]
   by_cases h3:0<=f/\f<=4000
   ·rw[decide_eq_true h3]
    cases (Int.tmod (cells.length:Int) 64==0)<;>cases decide ((cells.length:Int)<=768)<;>rfl
   ·rw[decide_eq_false h3]
    cases (Int.tmod (cells.length:Int) 64==0)<;>cases decide ((cells.length:Int)<=768)<;>rfl
  ·rw[decide_eq_true (by omega:(inn.length:Int) > 100),decide_eq_false h1];rfl
 unfold g_spec_Open g_impl_Open g_impl_Open_hand g_spec_NewWorld g_impl_NewWorld g_impl_NewWorld_hand
 rw[hs,hp]
 cases hk:okO cells inn f
 ·refine ⟨[],[],[],0,0,by simp,by simp,by simp,rfl,?_,?_⟩
  ·simp only[Option.bind_some,cond_false]
   rw[show (⟨[],[],⟨[],[],0,[],[],[],[],[],0,0⟩,false,false⟩:GWorld)=⟨[],[],stO [] [] [] 0,false,false⟩ from rfl,worldO,impl_st (st:=stO [] [] [] 0) ⟨by simp[stO],by simp[stO]⟩]
   rfl
  ·simp only[Option.bind_some,cond_false]
   rw[show (⟨[],[],⟨[],[],0,[],[],[],[],[],0,0⟩,false,false⟩:GWorld)=⟨[],[],stO [] [] [] 0,false,false⟩ from rfl,worldO,impl_st (st:=stO [] [] [] 0) ⟨by simp[stO],by simp[stO]⟩]
   rfl
 ·have hb:=impl_st (st:=stO (List.replicate 32 0) cells inn f) ⟨by simp[stO],by simp[stO]⟩
  rw[stB_O,hk]at hb
  refine ⟨List.replicate 32 0,cells,inn,f,-1,by simp,hc,hi,rfl,?_,?_⟩
  ·simp only[Option.bind_some,cond_true]
   rw[worldO,hb]
   rfl
  ·simp only[Option.bind_some,cond_true]
   rw[worldO,hb]
   rfl
theorem markNum {β:Type} (val:Nat->β) (s:Nat) (F:Nat->List β->Int->Int->Option (Int×List β)) (f:Int->Option (Int×List β)) {a:List β} (hf:∀ k,f k=((F bigK a k 0).bind λ (k,p)=>some (k,p):Option (Int×List β)).bind λ (k,p)=>some (k,p))
  (hs:∀ (k:Nat) (a:List β) (kk n:Nat),n < a.length->a.length<=1048576->kk<=2000000000->F (k+1) a kk n=F k (a.set n (val kk)) ((kk+s:Nat):Int) ((n+1:Nat):Int))
  (he:∀ (k:Nat) (a:List β) (kk n:Nat),a.length<=n->F (k+1) a kk n=some ((kk:Int),a)) (ha:a.length<=1048576) {k:Nat} (hk:k+s*a.length<=2000000000):f k=some (((k+s*a.length:Nat):Int),marksN val s k a.length):=by
 have:=markL val s 2000000000 F hs he bigK [] a k (by omega) (by simpa using ha) (by unfold bigK;omega)
 rw[List.nil_append,List.length_nil,show ((0:Nat):Int)=0 from rfl]at this
 rw[hf,this];rfl
theorem heldNum {β:Type} (val:Nat->β) (s:Nat) {L:List β} (F:Nat->Int->Int->Option (Int ⊕ Int)) (f:Int->Option Int) (hf:∀ k,f k=((F bigK k 0).bind λ o=>match o with | .inl k=>some (.inl k) | .inr v=>some (.inr v):Option (Int ⊕ Int)).bind λ o=>match o with | .inl k=>some k | .inr v=>some v)
  (hs:∀ (k kk n:Nat) (h:n < L.length),n<=1048576->kk<=2000000000->L[n]=val kk->F (k+1) kk n=F k ((kk+s:Nat):Int) ((n+1:Nat):Int))
  (he:∀ (k kk n:Nat),L.length<=n->F (k+1) kk n=some (.inl (kk:Int))) {k n:Nat} (hL:L=marksN val s k n) (hn:n<=1048576) (hk:k+s*n<=2000000000):f k=some ((k+s*n:Nat):Int):=by
 have:=heldL val s 2000000000 (L:=L) F hs he bigK [] k n (by simpa using hL) (by rw[hL,marksN_len];exact hn) hk (by unfold bigK;omega)
 rw[List.length_nil,show ((0:Nat):Int)=0 from rfl]at this
 rw[hf,this];rfl
def vI32 (k:Nat):Int:=IntKind.wrap .i32 k
def vU32 (k:Nat):Int:=IntKind.wrap .u32 k
def vU8 (k:Nat):Int:=IntKind.wrap .u8 k
theorem markInt32S {a:List Int} (h:a.length<=1048576) {k:Nat} (hk:k<=1000000000):g_laws_markInt32S a (k:Int)=some (((k+1*a.length:Nat):Int),marksN vI32 1 k a.length) :=
 markNum vI32 1 g_laws_markInt32S_l0 (g_laws_markInt32S a) (λ _=>rfl) (λ f a kk n hn hl hk=>by
  rw[g_laws_markInt32S_l0,decide_eq_true (by omega),cond_true,getI_nat,List.getElem?_eq_getElem hn,Option.bind_some,wI64 (x:=(kk:Int)+1) (by omega) (by omega),wI64 (x:=(n:Int)+1) (by omega) (by omega)];rfl) (λ f a kk n hn=>by rw[g_laws_markInt32S_l0,decide_eq_false (by omega),cond_false]) h (by omega)
theorem markUint32S {a:List Int} (h:a.length<=1048576) {k:Nat} (hk:k<=1000000000):g_laws_markUint32S a (k:Int)=some (((k+1*a.length:Nat):Int),marksN vU32 1 k a.length) :=
 markNum vU32 1 g_laws_markUint32S_l0 (g_laws_markUint32S a) (λ _=>rfl) (λ f a kk n hn hl hk=>by
  rw[g_laws_markUint32S_l0,decide_eq_true (by omega),cond_true,getI_nat,List.getElem?_eq_getElem hn,Option.bind_some,wI64 (x:=(kk:Int)+1) (by omega) (by omega),wI64 (x:=(n:Int)+1) (by omega) (by omega)];rfl) (λ f a kk n hn=>by rw[g_laws_markUint32S_l0,decide_eq_false (by omega),cond_false]) h (by omega)
theorem markByteS {a:List Int} (h:a.length<=1048576) {k:Nat} (hk:k<=1000000000):g_laws_markByteS a (k:Int)=some (((k+1*a.length:Nat):Int),marksN vU8 1 k a.length) :=
 markNum vU8 1 g_laws_markByteS_l0 (g_laws_markByteS a) (λ _=>rfl) (λ f a kk n hn hl hk=>by
  rw[g_laws_markByteS_l0,decide_eq_true (by omega),cond_true,getI_nat,List.getElem?_eq_getElem hn,Option.bind_some,wI64 (x:=(kk:Int)+1) (by omega) (by omega),wI64 (x:=(n:Int)+1) (by omega) (by omega)];rfl) (λ f a kk n hn=>by rw[g_laws_markByteS_l0,decide_eq_false (by omega),cond_false]) h (by omega)
theorem heldInt32S {n k:Nat} (h:n<=1048576) (hk:k<=1000000000):g_laws_heldInt32S (marksN vI32 1 k n) (k:Int)=some ((k+1*n:Nat):Int) :=
 heldNum vI32 1 (L:=marksN vI32 1 k n) (g_laws_heldInt32S_l0 (marksN vI32 1 k n)) _ (λ _=>rfl) (λ f kk i hi hl hk he=>by
  rw[g_laws_heldInt32S_l0,decide_eq_true (by omega),cond_true,getI_nat,List.getElem?_eq_getElem hi,Option.bind_some,he]
  rw[wI64 (x:=(kk:Int)+1) (by omega) (by omega),wI64 (x:=(i:Int)+1) (by omega) (by omega)]
  show cond (IntKind.wrap .i32 (kk:Int) != IntKind.wrap .i32 (kk:Int)) _ _=_
  rw[bne_self_eq_false]
  rfl) (λ f kk i hi=>by rw[g_laws_heldInt32S_l0,decide_eq_false (by omega),cond_false]) rfl h (by omega)
theorem heldUint32S {n k:Nat} (h:n<=1048576) (hk:k<=1000000000):g_laws_heldUint32S (marksN vU32 1 k n) (k:Int)=some ((k+1*n:Nat):Int) :=
 heldNum vU32 1 (L:=marksN vU32 1 k n) (g_laws_heldUint32S_l0 (marksN vU32 1 k n)) _ (λ _=>rfl) (λ f kk i hi hl hk he=>by
  rw[g_laws_heldUint32S_l0,decide_eq_true (by omega),cond_true,getI_nat,List.getElem?_eq_getElem hi,Option.bind_some,he]
  rw[wI64 (x:=(kk:Int)+1) (by omega) (by omega),wI64 (x:=(i:Int)+1) (by omega) (by omega)]
  show cond (IntKind.wrap .u32 (kk:Int) != IntKind.wrap .u32 (kk:Int)) _ _=_
  rw[bne_self_eq_false]
  rfl) (λ f kk i hi=>by rw[g_laws_heldUint32S_l0,decide_eq_false (by omega),cond_false]) rfl h (by omega)
theorem heldByteS {n k:Nat} (h:n<=1048576) (hk:k<=1000000000):g_laws_heldByteS (marksN vU8 1 k n) (k:Int)=some ((k+1*n:Nat):Int) :=
 heldNum vU8 1 (L:=marksN vU8 1 k n) (g_laws_heldByteS_l0 (marksN vU8 1 k n)) _ (λ _=>rfl) (λ f kk i hi hl hk he=>by
  rw[g_laws_heldByteS_l0,decide_eq_true (by omega),cond_true,getI_nat,List.getElem?_eq_getElem hi,Option.bind_some,he]
  rw[wI64 (x:=(kk:Int)+1) (by omega) (by omega),wI64 (x:=(i:Int)+1) (by omega) (by omega)]
  show cond (IntKind.wrap .u8 (kk:Int) != IntKind.wrap .u8 (kk:Int)) _ _=_
  rw[bne_self_eq_false]
  rfl) (λ f kk i hi=>by rw[g_laws_heldByteS_l0,decide_eq_false (by omega),cond_false]) rfl h (by omega)
theorem mDef0 (k:Int):g_laws_markDefS [] k=some k:=by kernel_rfl
theorem mEntry0 (k:Int):g_laws_markEntryS [] k=some (k,[]):=by kernel_rfl
theorem mSlot0 (k:Int):g_laws_markSlotS [] k=some (k,[]):=by kernel_rfl
theorem mInt0 (k:Int):g_laws_markIntS [] k=some (k,[]):=by kernel_rfl
theorem mInt320 (k:Int):g_laws_markInt32S [] k=some (k,[]):=by kernel_rfl
theorem mByte0 (k:Int):g_laws_markByteS [] k=some (k,[]):=by kernel_rfl
theorem mItem0 (k:Int):g_laws_markItemS [] k=some (k,[]):=by kernel_rfl
theorem hDef0 (k:Int):g_laws_heldDefS [] k=some k:=by kernel_rfl
theorem hEntry0 (k:Int):g_laws_heldEntryS [] k=some k:=by kernel_rfl
theorem hSlot0 (k:Int):g_laws_heldSlotS [] k=some k:=by kernel_rfl
theorem hInt0 (k:Int):g_laws_heldIntS [] k=some k:=by kernel_rfl
theorem hInt320 (k:Int):g_laws_heldInt32S [] k=some k:=by kernel_rfl
theorem hByte0 (k:Int):g_laws_heldByteS [] k=some k:=by kernel_rfl
theorem hItem0 (k:Int):g_laws_heldItemS [] k=some k:=by kernel_rfl
theorem eDef0:g_laws_eqDefS [] []=some true:=by kernel_rfl
theorem eEntry0:g_laws_eqEntryS [] []=some true:=by kernel_rfl
theorem eItem0:g_laws_eqItemS [] []=some true:=by kernel_rfl
theorem eqSess {mem cells inn:List Int} {f b:Int} (hm:mem.length<=32) (hc:cells.length<=1048576) (hi:inn.length<=1048576):g_laws_eqSession (sessO mem cells inn f b) (sessO mem cells inn f b)=some true:=by
 unfold g_laws_eqSession g_laws_eqWorld g_laws_eqEd sessO
 have:=eqSt_eq (st:=stO mem cells inn f) ⟨by simp[stO],by simp[stO],by show mem.length<=_;omega,hc,by simp[stO],by simp[stO],hi⟩
 simp only[eDef0,eEntry0,eItem0,this,Option.bind_some,Bool.not_true,cond_false,bne_self_eq_false]
theorem law_open {st:GStore} {inn:List Int} {f:Int} (hst:st.Cells.length<=9223372036854775807):g_laws_FnExactOpen st inn f=some true:=by
 obtain ⟨cells⟩:=st
 simp only at hst
 unfold g_laws_FnExactOpen
 by_cases hi:inn.length<=1048576
 ·rw[decide_eq_false (by omega),cond_false]
  unfold g_laws_szStore g_laws_szUint32S
  simp only
  rw[wI64 (by omega) (by omega)]
  by_cases hc:cells.length<=1048576
  ·rw[decide_eq_false (by omega),cond_false]
   simp only[Option.bind_some]
   rw[decide_eq_false (by omega),cond_false]
   simp only[Option.bind_some]
   rw[decide_eq_false (by omega),cond_false]
   have ht:g_laws_toStore ⟨cells⟩=some ⟨cells⟩:=by
    unfold g_laws_toStore
    rw[toUint32S hc];rfl
   obtain ⟨mem,cs,ins,g,b,l1,l2,l3,e1,e2,e3⟩:=open_both (f:=f) hc hi
   have es:g_laws_eqStore ⟨cells⟩ ⟨cells⟩=some true:=by
    unfold g_laws_eqStore
    rw[eqUint32S hc];rfl
   have m1:g_laws_markStore ⟨cells⟩ 1=some (((1+1*cells.length:Nat):Int),marksN vU32 1 1 cells.length):=by
    unfold g_laws_markStore
    rw[show ((1:Int))=((1:Nat):Int) from rfl,markUint32S hc (by omega)];rfl
   have m2:=markByteS hi (k:=1+1*cells.length) (by omega)
   have m3:g_laws_markSession (sessO mem cs ins g b) 1=some (((1+1*mem.length+1*cs.length+1*ins.length:Nat):Int),[],[],[],[],marksN vI32 1 1 mem.length,marksN vU32 1 (1+1*mem.length) cs.length,[],[],marksN vU8 1 (1+1*mem.length+1*cs.length) ins.length,[],[],[]):=by
    unfold g_laws_markSession g_laws_markWorld g_laws_markSt g_laws_markEd sessO stO
    simp only[mDef0,mEntry0,mSlot0,mInt0,mInt320,mByte0,mItem0,Option.bind_some]
    rw[show ((1:Int))=((1:Nat):Int) from rfl,markInt32S (by omega) (by omega)]
    simp only[mDef0,mEntry0,mSlot0,mInt0,mInt320,mByte0,mItem0,Option.bind_some]
    rw[markUint32S (by omega) (by omega)]
    simp only[mDef0,mEntry0,mSlot0,mInt0,mInt320,mByte0,mItem0,Option.bind_some]
    rw[markByteS (by omega) (by omega)]
    simp only[mDef0,mEntry0,mSlot0,mInt0,mInt320,mByte0,mItem0,Option.bind_some]
   have h3:∀ (x y:Bool) (z:Int),g_laws_heldSession (⟨⟨[],[],⟨[],[],0,marksN vI32 1 1 mem.length,marksN vU32 1 (1+1*mem.length) cs.length,[],[],marksN vU8 1 (1+1*mem.length+1*cs.length) ins.length,0,g⟩,x,y⟩,⟨[],[],[]⟩,z⟩:GSession) 1=some ((1+1*mem.length+1*cs.length+1*ins.length:Nat):Int):=by
    intro x y z
    unfold g_laws_heldSession g_laws_heldWorld g_laws_heldSt g_laws_heldEd
    have p1:=heldInt32S (n:=mem.length) (k:=1) (by omega) (by omega)
    have p2:=heldUint32S (n:=cs.length) (k:=1+1*mem.length) (by omega) (by omega)
    have p3:=heldByteS (n:=ins.length) (k:=1+1*mem.length+1*cs.length) (by omega) (by omega)
    rw[show ((1:Nat):Int)=1 from rfl]at p1
    have d:∀ n:Nat,decide ((n:Int) < 0)=false:=λ n=>decide_eq_false (by omega)
    have d1:decide ((1:Int) < 0)=false:=rfl
    simp only[hDef0,hEntry0,hSlot0,hInt0,hInt320,hByte0,hItem0,p1,p2,p3,d,d1,Option.bind_some,cond_false]
   rw[ht,toByteS hi]
   simp only[Option.bind_some,e1,e2,e3,eqSess l1 l2 l3,es,eqByteS hi,m1,m2,m3,Bool.not_true,cond_false,bne_self_eq_false]
   rw[decide_eq_false (by omega)]
   simp only[Option.bind_some,cond_false]
   unfold sessO stO
   simp only[h3,Option.bind_some]
   rw[decide_eq_false (by omega)]
   simp only[cond_false,bne_self_eq_false]
  ·rw[decide_eq_true (by omega),cond_true];rfl
 ·rw[decide_eq_true (by omega),cond_true]
end Go.Proofs.YtcnbncafiinfjaaDoor

namespace Go.Proofs.YtcnbncafiinfjaaDoor
open Go Go.Fm
set_option maxRecDepth 100000
theorem typed_GStore:Typed [.sl [.int .u32]] GStore.cs (λ x:GStore=>(λ xs:List Int=>xs.length<=maxLen/\∀ x ∈ xs,(λ n:Int=>(Lit.int .u32 n).wf=true) x) x.Cells):=λ row hl h=>by
 match row,hl with
 | [c0],_ =>
  obtain ⟨x0,e0,g0⟩:=(typed_sl (typed_int .u32) rfl (by decide)) [c0] rfl (Go.Fm.one_cell (h 0 _ c0 rfl rfl))
  obtain rfl:=(List.cons.inj e0).1
  exact ⟨(⟨x0⟩:GStore),rfl,g0⟩
theorem ans_FnExactOpen (x0:GStore) (g0:(λ x:GStore=>(λ xs:List Int=>xs.length<=maxLen/\∀ x ∈ xs,(λ n:Int=>(Lit.int .u32 n).wf=true) x) x.Cells) x0) (x1:List Int) (g1:(λ xs:List Int=>xs.length<=maxLen/\∀ x ∈ xs,(λ n:Int=>(Lit.int .u8 n).wf=true) x) x1) (x2:Int) (g2:(λ n:Int=>(Lit.int .i64 n).wf=true) x2) :
  Ans Tryd.prog 5 [.agg [.imm 1 x0.Cells.length (x0.Cells.flatMap (eI .u32))], .one (.imm 1 x1.length (x1.flatMap (eI .u8))), .one (.int .i64 x2)] [] λ v _=>v=Go.Fm.one (.bool true):=λ hm=>by
 obtain ⟨r,h1,a,b,c,_⟩:=ce_laws_FnExactOpen (x0,x1,x2) true (good_pure rfl rfl) (law_open (st:=x0) (inn:=x1) (f:=x2) g0.1) hm
 exact ⟨r,h1,a,b⟩
end Go.Proofs.YtcnbncafiinfjaaDoor
