import Derived.Test.YtmlkglhpaneepaaGreatDoorCS
import Derived.KernelRfl
set_option linter.all false
namespace Go.Proofs.YtmlkglhpaneepaaGreatDoor
open Go Go.Fm
set_option maxRecDepth 100000
abbrev Bs := List UInt8
structure GOp where
  Kind : Int
  N : Int
  deriving DecidableEq, Inhabited
structure GDef where
  Name : Bs
  Body : List GOp
  deriving DecidableEq, Inhabited
structure GEntry where
  Name : Bs
  Var : Bool
  N : Int
  deriving DecidableEq, Inhabited
structure GSt where
  Data : List Int
  Ret : List GOp
  A : Int
  Mem : List Int
  Cells : List Int
  Vars : List Int
  Out : List Int
  In : List Int
  Fault : Int
  Fuel : Int
  deriving DecidableEq, Inhabited
structure GWorld where
  Defs : List GDef
  Dict : List GEntry
  St : GSt
  Open : Bool
  Yellow : Bool
  deriving DecidableEq, Inhabited
structure GItem where
  Kind : Int
  Name : Bs
  N : Int
  Hex : Bool
  Raw : Int
  deriving DecidableEq, Inhabited
structure GEd where
  Left : List GItem
  Right : List GItem
  Cut : List GItem
  deriving DecidableEq, Inhabited
structure GSession where
  World : GWorld
  Ed : GEd
  Block : Int
  deriving DecidableEq, Inhabited
structure GStore where
  Cells : List Int
  deriving DecidableEq, Inhabited
def GOp.cs (x : GOp) : List CV := [.int .i64 x.Kind, .int .i32 x.N]
def GDef.cs (x : GDef) : List CV := [.str x.Name, .imm 2 x.Body.length (x.Body.flatMap GOp.cs)]
def GEntry.cs (x : GEntry) : List CV := [.str x.Name, .bool x.Var, .int .i64 x.N]
def GItem.cs (x : GItem) : List CV := [.int .i64 x.Kind, .str x.Name, .int .i32 x.N, .bool x.Hex, .int .u32 x.Raw]
def GSession.cs (x : GSession) : List CV := [.imm 2 x.World.Defs.length (x.World.Defs.flatMap GDef.cs), .imm 3 x.World.Dict.length (x.World.Dict.flatMap GEntry.cs), .imm 1 x.World.St.Data.length (x.World.St.Data.flatMap (eI .i32)), .imm 2 x.World.St.Ret.length (x.World.St.Ret.flatMap GOp.cs), .int .i32 x.World.St.A, .imm 1 x.World.St.Mem.length (x.World.St.Mem.flatMap (eI .i32)), .imm 1 x.World.St.Cells.length (x.World.St.Cells.flatMap (eI .u32)), .imm 1 x.World.St.Vars.length (x.World.St.Vars.flatMap (eI .i64)), .imm 1 x.World.St.Out.length (x.World.St.Out.flatMap (eI .u8)), .imm 1 x.World.St.In.length (x.World.St.In.flatMap (eI .u8)), .int .i64 x.World.St.Fault, .int .i64 x.World.St.Fuel, .bool x.World.Open, .bool x.World.Yellow, .imm 5 x.Ed.Left.length (x.Ed.Left.flatMap GItem.cs), .imm 5 x.Ed.Right.length (x.Ed.Right.flatMap GItem.cs), .imm 5 x.Ed.Cut.length (x.Ed.Cut.flatMap GItem.cs), .int .i64 x.Block]
def GWorld.cs (x : GWorld) : List CV := [.imm 2 x.Defs.length (x.Defs.flatMap GDef.cs), .imm 3 x.Dict.length (x.Dict.flatMap GEntry.cs), .imm 1 x.St.Data.length (x.St.Data.flatMap (eI .i32)), .imm 2 x.St.Ret.length (x.St.Ret.flatMap GOp.cs), .int .i32 x.St.A, .imm 1 x.St.Mem.length (x.St.Mem.flatMap (eI .i32)), .imm 1 x.St.Cells.length (x.St.Cells.flatMap (eI .u32)), .imm 1 x.St.Vars.length (x.St.Vars.flatMap (eI .i64)), .imm 1 x.St.Out.length (x.St.Out.flatMap (eI .u8)), .imm 1 x.St.In.length (x.St.In.flatMap (eI .u8)), .int .i64 x.St.Fault, .int .i64 x.St.Fuel, .bool x.Open, .bool x.Yellow]
def GSt.cs (x : GSt) : List CV := [.imm 1 x.Data.length (x.Data.flatMap (eI .i32)), .imm 2 x.Ret.length (x.Ret.flatMap GOp.cs), .int .i32 x.A, .imm 1 x.Mem.length (x.Mem.flatMap (eI .i32)), .imm 1 x.Cells.length (x.Cells.flatMap (eI .u32)), .imm 1 x.Vars.length (x.Vars.flatMap (eI .i64)), .imm 1 x.Out.length (x.Out.flatMap (eI .u8)), .imm 1 x.In.length (x.In.flatMap (eI .u8)), .int .i64 x.Fault, .int .i64 x.Fuel]
def GEd.cs (x : GEd) : List CV := [.imm 5 x.Left.length (x.Left.flatMap GItem.cs), .imm 5 x.Right.length (x.Right.flatMap GItem.cs), .imm 5 x.Cut.length (x.Cut.flatMap GItem.cs)]
def GStore.cs (x : GStore) : List CV := [.imm 1 x.Cells.length (x.Cells.flatMap (eI .u32))]
instance : StTy := ⟨fun n => match n with | 0 => GSession | 1 => GWorld | 2 => GDef | 3 => GOp | 4 => GEntry | 5 => GSt | 6 => GEd | 7 => GItem | 8 => GStore | _ => Unit, fun n => match n with | 0 => 18 | 1 => 14 | 2 => 2 | 3 => 2 | 4 => 3 | 5 => 10 | 6 => 3 | 7 => 5 | 8 => 1 | _ => 0, lkA [(30, 5), (32, 1), (35, 6), (37, 0), (44, 5), (46, 1), (49, 6), (51, 0), (64, 8), (75, 4), (81, 7), (90, 2), (106, 2), (108, 4), (115, 7), (117, 3), (119, 3), (155, 3), (172, 3)]⟩
noncomputable instance : StCs := ⟨fun n => match n with | 0 => GSession.cs | 1 => GWorld.cs | 2 => GDef.cs | 3 => GOp.cs | 4 => GEntry.cs | 5 => GSt.cs | 6 => GEd.cs | 7 => GItem.cs | 8 => GStore.cs | _ => fun _ => []⟩
noncomputable def GSession.lv (x : GSession) : List TC := [.imm (.st 2) x.World.Defs, .imm (.st 4) x.World.Dict, .imm (.int .i32) x.World.St.Data, .imm (.st 3) x.World.St.Ret, .int .i32 x.World.St.A, .imm (.int .i32) x.World.St.Mem, .imm (.int .u32) x.World.St.Cells, .imm (.int .i64) x.World.St.Vars, .imm (.int .u8) x.World.St.Out, .imm (.int .u8) x.World.St.In, .int .i64 x.World.St.Fault, .int .i64 x.World.St.Fuel, .bool x.World.Open, .bool x.World.Yellow, .imm (.st 7) x.Ed.Left, .imm (.st 7) x.Ed.Right, .imm (.st 7) x.Ed.Cut, .int .i64 x.Block]
noncomputable def GSession.of : List TC → Option GSession
  | [c0, c1, c2, c3, c4, c5, c6, c7, c8, c9, c10, c11, c12, c13, c14, c15, c16, c17] => (tImm (.st 2) c0).bind fun x0 => (tImm (.st 4) c1).bind fun x1 => (tImm (.int .i32) c2).bind fun x2 => (tImm (.st 3) c3).bind fun x3 => (tInt .i32 c4).bind fun x4 => (tImm (.int .i32) c5).bind fun x5 => (tImm (.int .u32) c6).bind fun x6 => (tImm (.int .i64) c7).bind fun x7 => (tImm (.int .u8) c8).bind fun x8 => (tImm (.int .u8) c9).bind fun x9 => (tInt .i64 c10).bind fun x10 => (tInt .i64 c11).bind fun x11 => (tBool c12).bind fun x12 => (tBool c13).bind fun x13 => (tImm (.st 7) c14).bind fun x14 => (tImm (.st 7) c15).bind fun x15 => (tImm (.st 7) c16).bind fun x16 => (tInt .i64 c17).bind fun x17 => some ⟨⟨x0, x1, ⟨x2, x3, x4, x5, x6, x7, x8, x9, x10, x11⟩, x12, x13⟩, ⟨x14, x15, x16⟩, x17⟩
  | _ => none
theorem GSession.made {l : List TC} {v : GSession} (h : GSession.of l = some v) : CRs l v.lv := by
  match l, h with
  | [c0, c1, c2, c3, c4, c5, c6, c7, c8, c9, c10, c11, c12, c13, c14, c15, c16, c17], h =>
    obtain ⟨x0, e0, h⟩ := bS h
    obtain ⟨x1, e1, h⟩ := bS h
    obtain ⟨x2, e2, h⟩ := bS h
    obtain ⟨x3, e3, h⟩ := bS h
    obtain ⟨x4, e4, h⟩ := bS h
    obtain ⟨x5, e5, h⟩ := bS h
    obtain ⟨x6, e6, h⟩ := bS h
    obtain ⟨x7, e7, h⟩ := bS h
    obtain ⟨x8, e8, h⟩ := bS h
    obtain ⟨x9, e9, h⟩ := bS h
    obtain ⟨x10, e10, h⟩ := bS h
    obtain ⟨x11, e11, h⟩ := bS h
    obtain ⟨x12, e12, h⟩ := bS h
    obtain ⟨x13, e13, h⟩ := bS h
    obtain ⟨x14, e14, h⟩ := bS h
    obtain ⟨x15, e15, h⟩ := bS h
    obtain ⟨x16, e16, h⟩ := bS h
    obtain ⟨x17, e17, h⟩ := bS h
    cases h
    exact ⟨tImm_cr e0, tImm_cr e1, tImm_cr e2, tImm_cr e3, tInt_cr e4, tImm_cr e5, tImm_cr e6, tImm_cr e7, tImm_cr e8, tImm_cr e9, tInt_cr e10, tInt_cr e11, tBool_cr e12, tBool_cr e13, tImm_cr e14, tImm_cr e15, tImm_cr e16, tInt_cr e17, trivial⟩
noncomputable def GWorld.lv (x : GWorld) : List TC := [.imm (.st 2) x.Defs, .imm (.st 4) x.Dict, .imm (.int .i32) x.St.Data, .imm (.st 3) x.St.Ret, .int .i32 x.St.A, .imm (.int .i32) x.St.Mem, .imm (.int .u32) x.St.Cells, .imm (.int .i64) x.St.Vars, .imm (.int .u8) x.St.Out, .imm (.int .u8) x.St.In, .int .i64 x.St.Fault, .int .i64 x.St.Fuel, .bool x.Open, .bool x.Yellow]
noncomputable def GWorld.of : List TC → Option GWorld
  | [c0, c1, c2, c3, c4, c5, c6, c7, c8, c9, c10, c11, c12, c13] => (tImm (.st 2) c0).bind fun x0 => (tImm (.st 4) c1).bind fun x1 => (tImm (.int .i32) c2).bind fun x2 => (tImm (.st 3) c3).bind fun x3 => (tInt .i32 c4).bind fun x4 => (tImm (.int .i32) c5).bind fun x5 => (tImm (.int .u32) c6).bind fun x6 => (tImm (.int .i64) c7).bind fun x7 => (tImm (.int .u8) c8).bind fun x8 => (tImm (.int .u8) c9).bind fun x9 => (tInt .i64 c10).bind fun x10 => (tInt .i64 c11).bind fun x11 => (tBool c12).bind fun x12 => (tBool c13).bind fun x13 => some ⟨x0, x1, ⟨x2, x3, x4, x5, x6, x7, x8, x9, x10, x11⟩, x12, x13⟩
  | _ => none
theorem GWorld.made {l : List TC} {v : GWorld} (h : GWorld.of l = some v) : CRs l v.lv := by
  match l, h with
  | [c0, c1, c2, c3, c4, c5, c6, c7, c8, c9, c10, c11, c12, c13], h =>
    obtain ⟨x0, e0, h⟩ := bS h
    obtain ⟨x1, e1, h⟩ := bS h
    obtain ⟨x2, e2, h⟩ := bS h
    obtain ⟨x3, e3, h⟩ := bS h
    obtain ⟨x4, e4, h⟩ := bS h
    obtain ⟨x5, e5, h⟩ := bS h
    obtain ⟨x6, e6, h⟩ := bS h
    obtain ⟨x7, e7, h⟩ := bS h
    obtain ⟨x8, e8, h⟩ := bS h
    obtain ⟨x9, e9, h⟩ := bS h
    obtain ⟨x10, e10, h⟩ := bS h
    obtain ⟨x11, e11, h⟩ := bS h
    obtain ⟨x12, e12, h⟩ := bS h
    obtain ⟨x13, e13, h⟩ := bS h
    cases h
    exact ⟨tImm_cr e0, tImm_cr e1, tImm_cr e2, tImm_cr e3, tInt_cr e4, tImm_cr e5, tImm_cr e6, tImm_cr e7, tImm_cr e8, tImm_cr e9, tInt_cr e10, tInt_cr e11, tBool_cr e12, tBool_cr e13, trivial⟩
noncomputable def GDef.lv (x : GDef) : List TC := [.str x.Name, .imm (.st 3) x.Body]
noncomputable def GDef.of : List TC → Option GDef
  | [c0, c1] => (tStr c0).bind fun x0 => (tImm (.st 3) c1).bind fun x1 => some ⟨x0, x1⟩
  | _ => none
theorem GDef.made {l : List TC} {v : GDef} (h : GDef.of l = some v) : CRs l v.lv := by
  match l, h with
  | [c0, c1], h =>
    obtain ⟨x0, e0, h⟩ := bS h
    obtain ⟨x1, e1, h⟩ := bS h
    cases h
    exact ⟨tStr_cr e0, tImm_cr e1, trivial⟩
noncomputable def GOp.lv (x : GOp) : List TC := [.int .i64 x.Kind, .int .i32 x.N]
noncomputable def GOp.of : List TC → Option GOp
  | [c0, c1] => (tInt .i64 c0).bind fun x0 => (tInt .i32 c1).bind fun x1 => some ⟨x0, x1⟩
  | _ => none
theorem GOp.made {l : List TC} {v : GOp} (h : GOp.of l = some v) : CRs l v.lv := by
  match l, h with
  | [c0, c1], h =>
    obtain ⟨x0, e0, h⟩ := bS h
    obtain ⟨x1, e1, h⟩ := bS h
    cases h
    exact ⟨tInt_cr e0, tInt_cr e1, trivial⟩
noncomputable def GEntry.lv (x : GEntry) : List TC := [.str x.Name, .bool x.Var, .int .i64 x.N]
noncomputable def GEntry.of : List TC → Option GEntry
  | [c0, c1, c2] => (tStr c0).bind fun x0 => (tBool c1).bind fun x1 => (tInt .i64 c2).bind fun x2 => some ⟨x0, x1, x2⟩
  | _ => none
theorem GEntry.made {l : List TC} {v : GEntry} (h : GEntry.of l = some v) : CRs l v.lv := by
  match l, h with
  | [c0, c1, c2], h =>
    obtain ⟨x0, e0, h⟩ := bS h
    obtain ⟨x1, e1, h⟩ := bS h
    obtain ⟨x2, e2, h⟩ := bS h
    cases h
    exact ⟨tStr_cr e0, tBool_cr e1, tInt_cr e2, trivial⟩
noncomputable def GSt.lv (x : GSt) : List TC := [.imm (.int .i32) x.Data, .imm (.st 3) x.Ret, .int .i32 x.A, .imm (.int .i32) x.Mem, .imm (.int .u32) x.Cells, .imm (.int .i64) x.Vars, .imm (.int .u8) x.Out, .imm (.int .u8) x.In, .int .i64 x.Fault, .int .i64 x.Fuel]
noncomputable def GSt.of : List TC → Option GSt
  | [c0, c1, c2, c3, c4, c5, c6, c7, c8, c9] => (tImm (.int .i32) c0).bind fun x0 => (tImm (.st 3) c1).bind fun x1 => (tInt .i32 c2).bind fun x2 => (tImm (.int .i32) c3).bind fun x3 => (tImm (.int .u32) c4).bind fun x4 => (tImm (.int .i64) c5).bind fun x5 => (tImm (.int .u8) c6).bind fun x6 => (tImm (.int .u8) c7).bind fun x7 => (tInt .i64 c8).bind fun x8 => (tInt .i64 c9).bind fun x9 => some ⟨x0, x1, x2, x3, x4, x5, x6, x7, x8, x9⟩
  | _ => none
theorem GSt.made {l : List TC} {v : GSt} (h : GSt.of l = some v) : CRs l v.lv := by
  match l, h with
  | [c0, c1, c2, c3, c4, c5, c6, c7, c8, c9], h =>
    obtain ⟨x0, e0, h⟩ := bS h
    obtain ⟨x1, e1, h⟩ := bS h
    obtain ⟨x2, e2, h⟩ := bS h
    obtain ⟨x3, e3, h⟩ := bS h
    obtain ⟨x4, e4, h⟩ := bS h
    obtain ⟨x5, e5, h⟩ := bS h
    obtain ⟨x6, e6, h⟩ := bS h
    obtain ⟨x7, e7, h⟩ := bS h
    obtain ⟨x8, e8, h⟩ := bS h
    obtain ⟨x9, e9, h⟩ := bS h
    cases h
    exact ⟨tImm_cr e0, tImm_cr e1, tInt_cr e2, tImm_cr e3, tImm_cr e4, tImm_cr e5, tImm_cr e6, tImm_cr e7, tInt_cr e8, tInt_cr e9, trivial⟩
noncomputable def GEd.lv (x : GEd) : List TC := [.imm (.st 7) x.Left, .imm (.st 7) x.Right, .imm (.st 7) x.Cut]
noncomputable def GEd.of : List TC → Option GEd
  | [c0, c1, c2] => (tImm (.st 7) c0).bind fun x0 => (tImm (.st 7) c1).bind fun x1 => (tImm (.st 7) c2).bind fun x2 => some ⟨x0, x1, x2⟩
  | _ => none
theorem GEd.made {l : List TC} {v : GEd} (h : GEd.of l = some v) : CRs l v.lv := by
  match l, h with
  | [c0, c1, c2], h =>
    obtain ⟨x0, e0, h⟩ := bS h
    obtain ⟨x1, e1, h⟩ := bS h
    obtain ⟨x2, e2, h⟩ := bS h
    cases h
    exact ⟨tImm_cr e0, tImm_cr e1, tImm_cr e2, trivial⟩
noncomputable def GItem.lv (x : GItem) : List TC := [.int .i64 x.Kind, .str x.Name, .int .i32 x.N, .bool x.Hex, .int .u32 x.Raw]
noncomputable def GItem.of : List TC → Option GItem
  | [c0, c1, c2, c3, c4] => (tInt .i64 c0).bind fun x0 => (tStr c1).bind fun x1 => (tInt .i32 c2).bind fun x2 => (tBool c3).bind fun x3 => (tInt .u32 c4).bind fun x4 => some ⟨x0, x1, x2, x3, x4⟩
  | _ => none
theorem GItem.made {l : List TC} {v : GItem} (h : GItem.of l = some v) : CRs l v.lv := by
  match l, h with
  | [c0, c1, c2, c3, c4], h =>
    obtain ⟨x0, e0, h⟩ := bS h
    obtain ⟨x1, e1, h⟩ := bS h
    obtain ⟨x2, e2, h⟩ := bS h
    obtain ⟨x3, e3, h⟩ := bS h
    obtain ⟨x4, e4, h⟩ := bS h
    cases h
    exact ⟨tInt_cr e0, tStr_cr e1, tInt_cr e2, tBool_cr e3, tInt_cr e4, trivial⟩
noncomputable def GStore.lv (x : GStore) : List TC := [.imm (.int .u32) x.Cells]
noncomputable def GStore.of : List TC → Option GStore
  | [c0] => (tImm (.int .u32) c0).bind fun x0 => some ⟨x0⟩
  | _ => none
theorem GStore.made {l : List TC} {v : GStore} (h : GStore.of l = some v) : CRs l v.lv := by
  match l, h with
  | [c0], h =>
    obtain ⟨x0, e0, h⟩ := bS h
    cases h
    exact ⟨tImm_cr e0, trivial⟩
noncomputable instance : Structs where
  leaves := fun n => match n with | 0 => GSession.lv | 1 => GWorld.lv | 2 => GDef.lv | 3 => GOp.lv | 4 => GEntry.lv | 5 => GSt.lv | 6 => GEd.lv | 7 => GItem.lv | 8 => GStore.lv | _ => fun _ => []
  make := fun n => match n with | 0 => GSession.of | 1 => GWorld.of | 2 => GDef.of | 3 => GOp.of | 4 => GEntry.of | 5 => GSt.of | 6 => GEd.of | 7 => GItem.of | 8 => GStore.of | _ => fun _ => none
  plain := fun n => match n with | 0 => false | 1 => false | 2 => false | 3 => true | 4 => true | 5 => false | 6 => false | 7 => true | 8 => false | _ => false
  lt := fun n => match n with | 0 => [(.st 2), (.st 4), (.int .i32), (.st 3), .bool, (.int .i32), (.int .u32), (.int .i64), (.int .u8), (.int .u8), .bool, .bool, .bool, .bool, (.st 7), (.st 7), (.st 7), .bool] | 1 => [(.st 2), (.st 4), (.int .i32), (.st 3), .bool, (.int .i32), (.int .u32), (.int .i64), (.int .u8), (.int .u8), .bool, .bool, .bool, .bool] | 2 => [.bool, (.st 3)] | 3 => [.bool, .bool] | 4 => [.bool, .bool, .bool] | 5 => [(.int .i32), (.st 3), .bool, (.int .i32), (.int .u32), (.int .i64), (.int .u8), (.int .u8), .bool, .bool] | 6 => [(.st 7), (.st 7), (.st 7)] | 7 => [.bool, .bool, .bool, .bool, .bool] | 8 => [(.int .u32)] | _ => []
  len := fun n v => match n, v with | 0, _ => rfl | 1, _ => rfl | 2, _ => rfl | 3, _ => rfl | 4, _ => rfl | 5, _ => rfl | 6, _ => rfl | 7, _ => rfl | 8, _ => rfl | _ + 9, _ => rfl
  conc := fun n v => match n, v with | 0, _ => rfl | 1, _ => rfl | 2, _ => rfl | 3, _ => rfl | 4, _ => rfl | 5, _ => rfl | 6, _ => rfl | 7, _ => rfl | 8, _ => rfl | _ + 9, _ => rfl
  pure := fun n v => match n, v with | 0, _ => rfl | 1, _ => rfl | 2, _ => rfl | 3, _ => rfl | 4, _ => rfl | 5, _ => rfl | 6, _ => rfl | 7, _ => rfl | 8, _ => rfl | _ + 9, _ => rfl
  made := fun n l v h => match n, v, h with | 0, v, h => GSession.made h | 1, v, h => GWorld.made h | 2, v, h => GDef.made h | 3, v, h => GOp.made h | 4, v, h => GEntry.made h | 5, v, h => GSt.made h | 6, v, h => GEd.made h | 7, v, h => GItem.made h | 8, v, h => GStore.made h | _ + 9, _, h => nomatch h
  flat := fun n v h => match n, v, h with | 0, _, h => nomatch h | 1, _, h => nomatch h | 2, _, h => nomatch h | 3, _, _ => rfl | 4, _, _ => rfl | 5, _, h => nomatch h | 6, _, h => nomatch h | 7, _, _ => rfl | 8, _, h => nomatch h | _ + 9, _, h => nomatch h
noncomputable instance : Tabs := ⟨fun g => match g with | 0 => some ⟨.int .u8, gtAscii⟩ | _ => none, fun g => match g with | 0 => rfl | _ + 1 => rfl⟩
abbrev K0 : Ty := .str
abbrev K1 : Ty := .int .i64
abbrev K2 : Ty := .int .i32
abbrev K3 : Ty := .st 3
abbrev K4 : Ty := .list K3
abbrev K5 : Ty := .st 2
abbrev K6 : Ty := .list K5
abbrev K7 : Ty := .bool
abbrev K8 : Ty := .st 4
abbrev K9 : Ty := .list K8
abbrev K10 : Ty := .list K2
abbrev K11 : Ty := .int .u32
abbrev K12 : Ty := .list K11
abbrev K13 : Ty := .list K1
abbrev K14 : Ty := .int .u8
abbrev K15 : Ty := .list K14
abbrev K16 : Ty := .st 5
abbrev K17 : Ty := .st 1
abbrev K18 : Ty := .st 7
abbrev K19 : Ty := .list K18
abbrev K20 : Ty := .st 6
abbrev K21 : Ty := .st 0
abbrev K22 : Ty := .st 8
abbrev K23 : Ty := .list K0
abbrev K24 : Ty := .list K19
end Go.Proofs.YtmlkglhpaneepaaGreatDoor
namespace Go.Proofs.YtmlkglhpaneepaaGreatDoor
open Go Go.Fm
set_option maxRecDepth 1000000
def g_laws_szOpS (a_1 : List GOp) (left_2 : Int) : Option Int := cond (decide ((IntKind.wrap .i64 (left_2 - (a_1.length : Int))) < 0)) (some (-1)) (some (IntKind.wrap .i64 (left_2 - (a_1.length : Int))))
def g_laws_szDef (a_1 : GDef) (left_2 : Int) : Option Int := cond (decide ((IntKind.wrap .i64 (left_2 - (a_1.Name.length : Int))) < 0)) (some (-1)) ((g_laws_szOpS a_1.Body (IntKind.wrap .i64 (left_2 - (a_1.Name.length : Int)))).bind fun y_4 => cond (decide (y_4 < 0)) (some (-1)) (some y_4))
def g_laws_szDefS_l0 (a_1 : List GDef) : Nat → Int → Int → Option (Int ⊕ Int)
  | 0, _, _ => none
  | k + 1, left_6, i_7 => cond (decide (i_7 < (a_1.length : Int))) ((getI a_1 i_7).bind fun v_10 => (g_laws_szDef v_10 left_6).bind fun y_11 => cond (decide (y_11 < 0)) (some (.inr (-1))) (g_laws_szDefS_l0 a_1 k y_11 (IntKind.wrap .i64 (i_7 + 1)))) (some (.inl left_6))
def g_laws_szDefS (a_1 : List GDef) (left_2 : Int) : Option Int := cond (decide ((IntKind.wrap .i64 (left_2 - (a_1.length : Int))) < 0)) (some (-1)) (((g_laws_szDefS_l0 a_1 bigK (IntKind.wrap .i64 (left_2 - (a_1.length : Int))) 0).bind fun o => match o with | .inl left_8 => some (.inl left_8) | .inr v_9 => some (.inr v_9) : Option (Int ⊕ Int)).bind fun o => match o with | .inl left_4 => some left_4 | .inr v_5 => some v_5)
def g_laws_szEntry (a_1 : GEntry) (left_2 : Int) : Option Int := cond (decide ((IntKind.wrap .i64 (left_2 - (a_1.Name.length : Int))) < 0)) (some (-1)) (some (IntKind.wrap .i64 (left_2 - (a_1.Name.length : Int))))
def g_laws_szEntryS_l0 (a_1 : List GEntry) : Nat → Int → Int → Option (Int ⊕ Int)
  | 0, _, _ => none
  | k + 1, left_6, i_7 => cond (decide (i_7 < (a_1.length : Int))) ((getI a_1 i_7).bind fun v_10 => (g_laws_szEntry v_10 left_6).bind fun y_11 => cond (decide (y_11 < 0)) (some (.inr (-1))) (g_laws_szEntryS_l0 a_1 k y_11 (IntKind.wrap .i64 (i_7 + 1)))) (some (.inl left_6))
def g_laws_szEntryS (a_1 : List GEntry) (left_2 : Int) : Option Int := cond (decide ((IntKind.wrap .i64 (left_2 - (a_1.length : Int))) < 0)) (some (-1)) (((g_laws_szEntryS_l0 a_1 bigK (IntKind.wrap .i64 (left_2 - (a_1.length : Int))) 0).bind fun o => match o with | .inl left_8 => some (.inl left_8) | .inr v_9 => some (.inr v_9) : Option (Int ⊕ Int)).bind fun o => match o with | .inl left_4 => some left_4 | .inr v_5 => some v_5)
def g_laws_szInt32S (a_1 : List Int) (left_2 : Int) : Option Int := cond (decide ((IntKind.wrap .i64 (left_2 - (a_1.length : Int))) < 0)) (some (-1)) (some (IntKind.wrap .i64 (left_2 - (a_1.length : Int))))
def g_laws_szSlotS (a_1 : List GOp) (left_2 : Int) : Option Int := cond (decide ((IntKind.wrap .i64 (left_2 - (a_1.length : Int))) < 0)) (some (-1)) (some (IntKind.wrap .i64 (left_2 - (a_1.length : Int))))
def g_laws_szUint32S (a_1 : List Int) (left_2 : Int) : Option Int := cond (decide ((IntKind.wrap .i64 (left_2 - (a_1.length : Int))) < 0)) (some (-1)) (some (IntKind.wrap .i64 (left_2 - (a_1.length : Int))))
def g_laws_szIntS (a_1 : List Int) (left_2 : Int) : Option Int := cond (decide ((IntKind.wrap .i64 (left_2 - (a_1.length : Int))) < 0)) (some (-1)) (some (IntKind.wrap .i64 (left_2 - (a_1.length : Int))))
def g_laws_szByteS (a_1 : List Int) (left_2 : Int) : Option Int := cond (decide ((IntKind.wrap .i64 (left_2 - (a_1.length : Int))) < 0)) (some (-1)) (some (IntKind.wrap .i64 (left_2 - (a_1.length : Int))))
def g_laws_szSt (a_1 : GSt) (left_2 : Int) : Option Int := (g_laws_szInt32S a_1.Data left_2).bind fun y_4 => cond (decide (y_4 < 0)) (some (-1)) ((g_laws_szSlotS a_1.Ret y_4).bind fun y_5 => cond (decide (y_5 < 0)) (some (-1)) ((g_laws_szInt32S a_1.Mem y_5).bind fun y_6 => cond (decide (y_6 < 0)) (some (-1)) ((g_laws_szUint32S a_1.Cells y_6).bind fun y_7 => cond (decide (y_7 < 0)) (some (-1)) ((g_laws_szIntS a_1.Vars y_7).bind fun y_8 => cond (decide (y_8 < 0)) (some (-1)) ((g_laws_szByteS a_1.Out y_8).bind fun y_9 => cond (decide (y_9 < 0)) (some (-1)) ((g_laws_szByteS a_1.In y_9).bind fun y_10 => cond (decide (y_10 < 0)) (some (-1)) (some y_10)))))))
def g_laws_szWorld (a_1 : GWorld) (left_2 : Int) : Option Int := (g_laws_szDefS a_1.Defs left_2).bind fun y_4 => cond (decide (y_4 < 0)) (some (-1)) ((g_laws_szEntryS a_1.Dict y_4).bind fun y_5 => cond (decide (y_5 < 0)) (some (-1)) ((g_laws_szSt a_1.St y_5).bind fun y_6 => cond (decide (y_6 < 0)) (some (-1)) (some y_6)))
def g_laws_szItem (a_1 : GItem) (left_2 : Int) : Option Int := cond (decide ((IntKind.wrap .i64 (left_2 - (a_1.Name.length : Int))) < 0)) (some (-1)) (some (IntKind.wrap .i64 (left_2 - (a_1.Name.length : Int))))
def g_laws_szItemS_l0 (a_1 : List GItem) : Nat → Int → Int → Option (Int ⊕ Int)
  | 0, _, _ => none
  | k + 1, left_6, i_7 => cond (decide (i_7 < (a_1.length : Int))) ((getI a_1 i_7).bind fun v_10 => (g_laws_szItem v_10 left_6).bind fun y_11 => cond (decide (y_11 < 0)) (some (.inr (-1))) (g_laws_szItemS_l0 a_1 k y_11 (IntKind.wrap .i64 (i_7 + 1)))) (some (.inl left_6))
def g_laws_szItemS (a_1 : List GItem) (left_2 : Int) : Option Int := cond (decide ((IntKind.wrap .i64 (left_2 - (a_1.length : Int))) < 0)) (some (-1)) (((g_laws_szItemS_l0 a_1 bigK (IntKind.wrap .i64 (left_2 - (a_1.length : Int))) 0).bind fun o => match o with | .inl left_8 => some (.inl left_8) | .inr v_9 => some (.inr v_9) : Option (Int ⊕ Int)).bind fun o => match o with | .inl left_4 => some left_4 | .inr v_5 => some v_5)
def g_laws_szEd (a_1 : GEd) (left_2 : Int) : Option Int := (g_laws_szItemS a_1.Left left_2).bind fun y_4 => cond (decide (y_4 < 0)) (some (-1)) ((g_laws_szItemS a_1.Right y_4).bind fun y_5 => cond (decide (y_5 < 0)) (some (-1)) ((g_laws_szItemS a_1.Cut y_5).bind fun y_6 => cond (decide (y_6 < 0)) (some (-1)) (some y_6)))
def g_laws_szSession (a_1 : GSession) (left_2 : Int) : Option Int := (g_laws_szWorld a_1.World left_2).bind fun y_4 => cond (decide (y_4 < 0)) (some (-1)) ((g_laws_szEd a_1.Ed y_4).bind fun y_5 => cond (decide (y_5 < 0)) (some (-1)) (some y_5))
def g_laws_toOp (a_1 : GOp) : Option GOp := some a_1
def g_laws_toOpS_l0 (a_1 : List GOp) : Nat → (List GOp) → Int → Option (List GOp)
  | 0, _, _ => none
  | k + 1, out_5, i_6 => cond (decide (i_6 < (a_1.length : Int))) ((getI a_1 i_6).bind fun v_8 => (g_laws_toOp v_8).bind fun y_9 => (getI out_5 i_6).bind fun v_10 => g_laws_toOpS_l0 a_1 k (out_5.set i_6.toNat y_9) (IntKind.wrap .i64 (i_6 + 1))) (some out_5)
def g_laws_toOpS (a_1 : List GOp) : Option (List GOp) := (mk ((⟨0, 0⟩ : GOp) : GOp) (a_1.length : Int)).bind fun v_3 => ((g_laws_toOpS_l0 a_1 bigK v_3 0).bind fun out_7 => some out_7 : Option ((List GOp))).bind fun out_4 => some out_4
def g_laws_toDef_imm (a_1 : GDef) : Option GDef := (g_laws_toOpS a_1.Body).bind fun y_3 => some (⟨a_1.Name, y_3⟩ : GDef)
def g_laws_toDefS_l0 (a_1 : List GDef) : Nat → (List GDef) → Int → Option (List GDef)
  | 0, _, _ => none
  | k + 1, out_5, i_6 => cond (decide (i_6 < (a_1.length : Int))) ((getI a_1 i_6).bind fun v_8 => (g_laws_toDef_imm v_8).bind fun y_9 => (getI out_5 i_6).bind fun v_10 => g_laws_toDefS_l0 a_1 k (out_5.set i_6.toNat y_9) (IntKind.wrap .i64 (i_6 + 1))) (some out_5)
def g_laws_toDefS (a_1 : List GDef) : Option (List GDef) := (mk ((⟨[], []⟩ : GDef) : GDef) (a_1.length : Int)).bind fun v_3 => ((g_laws_toDefS_l0 a_1 bigK v_3 0).bind fun out_7 => some out_7 : Option ((List GDef))).bind fun out_4 => some out_4
def g_laws_toEntry (a_1 : GEntry) : Option GEntry := some a_1
def g_laws_toEntryS_l0 (a_1 : List GEntry) : Nat → (List GEntry) → Int → Option (List GEntry)
  | 0, _, _ => none
  | k + 1, out_5, i_6 => cond (decide (i_6 < (a_1.length : Int))) ((getI a_1 i_6).bind fun v_8 => (g_laws_toEntry v_8).bind fun y_9 => (getI out_5 i_6).bind fun v_10 => g_laws_toEntryS_l0 a_1 k (out_5.set i_6.toNat y_9) (IntKind.wrap .i64 (i_6 + 1))) (some out_5)
def g_laws_toEntryS (a_1 : List GEntry) : Option (List GEntry) := (mk ((⟨[], false, 0⟩ : GEntry) : GEntry) (a_1.length : Int)).bind fun v_3 => ((g_laws_toEntryS_l0 a_1 bigK v_3 0).bind fun out_7 => some out_7 : Option ((List GEntry))).bind fun out_4 => some out_4
def g_laws_toInt32S_l0 (a_1 : List Int) : Nat → (List Int) → Int → Option (List Int)
  | 0, _, _ => none
  | k + 1, out_5, i_6 => cond (decide (i_6 < (a_1.length : Int))) ((getI a_1 i_6).bind fun v_8 => (getI out_5 i_6).bind fun v_9 => g_laws_toInt32S_l0 a_1 k (out_5.set i_6.toNat v_8) (IntKind.wrap .i64 (i_6 + 1))) (some out_5)
def g_laws_toInt32S (a_1 : List Int) : Option (List Int) := (mk (0 : Int) (a_1.length : Int)).bind fun v_3 => ((g_laws_toInt32S_l0 a_1 bigK v_3 0).bind fun out_7 => some out_7 : Option ((List Int))).bind fun out_4 => some out_4
def g_laws_toSlot (a_1 : GOp) : Option GOp := some a_1
def g_laws_toSlotS_l0 (a_1 : List GOp) : Nat → (List GOp) → Int → Option (List GOp)
  | 0, _, _ => none
  | k + 1, out_5, i_6 => cond (decide (i_6 < (a_1.length : Int))) ((getI a_1 i_6).bind fun v_8 => (g_laws_toSlot v_8).bind fun y_9 => (getI out_5 i_6).bind fun v_10 => g_laws_toSlotS_l0 a_1 k (out_5.set i_6.toNat y_9) (IntKind.wrap .i64 (i_6 + 1))) (some out_5)
def g_laws_toSlotS (a_1 : List GOp) : Option (List GOp) := (mk ((⟨0, 0⟩ : GOp) : GOp) (a_1.length : Int)).bind fun v_3 => ((g_laws_toSlotS_l0 a_1 bigK v_3 0).bind fun out_7 => some out_7 : Option ((List GOp))).bind fun out_4 => some out_4
def g_laws_toUint32S_l0 (a_1 : List Int) : Nat → (List Int) → Int → Option (List Int)
  | 0, _, _ => none
  | k + 1, out_5, i_6 => cond (decide (i_6 < (a_1.length : Int))) ((getI a_1 i_6).bind fun v_8 => (getI out_5 i_6).bind fun v_9 => g_laws_toUint32S_l0 a_1 k (out_5.set i_6.toNat v_8) (IntKind.wrap .i64 (i_6 + 1))) (some out_5)
def g_laws_toUint32S (a_1 : List Int) : Option (List Int) := (mk (0 : Int) (a_1.length : Int)).bind fun v_3 => ((g_laws_toUint32S_l0 a_1 bigK v_3 0).bind fun out_7 => some out_7 : Option ((List Int))).bind fun out_4 => some out_4
def g_laws_toIntS_l0 (a_1 : List Int) : Nat → (List Int) → Int → Option (List Int)
  | 0, _, _ => none
  | k + 1, out_5, i_6 => cond (decide (i_6 < (a_1.length : Int))) ((getI a_1 i_6).bind fun v_8 => (getI out_5 i_6).bind fun v_9 => g_laws_toIntS_l0 a_1 k (out_5.set i_6.toNat v_8) (IntKind.wrap .i64 (i_6 + 1))) (some out_5)
def g_laws_toIntS (a_1 : List Int) : Option (List Int) := (mk (0 : Int) (a_1.length : Int)).bind fun v_3 => ((g_laws_toIntS_l0 a_1 bigK v_3 0).bind fun out_7 => some out_7 : Option ((List Int))).bind fun out_4 => some out_4
def g_laws_toByteS_l0 (a_1 : List Int) : Nat → (List Int) → Int → Option (List Int)
  | 0, _, _ => none
  | k + 1, out_5, i_6 => cond (decide (i_6 < (a_1.length : Int))) ((getI a_1 i_6).bind fun v_8 => (getI out_5 i_6).bind fun v_9 => g_laws_toByteS_l0 a_1 k (out_5.set i_6.toNat v_8) (IntKind.wrap .i64 (i_6 + 1))) (some out_5)
def g_laws_toByteS (a_1 : List Int) : Option (List Int) := (mk (0 : Int) (a_1.length : Int)).bind fun v_3 => ((g_laws_toByteS_l0 a_1 bigK v_3 0).bind fun out_7 => some out_7 : Option ((List Int))).bind fun out_4 => some out_4
def g_laws_toSt (a_1 : GSt) : Option GSt := (g_laws_toInt32S a_1.Data).bind fun y_3 => (g_laws_toSlotS a_1.Ret).bind fun y_4 => (g_laws_toInt32S a_1.Mem).bind fun y_5 => (g_laws_toUint32S a_1.Cells).bind fun y_6 => (g_laws_toIntS a_1.Vars).bind fun y_7 => (g_laws_toByteS a_1.Out).bind fun y_8 => (g_laws_toByteS a_1.In).bind fun y_9 => some (⟨y_3, y_4, a_1.A, y_5, y_6, y_7, y_8, y_9, a_1.Fault, a_1.Fuel⟩ : GSt)
def g_laws_toWorld (a_1 : GWorld) : Option GWorld := (g_laws_toDefS a_1.Defs).bind fun y_3 => (g_laws_toEntryS a_1.Dict).bind fun y_4 => (g_laws_toSt a_1.St).bind fun y_5 => some (⟨y_3, y_4, y_5, a_1.Open, a_1.Yellow⟩ : GWorld)
def g_laws_toItem (a_1 : GItem) : Option GItem := some a_1
def g_laws_toItemS_l0 (a_1 : List GItem) : Nat → (List GItem) → Int → Option (List GItem)
  | 0, _, _ => none
  | k + 1, out_5, i_6 => cond (decide (i_6 < (a_1.length : Int))) ((getI a_1 i_6).bind fun v_8 => (g_laws_toItem v_8).bind fun y_9 => (getI out_5 i_6).bind fun v_10 => g_laws_toItemS_l0 a_1 k (out_5.set i_6.toNat y_9) (IntKind.wrap .i64 (i_6 + 1))) (some out_5)
def g_laws_toItemS (a_1 : List GItem) : Option (List GItem) := (mk ((⟨0, [], 0, false, 0⟩ : GItem) : GItem) (a_1.length : Int)).bind fun v_3 => ((g_laws_toItemS_l0 a_1 bigK v_3 0).bind fun out_7 => some out_7 : Option ((List GItem))).bind fun out_4 => some out_4
def g_laws_toEd (a_1 : GEd) : Option GEd := (g_laws_toItemS a_1.Left).bind fun y_3 => (g_laws_toItemS a_1.Right).bind fun y_4 => (g_laws_toItemS a_1.Cut).bind fun y_5 => some (⟨y_3, y_4, y_5⟩ : GEd)
def g_laws_toSession (a_1 : GSession) : Option GSession := (g_laws_toWorld a_1.World).bind fun y_3 => (g_laws_toEd a_1.Ed).bind fun y_4 => some (⟨y_3, y_4, a_1.Block⟩ : GSession)
def g_spec_l01In (x_1 : Int) (a_2 : Int) (b_3 : Int) : Option Bool := cond (decide (x_1 ≥ a_2)) (some (decide (x_1 ≤ b_3))) (some false)
def g_spec_StoreOk (s_1 : GStore) : Option Bool := cond ((Int.tmod (s_1.Cells.length : Int) 64) == 0) (some (decide ((s_1.Cells.length : Int) ≤ 768))) (some false)
def g_spec_StOk_l0 (st_1 : GSt) : Nat → Int → Option (Unit ⊕ Bool)
  | 0, _ => none
  | k + 1, i_5 => cond (decide (i_5 < (st_1.Ret.length : Int))) ((getI st_1.Ret i_5).bind fun v_7 => (g_spec_l01In v_7.Kind 0 2).bind fun y_8 => cond (!y_8) (some (.inr false)) (g_spec_StOk_l0 st_1 k (IntKind.wrap .i64 (i_5 + 1)))) (some (.inl ()))
def g_spec_StOk_l2 (i_10 : Int) (st_1 : GSt) : Nat → Int → Option (Unit ⊕ Bool)
  | 0, _ => none
  | k + 1, k_15 => cond (decide (k_15 < i_10)) ((getI st_1.Vars k_15).bind fun v_17 => (getI st_1.Vars i_10).bind fun v_18 => cond (v_17 == v_18) (some (.inr false)) (g_spec_StOk_l2 i_10 st_1 k (IntKind.wrap .i64 (k_15 + 1)))) (some (.inl ()))
def g_spec_StOk_l1 (st_1 : GSt) : Nat → Int → Option (Unit ⊕ Bool)
  | 0, _ => none
  | k + 1, i_10 => cond (decide (i_10 < (st_1.Vars.length : Int))) (((getI st_1.Vars i_10).bind fun v_13 => (g_spec_l01In v_13 0 (IntKind.wrap .i64 ((st_1.Cells.length : Int) - 1))).bind fun y_14 => cond (!y_14) (some (.inr false)) ((g_spec_StOk_l2 i_10 st_1 bigK 0).bind fun o => match o with | .inl () => some (.inl ()) | .inr v_16 => some (.inr v_16)) : Option (Unit ⊕ Bool)).bind fun o => match o with | .inl () => g_spec_StOk_l1 st_1 k (IntKind.wrap .i64 (i_10 + 1)) | .inr v_12 => some (.inr v_12)) (some (.inl ()))
def g_spec_StOk (st_1 : GSt) : Option Bool := (cond (decide ((st_1.Data.length : Int) > 16)) (some true) (cond (decide ((st_1.Ret.length : Int) > 24)) (some true) (cond ((st_1.Mem.length : Int) != 32) (some true) (cond (decide ((st_1.Vars.length : Int) > 20)) (some true) (cond (decide ((st_1.Out.length : Int) > 400)) (some true) (some (decide ((st_1.In.length : Int) > 100))))))) : Option (Bool)).bind fun v_3 => cond v_3 (some false) (((g_spec_StOk_l0 st_1 bigK 0).bind fun o => match o with | .inl () => some (.inl ()) | .inr v_6 => some (.inr v_6) : Option (Unit ⊕ Bool)).bind fun o => match o with | .inl () => (((g_spec_StOk_l1 st_1 bigK 0).bind fun o => match o with | .inl () => some (.inl ()) | .inr v_11 => some (.inr v_11) : Option (Unit ⊕ Bool)).bind fun o => match o with | .inl () => (g_spec_StoreOk (⟨st_1.Cells⟩ : GStore)).bind fun y_19 => cond y_19 ((g_spec_l01In st_1.Fault 0 13).bind fun y_20 => cond y_20 ((g_spec_l01In st_1.Fuel 0 4000).bind fun y_21 => some y_21) (some false)) (some false) | .inr v_9 => some v_9) | .inr v_4 => some v_4)
def g_spec_l02All : Option Bs := some [32, 114, 116, 111, 101, 97, 110, 105, 115, 109, 99, 121, 108, 103, 102, 119, 100, 118, 112, 98, 104, 120, 117, 113, 48, 49, 50, 51, 52, 53, 54, 55, 56, 57, 106, 45, 107, 46, 122, 47, 59, 39, 33, 43, 64, 42, 44, 63]
def g_spec_LetterOf_l0 (b_1 : Int) (y_3 : Bs) : Nat → Int → Option (Unit ⊕ Int)
  | 0, _ => none
  | k + 1, i_5 => cond (decide (i_5 < (y_3.length : Int))) ((idxS y_3 i_5).bind fun v_7 => cond (v_7 == b_1) (some (.inr i_5)) (g_spec_LetterOf_l0 b_1 y_3 k (IntKind.wrap .i64 (i_5 + 1)))) (some (.inl ()))
def g_spec_LetterOf (b_1 : Int) : Option Int := (g_spec_l02All).bind fun y_3 => ((g_spec_LetterOf_l0 b_1 y_3 bigK 0).bind fun o => match o with | .inl () => some (.inl ()) | .inr v_6 => some (.inr v_6) : Option (Unit ⊕ Int)).bind fun o => match o with | .inl () => some (-1) | .inr v_4 => some v_4
def g_spec_NameOk_l0 (s_1 : Bs) : Nat → Int → Option (Unit ⊕ Bool)
  | 0, _ => none
  | k + 1, i_5 => cond (decide (i_5 < (s_1.length : Int))) ((idxS s_1 i_5).bind fun v_7 => (g_spec_LetterOf v_7).bind fun y_8 => cond (decide (y_8 < 1)) (some (.inr false)) (g_spec_NameOk_l0 s_1 k (IntKind.wrap .i64 (i_5 + 1)))) (some (.inl ()))
def g_spec_NameOk (s_1 : Bs) : Option Bool := (g_spec_l01In (s_1.length : Int) 1 24).bind fun y_3 => cond (!y_3) (some false) (((g_spec_NameOk_l0 s_1 bigK 0).bind fun o => match o with | .inl () => some (.inl ()) | .inr v_6 => some (.inr v_6) : Option (Unit ⊕ Bool)).bind fun o => match o with | .inl () => some true | .inr v_4 => some v_4)
def g_spec_l08Names : Option (List Bs) := some [[100, 117, 112], [100, 114, 111, 112], [111, 118, 101, 114], [110, 105, 112], [115, 119, 97, 112], [43], [45], [42], [97, 110, 100], [111, 114], [50, 42], [50, 47], [47, 109, 111, 100], [64], [33], [97], [97, 33], [101, 109, 105, 116], [107, 101, 121], [112, 117, 115, 104], [112, 111, 112], [105], [46], [110, 111, 112]]
def g_spec_PrimName (k_1 : Int) : Option Bs := (g_spec_l08Names).bind fun y_3 => (g_spec_l01In k_1 0 (IntKind.wrap .i64 ((y_3.length : Int) - 1))).bind fun y_4 => cond (!y_4) (some []) ((getI y_3 k_1).bind fun v_5 => some v_5)
def g_spec_l09Op (o_1 : GOp) : Option Bool := cond (o_1.Kind == 0) (some true) (cond (o_1.Kind == 1) ((g_spec_PrimName (IntKind.wrap .i64 o_1.N)).bind fun y_3 => some (y_3 != [])) (cond (o_1.Kind == 2) ((g_spec_l01In (IntKind.wrap .i64 o_1.N) 0 23).bind fun y_4 => some y_4) ((g_spec_l01In o_1.Kind 3 8).bind fun y_5 => cond y_5 (some (o_1.N == 0)) (some false))))
def g_spec_l09Open_l0 (body_1 : List GOp) : Nat → (List Int) → Int → Option ((List Int) ⊕ Bool)
  | 0, _, _ => none
  | k + 1, vopen_6, i_7 => cond (decide (i_7 < (body_1.length : Int))) (((getI body_1 i_7).bind fun v_12 => (cond (v_12.Kind == 3) (some (v_12.Kind == 3)) (cond (v_12.Kind == 4) (some (v_12.Kind == 4)) (some (v_12.Kind == 6))) : Option (Bool)).bind fun v_13 => cond v_13 ((app vopen_6 [v_12.Kind]).bind fun v_14 => some (.inl v_14)) ((cond (v_12.Kind == 5) (some (v_12.Kind == 5)) (some (v_12.Kind == 7)) : Option (Bool)).bind fun v_15 => cond v_15 ((cond ((vopen_6.length : Int) == 0) (some true) ((getI vopen_6 (IntKind.wrap .i64 ((vopen_6.length : Int) - 1))).bind fun v_17 => some ((v_17 == 6) != (v_12.Kind == 7))) : Option (Bool)).bind fun v_16 => cond v_16 (some (.inr false)) ((subL vopen_6 0 (IntKind.wrap .i64 ((vopen_6.length : Int) - 1))).bind fun v_18 => some (.inl v_18))) (some (.inl vopen_6))) : Option ((List Int) ⊕ Bool)).bind fun o => match o with | .inl vopen_10 => g_spec_l09Open_l0 body_1 k vopen_10 (IntKind.wrap .i64 (i_7 + 1)) | .inr v_11 => some (.inr v_11)) (some (.inl vopen_6))
def g_spec_l09Open (body_1 : List GOp) : Option ((List Int) × Bool) := ((g_spec_l09Open_l0 body_1 bigK ([] : List Int) 0).bind fun o => match o with | .inl vopen_8 => some (.inl vopen_8) | .inr v_9 => some (.inr v_9) : Option ((List Int) ⊕ Bool)).bind fun o => match o with | .inl vopen_4 => some (vopen_4, true) | .inr v_5 => some ([], v_5)
def g_spec_l13Defs_l1 (n_6 : Int) (v_10 : GDef) : Nat → Int → Option (Unit ⊕ Bool)
  | 0, _ => none
  | k + 1, k_14 => cond (decide (k_14 < (v_10.Body.length : Int))) (((getI v_10.Body k_14).bind fun v_17 => (g_spec_l09Op v_17).bind fun y_18 => cond (!y_18) (some true) ((getI v_10.Body k_14).bind fun v_19 => cond (v_19.Kind == 2) ((getI v_10.Body k_14).bind fun v_20 => some (decide ((IntKind.wrap .i64 v_20.N) ≥ n_6))) (some false)) : Option (Bool)).bind fun v_16 => cond v_16 (some (.inr false)) (g_spec_l13Defs_l1 n_6 v_10 k (IntKind.wrap .i64 (k_14 + 1)))) (some (.inl ()))
def g_spec_l13Defs_l0 (defs_1 : List GDef) (vopen_2 : Bool) (n_6 : Int) : Nat → Int → Option (Unit ⊕ Bool)
  | 0, _ => none
  | k + 1, i_7 => cond (decide (i_7 < n_6)) (((getI defs_1 i_7).bind fun v_10 => ((g_spec_NameOk v_10.Name).bind fun y_12 => cond (!y_12) (some true) (some (decide ((v_10.Body.length : Int) > 60))) : Option (Bool)).bind fun v_11 => cond v_11 (some (.inr false)) (((g_spec_l13Defs_l1 n_6 v_10 bigK 0).bind fun o => match o with | .inl () => some (.inl ()) | .inr v_15 => some (.inr v_15) : Option (Unit ⊕ Bool)).bind fun o => match o with | .inl () => (g_spec_l09Open v_10.Body).bind fun y_21 => (cond (!y_21.2) (some true) (cond (decide ((y_21.1.length : Int) > 0)) (cond (!vopen_2) (some true) (some (decide (i_7 < (IntKind.wrap .i64 (n_6 - 1)))))) (some false)) : Option (Bool)).bind fun v_22 => cond v_22 (some (.inr false)) (some (.inl ())) | .inr v_13 => some (.inr v_13)) : Option (Unit ⊕ Bool)).bind fun o => match o with | .inl () => g_spec_l13Defs_l0 defs_1 vopen_2 n_6 k (IntKind.wrap .i64 (i_7 + 1)) | .inr v_9 => some (.inr v_9)) (some (.inl ()))
def g_spec_l13Defs (defs_1 : List GDef) (vopen_2 : Bool) : Option Bool := (cond (decide ((defs_1.length : Int) > 24)) (some true) (cond vopen_2 (some ((defs_1.length : Int) == 0)) (some false)) : Option (Bool)).bind fun v_4 => cond v_4 (some false) (((g_spec_l13Defs_l0 defs_1 vopen_2 (defs_1.length : Int) bigK 0).bind fun o => match o with | .inl () => some (.inl ()) | .inr v_8 => some (.inr v_8) : Option (Unit ⊕ Bool)).bind fun o => match o with | .inl () => some true | .inr v_5 => some v_5)
def g_spec_l13Has_l0 (list_1 : List Int) (n_2 : Int) : Nat → Int → Option (Unit ⊕ Bool)
  | 0, _ => none
  | k + 1, i_5 => cond (decide (i_5 < (list_1.length : Int))) ((getI list_1 i_5).bind fun v_7 => cond (v_7 == n_2) (some (.inr true)) (g_spec_l13Has_l0 list_1 n_2 k (IntKind.wrap .i64 (i_5 + 1)))) (some (.inl ()))
def g_spec_l13Has (list_1 : List Int) (n_2 : Int) : Option Bool := ((g_spec_l13Has_l0 list_1 n_2 bigK 0).bind fun o => match o with | .inl () => some (.inl ()) | .inr v_6 => some (.inr v_6) : Option (Unit ⊕ Bool)).bind fun o => match o with | .inl () => some false | .inr v_4 => some v_4
def g_spec_WorldOk_l0 (w_1 : GWorld) : Nat → Int → Option (Unit ⊕ Bool)
  | 0, _ => none
  | k + 1, i_7 => cond (decide (i_7 < (w_1.Dict.length : Int))) (((getI w_1.Dict i_7).bind fun v_10 => (g_spec_l01In v_10.N 0 (IntKind.wrap .i64 ((w_1.Defs.length : Int) - 1))).bind fun y_11 => (cond v_10.Var ((g_spec_l13Has w_1.St.Vars v_10.N).bind fun y_13 => some y_13) (some y_11) : Option (Bool)).bind fun ok_12 => (cond (!ok_12) (some true) ((g_spec_NameOk v_10.Name).bind fun y_15 => some (!y_15)) : Option (Bool)).bind fun v_14 => cond v_14 (some (.inr false)) (some (.inl ())) : Option (Unit ⊕ Bool)).bind fun o => match o with | .inl () => g_spec_WorldOk_l0 w_1 k (IntKind.wrap .i64 (i_7 + 1)) | .inr v_9 => some (.inr v_9)) (some (.inl ()))
def g_spec_WorldOk (w_1 : GWorld) : Option Bool := ((g_spec_StOk w_1.St).bind fun y_4 => cond (!y_4) (some true) (cond (decide ((w_1.Dict.length : Int) > 40)) (some true) ((g_spec_l13Defs w_1.Defs w_1.Open).bind fun y_5 => some (!y_5))) : Option (Bool)).bind fun v_3 => cond v_3 (some false) (((g_spec_WorldOk_l0 w_1 bigK 0).bind fun o => match o with | .inl () => some (.inl ()) | .inr v_8 => some (.inr v_8) : Option (Unit ⊕ Bool)).bind fun o => match o with | .inl () => some true | .inr v_6 => some v_6)
def g_spec_l04Num (n_1 : Int) (hex_2 : Bool) (short_3 : Int) (long_4 : Int) : Option (List Int) := (cond hex_2 (some 16) (some 0) : Option (Int)).bind fun bit_6 => (cond (decide (n_1 ≥ (-67108864))) (some (decide (n_1 ≤ 67108863))) (some false) : Option (Bool)).bind fun v_7 => cond v_7 (some [IntKind.wrap .u32 ((IntKind.wrap .u32 ((IntKind.wrap .u32 ((IntKind.wrap .u32 n_1) * 32)) + bit_6)) + short_3)]) (some [IntKind.wrap .u32 (bit_6 + long_4), IntKind.wrap .u32 n_1])
def g_spec_WidthOf (k_1 : Int) : Option Int := (g_spec_l01In k_1 0 7).bind fun y_3 => cond y_3 (some 4) ((g_spec_l01In k_1 8 15).bind fun y_4 => cond y_4 (some 5) ((g_spec_l01In k_1 16 47).bind fun y_5 => cond y_5 (some 7) (some 0)))
def g_spec_BitsOf (k_1 : Int) : Option Int := (g_spec_WidthOf k_1).bind fun y_3 => cond (y_3 == 4) (some (IntKind.wrap .u32 k_1)) (cond (y_3 == 5) (some (IntKind.wrap .u32 (IntKind.wrap .i64 (k_1 + 8)))) (cond (y_3 == 7) (some (IntKind.wrap .u32 (IntKind.wrap .i64 (k_1 + 80)))) (some 0)))
def g_spec_l03One_l0 (s_1 : Bs) : Nat → Int → Int → Int → Option (Int × Int)
  | 0, _, _, _ => none
  | k + 1, f_6, left_7, n_8 => cond (decide (n_8 < (s_1.length : Int))) ((idxS s_1 n_8).bind fun v_11 => (g_spec_LetterOf v_11).bind fun y_12 => (g_spec_WidthOf y_12).bind fun y_13 => cond (decide (y_13 > left_7)) (some (f_6, n_8)) ((g_spec_BitsOf y_12).bind fun y_14 => (shlI .i64 (IntKind.wrap .i64 y_14) (IntKind.wrap .u64 (IntKind.wrap .i64 (left_7 - y_13)))).bind fun v_15 => g_spec_l03One_l0 s_1 k (IntKind.wrap .i64 (f_6 + v_15)) (IntKind.wrap .i64 (left_7 - y_13)) (IntKind.wrap .i64 (n_8 + 1)))) (some (f_6, n_8))
def g_spec_l03One (s_1 : Bs) : Option (Int × Int) := (g_spec_l03One_l0 s_1 bigK 0 28 0).bind fun (f_9, n_10) => some (IntKind.wrap .u32 f_9, n_10)
def g_spec_Pack_l0 : Nat → Bs → (List Int) → Option (List Int)
  | 0, _, _ => none
  | k + 1, s_4, out_5 => cond (s_4 != []) ((g_spec_l03One s_4).bind fun y_7 => (app out_5 [y_7.1]).bind fun v_8 => (subL s_4 y_7.2 (s_4.length : Int)).bind fun v_9 => g_spec_Pack_l0 k v_9 v_8) (some out_5)
def g_spec_Pack (s_1 : Bs) : Option (List Int) := (g_spec_NameOk s_1).bind fun y_3 => cond (!y_3) (some ([] : List Int)) ((g_spec_Pack_l0 bigK s_1 ([] : List Int)).bind fun out_6 => some out_6)
def g_spec_l04Word_l0 (tag_1 : Int) : Nat → (List Int) → Int → Option (List Int)
  | 0, _, _ => none
  | k + 1, out_6, i_7 => cond (decide (i_7 < (out_6.length : Int))) (((getI out_6 i_7).bind fun v_10 => (getI out_6 i_7).bind fun v_11 => cond (i_7 == 0) ((getI (out_6.set i_7.toNat (IntKind.wrap .u32 (v_10 * 16))) i_7).bind fun v_12 => (getI (out_6.set i_7.toNat (IntKind.wrap .u32 (v_10 * 16))) i_7).bind fun v_13 => some ((out_6.set i_7.toNat (IntKind.wrap .u32 (v_10 * 16))).set i_7.toNat (IntKind.wrap .u32 (v_12 + tag_1)))) (some (out_6.set i_7.toNat (IntKind.wrap .u32 (v_10 * 16)))) : Option ((List Int))).bind fun out_9 => g_spec_l04Word_l0 tag_1 k out_9 (IntKind.wrap .i64 (i_7 + 1))) (some out_6)
def g_spec_l04Word (tag_1 : Int) (name_2 : Bs) : Option (List Int) := (g_spec_Pack name_2).bind fun y_4 => ((g_spec_l04Word_l0 tag_1 bigK y_4 0).bind fun out_8 => some out_8 : Option ((List Int))).bind fun out_5 => some out_5
def g_spec_l04Tag (kind_1 : Int) : Option Int := cond (kind_1 == 1) (some 1) (cond (kind_1 == 2) (some 3) (cond (kind_1 == 3) (some 4) (cond (kind_1 == 4) (some 9) (cond (kind_1 == 5) (some 10) (cond (kind_1 == 6) (some 11) (some 0))))))
def g_spec_CellsOf (it_1 : GItem) : Option (List Int) := (cond (it_1.N == 0) (cond (!it_1.Hex) (some (it_1.Raw == 0)) (some false)) (some false) : Option (Bool)).bind fun plain_3 => (cond (it_1.Kind == 0) ((cond (it_1.Name == []) (cond (it_1.N == 0) (some (!it_1.Hex)) (some false)) (some false) : Option (Bool)).bind fun v_5 => cond v_5 (some (.inr [it_1.Raw])) (some (.inl ()))) (cond (it_1.Kind == 7) ((cond (it_1.Name == []) (some (it_1.Raw == 0)) (some false) : Option (Bool)).bind fun v_6 => cond v_6 ((g_spec_l04Num it_1.N it_1.Hex 8 2).bind fun y_7 => some (.inr y_7)) (some (.inl ()))) (cond (it_1.Kind == 8) ((cond (it_1.Name == []) (some (it_1.Raw == 0)) (some false) : Option (Bool)).bind fun v_8 => cond v_8 ((g_spec_l04Num it_1.N it_1.Hex 6 5).bind fun y_9 => some (.inr y_9)) (some (.inl ()))) (cond (it_1.Kind == 9) ((g_spec_l04Word 12 it_1.Name).bind fun y_10 => (cond ((y_10.length : Int) == 1) (cond (!it_1.Hex) (some (it_1.Raw == 0)) (some false)) (some false) : Option (Bool)).bind fun v_11 => cond v_11 ((app y_10 [IntKind.wrap .u32 it_1.N]).bind fun v_12 => some (.inr v_12)) (some (.inl ()))) ((g_spec_l04Tag it_1.Kind).bind fun y_13 => (cond (decide (y_13 > 0)) (some plain_3) (some false) : Option (Bool)).bind fun v_14 => cond v_14 ((g_spec_l04Word y_13 it_1.Name).bind fun y_15 => some (.inr y_15)) (some (.inl ())))))) : Option (Unit ⊕ (List Int))).bind fun o => match o with | .inl () => some ([] : List Int) | .inr v_4 => some v_4
def g_spec_ItemOk (it_1 : GItem) : Option Bool := (g_spec_CellsOf it_1).bind fun y_3 => some (decide ((y_3.length : Int) > 0))
def g_spec_l07All (e_1 : GEd) : Option (List GItem) := (cond (decide ((e_1.Left.length : Int) > 64)) (some true) (some (decide ((e_1.Right.length : Int) > 64))) : Option (Bool)).bind fun v_3 => cond v_3 ((mk ((⟨0, [], 0, false, 0⟩ : GItem) : GItem) 65).bind fun v_4 => some v_4) ((app ([] : List GItem) e_1.Left).bind fun v_5 => (app v_5 e_1.Right).bind fun v_6 => some v_6)
def g_spec_Unparse_l0 (list_1 : List GItem) : Nat → (List Int) → Int → Option ((List Int) ⊕ ((List Int) × Bool))
  | 0, _, _ => none
  | k + 1, out_7, i_8 => cond (decide (i_8 < (list_1.length : Int))) ((getI list_1 i_8).bind fun v_12 => (g_spec_CellsOf v_12).bind fun y_13 => (cond ((y_13.length : Int) == 0) (some true) (some (decide ((IntKind.wrap .i64 ((out_7.length : Int) + (y_13.length : Int))) > 64))) : Option (Bool)).bind fun v_14 => cond v_14 (some (.inr (([] : List Int), false))) ((app out_7 y_13).bind fun v_15 => g_spec_Unparse_l0 list_1 k v_15 (IntKind.wrap .i64 (i_8 + 1)))) (some (.inl out_7))
def g_spec_Unparse (list_1 : List GItem) : Option ((List Int) × Bool) := ((g_spec_Unparse_l0 list_1 bigK ([] : List Int) 0).bind fun o => match o with | .inl out_9 => some (.inl out_9) | .inr (v_10, v_11) => some (.inr (v_10, v_11)) : Option ((List Int) ⊕ ((List Int) × Bool))).bind fun o => match o with | .inl out_4 => some (out_4, true) | .inr (v_5, v_6) => some (v_5, v_6)
def g_spec_l04Kind_l0 (tag_1 : Int) : Nat → Int → Option (Unit ⊕ Int)
  | 0, _ => none
  | k + 1, k_4 => cond (decide (k_4 ≤ 6)) ((g_spec_l04Tag k_4).bind fun y_6 => cond (y_6 == tag_1) (some (.inr k_4)) (g_spec_l04Kind_l0 tag_1 k (IntKind.wrap .i64 (k_4 + 1)))) (some (.inl ()))
def g_spec_l04Kind (tag_1 : Int) : Option Int := ((g_spec_l04Kind_l0 tag_1 bigK 1).bind fun o => match o with | .inl () => some (.inl ()) | .inr v_5 => some (.inr v_5) : Option (Unit ⊕ Int)).bind fun o => match o with | .inl () => some (-1) | .inr v_3 => some v_3
def g_spec_Decode_l0 (bits_1 : Int) (n_2 : Int) : Nat → Int → Option (Unit ⊕ (Int × Int))
  | 0, _ => none
  | k + 1, k_8 => cond (decide (k_8 < 48)) (((g_spec_WidthOf k_8).bind fun y_13 => cond (decide (y_13 > n_2)) (some (.inl ())) ((shlI .i64 1 (IntKind.wrap .u64 n_2)).bind fun v_14 => (shrI .i64 (andI .i64 (IntKind.wrap .i64 bits_1) (IntKind.wrap .i64 (v_14 - 1))) (IntKind.wrap .u64 (IntKind.wrap .i64 (n_2 - y_13)))).bind fun v_15 => (g_spec_BitsOf k_8).bind fun y_16 => cond (v_15 == (IntKind.wrap .i64 y_16)) (some (.inr (k_8, y_13))) (some (.inl ()))) : Option (Unit ⊕ (Int × Int))).bind fun o => match o with | .inl () => g_spec_Decode_l0 bits_1 n_2 k (IntKind.wrap .i64 (k_8 + 1)) | .inr (v_11, v_12) => some (.inr (v_11, v_12))) (some (.inl ()))
def g_spec_Decode (bits_1 : Int) (n_2 : Int) : Option (Int × Int) := (g_spec_l01In n_2 1 32).bind fun y_5 => cond (!y_5) (some ((-1), 0)) (((g_spec_Decode_l0 bits_1 n_2 bigK 0).bind fun o => match o with | .inl () => some (.inl ()) | .inr (v_9, v_10) => some (.inr (v_9, v_10)) : Option (Unit ⊕ (Int × Int))).bind fun o => match o with | .inl () => some ((-1), 0) | .inr (v_6, v_7) => some (v_6, v_7))
def g_spec_LetterAt (k_1 : Int) : Option Int := (g_spec_l01In k_1 0 47).bind fun y_3 => cond (!y_3) (some 0) ((g_spec_l02All).bind fun y_4 => (idxS y_4 k_1).bind fun v_5 => some v_5)
def g_spec_UnpackOne_l0 (f_1 : Int) : Nat → (List Int) → Int → Option (List Int)
  | 0, _, _ => none
  | k + 1, out_4, left_5 => (cond (decide (left_5 > 0)) ((shlI .i64 1 (IntKind.wrap .u64 left_5)).bind fun v_8 => some ((andI .i64 (IntKind.wrap .i64 f_1) (IntKind.wrap .i64 (v_8 - 1))) != 0)) (some false) : Option (Bool)).bind fun v_7 => cond v_7 ((g_spec_Decode f_1 left_5).bind fun y_9 => cond (decide (y_9.1 < 1)) (some out_4) ((g_spec_LetterAt y_9.1).bind fun y_10 => (app out_4 [y_10]).bind fun v_11 => g_spec_UnpackOne_l0 f_1 k v_11 (IntKind.wrap .i64 (left_5 - y_9.2)))) (some out_4)
def g_spec_UnpackOne (f_1 : Int) : Option Bs := cond (decide ((IntKind.wrap .i64 f_1) ≥ 268435456)) (some []) ((g_spec_UnpackOne_l0 f_1 bigK ([] : List Int) 28).bind fun out_6 => some (strOf out_6))
def g_spec_l03Same_l0 (a_1 : List Int) (b_2 : List Int) : Nat → Int → Option (Unit ⊕ Bool)
  | 0, _ => none
  | k + 1, i_5 => cond (decide (i_5 < (a_1.length : Int))) ((getI a_1 i_5).bind fun v_7 => (getI b_2 i_5).bind fun v_8 => cond (v_7 != v_8) (some (.inr false)) (g_spec_l03Same_l0 a_1 b_2 k (IntKind.wrap .i64 (i_5 + 1)))) (some (.inl ()))
def g_spec_l03Same (a_1 : List Int) (b_2 : List Int) : Option Bool := cond ((a_1.length : Int) != (b_2.length : Int)) (some false) (((g_spec_l03Same_l0 a_1 b_2 bigK 0).bind fun o => match o with | .inl () => some (.inl ()) | .inr v_6 => some (.inr v_6) : Option (Unit ⊕ Bool)).bind fun o => match o with | .inl () => some true | .inr v_4 => some v_4)
def g_spec_Unpack_l0 (list_1 : List Int) : Nat → Bs → Int → Option Bs
  | 0, _, _ => none
  | k + 1, s_7, i_8 => cond (decide (i_8 < (list_1.length : Int))) ((getI list_1 i_8).bind fun v_10 => (g_spec_UnpackOne v_10).bind fun y_11 => (catS s_7 y_11).bind fun v_12 => g_spec_Unpack_l0 list_1 k v_12 (IntKind.wrap .i64 (i_8 + 1))) (some s_7)
def g_spec_Unpack (list_1 : List Int) : Option (Bs × Bool) := cond (decide ((list_1.length : Int) > 24)) (some ([], false)) (((g_spec_Unpack_l0 list_1 bigK [] 0).bind fun s_9 => some s_9 : Option (Bs)).bind fun s_4 => ((g_spec_NameOk s_4).bind fun y_14 => cond (!y_14) (some true) ((g_spec_Pack s_4).bind fun y_15 => (g_spec_l03Same y_15 list_1).bind fun y_16 => some (!y_16)) : Option (Bool)).bind fun v_13 => cond v_13 (some ([], false)) (some (s_4, true)))
def g_spec_l04Name_l0 (cells_1 : List Int) : Nat → (List Int) → Int → Option (List Int)
  | 0, _, _ => none
  | k + 1, fields_10, k_11 => (cond (decide (k_11 < (cells_1.length : Int))) ((getI cells_1 k_11).bind fun v_14 => cond ((Int.tmod v_14 16) == 0) ((getI cells_1 k_11).bind fun v_15 => some (v_15 != 0)) (some false)) (some false) : Option (Bool)).bind fun v_13 => cond v_13 ((getI cells_1 k_11).bind fun v_16 => (app fields_10 [IntKind.wrap .u32 (Int.tdiv v_16 16)]).bind fun v_17 => g_spec_l04Name_l0 cells_1 k v_17 (IntKind.wrap .i64 (k_11 + 1))) (some fields_10)
def g_spec_l04Name (cells_1 : List Int) (i_2 : Int) (kind_3 : Int) : Option (GItem × Int) := (getI cells_1 i_2).bind fun v_6 => ((g_spec_l04Name_l0 cells_1 bigK [IntKind.wrap .u32 (Int.tdiv v_6 16)] (IntKind.wrap .i64 (i_2 + 1))).bind fun fields_12 => some fields_12 : Option ((List Int))).bind fun fields_7 => (g_spec_Unpack fields_7).bind fun y_18 => cond (!y_18.2) (some ((⟨0, [], 0, false, 0⟩ : GItem), 0)) (some ((⟨kind_3, y_18.1, 0, false, 0⟩ : GItem), (fields_7.length : Int)))
def g_spec_l04Number (cells_1 : List Int) (i_2 : Int) : Option (GItem × Int) := (getI cells_1 i_2).bind fun v_5 => ((cond ((Int.tmod v_5 16) == 6) (some true) (some ((Int.tmod v_5 16) == 5)) : Option (Bool)).bind fun v_7 => cond v_7 (some (⟨8, [], 0, ((andI .u32 v_5 16) != 0), 0⟩ : GItem)) (some (⟨7, [], 0, ((andI .u32 v_5 16) != 0), 0⟩ : GItem)) : Option (GItem)).bind fun x_6 => (cond ((Int.tmod v_5 16) == 8) (some true) (some ((Int.tmod v_5 16) == 6)) : Option (Bool)).bind fun v_8 => cond v_8 (some ((⟨x_6.Kind, x_6.Name, (IntKind.wrap .i32 v_5) / 32, x_6.Hex, x_6.Raw⟩ : GItem), 1)) ((cond (decide ((IntKind.wrap .i64 (i_2 + 1)) ≥ (cells_1.length : Int))) (some true) (some ((IntKind.wrap .u32 (Int.tdiv v_5 32)) != 0)) : Option (Bool)).bind fun v_9 => cond v_9 (some ((⟨0, [], 0, false, 0⟩ : GItem), 0)) ((getI cells_1 (IntKind.wrap .i64 (i_2 + 1))).bind fun v_10 => (g_spec_CellsOf (⟨x_6.Kind, x_6.Name, IntKind.wrap .i32 v_10, x_6.Hex, x_6.Raw⟩ : GItem)).bind fun y_11 => some ((⟨x_6.Kind, x_6.Name, IntKind.wrap .i32 v_10, x_6.Hex, x_6.Raw⟩ : GItem), IntKind.wrap .i64 ((IntKind.wrap .i64 (Int.tdiv (y_11.length : Int) 2)) * 2))))
def g_spec_FieldOk (f_1 : Int) : Option Bool := (g_spec_UnpackOne f_1).bind fun y_3 => (g_spec_Pack y_3).bind fun y_4 => cond ((y_4.length : Int) == 1) ((getI y_4 0).bind fun v_5 => some (v_5 == f_1)) (some false)
def g_spec_l04Item (cells_1 : List Int) (i_2 : Int) : Option (GItem × Int) := (getI cells_1 i_2).bind fun v_5 => ((g_spec_l04Kind (Int.tmod v_5 16)).bind fun y_8 => cond (decide (y_8 ≥ 0)) ((g_spec_l04Kind (Int.tmod v_5 16)).bind fun y_9 => (g_spec_l04Name cells_1 i_2 y_9).bind fun y_10 => some (y_10.2, y_10.1)) ((cond ((Int.tmod v_5 16) == 8) (some true) (cond ((Int.tmod v_5 16) == 6) (some true) (cond ((Int.tmod v_5 16) == 2) (some true) (some ((Int.tmod v_5 16) == 5)))) : Option (Bool)).bind fun v_11 => cond v_11 ((g_spec_l04Number cells_1 i_2).bind fun y_12 => some (y_12.2, y_12.1)) ((cond ((Int.tmod v_5 16) == 12) (cond (decide ((IntKind.wrap .i64 (i_2 + 1)) < (cells_1.length : Int))) ((getI cells_1 i_2).bind fun v_14 => (g_spec_FieldOk (IntKind.wrap .u32 (Int.tdiv v_14 16))).bind fun y_15 => some y_15) (some false)) (some false) : Option (Bool)).bind fun v_13 => cond v_13 ((getI cells_1 i_2).bind fun v_16 => (g_spec_UnpackOne (IntKind.wrap .u32 (Int.tdiv v_16 16))).bind fun y_17 => (getI cells_1 (IntKind.wrap .i64 (i_2 + 1))).bind fun v_18 => some (2, (⟨9, y_17, IntKind.wrap .i32 v_18, false, 0⟩ : GItem))) (some (0, (⟨0, [], 0, false, 0⟩ : GItem))))) : Option ((Int × GItem))).bind fun (n_6, x_7) => cond (n_6 == 0) ((getI cells_1 i_2).bind fun v_19 => some ((⟨0, [], 0, false, v_19⟩ : GItem), 1)) (some (x_7, n_6))
def g_spec_ParseCells_l0 (cells_1 : List Int) : Nat → (List GItem) → Int → Option (List GItem)
  | 0, _, _ => none
  | k + 1, out_4, i_5 => cond (decide (i_5 < (cells_1.length : Int))) ((g_spec_l04Item cells_1 i_5).bind fun y_7 => (app out_4 [y_7.1]).bind fun v_8 => g_spec_ParseCells_l0 cells_1 k v_8 (IntKind.wrap .i64 (i_5 + y_7.2))) (some out_4)
def g_spec_ParseCells_l1 : Nat → (List GItem) → Option (List GItem)
  | 0, _ => none
  | k + 1, out_9 => (cond (decide ((out_9.length : Int) > 0)) ((getI out_9 (IntKind.wrap .i64 ((out_9.length : Int) - 1))).bind fun v_12 => some ((v_12.Kind : Int) == 0 && ((v_12.Name : Bs) == [] && ((v_12.N : Int) == 0 && ((v_12.Hex : Bool) == false && ((v_12.Raw : Int) == 0 && true)))))) (some false) : Option (Bool)).bind fun v_11 => cond v_11 ((subL out_9 0 (IntKind.wrap .i64 ((out_9.length : Int) - 1))).bind fun v_13 => g_spec_ParseCells_l1 k v_13) (some out_9)
def g_spec_ParseCells (cells_1 : List Int) : Option (List GItem) := cond (decide ((cells_1.length : Int) > 64)) (some ([] : List GItem)) (((g_spec_ParseCells_l0 cells_1 bigK ([] : List GItem) 0).bind fun out_6 => some out_6 : Option ((List GItem))).bind fun out_3 => (g_spec_ParseCells_l1 bigK out_3).bind fun out_10 => some out_10)
def g_spec_l04Same_l0 (a_1 : List GItem) (b_2 : List GItem) : Nat → Int → Option (Unit ⊕ Bool)
  | 0, _ => none
  | k + 1, i_5 => cond (decide (i_5 < (a_1.length : Int))) ((getI a_1 i_5).bind fun v_7 => (getI b_2 i_5).bind fun v_8 => cond (!((v_7.Kind : Int) == v_8.Kind && ((v_7.Name : Bs) == v_8.Name && ((v_7.N : Int) == v_8.N && ((v_7.Hex : Bool) == v_8.Hex && ((v_7.Raw : Int) == v_8.Raw && true)))))) (some (.inr false)) (g_spec_l04Same_l0 a_1 b_2 k (IntKind.wrap .i64 (i_5 + 1)))) (some (.inl ()))
def g_spec_l04Same (a_1 : List GItem) (b_2 : List GItem) : Option Bool := cond ((a_1.length : Int) != (b_2.length : Int)) (some false) (((g_spec_l04Same_l0 a_1 b_2 bigK 0).bind fun o => match o with | .inl () => some (.inl ()) | .inr v_6 => some (.inr v_6) : Option (Unit ⊕ Bool)).bind fun o => match o with | .inl () => some true | .inr v_4 => some v_4)
def g_spec_ListOk (list_1 : List GItem) : Option Bool := (g_spec_Unparse list_1).bind fun y_3 => cond y_3.2 ((g_spec_ParseCells y_3.1).bind fun y_4 => (g_spec_l04Same y_4 list_1).bind fun y_5 => some y_5) (some false)
def g_spec_EdOk_l0 (e_1 : GEd) : Nat → Int → Option (Unit ⊕ Bool)
  | 0, _ => none
  | k + 1, i_4 => cond (decide (i_4 < (e_1.Cut.length : Int))) ((getI e_1.Cut i_4).bind fun v_6 => (g_spec_ItemOk v_6).bind fun y_7 => cond (!y_7) (some (.inr false)) (g_spec_EdOk_l0 e_1 k (IntKind.wrap .i64 (i_4 + 1)))) (some (.inl ()))
def g_spec_EdOk (e_1 : GEd) : Option Bool := cond (decide ((e_1.Cut.length : Int) > 20)) (some false) (((g_spec_EdOk_l0 e_1 bigK 0).bind fun o => match o with | .inl () => some (.inl ()) | .inr v_5 => some (.inr v_5) : Option (Unit ⊕ Bool)).bind fun o => match o with | .inl () => (g_spec_l07All e_1).bind fun y_8 => (g_spec_ListOk y_8).bind fun y_9 => some y_9 | .inr v_3 => some v_3)
def g_spec_l18NoEd (e_1 : GEd) : Option Bool := cond ((e_1.Left.length : Int) == 0) (cond ((e_1.Right.length : Int) == 0) (some ((e_1.Cut.length : Int) == 0)) (some false)) (some false)
def g_spec_SessionOk (s_1 : GSession) : Option Bool := ((g_spec_WorldOk s_1.World).bind fun y_4 => cond (!y_4) (some true) ((g_spec_EdOk s_1.Ed).bind fun y_5 => some (!y_5)) : Option (Bool)).bind fun v_3 => cond v_3 (some false) (cond (s_1.Block == (-1)) ((g_spec_l18NoEd s_1.Ed).bind fun y_6 => some y_6) ((g_spec_l01In s_1.Block 0 (IntKind.wrap .i64 ((IntKind.wrap .i64 (Int.tdiv (s_1.World.St.Cells.length : Int) 64)) - 1))).bind fun y_7 => some y_7))
def g_impl_StoreOk (s_1 : GStore) : Option Bool := cond ((Int.tmod (s_1.Cells.length : Int) 64) == 0) (some (decide ((s_1.Cells.length : Int) ≤ 768))) (some false)
def g_impl_within (n_1 : Int) (low_2 : Int) (high_3 : Int) : Option Bool := cond (decide (low_2 ≤ n_1)) (some (decide (n_1 ≤ high_3))) (some false)
def g_slices_Index_int_l0 (s_1 : List Int) (v_2 : Int) (v_5 : Int) : Nat → Int → Option (Unit ⊕ Int)
  | 0, _ => none
  | k + 1, v_6 => cond (decide (v_6 < v_5)) ((getI s_1 v_6).bind fun v_8 => cond (v_2 == v_8) (some (.inr v_6)) (g_slices_Index_int_l0 s_1 v_2 v_5 k (IntKind.wrap .i64 (v_6 + 1)))) (some (.inl ()))
def g_slices_Index_int (s_1 : List Int) (v_2 : Int) : Option Int := ((g_slices_Index_int_l0 s_1 v_2 (s_1.length : Int) bigK 0).bind fun o => match o with | .inl () => some (.inl ()) | .inr v_7 => some (.inr v_7) : Option (Unit ⊕ Int)).bind fun o => match o with | .inl () => some (-1) | .inr v_4 => some v_4
def g_slices_Contains_int (s_1 : List Int) (v_2 : Int) : Option Bool := (g_slices_Index_int s_1 v_2).bind fun y_4 => some (decide (y_4 ≥ 0))
def g_impl_StOk_l0 (v_6 : List GOp) (v_7 : Int) : Nat → Int → Option (Unit ⊕ Bool)
  | 0, _ => none
  | k + 1, v_8 => cond (decide (v_8 < v_7)) ((getI v_6 v_8).bind fun v_10 => (g_impl_within v_10.Kind 0 2).bind fun y_11 => cond (!y_11) (some (.inr false)) (g_impl_StOk_l0 v_6 v_7 k (IntKind.wrap .i64 (v_8 + 1)))) (some (.inl ()))
def g_impl_StOk_l1 (v_13 : List Int) (v_14 : Int) (st_1 : GSt) : Nat → Int → Option (Unit ⊕ Bool)
  | 0, _ => none
  | k + 1, v_15 => cond (decide (v_15 < v_14)) ((getI v_13 v_15).bind fun v_17 => ((g_impl_within v_17 0 (IntKind.wrap .i64 ((st_1.Cells.length : Int) - 1))).bind fun y_19 => cond (!y_19) (some true) ((subL st_1.Vars 0 v_15).bind fun v_20 => (g_slices_Contains_int v_20 v_17).bind fun y_21 => some y_21) : Option (Bool)).bind fun v_18 => cond v_18 (some (.inr false)) (g_impl_StOk_l1 v_13 v_14 st_1 k (IntKind.wrap .i64 (v_15 + 1)))) (some (.inl ()))
def g_impl_StOk (st_1 : GSt) : Option Bool := (cond (decide ((st_1.Data.length : Int) > 16)) (some true) (cond (decide ((st_1.Ret.length : Int) > 24)) (some true) (cond ((st_1.Mem.length : Int) != 32) (some true) ((g_impl_StoreOk (⟨st_1.Cells⟩ : GStore)).bind fun y_4 => cond (!y_4) (some true) (some (decide ((st_1.Vars.length : Int) > 20)))))) : Option (Bool)).bind fun v_3 => cond v_3 (some false) (((g_impl_StOk_l0 st_1.Ret (st_1.Ret.length : Int) bigK 0).bind fun o => match o with | .inl () => some (.inl ()) | .inr v_9 => some (.inr v_9) : Option (Unit ⊕ Bool)).bind fun o => match o with | .inl () => (((g_impl_StOk_l1 st_1.Vars (st_1.Vars.length : Int) st_1 bigK 0).bind fun o => match o with | .inl () => some (.inl ()) | .inr v_16 => some (.inr v_16) : Option (Unit ⊕ Bool)).bind fun o => match o with | .inl () => cond (decide ((st_1.Out.length : Int) ≤ 400)) (cond (decide ((st_1.In.length : Int) ≤ 100)) ((g_impl_within st_1.Fault 0 13).bind fun y_22 => cond y_22 ((g_impl_within st_1.Fuel 0 4000).bind fun y_23 => some y_23) (some false)) (some false)) (some false) | .inr v_12 => some v_12) | .inr v_5 => some v_5)
def g_strings_Fields_l0 (s_1 : Bs) : Nat → Int → Int → Int → Int → Option (Int × Int)
  | 0, _, _, _, _ => none
  | k + 1, n_5, wasSpace_6, setBits_7, i_8 => cond (decide (i_8 < (s_1.length : Int))) ((idxS s_1 i_8).bind fun v_11 => (getI gtAscii v_11).bind fun v_12 => g_strings_Fields_l0 s_1 k (IntKind.wrap .i64 (n_5 + (andI .i64 wasSpace_6 (notI .i64 (IntKind.wrap .i64 v_12))))) (IntKind.wrap .i64 v_12) (orI .u8 setBits_7 v_11) (IntKind.wrap .i64 (i_8 + 1))) (some (n_5, setBits_7))
def g_strings_Fields_l1 (s_1 : Bs) : Nat → Int → Option Int
  | 0, _ => none
  | k + 1, i_15 => (cond (decide (i_15 < (s_1.length : Int))) ((idxS s_1 i_15).bind fun v_18 => (getI gtAscii v_18).bind fun v_19 => some (v_19 != 0)) (some false) : Option (Bool)).bind fun v_17 => cond v_17 (g_strings_Fields_l1 s_1 k (IntKind.wrap .i64 (i_15 + 1))) (some i_15)
def g_strings_Fields_l3 (s_1 : Bs) : Nat → Int → Option Int
  | 0, _ => none
  | k + 1, i_33 => (cond (decide (i_33 < (s_1.length : Int))) ((idxS s_1 i_33).bind fun v_36 => (getI gtAscii v_36).bind fun v_37 => some (v_37 != 0)) (some false) : Option (Bool)).bind fun v_35 => cond v_35 (g_strings_Fields_l3 s_1 k (IntKind.wrap .i64 (i_33 + 1))) (some i_33)
def g_strings_Fields_l2 (s_1 : Bs) : Nat → (List Bs) → Int → Int → Int → Option ((List Bs) × Int × Int)
  | 0, _, _, _, _ => none
  | k + 1, a_20, na_21, fieldStart_22, i_23 => cond (decide (i_23 < (s_1.length : Int))) ((idxS s_1 i_23).bind fun v_27 => (getI gtAscii v_27).bind fun v_28 => cond (v_28 == 0) (g_strings_Fields_l2 s_1 k a_20 na_21 fieldStart_22 (IntKind.wrap .i64 (i_23 + 1))) ((subL s_1 fieldStart_22 i_23).bind fun v_29 => (getI a_20 na_21).bind fun v_30 => (g_strings_Fields_l3 s_1 bigK (IntKind.wrap .i64 (i_23 + 1))).bind fun i_34 => g_strings_Fields_l2 s_1 k (a_20.set na_21.toNat v_29) (IntKind.wrap .i64 (na_21 + 1)) i_34 i_34)) (some (a_20, na_21, fieldStart_22))
def g_strings_Fields (s_1 : Bs) : Option (List Bs) := ((g_strings_Fields_l0 s_1 bigK 0 1 0 0).bind fun (n_9, setBits_10) => some (n_9, setBits_10) : Option ((Int × Int))).bind fun (n_3, setBits_4) => cond (decide (setBits_4 ≥ 128)) (none) ((mk ([] : Bs) n_3).bind fun v_13 => (g_strings_Fields_l1 s_1 bigK 0).bind fun i_16 => (g_strings_Fields_l2 s_1 bigK v_13 0 i_16 i_16).bind fun (a_24, na_25, fieldStart_26) => (cond (decide (fieldStart_26 < (s_1.length : Int))) ((subL s_1 fieldStart_26 (s_1.length : Int)).bind fun v_39 => (getI a_24 na_25).bind fun v_40 => some (a_24.set na_25.toNat v_39)) (some a_24) : Option ((List Bs))).bind fun a_38 => some a_38)
def g_impl_prims : Option (List Bs) := (g_strings_Fields [100, 117, 112, 32, 100, 114, 111, 112, 32, 111, 118, 101, 114, 32, 110, 105, 112, 32, 115, 119, 97, 112, 32, 43, 32, 45, 32, 42, 32, 97, 110, 100, 32, 111, 114, 32, 50, 42, 32, 50, 47, 32, 47, 109, 111, 100, 32, 64, 32, 33, 32, 97, 32, 97, 33, 32, 101, 109, 105, 116, 32, 107, 101, 121, 32, 112, 117, 115, 104, 32, 112, 111, 112, 32, 105, 32, 46, 32, 110, 111, 112]).bind fun y_2 => some y_2
def g_impl_PrimName (k_1 : Int) : Option Bs := (g_impl_prims).bind fun y_3 => (g_impl_within k_1 0 (IntKind.wrap .i64 ((y_3.length : Int) - 1))).bind fun y_4 => cond y_4 ((getI y_3 k_1).bind fun v_5 => some v_5) (some [])
def g_impl_opOk (o_1 : GOp) : Option Bool := cond (o_1.Kind == 0) (some true) (cond (o_1.Kind == 1) ((g_impl_PrimName (IntKind.wrap .i64 o_1.N)).bind fun y_3 => some (y_3 != [])) (cond (o_1.Kind == 2) ((g_impl_within (IntKind.wrap .i64 o_1.N) 0 23).bind fun y_4 => some y_4) ((g_impl_within o_1.Kind 3 8).bind fun y_5 => cond y_5 (some (o_1.N == 0)) (some false))))
def g_impl_openIn_l0 (v_7 : List GOp) (v_8 : Int) : Nat → (List Int) → Int → Option ((List Int) ⊕ ((List Int) × Bool))
  | 0, _, _ => none
  | k + 1, vopen_9, v_10 => cond (decide (v_10 < v_8)) (((getI v_7 v_10).bind fun v_17 => (g_impl_opOk v_17).bind fun y_18 => cond (!y_18) (some (.inr ([], false))) ((cond (v_17.Kind == 3) (some true) (cond (v_17.Kind == 4) (some true) (some (v_17.Kind == 6))) : Option (Bool)).bind fun v_19 => cond v_19 ((app vopen_9 [v_17.Kind]).bind fun v_20 => some (.inl v_20)) ((cond (v_17.Kind == 5) (some true) (some (v_17.Kind == 7)) : Option (Bool)).bind fun v_21 => cond v_21 ((cond (decide ((IntKind.wrap .i64 ((vopen_9.length : Int) - 1)) < 0)) (some true) ((getI vopen_9 (IntKind.wrap .i64 ((vopen_9.length : Int) - 1))).bind fun v_23 => some ((v_23 == 6) != (v_17.Kind == 7))) : Option (Bool)).bind fun v_22 => cond v_22 (some (.inr ([], false))) ((subL vopen_9 0 (IntKind.wrap .i64 ((vopen_9.length : Int) - 1))).bind fun v_24 => some (.inl v_24))) (some (.inl vopen_9)))) : Option ((List Int) ⊕ ((List Int) × Bool))).bind fun o => match o with | .inl vopen_14 => g_impl_openIn_l0 v_7 v_8 k vopen_14 (IntKind.wrap .i64 (v_10 + 1)) | .inr (v_15, v_16) => some (.inr (v_15, v_16))) (some (.inl vopen_9))
def g_impl_openIn (body_1 : List GOp) : Option ((List Int) × Bool) := ((g_impl_openIn_l0 body_1 (body_1.length : Int) bigK ([] : List Int) 0).bind fun o => match o with | .inl vopen_11 => some (.inl vopen_11) | .inr (v_12, v_13) => some (.inr (v_12, v_13)) : Option ((List Int) ⊕ ((List Int) × Bool))).bind fun o => match o with | .inl vopen_4 => some (vopen_4, decide ((body_1.length : Int) ≤ 60)) | .inr (v_5, v_6) => some (v_5, v_6)
def g_impl_letters : Option Bs := some [32, 114, 116, 111, 101, 97, 110, 105, 115, 109, 99, 121, 108, 103, 102, 119, 100, 118, 112, 98, 104, 120, 117, 113, 48, 49, 50, 51, 52, 53, 54, 55, 56, 57, 106, 45, 107, 46, 122, 47, 59, 39, 33, 43, 64, 42, 44, 63]
def g_ibytealg_IndexByteString (s_1 : Bs) (c_2 : Int) : Option Int := gIdxB s_1 c_2
def g_istringslite_IndexByte (s_1 : Bs) (c_2 : Int) : Option Int := (g_ibytealg_IndexByteString s_1 c_2).bind fun y_4 => some y_4
def g_strings_IndexByte (s_1 : Bs) (c_2 : Int) : Option Int := (g_istringslite_IndexByte s_1 c_2).bind fun y_4 => some y_4
def g_impl_LetterOf (b_1 : Int) : Option Int := (g_impl_letters).bind fun y_3 => (g_strings_IndexByte y_3 b_1).bind fun y_4 => some y_4
def g_impl_NameOk_l0 (s_1 : Bs) (v_4 : Int) : Nat → Int → Option (Unit ⊕ Bool)
  | 0, _ => none
  | k + 1, v_5 => cond (decide (v_5 < v_4)) ((idxS s_1 v_5).bind fun v_7 => (g_impl_LetterOf v_7).bind fun y_8 => cond (decide (y_8 < 1)) (some (.inr false)) (g_impl_NameOk_l0 s_1 v_4 k (IntKind.wrap .i64 (v_5 + 1)))) (some (.inl ()))
def g_impl_NameOk (s_1 : Bs) : Option Bool := ((g_impl_NameOk_l0 s_1 (s_1.length : Int) bigK 0).bind fun o => match o with | .inl () => some (.inl ()) | .inr v_6 => some (.inr v_6) : Option (Unit ⊕ Bool)).bind fun o => match o with | .inl () => (g_impl_within (s_1.length : Int) 1 24).bind fun y_9 => some y_9 | .inr v_3 => some v_3
def g_impl_callsBelowc1 (o_1 : GOp) (a_2 : Int) : Option Bool := cond (o_1.Kind == 2) (some (decide ((IntKind.wrap .i64 o_1.N) ≥ a_2))) (some false)
def g_slices_IndexFunc_Op_impl_callsBelowc1_l0 (s_1 : List GOp) (v_5 : Int) (c_2 : Int) : Nat → Int → Option (Unit ⊕ Int)
  | 0, _ => none
  | k + 1, v_6 => cond (decide (v_6 < v_5)) ((getI s_1 v_6).bind fun v_8 => (g_impl_callsBelowc1 v_8 c_2).bind fun y_9 => cond y_9 (some (.inr v_6)) (g_slices_IndexFunc_Op_impl_callsBelowc1_l0 s_1 v_5 c_2 k (IntKind.wrap .i64 (v_6 + 1)))) (some (.inl ()))
def g_slices_IndexFunc_Op_impl_callsBelowc1 (s_1 : List GOp) (c_2 : Int) : Option Int := ((g_slices_IndexFunc_Op_impl_callsBelowc1_l0 s_1 (s_1.length : Int) c_2 bigK 0).bind fun o => match o with | .inl () => some (.inl ()) | .inr v_7 => some (.inr v_7) : Option (Unit ⊕ Int)).bind fun o => match o with | .inl () => some (-1) | .inr v_4 => some v_4
def g_slices_ContainsFunc_Op_impl_callsBelowc1 (s_1 : List GOp) (c_2 : Int) : Option Bool := (g_slices_IndexFunc_Op_impl_callsBelowc1 s_1 c_2).bind fun y_4 => some (decide (y_4 ≥ 0))
def g_impl_callsBelow (body_1 : List GOp) (n_2 : Int) : Option Bool := (g_slices_ContainsFunc_Op_impl_callsBelowc1 body_1 n_2).bind fun y_4 => some (!y_4)
def g_impl_WorldOk_l0 (v_6 : List GDef) (v_7 : Int) (w_1 : GWorld) : Nat → Int → Option (Unit ⊕ Bool)
  | 0, _ => none
  | k + 1, v_8 => cond (decide (v_8 < v_7)) ((getI v_6 v_8).bind fun v_10 => (g_impl_openIn v_10.Body).bind fun y_11 => (cond (!y_11.2) (some true) ((g_impl_NameOk v_10.Name).bind fun y_13 => cond (!y_13) (some true) ((g_impl_callsBelow v_10.Body (w_1.Defs.length : Int)).bind fun y_14 => cond (!y_14) (some true) (cond (decide ((y_11.1.length : Int) > 0)) (cond w_1.Open (some (!(v_8 == (IntKind.wrap .i64 ((w_1.Defs.length : Int) - 1))))) (some true)) (some false)))) : Option (Bool)).bind fun v_12 => cond v_12 (some (.inr false)) (g_impl_WorldOk_l0 v_6 v_7 w_1 k (IntKind.wrap .i64 (v_8 + 1)))) (some (.inl ()))
def g_impl_WorldOk_l1 (v_16 : List GEntry) (v_17 : Int) (w_1 : GWorld) : Nat → Int → Option (Unit ⊕ Bool)
  | 0, _ => none
  | k + 1, v_18 => cond (decide (v_18 < v_17)) (((getI v_16 v_18).bind fun v_21 => (g_impl_within v_21.N 0 (IntKind.wrap .i64 ((w_1.Defs.length : Int) - 1))).bind fun y_22 => (cond v_21.Var ((g_slices_Contains_int w_1.St.Vars v_21.N).bind fun y_24 => some y_24) (some y_22) : Option (Bool)).bind fun fine_23 => (cond (!fine_23) (some true) ((g_impl_NameOk v_21.Name).bind fun y_26 => some (!y_26)) : Option (Bool)).bind fun v_25 => cond v_25 (some (.inr false)) (some (.inl ())) : Option (Unit ⊕ Bool)).bind fun o => match o with | .inl () => g_impl_WorldOk_l1 v_16 v_17 w_1 k (IntKind.wrap .i64 (v_18 + 1)) | .inr v_20 => some (.inr v_20)) (some (.inl ()))
def g_impl_WorldOk (w_1 : GWorld) : Option Bool := ((g_impl_StOk w_1.St).bind fun y_4 => cond (!y_4) (some true) (cond (decide ((w_1.Defs.length : Int) > 24)) (some true) (cond (decide ((w_1.Dict.length : Int) > 40)) (some true) (cond w_1.Open (some ((w_1.Defs.length : Int) == 0)) (some false)))) : Option (Bool)).bind fun v_3 => cond v_3 (some false) (((g_impl_WorldOk_l0 w_1.Defs (w_1.Defs.length : Int) w_1 bigK 0).bind fun o => match o with | .inl () => some (.inl ()) | .inr v_9 => some (.inr v_9) : Option (Unit ⊕ Bool)).bind fun o => match o with | .inl () => (((g_impl_WorldOk_l1 w_1.Dict (w_1.Dict.length : Int) w_1 bigK 0).bind fun o => match o with | .inl () => some (.inl ()) | .inr v_19 => some (.inr v_19) : Option (Unit ⊕ Bool)).bind fun o => match o with | .inl () => some true | .inr v_15 => some v_15) | .inr v_5 => some v_5)
def g_impl_nameTag (kind_1 : Int) : Option Int := cond (kind_1 == 1) (some 1) (cond (kind_1 == 2) (some 3) (cond (kind_1 == 3) (some 4) (cond (kind_1 == 4) (some 9) (cond (kind_1 == 5) (some 10) (cond (kind_1 == 6) (some 11) (some 0))))))
def g_impl_WidthOf (k_1 : Int) : Option Int := (g_impl_within k_1 0 7).bind fun y_3 => cond y_3 (some 4) ((g_impl_within k_1 8 15).bind fun y_4 => cond y_4 (some 5) ((g_impl_within k_1 16 47).bind fun y_5 => cond y_5 (some 7) (some 0)))
def g_impl_BitsOf (k_1 : Int) : Option Int := (g_impl_WidthOf k_1).bind fun y_3 => cond (y_3 == 4) (some (IntKind.wrap .u32 k_1)) (cond (y_3 == 5) (some (IntKind.wrap .u32 ((IntKind.wrap .u32 k_1) + 8))) (cond (y_3 == 7) (some (IntKind.wrap .u32 ((IntKind.wrap .u32 k_1) + 80))) (some 0)))
def g_impl_PackOne_l0 (s_1 : Bs) (v_9 : Int) : Nat → Int → Int → Int → Int → Option (Int × Int)
  | 0, _, _, _, _ => none
  | k + 1, field_10, left_11, many_12, v_13 => cond (decide (v_13 < v_9)) ((idxS s_1 v_13).bind fun v_16 => (g_impl_LetterOf v_16).bind fun y_17 => (g_impl_WidthOf y_17).bind fun y_18 => cond (decide (y_18 > left_11)) (some (field_10, many_12)) ((g_impl_WidthOf y_17).bind fun y_19 => (g_impl_BitsOf y_17).bind fun y_20 => (shlI .u32 y_20 (IntKind.wrap .i64 (left_11 - y_19))).bind fun v_21 => g_impl_PackOne_l0 s_1 v_9 k (orI .u32 field_10 v_21) (IntKind.wrap .i64 (left_11 - y_19)) (IntKind.wrap .i64 (many_12 + 1)) (IntKind.wrap .i64 (v_13 + 1)))) (some (field_10, many_12))
def g_impl_PackOne (s_1 : Bs) : Option (Int × Int) := (g_impl_NameOk s_1).bind fun y_4 => cond (!y_4) (some (0, 0)) (((g_impl_PackOne_l0 s_1 (s_1.length : Int) bigK 0 28 0 0).bind fun (field_14, many_15) => some (field_14, many_15) : Option ((Int × Int))).bind fun (field_5, many_6) => some (field_5, many_6))
def g_impl_Pack_l0 : Nat → Bs → (List Int) → Option (List Int)
  | 0, _, _ => none
  | k + 1, s_3, out_4 => (g_impl_NameOk s_3).bind fun y_6 => cond y_6 ((g_impl_PackOne s_3).bind fun y_7 => (app out_4 [y_7.1]).bind fun v_8 => (subL s_3 y_7.2 (s_3.length : Int)).bind fun v_9 => g_impl_Pack_l0 k v_9 v_8) (some out_4)
def g_impl_Pack (s_1 : Bs) : Option (List Int) := (g_impl_Pack_l0 bigK s_1 ([] : List Int)).bind fun out_5 => some out_5
def g_impl_numberCells (n_1 : Int) (hex_2 : Bool) (short_3 : Int) (long_4 : Int) : Option (List Int) := (cond hex_2 (some 16) (some 0) : Option (Int)).bind fun bit_6 => (cond (decide (n_1 ≥ (-67108864))) (some (decide (n_1 ≤ 67108863))) (some false) : Option (Bool)).bind fun v_7 => cond v_7 (some [orI .u32 (orI .u32 (IntKind.wrap .u32 ((IntKind.wrap .u32 n_1) * 32)) bit_6) short_3]) (some [orI .u32 bit_6 long_4, IntKind.wrap .u32 n_1])
def g_impl_CellsOf_l0 (v_8 : List Int) (v_9 : Int) : Nat → Int → (List Int) → Int → Option (List Int)
  | 0, _, _, _ => none
  | k + 1, tag_10, out_11, v_12 => cond (decide (v_12 < v_9)) ((getI v_8 v_12).bind fun v_14 => (app out_11 [orI .u32 (IntKind.wrap .u32 (v_14 * 16)) tag_10]).bind fun v_15 => g_impl_CellsOf_l0 v_8 v_9 k 0 v_15 (IntKind.wrap .i64 (v_12 + 1))) (some out_11)
def g_impl_CellsOf (it_1 : GItem) : Option (List Int) := (g_impl_nameTag it_1.Kind).bind fun y_3 => ((cond (decide (y_3 > 0)) (some ((it_1.Kind : Int) == it_1.Kind && ((it_1.Name : Bs) == it_1.Name && ((it_1.N : Int) == 0 && ((it_1.Hex : Bool) == false && ((it_1.Raw : Int) == 0 && true)))))) (some false) : Option (Bool)).bind fun v_5 => cond v_5 (((g_impl_Pack it_1.Name).bind fun y_7 => (g_impl_CellsOf_l0 y_7 (y_7.length : Int) bigK y_3 ([] : List Int) 0).bind fun out_13 => some out_13 : Option ((List Int))).bind fun out_6 => some (.inr out_6)) (cond ((it_1.Kind : Int) == 7 && ((it_1.Name : Bs) == [] && ((it_1.N : Int) == it_1.N && ((it_1.Hex : Bool) == it_1.Hex && ((it_1.Raw : Int) == 0 && true))))) ((g_impl_numberCells it_1.N it_1.Hex 8 2).bind fun y_16 => some (.inr y_16)) (cond ((it_1.Kind : Int) == 8 && ((it_1.Name : Bs) == [] && ((it_1.N : Int) == it_1.N && ((it_1.Hex : Bool) == it_1.Hex && ((it_1.Raw : Int) == 0 && true))))) ((g_impl_numberCells it_1.N it_1.Hex 6 5).bind fun y_17 => some (.inr y_17)) (cond ((it_1.Kind : Int) == 9 && ((it_1.Name : Bs) == it_1.Name && ((it_1.N : Int) == it_1.N && ((it_1.Hex : Bool) == false && ((it_1.Raw : Int) == 0 && true))))) ((g_impl_Pack it_1.Name).bind fun y_18 => cond ((y_18.length : Int) == 1) ((getI y_18 0).bind fun v_19 => some (.inr [orI .u32 (IntKind.wrap .u32 (v_19 * 16)) 12, IntKind.wrap .u32 it_1.N])) (some (.inl ()))) (cond ((it_1.Kind : Int) == 0 && ((it_1.Name : Bs) == [] && ((it_1.N : Int) == 0 && ((it_1.Hex : Bool) == false && ((it_1.Raw : Int) == it_1.Raw && true))))) (some (.inr [it_1.Raw])) (some (.inl ())))))) : Option (Unit ⊕ (List Int))).bind fun o => match o with | .inl () => some [] | .inr v_4 => some v_4
def g_impl_ItemOk (it_1 : GItem) : Option Bool := (g_impl_CellsOf it_1).bind fun y_3 => some (decide ((y_3.length : Int) > 0))
def g_impl_EdOkc1 (it_1 : GItem) : Option Bool := (g_impl_ItemOk it_1).bind fun y_3 => some (!y_3)
def g_slices_IndexFunc_Item_impl_EdOkc1_l0 (s_1 : List GItem) (v_4 : Int) : Nat → Int → Option (Unit ⊕ Int)
  | 0, _ => none
  | k + 1, v_5 => cond (decide (v_5 < v_4)) ((getI s_1 v_5).bind fun v_7 => (g_impl_EdOkc1 v_7).bind fun y_8 => cond y_8 (some (.inr v_5)) (g_slices_IndexFunc_Item_impl_EdOkc1_l0 s_1 v_4 k (IntKind.wrap .i64 (v_5 + 1)))) (some (.inl ()))
def g_slices_IndexFunc_Item_impl_EdOkc1 (s_1 : List GItem) : Option Int := ((g_slices_IndexFunc_Item_impl_EdOkc1_l0 s_1 (s_1.length : Int) bigK 0).bind fun o => match o with | .inl () => some (.inl ()) | .inr v_6 => some (.inr v_6) : Option (Unit ⊕ Int)).bind fun o => match o with | .inl () => some (-1) | .inr v_3 => some v_3
def g_slices_ContainsFunc_Item_impl_EdOkc1 (s_1 : List GItem) : Option Bool := (g_slices_IndexFunc_Item_impl_EdOkc1 s_1).bind fun y_3 => some (decide (y_3 ≥ 0))
def g_slices_Grow_Item_emp (n_1 : Int) : Option (List GItem) := (cond (decide (n_1 < 0)) (none) (some ()) : Option (Unit)).bind fun _ => (cond (decide ((IntKind.wrap .i64 (n_1 - (IntKind.wrap .i64 (0 - 0)))) > 0)) ((mk ((⟨0, [], 0, false, 0⟩ : GItem) : GItem) (IntKind.wrap .i64 (n_1 - (IntKind.wrap .i64 (0 - 0))))).bind fun v_4 => (subL v_4 0 0).bind fun v_5 => some v_5) (some []) : Option ((List GItem))).bind fun s_3 => some s_3
def g_slices_Concat_Item_l0 (v_4 : List (List GItem)) (v_5 : Int) : Nat → Int → Int → Option Int
  | 0, _, _ => none
  | k + 1, size_6, v_7 => cond (decide (v_7 < v_5)) (((getI v_4 v_7).bind fun v_10 => cond (decide ((IntKind.wrap .i64 (size_6 + (v_10.length : Int))) < 0)) (none) (some (IntKind.wrap .i64 (size_6 + (v_10.length : Int)))) : Option (Int)).bind fun size_9 => g_slices_Concat_Item_l0 v_4 v_5 k size_9 (IntKind.wrap .i64 (v_7 + 1))) (some size_6)
def g_slices_Concat_Item_l1 (v_13 : List (List GItem)) (v_14 : Int) : Nat → (List GItem) → Int → Option (List GItem)
  | 0, _, _ => none
  | k + 1, newslice_15, v_16 => cond (decide (v_16 < v_14)) ((getI v_13 v_16).bind fun v_18 => (app newslice_15 v_18).bind fun v_19 => g_slices_Concat_Item_l1 v_13 v_14 k v_19 (IntKind.wrap .i64 (v_16 + 1))) (some newslice_15)
def g_slices_Concat_Item (slices_1 : List (List GItem)) : Option (List GItem) := ((g_slices_Concat_Item_l0 slices_1 (slices_1.length : Int) bigK 0 0).bind fun size_8 => some size_8 : Option (Int)).bind fun size_3 => (g_slices_Grow_Item_emp size_3).bind fun y_11 => ((g_slices_Concat_Item_l1 slices_1 (slices_1.length : Int) bigK y_11 0).bind fun newslice_17 => some newslice_17 : Option ((List GItem))).bind fun newslice_12 => some newslice_12
def g_impl_edItems (e_1 : GEd) : Option (List GItem) := (g_slices_Concat_Item [e_1.Left, e_1.Right]).bind fun y_3 => some y_3
def g_impl_Unparse_l0 (v_6 : List GItem) (v_7 : Int) : Nat → (List Int) → Int → Option ((List Int) ⊕ Bool)
  | 0, _, _ => none
  | k + 1, out_8, v_9 => cond (decide (v_9 < v_7)) ((getI v_6 v_9).bind fun v_12 => (g_impl_CellsOf v_12).bind fun y_13 => (app out_8 y_13).bind fun v_14 => (cond ((y_13.length : Int) == 0) (some true) (some (decide ((v_14.length : Int) > 64))) : Option (Bool)).bind fun v_15 => cond v_15 (some (.inr false)) (g_impl_Unparse_l0 v_6 v_7 k v_14 (IntKind.wrap .i64 (v_9 + 1)))) (some (.inl out_8))
def g_impl_Unparse (list_1 : List GItem) : Option ((List Int) × Bool) := ((g_impl_Unparse_l0 list_1 (list_1.length : Int) bigK ([] : List Int) 0).bind fun o => match o with | .inl out_10 => some (.inl out_10) | .inr v_11 => some (.inr v_11) : Option ((List Int) ⊕ Bool)).bind fun o => match o with | .inl out_4 => some (out_4, true) | .inr v_5 => some ([], v_5)
def g_impl_Decode_l0 (bits_1 : Int) (n_2 : Int) : Nat → Int → Option (Unit ⊕ (Int × Int))
  | 0, _ => none
  | k + 1, v_8 => cond (decide (v_8 < 48)) ((g_impl_WidthOf v_8).bind fun y_11 => (cond (decide (y_11 ≤ n_2)) ((shrI .u32 bits_1 (IntKind.wrap .i64 (n_2 - y_11))).bind fun v_13 => (shlI .u32 1 y_11).bind fun v_14 => (g_impl_BitsOf v_8).bind fun y_15 => some ((andI .u32 v_13 (IntKind.wrap .u32 (v_14 - 1))) == y_15)) (some false) : Option (Bool)).bind fun v_12 => cond v_12 (some (.inr (v_8, y_11))) (g_impl_Decode_l0 bits_1 n_2 k (IntKind.wrap .i64 (v_8 + 1)))) (some (.inl ()))
def g_impl_Decode (bits_1 : Int) (n_2 : Int) : Option (Int × Int) := (g_impl_within n_2 1 32).bind fun y_5 => cond (!y_5) (some ((-1), 0)) (((g_impl_Decode_l0 bits_1 n_2 bigK 0).bind fun o => match o with | .inl () => some (.inl ()) | .inr (v_9, v_10) => some (.inr (v_9, v_10)) : Option (Unit ⊕ (Int × Int))).bind fun o => match o with | .inl () => some ((-1), 0) | .inr (v_6, v_7) => some (v_6, v_7))
def g_impl_LetterAt (k_1 : Int) : Option Int := (g_impl_within k_1 0 47).bind fun y_3 => cond (!y_3) (some 0) ((g_impl_letters).bind fun y_4 => (idxS y_4 k_1).bind fun v_5 => some v_5)
def g_impl_UnpackOne_l0 (f_1 : Int) : Nat → (List Int) → Int → Option (List Int)
  | 0, _, _ => none
  | k + 1, out_4, left_5 => (shlI .u32 1 left_5).bind fun v_7 => cond ((andI .u32 f_1 (IntKind.wrap .u32 (v_7 - 1))) != 0) ((g_impl_Decode f_1 left_5).bind fun y_8 => cond (decide (y_8.1 < 1)) (some out_4) ((g_impl_LetterAt y_8.1).bind fun y_9 => (app out_4 [y_9]).bind fun v_10 => g_impl_UnpackOne_l0 f_1 k v_10 (IntKind.wrap .i64 (left_5 - y_8.2)))) (some out_4)
def g_impl_UnpackOne (f_1 : Int) : Option Bs := cond (decide (f_1 ≥ 268435456)) (some []) ((g_impl_UnpackOne_l0 f_1 bigK ([] : List Int) 28).bind fun out_6 => some (strOf out_6))
def g_slices_Equal_uint32_l0 (s1_1 : List Int) (s2_2 : List Int) (v_5 : Int) : Nat → Int → Option (Unit ⊕ Bool)
  | 0, _ => none
  | k + 1, v_6 => cond (decide (v_6 < v_5)) ((getI s1_1 v_6).bind fun v_8 => (getI s2_2 v_6).bind fun v_9 => cond (v_8 != v_9) (some (.inr false)) (g_slices_Equal_uint32_l0 s1_1 s2_2 v_5 k (IntKind.wrap .i64 (v_6 + 1)))) (some (.inl ()))
def g_slices_Equal_uint32 (s1_1 : List Int) (s2_2 : List Int) : Option Bool := cond ((s1_1.length : Int) != (s2_2.length : Int)) (some false) (((g_slices_Equal_uint32_l0 s1_1 s2_2 (s1_1.length : Int) bigK 0).bind fun o => match o with | .inl () => some (.inl ()) | .inr v_7 => some (.inr v_7) : Option (Unit ⊕ Bool)).bind fun o => match o with | .inl () => some true | .inr v_4 => some v_4)
def g_impl_Unpack_l0 (v_7 : List Int) (v_8 : Int) : Nat → Bs → Int → Option Bs
  | 0, _, _ => none
  | k + 1, name_9, v_10 => cond (decide (v_10 < v_8)) ((getI v_7 v_10).bind fun v_12 => (g_impl_UnpackOne v_12).bind fun y_13 => (catS name_9 y_13).bind fun v_14 => g_impl_Unpack_l0 v_7 v_8 k v_14 (IntKind.wrap .i64 (v_10 + 1))) (some name_9)
def g_impl_Unpack (list_1 : List Int) : Option (Bs × Bool) := cond (decide ((list_1.length : Int) > 24)) (some ([], false)) (((g_impl_Unpack_l0 list_1 (list_1.length : Int) bigK [] 0).bind fun name_11 => some name_11 : Option (Bs)).bind fun name_4 => ((g_impl_NameOk name_4).bind fun y_16 => cond (!y_16) (some true) ((g_impl_Pack name_4).bind fun y_17 => (g_slices_Equal_uint32 y_17 list_1).bind fun y_18 => some (!y_18)) : Option (Bool)).bind fun v_15 => cond v_15 (some ([], false)) (some (name_4, true)))
def g_impl_nameKind_l0 (tag_1 : Int) : Nat → Int → Option (Unit ⊕ Int)
  | 0, _ => none
  | k + 1, kind_4 => cond (decide (kind_4 ≤ 6)) ((g_impl_nameTag kind_4).bind fun y_6 => cond (y_6 == tag_1) (some (.inr kind_4)) (g_impl_nameKind_l0 tag_1 k (IntKind.wrap .i64 (kind_4 + 1)))) (some (.inl ()))
def g_impl_nameKind (tag_1 : Int) : Option Int := ((g_impl_nameKind_l0 tag_1 bigK 1).bind fun o => match o with | .inl () => some (.inl ()) | .inr v_5 => some (.inr v_5) : Option (Unit ⊕ Int)).bind fun o => match o with | .inl () => some 0 | .inr v_3 => some v_3
def g_impl_FieldOk (f_1 : Int) : Option Bool := (g_impl_UnpackOne f_1).bind fun y_3 => (g_impl_Pack y_3).bind fun y_4 => (g_slices_Equal_uint32 y_4 [f_1]).bind fun y_5 => some y_5
def g_impl_parseOne_l0 (v_8 : List Int) (v_10 : Int) : Nat → (List Int) → Int → Option (List Int)
  | 0, _, _ => none
  | k + 1, fields_13, v_14 => cond (decide (v_14 < v_10)) ((getI v_8 v_14).bind fun v_16 => (cond (v_16 == 0) (some true) (some ((andI .u32 v_16 15) != 0)) : Option (Bool)).bind fun v_17 => cond v_17 (some fields_13) ((app fields_13 [v_16 / 16]).bind fun v_18 => g_impl_parseOne_l0 v_8 v_10 k v_18 (IntKind.wrap .i64 (v_14 + 1)))) (some fields_13)
def g_impl_parseOne (cells_1 : List Int) : Option GItem := (getI cells_1 0).bind fun v_3 => (getI cells_1 0).bind fun v_4 => ((cond ((andI .u32 v_4 15) == 1) (some ((andI .u32 v_4 15) == 1)) (cond ((andI .u32 v_4 15) == 3) (some ((andI .u32 v_4 15) == 3)) (cond ((andI .u32 v_4 15) == 4) (some ((andI .u32 v_4 15) == 4)) (cond ((andI .u32 v_4 15) == 9) (some ((andI .u32 v_4 15) == 9)) (cond ((andI .u32 v_4 15) == 10) (some ((andI .u32 v_4 15) == 10)) (some ((andI .u32 v_4 15) == 11)))))) : Option (Bool)).bind fun v_6 => cond v_6 (((subL cells_1 1 (cells_1.length : Int)).bind fun v_8 => (g_impl_parseOne_l0 v_8 (v_8.length : Int) bigK [v_3 / 16] 0).bind fun fields_15 => some fields_15 : Option ((List Int))).bind fun fields_7 => (g_impl_Unpack fields_7).bind fun y_19 => cond y_19.2 ((g_impl_nameKind (andI .u32 v_4 15)).bind fun y_20 => some (⟨y_20, y_19.1, 0, false, 0⟩ : GItem)) (some (⟨0, [], 0, false, v_3⟩ : GItem))) (cond ((andI .u32 v_4 15) == 8) (some (⟨7, [], (IntKind.wrap .i32 v_3) / 32, ((andI .u32 v_3 16) != 0), 0⟩ : GItem)) (cond ((andI .u32 v_4 15) == 6) (some (⟨8, [], (IntKind.wrap .i32 v_3) / 32, ((andI .u32 v_3 16) != 0), 0⟩ : GItem)) ((cond ((andI .u32 v_4 15) == 2) (some ((andI .u32 v_4 15) == 2)) (some ((andI .u32 v_4 15) == 5)) : Option (Bool)).bind fun v_21 => cond v_21 (cond (decide ((cells_1.length : Int) < 2)) (some (⟨0, [], 0, false, v_3⟩ : GItem)) ((getI cells_1 1).bind fun v_22 => (cond ((andI .u32 v_4 15) == 5) (some (⟨8, [], IntKind.wrap .i32 v_22, ((andI .u32 v_3 16) != 0), 0⟩ : GItem)) (some (⟨7, [], IntKind.wrap .i32 v_22, ((andI .u32 v_3 16) != 0), 0⟩ : GItem)) : Option (GItem)).bind fun x_23 => (g_impl_CellsOf x_23).bind fun y_24 => (subL cells_1 0 2).bind fun v_25 => (g_slices_Equal_uint32 y_24 v_25).bind fun y_26 => cond y_26 (some x_23) (some (⟨0, [], 0, false, v_3⟩ : GItem)))) (cond ((andI .u32 v_4 15) == 12) ((cond (decide ((cells_1.length : Int) > 1)) ((g_impl_FieldOk (v_3 / 16)).bind fun y_28 => some y_28) (some false) : Option (Bool)).bind fun v_27 => cond v_27 ((g_impl_UnpackOne (v_3 / 16)).bind fun y_29 => (getI cells_1 1).bind fun v_30 => some (⟨9, y_29, IntKind.wrap .i32 v_30, false, 0⟩ : GItem)) (some (⟨0, [], 0, false, v_3⟩ : GItem))) (some (⟨0, [], 0, false, v_3⟩ : GItem)))))) : Option (GItem)).bind fun x_5 => some x_5
def g_impl_ParseCells_l0 : Nat → (List Int) → (List GItem) → Option (List GItem)
  | 0, _, _ => none
  | k + 1, cells_3, out_4 => cond (decide ((cells_3.length : Int) > 0)) ((g_impl_parseOne cells_3).bind fun y_6 => (app out_4 [y_6]).bind fun v_7 => (g_impl_CellsOf y_6).bind fun y_8 => (subL cells_3 (y_8.length : Int) (cells_3.length : Int)).bind fun v_9 => g_impl_ParseCells_l0 k v_9 v_7) (some out_4)
def g_impl_ParseCells_l1 : Nat → (List GItem) → Int → Option (List GItem)
  | 0, _, _ => none
  | k + 1, out_11, n_12 => (cond (decide (n_12 ≥ 0)) ((getI out_11 n_12).bind fun v_15 => some ((v_15.Kind : Int) == 0 && ((v_15.Name : Bs) == [] && ((v_15.N : Int) == 0 && ((v_15.Hex : Bool) == false && ((v_15.Raw : Int) == 0 && true)))))) (some false) : Option (Bool)).bind fun v_14 => cond v_14 ((subL out_11 0 n_12).bind fun v_16 => g_impl_ParseCells_l1 k v_16 (IntKind.wrap .i64 (n_12 - 1))) (some out_11)
def g_impl_ParseCells (cells_1 : List Int) : Option (List GItem) := cond (decide ((cells_1.length : Int) > 64)) (some []) ((g_impl_ParseCells_l0 bigK cells_1 ([] : List GItem)).bind fun out_5 => ((g_impl_ParseCells_l1 bigK out_5 (IntKind.wrap .i64 ((out_5.length : Int) - 1))).bind fun out_13 => some out_13 : Option ((List GItem))).bind fun out_10 => some out_10)
def g_slices_Equal_Item_l0 (s1_1 : List GItem) (s2_2 : List GItem) (v_5 : Int) : Nat → Int → Option (Unit ⊕ Bool)
  | 0, _ => none
  | k + 1, v_6 => cond (decide (v_6 < v_5)) ((getI s1_1 v_6).bind fun v_8 => (getI s2_2 v_6).bind fun v_9 => cond (!((v_8.Kind : Int) == v_9.Kind && ((v_8.Name : Bs) == v_9.Name && ((v_8.N : Int) == v_9.N && ((v_8.Hex : Bool) == v_9.Hex && ((v_8.Raw : Int) == v_9.Raw && true)))))) (some (.inr false)) (g_slices_Equal_Item_l0 s1_1 s2_2 v_5 k (IntKind.wrap .i64 (v_6 + 1)))) (some (.inl ()))
def g_slices_Equal_Item (s1_1 : List GItem) (s2_2 : List GItem) : Option Bool := cond ((s1_1.length : Int) != (s2_2.length : Int)) (some false) (((g_slices_Equal_Item_l0 s1_1 s2_2 (s1_1.length : Int) bigK 0).bind fun o => match o with | .inl () => some (.inl ()) | .inr v_7 => some (.inr v_7) : Option (Unit ⊕ Bool)).bind fun o => match o with | .inl () => some true | .inr v_4 => some v_4)
def g_impl_ListOk (list_1 : List GItem) : Option Bool := (g_impl_Unparse list_1).bind fun y_3 => cond y_3.2 ((g_impl_ParseCells y_3.1).bind fun y_4 => (g_slices_Equal_Item y_4 list_1).bind fun y_5 => some y_5) (some false)
def g_impl_EdOk (e_1 : GEd) : Option Bool := cond (decide ((e_1.Cut.length : Int) ≤ 20)) ((g_slices_ContainsFunc_Item_impl_EdOkc1 e_1.Cut).bind fun y_3 => cond (!y_3) ((g_impl_edItems e_1).bind fun y_4 => (g_impl_ListOk y_4).bind fun y_5 => some y_5) (some false)) (some false)
def g_impl_Session_store (s_1 : GSession) : Option GStore := some (⟨s_1.World.St.Cells⟩ : GStore)
def g_impl_hasBlocksc1 (b_1 : Int) (a_2 : GStore) : Option Bool := (g_impl_within b_1 0 (IntKind.wrap .i64 ((IntKind.wrap .i64 (Int.tdiv (a_2.Cells.length : Int) 64)) - 1))).bind fun y_4 => some (!y_4)
def g_slices_IndexFunc_int_impl_hasBlocksc1_l0 (s_1 : List Int) (v_5 : Int) (c_2 : GStore) : Nat → Int → Option (Unit ⊕ Int)
  | 0, _ => none
  | k + 1, v_6 => cond (decide (v_6 < v_5)) ((getI s_1 v_6).bind fun v_8 => (g_impl_hasBlocksc1 v_8 c_2).bind fun y_9 => cond y_9 (some (.inr v_6)) (g_slices_IndexFunc_int_impl_hasBlocksc1_l0 s_1 v_5 c_2 k (IntKind.wrap .i64 (v_6 + 1)))) (some (.inl ()))
def g_slices_IndexFunc_int_impl_hasBlocksc1 (s_1 : List Int) (c_2 : GStore) : Option Int := ((g_slices_IndexFunc_int_impl_hasBlocksc1_l0 s_1 (s_1.length : Int) c_2 bigK 0).bind fun o => match o with | .inl () => some (.inl ()) | .inr v_7 => some (.inr v_7) : Option (Unit ⊕ Int)).bind fun o => match o with | .inl () => some (-1) | .inr v_4 => some v_4
def g_slices_ContainsFunc_int_impl_hasBlocksc1 (s_1 : List Int) (c_2 : GStore) : Option Bool := (g_slices_IndexFunc_int_impl_hasBlocksc1 s_1 c_2).bind fun y_4 => some (decide (y_4 ≥ 0))
def g_impl_hasBlocks (s_1 : GStore) (list_2 : List Int) : Option Bool := (g_impl_StoreOk s_1).bind fun y_4 => cond y_4 ((g_slices_ContainsFunc_int_impl_hasBlocksc1 list_2 s_1).bind fun y_5 => some (!y_5)) (some false)
def g_impl_SessionOk (s_1 : GSession) : Option Bool := ((g_impl_WorldOk s_1.World).bind fun y_4 => cond (!y_4) (some true) ((g_impl_EdOk s_1.Ed).bind fun y_5 => some (!y_5)) : Option (Bool)).bind fun v_3 => cond v_3 (some false) (cond (s_1.Block == (-1)) (some ((IntKind.wrap .i64 ((IntKind.wrap .i64 ((s_1.Ed.Left.length : Int) + (s_1.Ed.Right.length : Int))) + (s_1.Ed.Cut.length : Int))) == 0)) ((g_impl_Session_store s_1).bind fun y_6 => (g_impl_hasBlocks y_6 [s_1.Block]).bind fun y_7 => some y_7))
def g_laws_eqOp (a_1 : GOp) (b_2 : GOp) : Option Bool := cond (a_1.Kind != b_2.Kind) (some false) (cond (a_1.N != b_2.N) (some false) (some true))
def g_laws_eqOpS_l0 (a_1 : List GOp) (b_2 : List GOp) : Nat → Int → Option (Unit ⊕ Bool)
  | 0, _ => none
  | k + 1, i_5 => cond (decide (i_5 < (a_1.length : Int))) ((getI a_1 i_5).bind fun v_7 => (getI b_2 i_5).bind fun v_8 => (g_laws_eqOp v_7 v_8).bind fun y_9 => cond (!y_9) (some (.inr false)) (g_laws_eqOpS_l0 a_1 b_2 k (IntKind.wrap .i64 (i_5 + 1)))) (some (.inl ()))
def g_laws_eqOpS (a_1 : List GOp) (b_2 : List GOp) : Option Bool := cond ((a_1.length : Int) != (b_2.length : Int)) (some false) (((g_laws_eqOpS_l0 a_1 b_2 bigK 0).bind fun o => match o with | .inl () => some (.inl ()) | .inr v_6 => some (.inr v_6) : Option (Unit ⊕ Bool)).bind fun o => match o with | .inl () => some true | .inr v_4 => some v_4)
def g_laws_eqDef (a_1 : GDef) (b_2 : GDef) : Option Bool := cond (a_1.Name != b_2.Name) (some false) ((g_laws_eqOpS a_1.Body b_2.Body).bind fun y_4 => cond (!y_4) (some false) (some true))
def g_laws_eqDefS_l0 (a_1 : List GDef) (b_2 : List GDef) : Nat → Int → Option (Unit ⊕ Bool)
  | 0, _ => none
  | k + 1, i_5 => cond (decide (i_5 < (a_1.length : Int))) ((getI a_1 i_5).bind fun v_7 => (getI b_2 i_5).bind fun v_8 => (g_laws_eqDef v_7 v_8).bind fun y_9 => cond (!y_9) (some (.inr false)) (g_laws_eqDefS_l0 a_1 b_2 k (IntKind.wrap .i64 (i_5 + 1)))) (some (.inl ()))
def g_laws_eqDefS (a_1 : List GDef) (b_2 : List GDef) : Option Bool := cond ((a_1.length : Int) != (b_2.length : Int)) (some false) (((g_laws_eqDefS_l0 a_1 b_2 bigK 0).bind fun o => match o with | .inl () => some (.inl ()) | .inr v_6 => some (.inr v_6) : Option (Unit ⊕ Bool)).bind fun o => match o with | .inl () => some true | .inr v_4 => some v_4)
def g_laws_eqEntry (a_1 : GEntry) (b_2 : GEntry) : Option Bool := cond (a_1.Name != b_2.Name) (some false) (cond (a_1.Var != b_2.Var) (some false) (cond (a_1.N != b_2.N) (some false) (some true)))
def g_laws_eqEntryS_l0 (a_1 : List GEntry) (b_2 : List GEntry) : Nat → Int → Option (Unit ⊕ Bool)
  | 0, _ => none
  | k + 1, i_5 => cond (decide (i_5 < (a_1.length : Int))) ((getI a_1 i_5).bind fun v_7 => (getI b_2 i_5).bind fun v_8 => (g_laws_eqEntry v_7 v_8).bind fun y_9 => cond (!y_9) (some (.inr false)) (g_laws_eqEntryS_l0 a_1 b_2 k (IntKind.wrap .i64 (i_5 + 1)))) (some (.inl ()))
def g_laws_eqEntryS (a_1 : List GEntry) (b_2 : List GEntry) : Option Bool := cond ((a_1.length : Int) != (b_2.length : Int)) (some false) (((g_laws_eqEntryS_l0 a_1 b_2 bigK 0).bind fun o => match o with | .inl () => some (.inl ()) | .inr v_6 => some (.inr v_6) : Option (Unit ⊕ Bool)).bind fun o => match o with | .inl () => some true | .inr v_4 => some v_4)
def g_laws_eqInt32S_l0 (a_1 : List Int) (b_2 : List Int) : Nat → Int → Option (Unit ⊕ Bool)
  | 0, _ => none
  | k + 1, i_5 => cond (decide (i_5 < (a_1.length : Int))) ((getI a_1 i_5).bind fun v_7 => (getI b_2 i_5).bind fun v_8 => cond (v_7 != v_8) (some (.inr false)) (g_laws_eqInt32S_l0 a_1 b_2 k (IntKind.wrap .i64 (i_5 + 1)))) (some (.inl ()))
def g_laws_eqInt32S (a_1 : List Int) (b_2 : List Int) : Option Bool := cond ((a_1.length : Int) != (b_2.length : Int)) (some false) (((g_laws_eqInt32S_l0 a_1 b_2 bigK 0).bind fun o => match o with | .inl () => some (.inl ()) | .inr v_6 => some (.inr v_6) : Option (Unit ⊕ Bool)).bind fun o => match o with | .inl () => some true | .inr v_4 => some v_4)
def g_laws_eqSlot (a_1 : GOp) (b_2 : GOp) : Option Bool := cond (a_1.Kind != b_2.Kind) (some false) (cond (a_1.N != b_2.N) (some false) (some true))
def g_laws_eqSlotS_l0 (a_1 : List GOp) (b_2 : List GOp) : Nat → Int → Option (Unit ⊕ Bool)
  | 0, _ => none
  | k + 1, i_5 => cond (decide (i_5 < (a_1.length : Int))) ((getI a_1 i_5).bind fun v_7 => (getI b_2 i_5).bind fun v_8 => (g_laws_eqSlot v_7 v_8).bind fun y_9 => cond (!y_9) (some (.inr false)) (g_laws_eqSlotS_l0 a_1 b_2 k (IntKind.wrap .i64 (i_5 + 1)))) (some (.inl ()))
def g_laws_eqSlotS (a_1 : List GOp) (b_2 : List GOp) : Option Bool := cond ((a_1.length : Int) != (b_2.length : Int)) (some false) (((g_laws_eqSlotS_l0 a_1 b_2 bigK 0).bind fun o => match o with | .inl () => some (.inl ()) | .inr v_6 => some (.inr v_6) : Option (Unit ⊕ Bool)).bind fun o => match o with | .inl () => some true | .inr v_4 => some v_4)
def g_laws_eqUint32S_l0 (a_1 : List Int) (b_2 : List Int) : Nat → Int → Option (Unit ⊕ Bool)
  | 0, _ => none
  | k + 1, i_5 => cond (decide (i_5 < (a_1.length : Int))) ((getI a_1 i_5).bind fun v_7 => (getI b_2 i_5).bind fun v_8 => cond (v_7 != v_8) (some (.inr false)) (g_laws_eqUint32S_l0 a_1 b_2 k (IntKind.wrap .i64 (i_5 + 1)))) (some (.inl ()))
def g_laws_eqUint32S (a_1 : List Int) (b_2 : List Int) : Option Bool := cond ((a_1.length : Int) != (b_2.length : Int)) (some false) (((g_laws_eqUint32S_l0 a_1 b_2 bigK 0).bind fun o => match o with | .inl () => some (.inl ()) | .inr v_6 => some (.inr v_6) : Option (Unit ⊕ Bool)).bind fun o => match o with | .inl () => some true | .inr v_4 => some v_4)
def g_laws_eqIntS_l0 (a_1 : List Int) (b_2 : List Int) : Nat → Int → Option (Unit ⊕ Bool)
  | 0, _ => none
  | k + 1, i_5 => cond (decide (i_5 < (a_1.length : Int))) ((getI a_1 i_5).bind fun v_7 => (getI b_2 i_5).bind fun v_8 => cond (v_7 != v_8) (some (.inr false)) (g_laws_eqIntS_l0 a_1 b_2 k (IntKind.wrap .i64 (i_5 + 1)))) (some (.inl ()))
def g_laws_eqIntS (a_1 : List Int) (b_2 : List Int) : Option Bool := cond ((a_1.length : Int) != (b_2.length : Int)) (some false) (((g_laws_eqIntS_l0 a_1 b_2 bigK 0).bind fun o => match o with | .inl () => some (.inl ()) | .inr v_6 => some (.inr v_6) : Option (Unit ⊕ Bool)).bind fun o => match o with | .inl () => some true | .inr v_4 => some v_4)
def g_laws_eqByteS_l0 (a_1 : List Int) (b_2 : List Int) : Nat → Int → Option (Unit ⊕ Bool)
  | 0, _ => none
  | k + 1, i_5 => cond (decide (i_5 < (a_1.length : Int))) ((getI a_1 i_5).bind fun v_7 => (getI b_2 i_5).bind fun v_8 => cond (v_7 != v_8) (some (.inr false)) (g_laws_eqByteS_l0 a_1 b_2 k (IntKind.wrap .i64 (i_5 + 1)))) (some (.inl ()))
def g_laws_eqByteS (a_1 : List Int) (b_2 : List Int) : Option Bool := cond ((a_1.length : Int) != (b_2.length : Int)) (some false) (((g_laws_eqByteS_l0 a_1 b_2 bigK 0).bind fun o => match o with | .inl () => some (.inl ()) | .inr v_6 => some (.inr v_6) : Option (Unit ⊕ Bool)).bind fun o => match o with | .inl () => some true | .inr v_4 => some v_4)
def g_laws_eqSt (a_1 : GSt) (b_2 : GSt) : Option Bool := (g_laws_eqInt32S a_1.Data b_2.Data).bind fun y_4 => cond (!y_4) (some false) ((g_laws_eqSlotS a_1.Ret b_2.Ret).bind fun y_5 => cond (!y_5) (some false) (cond (a_1.A != b_2.A) (some false) ((g_laws_eqInt32S a_1.Mem b_2.Mem).bind fun y_6 => cond (!y_6) (some false) ((g_laws_eqUint32S a_1.Cells b_2.Cells).bind fun y_7 => cond (!y_7) (some false) ((g_laws_eqIntS a_1.Vars b_2.Vars).bind fun y_8 => cond (!y_8) (some false) ((g_laws_eqByteS a_1.Out b_2.Out).bind fun y_9 => cond (!y_9) (some false) ((g_laws_eqByteS a_1.In b_2.In).bind fun y_10 => cond (!y_10) (some false) (cond (a_1.Fault != b_2.Fault) (some false) (cond (a_1.Fuel != b_2.Fuel) (some false) (some true))))))))))
def g_laws_eqWorld (a_1 : GWorld) (b_2 : GWorld) : Option Bool := (g_laws_eqDefS a_1.Defs b_2.Defs).bind fun y_4 => cond (!y_4) (some false) ((g_laws_eqEntryS a_1.Dict b_2.Dict).bind fun y_5 => cond (!y_5) (some false) ((g_laws_eqSt a_1.St b_2.St).bind fun y_6 => cond (!y_6) (some false) (cond (a_1.Open != b_2.Open) (some false) (cond (a_1.Yellow != b_2.Yellow) (some false) (some true)))))
def g_laws_eqItem (a_1 : GItem) (b_2 : GItem) : Option Bool := cond (a_1.Kind != b_2.Kind) (some false) (cond (a_1.Name != b_2.Name) (some false) (cond (a_1.N != b_2.N) (some false) (cond (a_1.Hex != b_2.Hex) (some false) (cond (a_1.Raw != b_2.Raw) (some false) (some true)))))
def g_laws_eqItemS_l0 (a_1 : List GItem) (b_2 : List GItem) : Nat → Int → Option (Unit ⊕ Bool)
  | 0, _ => none
  | k + 1, i_5 => cond (decide (i_5 < (a_1.length : Int))) ((getI a_1 i_5).bind fun v_7 => (getI b_2 i_5).bind fun v_8 => (g_laws_eqItem v_7 v_8).bind fun y_9 => cond (!y_9) (some (.inr false)) (g_laws_eqItemS_l0 a_1 b_2 k (IntKind.wrap .i64 (i_5 + 1)))) (some (.inl ()))
def g_laws_eqItemS (a_1 : List GItem) (b_2 : List GItem) : Option Bool := cond ((a_1.length : Int) != (b_2.length : Int)) (some false) (((g_laws_eqItemS_l0 a_1 b_2 bigK 0).bind fun o => match o with | .inl () => some (.inl ()) | .inr v_6 => some (.inr v_6) : Option (Unit ⊕ Bool)).bind fun o => match o with | .inl () => some true | .inr v_4 => some v_4)
def g_laws_eqEd (a_1 : GEd) (b_2 : GEd) : Option Bool := (g_laws_eqItemS a_1.Left b_2.Left).bind fun y_4 => cond (!y_4) (some false) ((g_laws_eqItemS a_1.Right b_2.Right).bind fun y_5 => cond (!y_5) (some false) ((g_laws_eqItemS a_1.Cut b_2.Cut).bind fun y_6 => cond (!y_6) (some false) (some true)))
def g_laws_eqSession (a_1 : GSession) (b_2 : GSession) : Option Bool := (g_laws_eqWorld a_1.World b_2.World).bind fun y_4 => cond (!y_4) (some false) ((g_laws_eqEd a_1.Ed b_2.Ed).bind fun y_5 => cond (!y_5) (some false) (cond (a_1.Block != b_2.Block) (some false) (some true)))
def g_laws_FnExactSessionOk (aS_1 : GSession) : Option Bool := (g_laws_szSession aS_1 1048576).bind fun y_3 => cond (decide (y_3 < 0)) (some true) ((g_laws_toSession aS_1).bind fun y_4 => (g_spec_SessionOk y_4).bind fun y_5 => (g_laws_toSession aS_1).bind fun y_6 => (g_impl_SessionOk y_6).bind fun y_7 => cond (y_7 != y_5) (some false) ((g_laws_toSession aS_1).bind fun y_8 => (g_laws_eqSession y_6 y_8).bind fun y_9 => cond (!y_9) (some false) (some true)))
def bodyOf (f : Func) : Code := match f.body with | some c => c | none => .skip
end Go.Proofs.YtmlkglhpaneepaaGreatDoor
namespace Go.Proofs.YtmlkglhpaneepaaGreatDoor
open Go Go.Fm
set_option maxRecDepth 1000000
noncomputable def e_laws_szOpS : Con := ⟨100, ⟨[(0, .s K4 []), (1, .s K1 [])], []⟩, ⟨[(0, .s K1 [])], []⟩, false, [], fun (a_1, left_2) => g_laws_szOpS a_1 left_2⟩
noncomputable def e_laws_szDef : Con := ⟨56, ⟨[(0, .s K5 []), (1, .s K1 [])], []⟩, ⟨[(0, .s K1 [])], []⟩, false, [], fun (a_1, left_2) => g_laws_szDef a_1 left_2⟩
noncomputable def e_laws_szDefS : Con := ⟨23, ⟨[(0, .s K6 []), (1, .s K1 [])], []⟩, ⟨[(0, .s K1 [])], []⟩, false, [], fun (a_1, left_2) => g_laws_szDefS a_1 left_2⟩
noncomputable def e_laws_szEntry : Con := ⟨57, ⟨[(0, .s K8 []), (1, .s K1 [])], []⟩, ⟨[(0, .s K1 [])], []⟩, false, [], fun (a_1, left_2) => g_laws_szEntry a_1 left_2⟩
noncomputable def e_laws_szEntryS : Con := ⟨24, ⟨[(0, .s K9 []), (1, .s K1 [])], []⟩, ⟨[(0, .s K1 [])], []⟩, false, [], fun (a_1, left_2) => g_laws_szEntryS a_1 left_2⟩
noncomputable def e_laws_szInt32S : Con := ⟨58, ⟨[(0, .s K10 []), (1, .s K1 [])], []⟩, ⟨[(0, .s K1 [])], []⟩, false, [], fun (a_1, left_2) => g_laws_szInt32S a_1 left_2⟩
noncomputable def e_laws_szSlotS : Con := ⟨59, ⟨[(0, .s K4 []), (1, .s K1 [])], []⟩, ⟨[(0, .s K1 [])], []⟩, false, [], fun (a_1, left_2) => g_laws_szSlotS a_1 left_2⟩
noncomputable def e_laws_szUint32S : Con := ⟨60, ⟨[(0, .s K12 []), (1, .s K1 [])], []⟩, ⟨[(0, .s K1 [])], []⟩, false, [], fun (a_1, left_2) => g_laws_szUint32S a_1 left_2⟩
noncomputable def e_laws_szIntS : Con := ⟨61, ⟨[(0, .s K13 []), (1, .s K1 [])], []⟩, ⟨[(0, .s K1 [])], []⟩, false, [], fun (a_1, left_2) => g_laws_szIntS a_1 left_2⟩
noncomputable def e_laws_szByteS : Con := ⟨62, ⟨[(0, .s K15 []), (1, .s K1 [])], []⟩, ⟨[(0, .s K1 [])], []⟩, false, [], fun (a_1, left_2) => g_laws_szByteS a_1 left_2⟩
noncomputable def e_laws_szSt : Con := ⟨25, ⟨[(0, .s K16 []), (1, .s K1 [])], []⟩, ⟨[(0, .s K1 [])], []⟩, false, [], fun (a_1, left_2) => g_laws_szSt a_1 left_2⟩
noncomputable def e_laws_szWorld : Con := ⟨9, ⟨[(0, .s K17 []), (1, .s K1 [])], []⟩, ⟨[(0, .s K1 [])], []⟩, false, [], fun (a_1, left_2) => g_laws_szWorld a_1 left_2⟩
noncomputable def e_laws_szItem : Con := ⟨63, ⟨[(0, .s K18 []), (1, .s K1 [])], []⟩, ⟨[(0, .s K1 [])], []⟩, false, [], fun (a_1, left_2) => g_laws_szItem a_1 left_2⟩
noncomputable def e_laws_szItemS : Con := ⟨26, ⟨[(0, .s K19 []), (1, .s K1 [])], []⟩, ⟨[(0, .s K1 [])], []⟩, false, [], fun (a_1, left_2) => g_laws_szItemS a_1 left_2⟩
noncomputable def e_laws_szEd : Con := ⟨10, ⟨[(0, .s K20 []), (1, .s K1 [])], []⟩, ⟨[(0, .s K1 [])], []⟩, false, [], fun (a_1, left_2) => g_laws_szEd a_1 left_2⟩
noncomputable def e_laws_szSession : Con := ⟨4, ⟨[(0, .s K21 []), (1, .s K1 [])], []⟩, ⟨[(0, .s K1 [])], []⟩, false, [], fun (a_1, left_2) => g_laws_szSession a_1 left_2⟩
noncomputable def e_laws_toOp : Con := ⟨127, ⟨[(0, .s K3 [])], []⟩, ⟨[(0, .s K3 [])], []⟩, false, [], fun a_1 => g_laws_toOp a_1⟩
noncomputable def e_laws_toOpS : Con := ⟨107, ⟨[(0, .s K4 [])], []⟩, ⟨[(0, .s K4 [(0, 0)])], [.o]⟩, false, [], fun a_1 => g_laws_toOpS a_1⟩
noncomputable def e_laws_toDef_imm : Con := ⟨72, ⟨[(0, .s K5 [])], []⟩, ⟨[(0, .s K5 [])], []⟩, true, [], fun a_1 => g_laws_toDef_imm a_1⟩
noncomputable def e_laws_toDefS : Con := ⟨34, ⟨[(0, .s K6 [])], []⟩, ⟨[(0, .s K6 [(0, 0)])], [.o]⟩, true, [], fun a_1 => g_laws_toDefS a_1⟩
noncomputable def e_laws_toEntry : Con := ⟨73, ⟨[(0, .s K8 [])], []⟩, ⟨[(0, .s K8 [])], []⟩, false, [], fun a_1 => g_laws_toEntry a_1⟩
noncomputable def e_laws_toEntryS : Con := ⟨35, ⟨[(0, .s K9 [])], []⟩, ⟨[(0, .s K9 [(0, 0)])], [.o]⟩, false, [], fun a_1 => g_laws_toEntryS a_1⟩
noncomputable def e_laws_toInt32S : Con := ⟨74, ⟨[(0, .s K10 [])], []⟩, ⟨[(0, .s K10 [(0, 0)])], [.o]⟩, false, [], fun a_1 => g_laws_toInt32S a_1⟩
noncomputable def e_laws_toSlot : Con := ⟨108, ⟨[(0, .s K3 [])], []⟩, ⟨[(0, .s K3 [])], []⟩, false, [], fun a_1 => g_laws_toSlot a_1⟩
noncomputable def e_laws_toSlotS : Con := ⟨75, ⟨[(0, .s K4 [])], []⟩, ⟨[(0, .s K4 [(0, 0)])], [.o]⟩, false, [], fun a_1 => g_laws_toSlotS a_1⟩
noncomputable def e_laws_toUint32S : Con := ⟨76, ⟨[(0, .s K12 [])], []⟩, ⟨[(0, .s K12 [(0, 0)])], [.o]⟩, false, [], fun a_1 => g_laws_toUint32S a_1⟩
noncomputable def e_laws_toIntS : Con := ⟨77, ⟨[(0, .s K13 [])], []⟩, ⟨[(0, .s K13 [(0, 0)])], [.o]⟩, false, [], fun a_1 => g_laws_toIntS a_1⟩
noncomputable def e_laws_toByteS : Con := ⟨78, ⟨[(0, .s K15 [])], []⟩, ⟨[(0, .s K15 [(0, 0)])], [.o]⟩, false, [], fun a_1 => g_laws_toByteS a_1⟩
noncomputable def e_laws_toSt : Con := ⟨36, ⟨[(0, .s K16 [])], []⟩, ⟨[(0, .s K16 [(0, 0), (1, 1), (3, 2), (4, 3), (5, 4), (6, 5), (7, 6)])], [.o, .o, .o, .o, .o, .o, .o]⟩, false, [], fun a_1 => g_laws_toSt a_1⟩
noncomputable def e_laws_toWorld : Con := ⟨15, ⟨[(0, .s K17 [])], []⟩, ⟨[(0, .s K17 [(0, 0), (1, 1), (2, 2), (3, 3), (5, 4), (6, 5), (7, 6), (8, 7), (9, 8)])], [.o, .o, .o, .o, .o, .o, .o, .o, .o]⟩, true, [], fun a_1 => g_laws_toWorld a_1⟩
noncomputable def e_laws_toItem : Con := ⟨79, ⟨[(0, .s K18 [])], []⟩, ⟨[(0, .s K18 [])], []⟩, false, [], fun a_1 => g_laws_toItem a_1⟩
noncomputable def e_laws_toItemS : Con := ⟨37, ⟨[(0, .s K19 [])], []⟩, ⟨[(0, .s K19 [(0, 0)])], [.o]⟩, false, [], fun a_1 => g_laws_toItemS a_1⟩
noncomputable def e_laws_toEd : Con := ⟨16, ⟨[(0, .s K20 [])], []⟩, ⟨[(0, .s K20 [(0, 0), (1, 1), (2, 2)])], [.o, .o, .o]⟩, false, [], fun a_1 => g_laws_toEd a_1⟩
noncomputable def e_laws_toSession : Con := ⟨6, ⟨[(0, .s K21 [])], []⟩, ⟨[(0, .s K21 [(0, 0), (1, 1), (2, 2), (3, 3), (5, 4), (6, 5), (7, 6), (8, 7), (9, 8), (14, 9), (15, 10), (16, 11)])], [.o, .o, .o, .o, .o, .o, .o, .o, .o, .o, .o, .o]⟩, true, [], fun a_1 => g_laws_toSession a_1⟩
noncomputable def e_spec_l01In : Con := ⟨14, ⟨[(0, .s K1 []), (1, .s K1 []), (2, .s K1 [])], []⟩, ⟨[(0, .s K7 [])], []⟩, false, [], fun (x_1, a_2, b_3) => g_spec_l01In x_1 a_2 b_3⟩
noncomputable def e_spec_StoreOk : Con := ⟨64, ⟨[(0, .s K22 [])], []⟩, ⟨[(0, .s K7 [])], []⟩, false, [], fun s_1 => g_spec_StoreOk s_1⟩
noncomputable def e_spec_StOk : Con := ⟨27, ⟨[(0, .s K16 [])], []⟩, ⟨[(0, .s K7 [])], []⟩, false, [], fun st_1 => g_spec_StOk st_1⟩
noncomputable def e_spec_l02All : Con := ⟨102, ⟨[], []⟩, ⟨[(0, .s K0 [])], []⟩, false, [], fun _ => g_spec_l02All⟩
noncomputable def e_spec_LetterOf : Con := ⟨67, ⟨[(0, .s K14 [])], []⟩, ⟨[(0, .s K1 [])], []⟩, false, [], fun b_1 => g_spec_LetterOf b_1⟩
noncomputable def e_spec_NameOk : Con := ⟨30, ⟨[(0, .s K0 [])], []⟩, ⟨[(0, .s K7 [])], []⟩, false, [], fun s_1 => g_spec_NameOk s_1⟩
noncomputable def e_spec_l08Names : Con := ⟨120, ⟨[], []⟩, ⟨[(0, .s K23 [(0, 0)])], [.o]⟩, false, [], fun _ => g_spec_l08Names⟩
noncomputable def e_spec_PrimName : Con := ⟨101, ⟨[(0, .s K1 [])], []⟩, ⟨[(0, .s K0 [])], []⟩, false, [], fun k_1 => g_spec_PrimName k_1⟩
noncomputable def e_spec_l09Op : Con := ⟨65, ⟨[(0, .s K3 [])], []⟩, ⟨[(0, .s K7 [])], []⟩, false, [], fun o_1 => g_spec_l09Op o_1⟩
noncomputable def e_spec_l09Open : Con := ⟨66, ⟨[(0, .s K4 [])], []⟩, ⟨[(0, .s K13 [(0, 0)]), (1, .s K7 [])], [.o]⟩, false, [], fun body_1 => g_spec_l09Open body_1⟩
noncomputable def e_spec_l13Defs : Con := ⟨28, ⟨[(0, .s K6 []), (1, .s K7 [])], []⟩, ⟨[(0, .s K7 [])], []⟩, false, [], fun (defs_1, vopen_2) => g_spec_l13Defs defs_1 vopen_2⟩
noncomputable def e_spec_l13Has : Con := ⟨29, ⟨[(0, .s K13 []), (1, .s K1 [])], []⟩, ⟨[(0, .s K7 [])], []⟩, false, [], fun (list_1, n_2) => g_spec_l13Has list_1 n_2⟩
noncomputable def e_spec_WorldOk : Con := ⟨11, ⟨[(0, .s K17 [])], []⟩, ⟨[(0, .s K7 [])], []⟩, false, [], fun w_1 => g_spec_WorldOk w_1⟩
noncomputable def e_spec_l04Num : Con := ⟨103, ⟨[(0, .s K2 []), (1, .s K7 []), (2, .s K11 []), (3, .s K11 [])], []⟩, ⟨[(0, .s K12 [(0, 0)])], [.o]⟩, false, [], fun (n_1, hex_2, short_3, long_4) => g_spec_l04Num n_1 hex_2 short_3 long_4⟩
noncomputable def e_spec_WidthOf : Con := ⟨147, ⟨[(0, .s K1 [])], []⟩, ⟨[(0, .s K1 [])], []⟩, false, [], fun k_1 => g_spec_WidthOf k_1⟩
noncomputable def e_spec_BitsOf : Con := ⟨148, ⟨[(0, .s K1 [])], []⟩, ⟨[(0, .s K11 [])], []⟩, false, [], fun k_1 => g_spec_BitsOf k_1⟩
noncomputable def e_spec_l03One : Con := ⟨137, ⟨[(0, .s K0 [])], []⟩, ⟨[(0, .s K11 []), (1, .s K1 [])], []⟩, false, [], fun s_1 => g_spec_l03One s_1⟩
noncomputable def e_spec_Pack : Con := ⟨121, ⟨[(0, .s K0 [])], []⟩, ⟨[(0, .s K12 [(0, 0)])], [.o]⟩, false, [], fun s_1 => g_spec_Pack s_1⟩
noncomputable def e_spec_l04Word : Con := ⟨104, ⟨[(0, .s K11 []), (1, .s K0 [])], []⟩, ⟨[(0, .s K12 [(0, 0)])], [.o]⟩, false, [], fun (tag_1, name_2) => g_spec_l04Word tag_1 name_2⟩
noncomputable def e_spec_l04Tag : Con := ⟨105, ⟨[(0, .s K1 [])], []⟩, ⟨[(0, .s K11 [])], []⟩, false, [], fun kind_1 => g_spec_l04Tag kind_1⟩
noncomputable def e_spec_CellsOf : Con := ⟨68, ⟨[(0, .s K18 [])], []⟩, ⟨[(0, .s K12 [(0, 0)])], [.o]⟩, false, [], fun it_1 => g_spec_CellsOf it_1⟩
noncomputable def e_spec_ItemOk : Con := ⟨31, ⟨[(0, .s K18 [])], []⟩, ⟨[(0, .s K7 [])], []⟩, false, [], fun it_1 => g_spec_ItemOk it_1⟩
noncomputable def e_spec_l07All : Con := ⟨33, ⟨[(0, .s K20 [])], []⟩, ⟨[(0, .s K19 [(0, 0)])], [.o]⟩, false, [], fun e_1 => g_spec_l07All e_1⟩
noncomputable def e_spec_Unparse : Con := ⟨69, ⟨[(0, .s K19 [])], []⟩, ⟨[(0, .s K12 [(0, 0)]), (1, .s K7 [])], [.o]⟩, false, [], fun list_1 => g_spec_Unparse list_1⟩
noncomputable def e_spec_l04Kind : Con := ⟨122, ⟨[(0, .s K11 [])], []⟩, ⟨[(0, .s K1 [])], []⟩, false, [], fun tag_1 => g_spec_l04Kind tag_1⟩
noncomputable def e_spec_Decode : Con := ⟨139, ⟨[(0, .s K11 []), (1, .s K1 [])], []⟩, ⟨[(0, .s K1 []), (1, .s K1 [])], []⟩, false, [], fun (bits_1, n_2) => g_spec_Decode bits_1 n_2⟩
noncomputable def e_spec_LetterAt : Con := ⟨140, ⟨[(0, .s K1 [])], []⟩, ⟨[(0, .s K14 [])], []⟩, false, [], fun k_1 => g_spec_LetterAt k_1⟩
noncomputable def e_spec_UnpackOne : Con := ⟨126, ⟨[(0, .s K11 [])], []⟩, ⟨[(0, .s K0 [])], []⟩, false, [], fun f_1 => g_spec_UnpackOne f_1⟩
noncomputable def e_spec_l03Same : Con := ⟨149, ⟨[(0, .s K12 []), (1, .s K12 [])], []⟩, ⟨[(0, .s K7 [])], []⟩, false, [], fun (a_1, b_2) => g_spec_l03Same a_1 b_2⟩
noncomputable def e_spec_Unpack : Con := ⟨138, ⟨[(0, .s K12 [])], []⟩, ⟨[(0, .s K0 []), (1, .s K7 [])], []⟩, false, [], fun list_1 => g_spec_Unpack list_1⟩
noncomputable def e_spec_l04Name : Con := ⟨123, ⟨[(0, .s K12 []), (1, .s K1 []), (2, .s K1 [])], []⟩, ⟨[(0, .s K18 []), (1, .s K1 [])], []⟩, false, [], fun (cells_1, i_2, kind_3) => g_spec_l04Name cells_1 i_2 kind_3⟩
noncomputable def e_spec_l04Number : Con := ⟨124, ⟨[(0, .s K12 []), (1, .s K1 [])], []⟩, ⟨[(0, .s K18 []), (1, .s K1 [])], []⟩, false, [], fun (cells_1, i_2) => g_spec_l04Number cells_1 i_2⟩
noncomputable def e_spec_FieldOk : Con := ⟨125, ⟨[(0, .s K11 [])], []⟩, ⟨[(0, .s K7 [])], []⟩, false, [], fun f_1 => g_spec_FieldOk f_1⟩
noncomputable def e_spec_l04Item : Con := ⟨106, ⟨[(0, .s K12 []), (1, .s K1 [])], []⟩, ⟨[(0, .s K18 []), (1, .s K1 [])], []⟩, false, [], fun (cells_1, i_2) => g_spec_l04Item cells_1 i_2⟩
noncomputable def e_spec_ParseCells : Con := ⟨71, ⟨[(0, .s K12 [])], []⟩, ⟨[(0, .s K19 [(0, 0)])], [.o]⟩, false, [], fun cells_1 => g_spec_ParseCells cells_1⟩
noncomputable def e_spec_l04Same : Con := ⟨70, ⟨[(0, .s K19 []), (1, .s K19 [])], []⟩, ⟨[(0, .s K7 [])], []⟩, false, [], fun (a_1, b_2) => g_spec_l04Same a_1 b_2⟩
noncomputable def e_spec_ListOk : Con := ⟨32, ⟨[(0, .s K19 [])], []⟩, ⟨[(0, .s K7 [])], []⟩, false, [], fun list_1 => g_spec_ListOk list_1⟩
noncomputable def e_spec_EdOk : Con := ⟨12, ⟨[(0, .s K20 [])], []⟩, ⟨[(0, .s K7 [])], []⟩, false, [], fun e_1 => g_spec_EdOk e_1⟩
noncomputable def e_spec_l18NoEd : Con := ⟨13, ⟨[(0, .s K20 [])], []⟩, ⟨[(0, .s K7 [])], []⟩, false, [], fun e_1 => g_spec_l18NoEd e_1⟩
noncomputable def e_spec_SessionOk : Con := ⟨5, ⟨[(0, .s K21 [])], []⟩, ⟨[(0, .s K7 [])], []⟩, false, [], fun s_1 => g_spec_SessionOk s_1⟩
noncomputable def e_impl_StoreOk : Con := ⟨49, ⟨[(0, .s K22 [])], []⟩, ⟨[(0, .s K7 [])], []⟩, false, [], fun s_1 => g_impl_StoreOk s_1⟩
noncomputable def e_impl_within : Con := ⟨42, ⟨[(0, .s K1 []), (1, .s K1 []), (2, .s K1 [])], []⟩, ⟨[(0, .s K7 [])], []⟩, false, [], fun (n_1, low_2, high_3) => g_impl_within n_1 low_2 high_3⟩
noncomputable def e_slices_Index_int : Con := ⟨84, ⟨[(0, .s K13 []), (1, .s K1 [])], []⟩, ⟨[(0, .s K1 [])], []⟩, false, [], fun (s_1, v_2) => g_slices_Index_int s_1 v_2⟩
noncomputable def e_slices_Contains_int : Con := ⟨43, ⟨[(0, .s K13 []), (1, .s K1 [])], []⟩, ⟨[(0, .s K7 [])], []⟩, false, [], fun (s_1, v_2) => g_slices_Contains_int s_1 v_2⟩
noncomputable def e_impl_StOk : Con := ⟨38, ⟨[(0, .s K16 [])], []⟩, ⟨[(0, .s K7 [])], []⟩, false, [], fun st_1 => g_impl_StOk st_1⟩
noncomputable def e_strings_Fields : Con := ⟨141, ⟨[(0, .s K0 [])], []⟩, ⟨[(0, .s K23 [(0, 0)])], [.o]⟩, false, [], fun s_1 => g_strings_Fields s_1⟩
noncomputable def e_impl_prims : Con := ⟨128, ⟨[], []⟩, ⟨[(0, .s K23 [(0, 0)])], [.o]⟩, false, [], fun _ => g_impl_prims⟩
noncomputable def e_impl_PrimName : Con := ⟨109, ⟨[(0, .s K1 [])], []⟩, ⟨[(0, .s K0 [])], []⟩, false, [], fun k_1 => g_impl_PrimName k_1⟩
noncomputable def e_impl_opOk : Con := ⟨80, ⟨[(0, .s K3 [])], []⟩, ⟨[(0, .s K7 [])], []⟩, false, [], fun o_1 => g_impl_opOk o_1⟩
noncomputable def e_impl_openIn : Con := ⟨39, ⟨[(0, .s K4 [])], []⟩, ⟨[(0, .s K13 [(0, 0)]), (1, .s K7 [])], [.o]⟩, false, [], fun body_1 => g_impl_openIn body_1⟩
noncomputable def e_impl_letters : Con := ⟨111, ⟨[], []⟩, ⟨[(0, .s K0 [])], []⟩, false, [], fun _ => g_impl_letters⟩
noncomputable def e_ibytealg_IndexByteString : Con := ⟨142, ⟨[(0, .s K0 []), (1, .s K14 [])], []⟩, ⟨[(0, .s K1 [])], []⟩, false, [], fun a => g_ibytealg_IndexByteString a.1 a.2⟩
noncomputable def e_istringslite_IndexByte : Con := ⟨129, ⟨[(0, .s K0 []), (1, .s K14 [])], []⟩, ⟨[(0, .s K1 [])], []⟩, false, [], fun (s_1, c_2) => g_istringslite_IndexByte s_1 c_2⟩
noncomputable def e_strings_IndexByte : Con := ⟨110, ⟨[(0, .s K0 []), (1, .s K14 [])], []⟩, ⟨[(0, .s K1 [])], []⟩, false, [], fun (s_1, c_2) => g_strings_IndexByte s_1 c_2⟩
noncomputable def e_impl_LetterOf : Con := ⟨81, ⟨[(0, .s K14 [])], []⟩, ⟨[(0, .s K1 [])], []⟩, false, [], fun b_1 => g_impl_LetterOf b_1⟩
noncomputable def e_impl_NameOk : Con := ⟨40, ⟨[(0, .s K0 [])], []⟩, ⟨[(0, .s K7 [])], []⟩, false, [], fun s_1 => g_impl_NameOk s_1⟩
noncomputable def e_impl_callsBelowc1 : Con := ⟨83, ⟨[(0, .s K3 []), (1, .c (.one (.ptr 0 0)))], [.v K1 []]⟩, ⟨[(0, .s K7 [])], [.f]⟩, false, [0], fun (o_1, a_2) => g_impl_callsBelowc1 o_1 a_2⟩
noncomputable def e_slices_IndexFunc_Op_impl_callsBelowc1 : Con := ⟨112, ⟨[(0, .s K4 []), (1, .c (.one (.fn 83 [(0, 0)])))], [.v K1 []]⟩, ⟨[(0, .s K1 [])], [.f]⟩, false, [0], fun (s_1, c_2) => g_slices_IndexFunc_Op_impl_callsBelowc1 s_1 c_2⟩
noncomputable def e_slices_ContainsFunc_Op_impl_callsBelowc1 : Con := ⟨82, ⟨[(0, .s K4 []), (1, .c (.one (.fn 83 [(0, 0)])))], [.v K1 []]⟩, ⟨[(0, .s K7 [])], [.f]⟩, false, [0], fun (s_1, c_2) => g_slices_ContainsFunc_Op_impl_callsBelowc1 s_1 c_2⟩
noncomputable def e_impl_callsBelow : Con := ⟨41, ⟨[(0, .s K4 []), (1, .s K1 [])], []⟩, ⟨[(0, .s K7 [])], []⟩, false, [], fun (body_1, n_2) => g_impl_callsBelow body_1 n_2⟩
noncomputable def e_impl_WorldOk : Con := ⟨17, ⟨[(0, .s K17 [])], []⟩, ⟨[(0, .s K7 [])], []⟩, false, [], fun w_1 => g_impl_WorldOk w_1⟩
noncomputable def e_impl_nameTag : Con := ⟨113, ⟨[(0, .s K1 [])], []⟩, ⟨[(0, .s K11 [])], []⟩, false, [], fun kind_1 => g_impl_nameTag kind_1⟩
noncomputable def e_impl_WidthOf : Con := ⟨143, ⟨[(0, .s K1 [])], []⟩, ⟨[(0, .s K1 [])], []⟩, false, [], fun k_1 => g_impl_WidthOf k_1⟩
noncomputable def e_impl_BitsOf : Con := ⟨144, ⟨[(0, .s K1 [])], []⟩, ⟨[(0, .s K11 [])], []⟩, false, [], fun k_1 => g_impl_BitsOf k_1⟩
noncomputable def e_impl_PackOne : Con := ⟨130, ⟨[(0, .s K0 [])], []⟩, ⟨[(0, .s K11 []), (1, .s K1 [])], []⟩, false, [], fun s_1 => g_impl_PackOne s_1⟩
noncomputable def e_impl_Pack : Con := ⟨114, ⟨[(0, .s K0 [])], []⟩, ⟨[(0, .s K12 [(0, 0)])], [.o]⟩, false, [], fun s_1 => g_impl_Pack s_1⟩
noncomputable def e_impl_numberCells : Con := ⟨115, ⟨[(0, .s K2 []), (1, .s K7 []), (2, .s K11 []), (3, .s K11 [])], []⟩, ⟨[(0, .s K12 [(0, 0)])], [.o]⟩, false, [], fun (n_1, hex_2, short_3, long_4) => g_impl_numberCells n_1 hex_2 short_3 long_4⟩
noncomputable def e_impl_CellsOf : Con := ⟨86, ⟨[(0, .s K18 [])], []⟩, ⟨[(0, .s K12 [(0, 0)])], [.o]⟩, false, [], fun it_1 => g_impl_CellsOf it_1⟩
noncomputable def e_impl_ItemOk : Con := ⟨46, ⟨[(0, .s K18 [])], []⟩, ⟨[(0, .s K7 [])], []⟩, false, [], fun it_1 => g_impl_ItemOk it_1⟩
noncomputable def e_impl_EdOkc1 : Con := ⟨45, ⟨[(0, .s K18 [])], []⟩, ⟨[(0, .s K7 [])], []⟩, false, [], fun it_1 => g_impl_EdOkc1 it_1⟩
noncomputable def e_slices_IndexFunc_Item_impl_EdOkc1 : Con := ⟨85, ⟨[(0, .s K19 []), (1, .c (.one (.fn 45 [])))], []⟩, ⟨[(0, .s K1 [])], []⟩, false, [], fun s_1 => g_slices_IndexFunc_Item_impl_EdOkc1 s_1⟩
noncomputable def e_slices_ContainsFunc_Item_impl_EdOkc1 : Con := ⟨44, ⟨[(0, .s K19 []), (1, .c (.one (.fn 45 [])))], []⟩, ⟨[(0, .s K7 [])], []⟩, false, [], fun s_1 => g_slices_ContainsFunc_Item_impl_EdOkc1 s_1⟩
noncomputable def e_slices_Grow_Item_emp : Con := ⟨117, ⟨[(0, .c (.one (.emp))), (1, .s K1 [])], []⟩, ⟨[(0, .s K19 [(0, 0)])], [.o]⟩, false, [], fun n_1 => g_slices_Grow_Item_emp n_1⟩
noncomputable def e_slices_Concat_Item : Con := ⟨90, ⟨[(0, .s K24 [])], []⟩, ⟨[(0, .s K19 [(0, 0)])], [.o]⟩, false, [], fun slices_1 => g_slices_Concat_Item slices_1⟩
noncomputable def e_impl_edItems : Con := ⟨48, ⟨[(0, .s K20 [])], []⟩, ⟨[(0, .s K19 [(0, 0)])], [.o]⟩, false, [], fun e_1 => g_impl_edItems e_1⟩
noncomputable def e_impl_Unparse : Con := ⟨87, ⟨[(0, .s K19 [])], []⟩, ⟨[(0, .s K12 [(0, 0)]), (1, .s K7 [])], [.o]⟩, false, [], fun list_1 => g_impl_Unparse list_1⟩
noncomputable def e_impl_Decode : Con := ⟨145, ⟨[(0, .s K11 []), (1, .s K1 [])], []⟩, ⟨[(0, .s K1 []), (1, .s K1 [])], []⟩, false, [], fun (bits_1, n_2) => g_impl_Decode bits_1 n_2⟩
noncomputable def e_impl_LetterAt : Con := ⟨146, ⟨[(0, .s K1 [])], []⟩, ⟨[(0, .s K14 [])], []⟩, false, [], fun k_1 => g_impl_LetterAt k_1⟩
noncomputable def e_impl_UnpackOne : Con := ⟨135, ⟨[(0, .s K11 [])], []⟩, ⟨[(0, .s K0 [])], []⟩, false, [], fun f_1 => g_impl_UnpackOne f_1⟩
noncomputable def e_slices_Equal_uint32 : Con := ⟨133, ⟨[(0, .s K12 []), (1, .s K12 [])], []⟩, ⟨[(0, .s K7 [])], []⟩, false, [], fun (s1_1, s2_2) => g_slices_Equal_uint32 s1_1 s2_2⟩
noncomputable def e_impl_Unpack : Con := ⟨131, ⟨[(0, .s K12 [])], []⟩, ⟨[(0, .s K0 []), (1, .s K7 [])], []⟩, false, [], fun list_1 => g_impl_Unpack list_1⟩
noncomputable def e_impl_nameKind : Con := ⟨132, ⟨[(0, .s K11 [])], []⟩, ⟨[(0, .s K1 [])], []⟩, false, [], fun tag_1 => g_impl_nameKind tag_1⟩
noncomputable def e_impl_FieldOk : Con := ⟨134, ⟨[(0, .s K11 [])], []⟩, ⟨[(0, .s K7 [])], []⟩, false, [], fun f_1 => g_impl_FieldOk f_1⟩
noncomputable def e_impl_parseOne : Con := ⟨116, ⟨[(0, .s K12 [])], []⟩, ⟨[(0, .s K18 [])], []⟩, false, [], fun cells_1 => g_impl_parseOne cells_1⟩
noncomputable def e_impl_ParseCells : Con := ⟨89, ⟨[(0, .s K12 [])], []⟩, ⟨[(0, .s K19 [(0, 0)])], [.o]⟩, false, [], fun cells_1 => g_impl_ParseCells cells_1⟩
noncomputable def e_slices_Equal_Item : Con := ⟨88, ⟨[(0, .s K19 []), (1, .s K19 [])], []⟩, ⟨[(0, .s K7 [])], []⟩, false, [], fun (s1_1, s2_2) => g_slices_Equal_Item s1_1 s2_2⟩
noncomputable def e_impl_ListOk : Con := ⟨47, ⟨[(0, .s K19 [])], []⟩, ⟨[(0, .s K7 [])], []⟩, false, [], fun list_1 => g_impl_ListOk list_1⟩
noncomputable def e_impl_EdOk : Con := ⟨18, ⟨[(0, .s K20 [])], []⟩, ⟨[(0, .s K7 [])], []⟩, false, [], fun e_1 => g_impl_EdOk e_1⟩
noncomputable def e_impl_Session_store : Con := ⟨20, ⟨[(0, .c (.one (.ptr 0 0)))], [.v K21 []]⟩, ⟨[(0, .s K22 [])], [.f]⟩, true, [0], fun s_1 => g_impl_Session_store s_1⟩
noncomputable def e_impl_hasBlocksc1 : Con := ⟨51, ⟨[(0, .s K1 []), (1, .c (.one (.ptr 0 0)))], [.v K22 []]⟩, ⟨[(0, .s K7 [])], [.f]⟩, false, [0], fun (b_1, a_2) => g_impl_hasBlocksc1 b_1 a_2⟩
noncomputable def e_slices_IndexFunc_int_impl_hasBlocksc1 : Con := ⟨91, ⟨[(0, .s K13 []), (1, .c (.one (.fn 51 [(0, 0)])))], [.v K22 []]⟩, ⟨[(0, .s K1 [])], [.f]⟩, false, [0], fun (s_1, c_2) => g_slices_IndexFunc_int_impl_hasBlocksc1 s_1 c_2⟩
noncomputable def e_slices_ContainsFunc_int_impl_hasBlocksc1 : Con := ⟨50, ⟨[(0, .s K13 []), (1, .c (.one (.fn 51 [(0, 0)])))], [.v K22 []]⟩, ⟨[(0, .s K7 [])], [.f]⟩, false, [0], fun (s_1, c_2) => g_slices_ContainsFunc_int_impl_hasBlocksc1 s_1 c_2⟩
noncomputable def e_impl_hasBlocks : Con := ⟨19, ⟨[(0, .s K22 []), (1, .s K13 [])], []⟩, ⟨[(0, .s K7 [])], []⟩, false, [], fun (s_1, list_2) => g_impl_hasBlocks s_1 list_2⟩
noncomputable def e_impl_SessionOk : Con := ⟨7, ⟨[(0, .s K21 [])], []⟩, ⟨[(0, .s K7 [])], []⟩, false, [], fun s_1 => g_impl_SessionOk s_1⟩
noncomputable def e_laws_eqOp : Con := ⟨136, ⟨[(0, .s K3 []), (1, .s K3 [])], []⟩, ⟨[(0, .s K7 [])], []⟩, false, [], fun (a_1, b_2) => g_laws_eqOp a_1 b_2⟩
noncomputable def e_laws_eqOpS : Con := ⟨118, ⟨[(0, .s K4 []), (1, .s K4 [])], []⟩, ⟨[(0, .s K7 [])], []⟩, false, [], fun (a_1, b_2) => g_laws_eqOpS a_1 b_2⟩
noncomputable def e_laws_eqDef : Con := ⟨92, ⟨[(0, .s K5 []), (1, .s K5 [])], []⟩, ⟨[(0, .s K7 [])], []⟩, false, [], fun (a_1, b_2) => g_laws_eqDef a_1 b_2⟩
noncomputable def e_laws_eqDefS : Con := ⟨52, ⟨[(0, .s K6 []), (1, .s K6 [])], []⟩, ⟨[(0, .s K7 [])], []⟩, false, [], fun (a_1, b_2) => g_laws_eqDefS a_1 b_2⟩
noncomputable def e_laws_eqEntry : Con := ⟨93, ⟨[(0, .s K8 []), (1, .s K8 [])], []⟩, ⟨[(0, .s K7 [])], []⟩, false, [], fun (a_1, b_2) => g_laws_eqEntry a_1 b_2⟩
noncomputable def e_laws_eqEntryS : Con := ⟨53, ⟨[(0, .s K9 []), (1, .s K9 [])], []⟩, ⟨[(0, .s K7 [])], []⟩, false, [], fun (a_1, b_2) => g_laws_eqEntryS a_1 b_2⟩
noncomputable def e_laws_eqInt32S : Con := ⟨94, ⟨[(0, .s K10 []), (1, .s K10 [])], []⟩, ⟨[(0, .s K7 [])], []⟩, false, [], fun (a_1, b_2) => g_laws_eqInt32S a_1 b_2⟩
noncomputable def e_laws_eqSlot : Con := ⟨119, ⟨[(0, .s K3 []), (1, .s K3 [])], []⟩, ⟨[(0, .s K7 [])], []⟩, false, [], fun (a_1, b_2) => g_laws_eqSlot a_1 b_2⟩
noncomputable def e_laws_eqSlotS : Con := ⟨95, ⟨[(0, .s K4 []), (1, .s K4 [])], []⟩, ⟨[(0, .s K7 [])], []⟩, false, [], fun (a_1, b_2) => g_laws_eqSlotS a_1 b_2⟩
noncomputable def e_laws_eqUint32S : Con := ⟨96, ⟨[(0, .s K12 []), (1, .s K12 [])], []⟩, ⟨[(0, .s K7 [])], []⟩, false, [], fun (a_1, b_2) => g_laws_eqUint32S a_1 b_2⟩
noncomputable def e_laws_eqIntS : Con := ⟨97, ⟨[(0, .s K13 []), (1, .s K13 [])], []⟩, ⟨[(0, .s K7 [])], []⟩, false, [], fun (a_1, b_2) => g_laws_eqIntS a_1 b_2⟩
noncomputable def e_laws_eqByteS : Con := ⟨98, ⟨[(0, .s K15 []), (1, .s K15 [])], []⟩, ⟨[(0, .s K7 [])], []⟩, false, [], fun (a_1, b_2) => g_laws_eqByteS a_1 b_2⟩
noncomputable def e_laws_eqSt : Con := ⟨54, ⟨[(0, .s K16 []), (1, .s K16 [])], []⟩, ⟨[(0, .s K7 [])], []⟩, false, [], fun (a_1, b_2) => g_laws_eqSt a_1 b_2⟩
noncomputable def e_laws_eqWorld : Con := ⟨21, ⟨[(0, .s K17 []), (1, .s K17 [])], []⟩, ⟨[(0, .s K7 [])], []⟩, false, [], fun (a_1, b_2) => g_laws_eqWorld a_1 b_2⟩
noncomputable def e_laws_eqItem : Con := ⟨99, ⟨[(0, .s K18 []), (1, .s K18 [])], []⟩, ⟨[(0, .s K7 [])], []⟩, false, [], fun (a_1, b_2) => g_laws_eqItem a_1 b_2⟩
noncomputable def e_laws_eqItemS : Con := ⟨55, ⟨[(0, .s K19 []), (1, .s K19 [])], []⟩, ⟨[(0, .s K7 [])], []⟩, false, [], fun (a_1, b_2) => g_laws_eqItemS a_1 b_2⟩
noncomputable def e_laws_eqEd : Con := ⟨22, ⟨[(0, .s K20 []), (1, .s K20 [])], []⟩, ⟨[(0, .s K7 [])], []⟩, false, [], fun (a_1, b_2) => g_laws_eqEd a_1 b_2⟩
noncomputable def e_laws_eqSession : Con := ⟨8, ⟨[(0, .s K21 []), (1, .s K21 [])], []⟩, ⟨[(0, .s K7 [])], []⟩, false, [], fun (a_1, b_2) => g_laws_eqSession a_1 b_2⟩
noncomputable def e_laws_FnExactSessionOk : Con := ⟨3, ⟨[(0, .s K21 [])], []⟩, ⟨[(0, .s K7 [])], []⟩, false, [], fun aS_1 => g_laws_FnExactSessionOk aS_1⟩
abbrev CO (c : Con) : Prop := ConOk Tryz.prog c
abbrev CK (Γ : List Con) (n : Nat) (an : An) (f : Func) (e : Con) : Prop := AnOk TryzT Γ n an (bodyOf f) ∧ ∀ a, fnRun TryzT Γ an (bodyOf f) f.results.toList e.ro e.ps e.rs a = e.g a
theorem fnc {Γ : List Con} {n : Nat} {an : An} {fn : Func} {C : Con} (h : Tryz.prog.follows .mixedOrders = true → ∀ c ∈ Γ, CO c) (hf : Tryz.prog.funcs[C.f]? = some fn) (hk : CK Γ n an fn C) (h1 : (!(fn.name == "runtime.NumGoroutine") && okC fn.ntmps (bodyOf fn)) = true)
    (h2 : ∀ a, entB C n fn.ntmps a = true) (h3 : ∀ r, endB C fn.results.toList.length r = true) (hb : fn.body = some (bodyOf fn)) : CO C := by
  rw [Bool.and_eq_true, Bool.not_eq_true'] at h1
  exact fn_ok (P := fun _ => Tryz.prog) (n := n) TryzT_eq h hf hb h1.1 rfl rfl h1.2 rfl h2 h3 hk.1 fun a r e => (hk.2 a).trans e
end Go.Proofs.YtmlkglhpaneepaaGreatDoor
namespace Go.Proofs.YtmlkglhpaneepaaGreatDoor
open Go Go.Fm
set_option maxRecDepth 1000000
noncomputable def ane_laws_szOpS : An := .z
theorem ke_laws_szOpS : CK [] 0 ane_laws_szOpS Tryz.f100 e_laws_szOpS := ⟨trivial, fun _ => by kernel_rfl⟩
noncomputable def ane_laws_szDef : An := .z
theorem ke_laws_szDef : CK [e_laws_szOpS] 0 ane_laws_szDef Tryz.f56 e_laws_szDef := ⟨trivial, fun _ => by kernel_rfl⟩
noncomputable def ane_laws_szDefS : An := .q .z (.q .z (.q .z (.m [(.normal, ⟨[(1, .s K1 [])], []⟩), (.ret, ⟨[(4, .s K1 [])], []⟩)] [0] [] (.q .z (.b (.l ⟨[(0, .s K6 [])], []⟩ ⟨[(1, .s K1 []), (5, .s K1 [])], []⟩ [(.exit 0, ⟨[(1, .s K1 [])], []⟩), (.ret, ⟨[(4, .s K1 [])], []⟩)] (fun a_1 k (left_6, i_7) => g_laws_szDefS_l0 a_1 k left_6 i_7) .z))) .z)))
theorem ke_laws_szDefS : CK [e_laws_szDef] 0 ane_laws_szDefS Tryz.f23 e_laws_szDefS := ⟨⟨trivial, ⟨trivial, ⟨trivial, ⟨⟨trivial, ⟨fun _ _ => rfl, fun _ _ _ _ => by kernel_rfl, trivial⟩⟩, trivial⟩⟩⟩⟩, fun _ => by kernel_rfl⟩
noncomputable def ane_laws_szEntry : An := .z
theorem ke_laws_szEntry : CK [] 0 ane_laws_szEntry Tryz.f57 e_laws_szEntry := ⟨trivial, fun _ => by kernel_rfl⟩
noncomputable def ane_laws_szEntryS : An := .q .z (.q .z (.q .z (.m [(.normal, ⟨[(1, .s K1 [])], []⟩), (.ret, ⟨[(4, .s K1 [])], []⟩)] [0] [] (.q .z (.b (.l ⟨[(0, .s K9 [])], []⟩ ⟨[(1, .s K1 []), (5, .s K1 [])], []⟩ [(.exit 0, ⟨[(1, .s K1 [])], []⟩), (.ret, ⟨[(4, .s K1 [])], []⟩)] (fun a_1 k (left_6, i_7) => g_laws_szEntryS_l0 a_1 k left_6 i_7) .z))) .z)))
theorem ke_laws_szEntryS : CK [e_laws_szEntry] 0 ane_laws_szEntryS Tryz.f24 e_laws_szEntryS := ⟨⟨trivial, ⟨trivial, ⟨trivial, ⟨⟨trivial, ⟨fun _ _ => rfl, fun _ _ _ _ => by kernel_rfl, trivial⟩⟩, trivial⟩⟩⟩⟩, fun _ => by kernel_rfl⟩
noncomputable def ane_laws_szInt32S : An := .z
theorem ke_laws_szInt32S : CK [] 0 ane_laws_szInt32S Tryz.f58 e_laws_szInt32S := ⟨trivial, fun _ => by kernel_rfl⟩
noncomputable def ane_laws_szSlotS : An := .z
theorem ke_laws_szSlotS : CK [] 0 ane_laws_szSlotS Tryz.f59 e_laws_szSlotS := ⟨trivial, fun _ => by kernel_rfl⟩
noncomputable def ane_laws_szUint32S : An := .z
theorem ke_laws_szUint32S : CK [] 0 ane_laws_szUint32S Tryz.f60 e_laws_szUint32S := ⟨trivial, fun _ => by kernel_rfl⟩
end Go.Proofs.YtmlkglhpaneepaaGreatDoor
namespace Go.Proofs.YtmlkglhpaneepaaGreatDoor
open Go Go.Fm
set_option maxRecDepth 1000000
noncomputable def ane_laws_szIntS : An := .z
theorem ke_laws_szIntS : CK [] 0 ane_laws_szIntS Tryz.f61 e_laws_szIntS := ⟨trivial, fun _ => by kernel_rfl⟩
noncomputable def ane_laws_szByteS : An := .z
theorem ke_laws_szByteS : CK [] 0 ane_laws_szByteS Tryz.f62 e_laws_szByteS := ⟨trivial, fun _ => by kernel_rfl⟩
noncomputable def ane_laws_szSt : An := .z
theorem ke_laws_szSt : CK [e_laws_szInt32S, e_laws_szSlotS, e_laws_szUint32S, e_laws_szIntS, e_laws_szByteS] 0 ane_laws_szSt Tryz.f25 e_laws_szSt := ⟨trivial, fun _ => by kernel_rfl⟩
noncomputable def ane_laws_szWorld : An := .z
theorem ke_laws_szWorld : CK [e_laws_szDefS, e_laws_szEntryS, e_laws_szSt] 0 ane_laws_szWorld Tryz.f9 e_laws_szWorld := ⟨trivial, fun _ => by kernel_rfl⟩
noncomputable def ane_laws_szItem : An := .z
theorem ke_laws_szItem : CK [] 0 ane_laws_szItem Tryz.f63 e_laws_szItem := ⟨trivial, fun _ => by kernel_rfl⟩
noncomputable def ane_laws_szItemS : An := .q .z (.q .z (.q .z (.m [(.normal, ⟨[(1, .s K1 [])], []⟩), (.ret, ⟨[(4, .s K1 [])], []⟩)] [0] [] (.q .z (.b (.l ⟨[(0, .s K19 [])], []⟩ ⟨[(1, .s K1 []), (5, .s K1 [])], []⟩ [(.exit 0, ⟨[(1, .s K1 [])], []⟩), (.ret, ⟨[(4, .s K1 [])], []⟩)] (fun a_1 k (left_6, i_7) => g_laws_szItemS_l0 a_1 k left_6 i_7) .z))) .z)))
theorem ke_laws_szItemS : CK [e_laws_szItem] 0 ane_laws_szItemS Tryz.f26 e_laws_szItemS := ⟨⟨trivial, ⟨trivial, ⟨trivial, ⟨⟨trivial, ⟨fun _ _ => rfl, fun _ _ _ _ => by kernel_rfl, trivial⟩⟩, trivial⟩⟩⟩⟩, fun _ => by kernel_rfl⟩
noncomputable def ane_laws_szEd : An := .z
theorem ke_laws_szEd : CK [e_laws_szItemS] 0 ane_laws_szEd Tryz.f10 e_laws_szEd := ⟨trivial, fun _ => by kernel_rfl⟩
noncomputable def ane_laws_szSession : An := .z
theorem ke_laws_szSession : CK [e_laws_szWorld, e_laws_szEd] 0 ane_laws_szSession Tryz.f4 e_laws_szSession := ⟨trivial, fun _ => by kernel_rfl⟩
end Go.Proofs.YtmlkglhpaneepaaGreatDoor
namespace Go.Proofs.YtmlkglhpaneepaaGreatDoor
open Go Go.Fm
set_option maxRecDepth 1000000
noncomputable def ane_laws_toOp : An := .z
theorem ke_laws_toOp : CK [] 0 ane_laws_toOp Tryz.f127 e_laws_toOp := ⟨trivial, fun _ => by kernel_rfl⟩
noncomputable def ane_laws_toOpS : An := .q .z (.q .z (.m [(.normal, ⟨[(3, .s K4 [(0, 0)])], [.o]⟩)] [0, 2] [] (.q .z (.b (.l ⟨[(0, .s K4 []), (2, .c (.one (.emp)))], [.n]⟩ ⟨[(3, .s K4 [(0, 0)]), (4, .s K1 [])], [.o]⟩ [(.exit 0, ⟨[(3, .s K4 [(0, 0)])], [.o]⟩)] (fun a_1 k (out_5, i_6) => g_laws_toOpS_l0 a_1 k out_5 i_6) .z))) .z))
theorem ke_laws_toOpS : CK [e_laws_toOp] 0 ane_laws_toOpS Tryz.f107 e_laws_toOpS := ⟨⟨trivial, ⟨trivial, ⟨⟨trivial, ⟨fun _ _ => rfl, fun _ _ _ _ => by kernel_rfl, trivial⟩⟩, trivial⟩⟩⟩, fun _ => by kernel_rfl⟩
noncomputable def ane_laws_toDef_imm : An := .z
theorem ke_laws_toDef_imm : CK [e_laws_toOpS] 0 ane_laws_toDef_imm Tryz.f72 e_laws_toDef_imm := ⟨trivial, fun _ => by kernel_rfl⟩
noncomputable def ane_laws_toDefS : An := .q .z (.q .z (.m [(.normal, ⟨[(3, .s K6 [(0, 0)])], [.o]⟩)] [0, 2] [] (.q .z (.b (.l ⟨[(0, .s K6 []), (2, .c (.one (.emp)))], [.n]⟩ ⟨[(3, .s K6 [(0, 0)]), (4, .s K1 [])], [.o]⟩ [(.exit 0, ⟨[(3, .s K6 [(0, 0)])], [.o]⟩)] (fun a_1 k (out_5, i_6) => g_laws_toDefS_l0 a_1 k out_5 i_6) .z))) .z))
theorem ke_laws_toDefS : CK [e_laws_toDef_imm] 0 ane_laws_toDefS Tryz.f34 e_laws_toDefS := ⟨⟨trivial, ⟨trivial, ⟨⟨trivial, ⟨fun _ _ => rfl, fun _ _ _ _ => by kernel_rfl, trivial⟩⟩, trivial⟩⟩⟩, fun _ => by kernel_rfl⟩
noncomputable def ane_laws_toEntry : An := .z
theorem ke_laws_toEntry : CK [] 0 ane_laws_toEntry Tryz.f73 e_laws_toEntry := ⟨trivial, fun _ => by kernel_rfl⟩
noncomputable def ane_laws_toEntryS : An := .q .z (.q .z (.m [(.normal, ⟨[(3, .s K9 [(0, 0)])], [.o]⟩)] [0, 2] [] (.q .z (.b (.l ⟨[(0, .s K9 []), (2, .c (.one (.emp)))], [.n]⟩ ⟨[(3, .s K9 [(0, 0)]), (4, .s K1 [])], [.o]⟩ [(.exit 0, ⟨[(3, .s K9 [(0, 0)])], [.o]⟩)] (fun a_1 k (out_5, i_6) => g_laws_toEntryS_l0 a_1 k out_5 i_6) .z))) .z))
theorem ke_laws_toEntryS : CK [e_laws_toEntry] 0 ane_laws_toEntryS Tryz.f35 e_laws_toEntryS := ⟨⟨trivial, ⟨trivial, ⟨⟨trivial, ⟨fun _ _ => rfl, fun _ _ _ _ => by kernel_rfl, trivial⟩⟩, trivial⟩⟩⟩, fun _ => by kernel_rfl⟩
noncomputable def ane_laws_toInt32S : An := .q .z (.q .z (.m [(.normal, ⟨[(3, .s K10 [(0, 0)])], [.o]⟩)] [0, 2] [] (.q .z (.b (.l ⟨[(0, .s K10 []), (2, .c (.one (.emp)))], [.n]⟩ ⟨[(3, .s K10 [(0, 0)]), (4, .s K1 [])], [.o]⟩ [(.exit 0, ⟨[(3, .s K10 [(0, 0)])], [.o]⟩)] (fun a_1 k (out_5, i_6) => g_laws_toInt32S_l0 a_1 k out_5 i_6) .z))) .z))
theorem ke_laws_toInt32S : CK [] 0 ane_laws_toInt32S Tryz.f74 e_laws_toInt32S := ⟨⟨trivial, ⟨trivial, ⟨⟨trivial, ⟨fun _ _ => rfl, fun _ _ _ _ => by kernel_rfl, trivial⟩⟩, trivial⟩⟩⟩, fun _ => by kernel_rfl⟩
end Go.Proofs.YtmlkglhpaneepaaGreatDoor
namespace Go.Proofs.YtmlkglhpaneepaaGreatDoor
open Go Go.Fm
set_option maxRecDepth 1000000
noncomputable def ane_laws_toSlot : An := .z
theorem ke_laws_toSlot : CK [] 0 ane_laws_toSlot Tryz.f108 e_laws_toSlot := ⟨trivial, fun _ => by kernel_rfl⟩
noncomputable def ane_laws_toSlotS : An := .q .z (.q .z (.m [(.normal, ⟨[(3, .s K4 [(0, 0)])], [.o]⟩)] [0, 2] [] (.q .z (.b (.l ⟨[(0, .s K4 []), (2, .c (.one (.emp)))], [.n]⟩ ⟨[(3, .s K4 [(0, 0)]), (4, .s K1 [])], [.o]⟩ [(.exit 0, ⟨[(3, .s K4 [(0, 0)])], [.o]⟩)] (fun a_1 k (out_5, i_6) => g_laws_toSlotS_l0 a_1 k out_5 i_6) .z))) .z))
theorem ke_laws_toSlotS : CK [e_laws_toSlot] 0 ane_laws_toSlotS Tryz.f75 e_laws_toSlotS := ⟨⟨trivial, ⟨trivial, ⟨⟨trivial, ⟨fun _ _ => rfl, fun _ _ _ _ => by kernel_rfl, trivial⟩⟩, trivial⟩⟩⟩, fun _ => by kernel_rfl⟩
noncomputable def ane_laws_toUint32S : An := .q .z (.q .z (.m [(.normal, ⟨[(3, .s K12 [(0, 0)])], [.o]⟩)] [0, 2] [] (.q .z (.b (.l ⟨[(0, .s K12 []), (2, .c (.one (.emp)))], [.n]⟩ ⟨[(3, .s K12 [(0, 0)]), (4, .s K1 [])], [.o]⟩ [(.exit 0, ⟨[(3, .s K12 [(0, 0)])], [.o]⟩)] (fun a_1 k (out_5, i_6) => g_laws_toUint32S_l0 a_1 k out_5 i_6) .z))) .z))
theorem ke_laws_toUint32S : CK [] 0 ane_laws_toUint32S Tryz.f76 e_laws_toUint32S := ⟨⟨trivial, ⟨trivial, ⟨⟨trivial, ⟨fun _ _ => rfl, fun _ _ _ _ => by kernel_rfl, trivial⟩⟩, trivial⟩⟩⟩, fun _ => by kernel_rfl⟩
noncomputable def ane_laws_toIntS : An := .q .z (.q .z (.m [(.normal, ⟨[(3, .s K13 [(0, 0)])], [.o]⟩)] [0, 2] [] (.q .z (.b (.l ⟨[(0, .s K13 []), (2, .c (.one (.emp)))], [.n]⟩ ⟨[(3, .s K13 [(0, 0)]), (4, .s K1 [])], [.o]⟩ [(.exit 0, ⟨[(3, .s K13 [(0, 0)])], [.o]⟩)] (fun a_1 k (out_5, i_6) => g_laws_toIntS_l0 a_1 k out_5 i_6) .z))) .z))
theorem ke_laws_toIntS : CK [] 0 ane_laws_toIntS Tryz.f77 e_laws_toIntS := ⟨⟨trivial, ⟨trivial, ⟨⟨trivial, ⟨fun _ _ => rfl, fun _ _ _ _ => by kernel_rfl, trivial⟩⟩, trivial⟩⟩⟩, fun _ => by kernel_rfl⟩
noncomputable def ane_laws_toByteS : An := .q .z (.q .z (.m [(.normal, ⟨[(3, .s K15 [(0, 0)])], [.o]⟩)] [0, 2] [] (.q .z (.b (.l ⟨[(0, .s K15 []), (2, .c (.one (.emp)))], [.n]⟩ ⟨[(3, .s K15 [(0, 0)]), (4, .s K1 [])], [.o]⟩ [(.exit 0, ⟨[(3, .s K15 [(0, 0)])], [.o]⟩)] (fun a_1 k (out_5, i_6) => g_laws_toByteS_l0 a_1 k out_5 i_6) .z))) .z))
theorem ke_laws_toByteS : CK [] 0 ane_laws_toByteS Tryz.f78 e_laws_toByteS := ⟨⟨trivial, ⟨trivial, ⟨⟨trivial, ⟨fun _ _ => rfl, fun _ _ _ _ => by kernel_rfl, trivial⟩⟩, trivial⟩⟩⟩, fun _ => by kernel_rfl⟩
noncomputable def ane_laws_toSt : An := .z
theorem ke_laws_toSt : CK [e_laws_toInt32S, e_laws_toSlotS, e_laws_toUint32S, e_laws_toIntS, e_laws_toByteS] 0 ane_laws_toSt Tryz.f36 e_laws_toSt := ⟨trivial, fun _ => by kernel_rfl⟩
noncomputable def ane_laws_toWorld : An := .z
theorem ke_laws_toWorld : CK [e_laws_toDefS, e_laws_toEntryS, e_laws_toSt] 0 ane_laws_toWorld Tryz.f15 e_laws_toWorld := ⟨trivial, fun _ => by kernel_rfl⟩
noncomputable def ane_laws_toItem : An := .z
theorem ke_laws_toItem : CK [] 0 ane_laws_toItem Tryz.f79 e_laws_toItem := ⟨trivial, fun _ => by kernel_rfl⟩
end Go.Proofs.YtmlkglhpaneepaaGreatDoor
namespace Go.Proofs.YtmlkglhpaneepaaGreatDoor
open Go Go.Fm
set_option maxRecDepth 1000000
noncomputable def ane_laws_toItemS : An := .q .z (.q .z (.m [(.normal, ⟨[(3, .s K19 [(0, 0)])], [.o]⟩)] [0, 2] [] (.q .z (.b (.l ⟨[(0, .s K19 []), (2, .c (.one (.emp)))], [.n]⟩ ⟨[(3, .s K19 [(0, 0)]), (4, .s K1 [])], [.o]⟩ [(.exit 0, ⟨[(3, .s K19 [(0, 0)])], [.o]⟩)] (fun a_1 k (out_5, i_6) => g_laws_toItemS_l0 a_1 k out_5 i_6) .z))) .z))
theorem ke_laws_toItemS : CK [e_laws_toItem] 0 ane_laws_toItemS Tryz.f37 e_laws_toItemS := ⟨⟨trivial, ⟨trivial, ⟨⟨trivial, ⟨fun _ _ => rfl, fun _ _ _ _ => by kernel_rfl, trivial⟩⟩, trivial⟩⟩⟩, fun _ => by kernel_rfl⟩
noncomputable def ane_laws_toEd : An := .z
theorem ke_laws_toEd : CK [e_laws_toItemS] 0 ane_laws_toEd Tryz.f16 e_laws_toEd := ⟨trivial, fun _ => by kernel_rfl⟩
noncomputable def ane_laws_toSession : An := .z
theorem ke_laws_toSession : CK [e_laws_toWorld, e_laws_toEd] 0 ane_laws_toSession Tryz.f6 e_laws_toSession := ⟨trivial, fun _ => by kernel_rfl⟩
noncomputable def ane_spec_l01In : An := .z
theorem ke_spec_l01In : CK [] 0 ane_spec_l01In Tryz.f14 e_spec_l01In := ⟨trivial, fun _ => by kernel_rfl⟩
noncomputable def ane_spec_StoreOk : An := .z
theorem ke_spec_StoreOk : CK [] 0 ane_spec_StoreOk Tryz.f64 e_spec_StoreOk := ⟨trivial, fun _ => by kernel_rfl⟩
noncomputable def ane_spec_StOk : An := .q .z (.q (.m [(.normal, ⟨[(39, .s K7 [])], [.f]⟩)] [1, 2] [0] .z .z) (.m [(.normal, ⟨[], [.f]⟩), (.ret, ⟨[(2, .s K7 [])], [.f]⟩)] [1] [0] (.q .z (.b (.l ⟨[(1, .c (.one (.ptr 0 0)))], [.v K16 []]⟩ ⟨[(3, .s K1 [])], [.f]⟩ [(.exit 0, ⟨[], [.f]⟩), (.ret, ⟨[(2, .s K7 [])], [.f]⟩)] (fun st_1 k i_5 => g_spec_StOk_l0 st_1 k i_5) .z))) (.m [(.normal, ⟨[], [.f]⟩), (.ret, ⟨[(2, .s K7 [])], [.f]⟩)] [1] [0] (.q .z (.b (.l ⟨[(1, .c (.one (.ptr 0 0)))], [.v K16 []]⟩ ⟨[(4, .s K1 [])], [.f]⟩ [(.exit 2, ⟨[], [.f]⟩), (.ret, ⟨[(2, .s K7 [])], [.f]⟩)] (fun st_1 k i_10 => g_spec_StOk_l1 st_1 k i_10) (.q .z (.m [(.normal, ⟨[], [.f]⟩), (.ret, ⟨[(2, .s K7 [])], [.f]⟩)] [4] [] (.b (.q .z (.q .z (.b (.l ⟨[(1, .c (.one (.ptr 0 0))), (4, .s K1 [])], [.v K16 []]⟩ ⟨[(5, .s K1 [])], [.f]⟩ [(.exit 4, ⟨[], [.f]⟩), (.ret, ⟨[(2, .s K7 [])], [.f]⟩)] (fun (i_10, st_1) k k_15 => g_spec_StOk_l2 i_10 st_1 k k_15) .z))))) .z))))) .z)))
theorem ke_spec_StOk : CK [e_spec_l01In, e_spec_StoreOk] 0 ane_spec_StOk Tryz.f27 e_spec_StOk := ⟨⟨trivial, ⟨⟨trivial, trivial⟩, ⟨⟨trivial, ⟨fun _ _ => rfl, fun _ _ _ _ => by kernel_rfl, trivial⟩⟩, ⟨⟨trivial, ⟨fun _ _ => rfl, fun _ _ _ _ => by kernel_rfl, ⟨trivial, ⟨⟨trivial, ⟨trivial, ⟨fun _ _ => rfl, fun _ _ _ _ => by kernel_rfl, trivial⟩⟩⟩, trivial⟩⟩⟩⟩, trivial⟩⟩⟩⟩, fun _ => by kernel_rfl⟩
noncomputable def ane_spec_l02All : An := .z
theorem ke_spec_l02All : CK [] 0 ane_spec_l02All Tryz.f102 e_spec_l02All := ⟨trivial, fun _ => by kernel_rfl⟩
noncomputable def ane_spec_LetterOf : An := .q .z (.q .z (.m [(.normal, ⟨[], []⟩), (.ret, ⟨[(2, .s K1 [])], []⟩)] [0, 3] [] (.q .z (.b (.l ⟨[(0, .s K14 []), (3, .s K0 [])], []⟩ ⟨[(4, .s K1 [])], []⟩ [(.exit 0, ⟨[], []⟩), (.ret, ⟨[(2, .s K1 [])], []⟩)] (fun (b_1, y_3) k i_5 => g_spec_LetterOf_l0 b_1 y_3 k i_5) .z))) .z))
theorem ke_spec_LetterOf : CK [e_spec_l02All] 0 ane_spec_LetterOf Tryz.f67 e_spec_LetterOf := ⟨⟨trivial, ⟨trivial, ⟨⟨trivial, ⟨fun _ _ => rfl, fun _ _ _ _ => by kernel_rfl, trivial⟩⟩, trivial⟩⟩⟩, fun _ => by kernel_rfl⟩
end Go.Proofs.YtmlkglhpaneepaaGreatDoor
namespace Go.Proofs.YtmlkglhpaneepaaGreatDoor
open Go Go.Fm
set_option maxRecDepth 1000000
noncomputable def ane_spec_NameOk : An := .q .z (.q .z (.m [(.normal, ⟨[], []⟩), (.ret, ⟨[(2, .s K7 [])], []⟩)] [0] [] (.q .z (.b (.l ⟨[(0, .s K0 [])], []⟩ ⟨[(3, .s K1 [])], []⟩ [(.exit 0, ⟨[], []⟩), (.ret, ⟨[(2, .s K7 [])], []⟩)] (fun s_1 k i_5 => g_spec_NameOk_l0 s_1 k i_5) .z))) .z))
theorem ke_spec_NameOk : CK [e_spec_l01In, e_spec_LetterOf] 0 ane_spec_NameOk Tryz.f30 e_spec_NameOk := ⟨⟨trivial, ⟨trivial, ⟨⟨trivial, ⟨fun _ _ => rfl, fun _ _ _ _ => by kernel_rfl, trivial⟩⟩, trivial⟩⟩⟩, fun _ => by kernel_rfl⟩
noncomputable def ane_spec_l08Names : An := .z
theorem ke_spec_l08Names : CK [] 0 ane_spec_l08Names Tryz.f120 e_spec_l08Names := ⟨trivial, fun _ => by kernel_rfl⟩
noncomputable def ane_spec_PrimName : An := .z
theorem ke_spec_PrimName : CK [e_spec_l08Names, e_spec_l01In] 0 ane_spec_PrimName Tryz.f101 e_spec_PrimName := ⟨trivial, fun _ => by kernel_rfl⟩
noncomputable def ane_spec_l09Op : An := .z
theorem ke_spec_l09Op : CK [e_spec_PrimName, e_spec_l01In] 0 ane_spec_l09Op Tryz.f65 e_spec_l09Op := ⟨trivial, fun _ => by kernel_rfl⟩
noncomputable def ane_spec_l09Open : An := .q .z (.q .z (.m [(.normal, ⟨[(4, .s K13 [(0, 1)])], [.d, .o]⟩), (.ret, ⟨[(2, .c (.one (.emp))), (3, .s K7 [])], [.d]⟩)] [0] [] (.q .z (.b (.l ⟨[(0, .s K4 [])], [.n, .n]⟩ ⟨[(4, .s K13 [(0, 1)]), (5, .s K1 [])], [.d, .o]⟩ [(.exit 0, ⟨[(4, .s K13 [(0, 1)])], [.d, .o]⟩), (.ret, ⟨[(2, .c (.one (.emp))), (3, .s K7 [])], [.d, .d]⟩)] (fun body_1 k (vopen_6, i_7) => g_spec_l09Open_l0 body_1 k vopen_6 i_7) (.q .z (.m [(.normal, ⟨[(4, .s K13 [(0, 2)])], [.d, .d, .o]⟩), (.ret, ⟨[(2, .c (.one (.emp))), (3, .s K7 [])], [.d, .d]⟩)] [5] [] (.b (.q .z (.q .z (.b (.m [(.normal, ⟨[(21, .s K7 [])], [.d, .f]⟩)] [4, 6, 20] [1] .z (.q .z (.m [(.normal, ⟨[(29, .s K7 [])], [.d, .f]⟩)] [4, 6, 20] [1] .z (.q (.q .z (.q (.m [(.normal, ⟨[(46, .s K7 [])], [.d, .f]⟩)] [4, 6, 7] [1] .z .z) .z)) .z)))))))) .z))))) .z))
theorem ke_spec_l09Open : CK [] 0 ane_spec_l09Open Tryz.f66 e_spec_l09Open := ⟨⟨trivial, ⟨trivial, ⟨⟨trivial, ⟨fun _ _ => rfl, fun _ _ _ _ => by kernel_rfl, ⟨trivial, ⟨⟨trivial, ⟨trivial, ⟨trivial, ⟨trivial, ⟨trivial, ⟨⟨trivial, ⟨⟨trivial, trivial⟩, trivial⟩⟩, trivial⟩⟩⟩⟩⟩⟩, trivial⟩⟩⟩⟩, trivial⟩⟩⟩, fun _ => by kernel_rfl⟩
noncomputable def ane_spec_l13Defs : An := .q .z (.q .z (.q (.m [(.normal, ⟨[(21, .s K7 [])], []⟩)] [0, 1, 4, 5] [] .z .z) (.m [(.normal, ⟨[], []⟩), (.ret, ⟨[(4, .s K7 [])], []⟩)] [0, 1, 5] [] (.q .z (.b (.l ⟨[(0, .s K6 []), (1, .s K7 []), (5, .s K1 [])], []⟩ ⟨[(6, .s K1 [])], []⟩ [(.exit 0, ⟨[], []⟩), (.ret, ⟨[(4, .s K7 [])], []⟩)] (fun (defs_1, vopen_2, n_6) k i_7 => g_spec_l13Defs_l0 defs_1 vopen_2 n_6 k i_7) (.q .z (.m [(.normal, ⟨[], []⟩), (.ret, ⟨[(4, .s K7 [])], []⟩)] [6] [] (.b (.q .z (.q (.m [(.normal, ⟨[(40, .s K7 [])], [.f]⟩)] [7] [0] .z .z) (.m [(.normal, ⟨[], [.f]⟩), (.ret, ⟨[(4, .s K7 [])], [.f]⟩)] [7] [0] (.q .z (.b (.l ⟨[(0, .s K6 []), (1, .s K7 []), (5, .s K1 []), (6, .s K1 []), (7, .c (.one (.ptr 0 0)))], [.v K5 []]⟩ ⟨[(8, .s K1 [])], [.f]⟩ [(.exit 2, ⟨[], [.f]⟩), (.ret, ⟨[(4, .s K7 [])], [.f]⟩)] (fun (_, _, n_6, _, v_10) k k_14 => g_spec_l13Defs_l1 n_6 v_10 k k_14) (.q .z (.q (.b (.m [(.normal, ⟨[(74, .s K7 [])], [.f]⟩)] [8] [] .z .z)) .z))))) (.q .z (.m [(.normal, ⟨[(97, .s K7 [])], [.d, .f]⟩)] [9, 10] [1] .z .z)))))) .z))))) .z)))
theorem ke_spec_l13Defs : CK [e_spec_NameOk, e_spec_l09Op, e_spec_l09Open] 0 ane_spec_l13Defs Tryz.f28 e_spec_l13Defs := ⟨⟨trivial, ⟨trivial, ⟨⟨trivial, trivial⟩, ⟨⟨trivial, ⟨fun _ _ => rfl, fun _ _ _ _ => by kernel_rfl, ⟨trivial, ⟨⟨trivial, ⟨⟨trivial, trivial⟩, ⟨⟨trivial, ⟨fun _ _ => rfl, fun _ _ _ _ => by kernel_rfl, ⟨trivial, ⟨⟨trivial, trivial⟩, trivial⟩⟩⟩⟩, ⟨trivial, ⟨trivial, trivial⟩⟩⟩⟩⟩, trivial⟩⟩⟩⟩, trivial⟩⟩⟩⟩, fun _ => by kernel_rfl⟩
noncomputable def ane_spec_l13Has : An := .q .z (.m [(.normal, ⟨[], []⟩), (.ret, ⟨[(4, .s K7 [])], []⟩)] [0, 1] [] (.q .z (.b (.l ⟨[(0, .s K13 []), (1, .s K1 [])], []⟩ ⟨[(5, .s K1 [])], []⟩ [(.exit 0, ⟨[], []⟩), (.ret, ⟨[(4, .s K7 [])], []⟩)] (fun (list_1, n_2) k i_5 => g_spec_l13Has_l0 list_1 n_2 k i_5) .z))) .z)
theorem ke_spec_l13Has : CK [] 0 ane_spec_l13Has Tryz.f29 e_spec_l13Has := ⟨⟨trivial, ⟨⟨trivial, ⟨fun _ _ => rfl, fun _ _ _ _ => by kernel_rfl, trivial⟩⟩, trivial⟩⟩, fun _ => by kernel_rfl⟩
noncomputable def ane_spec_WorldOk : An := .q .z (.q (.m [(.normal, ⟨[(23, .s K7 [])], [.f]⟩)] [1, 2] [0] .z .z) (.m [(.normal, ⟨[], [.f]⟩), (.ret, ⟨[(2, .s K7 [])], [.f]⟩)] [1] [0] (.q .z (.b (.l ⟨[(1, .c (.one (.ptr 0 0)))], [.v K17 []]⟩ ⟨[(3, .s K1 [])], [.f]⟩ [(.exit 0, ⟨[], [.f]⟩), (.ret, ⟨[(2, .s K7 [])], [.f]⟩)] (fun w_1 k i_7 => g_spec_WorldOk_l0 w_1 k i_7) (.q .z (.m [(.normal, ⟨[], [.f]⟩), (.ret, ⟨[(2, .s K7 [])], [.f]⟩)] [3] [] (.b (.q .z (.q .z (.m [(.normal, ⟨[(5, .s K7 [])], [.f, .f]⟩)] [4] [1] .z (.m [(.normal, ⟨[(58, .s K7 [])], [.f, .f]⟩)] [4, 5] [1] .z .z))))) .z))))) .z))
theorem ke_spec_WorldOk : CK [e_spec_StOk, e_spec_l13Defs, e_spec_l01In, e_spec_l13Has, e_spec_NameOk] 0 ane_spec_WorldOk Tryz.f11 e_spec_WorldOk := ⟨⟨trivial, ⟨⟨trivial, trivial⟩, ⟨⟨trivial, ⟨fun _ _ => rfl, fun _ _ _ _ => by kernel_rfl, ⟨trivial, ⟨⟨trivial, ⟨trivial, ⟨trivial, ⟨trivial, trivial⟩⟩⟩⟩, trivial⟩⟩⟩⟩, trivial⟩⟩⟩, fun _ => by kernel_rfl⟩
end Go.Proofs.YtmlkglhpaneepaaGreatDoor
namespace Go.Proofs.YtmlkglhpaneepaaGreatDoor
open Go Go.Fm
set_option maxRecDepth 1000000
noncomputable def ane_spec_l04Num : An := .q .z (.q .z (.m [(.normal, ⟨[(9, .s K11 [])], []⟩)] [0, 1, 2, 3, 8] [] .z (.q (.m [(.normal, ⟨[(16, .s K7 [])], []⟩)] [0, 2, 3, 8, 9] [] .z .z) .z)))
theorem ke_spec_l04Num : CK [] 0 ane_spec_l04Num Tryz.f103 e_spec_l04Num := ⟨⟨trivial, ⟨trivial, ⟨trivial, ⟨⟨trivial, trivial⟩, trivial⟩⟩⟩⟩, fun _ => by kernel_rfl⟩
noncomputable def ane_spec_WidthOf : An := .z
theorem ke_spec_WidthOf : CK [e_spec_l01In] 0 ane_spec_WidthOf Tryz.f147 e_spec_WidthOf := ⟨trivial, fun _ => by kernel_rfl⟩
noncomputable def ane_spec_BitsOf : An := .z
theorem ke_spec_BitsOf : CK [e_spec_WidthOf] 0 ane_spec_BitsOf Tryz.f148 e_spec_BitsOf := ⟨trivial, fun _ => by kernel_rfl⟩
noncomputable def ane_spec_l03One : An := .q .z (.q .z (.q (.b (.l ⟨[(0, .s K0 []), (2, .s K11 []), (3, .s K1 [])], []⟩ ⟨[(4, .s K1 []), (5, .s K1 []), (6, .s K1 [])], []⟩ [(.exit 0, ⟨[(4, .s K1 []), (6, .s K1 [])], []⟩)] (fun (s_1, _, _) k (f_6, left_7, n_8) => g_spec_l03One_l0 s_1 k f_6 left_7 n_8) .z)) .z))
theorem ke_spec_l03One : CK [e_spec_LetterOf, e_spec_WidthOf, e_spec_BitsOf] 0 ane_spec_l03One Tryz.f137 e_spec_l03One := ⟨⟨trivial, ⟨trivial, ⟨⟨fun _ _ => rfl, fun _ _ _ _ => by kernel_rfl, trivial⟩, trivial⟩⟩⟩, fun _ => by kernel_rfl⟩
noncomputable def ane_spec_Pack : An := .q .z (.q .z (.q .z (.q (.b (.l ⟨[(2, .c (.one (.emp)))], [.n, .n]⟩ ⟨[(0, .s K0 []), (3, .s K12 [(0, 1)])], [.d, .o]⟩ [(.exit 0, ⟨[(3, .s K12 [(0, 1)])], [.d, .o]⟩)] (fun _ k (s_4, out_5) => g_spec_Pack_l0 k s_4 out_5) .z)) .z)))
theorem ke_spec_Pack : CK [e_spec_NameOk, e_spec_l03One] 0 ane_spec_Pack Tryz.f121 e_spec_Pack := ⟨⟨trivial, ⟨trivial, ⟨trivial, ⟨⟨fun _ _ => rfl, fun _ _ _ _ => by kernel_rfl, trivial⟩, trivial⟩⟩⟩⟩, fun _ => by kernel_rfl⟩
noncomputable def ane_spec_l04Word : An := .q .z (.q .z (.m [(.normal, ⟨[(5, .s K12 [(0, 0)])], [.o]⟩)] [0, 4] [] (.q .z (.b (.l ⟨[(0, .s K11 []), (4, .c (.one (.emp)))], [.n]⟩ ⟨[(5, .s K12 [(0, 0)]), (6, .s K1 [])], [.o]⟩ [(.exit 0, ⟨[(5, .s K12 [(0, 0)])], [.o]⟩)] (fun tag_1 k (out_6, i_7) => g_spec_l04Word_l0 tag_1 k out_6 i_7) (.q .z (.m [(.normal, ⟨[(5, .s K12 [(0, 0)])], [.o]⟩)] [6] [] .z .z))))) .z))
theorem ke_spec_l04Word : CK [e_spec_Pack] 0 ane_spec_l04Word Tryz.f104 e_spec_l04Word := ⟨⟨trivial, ⟨trivial, ⟨⟨trivial, ⟨fun _ _ => rfl, fun _ _ _ _ => by kernel_rfl, ⟨trivial, ⟨trivial, trivial⟩⟩⟩⟩, trivial⟩⟩⟩, fun _ => by kernel_rfl⟩
noncomputable def ane_spec_l04Tag : An := .z
theorem ke_spec_l04Tag : CK [] 0 ane_spec_l04Tag Tryz.f105 e_spec_l04Tag := ⟨trivial, fun _ => by kernel_rfl⟩
noncomputable def ane_spec_CellsOf : An := .q .z (.m [(.normal, ⟨[(3, .s K7 [])], [.f]⟩)] [1, 2] [0] .z (.m [(.normal, ⟨[], [.f]⟩), (.ret, ⟨[(2, .s K12 [(0, 1)])], [.f, .o]⟩)] [1, 3] [0] (.q .z (.b (.q .z (.q (.m [(.normal, ⟨[(47, .s K7 [])], [.f]⟩)] [2] [] .z .z) (.q .z (.q (.m [(.normal, ⟨[(60, .s K7 [])], [.f]⟩)] [2] [] .z .z) (.q .z (.q (.m [(.normal, ⟨[(75, .s K7 [])], [.f]⟩)] [2] [] .z .z) (.q .z (.q (.q .z (.m [(.normal, ⟨[(98, .s K7 [])], [.f, .f]⟩)] [2, 4] [1] .z .z)) (.q .z (.m [(.normal, ⟨[(28, .s K7 [])], [.f]⟩)] [2, 5] [] .z .z)))))))))))) .z))
theorem ke_spec_CellsOf : CK [e_spec_l04Num, e_spec_l04Word, e_spec_l04Tag] 0 ane_spec_CellsOf Tryz.f68 e_spec_CellsOf := ⟨⟨trivial, ⟨trivial, ⟨⟨trivial, ⟨trivial, ⟨⟨trivial, trivial⟩, ⟨trivial, ⟨⟨trivial, trivial⟩, ⟨trivial, ⟨⟨trivial, trivial⟩, ⟨trivial, ⟨⟨trivial, ⟨trivial, trivial⟩⟩, ⟨trivial, ⟨trivial, trivial⟩⟩⟩⟩⟩⟩⟩⟩⟩⟩⟩, trivial⟩⟩⟩, fun _ => by kernel_rfl⟩
end Go.Proofs.YtmlkglhpaneepaaGreatDoor
namespace Go.Proofs.YtmlkglhpaneepaaGreatDoor
open Go Go.Fm
set_option maxRecDepth 1000000
noncomputable def ane_spec_ItemOk : An := .z
theorem ke_spec_ItemOk : CK [e_spec_CellsOf] 0 ane_spec_ItemOk Tryz.f31 e_spec_ItemOk := ⟨trivial, fun _ => by kernel_rfl⟩
noncomputable def ane_spec_l07All : An := .q .z (.q (.m [(.normal, ⟨[(12, .s K7 [])], [.f]⟩)] [1, 2] [0] .z .z) .z)
theorem ke_spec_l07All : CK [] 0 ane_spec_l07All Tryz.f33 e_spec_l07All := ⟨⟨trivial, ⟨⟨trivial, trivial⟩, trivial⟩⟩, fun _ => by kernel_rfl⟩
noncomputable def ane_spec_Unparse : An := .q .z (.q .z (.m [(.normal, ⟨[(4, .s K12 [(0, 1)])], [.d, .o]⟩), (.ret, ⟨[(2, .s K12 [(0, 1)]), (3, .s K7 [])], [.d, .o]⟩)] [0] [] (.q .z (.b (.l ⟨[(0, .s K19 [])], [.n, .n]⟩ ⟨[(4, .s K12 [(0, 1)]), (5, .s K1 [])], [.d, .o]⟩ [(.exit 0, ⟨[(4, .s K12 [(0, 1)])], [.d, .o]⟩), (.ret, ⟨[(2, .s K12 [(0, 2)]), (3, .s K7 [])], [.d, .d, .o]⟩)] (fun list_1 k (out_7, i_8) => g_spec_Unparse_l0 list_1 k out_7 i_8) (.q .z (.q (.b (.q .z (.q (.m [(.normal, ⟨[(29, .s K7 [])], [.d, .f, .f]⟩)] [4, 5, 6] [1, 2] .z .z) .z))) .z))))) .z))
theorem ke_spec_Unparse : CK [e_spec_CellsOf] 0 ane_spec_Unparse Tryz.f69 e_spec_Unparse := ⟨⟨trivial, ⟨trivial, ⟨⟨trivial, ⟨fun _ _ => rfl, fun _ _ _ _ => by kernel_rfl, ⟨trivial, ⟨⟨trivial, ⟨⟨trivial, trivial⟩, trivial⟩⟩, trivial⟩⟩⟩⟩, trivial⟩⟩⟩, fun _ => by kernel_rfl⟩
noncomputable def ane_spec_l04Kind : An := .q .z (.m [(.normal, ⟨[], []⟩), (.ret, ⟨[(2, .s K1 [])], []⟩)] [0] [] (.q .z (.b (.l ⟨[(0, .s K11 [])], []⟩ ⟨[(3, .s K1 [])], []⟩ [(.exit 0, ⟨[], []⟩), (.ret, ⟨[(2, .s K1 [])], []⟩)] (fun tag_1 k k_4 => g_spec_l04Kind_l0 tag_1 k k_4) .z))) .z)
theorem ke_spec_l04Kind : CK [e_spec_l04Tag] 0 ane_spec_l04Kind Tryz.f122 e_spec_l04Kind := ⟨⟨trivial, ⟨⟨trivial, ⟨fun _ _ => rfl, fun _ _ _ _ => by kernel_rfl, trivial⟩⟩, trivial⟩⟩, fun _ => by kernel_rfl⟩
noncomputable def ane_spec_Decode : An := .q .z (.q .z (.m [(.normal, ⟨[], []⟩), (.ret, ⟨[(4, .s K1 []), (5, .s K1 [])], []⟩)] [0, 1] [] (.q .z (.b (.l ⟨[(0, .s K11 []), (1, .s K1 [])], []⟩ ⟨[(6, .s K1 [])], []⟩ [(.exit 0, ⟨[], []⟩), (.ret, ⟨[(4, .s K1 []), (5, .s K1 [])], []⟩)] (fun (bits_1, n_2) k k_8 => g_spec_Decode_l0 bits_1 n_2 k k_8) (.q .z (.m [(.normal, ⟨[], []⟩), (.ret, ⟨[(4, .s K1 []), (5, .s K1 [])], []⟩)] [6] [] .z .z))))) .z))
theorem ke_spec_Decode : CK [e_spec_l01In, e_spec_WidthOf, e_spec_BitsOf] 0 ane_spec_Decode Tryz.f139 e_spec_Decode := ⟨⟨trivial, ⟨trivial, ⟨⟨trivial, ⟨fun _ _ => rfl, fun _ _ _ _ => by kernel_rfl, ⟨trivial, ⟨trivial, trivial⟩⟩⟩⟩, trivial⟩⟩⟩, fun _ => by kernel_rfl⟩
noncomputable def ane_spec_LetterAt : An := .z
theorem ke_spec_LetterAt : CK [e_spec_l01In, e_spec_l02All] 0 ane_spec_LetterAt Tryz.f140 e_spec_LetterAt := ⟨trivial, fun _ => by kernel_rfl⟩
noncomputable def ane_spec_UnpackOne : An := .q .z (.q .z (.q .z (.q .z (.q (.b (.l ⟨[(0, .s K11 []), (2, .s K0 [])], [.n, .n]⟩ ⟨[(3, .s K15 [(0, 1)]), (4, .s K1 [])], [.d, .o]⟩ [(.exit 0, ⟨[(3, .s K15 [(0, 1)])], [.d, .o]⟩)] (fun (f_1, _) k (out_4, left_5) => g_spec_UnpackOne_l0 f_1 k out_4 left_5) (.q (.m [(.normal, ⟨[(22, .s K7 [])], [.d, .f]⟩)] [3, 4] [1] .z .z) .z))) .z))))
theorem ke_spec_UnpackOne : CK [e_spec_Decode, e_spec_LetterAt] 0 ane_spec_UnpackOne Tryz.f126 e_spec_UnpackOne := ⟨⟨trivial, ⟨trivial, ⟨trivial, ⟨trivial, ⟨⟨fun _ _ => rfl, fun _ _ _ _ => by kernel_rfl, ⟨⟨trivial, trivial⟩, trivial⟩⟩, trivial⟩⟩⟩⟩⟩, fun _ => by kernel_rfl⟩
noncomputable def ane_spec_l03Same : An := .q .z (.q .z (.m [(.normal, ⟨[], []⟩), (.ret, ⟨[(4, .s K7 [])], []⟩)] [0, 1] [] (.q .z (.b (.l ⟨[(0, .s K12 []), (1, .s K12 [])], []⟩ ⟨[(5, .s K1 [])], []⟩ [(.exit 0, ⟨[], []⟩), (.ret, ⟨[(4, .s K7 [])], []⟩)] (fun (a_1, b_2) k i_5 => g_spec_l03Same_l0 a_1 b_2 k i_5) .z))) .z))
theorem ke_spec_l03Same : CK [] 0 ane_spec_l03Same Tryz.f149 e_spec_l03Same := ⟨⟨trivial, ⟨trivial, ⟨⟨trivial, ⟨fun _ _ => rfl, fun _ _ _ _ => by kernel_rfl, trivial⟩⟩, trivial⟩⟩⟩, fun _ => by kernel_rfl⟩
end Go.Proofs.YtmlkglhpaneepaaGreatDoor
namespace Go.Proofs.YtmlkglhpaneepaaGreatDoor
open Go Go.Fm
set_option maxRecDepth 1000000
noncomputable def ane_spec_Unpack : An := .q .z (.q .z (.q .z (.m [(.normal, ⟨[(4, .s K0 [])], []⟩)] [0, 2, 3] [] (.q .z (.b (.l ⟨[(0, .s K12 []), (2, .s K0 []), (3, .s K7 [])], []⟩ ⟨[(4, .s K0 []), (5, .s K1 [])], []⟩ [(.exit 0, ⟨[(4, .s K0 [])], []⟩)] (fun (list_1, _, _) k (s_7, i_8) => g_spec_Unpack_l0 list_1 k s_7 i_8) .z))) (.q (.m [(.normal, ⟨[(31, .s K7 [])], []⟩)] [0, 2, 3, 4] [] .z .z) .z))))
theorem ke_spec_Unpack : CK [e_spec_UnpackOne, e_spec_NameOk, e_spec_Pack, e_spec_l03Same] 0 ane_spec_Unpack Tryz.f138 e_spec_Unpack := ⟨⟨trivial, ⟨trivial, ⟨trivial, ⟨⟨trivial, ⟨fun _ _ => rfl, fun _ _ _ _ => by kernel_rfl, trivial⟩⟩, ⟨⟨trivial, trivial⟩, trivial⟩⟩⟩⟩⟩, fun _ => by kernel_rfl⟩
noncomputable def ane_spec_l04Name : An := .q .z (.q .z (.m [(.normal, ⟨[(8, .s K12 [(0, 2)])], [.f, .d, .o]⟩)] [0, 1, 2, 6, 7] [0] (.q .z (.b (.l ⟨[(0, .s K12 []), (1, .s K1 []), (2, .s K1 []), (6, .c (.one (.ptr 0 0))), (7, .s K1 [])], [.v K18 [], .n, .n]⟩ ⟨[(8, .s K12 [(0, 2)]), (9, .s K1 [])], [.f, .d, .o]⟩ [(.exit 0, ⟨[(8, .s K12 [(0, 2)])], [.f, .d, .o]⟩)] (fun (cells_1, _, _, _, _) k (fields_10, k_11) => g_spec_l04Name_l0 cells_1 k fields_10 k_11) (.q (.m [(.normal, ⟨[(38, .s K7 [])], [.f, .d, .f]⟩)] [8, 9] [2] .z .z) .z)))) .z))
theorem ke_spec_l04Name : CK [e_spec_Unpack] 0 ane_spec_l04Name Tryz.f123 e_spec_l04Name := ⟨⟨trivial, ⟨trivial, ⟨⟨trivial, ⟨fun _ _ => rfl, fun _ _ _ _ => by kernel_rfl, ⟨⟨trivial, trivial⟩, trivial⟩⟩⟩, trivial⟩⟩⟩, fun _ => by kernel_rfl⟩
noncomputable def ane_spec_l04Number : An := .q .z (.q .z (.q .z (.q .z (.m [(.normal, ⟨[], [.f, .v K18 []]⟩)] [0, 1, 4, 5, 6, 7, 8] [0] (.m [(.normal, ⟨[(24, .s K7 [])], [.f, .f]⟩)] [] [1] .z .z) (.q (.m [(.normal, ⟨[(31, .s K7 [])], [.f, .f]⟩)] [0, 1, 4, 5, 6, 7, 8] [0, 1] .z .z) (.q (.m [(.normal, ⟨[(46, .s K7 [])], [.f, .f]⟩)] [0, 1, 4, 5, 6, 8] [0, 1] .z .z) .z))))))
theorem ke_spec_l04Number : CK [e_spec_CellsOf] 0 ane_spec_l04Number Tryz.f124 e_spec_l04Number := ⟨⟨trivial, ⟨trivial, ⟨trivial, ⟨trivial, ⟨⟨trivial, trivial⟩, ⟨⟨trivial, trivial⟩, ⟨⟨trivial, trivial⟩, trivial⟩⟩⟩⟩⟩⟩⟩, fun _ => by kernel_rfl⟩
noncomputable def ane_spec_FieldOk : An := .z
theorem ke_spec_FieldOk : CK [e_spec_UnpackOne, e_spec_Pack] 0 ane_spec_FieldOk Tryz.f125 e_spec_FieldOk := ⟨trivial, fun _ => by kernel_rfl⟩
noncomputable def ane_spec_l04Item : An := .q .z (.q .z (.q .z (.m [(.normal, ⟨[(7, .s K1 [])], [.f, .v K18 []]⟩)] [0, 1, 4, 5, 6, 8] [0] (.b (.q .z (.q .z (.m [(.normal, ⟨[(27, .s K7 [])], [.f, .f]⟩)] [7] [1] .z (.q .z (.m [(.normal, ⟨[(48, .s K7 [])], [.f, .f]⟩)] [7] [1] .z .z)))))) .z)))
theorem ke_spec_l04Item : CK [e_spec_l04Kind, e_spec_l04Name, e_spec_l04Number, e_spec_FieldOk, e_spec_UnpackOne] 0 ane_spec_l04Item Tryz.f106 e_spec_l04Item := ⟨⟨trivial, ⟨trivial, ⟨trivial, ⟨⟨trivial, ⟨trivial, ⟨trivial, ⟨trivial, ⟨trivial, trivial⟩⟩⟩⟩⟩, trivial⟩⟩⟩⟩, fun _ => by kernel_rfl⟩
noncomputable def ane_spec_ParseCells : An := .q .z (.q .z (.q .z (.m [(.normal, ⟨[(3, .s K19 [(0, 1)])], [.d, .o]⟩)] [0, 2] [] (.q .z (.b (.l ⟨[(0, .s K12 []), (2, .c (.one (.emp)))], [.n, .n]⟩ ⟨[(3, .s K19 [(0, 1)]), (4, .s K1 [])], [.d, .o]⟩ [(.exit 0, ⟨[(3, .s K19 [(0, 1)])], [.d, .o]⟩)] (fun cells_1 k (out_4, i_5) => g_spec_ParseCells_l0 cells_1 k out_4 i_5) .z))) (.q (.b (.l ⟨[(2, .c (.one (.emp)))], [.n, .n, .n]⟩ ⟨[(3, .s K19 [(0, 2)])], [.d, .d, .o]⟩ [(.exit 2, ⟨[(3, .s K19 [(0, 2)])], [.d, .d, .o]⟩)] (fun _ k out_9 => g_spec_ParseCells_l1 k out_9) (.q (.m [(.normal, ⟨[(41, .s K7 [])], [.d, .d, .f]⟩)] [3] [2] .z .z) .z))) .z))))
theorem ke_spec_ParseCells : CK [e_spec_l04Item] 0 ane_spec_ParseCells Tryz.f71 e_spec_ParseCells := ⟨⟨trivial, ⟨trivial, ⟨trivial, ⟨⟨trivial, ⟨fun _ _ => rfl, fun _ _ _ _ => by kernel_rfl, trivial⟩⟩, ⟨⟨fun _ _ => rfl, fun _ _ _ _ => by kernel_rfl, ⟨⟨trivial, trivial⟩, trivial⟩⟩, trivial⟩⟩⟩⟩⟩, fun _ => by kernel_rfl⟩
noncomputable def ane_spec_l04Same : An := .q .z (.q .z (.m [(.normal, ⟨[], []⟩), (.ret, ⟨[(4, .s K7 [])], []⟩)] [0, 1] [] (.q .z (.b (.l ⟨[(0, .s K19 []), (1, .s K19 [])], []⟩ ⟨[(5, .s K1 [])], []⟩ [(.exit 0, ⟨[], []⟩), (.ret, ⟨[(4, .s K7 [])], []⟩)] (fun (a_1, b_2) k i_5 => g_spec_l04Same_l0 a_1 b_2 k i_5) .z))) .z))
theorem ke_spec_l04Same : CK [] 0 ane_spec_l04Same Tryz.f70 e_spec_l04Same := ⟨⟨trivial, ⟨trivial, ⟨⟨trivial, ⟨fun _ _ => rfl, fun _ _ _ _ => by kernel_rfl, trivial⟩⟩, trivial⟩⟩⟩, fun _ => by kernel_rfl⟩
noncomputable def ane_spec_ListOk : An := .z
theorem ke_spec_ListOk : CK [e_spec_Unparse, e_spec_ParseCells, e_spec_l04Same] 0 ane_spec_ListOk Tryz.f32 e_spec_ListOk := ⟨trivial, fun _ => by kernel_rfl⟩
end Go.Proofs.YtmlkglhpaneepaaGreatDoor
namespace Go.Proofs.YtmlkglhpaneepaaGreatDoor
open Go Go.Fm
set_option maxRecDepth 1000000
noncomputable def ane_spec_EdOk : An := .q .z (.q .z (.m [(.normal, ⟨[], [.f]⟩), (.ret, ⟨[(2, .s K7 [])], [.f]⟩)] [1] [0] (.q .z (.b (.l ⟨[(1, .c (.one (.ptr 0 0)))], [.v K20 []]⟩ ⟨[(3, .s K1 [])], [.f]⟩ [(.exit 0, ⟨[], [.f]⟩), (.ret, ⟨[(2, .s K7 [])], [.f]⟩)] (fun e_1 k i_4 => g_spec_EdOk_l0 e_1 k i_4) .z))) .z))
theorem ke_spec_EdOk : CK [e_spec_ItemOk, e_spec_l07All, e_spec_ListOk] 0 ane_spec_EdOk Tryz.f12 e_spec_EdOk := ⟨⟨trivial, ⟨trivial, ⟨⟨trivial, ⟨fun _ _ => rfl, fun _ _ _ _ => by kernel_rfl, trivial⟩⟩, trivial⟩⟩⟩, fun _ => by kernel_rfl⟩
noncomputable def ane_spec_l18NoEd : An := .z
theorem ke_spec_l18NoEd : CK [] 0 ane_spec_l18NoEd Tryz.f13 e_spec_l18NoEd := ⟨trivial, fun _ => by kernel_rfl⟩
noncomputable def ane_spec_SessionOk : An := .q .z (.q (.m [(.normal, ⟨[(12, .s K7 [])], [.f]⟩)] [1, 2] [0] .z .z) .z)
theorem ke_spec_SessionOk : CK [e_spec_WorldOk, e_spec_EdOk, e_spec_l18NoEd, e_spec_l01In] 0 ane_spec_SessionOk Tryz.f5 e_spec_SessionOk := ⟨⟨trivial, ⟨⟨trivial, trivial⟩, trivial⟩⟩, fun _ => by kernel_rfl⟩
noncomputable def ane_impl_StoreOk : An := .z
theorem ke_impl_StoreOk : CK [] 0 ane_impl_StoreOk Tryz.f49 e_impl_StoreOk := ⟨trivial, fun _ => by kernel_rfl⟩
noncomputable def ane_impl_within : An := .z
theorem ke_impl_within : CK [] 0 ane_impl_within Tryz.f42 e_impl_within := ⟨trivial, fun _ => by kernel_rfl⟩
noncomputable def ane_slices_Index_int : An := .q .z (.m [(.normal, ⟨[], []⟩), (.ret, ⟨[(4, .s K1 [])], []⟩)] [0, 1] [] (.q .z (.b (.l ⟨[(0, .s K13 []), (1, .s K1 []), (7, .s K1 [])], []⟩ ⟨[(8, .s K1 [])], []⟩ [(.exit 0, ⟨[], []⟩), (.ret, ⟨[(4, .s K1 [])], []⟩)] (fun (s_1, v_2, v_5) k v_6 => g_slices_Index_int_l0 s_1 v_2 v_5 k v_6) .z))) .z)
theorem ke_slices_Index_int : CK [] 0 ane_slices_Index_int Tryz.f84 e_slices_Index_int := ⟨⟨trivial, ⟨⟨trivial, ⟨fun _ _ => rfl, fun _ _ _ _ => by kernel_rfl, trivial⟩⟩, trivial⟩⟩, fun _ => by kernel_rfl⟩
noncomputable def ane_slices_Contains_int : An := .z
theorem ke_slices_Contains_int : CK [e_slices_Index_int] 0 ane_slices_Contains_int Tryz.f43 e_slices_Contains_int := ⟨trivial, fun _ => by kernel_rfl⟩
noncomputable def ane_impl_StOk : An := .q .z (.q (.m [(.normal, ⟨[(35, .s K7 [])], [.f]⟩)] [1, 2] [0] .z .z) (.m [(.normal, ⟨[], [.f]⟩), (.ret, ⟨[(2, .s K7 [])], [.f]⟩)] [1] [0] (.q .z (.b (.l ⟨[(1, .c (.one (.ptr 0 0))), (37, .s K4 []), (38, .s K1 [])], [.v K16 []]⟩ ⟨[(39, .s K1 [])], [.f]⟩ [(.exit 0, ⟨[], [.f]⟩), (.ret, ⟨[(2, .s K7 [])], [.f]⟩)] (fun (v_6, v_7, _) k v_8 => g_impl_StOk_l0 v_6 v_7 k v_8) .z))) (.m [(.normal, ⟨[], [.f]⟩), (.ret, ⟨[(2, .s K7 [])], [.f]⟩)] [1] [0] (.q .z (.b (.l ⟨[(1, .c (.one (.ptr 0 0))), (49, .s K13 []), (50, .s K1 [])], [.v K16 []]⟩ ⟨[(51, .s K1 [])], [.f]⟩ [(.exit 2, ⟨[], [.f]⟩), (.ret, ⟨[(2, .s K7 [])], [.f]⟩)] (fun (v_13, v_14, st_1) k v_15 => g_impl_StOk_l1 v_13 v_14 st_1 k v_15) (.q .z (.q .z (.q (.b (.q .z (.m [(.normal, ⟨[(70, .s K7 [])], [.f]⟩)] [5, 6, 51] [] .z .z))) .z)))))) .z)))
theorem ke_impl_StOk : CK [e_impl_StoreOk, e_impl_within, e_slices_Contains_int] 0 ane_impl_StOk Tryz.f38 e_impl_StOk := ⟨⟨trivial, ⟨⟨trivial, trivial⟩, ⟨⟨trivial, ⟨fun _ _ => rfl, fun _ _ _ _ => by kernel_rfl, trivial⟩⟩, ⟨⟨trivial, ⟨fun _ _ => rfl, fun _ _ _ _ => by kernel_rfl, ⟨trivial, ⟨trivial, ⟨⟨trivial, ⟨trivial, trivial⟩⟩, trivial⟩⟩⟩⟩⟩, trivial⟩⟩⟩⟩, fun _ => by kernel_rfl⟩
end Go.Proofs.YtmlkglhpaneepaaGreatDoor
namespace Go.Proofs.YtmlkglhpaneepaaGreatDoor
open Go Go.Fm
set_option maxRecDepth 1000000
noncomputable def ane_strings_Fields : An := .q .z (.q .z (.q .z (.q .z (.m [(.normal, ⟨[(3, .s K1 []), (5, .s K14 [])], []⟩)] [0, 2] [] (.q .z (.b (.l ⟨[(0, .s K0 []), (2, .c (.one (.emp)))], []⟩ ⟨[(3, .s K1 []), (4, .s K1 []), (5, .s K14 []), (6, .s K1 [])], []⟩ [(.exit 0, ⟨[(3, .s K1 []), (5, .s K14 [])], []⟩)] (fun s_1 k (n_5, wasSpace_6, setBits_7, i_8) => g_strings_Fields_l0 s_1 k n_5 wasSpace_6 setBits_7 i_8) .z))) (.q .z (.q .z (.q .z (.q .z (.q .z (.q (.b (.l ⟨[(0, .s K0 []), (2, .c (.one (.emp))), (9, .s K23 [(0, 0)]), (10, .s K1 [])], [.o]⟩ ⟨[(12, .s K1 [])], [.f]⟩ [(.exit 2, ⟨[(12, .s K1 [])], [.f]⟩)] (fun (s_1, _, _) k i_15 => g_strings_Fields_l1 s_1 k i_15) (.q (.m [(.normal, ⟨[(53, .s K7 [])], [.f]⟩)] [12] [] .z .z) .z))) (.q .z (.q (.b (.l ⟨[(0, .s K0 []), (2, .c (.one (.emp)))], [.n]⟩ ⟨[(9, .s K23 [(0, 0)]), (10, .s K1 []), (11, .s K1 []), (12, .s K1 [])], [.o]⟩ [(.exit 4, ⟨[(9, .s K23 [(0, 0)]), (10, .s K1 []), (11, .s K1 [])], [.o]⟩)] (fun s_1 k (a_20, na_21, fieldStart_22, i_23) => g_strings_Fields_l2 s_1 k a_20 na_21 fieldStart_22 i_23) (.q .z (.b (.q .z (.q .z (.q .z (.q .z (.q (.b (.l ⟨[(0, .s K0 []), (2, .c (.one (.emp))), (9, .s K23 [(0, 0)]), (10, .s K1 []), (11, .s K1 [])], [.o]⟩ ⟨[(12, .s K1 [])], [.f]⟩ [(.exit 6, ⟨[(12, .s K1 [])], [.f]⟩)] (fun (s_1, _, _, _) k i_33 => g_strings_Fields_l3 s_1 k i_33) (.q (.m [(.normal, ⟨[(91, .s K7 [])], [.f]⟩)] [12] [] .z .z) .z))) .z))))))))) (.m [(.normal, ⟨[(9, .s K23 [(0, 0)])], [.o]⟩)] [0, 2, 10, 11] [] .z .z)))))))))))))
theorem ke_strings_Fields : CK [] 0 ane_strings_Fields Tryz.f141 e_strings_Fields := ⟨⟨trivial, ⟨trivial, ⟨trivial, ⟨trivial, ⟨⟨trivial, ⟨fun _ _ => rfl, fun _ _ _ _ => by kernel_rfl, trivial⟩⟩, ⟨trivial, ⟨trivial, ⟨trivial, ⟨trivial, ⟨trivial, ⟨⟨fun _ _ => rfl, fun _ _ _ _ => by kernel_rfl, ⟨⟨trivial, trivial⟩, trivial⟩⟩, ⟨trivial, ⟨⟨fun _ _ => rfl, fun _ _ _ _ => by kernel_rfl, ⟨trivial, ⟨trivial, ⟨trivial, ⟨trivial, ⟨trivial, ⟨⟨fun _ _ => rfl, fun _ _ _ _ => by kernel_rfl, ⟨⟨trivial, trivial⟩, trivial⟩⟩, trivial⟩⟩⟩⟩⟩⟩⟩, ⟨trivial, trivial⟩⟩⟩⟩⟩⟩⟩⟩⟩⟩⟩⟩⟩⟩, fun _ => by kernel_rfl⟩
noncomputable def ane_impl_prims : An := .z
theorem ke_impl_prims : CK [e_strings_Fields] 0 ane_impl_prims Tryz.f128 e_impl_prims := ⟨trivial, fun _ => by kernel_rfl⟩
noncomputable def ane_impl_PrimName : An := .z
theorem ke_impl_PrimName : CK [e_impl_prims, e_impl_within] 0 ane_impl_PrimName Tryz.f109 e_impl_PrimName := ⟨trivial, fun _ => by kernel_rfl⟩
noncomputable def ane_impl_opOk : An := .z
theorem ke_impl_opOk : CK [e_impl_PrimName, e_impl_within] 0 ane_impl_opOk Tryz.f80 e_impl_opOk := ⟨trivial, fun _ => by kernel_rfl⟩
noncomputable def ane_impl_openIn : An := .q .z (.q .z (.m [(.normal, ⟨[(4, .s K13 [(0, 1)])], [.d, .o]⟩), (.ret, ⟨[(2, .s K13 [(0, 1)]), (3, .s K7 [])], [.d, .o]⟩)] [0] [] (.q .z (.b (.l ⟨[(0, .s K4 []), (9, .s K4 []), (10, .s K1 [])], [.n, .n]⟩ ⟨[(4, .s K13 [(0, 1)]), (11, .s K1 [])], [.d, .o]⟩ [(.exit 0, ⟨[(4, .s K13 [(0, 1)])], [.d, .o]⟩), (.ret, ⟨[(2, .s K13 [(0, 2)]), (3, .s K7 [])], [.d, .d, .o]⟩)] (fun (_, v_7, v_8) k (vopen_9, v_10) => g_impl_openIn_l0 v_7 v_8 k vopen_9 v_10) (.q .z (.q .z (.m [(.normal, ⟨[(4, .s K13 [(0, 2)])], [.d, .d, .o]⟩), (.ret, ⟨[(2, .s K13 [(0, 2)]), (3, .s K7 [])], [.d, .d, .o]⟩)] [11] [] (.b (.q .z (.q .z (.b (.q .z (.q .z (.m [(.normal, ⟨[(22, .s K7 [])], [.d, .f, .f]⟩)] [4, 6, 7] [1, 2] .z (.q .z (.m [(.normal, ⟨[(41, .s K7 [])], [.d, .f, .f]⟩)] [4, 6, 7] [1, 2] .z (.q (.q (.m [(.normal, ⟨[(62, .s K7 [])], [.d, .f, .f]⟩)] [4, 6, 7] [1, 2] .z .z) .z) .z)))))))))) .z)))))) .z))
theorem ke_impl_openIn : CK [e_impl_opOk] 0 ane_impl_openIn Tryz.f39 e_impl_openIn := ⟨⟨trivial, ⟨trivial, ⟨⟨trivial, ⟨fun _ _ => rfl, fun _ _ _ _ => by kernel_rfl, ⟨trivial, ⟨trivial, ⟨⟨trivial, ⟨trivial, ⟨trivial, ⟨trivial, ⟨trivial, ⟨trivial, ⟨trivial, ⟨⟨⟨trivial, trivial⟩, trivial⟩, trivial⟩⟩⟩⟩⟩⟩⟩⟩, trivial⟩⟩⟩⟩⟩, trivial⟩⟩⟩, fun _ => by kernel_rfl⟩
noncomputable def ane_impl_letters : An := .z
theorem ke_impl_letters : CK [] 0 ane_impl_letters Tryz.f111 e_impl_letters := ⟨trivial, fun _ => by kernel_rfl⟩
theorem fe_ibytealg_IndexByteString : ConOk Tryz.prog e_ibytealg_IndexByteString := index_ok (fn := Tryz.f142) Tryz.func142 (by kernel_rfl) (by kernel_rfl) (by kernel_rfl) (by kernel_rfl)
noncomputable def ane_istringslite_IndexByte : An := .z
theorem ke_istringslite_IndexByte : CK [e_ibytealg_IndexByteString] 0 ane_istringslite_IndexByte Tryz.f129 e_istringslite_IndexByte := ⟨trivial, fun _ => by kernel_rfl⟩
end Go.Proofs.YtmlkglhpaneepaaGreatDoor
namespace Go.Proofs.YtmlkglhpaneepaaGreatDoor
open Go Go.Fm
set_option maxRecDepth 1000000
noncomputable def ane_strings_IndexByte : An := .z
theorem ke_strings_IndexByte : CK [e_istringslite_IndexByte] 0 ane_strings_IndexByte Tryz.f110 e_strings_IndexByte := ⟨trivial, fun _ => by kernel_rfl⟩
noncomputable def ane_impl_LetterOf : An := .z
theorem ke_impl_LetterOf : CK [e_impl_letters, e_strings_IndexByte] 0 ane_impl_LetterOf Tryz.f81 e_impl_LetterOf := ⟨trivial, fun _ => by kernel_rfl⟩
noncomputable def ane_impl_NameOk : An := .q .z (.m [(.normal, ⟨[], []⟩), (.ret, ⟨[(2, .s K7 [])], []⟩)] [0] [] (.q .z (.b (.l ⟨[(0, .s K0 []), (5, .s K1 [])], []⟩ ⟨[(6, .s K1 [])], []⟩ [(.exit 0, ⟨[], []⟩), (.ret, ⟨[(2, .s K7 [])], []⟩)] (fun (s_1, v_4) k v_5 => g_impl_NameOk_l0 s_1 v_4 k v_5) .z))) .z)
theorem ke_impl_NameOk : CK [e_impl_LetterOf, e_impl_within] 0 ane_impl_NameOk Tryz.f40 e_impl_NameOk := ⟨⟨trivial, ⟨⟨trivial, ⟨fun _ _ => rfl, fun _ _ _ _ => by kernel_rfl, trivial⟩⟩, trivial⟩⟩, fun _ => by kernel_rfl⟩
noncomputable def ane_impl_callsBelowc1 : An := .z
theorem ke_impl_callsBelowc1 : CK [] 1 ane_impl_callsBelowc1 Tryz.f83 e_impl_callsBelowc1 := ⟨trivial, fun _ => by kernel_rfl⟩
noncomputable def ane_slices_IndexFunc_Op_impl_callsBelowc1 : An := .q .z (.m [(.normal, ⟨[], [.f]⟩), (.ret, ⟨[(4, .s K1 [])], [.f]⟩)] [0, 1] [] (.q .z (.b (.l ⟨[(0, .s K4 []), (1, .c (.one (.fn 83 [(0, 0)]))), (7, .s K1 [])], [.v K1 []]⟩ ⟨[(8, .s K1 [])], [.f]⟩ [(.exit 0, ⟨[], [.f]⟩), (.ret, ⟨[(4, .s K1 [])], [.f]⟩)] (fun (s_1, v_5, c_2) k v_6 => g_slices_IndexFunc_Op_impl_callsBelowc1_l0 s_1 v_5 c_2 k v_6) .z))) .z)
theorem ke_slices_IndexFunc_Op_impl_callsBelowc1 : CK [e_impl_callsBelowc1] 1 ane_slices_IndexFunc_Op_impl_callsBelowc1 Tryz.f112 e_slices_IndexFunc_Op_impl_callsBelowc1 := ⟨⟨trivial, ⟨⟨trivial, ⟨fun _ _ => rfl, fun _ _ _ _ => by kernel_rfl, trivial⟩⟩, trivial⟩⟩, fun _ => by kernel_rfl⟩
noncomputable def ane_slices_ContainsFunc_Op_impl_callsBelowc1 : An := .z
theorem ke_slices_ContainsFunc_Op_impl_callsBelowc1 : CK [e_slices_IndexFunc_Op_impl_callsBelowc1] 1 ane_slices_ContainsFunc_Op_impl_callsBelowc1 Tryz.f82 e_slices_ContainsFunc_Op_impl_callsBelowc1 := ⟨trivial, fun _ => by kernel_rfl⟩
noncomputable def ane_impl_callsBelow : An := .z
theorem ke_impl_callsBelow : CK [e_slices_ContainsFunc_Op_impl_callsBelowc1] 0 ane_impl_callsBelow Tryz.f41 e_impl_callsBelow := ⟨trivial, fun _ => by kernel_rfl⟩
noncomputable def ane_impl_WorldOk : An := .q .z (.q (.m [(.normal, ⟨[(35, .s K7 [])], [.f]⟩)] [1, 2] [0] .z .z) (.m [(.normal, ⟨[], [.f]⟩), (.ret, ⟨[(2, .s K7 [])], [.f]⟩)] [1] [0] (.q .z (.b (.l ⟨[(1, .c (.one (.ptr 0 0))), (37, .s K6 []), (38, .s K1 [])], [.v K17 []]⟩ ⟨[(39, .s K1 [])], [.f]⟩ [(.exit 0, ⟨[], [.f]⟩), (.ret, ⟨[(2, .s K7 [])], [.f]⟩)] (fun (v_6, v_7, w_1) k v_8 => g_impl_WorldOk_l0 v_6 v_7 w_1 k v_8) (.q .z (.q .z (.q (.b (.q .z (.q .z (.m [(.normal, ⟨[(84, .s K7 [])], [.f, .f, .f]⟩)] [3, 4, 5, 6, 39] [1, 2] .z .z)))) .z)))))) (.m [(.normal, ⟨[], [.f]⟩), (.ret, ⟨[(2, .s K7 [])], [.f]⟩)] [1] [0] (.q .z (.b (.l ⟨[(1, .c (.one (.ptr 0 0))), (87, .s K9 []), (88, .s K1 [])], [.v K17 []]⟩ ⟨[(89, .s K1 [])], [.f]⟩ [(.exit 2, ⟨[], [.f]⟩), (.ret, ⟨[(2, .s K7 [])], [.f]⟩)] (fun (v_16, v_17, w_1) k v_18 => g_impl_WorldOk_l1 v_16 v_17 w_1 k v_18) (.q .z (.q .z (.m [(.normal, ⟨[], [.f]⟩), (.ret, ⟨[(2, .s K7 [])], [.f]⟩)] [89] [] (.b (.q .z (.q .z (.m [(.normal, ⟨[(9, .s K7 [])], [.f, .f]⟩)] [8] [1] .z (.m [(.normal, ⟨[(115, .s K7 [])], [.f, .f]⟩)] [8, 9] [1] .z .z))))) .z)))))) .z)))
theorem ke_impl_WorldOk : CK [e_impl_StOk, e_impl_openIn, e_impl_NameOk, e_impl_callsBelow, e_impl_within, e_slices_Contains_int] 0 ane_impl_WorldOk Tryz.f17 e_impl_WorldOk := ⟨⟨trivial, ⟨⟨trivial, trivial⟩, ⟨⟨trivial, ⟨fun _ _ => rfl, fun _ _ _ _ => by kernel_rfl, ⟨trivial, ⟨trivial, ⟨⟨trivial, ⟨trivial, ⟨trivial, trivial⟩⟩⟩, trivial⟩⟩⟩⟩⟩, ⟨⟨trivial, ⟨fun _ _ => rfl, fun _ _ _ _ => by kernel_rfl, ⟨trivial, ⟨trivial, ⟨⟨trivial, ⟨trivial, ⟨trivial, ⟨trivial, trivial⟩⟩⟩⟩, trivial⟩⟩⟩⟩⟩, trivial⟩⟩⟩⟩, fun _ => by kernel_rfl⟩
end Go.Proofs.YtmlkglhpaneepaaGreatDoor
namespace Go.Proofs.YtmlkglhpaneepaaGreatDoor
open Go Go.Fm
set_option maxRecDepth 1000000
noncomputable def ane_impl_nameTag : An := .z
theorem ke_impl_nameTag : CK [] 0 ane_impl_nameTag Tryz.f113 e_impl_nameTag := ⟨trivial, fun _ => by kernel_rfl⟩
noncomputable def ane_impl_WidthOf : An := .z
theorem ke_impl_WidthOf : CK [e_impl_within] 0 ane_impl_WidthOf Tryz.f143 e_impl_WidthOf := ⟨trivial, fun _ => by kernel_rfl⟩
noncomputable def ane_impl_BitsOf : An := .z
theorem ke_impl_BitsOf : CK [e_impl_WidthOf] 0 ane_impl_BitsOf Tryz.f144 e_impl_BitsOf := ⟨trivial, fun _ => by kernel_rfl⟩
noncomputable def ane_impl_PackOne : An := .q .z (.q .z (.q .z (.m [(.normal, ⟨[(4, .s K11 []), (6, .s K1 [])], []⟩)] [0, 2, 3] [] (.q .z (.b (.l ⟨[(0, .s K0 []), (2, .s K11 []), (3, .s K1 []), (13, .s K1 [])], []⟩ ⟨[(4, .s K11 []), (5, .s K1 []), (6, .s K1 []), (14, .s K1 [])], []⟩ [(.exit 0, ⟨[(4, .s K11 []), (6, .s K1 [])], []⟩)] (fun (s_1, _, _, v_9) k (field_10, left_11, many_12, v_13) => g_impl_PackOne_l0 s_1 v_9 k field_10 left_11 many_12 v_13) .z))) .z)))
theorem ke_impl_PackOne : CK [e_impl_NameOk, e_impl_LetterOf, e_impl_WidthOf, e_impl_BitsOf] 0 ane_impl_PackOne Tryz.f130 e_impl_PackOne := ⟨⟨trivial, ⟨trivial, ⟨trivial, ⟨⟨trivial, ⟨fun _ _ => rfl, fun _ _ _ _ => by kernel_rfl, trivial⟩⟩, trivial⟩⟩⟩⟩, fun _ => by kernel_rfl⟩
noncomputable def ane_impl_Pack : An := .q .z (.q .z (.q (.b (.l ⟨[(2, .c (.one (.emp)))], [.n, .n]⟩ ⟨[(0, .s K0 []), (3, .s K12 [(0, 1)])], [.d, .o]⟩ [(.exit 0, ⟨[(3, .s K12 [(0, 1)])], [.d, .o]⟩)] (fun _ k (s_3, out_4) => g_impl_Pack_l0 k s_3 out_4) .z)) .z))
theorem ke_impl_Pack : CK [e_impl_NameOk, e_impl_PackOne] 0 ane_impl_Pack Tryz.f114 e_impl_Pack := ⟨⟨trivial, ⟨trivial, ⟨⟨fun _ _ => rfl, fun _ _ _ _ => by kernel_rfl, trivial⟩, trivial⟩⟩⟩, fun _ => by kernel_rfl⟩
noncomputable def ane_impl_numberCells : An := .q .z (.q .z (.m [(.normal, ⟨[(9, .s K11 [])], []⟩)] [0, 1, 2, 3, 8] [] .z (.q (.m [(.normal, ⟨[(16, .s K7 [])], []⟩)] [0, 2, 3, 8, 9] [] .z .z) .z)))
theorem ke_impl_numberCells : CK [] 0 ane_impl_numberCells Tryz.f115 e_impl_numberCells := ⟨⟨trivial, ⟨trivial, ⟨trivial, ⟨⟨trivial, trivial⟩, trivial⟩⟩⟩⟩, fun _ => by kernel_rfl⟩
noncomputable def ane_impl_CellsOf : An := .q .z (.q .z (.m [(.normal, ⟨[], [.f]⟩), (.ret, ⟨[(2, .s K12 [(0, 1)])], [.f, .o]⟩)] [1] [0] (.b (.m [(.normal, ⟨[(11, .s K7 [])], [.f]⟩)] [2, 3] [] .z (.q (.q .z (.m [(.normal, ⟨[(4, .s K12 [(0, 2)])], [.f, .d, .o]⟩)] [2] [] (.q .z (.b (.l ⟨[(1, .c (.one (.ptr 0 0))), (2, .c (.one (.emp))), (26, .s K12 [(0, 2)]), (27, .s K1 [])], [.v K18 [], .n, .o, .n]⟩ ⟨[(3, .s K11 []), (4, .s K12 [(0, 3)]), (28, .s K1 [])], [.f, .d, .f, .o]⟩ [(.exit 1, ⟨[(4, .s K12 [(0, 3)])], [.f, .d, .f, .o]⟩)] (fun (v_8, v_9, _) k (tag_10, out_11, v_12) => g_impl_CellsOf_l0 v_8 v_9 k tag_10 out_11 v_12) .z))) .z)) .z))) .z))
theorem ke_impl_CellsOf : CK [e_impl_nameTag, e_impl_Pack, e_impl_numberCells] 0 ane_impl_CellsOf Tryz.f86 e_impl_CellsOf := ⟨⟨trivial, ⟨trivial, ⟨⟨trivial, ⟨⟨trivial, ⟨⟨trivial, ⟨fun _ _ => rfl, fun _ _ _ _ => by kernel_rfl, trivial⟩⟩, trivial⟩⟩, trivial⟩⟩, trivial⟩⟩⟩, fun _ => by kernel_rfl⟩
noncomputable def ane_impl_ItemOk : An := .z
theorem ke_impl_ItemOk : CK [e_impl_CellsOf] 0 ane_impl_ItemOk Tryz.f46 e_impl_ItemOk := ⟨trivial, fun _ => by kernel_rfl⟩
end Go.Proofs.YtmlkglhpaneepaaGreatDoor
namespace Go.Proofs.YtmlkglhpaneepaaGreatDoor
open Go Go.Fm
set_option maxRecDepth 1000000
noncomputable def ane_impl_EdOkc1 : An := .z
theorem ke_impl_EdOkc1 : CK [e_impl_ItemOk] 0 ane_impl_EdOkc1 Tryz.f45 e_impl_EdOkc1 := ⟨trivial, fun _ => by kernel_rfl⟩
noncomputable def ane_slices_IndexFunc_Item_impl_EdOkc1 : An := .q .z (.m [(.normal, ⟨[], []⟩), (.ret, ⟨[(4, .s K1 [])], []⟩)] [0, 1] [] (.q .z (.b (.l ⟨[(0, .s K19 []), (1, .c (.one (.fn 45 []))), (7, .s K1 [])], []⟩ ⟨[(8, .s K1 [])], []⟩ [(.exit 0, ⟨[], []⟩), (.ret, ⟨[(4, .s K1 [])], []⟩)] (fun (s_1, v_4) k v_5 => g_slices_IndexFunc_Item_impl_EdOkc1_l0 s_1 v_4 k v_5) .z))) .z)
theorem ke_slices_IndexFunc_Item_impl_EdOkc1 : CK [e_impl_EdOkc1] 0 ane_slices_IndexFunc_Item_impl_EdOkc1 Tryz.f85 e_slices_IndexFunc_Item_impl_EdOkc1 := ⟨⟨trivial, ⟨⟨trivial, ⟨fun _ _ => rfl, fun _ _ _ _ => by kernel_rfl, trivial⟩⟩, trivial⟩⟩, fun _ => by kernel_rfl⟩
noncomputable def ane_slices_ContainsFunc_Item_impl_EdOkc1 : An := .z
theorem ke_slices_ContainsFunc_Item_impl_EdOkc1 : CK [e_slices_IndexFunc_Item_impl_EdOkc1] 0 ane_slices_ContainsFunc_Item_impl_EdOkc1 Tryz.f44 e_slices_ContainsFunc_Item_impl_EdOkc1 := ⟨trivial, fun _ => by kernel_rfl⟩
noncomputable def ane_slices_Grow_Item_emp : An := .q .z (.m [(.normal, ⟨[], []⟩)] [0, 1, 4] [] .z (.m [(.normal, ⟨[(0, .s K19 [(0, 0)])], [.o]⟩)] [4] [] .z .z))
theorem ke_slices_Grow_Item_emp : CK [] 0 ane_slices_Grow_Item_emp Tryz.f117 e_slices_Grow_Item_emp := ⟨⟨trivial, ⟨trivial, ⟨trivial, trivial⟩⟩⟩, fun _ => by kernel_rfl⟩
noncomputable def ane_slices_Concat_Item : An := .q .z (.q .z (.m [(.normal, ⟨[(3, .s K1 [])], []⟩)] [0, 2] [] (.q .z (.b (.l ⟨[(0, .s K24 []), (2, .c (.one (.emp))), (9, .s K24 []), (10, .s K1 [])], []⟩ ⟨[(3, .s K1 []), (11, .s K1 [])], []⟩ [(.exit 0, ⟨[(3, .s K1 [])], []⟩)] (fun (_, v_4, v_5) k (size_6, v_7) => g_slices_Concat_Item_l0 v_4 v_5 k size_6 v_7) (.q .z (.q .z (.m [(.normal, ⟨[(3, .s K1 [])], []⟩)] [11] [] .z .z)))))) (.q .z (.m [(.normal, ⟨[(6, .s K19 [(0, 1)])], [.d, .o]⟩)] [0, 2] [] (.q .z (.b (.l ⟨[(0, .s K24 []), (2, .c (.one (.emp))), (25, .s K24 []), (26, .s K1 [])], [.n, .n]⟩ ⟨[(6, .s K19 [(0, 1)]), (27, .s K1 [])], [.d, .o]⟩ [(.exit 2, ⟨[(6, .s K19 [(0, 1)])], [.d, .o]⟩)] (fun (_, v_13, v_14) k (newslice_15, v_16) => g_slices_Concat_Item_l1 v_13 v_14 k newslice_15 v_16) .z))) .z))))
theorem ke_slices_Concat_Item : CK [e_slices_Grow_Item_emp] 0 ane_slices_Concat_Item Tryz.f90 e_slices_Concat_Item := ⟨⟨trivial, ⟨trivial, ⟨⟨trivial, ⟨fun _ _ => rfl, fun _ _ _ _ => by kernel_rfl, ⟨trivial, ⟨trivial, ⟨trivial, trivial⟩⟩⟩⟩⟩, ⟨trivial, ⟨⟨trivial, ⟨fun _ _ => rfl, fun _ _ _ _ => by kernel_rfl, trivial⟩⟩, trivial⟩⟩⟩⟩⟩, fun _ => by kernel_rfl⟩
noncomputable def ane_impl_edItems : An := .z
theorem ke_impl_edItems : CK [e_slices_Concat_Item] 0 ane_impl_edItems Tryz.f48 e_impl_edItems := ⟨trivial, fun _ => by kernel_rfl⟩
noncomputable def ane_impl_Unparse : An := .q .z (.q .z (.m [(.normal, ⟨[(4, .s K12 [(0, 1)])], [.d, .o]⟩), (.ret, ⟨[(2, .c (.one (.emp))), (3, .s K7 [])], [.d]⟩)] [0] [] (.q .z (.b (.l ⟨[(0, .s K19 []), (9, .s K19 []), (10, .s K1 [])], [.n, .n]⟩ ⟨[(4, .s K12 [(0, 1)]), (11, .s K1 [])], [.d, .o]⟩ [(.exit 0, ⟨[(4, .s K12 [(0, 1)])], [.d, .o]⟩), (.ret, ⟨[(2, .c (.one (.emp))), (3, .s K7 [])], [.d, .d]⟩)] (fun (_, v_6, v_7) k (out_8, v_9) => g_impl_Unparse_l0 v_6 v_7 k out_8 v_9) (.q .z (.q .z (.q (.b (.q .z (.q .z (.q .z (.m [(.normal, ⟨[(27, .s K7 [])], [.d, .d, .d, .f, .f]⟩)] [4, 7, 11] [3, 4] .z .z))))) .z)))))) .z))
theorem ke_impl_Unparse : CK [e_impl_CellsOf] 0 ane_impl_Unparse Tryz.f87 e_impl_Unparse := ⟨⟨trivial, ⟨trivial, ⟨⟨trivial, ⟨fun _ _ => rfl, fun _ _ _ _ => by kernel_rfl, ⟨trivial, ⟨trivial, ⟨⟨trivial, ⟨trivial, ⟨trivial, ⟨trivial, trivial⟩⟩⟩⟩, trivial⟩⟩⟩⟩⟩, trivial⟩⟩⟩, fun _ => by kernel_rfl⟩
noncomputable def ane_impl_Decode : An := .q .z (.q .z (.m [(.normal, ⟨[], []⟩), (.ret, ⟨[(4, .s K1 []), (5, .s K1 [])], []⟩)] [0, 1] [] (.q .z (.b (.l ⟨[(0, .s K11 []), (1, .s K1 [])], []⟩ ⟨[(11, .s K1 [])], []⟩ [(.exit 0, ⟨[], []⟩), (.ret, ⟨[(4, .s K1 []), (5, .s K1 [])], []⟩)] (fun (bits_1, n_2) k v_8 => g_impl_Decode_l0 bits_1 n_2 k v_8) (.q .z (.q .z (.q (.b (.q .z (.q .z (.m [(.normal, ⟨[(32, .s K7 [])], []⟩)] [6, 7, 11] [] .z .z)))) .z)))))) .z))
theorem ke_impl_Decode : CK [e_impl_within, e_impl_WidthOf, e_impl_BitsOf] 0 ane_impl_Decode Tryz.f145 e_impl_Decode := ⟨⟨trivial, ⟨trivial, ⟨⟨trivial, ⟨fun _ _ => rfl, fun _ _ _ _ => by kernel_rfl, ⟨trivial, ⟨trivial, ⟨⟨trivial, ⟨trivial, ⟨trivial, trivial⟩⟩⟩, trivial⟩⟩⟩⟩⟩, trivial⟩⟩⟩, fun _ => by kernel_rfl⟩
end Go.Proofs.YtmlkglhpaneepaaGreatDoor
namespace Go.Proofs.YtmlkglhpaneepaaGreatDoor
open Go Go.Fm
set_option maxRecDepth 1000000
noncomputable def ane_impl_LetterAt : An := .z
theorem ke_impl_LetterAt : CK [e_impl_within, e_impl_letters] 0 ane_impl_LetterAt Tryz.f146 e_impl_LetterAt := ⟨trivial, fun _ => by kernel_rfl⟩
noncomputable def ane_impl_UnpackOne : An := .q .z (.q .z (.q .z (.q (.b (.l ⟨[(0, .s K11 []), (2, .s K0 [])], [.n, .n]⟩ ⟨[(3, .s K15 [(0, 1)]), (4, .s K1 [])], [.d, .o]⟩ [(.exit 0, ⟨[(3, .s K15 [(0, 1)])], [.d, .o]⟩)] (fun (f_1, _) k (out_4, left_5) => g_impl_UnpackOne_l0 f_1 k out_4 left_5) .z)) .z)))
theorem ke_impl_UnpackOne : CK [e_impl_Decode, e_impl_LetterAt] 0 ane_impl_UnpackOne Tryz.f135 e_impl_UnpackOne := ⟨⟨trivial, ⟨trivial, ⟨trivial, ⟨⟨fun _ _ => rfl, fun _ _ _ _ => by kernel_rfl, trivial⟩, trivial⟩⟩⟩⟩, fun _ => by kernel_rfl⟩
noncomputable def ane_slices_Equal_uint32 : An := .q .z (.q .z (.m [(.normal, ⟨[], []⟩), (.ret, ⟨[(4, .s K7 [])], []⟩)] [0, 1] [] (.q .z (.b (.l ⟨[(0, .s K12 []), (1, .s K12 []), (12, .s K1 [])], []⟩ ⟨[(13, .s K1 [])], []⟩ [(.exit 0, ⟨[], []⟩), (.ret, ⟨[(4, .s K7 [])], []⟩)] (fun (s1_1, s2_2, v_5) k v_6 => g_slices_Equal_uint32_l0 s1_1 s2_2 v_5 k v_6) .z))) .z))
theorem ke_slices_Equal_uint32 : CK [] 0 ane_slices_Equal_uint32 Tryz.f133 e_slices_Equal_uint32 := ⟨⟨trivial, ⟨trivial, ⟨⟨trivial, ⟨fun _ _ => rfl, fun _ _ _ _ => by kernel_rfl, trivial⟩⟩, trivial⟩⟩⟩, fun _ => by kernel_rfl⟩
noncomputable def ane_impl_Unpack : An := .q .z (.q .z (.q .z (.m [(.normal, ⟨[(4, .s K0 [])], []⟩)] [0, 2, 3] [] (.q .z (.b (.l ⟨[(0, .s K12 []), (2, .s K0 []), (3, .s K7 []), (10, .s K12 []), (11, .s K1 [])], []⟩ ⟨[(4, .s K0 []), (12, .s K1 [])], []⟩ [(.exit 0, ⟨[(4, .s K0 [])], []⟩)] (fun (_, _, _, v_7, v_8) k (name_9, v_10) => g_impl_Unpack_l0 v_7 v_8 k name_9 v_10) .z))) (.q (.m [(.normal, ⟨[(30, .s K7 [])], []⟩)] [0, 2, 3, 4] [] .z .z) .z))))
theorem ke_impl_Unpack : CK [e_impl_UnpackOne, e_impl_NameOk, e_impl_Pack, e_slices_Equal_uint32] 0 ane_impl_Unpack Tryz.f131 e_impl_Unpack := ⟨⟨trivial, ⟨trivial, ⟨trivial, ⟨⟨trivial, ⟨fun _ _ => rfl, fun _ _ _ _ => by kernel_rfl, trivial⟩⟩, ⟨⟨trivial, trivial⟩, trivial⟩⟩⟩⟩⟩, fun _ => by kernel_rfl⟩
noncomputable def ane_impl_nameKind : An := .q .z (.m [(.normal, ⟨[], []⟩), (.ret, ⟨[(2, .s K1 [])], []⟩)] [0] [] (.q .z (.b (.l ⟨[(0, .s K11 [])], []⟩ ⟨[(3, .s K1 [])], []⟩ [(.exit 0, ⟨[], []⟩), (.ret, ⟨[(2, .s K1 [])], []⟩)] (fun tag_1 k kind_4 => g_impl_nameKind_l0 tag_1 k kind_4) .z))) .z)
theorem ke_impl_nameKind : CK [e_impl_nameTag] 0 ane_impl_nameKind Tryz.f132 e_impl_nameKind := ⟨⟨trivial, ⟨⟨trivial, ⟨fun _ _ => rfl, fun _ _ _ _ => by kernel_rfl, trivial⟩⟩, trivial⟩⟩, fun _ => by kernel_rfl⟩
noncomputable def ane_impl_FieldOk : An := .z
theorem ke_impl_FieldOk : CK [e_impl_UnpackOne, e_impl_Pack, e_slices_Equal_uint32] 0 ane_impl_FieldOk Tryz.f134 e_impl_FieldOk := ⟨trivial, fun _ => by kernel_rfl⟩
noncomputable def ane_impl_parseOne : An := .q .z (.q .z (.q .z (.m [(.normal, ⟨[], [.f, .v K18 []]⟩)] [0, 2, 3, 4, 5] [0] (.q .z (.b (.m [(.normal, ⟨[(22, .s K7 [])], [.f, .f]⟩)] [21] [1] .z (.q (.q .z (.m [(.normal, ⟨[(6, .s K12 [(0, 3)])], [.f, .f, .d, .o]⟩)] [] [1] (.q .z (.b (.l ⟨[(0, .s K12 []), (2, .c (.one (.ptr 0 0))), (3, .s K11 []), (4, .s K11 []), (5, .c (.one (.ptr 1 0))), (33, .s K12 []), (34, .s K1 [])], [.v K18 [], .v K18 [], .n, .n]⟩ ⟨[(6, .s K12 [(0, 3)]), (35, .s K1 [])], [.f, .f, .d, .o]⟩ [(.exit 1, ⟨[(6, .s K12 [(0, 3)])], [.f, .f, .d, .o]⟩)] (fun (_, _, _, v_8, v_10, _, _) k (fields_13, v_14) => g_impl_parseOne_l0 v_8 v_10 k fields_13 v_14) (.q .z (.q .z (.q (.b (.q .z (.q (.m [(.normal, ⟨[(45, .s K7 [])], [.f, .f, .d, .f]⟩)] [6, 8, 35] [3] .z .z) .z))) .z)))))) .z)) (.q .z (.q .z (.q .z (.q .z (.m [(.normal, ⟨[(80, .s K7 [])], [.f, .f]⟩)] [21] [1] .z (.q (.q .z (.q .z (.m [(.normal, ⟨[], [.f, .f, .v K18 []]⟩)] [11] [1] .z .z))) (.q .z (.q (.m [(.normal, ⟨[(112, .s K7 [])], [.f, .f]⟩)] [] [1] .z .z) .z)))))))))))) .z)))
theorem ke_impl_parseOne : CK [e_impl_Unpack, e_impl_nameKind, e_impl_CellsOf, e_slices_Equal_uint32, e_impl_FieldOk, e_impl_UnpackOne] 0 ane_impl_parseOne Tryz.f116 e_impl_parseOne := ⟨⟨trivial, ⟨trivial, ⟨trivial, ⟨⟨trivial, ⟨trivial, ⟨⟨trivial, ⟨⟨trivial, ⟨fun _ _ => rfl, fun _ _ _ _ => by kernel_rfl, ⟨trivial, ⟨trivial, ⟨⟨trivial, ⟨⟨trivial, trivial⟩, trivial⟩⟩, trivial⟩⟩⟩⟩⟩, trivial⟩⟩, ⟨trivial, ⟨trivial, ⟨trivial, ⟨trivial, ⟨trivial, ⟨⟨trivial, ⟨trivial, ⟨trivial, trivial⟩⟩⟩, ⟨trivial, ⟨⟨trivial, trivial⟩, trivial⟩⟩⟩⟩⟩⟩⟩⟩⟩⟩⟩, trivial⟩⟩⟩⟩, fun _ => by kernel_rfl⟩
noncomputable def ane_impl_ParseCells : An := .q .z (.q .z (.q .z (.q (.b (.l ⟨[(2, .c (.one (.emp)))], [.n, .n]⟩ ⟨[(0, .s K12 []), (3, .s K19 [(0, 1)])], [.d, .o]⟩ [(.exit 0, ⟨[(3, .s K19 [(0, 1)])], [.d, .o]⟩)] (fun _ k (cells_3, out_4) => g_impl_ParseCells_l0 k cells_3 out_4) .z)) (.m [(.normal, ⟨[(3, .s K19 [(0, 2)])], [.d, .d, .o]⟩)] [2] [] (.q .z (.b (.l ⟨[(2, .c (.one (.emp)))], [.n, .n, .n]⟩ ⟨[(3, .s K19 [(0, 2)]), (5, .s K1 [])], [.d, .d, .o]⟩ [(.exit 2, ⟨[(3, .s K19 [(0, 2)])], [.d, .d, .o]⟩)] (fun _ k (out_11, n_12) => g_impl_ParseCells_l1 k out_11 n_12) (.q (.m [(.normal, ⟨[(36, .s K7 [])], [.d, .d, .f]⟩)] [3, 5] [2] .z .z) .z)))) .z))))
theorem ke_impl_ParseCells : CK [e_impl_parseOne, e_impl_CellsOf] 0 ane_impl_ParseCells Tryz.f89 e_impl_ParseCells := ⟨⟨trivial, ⟨trivial, ⟨trivial, ⟨⟨fun _ _ => rfl, fun _ _ _ _ => by kernel_rfl, trivial⟩, ⟨⟨trivial, ⟨fun _ _ => rfl, fun _ _ _ _ => by kernel_rfl, ⟨⟨trivial, trivial⟩, trivial⟩⟩⟩, trivial⟩⟩⟩⟩⟩, fun _ => by kernel_rfl⟩
end Go.Proofs.YtmlkglhpaneepaaGreatDoor
namespace Go.Proofs.YtmlkglhpaneepaaGreatDoor
open Go Go.Fm
set_option maxRecDepth 1000000
noncomputable def ane_slices_Equal_Item : An := .q .z (.q .z (.m [(.normal, ⟨[], []⟩), (.ret, ⟨[(4, .s K7 [])], []⟩)] [0, 1] [] (.q .z (.b (.l ⟨[(0, .s K19 []), (1, .s K19 []), (12, .s K1 [])], []⟩ ⟨[(13, .s K1 [])], []⟩ [(.exit 0, ⟨[], []⟩), (.ret, ⟨[(4, .s K7 [])], []⟩)] (fun (s1_1, s2_2, v_5) k v_6 => g_slices_Equal_Item_l0 s1_1 s2_2 v_5 k v_6) .z))) .z))
theorem ke_slices_Equal_Item : CK [] 0 ane_slices_Equal_Item Tryz.f88 e_slices_Equal_Item := ⟨⟨trivial, ⟨trivial, ⟨⟨trivial, ⟨fun _ _ => rfl, fun _ _ _ _ => by kernel_rfl, trivial⟩⟩, trivial⟩⟩⟩, fun _ => by kernel_rfl⟩
noncomputable def ane_impl_ListOk : An := .z
theorem ke_impl_ListOk : CK [e_impl_Unparse, e_impl_ParseCells, e_slices_Equal_Item] 0 ane_impl_ListOk Tryz.f47 e_impl_ListOk := ⟨trivial, fun _ => by kernel_rfl⟩
noncomputable def ane_impl_EdOk : An := .z
theorem ke_impl_EdOk : CK [e_slices_ContainsFunc_Item_impl_EdOkc1, e_impl_edItems, e_impl_ListOk] 0 ane_impl_EdOk Tryz.f18 e_impl_EdOk := ⟨trivial, fun _ => by kernel_rfl⟩
noncomputable def ane_impl_Session_store : An := .z
theorem ke_impl_Session_store : CK [] 1 ane_impl_Session_store Tryz.f20 e_impl_Session_store := ⟨trivial, fun _ => by kernel_rfl⟩
noncomputable def ane_impl_hasBlocksc1 : An := .z
theorem ke_impl_hasBlocksc1 : CK [e_impl_within] 1 ane_impl_hasBlocksc1 Tryz.f51 e_impl_hasBlocksc1 := ⟨trivial, fun _ => by kernel_rfl⟩
noncomputable def ane_slices_IndexFunc_int_impl_hasBlocksc1 : An := .q .z (.m [(.normal, ⟨[], [.f]⟩), (.ret, ⟨[(4, .s K1 [])], [.f]⟩)] [0, 1] [] (.q .z (.b (.l ⟨[(0, .s K13 []), (1, .c (.one (.fn 51 [(0, 0)]))), (7, .s K1 [])], [.v K22 []]⟩ ⟨[(8, .s K1 [])], [.f]⟩ [(.exit 0, ⟨[], [.f]⟩), (.ret, ⟨[(4, .s K1 [])], [.f]⟩)] (fun (s_1, v_5, c_2) k v_6 => g_slices_IndexFunc_int_impl_hasBlocksc1_l0 s_1 v_5 c_2 k v_6) .z))) .z)
theorem ke_slices_IndexFunc_int_impl_hasBlocksc1 : CK [e_impl_hasBlocksc1] 1 ane_slices_IndexFunc_int_impl_hasBlocksc1 Tryz.f91 e_slices_IndexFunc_int_impl_hasBlocksc1 := ⟨⟨trivial, ⟨⟨trivial, ⟨fun _ _ => rfl, fun _ _ _ _ => by kernel_rfl, trivial⟩⟩, trivial⟩⟩, fun _ => by kernel_rfl⟩
noncomputable def ane_slices_ContainsFunc_int_impl_hasBlocksc1 : An := .z
theorem ke_slices_ContainsFunc_int_impl_hasBlocksc1 : CK [e_slices_IndexFunc_int_impl_hasBlocksc1] 1 ane_slices_ContainsFunc_int_impl_hasBlocksc1 Tryz.f50 e_slices_ContainsFunc_int_impl_hasBlocksc1 := ⟨trivial, fun _ => by kernel_rfl⟩
noncomputable def ane_impl_hasBlocks : An := .z
theorem ke_impl_hasBlocks : CK [e_impl_StoreOk, e_slices_ContainsFunc_int_impl_hasBlocksc1] 0 ane_impl_hasBlocks Tryz.f19 e_impl_hasBlocks := ⟨trivial, fun _ => by kernel_rfl⟩
end Go.Proofs.YtmlkglhpaneepaaGreatDoor
namespace Go.Proofs.YtmlkglhpaneepaaGreatDoor
open Go Go.Fm
set_option maxRecDepth 1000000
noncomputable def ane_impl_SessionOk : An := .q .z (.q (.m [(.normal, ⟨[(12, .s K7 [])], [.f]⟩)] [1, 2] [0] .z .z) .z)
theorem ke_impl_SessionOk : CK [e_impl_WorldOk, e_impl_EdOk, e_impl_Session_store, e_impl_hasBlocks] 0 ane_impl_SessionOk Tryz.f7 e_impl_SessionOk := ⟨⟨trivial, ⟨⟨trivial, trivial⟩, trivial⟩⟩, fun _ => by kernel_rfl⟩
noncomputable def ane_laws_eqOp : An := .z
theorem ke_laws_eqOp : CK [] 0 ane_laws_eqOp Tryz.f136 e_laws_eqOp := ⟨trivial, fun _ => by kernel_rfl⟩
noncomputable def ane_laws_eqOpS : An := .q .z (.q .z (.m [(.normal, ⟨[], []⟩), (.ret, ⟨[(4, .s K7 [])], []⟩)] [0, 1] [] (.q .z (.b (.l ⟨[(0, .s K4 []), (1, .s K4 [])], []⟩ ⟨[(5, .s K1 [])], []⟩ [(.exit 0, ⟨[], []⟩), (.ret, ⟨[(4, .s K7 [])], []⟩)] (fun (a_1, b_2) k i_5 => g_laws_eqOpS_l0 a_1 b_2 k i_5) .z))) .z))
theorem ke_laws_eqOpS : CK [e_laws_eqOp] 0 ane_laws_eqOpS Tryz.f118 e_laws_eqOpS := ⟨⟨trivial, ⟨trivial, ⟨⟨trivial, ⟨fun _ _ => rfl, fun _ _ _ _ => by kernel_rfl, trivial⟩⟩, trivial⟩⟩⟩, fun _ => by kernel_rfl⟩
noncomputable def ane_laws_eqDef : An := .z
theorem ke_laws_eqDef : CK [e_laws_eqOpS] 0 ane_laws_eqDef Tryz.f92 e_laws_eqDef := ⟨trivial, fun _ => by kernel_rfl⟩
noncomputable def ane_laws_eqDefS : An := .q .z (.q .z (.m [(.normal, ⟨[], []⟩), (.ret, ⟨[(4, .s K7 [])], []⟩)] [0, 1] [] (.q .z (.b (.l ⟨[(0, .s K6 []), (1, .s K6 [])], []⟩ ⟨[(5, .s K1 [])], []⟩ [(.exit 0, ⟨[], []⟩), (.ret, ⟨[(4, .s K7 [])], []⟩)] (fun (a_1, b_2) k i_5 => g_laws_eqDefS_l0 a_1 b_2 k i_5) .z))) .z))
theorem ke_laws_eqDefS : CK [e_laws_eqDef] 0 ane_laws_eqDefS Tryz.f52 e_laws_eqDefS := ⟨⟨trivial, ⟨trivial, ⟨⟨trivial, ⟨fun _ _ => rfl, fun _ _ _ _ => by kernel_rfl, trivial⟩⟩, trivial⟩⟩⟩, fun _ => by kernel_rfl⟩
noncomputable def ane_laws_eqEntry : An := .z
theorem ke_laws_eqEntry : CK [] 0 ane_laws_eqEntry Tryz.f93 e_laws_eqEntry := ⟨trivial, fun _ => by kernel_rfl⟩
noncomputable def ane_laws_eqEntryS : An := .q .z (.q .z (.m [(.normal, ⟨[], []⟩), (.ret, ⟨[(4, .s K7 [])], []⟩)] [0, 1] [] (.q .z (.b (.l ⟨[(0, .s K9 []), (1, .s K9 [])], []⟩ ⟨[(5, .s K1 [])], []⟩ [(.exit 0, ⟨[], []⟩), (.ret, ⟨[(4, .s K7 [])], []⟩)] (fun (a_1, b_2) k i_5 => g_laws_eqEntryS_l0 a_1 b_2 k i_5) .z))) .z))
theorem ke_laws_eqEntryS : CK [e_laws_eqEntry] 0 ane_laws_eqEntryS Tryz.f53 e_laws_eqEntryS := ⟨⟨trivial, ⟨trivial, ⟨⟨trivial, ⟨fun _ _ => rfl, fun _ _ _ _ => by kernel_rfl, trivial⟩⟩, trivial⟩⟩⟩, fun _ => by kernel_rfl⟩
noncomputable def ane_laws_eqInt32S : An := .q .z (.q .z (.m [(.normal, ⟨[], []⟩), (.ret, ⟨[(4, .s K7 [])], []⟩)] [0, 1] [] (.q .z (.b (.l ⟨[(0, .s K10 []), (1, .s K10 [])], []⟩ ⟨[(5, .s K1 [])], []⟩ [(.exit 0, ⟨[], []⟩), (.ret, ⟨[(4, .s K7 [])], []⟩)] (fun (a_1, b_2) k i_5 => g_laws_eqInt32S_l0 a_1 b_2 k i_5) .z))) .z))
theorem ke_laws_eqInt32S : CK [] 0 ane_laws_eqInt32S Tryz.f94 e_laws_eqInt32S := ⟨⟨trivial, ⟨trivial, ⟨⟨trivial, ⟨fun _ _ => rfl, fun _ _ _ _ => by kernel_rfl, trivial⟩⟩, trivial⟩⟩⟩, fun _ => by kernel_rfl⟩
end Go.Proofs.YtmlkglhpaneepaaGreatDoor
namespace Go.Proofs.YtmlkglhpaneepaaGreatDoor
open Go Go.Fm
set_option maxRecDepth 1000000
noncomputable def ane_laws_eqSlot : An := .z
theorem ke_laws_eqSlot : CK [] 0 ane_laws_eqSlot Tryz.f119 e_laws_eqSlot := ⟨trivial, fun _ => by kernel_rfl⟩
noncomputable def ane_laws_eqSlotS : An := .q .z (.q .z (.m [(.normal, ⟨[], []⟩), (.ret, ⟨[(4, .s K7 [])], []⟩)] [0, 1] [] (.q .z (.b (.l ⟨[(0, .s K4 []), (1, .s K4 [])], []⟩ ⟨[(5, .s K1 [])], []⟩ [(.exit 0, ⟨[], []⟩), (.ret, ⟨[(4, .s K7 [])], []⟩)] (fun (a_1, b_2) k i_5 => g_laws_eqSlotS_l0 a_1 b_2 k i_5) .z))) .z))
theorem ke_laws_eqSlotS : CK [e_laws_eqSlot] 0 ane_laws_eqSlotS Tryz.f95 e_laws_eqSlotS := ⟨⟨trivial, ⟨trivial, ⟨⟨trivial, ⟨fun _ _ => rfl, fun _ _ _ _ => by kernel_rfl, trivial⟩⟩, trivial⟩⟩⟩, fun _ => by kernel_rfl⟩
noncomputable def ane_laws_eqUint32S : An := .q .z (.q .z (.m [(.normal, ⟨[], []⟩), (.ret, ⟨[(4, .s K7 [])], []⟩)] [0, 1] [] (.q .z (.b (.l ⟨[(0, .s K12 []), (1, .s K12 [])], []⟩ ⟨[(5, .s K1 [])], []⟩ [(.exit 0, ⟨[], []⟩), (.ret, ⟨[(4, .s K7 [])], []⟩)] (fun (a_1, b_2) k i_5 => g_laws_eqUint32S_l0 a_1 b_2 k i_5) .z))) .z))
theorem ke_laws_eqUint32S : CK [] 0 ane_laws_eqUint32S Tryz.f96 e_laws_eqUint32S := ⟨⟨trivial, ⟨trivial, ⟨⟨trivial, ⟨fun _ _ => rfl, fun _ _ _ _ => by kernel_rfl, trivial⟩⟩, trivial⟩⟩⟩, fun _ => by kernel_rfl⟩
noncomputable def ane_laws_eqIntS : An := .q .z (.q .z (.m [(.normal, ⟨[], []⟩), (.ret, ⟨[(4, .s K7 [])], []⟩)] [0, 1] [] (.q .z (.b (.l ⟨[(0, .s K13 []), (1, .s K13 [])], []⟩ ⟨[(5, .s K1 [])], []⟩ [(.exit 0, ⟨[], []⟩), (.ret, ⟨[(4, .s K7 [])], []⟩)] (fun (a_1, b_2) k i_5 => g_laws_eqIntS_l0 a_1 b_2 k i_5) .z))) .z))
theorem ke_laws_eqIntS : CK [] 0 ane_laws_eqIntS Tryz.f97 e_laws_eqIntS := ⟨⟨trivial, ⟨trivial, ⟨⟨trivial, ⟨fun _ _ => rfl, fun _ _ _ _ => by kernel_rfl, trivial⟩⟩, trivial⟩⟩⟩, fun _ => by kernel_rfl⟩
noncomputable def ane_laws_eqByteS : An := .q .z (.q .z (.m [(.normal, ⟨[], []⟩), (.ret, ⟨[(4, .s K7 [])], []⟩)] [0, 1] [] (.q .z (.b (.l ⟨[(0, .s K15 []), (1, .s K15 [])], []⟩ ⟨[(5, .s K1 [])], []⟩ [(.exit 0, ⟨[], []⟩), (.ret, ⟨[(4, .s K7 [])], []⟩)] (fun (a_1, b_2) k i_5 => g_laws_eqByteS_l0 a_1 b_2 k i_5) .z))) .z))
theorem ke_laws_eqByteS : CK [] 0 ane_laws_eqByteS Tryz.f98 e_laws_eqByteS := ⟨⟨trivial, ⟨trivial, ⟨⟨trivial, ⟨fun _ _ => rfl, fun _ _ _ _ => by kernel_rfl, trivial⟩⟩, trivial⟩⟩⟩, fun _ => by kernel_rfl⟩
noncomputable def ane_laws_eqSt : An := .z
theorem ke_laws_eqSt : CK [e_laws_eqInt32S, e_laws_eqSlotS, e_laws_eqUint32S, e_laws_eqIntS, e_laws_eqByteS] 0 ane_laws_eqSt Tryz.f54 e_laws_eqSt := ⟨trivial, fun _ => by kernel_rfl⟩
noncomputable def ane_laws_eqWorld : An := .z
theorem ke_laws_eqWorld : CK [e_laws_eqDefS, e_laws_eqEntryS, e_laws_eqSt] 0 ane_laws_eqWorld Tryz.f21 e_laws_eqWorld := ⟨trivial, fun _ => by kernel_rfl⟩
noncomputable def ane_laws_eqItem : An := .z
theorem ke_laws_eqItem : CK [] 0 ane_laws_eqItem Tryz.f99 e_laws_eqItem := ⟨trivial, fun _ => by kernel_rfl⟩
end Go.Proofs.YtmlkglhpaneepaaGreatDoor
namespace Go.Proofs.YtmlkglhpaneepaaGreatDoor
open Go Go.Fm
set_option maxRecDepth 1000000
noncomputable def ane_laws_eqItemS : An := .q .z (.q .z (.m [(.normal, ⟨[], []⟩), (.ret, ⟨[(4, .s K7 [])], []⟩)] [0, 1] [] (.q .z (.b (.l ⟨[(0, .s K19 []), (1, .s K19 [])], []⟩ ⟨[(5, .s K1 [])], []⟩ [(.exit 0, ⟨[], []⟩), (.ret, ⟨[(4, .s K7 [])], []⟩)] (fun (a_1, b_2) k i_5 => g_laws_eqItemS_l0 a_1 b_2 k i_5) .z))) .z))
theorem ke_laws_eqItemS : CK [e_laws_eqItem] 0 ane_laws_eqItemS Tryz.f55 e_laws_eqItemS := ⟨⟨trivial, ⟨trivial, ⟨⟨trivial, ⟨fun _ _ => rfl, fun _ _ _ _ => by kernel_rfl, trivial⟩⟩, trivial⟩⟩⟩, fun _ => by kernel_rfl⟩
noncomputable def ane_laws_eqEd : An := .z
theorem ke_laws_eqEd : CK [e_laws_eqItemS] 0 ane_laws_eqEd Tryz.f22 e_laws_eqEd := ⟨trivial, fun _ => by kernel_rfl⟩
noncomputable def ane_laws_eqSession : An := .z
theorem ke_laws_eqSession : CK [e_laws_eqWorld, e_laws_eqEd] 0 ane_laws_eqSession Tryz.f8 e_laws_eqSession := ⟨trivial, fun _ => by kernel_rfl⟩
noncomputable def ane_laws_FnExactSessionOk : An := .z
theorem ke_laws_FnExactSessionOk : CK [e_laws_szSession, e_laws_toSession, e_spec_SessionOk, e_impl_SessionOk, e_laws_eqSession] 0 ane_laws_FnExactSessionOk Tryz.f3 e_laws_FnExactSessionOk := ⟨trivial, fun _ => by kernel_rfl⟩
end Go.Proofs.YtmlkglhpaneepaaGreatDoor
namespace Go.Proofs.YtmlkglhpaneepaaGreatDoor
open Go Go.Fm
set_option maxRecDepth 1000000
theorem ce_laws_szOpS : CO e_laws_szOpS := fnc (fun _ => con_nil) Tryz.func100 ke_laws_szOpS (by kernel_rfl) (fun _ => by kernel_rfl) (fun _ => by kernel_rfl) rfl
theorem ce_laws_szDef : CO e_laws_szDef := fnc (fun _ => con_cons ce_laws_szOpS con_nil) Tryz.func56 ke_laws_szDef (by kernel_rfl) (fun _ => by kernel_rfl) (fun _ => by kernel_rfl) rfl
theorem ce_laws_szDefS : CO e_laws_szDefS := fnc (fun _ => con_cons ce_laws_szDef con_nil) Tryz.func23 ke_laws_szDefS (by kernel_rfl) (fun _ => by kernel_rfl) (fun _ => by kernel_rfl) rfl
theorem ce_laws_szEntry : CO e_laws_szEntry := fnc (fun _ => con_nil) Tryz.func57 ke_laws_szEntry (by kernel_rfl) (fun _ => by kernel_rfl) (fun _ => by kernel_rfl) rfl
theorem ce_laws_szEntryS : CO e_laws_szEntryS := fnc (fun _ => con_cons ce_laws_szEntry con_nil) Tryz.func24 ke_laws_szEntryS (by kernel_rfl) (fun _ => by kernel_rfl) (fun _ => by kernel_rfl) rfl
theorem ce_laws_szInt32S : CO e_laws_szInt32S := fnc (fun _ => con_nil) Tryz.func58 ke_laws_szInt32S (by kernel_rfl) (fun _ => by kernel_rfl) (fun _ => by kernel_rfl) rfl
theorem ce_laws_szSlotS : CO e_laws_szSlotS := fnc (fun _ => con_nil) Tryz.func59 ke_laws_szSlotS (by kernel_rfl) (fun _ => by kernel_rfl) (fun _ => by kernel_rfl) rfl
theorem ce_laws_szUint32S : CO e_laws_szUint32S := fnc (fun _ => con_nil) Tryz.func60 ke_laws_szUint32S (by kernel_rfl) (fun _ => by kernel_rfl) (fun _ => by kernel_rfl) rfl
theorem ce_laws_szIntS : CO e_laws_szIntS := fnc (fun _ => con_nil) Tryz.func61 ke_laws_szIntS (by kernel_rfl) (fun _ => by kernel_rfl) (fun _ => by kernel_rfl) rfl
theorem ce_laws_szByteS : CO e_laws_szByteS := fnc (fun _ => con_nil) Tryz.func62 ke_laws_szByteS (by kernel_rfl) (fun _ => by kernel_rfl) (fun _ => by kernel_rfl) rfl
theorem ce_laws_szSt : CO e_laws_szSt := fnc (fun _ => con_cons ce_laws_szInt32S (con_cons ce_laws_szSlotS (con_cons ce_laws_szUint32S (con_cons ce_laws_szIntS (con_cons ce_laws_szByteS con_nil))))) Tryz.func25 ke_laws_szSt (by kernel_rfl) (fun _ => by kernel_rfl) (fun _ => by kernel_rfl) rfl
theorem ce_laws_szWorld : CO e_laws_szWorld := fnc (fun _ => con_cons ce_laws_szDefS (con_cons ce_laws_szEntryS (con_cons ce_laws_szSt con_nil))) Tryz.func9 ke_laws_szWorld (by kernel_rfl) (fun _ => by kernel_rfl) (fun _ => by kernel_rfl) rfl
theorem ce_laws_szItem : CO e_laws_szItem := fnc (fun _ => con_nil) Tryz.func63 ke_laws_szItem (by kernel_rfl) (fun _ => by kernel_rfl) (fun _ => by kernel_rfl) rfl
theorem ce_laws_szItemS : CO e_laws_szItemS := fnc (fun _ => con_cons ce_laws_szItem con_nil) Tryz.func26 ke_laws_szItemS (by kernel_rfl) (fun _ => by kernel_rfl) (fun _ => by kernel_rfl) rfl
theorem ce_laws_szEd : CO e_laws_szEd := fnc (fun _ => con_cons ce_laws_szItemS con_nil) Tryz.func10 ke_laws_szEd (by kernel_rfl) (fun _ => by kernel_rfl) (fun _ => by kernel_rfl) rfl
theorem ce_laws_szSession : CO e_laws_szSession := fnc (fun _ => con_cons ce_laws_szWorld (con_cons ce_laws_szEd con_nil)) Tryz.func4 ke_laws_szSession (by kernel_rfl) (fun _ => by kernel_rfl) (fun _ => by kernel_rfl) rfl
theorem ce_laws_toOp : CO e_laws_toOp := fnc (fun _ => con_nil) Tryz.func127 ke_laws_toOp (by kernel_rfl) (fun _ => by kernel_rfl) (fun _ => by kernel_rfl) rfl
theorem ce_laws_toOpS : CO e_laws_toOpS := fnc (fun _ => con_cons ce_laws_toOp con_nil) Tryz.func107 ke_laws_toOpS (by kernel_rfl) (fun _ => by kernel_rfl) (fun _ => by kernel_rfl) rfl
theorem ce_laws_toDef_imm : CO e_laws_toDef_imm := fnc (fun _ => con_cons ce_laws_toOpS con_nil) Tryz.func72 ke_laws_toDef_imm (by kernel_rfl) (fun _ => by kernel_rfl) (fun _ => by kernel_rfl) rfl
theorem ce_laws_toDefS : CO e_laws_toDefS := fnc (fun _ => con_cons ce_laws_toDef_imm con_nil) Tryz.func34 ke_laws_toDefS (by kernel_rfl) (fun _ => by kernel_rfl) (fun _ => by kernel_rfl) rfl
theorem ce_laws_toEntry : CO e_laws_toEntry := fnc (fun _ => con_nil) Tryz.func73 ke_laws_toEntry (by kernel_rfl) (fun _ => by kernel_rfl) (fun _ => by kernel_rfl) rfl
theorem ce_laws_toEntryS : CO e_laws_toEntryS := fnc (fun _ => con_cons ce_laws_toEntry con_nil) Tryz.func35 ke_laws_toEntryS (by kernel_rfl) (fun _ => by kernel_rfl) (fun _ => by kernel_rfl) rfl
theorem ce_laws_toInt32S : CO e_laws_toInt32S := fnc (fun _ => con_nil) Tryz.func74 ke_laws_toInt32S (by kernel_rfl) (fun _ => by kernel_rfl) (fun _ => by kernel_rfl) rfl
theorem ce_laws_toSlot : CO e_laws_toSlot := fnc (fun _ => con_nil) Tryz.func108 ke_laws_toSlot (by kernel_rfl) (fun _ => by kernel_rfl) (fun _ => by kernel_rfl) rfl
theorem ce_laws_toSlotS : CO e_laws_toSlotS := fnc (fun _ => con_cons ce_laws_toSlot con_nil) Tryz.func75 ke_laws_toSlotS (by kernel_rfl) (fun _ => by kernel_rfl) (fun _ => by kernel_rfl) rfl
theorem ce_laws_toUint32S : CO e_laws_toUint32S := fnc (fun _ => con_nil) Tryz.func76 ke_laws_toUint32S (by kernel_rfl) (fun _ => by kernel_rfl) (fun _ => by kernel_rfl) rfl
theorem ce_laws_toIntS : CO e_laws_toIntS := fnc (fun _ => con_nil) Tryz.func77 ke_laws_toIntS (by kernel_rfl) (fun _ => by kernel_rfl) (fun _ => by kernel_rfl) rfl
theorem ce_laws_toByteS : CO e_laws_toByteS := fnc (fun _ => con_nil) Tryz.func78 ke_laws_toByteS (by kernel_rfl) (fun _ => by kernel_rfl) (fun _ => by kernel_rfl) rfl
theorem ce_laws_toSt : CO e_laws_toSt := fnc (fun _ => con_cons ce_laws_toInt32S (con_cons ce_laws_toSlotS (con_cons ce_laws_toUint32S (con_cons ce_laws_toIntS (con_cons ce_laws_toByteS con_nil))))) Tryz.func36 ke_laws_toSt (by kernel_rfl) (fun _ => by kernel_rfl) (fun _ => by kernel_rfl) rfl
theorem ce_laws_toWorld : CO e_laws_toWorld := fnc (fun _ => con_cons ce_laws_toDefS (con_cons ce_laws_toEntryS (con_cons ce_laws_toSt con_nil))) Tryz.func15 ke_laws_toWorld (by kernel_rfl) (fun _ => by kernel_rfl) (fun _ => by kernel_rfl) rfl
theorem ce_laws_toItem : CO e_laws_toItem := fnc (fun _ => con_nil) Tryz.func79 ke_laws_toItem (by kernel_rfl) (fun _ => by kernel_rfl) (fun _ => by kernel_rfl) rfl
theorem ce_laws_toItemS : CO e_laws_toItemS := fnc (fun _ => con_cons ce_laws_toItem con_nil) Tryz.func37 ke_laws_toItemS (by kernel_rfl) (fun _ => by kernel_rfl) (fun _ => by kernel_rfl) rfl
theorem ce_laws_toEd : CO e_laws_toEd := fnc (fun _ => con_cons ce_laws_toItemS con_nil) Tryz.func16 ke_laws_toEd (by kernel_rfl) (fun _ => by kernel_rfl) (fun _ => by kernel_rfl) rfl
theorem ce_laws_toSession : CO e_laws_toSession := fnc (fun _ => con_cons ce_laws_toWorld (con_cons ce_laws_toEd con_nil)) Tryz.func6 ke_laws_toSession (by kernel_rfl) (fun _ => by kernel_rfl) (fun _ => by kernel_rfl) rfl
theorem ce_spec_l01In : CO e_spec_l01In := fnc (fun _ => con_nil) Tryz.func14 ke_spec_l01In (by kernel_rfl) (fun _ => by kernel_rfl) (fun _ => by kernel_rfl) rfl
theorem ce_spec_StoreOk : CO e_spec_StoreOk := fnc (fun _ => con_nil) Tryz.func64 ke_spec_StoreOk (by kernel_rfl) (fun _ => by kernel_rfl) (fun _ => by kernel_rfl) rfl
theorem ce_spec_StOk : CO e_spec_StOk := fnc (fun _ => con_cons ce_spec_l01In (con_cons ce_spec_StoreOk con_nil)) Tryz.func27 ke_spec_StOk (by kernel_rfl) (fun _ => by kernel_rfl) (fun _ => by kernel_rfl) rfl
theorem ce_spec_l02All : CO e_spec_l02All := fnc (fun _ => con_nil) Tryz.func102 ke_spec_l02All (by kernel_rfl) (fun _ => by kernel_rfl) (fun _ => by kernel_rfl) rfl
theorem ce_spec_LetterOf : CO e_spec_LetterOf := fnc (fun _ => con_cons ce_spec_l02All con_nil) Tryz.func67 ke_spec_LetterOf (by kernel_rfl) (fun _ => by kernel_rfl) (fun _ => by kernel_rfl) rfl
theorem ce_spec_NameOk : CO e_spec_NameOk := fnc (fun _ => con_cons ce_spec_l01In (con_cons ce_spec_LetterOf con_nil)) Tryz.func30 ke_spec_NameOk (by kernel_rfl) (fun _ => by kernel_rfl) (fun _ => by kernel_rfl) rfl
theorem ce_spec_l08Names : CO e_spec_l08Names := fnc (fun _ => con_nil) Tryz.func120 ke_spec_l08Names (by kernel_rfl) (fun _ => by kernel_rfl) (fun _ => by kernel_rfl) rfl
theorem ce_spec_PrimName : CO e_spec_PrimName := fnc (fun _ => con_cons ce_spec_l08Names (con_cons ce_spec_l01In con_nil)) Tryz.func101 ke_spec_PrimName (by kernel_rfl) (fun _ => by kernel_rfl) (fun _ => by kernel_rfl) rfl
theorem ce_spec_l09Op : CO e_spec_l09Op := fnc (fun _ => con_cons ce_spec_PrimName (con_cons ce_spec_l01In con_nil)) Tryz.func65 ke_spec_l09Op (by kernel_rfl) (fun _ => by kernel_rfl) (fun _ => by kernel_rfl) rfl
theorem ce_spec_l09Open : CO e_spec_l09Open := fnc (fun _ => con_nil) Tryz.func66 ke_spec_l09Open (by kernel_rfl) (fun _ => by kernel_rfl) (fun _ => by kernel_rfl) rfl
theorem ce_spec_l13Defs : CO e_spec_l13Defs := fnc (fun _ => con_cons ce_spec_NameOk (con_cons ce_spec_l09Op (con_cons ce_spec_l09Open con_nil))) Tryz.func28 ke_spec_l13Defs (by kernel_rfl) (fun _ => by kernel_rfl) (fun _ => by kernel_rfl) rfl
theorem ce_spec_l13Has : CO e_spec_l13Has := fnc (fun _ => con_nil) Tryz.func29 ke_spec_l13Has (by kernel_rfl) (fun _ => by kernel_rfl) (fun _ => by kernel_rfl) rfl
theorem ce_spec_WorldOk : CO e_spec_WorldOk := fnc (fun _ => con_cons ce_spec_StOk (con_cons ce_spec_l13Defs (con_cons ce_spec_l01In (con_cons ce_spec_l13Has (con_cons ce_spec_NameOk con_nil))))) Tryz.func11 ke_spec_WorldOk (by kernel_rfl) (fun _ => by kernel_rfl) (fun _ => by kernel_rfl) rfl
theorem ce_spec_l04Num : CO e_spec_l04Num := fnc (fun _ => con_nil) Tryz.func103 ke_spec_l04Num (by kernel_rfl) (fun _ => by kernel_rfl) (fun _ => by kernel_rfl) rfl
theorem ce_spec_WidthOf : CO e_spec_WidthOf := fnc (fun _ => con_cons ce_spec_l01In con_nil) Tryz.func147 ke_spec_WidthOf (by kernel_rfl) (fun _ => by kernel_rfl) (fun _ => by kernel_rfl) rfl
theorem ce_spec_BitsOf : CO e_spec_BitsOf := fnc (fun _ => con_cons ce_spec_WidthOf con_nil) Tryz.func148 ke_spec_BitsOf (by kernel_rfl) (fun _ => by kernel_rfl) (fun _ => by kernel_rfl) rfl
theorem ce_spec_l03One : CO e_spec_l03One := fnc (fun _ => con_cons ce_spec_LetterOf (con_cons ce_spec_WidthOf (con_cons ce_spec_BitsOf con_nil))) Tryz.func137 ke_spec_l03One (by kernel_rfl) (fun _ => by kernel_rfl) (fun _ => by kernel_rfl) rfl
theorem ce_spec_Pack : CO e_spec_Pack := fnc (fun _ => con_cons ce_spec_NameOk (con_cons ce_spec_l03One con_nil)) Tryz.func121 ke_spec_Pack (by kernel_rfl) (fun _ => by kernel_rfl) (fun _ => by kernel_rfl) rfl
theorem ce_spec_l04Word : CO e_spec_l04Word := fnc (fun _ => con_cons ce_spec_Pack con_nil) Tryz.func104 ke_spec_l04Word (by kernel_rfl) (fun _ => by kernel_rfl) (fun _ => by kernel_rfl) rfl
theorem ce_spec_l04Tag : CO e_spec_l04Tag := fnc (fun _ => con_nil) Tryz.func105 ke_spec_l04Tag (by kernel_rfl) (fun _ => by kernel_rfl) (fun _ => by kernel_rfl) rfl
theorem ce_spec_CellsOf : CO e_spec_CellsOf := fnc (fun _ => con_cons ce_spec_l04Num (con_cons ce_spec_l04Word (con_cons ce_spec_l04Tag con_nil))) Tryz.func68 ke_spec_CellsOf (by kernel_rfl) (fun _ => by kernel_rfl) (fun _ => by kernel_rfl) rfl
theorem ce_spec_ItemOk : CO e_spec_ItemOk := fnc (fun _ => con_cons ce_spec_CellsOf con_nil) Tryz.func31 ke_spec_ItemOk (by kernel_rfl) (fun _ => by kernel_rfl) (fun _ => by kernel_rfl) rfl
theorem ce_spec_l07All : CO e_spec_l07All := fnc (fun _ => con_nil) Tryz.func33 ke_spec_l07All (by kernel_rfl) (fun _ => by kernel_rfl) (fun _ => by kernel_rfl) rfl
theorem ce_spec_Unparse : CO e_spec_Unparse := fnc (fun _ => con_cons ce_spec_CellsOf con_nil) Tryz.func69 ke_spec_Unparse (by kernel_rfl) (fun _ => by kernel_rfl) (fun _ => by kernel_rfl) rfl
theorem ce_spec_l04Kind : CO e_spec_l04Kind := fnc (fun _ => con_cons ce_spec_l04Tag con_nil) Tryz.func122 ke_spec_l04Kind (by kernel_rfl) (fun _ => by kernel_rfl) (fun _ => by kernel_rfl) rfl
theorem ce_spec_Decode : CO e_spec_Decode := fnc (fun _ => con_cons ce_spec_l01In (con_cons ce_spec_WidthOf (con_cons ce_spec_BitsOf con_nil))) Tryz.func139 ke_spec_Decode (by kernel_rfl) (fun _ => by kernel_rfl) (fun _ => by kernel_rfl) rfl
theorem ce_spec_LetterAt : CO e_spec_LetterAt := fnc (fun _ => con_cons ce_spec_l01In (con_cons ce_spec_l02All con_nil)) Tryz.func140 ke_spec_LetterAt (by kernel_rfl) (fun _ => by kernel_rfl) (fun _ => by kernel_rfl) rfl
theorem ce_spec_UnpackOne : CO e_spec_UnpackOne := fnc (fun _ => con_cons ce_spec_Decode (con_cons ce_spec_LetterAt con_nil)) Tryz.func126 ke_spec_UnpackOne (by kernel_rfl) (fun _ => by kernel_rfl) (fun _ => by kernel_rfl) rfl
theorem ce_spec_l03Same : CO e_spec_l03Same := fnc (fun _ => con_nil) Tryz.func149 ke_spec_l03Same (by kernel_rfl) (fun _ => by kernel_rfl) (fun _ => by kernel_rfl) rfl
theorem ce_spec_Unpack : CO e_spec_Unpack := fnc (fun _ => con_cons ce_spec_UnpackOne (con_cons ce_spec_NameOk (con_cons ce_spec_Pack (con_cons ce_spec_l03Same con_nil)))) Tryz.func138 ke_spec_Unpack (by kernel_rfl) (fun _ => by kernel_rfl) (fun _ => by kernel_rfl) rfl
theorem ce_spec_l04Name : CO e_spec_l04Name := fnc (fun _ => con_cons ce_spec_Unpack con_nil) Tryz.func123 ke_spec_l04Name (by kernel_rfl) (fun _ => by kernel_rfl) (fun _ => by kernel_rfl) rfl
theorem ce_spec_l04Number : CO e_spec_l04Number := fnc (fun _ => con_cons ce_spec_CellsOf con_nil) Tryz.func124 ke_spec_l04Number (by kernel_rfl) (fun _ => by kernel_rfl) (fun _ => by kernel_rfl) rfl
theorem ce_spec_FieldOk : CO e_spec_FieldOk := fnc (fun _ => con_cons ce_spec_UnpackOne (con_cons ce_spec_Pack con_nil)) Tryz.func125 ke_spec_FieldOk (by kernel_rfl) (fun _ => by kernel_rfl) (fun _ => by kernel_rfl) rfl
theorem ce_spec_l04Item : CO e_spec_l04Item := fnc (fun _ => con_cons ce_spec_l04Kind (con_cons ce_spec_l04Name (con_cons ce_spec_l04Number (con_cons ce_spec_FieldOk (con_cons ce_spec_UnpackOne con_nil))))) Tryz.func106 ke_spec_l04Item (by kernel_rfl) (fun _ => by kernel_rfl) (fun _ => by kernel_rfl) rfl
theorem ce_spec_ParseCells : CO e_spec_ParseCells := fnc (fun _ => con_cons ce_spec_l04Item con_nil) Tryz.func71 ke_spec_ParseCells (by kernel_rfl) (fun _ => by kernel_rfl) (fun _ => by kernel_rfl) rfl
theorem ce_spec_l04Same : CO e_spec_l04Same := fnc (fun _ => con_nil) Tryz.func70 ke_spec_l04Same (by kernel_rfl) (fun _ => by kernel_rfl) (fun _ => by kernel_rfl) rfl
theorem ce_spec_ListOk : CO e_spec_ListOk := fnc (fun _ => con_cons ce_spec_Unparse (con_cons ce_spec_ParseCells (con_cons ce_spec_l04Same con_nil))) Tryz.func32 ke_spec_ListOk (by kernel_rfl) (fun _ => by kernel_rfl) (fun _ => by kernel_rfl) rfl
theorem ce_spec_EdOk : CO e_spec_EdOk := fnc (fun _ => con_cons ce_spec_ItemOk (con_cons ce_spec_l07All (con_cons ce_spec_ListOk con_nil))) Tryz.func12 ke_spec_EdOk (by kernel_rfl) (fun _ => by kernel_rfl) (fun _ => by kernel_rfl) rfl
theorem ce_spec_l18NoEd : CO e_spec_l18NoEd := fnc (fun _ => con_nil) Tryz.func13 ke_spec_l18NoEd (by kernel_rfl) (fun _ => by kernel_rfl) (fun _ => by kernel_rfl) rfl
theorem ce_spec_SessionOk : CO e_spec_SessionOk := fnc (fun _ => con_cons ce_spec_WorldOk (con_cons ce_spec_EdOk (con_cons ce_spec_l18NoEd (con_cons ce_spec_l01In con_nil)))) Tryz.func5 ke_spec_SessionOk (by kernel_rfl) (fun _ => by kernel_rfl) (fun _ => by kernel_rfl) rfl
theorem ce_impl_StoreOk : CO e_impl_StoreOk := fnc (fun _ => con_nil) Tryz.func49 ke_impl_StoreOk (by kernel_rfl) (fun _ => by kernel_rfl) (fun _ => by kernel_rfl) rfl
theorem ce_impl_within : CO e_impl_within := fnc (fun _ => con_nil) Tryz.func42 ke_impl_within (by kernel_rfl) (fun _ => by kernel_rfl) (fun _ => by kernel_rfl) rfl
theorem ce_slices_Index_int : CO e_slices_Index_int := fnc (fun _ => con_nil) Tryz.func84 ke_slices_Index_int (by kernel_rfl) (fun _ => by kernel_rfl) (fun _ => by kernel_rfl) rfl
theorem ce_slices_Contains_int : CO e_slices_Contains_int := fnc (fun _ => con_cons ce_slices_Index_int con_nil) Tryz.func43 ke_slices_Contains_int (by kernel_rfl) (fun _ => by kernel_rfl) (fun _ => by kernel_rfl) rfl
theorem ce_impl_StOk : CO e_impl_StOk := fnc (fun _ => con_cons ce_impl_StoreOk (con_cons ce_impl_within (con_cons ce_slices_Contains_int con_nil))) Tryz.func38 ke_impl_StOk (by kernel_rfl) (fun _ => by kernel_rfl) (fun _ => by kernel_rfl) rfl
theorem ce_strings_Fields : CO e_strings_Fields := fnc (fun _ => con_nil) Tryz.func141 ke_strings_Fields (by kernel_rfl) (fun _ => by kernel_rfl) (fun _ => by kernel_rfl) rfl
theorem ce_impl_prims : CO e_impl_prims := fnc (fun _ => con_cons ce_strings_Fields con_nil) Tryz.func128 ke_impl_prims (by kernel_rfl) (fun _ => by kernel_rfl) (fun _ => by kernel_rfl) rfl
theorem ce_impl_PrimName : CO e_impl_PrimName := fnc (fun _ => con_cons ce_impl_prims (con_cons ce_impl_within con_nil)) Tryz.func109 ke_impl_PrimName (by kernel_rfl) (fun _ => by kernel_rfl) (fun _ => by kernel_rfl) rfl
theorem ce_impl_opOk : CO e_impl_opOk := fnc (fun _ => con_cons ce_impl_PrimName (con_cons ce_impl_within con_nil)) Tryz.func80 ke_impl_opOk (by kernel_rfl) (fun _ => by kernel_rfl) (fun _ => by kernel_rfl) rfl
theorem ce_impl_openIn : CO e_impl_openIn := fnc (fun _ => con_cons ce_impl_opOk con_nil) Tryz.func39 ke_impl_openIn (by kernel_rfl) (fun _ => by kernel_rfl) (fun _ => by kernel_rfl) rfl
theorem ce_impl_letters : CO e_impl_letters := fnc (fun _ => con_nil) Tryz.func111 ke_impl_letters (by kernel_rfl) (fun _ => by kernel_rfl) (fun _ => by kernel_rfl) rfl
theorem ce_ibytealg_IndexByteString : ConOk Tryz.prog e_ibytealg_IndexByteString := fe_ibytealg_IndexByteString
theorem ce_istringslite_IndexByte : CO e_istringslite_IndexByte := fnc (fun _ => con_cons ce_ibytealg_IndexByteString con_nil) Tryz.func129 ke_istringslite_IndexByte (by kernel_rfl) (fun _ => by kernel_rfl) (fun _ => by kernel_rfl) rfl
theorem ce_strings_IndexByte : CO e_strings_IndexByte := fnc (fun _ => con_cons ce_istringslite_IndexByte con_nil) Tryz.func110 ke_strings_IndexByte (by kernel_rfl) (fun _ => by kernel_rfl) (fun _ => by kernel_rfl) rfl
theorem ce_impl_LetterOf : CO e_impl_LetterOf := fnc (fun _ => con_cons ce_impl_letters (con_cons ce_strings_IndexByte con_nil)) Tryz.func81 ke_impl_LetterOf (by kernel_rfl) (fun _ => by kernel_rfl) (fun _ => by kernel_rfl) rfl
theorem ce_impl_NameOk : CO e_impl_NameOk := fnc (fun _ => con_cons ce_impl_LetterOf (con_cons ce_impl_within con_nil)) Tryz.func40 ke_impl_NameOk (by kernel_rfl) (fun _ => by kernel_rfl) (fun _ => by kernel_rfl) rfl
theorem ce_impl_callsBelowc1 : CO e_impl_callsBelowc1 := fnc (fun _ => con_nil) Tryz.func83 ke_impl_callsBelowc1 (by kernel_rfl) (fun _ => by kernel_rfl) (fun _ => by kernel_rfl) rfl
theorem ce_slices_IndexFunc_Op_impl_callsBelowc1 : CO e_slices_IndexFunc_Op_impl_callsBelowc1 := fnc (fun _ => con_cons ce_impl_callsBelowc1 con_nil) Tryz.func112 ke_slices_IndexFunc_Op_impl_callsBelowc1 (by kernel_rfl) (fun _ => by kernel_rfl) (fun _ => by kernel_rfl) rfl
theorem ce_slices_ContainsFunc_Op_impl_callsBelowc1 : CO e_slices_ContainsFunc_Op_impl_callsBelowc1 := fnc (fun _ => con_cons ce_slices_IndexFunc_Op_impl_callsBelowc1 con_nil) Tryz.func82 ke_slices_ContainsFunc_Op_impl_callsBelowc1 (by kernel_rfl) (fun _ => by kernel_rfl) (fun _ => by kernel_rfl) rfl
theorem ce_impl_callsBelow : CO e_impl_callsBelow := fnc (fun _ => con_cons ce_slices_ContainsFunc_Op_impl_callsBelowc1 con_nil) Tryz.func41 ke_impl_callsBelow (by kernel_rfl) (fun _ => by kernel_rfl) (fun _ => by kernel_rfl) rfl
theorem ce_impl_WorldOk : CO e_impl_WorldOk := fnc (fun _ => con_cons ce_impl_StOk (con_cons ce_impl_openIn (con_cons ce_impl_NameOk (con_cons ce_impl_callsBelow (con_cons ce_impl_within (con_cons ce_slices_Contains_int con_nil)))))) Tryz.func17 ke_impl_WorldOk (by kernel_rfl) (fun _ => by kernel_rfl) (fun _ => by kernel_rfl) rfl
theorem ce_impl_nameTag : CO e_impl_nameTag := fnc (fun _ => con_nil) Tryz.func113 ke_impl_nameTag (by kernel_rfl) (fun _ => by kernel_rfl) (fun _ => by kernel_rfl) rfl
theorem ce_impl_WidthOf : CO e_impl_WidthOf := fnc (fun _ => con_cons ce_impl_within con_nil) Tryz.func143 ke_impl_WidthOf (by kernel_rfl) (fun _ => by kernel_rfl) (fun _ => by kernel_rfl) rfl
theorem ce_impl_BitsOf : CO e_impl_BitsOf := fnc (fun _ => con_cons ce_impl_WidthOf con_nil) Tryz.func144 ke_impl_BitsOf (by kernel_rfl) (fun _ => by kernel_rfl) (fun _ => by kernel_rfl) rfl
theorem ce_impl_PackOne : CO e_impl_PackOne := fnc (fun _ => con_cons ce_impl_NameOk (con_cons ce_impl_LetterOf (con_cons ce_impl_WidthOf (con_cons ce_impl_BitsOf con_nil)))) Tryz.func130 ke_impl_PackOne (by kernel_rfl) (fun _ => by kernel_rfl) (fun _ => by kernel_rfl) rfl
theorem ce_impl_Pack : CO e_impl_Pack := fnc (fun _ => con_cons ce_impl_NameOk (con_cons ce_impl_PackOne con_nil)) Tryz.func114 ke_impl_Pack (by kernel_rfl) (fun _ => by kernel_rfl) (fun _ => by kernel_rfl) rfl
theorem ce_impl_numberCells : CO e_impl_numberCells := fnc (fun _ => con_nil) Tryz.func115 ke_impl_numberCells (by kernel_rfl) (fun _ => by kernel_rfl) (fun _ => by kernel_rfl) rfl
theorem ce_impl_CellsOf : CO e_impl_CellsOf := fnc (fun _ => con_cons ce_impl_nameTag (con_cons ce_impl_Pack (con_cons ce_impl_numberCells con_nil))) Tryz.func86 ke_impl_CellsOf (by kernel_rfl) (fun _ => by kernel_rfl) (fun _ => by kernel_rfl) rfl
theorem ce_impl_ItemOk : CO e_impl_ItemOk := fnc (fun _ => con_cons ce_impl_CellsOf con_nil) Tryz.func46 ke_impl_ItemOk (by kernel_rfl) (fun _ => by kernel_rfl) (fun _ => by kernel_rfl) rfl
theorem ce_impl_EdOkc1 : CO e_impl_EdOkc1 := fnc (fun _ => con_cons ce_impl_ItemOk con_nil) Tryz.func45 ke_impl_EdOkc1 (by kernel_rfl) (fun _ => by kernel_rfl) (fun _ => by kernel_rfl) rfl
theorem ce_slices_IndexFunc_Item_impl_EdOkc1 : CO e_slices_IndexFunc_Item_impl_EdOkc1 := fnc (fun _ => con_cons ce_impl_EdOkc1 con_nil) Tryz.func85 ke_slices_IndexFunc_Item_impl_EdOkc1 (by kernel_rfl) (fun _ => by kernel_rfl) (fun _ => by kernel_rfl) rfl
theorem ce_slices_ContainsFunc_Item_impl_EdOkc1 : CO e_slices_ContainsFunc_Item_impl_EdOkc1 := fnc (fun _ => con_cons ce_slices_IndexFunc_Item_impl_EdOkc1 con_nil) Tryz.func44 ke_slices_ContainsFunc_Item_impl_EdOkc1 (by kernel_rfl) (fun _ => by kernel_rfl) (fun _ => by kernel_rfl) rfl
theorem ce_slices_Grow_Item_emp : CO e_slices_Grow_Item_emp := fnc (fun _ => con_nil) Tryz.func117 ke_slices_Grow_Item_emp (by kernel_rfl) (fun _ => by kernel_rfl) (fun _ => by kernel_rfl) rfl
theorem ce_slices_Concat_Item : CO e_slices_Concat_Item := fnc (fun _ => con_cons ce_slices_Grow_Item_emp con_nil) Tryz.func90 ke_slices_Concat_Item (by kernel_rfl) (fun _ => by kernel_rfl) (fun _ => by kernel_rfl) rfl
theorem ce_impl_edItems : CO e_impl_edItems := fnc (fun _ => con_cons ce_slices_Concat_Item con_nil) Tryz.func48 ke_impl_edItems (by kernel_rfl) (fun _ => by kernel_rfl) (fun _ => by kernel_rfl) rfl
theorem ce_impl_Unparse : CO e_impl_Unparse := fnc (fun _ => con_cons ce_impl_CellsOf con_nil) Tryz.func87 ke_impl_Unparse (by kernel_rfl) (fun _ => by kernel_rfl) (fun _ => by kernel_rfl) rfl
theorem ce_impl_Decode : CO e_impl_Decode := fnc (fun _ => con_cons ce_impl_within (con_cons ce_impl_WidthOf (con_cons ce_impl_BitsOf con_nil))) Tryz.func145 ke_impl_Decode (by kernel_rfl) (fun _ => by kernel_rfl) (fun _ => by kernel_rfl) rfl
theorem ce_impl_LetterAt : CO e_impl_LetterAt := fnc (fun _ => con_cons ce_impl_within (con_cons ce_impl_letters con_nil)) Tryz.func146 ke_impl_LetterAt (by kernel_rfl) (fun _ => by kernel_rfl) (fun _ => by kernel_rfl) rfl
theorem ce_impl_UnpackOne : CO e_impl_UnpackOne := fnc (fun _ => con_cons ce_impl_Decode (con_cons ce_impl_LetterAt con_nil)) Tryz.func135 ke_impl_UnpackOne (by kernel_rfl) (fun _ => by kernel_rfl) (fun _ => by kernel_rfl) rfl
theorem ce_slices_Equal_uint32 : CO e_slices_Equal_uint32 := fnc (fun _ => con_nil) Tryz.func133 ke_slices_Equal_uint32 (by kernel_rfl) (fun _ => by kernel_rfl) (fun _ => by kernel_rfl) rfl
theorem ce_impl_Unpack : CO e_impl_Unpack := fnc (fun _ => con_cons ce_impl_UnpackOne (con_cons ce_impl_NameOk (con_cons ce_impl_Pack (con_cons ce_slices_Equal_uint32 con_nil)))) Tryz.func131 ke_impl_Unpack (by kernel_rfl) (fun _ => by kernel_rfl) (fun _ => by kernel_rfl) rfl
theorem ce_impl_nameKind : CO e_impl_nameKind := fnc (fun _ => con_cons ce_impl_nameTag con_nil) Tryz.func132 ke_impl_nameKind (by kernel_rfl) (fun _ => by kernel_rfl) (fun _ => by kernel_rfl) rfl
theorem ce_impl_FieldOk : CO e_impl_FieldOk := fnc (fun _ => con_cons ce_impl_UnpackOne (con_cons ce_impl_Pack (con_cons ce_slices_Equal_uint32 con_nil))) Tryz.func134 ke_impl_FieldOk (by kernel_rfl) (fun _ => by kernel_rfl) (fun _ => by kernel_rfl) rfl
theorem ce_impl_parseOne : CO e_impl_parseOne := fnc (fun _ => con_cons ce_impl_Unpack (con_cons ce_impl_nameKind (con_cons ce_impl_CellsOf (con_cons ce_slices_Equal_uint32 (con_cons ce_impl_FieldOk (con_cons ce_impl_UnpackOne con_nil)))))) Tryz.func116 ke_impl_parseOne (by kernel_rfl) (fun _ => by kernel_rfl) (fun _ => by kernel_rfl) rfl
theorem ce_impl_ParseCells : CO e_impl_ParseCells := fnc (fun _ => con_cons ce_impl_parseOne (con_cons ce_impl_CellsOf con_nil)) Tryz.func89 ke_impl_ParseCells (by kernel_rfl) (fun _ => by kernel_rfl) (fun _ => by kernel_rfl) rfl
theorem ce_slices_Equal_Item : CO e_slices_Equal_Item := fnc (fun _ => con_nil) Tryz.func88 ke_slices_Equal_Item (by kernel_rfl) (fun _ => by kernel_rfl) (fun _ => by kernel_rfl) rfl
theorem ce_impl_ListOk : CO e_impl_ListOk := fnc (fun _ => con_cons ce_impl_Unparse (con_cons ce_impl_ParseCells (con_cons ce_slices_Equal_Item con_nil))) Tryz.func47 ke_impl_ListOk (by kernel_rfl) (fun _ => by kernel_rfl) (fun _ => by kernel_rfl) rfl
theorem ce_impl_EdOk : CO e_impl_EdOk := fnc (fun _ => con_cons ce_slices_ContainsFunc_Item_impl_EdOkc1 (con_cons ce_impl_edItems (con_cons ce_impl_ListOk con_nil))) Tryz.func18 ke_impl_EdOk (by kernel_rfl) (fun _ => by kernel_rfl) (fun _ => by kernel_rfl) rfl
theorem ce_impl_Session_store : CO e_impl_Session_store := fnc (fun _ => con_nil) Tryz.func20 ke_impl_Session_store (by kernel_rfl) (fun _ => by kernel_rfl) (fun _ => by kernel_rfl) rfl
theorem ce_impl_hasBlocksc1 : CO e_impl_hasBlocksc1 := fnc (fun _ => con_cons ce_impl_within con_nil) Tryz.func51 ke_impl_hasBlocksc1 (by kernel_rfl) (fun _ => by kernel_rfl) (fun _ => by kernel_rfl) rfl
theorem ce_slices_IndexFunc_int_impl_hasBlocksc1 : CO e_slices_IndexFunc_int_impl_hasBlocksc1 := fnc (fun _ => con_cons ce_impl_hasBlocksc1 con_nil) Tryz.func91 ke_slices_IndexFunc_int_impl_hasBlocksc1 (by kernel_rfl) (fun _ => by kernel_rfl) (fun _ => by kernel_rfl) rfl
theorem ce_slices_ContainsFunc_int_impl_hasBlocksc1 : CO e_slices_ContainsFunc_int_impl_hasBlocksc1 := fnc (fun _ => con_cons ce_slices_IndexFunc_int_impl_hasBlocksc1 con_nil) Tryz.func50 ke_slices_ContainsFunc_int_impl_hasBlocksc1 (by kernel_rfl) (fun _ => by kernel_rfl) (fun _ => by kernel_rfl) rfl
theorem ce_impl_hasBlocks : CO e_impl_hasBlocks := fnc (fun _ => con_cons ce_impl_StoreOk (con_cons ce_slices_ContainsFunc_int_impl_hasBlocksc1 con_nil)) Tryz.func19 ke_impl_hasBlocks (by kernel_rfl) (fun _ => by kernel_rfl) (fun _ => by kernel_rfl) rfl
theorem ce_impl_SessionOk : CO e_impl_SessionOk := fnc (fun _ => con_cons ce_impl_WorldOk (con_cons ce_impl_EdOk (con_cons ce_impl_Session_store (con_cons ce_impl_hasBlocks con_nil)))) Tryz.func7 ke_impl_SessionOk (by kernel_rfl) (fun _ => by kernel_rfl) (fun _ => by kernel_rfl) rfl
theorem ce_laws_eqOp : CO e_laws_eqOp := fnc (fun _ => con_nil) Tryz.func136 ke_laws_eqOp (by kernel_rfl) (fun _ => by kernel_rfl) (fun _ => by kernel_rfl) rfl
theorem ce_laws_eqOpS : CO e_laws_eqOpS := fnc (fun _ => con_cons ce_laws_eqOp con_nil) Tryz.func118 ke_laws_eqOpS (by kernel_rfl) (fun _ => by kernel_rfl) (fun _ => by kernel_rfl) rfl
theorem ce_laws_eqDef : CO e_laws_eqDef := fnc (fun _ => con_cons ce_laws_eqOpS con_nil) Tryz.func92 ke_laws_eqDef (by kernel_rfl) (fun _ => by kernel_rfl) (fun _ => by kernel_rfl) rfl
theorem ce_laws_eqDefS : CO e_laws_eqDefS := fnc (fun _ => con_cons ce_laws_eqDef con_nil) Tryz.func52 ke_laws_eqDefS (by kernel_rfl) (fun _ => by kernel_rfl) (fun _ => by kernel_rfl) rfl
theorem ce_laws_eqEntry : CO e_laws_eqEntry := fnc (fun _ => con_nil) Tryz.func93 ke_laws_eqEntry (by kernel_rfl) (fun _ => by kernel_rfl) (fun _ => by kernel_rfl) rfl
theorem ce_laws_eqEntryS : CO e_laws_eqEntryS := fnc (fun _ => con_cons ce_laws_eqEntry con_nil) Tryz.func53 ke_laws_eqEntryS (by kernel_rfl) (fun _ => by kernel_rfl) (fun _ => by kernel_rfl) rfl
theorem ce_laws_eqInt32S : CO e_laws_eqInt32S := fnc (fun _ => con_nil) Tryz.func94 ke_laws_eqInt32S (by kernel_rfl) (fun _ => by kernel_rfl) (fun _ => by kernel_rfl) rfl
theorem ce_laws_eqSlot : CO e_laws_eqSlot := fnc (fun _ => con_nil) Tryz.func119 ke_laws_eqSlot (by kernel_rfl) (fun _ => by kernel_rfl) (fun _ => by kernel_rfl) rfl
theorem ce_laws_eqSlotS : CO e_laws_eqSlotS := fnc (fun _ => con_cons ce_laws_eqSlot con_nil) Tryz.func95 ke_laws_eqSlotS (by kernel_rfl) (fun _ => by kernel_rfl) (fun _ => by kernel_rfl) rfl
theorem ce_laws_eqUint32S : CO e_laws_eqUint32S := fnc (fun _ => con_nil) Tryz.func96 ke_laws_eqUint32S (by kernel_rfl) (fun _ => by kernel_rfl) (fun _ => by kernel_rfl) rfl
theorem ce_laws_eqIntS : CO e_laws_eqIntS := fnc (fun _ => con_nil) Tryz.func97 ke_laws_eqIntS (by kernel_rfl) (fun _ => by kernel_rfl) (fun _ => by kernel_rfl) rfl
theorem ce_laws_eqByteS : CO e_laws_eqByteS := fnc (fun _ => con_nil) Tryz.func98 ke_laws_eqByteS (by kernel_rfl) (fun _ => by kernel_rfl) (fun _ => by kernel_rfl) rfl
theorem ce_laws_eqSt : CO e_laws_eqSt := fnc (fun _ => con_cons ce_laws_eqInt32S (con_cons ce_laws_eqSlotS (con_cons ce_laws_eqUint32S (con_cons ce_laws_eqIntS (con_cons ce_laws_eqByteS con_nil))))) Tryz.func54 ke_laws_eqSt (by kernel_rfl) (fun _ => by kernel_rfl) (fun _ => by kernel_rfl) rfl
theorem ce_laws_eqWorld : CO e_laws_eqWorld := fnc (fun _ => con_cons ce_laws_eqDefS (con_cons ce_laws_eqEntryS (con_cons ce_laws_eqSt con_nil))) Tryz.func21 ke_laws_eqWorld (by kernel_rfl) (fun _ => by kernel_rfl) (fun _ => by kernel_rfl) rfl
theorem ce_laws_eqItem : CO e_laws_eqItem := fnc (fun _ => con_nil) Tryz.func99 ke_laws_eqItem (by kernel_rfl) (fun _ => by kernel_rfl) (fun _ => by kernel_rfl) rfl
theorem ce_laws_eqItemS : CO e_laws_eqItemS := fnc (fun _ => con_cons ce_laws_eqItem con_nil) Tryz.func55 ke_laws_eqItemS (by kernel_rfl) (fun _ => by kernel_rfl) (fun _ => by kernel_rfl) rfl
theorem ce_laws_eqEd : CO e_laws_eqEd := fnc (fun _ => con_cons ce_laws_eqItemS con_nil) Tryz.func22 ke_laws_eqEd (by kernel_rfl) (fun _ => by kernel_rfl) (fun _ => by kernel_rfl) rfl
theorem ce_laws_eqSession : CO e_laws_eqSession := fnc (fun _ => con_cons ce_laws_eqWorld (con_cons ce_laws_eqEd con_nil)) Tryz.func8 ke_laws_eqSession (by kernel_rfl) (fun _ => by kernel_rfl) (fun _ => by kernel_rfl) rfl
theorem ce_laws_FnExactSessionOk : CO e_laws_FnExactSessionOk := fnc (fun _ => con_cons ce_laws_szSession (con_cons ce_laws_toSession (con_cons ce_spec_SessionOk (con_cons ce_impl_SessionOk (con_cons ce_laws_eqSession con_nil))))) Tryz.func3 ke_laws_FnExactSessionOk (by kernel_rfl) (fun _ => by kernel_rfl) (fun _ => by kernel_rfl) rfl
end Go.Proofs.YtmlkglhpaneepaaGreatDoor

namespace Go.Fm
theorem wI64 {x : Int} (h1 : -9223372036854775808 ≤ x) (h2 : x < 9223372036854775808) : IntKind.wrap .i64 x = x := by
  simp [IntKind.wrap, IntKind.bits, IntKind.signed]; omega
theorem wU32 {x : Int} (h1 : 0 ≤ x) (h2 : x < 4294967296) : IntKind.wrap .u32 x = x := by
  simp [IntKind.wrap, IntKind.bits, IntKind.signed]; omega
theorem wU64 {x : Int} (h1 : 0 ≤ x) (h2 : x < 18446744073709551616) : IntKind.wrap .u64 x = x := by
  simp [IntKind.wrap, IntKind.bits, IntKind.signed]; omega
theorem wU32_bd (x : Int) : 0 ≤ IntKind.wrap .u32 x ∧ IntKind.wrap .u32 x < 4294967296 := by
  simp [IntKind.wrap, IntKind.bits, IntKind.signed]; omega
theorem getI_ex {α : Type} {xs : List α} {i : Int} (h0 : 0 ≤ i) (h1 : i < xs.length) : ∃ x, getI xs i = some x ∧ x ∈ xs ∧ xs[i.toNat]? = some x := by
  have hi : i.toNat < xs.length := by omega
  unfold getI
  rw [if_pos h0, List.getElem?_eq_getElem hi]
  exact ⟨_, rfl, List.getElem_mem hi, rfl⟩
theorem getI_nat {α : Type} {xs : List α} {i : Nat} : getI xs (i : Int) = xs[i]? := by
  unfold getI; rw [if_pos (Int.natCast_nonneg i)]; rfl
theorem idxS_ex {l : List UInt8} {i : Int} (h0 : 0 ≤ i) (h1 : i < l.length) : ∃ v, idxS l i = some v ∧ 0 ≤ v ∧ v < 256 ∧ ∃ b ∈ l, v = (b.toNat : Int) := by
  unfold idxS
  rw [if_pos ⟨h0, h1⟩]
  have hi : i.toNat < l.length := by omega
  refine ⟨_, rfl, Int.natCast_nonneg _, ?_, l[i.toNat], List.getElem_mem hi, ?_⟩
  · have := UInt8.toNat_lt (l.getD i.toNat 0); omega
  · rw [List.getD_eq_getElem?_getD, List.getElem?_eq_getElem hi]; rfl
theorem app_eq {α : Type} {xs ys : List α} (h : xs.length + ys.length ≤ 4294967296) : app xs ys = some (xs ++ ys) := by
  unfold app
  rw [if_pos (by rw [List.length_append]; exact h)]
theorem subL_eq {α : Type} {xs : List α} {a b : Int} (h0 : 0 ≤ a) (h1 : a ≤ b) (h2 : b ≤ xs.length) : subL xs a b = some ((xs.drop a.toNat).take (b.toNat - a.toNat)) := by
  unfold subL; rw [if_pos ⟨h0, h1, h2⟩]
theorem subL_drop {α : Type} {xs : List α} {a : Int} (h0 : 0 ≤ a) (h2 : a ≤ xs.length) : subL xs a xs.length = some (xs.drop a.toNat) := by
  rw [subL_eq h0 h2 (Int.le_refl _), List.take_of_length_le]
  rw [List.length_drop]; omega
theorem subL_take {α : Type} {xs : List α} {b : Int} (h0 : 0 ≤ b) (h2 : b ≤ xs.length) : subL xs 0 b = some (xs.take b.toNat) := by
  rw [subL_eq (Int.le_refl _) h0 h2]; rfl
theorem mk_eq {α : Type} {z : α} {n : Int} (h0 : 0 ≤ n) (h1 : n ≤ 4294967296) : mk z n = some (List.replicate n.toNat z) := by
  unfold mk; rw [if_pos ⟨h0, h1⟩]
theorem catS_eq {a b : List UInt8} (h : a.length + b.length < 4611686018427387904) : catS a b = some (a ++ b) := by
  unfold catS; rw [if_pos h]
theorem bB_toNat {k : IntKind} {a : Int} (h0 : 0 ≤ a) (h1 : a < 2 ^ k.bits) : (bytesB k a).toNat = a.toNat := by
  unfold bytesB
  rw [BitVec.toNat_ofInt, Int.emod_eq_of_lt h0]
  simpa using h1
theorem wrap_small {k : IntKind} {n : Nat} (h : n < 2 ^ (k.bits - 1)) : k.wrap n = n := by
  unfold IntKind.wrap
  have hb : 2 ^ (k.bits - 1) ≤ 2 ^ k.bits := Nat.pow_le_pow_right (by decide) (Nat.sub_le _ _)
  have h1 : (n : Int) < ((2 ^ k.bits : Nat) : Int) := Int.ofNat_lt.2 (Nat.lt_of_lt_of_le h hb)
  have h2 : (n : Int) < ((2 ^ (k.bits - 1) : Nat) : Int) := Int.ofNat_lt.2 h
  simp only [Int.natCast_pow, Int.cast_ofNat_Int] at h1 h2
  have e : (n : Int) % (2 ^ k.bits : Int) = n := Int.emod_eq_of_lt (Int.natCast_nonneg _) h1
  simp only [e]
  rw [if_neg]
  intro hc
  rw [Bool.and_eq_true, decide_eq_true_eq] at hc
  have h3 := hc.2
  omega
def Tot {α : Type} (o : Option α) (Q : α → Prop) : Prop := ∃ a, o = some a ∧ Q a
section
variable {α β : Type} {Q Q' : α → Prop} {R : β → Prop}
theorem Tot.some {a : α} (h : Q a) : Tot (some a) Q := ⟨a, rfl, h⟩
theorem Tot.bind {o : Option α} {f : α → Option β} (h : Tot o Q) (hf : ∀ a, Q a → Tot (f a) R) : Tot (o.bind f) R := by
  obtain ⟨a, rfl, ha⟩ := h; exact hf a ha
theorem Tot.bindE {o : Option α} {f : α → Option β} {a : α} (h : o = .some a) (hf : Tot (f a) R) : Tot (o.bind f) R := by subst h; exact hf
theorem Tot.cond {c : Bool} {x y : Option α} (h1 : c = true → Tot x Q) (h2 : c = false → Tot y Q) : Tot (cond c x y) Q := by
  cases c with
  | true => exact h1 rfl
  | false => exact h2 rfl
theorem Tot.condD {p : Prop} [Decidable p] {x y : Option α} (h1 : p → Tot x Q) (h2 : ¬ p → Tot y Q) : Tot (_root_.cond (decide p) x y) Q :=
  .cond (fun h => h1 (of_decide_eq_true h)) (fun h => h2 (of_decide_eq_false h))
theorem Tot.mono {o : Option α} (h : Tot o Q) (hq : ∀ a, Q a → Q' a) : Tot o Q' := by obtain ⟨a, e, ha⟩ := h; exact ⟨a, e, hq a ha⟩
end
end Go.Fm
namespace Go.Proofs.YtmlkglhpaneepaaGreatDoor
open Go Go.Fm
def U32 (xs : List Int) : Prop := ∀ x ∈ xs, 0 ≤ x ∧ x < 4294967296
theorem U32.app {xs ys : List Int} (h1 : U32 xs) (h2 : U32 ys) : U32 (xs ++ ys) := fun x hx => by
  rcases List.mem_append.1 hx with h | h
  · exact h1 x h
  · exact h2 x h
theorem U32.one {x : Int} (h : 0 ≤ x ∧ x < 4294967296) : U32 [x] := fun y hy => by simp at hy; subst hy; exact h
theorem U32.nil : U32 [] := fun x hx => by simp at hx
theorem U32.set {xs : List Int} {x : Int} {i : Nat} (h1 : U32 xs) (h : 0 ≤ x ∧ x < 4294967296) : U32 (xs.set i x) := fun y hy => by
  rcases List.mem_or_eq_of_mem_set hy with h2 | h2
  · exact h1 y h2
  · subst h2; exact h
theorem specIn_eq {x a b : Int} : g_spec_l01In x a b = some (decide (a ≤ x ∧ x ≤ b)) := by
  unfold g_spec_l01In
  by_cases h : x ≥ a
  · rw [decide_eq_true h]
    simp only [cond_true]
    congr 1
    exact decide_eq_decide.2 ⟨fun h2 => ⟨h, h2⟩, fun h2 => h2.2⟩
  · rw [decide_eq_false h]
    simp only [cond_false]
    congr 1
    exact (decide_eq_false fun h2 => h h2.1).symm
theorem specNum_ok {n : Int} {hex : Bool} {s l : Int} : Tot (g_spec_l04Num n hex s l) fun r => U32 r ∧ r.length ≤ 2 := by
  unfold g_spec_l04Num
  refine .bind (Q := fun _ => True) (.cond (fun _ => .some trivial) fun _ => .some trivial) fun a _ => .bind (Q := fun _ => True) (.condD (fun _ => .some trivial) fun _ => .some trivial) fun b _ => .cond (fun _ => .some ⟨.one (wU32_bd _), by simp⟩) fun _ => .some ⟨?_, by simp⟩
  exact (U32.one (wU32_bd _)).app (.one (wU32_bd _))
theorem specLetterOf_ok {b : Int} : Tot (g_spec_LetterOf b) fun r => -1 ≤ r ∧ r ≤ 47 := by
  unfold g_spec_LetterOf
  refine .bindE (a := _) rfl ?_
  have key : ∀ (k : Nat) (i : Int), 0 ≤ i → i ≤ 48 → 48 - i < k → Tot (g_spec_LetterOf_l0 b [32, 114, 116, 111, 101, 97, 110, 105, 115, 109, 99, 121, 108, 103, 102, 119, 100, 118, 112, 98, 104, 120, 117, 113, 48, 49, 50, 51, 52, 53, 54, 55, 56, 57, 106, 45, 107, 46, 122, 47, 59, 39, 33, 43, 64, 42, 44, 63] k i)
      fun r => match r with | .inl _ => True | .inr x => 0 ≤ x ∧ x ≤ 47 := by
    intro k
    induction k with
    | zero => intro i h0 h1 h2; omega
    | succ k ih =>
      intro i h0 h1 h2
      unfold g_spec_LetterOf_l0
      refine .condD (fun hi => ?_) fun _ => .some trivial
      have hi : i < 48 := by simpa using hi
      obtain ⟨v, hv, _⟩ := idxS_ex (l := [32, 114, 116, 111, 101, 97, 110, 105, 115, 109, 99, 121, 108, 103, 102, 119, 100, 118, 112, 98, 104, 120, 117, 113, 48, 49, 50, 51, 52, 53, 54, 55, 56, 57, 106, 45, 107, 46, 122, 47, 59, 39, 33, 43, 64, 42, 44, 63]) h0 (by simpa using hi)
      refine .bindE hv (.cond (fun _ => .some ⟨h0, by omega⟩) fun _ => ?_)
      rw [wI64 (x := i + 1) (by omega) (by omega)]
      exact ih _ (by omega) (by omega) (by omega)
  refine .bind (Q := fun r => match r with | .inl _ => True | .inr x => 0 ≤ x ∧ x ≤ 47) (.bind (key bigK 0 (by decide) (by decide) (by decide)) fun o ho => ?_) fun o ho => ?_
  · cases o with
    | inl _ => exact .some trivial
    | inr x => exact .some ho
  · cases o with
    | inl _ => exact .some ⟨by decide, by decide⟩
    | inr x => exact .some ⟨by have := ho.1; omega, ho.2⟩
theorem specNameOk_ok {s : Bs} (hs : s.length ≤ 1048576) : Tot (g_spec_NameOk s) fun r => r = true → 1 ≤ s.length ∧ s.length ≤ 24 := by
  unfold g_spec_NameOk
  refine .bindE specIn_eq (.cond (fun _ => .some fun h => nomatch h) fun hc => ?_)
  have hl : 1 ≤ s.length ∧ s.length ≤ 24 := by
    have : (1 : Int) ≤ s.length ∧ (s.length : Int) ≤ 24 := by simpa using hc
    omega
  have key : ∀ (k : Nat) (i : Int), 0 ≤ i → i ≤ s.length → s.length - i < k → Tot (g_spec_NameOk_l0 s k i) fun _ => True := by
    intro k
    induction k with
    | zero => intro i h0 h1 h2; omega
    | succ k ih =>
      intro i h0 h1 h2
      unfold g_spec_NameOk_l0
      refine .condD (fun hi => ?_) fun _ => .some trivial
      obtain ⟨v, hv, _⟩ := idxS_ex h0 hi
      refine .bindE hv (.bind specLetterOf_ok fun x hx => .condD (fun _ => .some trivial) fun _ => ?_)
      rw [wI64 (x := i + 1) (by omega) (by omega)]
      exact ih _ (by omega) (by omega) (by omega)
  refine .bind (Q := fun _ => True) (.bind (key bigK 0 (by decide) (by omega) (by unfold bigK; omega)) fun o ho => ?_) fun o ho => ?_
  · cases o <;> exact .some trivial
  · cases o <;> exact .some fun _ => hl
theorem specWidth_ok {k : Int} : Tot (g_spec_WidthOf k) fun w => 0 ≤ w ∧ w ≤ 7 := by
  unfold g_spec_WidthOf
  exact .bindE specIn_eq (.cond (fun _ => .some (by decide)) fun _ => .bindE specIn_eq (.cond (fun _ => .some (by decide)) fun _ => .bindE specIn_eq (.cond (fun _ => .some (by decide)) fun _ => .some (by decide))))
theorem specBits_ok {k : Int} : Tot (g_spec_BitsOf k) fun w => True := by
  unfold g_spec_BitsOf
  exact .bind specWidth_ok fun _ _ => .cond (fun _ => .some trivial) fun _ => .cond (fun _ => .some trivial) fun _ => .cond (fun _ => .some trivial) fun _ => .some trivial
theorem shl_ok {k : IntKind} {a b : Int} (h : 0 ≤ b) : Tot (shlI k a b) fun _ => True := by unfold shlI; rw [if_pos h]; exact .some trivial
theorem wU64_nn (x : Int) : 0 ≤ IntKind.wrap .u64 x := by simp [IntKind.wrap, IntKind.bits, IntKind.signed]; omega
theorem specOne_ok {s : Bs} (hs : 1 ≤ s.length ∧ s.length ≤ 24) : Tot (g_spec_l03One s) fun r => (0 ≤ r.1 ∧ r.1 < 4294967296) ∧ 1 ≤ r.2 ∧ r.2 ≤ s.length := by
  unfold g_spec_l03One
  have key : ∀ (k : Nat) (f left n : Int), 0 ≤ n → n ≤ s.length → 0 ≤ left → left ≤ 28 → (n = 0 → left = 28) → s.length - n < k → Tot (g_spec_l03One_l0 s k f left n) fun r => 1 ≤ r.2 ∧ r.2 ≤ s.length := by
    intro k
    induction k with
    | zero => intro f left n h0 h1 h2 h3 h4 h5; omega
    | succ k ih =>
      intro f left n h0 h1 h2 h3 h4 h5
      unfold g_spec_l03One_l0
      refine .condD (fun hi => ?_) fun hi => .some ⟨by omega, by omega⟩
      obtain ⟨v, hv, _⟩ := idxS_ex h0 hi
      refine .bindE hv (.bind specLetterOf_ok fun x hx => .bind specWidth_ok fun w hw => .condD (fun hc => .some ⟨?_, by omega⟩) fun hc => .bind specBits_ok fun b _ => .bind (shl_ok (wU64_nn _)) fun d _ => ?_)
      · by_cases hn : n = 0
        · have := h4 hn; omega
        · show 1 ≤ n; omega
      · rw [wI64 (x := n + 1) (by omega) (by omega), wI64 (x := left - w) (by omega) (by omega)]
        exact ih _ _ _ (by omega) (by omega) (by omega) (by omega) (by omega) (by omega)
  exact .bind (key bigK 0 28 0 (by decide) (by omega) (by decide) (by decide) (fun _ => rfl) (by unfold bigK; omega)) fun r hr => .some ⟨wU32_bd _, hr.1, hr.2⟩
theorem specPack_ok {s : Bs} (hs : s.length ≤ 1048576) : Tot (g_spec_Pack s) fun r => U32 r ∧ r.length ≤ 24 := by
  unfold g_spec_Pack
  refine .bind (specNameOk_ok hs) fun a ha => .cond (fun _ => .some ⟨.nil, by simp⟩) fun hc => ?_
  have hl := ha (by simpa using hc)
  have key : ∀ (k : Nat) (x : Bs) (out : List Int), x.length ≤ 24 → U32 out → out.length + x.length ≤ 24 → x.length < k → Tot (g_spec_Pack_l0 k x out) fun r => U32 r ∧ r.length ≤ 24 := by
    intro k
    induction k with
    | zero => intro x out h0 h1 h2 h3; omega
    | succ k ih =>
      intro x out h0 h1 h2 h3
      unfold g_spec_Pack_l0
      refine .cond (fun hx => ?_) fun _ => .some ⟨h1, by omega⟩
      have hx1 : 1 ≤ x.length := by
        have : x ≠ [] := by simpa using hx
        have := List.length_pos_iff.2 this
        omega
      refine .bind (specOne_ok ⟨hx1, h0⟩) fun r hr => .bindE (app_eq (by simp; omega)) (.bindE (subL_drop (by omega) hr.2.2) ?_)
      have hd : (x.drop r.2.toNat).length = x.length - r.2.toNat := List.length_drop
      exact ih _ _ (by omega) (h1.app (.one hr.1)) (by rw [List.length_append, hd, List.length_singleton]; omega) (by omega)
  exact .bind (key bigK s [] hl.2 .nil (by simp; omega) (by unfold bigK; omega)) fun r hr => .some hr
theorem specWord_ok {tag : Int} {s : Bs} (hs : s.length ≤ 1048576) : Tot (g_spec_l04Word tag s) fun r => U32 r ∧ r.length ≤ 24 := by
  unfold g_spec_l04Word
  refine .bind (specPack_ok hs) fun a ha => ?_
  have key : ∀ (k : Nat) (out : List Int) (i : Int), U32 out → out.length ≤ 24 → 0 ≤ i → i ≤ out.length → out.length - i < k → Tot (g_spec_l04Word_l0 tag k out i) fun r => U32 r ∧ r.length ≤ 24 := by
    intro k
    induction k with
    | zero => intro out i h0 h1 h2 h3 h4; omega
    | succ k ih =>
      intro out i h0 h1 h2 h3 h4
      unfold g_spec_l04Word_l0
      refine .condD (fun hi => ?_) fun _ => .some ⟨h0, h1⟩
      obtain ⟨v, hv, _⟩ := getI_ex h2 hi
      refine .bind (Q := fun o => U32 o ∧ o.length = out.length) (.bindE hv (.bindE hv (.cond (fun _ => ?_) fun _ => .some ⟨h0.set (wU32_bd _), by simp⟩))) fun o ho => ?_
      · obtain ⟨u, hu, _⟩ := getI_ex (xs := out.set i.toNat (IntKind.wrap .u32 (v * 16))) h2 (by simpa using hi)
        exact .bindE hu (.bindE hu (.some ⟨(h0.set (wU32_bd _)).set (wU32_bd _), by simp⟩))
      · rw [wI64 (x := i + 1) (by omega) (by omega)]
        exact ih _ _ ho.1 (by omega) (by omega) (by omega) (by omega)
  exact .bind (.bind (key bigK a 0 ha.1 ha.2 (by decide) (by omega) (by unfold bigK; omega)) fun r hr => .some hr) fun r hr => .some hr
end Go.Proofs.YtmlkglhpaneepaaGreatDoor
namespace Go.Proofs.YtmlkglhpaneepaaGreatDoor
open Go Go.Fm
theorem andU {a b : Int} (a0 : 0 ≤ a) (a1 : a < 4294967296) (b0 : 0 ≤ b) (b1 : b < 4294967296) : andI .u32 a b = ((a.toNat &&& b.toNat : Nat) : Int) := by
  unfold andI
  rw [BitVec.toNat_and, bB_toNat (k := .u32) a0 a1, bB_toNat (k := .u32) b0 b1]
  have : a.toNat &&& b.toNat ≤ b.toNat := Nat.and_le_right
  exact wU32 (Int.natCast_nonneg _) (by omega)
theorem orU {a b : Int} (a0 : 0 ≤ a) (a1 : a < 4294967296) (b0 : 0 ≤ b) (b1 : b < 4294967296) : orI .u32 a b = ((a.toNat ||| b.toNat : Nat) : Int) := by
  unfold orI
  rw [BitVec.toNat_or, bB_toNat (k := .u32) a0 a1, bB_toNat (k := .u32) b0 b1]
  have : a.toNat ||| b.toNat < 2 ^ 32 := Nat.or_lt_two_pow (by omega) (by omega)
  exact wU32 (Int.natCast_nonneg _) (by omega)
theorem and15 {v : Int} (h0 : 0 ≤ v) (h1 : v < 4294967296) : andI .u32 v 15 = v % 16 := by
  rw [andU h0 h1 (by decide) (by decide)]
  have : v.toNat &&& 15 = v.toNat % 16 := Nat.and_two_pow_sub_one_eq_mod v.toNat 4
  show ((v.toNat &&& 15 : Nat) : Int) = _
  rw [this]; omega
theorem and16 {v : Int} (h0 : 0 ≤ v) (h1 : v < 4294967296) : (andI .u32 v 16 != 0) = decide (v / 16 % 2 = 1) := by
  rw [andU h0 h1 (by decide) (by decide)]
  show ((((v.toNat &&& 16 : Nat) : Int)) != 0) = _
  have h2 : v.toNat &&& 16 = 16 * (v.toNat / 16 % 2) := by
    have e1 : v.toNat &&& 16 = (v.toNat &&& 31) &&& 16 := by rw [Nat.and_assoc]; rfl
    have e2 : v.toNat &&& 31 = v.toNat % 32 := Nat.and_two_pow_sub_one_eq_mod v.toNat 5
    have e3 : ∀ r, r < 32 → r &&& 16 = 16 * (r / 16) := by decide
    rw [e1, e2, e3 _ (Nat.mod_lt _ (by decide))]
    omega
  rw [h2]
  by_cases h : v / 16 % 2 = 1
  · rw [decide_eq_true h]
    have : v.toNat / 16 % 2 = 1 := by omega
    rw [this]; rfl
  · rw [decide_eq_false h]
    have : v.toNat / 16 % 2 = 0 := by omega
    rw [this]; rfl
theorem or_low {q r : Nat} (i : Nat) (hr : r < 2 ^ i) : (2 ^ i * q) ||| r = 2 ^ i * q + r := (Nat.two_pow_add_eq_or_of_lt hr q).symm
theorem or16 {v t : Int} (h0 : 0 ≤ v) (h1 : v < 268435456) (t0 : 0 ≤ t) (t1 : t < 16) : orI .u32 (IntKind.wrap .u32 (v * 16)) t = v * 16 + t := by
  rw [wU32 (by omega) (by omega), orU (by omega) (by omega) t0 (by omega)]
  have e : (v * 16).toNat = 2 ^ 4 * v.toNat := by omega
  rw [e, or_low 4 (by omega)]
  omega
theorem within_eq {x a b : Int} : g_impl_within x a b = some (decide (a ≤ x ∧ x ≤ b)) := by
  unfold g_impl_within
  by_cases h : a ≤ x
  · rw [decide_eq_true h]
    simp only [cond_true]
    congr 1
    exact decide_eq_decide.2 ⟨fun h2 => ⟨h, h2⟩, fun h2 => h2.2⟩
  · rw [decide_eq_false h]
    simp only [cond_false]
    congr 1
    exact (decide_eq_false fun h2 => h h2.1).symm
theorem width_ok {k : Int} : Tot (g_impl_WidthOf k) fun w => 0 ≤ w ∧ w ≤ 7 ∧ (0 ≤ k → k ≤ 47 → 4 ≤ w) := by
  unfold g_impl_WidthOf
  refine .bindE within_eq (.condD (fun _ => .some (by omega)) fun h1 => .bindE within_eq (.condD (fun _ => .some (by omega)) fun h2 => .bindE within_eq (.condD (fun _ => .some (by omega)) fun h3 => .some (by omega))))
theorem bits_ok {k : Int} : Tot (g_impl_BitsOf k) fun w => True := by
  unfold g_impl_BitsOf
  exact .bind width_ok fun _ _ => .cond (fun _ => .some trivial) fun _ => .cond (fun _ => .some trivial) fun _ => .cond (fun _ => .some trivial) fun _ => .some trivial
theorem shr_ok {k : IntKind} {a b : Int} (h : 0 ≤ b) : Tot (shrI k a b) fun _ => True := by unfold shrI; rw [if_pos h]; exact .some trivial
def DC (n : Int) (o : Unit ⊕ (Int × Int)) : Prop := match o with | .inl _ => True | .inr r => r.1 ≤ 47 ∧ 4 ≤ r.2 ∧ r.2 ≤ n
theorem decode_ok {f n : Int} : Tot (g_impl_Decode f n) fun r => r.1 ≤ 47 ∧ (1 ≤ r.1 → 4 ≤ r.2 ∧ r.2 ≤ n) := by
  unfold g_impl_Decode
  refine .bindE within_eq (.cond (fun _ => .some ⟨by decide, fun h => absurd h (by decide)⟩) fun hc => ?_)
  have hn : 1 ≤ n ∧ n ≤ 32 := by simpa using hc
  have key : ∀ (k : Nat) (i : Int), 0 ≤ i → i ≤ 48 → 48 - i < k → Tot (g_impl_Decode_l0 f n k i) (DC n) := by
    intro k
    induction k with
    | zero => intro i h0 h1 h2; omega
    | succ k ih =>
      intro i h0 h1 h2
      unfold g_impl_Decode_l0
      refine .condD (fun hi => .bind width_ok fun w hw => .bind (Q := fun b => b = true → w ≤ n) (.condD (fun hc => ?_) fun _ => .some fun h => nomatch h) fun b hb => .cond (fun hb2 => .some ⟨by show i ≤ 47; omega, hw.2.2 h0 (by omega), hb hb2⟩) fun _ => ?_) fun _ => .some trivial
      · rw [wI64 (x := n - w) (by omega) (by omega)]
        exact .bind (shr_ok (by omega)) fun _ _ => .bind (shl_ok (by omega)) fun _ _ => .bind bits_ok fun _ _ => .some fun _ => hc
      · rw [wI64 (x := i + 1) (by omega) (by omega)]
        exact ih _ (by omega) (by omega) (by omega)
  refine .bind (Q := DC n) (.bind (key bigK 0 (by decide) (by decide) (by decide)) fun o ho => ?_) fun o ho => ?_
  · cases o <;> exact .some ho
  · cases o with
    | inl _ => exact .some ⟨by decide, fun h => absurd h (by decide)⟩
    | inr r => exact .some ⟨ho.1, fun _ => ho.2⟩
def Letters : Bs := [32, 114, 116, 111, 101, 97, 110, 105, 115, 109, 99, 121, 108, 103, 102, 119, 100, 118, 112, 98, 104, 120, 117, 113, 48, 49, 50, 51, 52, 53, 54, 55, 56, 57, 106, 45, 107, 46, 122, 47, 59, 39, 33, 43, 64, 42, 44, 63]
theorem letters_len : Letters.length = 48 := rfl
theorem letterAt_ok {k : Int} : Tot (g_impl_LetterAt k) fun v => 0 ≤ v ∧ v < 256 := by
  unfold g_impl_LetterAt
  refine .bindE within_eq (.cond (fun _ => .some (by decide)) fun hc => ?_)
  have hk : 0 ≤ k ∧ k ≤ 47 := by simpa using hc
  obtain ⟨v, hv, h0, h1, _⟩ := idxS_ex (l := Letters) (i := k) hk.1 (by rw [letters_len]; omega)
  exact .bindE (a := Letters) rfl (.bindE hv (.some ⟨h0, h1⟩))
theorem unpackOne_ok {f : Int} : Tot (g_impl_UnpackOne f) fun r => r.length ≤ 7 := by
  unfold g_impl_UnpackOne
  refine .condD (fun _ => .some (by simp)) fun _ => ?_
  have key : ∀ (k : Nat) (out : List Int) (left : Int), 0 ≤ left → left ≤ 28 → (out.length : Int) * 4 ≤ 28 - left → left < k → Tot (g_impl_UnpackOne_l0 f k out left) fun r => r.length ≤ 7 := by
    intro k
    induction k with
    | zero => intro out left h0 h1 h2 h3; omega
    | succ k ih =>
      intro out left h0 h1 h2 h3
      unfold g_impl_UnpackOne_l0
      refine .bind (shl_ok h0) fun s _ => .cond (fun _ => .bind decode_ok fun d hd => .condD (fun _ => .some (by omega)) fun h1 => .bind letterAt_ok fun v _ => .bindE (app_eq (by simp; omega)) ?_) fun _ => .some (by omega)
      have := hd.2 (by omega)
      rw [wI64 (x := left - d.2) (by omega) (by omega)]
      exact ih _ _ (by omega) (by omega) (by simp; omega) (by omega)
  refine .bind (key bigK [] 28 (by decide) (by decide) (by decide) (by decide)) fun r hr => .some ?_
  show (strOf r).length ≤ 7
  unfold strOf; rw [List.length_map]; exact hr
theorem idxB_bd {l : List UInt8} {c : Int} : -1 ≤ idxB l c ∧ idxB l c < l.length := by
  unfold idxB
  cases h : l.findIdx? (fun b => (b.toNat : Int) == c) with
  | none => exact ⟨by decide, by show (-1 : Int) < _; omega⟩
  | some i =>
    have := (List.findIdx?_eq_some_iff_getElem.1 h).1
    exact ⟨by show (-1 : Int) ≤ (i : Int); omega, by show (i : Int) < _; omega⟩
theorem letterOf_ok {b : Int} (h0 : 0 ≤ b) (h1 : b < 256) : Tot (g_impl_LetterOf b) fun r => -1 ≤ r ∧ r ≤ 47 := by
  unfold g_impl_LetterOf g_strings_IndexByte g_istringslite_IndexByte g_ibytealg_IndexByteString gIdxB
  refine .bindE (a := Letters) rfl (.bind (Q := fun r => -1 ≤ r ∧ r ≤ 47) (.bind (Q := fun r => -1 ≤ r ∧ r ≤ 47) ?_ fun r h => .some h) fun r h => .some h)
  refine .bind (Q := fun r => -1 ≤ r ∧ r ≤ 47) ?_ fun r h => .some h
  rw [if_pos ⟨h0, h1⟩]
  refine .some ⟨idxB_bd.1, ?_⟩
  have := (idxB_bd (l := Letters) (c := b)).2
  rw [letters_len] at this
  omega
theorem nameOk_ok {s : Bs} (hs : s.length ≤ 1048576) : Tot (g_impl_NameOk s) fun r => r = true → 1 ≤ s.length ∧ s.length ≤ 24 := by
  unfold g_impl_NameOk
  have key : ∀ (k : Nat) (i : Int), 0 ≤ i → i ≤ s.length → s.length - i < k → Tot (g_impl_NameOk_l0 s (s.length : Int) k i) fun o => match o with | .inl _ => True | .inr v => v = false := by
    intro k
    induction k with
    | zero => intro i h0 h1 h2; omega
    | succ k ih =>
      intro i h0 h1 h2
      unfold g_impl_NameOk_l0
      refine .condD (fun hi => ?_) fun _ => .some trivial
      obtain ⟨v, hv, v0, v1, _⟩ := idxS_ex h0 hi
      refine .bindE hv (.bind (letterOf_ok v0 v1) fun x hx => .condD (fun _ => .some rfl) fun _ => ?_)
      rw [wI64 (x := i + 1) (by omega) (by omega)]
      exact ih _ (by omega) (by omega) (by omega)
  refine .bind (Q := fun o : Unit ⊕ Bool => match o with | .inl _ => True | .inr v => v = false) (.bind (key bigK 0 (by decide) (by omega) (by unfold bigK; omega)) fun o ho => ?_) fun o ho => ?_
  · cases o with
    | inl _ => exact .some trivial
    | inr v => exact .some ho
  · cases o with
    | inl _ => exact .bindE within_eq (.some fun h => by have := of_decide_eq_true h; omega)
    | inr v => exact .some fun h => by rw [show v = false from ho] at h; cases h
theorem packOne_ok {s : Bs} (hs : s.length ≤ 1048576) : Tot (g_impl_PackOne s) fun r => (0 ≤ r.1 ∧ r.1 < 4294967296) ∧ 0 ≤ r.2 ∧ r.2 ≤ s.length ∧ (g_impl_NameOk s = some true → 1 ≤ r.2) := by
  unfold g_impl_PackOne
  obtain ⟨b, hb, hl⟩ := nameOk_ok hs
  rw [hb]
  refine .bindE rfl (.cond (fun hc => .some ⟨by decide, by decide, by show (0 : Int) ≤ _; omega, fun h => by cases h; cases hc⟩) fun hc => ?_)
  have hb1 : b = true := by simpa using hc
  have hs1 := hl hb1
  have key : ∀ (k : Nat) (f left many n : Int), 0 ≤ n → n ≤ s.length → 0 ≤ left → left ≤ 28 → (n = 0 → left = 28) → many = n → (0 ≤ f ∧ f < 4294967296) → s.length - n < k →
      Tot (g_impl_PackOne_l0 s (s.length : Int) k f left many n) fun r => (0 ≤ r.1 ∧ r.1 < 4294967296) ∧ 1 ≤ r.2 ∧ r.2 ≤ s.length := by
    intro k
    induction k with
    | zero => intro f left many n h0 h1 h2 h3 h4 h5 h6 h7; omega
    | succ k ih =>
      intro f left many n h0 h1 h2 h3 h4 h5 h6 h7
      unfold g_impl_PackOne_l0
      refine .condD (fun hi => ?_) fun hi => .some ⟨h6, by show 1 ≤ many; omega, by show many ≤ _; omega⟩
      obtain ⟨v, hv, v0, v1, _⟩ := idxS_ex h0 hi
      refine .bindE hv (.bind (letterOf_ok v0 v1) fun x hx => ?_)
      obtain ⟨w, hw, hw0, hw1, _⟩ := width_ok (k := x)
      refine .bindE hw (.condD (fun hc => .some ⟨h6, ?_, by show many ≤ _; omega⟩) fun hc => .bindE hw (.bind bits_ok fun b _ => ?_))
      · show 1 ≤ many
        by_cases hn : n = 0
        · have := h4 hn; omega
        · omega
      · rw [wI64 (x := n + 1) (by omega) (by omega), wI64 (x := left - w) (by omega) (by omega), wI64 (x := many + 1) (by omega) (by omega)]
        refine .bind (shl_ok (by omega)) fun d _ => ih _ _ _ _ (by omega) (by omega) (by omega) (by omega) (by omega) (by omega) (wU32_bd _) (by omega)
  refine .bind (Q := fun r : Int × Int => (0 ≤ r.1 ∧ r.1 < 4294967296) ∧ 1 ≤ r.2 ∧ r.2 ≤ s.length) (.bind (key bigK 0 28 0 0 (by decide) (by omega) (by decide) (by decide) (fun _ => rfl) rfl (by decide) (by unfold bigK; omega)) fun r hr => .some hr) fun r hr => .some ⟨hr.1, by have := hr.2.1; show 0 ≤ r.2; omega, hr.2.2, fun _ => hr.2.1⟩
theorem pack_ok {s : Bs} (hs : s.length ≤ 1048576) : Tot (g_impl_Pack s) fun r => U32 r ∧ r.length ≤ 24 := by
  unfold g_impl_Pack
  have key : ∀ (k : Nat) (x : Bs) (out : List Int), x.length ≤ 1048576 → U32 out → (out = [] ∨ out.length + x.length ≤ 24) → x.length < k → Tot (g_impl_Pack_l0 k x out) fun r => U32 r ∧ r.length ≤ 24 := by
    intro k
    induction k with
    | zero => intro x out h0 h1 h2 h3; omega
    | succ k ih =>
      intro x out h0 h1 h2 h3
      unfold g_impl_Pack_l0
      obtain ⟨b, hb, hl⟩ := nameOk_ok h0
      have ho : out.length ≤ 24 := by
        rcases h2 with rfl | h2
        · simp
        · omega
      refine .bindE hb (.cond (fun hc => ?_) fun _ => .some ⟨h1, ho⟩)
      subst hc
      have hx := hl rfl
      have h2' : out.length + x.length ≤ 24 := by
        rcases h2 with rfl | h2
        · simpa using hx.2
        · exact h2
      refine .bind (packOne_ok h0) fun r hr => .bindE (app_eq (by simp; omega)) (.bindE (subL_drop hr.2.1 hr.2.2.1) ?_)
      have h4 := hr.2.2.2 hb
      have hd : (x.drop r.2.toNat).length = x.length - r.2.toNat := List.length_drop
      exact ih _ _ (by omega) (h1.app (.one hr.1)) (.inr (by rw [List.length_append, hd, List.length_singleton]; omega)) (by omega)
  exact .bind (key bigK s [] hs .nil (.inl rfl) (by unfold bigK; omega)) fun r hr => .some hr
end Go.Proofs.YtmlkglhpaneepaaGreatDoor
namespace Go.Proofs.YtmlkglhpaneepaaGreatDoor
open Go Go.Fm
set_option maxRecDepth 100000
theorem prims_eq : g_impl_prims = g_spec_l08Names := by kernel_rfl
theorem name_eq (k : Int) : g_impl_PrimName k = g_spec_PrimName k := by
  unfold g_impl_PrimName g_spec_PrimName
  rw [prims_eq]
  unfold g_spec_l08Names
  simp only [Option.bind_some]
  rw [within_eq, specIn_eq]
  simp only [Option.bind_some]
  have key : ∀ (b : Bool) (x y : Option Bs), cond b x y = cond (!b) y x := fun b x y => by cases b <;> rfl
  exact key _ _ _
theorem op_eq (o : GOp) : g_impl_opOk o = g_spec_l09Op o := by
  unfold g_impl_opOk g_spec_l09Op
  simp only [name_eq, within_eq, specIn_eq]
theorem name_tot (k : Int) : ∃ s, g_spec_PrimName k = some s := by
  unfold g_spec_PrimName
  unfold g_spec_l08Names
  simp only [Option.bind_some]
  rw [specIn_eq]
  simp only [Option.bind_some]
  by_cases h : (0 : Int) ≤ k ∧ k ≤ IntKind.wrap .i64 (((([[100, 117, 112], [100, 114, 111, 112], [111, 118, 101, 114], [110, 105, 112], [115, 119, 97, 112], [43], [45], [42], [97, 110, 100], [111, 114], [50, 42], [50, 47], [47, 109, 111, 100], [64], [33], [97], [97, 33], [101, 109, 105, 116], [107, 101, 121], [112, 117, 115, 104], [112, 111, 112], [105], [46], [110, 111, 112]] : List Bs).length : Nat) : Int) - 1)
  · rw [decide_eq_true h, Bool.not_true, cond_false]
    have h2 : k ≤ 23 := h.2
    obtain ⟨x, hx, _⟩ := getI_ex (xs := ([[100, 117, 112], [100, 114, 111, 112], [111, 118, 101, 114], [110, 105, 112], [115, 119, 97, 112], [43], [45], [42], [97, 110, 100], [111, 114], [50, 42], [50, 47], [47, 109, 111, 100], [64], [33], [97], [97, 33], [101, 109, 105, 116], [107, 101, 121], [112, 117, 115, 104], [112, 111, 112], [105], [46], [110, 111, 112]] : List Bs)) (i := k) h.1 (by simp; omega)
    rw [hx]
    exact ⟨_, rfl⟩
  · rw [decide_eq_false h, Bool.not_false, cond_true]
    exact ⟨_, rfl⟩
theorem op_tot (o : GOp) : ∃ b, g_spec_l09Op o = some b := by
  unfold g_spec_l09Op
  obtain ⟨s, hs⟩ := name_tot (IntKind.wrap .i64 o.N)
  rw [hs, specIn_eq, specIn_eq]
  simp only [Option.bind_some]
  cases o.Kind == 0
  · cases o.Kind == 1
    · cases o.Kind == 2
      · simp only [cond_false]
        by_cases h : 3 ≤ o.Kind ∧ o.Kind ≤ 8
        · rw [decide_eq_true h, cond_true]
          exact ⟨_, rfl⟩
        · rw [decide_eq_false h, cond_false]
          exact ⟨_, rfl⟩
      · exact ⟨_, rfl⟩
    · exact ⟨_, rfl⟩
  · exact ⟨_, rfl⟩
def okB (o : GOp) : Bool := (g_spec_l09Op o).getD false
theorem okB_eq (o : GOp) : g_spec_l09Op o = some (okB o) := by
  obtain ⟨b, h⟩ := op_tot o
  unfold okB
  rw [h]
  rfl
def stepF (v : List Int) (o : GOp) : Option (List Int) :=
  if o.Kind = 3 ∨ o.Kind = 4 ∨ o.Kind = 6 then some (v ++ [o.Kind])
  else if o.Kind = 5 ∨ o.Kind = 7 then (match v.getLast? with | none => none | some l => if decide (l = 6) = decide (o.Kind = 7) then some v.dropLast else none)
  else some v
def openF : List GOp → List Int → Option (List Int)
  | [], v => some v
  | o :: r, v => (stepF v o).bind (openF r)
def openG : List GOp → List Int → Option (List Int)
  | [], v => some v
  | o :: r, v => cond (okB o) ((stepF v o).bind (openG r)) none
theorem openG_eq : ∀ (l : List GOp) (v : List Int), openG l v = cond (l.all okB) (openF l v) none
  | [], v => rfl
  | o :: r, v => by
    rw [List.all_cons]
    unfold openG openF
    cases ho : okB o
    · rfl
    · rw [Bool.true_and, cond_true]
      cases hs : stepF v o with
      | none => cases r.all okB <;> rfl
      | some w => simp only [Option.bind_some]; exact openG_eq r w
theorem stepF_len {v w : List Int} {o : GOp} (h : stepF v o = some w) : w.length ≤ v.length + 1 := by
  unfold stepF at h
  split at h
  · cases h; simp
  · split at h
    · split at h
      · cases h
      · split at h
        · cases h; simp; omega
        · cases h
    · cases h; omega
def sumE {β : Type} (e : β) (o : Option (List Int)) : List Int ⊕ β := match o with | some w => .inl w | none => .inr e
theorem kinds (k : Int) : (k == 3) = decide (k = 3) ∧ (k == 4) = decide (k = 4) ∧ (k == 5) = decide (k = 5) ∧ (k == 6) = decide (k = 6) ∧ (k == 7) = decide (k = 7) := by
  refine ⟨?_, ?_, ?_, ?_, ?_⟩ <;> rw [Bool.eq_iff_iff] <;> simp
theorem last_get {v : List Int} (h : v ≠ []) (hl : v.length ≤ 16777216) : getI v (IntKind.wrap .i64 ((v.length : Int) - 1)) = v.getLast? ∧ subL v 0 (IntKind.wrap .i64 ((v.length : Int) - 1)) = some v.dropLast := by
  have h0 : 0 < v.length := by
    cases v with
    | nil => exact absurd rfl h
    | cons a r => simp
  rw [wI64 (by omega) (by omega), show (v.length : Int) - 1 = ((v.length - 1 : Nat) : Int) by omega, getI_nat, subL_take (by omega) (by omega), Int.toNat_natCast, List.getLast?_eq_getElem?, List.dropLast_eq_take]
  exact ⟨rfl, rfl⟩
theorem spec_step {β : Type} (e : β) (v : List Int) (o : GOp) (hl : v.length ≤ 16777216) :
    ((cond (o.Kind == 3) (some (o.Kind == 3)) (cond (o.Kind == 4) (some (o.Kind == 4)) (some (o.Kind == 6))) : Option (Bool)).bind fun v_17 => cond v_17 ((app v [o.Kind]).bind fun v_23 => some (Sum.inl v_23)) ((cond (o.Kind == 5) (some (o.Kind == 5)) (some (o.Kind == 7)) : Option (Bool)).bind fun v_24 => cond v_24 ((cond ((v.length : Int) == 0) (some true) ((getI v (IntKind.wrap .i64 ((v.length : Int) - 1))).bind fun v_33 => some ((v_33 == 6) != (o.Kind == 7))) : Option (Bool)).bind fun v_29 => cond v_29 (some (Sum.inr e)) ((subL v 0 (IntKind.wrap .i64 ((v.length : Int) - 1))).bind fun v_35 => some (Sum.inl v_35))) (some (Sum.inl v))) : Option ((List Int) ⊕ β)) = some (sumE e (stepF v o)) := by
  obtain ⟨e3, e4, e5, e6, e7⟩ := kinds o.Kind
  rw [e3, e4, e5, e6, e7]
  unfold stepF
  by_cases h3 : o.Kind = 3
  · simp only [h3, decide_true, cond_true, Option.bind_some]
    rw [app_eq (by simp; omega)]
    rfl
  · by_cases h4 : o.Kind = 4
    · rw [decide_eq_false h3, cond_false, decide_eq_true h4, cond_true, Option.bind_some, cond_true, app_eq (by simp; omega), if_pos (.inr (.inl h4))]
      rfl
    · by_cases h6 : o.Kind = 6
      · rw [decide_eq_false h3, cond_false, decide_eq_false h4, cond_false, Option.bind_some, decide_eq_true h6, cond_true, app_eq (by simp; omega), if_pos (.inr (.inr h6))]
        rfl
      · rw [decide_eq_false h3, cond_false, decide_eq_false h4, cond_false, Option.bind_some, decide_eq_false h6, cond_false, if_neg (by omega)]
        by_cases h57 : o.Kind = 5 ∨ o.Kind = 7
        · have hc : (cond (decide (o.Kind = 5)) (some (decide (o.Kind = 5))) (some (decide (o.Kind = 7))) : Option Bool) = some true := by
            rcases h57 with h | h
            · rw [decide_eq_true h]; rfl
            · rw [decide_eq_true h, decide_eq_false (by omega)]; rfl
          rw [hc, Option.bind_some, cond_true, if_pos h57]
          cases v with
          | nil => rfl
          | cons a r =>
            obtain ⟨g1, g2⟩ := last_get (v := a :: r) (by simp) hl
            have hz : (((a :: r).length : Int) == 0) = false := by simp; omega
            rw [hz, cond_false, g1, g2]
            obtain ⟨x, hx⟩ : ∃ x, (a :: r).getLast? = some x := by rw [List.getLast?_cons]; exact ⟨_, rfl⟩
            rw [hx]
            simp only [Option.bind_some]
            have ex : (x == 6) = decide (x = 6) := (kinds x).2.2.2.1
            rw [ex]
            by_cases hq : decide (x = 6) = decide (o.Kind = 7)
            · rw [hq, if_pos rfl]
              simp [sumE]
            · rw [if_neg hq]
              have : (decide (x = 6) != decide (o.Kind = 7)) = true := by simpa using hq
              rw [this, cond_true]
              rfl
        · have hc : (cond (decide (o.Kind = 5)) (some (decide (o.Kind = 5))) (some (decide (o.Kind = 7))) : Option Bool) = some false := by
            rw [decide_eq_false (by omega), decide_eq_false (by omega)]; rfl
          rw [hc, Option.bind_some, cond_false, if_neg h57]
          rfl
theorem impl_step {β : Type} (e : β) (v : List Int) (o : GOp) (hl : v.length ≤ 16777216) :
    ((cond (o.Kind == 3) (some true) (cond (o.Kind == 4) (some true) (some (o.Kind == 6))) : Option (Bool)).bind fun v_19 => cond v_19 ((app v [o.Kind]).bind fun v_25 => some (Sum.inl v_25)) ((cond (o.Kind == 5) (some true) (some (o.Kind == 7)) : Option (Bool)).bind fun v_26 => cond v_26 ((cond (decide ((IntKind.wrap .i64 ((v.length : Int) - 1)) < 0)) (some true) ((getI v (IntKind.wrap .i64 ((v.length : Int) - 1))).bind fun v_35 => some ((v_35 == 6) != (o.Kind == 7))) : Option (Bool)).bind fun v_31 => cond v_31 (some (Sum.inr e)) ((subL v 0 (IntKind.wrap .i64 ((v.length : Int) - 1))).bind fun v_37 => some (Sum.inl v_37))) (some (Sum.inl v))) : Option ((List Int) ⊕ β)) = some (sumE e (stepF v o)) := by
  rw [← spec_step e v o hl]
  have c1 : ∀ b : Bool, ∀ x : Option Bool, (cond b (some true) x : Option Bool) = cond b (some b) x := fun b x => by cases b <;> rfl
  have c2 : decide ((IntKind.wrap .i64 ((v.length : Int) - 1)) < 0) = ((v.length : Int) == 0) := by
    rw [wI64 (by omega) (by omega)]
    by_cases h0 : v.length = 0
    · rw [h0]; rfl
    · rw [decide_eq_false (by omega), beq_eq_false_iff_ne.2 (by omega)]
  rw [c2, c1 (o.Kind == 3), c1 (o.Kind == 4), c1 (o.Kind == 5)]
theorem spec_l0 {body : List GOp} (hb : body.length ≤ 1048576) : ∀ (k n : Nat) (v : List Int), n ≤ body.length → body.length - n < k → v.length ≤ n → g_spec_l09Open_l0 body k v n = some (sumE false (openF (body.drop n) v)) := by
  intro k
  induction k with
  | zero => intro n v h0 h1; omega
  | succ k ih =>
    intro n v h0 h1 h2
    rw [g_spec_l09Open_l0]
    by_cases hn : n < body.length
    · rw [decide_eq_true (by omega), cond_true, getI_nat, List.getElem?_eq_getElem hn, List.drop_eq_getElem_cons hn]
      simp only [Option.bind_some]
      rw [spec_step _ v body[n] (by omega)]
      simp only [Option.bind_some, openF]
      cases hs : stepF v body[n] with
      | none => rfl
      | some w =>
        have := stepF_len hs
        simp only [sumE, Option.bind_some]
        rw [wI64 (by omega) (by omega), show (n : Int) + 1 = ((n + 1 : Nat) : Int) by omega, ih (n + 1) w (by omega) (by omega) (by omega)]
        rfl
    · rw [decide_eq_false (by omega), cond_false, List.drop_eq_nil_of_le (by omega)]
      rfl
theorem impl_l0 {body : List GOp} (hb : body.length ≤ 1048576) : ∀ (k n : Nat) (v : List Int), n ≤ body.length → body.length - n < k → v.length ≤ n → g_impl_openIn_l0 body (body.length : Int) k v n = some (sumE (([] : List Int), false) (openG (body.drop n) v)) := by
  intro k
  induction k with
  | zero => intro n v h0 h1; omega
  | succ k ih =>
    intro n v h0 h1 h2
    rw [g_impl_openIn_l0]
    by_cases hn : n < body.length
    · rw [decide_eq_true (by omega), cond_true, getI_nat, List.getElem?_eq_getElem hn, List.drop_eq_getElem_cons hn]
      simp only [Option.bind_some]
      rw [op_eq, okB_eq]
      simp only [Option.bind_some, openG]
      cases ho : okB body[n]
      · rw [Bool.not_false, cond_true, cond_false]
        rfl
      · rw [Bool.not_true, cond_false, cond_true, impl_step _ v body[n] (by omega)]
        simp only [Option.bind_some]
        cases hs : stepF v body[n] with
        | none => rfl
        | some w =>
          have := stepF_len hs
          simp only [sumE, Option.bind_some]
          rw [wI64 (by omega) (by omega), show (n : Int) + 1 = ((n + 1 : Nat) : Int) by omega, ih (n + 1) w (by omega) (by omega) (by omega)]
          rfl
    · rw [decide_eq_false (by omega), cond_false, List.drop_eq_nil_of_le (by omega)]
      rfl
end Go.Proofs.YtmlkglhpaneepaaGreatDoor
