import Derived.Test.YtofjeimkphojaaaGreatDoorCS
import Derived.Shelf.Strconv.Itoa3
import Derived.Shelf.Strings.OnBuilder
import Derived.KernelRfl
set_option linter.all false
namespace Go.Proofs.YtofjeimkphojaaaGreatDoor
open Go Go.Fm
set_option maxRecDepth 100000
abbrev Bs := List UInt8
structure GIns where
  Op : Int
  N : Int
  deriving DecidableEq, Inhabited
structure GSlot where
  Kind : Int
  N : Int
  deriving DecidableEq, Inhabited
structure GSt where
  Data : List Int
  Ret : List GSlot
  A : Int
  Mem : List Int
  Cells : List Int
  Vars : List Int
  Out : List Int
  In : List Int
  Fault : Int
  Fuel : Int
  deriving DecidableEq, Inhabited
structure GMach where
  St : GSt
  At : Int
  Done : Bool
  deriving DecidableEq, Inhabited
structure GStore where
  Cells : List Int
  deriving DecidableEq, Inhabited
structure GEffect where
  Ok : Bool
  Need : Int
  Most : Int
  Gain : Int
  deriving DecidableEq, Inhabited
def GIns.cs (x : GIns) : List CV := [.int .i64 x.Op, .int .i64 x.N]
def GSlot.cs (x : GSlot) : List CV := [.int .i64 x.Kind, .int .i32 x.N]
def GMach.cs (x : GMach) : List CV := [.imm 1 x.St.Data.length (x.St.Data.flatMap (eI .i32)), .imm 2 x.St.Ret.length (x.St.Ret.flatMap GSlot.cs), .int .i32 x.St.A, .imm 1 x.St.Mem.length (x.St.Mem.flatMap (eI .i32)), .imm 1 x.St.Cells.length (x.St.Cells.flatMap (eI .u32)), .imm 1 x.St.Vars.length (x.St.Vars.flatMap (eI .i64)), .imm 1 x.St.Out.length (x.St.Out.flatMap (eI .u8)), .imm 1 x.St.In.length (x.St.In.flatMap (eI .u8)), .int .i64 x.St.Fault, .int .i64 x.St.Fuel, .int .i64 x.At, .bool x.Done]
def GSt.cs (x : GSt) : List CV := [.imm 1 x.Data.length (x.Data.flatMap (eI .i32)), .imm 2 x.Ret.length (x.Ret.flatMap GSlot.cs), .int .i32 x.A, .imm 1 x.Mem.length (x.Mem.flatMap (eI .i32)), .imm 1 x.Cells.length (x.Cells.flatMap (eI .u32)), .imm 1 x.Vars.length (x.Vars.flatMap (eI .i64)), .imm 1 x.Out.length (x.Out.flatMap (eI .u8)), .imm 1 x.In.length (x.In.flatMap (eI .u8)), .int .i64 x.Fault, .int .i64 x.Fuel]
def GStore.cs (x : GStore) : List CV := [.imm 1 x.Cells.length (x.Cells.flatMap (eI .u32))]
def GEffect.cs (x : GEffect) : List CV := [.bool x.Ok, .int .i64 x.Need, .int .i64 x.Most, .int .i64 x.Gain]
instance : StTy := ⟨fun n => match n with | 0 => GIns | 1 => GMach | 2 => GSt | 3 => GSlot | 4 => GStore | 5 => GEffect | _ => Unit, fun n => match n with | 0 => 2 | 1 => 12 | 2 => 10 | 3 => 2 | 4 => 1 | 5 => 4 | _ => 0, lkA [(33, 2), (47, 2), (49, 1), (53, 1), (91, 3), (94, 4), (112, 0), (114, 0), (191, 3), (221, 5)]⟩
noncomputable instance : StCs := ⟨fun n => match n with | 0 => GIns.cs | 1 => GMach.cs | 2 => GSt.cs | 3 => GSlot.cs | 4 => GStore.cs | 5 => GEffect.cs | _ => fun _ => []⟩
noncomputable def GIns.lv (x : GIns) : List TC := [.int .i64 x.Op, .int .i64 x.N]
noncomputable def GIns.of : List TC → Option GIns
  | [c0, c1] => (tInt .i64 c0).bind fun x0 => (tInt .i64 c1).bind fun x1 => some ⟨x0, x1⟩
  | _ => none
theorem GIns.made {l : List TC} {v : GIns} (h : GIns.of l = some v) : CRs l v.lv := by
  match l, h with
  | [c0, c1], h =>
    obtain ⟨x0, e0, h⟩ := bS h
    obtain ⟨x1, e1, h⟩ := bS h
    cases h
    exact ⟨tInt_cr e0, tInt_cr e1, trivial⟩
noncomputable def GMach.lv (x : GMach) : List TC := [.imm (.int .i32) x.St.Data, .imm (.st 3) x.St.Ret, .int .i32 x.St.A, .imm (.int .i32) x.St.Mem, .imm (.int .u32) x.St.Cells, .imm (.int .i64) x.St.Vars, .imm (.int .u8) x.St.Out, .imm (.int .u8) x.St.In, .int .i64 x.St.Fault, .int .i64 x.St.Fuel, .int .i64 x.At, .bool x.Done]
noncomputable def GMach.of : List TC → Option GMach
  | [c0, c1, c2, c3, c4, c5, c6, c7, c8, c9, c10, c11] => (tImm (.int .i32) c0).bind fun x0 => (tImm (.st 3) c1).bind fun x1 => (tInt .i32 c2).bind fun x2 => (tImm (.int .i32) c3).bind fun x3 => (tImm (.int .u32) c4).bind fun x4 => (tImm (.int .i64) c5).bind fun x5 => (tImm (.int .u8) c6).bind fun x6 => (tImm (.int .u8) c7).bind fun x7 => (tInt .i64 c8).bind fun x8 => (tInt .i64 c9).bind fun x9 => (tInt .i64 c10).bind fun x10 => (tBool c11).bind fun x11 => some ⟨⟨x0, x1, x2, x3, x4, x5, x6, x7, x8, x9⟩, x10, x11⟩
  | _ => none
theorem GMach.made {l : List TC} {v : GMach} (h : GMach.of l = some v) : CRs l v.lv := by
  match l, h with
  | [c0, c1, c2, c3, c4, c5, c6, c7, c8, c9, c10, c11], h =>
    obtain ⟨x0, e0, h⟩ := bS h
    obtain ⟨x1, e1, h⟩ := bS h
    obtain ⟨x2, e2, h⟩ := bS h
    obtain ⟨x3, e3, h⟩ := bS h
    obtain ⟨x4, e4, h⟩ := bS h
    obtain ⟨x5, e5, h⟩ := bS h
    obtain ⟨x6, e6, h⟩ := bS h
    obtain ⟨x7, e7, h⟩ := bS h
    obtain ⟨x8, e8, h⟩ := bS h
    obtain ⟨x9, e9, h⟩ := bS h
    obtain ⟨x10, e10, h⟩ := bS h
    obtain ⟨x11, e11, h⟩ := bS h
    cases h
    exact ⟨tImm_cr e0, tImm_cr e1, tInt_cr e2, tImm_cr e3, tImm_cr e4, tImm_cr e5, tImm_cr e6, tImm_cr e7, tInt_cr e8, tInt_cr e9, tInt_cr e10, tBool_cr e11, trivial⟩
noncomputable def GSt.lv (x : GSt) : List TC := [.imm (.int .i32) x.Data, .imm (.st 3) x.Ret, .int .i32 x.A, .imm (.int .i32) x.Mem, .imm (.int .u32) x.Cells, .imm (.int .i64) x.Vars, .imm (.int .u8) x.Out, .imm (.int .u8) x.In, .int .i64 x.Fault, .int .i64 x.Fuel]
noncomputable def GSt.of : List TC → Option GSt
  | [c0, c1, c2, c3, c4, c5, c6, c7, c8, c9] => (tImm (.int .i32) c0).bind fun x0 => (tImm (.st 3) c1).bind fun x1 => (tInt .i32 c2).bind fun x2 => (tImm (.int .i32) c3).bind fun x3 => (tImm (.int .u32) c4).bind fun x4 => (tImm (.int .i64) c5).bind fun x5 => (tImm (.int .u8) c6).bind fun x6 => (tImm (.int .u8) c7).bind fun x7 => (tInt .i64 c8).bind fun x8 => (tInt .i64 c9).bind fun x9 => some ⟨x0, x1, x2, x3, x4, x5, x6, x7, x8, x9⟩
  | _ => none
theorem GSt.made {l : List TC} {v : GSt} (h : GSt.of l = some v) : CRs l v.lv := by
  match l, h with
  | [c0, c1, c2, c3, c4, c5, c6, c7, c8, c9], h =>
    obtain ⟨x0, e0, h⟩ := bS h
    obtain ⟨x1, e1, h⟩ := bS h
    obtain ⟨x2, e2, h⟩ := bS h
    obtain ⟨x3, e3, h⟩ := bS h
    obtain ⟨x4, e4, h⟩ := bS h
    obtain ⟨x5, e5, h⟩ := bS h
    obtain ⟨x6, e6, h⟩ := bS h
    obtain ⟨x7, e7, h⟩ := bS h
    obtain ⟨x8, e8, h⟩ := bS h
    obtain ⟨x9, e9, h⟩ := bS h
    cases h
    exact ⟨tImm_cr e0, tImm_cr e1, tInt_cr e2, tImm_cr e3, tImm_cr e4, tImm_cr e5, tImm_cr e6, tImm_cr e7, tInt_cr e8, tInt_cr e9, trivial⟩
noncomputable def GSlot.lv (x : GSlot) : List TC := [.int .i64 x.Kind, .int .i32 x.N]
noncomputable def GSlot.of : List TC → Option GSlot
  | [c0, c1] => (tInt .i64 c0).bind fun x0 => (tInt .i32 c1).bind fun x1 => some ⟨x0, x1⟩
  | _ => none
theorem GSlot.made {l : List TC} {v : GSlot} (h : GSlot.of l = some v) : CRs l v.lv := by
  match l, h with
  | [c0, c1], h =>
    obtain ⟨x0, e0, h⟩ := bS h
    obtain ⟨x1, e1, h⟩ := bS h
    cases h
    exact ⟨tInt_cr e0, tInt_cr e1, trivial⟩
noncomputable def GStore.lv (x : GStore) : List TC := [.imm (.int .u32) x.Cells]
noncomputable def GStore.of : List TC → Option GStore
  | [c0] => (tImm (.int .u32) c0).bind fun x0 => some ⟨x0⟩
  | _ => none
theorem GStore.made {l : List TC} {v : GStore} (h : GStore.of l = some v) : CRs l v.lv := by
  match l, h with
  | [c0], h =>
    obtain ⟨x0, e0, h⟩ := bS h
    cases h
    exact ⟨tImm_cr e0, trivial⟩
noncomputable def GEffect.lv (x : GEffect) : List TC := [.bool x.Ok, .int .i64 x.Need, .int .i64 x.Most, .int .i64 x.Gain]
noncomputable def GEffect.of : List TC → Option GEffect
  | [c0, c1, c2, c3] => (tBool c0).bind fun x0 => (tInt .i64 c1).bind fun x1 => (tInt .i64 c2).bind fun x2 => (tInt .i64 c3).bind fun x3 => some ⟨x0, x1, x2, x3⟩
  | _ => none
theorem GEffect.made {l : List TC} {v : GEffect} (h : GEffect.of l = some v) : CRs l v.lv := by
  match l, h with
  | [c0, c1, c2, c3], h =>
    obtain ⟨x0, e0, h⟩ := bS h
    obtain ⟨x1, e1, h⟩ := bS h
    obtain ⟨x2, e2, h⟩ := bS h
    obtain ⟨x3, e3, h⟩ := bS h
    cases h
    exact ⟨tBool_cr e0, tInt_cr e1, tInt_cr e2, tInt_cr e3, trivial⟩
noncomputable instance : Structs where
  leaves := fun n => match n with | 0 => GIns.lv | 1 => GMach.lv | 2 => GSt.lv | 3 => GSlot.lv | 4 => GStore.lv | 5 => GEffect.lv | _ => fun _ => []
  make := fun n => match n with | 0 => GIns.of | 1 => GMach.of | 2 => GSt.of | 3 => GSlot.of | 4 => GStore.of | 5 => GEffect.of | _ => fun _ => none
  plain := fun n => match n with | 0 => true | 1 => false | 2 => false | 3 => true | 4 => false | 5 => true | _ => false
  lt := fun n => match n with | 0 => [.bool, .bool] | 1 => [(.int .i32), (.st 3), .bool, (.int .i32), (.int .u32), (.int .i64), (.int .u8), (.int .u8), .bool, .bool, .bool, .bool] | 2 => [(.int .i32), (.st 3), .bool, (.int .i32), (.int .u32), (.int .i64), (.int .u8), (.int .u8), .bool, .bool] | 3 => [.bool, .bool] | 4 => [(.int .u32)] | 5 => [.bool, .bool, .bool, .bool] | _ => []
  len := fun n v => match n, v with | 0, _ => rfl | 1, _ => rfl | 2, _ => rfl | 3, _ => rfl | 4, _ => rfl | 5, _ => rfl | _ + 6, _ => rfl
  conc := fun n v => match n, v with | 0, _ => rfl | 1, _ => rfl | 2, _ => rfl | 3, _ => rfl | 4, _ => rfl | 5, _ => rfl | _ + 6, _ => rfl
  pure := fun n v => match n, v with | 0, _ => rfl | 1, _ => rfl | 2, _ => rfl | 3, _ => rfl | 4, _ => rfl | 5, _ => rfl | _ + 6, _ => rfl
  made := fun n l v h => match n, v, h with | 0, v, h => GIns.made h | 1, v, h => GMach.made h | 2, v, h => GSt.made h | 3, v, h => GSlot.made h | 4, v, h => GStore.made h | 5, v, h => GEffect.made h | _ + 6, _, h => nomatch h
  flat := fun n v h => match n, v, h with | 0, _, _ => rfl | 1, _, h => nomatch h | 2, _, h => nomatch h | 3, _, _ => rfl | 4, _, h => nomatch h | 5, _, _ => rfl | _ + 6, _, h => nomatch h
noncomputable instance : Tabs := ⟨fun g => match g with | 0 => some ⟨.int .u8, gtAscii⟩ | 3 => some ⟨.int .u64, gtPow10⟩ | 5 => some ⟨.int .u8, gtBruijn⟩ | _ => none, fun g => match g with | 0 => rfl | 1 => rfl | 2 => rfl | 3 => rfl | 4 => rfl | 5 => rfl | _ + 6 => rfl⟩
abbrev K0 : Ty := .int .i64
abbrev K1 : Ty := .st 0
abbrev K2 : Ty := .list K1
abbrev K3 : Ty := .int .i32
abbrev K4 : Ty := .list K3
abbrev K5 : Ty := .st 3
abbrev K6 : Ty := .list K5
abbrev K7 : Ty := .int .u32
abbrev K8 : Ty := .list K7
abbrev K9 : Ty := .list K0
abbrev K10 : Ty := .int .u8
abbrev K11 : Ty := .list K10
abbrev K12 : Ty := .st 2
abbrev K13 : Ty := .bool
abbrev K14 : Ty := .st 1
abbrev K15 : Ty := .str
abbrev K16 : Ty := .list K15
abbrev K17 : Ty := .st 4
abbrev K18 : Ty := .list K13
abbrev K19 : Ty := .st 5
end Go.Proofs.YtofjeimkphojaaaGreatDoor
namespace Go.Proofs.YtofjeimkphojaaaGreatDoor
open Go Go.Fm
set_option maxRecDepth 1000000
def g_laws_szInsS (a_1 : List GIns) (left_2 : Int) : Option Int := cond (decide ((IntKind.wrap .i64 (left_2 - (a_1.length : Int))) < 0)) (some (-1)) (some (IntKind.wrap .i64 (left_2 - (a_1.length : Int))))
def g_laws_szInt32S (a_1 : List Int) (left_2 : Int) : Option Int := cond (decide ((IntKind.wrap .i64 (left_2 - (a_1.length : Int))) < 0)) (some (-1)) (some (IntKind.wrap .i64 (left_2 - (a_1.length : Int))))
def g_laws_szSlotS (a_1 : List GSlot) (left_2 : Int) : Option Int := cond (decide ((IntKind.wrap .i64 (left_2 - (a_1.length : Int))) < 0)) (some (-1)) (some (IntKind.wrap .i64 (left_2 - (a_1.length : Int))))
def g_laws_szUint32S (a_1 : List Int) (left_2 : Int) : Option Int := cond (decide ((IntKind.wrap .i64 (left_2 - (a_1.length : Int))) < 0)) (some (-1)) (some (IntKind.wrap .i64 (left_2 - (a_1.length : Int))))
def g_laws_szIntS (a_1 : List Int) (left_2 : Int) : Option Int := cond (decide ((IntKind.wrap .i64 (left_2 - (a_1.length : Int))) < 0)) (some (-1)) (some (IntKind.wrap .i64 (left_2 - (a_1.length : Int))))
def g_laws_szByteS (a_1 : List Int) (left_2 : Int) : Option Int := cond (decide ((IntKind.wrap .i64 (left_2 - (a_1.length : Int))) < 0)) (some (-1)) (some (IntKind.wrap .i64 (left_2 - (a_1.length : Int))))
def g_laws_szSt (a_1 : GSt) (left_2 : Int) : Option Int := (g_laws_szInt32S a_1.Data left_2).bind fun y_4 => cond (decide (y_4 < 0)) (some (-1)) ((g_laws_szSlotS a_1.Ret y_4).bind fun y_5 => cond (decide (y_5 < 0)) (some (-1)) ((g_laws_szInt32S a_1.Mem y_5).bind fun y_6 => cond (decide (y_6 < 0)) (some (-1)) ((g_laws_szUint32S a_1.Cells y_6).bind fun y_7 => cond (decide (y_7 < 0)) (some (-1)) ((g_laws_szIntS a_1.Vars y_7).bind fun y_8 => cond (decide (y_8 < 0)) (some (-1)) ((g_laws_szByteS a_1.Out y_8).bind fun y_9 => cond (decide (y_9 < 0)) (some (-1)) ((g_laws_szByteS a_1.In y_9).bind fun y_10 => cond (decide (y_10 < 0)) (some (-1)) (some y_10)))))))
def g_laws_szMach (a_1 : GMach) (left_2 : Int) : Option Int := (g_laws_szSt a_1.St left_2).bind fun y_4 => cond (decide (y_4 < 0)) (some (-1)) (some y_4)
def g_laws_toIns (a_1 : GIns) : Option GIns := some a_1
def g_laws_toInsS_l0 (a_1 : List GIns) : Nat → (List GIns) → Int → Option (List GIns)
  | 0, _, _ => none
  | k + 1, out_5, i_6 => cond (decide (i_6 < (a_1.length : Int))) ((getI a_1 i_6).bind fun v_8 => (g_laws_toIns v_8).bind fun y_9 => (getI out_5 i_6).bind fun v_10 => g_laws_toInsS_l0 a_1 k (out_5.set i_6.toNat y_9) (IntKind.wrap .i64 (i_6 + 1))) (some out_5)
def g_laws_toInsS (a_1 : List GIns) : Option (List GIns) := (mk ((⟨0, 0⟩ : GIns) : GIns) (a_1.length : Int)).bind fun v_3 => ((g_laws_toInsS_l0 a_1 bigK v_3 0).bind fun out_7 => some out_7 : Option ((List GIns))).bind fun out_4 => some out_4
def g_laws_toInt32S_l0 (a_1 : List Int) : Nat → (List Int) → Int → Option (List Int)
  | 0, _, _ => none
  | k + 1, out_5, i_6 => cond (decide (i_6 < (a_1.length : Int))) ((getI a_1 i_6).bind fun v_8 => (getI out_5 i_6).bind fun v_9 => g_laws_toInt32S_l0 a_1 k (out_5.set i_6.toNat v_8) (IntKind.wrap .i64 (i_6 + 1))) (some out_5)
def g_laws_toInt32S (a_1 : List Int) : Option (List Int) := (mk (0 : Int) (a_1.length : Int)).bind fun v_3 => ((g_laws_toInt32S_l0 a_1 bigK v_3 0).bind fun out_7 => some out_7 : Option ((List Int))).bind fun out_4 => some out_4
def g_laws_toSlot (a_1 : GSlot) : Option GSlot := some a_1
def g_laws_toSlotS_l0 (a_1 : List GSlot) : Nat → (List GSlot) → Int → Option (List GSlot)
  | 0, _, _ => none
  | k + 1, out_5, i_6 => cond (decide (i_6 < (a_1.length : Int))) ((getI a_1 i_6).bind fun v_8 => (g_laws_toSlot v_8).bind fun y_9 => (getI out_5 i_6).bind fun v_10 => g_laws_toSlotS_l0 a_1 k (out_5.set i_6.toNat y_9) (IntKind.wrap .i64 (i_6 + 1))) (some out_5)
def g_laws_toSlotS (a_1 : List GSlot) : Option (List GSlot) := (mk ((⟨0, 0⟩ : GSlot) : GSlot) (a_1.length : Int)).bind fun v_3 => ((g_laws_toSlotS_l0 a_1 bigK v_3 0).bind fun out_7 => some out_7 : Option ((List GSlot))).bind fun out_4 => some out_4
def g_laws_toUint32S_l0 (a_1 : List Int) : Nat → (List Int) → Int → Option (List Int)
  | 0, _, _ => none
  | k + 1, out_5, i_6 => cond (decide (i_6 < (a_1.length : Int))) ((getI a_1 i_6).bind fun v_8 => (getI out_5 i_6).bind fun v_9 => g_laws_toUint32S_l0 a_1 k (out_5.set i_6.toNat v_8) (IntKind.wrap .i64 (i_6 + 1))) (some out_5)
def g_laws_toUint32S (a_1 : List Int) : Option (List Int) := (mk (0 : Int) (a_1.length : Int)).bind fun v_3 => ((g_laws_toUint32S_l0 a_1 bigK v_3 0).bind fun out_7 => some out_7 : Option ((List Int))).bind fun out_4 => some out_4
def g_laws_toIntS_l0 (a_1 : List Int) : Nat → (List Int) → Int → Option (List Int)
  | 0, _, _ => none
  | k + 1, out_5, i_6 => cond (decide (i_6 < (a_1.length : Int))) ((getI a_1 i_6).bind fun v_8 => (getI out_5 i_6).bind fun v_9 => g_laws_toIntS_l0 a_1 k (out_5.set i_6.toNat v_8) (IntKind.wrap .i64 (i_6 + 1))) (some out_5)
def g_laws_toIntS (a_1 : List Int) : Option (List Int) := (mk (0 : Int) (a_1.length : Int)).bind fun v_3 => ((g_laws_toIntS_l0 a_1 bigK v_3 0).bind fun out_7 => some out_7 : Option ((List Int))).bind fun out_4 => some out_4
def g_laws_toByteS_l0 (a_1 : List Int) : Nat → (List Int) → Int → Option (List Int)
  | 0, _, _ => none
  | k + 1, out_5, i_6 => cond (decide (i_6 < (a_1.length : Int))) ((getI a_1 i_6).bind fun v_8 => (getI out_5 i_6).bind fun v_9 => g_laws_toByteS_l0 a_1 k (out_5.set i_6.toNat v_8) (IntKind.wrap .i64 (i_6 + 1))) (some out_5)
def g_laws_toByteS (a_1 : List Int) : Option (List Int) := (mk (0 : Int) (a_1.length : Int)).bind fun v_3 => ((g_laws_toByteS_l0 a_1 bigK v_3 0).bind fun out_7 => some out_7 : Option ((List Int))).bind fun out_4 => some out_4
def g_laws_toSt (a_1 : GSt) : Option GSt := (g_laws_toInt32S a_1.Data).bind fun y_3 => (g_laws_toSlotS a_1.Ret).bind fun y_4 => (g_laws_toInt32S a_1.Mem).bind fun y_5 => (g_laws_toUint32S a_1.Cells).bind fun y_6 => (g_laws_toIntS a_1.Vars).bind fun y_7 => (g_laws_toByteS a_1.Out).bind fun y_8 => (g_laws_toByteS a_1.In).bind fun y_9 => some (⟨y_3, y_4, a_1.A, y_5, y_6, y_7, y_8, y_9, a_1.Fault, a_1.Fuel⟩ : GSt)
def g_laws_toMach (a_1 : GMach) : Option GMach := (g_laws_toSt a_1.St).bind fun y_3 => some (⟨y_3, a_1.At, a_1.Done⟩ : GMach)
def g_spec_l01In (x_1 : Int) (a_2 : Int) (b_3 : Int) : Option Bool := cond (decide (x_1 ≥ a_2)) (some (decide (x_1 ≤ b_3))) (some false)
def g_spec_l08Names : Option (List Bs) := some [[100, 117, 112], [100, 114, 111, 112], [111, 118, 101, 114], [110, 105, 112], [115, 119, 97, 112], [43], [45], [42], [97, 110, 100], [111, 114], [50, 42], [50, 47], [47, 109, 111, 100], [64], [33], [97], [97, 33], [101, 109, 105, 116], [107, 101, 121], [112, 117, 115, 104], [112, 111, 112], [105], [46], [110, 111, 112]]
def g_spec_PrimName (k_1 : Int) : Option Bs := (g_spec_l08Names).bind fun y_3 => (g_spec_l01In k_1 0 (IntKind.wrap .i64 ((y_3.length : Int) - 1))).bind fun y_4 => cond (!y_4) (some []) ((getI y_3 k_1).bind fun v_5 => some v_5)
def g_spec_CodeOk_l0 (list_1 : List GIns) (n_7 : Int) : Nat → Int → Option (Unit ⊕ Bool)
  | 0, _ => none
  | k + 1, i_8 => cond (decide (i_8 < n_7)) (((getI list_1 i_8).bind fun v_11 => (cond (v_11.Op == 0) ((g_spec_l01In v_11.N (-2147483648) 2147483647).bind fun y_13 => some y_13) (cond (v_11.Op == 1) ((g_spec_PrimName v_11.N).bind fun y_14 => some (y_14 != [])) ((cond (v_11.Op == 2) (some (v_11.Op == 2)) (cond (v_11.Op == 3) (some (v_11.Op == 3)) (cond (v_11.Op == 4) (some (v_11.Op == 4)) (cond (v_11.Op == 5) (some (v_11.Op == 5)) (some (v_11.Op == 7))))) : Option (Bool)).bind fun v_15 => cond v_15 ((g_spec_l01In v_11.N 0 (IntKind.wrap .i64 (n_7 - 1))).bind fun y_16 => some y_16) ((cond (v_11.Op == 6) (some (v_11.Op == 6)) (cond (v_11.Op == 8) (some (v_11.Op == 8)) (some (v_11.Op == 9))) : Option (Bool)).bind fun v_17 => cond v_17 (some (v_11.N == 0)) (some false)))) : Option (Bool)).bind fun ok_12 => cond (!ok_12) (some (.inr false)) (some (.inl ())) : Option (Unit ⊕ Bool)).bind fun o => match o with | .inl () => g_spec_CodeOk_l0 list_1 n_7 k (IntKind.wrap .i64 (i_8 + 1)) | .inr v_10 => some (.inr v_10)) (some (.inl ()))
def g_spec_CodeOk (list_1 : List GIns) : Option Bool := ((g_spec_l01In (list_1.length : Int) 1 1500).bind fun y_4 => cond (!y_4) (some true) ((getI list_1 (IntKind.wrap .i64 ((list_1.length : Int) - 1))).bind fun v_5 => some (v_5.Op != 9)) : Option (Bool)).bind fun v_3 => cond v_3 (some false) (((g_spec_CodeOk_l0 list_1 (list_1.length : Int) bigK 0).bind fun o => match o with | .inl () => some (.inl ()) | .inr v_9 => some (.inr v_9) : Option (Unit ⊕ Bool)).bind fun o => match o with | .inl () => some true | .inr v_6 => some v_6)
def g_spec_StoreOk (s_1 : GStore) : Option Bool := cond ((Int.tmod (s_1.Cells.length : Int) 64) == 0) (some (decide ((s_1.Cells.length : Int) ≤ 768))) (some false)
def g_spec_StOk_l0 (st_1 : GSt) : Nat → Int → Option (Unit ⊕ Bool)
  | 0, _ => none
  | k + 1, i_5 => cond (decide (i_5 < (st_1.Ret.length : Int))) ((getI st_1.Ret i_5).bind fun v_7 => (g_spec_l01In v_7.Kind 0 2).bind fun y_8 => cond (!y_8) (some (.inr false)) (g_spec_StOk_l0 st_1 k (IntKind.wrap .i64 (i_5 + 1)))) (some (.inl ()))
def g_spec_StOk_l2 (i_10 : Int) (st_1 : GSt) : Nat → Int → Option (Unit ⊕ Bool)
  | 0, _ => none
  | k + 1, k_15 => cond (decide (k_15 < i_10)) ((getI st_1.Vars k_15).bind fun v_17 => (getI st_1.Vars i_10).bind fun v_18 => cond (v_17 == v_18) (some (.inr false)) (g_spec_StOk_l2 i_10 st_1 k (IntKind.wrap .i64 (k_15 + 1)))) (some (.inl ()))
def g_spec_StOk_l1 (st_1 : GSt) : Nat → Int → Option (Unit ⊕ Bool)
  | 0, _ => none
  | k + 1, i_10 => cond (decide (i_10 < (st_1.Vars.length : Int))) (((getI st_1.Vars i_10).bind fun v_13 => (g_spec_l01In v_13 0 (IntKind.wrap .i64 ((st_1.Cells.length : Int) - 1))).bind fun y_14 => cond (!y_14) (some (.inr false)) ((g_spec_StOk_l2 i_10 st_1 bigK 0).bind fun o => match o with | .inl () => some (.inl ()) | .inr v_16 => some (.inr v_16)) : Option (Unit ⊕ Bool)).bind fun o => match o with | .inl () => g_spec_StOk_l1 st_1 k (IntKind.wrap .i64 (i_10 + 1)) | .inr v_12 => some (.inr v_12)) (some (.inl ()))
def g_spec_StOk (st_1 : GSt) : Option Bool := (cond (decide ((st_1.Data.length : Int) > 16)) (some true) (cond (decide ((st_1.Ret.length : Int) > 24)) (some true) (cond ((st_1.Mem.length : Int) != 32) (some true) (cond (decide ((st_1.Vars.length : Int) > 20)) (some true) (cond (decide ((st_1.Out.length : Int) > 400)) (some true) (some (decide ((st_1.In.length : Int) > 100))))))) : Option (Bool)).bind fun v_3 => cond v_3 (some false) (((g_spec_StOk_l0 st_1 bigK 0).bind fun o => match o with | .inl () => some (.inl ()) | .inr v_6 => some (.inr v_6) : Option (Unit ⊕ Bool)).bind fun o => match o with | .inl () => (((g_spec_StOk_l1 st_1 bigK 0).bind fun o => match o with | .inl () => some (.inl ()) | .inr v_11 => some (.inr v_11) : Option (Unit ⊕ Bool)).bind fun o => match o with | .inl () => (g_spec_StoreOk (⟨st_1.Cells⟩ : GStore)).bind fun y_19 => cond y_19 ((g_spec_l01In st_1.Fault 0 13).bind fun y_20 => cond y_20 ((g_spec_l01In st_1.Fuel 0 4000).bind fun y_21 => some y_21) (some false)) (some false) | .inr v_9 => some v_9) | .inr v_4 => some v_4)
def g_spec_l21Marks_l0 (stops_1 : List Int) (n_2 : Int) : Nat → (List Bool) → Int → Option (List Bool)
  | 0, _, _ => none
  | k + 1, out_6, i_7 => cond (decide (i_7 < (stops_1.length : Int))) (((getI stops_1 i_7).bind fun v_10 => (g_spec_l01In v_10 0 (IntKind.wrap .i64 (n_2 - 1))).bind fun y_11 => cond y_11 ((getI stops_1 i_7).bind fun v_12 => (getI out_6 v_12).bind fun v_13 => some (out_6.set v_12.toNat true)) (some out_6) : Option ((List Bool))).bind fun out_9 => g_spec_l21Marks_l0 stops_1 n_2 k out_9 (IntKind.wrap .i64 (i_7 + 1))) (some out_6)
def g_spec_l21Marks (stops_1 : List Int) (n_2 : Int) : Option (List Bool) := (mk (false : Bool) n_2).bind fun v_4 => ((g_spec_l21Marks_l0 stops_1 n_2 bigK v_4 0).bind fun out_8 => some out_8 : Option ((List Bool))).bind fun out_5 => some out_5
def g_spec_l08Copy (st_1 : GSt) : Option GSt := (app ([] : List Int) st_1.Data).bind fun v_3 => (app ([] : List GSlot) st_1.Ret).bind fun v_4 => (app ([] : List Int) st_1.Mem).bind fun v_5 => (app ([] : List Int) st_1.Cells).bind fun v_6 => (app ([] : List Int) st_1.Vars).bind fun v_7 => (app ([] : List Int) st_1.Out).bind fun v_8 => (app ([] : List Int) st_1.In).bind fun v_9 => some (⟨v_3, v_4, st_1.A, v_5, v_6, v_7, v_8, v_9, st_1.Fault, st_1.Fuel⟩ : GSt)
def g_spec_l21Goes (m_1 : GMach) : Option Bool := cond (decide ((m_1.St.Mem.length : Int) > 0)) (cond (!m_1.Done) (some (m_1.St.Fault == 0)) (some false)) (some false)
def g_spec_l08Fault (st_1 : GSt) (f_2 : Int) : Option GSt := (g_spec_l08Copy st_1).bind fun y_4 => some (⟨y_4.Data, y_4.Ret, y_4.A, y_4.Mem, y_4.Cells, y_4.Vars, y_4.Out, y_4.In, f_2, y_4.Fuel⟩ : GSt)
def g_spec_l12To (m_1 : GMach) (st_2 : GSt) (vat_3 : Int) : Option GMach := (cond (st_2.Fault != 0) (some m_1.At) (some vat_3) : Option (Int)).bind fun vat_5 => some (⟨st_2, vat_5, false⟩ : GMach)
def g_spec_l08Put (st_1 : GSt) (take_2 : Int) (list_3 : List Int) : Option GSt := cond (decide ((IntKind.wrap .i64 ((IntKind.wrap .i64 ((st_1.Data.length : Int) - take_2)) + (list_3.length : Int))) > 16)) ((g_spec_l08Fault st_1 2).bind fun y_5 => some y_5) ((g_spec_l08Copy st_1).bind fun y_6 => (subL y_6.Data 0 (IntKind.wrap .i64 ((st_1.Data.length : Int) - take_2))).bind fun v_7 => (app v_7 list_3).bind fun v_8 => some (⟨v_8, y_6.Ret, y_6.A, y_6.Mem, y_6.Cells, y_6.Vars, y_6.Out, y_6.In, y_6.Fault, y_6.Fuel⟩ : GSt))
def g_spec_PushN (st_1 : GSt) (n_2 : Int) : Option GSt := (g_spec_StOk st_1).bind fun y_4 => cond (!y_4) (some (⟨[], [], 0, [], [], [], [], [], 0, 0⟩ : GSt)) (cond (st_1.Fault != 0) ((g_spec_l08Copy st_1).bind fun y_5 => some y_5) ((g_spec_l08Put st_1 0 [n_2]).bind fun y_6 => some y_6))
def g_spec_l08Takes (name_1 : Bs) : Option Int := ((cond (name_1 == [111, 118, 101, 114]) (some (name_1 == [111, 118, 101, 114])) (cond (name_1 == [110, 105, 112]) (some (name_1 == [110, 105, 112])) (cond (name_1 == [115, 119, 97, 112]) (some (name_1 == [115, 119, 97, 112])) (cond (name_1 == [43]) (some (name_1 == [43])) (cond (name_1 == [42]) (some (name_1 == [42])) (cond (name_1 == [97, 110, 100]) (some (name_1 == [97, 110, 100])) (cond (name_1 == [111, 114]) (some (name_1 == [111, 114])) (cond (name_1 == [47, 109, 111, 100]) (some (name_1 == [47, 109, 111, 100])) (some (name_1 == [33]))))))))) : Option (Bool)).bind fun v_4 => cond v_4 (some (.inr 2)) ((cond (name_1 == [97]) (some (name_1 == [97])) (cond (name_1 == [107, 101, 121]) (some (name_1 == [107, 101, 121])) (cond (name_1 == [112, 111, 112]) (some (name_1 == [112, 111, 112])) (cond (name_1 == [105]) (some (name_1 == [105])) (some (name_1 == [110, 111, 112]))))) : Option (Bool)).bind fun v_5 => cond v_5 (some (.inr 0)) (some (.inl ()))) : Option (Unit ⊕ Int)).bind fun o => match o with | .inl () => some 1 | .inr v_3 => some v_3
def g_spec_l08Pure (name_1 : Bs) (x_2 : Int) (y_3 : Int) : Option ((List Int) × Bool) := (cond (name_1 == [100, 117, 112]) (some (.inr ([y_3, y_3], true))) ((cond (name_1 == [100, 114, 111, 112]) (some (name_1 == [100, 114, 111, 112])) (some (name_1 == [110, 111, 112])) : Option (Bool)).bind fun v_8 => cond v_8 (some (.inr (([] : List Int), true))) (cond (name_1 == [111, 118, 101, 114]) (some (.inr ([x_2, y_3, x_2], true))) (cond (name_1 == [110, 105, 112]) (some (.inr ([y_3], true))) (cond (name_1 == [115, 119, 97, 112]) (some (.inr ([y_3, x_2], true))) (cond (name_1 == [43]) (some (.inr ([IntKind.wrap .i32 (x_2 + y_3)], true))) (cond (name_1 == [45]) (some (.inr ([IntKind.wrap .i32 ((-1) - y_3)], true))) (cond (name_1 == [42]) (some (.inr ([IntKind.wrap .i32 (x_2 * y_3)], true))) (cond (name_1 == [97, 110, 100]) (some (.inr ([andI .i32 x_2 y_3], true))) (cond (name_1 == [111, 114]) (some (.inr ([xorI .i32 x_2 y_3], true))) (cond (name_1 == [50, 42]) (some (.inr ([IntKind.wrap .i32 (y_3 + y_3)], true))) (cond (name_1 == [50, 47]) (some (.inr ([y_3 / 2], true))) (some (.inl ()))))))))))))) : Option (Unit ⊕ ((List Int) × Bool))).bind fun o => match o with | .inl () => some ([], false) | .inr (v_6, v_7) => some (v_6, v_7)
def g_spec_l08Divide (st_1 : GSt) (x_2 : Int) (y_3 : Int) : Option GSt := cond (y_3 == 0) ((g_spec_l08Fault st_1 5).bind fun y_5 => some y_5) ((quoI .i64 (IntKind.wrap .i64 x_2) (IntKind.wrap .i64 y_3)).bind fun v_6 => (remI .i64 (IntKind.wrap .i64 x_2) (IntKind.wrap .i64 y_3)).bind fun v_7 => (g_spec_l08Put st_1 2 [IntKind.wrap .i32 v_7, IntKind.wrap .i32 v_6]).bind fun y_8 => some y_8)
def g_spec_l08Place (st_1 : GSt) (addr_2 : Int) : Option Int := (g_spec_l01In (IntKind.wrap .i64 addr_2) 0 31).bind fun y_4 => cond y_4 (some (IntKind.wrap .i64 addr_2)) ((g_spec_l01In (IntKind.wrap .i64 addr_2) 1024 (IntKind.wrap .i64 ((IntKind.wrap .i64 (1024 + (st_1.Cells.length : Int))) - 1))).bind fun y_5 => cond y_5 (some (IntKind.wrap .i64 ((IntKind.wrap .i64 (32 + (IntKind.wrap .i64 addr_2))) - 1024))) (some (-1)))
def g_spec_l08Fetch (st_1 : GSt) (addr_2 : Int) : Option GSt := (g_spec_l08Place st_1 addr_2).bind fun y_4 => cond (decide (y_4 < 0)) ((g_spec_l08Fault st_1 4).bind fun y_5 => some y_5) (cond (decide (y_4 < 32)) ((getI st_1.Mem y_4).bind fun v_6 => (g_spec_l08Put st_1 1 [v_6]).bind fun y_7 => some y_7) ((getI st_1.Cells (IntKind.wrap .i64 (y_4 - 32))).bind fun v_8 => (g_spec_l08Put st_1 1 [IntKind.wrap .i32 v_8]).bind fun y_9 => some y_9))
def g_spec_l08Store_l0 (n_2 : Int) (y_5 : Int) (st_1 : GSt) : Nat → Int → GSt → GSt → Option ((GSt × GSt) ⊕ (GSt × GSt))
  | 0, _, _, _ => none
  | k + 1, i_13, x_14, x_15 => cond (decide (i_13 < (st_1.Vars.length : Int))) ((cond (decide (y_5 ≥ 0)) ((getI st_1.Vars i_13).bind fun v_21 => some (v_21 == (IntKind.wrap .i64 (y_5 - 32)))) (some false) : Option (Bool)).bind fun v_20 => cond v_20 ((getI st_1.Vars i_13).bind fun v_22 => (getI x_15.Cells v_22).bind fun v_23 => some (.inr ((⟨x_15.Data, x_15.Ret, x_15.A, x_15.Mem, x_15.Cells.set v_22.toNat (IntKind.wrap .u32 n_2), x_15.Vars, x_15.Out, x_15.In, x_15.Fault, x_15.Fuel⟩ : GSt), (⟨x_15.Data, x_15.Ret, x_15.A, x_15.Mem, x_15.Cells.set v_22.toNat (IntKind.wrap .u32 n_2), x_15.Vars, x_15.Out, x_15.In, x_15.Fault, x_15.Fuel⟩ : GSt)))) (g_spec_l08Store_l0 n_2 y_5 st_1 k (IntKind.wrap .i64 (i_13 + 1)) x_14 x_15)) (some (.inl (x_14, x_15)))
def g_spec_l08Store (st_1 : GSt) (n_2 : Int) (addr_3 : Int) : Option GSt := (g_spec_l08Place st_1 addr_3).bind fun y_5 => (g_spec_l08Put st_1 2 ([] : List Int)).bind fun y_6 => (g_spec_l01In y_5 0 31).bind fun y_7 => cond y_7 ((getI y_6.Mem y_5).bind fun v_8 => some (⟨y_6.Data, y_6.Ret, y_6.A, y_6.Mem.set y_5.toNat n_2, y_6.Cells, y_6.Vars, y_6.Out, y_6.In, y_6.Fault, y_6.Fuel⟩ : GSt)) (((g_spec_l08Store_l0 n_2 y_5 st_1 bigK 0 (⟨[], [], 0, [], [], [], [], [], 0, 0⟩ : GSt) y_6).bind fun o => match o with | .inl (x_16, x_17) => some (.inl (x_16, x_17)) | .inr (x_18, x_19) => some (.inr (x_18, (⟨x_18.Data, x_18.Ret, x_19.A, x_18.Mem, x_18.Cells, x_18.Vars, x_18.Out, x_18.In, x_19.Fault, x_19.Fuel⟩ : GSt))) : Option ((GSt × GSt) ⊕ (GSt × GSt))).bind fun o => match o with | .inl (x_9, x_10) => (g_spec_l08Fault st_1 4).bind fun y_24 => some y_24 | .inr (x_11, x_12) => some x_11)
def g_spec_l08Say (st_1 : GSt) (b_2 : List Int) : Option GSt := cond (decide ((IntKind.wrap .i64 ((st_1.Out.length : Int) + (b_2.length : Int))) > 400)) ((g_spec_l08Fault st_1 13).bind fun y_4 => some y_4) ((g_spec_l08Put st_1 1 ([] : List Int)).bind fun y_5 => (app y_5.Out b_2).bind fun v_6 => some (⟨y_5.Data, y_5.Ret, y_5.A, y_5.Mem, y_5.Cells, y_5.Vars, v_6, y_5.In, y_5.Fault, y_5.Fuel⟩ : GSt))
def g_spec_DecText_l0 : Nat → Bs → Int → Option Bs
  | 0, _, _ => none
  | k + 1, out_4, m_5 => cond (m_5 != 0) ((cond (decide ((Int.tmod m_5 10) < 0)) (some (IntKind.wrap .i64 (0 - (Int.tmod m_5 10)))) (some (Int.tmod m_5 10)) : Option (Int)).bind fun d_7 => (subL [48, 49, 50, 51, 52, 53, 54, 55, 56, 57] d_7 (IntKind.wrap .i64 (d_7 + 1))).bind fun v_8 => (catS v_8 out_4).bind fun v_9 => g_spec_DecText_l0 k v_9 (IntKind.wrap .i64 (Int.tdiv m_5 10))) (some out_4)
def g_spec_DecText (n_1 : Int) : Option Bs := cond (n_1 == 0) (some [48]) ((g_spec_DecText_l0 bigK [] n_1).bind fun out_6 => cond (decide (n_1 < 0)) ((catS [45] out_6).bind fun v_10 => some v_10) (some out_6))
def g_spec_l08Back (st_1 : GSt) (take_2 : Bool) : Option GSt := cond ((st_1.Ret.length : Int) == 0) ((g_spec_l08Fault st_1 3).bind fun y_4 => some y_4) ((getI st_1.Ret (IntKind.wrap .i64 ((st_1.Ret.length : Int) - 1))).bind fun v_5 => (cond (v_5.Kind == 2) (some true) (cond take_2 (some (v_5.Kind != 0)) (some false)) : Option (Bool)).bind fun v_6 => cond v_6 ((g_spec_l08Fault st_1 11).bind fun y_7 => some y_7) ((g_spec_l08Put st_1 0 [v_5.N]).bind fun y_8 => ((cond take_2 (some (y_8.Fault == 0)) (some false) : Option (Bool)).bind fun v_17 => cond v_17 ((subL y_8.Ret 0 (IntKind.wrap .i64 ((st_1.Ret.length : Int) - 1))).bind fun v_18 => some (⟨y_8.Data, v_18, y_8.A, y_8.Mem, y_8.Cells, y_8.Vars, y_8.Out, y_8.In, y_8.Fault, y_8.Fuel⟩ : GSt)) (some y_8) : Option (GSt)).bind fun x_16 => some x_16))
def g_spec_l08Other (st_1 : GSt) (name_2 : Bs) (x_3 : Int) (y_4 : Int) : Option GSt := cond (name_2 == [47, 109, 111, 100]) ((g_spec_l08Divide st_1 x_3 y_4).bind fun y_6 => some y_6) (cond (name_2 == [64]) ((g_spec_l08Fetch st_1 y_4).bind fun y_7 => some y_7) (cond (name_2 == [33]) ((g_spec_l08Store st_1 x_3 y_4).bind fun y_8 => some y_8) (cond (name_2 == [97]) ((g_spec_l08Put st_1 0 [st_1.A]).bind fun y_9 => some y_9) (cond (name_2 == [97, 33]) ((g_spec_l08Put st_1 1 ([] : List Int)).bind fun y_10 => some (⟨y_10.Data, y_10.Ret, y_4, y_10.Mem, y_10.Cells, y_10.Vars, y_10.Out, y_10.In, y_10.Fault, y_10.Fuel⟩ : GSt)) (cond (name_2 == [101, 109, 105, 116]) ((g_spec_l08Say st_1 [IntKind.wrap .u8 (andI .i32 y_4 255)]).bind fun y_11 => some y_11) (cond (name_2 == [46]) ((g_spec_DecText (IntKind.wrap .i64 y_4)).bind fun y_12 => (catS y_12 [32]).bind fun v_13 => (s2b v_13).bind fun v_14 => (g_spec_l08Say st_1 v_14).bind fun y_15 => some y_15) (cond (name_2 == [107, 101, 121]) ((cond (decide ((st_1.In.length : Int) > 0)) ((getI st_1.In 0).bind fun v_17 => some (IntKind.wrap .i32 v_17)) (some (-1)) : Option (Int)).bind fun n_16 => (g_spec_l08Put st_1 0 [n_16]).bind fun y_18 => ((cond (y_18.Fault == 0) (some (decide ((y_18.In.length : Int) > 0))) (some false) : Option (Bool)).bind fun v_27 => cond v_27 ((subL y_18.In 1 ((y_18.In.length : Nat) : Int)).bind fun v_28 => some (⟨y_18.Data, y_18.Ret, y_18.A, y_18.Mem, y_18.Cells, y_18.Vars, y_18.Out, v_28, y_18.Fault, y_18.Fuel⟩ : GSt)) (some y_18) : Option (GSt)).bind fun x_26 => some x_26) (cond (name_2 == [112, 117, 115, 104]) (cond ((st_1.Ret.length : Int) == 24) ((g_spec_l08Fault st_1 3).bind fun y_29 => some y_29) ((g_spec_l08Put st_1 1 ([] : List Int)).bind fun y_30 => (app y_30.Ret [(⟨0, y_4⟩ : GSlot)]).bind fun v_31 => some (⟨y_30.Data, v_31, y_30.A, y_30.Mem, y_30.Cells, y_30.Vars, y_30.Out, y_30.In, y_30.Fault, y_30.Fuel⟩ : GSt))) ((g_spec_l08Back st_1 (name_2 == [112, 111, 112])).bind fun y_32 => some y_32)))))))))
def g_spec_Do (st_1 : GSt) (k_2 : Int) : Option GSt := (g_spec_StOk st_1).bind fun y_4 => cond (!y_4) (some (⟨[], [], 0, [], [], [], [], [], 0, 0⟩ : GSt)) (cond (st_1.Fault != 0) ((g_spec_l08Copy st_1).bind fun y_5 => some y_5) ((g_spec_PrimName k_2).bind fun y_6 => cond (y_6 == []) ((g_spec_l08Fault st_1 1).bind fun y_7 => some y_7) ((g_spec_l08Takes y_6).bind fun y_8 => cond (decide ((st_1.Data.length : Int) < y_8)) ((g_spec_l08Fault st_1 2).bind fun y_9 => some y_9) ((cond (decide (y_8 > 0)) ((getI st_1.Data (IntKind.wrap .i64 ((st_1.Data.length : Int) - 1))).bind fun v_11 => some v_11) (some 0) : Option (Int)).bind fun y_10 => (cond (decide (y_8 > 1)) ((getI st_1.Data (IntKind.wrap .i64 ((st_1.Data.length : Int) - 2))).bind fun v_13 => some v_13) (some 0) : Option (Int)).bind fun x_12 => (g_spec_l08Pure y_6 x_12 y_10).bind fun y_14 => cond y_14.2 ((g_spec_l08Put st_1 y_8 y_14.1).bind fun y_15 => some y_15) ((g_spec_l08Other st_1 y_6 x_12 y_10).bind fun y_16 => some y_16)))))
def g_spec_l12Put (st_1 : GSt) (s_2 : GSlot) : Option GSt := cond ((st_1.Ret.length : Int) == 24) ((g_spec_l08Fault st_1 3).bind fun y_4 => some y_4) ((g_spec_l08Copy st_1).bind fun y_5 => (app y_5.Ret [s_2]).bind fun v_6 => some (⟨y_5.Data, v_6, y_5.A, y_5.Mem, y_5.Cells, y_5.Vars, y_5.Out, y_5.In, y_5.Fault, y_5.Fuel⟩ : GSt))
def g_spec_l12For (m_1 : GMach) (st_2 : GSt) : Option GMach := cond ((st_2.Data.length : Int) == 0) ((g_spec_l08Fault st_2 2).bind fun y_4 => (g_spec_l12To m_1 y_4 0).bind fun y_5 => some y_5) ((getI st_2.Data (IntKind.wrap .i64 ((st_2.Data.length : Int) - 1))).bind fun v_6 => (g_spec_l12Put st_2 (⟨1, v_6⟩ : GSlot)).bind fun y_7 => (cond (y_7.Fault == 0) ((subL y_7.Data 0 (IntKind.wrap .i64 ((st_2.Data.length : Int) - 1))).bind fun v_16 => some (⟨v_16, y_7.Ret, y_7.A, y_7.Mem, y_7.Cells, y_7.Vars, y_7.Out, y_7.In, y_7.Fault, y_7.Fuel⟩ : GSt)) (some y_7) : Option (GSt)).bind fun x_15 => (g_spec_l12To m_1 x_15 (IntKind.wrap .i64 (m_1.At + 1))).bind fun y_17 => some y_17)
def g_spec_l12Drop (st_1 : GSt) : Option GSt := (g_spec_l08Copy st_1).bind fun y_3 => (subL y_3.Ret 0 (IntKind.wrap .i64 ((y_3.Ret.length : Int) - 1))).bind fun v_4 => some (⟨y_3.Data, v_4, y_3.A, y_3.Mem, y_3.Cells, y_3.Vars, y_3.Out, y_3.In, y_3.Fault, y_3.Fuel⟩ : GSt)
def g_spec_l12Next (m_1 : GMach) (st_2 : GSt) (to_3 : Int) : Option GMach := cond ((st_2.Ret.length : Int) == 0) ((g_spec_l08Fault st_2 3).bind fun y_5 => (g_spec_l12To m_1 y_5 0).bind fun y_6 => some y_6) ((getI st_2.Ret (IntKind.wrap .i64 ((st_2.Ret.length : Int) - 1))).bind fun v_7 => cond (v_7.Kind != 1) ((g_spec_l08Fault st_2 11).bind fun y_8 => (g_spec_l12To m_1 y_8 0).bind fun y_9 => some y_9) ((g_spec_l08Copy st_2).bind fun y_10 => (getI y_10.Ret (IntKind.wrap .i64 ((st_2.Ret.length : Int) - 1))).bind fun v_11 => (getI y_10.Ret (IntKind.wrap .i64 ((st_2.Ret.length : Int) - 1))).bind fun v_12 => (getI (y_10.Ret.set (IntKind.wrap .i64 ((st_2.Ret.length : Int) - 1)).toNat (⟨v_12.Kind, IntKind.wrap .i32 (v_11.N - 1)⟩ : GSlot)) (IntKind.wrap .i64 ((st_2.Ret.length : Int) - 1))).bind fun v_13 => cond (decide (v_13.N > 0)) ((g_spec_l12To m_1 (⟨y_10.Data, y_10.Ret.set (IntKind.wrap .i64 ((st_2.Ret.length : Int) - 1)).toNat (⟨v_12.Kind, IntKind.wrap .i32 (v_11.N - 1)⟩ : GSlot), y_10.A, y_10.Mem, y_10.Cells, y_10.Vars, y_10.Out, y_10.In, y_10.Fault, y_10.Fuel⟩ : GSt) to_3).bind fun y_14 => some y_14) ((g_spec_l12Drop (⟨y_10.Data, y_10.Ret.set (IntKind.wrap .i64 ((st_2.Ret.length : Int) - 1)).toNat (⟨v_12.Kind, IntKind.wrap .i32 (v_11.N - 1)⟩ : GSlot), y_10.A, y_10.Mem, y_10.Cells, y_10.Vars, y_10.Out, y_10.In, y_10.Fault, y_10.Fuel⟩ : GSt)).bind fun y_15 => (g_spec_l12To m_1 y_15 (IntKind.wrap .i64 (m_1.At + 1))).bind fun y_16 => some y_16)))
def g_spec_l12Ret (m_1 : GMach) (st_2 : GSt) (n_3 : Int) : Option GMach := (cond ((st_2.Ret.length : Int) == 0) (some true) ((getI st_2.Ret (IntKind.wrap .i64 ((st_2.Ret.length : Int) - 1))).bind fun v_6 => some (v_6.Kind != 2)) : Option (Bool)).bind fun v_5 => cond v_5 ((g_spec_l08Fault st_2 11).bind fun y_7 => (g_spec_l12To m_1 y_7 0).bind fun y_8 => some y_8) ((getI st_2.Ret (IntKind.wrap .i64 ((st_2.Ret.length : Int) - 1))).bind fun v_9 => cond ((IntKind.wrap .i64 v_9.N) == (-1)) ((g_spec_l12Drop st_2).bind fun y_10 => some (⟨y_10, m_1.At, true⟩ : GMach)) ((g_spec_l01In (IntKind.wrap .i64 v_9.N) 0 (IntKind.wrap .i64 (n_3 - 1))).bind fun y_11 => cond (!y_11) ((g_spec_l08Fault st_2 11).bind fun y_12 => (g_spec_l12To m_1 y_12 0).bind fun y_13 => some y_13) ((g_spec_l12Drop st_2).bind fun y_14 => (g_spec_l12To m_1 y_14 (IntKind.wrap .i64 v_9.N)).bind fun y_15 => some y_15)))
def g_spec_l12Test (m_1 : GMach) (st_2 : GSt) (x_3 : GIns) : Option GMach := cond ((st_2.Data.length : Int) == 0) ((g_spec_l08Fault st_2 2).bind fun y_5 => (g_spec_l12To m_1 y_5 0).bind fun y_6 => some y_6) ((getI st_2.Data (IntKind.wrap .i64 ((st_2.Data.length : Int) - 1))).bind fun v_7 => (cond (x_3.Op == 4) (cond (v_7 == 0) (some true) (cond (x_3.Op == 5) (some (decide (v_7 ≥ 0))) (some false))) (cond (x_3.Op == 5) (some (decide (v_7 ≥ 0))) (some false)) : Option (Bool)).bind fun v_8 => cond v_8 ((g_spec_l12To m_1 st_2 x_3.N).bind fun y_9 => some y_9) ((g_spec_l12To m_1 st_2 (IntKind.wrap .i64 (m_1.At + 1))).bind fun y_10 => some y_10))
def g_spec_l12Step (code_1 : List GIns) (m_2 : GMach) : Option GMach := (getI code_1 m_2.At).bind fun v_4 => cond (v_4.Op == 9) ((g_spec_l08Fault m_2.St 10).bind fun y_5 => (g_spec_l12To m_2 y_5 0).bind fun y_6 => some y_6) (cond (m_2.St.Fuel == 0) ((g_spec_l08Fault m_2.St 6).bind fun y_7 => (g_spec_l12To m_2 y_7 0).bind fun y_8 => some y_8) ((g_spec_l08Copy m_2.St).bind fun y_9 => cond (v_4.Op == 0) ((g_spec_PushN (⟨y_9.Data, y_9.Ret, y_9.A, y_9.Mem, y_9.Cells, y_9.Vars, y_9.Out, y_9.In, y_9.Fault, IntKind.wrap .i64 (y_9.Fuel - 1)⟩ : GSt) (IntKind.wrap .i32 v_4.N)).bind fun y_10 => (g_spec_l12To m_2 y_10 (IntKind.wrap .i64 (m_2.At + 1))).bind fun y_11 => some y_11) (cond (v_4.Op == 1) ((g_spec_Do (⟨y_9.Data, y_9.Ret, y_9.A, y_9.Mem, y_9.Cells, y_9.Vars, y_9.Out, y_9.In, y_9.Fault, IntKind.wrap .i64 (y_9.Fuel - 1)⟩ : GSt) v_4.N).bind fun y_12 => (g_spec_l12To m_2 y_12 (IntKind.wrap .i64 (m_2.At + 1))).bind fun y_13 => some y_13) (cond (v_4.Op == 2) ((g_spec_l12Put (⟨y_9.Data, y_9.Ret, y_9.A, y_9.Mem, y_9.Cells, y_9.Vars, y_9.Out, y_9.In, y_9.Fault, IntKind.wrap .i64 (y_9.Fuel - 1)⟩ : GSt) (⟨2, IntKind.wrap .i32 (IntKind.wrap .i64 (m_2.At + 1))⟩ : GSlot)).bind fun y_14 => (g_spec_l12To m_2 y_14 v_4.N).bind fun y_15 => some y_15) (cond (v_4.Op == 3) ((g_spec_l12To m_2 (⟨y_9.Data, y_9.Ret, y_9.A, y_9.Mem, y_9.Cells, y_9.Vars, y_9.Out, y_9.In, y_9.Fault, IntKind.wrap .i64 (y_9.Fuel - 1)⟩ : GSt) v_4.N).bind fun y_16 => some y_16) (cond (v_4.Op == 6) ((g_spec_l12For m_2 (⟨y_9.Data, y_9.Ret, y_9.A, y_9.Mem, y_9.Cells, y_9.Vars, y_9.Out, y_9.In, y_9.Fault, IntKind.wrap .i64 (y_9.Fuel - 1)⟩ : GSt)).bind fun y_17 => some y_17) (cond (v_4.Op == 7) ((g_spec_l12Next m_2 (⟨y_9.Data, y_9.Ret, y_9.A, y_9.Mem, y_9.Cells, y_9.Vars, y_9.Out, y_9.In, y_9.Fault, IntKind.wrap .i64 (y_9.Fuel - 1)⟩ : GSt) v_4.N).bind fun y_18 => some y_18) (cond (v_4.Op == 8) ((g_spec_l12Ret m_2 (⟨y_9.Data, y_9.Ret, y_9.A, y_9.Mem, y_9.Cells, y_9.Vars, y_9.Out, y_9.In, y_9.Fault, IntKind.wrap .i64 (y_9.Fuel - 1)⟩ : GSt) (code_1.length : Int)).bind fun y_19 => some y_19) ((g_spec_l12Test m_2 (⟨y_9.Data, y_9.Ret, y_9.A, y_9.Mem, y_9.Cells, y_9.Vars, y_9.Out, y_9.In, y_9.Fault, IntKind.wrap .i64 (y_9.Fuel - 1)⟩ : GSt) v_4).bind fun y_20 => some y_20)))))))))
def g_spec_RunTo_l0 (code_1 : List GIns) (n_4 : Int) (marks_15 : List Bool) : Nat → Int → GMach → Option (Int × GMach)
  | 0, _, _ => none
  | k + 1, k_17, x_18 => (cond (decide (k_17 < n_4)) ((g_spec_l21Goes x_18).bind fun y_22 => cond y_22 (cond (k_17 == 0) (some true) ((getI marks_15 x_18.At).bind fun v_23 => some (!v_23))) (some false)) (some false) : Option (Bool)).bind fun v_21 => cond v_21 ((g_spec_l12Step code_1 x_18).bind fun y_24 => g_spec_RunTo_l0 code_1 n_4 marks_15 k (IntKind.wrap .i64 (k_17 + 1)) y_24) (some (k_17, x_18))
def g_spec_RunTo (code_1 : List GIns) (m_2 : GMach) (stops_3 : List Int) (n_4 : Int) : Option (GMach × Int) := ((g_spec_CodeOk code_1).bind fun y_8 => cond (!y_8) (some true) ((g_spec_l01In m_2.At 0 (IntKind.wrap .i64 ((code_1.length : Int) - 1))).bind fun y_9 => cond (!y_9) (some true) ((g_spec_StOk m_2.St).bind fun y_10 => cond (!y_10) (some true) ((g_spec_l01In n_4 1 4000).bind fun y_11 => some (!y_11)))) : Option (Bool)).bind fun v_7 => cond v_7 (some ((⟨(⟨[], [], 0, [], [], [], [], [], 0, 0⟩ : GSt), 0, false⟩ : GMach), 0)) ((g_spec_l21Marks stops_3 (code_1.length : Int)).bind fun y_12 => (g_spec_l08Copy m_2.St).bind fun y_13 => (g_spec_RunTo_l0 code_1 n_4 y_12 bigK 0 (⟨y_13, m_2.At, m_2.Done⟩ : GMach)).bind fun (k_19, x_20) => some (x_20, k_19))
def g_impl_within (n_1 : Int) (low_2 : Int) (high_3 : Int) : Option Bool := cond (decide (low_2 ≤ n_1)) (some (decide (n_1 ≤ high_3))) (some false)
def g_strings_Fields_l0 (s_1 : Bs) : Nat → Int → Int → Int → Int → Option (Int × Int)
  | 0, _, _, _, _ => none
  | k + 1, n_5, wasSpace_6, setBits_7, i_8 => cond (decide (i_8 < (s_1.length : Int))) ((idxS s_1 i_8).bind fun v_11 => (getI gtAscii v_11).bind fun v_12 => g_strings_Fields_l0 s_1 k (IntKind.wrap .i64 (n_5 + (andI .i64 wasSpace_6 (notI .i64 (IntKind.wrap .i64 v_12))))) (IntKind.wrap .i64 v_12) (orI .u8 setBits_7 v_11) (IntKind.wrap .i64 (i_8 + 1))) (some (n_5, setBits_7))
def g_strings_Fields_l1 (s_1 : Bs) : Nat → Int → Option Int
  | 0, _ => none
  | k + 1, i_15 => (cond (decide (i_15 < (s_1.length : Int))) ((idxS s_1 i_15).bind fun v_18 => (getI gtAscii v_18).bind fun v_19 => some (v_19 != 0)) (some false) : Option (Bool)).bind fun v_17 => cond v_17 (g_strings_Fields_l1 s_1 k (IntKind.wrap .i64 (i_15 + 1))) (some i_15)
def g_strings_Fields_l3 (s_1 : Bs) : Nat → Int → Option Int
  | 0, _ => none
  | k + 1, i_33 => (cond (decide (i_33 < (s_1.length : Int))) ((idxS s_1 i_33).bind fun v_36 => (getI gtAscii v_36).bind fun v_37 => some (v_37 != 0)) (some false) : Option (Bool)).bind fun v_35 => cond v_35 (g_strings_Fields_l3 s_1 k (IntKind.wrap .i64 (i_33 + 1))) (some i_33)
def g_strings_Fields_l2 (s_1 : Bs) : Nat → (List Bs) → Int → Int → Int → Option ((List Bs) × Int × Int)
  | 0, _, _, _, _ => none
  | k + 1, a_20, na_21, fieldStart_22, i_23 => cond (decide (i_23 < (s_1.length : Int))) ((idxS s_1 i_23).bind fun v_27 => (getI gtAscii v_27).bind fun v_28 => cond (v_28 == 0) (g_strings_Fields_l2 s_1 k a_20 na_21 fieldStart_22 (IntKind.wrap .i64 (i_23 + 1))) ((subL s_1 fieldStart_22 i_23).bind fun v_29 => (getI a_20 na_21).bind fun v_30 => (g_strings_Fields_l3 s_1 bigK (IntKind.wrap .i64 (i_23 + 1))).bind fun i_34 => g_strings_Fields_l2 s_1 k (a_20.set na_21.toNat v_29) (IntKind.wrap .i64 (na_21 + 1)) i_34 i_34)) (some (a_20, na_21, fieldStart_22))
def g_strings_Fields (s_1 : Bs) : Option (List Bs) := ((g_strings_Fields_l0 s_1 bigK 0 1 0 0).bind fun (n_9, setBits_10) => some (n_9, setBits_10) : Option ((Int × Int))).bind fun (n_3, setBits_4) => cond (decide (setBits_4 ≥ 128)) (none) ((mk ([] : Bs) n_3).bind fun v_13 => (g_strings_Fields_l1 s_1 bigK 0).bind fun i_16 => (g_strings_Fields_l2 s_1 bigK v_13 0 i_16 i_16).bind fun (a_24, na_25, fieldStart_26) => (cond (decide (fieldStart_26 < (s_1.length : Int))) ((subL s_1 fieldStart_26 (s_1.length : Int)).bind fun v_39 => (getI a_24 na_25).bind fun v_40 => some (a_24.set na_25.toNat v_39)) (some a_24) : Option ((List Bs))).bind fun a_38 => some a_38)
def g_impl_prims : Option (List Bs) := (g_strings_Fields [100, 117, 112, 32, 100, 114, 111, 112, 32, 111, 118, 101, 114, 32, 110, 105, 112, 32, 115, 119, 97, 112, 32, 43, 32, 45, 32, 42, 32, 97, 110, 100, 32, 111, 114, 32, 50, 42, 32, 50, 47, 32, 47, 109, 111, 100, 32, 64, 32, 33, 32, 97, 32, 97, 33, 32, 101, 109, 105, 116, 32, 107, 101, 121, 32, 112, 117, 115, 104, 32, 112, 111, 112, 32, 105, 32, 46, 32, 110, 111, 112]).bind fun y_2 => some y_2
def g_impl_PrimName (k_1 : Int) : Option Bs := (g_impl_prims).bind fun y_3 => (g_impl_within k_1 0 (IntKind.wrap .i64 ((y_3.length : Int) - 1))).bind fun y_4 => cond y_4 ((getI y_3 k_1).bind fun v_5 => some v_5) (some [])
def g_impl_CodeOkc1 (i_1 : GIns) (a_2 : Int) : Option Bool := ((cond (i_1.Op == 2) (some (i_1.Op == 2)) (cond (i_1.Op == 3) (some (i_1.Op == 3)) (cond (i_1.Op == 4) (some (i_1.Op == 4)) (cond (i_1.Op == 5) (some (i_1.Op == 5)) (some (i_1.Op == 7))))) : Option (Bool)).bind fun v_5 => cond v_5 ((g_impl_within i_1.N 0 (IntKind.wrap .i64 (a_2 - 1))).bind fun y_6 => some (.inr (!y_6))) (cond (i_1.Op == 0) (some (.inr (i_1.N != (IntKind.wrap .i64 (IntKind.wrap .i32 i_1.N))))) (cond (i_1.Op == 1) ((g_impl_PrimName i_1.N).bind fun y_7 => some (.inr (y_7 == []))) ((cond (i_1.Op == 6) (some (i_1.Op == 6)) (cond (i_1.Op == 8) (some (i_1.Op == 8)) (some (i_1.Op == 9))) : Option (Bool)).bind fun v_8 => cond v_8 (some (.inr (i_1.N != 0))) (some (.inl ()))))) : Option (Unit ⊕ Bool)).bind fun o => match o with | .inl () => some true | .inr v_4 => some v_4
def g_slices_IndexFunc_Ins_impl_CodeOkc1_l0 (s_1 : List GIns) (v_5 : Int) (c_2 : Int) : Nat → Int → Option (Unit ⊕ Int)
  | 0, _ => none
  | k + 1, v_6 => cond (decide (v_6 < v_5)) ((getI s_1 v_6).bind fun v_8 => (g_impl_CodeOkc1 v_8 c_2).bind fun y_9 => cond y_9 (some (.inr v_6)) (g_slices_IndexFunc_Ins_impl_CodeOkc1_l0 s_1 v_5 c_2 k (IntKind.wrap .i64 (v_6 + 1)))) (some (.inl ()))
def g_slices_IndexFunc_Ins_impl_CodeOkc1 (s_1 : List GIns) (c_2 : Int) : Option Int := ((g_slices_IndexFunc_Ins_impl_CodeOkc1_l0 s_1 (s_1.length : Int) c_2 bigK 0).bind fun o => match o with | .inl () => some (.inl ()) | .inr v_7 => some (.inr v_7) : Option (Unit ⊕ Int)).bind fun o => match o with | .inl () => some (-1) | .inr v_4 => some v_4
def g_slices_ContainsFunc_Ins_impl_CodeOkc1 (s_1 : List GIns) (c_2 : Int) : Option Bool := (g_slices_IndexFunc_Ins_impl_CodeOkc1 s_1 c_2).bind fun y_4 => some (decide (y_4 ≥ 0))
def g_impl_CodeOk (list_1 : List GIns) : Option Bool := ((g_impl_within (list_1.length : Int) 1 1500).bind fun y_4 => cond (!y_4) (some true) ((getI list_1 (IntKind.wrap .i64 ((list_1.length : Int) - 1))).bind fun v_5 => some (v_5.Op != 9)) : Option (Bool)).bind fun v_3 => cond v_3 (some false) ((g_slices_ContainsFunc_Ins_impl_CodeOkc1 list_1 (list_1.length : Int)).bind fun y_6 => some (!y_6))
def g_impl_StoreOk (s_1 : GStore) : Option Bool := cond ((Int.tmod (s_1.Cells.length : Int) 64) == 0) (some (decide ((s_1.Cells.length : Int) ≤ 768))) (some false)
def g_slices_Index_int_l0 (s_1 : List Int) (v_2 : Int) (v_5 : Int) : Nat → Int → Option (Unit ⊕ Int)
  | 0, _ => none
  | k + 1, v_6 => cond (decide (v_6 < v_5)) ((getI s_1 v_6).bind fun v_8 => cond (v_2 == v_8) (some (.inr v_6)) (g_slices_Index_int_l0 s_1 v_2 v_5 k (IntKind.wrap .i64 (v_6 + 1)))) (some (.inl ()))
def g_slices_Index_int (s_1 : List Int) (v_2 : Int) : Option Int := ((g_slices_Index_int_l0 s_1 v_2 (s_1.length : Int) bigK 0).bind fun o => match o with | .inl () => some (.inl ()) | .inr v_7 => some (.inr v_7) : Option (Unit ⊕ Int)).bind fun o => match o with | .inl () => some (-1) | .inr v_4 => some v_4
def g_slices_Contains_int (s_1 : List Int) (v_2 : Int) : Option Bool := (g_slices_Index_int s_1 v_2).bind fun y_4 => some (decide (y_4 ≥ 0))
def g_impl_StOk_l0 (v_6 : List GSlot) (v_7 : Int) : Nat → Int → Option (Unit ⊕ Bool)
  | 0, _ => none
  | k + 1, v_8 => cond (decide (v_8 < v_7)) ((getI v_6 v_8).bind fun v_10 => (g_impl_within v_10.Kind 0 2).bind fun y_11 => cond (!y_11) (some (.inr false)) (g_impl_StOk_l0 v_6 v_7 k (IntKind.wrap .i64 (v_8 + 1)))) (some (.inl ()))
def g_impl_StOk_l1 (v_13 : List Int) (v_14 : Int) (st_1 : GSt) : Nat → Int → Option (Unit ⊕ Bool)
  | 0, _ => none
  | k + 1, v_15 => cond (decide (v_15 < v_14)) ((getI v_13 v_15).bind fun v_17 => ((g_impl_within v_17 0 (IntKind.wrap .i64 ((st_1.Cells.length : Int) - 1))).bind fun y_19 => cond (!y_19) (some true) ((subL st_1.Vars 0 v_15).bind fun v_20 => (g_slices_Contains_int v_20 v_17).bind fun y_21 => some y_21) : Option (Bool)).bind fun v_18 => cond v_18 (some (.inr false)) (g_impl_StOk_l1 v_13 v_14 st_1 k (IntKind.wrap .i64 (v_15 + 1)))) (some (.inl ()))
def g_impl_StOk (st_1 : GSt) : Option Bool := (cond (decide ((st_1.Data.length : Int) > 16)) (some true) (cond (decide ((st_1.Ret.length : Int) > 24)) (some true) (cond ((st_1.Mem.length : Int) != 32) (some true) ((g_impl_StoreOk (⟨st_1.Cells⟩ : GStore)).bind fun y_4 => cond (!y_4) (some true) (some (decide ((st_1.Vars.length : Int) > 20)))))) : Option (Bool)).bind fun v_3 => cond v_3 (some false) (((g_impl_StOk_l0 st_1.Ret (st_1.Ret.length : Int) bigK 0).bind fun o => match o with | .inl () => some (.inl ()) | .inr v_9 => some (.inr v_9) : Option (Unit ⊕ Bool)).bind fun o => match o with | .inl () => (((g_impl_StOk_l1 st_1.Vars (st_1.Vars.length : Int) st_1 bigK 0).bind fun o => match o with | .inl () => some (.inl ()) | .inr v_16 => some (.inr v_16) : Option (Unit ⊕ Bool)).bind fun o => match o with | .inl () => cond (decide ((st_1.Out.length : Int) ≤ 400)) (cond (decide ((st_1.In.length : Int) ≤ 100)) ((g_impl_within st_1.Fault 0 13).bind fun y_22 => cond y_22 ((g_impl_within st_1.Fuel 0 4000).bind fun y_23 => some y_23) (some false)) (some false)) (some false) | .inr v_12 => some v_12) | .inr v_5 => some v_5)
def g_impl_ticks (code_1 : List GIns) (m_2 : GMach) : Option Bool := (g_impl_CodeOk code_1).bind fun y_4 => cond y_4 ((g_impl_within m_2.At 0 (IntKind.wrap .i64 ((code_1.length : Int) - 1))).bind fun y_5 => cond y_5 ((g_impl_StOk m_2.St).bind fun y_6 => some y_6) (some false)) (some false)
def g_slices_Clone_int32 (s_1 : List Int) : Option (List Int) := app ([] : List Int) s_1
def g_slices_Clone_Slot (s_1 : List GSlot) : Option (List GSlot) := app ([] : List GSlot) s_1
def g_slices_Clone_uint32 (s_1 : List Int) : Option (List Int) := app ([] : List Int) s_1
def g_slices_Clone_int (s_1 : List Int) : Option (List Int) := app ([] : List Int) s_1
def g_slices_Clone_byte (s_1 : List Int) : Option (List Int) := app ([] : List Int) s_1
def g_impl_ownSt (st_1 : GSt) : Option GSt := (g_slices_Clone_int32 st_1.Data).bind fun y_3 => (g_slices_Clone_Slot st_1.Ret).bind fun y_4 => (g_slices_Clone_int32 st_1.Mem).bind fun y_5 => (g_slices_Clone_uint32 st_1.Cells).bind fun y_6 => (g_slices_Clone_int st_1.Vars).bind fun y_7 => (g_slices_Clone_byte st_1.Out).bind fun y_8 => (g_slices_Clone_byte st_1.In).bind fun y_9 => some (⟨y_3, y_4, st_1.A, y_5, y_6, y_7, y_8, y_9, st_1.Fault, st_1.Fuel⟩ : GSt)
def g_impl_ownMach (m_1 : GMach) : Option GMach := (g_impl_ownSt m_1.St).bind fun y_3 => some (⟨y_3, m_1.At, m_1.Done⟩ : GMach)
def g_impl_Mach_over_rd (m_1 : GMach) : Option Bool := cond m_1.Done (some true) (some (m_1.St.Fault != 0))
def g_impl_St_pushes_inGMach_0 (n_1 : Int) (st_2 : GMach) : Option GMach := cond ((st_2.St.Data.length : Int) == 16) (some (⟨(⟨st_2.St.Data, st_2.St.Ret, st_2.St.A, st_2.St.Mem, st_2.St.Cells, st_2.St.Vars, st_2.St.Out, st_2.St.In, 2, st_2.St.Fuel⟩ : GSt), st_2.At, st_2.Done⟩ : GMach)) ((app st_2.St.Data [n_1]).bind fun v_4 => some (⟨(⟨v_4, st_2.St.Ret, st_2.St.A, st_2.St.Mem, st_2.St.Cells, st_2.St.Vars, st_2.St.Out, st_2.St.In, st_2.St.Fault, st_2.St.Fuel⟩ : GSt), st_2.At, st_2.Done⟩ : GMach))
def g_impl_doesc1 (fault_1 : Int) (a_2 : GSt) : Option GSt := (g_impl_ownSt a_2).bind fun y_4 => some (⟨y_4.Data, y_4.Ret, y_4.A, y_4.Mem, y_4.Cells, y_4.Vars, y_4.Out, y_4.In, fault_1, y_4.Fuel⟩ : GSt)
def g_impl_PrimEffect (k_1 : Int) : Option GEffect := ((g_impl_PrimName k_1).bind fun y_7 => cond (y_7 == [100, 117, 112]) (some (.inl ((⟨false, 0, 0, 0⟩ : GEffect), (⟨true, 1, 1, 1⟩ : GEffect)))) ((cond (y_7 == [100, 114, 111, 112]) (some (y_7 == [100, 114, 111, 112])) (cond (y_7 == [97, 33]) (some (y_7 == [97, 33])) (cond (y_7 == [101, 109, 105, 116]) (some (y_7 == [101, 109, 105, 116])) (cond (y_7 == [112, 117, 115, 104]) (some (y_7 == [112, 117, 115, 104])) (some (y_7 == [46]))))) : Option (Bool)).bind fun v_8 => cond v_8 (some (.inl ((⟨false, 0, 0, 0⟩ : GEffect), (⟨true, 1, 0, (-1)⟩ : GEffect)))) (cond (y_7 == [111, 118, 101, 114]) (some (.inl ((⟨false, 0, 0, 0⟩ : GEffect), (⟨true, 2, 1, 1⟩ : GEffect)))) ((cond (y_7 == [110, 105, 112]) (some (y_7 == [110, 105, 112])) (cond (y_7 == [43]) (some (y_7 == [43])) (cond (y_7 == [42]) (some (y_7 == [42])) (cond (y_7 == [97, 110, 100]) (some (y_7 == [97, 110, 100])) (some (y_7 == [111, 114]))))) : Option (Bool)).bind fun v_9 => cond v_9 (some (.inl ((⟨false, 0, 0, 0⟩ : GEffect), (⟨true, 2, 0, (-1)⟩ : GEffect)))) ((cond (y_7 == [115, 119, 97, 112]) (some (y_7 == [115, 119, 97, 112])) (some (y_7 == [47, 109, 111, 100])) : Option (Bool)).bind fun v_10 => cond v_10 (some (.inl ((⟨false, 0, 0, 0⟩ : GEffect), (⟨true, 2, 0, 0⟩ : GEffect)))) ((cond (y_7 == [45]) (some (y_7 == [45])) (cond (y_7 == [50, 42]) (some (y_7 == [50, 42])) (cond (y_7 == [50, 47]) (some (y_7 == [50, 47])) (some (y_7 == [64])))) : Option (Bool)).bind fun v_11 => cond v_11 (some (.inl ((⟨false, 0, 0, 0⟩ : GEffect), (⟨true, 1, 0, 0⟩ : GEffect)))) (cond (y_7 == [33]) (some (.inl ((⟨false, 0, 0, 0⟩ : GEffect), (⟨true, 2, 0, (-2)⟩ : GEffect)))) ((cond (y_7 == [97]) (some (y_7 == [97])) (cond (y_7 == [107, 101, 121]) (some (y_7 == [107, 101, 121])) (cond (y_7 == [112, 111, 112]) (some (y_7 == [112, 111, 112])) (some (y_7 == [105])))) : Option (Bool)).bind fun v_12 => cond v_12 (some (.inl ((⟨false, 0, 0, 0⟩ : GEffect), (⟨true, 0, 1, 1⟩ : GEffect)))) (cond (y_7 == [110, 111, 112]) (some (.inl ((⟨false, 0, 0, 0⟩ : GEffect), (⟨true, 0, 0, 0⟩ : GEffect)))) (some (.inr ((⟨false, 0, 0, 0⟩ : GEffect), (⟨true, 0, 0, 0⟩ : GEffect)))))))))))) : Option ((GEffect × GEffect) ⊕ (GEffect × GEffect))).bind fun o => match o with | .inl (x_3, x_4) => some x_4 | .inr (x_5, x_6) => some x_5
def g_impl_wants (k_1 : Int) : Option Int := (g_impl_PrimEffect k_1).bind fun y_3 => some y_3.Need
def g_impl_St_written (s_1 : Bs) (st_2 : GSt) : Option (Int × GSt) := cond (decide ((IntKind.wrap .i64 ((st_2.Out.length : Int) + (s_1.length : Int))) > 400)) (some (13, st_2)) ((app st_2.Out (bsOf s_1)).bind fun v_5 => some (0, (⟨st_2.Data, st_2.Ret, st_2.A, st_2.Mem, st_2.Cells, st_2.Vars, v_5, st_2.In, st_2.Fault, st_2.Fuel⟩ : GSt)))
def g_strconv_Itoa (i_1 : Int) : Option Bs := gItoa i_1
def g_impl_DecText (n_1 : Int) : Option Bs := (g_strconv_Itoa n_1).bind fun y_3 => some y_3
def g_impl_result (name_1 : Bs) (x_2 : Int) (y_3 : Int) : Option ((List Int) × Int) := cond (name_1 == [100, 117, 112]) (some ([y_3, y_3], 0)) (cond (name_1 == [100, 114, 111, 112]) (some ([], 0)) (cond (name_1 == [111, 118, 101, 114]) (some ([x_2, y_3, x_2], 0)) (cond (name_1 == [110, 105, 112]) (some ([y_3], 0)) (cond (name_1 == [115, 119, 97, 112]) (some ([y_3, x_2], 0)) (cond (name_1 == [43]) (some ([IntKind.wrap .i32 (x_2 + y_3)], 0)) (cond (name_1 == [45]) (some ([notI .i32 y_3], 0)) (cond (name_1 == [42]) (some ([IntKind.wrap .i32 (x_2 * y_3)], 0)) (cond (name_1 == [97, 110, 100]) (some ([andI .i32 x_2 y_3], 0)) (cond (name_1 == [111, 114]) (some ([xorI .i32 x_2 y_3], 0)) (cond (name_1 == [50, 42]) (some ([IntKind.wrap .i32 (2 * y_3)], 0)) (cond (name_1 == [50, 47]) (some ([y_3 / 2], 0)) (cond (name_1 == [47, 109, 111, 100]) (cond (y_3 == 0) (some ([], 5)) ((quoI .i64 (IntKind.wrap .i64 x_2) (IntKind.wrap .i64 y_3)).bind fun v_6 => (remI .i64 (IntKind.wrap .i64 x_2) (IntKind.wrap .i64 y_3)).bind fun v_7 => some ([IntKind.wrap .i32 v_7, IntKind.wrap .i32 v_6], 0))) (some ([], 0))))))))))))))
def g_impl_St_place_rd (address_1 : Int) (st_2 : GSt) : Option (Int × Bool × Bool) := (g_impl_within (IntKind.wrap .i64 address_1) 0 31).bind fun y_6 => cond y_6 (some (IntKind.wrap .i64 address_1, true, true)) ((g_impl_within (IntKind.wrap .i64 ((IntKind.wrap .i64 address_1) - 1024)) 0 (IntKind.wrap .i64 ((st_2.Cells.length : Int) - 1))).bind fun y_7 => cond y_7 (some (IntKind.wrap .i64 ((IntKind.wrap .i64 address_1) - 1024), false, true)) (some (0, false, false)))
def g_impl_St_effect (name_1 : Bs) (x_2 : Int) (y_3 : Int) (st_4 : GSt) : Option ((List Int) × Int × GSt) := (cond (name_1 == [64]) ((g_impl_St_place_rd y_3 st_4).bind fun y_12 => cond (!y_12.2.2) (some (.inr ([], 4, st_4))) (cond y_12.2.1 ((getI st_4.Mem y_12.1).bind fun v_13 => some (.inr ([v_13], 0, st_4))) ((getI st_4.Cells y_12.1).bind fun v_14 => some (.inr ([IntKind.wrap .i32 v_14], 0, st_4))))) (cond (name_1 == [33]) ((g_impl_St_place_rd y_3 st_4).bind fun y_15 => (cond (!y_15.2.2) (some true) (cond (!y_15.2.1) ((g_slices_Contains_int st_4.Vars y_15.1).bind fun y_17 => some (!y_17)) (some false)) : Option (Bool)).bind fun v_16 => cond v_16 (some (.inr ([], 4, st_4))) (cond y_15.2.1 ((getI st_4.Mem y_15.1).bind fun v_18 => some (.inl (⟨st_4.Data, st_4.Ret, st_4.A, st_4.Mem.set y_15.1.toNat x_2, st_4.Cells, st_4.Vars, st_4.Out, st_4.In, st_4.Fault, st_4.Fuel⟩ : GSt))) ((getI st_4.Cells y_15.1).bind fun v_19 => some (.inl (⟨st_4.Data, st_4.Ret, st_4.A, st_4.Mem, st_4.Cells.set y_15.1.toNat (IntKind.wrap .u32 x_2), st_4.Vars, st_4.Out, st_4.In, st_4.Fault, st_4.Fuel⟩ : GSt))))) (cond (name_1 == [97]) (some (.inr ([st_4.A], 0, st_4))) (cond (name_1 == [97, 33]) (some (.inl (⟨st_4.Data, st_4.Ret, y_3, st_4.Mem, st_4.Cells, st_4.Vars, st_4.Out, st_4.In, st_4.Fault, st_4.Fuel⟩ : GSt))) (cond (name_1 == [101, 109, 105, 116]) ((g_impl_St_written (strOf [IntKind.wrap .u8 y_3]) st_4).bind fun y_20 => some (.inr ([], y_20.1, y_20.2))) (cond (name_1 == [46]) ((g_impl_DecText (IntKind.wrap .i64 y_3)).bind fun y_21 => (catS y_21 [32]).bind fun v_22 => (g_impl_St_written v_22 st_4).bind fun y_23 => some (.inr ([], y_23.1, y_23.2))) (cond (name_1 == [107, 101, 121]) (cond ((st_4.In.length : Int) == 0) (some (.inr ([(-1)], 0, st_4))) ((getI st_4.In 0).bind fun v_24 => (subL st_4.In 1 ((st_4.In.length : Nat) : Int)).bind fun v_25 => some (.inr ([IntKind.wrap .i32 v_24], 0, (⟨st_4.Data, st_4.Ret, st_4.A, st_4.Mem, st_4.Cells, st_4.Vars, st_4.Out, v_25, st_4.Fault, st_4.Fuel⟩ : GSt))))) (cond (name_1 == [112, 117, 115, 104]) (cond ((st_4.Ret.length : Int) == 24) (some (.inr ([], 3, st_4))) ((app st_4.Ret [(⟨0, y_3⟩ : GSlot)]).bind fun v_26 => some (.inl (⟨st_4.Data, v_26, st_4.A, st_4.Mem, st_4.Cells, st_4.Vars, st_4.Out, st_4.In, st_4.Fault, st_4.Fuel⟩ : GSt)))) ((cond (name_1 == [112, 111, 112]) (some (name_1 == [112, 111, 112])) (some (name_1 == [105])) : Option (Bool)).bind fun v_27 => cond v_27 (cond (decide ((IntKind.wrap .i64 ((st_4.Ret.length : Int) - 1)) < 0)) (some (.inr ([], 3, st_4))) ((cond (name_1 == [112, 111, 112]) ((getI st_4.Ret (IntKind.wrap .i64 ((st_4.Ret.length : Int) - 1))).bind fun v_29 => cond (v_29.Kind != 0) (some true) ((getI st_4.Ret (IntKind.wrap .i64 ((st_4.Ret.length : Int) - 1))).bind fun v_30 => some (v_30.Kind == 2))) ((getI st_4.Ret (IntKind.wrap .i64 ((st_4.Ret.length : Int) - 1))).bind fun v_31 => some (v_31.Kind == 2)) : Option (Bool)).bind fun v_28 => cond v_28 (some (.inr ([], 11, st_4))) ((getI st_4.Ret (IntKind.wrap .i64 ((st_4.Ret.length : Int) - 1))).bind fun v_32 => (cond (name_1 == [112, 111, 112]) ((subL st_4.Ret 0 (IntKind.wrap .i64 ((st_4.Ret.length : Int) - 1))).bind fun v_41 => some (⟨st_4.Data, v_41, st_4.A, st_4.Mem, st_4.Cells, st_4.Vars, st_4.Out, st_4.In, st_4.Fault, st_4.Fuel⟩ : GSt)) (some st_4) : Option (GSt)).bind fun x_40 => some (.inr ([v_32.N], 0, x_40))))) ((g_impl_result name_1 x_2 y_3).bind fun y_42 => some (.inr (y_42.1, y_42.2, st_4))))))))))) : Option (GSt ⊕ ((List Int) × Int × GSt))).bind fun o => match o with | .inl x_8 => some ([], 0, x_8) | .inr (v_9, v_10, x_11) => some (v_9, v_10, x_11)
def g_impl_does (st_1 : GSt) (k_2 : Int) : Option GSt := (g_impl_PrimName k_2).bind fun y_4 => cond (y_4 == []) ((g_impl_doesc1 1 st_1).bind fun y_5 => some y_5) ((g_impl_wants k_2).bind fun y_6 => cond (decide ((st_1.Data.length : Int) < y_6)) ((g_impl_doesc1 2 st_1).bind fun y_7 => some y_7) ((g_impl_ownSt st_1).bind fun y_8 => (cond (decide ((st_1.Data.length : Int) > 1)) ((getI st_1.Data (IntKind.wrap .i64 ((st_1.Data.length : Int) - 2))).bind fun v_10 => some v_10) (some 0) : Option (Int)).bind fun x_9 => (cond (decide ((st_1.Data.length : Int) > 0)) ((getI st_1.Data (IntKind.wrap .i64 ((st_1.Data.length : Int) - 1))).bind fun v_12 => some v_12) (some 0) : Option (Int)).bind fun y_11 => (g_impl_St_effect y_4 x_9 y_11 y_8).bind fun y_13 => (g_impl_wants k_2).bind fun y_14 => (subL y_13.2.2.Data 0 (IntKind.wrap .i64 ((st_1.Data.length : Int) - y_14))).bind fun v_15 => (app v_15 y_13.1).bind fun v_16 => cond (y_13.2.1 != 0) ((g_impl_doesc1 y_13.2.1 st_1).bind fun y_17 => some y_17) (cond (decide ((v_16.length : Int) > 16)) ((g_impl_doesc1 2 st_1).bind fun y_18 => some y_18) (some (⟨v_16, y_13.2.2.Ret, y_13.2.2.A, y_13.2.2.Mem, y_13.2.2.Cells, y_13.2.2.Vars, y_13.2.2.Out, y_13.2.2.In, y_13.2.2.Fault, y_13.2.2.Fuel⟩ : GSt)))))
def g_impl_Mach_back (n_1 : Int) (m_2 : GMach) : Option (Bool × GMach) := cond ((m_2.St.Ret.length : Int) == 24) (some (false, (⟨(⟨m_2.St.Data, m_2.St.Ret, m_2.St.A, m_2.St.Mem, m_2.St.Cells, m_2.St.Vars, m_2.St.Out, m_2.St.In, 3, m_2.St.Fuel⟩ : GSt), m_2.At, m_2.Done⟩ : GMach))) ((app m_2.St.Ret [(⟨2, IntKind.wrap .i32 n_1⟩ : GSlot)]).bind fun v_5 => some (true, (⟨(⟨m_2.St.Data, v_5, m_2.St.A, m_2.St.Mem, m_2.St.Cells, m_2.St.Vars, m_2.St.Out, m_2.St.In, m_2.St.Fault, m_2.St.Fuel⟩ : GSt), m_2.At, m_2.Done⟩ : GMach)))
def g_impl_St_begin_inGMach_0 (st_1 : GMach) : Option GMach := cond (decide ((IntKind.wrap .i64 ((st_1.St.Data.length : Int) - 1)) < 0)) (some (⟨(⟨st_1.St.Data, st_1.St.Ret, st_1.St.A, st_1.St.Mem, st_1.St.Cells, st_1.St.Vars, st_1.St.Out, st_1.St.In, 2, st_1.St.Fuel⟩ : GSt), st_1.At, st_1.Done⟩ : GMach)) (cond ((st_1.St.Ret.length : Int) == 24) (some (⟨(⟨st_1.St.Data, st_1.St.Ret, st_1.St.A, st_1.St.Mem, st_1.St.Cells, st_1.St.Vars, st_1.St.Out, st_1.St.In, 3, st_1.St.Fuel⟩ : GSt), st_1.At, st_1.Done⟩ : GMach)) ((getI st_1.St.Data (IntKind.wrap .i64 ((st_1.St.Data.length : Int) - 1))).bind fun v_3 => (app st_1.St.Ret [(⟨1, v_3⟩ : GSlot)]).bind fun v_4 => (subL st_1.St.Data 0 (IntKind.wrap .i64 ((st_1.St.Data.length : Int) - 1))).bind fun v_5 => some (⟨(⟨v_5, v_4, st_1.St.A, st_1.St.Mem, st_1.St.Cells, st_1.St.Vars, st_1.St.Out, st_1.St.In, st_1.St.Fault, st_1.St.Fuel⟩ : GSt), st_1.At, st_1.Done⟩ : GMach)))
def g_impl_St_again_inGMach_0 (st_1 : GMach) : Option (Bool × GMach) := cond (decide ((IntKind.wrap .i64 ((st_1.St.Ret.length : Int) - 1)) < 0)) (some (false, (⟨(⟨st_1.St.Data, st_1.St.Ret, st_1.St.A, st_1.St.Mem, st_1.St.Cells, st_1.St.Vars, st_1.St.Out, st_1.St.In, 3, st_1.St.Fuel⟩ : GSt), st_1.At, st_1.Done⟩ : GMach))) ((getI st_1.St.Ret (IntKind.wrap .i64 ((st_1.St.Ret.length : Int) - 1))).bind fun v_4 => cond (v_4.Kind != 1) (some (false, (⟨(⟨st_1.St.Data, st_1.St.Ret, st_1.St.A, st_1.St.Mem, st_1.St.Cells, st_1.St.Vars, st_1.St.Out, st_1.St.In, 11, st_1.St.Fuel⟩ : GSt), st_1.At, st_1.Done⟩ : GMach))) ((getI st_1.St.Ret (IntKind.wrap .i64 ((st_1.St.Ret.length : Int) - 1))).bind fun v_5 => cond (decide ((IntKind.wrap .i32 (v_5.N - 1)) > 0)) ((getI st_1.St.Ret (IntKind.wrap .i64 ((st_1.St.Ret.length : Int) - 1))).bind fun v_6 => some (true, (⟨(⟨st_1.St.Data, st_1.St.Ret.set (IntKind.wrap .i64 ((st_1.St.Ret.length : Int) - 1)).toNat (⟨v_6.Kind, IntKind.wrap .i32 (v_5.N - 1)⟩ : GSlot), st_1.St.A, st_1.St.Mem, st_1.St.Cells, st_1.St.Vars, st_1.St.Out, st_1.St.In, st_1.St.Fault, st_1.St.Fuel⟩ : GSt), st_1.At, st_1.Done⟩ : GMach))) ((subL st_1.St.Ret 0 (IntKind.wrap .i64 ((st_1.St.Ret.length : Int) - 1))).bind fun v_7 => some (false, (⟨(⟨st_1.St.Data, v_7, st_1.St.A, st_1.St.Mem, st_1.St.Cells, st_1.St.Vars, st_1.St.Out, st_1.St.In, st_1.St.Fault, st_1.St.Fuel⟩ : GSt), st_1.At, st_1.Done⟩ : GMach)))))
def g_impl_Mach_leave_own (code_1 : List GIns) (m_2 : GMach) : Option (Int × GMach) := (cond (decide ((IntKind.wrap .i64 ((m_2.St.Ret.length : Int) - 1)) < 0)) (some true) ((getI m_2.St.Ret (IntKind.wrap .i64 ((m_2.St.Ret.length : Int) - 1))).bind fun v_6 => some (v_6.Kind != 2)) : Option (Bool)).bind fun v_5 => cond v_5 (some (m_2.At, (⟨(⟨m_2.St.Data, m_2.St.Ret, m_2.St.A, m_2.St.Mem, m_2.St.Cells, m_2.St.Vars, m_2.St.Out, m_2.St.In, 11, m_2.St.Fuel⟩ : GSt), m_2.At, m_2.Done⟩ : GMach))) ((getI m_2.St.Ret (IntKind.wrap .i64 ((m_2.St.Ret.length : Int) - 1))).bind fun v_7 => (cond ((IntKind.wrap .i64 v_7.N) != (-1)) ((g_impl_within (IntKind.wrap .i64 v_7.N) 0 (IntKind.wrap .i64 ((code_1.length : Int) - 1))).bind fun y_9 => some (!y_9)) (some false) : Option (Bool)).bind fun v_8 => cond v_8 (some (m_2.At, (⟨(⟨m_2.St.Data, m_2.St.Ret, m_2.St.A, m_2.St.Mem, m_2.St.Cells, m_2.St.Vars, m_2.St.Out, m_2.St.In, 11, m_2.St.Fuel⟩ : GSt), m_2.At, m_2.Done⟩ : GMach))) ((subL m_2.St.Ret 0 (IntKind.wrap .i64 ((m_2.St.Ret.length : Int) - 1))).bind fun v_10 => cond ((IntKind.wrap .i64 v_7.N) == (-1)) (some (m_2.At, (⟨(⟨m_2.St.Data, v_10, m_2.St.A, m_2.St.Mem, m_2.St.Cells, m_2.St.Vars, m_2.St.Out, m_2.St.In, m_2.St.Fault, m_2.St.Fuel⟩ : GSt), m_2.At, true⟩ : GMach))) (some (IntKind.wrap .i64 v_7.N, (⟨(⟨m_2.St.Data, v_10, m_2.St.A, m_2.St.Mem, m_2.St.Cells, m_2.St.Vars, m_2.St.Out, m_2.St.In, m_2.St.Fault, m_2.St.Fuel⟩ : GSt), m_2.At, m_2.Done⟩ : GMach)))))
def g_impl_Mach_step (code_1 : List GIns) (m_2 : GMach) : Option GMach := (getI code_1 m_2.At).bind fun v_4 => cond (v_4.Op == 9) (some (⟨(⟨m_2.St.Data, m_2.St.Ret, m_2.St.A, m_2.St.Mem, m_2.St.Cells, m_2.St.Vars, m_2.St.Out, m_2.St.In, 10, m_2.St.Fuel⟩ : GSt), m_2.At, m_2.Done⟩ : GMach)) (cond (m_2.St.Fuel == 0) (some (⟨(⟨m_2.St.Data, m_2.St.Ret, m_2.St.A, m_2.St.Mem, m_2.St.Cells, m_2.St.Vars, m_2.St.Out, m_2.St.In, 6, m_2.St.Fuel⟩ : GSt), m_2.At, m_2.Done⟩ : GMach)) ((cond (v_4.Op == 0) ((g_impl_St_pushes_inGMach_0 (IntKind.wrap .i32 v_4.N) (⟨(⟨m_2.St.Data, m_2.St.Ret, m_2.St.A, m_2.St.Mem, m_2.St.Cells, m_2.St.Vars, m_2.St.Out, m_2.St.In, m_2.St.Fault, IntKind.wrap .i64 (m_2.St.Fuel - 1)⟩ : GSt), m_2.At, m_2.Done⟩ : GMach)).bind fun y_7 => some (IntKind.wrap .i64 (m_2.At + 1), y_7)) (cond (v_4.Op == 1) ((g_impl_does (⟨m_2.St.Data, m_2.St.Ret, m_2.St.A, m_2.St.Mem, m_2.St.Cells, m_2.St.Vars, m_2.St.Out, m_2.St.In, m_2.St.Fault, IntKind.wrap .i64 (m_2.St.Fuel - 1)⟩ : GSt) v_4.N).bind fun y_8 => some (IntKind.wrap .i64 (m_2.At + 1), (⟨y_8, m_2.At, m_2.Done⟩ : GMach))) (cond (v_4.Op == 2) ((g_impl_Mach_back (IntKind.wrap .i64 (m_2.At + 1)) (⟨(⟨m_2.St.Data, m_2.St.Ret, m_2.St.A, m_2.St.Mem, m_2.St.Cells, m_2.St.Vars, m_2.St.Out, m_2.St.In, m_2.St.Fault, IntKind.wrap .i64 (m_2.St.Fuel - 1)⟩ : GSt), m_2.At, m_2.Done⟩ : GMach)).bind fun y_9 => cond y_9.1 (some (v_4.N, y_9.2)) (some (IntKind.wrap .i64 (m_2.At + 1), y_9.2))) (cond (v_4.Op == 3) (some (v_4.N, (⟨(⟨m_2.St.Data, m_2.St.Ret, m_2.St.A, m_2.St.Mem, m_2.St.Cells, m_2.St.Vars, m_2.St.Out, m_2.St.In, m_2.St.Fault, IntKind.wrap .i64 (m_2.St.Fuel - 1)⟩ : GSt), m_2.At, m_2.Done⟩ : GMach))) ((cond (v_4.Op == 4) (some (v_4.Op == 4)) (some (v_4.Op == 5)) : Option (Bool)).bind fun v_10 => cond v_10 (cond (decide ((IntKind.wrap .i64 ((m_2.St.Data.length : Int) - 1)) < 0)) (some (IntKind.wrap .i64 (m_2.At + 1), (⟨(⟨m_2.St.Data, m_2.St.Ret, m_2.St.A, m_2.St.Mem, m_2.St.Cells, m_2.St.Vars, m_2.St.Out, m_2.St.In, 2, IntKind.wrap .i64 (m_2.St.Fuel - 1)⟩ : GSt), m_2.At, m_2.Done⟩ : GMach))) ((cond (v_4.Op == 4) ((getI m_2.St.Data (IntKind.wrap .i64 ((m_2.St.Data.length : Int) - 1))).bind fun v_12 => cond (v_12 == 0) (some true) (cond (v_4.Op == 5) ((getI m_2.St.Data (IntKind.wrap .i64 ((m_2.St.Data.length : Int) - 1))).bind fun v_13 => some (decide (v_13 ≥ 0))) (some false))) (cond (v_4.Op == 5) ((getI m_2.St.Data (IntKind.wrap .i64 ((m_2.St.Data.length : Int) - 1))).bind fun v_14 => some (decide (v_14 ≥ 0))) (some false)) : Option (Bool)).bind fun v_11 => cond v_11 (some (v_4.N, (⟨(⟨m_2.St.Data, m_2.St.Ret, m_2.St.A, m_2.St.Mem, m_2.St.Cells, m_2.St.Vars, m_2.St.Out, m_2.St.In, m_2.St.Fault, IntKind.wrap .i64 (m_2.St.Fuel - 1)⟩ : GSt), m_2.At, m_2.Done⟩ : GMach))) (some (IntKind.wrap .i64 (m_2.At + 1), (⟨(⟨m_2.St.Data, m_2.St.Ret, m_2.St.A, m_2.St.Mem, m_2.St.Cells, m_2.St.Vars, m_2.St.Out, m_2.St.In, m_2.St.Fault, IntKind.wrap .i64 (m_2.St.Fuel - 1)⟩ : GSt), m_2.At, m_2.Done⟩ : GMach))))) (cond (v_4.Op == 6) ((g_impl_St_begin_inGMach_0 (⟨(⟨m_2.St.Data, m_2.St.Ret, m_2.St.A, m_2.St.Mem, m_2.St.Cells, m_2.St.Vars, m_2.St.Out, m_2.St.In, m_2.St.Fault, IntKind.wrap .i64 (m_2.St.Fuel - 1)⟩ : GSt), m_2.At, m_2.Done⟩ : GMach)).bind fun y_15 => some (IntKind.wrap .i64 (m_2.At + 1), y_15)) (cond (v_4.Op == 7) ((g_impl_St_again_inGMach_0 (⟨(⟨m_2.St.Data, m_2.St.Ret, m_2.St.A, m_2.St.Mem, m_2.St.Cells, m_2.St.Vars, m_2.St.Out, m_2.St.In, m_2.St.Fault, IntKind.wrap .i64 (m_2.St.Fuel - 1)⟩ : GSt), m_2.At, m_2.Done⟩ : GMach)).bind fun y_16 => cond y_16.1 (some (v_4.N, y_16.2)) (some (IntKind.wrap .i64 (m_2.At + 1), y_16.2))) (cond (v_4.Op == 8) ((g_impl_Mach_leave_own code_1 (⟨(⟨m_2.St.Data, m_2.St.Ret, m_2.St.A, m_2.St.Mem, m_2.St.Cells, m_2.St.Vars, m_2.St.Out, m_2.St.In, m_2.St.Fault, IntKind.wrap .i64 (m_2.St.Fuel - 1)⟩ : GSt), m_2.At, m_2.Done⟩ : GMach)).bind fun y_17 => some (y_17.1, y_17.2)) (some (IntKind.wrap .i64 (m_2.At + 1), (⟨(⟨m_2.St.Data, m_2.St.Ret, m_2.St.A, m_2.St.Mem, m_2.St.Cells, m_2.St.Vars, m_2.St.Out, m_2.St.In, m_2.St.Fault, IntKind.wrap .i64 (m_2.St.Fuel - 1)⟩ : GSt), m_2.At, m_2.Done⟩ : GMach)))))))))) : Option ((Int × GMach))).bind fun (next_5, x_6) => cond (x_6.St.Fault == 0) (some (⟨x_6.St, next_5, x_6.Done⟩ : GMach)) (some x_6)))
def g_impl_RunTo_l0 (code_1 : List GIns) (stops_3 : List Int) (n_4 : Int) : Nat → Int → GMach → Option (Int × GMach)
  | 0, _, _ => none
  | k + 1, many_13, x_14 => ((g_impl_Mach_over_rd x_14).bind fun y_18 => cond (!y_18) (some (decide (many_13 < n_4))) (some false) : Option (Bool)).bind fun v_17 => cond v_17 ((g_impl_Mach_step code_1 x_14).bind fun y_19 => (g_slices_Contains_int stops_3 y_19.At).bind fun y_20 => cond y_20 (some (IntKind.wrap .i64 (many_13 + 1), y_19)) (g_impl_RunTo_l0 code_1 stops_3 n_4 k (IntKind.wrap .i64 (many_13 + 1)) y_19)) (some (many_13, x_14))
def g_impl_RunTo (code_1 : List GIns) (m_2 : GMach) (stops_3 : List Int) (n_4 : Int) : Option (GMach × Int) := ((g_impl_ticks code_1 m_2).bind fun y_8 => cond (!y_8) (some true) ((g_impl_within n_4 1 4000).bind fun y_9 => some (!y_9)) : Option (Bool)).bind fun v_7 => cond v_7 (some ((⟨(⟨[], [], 0, [], [], [], [], [], 0, 0⟩ : GSt), 0, false⟩ : GMach), 0)) ((g_impl_ownMach m_2).bind fun y_10 => (g_impl_RunTo_l0 code_1 stops_3 n_4 bigK 0 y_10).bind fun (many_15, x_16) => (g_impl_ownMach x_16).bind fun y_21 => some (y_21, many_15))
def g_laws_eqInt32S_l0 (a_1 : List Int) (b_2 : List Int) : Nat → Int → Option (Unit ⊕ Bool)
  | 0, _ => none
  | k + 1, i_5 => cond (decide (i_5 < (a_1.length : Int))) ((getI a_1 i_5).bind fun v_7 => (getI b_2 i_5).bind fun v_8 => cond (v_7 != v_8) (some (.inr false)) (g_laws_eqInt32S_l0 a_1 b_2 k (IntKind.wrap .i64 (i_5 + 1)))) (some (.inl ()))
def g_laws_eqInt32S (a_1 : List Int) (b_2 : List Int) : Option Bool := cond ((a_1.length : Int) != (b_2.length : Int)) (some false) (((g_laws_eqInt32S_l0 a_1 b_2 bigK 0).bind fun o => match o with | .inl () => some (.inl ()) | .inr v_6 => some (.inr v_6) : Option (Unit ⊕ Bool)).bind fun o => match o with | .inl () => some true | .inr v_4 => some v_4)
def g_laws_eqSlot (a_1 : GSlot) (b_2 : GSlot) : Option Bool := cond (a_1.Kind != b_2.Kind) (some false) (cond (a_1.N != b_2.N) (some false) (some true))
def g_laws_eqSlotS_l0 (a_1 : List GSlot) (b_2 : List GSlot) : Nat → Int → Option (Unit ⊕ Bool)
  | 0, _ => none
  | k + 1, i_5 => cond (decide (i_5 < (a_1.length : Int))) ((getI a_1 i_5).bind fun v_7 => (getI b_2 i_5).bind fun v_8 => (g_laws_eqSlot v_7 v_8).bind fun y_9 => cond (!y_9) (some (.inr false)) (g_laws_eqSlotS_l0 a_1 b_2 k (IntKind.wrap .i64 (i_5 + 1)))) (some (.inl ()))
def g_laws_eqSlotS (a_1 : List GSlot) (b_2 : List GSlot) : Option Bool := cond ((a_1.length : Int) != (b_2.length : Int)) (some false) (((g_laws_eqSlotS_l0 a_1 b_2 bigK 0).bind fun o => match o with | .inl () => some (.inl ()) | .inr v_6 => some (.inr v_6) : Option (Unit ⊕ Bool)).bind fun o => match o with | .inl () => some true | .inr v_4 => some v_4)
def g_laws_eqUint32S_l0 (a_1 : List Int) (b_2 : List Int) : Nat → Int → Option (Unit ⊕ Bool)
  | 0, _ => none
  | k + 1, i_5 => cond (decide (i_5 < (a_1.length : Int))) ((getI a_1 i_5).bind fun v_7 => (getI b_2 i_5).bind fun v_8 => cond (v_7 != v_8) (some (.inr false)) (g_laws_eqUint32S_l0 a_1 b_2 k (IntKind.wrap .i64 (i_5 + 1)))) (some (.inl ()))
def g_laws_eqUint32S (a_1 : List Int) (b_2 : List Int) : Option Bool := cond ((a_1.length : Int) != (b_2.length : Int)) (some false) (((g_laws_eqUint32S_l0 a_1 b_2 bigK 0).bind fun o => match o with | .inl () => some (.inl ()) | .inr v_6 => some (.inr v_6) : Option (Unit ⊕ Bool)).bind fun o => match o with | .inl () => some true | .inr v_4 => some v_4)
def g_laws_eqIntS_l0 (a_1 : List Int) (b_2 : List Int) : Nat → Int → Option (Unit ⊕ Bool)
  | 0, _ => none
  | k + 1, i_5 => cond (decide (i_5 < (a_1.length : Int))) ((getI a_1 i_5).bind fun v_7 => (getI b_2 i_5).bind fun v_8 => cond (v_7 != v_8) (some (.inr false)) (g_laws_eqIntS_l0 a_1 b_2 k (IntKind.wrap .i64 (i_5 + 1)))) (some (.inl ()))
def g_laws_eqIntS (a_1 : List Int) (b_2 : List Int) : Option Bool := cond ((a_1.length : Int) != (b_2.length : Int)) (some false) (((g_laws_eqIntS_l0 a_1 b_2 bigK 0).bind fun o => match o with | .inl () => some (.inl ()) | .inr v_6 => some (.inr v_6) : Option (Unit ⊕ Bool)).bind fun o => match o with | .inl () => some true | .inr v_4 => some v_4)
def g_laws_eqByteS_l0 (a_1 : List Int) (b_2 : List Int) : Nat → Int → Option (Unit ⊕ Bool)
  | 0, _ => none
  | k + 1, i_5 => cond (decide (i_5 < (a_1.length : Int))) ((getI a_1 i_5).bind fun v_7 => (getI b_2 i_5).bind fun v_8 => cond (v_7 != v_8) (some (.inr false)) (g_laws_eqByteS_l0 a_1 b_2 k (IntKind.wrap .i64 (i_5 + 1)))) (some (.inl ()))
def g_laws_eqByteS (a_1 : List Int) (b_2 : List Int) : Option Bool := cond ((a_1.length : Int) != (b_2.length : Int)) (some false) (((g_laws_eqByteS_l0 a_1 b_2 bigK 0).bind fun o => match o with | .inl () => some (.inl ()) | .inr v_6 => some (.inr v_6) : Option (Unit ⊕ Bool)).bind fun o => match o with | .inl () => some true | .inr v_4 => some v_4)
def g_laws_eqSt (a_1 : GSt) (b_2 : GSt) : Option Bool := (g_laws_eqInt32S a_1.Data b_2.Data).bind fun y_4 => cond (!y_4) (some false) ((g_laws_eqSlotS a_1.Ret b_2.Ret).bind fun y_5 => cond (!y_5) (some false) (cond (a_1.A != b_2.A) (some false) ((g_laws_eqInt32S a_1.Mem b_2.Mem).bind fun y_6 => cond (!y_6) (some false) ((g_laws_eqUint32S a_1.Cells b_2.Cells).bind fun y_7 => cond (!y_7) (some false) ((g_laws_eqIntS a_1.Vars b_2.Vars).bind fun y_8 => cond (!y_8) (some false) ((g_laws_eqByteS a_1.Out b_2.Out).bind fun y_9 => cond (!y_9) (some false) ((g_laws_eqByteS a_1.In b_2.In).bind fun y_10 => cond (!y_10) (some false) (cond (a_1.Fault != b_2.Fault) (some false) (cond (a_1.Fuel != b_2.Fuel) (some false) (some true))))))))))
def g_laws_eqMach (a_1 : GMach) (b_2 : GMach) : Option Bool := (g_laws_eqSt a_1.St b_2.St).bind fun y_4 => cond (!y_4) (some false) (cond (a_1.At != b_2.At) (some false) (cond (a_1.Done != b_2.Done) (some false) (some true)))
def g_laws_eqIns (a_1 : GIns) (b_2 : GIns) : Option Bool := cond (a_1.Op != b_2.Op) (some false) (cond (a_1.N != b_2.N) (some false) (some true))
def g_laws_eqInsS_l0 (a_1 : List GIns) (b_2 : List GIns) : Nat → Int → Option (Unit ⊕ Bool)
  | 0, _ => none
  | k + 1, i_5 => cond (decide (i_5 < (a_1.length : Int))) ((getI a_1 i_5).bind fun v_7 => (getI b_2 i_5).bind fun v_8 => (g_laws_eqIns v_7 v_8).bind fun y_9 => cond (!y_9) (some (.inr false)) (g_laws_eqInsS_l0 a_1 b_2 k (IntKind.wrap .i64 (i_5 + 1)))) (some (.inl ()))
def g_laws_eqInsS (a_1 : List GIns) (b_2 : List GIns) : Option Bool := cond ((a_1.length : Int) != (b_2.length : Int)) (some false) (((g_laws_eqInsS_l0 a_1 b_2 bigK 0).bind fun o => match o with | .inl () => some (.inl ()) | .inr v_6 => some (.inr v_6) : Option (Unit ⊕ Bool)).bind fun o => match o with | .inl () => some true | .inr v_4 => some v_4)
def g_laws_markInsS_l0 : Nat → (List GIns) → Int → Int → Option (Int × (List GIns))
  | 0, _, _, _ => none
  | k + 1, a_8, k_9, i_10 => cond (decide (i_10 < (a_8.length : Int))) ((getI a_8 i_10).bind fun v_13 => (getI (a_8.set i_10.toNat (⟨k_9, v_13.N⟩ : GIns)) i_10).bind fun v_14 => g_laws_markInsS_l0 k ((a_8.set i_10.toNat (⟨k_9, v_13.N⟩ : GIns)).set i_10.toNat (⟨v_14.Op, IntKind.wrap .i64 (k_9 + 1)⟩ : GIns)) (IntKind.wrap .i64 ((IntKind.wrap .i64 (k_9 + 1)) + 1)) (IntKind.wrap .i64 (i_10 + 1))) (some (k_9, a_8))
def g_laws_markInsS (a_1 : List GIns) (k_2 : Int) : Option (Int × (List GIns)) := ((g_laws_markInsS_l0 bigK a_1 k_2 0).bind fun (k_11, p_12) => some (k_11, p_12) : Option ((Int × (List GIns)))).bind fun (k_5, p_6) => some (k_5, p_6)
def g_laws_markInt32S_l0 : Nat → (List Int) → Int → Int → Option (Int × (List Int))
  | 0, _, _, _ => none
  | k + 1, a_8, k_9, i_10 => cond (decide (i_10 < (a_8.length : Int))) ((getI a_8 i_10).bind fun v_13 => g_laws_markInt32S_l0 k (a_8.set i_10.toNat (IntKind.wrap .i32 k_9)) (IntKind.wrap .i64 (k_9 + 1)) (IntKind.wrap .i64 (i_10 + 1))) (some (k_9, a_8))
def g_laws_markInt32S (a_1 : List Int) (k_2 : Int) : Option (Int × (List Int)) := ((g_laws_markInt32S_l0 bigK a_1 k_2 0).bind fun (k_11, p_12) => some (k_11, p_12) : Option ((Int × (List Int)))).bind fun (k_5, p_6) => some (k_5, p_6)
def g_laws_markSlotS_l0 : Nat → (List GSlot) → Int → Int → Option (Int × (List GSlot))
  | 0, _, _, _ => none
  | k + 1, a_8, k_9, i_10 => cond (decide (i_10 < (a_8.length : Int))) ((getI a_8 i_10).bind fun v_13 => (getI (a_8.set i_10.toNat (⟨k_9, v_13.N⟩ : GSlot)) i_10).bind fun v_14 => g_laws_markSlotS_l0 k ((a_8.set i_10.toNat (⟨k_9, v_13.N⟩ : GSlot)).set i_10.toNat (⟨v_14.Kind, IntKind.wrap .i32 (IntKind.wrap .i64 (k_9 + 1))⟩ : GSlot)) (IntKind.wrap .i64 ((IntKind.wrap .i64 (k_9 + 1)) + 1)) (IntKind.wrap .i64 (i_10 + 1))) (some (k_9, a_8))
def g_laws_markSlotS (a_1 : List GSlot) (k_2 : Int) : Option (Int × (List GSlot)) := ((g_laws_markSlotS_l0 bigK a_1 k_2 0).bind fun (k_11, p_12) => some (k_11, p_12) : Option ((Int × (List GSlot)))).bind fun (k_5, p_6) => some (k_5, p_6)
def g_laws_markUint32S_l0 : Nat → (List Int) → Int → Int → Option (Int × (List Int))
  | 0, _, _, _ => none
  | k + 1, a_8, k_9, i_10 => cond (decide (i_10 < (a_8.length : Int))) ((getI a_8 i_10).bind fun v_13 => g_laws_markUint32S_l0 k (a_8.set i_10.toNat (IntKind.wrap .u32 k_9)) (IntKind.wrap .i64 (k_9 + 1)) (IntKind.wrap .i64 (i_10 + 1))) (some (k_9, a_8))
def g_laws_markUint32S (a_1 : List Int) (k_2 : Int) : Option (Int × (List Int)) := ((g_laws_markUint32S_l0 bigK a_1 k_2 0).bind fun (k_11, p_12) => some (k_11, p_12) : Option ((Int × (List Int)))).bind fun (k_5, p_6) => some (k_5, p_6)
def g_laws_markIntS_l0 : Nat → (List Int) → Int → Int → Option (Int × (List Int))
  | 0, _, _, _ => none
  | k + 1, a_8, k_9, i_10 => cond (decide (i_10 < (a_8.length : Int))) ((getI a_8 i_10).bind fun v_13 => g_laws_markIntS_l0 k (a_8.set i_10.toNat k_9) (IntKind.wrap .i64 (k_9 + 1)) (IntKind.wrap .i64 (i_10 + 1))) (some (k_9, a_8))
def g_laws_markIntS (a_1 : List Int) (k_2 : Int) : Option (Int × (List Int)) := ((g_laws_markIntS_l0 bigK a_1 k_2 0).bind fun (k_11, p_12) => some (k_11, p_12) : Option ((Int × (List Int)))).bind fun (k_5, p_6) => some (k_5, p_6)
def g_laws_markByteS_l0 : Nat → (List Int) → Int → Int → Option (Int × (List Int))
  | 0, _, _, _ => none
  | k + 1, a_8, k_9, i_10 => cond (decide (i_10 < (a_8.length : Int))) ((getI a_8 i_10).bind fun v_13 => g_laws_markByteS_l0 k (a_8.set i_10.toNat (IntKind.wrap .u8 k_9)) (IntKind.wrap .i64 (k_9 + 1)) (IntKind.wrap .i64 (i_10 + 1))) (some (k_9, a_8))
def g_laws_markByteS (a_1 : List Int) (k_2 : Int) : Option (Int × (List Int)) := ((g_laws_markByteS_l0 bigK a_1 k_2 0).bind fun (k_11, p_12) => some (k_11, p_12) : Option ((Int × (List Int)))).bind fun (k_5, p_6) => some (k_5, p_6)
def g_laws_markSt (a_1 : GSt) (k_2 : Int) : Option (Int × (List Int) × (List GSlot) × (List Int) × (List Int) × (List Int) × (List Int) × (List Int)) := (g_laws_markInt32S a_1.Data k_2).bind fun y_11 => (g_laws_markSlotS a_1.Ret y_11.1).bind fun y_12 => (g_laws_markInt32S a_1.Mem y_12.1).bind fun y_13 => (g_laws_markUint32S a_1.Cells y_13.1).bind fun y_14 => (g_laws_markIntS a_1.Vars y_14.1).bind fun y_15 => (g_laws_markByteS a_1.Out y_15.1).bind fun y_16 => (g_laws_markByteS a_1.In y_16.1).bind fun y_17 => some (y_17.1, y_11.2, y_12.2, y_13.2, y_14.2, y_15.2, y_16.2, y_17.2)
def g_laws_markMach (a_1 : GMach) (k_2 : Int) : Option (Int × (List Int) × (List GSlot) × (List Int) × (List Int) × (List Int) × (List Int) × (List Int)) := (g_laws_markSt a_1.St k_2).bind fun y_11 => some (y_11.1, y_11.2.1, y_11.2.2.1, y_11.2.2.2.1, y_11.2.2.2.2.1, y_11.2.2.2.2.2.1, y_11.2.2.2.2.2.2.1, y_11.2.2.2.2.2.2.2)
def g_laws_heldInt32S_l0 (a_1 : List Int) : Nat → Int → Int → Option (Int ⊕ Int)
  | 0, _, _ => none
  | k + 1, k_6, i_7 => cond (decide (i_7 < (a_1.length : Int))) ((getI a_1 i_7).bind fun v_10 => cond (v_10 != (IntKind.wrap .i32 k_6)) (some (.inr (-1))) (g_laws_heldInt32S_l0 a_1 k (IntKind.wrap .i64 (k_6 + 1)) (IntKind.wrap .i64 (i_7 + 1)))) (some (.inl k_6))
def g_laws_heldInt32S (a_1 : List Int) (k_2 : Int) : Option Int := ((g_laws_heldInt32S_l0 a_1 bigK k_2 0).bind fun o => match o with | .inl k_8 => some (.inl k_8) | .inr v_9 => some (.inr v_9) : Option (Int ⊕ Int)).bind fun o => match o with | .inl k_4 => some k_4 | .inr v_5 => some v_5
def g_laws_heldSlotS_l0 (a_1 : List GSlot) : Nat → Int → Int → Option (Int ⊕ Int)
  | 0, _, _ => none
  | k + 1, k_6, i_7 => cond (decide (i_7 < (a_1.length : Int))) ((getI a_1 i_7).bind fun v_10 => cond (v_10.Kind != k_6) (some (.inr (-1))) ((getI a_1 i_7).bind fun v_11 => cond (v_11.N != (IntKind.wrap .i32 (IntKind.wrap .i64 (k_6 + 1)))) (some (.inr (-1))) (g_laws_heldSlotS_l0 a_1 k (IntKind.wrap .i64 ((IntKind.wrap .i64 (k_6 + 1)) + 1)) (IntKind.wrap .i64 (i_7 + 1))))) (some (.inl k_6))
def g_laws_heldSlotS (a_1 : List GSlot) (k_2 : Int) : Option Int := ((g_laws_heldSlotS_l0 a_1 bigK k_2 0).bind fun o => match o with | .inl k_8 => some (.inl k_8) | .inr v_9 => some (.inr v_9) : Option (Int ⊕ Int)).bind fun o => match o with | .inl k_4 => some k_4 | .inr v_5 => some v_5
def g_laws_heldUint32S_l0 (a_1 : List Int) : Nat → Int → Int → Option (Int ⊕ Int)
  | 0, _, _ => none
  | k + 1, k_6, i_7 => cond (decide (i_7 < (a_1.length : Int))) ((getI a_1 i_7).bind fun v_10 => cond (v_10 != (IntKind.wrap .u32 k_6)) (some (.inr (-1))) (g_laws_heldUint32S_l0 a_1 k (IntKind.wrap .i64 (k_6 + 1)) (IntKind.wrap .i64 (i_7 + 1)))) (some (.inl k_6))
def g_laws_heldUint32S (a_1 : List Int) (k_2 : Int) : Option Int := ((g_laws_heldUint32S_l0 a_1 bigK k_2 0).bind fun o => match o with | .inl k_8 => some (.inl k_8) | .inr v_9 => some (.inr v_9) : Option (Int ⊕ Int)).bind fun o => match o with | .inl k_4 => some k_4 | .inr v_5 => some v_5
def g_laws_heldIntS_l0 (a_1 : List Int) : Nat → Int → Int → Option (Int ⊕ Int)
  | 0, _, _ => none
  | k + 1, k_6, i_7 => cond (decide (i_7 < (a_1.length : Int))) ((getI a_1 i_7).bind fun v_10 => cond (v_10 != k_6) (some (.inr (-1))) (g_laws_heldIntS_l0 a_1 k (IntKind.wrap .i64 (k_6 + 1)) (IntKind.wrap .i64 (i_7 + 1)))) (some (.inl k_6))
def g_laws_heldIntS (a_1 : List Int) (k_2 : Int) : Option Int := ((g_laws_heldIntS_l0 a_1 bigK k_2 0).bind fun o => match o with | .inl k_8 => some (.inl k_8) | .inr v_9 => some (.inr v_9) : Option (Int ⊕ Int)).bind fun o => match o with | .inl k_4 => some k_4 | .inr v_5 => some v_5
def g_laws_heldByteS_l0 (a_1 : List Int) : Nat → Int → Int → Option (Int ⊕ Int)
  | 0, _, _ => none
  | k + 1, k_6, i_7 => cond (decide (i_7 < (a_1.length : Int))) ((getI a_1 i_7).bind fun v_10 => cond (v_10 != (IntKind.wrap .u8 k_6)) (some (.inr (-1))) (g_laws_heldByteS_l0 a_1 k (IntKind.wrap .i64 (k_6 + 1)) (IntKind.wrap .i64 (i_7 + 1)))) (some (.inl k_6))
def g_laws_heldByteS (a_1 : List Int) (k_2 : Int) : Option Int := ((g_laws_heldByteS_l0 a_1 bigK k_2 0).bind fun o => match o with | .inl k_8 => some (.inl k_8) | .inr v_9 => some (.inr v_9) : Option (Int ⊕ Int)).bind fun o => match o with | .inl k_4 => some k_4 | .inr v_5 => some v_5
def g_laws_heldSt (a_1 : GSt) (k_2 : Int) : Option Int := (g_laws_heldInt32S a_1.Data k_2).bind fun y_4 => cond (decide (y_4 < 0)) (some (-1)) ((g_laws_heldSlotS a_1.Ret y_4).bind fun y_5 => cond (decide (y_5 < 0)) (some (-1)) ((g_laws_heldInt32S a_1.Mem y_5).bind fun y_6 => cond (decide (y_6 < 0)) (some (-1)) ((g_laws_heldUint32S a_1.Cells y_6).bind fun y_7 => cond (decide (y_7 < 0)) (some (-1)) ((g_laws_heldIntS a_1.Vars y_7).bind fun y_8 => cond (decide (y_8 < 0)) (some (-1)) ((g_laws_heldByteS a_1.Out y_8).bind fun y_9 => cond (decide (y_9 < 0)) (some (-1)) ((g_laws_heldByteS a_1.In y_9).bind fun y_10 => cond (decide (y_10 < 0)) (some (-1)) (some y_10)))))))
def g_laws_heldMach (a_1 : GMach) (k_2 : Int) : Option Int := (g_laws_heldSt a_1.St k_2).bind fun y_4 => cond (decide (y_4 < 0)) (some (-1)) (some y_4)
def g_laws_FnExactRunTo (aCode_1 : List GIns) (aM_2 : GMach) (aStops_3 : List Int) (aN_4 : Int) : Option Bool := cond (decide ((aStops_3.length : Int) > 1048576)) (some true) ((g_laws_szInsS aCode_1 1048576).bind fun y_6 => cond (decide (y_6 < 0)) (some true) ((g_laws_szMach aM_2 y_6).bind fun y_7 => cond (decide (y_7 < 0)) (some true) ((g_laws_toInsS aCode_1).bind fun y_8 => (g_laws_toMach aM_2).bind fun y_9 => (g_laws_toIntS aStops_3).bind fun y_10 => (g_spec_RunTo y_8 y_9 y_10 aN_4).bind fun y_11 => (g_laws_toInsS aCode_1).bind fun y_12 => (g_laws_toMach aM_2).bind fun y_13 => (g_laws_toIntS aStops_3).bind fun y_14 => (g_impl_RunTo y_12 y_13 y_14 aN_4).bind fun y_15 => ((g_laws_eqMach y_15.1 y_11.1).bind fun y_17 => cond (!y_17) (some true) (some (y_15.2 != y_11.2)) : Option (Bool)).bind fun v_16 => cond v_16 (some false) ((g_laws_toInsS aCode_1).bind fun y_18 => (g_laws_eqInsS y_12 y_18).bind fun y_19 => cond (!y_19) (some false) ((g_laws_toMach aM_2).bind fun y_20 => (g_laws_eqMach y_13 y_20).bind fun y_21 => cond (!y_21) (some false) ((g_laws_toIntS aStops_3).bind fun y_22 => (g_laws_eqIntS y_14 y_22).bind fun y_23 => cond (!y_23) (some false) ((g_laws_markInsS y_12 1).bind fun y_24 => (g_laws_markMach y_13 y_24.1).bind fun y_25 => (g_laws_markIntS y_14 y_25.1).bind fun y_26 => (cond (decide (y_26.1 < 0)) (some true) ((g_laws_eqMach y_15.1 y_11.1).bind fun y_28 => cond (!y_28) (some true) (some (y_15.2 != y_11.2))) : Option (Bool)).bind fun v_27 => cond v_27 (some false) ((g_laws_markMach y_15.1 1).bind fun y_29 => (g_laws_heldMach (⟨(⟨y_29.2.1, y_29.2.2.1, y_15.1.St.A, y_29.2.2.2.1, y_29.2.2.2.2.1, y_29.2.2.2.2.2.1, y_29.2.2.2.2.2.2.1, y_29.2.2.2.2.2.2.2, y_15.1.St.Fault, y_15.1.St.Fuel⟩ : GSt), y_15.1.At, y_15.1.Done⟩ : GMach) 1).bind fun y_30 => cond (decide (y_30 < 0)) (some false) (cond (y_30 != y_29.1) (some false) ((g_laws_toInsS aCode_1).bind fun y_31 => (g_laws_toMach aM_2).bind fun y_32 => (g_laws_toIntS aStops_3).bind fun y_33 => (g_impl_RunTo y_31 y_32 y_33 aN_4).bind fun y_34 => ((g_laws_eqMach y_34.1 y_11.1).bind fun y_36 => cond (!y_36) (some true) (some (y_34.2 != y_11.2)) : Option (Bool)).bind fun v_35 => cond v_35 (some false) ((g_laws_heldMach (⟨(⟨y_29.2.1, y_29.2.2.1, y_15.1.St.A, y_29.2.2.2.1, y_29.2.2.2.2.1, y_29.2.2.2.2.2.1, y_29.2.2.2.2.2.2.1, y_29.2.2.2.2.2.2.2, y_15.1.St.Fault, y_15.1.St.Fuel⟩ : GSt), y_15.1.At, y_15.1.Done⟩ : GMach) 1).bind fun y_37 => cond (decide (y_37 < 0)) (some false) (cond (y_37 != y_29.1) (some false) (some true)))))))))))))
def bodyOf (f : Func) : Code := match f.body with | some c => c | none => .skip
end Go.Proofs.YtofjeimkphojaaaGreatDoor
namespace Go.Proofs.YtofjeimkphojaaaGreatDoor
open Go Go.Fm
set_option maxRecDepth 1000000
def itoaLays_ren : Go.Shelf.Ren := ⟨fun | 171 => 164 | 243 => 195 | 246 => 218 | 283 => 229 | 284 => 230 | 285 => 231 | 286 => 232 | 129 => 238 | 317 => 237 | 318 => 239 | 319 => 240 | 320 => 241 | 337 => 245 | 338 => 246 | n => n, fun | 3 => 3 | 9 => 9 | 2 => 2 | 4 => 4 | 171 => 241 | 0 => 0 | 53 => 242 | 37 => 22 | 5 => 5 | 173 => 245 | 212 => 255 | 51 => 138 | 20 => 20 | 213 => 256 | 46 => 177 | 232 => 274 | 233 => 275 | n => n, fun | 17 => 3 | 18 => 4 | 19 => 5 | n => n⟩
theorem itoaLays : Go.Proofs.LaysM.n171 Tryz.prog itoaLays_ren where
  mixed := by kernel_rfl
  f129 := Tryz.func238.trans (congrArg some (by kernel_rfl))
  f171 := Tryz.func164.trans (congrArg some (by kernel_rfl))
  f243 := Tryz.func195.trans (congrArg some (by kernel_rfl))
  f246 := Tryz.func218.trans (congrArg some (by kernel_rfl))
  f283 := Tryz.func229.trans (congrArg some (by kernel_rfl))
  f284 := Tryz.func230.trans (congrArg some (by kernel_rfl))
  f285 := Tryz.func231.trans (congrArg some (by kernel_rfl))
  f286 := Tryz.func232.trans (congrArg some (by kernel_rfl))
  f317 := Tryz.func237.trans (congrArg some (by kernel_rfl))
  f318 := Tryz.func239.trans (congrArg some (by kernel_rfl))
  f319 := Tryz.func240.trans (congrArg some (by kernel_rfl))
  f320 := Tryz.func241.trans (congrArg some (by kernel_rfl))
  f337 := Tryz.func245.trans (congrArg some (by kernel_rfl))
  f338 := Tryz.func246.trans (congrArg some (by kernel_rfl))
  t0 := Tryz.underlying0
  a0 := Tryz.isAgg0
  z0 := Tryz.sizeOf0
  v0 := Tryz.zeroValue0
  t2 := Tryz.underlying2
  a2 := Tryz.isAgg2
  z2 := Tryz.sizeOf2
  v2 := Tryz.zeroValue2
  t3 := Tryz.underlying3
  a3 := Tryz.isAgg3
  z3 := Tryz.sizeOf3
  v3 := Tryz.zeroValue3
  t4 := Tryz.underlying4
  a4 := Tryz.isAgg4
  z4 := Tryz.sizeOf4
  v4 := Tryz.zeroValue4
  t5 := Tryz.underlying5
  a5 := Tryz.isAgg5
  z5 := Tryz.sizeOf5
  v5 := Tryz.zeroValue5
  t9 := Tryz.underlying9
  a9 := Tryz.isAgg9
  z9 := Tryz.sizeOf9
  v9 := Tryz.zeroValue9
  t20 := Tryz.underlying20
  a20 := Tryz.isAgg20
  z20 := Tryz.sizeOf20
  v20 := Tryz.zeroValue20
  t37 := Tryz.underlying22
  a37 := Tryz.isAgg22
  z37 := Tryz.sizeOf22
  v37 := Tryz.zeroValue22
  t46 := Tryz.underlying177
  a46 := Tryz.isAgg177
  z46 := Tryz.sizeOf177
  v46 := Tryz.zeroValue177
  t51 := Tryz.underlying138
  a51 := Tryz.isAgg138
  z51 := Tryz.sizeOf138
  v51 := Tryz.zeroValue138
  t53 := Tryz.underlying242
  a53 := Tryz.isAgg242
  z53 := Tryz.sizeOf242
  v53 := Tryz.zeroValue242
  t171 := Tryz.underlying241
  a171 := Tryz.isAgg241
  z171 := Tryz.sizeOf241
  v171 := Tryz.zeroValue241
  t173 := Tryz.underlying245
  a173 := Tryz.isAgg245
  z173 := Tryz.sizeOf245
  v173 := Tryz.zeroValue245
  t212 := Tryz.underlying255
  a212 := Tryz.isAgg255
  z212 := Tryz.sizeOf255
  v212 := Tryz.zeroValue255
  t213 := Tryz.underlying256
  a213 := Tryz.isAgg256
  z213 := Tryz.sizeOf256
  t232 := Tryz.underlying274
  a232 := Tryz.isAgg274
  z232 := Tryz.sizeOf274
  v232 := Tryz.zeroValue274
  t233 := Tryz.underlying275
  a233 := Tryz.isAgg275
  z233 := Tryz.sizeOf275
  v233 := Tryz.zeroValue275
  g17 := by kernel_rfl
  g18 := by kernel_rfl
  g19 := by kernel_rfl
  i0 := by kernel_rfl
  i2 := by kernel_rfl
  i3 := by kernel_rfl
  i4 := by kernel_rfl
  i5 := by kernel_rfl
  i9 := by kernel_rfl
  i20 := by kernel_rfl
  i37 := by kernel_rfl
  i46 := by kernel_rfl
  i51 := by kernel_rfl
  i53 := by kernel_rfl
  i171 := by kernel_rfl
  i173 := by kernel_rfl
  i212 := by kernel_rfl
  i232 := by kernel_rfl
  i233 := by kernel_rfl
  m17 := by kernel_rfl
  m18 := by kernel_rfl
  m19 := by kernel_rfl
end Go.Proofs.YtofjeimkphojaaaGreatDoor
namespace Go.Proofs.YtofjeimkphojaaaGreatDoor
open Go Go.Fm
set_option maxRecDepth 1000000
noncomputable def e_laws_szInsS : Con := ⟨18, ⟨[(0, .s K2 []), (1, .s K0 [])], []⟩, ⟨[(0, .s K0 [])], []⟩, false, [], fun (a_1, left_2) => g_laws_szInsS a_1 left_2⟩
noncomputable def e_laws_szInt32S : Con := ⟨119, ⟨[(0, .s K4 []), (1, .s K0 [])], []⟩, ⟨[(0, .s K0 [])], []⟩, false, [], fun (a_1, left_2) => g_laws_szInt32S a_1 left_2⟩
noncomputable def e_laws_szSlotS : Con := ⟨120, ⟨[(0, .s K6 []), (1, .s K0 [])], []⟩, ⟨[(0, .s K0 [])], []⟩, false, [], fun (a_1, left_2) => g_laws_szSlotS a_1 left_2⟩
noncomputable def e_laws_szUint32S : Con := ⟨121, ⟨[(0, .s K8 []), (1, .s K0 [])], []⟩, ⟨[(0, .s K0 [])], []⟩, false, [], fun (a_1, left_2) => g_laws_szUint32S a_1 left_2⟩
noncomputable def e_laws_szIntS : Con := ⟨122, ⟨[(0, .s K9 []), (1, .s K0 [])], []⟩, ⟨[(0, .s K0 [])], []⟩, false, [], fun (a_1, left_2) => g_laws_szIntS a_1 left_2⟩
noncomputable def e_laws_szByteS : Con := ⟨123, ⟨[(0, .s K11 []), (1, .s K0 [])], []⟩, ⟨[(0, .s K0 [])], []⟩, false, [], fun (a_1, left_2) => g_laws_szByteS a_1 left_2⟩
noncomputable def e_laws_szSt : Con := ⟨65, ⟨[(0, .s K12 []), (1, .s K0 [])], []⟩, ⟨[(0, .s K0 [])], []⟩, false, [], fun (a_1, left_2) => g_laws_szSt a_1 left_2⟩
noncomputable def e_laws_szMach : Con := ⟨19, ⟨[(0, .s K14 []), (1, .s K0 [])], []⟩, ⟨[(0, .s K0 [])], []⟩, false, [], fun (a_1, left_2) => g_laws_szMach a_1 left_2⟩
noncomputable def e_laws_toIns : Con := ⟨71, ⟨[(0, .s K1 [])], []⟩, ⟨[(0, .s K1 [])], []⟩, false, [], fun a_1 => g_laws_toIns a_1⟩
noncomputable def e_laws_toInsS : Con := ⟨21, ⟨[(0, .s K2 [])], []⟩, ⟨[(0, .s K2 [(0, 0)])], [.o]⟩, false, [], fun a_1 => g_laws_toInsS a_1⟩
noncomputable def e_laws_toInt32S : Con := ⟨133, ⟨[(0, .s K4 [])], []⟩, ⟨[(0, .s K4 [(0, 0)])], [.o]⟩, false, [], fun a_1 => g_laws_toInt32S a_1⟩
noncomputable def e_laws_toSlot : Con := ⟨181, ⟨[(0, .s K5 [])], []⟩, ⟨[(0, .s K5 [])], []⟩, false, [], fun a_1 => g_laws_toSlot a_1⟩
noncomputable def e_laws_toSlotS : Con := ⟨134, ⟨[(0, .s K6 [])], []⟩, ⟨[(0, .s K6 [(0, 0)])], [.o]⟩, false, [], fun a_1 => g_laws_toSlotS a_1⟩
noncomputable def e_laws_toUint32S : Con := ⟨135, ⟨[(0, .s K8 [])], []⟩, ⟨[(0, .s K8 [(0, 0)])], [.o]⟩, false, [], fun a_1 => g_laws_toUint32S a_1⟩
noncomputable def e_laws_toIntS : Con := ⟨23, ⟨[(0, .s K9 [])], []⟩, ⟨[(0, .s K9 [(0, 0)])], [.o]⟩, false, [], fun a_1 => g_laws_toIntS a_1⟩
noncomputable def e_laws_toByteS : Con := ⟨136, ⟨[(0, .s K11 [])], []⟩, ⟨[(0, .s K11 [(0, 0)])], [.o]⟩, false, [], fun a_1 => g_laws_toByteS a_1⟩
noncomputable def e_laws_toSt : Con := ⟨72, ⟨[(0, .s K12 [])], []⟩, ⟨[(0, .s K12 [(0, 0), (1, 1), (3, 2), (4, 3), (5, 4), (6, 5), (7, 6)])], [.o, .o, .o, .o, .o, .o, .o]⟩, false, [], fun a_1 => g_laws_toSt a_1⟩
noncomputable def e_laws_toMach : Con := ⟨22, ⟨[(0, .s K14 [])], []⟩, ⟨[(0, .s K14 [(0, 0), (1, 1), (3, 2), (4, 3), (5, 4), (6, 5), (7, 6)])], [.o, .o, .o, .o, .o, .o, .o]⟩, false, [], fun a_1 => g_laws_toMach a_1⟩
noncomputable def e_spec_l01In : Con := ⟨54, ⟨[(0, .s K0 []), (1, .s K0 []), (2, .s K0 [])], []⟩, ⟨[(0, .s K13 [])], []⟩, false, [], fun (x_1, a_2, b_3) => g_spec_l01In x_1 a_2 b_3⟩
noncomputable def e_spec_l08Names : Con := ⟨169, ⟨[], []⟩, ⟨[(0, .s K16 [(0, 0)])], [.o]⟩, false, [], fun _ => g_spec_l08Names⟩
noncomputable def e_spec_PrimName : Con := ⟨102, ⟨[(0, .s K0 [])], []⟩, ⟨[(0, .s K15 [])], []⟩, false, [], fun k_1 => g_spec_PrimName k_1⟩
noncomputable def e_spec_CodeOk : Con := ⟨66, ⟨[(0, .s K2 [])], []⟩, ⟨[(0, .s K13 [])], []⟩, false, [], fun list_1 => g_spec_CodeOk list_1⟩
noncomputable def e_spec_StoreOk : Con := ⟨55, ⟨[(0, .s K17 [])], []⟩, ⟨[(0, .s K13 [])], []⟩, false, [], fun s_1 => g_spec_StoreOk s_1⟩
noncomputable def e_spec_StOk : Con := ⟨14, ⟨[(0, .s K12 [])], []⟩, ⟨[(0, .s K13 [])], []⟩, false, [], fun st_1 => g_spec_StOk st_1⟩
noncomputable def e_spec_l21Marks : Con := ⟨67, ⟨[(0, .s K9 []), (1, .s K0 [])], []⟩, ⟨[(0, .s K18 [(0, 0)])], [.o]⟩, false, [], fun (stops_1, n_2) => g_spec_l21Marks stops_1 n_2⟩
noncomputable def e_spec_l08Copy : Con := ⟨68, ⟨[(0, .s K12 [])], []⟩, ⟨[(0, .s K12 [(0, 0), (1, 1), (3, 2), (4, 3), (5, 4), (6, 5), (7, 6)])], [.o, .o, .o, .o, .o, .o, .o]⟩, false, [], fun st_1 => g_spec_l08Copy st_1⟩
noncomputable def e_spec_l21Goes : Con := ⟨69, ⟨[(0, .s K14 [])], []⟩, ⟨[(0, .s K13 [])], []⟩, false, [], fun m_1 => g_spec_l21Goes m_1⟩
noncomputable def e_spec_l08Fault : Con := ⟨125, ⟨[(0, .s K12 []), (1, .s K0 [])], []⟩, ⟨[(0, .s K12 [(0, 0), (1, 1), (3, 2), (4, 3), (5, 4), (6, 5), (7, 6)])], [.o, .o, .o, .o, .o, .o, .o]⟩, false, [], fun (st_1, f_2) => g_spec_l08Fault st_1 f_2⟩
noncomputable def e_spec_l12To : Con := ⟨124, ⟨[(0, .s K14 []), (1, .s K12 []), (2, .s K0 [])], []⟩, ⟨[(0, .s K14 [])], []⟩, true, [], fun (m_1, st_2, vat_3) => g_spec_l12To m_1 st_2 vat_3⟩
noncomputable def e_spec_l08Put : Con := ⟨176, ⟨[(0, .s K12 []), (1, .s K0 []), (2, .s K4 [])], []⟩, ⟨[(0, .s K12 [(0, 0), (1, 1), (3, 2), (4, 3), (5, 4), (6, 5), (7, 6)])], [.o, .o, .o, .o, .o, .o, .o]⟩, false, [], fun (st_1, take_2, list_3) => g_spec_l08Put st_1 take_2 list_3⟩
noncomputable def e_spec_PushN : Con := ⟨126, ⟨[(0, .s K12 []), (1, .s K3 [])], []⟩, ⟨[(0, .s K12 [(0, 0), (1, 1), (3, 2), (4, 3), (5, 4), (6, 5), (7, 6)])], [.o, .o, .o, .o, .o, .o, .o]⟩, false, [], fun (st_1, n_2) => g_spec_PushN st_1 n_2⟩
noncomputable def e_spec_l08Takes : Con := ⟨177, ⟨[(0, .s K15 [])], []⟩, ⟨[(0, .s K0 [])], []⟩, false, [], fun name_1 => g_spec_l08Takes name_1⟩
noncomputable def e_spec_l08Pure : Con := ⟨178, ⟨[(0, .s K15 []), (1, .s K3 []), (2, .s K3 [])], []⟩, ⟨[(0, .s K4 [(0, 0)]), (1, .s K13 [])], [.o]⟩, false, [], fun (name_1, x_2, y_3) => g_spec_l08Pure name_1 x_2 y_3⟩
noncomputable def e_spec_l08Divide : Con := ⟨204, ⟨[(0, .s K12 []), (1, .s K3 []), (2, .s K3 [])], []⟩, ⟨[(0, .s K12 [(0, 0), (1, 1), (3, 2), (4, 3), (5, 4), (6, 5), (7, 6)])], [.o, .o, .o, .o, .o, .o, .o]⟩, false, [], fun (st_1, x_2, y_3) => g_spec_l08Divide st_1 x_2 y_3⟩
noncomputable def e_spec_l08Place : Con := ⟨224, ⟨[(0, .s K12 []), (1, .s K3 [])], []⟩, ⟨[(0, .s K0 [])], []⟩, false, [], fun (st_1, addr_2) => g_spec_l08Place st_1 addr_2⟩
noncomputable def e_spec_l08Fetch : Con := ⟨205, ⟨[(0, .s K12 []), (1, .s K3 [])], []⟩, ⟨[(0, .s K12 [(0, 0), (1, 1), (3, 2), (4, 3), (5, 4), (6, 5), (7, 6)])], [.o, .o, .o, .o, .o, .o, .o]⟩, false, [], fun (st_1, addr_2) => g_spec_l08Fetch st_1 addr_2⟩
noncomputable def e_spec_l08Store : Con := ⟨206, ⟨[(0, .s K12 []), (1, .s K3 []), (2, .s K3 [])], []⟩, ⟨[(0, .s K12 [(0, 0), (1, 1), (3, 2), (4, 3), (5, 4), (6, 5), (7, 6)])], [.o, .o, .o, .o, .o, .o, .o]⟩, false, [], fun (st_1, n_2, addr_3) => g_spec_l08Store st_1 n_2 addr_3⟩
noncomputable def e_spec_l08Say : Con := ⟨207, ⟨[(0, .s K12 []), (1, .s K11 [])], []⟩, ⟨[(0, .s K12 [(0, 0), (1, 1), (3, 2), (4, 3), (5, 4), (6, 5), (7, 6)])], [.o, .o, .o, .o, .o, .o, .o]⟩, false, [], fun (st_1, b_2) => g_spec_l08Say st_1 b_2⟩
noncomputable def e_spec_DecText : Con := ⟨161, ⟨[(0, .s K0 [])], []⟩, ⟨[(0, .s K15 [])], []⟩, false, [], fun n_1 => g_spec_DecText n_1⟩
noncomputable def e_spec_l08Back : Con := ⟨208, ⟨[(0, .s K12 []), (1, .s K13 [])], []⟩, ⟨[(0, .s K12 [(0, 0), (1, 1), (3, 2), (4, 3), (5, 4), (6, 5), (7, 6)])], [.o, .o, .o, .o, .o, .o, .o]⟩, false, [], fun (st_1, take_2) => g_spec_l08Back st_1 take_2⟩
noncomputable def e_spec_l08Other : Con := ⟨179, ⟨[(0, .s K12 []), (1, .s K15 []), (2, .s K3 []), (3, .s K3 [])], []⟩, ⟨[(0, .s K12 [(0, 0), (1, 1), (3, 2), (4, 3), (5, 4), (6, 5), (7, 6)])], [.o, .o, .o, .o, .o, .o, .o]⟩, false, [], fun (st_1, name_2, x_3, y_4) => g_spec_l08Other st_1 name_2 x_3 y_4⟩
noncomputable def e_spec_Do : Con := ⟨127, ⟨[(0, .s K12 []), (1, .s K0 [])], []⟩, ⟨[(0, .s K12 [(0, 0), (1, 1), (3, 2), (4, 3), (5, 4), (6, 5), (7, 6)])], [.o, .o, .o, .o, .o, .o, .o]⟩, false, [], fun (st_1, k_2) => g_spec_Do st_1 k_2⟩
noncomputable def e_spec_l12Put : Con := ⟨128, ⟨[(0, .s K12 []), (1, .s K5 [])], []⟩, ⟨[(0, .s K12 [(0, 0), (1, 1), (3, 2), (4, 3), (5, 4), (6, 5), (7, 6)])], [.o, .o, .o, .o, .o, .o, .o]⟩, false, [], fun (st_1, s_2) => g_spec_l12Put st_1 s_2⟩
noncomputable def e_spec_l12For : Con := ⟨129, ⟨[(0, .s K14 []), (1, .s K12 [])], []⟩, ⟨[(0, .s K14 [])], []⟩, true, [], fun (m_1, st_2) => g_spec_l12For m_1 st_2⟩
noncomputable def e_spec_l12Drop : Con := ⟨180, ⟨[(0, .s K12 [])], []⟩, ⟨[(0, .s K12 [(0, 0), (1, 1), (3, 2), (4, 3), (5, 4), (6, 5), (7, 6)])], [.o, .o, .o, .o, .o, .o, .o]⟩, false, [], fun st_1 => g_spec_l12Drop st_1⟩
noncomputable def e_spec_l12Next : Con := ⟨130, ⟨[(0, .s K14 []), (1, .s K12 []), (2, .s K0 [])], []⟩, ⟨[(0, .s K14 [])], []⟩, true, [], fun (m_1, st_2, to_3) => g_spec_l12Next m_1 st_2 to_3⟩
noncomputable def e_spec_l12Ret : Con := ⟨131, ⟨[(0, .s K14 []), (1, .s K12 []), (2, .s K0 [])], []⟩, ⟨[(0, .s K14 [])], []⟩, true, [], fun (m_1, st_2, n_3) => g_spec_l12Ret m_1 st_2 n_3⟩
noncomputable def e_spec_l12Test : Con := ⟨132, ⟨[(0, .s K14 []), (1, .s K12 []), (2, .s K1 [])], []⟩, ⟨[(0, .s K14 [])], []⟩, true, [], fun (m_1, st_2, x_3) => g_spec_l12Test m_1 st_2 x_3⟩
noncomputable def e_spec_l12Step : Con := ⟨70, ⟨[(0, .s K2 []), (1, .s K14 [])], []⟩, ⟨[(0, .s K14 [])], []⟩, true, [], fun (code_1, m_2) => g_spec_l12Step code_1 m_2⟩
noncomputable def e_spec_RunTo : Con := ⟨20, ⟨[(0, .s K2 []), (1, .s K14 []), (2, .s K9 []), (3, .s K0 [])], []⟩, ⟨[(0, .s K14 []), (1, .s K0 [])], []⟩, true, [], fun (code_1, m_2, stops_3, n_4) => g_spec_RunTo code_1 m_2 stops_3 n_4⟩
noncomputable def e_impl_within : Con := ⟨60, ⟨[(0, .s K0 []), (1, .s K0 []), (2, .s K0 [])], []⟩, ⟨[(0, .s K13 [])], []⟩, false, [], fun (n_1, low_2, high_3) => g_impl_within n_1 low_2 high_3⟩
noncomputable def e_strings_Fields : Con := ⟨215, ⟨[(0, .s K15 [])], []⟩, ⟨[(0, .s K16 [(0, 0)])], [.o]⟩, false, [], fun s_1 => g_strings_Fields s_1⟩
noncomputable def e_impl_prims : Con := ⟨191, ⟨[], []⟩, ⟨[(0, .s K16 [(0, 0)])], [.o]⟩, false, [], fun _ => g_impl_prims⟩
noncomputable def e_impl_PrimName : Con := ⟨160, ⟨[(0, .s K0 [])], []⟩, ⟨[(0, .s K15 [])], []⟩, false, [], fun k_1 => g_impl_PrimName k_1⟩
noncomputable def e_impl_CodeOkc1 : Con := ⟨183, ⟨[(0, .s K1 []), (1, .c (.one (.ptr 0 0)))], [.v K0 []]⟩, ⟨[(0, .s K13 [])], [.f]⟩, false, [0], fun (i_1, a_2) => g_impl_CodeOkc1 i_1 a_2⟩
noncomputable def e_slices_IndexFunc_Ins_impl_CodeOkc1 : Con := ⟨209, ⟨[(0, .s K2 []), (1, .c (.one (.fn 183 [(0, 0)])))], [.v K0 []]⟩, ⟨[(0, .s K0 [])], [.f]⟩, false, [0], fun (s_1, c_2) => g_slices_IndexFunc_Ins_impl_CodeOkc1 s_1 c_2⟩
noncomputable def e_slices_ContainsFunc_Ins_impl_CodeOkc1 : Con := ⟨182, ⟨[(0, .s K2 []), (1, .c (.one (.fn 183 [(0, 0)])))], [.v K0 []]⟩, ⟨[(0, .s K13 [])], [.f]⟩, false, [0], fun (s_1, c_2) => g_slices_ContainsFunc_Ins_impl_CodeOkc1 s_1 c_2⟩
noncomputable def e_impl_CodeOk : Con := ⟨137, ⟨[(0, .s K2 [])], []⟩, ⟨[(0, .s K13 [])], []⟩, false, [], fun list_1 => g_impl_CodeOk list_1⟩
noncomputable def e_impl_StoreOk : Con := ⟨162, ⟨[(0, .s K17 [])], []⟩, ⟨[(0, .s K13 [])], []⟩, false, [], fun s_1 => g_impl_StoreOk s_1⟩
noncomputable def e_slices_Index_int : Con := ⟨144, ⟨[(0, .s K9 []), (1, .s K0 [])], []⟩, ⟨[(0, .s K0 [])], []⟩, false, [], fun (s_1, v_2) => g_slices_Index_int s_1 v_2⟩
noncomputable def e_slices_Contains_int : Con := ⟨77, ⟨[(0, .s K9 []), (1, .s K0 [])], []⟩, ⟨[(0, .s K13 [])], []⟩, false, [], fun (s_1, v_2) => g_slices_Contains_int s_1 v_2⟩
noncomputable def e_impl_StOk : Con := ⟨91, ⟨[(0, .s K12 [])], []⟩, ⟨[(0, .s K13 [])], []⟩, false, [], fun st_1 => g_impl_StOk st_1⟩
noncomputable def e_impl_ticks : Con := ⟨73, ⟨[(0, .s K2 []), (1, .s K14 [])], []⟩, ⟨[(0, .s K13 [])], []⟩, false, [], fun (code_1, m_2) => g_impl_ticks code_1 m_2⟩
noncomputable def e_slices_Clone_int32 : Con := ⟨111, ⟨[(0, .s K4 [])], []⟩, ⟨[(0, .s K4 [(0, 0)])], [.o]⟩, false, [], fun s_1 => g_slices_Clone_int32 s_1⟩
noncomputable def e_slices_Clone_Slot : Con := ⟨112, ⟨[(0, .s K6 [])], []⟩, ⟨[(0, .s K6 [(0, 0)])], [.o]⟩, false, [], fun s_1 => g_slices_Clone_Slot s_1⟩
noncomputable def e_slices_Clone_uint32 : Con := ⟨113, ⟨[(0, .s K8 [])], []⟩, ⟨[(0, .s K8 [(0, 0)])], [.o]⟩, false, [], fun s_1 => g_slices_Clone_uint32 s_1⟩
noncomputable def e_slices_Clone_int : Con := ⟨114, ⟨[(0, .s K9 [])], []⟩, ⟨[(0, .s K9 [(0, 0)])], [.o]⟩, false, [], fun s_1 => g_slices_Clone_int s_1⟩
noncomputable def e_slices_Clone_byte : Con := ⟨115, ⟨[(0, .s K11 [])], []⟩, ⟨[(0, .s K11 [(0, 0)])], [.o]⟩, false, [], fun s_1 => g_slices_Clone_byte s_1⟩
noncomputable def e_impl_ownSt : Con := ⟨62, ⟨[(0, .s K12 [])], []⟩, ⟨[(0, .s K12 [(0, 0), (1, 1), (3, 2), (4, 3), (5, 4), (6, 5), (7, 6)])], [.o, .o, .o, .o, .o, .o, .o]⟩, false, [], fun st_1 => g_impl_ownSt st_1⟩
noncomputable def e_impl_ownMach : Con := ⟨74, ⟨[(0, .s K14 [])], []⟩, ⟨[(0, .s K14 [(0, 0), (1, 1), (3, 2), (4, 3), (5, 4), (6, 5), (7, 6)])], [.o, .o, .o, .o, .o, .o, .o]⟩, false, [], fun m_1 => g_impl_ownMach m_1⟩
noncomputable def e_impl_Mach_over_rd : Con := ⟨75, ⟨[(0, .c (.one (.ptr 0 0)))], [.v K14 [(0, 1), (1, 2), (3, 3), (4, 4), (5, 5), (6, 6), (7, 7)], .o, .o, .o, .o, .o, .o, .o]⟩, ⟨[(0, .s K13 [])], [.f, .f, .f, .f, .f, .f, .f, .f]⟩, false, [0, 1, 2, 3, 4, 5, 6, 7], fun m_1 => g_impl_Mach_over_rd m_1⟩
noncomputable def e_impl_St_pushes_inGMach_0 : Con := ⟨138, ⟨[(0, .c (.one (.ptr 0 0))), (1, .s K3 [])], [.v K14 [(0, 1), (1, 2), (3, 3), (4, 4), (5, 5), (6, 6), (7, 7)], .o, .o, .o, .o, .o, .o, .o]⟩, ⟨[], [.v K14 [(0, 8), (1, 2), (3, 3), (4, 4), (5, 5), (6, 6), (7, 7)], .d, .o, .o, .o, .o, .o, .o, .o]⟩, false, [], fun (n_1, st_2) => g_impl_St_pushes_inGMach_0 n_1 st_2⟩
noncomputable def e_impl_doesc1 : Con := ⟨184, ⟨[(0, .s K0 []), (1, .c (.one (.ptr 0 0)))], [.v K12 []]⟩, ⟨[(0, .s K12 [(0, 1), (1, 2), (3, 3), (4, 4), (5, 5), (6, 6), (7, 7)])], [.f, .o, .o, .o, .o, .o, .o, .o]⟩, false, [0], fun (fault_1, a_2) => g_impl_doesc1 fault_1 a_2⟩
noncomputable def e_impl_PrimEffect : Con := ⟨210, ⟨[(0, .s K0 [])], []⟩, ⟨[(0, .s K19 [])], []⟩, false, [], fun k_1 => g_impl_PrimEffect k_1⟩
noncomputable def e_impl_wants : Con := ⟨185, ⟨[(0, .s K0 [])], []⟩, ⟨[(0, .s K0 [])], []⟩, false, [], fun k_1 => g_impl_wants k_1⟩
noncomputable def e_impl_St_written : Con := ⟨212, ⟨[(0, .c (.one (.ptr 0 0))), (1, .s K15 [])], [.v K12 [(0, 1), (1, 2), (3, 3), (4, 4), (5, 5), (6, 6), (7, 7)], .o, .o, .o, .o, .o, .o, .o]⟩, ⟨[(0, .s K0 [])], [.v K12 [(0, 1), (1, 2), (3, 3), (4, 4), (5, 5), (6, 8), (7, 7)], .o, .o, .o, .o, .o, .d, .o, .o]⟩, false, [], fun (s_1, st_2) => g_impl_St_written s_1 st_2⟩
noncomputable def e_strconv_Itoa : Con := ⟨164, ⟨[(0, .s K0 [])], []⟩, ⟨[(0, .s K15 [])], []⟩, false, [], fun i_1 => g_strconv_Itoa i_1⟩
noncomputable def e_impl_DecText : Con := ⟨93, ⟨[(0, .s K0 [])], []⟩, ⟨[(0, .s K15 [])], []⟩, false, [], fun n_1 => g_impl_DecText n_1⟩
noncomputable def e_impl_result : Con := ⟨213, ⟨[(0, .s K15 []), (1, .s K3 []), (2, .s K3 [])], []⟩, ⟨[(0, .s K4 [(0, 0)]), (1, .s K0 [])], [.o]⟩, false, [], fun (name_1, x_2, y_3) => g_impl_result name_1 x_2 y_3⟩
noncomputable def e_impl_St_place_rd : Con := ⟨211, ⟨[(0, .c (.one (.ptr 0 0))), (1, .s K3 [])], [.v K12 [(0, 1), (1, 2), (3, 3), (4, 4), (5, 5), (6, 6), (7, 7)], .o, .o, .o, .o, .o, .o, .o]⟩, ⟨[(0, .s K0 []), (1, .s K13 []), (2, .s K13 [])], [.f, .f, .f, .f, .f, .f, .f, .f]⟩, false, [0, 1, 2, 3, 4, 5, 6, 7], fun (address_1, st_2) => g_impl_St_place_rd address_1 st_2⟩
noncomputable def e_impl_St_effect : Con := ⟨186, ⟨[(0, .c (.one (.ptr 0 0))), (1, .s K15 []), (2, .s K3 []), (3, .s K3 [])], [.v K12 [(0, 1), (1, 2), (3, 3), (4, 4), (5, 5), (6, 6), (7, 7)], .o, .o, .o, .o, .o, .o, .o]⟩, ⟨[(0, .s K4 [(0, 8)]), (1, .s K0 [])], [.v K12 [(0, 1), (1, 9), (3, 3), (4, 4), (5, 5), (6, 10), (7, 11)], .o, .d, .o, .o, .o, .d, .d, .o, .o, .o, .o]⟩, false, [], fun (name_1, x_2, y_3, st_4) => g_impl_St_effect name_1 x_2 y_3 st_4⟩
noncomputable def e_impl_does : Con := ⟨139, ⟨[(0, .s K12 []), (1, .s K0 [])], []⟩, ⟨[(0, .s K12 [(0, 0), (1, 1), (3, 2), (4, 3), (5, 4), (6, 5), (7, 6)])], [.o, .o, .o, .o, .o, .o, .o]⟩, false, [], fun (st_1, k_2) => g_impl_does st_1 k_2⟩
noncomputable def e_impl_Mach_back : Con := ⟨140, ⟨[(0, .c (.one (.ptr 0 0))), (1, .s K0 [])], [.v K14 [(0, 1), (1, 2), (3, 3), (4, 4), (5, 5), (6, 6), (7, 7)], .o, .o, .o, .o, .o, .o, .o]⟩, ⟨[(0, .s K13 [])], [.v K14 [(0, 1), (1, 8), (3, 3), (4, 4), (5, 5), (6, 6), (7, 7)], .o, .d, .o, .o, .o, .o, .o, .o]⟩, false, [], fun (n_1, m_2) => g_impl_Mach_back n_1 m_2⟩
noncomputable def e_impl_St_begin_inGMach_0 : Con := ⟨141, ⟨[(0, .c (.one (.ptr 0 0)))], [.v K14 [(0, 1), (1, 2), (3, 3), (4, 4), (5, 5), (6, 6), (7, 7)], .o, .o, .o, .o, .o, .o, .o]⟩, ⟨[], [.v K14 [(0, 8), (1, 9), (3, 3), (4, 4), (5, 5), (6, 6), (7, 7)], .d, .d, .o, .o, .o, .o, .o, .o, .o]⟩, false, [], fun st_1 => g_impl_St_begin_inGMach_0 st_1⟩
noncomputable def e_impl_St_again_inGMach_0 : Con := ⟨142, ⟨[(0, .c (.one (.ptr 0 0)))], [.v K14 [(0, 1), (1, 2), (3, 3), (4, 4), (5, 5), (6, 6), (7, 7)], .o, .o, .o, .o, .o, .o, .o]⟩, ⟨[(0, .s K13 [])], [.v K14 [(0, 1), (1, 8), (3, 3), (4, 4), (5, 5), (6, 6), (7, 7)], .o, .d, .o, .o, .o, .o, .o, .o]⟩, false, [], fun st_1 => g_impl_St_again_inGMach_0 st_1⟩
noncomputable def e_impl_Mach_leave_own : Con := ⟨143, ⟨[(0, .c (.one (.ptr 0 0))), (1, .s K2 [])], [.v K14 [(0, 1), (1, 2), (3, 3), (4, 4), (5, 5), (6, 6), (7, 7)], .o, .o, .o, .o, .o, .o, .o]⟩, ⟨[(0, .s K0 [])], [.v K14 [(0, 1), (1, 8), (3, 3), (4, 4), (5, 5), (6, 6), (7, 7)], .o, .d, .o, .o, .o, .o, .o, .o]⟩, false, [], fun (code_1, m_2) => g_impl_Mach_leave_own code_1 m_2⟩
noncomputable def e_impl_Mach_step : Con := ⟨76, ⟨[(0, .c (.one (.ptr 0 0))), (1, .s K2 [])], [.v K14 [(0, 1), (1, 2), (3, 3), (4, 4), (5, 5), (6, 6), (7, 7)], .o, .o, .o, .o, .o, .o, .o]⟩, ⟨[], [.v K14 [(0, 8), (1, 9), (3, 10), (4, 11), (5, 12), (6, 13), (7, 14)], .d, .d, .d, .d, .d, .d, .d, .o, .o, .o, .o, .o, .o, .o]⟩, false, [], fun (code_1, m_2) => g_impl_Mach_step code_1 m_2⟩
noncomputable def e_impl_RunTo : Con := ⟨24, ⟨[(0, .s K2 []), (1, .s K14 []), (2, .s K9 []), (3, .s K0 [])], []⟩, ⟨[(0, .s K14 [(0, 0), (1, 1), (3, 2), (4, 3), (5, 4), (6, 5), (7, 6)]), (1, .s K0 [])], [.o, .o, .o, .o, .o, .o, .o]⟩, false, [], fun (code_1, m_2, stops_3, n_4) => g_impl_RunTo code_1 m_2 stops_3 n_4⟩
noncomputable def e_laws_eqInt32S : Con := ⟨145, ⟨[(0, .s K4 []), (1, .s K4 [])], []⟩, ⟨[(0, .s K13 [])], []⟩, false, [], fun (a_1, b_2) => g_laws_eqInt32S a_1 b_2⟩
noncomputable def e_laws_eqSlot : Con := ⟨187, ⟨[(0, .s K5 []), (1, .s K5 [])], []⟩, ⟨[(0, .s K13 [])], []⟩, false, [], fun (a_1, b_2) => g_laws_eqSlot a_1 b_2⟩
noncomputable def e_laws_eqSlotS : Con := ⟨146, ⟨[(0, .s K6 []), (1, .s K6 [])], []⟩, ⟨[(0, .s K13 [])], []⟩, false, [], fun (a_1, b_2) => g_laws_eqSlotS a_1 b_2⟩
noncomputable def e_laws_eqUint32S : Con := ⟨147, ⟨[(0, .s K8 []), (1, .s K8 [])], []⟩, ⟨[(0, .s K13 [])], []⟩, false, [], fun (a_1, b_2) => g_laws_eqUint32S a_1 b_2⟩
noncomputable def e_laws_eqIntS : Con := ⟨27, ⟨[(0, .s K9 []), (1, .s K9 [])], []⟩, ⟨[(0, .s K13 [])], []⟩, false, [], fun (a_1, b_2) => g_laws_eqIntS a_1 b_2⟩
noncomputable def e_laws_eqByteS : Con := ⟨148, ⟨[(0, .s K11 []), (1, .s K11 [])], []⟩, ⟨[(0, .s K13 [])], []⟩, false, [], fun (a_1, b_2) => g_laws_eqByteS a_1 b_2⟩
noncomputable def e_laws_eqSt : Con := ⟨78, ⟨[(0, .s K12 []), (1, .s K12 [])], []⟩, ⟨[(0, .s K13 [])], []⟩, false, [], fun (a_1, b_2) => g_laws_eqSt a_1 b_2⟩
noncomputable def e_laws_eqMach : Con := ⟨25, ⟨[(0, .s K14 []), (1, .s K14 [])], []⟩, ⟨[(0, .s K13 [])], []⟩, false, [], fun (a_1, b_2) => g_laws_eqMach a_1 b_2⟩
noncomputable def e_laws_eqIns : Con := ⟨79, ⟨[(0, .s K1 []), (1, .s K1 [])], []⟩, ⟨[(0, .s K13 [])], []⟩, false, [], fun (a_1, b_2) => g_laws_eqIns a_1 b_2⟩
noncomputable def e_laws_eqInsS : Con := ⟨26, ⟨[(0, .s K2 []), (1, .s K2 [])], []⟩, ⟨[(0, .s K13 [])], []⟩, false, [], fun (a_1, b_2) => g_laws_eqInsS a_1 b_2⟩
noncomputable def e_laws_markInsS : Con := ⟨28, ⟨[(0, .s K2 [(0, 0)]), (1, .s K0 [])], [.o]⟩, ⟨[(0, .s K0 [])], [.r K1]⟩, false, [], fun (a_1, k_2) => g_laws_markInsS a_1 k_2⟩
noncomputable def e_laws_markInt32S : Con := ⟨149, ⟨[(0, .s K4 [(0, 0)]), (1, .s K0 [])], [.o]⟩, ⟨[(0, .s K0 [])], [.r K3]⟩, false, [], fun (a_1, k_2) => g_laws_markInt32S a_1 k_2⟩
noncomputable def e_laws_markSlotS : Con := ⟨150, ⟨[(0, .s K6 [(0, 0)]), (1, .s K0 [])], [.o]⟩, ⟨[(0, .s K0 [])], [.r K5]⟩, false, [], fun (a_1, k_2) => g_laws_markSlotS a_1 k_2⟩
noncomputable def e_laws_markUint32S : Con := ⟨151, ⟨[(0, .s K8 [(0, 0)]), (1, .s K0 [])], [.o]⟩, ⟨[(0, .s K0 [])], [.r K7]⟩, false, [], fun (a_1, k_2) => g_laws_markUint32S a_1 k_2⟩
noncomputable def e_laws_markIntS : Con := ⟨30, ⟨[(0, .s K9 [(0, 0)]), (1, .s K0 [])], [.o]⟩, ⟨[(0, .s K0 [])], [.r K0]⟩, false, [], fun (a_1, k_2) => g_laws_markIntS a_1 k_2⟩
noncomputable def e_laws_markByteS : Con := ⟨152, ⟨[(0, .s K11 [(0, 0)]), (1, .s K0 [])], [.o]⟩, ⟨[(0, .s K0 [])], [.r K10]⟩, false, [], fun (a_1, k_2) => g_laws_markByteS a_1 k_2⟩
noncomputable def e_laws_markSt : Con := ⟨80, ⟨[(0, .s K12 [(0, 0), (1, 1), (3, 2), (4, 3), (5, 4), (6, 5), (7, 6)]), (1, .s K0 [])], [.o, .o, .o, .o, .o, .o, .o]⟩, ⟨[(0, .s K0 [])], [.r K3, .r K5, .r K3, .r K7, .r K0, .r K10, .r K10]⟩, false, [], fun (a_1, k_2) => g_laws_markSt a_1 k_2⟩
noncomputable def e_laws_markMach : Con := ⟨29, ⟨[(0, .s K14 [(0, 0), (1, 1), (3, 2), (4, 3), (5, 4), (6, 5), (7, 6)]), (1, .s K0 [])], [.o, .o, .o, .o, .o, .o, .o]⟩, ⟨[(0, .s K0 [])], [.r K3, .r K5, .r K3, .r K7, .r K0, .r K10, .r K10]⟩, false, [], fun (a_1, k_2) => g_laws_markMach a_1 k_2⟩
noncomputable def e_laws_heldInt32S : Con := ⟨153, ⟨[(0, .s K4 []), (1, .s K0 [])], []⟩, ⟨[(0, .s K0 [])], []⟩, false, [], fun (a_1, k_2) => g_laws_heldInt32S a_1 k_2⟩
noncomputable def e_laws_heldSlotS : Con := ⟨154, ⟨[(0, .s K6 []), (1, .s K0 [])], []⟩, ⟨[(0, .s K0 [])], []⟩, false, [], fun (a_1, k_2) => g_laws_heldSlotS a_1 k_2⟩
noncomputable def e_laws_heldUint32S : Con := ⟨155, ⟨[(0, .s K8 []), (1, .s K0 [])], []⟩, ⟨[(0, .s K0 [])], []⟩, false, [], fun (a_1, k_2) => g_laws_heldUint32S a_1 k_2⟩
noncomputable def e_laws_heldIntS : Con := ⟨156, ⟨[(0, .s K9 []), (1, .s K0 [])], []⟩, ⟨[(0, .s K0 [])], []⟩, false, [], fun (a_1, k_2) => g_laws_heldIntS a_1 k_2⟩
noncomputable def e_laws_heldByteS : Con := ⟨157, ⟨[(0, .s K11 []), (1, .s K0 [])], []⟩, ⟨[(0, .s K0 [])], []⟩, false, [], fun (a_1, k_2) => g_laws_heldByteS a_1 k_2⟩
noncomputable def e_laws_heldSt : Con := ⟨81, ⟨[(0, .s K12 []), (1, .s K0 [])], []⟩, ⟨[(0, .s K0 [])], []⟩, false, [], fun (a_1, k_2) => g_laws_heldSt a_1 k_2⟩
noncomputable def e_laws_heldMach : Con := ⟨31, ⟨[(0, .s K14 []), (1, .s K0 [])], []⟩, ⟨[(0, .s K0 [])], []⟩, false, [], fun (a_1, k_2) => g_laws_heldMach a_1 k_2⟩
noncomputable def e_laws_FnExactRunTo : Con := ⟨4, ⟨[(0, .s K2 []), (1, .s K14 []), (2, .s K9 []), (3, .s K0 [])], []⟩, ⟨[(0, .s K13 [])], []⟩, false, [], fun (aCode_1, aM_2, aStops_3, aN_4) => g_laws_FnExactRunTo aCode_1 aM_2 aStops_3 aN_4⟩
abbrev CO (c : Con) : Prop := ConOk Tryz.prog c
abbrev CK (Γ : List Con) (n : Nat) (an : An) (f : Func) (e : Con) : Prop := AnOk TryzT Γ n an (bodyOf f) ∧ ∀ a, fnRun TryzT Γ an (bodyOf f) f.results.toList e.ro e.ps e.rs a = e.g a
theorem fnc {Γ : List Con} {n : Nat} {an : An} {fn : Func} {C : Con} (h : Tryz.prog.follows .mixedOrders = true → ∀ c ∈ Γ, CO c) (hf : Tryz.prog.funcs[C.f]? = some fn) (hk : CK Γ n an fn C) (h1 : (!(fn.name == "runtime.NumGoroutine") && okC fn.ntmps (bodyOf fn)) = true)
    (h2 : ∀ a, entB C n fn.ntmps a = true) (h3 : ∀ r, endB C fn.results.toList.length r = true) (hb : fn.body = some (bodyOf fn)) : CO C := by
  rw [Bool.and_eq_true, Bool.not_eq_true'] at h1
  exact fn_ok (P := fun _ => Tryz.prog) (n := n) TryzT_eq h hf hb h1.1 rfl rfl h1.2 rfl h2 h3 hk.1 fun a r e => (hk.2 a).trans e
end Go.Proofs.YtofjeimkphojaaaGreatDoor
namespace Go.Proofs.YtofjeimkphojaaaGreatDoor
open Go Go.Fm
set_option maxRecDepth 1000000
noncomputable def ane_laws_szInsS : An := .z
theorem ke_laws_szInsS : CK [] 0 ane_laws_szInsS Tryz.f18 e_laws_szInsS := ⟨trivial, fun _ => by kernel_rfl⟩
noncomputable def ane_laws_szInt32S : An := .z
theorem ke_laws_szInt32S : CK [] 0 ane_laws_szInt32S Tryz.f119 e_laws_szInt32S := ⟨trivial, fun _ => by kernel_rfl⟩
noncomputable def ane_laws_szSlotS : An := .z
theorem ke_laws_szSlotS : CK [] 0 ane_laws_szSlotS Tryz.f120 e_laws_szSlotS := ⟨trivial, fun _ => by kernel_rfl⟩
noncomputable def ane_laws_szUint32S : An := .z
theorem ke_laws_szUint32S : CK [] 0 ane_laws_szUint32S Tryz.f121 e_laws_szUint32S := ⟨trivial, fun _ => by kernel_rfl⟩
noncomputable def ane_laws_szIntS : An := .z
theorem ke_laws_szIntS : CK [] 0 ane_laws_szIntS Tryz.f122 e_laws_szIntS := ⟨trivial, fun _ => by kernel_rfl⟩
noncomputable def ane_laws_szByteS : An := .z
theorem ke_laws_szByteS : CK [] 0 ane_laws_szByteS Tryz.f123 e_laws_szByteS := ⟨trivial, fun _ => by kernel_rfl⟩
noncomputable def ane_laws_szSt : An := .z
theorem ke_laws_szSt : CK [e_laws_szInt32S, e_laws_szSlotS, e_laws_szUint32S, e_laws_szIntS, e_laws_szByteS] 0 ane_laws_szSt Tryz.f65 e_laws_szSt := ⟨trivial, fun _ => by kernel_rfl⟩
noncomputable def ane_laws_szMach : An := .z
theorem ke_laws_szMach : CK [e_laws_szSt] 0 ane_laws_szMach Tryz.f19 e_laws_szMach := ⟨trivial, fun _ => by kernel_rfl⟩
end Go.Proofs.YtofjeimkphojaaaGreatDoor
namespace Go.Proofs.YtofjeimkphojaaaGreatDoor
open Go Go.Fm
set_option maxRecDepth 1000000
noncomputable def ane_laws_toIns : An := .z
theorem ke_laws_toIns : CK [] 0 ane_laws_toIns Tryz.f71 e_laws_toIns := ⟨trivial, fun _ => by kernel_rfl⟩
noncomputable def ane_laws_toInsS : An := .q .z (.q .z (.m [(.normal, ⟨[(3, .s K2 [(0, 0)])], [.o]⟩)] [0, 2] [] (.q .z (.b (.l ⟨[(0, .s K2 []), (2, .c (.one (.emp)))], [.n]⟩ ⟨[(3, .s K2 [(0, 0)]), (4, .s K0 [])], [.o]⟩ [(.exit 0, ⟨[(3, .s K2 [(0, 0)])], [.o]⟩)] (fun a_1 k (out_5, i_6) => g_laws_toInsS_l0 a_1 k out_5 i_6) .z))) .z))
theorem ke_laws_toInsS : CK [e_laws_toIns] 0 ane_laws_toInsS Tryz.f21 e_laws_toInsS := ⟨⟨trivial, ⟨trivial, ⟨⟨trivial, ⟨fun _ _ => rfl, fun _ _ _ _ => by kernel_rfl, trivial⟩⟩, trivial⟩⟩⟩, fun _ => by kernel_rfl⟩
noncomputable def ane_laws_toInt32S : An := .q .z (.q .z (.m [(.normal, ⟨[(3, .s K4 [(0, 0)])], [.o]⟩)] [0, 2] [] (.q .z (.b (.l ⟨[(0, .s K4 []), (2, .c (.one (.emp)))], [.n]⟩ ⟨[(3, .s K4 [(0, 0)]), (4, .s K0 [])], [.o]⟩ [(.exit 0, ⟨[(3, .s K4 [(0, 0)])], [.o]⟩)] (fun a_1 k (out_5, i_6) => g_laws_toInt32S_l0 a_1 k out_5 i_6) .z))) .z))
theorem ke_laws_toInt32S : CK [] 0 ane_laws_toInt32S Tryz.f133 e_laws_toInt32S := ⟨⟨trivial, ⟨trivial, ⟨⟨trivial, ⟨fun _ _ => rfl, fun _ _ _ _ => by kernel_rfl, trivial⟩⟩, trivial⟩⟩⟩, fun _ => by kernel_rfl⟩
noncomputable def ane_laws_toSlot : An := .z
theorem ke_laws_toSlot : CK [] 0 ane_laws_toSlot Tryz.f181 e_laws_toSlot := ⟨trivial, fun _ => by kernel_rfl⟩
noncomputable def ane_laws_toSlotS : An := .q .z (.q .z (.m [(.normal, ⟨[(3, .s K6 [(0, 0)])], [.o]⟩)] [0, 2] [] (.q .z (.b (.l ⟨[(0, .s K6 []), (2, .c (.one (.emp)))], [.n]⟩ ⟨[(3, .s K6 [(0, 0)]), (4, .s K0 [])], [.o]⟩ [(.exit 0, ⟨[(3, .s K6 [(0, 0)])], [.o]⟩)] (fun a_1 k (out_5, i_6) => g_laws_toSlotS_l0 a_1 k out_5 i_6) .z))) .z))
theorem ke_laws_toSlotS : CK [e_laws_toSlot] 0 ane_laws_toSlotS Tryz.f134 e_laws_toSlotS := ⟨⟨trivial, ⟨trivial, ⟨⟨trivial, ⟨fun _ _ => rfl, fun _ _ _ _ => by kernel_rfl, trivial⟩⟩, trivial⟩⟩⟩, fun _ => by kernel_rfl⟩
noncomputable def ane_laws_toUint32S : An := .q .z (.q .z (.m [(.normal, ⟨[(3, .s K8 [(0, 0)])], [.o]⟩)] [0, 2] [] (.q .z (.b (.l ⟨[(0, .s K8 []), (2, .c (.one (.emp)))], [.n]⟩ ⟨[(3, .s K8 [(0, 0)]), (4, .s K0 [])], [.o]⟩ [(.exit 0, ⟨[(3, .s K8 [(0, 0)])], [.o]⟩)] (fun a_1 k (out_5, i_6) => g_laws_toUint32S_l0 a_1 k out_5 i_6) .z))) .z))
theorem ke_laws_toUint32S : CK [] 0 ane_laws_toUint32S Tryz.f135 e_laws_toUint32S := ⟨⟨trivial, ⟨trivial, ⟨⟨trivial, ⟨fun _ _ => rfl, fun _ _ _ _ => by kernel_rfl, trivial⟩⟩, trivial⟩⟩⟩, fun _ => by kernel_rfl⟩
noncomputable def ane_laws_toIntS : An := .q .z (.q .z (.m [(.normal, ⟨[(3, .s K9 [(0, 0)])], [.o]⟩)] [0, 2] [] (.q .z (.b (.l ⟨[(0, .s K9 []), (2, .c (.one (.emp)))], [.n]⟩ ⟨[(3, .s K9 [(0, 0)]), (4, .s K0 [])], [.o]⟩ [(.exit 0, ⟨[(3, .s K9 [(0, 0)])], [.o]⟩)] (fun a_1 k (out_5, i_6) => g_laws_toIntS_l0 a_1 k out_5 i_6) .z))) .z))
theorem ke_laws_toIntS : CK [] 0 ane_laws_toIntS Tryz.f23 e_laws_toIntS := ⟨⟨trivial, ⟨trivial, ⟨⟨trivial, ⟨fun _ _ => rfl, fun _ _ _ _ => by kernel_rfl, trivial⟩⟩, trivial⟩⟩⟩, fun _ => by kernel_rfl⟩
noncomputable def ane_laws_toByteS : An := .q .z (.q .z (.m [(.normal, ⟨[(3, .s K11 [(0, 0)])], [.o]⟩)] [0, 2] [] (.q .z (.b (.l ⟨[(0, .s K11 []), (2, .c (.one (.emp)))], [.n]⟩ ⟨[(3, .s K11 [(0, 0)]), (4, .s K0 [])], [.o]⟩ [(.exit 0, ⟨[(3, .s K11 [(0, 0)])], [.o]⟩)] (fun a_1 k (out_5, i_6) => g_laws_toByteS_l0 a_1 k out_5 i_6) .z))) .z))
theorem ke_laws_toByteS : CK [] 0 ane_laws_toByteS Tryz.f136 e_laws_toByteS := ⟨⟨trivial, ⟨trivial, ⟨⟨trivial, ⟨fun _ _ => rfl, fun _ _ _ _ => by kernel_rfl, trivial⟩⟩, trivial⟩⟩⟩, fun _ => by kernel_rfl⟩
end Go.Proofs.YtofjeimkphojaaaGreatDoor
namespace Go.Proofs.YtofjeimkphojaaaGreatDoor
open Go Go.Fm
set_option maxRecDepth 1000000
noncomputable def ane_laws_toSt : An := .z
theorem ke_laws_toSt : CK [e_laws_toInt32S, e_laws_toSlotS, e_laws_toUint32S, e_laws_toIntS, e_laws_toByteS] 0 ane_laws_toSt Tryz.f72 e_laws_toSt := ⟨trivial, fun _ => by kernel_rfl⟩
noncomputable def ane_laws_toMach : An := .z
theorem ke_laws_toMach : CK [e_laws_toSt] 0 ane_laws_toMach Tryz.f22 e_laws_toMach := ⟨trivial, fun _ => by kernel_rfl⟩
noncomputable def ane_spec_l01In : An := .z
theorem ke_spec_l01In : CK [] 0 ane_spec_l01In Tryz.f54 e_spec_l01In := ⟨trivial, fun _ => by kernel_rfl⟩
noncomputable def ane_spec_l08Names : An := .z
theorem ke_spec_l08Names : CK [] 0 ane_spec_l08Names Tryz.f169 e_spec_l08Names := ⟨trivial, fun _ => by kernel_rfl⟩
noncomputable def ane_spec_PrimName : An := .z
theorem ke_spec_PrimName : CK [e_spec_l08Names, e_spec_l01In] 0 ane_spec_PrimName Tryz.f102 e_spec_PrimName := ⟨trivial, fun _ => by kernel_rfl⟩
noncomputable def ane_spec_CodeOk : An := .q .z (.q .z (.q (.m [(.normal, ⟨[(20, .s K13 [])], []⟩)] [0, 2, 3] [] .z .z) (.m [(.normal, ⟨[], []⟩), (.ret, ⟨[(2, .s K13 [])], []⟩)] [0, 3] [] (.q .z (.b (.l ⟨[(0, .s K2 []), (3, .s K0 [])], []⟩ ⟨[(4, .s K0 [])], []⟩ [(.exit 0, ⟨[], []⟩), (.ret, ⟨[(2, .s K13 [])], []⟩)] (fun (list_1, n_7) k i_8 => g_spec_CodeOk_l0 list_1 n_7 k i_8) (.q .z (.m [(.normal, ⟨[], []⟩), (.ret, ⟨[(2, .s K13 [])], []⟩)] [4] [] (.b (.q .z (.q .z (.m [(.normal, ⟨[(6, .s K13 [])], [.f]⟩)] [5] [0] (.q .z (.b (.q .z (.q .z (.q .z (.q .z (.m [(.normal, ⟨[(43, .s K13 [])], [.f]⟩)] [6, 31] [] .z (.q .z (.m [(.normal, ⟨[(54, .s K13 [])], [.f]⟩)] [6, 31] [] .z .z))))))))) .z)))) .z))))) .z)))
theorem ke_spec_CodeOk : CK [e_spec_l01In, e_spec_PrimName] 0 ane_spec_CodeOk Tryz.f66 e_spec_CodeOk := ⟨⟨trivial, ⟨trivial, ⟨⟨trivial, trivial⟩, ⟨⟨trivial, ⟨fun _ _ => rfl, fun _ _ _ _ => by kernel_rfl, ⟨trivial, ⟨⟨trivial, ⟨trivial, ⟨⟨trivial, ⟨trivial, ⟨trivial, ⟨trivial, ⟨trivial, ⟨trivial, ⟨trivial, ⟨trivial, trivial⟩⟩⟩⟩⟩⟩⟩⟩, trivial⟩⟩⟩, trivial⟩⟩⟩⟩, trivial⟩⟩⟩⟩, fun _ => by kernel_rfl⟩
noncomputable def ane_spec_StoreOk : An := .z
theorem ke_spec_StoreOk : CK [] 0 ane_spec_StoreOk Tryz.f55 e_spec_StoreOk := ⟨trivial, fun _ => by kernel_rfl⟩
noncomputable def ane_spec_StOk : An := .q .z (.q (.m [(.normal, ⟨[(39, .s K13 [])], [.f]⟩)] [1, 2] [0] .z .z) (.m [(.normal, ⟨[], [.f]⟩), (.ret, ⟨[(2, .s K13 [])], [.f]⟩)] [1] [0] (.q .z (.b (.l ⟨[(1, .c (.one (.ptr 0 0)))], [.v K12 []]⟩ ⟨[(3, .s K0 [])], [.f]⟩ [(.exit 0, ⟨[], [.f]⟩), (.ret, ⟨[(2, .s K13 [])], [.f]⟩)] (fun st_1 k i_5 => g_spec_StOk_l0 st_1 k i_5) .z))) (.m [(.normal, ⟨[], [.f]⟩), (.ret, ⟨[(2, .s K13 [])], [.f]⟩)] [1] [0] (.q .z (.b (.l ⟨[(1, .c (.one (.ptr 0 0)))], [.v K12 []]⟩ ⟨[(4, .s K0 [])], [.f]⟩ [(.exit 2, ⟨[], [.f]⟩), (.ret, ⟨[(2, .s K13 [])], [.f]⟩)] (fun st_1 k i_10 => g_spec_StOk_l1 st_1 k i_10) (.q .z (.m [(.normal, ⟨[], [.f]⟩), (.ret, ⟨[(2, .s K13 [])], [.f]⟩)] [4] [] (.b (.q .z (.q .z (.b (.l ⟨[(1, .c (.one (.ptr 0 0))), (4, .s K0 [])], [.v K12 []]⟩ ⟨[(5, .s K0 [])], [.f]⟩ [(.exit 4, ⟨[], [.f]⟩), (.ret, ⟨[(2, .s K13 [])], [.f]⟩)] (fun (i_10, st_1) k k_15 => g_spec_StOk_l2 i_10 st_1 k k_15) .z))))) .z))))) .z)))
theorem ke_spec_StOk : CK [e_spec_l01In, e_spec_StoreOk] 0 ane_spec_StOk Tryz.f14 e_spec_StOk := ⟨⟨trivial, ⟨⟨trivial, trivial⟩, ⟨⟨trivial, ⟨fun _ _ => rfl, fun _ _ _ _ => by kernel_rfl, trivial⟩⟩, ⟨⟨trivial, ⟨fun _ _ => rfl, fun _ _ _ _ => by kernel_rfl, ⟨trivial, ⟨⟨trivial, ⟨trivial, ⟨fun _ _ => rfl, fun _ _ _ _ => by kernel_rfl, trivial⟩⟩⟩, trivial⟩⟩⟩⟩, trivial⟩⟩⟩⟩, fun _ => by kernel_rfl⟩
end Go.Proofs.YtofjeimkphojaaaGreatDoor
namespace Go.Proofs.YtofjeimkphojaaaGreatDoor
open Go Go.Fm
set_option maxRecDepth 1000000
noncomputable def ane_spec_l21Marks : An := .q .z (.q .z (.m [(.normal, ⟨[(5, .s K18 [(0, 0)])], [.o]⟩)] [0, 1, 4] [] (.q .z (.b (.l ⟨[(0, .s K9 []), (1, .s K0 []), (4, .c (.one (.emp)))], [.n]⟩ ⟨[(5, .s K18 [(0, 0)]), (6, .s K0 [])], [.o]⟩ [(.exit 0, ⟨[(5, .s K18 [(0, 0)])], [.o]⟩)] (fun (stops_1, n_2) k (out_6, i_7) => g_spec_l21Marks_l0 stops_1 n_2 k out_6 i_7) (.q .z (.m [(.normal, ⟨[(5, .s K18 [(0, 0)])], [.o]⟩)] [6] [] .z .z))))) .z))
theorem ke_spec_l21Marks : CK [e_spec_l01In] 0 ane_spec_l21Marks Tryz.f67 e_spec_l21Marks := ⟨⟨trivial, ⟨trivial, ⟨⟨trivial, ⟨fun _ _ => rfl, fun _ _ _ _ => by kernel_rfl, ⟨trivial, ⟨trivial, trivial⟩⟩⟩⟩, trivial⟩⟩⟩, fun _ => by kernel_rfl⟩
noncomputable def ane_spec_l08Copy : An := .z
theorem ke_spec_l08Copy : CK [] 0 ane_spec_l08Copy Tryz.f68 e_spec_l08Copy := ⟨trivial, fun _ => by kernel_rfl⟩
noncomputable def ane_spec_l21Goes : An := .z
theorem ke_spec_l21Goes : CK [] 0 ane_spec_l21Goes Tryz.f69 e_spec_l21Goes := ⟨trivial, fun _ => by kernel_rfl⟩
noncomputable def ane_spec_l08Fault : An := .z
theorem ke_spec_l08Fault : CK [e_spec_l08Copy] 0 ane_spec_l08Fault Tryz.f125 e_spec_l08Fault := ⟨trivial, fun _ => by kernel_rfl⟩
noncomputable def ane_spec_l12To : An := .q .z (.m [(.normal, ⟨[(2, .s K0 [])], [.f, .f, .f]⟩)] [3, 4, 6] [0, 1, 2] .z .z)
theorem ke_spec_l12To : CK [] 0 ane_spec_l12To Tryz.f124 e_spec_l12To := ⟨⟨trivial, ⟨trivial, trivial⟩⟩, fun _ => by kernel_rfl⟩
noncomputable def ane_spec_l08Put : An := .z
theorem ke_spec_l08Put : CK [e_spec_l08Fault, e_spec_l08Copy] 0 ane_spec_l08Put Tryz.f176 e_spec_l08Put := ⟨trivial, fun _ => by kernel_rfl⟩
noncomputable def ane_spec_PushN : An := .z
theorem ke_spec_PushN : CK [e_spec_StOk, e_spec_l08Copy, e_spec_l08Put] 0 ane_spec_PushN Tryz.f126 e_spec_PushN := ⟨trivial, fun _ => by kernel_rfl⟩
noncomputable def ane_spec_l08Takes : An := .q .z (.m [(.normal, ⟨[], []⟩), (.ret, ⟨[(2, .s K0 [])], []⟩)] [0] [] (.q .z (.b (.m [(.normal, ⟨[(4, .s K13 [])], []⟩)] [2, 3] [] .z (.q .z (.m [(.normal, ⟨[(14, .s K13 [])], []⟩)] [2, 3] [] .z .z))))) .z)
theorem ke_spec_l08Takes : CK [] 0 ane_spec_l08Takes Tryz.f177 e_spec_l08Takes := ⟨⟨trivial, ⟨⟨trivial, ⟨trivial, ⟨trivial, ⟨trivial, trivial⟩⟩⟩⟩, trivial⟩⟩, fun _ => by kernel_rfl⟩
end Go.Proofs.YtofjeimkphojaaaGreatDoor
namespace Go.Proofs.YtofjeimkphojaaaGreatDoor
open Go Go.Fm
set_option maxRecDepth 1000000
noncomputable def ane_spec_l08Pure : An := .q .z (.m [(.normal, ⟨[], []⟩), (.ret, ⟨[(6, .s K4 [(0, 0)]), (7, .s K13 [])], [.o]⟩)] [0, 1, 2] [] (.q .z (.b (.q .z (.q .z (.m [(.normal, ⟨[(14, .s K13 [])], []⟩)] [6, 7, 8] [] .z .z))))) .z)
theorem ke_spec_l08Pure : CK [] 0 ane_spec_l08Pure Tryz.f178 e_spec_l08Pure := ⟨⟨trivial, ⟨⟨trivial, ⟨trivial, ⟨trivial, ⟨trivial, trivial⟩⟩⟩⟩, trivial⟩⟩, fun _ => by kernel_rfl⟩
noncomputable def ane_spec_l08Divide : An := .z
theorem ke_spec_l08Divide : CK [e_spec_l08Fault, e_spec_l08Put] 0 ane_spec_l08Divide Tryz.f204 e_spec_l08Divide := ⟨trivial, fun _ => by kernel_rfl⟩
noncomputable def ane_spec_l08Place : An := .z
theorem ke_spec_l08Place : CK [e_spec_l01In] 0 ane_spec_l08Place Tryz.f224 e_spec_l08Place := ⟨trivial, fun _ => by kernel_rfl⟩
noncomputable def ane_spec_l08Fetch : An := .z
theorem ke_spec_l08Fetch : CK [e_spec_l08Place, e_spec_l08Fault, e_spec_l08Put] 0 ane_spec_l08Fetch Tryz.f205 e_spec_l08Fetch := ⟨trivial, fun _ => by kernel_rfl⟩
noncomputable def ane_spec_l08Store : An := .q .z (.q .z (.q .z (.q .z (.m [(.normal, ⟨[], [.f, .v K12 [(0, 11), (1, 12), (3, 13), (4, 14), (5, 15), (6, 16), (7, 17)], .d, .o, .o, .o, .o, .o, .o, .o, .v K12 [(0, 3), (1, 4), (3, 5), (4, 6), (5, 7), (6, 8), (7, 9)], .o, .o, .o, .o, .o, .o, .o]⟩), (.ret, ⟨[], [.f, .v K12 [(0, 3), (1, 4), (3, 5), (4, 6), (5, 7), (6, 8), (7, 9)], .d, .o, .o, .o, .o, .o, .o, .o, .v K12 [(0, 3), (1, 4), (3, 5), (4, 6), (5, 7), (6, 8), (7, 9)]]⟩)] [1, 3, 6, 7, 8] [0] (.q .z (.b (.l ⟨[(1, .s K3 []), (3, .c (.one (.ptr 0 0))), (6, .c (.one (.ptr 1 0))), (7, .s K0 []), (8, .c (.one (.ptr 10 0)))], [.v K12 [], .n, .n, .n, .n, .n, .n, .n, .n, .n, .n, .n, .n, .n, .n, .n, .n, .n]⟩ ⟨[(9, .s K0 [])], [.f, .v K12 [(0, 11), (1, 12), (3, 13), (4, 14), (5, 15), (6, 16), (7, 17)], .d, .o, .o, .o, .o, .o, .o, .o, .v K12 [(0, 3), (1, 4), (3, 5), (4, 6), (5, 7), (6, 8), (7, 9)], .o, .o, .o, .o, .o, .o, .o]⟩ [(.exit 0, ⟨[], [.f, .v K12 [(0, 11), (1, 12), (3, 13), (4, 14), (5, 15), (6, 16), (7, 17)], .d, .o, .o, .o, .o, .o, .o, .o, .v K12 [(0, 3), (1, 4), (3, 5), (4, 6), (5, 7), (6, 8), (7, 9)], .o, .o, .o, .o, .o, .o, .o]⟩), (.ret, ⟨[], [.f, .v K12 [(0, 3), (1, 4), (3, 5), (4, 6), (5, 7), (6, 8), (7, 9)], .d, .o, .o, .o, .o, .o, .o, .o, .v K12 [(0, 3), (1, 4), (3, 5), (4, 6), (5, 7), (6, 8), (7, 9)], .d, .d, .d, .d, .d, .d, .d]⟩)] (fun (n_2, yu378_5, st_1) k (i_13, x_14, x_15) => g_spec_l08Store_l0 n_2 yu378_5 st_1 k i_13 x_14 x_15) (.q .z (.q (.b (.m [(.normal, ⟨[(42, .s K13 [])], [.f, .f, .d, .f, .f, .f, .f, .f, .f, .f, .f, .f, .f, .f, .f, .f, .f, .f]⟩)] [9] [1, 3, 4, 5, 6, 7, 8, 9, 10, 11, 12, 13, 14, 15, 16, 17] .z .z)) .z))))) .z))))
theorem ke_spec_l08Store : CK [e_spec_l08Place, e_spec_l08Put, e_spec_l01In, e_spec_l08Fault] 0 ane_spec_l08Store Tryz.f206 e_spec_l08Store := ⟨⟨trivial, ⟨trivial, ⟨trivial, ⟨trivial, ⟨⟨trivial, ⟨fun _ _ => rfl, fun _ _ _ _ => by kernel_rfl, ⟨trivial, ⟨⟨trivial, trivial⟩, trivial⟩⟩⟩⟩, trivial⟩⟩⟩⟩⟩, fun _ => by kernel_rfl⟩
noncomputable def ane_spec_l08Say : An := .z
theorem ke_spec_l08Say : CK [e_spec_l08Fault, e_spec_l08Put] 0 ane_spec_l08Say Tryz.f207 e_spec_l08Say := ⟨trivial, fun _ => by kernel_rfl⟩
noncomputable def ane_spec_DecText : An := .q .z (.q .z (.q .z (.q .z (.q (.b (.l ⟨[(0, .s K0 []), (2, .s K15 [])], []⟩ ⟨[(3, .s K15 []), (4, .s K0 [])], []⟩ [(.exit 0, ⟨[(3, .s K15 [])], []⟩)] (fun _ k (out_4, m_5) => g_spec_DecText_l0 k out_4 m_5) (.q .z (.b (.q .z (.m [(.normal, ⟨[(5, .s K0 [])], []⟩)] [3, 4] [] .z .z)))))) .z))))
theorem ke_spec_DecText : CK [] 0 ane_spec_DecText Tryz.f161 e_spec_DecText := ⟨⟨trivial, ⟨trivial, ⟨trivial, ⟨trivial, ⟨⟨fun _ _ => rfl, fun _ _ _ _ => by kernel_rfl, ⟨trivial, ⟨trivial, ⟨trivial, trivial⟩⟩⟩⟩, trivial⟩⟩⟩⟩⟩, fun _ => by kernel_rfl⟩
noncomputable def ane_spec_l08Back : An := .q .z (.q .z (.q .z (.q .z (.q (.m [(.normal, ⟨[(31, .s K13 [])], [.f, .f, .f]⟩)] [1, 2, 4, 5, 6] [0, 1, 2] .z .z) (.q .z (.m [(.normal, ⟨[], [.d, .f, .d, .d, .o, .d, .o, .o, .o, .o, .o, .v K12 [(0, 4), (1, 12), (3, 6), (4, 7), (5, 8), (6, 9), (7, 10)], .o]⟩)] [1, 4, 5, 7] [1] (.m [(.normal, ⟨[(44, .s K13 [])], [.d, .f, .d, .d, .f, .f, .f, .f, .f, .f, .f, .f]⟩)] [] [4, 5, 6, 7, 8, 9, 10, 11] .z .z) .z))))))
theorem ke_spec_l08Back : CK [e_spec_l08Fault, e_spec_l08Put] 0 ane_spec_l08Back Tryz.f208 e_spec_l08Back := ⟨⟨trivial, ⟨trivial, ⟨trivial, ⟨trivial, ⟨⟨trivial, trivial⟩, ⟨trivial, ⟨⟨trivial, trivial⟩, trivial⟩⟩⟩⟩⟩⟩⟩, fun _ => by kernel_rfl⟩
end Go.Proofs.YtofjeimkphojaaaGreatDoor
namespace Go.Proofs.YtofjeimkphojaaaGreatDoor
open Go Go.Fm
set_option maxRecDepth 1000000
noncomputable def ane_spec_l08Other : An := .q .z (.q (.q .z (.b (.q .z (.q .z (.q .z (.q .z (.q .z (.q .z (.q .z (.q .z (.q .z (.q .z (.q .z (.q .z (.q .z (.q .z (.q .z (.q (.q .z (.m [(.normal, ⟨[(10, .s K3 [])], [.f, .f]⟩)] [1, 4, 8] [0, 1] .z (.q .z (.m [(.normal, ⟨[], [.f, .f, .d, .o, .o, .o, .o, .o, .o, .d, .v K12 [(0, 3), (1, 4), (3, 5), (4, 6), (5, 7), (6, 8), (7, 11)], .o]⟩)] [1, 4, 8, 11] [0, 1] (.m [(.normal, ⟨[(86, .s K13 [])], [.f, .f, .d, .f, .f, .f, .f, .f, .f, .f, .f]⟩)] [] [3, 4, 5, 6, 7, 8, 9, 10] .z .z) .z)))) .z)))))))))))))))))) .z)
theorem ke_spec_l08Other : CK [e_spec_l08Divide, e_spec_l08Fetch, e_spec_l08Store, e_spec_l08Put, e_spec_l08Say, e_spec_DecText, e_spec_l08Fault, e_spec_l08Back] 0 ane_spec_l08Other Tryz.f179 e_spec_l08Other := ⟨⟨trivial, ⟨⟨trivial, ⟨trivial, ⟨trivial, ⟨trivial, ⟨trivial, ⟨trivial, ⟨trivial, ⟨trivial, ⟨trivial, ⟨trivial, ⟨trivial, ⟨trivial, ⟨trivial, ⟨trivial, ⟨trivial, ⟨trivial, ⟨⟨trivial, ⟨trivial, ⟨trivial, ⟨⟨trivial, trivial⟩, trivial⟩⟩⟩⟩, trivial⟩⟩⟩⟩⟩⟩⟩⟩⟩⟩⟩⟩⟩⟩⟩⟩⟩, trivial⟩⟩, fun _ => by kernel_rfl⟩
noncomputable def ane_spec_Do : An := .q .z (.q .z (.q .z (.q .z (.q .z (.q .z (.q .z (.q .z (.m [(.normal, ⟨[(9, .s K3 [])], [.f, .f]⟩)] [2, 4, 5, 6, 7, 8] [0, 1] .z (.m [(.normal, ⟨[(8, .s K3 [])], [.f, .f]⟩)] [2, 4, 5, 6, 7, 9] [0, 1] .z .z)))))))))
theorem ke_spec_Do : CK [e_spec_StOk, e_spec_l08Copy, e_spec_PrimName, e_spec_l08Fault, e_spec_l08Takes, e_spec_l08Pure, e_spec_l08Put, e_spec_l08Other] 0 ane_spec_Do Tryz.f127 e_spec_Do := ⟨⟨trivial, ⟨trivial, ⟨trivial, ⟨trivial, ⟨trivial, ⟨trivial, ⟨trivial, ⟨trivial, ⟨trivial, ⟨trivial, trivial⟩⟩⟩⟩⟩⟩⟩⟩⟩⟩, fun _ => by kernel_rfl⟩
noncomputable def ane_spec_l12Put : An := .z
theorem ke_spec_l12Put : CK [e_spec_l08Fault, e_spec_l08Copy] 0 ane_spec_l12Put Tryz.f128 e_spec_l12Put := ⟨trivial, fun _ => by kernel_rfl⟩
noncomputable def ane_spec_l12For : An := .q .z (.q .z (.q .z (.q .z (.m [(.normal, ⟨[], [.f, .d, .f, .d, .o, .o, .o, .o, .o, .o, .v K12 [(0, 11), (1, 4), (3, 5), (4, 6), (5, 7), (6, 8), (7, 9)], .o]⟩)] [2, 4, 5, 6] [0, 2] .z .z))))
theorem ke_spec_l12For : CK [e_spec_l08Fault, e_spec_l12To, e_spec_l12Put] 0 ane_spec_l12For Tryz.f129 e_spec_l12For := ⟨⟨trivial, ⟨trivial, ⟨trivial, ⟨trivial, ⟨trivial, trivial⟩⟩⟩⟩⟩, fun _ => by kernel_rfl⟩
noncomputable def ane_spec_l12Drop : An := .z
theorem ke_spec_l12Drop : CK [e_spec_l08Copy] 0 ane_spec_l12Drop Tryz.f180 e_spec_l12Drop := ⟨trivial, fun _ => by kernel_rfl⟩
noncomputable def ane_spec_l12Next : An := .z
theorem ke_spec_l12Next : CK [e_spec_l08Fault, e_spec_l12To, e_spec_l08Copy, e_spec_l12Drop] 0 ane_spec_l12Next Tryz.f130 e_spec_l12Next := ⟨trivial, fun _ => by kernel_rfl⟩
noncomputable def ane_spec_l12Ret : An := .q .z (.q (.m [(.normal, ⟨[(23, .s K13 [])], [.f, .f, .f]⟩)] [2, 3, 4, 6] [0, 1, 2] .z .z) .z)
theorem ke_spec_l12Ret : CK [e_spec_l08Fault, e_spec_l12To, e_spec_l12Drop, e_spec_l01In] 0 ane_spec_l12Ret Tryz.f131 e_spec_l12Ret := ⟨⟨trivial, ⟨⟨trivial, trivial⟩, trivial⟩⟩, fun _ => by kernel_rfl⟩
noncomputable def ane_spec_l12Test : An := .q .z (.q .z (.q .z (.q .z (.q (.m [(.normal, ⟨[(39, .s K13 [])], [.f, .f, .f, .f]⟩)] [3, 4, 5, 6, 8] [0, 1, 2, 3] .z .z) .z))))
theorem ke_spec_l12Test : CK [e_spec_l08Fault, e_spec_l12To] 0 ane_spec_l12Test Tryz.f132 e_spec_l12Test := ⟨⟨trivial, ⟨trivial, ⟨trivial, ⟨trivial, ⟨⟨trivial, trivial⟩, trivial⟩⟩⟩⟩⟩, fun _ => by kernel_rfl⟩
end Go.Proofs.YtofjeimkphojaaaGreatDoor
namespace Go.Proofs.YtofjeimkphojaaaGreatDoor
open Go Go.Fm
set_option maxRecDepth 1000000
noncomputable def ane_spec_l12Step : An := .z
theorem ke_spec_l12Step : CK [e_spec_l08Fault, e_spec_l12To, e_spec_l08Copy, e_spec_PushN, e_spec_Do, e_spec_l12Put, e_spec_l12For, e_spec_l12Next, e_spec_l12Ret, e_spec_l12Test] 0 ane_spec_l12Step Tryz.f70 e_spec_l12Step := ⟨trivial, fun _ => by kernel_rfl⟩
noncomputable def ane_spec_RunTo : An := .q .z (.q (.m [(.normal, ⟨[(35, .s K13 [])], [.f, .f]⟩)] [0, 2, 3, 5, 8, 9] [0, 1] .z .z) (.q .z (.q .z (.q .z (.q (.b (.l ⟨[(0, .s K2 []), (3, .s K0 []), (8, .c (.one (.ptr 1 0))), (9, .s K0 []), (10, .s K18 [(0, 2)]), (11, .c (.one (.ptr 10 0)))], [.n, .v K14 [], .o, .n, .n, .n, .n, .n, .n, .n, .n]⟩ ⟨[(12, .s K0 [])], [.d, .f, .f, .d, .d, .d, .d, .d, .d, .d, .v K14 []]⟩ [(.exit 0, ⟨[(12, .s K0 [])], [.d, .f, .f, .d, .d, .d, .d, .d, .d, .d, .v K14 []]⟩)] (fun (code_1, n_4, _, marks_15, _) k (k_17, x_18) => g_spec_RunTo_l0 code_1 n_4 marks_15 k k_17 x_18) (.q (.m [(.normal, ⟨[(67, .s K13 [])], [.d, .f, .f, .d, .d, .d, .d, .d, .d, .d, .f]⟩)] [12] [10] .z .z) .z))) .z)))))
theorem ke_spec_RunTo : CK [e_spec_CodeOk, e_spec_l01In, e_spec_StOk, e_spec_l21Marks, e_spec_l08Copy, e_spec_l21Goes, e_spec_l12Step] 0 ane_spec_RunTo Tryz.f20 e_spec_RunTo := ⟨⟨trivial, ⟨⟨trivial, trivial⟩, ⟨trivial, ⟨trivial, ⟨trivial, ⟨⟨fun _ _ => rfl, fun _ _ _ _ => by kernel_rfl, ⟨⟨trivial, trivial⟩, trivial⟩⟩, trivial⟩⟩⟩⟩⟩⟩, fun _ => by kernel_rfl⟩
noncomputable def ane_impl_within : An := .z
theorem ke_impl_within : CK [] 0 ane_impl_within Tryz.f60 e_impl_within := ⟨trivial, fun _ => by kernel_rfl⟩
noncomputable def ane_strings_Fields : An := .q .z (.q .z (.q .z (.q .z (.m [(.normal, ⟨[(3, .s K0 []), (5, .s K10 [])], []⟩)] [0, 2] [] (.q .z (.b (.l ⟨[(0, .s K15 []), (2, .c (.one (.emp)))], []⟩ ⟨[(3, .s K0 []), (4, .s K0 []), (5, .s K10 []), (6, .s K0 [])], []⟩ [(.exit 0, ⟨[(3, .s K0 []), (5, .s K10 [])], []⟩)] (fun s_1 k (n_5, wasSpace_6, setBits_7, i_8) => g_strings_Fields_l0 s_1 k n_5 wasSpace_6 setBits_7 i_8) .z))) (.q .z (.q .z (.q .z (.q .z (.q .z (.q (.b (.l ⟨[(0, .s K15 []), (2, .c (.one (.emp))), (9, .s K16 [(0, 0)]), (10, .s K0 [])], [.o]⟩ ⟨[(12, .s K0 [])], [.f]⟩ [(.exit 2, ⟨[(12, .s K0 [])], [.f]⟩)] (fun (s_1, _, _) k i_15 => g_strings_Fields_l1 s_1 k i_15) (.q (.m [(.normal, ⟨[(53, .s K13 [])], [.f]⟩)] [12] [] .z .z) .z))) (.q .z (.q (.b (.l ⟨[(0, .s K15 []), (2, .c (.one (.emp)))], [.n]⟩ ⟨[(9, .s K16 [(0, 0)]), (10, .s K0 []), (11, .s K0 []), (12, .s K0 [])], [.o]⟩ [(.exit 4, ⟨[(9, .s K16 [(0, 0)]), (10, .s K0 []), (11, .s K0 [])], [.o]⟩)] (fun s_1 k (a_20, na_21, fieldStart_22, i_23) => g_strings_Fields_l2 s_1 k a_20 na_21 fieldStart_22 i_23) (.q .z (.b (.q .z (.q .z (.q .z (.q .z (.q (.b (.l ⟨[(0, .s K15 []), (2, .c (.one (.emp))), (9, .s K16 [(0, 0)]), (10, .s K0 []), (11, .s K0 [])], [.o]⟩ ⟨[(12, .s K0 [])], [.f]⟩ [(.exit 6, ⟨[(12, .s K0 [])], [.f]⟩)] (fun (s_1, _, _, _) k i_33 => g_strings_Fields_l3 s_1 k i_33) (.q (.m [(.normal, ⟨[(91, .s K13 [])], [.f]⟩)] [12] [] .z .z) .z))) .z))))))))) (.m [(.normal, ⟨[(9, .s K16 [(0, 0)])], [.o]⟩)] [0, 2, 10, 11] [] .z .z)))))))))))))
theorem ke_strings_Fields : CK [] 0 ane_strings_Fields Tryz.f215 e_strings_Fields := ⟨⟨trivial, ⟨trivial, ⟨trivial, ⟨trivial, ⟨⟨trivial, ⟨fun _ _ => rfl, fun _ _ _ _ => by kernel_rfl, trivial⟩⟩, ⟨trivial, ⟨trivial, ⟨trivial, ⟨trivial, ⟨trivial, ⟨⟨fun _ _ => rfl, fun _ _ _ _ => by kernel_rfl, ⟨⟨trivial, trivial⟩, trivial⟩⟩, ⟨trivial, ⟨⟨fun _ _ => rfl, fun _ _ _ _ => by kernel_rfl, ⟨trivial, ⟨trivial, ⟨trivial, ⟨trivial, ⟨trivial, ⟨⟨fun _ _ => rfl, fun _ _ _ _ => by kernel_rfl, ⟨⟨trivial, trivial⟩, trivial⟩⟩, trivial⟩⟩⟩⟩⟩⟩⟩, ⟨trivial, trivial⟩⟩⟩⟩⟩⟩⟩⟩⟩⟩⟩⟩⟩⟩, fun _ => by kernel_rfl⟩
noncomputable def ane_impl_prims : An := .z
theorem ke_impl_prims : CK [e_strings_Fields] 0 ane_impl_prims Tryz.f191 e_impl_prims := ⟨trivial, fun _ => by kernel_rfl⟩
noncomputable def ane_impl_PrimName : An := .z
theorem ke_impl_PrimName : CK [e_impl_prims, e_impl_within] 0 ane_impl_PrimName Tryz.f160 e_impl_PrimName := ⟨trivial, fun _ => by kernel_rfl⟩
noncomputable def ane_impl_CodeOkc1 : An := .q .z (.m [(.normal, ⟨[], [.f, .f]⟩), (.ret, ⟨[(3, .s K13 [])], [.f, .f]⟩)] [1, 2] [1] (.q .z (.b (.m [(.normal, ⟨[(6, .s K13 [])], [.f, .f]⟩)] [3, 5] [] .z (.q .z (.q .z (.q .z (.q .z (.q .z (.m [(.normal, ⟨[(33, .s K13 [])], [.f, .f]⟩)] [3, 5] [] .z .z))))))))) .z)
theorem ke_impl_CodeOkc1 : CK [e_impl_within, e_impl_PrimName] 1 ane_impl_CodeOkc1 Tryz.f183 e_impl_CodeOkc1 := ⟨⟨trivial, ⟨⟨trivial, ⟨trivial, ⟨trivial, ⟨trivial, ⟨trivial, ⟨trivial, ⟨trivial, ⟨trivial, trivial⟩⟩⟩⟩⟩⟩⟩⟩, trivial⟩⟩, fun _ => by kernel_rfl⟩
noncomputable def ane_slices_IndexFunc_Ins_impl_CodeOkc1 : An := .q .z (.m [(.normal, ⟨[], [.f]⟩), (.ret, ⟨[(4, .s K0 [])], [.f]⟩)] [0, 1] [] (.q .z (.b (.l ⟨[(0, .s K2 []), (1, .c (.one (.fn 183 [(0, 0)]))), (7, .s K0 [])], [.v K0 []]⟩ ⟨[(8, .s K0 [])], [.f]⟩ [(.exit 0, ⟨[], [.f]⟩), (.ret, ⟨[(4, .s K0 [])], [.f]⟩)] (fun (s_1, v_5, c_2) k v_6 => g_slices_IndexFunc_Ins_impl_CodeOkc1_l0 s_1 v_5 c_2 k v_6) .z))) .z)
theorem ke_slices_IndexFunc_Ins_impl_CodeOkc1 : CK [e_impl_CodeOkc1] 1 ane_slices_IndexFunc_Ins_impl_CodeOkc1 Tryz.f209 e_slices_IndexFunc_Ins_impl_CodeOkc1 := ⟨⟨trivial, ⟨⟨trivial, ⟨fun _ _ => rfl, fun _ _ _ _ => by kernel_rfl, trivial⟩⟩, trivial⟩⟩, fun _ => by kernel_rfl⟩
end Go.Proofs.YtofjeimkphojaaaGreatDoor
namespace Go.Proofs.YtofjeimkphojaaaGreatDoor
open Go Go.Fm
set_option maxRecDepth 1000000
noncomputable def ane_slices_ContainsFunc_Ins_impl_CodeOkc1 : An := .z
theorem ke_slices_ContainsFunc_Ins_impl_CodeOkc1 : CK [e_slices_IndexFunc_Ins_impl_CodeOkc1] 1 ane_slices_ContainsFunc_Ins_impl_CodeOkc1 Tryz.f182 e_slices_ContainsFunc_Ins_impl_CodeOkc1 := ⟨trivial, fun _ => by kernel_rfl⟩
noncomputable def ane_impl_CodeOk : An := .q .z (.q .z (.q (.m [(.normal, ⟨[(17, .s K13 [])], [.f]⟩)] [0, 2, 3] [0] .z .z) .z))
theorem ke_impl_CodeOk : CK [e_impl_within, e_slices_ContainsFunc_Ins_impl_CodeOkc1] 0 ane_impl_CodeOk Tryz.f137 e_impl_CodeOk := ⟨⟨trivial, ⟨trivial, ⟨⟨trivial, trivial⟩, trivial⟩⟩⟩, fun _ => by kernel_rfl⟩
noncomputable def ane_impl_StoreOk : An := .z
theorem ke_impl_StoreOk : CK [] 0 ane_impl_StoreOk Tryz.f162 e_impl_StoreOk := ⟨trivial, fun _ => by kernel_rfl⟩
noncomputable def ane_slices_Index_int : An := .q .z (.m [(.normal, ⟨[], []⟩), (.ret, ⟨[(4, .s K0 [])], []⟩)] [0, 1] [] (.q .z (.b (.l ⟨[(0, .s K9 []), (1, .s K0 []), (7, .s K0 [])], []⟩ ⟨[(8, .s K0 [])], []⟩ [(.exit 0, ⟨[], []⟩), (.ret, ⟨[(4, .s K0 [])], []⟩)] (fun (s_1, v_2, v_5) k v_6 => g_slices_Index_int_l0 s_1 v_2 v_5 k v_6) .z))) .z)
theorem ke_slices_Index_int : CK [] 0 ane_slices_Index_int Tryz.f144 e_slices_Index_int := ⟨⟨trivial, ⟨⟨trivial, ⟨fun _ _ => rfl, fun _ _ _ _ => by kernel_rfl, trivial⟩⟩, trivial⟩⟩, fun _ => by kernel_rfl⟩
noncomputable def ane_slices_Contains_int : An := .z
theorem ke_slices_Contains_int : CK [e_slices_Index_int] 0 ane_slices_Contains_int Tryz.f77 e_slices_Contains_int := ⟨trivial, fun _ => by kernel_rfl⟩
noncomputable def ane_impl_StOk : An := .q .z (.q (.m [(.normal, ⟨[(35, .s K13 [])], [.f]⟩)] [1, 2] [0] .z .z) (.m [(.normal, ⟨[], [.f]⟩), (.ret, ⟨[(2, .s K13 [])], [.f]⟩)] [1] [0] (.q .z (.b (.l ⟨[(1, .c (.one (.ptr 0 0))), (37, .s K6 []), (38, .s K0 [])], [.v K12 []]⟩ ⟨[(39, .s K0 [])], [.f]⟩ [(.exit 0, ⟨[], [.f]⟩), (.ret, ⟨[(2, .s K13 [])], [.f]⟩)] (fun (v_6, v_7, _) k v_8 => g_impl_StOk_l0 v_6 v_7 k v_8) .z))) (.m [(.normal, ⟨[], [.f]⟩), (.ret, ⟨[(2, .s K13 [])], [.f]⟩)] [1] [0] (.q .z (.b (.l ⟨[(1, .c (.one (.ptr 0 0))), (49, .s K9 []), (50, .s K0 [])], [.v K12 []]⟩ ⟨[(51, .s K0 [])], [.f]⟩ [(.exit 2, ⟨[], [.f]⟩), (.ret, ⟨[(2, .s K13 [])], [.f]⟩)] (fun (v_13, v_14, st_1) k v_15 => g_impl_StOk_l1 v_13 v_14 st_1 k v_15) (.q .z (.q .z (.q (.b (.q .z (.m [(.normal, ⟨[(70, .s K13 [])], [.f]⟩)] [5, 6, 51] [] .z .z))) .z)))))) .z)))
theorem ke_impl_StOk : CK [e_impl_StoreOk, e_impl_within, e_slices_Contains_int] 0 ane_impl_StOk Tryz.f91 e_impl_StOk := ⟨⟨trivial, ⟨⟨trivial, trivial⟩, ⟨⟨trivial, ⟨fun _ _ => rfl, fun _ _ _ _ => by kernel_rfl, trivial⟩⟩, ⟨⟨trivial, ⟨fun _ _ => rfl, fun _ _ _ _ => by kernel_rfl, ⟨trivial, ⟨trivial, ⟨⟨trivial, ⟨trivial, trivial⟩⟩, trivial⟩⟩⟩⟩⟩, trivial⟩⟩⟩⟩, fun _ => by kernel_rfl⟩
noncomputable def ane_impl_ticks : An := .z
theorem ke_impl_ticks : CK [e_impl_CodeOk, e_impl_within, e_impl_StOk] 0 ane_impl_ticks Tryz.f73 e_impl_ticks := ⟨trivial, fun _ => by kernel_rfl⟩
theorem fe_slices_Clone_int32 : ConOk Tryz.prog e_slices_Clone_int32 := clone_own (P := fun _ => Tryz.prog) (τ := K3) TryzT_eq Tryz.func111 rfl rfl ⟨by kernel_rfl, by kernel_rfl, by kernel_rfl⟩ (congrArg TyI.kind TryzT_28) (fun a => by kernel_rfl)
end Go.Proofs.YtofjeimkphojaaaGreatDoor
namespace Go.Proofs.YtofjeimkphojaaaGreatDoor
open Go Go.Fm
set_option maxRecDepth 1000000
theorem fe_slices_Clone_Slot : ConOk Tryz.prog e_slices_Clone_Slot := clone_own (P := fun _ => Tryz.prog) (τ := K5) TryzT_eq Tryz.func112 rfl rfl ⟨by kernel_rfl, by kernel_rfl, by kernel_rfl⟩ (congrArg TyI.kind TryzT_29) (fun a => by kernel_rfl)
theorem fe_slices_Clone_uint32 : ConOk Tryz.prog e_slices_Clone_uint32 := clone_own (P := fun _ => Tryz.prog) (τ := K7) TryzT_eq Tryz.func113 rfl rfl ⟨by kernel_rfl, by kernel_rfl, by kernel_rfl⟩ (congrArg TyI.kind TryzT_30) (fun a => by kernel_rfl)
theorem fe_slices_Clone_int : ConOk Tryz.prog e_slices_Clone_int := clone_own (P := fun _ => Tryz.prog) (τ := K0) TryzT_eq Tryz.func114 rfl rfl ⟨by kernel_rfl, by kernel_rfl, by kernel_rfl⟩ (congrArg TyI.kind TryzT_31) (fun a => by kernel_rfl)
theorem fe_slices_Clone_byte : ConOk Tryz.prog e_slices_Clone_byte := clone_own (P := fun _ => Tryz.prog) (τ := K10) TryzT_eq Tryz.func115 rfl rfl ⟨by kernel_rfl, by kernel_rfl, by kernel_rfl⟩ (congrArg TyI.kind TryzT_22) (fun a => by kernel_rfl)
noncomputable def ane_impl_ownSt : An := .z
theorem ke_impl_ownSt : CK [e_slices_Clone_int32, e_slices_Clone_Slot, e_slices_Clone_uint32, e_slices_Clone_int, e_slices_Clone_byte] 0 ane_impl_ownSt Tryz.f62 e_impl_ownSt := ⟨trivial, fun _ => by kernel_rfl⟩
noncomputable def ane_impl_ownMach : An := .z
theorem ke_impl_ownMach : CK [e_impl_ownSt] 0 ane_impl_ownMach Tryz.f74 e_impl_ownMach := ⟨trivial, fun _ => by kernel_rfl⟩
noncomputable def ane_impl_Mach_over_rd : An := .z
theorem ke_impl_Mach_over_rd : CK [] 8 ane_impl_Mach_over_rd Tryz.f75 e_impl_Mach_over_rd := ⟨trivial, fun _ => by kernel_rfl⟩
end Go.Proofs.YtofjeimkphojaaaGreatDoor
namespace Go.Proofs.YtofjeimkphojaaaGreatDoor
open Go Go.Fm
set_option maxRecDepth 1000000
noncomputable def ane_impl_St_pushes_inGMach_0 : An := .z
theorem ke_impl_St_pushes_inGMach_0 : CK [] 8 ane_impl_St_pushes_inGMach_0 Tryz.f138 e_impl_St_pushes_inGMach_0 := ⟨trivial, fun _ => by kernel_rfl⟩
noncomputable def ane_impl_doesc1 : An := .z
theorem ke_impl_doesc1 : CK [e_impl_ownSt] 1 ane_impl_doesc1 Tryz.f184 e_impl_doesc1 := ⟨trivial, fun _ => by kernel_rfl⟩
noncomputable def ane_impl_PrimEffect : An := .q .z (.q .z (.m [(.normal, ⟨[], [.v K19 [], .v K19 []]⟩), (.ret, ⟨[], [.v K19 [], .v K19 []]⟩)] [0, 2, 3] [] (.q .z (.b (.q .z (.q .z (.m [(.normal, ⟨[(13, .s K13 [])], [.f, .f]⟩)] [6] [0, 1] .z (.q .z (.q .z (.q .z (.m [(.normal, ⟨[(26, .s K13 [])], [.f, .f]⟩)] [6] [0, 1] .z (.q .z (.m [(.normal, ⟨[(34, .s K13 [])], [.f, .f]⟩)] [6] [0, 1] .z (.q .z (.m [(.normal, ⟨[(38, .s K13 [])], [.f, .f]⟩)] [6] [0, 1] .z (.q .z (.q .z (.q .z (.m [(.normal, ⟨[(48, .s K13 [])], [.f, .f]⟩)] [6] [0, 1] .z .z))))))))))))))))) .z))
theorem ke_impl_PrimEffect : CK [e_impl_PrimName] 0 ane_impl_PrimEffect Tryz.f210 e_impl_PrimEffect := ⟨⟨trivial, ⟨trivial, ⟨⟨trivial, ⟨trivial, ⟨trivial, ⟨trivial, ⟨trivial, ⟨trivial, ⟨trivial, ⟨trivial, ⟨trivial, ⟨trivial, ⟨trivial, ⟨trivial, ⟨trivial, ⟨trivial, ⟨trivial, ⟨trivial, trivial⟩⟩⟩⟩⟩⟩⟩⟩⟩⟩⟩⟩⟩⟩⟩⟩, trivial⟩⟩⟩, fun _ => by kernel_rfl⟩
noncomputable def ane_impl_wants : An := .z
theorem ke_impl_wants : CK [e_impl_PrimEffect] 0 ane_impl_wants Tryz.f185 e_impl_wants := ⟨trivial, fun _ => by kernel_rfl⟩
noncomputable def ane_impl_St_written : An := .z
theorem ke_impl_St_written : CK [] 8 ane_impl_St_written Tryz.f212 e_impl_St_written := ⟨trivial, fun _ => by kernel_rfl⟩
theorem fe_strconv_Itoa : ConOk Tryz.prog e_strconv_Itoa := itoa_ok (g := 3) itoaLays rfl (by kernel_rfl) (by rw [glob_3, show gtPow10 = Go.Lib.pow10Tab from by kernel_rfl])
noncomputable def ane_impl_DecText : An := .z
theorem ke_impl_DecText : CK [e_strconv_Itoa] 0 ane_impl_DecText Tryz.f93 e_impl_DecText := ⟨trivial, fun _ => by kernel_rfl⟩
end Go.Proofs.YtofjeimkphojaaaGreatDoor
namespace Go.Proofs.YtofjeimkphojaaaGreatDoor
open Go Go.Fm
set_option maxRecDepth 1000000
noncomputable def ane_impl_result : An := .z
theorem ke_impl_result : CK [] 0 ane_impl_result Tryz.f213 e_impl_result := ⟨trivial, fun _ => by kernel_rfl⟩
noncomputable def ane_impl_St_place_rd : An := .z
theorem ke_impl_St_place_rd : CK [e_impl_within] 8 ane_impl_St_place_rd Tryz.f211 e_impl_St_place_rd := ⟨trivial, fun _ => by kernel_rfl⟩
noncomputable def ane_impl_St_effect : An := .q .z (.m [(.normal, ⟨[], [.v K12 [(0, 1), (1, 8), (3, 3), (4, 4), (5, 5), (6, 6), (7, 7)], .o, .d, .o, .o, .o, .o, .o, .o]⟩), (.ret, ⟨[(8, .s K4 [(0, 8)]), (9, .s K0 [])], [.v K12 [(0, 1), (1, 9), (3, 3), (4, 4), (5, 5), (6, 10), (7, 11)], .o, .d, .o, .o, .o, .d, .d, .o, .o, .o, .o]⟩)] [0, 1, 2, 3] [] (.q .z (.b (.q .z (.q .z (.q .z (.q (.q .z (.b (.m [(.normal, ⟨[(74, .s K13 [])], [.f, .f, .f, .f, .f, .f, .f, .f]⟩)] [8, 9, 13, 14, 15] [0, 1, 2, 3, 4, 5, 6, 7] .z .z))) (.q .z (.q .z (.q .z (.q .z (.q .z (.q .z (.q .z (.q .z (.q .z (.q .z (.q .z (.q .z (.m [(.normal, ⟨[(173, .s K13 [])], [.f, .f, .f, .f, .f, .f, .f, .f]⟩)] [8, 9, 19] [0, 1, 2, 3, 4, 5, 6, 7] .z (.q (.q .z (.q (.b (.q .z (.q .z (.m [(.normal, ⟨[(185, .s K13 [])], [.f, .f, .f, .f, .f, .f, .f, .f]⟩)] [8, 9, 17] [0, 1, 2, 3, 4, 5, 6, 7] .z .z)))) (.q .z (.m [(.normal, ⟨[], [.v K12 [(0, 1), (1, 8), (3, 3), (4, 4), (5, 5), (6, 6), (7, 7)], .o, .d, .o, .o, .o, .o, .o, .o]⟩)] [8, 9, 17, 18] [] .z .z)))) .z)))))))))))))))))))) .z)
theorem ke_impl_St_effect : CK [e_impl_St_place_rd, e_slices_Contains_int, e_impl_St_written, e_impl_DecText, e_impl_result] 8 ane_impl_St_effect Tryz.f186 e_impl_St_effect := ⟨⟨trivial, ⟨⟨trivial, ⟨trivial, ⟨trivial, ⟨trivial, ⟨⟨trivial, ⟨trivial, trivial⟩⟩, ⟨trivial, ⟨trivial, ⟨trivial, ⟨trivial, ⟨trivial, ⟨trivial, ⟨trivial, ⟨trivial, ⟨trivial, ⟨trivial, ⟨trivial, ⟨trivial, ⟨trivial, ⟨⟨trivial, ⟨⟨trivial, ⟨trivial, ⟨trivial, trivial⟩⟩⟩, ⟨trivial, ⟨trivial, trivial⟩⟩⟩⟩, trivial⟩⟩⟩⟩⟩⟩⟩⟩⟩⟩⟩⟩⟩⟩⟩⟩⟩⟩⟩, trivial⟩⟩, fun _ => by kernel_rfl⟩
noncomputable def ane_impl_does : An := .q .z (.q .z (.q .z (.q .z (.q .z (.m [(.normal, ⟨[(9, .s K3 [])], [.f, .f, .f, .f, .f, .f, .f, .f, .f, .f]⟩)] [1, 2, 4, 5, 6, 7, 8, 10] [0, 1, 2, 3, 4, 5, 6, 7, 8, 9] .z (.m [(.normal, ⟨[(10, .s K3 [])], [.f, .f, .f, .f, .f, .f, .f, .f, .f, .f]⟩)] [1, 2, 4, 5, 6, 7, 8, 9] [0, 1, 2, 3, 4, 5, 6, 7, 8, 9] .z .z))))))
theorem ke_impl_does : CK [e_impl_PrimName, e_impl_doesc1, e_impl_wants, e_impl_ownSt, e_impl_St_effect] 0 ane_impl_does Tryz.f139 e_impl_does := ⟨⟨trivial, ⟨trivial, ⟨trivial, ⟨trivial, ⟨trivial, ⟨trivial, ⟨trivial, trivial⟩⟩⟩⟩⟩⟩⟩, fun _ => by kernel_rfl⟩
noncomputable def ane_impl_Mach_back : An := .z
theorem ke_impl_Mach_back : CK [] 8 ane_impl_Mach_back Tryz.f140 e_impl_Mach_back := ⟨trivial, fun _ => by kernel_rfl⟩
noncomputable def ane_impl_St_begin_inGMach_0 : An := .z
theorem ke_impl_St_begin_inGMach_0 : CK [] 8 ane_impl_St_begin_inGMach_0 Tryz.f141 e_impl_St_begin_inGMach_0 := ⟨trivial, fun _ => by kernel_rfl⟩
noncomputable def ane_impl_St_again_inGMach_0 : An := .z
theorem ke_impl_St_again_inGMach_0 : CK [] 8 ane_impl_St_again_inGMach_0 Tryz.f142 e_impl_St_again_inGMach_0 := ⟨trivial, fun _ => by kernel_rfl⟩
end Go.Proofs.YtofjeimkphojaaaGreatDoor
namespace Go.Proofs.YtofjeimkphojaaaGreatDoor
open Go Go.Fm
set_option maxRecDepth 1000000
noncomputable def ane_impl_Mach_leave_own : An := .q .z (.q .z (.q (.m [(.normal, ⟨[(27, .s K13 [])], [.f, .f, .f, .f, .f, .f, .f, .f]⟩)] [0, 1, 4, 5] [0, 1, 2, 3, 4, 5, 6, 7] .z .z) (.q .z (.q (.m [(.normal, ⟨[(55, .s K13 [])], [.f, .f, .f, .f, .f, .f, .f, .f]⟩)] [0, 1, 4, 5, 6] [0, 1, 2, 3, 4, 5, 6, 7] .z .z) .z))))
theorem ke_impl_Mach_leave_own : CK [e_impl_within] 8 ane_impl_Mach_leave_own Tryz.f143 e_impl_Mach_leave_own := ⟨⟨trivial, ⟨trivial, ⟨⟨trivial, trivial⟩, ⟨trivial, ⟨⟨trivial, trivial⟩, trivial⟩⟩⟩⟩⟩, fun _ => by kernel_rfl⟩
noncomputable def ane_impl_Mach_step : An := .q .z (.q .z (.q .z (.q .z (.q .z (.m [(.normal, ⟨[(5, .s K0 [])], [.v K14 [(0, 9), (1, 10), (3, 11), (4, 12), (5, 13), (6, 14), (7, 15)], .d, .d, .d, .d, .d, .d, .d, .f, .o, .o, .o, .o, .o, .o, .o]⟩)] [0, 1, 4, 6] [8] (.q .z (.b (.q .z (.q .z (.q .z (.q .z (.q .z (.q .z (.q .z (.q .z (.m [(.normal, ⟨[(86, .s K13 [])], [.f, .f, .f, .f, .f, .f, .f, .f, .f]⟩)] [5, 53] [0, 1, 2, 3, 4, 5, 6, 7] .z (.q (.b (.q .z (.q .z (.m [(.normal, ⟨[(96, .s K13 [])], [.f, .f, .f, .f, .f, .f, .f, .f, .f]⟩)] [5] [0, 1, 2, 3, 4, 5, 6, 7] .z .z)))) .z)))))))))))) .z)))))
theorem ke_impl_Mach_step : CK [e_impl_St_pushes_inGMach_0, e_impl_does, e_impl_Mach_back, e_impl_St_begin_inGMach_0, e_impl_St_again_inGMach_0, e_impl_Mach_leave_own] 8 ane_impl_Mach_step Tryz.f76 e_impl_Mach_step := ⟨⟨trivial, ⟨trivial, ⟨trivial, ⟨trivial, ⟨trivial, ⟨⟨trivial, ⟨trivial, ⟨trivial, ⟨trivial, ⟨trivial, ⟨trivial, ⟨trivial, ⟨trivial, ⟨trivial, ⟨trivial, ⟨⟨trivial, ⟨trivial, ⟨trivial, trivial⟩⟩⟩, trivial⟩⟩⟩⟩⟩⟩⟩⟩⟩⟩⟩, trivial⟩⟩⟩⟩⟩⟩, fun _ => by kernel_rfl⟩
noncomputable def ane_impl_RunTo : An := .q .z (.q (.m [(.normal, ⟨[(20, .s K13 [])], [.f, .f]⟩)] [0, 2, 3, 5, 8, 9] [0, 1] .z .z) (.q .z (.q (.b (.l ⟨[(0, .s K2 []), (2, .s K9 []), (3, .s K0 []), (8, .c (.one (.ptr 1 0))), (9, .s K0 []), (10, .c (.one (.ptr 9 0)))], [.n, .v K14 [], .n, .n, .n, .n, .n, .n, .n, .n, .n, .n, .n, .n, .n, .n, .n]⟩ ⟨[(11, .s K0 [])], [.d, .f, .d, .d, .d, .d, .d, .d, .d, .v K14 [(0, 10), (1, 11), (3, 12), (4, 13), (5, 14), (6, 15), (7, 16)], .o, .o, .o, .o, .o, .o, .o]⟩ [(.exit 0, ⟨[(11, .s K0 [])], [.d, .f, .d, .d, .d, .d, .d, .d, .d, .v K14 [(0, 17), (1, 18), (3, 19), (4, 20), (5, 21), (6, 22), (7, 23)], .d, .d, .d, .d, .d, .d, .d, .o, .o, .o, .o, .o, .o, .o]⟩)] (fun (code_1, stops_3, n_4, _, _) k (many_13, x_14) => g_impl_RunTo_l0 code_1 stops_3 n_4 k many_13 x_14) (.q (.m [(.normal, ⟨[(30, .s K13 [])], [.d, .f, .d, .d, .d, .d, .d, .d, .d, .f, .f, .f, .f, .f, .f, .f, .f]⟩)] [11] [9, 10, 11, 12, 13, 14, 15, 16] .z .z) .z))) .z)))
theorem ke_impl_RunTo : CK [e_impl_ticks, e_impl_within, e_impl_ownMach, e_impl_Mach_over_rd, e_impl_Mach_step, e_slices_Contains_int] 0 ane_impl_RunTo Tryz.f24 e_impl_RunTo := ⟨⟨trivial, ⟨⟨trivial, trivial⟩, ⟨trivial, ⟨⟨fun _ _ => rfl, fun _ _ _ _ => by kernel_rfl, ⟨⟨trivial, trivial⟩, trivial⟩⟩, trivial⟩⟩⟩⟩, fun _ => by kernel_rfl⟩
noncomputable def ane_laws_eqInt32S : An := .q .z (.q .z (.m [(.normal, ⟨[], []⟩), (.ret, ⟨[(4, .s K13 [])], []⟩)] [0, 1] [] (.q .z (.b (.l ⟨[(0, .s K4 []), (1, .s K4 [])], []⟩ ⟨[(5, .s K0 [])], []⟩ [(.exit 0, ⟨[], []⟩), (.ret, ⟨[(4, .s K13 [])], []⟩)] (fun (a_1, b_2) k i_5 => g_laws_eqInt32S_l0 a_1 b_2 k i_5) .z))) .z))
theorem ke_laws_eqInt32S : CK [] 0 ane_laws_eqInt32S Tryz.f145 e_laws_eqInt32S := ⟨⟨trivial, ⟨trivial, ⟨⟨trivial, ⟨fun _ _ => rfl, fun _ _ _ _ => by kernel_rfl, trivial⟩⟩, trivial⟩⟩⟩, fun _ => by kernel_rfl⟩
noncomputable def ane_laws_eqSlot : An := .z
theorem ke_laws_eqSlot : CK [] 0 ane_laws_eqSlot Tryz.f187 e_laws_eqSlot := ⟨trivial, fun _ => by kernel_rfl⟩
noncomputable def ane_laws_eqSlotS : An := .q .z (.q .z (.m [(.normal, ⟨[], []⟩), (.ret, ⟨[(4, .s K13 [])], []⟩)] [0, 1] [] (.q .z (.b (.l ⟨[(0, .s K6 []), (1, .s K6 [])], []⟩ ⟨[(5, .s K0 [])], []⟩ [(.exit 0, ⟨[], []⟩), (.ret, ⟨[(4, .s K13 [])], []⟩)] (fun (a_1, b_2) k i_5 => g_laws_eqSlotS_l0 a_1 b_2 k i_5) .z))) .z))
theorem ke_laws_eqSlotS : CK [e_laws_eqSlot] 0 ane_laws_eqSlotS Tryz.f146 e_laws_eqSlotS := ⟨⟨trivial, ⟨trivial, ⟨⟨trivial, ⟨fun _ _ => rfl, fun _ _ _ _ => by kernel_rfl, trivial⟩⟩, trivial⟩⟩⟩, fun _ => by kernel_rfl⟩
noncomputable def ane_laws_eqUint32S : An := .q .z (.q .z (.m [(.normal, ⟨[], []⟩), (.ret, ⟨[(4, .s K13 [])], []⟩)] [0, 1] [] (.q .z (.b (.l ⟨[(0, .s K8 []), (1, .s K8 [])], []⟩ ⟨[(5, .s K0 [])], []⟩ [(.exit 0, ⟨[], []⟩), (.ret, ⟨[(4, .s K13 [])], []⟩)] (fun (a_1, b_2) k i_5 => g_laws_eqUint32S_l0 a_1 b_2 k i_5) .z))) .z))
theorem ke_laws_eqUint32S : CK [] 0 ane_laws_eqUint32S Tryz.f147 e_laws_eqUint32S := ⟨⟨trivial, ⟨trivial, ⟨⟨trivial, ⟨fun _ _ => rfl, fun _ _ _ _ => by kernel_rfl, trivial⟩⟩, trivial⟩⟩⟩, fun _ => by kernel_rfl⟩
noncomputable def ane_laws_eqIntS : An := .q .z (.q .z (.m [(.normal, ⟨[], []⟩), (.ret, ⟨[(4, .s K13 [])], []⟩)] [0, 1] [] (.q .z (.b (.l ⟨[(0, .s K9 []), (1, .s K9 [])], []⟩ ⟨[(5, .s K0 [])], []⟩ [(.exit 0, ⟨[], []⟩), (.ret, ⟨[(4, .s K13 [])], []⟩)] (fun (a_1, b_2) k i_5 => g_laws_eqIntS_l0 a_1 b_2 k i_5) .z))) .z))
theorem ke_laws_eqIntS : CK [] 0 ane_laws_eqIntS Tryz.f27 e_laws_eqIntS := ⟨⟨trivial, ⟨trivial, ⟨⟨trivial, ⟨fun _ _ => rfl, fun _ _ _ _ => by kernel_rfl, trivial⟩⟩, trivial⟩⟩⟩, fun _ => by kernel_rfl⟩
end Go.Proofs.YtofjeimkphojaaaGreatDoor
namespace Go.Proofs.YtofjeimkphojaaaGreatDoor
open Go Go.Fm
set_option maxRecDepth 1000000
noncomputable def ane_laws_eqByteS : An := .q .z (.q .z (.m [(.normal, ⟨[], []⟩), (.ret, ⟨[(4, .s K13 [])], []⟩)] [0, 1] [] (.q .z (.b (.l ⟨[(0, .s K11 []), (1, .s K11 [])], []⟩ ⟨[(5, .s K0 [])], []⟩ [(.exit 0, ⟨[], []⟩), (.ret, ⟨[(4, .s K13 [])], []⟩)] (fun (a_1, b_2) k i_5 => g_laws_eqByteS_l0 a_1 b_2 k i_5) .z))) .z))
theorem ke_laws_eqByteS : CK [] 0 ane_laws_eqByteS Tryz.f148 e_laws_eqByteS := ⟨⟨trivial, ⟨trivial, ⟨⟨trivial, ⟨fun _ _ => rfl, fun _ _ _ _ => by kernel_rfl, trivial⟩⟩, trivial⟩⟩⟩, fun _ => by kernel_rfl⟩
noncomputable def ane_laws_eqSt : An := .z
theorem ke_laws_eqSt : CK [e_laws_eqInt32S, e_laws_eqSlotS, e_laws_eqUint32S, e_laws_eqIntS, e_laws_eqByteS] 0 ane_laws_eqSt Tryz.f78 e_laws_eqSt := ⟨trivial, fun _ => by kernel_rfl⟩
noncomputable def ane_laws_eqMach : An := .z
theorem ke_laws_eqMach : CK [e_laws_eqSt] 0 ane_laws_eqMach Tryz.f25 e_laws_eqMach := ⟨trivial, fun _ => by kernel_rfl⟩
noncomputable def ane_laws_eqIns : An := .z
theorem ke_laws_eqIns : CK [] 0 ane_laws_eqIns Tryz.f79 e_laws_eqIns := ⟨trivial, fun _ => by kernel_rfl⟩
noncomputable def ane_laws_eqInsS : An := .q .z (.q .z (.m [(.normal, ⟨[], []⟩), (.ret, ⟨[(4, .s K13 [])], []⟩)] [0, 1] [] (.q .z (.b (.l ⟨[(0, .s K2 []), (1, .s K2 [])], []⟩ ⟨[(5, .s K0 [])], []⟩ [(.exit 0, ⟨[], []⟩), (.ret, ⟨[(4, .s K13 [])], []⟩)] (fun (a_1, b_2) k i_5 => g_laws_eqInsS_l0 a_1 b_2 k i_5) .z))) .z))
theorem ke_laws_eqInsS : CK [e_laws_eqIns] 0 ane_laws_eqInsS Tryz.f26 e_laws_eqInsS := ⟨⟨trivial, ⟨trivial, ⟨⟨trivial, ⟨fun _ _ => rfl, fun _ _ _ _ => by kernel_rfl, trivial⟩⟩, trivial⟩⟩⟩, fun _ => by kernel_rfl⟩
noncomputable def ane_laws_markInsS : An := .q .z (.m [(.normal, ⟨[(1, .s K0 [])], [.r K1]⟩)] [4] [] (.q .z (.b (.l ⟨[(4, .s K0 [])], [.n]⟩ ⟨[(0, .s K2 [(0, 0)]), (1, .s K0 []), (5, .s K0 [])], [.o]⟩ [(.exit 0, ⟨[(1, .s K0 [])], [.r K1]⟩)] (fun _ k (a_8, k_9, i_10) => g_laws_markInsS_l0 k a_8 k_9 i_10) .z))) .z)
theorem ke_laws_markInsS : CK [] 1 ane_laws_markInsS Tryz.f28 e_laws_markInsS := ⟨⟨trivial, ⟨⟨trivial, ⟨fun _ _ => rfl, fun _ _ _ _ => by kernel_rfl, trivial⟩⟩, trivial⟩⟩, fun _ => by kernel_rfl⟩
noncomputable def ane_laws_markInt32S : An := .q .z (.m [(.normal, ⟨[(1, .s K0 [])], [.r K3]⟩)] [4] [] (.q .z (.b (.l ⟨[(4, .s K0 [])], [.n]⟩ ⟨[(0, .s K4 [(0, 0)]), (1, .s K0 []), (5, .s K0 [])], [.o]⟩ [(.exit 0, ⟨[(1, .s K0 [])], [.r K3]⟩)] (fun _ k (a_8, k_9, i_10) => g_laws_markInt32S_l0 k a_8 k_9 i_10) .z))) .z)
theorem ke_laws_markInt32S : CK [] 1 ane_laws_markInt32S Tryz.f149 e_laws_markInt32S := ⟨⟨trivial, ⟨⟨trivial, ⟨fun _ _ => rfl, fun _ _ _ _ => by kernel_rfl, trivial⟩⟩, trivial⟩⟩, fun _ => by kernel_rfl⟩
noncomputable def ane_laws_markSlotS : An := .q .z (.m [(.normal, ⟨[(1, .s K0 [])], [.r K5]⟩)] [4] [] (.q .z (.b (.l ⟨[(4, .s K0 [])], [.n]⟩ ⟨[(0, .s K6 [(0, 0)]), (1, .s K0 []), (5, .s K0 [])], [.o]⟩ [(.exit 0, ⟨[(1, .s K0 [])], [.r K5]⟩)] (fun _ k (a_8, k_9, i_10) => g_laws_markSlotS_l0 k a_8 k_9 i_10) .z))) .z)
theorem ke_laws_markSlotS : CK [] 1 ane_laws_markSlotS Tryz.f150 e_laws_markSlotS := ⟨⟨trivial, ⟨⟨trivial, ⟨fun _ _ => rfl, fun _ _ _ _ => by kernel_rfl, trivial⟩⟩, trivial⟩⟩, fun _ => by kernel_rfl⟩
end Go.Proofs.YtofjeimkphojaaaGreatDoor
namespace Go.Proofs.YtofjeimkphojaaaGreatDoor
open Go Go.Fm
set_option maxRecDepth 1000000
noncomputable def ane_laws_markUint32S : An := .q .z (.m [(.normal, ⟨[(1, .s K0 [])], [.r K7]⟩)] [4] [] (.q .z (.b (.l ⟨[(4, .s K0 [])], [.n]⟩ ⟨[(0, .s K8 [(0, 0)]), (1, .s K0 []), (5, .s K0 [])], [.o]⟩ [(.exit 0, ⟨[(1, .s K0 [])], [.r K7]⟩)] (fun _ k (a_8, k_9, i_10) => g_laws_markUint32S_l0 k a_8 k_9 i_10) .z))) .z)
theorem ke_laws_markUint32S : CK [] 1 ane_laws_markUint32S Tryz.f151 e_laws_markUint32S := ⟨⟨trivial, ⟨⟨trivial, ⟨fun _ _ => rfl, fun _ _ _ _ => by kernel_rfl, trivial⟩⟩, trivial⟩⟩, fun _ => by kernel_rfl⟩
noncomputable def ane_laws_markIntS : An := .q .z (.m [(.normal, ⟨[(1, .s K0 [])], [.r K0]⟩)] [4] [] (.q .z (.b (.l ⟨[(4, .s K0 [])], [.n]⟩ ⟨[(0, .s K9 [(0, 0)]), (1, .s K0 []), (5, .s K0 [])], [.o]⟩ [(.exit 0, ⟨[(1, .s K0 [])], [.r K0]⟩)] (fun _ k (a_8, k_9, i_10) => g_laws_markIntS_l0 k a_8 k_9 i_10) .z))) .z)
theorem ke_laws_markIntS : CK [] 1 ane_laws_markIntS Tryz.f30 e_laws_markIntS := ⟨⟨trivial, ⟨⟨trivial, ⟨fun _ _ => rfl, fun _ _ _ _ => by kernel_rfl, trivial⟩⟩, trivial⟩⟩, fun _ => by kernel_rfl⟩
noncomputable def ane_laws_markByteS : An := .q .z (.m [(.normal, ⟨[(1, .s K0 [])], [.r K10]⟩)] [4] [] (.q .z (.b (.l ⟨[(4, .s K0 [])], [.n]⟩ ⟨[(0, .s K11 [(0, 0)]), (1, .s K0 []), (5, .s K0 [])], [.o]⟩ [(.exit 0, ⟨[(1, .s K0 [])], [.r K10]⟩)] (fun _ k (a_8, k_9, i_10) => g_laws_markByteS_l0 k a_8 k_9 i_10) .z))) .z)
theorem ke_laws_markByteS : CK [] 1 ane_laws_markByteS Tryz.f152 e_laws_markByteS := ⟨⟨trivial, ⟨⟨trivial, ⟨fun _ _ => rfl, fun _ _ _ _ => by kernel_rfl, trivial⟩⟩, trivial⟩⟩, fun _ => by kernel_rfl⟩
noncomputable def ane_laws_markSt : An := .z
theorem ke_laws_markSt : CK [e_laws_markInt32S, e_laws_markSlotS, e_laws_markUint32S, e_laws_markIntS, e_laws_markByteS] 7 ane_laws_markSt Tryz.f80 e_laws_markSt := ⟨trivial, fun _ => by kernel_rfl⟩
noncomputable def ane_laws_markMach : An := .z
theorem ke_laws_markMach : CK [e_laws_markSt] 7 ane_laws_markMach Tryz.f29 e_laws_markMach := ⟨trivial, fun _ => by kernel_rfl⟩
noncomputable def ane_laws_heldInt32S : An := .q .z (.m [(.normal, ⟨[(1, .s K0 [])], []⟩), (.ret, ⟨[(4, .s K0 [])], []⟩)] [0] [] (.q .z (.b (.l ⟨[(0, .s K4 [])], []⟩ ⟨[(1, .s K0 []), (5, .s K0 [])], []⟩ [(.exit 0, ⟨[(1, .s K0 [])], []⟩), (.ret, ⟨[(4, .s K0 [])], []⟩)] (fun a_1 k (k_6, i_7) => g_laws_heldInt32S_l0 a_1 k k_6 i_7) .z))) .z)
theorem ke_laws_heldInt32S : CK [] 0 ane_laws_heldInt32S Tryz.f153 e_laws_heldInt32S := ⟨⟨trivial, ⟨⟨trivial, ⟨fun _ _ => rfl, fun _ _ _ _ => by kernel_rfl, trivial⟩⟩, trivial⟩⟩, fun _ => by kernel_rfl⟩
noncomputable def ane_laws_heldSlotS : An := .q .z (.m [(.normal, ⟨[(1, .s K0 [])], []⟩), (.ret, ⟨[(4, .s K0 [])], []⟩)] [0] [] (.q .z (.b (.l ⟨[(0, .s K6 [])], []⟩ ⟨[(1, .s K0 []), (5, .s K0 [])], []⟩ [(.exit 0, ⟨[(1, .s K0 [])], []⟩), (.ret, ⟨[(4, .s K0 [])], []⟩)] (fun a_1 k (k_6, i_7) => g_laws_heldSlotS_l0 a_1 k k_6 i_7) .z))) .z)
theorem ke_laws_heldSlotS : CK [] 0 ane_laws_heldSlotS Tryz.f154 e_laws_heldSlotS := ⟨⟨trivial, ⟨⟨trivial, ⟨fun _ _ => rfl, fun _ _ _ _ => by kernel_rfl, trivial⟩⟩, trivial⟩⟩, fun _ => by kernel_rfl⟩
noncomputable def ane_laws_heldUint32S : An := .q .z (.m [(.normal, ⟨[(1, .s K0 [])], []⟩), (.ret, ⟨[(4, .s K0 [])], []⟩)] [0] [] (.q .z (.b (.l ⟨[(0, .s K8 [])], []⟩ ⟨[(1, .s K0 []), (5, .s K0 [])], []⟩ [(.exit 0, ⟨[(1, .s K0 [])], []⟩), (.ret, ⟨[(4, .s K0 [])], []⟩)] (fun a_1 k (k_6, i_7) => g_laws_heldUint32S_l0 a_1 k k_6 i_7) .z))) .z)
theorem ke_laws_heldUint32S : CK [] 0 ane_laws_heldUint32S Tryz.f155 e_laws_heldUint32S := ⟨⟨trivial, ⟨⟨trivial, ⟨fun _ _ => rfl, fun _ _ _ _ => by kernel_rfl, trivial⟩⟩, trivial⟩⟩, fun _ => by kernel_rfl⟩
end Go.Proofs.YtofjeimkphojaaaGreatDoor
namespace Go.Proofs.YtofjeimkphojaaaGreatDoor
open Go Go.Fm
set_option maxRecDepth 1000000
noncomputable def ane_laws_heldIntS : An := .q .z (.m [(.normal, ⟨[(1, .s K0 [])], []⟩), (.ret, ⟨[(4, .s K0 [])], []⟩)] [0] [] (.q .z (.b (.l ⟨[(0, .s K9 [])], []⟩ ⟨[(1, .s K0 []), (5, .s K0 [])], []⟩ [(.exit 0, ⟨[(1, .s K0 [])], []⟩), (.ret, ⟨[(4, .s K0 [])], []⟩)] (fun a_1 k (k_6, i_7) => g_laws_heldIntS_l0 a_1 k k_6 i_7) .z))) .z)
theorem ke_laws_heldIntS : CK [] 0 ane_laws_heldIntS Tryz.f156 e_laws_heldIntS := ⟨⟨trivial, ⟨⟨trivial, ⟨fun _ _ => rfl, fun _ _ _ _ => by kernel_rfl, trivial⟩⟩, trivial⟩⟩, fun _ => by kernel_rfl⟩
noncomputable def ane_laws_heldByteS : An := .q .z (.m [(.normal, ⟨[(1, .s K0 [])], []⟩), (.ret, ⟨[(4, .s K0 [])], []⟩)] [0] [] (.q .z (.b (.l ⟨[(0, .s K11 [])], []⟩ ⟨[(1, .s K0 []), (5, .s K0 [])], []⟩ [(.exit 0, ⟨[(1, .s K0 [])], []⟩), (.ret, ⟨[(4, .s K0 [])], []⟩)] (fun a_1 k (k_6, i_7) => g_laws_heldByteS_l0 a_1 k k_6 i_7) .z))) .z)
theorem ke_laws_heldByteS : CK [] 0 ane_laws_heldByteS Tryz.f157 e_laws_heldByteS := ⟨⟨trivial, ⟨⟨trivial, ⟨fun _ _ => rfl, fun _ _ _ _ => by kernel_rfl, trivial⟩⟩, trivial⟩⟩, fun _ => by kernel_rfl⟩
noncomputable def ane_laws_heldSt : An := .z
theorem ke_laws_heldSt : CK [e_laws_heldInt32S, e_laws_heldSlotS, e_laws_heldUint32S, e_laws_heldIntS, e_laws_heldByteS] 0 ane_laws_heldSt Tryz.f81 e_laws_heldSt := ⟨trivial, fun _ => by kernel_rfl⟩
noncomputable def ane_laws_heldMach : An := .z
theorem ke_laws_heldMach : CK [e_laws_heldSt] 0 ane_laws_heldMach Tryz.f31 e_laws_heldMach := ⟨trivial, fun _ => by kernel_rfl⟩
noncomputable def ane_laws_FnExactRunTo : An := .q .z (.q .z (.q .z (.q .z (.q .z (.q .z (.q .z (.q .z (.q .z (.q .z (.q .z (.q .z (.q (.m [(.normal, ⟨[(68, .s K13 [])], [.f, .d, .d, .d, .d, .d, .d, .d, .d, .d, .f, .f, .f, .f, .f, .f, .f, .f, .f, .f, .f, .f, .f, .f, .f, .f, .f, .f, .f]⟩)] [0, 2, 3, 5, 8, 10, 11, 12, 13, 14, 15, 16] [0, 10, 11, 12, 13, 14, 15, 16, 17, 18, 19, 20, 21, 22, 23, 24, 25, 26, 27, 28] .z .z) (.q .z (.q .z (.q .z (.q .z (.q .z (.q .z (.q .z (.q (.m [(.normal, ⟨[(105, .s K13 [])], [.f, .d, .d, .d, .d, .d, .d, .d, .d, .d, .f, .d, .d, .d, .d, .d, .d, .d, .d, .d, .d, .f, .f, .f, .f, .f, .f, .f, .f, .d, .d, .d, .d, .d, .d, .d, .d, .d]⟩)] [0, 2, 3, 5, 8, 10, 11, 15, 16, 17] [0, 10, 21, 22, 23, 24, 25, 26, 27, 28] .z .z) (.q .z (.q .z (.q .z (.q .z (.q .z (.q .z (.q .z (.q (.m [(.normal, ⟨[(136, .s K13 [])], [.d, .d, .d, .d, .d, .d, .d, .d, .d, .d, .f, .d, .d, .d, .d, .d, .d, .d, .d, .d, .d, .f, .f, .f, .f, .f, .f, .f, .f, .d, .d, .d, .d, .d, .d, .d, .d, .d, .d, .d, .d, .d, .d, .d, .d, .d, .d, .f, .f, .f, .f, .f, .f, .f, .f]⟩)] [8, 10, 11, 15, 18, 20, 21] [10, 21, 22, 23, 24, 25, 26, 27, 28, 47, 48, 49, 50, 51, 52, 53, 54] .z .z) .z))))))))))))))))))))))))))))
theorem ke_laws_FnExactRunTo : CK [e_laws_szInsS, e_laws_szMach, e_laws_toInsS, e_laws_toMach, e_laws_toIntS, e_spec_RunTo, e_impl_RunTo, e_laws_eqMach, e_laws_eqInsS, e_laws_eqIntS, e_laws_markInsS, e_laws_markMach, e_laws_markIntS, e_laws_heldMach] 0 ane_laws_FnExactRunTo Tryz.f4 e_laws_FnExactRunTo := ⟨⟨trivial, ⟨trivial, ⟨trivial, ⟨trivial, ⟨trivial, ⟨trivial, ⟨trivial, ⟨trivial, ⟨trivial, ⟨trivial, ⟨trivial, ⟨trivial, ⟨⟨trivial, trivial⟩, ⟨trivial, ⟨trivial, ⟨trivial, ⟨trivial, ⟨trivial, ⟨trivial, ⟨trivial, ⟨⟨trivial, trivial⟩, ⟨trivial, ⟨trivial, ⟨trivial, ⟨trivial, ⟨trivial, ⟨trivial, ⟨trivial, ⟨⟨trivial, trivial⟩, trivial⟩⟩⟩⟩⟩⟩⟩⟩⟩⟩⟩⟩⟩⟩⟩⟩⟩⟩⟩⟩⟩⟩⟩⟩⟩⟩⟩⟩⟩, fun _ => by kernel_rfl⟩
end Go.Proofs.YtofjeimkphojaaaGreatDoor
namespace Go.Proofs.YtofjeimkphojaaaGreatDoor
open Go Go.Fm
set_option maxRecDepth 1000000
end Go.Proofs.YtofjeimkphojaaaGreatDoor
namespace Go.Proofs.YtofjeimkphojaaaGreatDoor
open Go Go.Fm
set_option maxRecDepth 1000000
theorem ce_laws_szInsS : CO e_laws_szInsS := fnc (fun _ => con_nil) Tryz.func18 ke_laws_szInsS (by kernel_rfl) (fun _ => by kernel_rfl) (fun _ => by kernel_rfl) rfl
theorem ce_laws_szInt32S : CO e_laws_szInt32S := fnc (fun _ => con_nil) Tryz.func119 ke_laws_szInt32S (by kernel_rfl) (fun _ => by kernel_rfl) (fun _ => by kernel_rfl) rfl
theorem ce_laws_szSlotS : CO e_laws_szSlotS := fnc (fun _ => con_nil) Tryz.func120 ke_laws_szSlotS (by kernel_rfl) (fun _ => by kernel_rfl) (fun _ => by kernel_rfl) rfl
theorem ce_laws_szUint32S : CO e_laws_szUint32S := fnc (fun _ => con_nil) Tryz.func121 ke_laws_szUint32S (by kernel_rfl) (fun _ => by kernel_rfl) (fun _ => by kernel_rfl) rfl
theorem ce_laws_szIntS : CO e_laws_szIntS := fnc (fun _ => con_nil) Tryz.func122 ke_laws_szIntS (by kernel_rfl) (fun _ => by kernel_rfl) (fun _ => by kernel_rfl) rfl
theorem ce_laws_szByteS : CO e_laws_szByteS := fnc (fun _ => con_nil) Tryz.func123 ke_laws_szByteS (by kernel_rfl) (fun _ => by kernel_rfl) (fun _ => by kernel_rfl) rfl
theorem ce_laws_szSt : CO e_laws_szSt := fnc (fun _ => con_cons ce_laws_szInt32S (con_cons ce_laws_szSlotS (con_cons ce_laws_szUint32S (con_cons ce_laws_szIntS (con_cons ce_laws_szByteS con_nil))))) Tryz.func65 ke_laws_szSt (by kernel_rfl) (fun _ => by kernel_rfl) (fun _ => by kernel_rfl) rfl
theorem ce_laws_szMach : CO e_laws_szMach := fnc (fun _ => con_cons ce_laws_szSt con_nil) Tryz.func19 ke_laws_szMach (by kernel_rfl) (fun _ => by kernel_rfl) (fun _ => by kernel_rfl) rfl
theorem ce_laws_toIns : CO e_laws_toIns := fnc (fun _ => con_nil) Tryz.func71 ke_laws_toIns (by kernel_rfl) (fun _ => by kernel_rfl) (fun _ => by kernel_rfl) rfl
theorem ce_laws_toInsS : CO e_laws_toInsS := fnc (fun _ => con_cons ce_laws_toIns con_nil) Tryz.func21 ke_laws_toInsS (by kernel_rfl) (fun _ => by kernel_rfl) (fun _ => by kernel_rfl) rfl
theorem ce_laws_toInt32S : CO e_laws_toInt32S := fnc (fun _ => con_nil) Tryz.func133 ke_laws_toInt32S (by kernel_rfl) (fun _ => by kernel_rfl) (fun _ => by kernel_rfl) rfl
theorem ce_laws_toSlot : CO e_laws_toSlot := fnc (fun _ => con_nil) Tryz.func181 ke_laws_toSlot (by kernel_rfl) (fun _ => by kernel_rfl) (fun _ => by kernel_rfl) rfl
theorem ce_laws_toSlotS : CO e_laws_toSlotS := fnc (fun _ => con_cons ce_laws_toSlot con_nil) Tryz.func134 ke_laws_toSlotS (by kernel_rfl) (fun _ => by kernel_rfl) (fun _ => by kernel_rfl) rfl
theorem ce_laws_toUint32S : CO e_laws_toUint32S := fnc (fun _ => con_nil) Tryz.func135 ke_laws_toUint32S (by kernel_rfl) (fun _ => by kernel_rfl) (fun _ => by kernel_rfl) rfl
theorem ce_laws_toIntS : CO e_laws_toIntS := fnc (fun _ => con_nil) Tryz.func23 ke_laws_toIntS (by kernel_rfl) (fun _ => by kernel_rfl) (fun _ => by kernel_rfl) rfl
theorem ce_laws_toByteS : CO e_laws_toByteS := fnc (fun _ => con_nil) Tryz.func136 ke_laws_toByteS (by kernel_rfl) (fun _ => by kernel_rfl) (fun _ => by kernel_rfl) rfl
theorem ce_laws_toSt : CO e_laws_toSt := fnc (fun _ => con_cons ce_laws_toInt32S (con_cons ce_laws_toSlotS (con_cons ce_laws_toUint32S (con_cons ce_laws_toIntS (con_cons ce_laws_toByteS con_nil))))) Tryz.func72 ke_laws_toSt (by kernel_rfl) (fun _ => by kernel_rfl) (fun _ => by kernel_rfl) rfl
theorem ce_laws_toMach : CO e_laws_toMach := fnc (fun _ => con_cons ce_laws_toSt con_nil) Tryz.func22 ke_laws_toMach (by kernel_rfl) (fun _ => by kernel_rfl) (fun _ => by kernel_rfl) rfl
theorem ce_spec_l01In : CO e_spec_l01In := fnc (fun _ => con_nil) Tryz.func54 ke_spec_l01In (by kernel_rfl) (fun _ => by kernel_rfl) (fun _ => by kernel_rfl) rfl
theorem ce_spec_l08Names : CO e_spec_l08Names := fnc (fun _ => con_nil) Tryz.func169 ke_spec_l08Names (by kernel_rfl) (fun _ => by kernel_rfl) (fun _ => by kernel_rfl) rfl
theorem ce_spec_PrimName : CO e_spec_PrimName := fnc (fun _ => con_cons ce_spec_l08Names (con_cons ce_spec_l01In con_nil)) Tryz.func102 ke_spec_PrimName (by kernel_rfl) (fun _ => by kernel_rfl) (fun _ => by kernel_rfl) rfl
theorem ce_spec_CodeOk : CO e_spec_CodeOk := fnc (fun _ => con_cons ce_spec_l01In (con_cons ce_spec_PrimName con_nil)) Tryz.func66 ke_spec_CodeOk (by kernel_rfl) (fun _ => by kernel_rfl) (fun _ => by kernel_rfl) rfl
theorem ce_spec_StoreOk : CO e_spec_StoreOk := fnc (fun _ => con_nil) Tryz.func55 ke_spec_StoreOk (by kernel_rfl) (fun _ => by kernel_rfl) (fun _ => by kernel_rfl) rfl
theorem ce_spec_StOk : CO e_spec_StOk := fnc (fun _ => con_cons ce_spec_l01In (con_cons ce_spec_StoreOk con_nil)) Tryz.func14 ke_spec_StOk (by kernel_rfl) (fun _ => by kernel_rfl) (fun _ => by kernel_rfl) rfl
theorem ce_spec_l21Marks : CO e_spec_l21Marks := fnc (fun _ => con_cons ce_spec_l01In con_nil) Tryz.func67 ke_spec_l21Marks (by kernel_rfl) (fun _ => by kernel_rfl) (fun _ => by kernel_rfl) rfl
theorem ce_spec_l08Copy : CO e_spec_l08Copy := fnc (fun _ => con_nil) Tryz.func68 ke_spec_l08Copy (by kernel_rfl) (fun _ => by kernel_rfl) (fun _ => by kernel_rfl) rfl
theorem ce_spec_l21Goes : CO e_spec_l21Goes := fnc (fun _ => con_nil) Tryz.func69 ke_spec_l21Goes (by kernel_rfl) (fun _ => by kernel_rfl) (fun _ => by kernel_rfl) rfl
theorem ce_spec_l08Fault : CO e_spec_l08Fault := fnc (fun _ => con_cons ce_spec_l08Copy con_nil) Tryz.func125 ke_spec_l08Fault (by kernel_rfl) (fun _ => by kernel_rfl) (fun _ => by kernel_rfl) rfl
theorem ce_spec_l12To : CO e_spec_l12To := fnc (fun _ => con_nil) Tryz.func124 ke_spec_l12To (by kernel_rfl) (fun _ => by kernel_rfl) (fun _ => by kernel_rfl) rfl
theorem ce_spec_l08Put : CO e_spec_l08Put := fnc (fun _ => con_cons ce_spec_l08Fault (con_cons ce_spec_l08Copy con_nil)) Tryz.func176 ke_spec_l08Put (by kernel_rfl) (fun _ => by kernel_rfl) (fun _ => by kernel_rfl) rfl
theorem ce_spec_PushN : CO e_spec_PushN := fnc (fun _ => con_cons ce_spec_StOk (con_cons ce_spec_l08Copy (con_cons ce_spec_l08Put con_nil))) Tryz.func126 ke_spec_PushN (by kernel_rfl) (fun _ => by kernel_rfl) (fun _ => by kernel_rfl) rfl
theorem ce_spec_l08Takes : CO e_spec_l08Takes := fnc (fun _ => con_nil) Tryz.func177 ke_spec_l08Takes (by kernel_rfl) (fun _ => by kernel_rfl) (fun _ => by kernel_rfl) rfl
theorem ce_spec_l08Pure : CO e_spec_l08Pure := fnc (fun _ => con_nil) Tryz.func178 ke_spec_l08Pure (by kernel_rfl) (fun _ => by kernel_rfl) (fun _ => by kernel_rfl) rfl
theorem ce_spec_l08Divide : CO e_spec_l08Divide := fnc (fun _ => con_cons ce_spec_l08Fault (con_cons ce_spec_l08Put con_nil)) Tryz.func204 ke_spec_l08Divide (by kernel_rfl) (fun _ => by kernel_rfl) (fun _ => by kernel_rfl) rfl
theorem ce_spec_l08Place : CO e_spec_l08Place := fnc (fun _ => con_cons ce_spec_l01In con_nil) Tryz.func224 ke_spec_l08Place (by kernel_rfl) (fun _ => by kernel_rfl) (fun _ => by kernel_rfl) rfl
theorem ce_spec_l08Fetch : CO e_spec_l08Fetch := fnc (fun _ => con_cons ce_spec_l08Place (con_cons ce_spec_l08Fault (con_cons ce_spec_l08Put con_nil))) Tryz.func205 ke_spec_l08Fetch (by kernel_rfl) (fun _ => by kernel_rfl) (fun _ => by kernel_rfl) rfl
theorem ce_spec_l08Store : CO e_spec_l08Store := fnc (fun _ => con_cons ce_spec_l08Place (con_cons ce_spec_l08Put (con_cons ce_spec_l01In (con_cons ce_spec_l08Fault con_nil)))) Tryz.func206 ke_spec_l08Store (by kernel_rfl) (fun _ => by kernel_rfl) (fun _ => by kernel_rfl) rfl
theorem ce_spec_l08Say : CO e_spec_l08Say := fnc (fun _ => con_cons ce_spec_l08Fault (con_cons ce_spec_l08Put con_nil)) Tryz.func207 ke_spec_l08Say (by kernel_rfl) (fun _ => by kernel_rfl) (fun _ => by kernel_rfl) rfl
theorem ce_spec_DecText : CO e_spec_DecText := fnc (fun _ => con_nil) Tryz.func161 ke_spec_DecText (by kernel_rfl) (fun _ => by kernel_rfl) (fun _ => by kernel_rfl) rfl
theorem ce_spec_l08Back : CO e_spec_l08Back := fnc (fun _ => con_cons ce_spec_l08Fault (con_cons ce_spec_l08Put con_nil)) Tryz.func208 ke_spec_l08Back (by kernel_rfl) (fun _ => by kernel_rfl) (fun _ => by kernel_rfl) rfl
theorem ce_spec_l08Other : CO e_spec_l08Other := fnc (fun _ => con_cons ce_spec_l08Divide (con_cons ce_spec_l08Fetch (con_cons ce_spec_l08Store (con_cons ce_spec_l08Put (con_cons ce_spec_l08Say (con_cons ce_spec_DecText (con_cons ce_spec_l08Fault (con_cons ce_spec_l08Back con_nil)))))))) Tryz.func179 ke_spec_l08Other (by kernel_rfl) (fun _ => by kernel_rfl) (fun _ => by kernel_rfl) rfl
theorem ce_spec_Do : CO e_spec_Do := fnc (fun _ => con_cons ce_spec_StOk (con_cons ce_spec_l08Copy (con_cons ce_spec_PrimName (con_cons ce_spec_l08Fault (con_cons ce_spec_l08Takes (con_cons ce_spec_l08Pure (con_cons ce_spec_l08Put (con_cons ce_spec_l08Other con_nil)))))))) Tryz.func127 ke_spec_Do (by kernel_rfl) (fun _ => by kernel_rfl) (fun _ => by kernel_rfl) rfl
theorem ce_spec_l12Put : CO e_spec_l12Put := fnc (fun _ => con_cons ce_spec_l08Fault (con_cons ce_spec_l08Copy con_nil)) Tryz.func128 ke_spec_l12Put (by kernel_rfl) (fun _ => by kernel_rfl) (fun _ => by kernel_rfl) rfl
theorem ce_spec_l12For : CO e_spec_l12For := fnc (fun _ => con_cons ce_spec_l08Fault (con_cons ce_spec_l12To (con_cons ce_spec_l12Put con_nil))) Tryz.func129 ke_spec_l12For (by kernel_rfl) (fun _ => by kernel_rfl) (fun _ => by kernel_rfl) rfl
theorem ce_spec_l12Drop : CO e_spec_l12Drop := fnc (fun _ => con_cons ce_spec_l08Copy con_nil) Tryz.func180 ke_spec_l12Drop (by kernel_rfl) (fun _ => by kernel_rfl) (fun _ => by kernel_rfl) rfl
theorem ce_spec_l12Next : CO e_spec_l12Next := fnc (fun _ => con_cons ce_spec_l08Fault (con_cons ce_spec_l12To (con_cons ce_spec_l08Copy (con_cons ce_spec_l12Drop con_nil)))) Tryz.func130 ke_spec_l12Next (by kernel_rfl) (fun _ => by kernel_rfl) (fun _ => by kernel_rfl) rfl
theorem ce_spec_l12Ret : CO e_spec_l12Ret := fnc (fun _ => con_cons ce_spec_l08Fault (con_cons ce_spec_l12To (con_cons ce_spec_l12Drop (con_cons ce_spec_l01In con_nil)))) Tryz.func131 ke_spec_l12Ret (by kernel_rfl) (fun _ => by kernel_rfl) (fun _ => by kernel_rfl) rfl
theorem ce_spec_l12Test : CO e_spec_l12Test := fnc (fun _ => con_cons ce_spec_l08Fault (con_cons ce_spec_l12To con_nil)) Tryz.func132 ke_spec_l12Test (by kernel_rfl) (fun _ => by kernel_rfl) (fun _ => by kernel_rfl) rfl
theorem ce_spec_l12Step : CO e_spec_l12Step := fnc (fun _ => con_cons ce_spec_l08Fault (con_cons ce_spec_l12To (con_cons ce_spec_l08Copy (con_cons ce_spec_PushN (con_cons ce_spec_Do (con_cons ce_spec_l12Put (con_cons ce_spec_l12For (con_cons ce_spec_l12Next (con_cons ce_spec_l12Ret (con_cons ce_spec_l12Test con_nil)))))))))) Tryz.func70 ke_spec_l12Step (by kernel_rfl) (fun _ => by kernel_rfl) (fun _ => by kernel_rfl) rfl
theorem ce_spec_RunTo : CO e_spec_RunTo := fnc (fun _ => con_cons ce_spec_CodeOk (con_cons ce_spec_l01In (con_cons ce_spec_StOk (con_cons ce_spec_l21Marks (con_cons ce_spec_l08Copy (con_cons ce_spec_l21Goes (con_cons ce_spec_l12Step con_nil))))))) Tryz.func20 ke_spec_RunTo (by kernel_rfl) (fun _ => by kernel_rfl) (fun _ => by kernel_rfl) rfl
theorem ce_impl_within : CO e_impl_within := fnc (fun _ => con_nil) Tryz.func60 ke_impl_within (by kernel_rfl) (fun _ => by kernel_rfl) (fun _ => by kernel_rfl) rfl
theorem ce_strings_Fields : CO e_strings_Fields := fnc (fun _ => con_nil) Tryz.func215 ke_strings_Fields (by kernel_rfl) (fun _ => by kernel_rfl) (fun _ => by kernel_rfl) rfl
theorem ce_impl_prims : CO e_impl_prims := fnc (fun _ => con_cons ce_strings_Fields con_nil) Tryz.func191 ke_impl_prims (by kernel_rfl) (fun _ => by kernel_rfl) (fun _ => by kernel_rfl) rfl
theorem ce_impl_PrimName : CO e_impl_PrimName := fnc (fun _ => con_cons ce_impl_prims (con_cons ce_impl_within con_nil)) Tryz.func160 ke_impl_PrimName (by kernel_rfl) (fun _ => by kernel_rfl) (fun _ => by kernel_rfl) rfl
theorem ce_impl_CodeOkc1 : CO e_impl_CodeOkc1 := fnc (fun _ => con_cons ce_impl_within (con_cons ce_impl_PrimName con_nil)) Tryz.func183 ke_impl_CodeOkc1 (by kernel_rfl) (fun _ => by kernel_rfl) (fun _ => by kernel_rfl) rfl
theorem ce_slices_IndexFunc_Ins_impl_CodeOkc1 : CO e_slices_IndexFunc_Ins_impl_CodeOkc1 := fnc (fun _ => con_cons ce_impl_CodeOkc1 con_nil) Tryz.func209 ke_slices_IndexFunc_Ins_impl_CodeOkc1 (by kernel_rfl) (fun _ => by kernel_rfl) (fun _ => by kernel_rfl) rfl
theorem ce_slices_ContainsFunc_Ins_impl_CodeOkc1 : CO e_slices_ContainsFunc_Ins_impl_CodeOkc1 := fnc (fun _ => con_cons ce_slices_IndexFunc_Ins_impl_CodeOkc1 con_nil) Tryz.func182 ke_slices_ContainsFunc_Ins_impl_CodeOkc1 (by kernel_rfl) (fun _ => by kernel_rfl) (fun _ => by kernel_rfl) rfl
theorem ce_impl_CodeOk : CO e_impl_CodeOk := fnc (fun _ => con_cons ce_impl_within (con_cons ce_slices_ContainsFunc_Ins_impl_CodeOkc1 con_nil)) Tryz.func137 ke_impl_CodeOk (by kernel_rfl) (fun _ => by kernel_rfl) (fun _ => by kernel_rfl) rfl
theorem ce_impl_StoreOk : CO e_impl_StoreOk := fnc (fun _ => con_nil) Tryz.func162 ke_impl_StoreOk (by kernel_rfl) (fun _ => by kernel_rfl) (fun _ => by kernel_rfl) rfl
theorem ce_slices_Index_int : CO e_slices_Index_int := fnc (fun _ => con_nil) Tryz.func144 ke_slices_Index_int (by kernel_rfl) (fun _ => by kernel_rfl) (fun _ => by kernel_rfl) rfl
theorem ce_slices_Contains_int : CO e_slices_Contains_int := fnc (fun _ => con_cons ce_slices_Index_int con_nil) Tryz.func77 ke_slices_Contains_int (by kernel_rfl) (fun _ => by kernel_rfl) (fun _ => by kernel_rfl) rfl
theorem ce_impl_StOk : CO e_impl_StOk := fnc (fun _ => con_cons ce_impl_StoreOk (con_cons ce_impl_within (con_cons ce_slices_Contains_int con_nil))) Tryz.func91 ke_impl_StOk (by kernel_rfl) (fun _ => by kernel_rfl) (fun _ => by kernel_rfl) rfl
theorem ce_impl_ticks : CO e_impl_ticks := fnc (fun _ => con_cons ce_impl_CodeOk (con_cons ce_impl_within (con_cons ce_impl_StOk con_nil))) Tryz.func73 ke_impl_ticks (by kernel_rfl) (fun _ => by kernel_rfl) (fun _ => by kernel_rfl) rfl
theorem ce_slices_Clone_int32 : ConOk Tryz.prog e_slices_Clone_int32 := fe_slices_Clone_int32
theorem ce_slices_Clone_Slot : ConOk Tryz.prog e_slices_Clone_Slot := fe_slices_Clone_Slot
theorem ce_slices_Clone_uint32 : ConOk Tryz.prog e_slices_Clone_uint32 := fe_slices_Clone_uint32
theorem ce_slices_Clone_int : ConOk Tryz.prog e_slices_Clone_int := fe_slices_Clone_int
theorem ce_slices_Clone_byte : ConOk Tryz.prog e_slices_Clone_byte := fe_slices_Clone_byte
theorem ce_impl_ownSt : CO e_impl_ownSt := fnc (fun _ => con_cons ce_slices_Clone_int32 (con_cons ce_slices_Clone_Slot (con_cons ce_slices_Clone_uint32 (con_cons ce_slices_Clone_int (con_cons ce_slices_Clone_byte con_nil))))) Tryz.func62 ke_impl_ownSt (by kernel_rfl) (fun _ => by kernel_rfl) (fun _ => by kernel_rfl) rfl
theorem ce_impl_ownMach : CO e_impl_ownMach := fnc (fun _ => con_cons ce_impl_ownSt con_nil) Tryz.func74 ke_impl_ownMach (by kernel_rfl) (fun _ => by kernel_rfl) (fun _ => by kernel_rfl) rfl
theorem ce_impl_Mach_over_rd : CO e_impl_Mach_over_rd := fnc (fun _ => con_nil) Tryz.func75 ke_impl_Mach_over_rd (by kernel_rfl) (fun _ => by kernel_rfl) (fun _ => by kernel_rfl) rfl
theorem ce_impl_St_pushes_inGMach_0 : CO e_impl_St_pushes_inGMach_0 := fnc (fun _ => con_nil) Tryz.func138 ke_impl_St_pushes_inGMach_0 (by kernel_rfl) (fun _ => by kernel_rfl) (fun _ => by kernel_rfl) rfl
theorem ce_impl_doesc1 : CO e_impl_doesc1 := fnc (fun _ => con_cons ce_impl_ownSt con_nil) Tryz.func184 ke_impl_doesc1 (by kernel_rfl) (fun _ => by kernel_rfl) (fun _ => by kernel_rfl) rfl
theorem ce_impl_PrimEffect : CO e_impl_PrimEffect := fnc (fun _ => con_cons ce_impl_PrimName con_nil) Tryz.func210 ke_impl_PrimEffect (by kernel_rfl) (fun _ => by kernel_rfl) (fun _ => by kernel_rfl) rfl
theorem ce_impl_wants : CO e_impl_wants := fnc (fun _ => con_cons ce_impl_PrimEffect con_nil) Tryz.func185 ke_impl_wants (by kernel_rfl) (fun _ => by kernel_rfl) (fun _ => by kernel_rfl) rfl
theorem ce_impl_St_written : CO e_impl_St_written := fnc (fun _ => con_nil) Tryz.func212 ke_impl_St_written (by kernel_rfl) (fun _ => by kernel_rfl) (fun _ => by kernel_rfl) rfl
theorem ce_strconv_Itoa : ConOk Tryz.prog e_strconv_Itoa := fe_strconv_Itoa
theorem ce_impl_DecText : CO e_impl_DecText := fnc (fun _ => con_cons ce_strconv_Itoa con_nil) Tryz.func93 ke_impl_DecText (by kernel_rfl) (fun _ => by kernel_rfl) (fun _ => by kernel_rfl) rfl
theorem ce_impl_result : CO e_impl_result := fnc (fun _ => con_nil) Tryz.func213 ke_impl_result (by kernel_rfl) (fun _ => by kernel_rfl) (fun _ => by kernel_rfl) rfl
theorem ce_impl_St_place_rd : CO e_impl_St_place_rd := fnc (fun _ => con_cons ce_impl_within con_nil) Tryz.func211 ke_impl_St_place_rd (by kernel_rfl) (fun _ => by kernel_rfl) (fun _ => by kernel_rfl) rfl
theorem ce_impl_St_effect : CO e_impl_St_effect := fnc (fun _ => con_cons ce_impl_St_place_rd (con_cons ce_slices_Contains_int (con_cons ce_impl_St_written (con_cons ce_impl_DecText (con_cons ce_impl_result con_nil))))) Tryz.func186 ke_impl_St_effect (by kernel_rfl) (fun _ => by kernel_rfl) (fun _ => by kernel_rfl) rfl
theorem ce_impl_does : CO e_impl_does := fnc (fun _ => con_cons ce_impl_PrimName (con_cons ce_impl_doesc1 (con_cons ce_impl_wants (con_cons ce_impl_ownSt (con_cons ce_impl_St_effect con_nil))))) Tryz.func139 ke_impl_does (by kernel_rfl) (fun _ => by kernel_rfl) (fun _ => by kernel_rfl) rfl
theorem ce_impl_Mach_back : CO e_impl_Mach_back := fnc (fun _ => con_nil) Tryz.func140 ke_impl_Mach_back (by kernel_rfl) (fun _ => by kernel_rfl) (fun _ => by kernel_rfl) rfl
theorem ce_impl_St_begin_inGMach_0 : CO e_impl_St_begin_inGMach_0 := fnc (fun _ => con_nil) Tryz.func141 ke_impl_St_begin_inGMach_0 (by kernel_rfl) (fun _ => by kernel_rfl) (fun _ => by kernel_rfl) rfl
theorem ce_impl_St_again_inGMach_0 : CO e_impl_St_again_inGMach_0 := fnc (fun _ => con_nil) Tryz.func142 ke_impl_St_again_inGMach_0 (by kernel_rfl) (fun _ => by kernel_rfl) (fun _ => by kernel_rfl) rfl
theorem ce_impl_Mach_leave_own : CO e_impl_Mach_leave_own := fnc (fun _ => con_cons ce_impl_within con_nil) Tryz.func143 ke_impl_Mach_leave_own (by kernel_rfl) (fun _ => by kernel_rfl) (fun _ => by kernel_rfl) rfl
theorem ce_impl_Mach_step : CO e_impl_Mach_step := fnc (fun _ => con_cons ce_impl_St_pushes_inGMach_0 (con_cons ce_impl_does (con_cons ce_impl_Mach_back (con_cons ce_impl_St_begin_inGMach_0 (con_cons ce_impl_St_again_inGMach_0 (con_cons ce_impl_Mach_leave_own con_nil)))))) Tryz.func76 ke_impl_Mach_step (by kernel_rfl) (fun _ => by kernel_rfl) (fun _ => by kernel_rfl) rfl
theorem ce_impl_RunTo : CO e_impl_RunTo := fnc (fun _ => con_cons ce_impl_ticks (con_cons ce_impl_within (con_cons ce_impl_ownMach (con_cons ce_impl_Mach_over_rd (con_cons ce_impl_Mach_step (con_cons ce_slices_Contains_int con_nil)))))) Tryz.func24 ke_impl_RunTo (by kernel_rfl) (fun _ => by kernel_rfl) (fun _ => by kernel_rfl) rfl
theorem ce_laws_eqInt32S : CO e_laws_eqInt32S := fnc (fun _ => con_nil) Tryz.func145 ke_laws_eqInt32S (by kernel_rfl) (fun _ => by kernel_rfl) (fun _ => by kernel_rfl) rfl
theorem ce_laws_eqSlot : CO e_laws_eqSlot := fnc (fun _ => con_nil) Tryz.func187 ke_laws_eqSlot (by kernel_rfl) (fun _ => by kernel_rfl) (fun _ => by kernel_rfl) rfl
theorem ce_laws_eqSlotS : CO e_laws_eqSlotS := fnc (fun _ => con_cons ce_laws_eqSlot con_nil) Tryz.func146 ke_laws_eqSlotS (by kernel_rfl) (fun _ => by kernel_rfl) (fun _ => by kernel_rfl) rfl
theorem ce_laws_eqUint32S : CO e_laws_eqUint32S := fnc (fun _ => con_nil) Tryz.func147 ke_laws_eqUint32S (by kernel_rfl) (fun _ => by kernel_rfl) (fun _ => by kernel_rfl) rfl
theorem ce_laws_eqIntS : CO e_laws_eqIntS := fnc (fun _ => con_nil) Tryz.func27 ke_laws_eqIntS (by kernel_rfl) (fun _ => by kernel_rfl) (fun _ => by kernel_rfl) rfl
theorem ce_laws_eqByteS : CO e_laws_eqByteS := fnc (fun _ => con_nil) Tryz.func148 ke_laws_eqByteS (by kernel_rfl) (fun _ => by kernel_rfl) (fun _ => by kernel_rfl) rfl
theorem ce_laws_eqSt : CO e_laws_eqSt := fnc (fun _ => con_cons ce_laws_eqInt32S (con_cons ce_laws_eqSlotS (con_cons ce_laws_eqUint32S (con_cons ce_laws_eqIntS (con_cons ce_laws_eqByteS con_nil))))) Tryz.func78 ke_laws_eqSt (by kernel_rfl) (fun _ => by kernel_rfl) (fun _ => by kernel_rfl) rfl
theorem ce_laws_eqMach : CO e_laws_eqMach := fnc (fun _ => con_cons ce_laws_eqSt con_nil) Tryz.func25 ke_laws_eqMach (by kernel_rfl) (fun _ => by kernel_rfl) (fun _ => by kernel_rfl) rfl
theorem ce_laws_eqIns : CO e_laws_eqIns := fnc (fun _ => con_nil) Tryz.func79 ke_laws_eqIns (by kernel_rfl) (fun _ => by kernel_rfl) (fun _ => by kernel_rfl) rfl
theorem ce_laws_eqInsS : CO e_laws_eqInsS := fnc (fun _ => con_cons ce_laws_eqIns con_nil) Tryz.func26 ke_laws_eqInsS (by kernel_rfl) (fun _ => by kernel_rfl) (fun _ => by kernel_rfl) rfl
theorem ce_laws_markInsS : CO e_laws_markInsS := fnc (fun _ => con_nil) Tryz.func28 ke_laws_markInsS (by kernel_rfl) (fun _ => by kernel_rfl) (fun _ => by kernel_rfl) rfl
theorem ce_laws_markInt32S : CO e_laws_markInt32S := fnc (fun _ => con_nil) Tryz.func149 ke_laws_markInt32S (by kernel_rfl) (fun _ => by kernel_rfl) (fun _ => by kernel_rfl) rfl
theorem ce_laws_markSlotS : CO e_laws_markSlotS := fnc (fun _ => con_nil) Tryz.func150 ke_laws_markSlotS (by kernel_rfl) (fun _ => by kernel_rfl) (fun _ => by kernel_rfl) rfl
theorem ce_laws_markUint32S : CO e_laws_markUint32S := fnc (fun _ => con_nil) Tryz.func151 ke_laws_markUint32S (by kernel_rfl) (fun _ => by kernel_rfl) (fun _ => by kernel_rfl) rfl
theorem ce_laws_markIntS : CO e_laws_markIntS := fnc (fun _ => con_nil) Tryz.func30 ke_laws_markIntS (by kernel_rfl) (fun _ => by kernel_rfl) (fun _ => by kernel_rfl) rfl
theorem ce_laws_markByteS : CO e_laws_markByteS := fnc (fun _ => con_nil) Tryz.func152 ke_laws_markByteS (by kernel_rfl) (fun _ => by kernel_rfl) (fun _ => by kernel_rfl) rfl
theorem ce_laws_markSt : CO e_laws_markSt := fnc (fun _ => con_cons ce_laws_markInt32S (con_cons ce_laws_markSlotS (con_cons ce_laws_markUint32S (con_cons ce_laws_markIntS (con_cons ce_laws_markByteS con_nil))))) Tryz.func80 ke_laws_markSt (by kernel_rfl) (fun _ => by kernel_rfl) (fun _ => by kernel_rfl) rfl
theorem ce_laws_markMach : CO e_laws_markMach := fnc (fun _ => con_cons ce_laws_markSt con_nil) Tryz.func29 ke_laws_markMach (by kernel_rfl) (fun _ => by kernel_rfl) (fun _ => by kernel_rfl) rfl
theorem ce_laws_heldInt32S : CO e_laws_heldInt32S := fnc (fun _ => con_nil) Tryz.func153 ke_laws_heldInt32S (by kernel_rfl) (fun _ => by kernel_rfl) (fun _ => by kernel_rfl) rfl
theorem ce_laws_heldSlotS : CO e_laws_heldSlotS := fnc (fun _ => con_nil) Tryz.func154 ke_laws_heldSlotS (by kernel_rfl) (fun _ => by kernel_rfl) (fun _ => by kernel_rfl) rfl
theorem ce_laws_heldUint32S : CO e_laws_heldUint32S := fnc (fun _ => con_nil) Tryz.func155 ke_laws_heldUint32S (by kernel_rfl) (fun _ => by kernel_rfl) (fun _ => by kernel_rfl) rfl
theorem ce_laws_heldIntS : CO e_laws_heldIntS := fnc (fun _ => con_nil) Tryz.func156 ke_laws_heldIntS (by kernel_rfl) (fun _ => by kernel_rfl) (fun _ => by kernel_rfl) rfl
theorem ce_laws_heldByteS : CO e_laws_heldByteS := fnc (fun _ => con_nil) Tryz.func157 ke_laws_heldByteS (by kernel_rfl) (fun _ => by kernel_rfl) (fun _ => by kernel_rfl) rfl
theorem ce_laws_heldSt : CO e_laws_heldSt := fnc (fun _ => con_cons ce_laws_heldInt32S (con_cons ce_laws_heldSlotS (con_cons ce_laws_heldUint32S (con_cons ce_laws_heldIntS (con_cons ce_laws_heldByteS con_nil))))) Tryz.func81 ke_laws_heldSt (by kernel_rfl) (fun _ => by kernel_rfl) (fun _ => by kernel_rfl) rfl
theorem ce_laws_heldMach : CO e_laws_heldMach := fnc (fun _ => con_cons ce_laws_heldSt con_nil) Tryz.func31 ke_laws_heldMach (by kernel_rfl) (fun _ => by kernel_rfl) (fun _ => by kernel_rfl) rfl
theorem ce_laws_FnExactRunTo : CO e_laws_FnExactRunTo := fnc (fun _ => con_cons ce_laws_szInsS (con_cons ce_laws_szMach (con_cons ce_laws_toInsS (con_cons ce_laws_toMach (con_cons ce_laws_toIntS (con_cons ce_spec_RunTo (con_cons ce_impl_RunTo (con_cons ce_laws_eqMach (con_cons ce_laws_eqInsS (con_cons ce_laws_eqIntS (con_cons ce_laws_markInsS (con_cons ce_laws_markMach (con_cons ce_laws_markIntS (con_cons ce_laws_heldMach con_nil)))))))))))))) Tryz.func4 ke_laws_FnExactRunTo (by kernel_rfl) (fun _ => by kernel_rfl) (fun _ => by kernel_rfl) rfl
end Go.Proofs.YtofjeimkphojaaaGreatDoor

namespace Go.Fm
theorem wI64 {x : Int} (h1 : -9223372036854775808 ≤ x) (h2 : x < 9223372036854775808) : IntKind.wrap .i64 x = x := by
  simp [IntKind.wrap, IntKind.bits, IntKind.signed]; omega
theorem wI32 {x : Int} (h1 : -2147483648 ≤ x) (h2 : x < 2147483648) : IntKind.wrap .i32 x = x := by
  simp [IntKind.wrap, IntKind.bits, IntKind.signed]; omega
theorem wI32_bd (x : Int) : -2147483648 ≤ IntKind.wrap .i32 x ∧ IntKind.wrap .i32 x < 2147483648 := by
  simp [IntKind.wrap, IntKind.bits, IntKind.signed]; omega
theorem getI_nat {α : Type} {xs : List α} {i : Nat} : getI xs (i : Int) = xs[i]? := by
  unfold getI; rw [if_pos (Int.natCast_nonneg i)]; rfl
theorem app_eq {α : Type} {xs ys : List α} (h : xs.length + ys.length ≤ 4294967296) : app xs ys = some (xs ++ ys) := by
  unfold app
  rw [if_pos (by rw [List.length_append]; exact h)]
theorem subL_eq {α : Type} {xs : List α} {a b : Int} (h0 : 0 ≤ a) (h1 : a ≤ b) (h2 : b ≤ xs.length) : subL xs a b = some ((xs.drop a.toNat).take (b.toNat - a.toNat)) := by
  unfold subL; rw [if_pos ⟨h0, h1, h2⟩]
theorem subL_drop {α : Type} {xs : List α} {a : Int} (h0 : 0 ≤ a) (h2 : a ≤ xs.length) : subL xs a xs.length = some (xs.drop a.toNat) := by
  rw [subL_eq h0 h2 (Int.le_refl _), List.take_of_length_le]
  rw [List.length_drop]; omega
theorem subL_take {α : Type} {xs : List α} {b : Int} (h0 : 0 ≤ b) (h2 : b ≤ xs.length) : subL xs 0 b = some (xs.take b.toNat) := by
  rw [subL_eq (Int.le_refl _) h0 h2]; rfl
theorem mk_eq {α : Type} {z : α} {n : Int} (h0 : 0 ≤ n) (h1 : n ≤ 4294967296) : mk z n = some (List.replicate n.toNat z) := by
  unfold mk; rw [if_pos ⟨h0, h1⟩]
theorem catS_eq {a b : List UInt8} (h : a.length + b.length < 4611686018427387904) : catS a b = some (a ++ b) := by
  unfold catS; rw [if_pos h]
def Tot {α : Type} (o : Option α) (Q : α → Prop) : Prop := ∃ a, o = some a ∧ Q a
section
variable {α β : Type} {Q Q' : α → Prop} {R : β → Prop}
theorem Tot.some {a : α} (h : Q a) : Tot (some a) Q := ⟨a, rfl, h⟩
theorem Tot.bind {o : Option α} {f : α → Option β} (h : Tot o Q) (hf : ∀ a, Q a → Tot (f a) R) : Tot (o.bind f) R := by
  obtain ⟨a, rfl, ha⟩ := h; exact hf a ha
theorem Tot.cond {c : Bool} {x y : Option α} (h1 : c = true → Tot x Q) (h2 : c = false → Tot y Q) : Tot (cond c x y) Q := by
  cases c with
  | true => exact h1 rfl
  | false => exact h2 rfl
theorem Tot.condD {p : Prop} [Decidable p] {x y : Option α} (h1 : p → Tot x Q) (h2 : ¬ p → Tot y Q) : Tot (_root_.cond (decide p) x y) Q :=
  .cond (fun h => h1 (of_decide_eq_true h)) (fun h => h2 (of_decide_eq_false h))
theorem Tot.mono {o : Option α} (h : Tot o Q) (hq : ∀ a, Q a → Q' a) : Tot o Q' := by obtain ⟨a, e, ha⟩ := h; exact ⟨a, e, hq a ha⟩
end
end Go.Fm
namespace Go.Fm
theorem nxt {n : Nat} (h : n < 16777216) : IntKind.wrap .i64 ((n : Int) + 1) = ((n + 1 : Nat) : Int) := by rw [wI64 (by omega) (by omega)]; omega
theorem flipC {α : Type} (b : Bool) (x y : Option α) : cond (!b) x y = cond b y x := by cases b <;> rfl
def allN {α : Type} (p : Nat → α → Bool) : Nat → List α → Bool
  | _, [] => true
  | n, x :: r => p n x && allN p (n + 1) r
theorem allN_const {α : Type} (p : α → Bool) : ∀ (n : Nat) (l : List α), allN (fun _ => p) n l = l.all p
  | n, [] => rfl
  | n, x :: r => by simp only [allN, List.all_cons, allN_const p (n + 1) r]
theorem allLoop {α β : Type} {L : List α} {bad : β} (p : Nat → α → Bool) (F : Nat → Int → Option (Unit ⊕ β)) (step : ∀ (k n : Nat) (x : α), L[n]? = some x → n < L.length → F (k + 1) n = cond (p n x) (F k ((n + 1 : Nat) : Int)) (some (.inr bad)))
    (fin : ∀ k n : Nat, L.length ≤ n → F (k + 1) n = some (.inl ())) (hm : L.length ≤ 16777216) : F bigK 0 = some (cond (allN p 0 L) (.inl ()) (.inr bad)) := by
  have key : ∀ (k n : Nat), n ≤ L.length → L.length - n < k → F k n = some (cond (allN p n (L.drop n)) (.inl ()) (.inr bad)) := by
    intro k
    induction k with
    | zero => intro n h0 h1; omega
    | succ k ih =>
      intro n h0 h1
      by_cases hn : n < L.length
      · rw [step k n L[n] (List.getElem?_eq_getElem hn) hn, List.drop_eq_getElem_cons hn]
        show _ = some (cond (p n L[n] && allN p (n + 1) (L.drop (n + 1))) _ _)
        cases p n L[n] with
        | false => rfl
        | true => rw [cond_true, ih (n + 1) (by omega) (by omega), Bool.true_and]
      · rw [fin k n (by omega), List.drop_eq_nil_of_le (by omega)]; rfl
  have := key bigK 0 (Nat.zero_le _) (by unfold bigK; omega)
  rw [List.drop_zero] at this
  exact this
theorem eqList {α : Type} [DecidableEq α] {a b : List α} (F : Nat → Int → Option (Unit ⊕ Bool)) (g : Option Bool) (hg : g = cond ((a.length : Int) != (b.length : Int)) (some false) (((F bigK 0).bind fun o => match o with | .inl () => some (.inl ()) | .inr v => some (.inr v) : Option (Unit ⊕ Bool)).bind fun o => match o with | .inl () => some true | .inr v => some v))
    (hF : ∀ (k : Nat) (i : Int), F (k + 1) i = cond (decide (i < (a.length : Int))) ((getI a i).bind fun x => (getI b i).bind fun y => cond (!decide (x = y)) (some (.inr false)) (F k (IntKind.wrap .i64 (i + 1)))) (some (.inl ()))) (hm : a.length ≤ 1048576) : g = some (decide (a = b)) := by
  rw [hg]
  by_cases hl : a.length = b.length
  · have key : ∀ (k n : Nat), n ≤ a.length → a.length - n < k → F k n = some (if a.drop n = b.drop n then .inl () else .inr false) := by
      intro k
      induction k with
      | zero => intro n h0 h1; omega
      | succ k ih =>
        intro n h0 h1
        rw [hF]
        by_cases hn : n < a.length
        · have hn' : n < b.length := by omega
          rw [decide_eq_true (by omega), getI_nat, getI_nat, List.getElem?_eq_getElem hn, List.getElem?_eq_getElem hn', List.drop_eq_getElem_cons hn, List.drop_eq_getElem_cons hn']
          simp only [cond_true, Option.bind_some]
          by_cases he : a[n] = b[n]
          · rw [decide_eq_true he, Bool.not_true, cond_false, wI64 (by omega) (by omega), show ((n : Int) + 1) = ((n + 1 : Nat) : Int) by omega, ih (n + 1) (by omega) (by omega), he]
            simp only [List.cons.injEq, true_and]
          · rw [decide_eq_false he, Bool.not_false, cond_true, if_neg (fun h => he (List.cons.inj h).1)]
        · rw [decide_eq_false (by omega), cond_false, List.drop_eq_nil_of_le (by omega), List.drop_eq_nil_of_le (by omega), if_pos rfl]
    have : ((a.length : Int) != (b.length : Int)) = false := by rw [hl]; simp
    rw [this, cond_false]
    have h := key bigK 0 (Nat.zero_le _) (by unfold bigK; omega)
    rw [show ((0 : Nat) : Int) = 0 from rfl] at h
    rw [h]
    by_cases he : a = b
    · simp [he]
    · simp [he]
  · have : ((a.length : Int) != (b.length : Int)) = true := by simp; omega
    rw [this, cond_true, decide_eq_false (fun h => hl (by rw [h]))]
theorem copyM {α : Type} {a : List α} (F : Nat → List α → Int → Option (List α))
    (hs : ∀ (k n : Nat) (out : List α) (x y : α), a[n]? = some x → n < a.length → out[n]? = some y → F (k + 1) out n = F k (out.set n x) ((n + 1 : Nat) : Int))
    (he : ∀ (k n : Nat) (out : List α), a.length ≤ n → F (k + 1) out n = some out) (hm : a.length ≤ 16777216) {z : List α} (hz : z.length = a.length) : F bigK z 0 = some a := by
  have key : ∀ (k n : Nat) (rest : List α), n ≤ a.length → a.length - n < k → rest.length = a.length - n → F k (a.take n ++ rest) n = some a := by
    intro k
    induction k with
    | zero => intro n rest h0 h1; omega
    | succ k ih =>
      intro n rest h0 h1 h2
      by_cases hn : n < a.length
      · cases rest with
        | nil => simp at h2; omega
        | cons x r =>
          have hl : (a.take n).length = n := by rw [List.length_take]; omega
          rw [hs k n _ a[n] x (List.getElem?_eq_getElem hn) hn (by rw [List.getElem?_append_right (by omega), hl, Nat.sub_self]; rfl)]
          have hset : (a.take n ++ x :: r).set n a[n] = a.take (n + 1) ++ r := by
            rw [List.set_append_right _ _ (by omega), hl, Nat.sub_self, List.set_cons_zero, List.take_succ_eq_append_getElem hn, List.append_assoc]
            rfl
          rw [hset]
          exact ih (n + 1) r (by omega) (by omega) (by simp at h2; omega)
      · have hr : rest = [] := List.length_eq_zero_iff.1 (by omega)
        rw [he k n _ (by omega), hr, List.append_nil, List.take_of_length_le (by omega)]
  have h := key bigK 0 z (Nat.zero_le _) (by unfold bigK; omega) (by omega)
  rw [Int.natCast_zero, List.take_zero, List.nil_append] at h
  exact h
theorem copyLoop {α : Type} {a : List α} (F : Nat → List α → Int → Option (List α))
    (hs : ∀ (k : Nat) (out : List α) (i : Int), F (k + 1) out i = cond (decide (i < (a.length : Int))) ((getI a i).bind fun x => (getI out i).bind fun _ => F k (out.set i.toNat x) (IntKind.wrap .i64 (i + 1))) (some out))
    (hm : a.length ≤ 16777216) {z : List α} (hz : z.length = a.length) : F bigK z 0 = some a := by
  by_cases hb : a.length < 16777216
  · exact copyM F (fun k n out x y hx hn hy => by
      rw [hs, decide_eq_true (by omega), cond_true, getI_nat, hx]
      simp only [Option.bind_some]
      rw [getI_nat, hy, nxt (by omega)]
      rfl) (fun k n out hn => by rw [hs, decide_eq_false (by omega), cond_false]) hm hz
  · exact copyM F (fun k n out x y hx hn hy => by
      rw [hs, decide_eq_true (by omega), cond_true, getI_nat, hx]
      simp only [Option.bind_some]
      rw [getI_nat, hy, nxt (by omega)]
      rfl) (fun k n out hn => by rw [hs, decide_eq_false (by omega), cond_false]) hm hz
theorem eqRefl {α : Type} {a : List α} (F : Nat → Int → Option (Unit ⊕ Bool)) (f : Option Bool)
    (hf : f = cond ((a.length : Int) != (a.length : Int)) (some false) (((F bigK 0).bind fun o => match o with | .inl () => some (.inl ()) | .inr v => some (.inr v) : Option (Unit ⊕ Bool)).bind fun o => match o with | .inl () => some true | .inr v => some v))
    (hs : ∀ (k n : Nat) (x : α), a[n]? = some x → n < a.length → F (k + 1) n = F k ((n + 1 : Nat) : Int)) (he : ∀ (k n : Nat), a.length ≤ n → F (k + 1) n = some (.inl ())) (hm : a.length ≤ 16777216) : f = some true := by
  have h := allLoop (L := a) (bad := false) (fun _ _ => true) F (fun k n x hx hn => by rw [hs k n x hx hn]; rfl) he hm
  rw [hf, h]
  have e : ∀ (n : Nat) (l : List α), allN (fun _ _ => true) n l = true := fun n l => by rw [allN_const (fun _ => true)]; simp
  rw [e]
  simp
theorem bne_self' {α : Type} [BEq α] [LawfulBEq α] (x : α) : (x != x) = false := by simp
abbrev LN : Nat := 9223372036854775807
def marksN {β : Type} (val : Nat → β) (s : Nat) : Nat → Nat → List β
  | _, 0 => []
  | k, n + 1 => val k :: marksN val s (k + s) n
theorem marksN_len {β : Type} (val : Nat → β) (s : Nat) : ∀ (n k : Nat), (marksN val s k n).length = n
  | 0, k => rfl
  | n + 1, k => by rw [marksN, List.length_cons, marksN_len val s n]
theorem markL {β : Type} (val : Nat → β) (s N : Nat) (F : Nat → List β → Int → Int → Option (Int × List β)) 
    (hs : ∀ (k : Nat) (a : List β) (kk n : Nat), n < a.length → a.length ≤ 1048576 → kk ≤ N → F (k + 1) a kk n = F k (a.set n (val kk)) ((kk + s : Nat) : Int) ((n + 1 : Nat) : Int))
    (he : ∀ (k : Nat) (a : List β) (kk n : Nat), a.length ≤ n → F (k + 1) a kk n = some ((kk : Int), a)) :
    ∀ (k : Nat) (done rest : List β) (kk : Nat), kk + s * rest.length ≤ N → done.length + rest.length ≤ 1048576 → rest.length < k → F k (done ++ rest) kk done.length = some (((kk + s * rest.length : Nat) : Int), done ++ marksN val s kk rest.length) := by
  intro k
  induction k with
  | zero => intro done rest kk h0 h1 h2; omega
  | succ k ih =>
    intro done rest kk h0 h1 h2
    cases rest with
    | nil => rw [he _ _ _ _ (by simp)]; simp [marksN]
    | cons x r =>
      simp only [List.length_cons, Nat.mul_add, Nat.mul_one] at h0 h1 h2
      rw [hs _ _ _ _ (by simp) (by simp; omega) (by omega), List.set_append_right _ _ (Nat.le_refl _), Nat.sub_self, List.set_cons_zero]
      have := ih (done ++ [val kk]) r (kk + s) (by omega) (by simp; omega) (by omega)
      simp only [List.append_assoc, List.singleton_append, List.length_append, List.length_singleton] at this
      rw [this]
      simp only [marksN, List.length_cons, Nat.mul_add, Nat.mul_one]
      congr 3
      omega
theorem heldL {β : Type} (val : Nat → β) (s N : Nat) {L : List β} (F : Nat → Int → Int → Option (Int ⊕ Int))
    (hs : ∀ (k kk n : Nat) (h : n < L.length), n ≤ 1048576 → kk ≤ N → L[n] = val kk → F (k + 1) kk n = F k ((kk + s : Nat) : Int) ((n + 1 : Nat) : Int))
    (he : ∀ (k kk n : Nat), L.length ≤ n → F (k + 1) kk n = some (.inl (kk : Int))) :
    ∀ (k : Nat) (done : List β) (kk m : Nat), L = done ++ marksN val s kk m → L.length ≤ 1048576 → kk + s * m ≤ N → m < k → F k kk done.length = some (.inl ((kk + s * m : Nat) : Int)) := by
  intro k
  induction k with
  | zero => intro done kk m h0 hL h1 h2; omega
  | succ k ih =>
    intro done kk m h0 hL h1 h2
    cases m with
    | zero => rw [he _ _ _ (by rw [h0]; simp [marksN])]; simp
    | succ m =>
      have hl : done.length < L.length := by rw [h0]; simp [marksN]
      have hg : L[done.length] = val kk := by
        have : L[done.length]? = some (val kk) := by rw [h0, List.getElem?_append_right (Nat.le_refl _), Nat.sub_self]; rfl
        rw [List.getElem?_eq_getElem hl] at this
        exact Option.some.inj this
      simp only [Nat.mul_add, Nat.mul_one] at h1
      rw [hs _ _ _ hl (by omega) (by omega) hg]
      have := ih (done ++ [val kk]) (kk + s) m (by rw [h0, List.append_assoc]; rfl) hL (by omega) (by omega)
      rw [List.length_append, List.length_singleton] at this
      rw [this]
      simp only [Nat.mul_add, Nat.mul_one]
      congr 3
      omega
def Fits (f : Int → Option Int) (c : Nat) (Q : Prop) : Prop := ∀ left : Int, 0 ≤ left → left ≤ 1048576 → Tot (f left) fun r => r < 0 ∨ (0 ≤ r ∧ r + c ≤ left ∧ Q)
theorem Fits.one {f : Int → Option Int} {n : Nat} (hn : n ≤ 9223372036854775807) (hf : ∀ left, f left = cond (decide ((IntKind.wrap .i64 (left - (n : Int))) < 0)) (some (-1)) (some (IntKind.wrap .i64 (left - (n : Int))))) : Fits f n True := fun left h0 h1 => by
  rw [hf, wI64 (by omega) (by omega)]
  exact .condD (fun _ => .some (.inl (by decide))) fun h => .some (.inr ⟨by omega, by omega, trivial⟩)
theorem Fits.seq {f g : Int → Option Int} {h : Int → Option Int} {c d : Nat} {Q R : Prop} (hg : Fits g c Q) (hh : Fits h d R) (hf : ∀ left, f left = (g left).bind fun y => cond (decide (y < 0)) (some (-1)) (h y)) : Fits f (c + d) (Q ∧ R) := fun left h0 h1 => by
  rw [hf]
  refine .bind (hg left h0 h1) fun y hy => .condD (fun _ => .some (.inl (by decide))) fun hn => ?_
  have hy := hy.resolve_left hn
  refine (hh y hy.1 (by omega)).mono fun r hr => ?_
  rcases hr with hr | hr
  · exact .inl hr
  · exact .inr ⟨hr.1, by omega, hy.2.2, hr.2.2⟩
theorem Fits.last : Fits (fun y => some y) 0 True := fun left h0 h1 => .some (.inr ⟨h0, by omega, trivial⟩)
theorem Fits.weak {f : Int → Option Int} {c : Nat} {Q R : Prop} (h : Fits f c Q) (hq : c ≤ 1048576 → Q → R) : Fits f 0 R := fun left h0 h1 => (h left h0 h1).mono fun r hr => by
  rcases hr with hr | hr
  · exact .inl hr
  · exact .inr ⟨hr.1, by omega, hq (by omega) hr.2.2⟩
end Go.Fm
namespace Go.Proofs.YtofjeimkphojaaaGreatDoor
open Go Go.Fm
set_option maxRecDepth 100000
theorem specIn_eq {x a b : Int} : g_spec_l01In x a b = some (decide (a ≤ x ∧ x ≤ b)) := by
  unfold g_spec_l01In
  by_cases h : x ≥ a
  · rw [decide_eq_true h]
    simp only [cond_true]
    congr 1
    exact decide_eq_decide.2 ⟨fun h2 => ⟨h, h2⟩, fun h2 => h2.2⟩
  · rw [decide_eq_false h]
    simp only [cond_false]
    congr 1
    exact (decide_eq_false fun h2 => h h2.1).symm
theorem within_eq {x a b : Int} : g_impl_within x a b = some (decide (a ≤ x ∧ x ≤ b)) := by
  unfold g_impl_within
  by_cases h : a ≤ x
  · rw [decide_eq_true h]
    simp only [cond_true]
    congr 1
    exact decide_eq_decide.2 ⟨fun h2 => ⟨h, h2⟩, fun h2 => h2.2⟩
  · rw [decide_eq_false h]
    simp only [cond_false]
    congr 1
    exact (decide_eq_false fun h2 => h h2.1).symm
def inB (x a b : Int) : Bool := decide (a ≤ x ∧ x ≤ b)
theorem wIn (x a b : Int) : g_impl_within x a b = some (inB x a b) := within_eq
theorem sIn (x a b : Int) : g_spec_l01In x a b = some (inB x a b) := specIn_eq
end Go.Proofs.YtofjeimkphojaaaGreatDoor
namespace Go.Proofs.YtofjeimkphojaaaGreatDoor
open Go Go.Fm
set_option maxRecDepth 100000
theorem has_l0 {l : List Int} {v : Int} (hl : l.length ≤ 1048576) : g_slices_Contains_int l v = some (l.any fun x => v == x) := by
  unfold g_slices_Contains_int g_slices_Index_int
  have key : ∀ (k n : Nat), n ≤ l.length → l.length - n < k → ∃ o : Unit ⊕ Int, g_slices_Index_int_l0 l v (l.length : Int) k n = some o ∧ (match o with | .inl _ => ((l.drop n).any fun x => v == x) = false | .inr i => 0 ≤ i ∧ ((l.drop n).any fun x => v == x) = true) := by
    intro k
    induction k with
    | zero => intro n h0 h1; omega
    | succ k ih =>
      intro n h0 h1
      rw [g_slices_Index_int_l0]
      by_cases hn : n < l.length
      · rw [decide_eq_true (by omega), cond_true, getI_nat, List.getElem?_eq_getElem hn, List.drop_eq_getElem_cons hn, List.any_cons]
        simp only [Option.bind_some]
        cases hk : (v == l[n])
        · rw [cond_false, nxt (by omega)]
          obtain ⟨o, g1, g2⟩ := ih (n + 1) (by omega) (by omega)
          exact ⟨o, g1, by cases o <;> simpa using g2⟩
        · rw [cond_true]
          exact ⟨_, rfl, by simp⟩
      · rw [decide_eq_false (by omega), cond_false, List.drop_eq_nil_of_le (by omega)]
        exact ⟨_, rfl, rfl⟩
  obtain ⟨o, h, g⟩ := key bigK 0 (Nat.zero_le _) (by unfold bigK; omega)
  rw [Int.natCast_zero] at h
  rw [List.drop_zero] at g
  rw [h]
  cases o with
  | inl u => simp only [Option.bind_some]; rw [show (l.any fun x => v == x) = false from g]; rfl
  | inr i => simp only [Option.bind_some]; rw [g.2, decide_eq_true g.1]
def StB (st : GSt) : Bool :=
  !decide ((st.Data.length : Int) > 16) && (!decide ((st.Ret.length : Int) > 24) && (!((st.Mem.length : Int) != 32) && (!decide ((st.Vars.length : Int) > 20) && (!decide ((st.Out.length : Int) > 400) && (!decide ((st.In.length : Int) > 100) &&
    (st.Ret.all (fun o => inB o.Kind 0 2) && (allN (fun n v => inB v 0 (IntKind.wrap .i64 ((st.Cells.length : Int) - 1)) && !((st.Vars.take n).any fun x => v == x)) 0 st.Vars && ((((Int.tmod (st.Cells.length : Int) 64) == 0) && decide ((st.Cells.length : Int) ≤ 768)) && (inB st.Fault 0 13 && inB st.Fuel 0 4000)))))))))
structure StSz (st : GSt) : Prop where
  r : st.Ret.length ≤ 1048576
  v : st.Vars.length ≤ 1048576
theorem spec_in {l : List Int} {v : Int} {n : Nat} (hn : n ≤ l.length) (hl : l.length ≤ 1048576) {st : GSt} (hst : st.Vars = l) (hv : l[n]? = some v) : g_spec_StOk_l2 (n : Int) st bigK 0 = some (cond (!((l.take n).any fun x => v == x)) (.inl ()) (.inr false)) := by
  subst hst
  have hlen : (st.Vars.take n).length = n := by rw [List.length_take]; omega
  have h := allLoop (L := st.Vars.take n) (fun _ x => !(v == x)) (g_spec_StOk_l2 (n : Int) st) (fun k m x hx hm => by
      rw [hlen] at hm
      rw [List.getElem?_take, if_pos hm] at hx
      rw [g_spec_StOk_l2, decide_eq_true (by omega), cond_true, getI_nat, hx, getI_nat, hv]
      simp only [Option.bind_some]
      rw [nxt (by omega), flipC, show (x == v) = (v == x) from Bool.beq_comm]) (fun k m hm => by rw [hlen] at hm; rw [g_spec_StOk_l2, decide_eq_false (by omega), cond_false]) (by rw [hlen]; omega)
  rw [h, allN_const]
  congr 2
  rw [List.all_eq_not_any_not]
  simp
theorem spec_st {st : GSt} (h : StSz st) : g_spec_StOk st = some (StB st) := by
  unfold g_spec_StOk StB
  have hr := h.r
  have hv := h.v
  have h0 := allLoop (L := st.Ret) (fun _ o => inB o.Kind 0 2) (g_spec_StOk_l0 st) (fun k n x hx hn => by
      rw [g_spec_StOk_l0, decide_eq_true (by omega), cond_true, getI_nat, hx]
      simp only [Option.bind_some]
      rw [sIn]
      simp only [Option.bind_some]
      rw [nxt (by omega), flipC]) (fun k n hn => by rw [g_spec_StOk_l0, decide_eq_false (by omega), cond_false]) (by omega)
  have h1 := allLoop (L := st.Vars) (fun n v => inB v 0 (IntKind.wrap .i64 ((st.Cells.length : Int) - 1)) && !((st.Vars.take n).any fun x => v == x)) (g_spec_StOk_l1 st) (fun k n x hx hn => by
      rw [g_spec_StOk_l1, decide_eq_true (by omega), cond_true, getI_nat, hx]
      simp only [Option.bind_some]
      rw [sIn]
      simp only [Option.bind_some]
      rw [spec_in (l := st.Vars) (by omega) hv rfl hx, nxt (by omega)]
      cases inB x 0 (IntKind.wrap .i64 ((st.Cells.length : Int) - 1))
      · rfl
      · cases ((st.Vars.take n).any fun y => x == y) <;> rfl) (fun k n hn => by rw [g_spec_StOk_l1, decide_eq_false (by omega), cond_false]) (by omega)
  rw [h0, h1]
  unfold g_spec_StoreOk
  rw [sIn, sIn, allN_const]
  generalize decide ((st.Data.length : Int) > 16) = b1
  generalize decide ((st.Ret.length : Int) > 24) = b2
  generalize ((st.Mem.length : Int) != 32) = b3
  generalize decide ((st.Vars.length : Int) > 20) = b4
  generalize decide ((st.Out.length : Int) > 400) = b5
  generalize decide ((st.In.length : Int) > 100) = b6
  generalize (st.Ret.all fun o => inB o.Kind 0 2) = b7
  generalize allN _ 0 st.Vars = b8
  generalize (Int.tmod (st.Cells.length : Int) 64 == 0) = b9
  generalize decide ((st.Cells.length : Int) ≤ 768) = b10
  generalize inB st.Fault 0 13 = b11
  generalize inB st.Fuel 0 4000 = b12
  revert b1 b2 b3 b4 b5 b6 b7 b8 b9 b10 b11 b12
  decide +kernel
theorem impl_st {st : GSt} (h : StSz st) : g_impl_StOk st = some (StB st) := by
  unfold g_impl_StOk StB
  have hr := h.r
  have hv := h.v
  have h0 := allLoop (L := st.Ret) (fun _ o => inB o.Kind 0 2) (g_impl_StOk_l0 st.Ret (st.Ret.length : Int)) (fun k n x hx hn => by
      rw [g_impl_StOk_l0, decide_eq_true (by omega), cond_true, getI_nat, hx]
      simp only [Option.bind_some]
      rw [wIn]
      simp only [Option.bind_some]
      rw [nxt (by omega), flipC]) (fun k n hn => by rw [g_impl_StOk_l0, decide_eq_false (by omega), cond_false]) (by omega)
  have h1 := allLoop (L := st.Vars) (fun n v => inB v 0 (IntKind.wrap .i64 ((st.Cells.length : Int) - 1)) && !((st.Vars.take n).any fun x => v == x)) (g_impl_StOk_l1 st.Vars (st.Vars.length : Int) st) (fun k n x hx hn => by
      rw [g_impl_StOk_l1, decide_eq_true (by omega), cond_true, getI_nat, hx]
      simp only [Option.bind_some]
      rw [wIn]
      simp only [Option.bind_some]
      rw [subL_take (by omega) (by omega), Int.toNat_natCast]
      simp only [Option.bind_some]
      rw [has_l0 (by rw [List.length_take]; omega), nxt (by omega)]
      simp only [Option.bind_some]
      cases inB x 0 (IntKind.wrap .i64 ((st.Cells.length : Int) - 1))
      · rfl
      · cases ((st.Vars.take n).any fun y => x == y) <;> rfl) (fun k n hn => by rw [g_impl_StOk_l1, decide_eq_false (by omega), cond_false]) (by omega)
  rw [h0, h1]
  unfold g_impl_StoreOk
  rw [wIn, wIn, allN_const]
  have e5 : decide ((st.Out.length : Int) ≤ 400) = !decide ((st.Out.length : Int) > 400) := by rw [← decide_not]; congr 1; simp
  have e6 : decide ((st.In.length : Int) ≤ 100) = !decide ((st.In.length : Int) > 100) := by rw [← decide_not]; congr 1; simp
  rw [e5, e6]
  generalize decide ((st.Data.length : Int) > 16) = b1
  generalize decide ((st.Ret.length : Int) > 24) = b2
  generalize ((st.Mem.length : Int) != 32) = b3
  generalize decide ((st.Vars.length : Int) > 20) = b4
  generalize decide ((st.Out.length : Int) > 400) = b5
  generalize decide ((st.In.length : Int) > 100) = b6
  generalize (st.Ret.all fun o => inB o.Kind 0 2) = b7
  generalize allN _ 0 st.Vars = b8
  generalize (Int.tmod (st.Cells.length : Int) 64 == 0) = b9
  generalize decide ((st.Cells.length : Int) ≤ 768) = b10
  generalize inB st.Fault 0 13 = b11
  generalize inB st.Fuel 0 4000 = b12
  revert b1 b2 b3 b4 b5 b6 b7 b8 b9 b10 b11 b12
  decide +kernel
theorem toInt32S {a : List Int} (h : a.length ≤ 1048576) : g_laws_toInt32S a = some a := by
  unfold g_laws_toInt32S
  rw [mk_eq (by omega) (by omega), Option.bind_some, copyLoop (g_laws_toInt32S_l0 a) (fun _ _ _ => rfl) (by omega) (by simp)]
  rfl
theorem toUint32S {a : List Int} (h : a.length ≤ 1048576) : g_laws_toUint32S a = some a := by
  unfold g_laws_toUint32S
  rw [mk_eq (by omega) (by omega), Option.bind_some, copyLoop (g_laws_toUint32S_l0 a) (fun _ _ _ => rfl) (by omega) (by simp)]
  rfl
theorem toIntS {a : List Int} (h : a.length ≤ 1048576) : g_laws_toIntS a = some a := by
  unfold g_laws_toIntS
  rw [mk_eq (by omega) (by omega), Option.bind_some, copyLoop (g_laws_toIntS_l0 a) (fun _ _ _ => rfl) (by omega) (by simp)]
  rfl
theorem toByteS {a : List Int} (h : a.length ≤ 1048576) : g_laws_toByteS a = some a := by
  unfold g_laws_toByteS
  rw [mk_eq (by omega) (by omega), Option.bind_some, copyLoop (g_laws_toByteS_l0 a) (fun _ _ _ => rfl) (by omega) (by simp)]
  rfl
theorem toSlotS {a : List GSlot} (h : a.length ≤ 1048576) : g_laws_toSlotS a = some a := by
  unfold g_laws_toSlotS
  rw [mk_eq (by omega) (by omega), Option.bind_some, copyLoop (g_laws_toSlotS_l0 a) (fun _ _ _ => rfl) (by omega) (by simp)]
  rfl
theorem eqInt32S {a : List Int} (h : a.length ≤ 1048576) : g_laws_eqInt32S a a = some true := by
  rw [show g_laws_eqInt32S a a = some (decide (a = a)) from eqList (g_laws_eqInt32S_l0 a a) _ rfl (fun _ _ => rfl) (by omega)]; simp
theorem eqUint32S {a : List Int} (h : a.length ≤ 1048576) : g_laws_eqUint32S a a = some true := by
  rw [show g_laws_eqUint32S a a = some (decide (a = a)) from eqList (g_laws_eqUint32S_l0 a a) _ rfl (fun _ _ => rfl) (by omega)]; simp
theorem eqIntS {a : List Int} (h : a.length ≤ 1048576) : g_laws_eqIntS a a = some true := by
  rw [show g_laws_eqIntS a a = some (decide (a = a)) from eqList (g_laws_eqIntS_l0 a a) _ rfl (fun _ _ => rfl) (by omega)]; simp
theorem eqByteS {a : List Int} (h : a.length ≤ 1048576) : g_laws_eqByteS a a = some true := by
  rw [show g_laws_eqByteS a a = some (decide (a = a)) from eqList (g_laws_eqByteS_l0 a a) _ rfl (fun _ _ => rfl) (by omega)]; simp
theorem eqSlotS {a : List GSlot} (h : a.length ≤ 1048576) : g_laws_eqSlotS a a = some true :=
  eqRefl (g_laws_eqSlotS_l0 a a) _ rfl (fun k n x hx hn => by
    rw [g_laws_eqSlotS_l0, decide_eq_true (by omega), cond_true, getI_nat, hx]
    unfold g_laws_eqSlot
    simp only [Option.bind_some, bne_self', cond_false, Bool.not_true]
    rw [nxt (by omega)]) (fun k n hn => by rw [g_laws_eqSlotS_l0, decide_eq_false (by omega), cond_false]) (by omega)
structure StW (st : GSt) : Prop where
  d : st.Data.length ≤ LN
  r : st.Ret.length ≤ LN
  m : st.Mem.length ≤ LN
  c : st.Cells.length ≤ LN
  v : st.Vars.length ≤ LN
  o : st.Out.length ≤ LN
  i : st.In.length ≤ LN
structure StAll (st : GSt) : Prop where
  d : st.Data.length ≤ 1048576
  r : st.Ret.length ≤ 1048576
  m : st.Mem.length ≤ 1048576
  c : st.Cells.length ≤ 1048576
  v : st.Vars.length ≤ 1048576
  o : st.Out.length ≤ 1048576
  i : st.In.length ≤ 1048576
theorem fitsSt {st : GSt} (h : StW st) : Fits (g_laws_szSt st) 0 (StAll st) :=
  Fits.weak (Fits.seq (Fits.one h.d fun _ => rfl) (Fits.seq (Fits.one h.r fun _ => rfl) (Fits.seq (Fits.one h.m fun _ => rfl) (Fits.seq (Fits.one h.c fun _ => rfl) (Fits.seq (Fits.one h.v fun _ => rfl) (Fits.seq (Fits.one h.o fun _ => rfl)
    (Fits.seq (Fits.one h.i fun _ => rfl) Fits.last fun _ => rfl) fun _ => rfl) fun _ => rfl) fun _ => rfl) fun _ => rfl) fun _ => rfl) fun _ => rfl) fun hc _ => ⟨by omega, by omega, by omega, by omega, by omega, by omega, by omega⟩
theorem toSt_eq {st : GSt} (h : StAll st) : g_laws_toSt st = some st := by
  unfold g_laws_toSt
  simp only [toInt32S h.d, toSlotS h.r, toInt32S h.m, toUint32S h.c, toIntS h.v, toByteS h.o, toByteS h.i, Option.bind_some]
theorem eqSt_eq {st : GSt} (h : StAll st) : g_laws_eqSt st st = some true := by
  unfold g_laws_eqSt
  simp only [eqInt32S h.d, eqSlotS h.r, eqInt32S h.m, eqUint32S h.c, eqIntS h.v, eqByteS h.o, eqByteS h.i, Option.bind_some, Bool.not_true, cond_false, bne_self_eq_false]
end Go.Proofs.YtofjeimkphojaaaGreatDoor
namespace Go.Proofs.YtofjeimkphojaaaGreatDoor
open Go Go.Fm
theorem dec_len : ∀ (k u : Nat), u < 10 ^ (k + 1) → (Lib.decDigits u).length ≤ k + 1 := by
  intro k
  induction k with
  | zero =>
    intro u h
    rw [Lib.decDigits, dif_pos (by omega)]; simp
  | succ k ih =>
    intro u h
    rw [Lib.decDigits]
    split
    · simp
    · have : u / 10 < 10 ^ (k + 1) := by rw [Nat.div_lt_iff_lt_mul (by omega)]; rw [Nat.pow_succ] at h; omega
      have := ih (u / 10) this
      simp; omega
theorem itoa_len {n : Int} (h0 : -9223372036854775808 ≤ n) (h1 : n ≤ 9223372036854775807) : (Lib.itoa n).length ≤ 21 := by
  unfold Lib.itoa
  split
  · have := dec_len 19 n.natAbs (by omega)
    simp; omega
  · have := dec_len 19 n.toNat (by omega)
    omega
theorem impl_dec {n : Int} (h0 : -9223372036854775808 ≤ n) (h1 : n ≤ 9223372036854775807) : g_impl_DecText n = some (Lib.itoa n) := by
  unfold g_impl_DecText g_strconv_Itoa gItoa
  rw [decide_eq_true ⟨h0, h1⟩]; rfl
theorem digit {d : Nat} (h : d < 10) : subL ([48, 49, 50, 51, 52, 53, 54, 55, 56, 57] : List UInt8) (d : Int) (IntKind.wrap .i64 ((d : Int) + 1)) = some [UInt8.ofNat (48 + d)] := by
  match d, h with
  | 0, _ => rfl
  | 1, _ => rfl
  | 2, _ => rfl
  | 3, _ => rfl
  | 4, _ => rfl
  | 5, _ => rfl
  | 6, _ => rfl
  | 7, _ => rfl
  | 8, _ => rfl
  | 9, _ => rfl
theorem tm10 (u : Nat) : Int.tmod (u : Int) 10 = ((u % 10 : Nat) : Int) := (Int.ofNat_tmod u 10).symm
theorem td10 (u : Nat) : Int.tdiv (u : Int) 10 = ((u / 10 : Nat) : Int) := (Int.ofNat_tdiv u 10).symm
theorem spec_loop : ∀ (u k : Nat) (m : Int) (out : List UInt8), m.natAbs = u → u ≠ 0 → u ≤ 9223372036854775808 → u < k → out.length + (Lib.decDigits u).length ≤ 1000 → (m < 0 ∨ u < 9223372036854775808) →
    g_spec_DecText_l0 k out m = some (Lib.decDigits u ++ out) := by
  intro u
  induction u using Nat.strongRecOn with
  | _ u ih =>
    intro k m out hm h0 h1 hk ho hr
    obtain ⟨k, rfl⟩ : ∃ k', k = k' + 1 := ⟨k - 1, by omega⟩
    rw [g_spec_DecText_l0, show (m != 0) = true by simp; omega, cond_true]
    have hd : ((cond (decide ((Int.tmod m 10) < 0)) (some (IntKind.wrap .i64 (0 - (Int.tmod m 10)))) (some (Int.tmod m 10)) : Option Int)) = some ((u % 10 : Nat) : Int) := by
      have h2 : Int.tmod m 10 = if m < 0 then -((u % 10 : Nat) : Int) else ((u % 10 : Nat) : Int) := by
        split
        · have : m = -(u : Int) := by omega
          rw [this, Int.neg_tmod, tm10]
        · have : m = (u : Int) := by omega
          rw [this, tm10]
      rw [h2]
      by_cases hneg : m < 0
      · rw [if_pos hneg]
        by_cases hz : u % 10 = 0
        · rw [hz]; rfl
        · rw [decide_eq_true (by omega), cond_true, wI64 (by omega) (by omega)]
          congr 1; omega
      · rw [if_neg hneg, decide_eq_false (by omega), cond_false]
    have hq : IntKind.wrap .i64 (Int.tdiv m 10) = if m < 0 then -((u / 10 : Nat) : Int) else ((u / 10 : Nat) : Int) := by
      split
      · have : m = -(u : Int) := by omega
        rw [this, Int.neg_tdiv, td10, wI64 (by omega) (by omega)]
      · have : m = (u : Int) := by omega
        rw [this, td10, wI64 (by omega) (by omega)]
    rw [hd, Option.bind_some, digit (Nat.mod_lt _ (by omega)), Option.bind_some, catS_eq (by simp; omega), Option.bind_some, hq]
    by_cases h10 : u < 10
    · obtain ⟨k, rfl⟩ : ∃ k', k = k' + 1 := ⟨k - 1, by omega⟩
      rw [Lib.decDigits, dif_pos h10, Nat.div_eq_of_lt h10, Nat.mod_eq_of_lt h10]
      have : (if m < 0 then -((0 : Nat) : Int) else ((0 : Nat) : Int)) = 0 := by split <;> rfl
      rw [this, g_spec_DecText_l0]
      rfl
    · have hlen : (Lib.decDigits u).length = (Lib.decDigits (u / 10)).length + 1 := by
        rw [Lib.decDigits.eq_def u, dif_neg h10]; simp
      rw [ih (u / 10) (by omega) k _ _ (by split <;> omega) (by omega) (by omega) (by omega) (by simp; omega) (by split <;> omega)]
      rw [Lib.decDigits.eq_def u, dif_neg h10]
      simp
theorem spec_dec {n : Int} (h0 : -9223372036854775808 ≤ n) (h1 : n ≤ 9223372036854775807) : g_spec_DecText n = some (Lib.itoa n) := by
  unfold g_spec_DecText
  by_cases hz : n = 0
  · subst hz
    have : Lib.itoa 0 = [48] := by
      unfold Lib.itoa
      rw [if_neg (by omega), Lib.decDigits]; rfl
    rw [this]; rfl
  · rw [show (n == 0) = false by simp [hz], cond_false, spec_loop n.natAbs bigK n [] rfl (by omega) (by omega) (by unfold bigK; omega) (by have := dec_len 19 n.natAbs (by omega); simp; omega) (by omega), Option.bind_some]
    unfold Lib.itoa
    have := dec_len 19 n.natAbs (by omega)
    by_cases hn : n < 0
    · rw [decide_eq_true hn, cond_true, if_pos hn, catS_eq (by simp; omega)]
      simp
    · rw [decide_eq_false hn, cond_false, if_neg hn, show n.toNat = n.natAbs by omega]
      simp
end Go.Proofs.YtofjeimkphojaaaGreatDoor
namespace Go.Proofs.YtofjeimkphojaaaGreatDoor
open Go Go.Fm
def i64B (x : Int) : Prop := -9223372036854775808 ≤ x ∧ x ≤ 9223372036854775807
def blk (l : List Int) : List UInt8 := l.flatMap fun x => Lib.itoa x ++ [32]
structure RetN (l : List GSlot) : Prop where
  k : ∀ s ∈ l, 0 ≤ s.Kind ∧ s.Kind ≤ 2
  n : ∀ s ∈ l, i64B s.N
structure StNum (st : GSt) : Prop where
  d : ∀ x ∈ st.Data, i64B x
  r : ∀ s ∈ st.Ret, i64B s.N
  a : i64B st.A
  f : i64B st.Fault
  u : i64B st.Fuel
end Go.Proofs.YtofjeimkphojaaaGreatDoor
namespace Go.Proofs.YtofjeimkphojaaaGreatDoor
open Go Go.Fm
set_option maxRecDepth 100000
theorem prims_eq : g_impl_prims = g_spec_l08Names := by kernel_rfl
theorem name_eq (k : Int) : g_impl_PrimName k = g_spec_PrimName k := by
  unfold g_impl_PrimName g_spec_PrimName
  rw [prims_eq]
  unfold g_spec_l08Names
  simp only [Option.bind_some]
  rw [within_eq, specIn_eq]
  simp only [Option.bind_some]
  have key : ∀ (b : Bool) (x y : Option Bs), cond b x y = cond (!b) y x := fun b x y => by cases b <;> rfl
  exact key _ _ _
end Go.Proofs.YtofjeimkphojaaaGreatDoor
namespace Go.Proofs.YtofjeimkphojaaaGreatDoor
open Go Go.Fm
def i32B (x : Int) : Prop := -2147483648 ≤ x ∧ x ≤ 2147483647
theorem i32w (x : Int) : i32B (IntKind.wrap .i32 x) := by have := wI32_bd x; exact ⟨this.1, by omega⟩
def VarsB (c : Nat) (vars : List Int) : Bool := allN (fun n v => inB v 0 (IntKind.wrap .i64 ((c : Int) - 1)) && !((vars.take n).any fun x => v == x)) 0 vars
structure SB (st : GSt) : Prop where
  d : st.Data.length ≤ 16
  r : st.Ret.length ≤ 24
  m : st.Mem.length = 32
  v : st.Vars.length ≤ 20
  o : st.Out.length ≤ 400
  i : st.In.length ≤ 100
  rk : ∀ s ∈ st.Ret, 0 ≤ s.Kind ∧ s.Kind ≤ 2
  vb : VarsB st.Cells.length st.Vars = true
  c : ((Int.tmod (st.Cells.length : Int) 64) == 0) = true
  cl : st.Cells.length ≤ 768
  f : 0 ≤ st.Fault ∧ st.Fault ≤ 13
  u : 0 ≤ st.Fuel ∧ st.Fuel ≤ 4000
theorem stB_iff {st : GSt} : StB st = true ↔ SB st := by
  unfold StB
  simp only [Bool.and_eq_true, Bool.not_eq_true', decide_eq_false_iff_not, decide_eq_true_eq, List.all_eq_true, bne_eq_false_iff_eq, inB]
  constructor
  · rintro ⟨h1, h2, h3, h4, h5, h6, h7, h8, ⟨h9, h10⟩, h11, h12⟩
    exact ⟨by omega, by omega, by omega, by omega, by omega, by omega, h7, by unfold VarsB inB; exact h8, h9, by omega, h11, h12⟩
  · rintro ⟨h1, h2, h3, h4, h5, h6, h7, h8, h9, h10, h11, h12⟩
    exact ⟨by omega, by omega, by omega, by omega, by omega, by omega, h7, by unfold VarsB inB at h8; exact h8, ⟨h9, by omega⟩, h11, h12⟩
structure SG (st : GSt) : Prop where
  b : SB st
  d : ∀ x ∈ st.Data, i32B x
  m : ∀ x ∈ st.Mem, i32B x
  a : i32B st.A
  r : ∀ s ∈ st.Ret, i32B s.N
theorem app0 {α : Type} {xs : List α} (h : xs.length ≤ 1000) : app ([] : List α) xs = some xs := by rw [app_eq (by simp; omega)]; rfl
theorem copyS {st : GSt} (h : SB st) : g_spec_l08Copy st = some st := by
  have := h.d; have := h.r; have := h.m; have := h.v; have := h.o; have := h.i; have := h.cl
  unfold g_spec_l08Copy
  rw [app0 (by omega), Option.bind_some, app0 (by omega), Option.bind_some, app0 (by omega), Option.bind_some, app0 (by omega), Option.bind_some, app0 (by omega), Option.bind_some, app0 (by omega), Option.bind_some, app0 (by omega), Option.bind_some]
theorem ownS {st : GSt} (h : SB st) : g_impl_ownSt st = some st := by
  have := h.d; have := h.r; have := h.m; have := h.v; have := h.o; have := h.i; have := h.cl
  unfold g_impl_ownSt g_slices_Clone_int32 g_slices_Clone_Slot g_slices_Clone_uint32 g_slices_Clone_int g_slices_Clone_byte
  rw [app0 (by omega), Option.bind_some, app0 (by omega), Option.bind_some, app0 (by omega), Option.bind_some, app0 (by omega), Option.bind_some, app0 (by omega), Option.bind_some, app0 (by omega), Option.bind_some, app0 (by omega), Option.bind_some]
def flt (st : GSt) (f : Int) : GSt := ⟨st.Data, st.Ret, st.A, st.Mem, st.Cells, st.Vars, st.Out, st.In, f, st.Fuel⟩
theorem spec_flt {st : GSt} (h : SB st) (f : Int) : g_spec_l08Fault st f = some (flt st f) := by
  unfold g_spec_l08Fault; rw [copyS h]; rfl
theorem impl_flt {st : GSt} (h : SB st) (f : Int) : g_impl_doesc1 f st = some (flt st f) := by
  unfold g_impl_doesc1; rw [ownS h]; rfl
theorem SG.flt {st : GSt} (h : SG st) {f : Int} (h0 : 0 ≤ f) (h1 : f ≤ 13) : SG (flt st f) :=
  ⟨⟨h.b.d, h.b.r, h.b.m, h.b.v, h.b.o, h.b.i, h.b.rk, h.b.vb, h.b.c, h.b.cl, ⟨h0, h1⟩, h.b.u⟩, h.d, h.m, h.a, h.r⟩
def dat (st : GSt) (l : List Int) : GSt := ⟨l, st.Ret, st.A, st.Mem, st.Cells, st.Vars, st.Out, st.In, st.Fault, st.Fuel⟩
def putS (st st2 : GSt) (w : Nat) (l : List Int) : GSt := if st.Data.length - w + l.length > 16 then flt st 2 else dat st2 (st.Data.take (st.Data.length - w) ++ l)
theorem spec_put {st : GSt} (h : SB st) {w : Nat} {l : List Int} (hw : w ≤ st.Data.length) (hl : l.length ≤ 16) : g_spec_l08Put st (w : Int) l = some (putS st st w l) := by
  have := h.d
  unfold g_spec_l08Put putS
  rw [wI64 (x := (st.Data.length : Int) - w) (by omega) (by omega), wI64 (by omega) (by omega), spec_flt h, copyS h]
  by_cases hx : st.Data.length - w + l.length > 16
  · rw [decide_eq_true (by omega), cond_true, if_pos hx]; rfl
  · rw [decide_eq_false (by omega), cond_false, if_neg hx, Option.bind_some, show (st.Data.length : Int) - w = ((st.Data.length - w : Nat) : Int) by omega, subL_take (by omega) (by omega), Option.bind_some, Int.toNat_natCast, app_eq (by rw [List.length_take]; omega)]
    rfl
theorem SG.put {st st2 : GSt} (h : SG st) (h2 : SG st2) {w : Nat} {l : List Int} (hl : ∀ x ∈ l, i32B x) : SG (putS st st2 w l) := by
  unfold putS
  split
  · exact h.flt (by omega) (by omega)
  · refine ⟨⟨?_, h2.b.r, h2.b.m, h2.b.v, h2.b.o, h2.b.i, h2.b.rk, h2.b.vb, h2.b.c, h2.b.cl, h2.b.f, h2.b.u⟩, fun x hx => ?_, h2.m, h2.a, h2.r⟩
    · show (st.Data.take (st.Data.length - w) ++ l).length ≤ 16
      rw [List.length_append, List.length_take]; omega
    · rcases List.mem_append.1 hx with hx | hx
      · exact h.d x (List.mem_of_mem_take hx)
      · exact hl x hx
theorem putS_fuel {st st2 : GSt} (h : st2.Fuel = st.Fuel) (w : Nat) (l : List Int) : (putS st st2 w l).Fuel = st.Fuel := by
  unfold putS; split
  · rfl
  · exact h
def yOf (st : GSt) : Int := if h : 0 < st.Data.length then st.Data[st.Data.length - 1] else 0
def xOf (st : GSt) : Int := if h : 1 < st.Data.length then st.Data[st.Data.length - 2] else 0
theorem SG.y {st : GSt} (h : SG st) : i32B (yOf st) := by
  unfold yOf; split
  · exact h.d _ (List.getElem_mem _)
  · exact ⟨by omega, by omega⟩
theorem SG.x {st : GSt} (h : SG st) : i32B (xOf st) := by
  unfold xOf; split
  · exact h.d _ (List.getElem_mem _)
  · exact ⟨by omega, by omega⟩
theorem get_y {st : GSt} (h : SB st) (hn : 0 < st.Data.length) : getI st.Data (IntKind.wrap .i64 ((st.Data.length : Int) - 1)) = some (yOf st) := by
  have := h.d
  rw [wI64 (by omega) (by omega), show (st.Data.length : Int) - 1 = ((st.Data.length - 1 : Nat) : Int) by omega, getI_nat, List.getElem?_eq_getElem (by omega)]
  unfold yOf; rw [dif_pos hn]
theorem get_x {st : GSt} (h : SB st) (hn : 1 < st.Data.length) : getI st.Data (IntKind.wrap .i64 ((st.Data.length : Int) - 2)) = some (xOf st) := by
  have := h.d
  rw [wI64 (by omega) (by omega), show (st.Data.length : Int) - 2 = ((st.Data.length - 2 : Nat) : Int) by omega, getI_nat, List.getElem?_eq_getElem (by omega)]
  unfold xOf; rw [dif_pos hn]
theorem impl_does {st st2 : GSt} (h : SG st) {k : Int} {name : List UInt8} {w : Nat} {l : List Int} {f : Int} (hk : g_spec_PrimName k = some name) (hne : (name == []) = false) (hw : g_impl_wants k = some (w : Int)) (hl : l.length ≤ 16)
    (he : w ≤ st.Data.length → g_impl_St_effect name (xOf st) (yOf st) st = some (l, f, st2)) (h2 : st2.Data = st.Data) :
    g_impl_does st k = some (if st.Data.length < w then flt st 2 else if f ≠ 0 then flt st f else putS st st2 w l) := by
  have hd := h.b.d
  unfold g_impl_does
  rw [name_eq, hk, Option.bind_some, hne, cond_false, hw]
  simp only [Option.bind_some]
  by_cases hn : st.Data.length < w
  · rw [decide_eq_true (by omega), cond_true, if_pos hn, impl_flt h.b]; rfl
  rw [decide_eq_false (by omega), cond_false, if_neg hn, ownS h.b]
  simp only [Option.bind_some]
  have ex : (cond (decide ((st.Data.length : Int) > 1)) ((getI st.Data (IntKind.wrap .i64 ((st.Data.length : Int) - 2))).bind fun v_10 => some v_10) (some 0) : Option Int) = some (xOf st) := by
    by_cases h1 : 1 < st.Data.length
    · rw [decide_eq_true (by omega), cond_true, get_x h.b h1]; rfl
    · rw [decide_eq_false (by omega), cond_false]; unfold xOf; rw [dif_neg h1]
  have ey : (cond (decide ((st.Data.length : Int) > 0)) ((getI st.Data (IntKind.wrap .i64 ((st.Data.length : Int) - 1))).bind fun v_12 => some v_12) (some 0) : Option Int) = some (yOf st) := by
    by_cases h1 : 0 < st.Data.length
    · rw [decide_eq_true (by omega), cond_true, get_y h.b h1]; rfl
    · rw [decide_eq_false (by omega), cond_false]; unfold yOf; rw [dif_neg h1]
  rw [ex, Option.bind_some, ey, Option.bind_some, he (by omega)]
  simp only [Option.bind_some]
  rw [h2, wI64 (by omega) (by omega), show (st.Data.length : Int) - w = ((st.Data.length - w : Nat) : Int) by omega, subL_take (by omega) (by omega), Option.bind_some, Int.toNat_natCast, app_eq (by rw [List.length_take]; omega), Option.bind_some]
  by_cases hf : f = 0
  · subst hf
    rw [show ((0 : Int) != 0) = false from rfl, cond_false, if_neg (by simp)]
    unfold putS
    rw [List.length_append, List.length_take, Nat.min_eq_left (by omega), impl_flt h.b]
    by_cases hx : st.Data.length - w + l.length > 16
    · rw [decide_eq_true (by omega), cond_true, if_pos hx]; rfl
    · rw [decide_eq_false (by omega), cond_false, if_neg hx]; rfl
  · rw [show (f != 0) = true by simp [hf], cond_true, if_pos hf, impl_flt h.b]; rfl
theorem spec_does {st : GSt} (h : SG st) (hf : st.Fault = 0) {k : Int} {name : List UInt8} {w : Nat} {R : GSt} (hk : g_spec_PrimName k = some name) (hne : (name == []) = false) (hw : g_spec_l08Takes name = some (w : Int)) (hw2 : w ≤ 2)
    (he : w ≤ st.Data.length → ∀ x y, (0 < w → y = yOf st) → (1 < w → x = xOf st) → ((g_spec_l08Pure name x y).bind fun y_14 => cond y_14.2 ((g_spec_l08Put st (w : Int) y_14.1).bind fun y_15 => some y_15) ((g_spec_l08Other st name x y).bind fun y_16 => some y_16)) = some R) :
    g_spec_Do st k = some (if st.Data.length < w then flt st 2 else R) := by
  have hd := h.b.d
  unfold g_spec_Do
  rw [spec_st ⟨by have := h.b.r; omega, by have := h.b.v; omega⟩, stB_iff.2 h.b]
  simp only [Option.bind_some, Bool.not_true, cond_false]
  rw [show (st.Fault != 0) = false by simp [hf], cond_false, hk, Option.bind_some, hne, cond_false, hw]
  simp only [Option.bind_some]
  by_cases hn : st.Data.length < w
  · rw [decide_eq_true (by omega), cond_true, if_pos hn, spec_flt h.b]; rfl
  rw [decide_eq_false (by omega), cond_false, if_neg hn]
  have ey : ∃ y, (cond (decide ((w : Int) > 0)) ((getI st.Data (IntKind.wrap .i64 ((st.Data.length : Int) - 1))).bind fun v_12 => some v_12) (some 0) : Option Int) = some y ∧ (0 < w → y = yOf st) := by
    by_cases h1 : 0 < w
    · exact ⟨yOf st, by rw [decide_eq_true (by omega), cond_true, get_y h.b (by omega)]; rfl, fun _ => rfl⟩
    · exact ⟨0, by rw [decide_eq_false (by omega), cond_false], fun h => absurd h h1⟩
  have ex : ∃ x, (cond (decide ((w : Int) > 1)) ((getI st.Data (IntKind.wrap .i64 ((st.Data.length : Int) - 2))).bind fun v_12 => some v_12) (some 0) : Option Int) = some x ∧ (1 < w → x = xOf st) := by
    by_cases h1 : 1 < w
    · exact ⟨xOf st, by rw [decide_eq_true (by omega), cond_true, get_x h.b (by omega)]; rfl, fun _ => rfl⟩
    · exact ⟨0, by rw [decide_eq_false (by omega), cond_false], fun h => absurd h h1⟩
  obtain ⟨y, ey, hy⟩ := ey
  obtain ⟨x, ex, hx⟩ := ex
  rw [ey, Option.bind_some, ex, Option.bind_some, he (by omega) x y hy hx]
end Go.Proofs.YtofjeimkphojaaaGreatDoor
namespace Go.Proofs.YtofjeimkphojaaaGreatDoor
open Go Go.Fm
set_option maxRecDepth 100000
def Both (st : GSt) (k : Int) : Prop := ∃ st', g_spec_Do st k = some st' ∧ g_impl_does st k = some st' ∧ SG st' ∧ st'.Fuel = st.Fuel
theorem both_of {st st2 : GSt} (h : SG st) (hf : st.Fault = 0) {k : Int} {name : List UInt8} {w : Nat} {l : List Int} {f : Int} (hk : g_spec_PrimName k = some name) (hne : (name == []) = false) (hw : g_impl_wants k = some (w : Int)) (ht : g_spec_l08Takes name = some (w : Int)) (hw2 : w ≤ 2) (hl : l.length ≤ 16)
    (hi : w ≤ st.Data.length → g_impl_St_effect name (xOf st) (yOf st) st = some (l, f, st2)) (h2 : st2.Data = st.Data) (hu : st2.Fuel = st.Fuel) (hg : w ≤ st.Data.length → f = 0 → SG st2 ∧ ∀ x ∈ l, i32B x) (hfr : 0 ≤ f ∧ f ≤ 13)
    (hs : w ≤ st.Data.length → ∀ x y, (0 < w → y = yOf st) → (1 < w → x = xOf st) → ((g_spec_l08Pure name x y).bind fun y_14 => cond y_14.2 ((g_spec_l08Put st (w : Int) y_14.1).bind fun y_15 => some y_15) ((g_spec_l08Other st name x y).bind fun y_16 => some y_16)) = some (if f ≠ 0 then flt st f else putS st st2 w l)) : Both st k := by
  refine ⟨_, spec_does h hf hk hne ht hw2 hs, impl_does h hk hne hw hl hi h2, ?_, ?_⟩
  · split
    · exact h.flt (by omega) (by omega)
    · rename_i hn
      split
      · exact h.flt hfr.1 hfr.2
      · rename_i hf0
        obtain ⟨g1, g2⟩ := hg (by omega) (by omega)
        exact h.put g1 g2
  · split
    · rfl
    · split
      · rfl
      · exact putS_fuel hu _ _
theorem both_pure {st : GSt} (h : SG st) (hf : st.Fault = 0) {k : Int} {name : List UInt8} {w : Nat} {L : Int → Int → List Int} (hk : g_spec_PrimName k = some name) (hne : (name == []) = false) (hw : g_impl_wants k = some (w : Int)) (ht : g_spec_l08Takes name = some (w : Int)) (hw2 : w ≤ 2) (hl : ∀ x y, (L x y).length ≤ 3)
    (hi : g_impl_St_effect name (xOf st) (yOf st) st = some (L (xOf st) (yOf st), 0, st)) (hs : ∀ x y, g_spec_l08Pure name x y = some (L x y, true)) (hL : ∀ x y, (0 < w → y = yOf st) → (1 < w → x = xOf st) → L x y = L (xOf st) (yOf st)) (hg : ∀ x ∈ L (xOf st) (yOf st), i32B x) : Both st k :=
  both_of h hf hk hne hw ht hw2 (l := L (xOf st) (yOf st)) (f := 0) (st2 := st) (by have := hl (xOf st) (yOf st); omega) (fun _ => hi) rfl rfl (fun _ _ => ⟨h, hg⟩) (by omega) (fun hn x y hy hx => by
    rw [hs, Option.bind_some, cond_true, hL x y hy hx, spec_put h.b hn (by show (L (xOf st) (yOf st)).length ≤ 16; have := hl (xOf st) (yOf st); omega), if_neg (by simp)]; rfl)
theorem nm0 : g_spec_PrimName 0 = some [100, 117, 112] := rfl
theorem wa0 : g_impl_wants 0 = some ((1 : Nat) : Int) := by unfold g_impl_wants g_impl_PrimEffect; rw [name_eq]; rfl
theorem ta0 : g_spec_l08Takes [100, 117, 112] = some ((1 : Nat) : Int) := rfl
theorem nm1 : g_spec_PrimName 1 = some [100, 114, 111, 112] := rfl
theorem wa1 : g_impl_wants 1 = some ((1 : Nat) : Int) := by unfold g_impl_wants g_impl_PrimEffect; rw [name_eq]; rfl
theorem ta1 : g_spec_l08Takes [100, 114, 111, 112] = some ((1 : Nat) : Int) := rfl
theorem nm2 : g_spec_PrimName 2 = some [111, 118, 101, 114] := rfl
theorem wa2 : g_impl_wants 2 = some ((2 : Nat) : Int) := by unfold g_impl_wants g_impl_PrimEffect; rw [name_eq]; rfl
theorem ta2 : g_spec_l08Takes [111, 118, 101, 114] = some ((2 : Nat) : Int) := rfl
theorem nm3 : g_spec_PrimName 3 = some [110, 105, 112] := rfl
theorem wa3 : g_impl_wants 3 = some ((2 : Nat) : Int) := by unfold g_impl_wants g_impl_PrimEffect; rw [name_eq]; rfl
theorem ta3 : g_spec_l08Takes [110, 105, 112] = some ((2 : Nat) : Int) := rfl
theorem nm4 : g_spec_PrimName 4 = some [115, 119, 97, 112] := rfl
theorem wa4 : g_impl_wants 4 = some ((2 : Nat) : Int) := by unfold g_impl_wants g_impl_PrimEffect; rw [name_eq]; rfl
theorem ta4 : g_spec_l08Takes [115, 119, 97, 112] = some ((2 : Nat) : Int) := rfl
theorem nm5 : g_spec_PrimName 5 = some [43] := rfl
theorem wa5 : g_impl_wants 5 = some ((2 : Nat) : Int) := by unfold g_impl_wants g_impl_PrimEffect; rw [name_eq]; rfl
theorem ta5 : g_spec_l08Takes [43] = some ((2 : Nat) : Int) := rfl
theorem nm6 : g_spec_PrimName 6 = some [45] := rfl
theorem wa6 : g_impl_wants 6 = some ((1 : Nat) : Int) := by unfold g_impl_wants g_impl_PrimEffect; rw [name_eq]; rfl
theorem ta6 : g_spec_l08Takes [45] = some ((1 : Nat) : Int) := rfl
theorem nm7 : g_spec_PrimName 7 = some [42] := rfl
theorem wa7 : g_impl_wants 7 = some ((2 : Nat) : Int) := by unfold g_impl_wants g_impl_PrimEffect; rw [name_eq]; rfl
theorem ta7 : g_spec_l08Takes [42] = some ((2 : Nat) : Int) := rfl
theorem nm8 : g_spec_PrimName 8 = some [97, 110, 100] := rfl
theorem wa8 : g_impl_wants 8 = some ((2 : Nat) : Int) := by unfold g_impl_wants g_impl_PrimEffect; rw [name_eq]; rfl
theorem ta8 : g_spec_l08Takes [97, 110, 100] = some ((2 : Nat) : Int) := rfl
theorem nm9 : g_spec_PrimName 9 = some [111, 114] := rfl
theorem wa9 : g_impl_wants 9 = some ((2 : Nat) : Int) := by unfold g_impl_wants g_impl_PrimEffect; rw [name_eq]; rfl
theorem ta9 : g_spec_l08Takes [111, 114] = some ((2 : Nat) : Int) := rfl
theorem nm10 : g_spec_PrimName 10 = some [50, 42] := rfl
theorem wa10 : g_impl_wants 10 = some ((1 : Nat) : Int) := by unfold g_impl_wants g_impl_PrimEffect; rw [name_eq]; rfl
theorem ta10 : g_spec_l08Takes [50, 42] = some ((1 : Nat) : Int) := rfl
theorem nm11 : g_spec_PrimName 11 = some [50, 47] := rfl
theorem wa11 : g_impl_wants 11 = some ((1 : Nat) : Int) := by unfold g_impl_wants g_impl_PrimEffect; rw [name_eq]; rfl
theorem ta11 : g_spec_l08Takes [50, 47] = some ((1 : Nat) : Int) := rfl
theorem nm12 : g_spec_PrimName 12 = some [47, 109, 111, 100] := rfl
theorem wa12 : g_impl_wants 12 = some ((2 : Nat) : Int) := by unfold g_impl_wants g_impl_PrimEffect; rw [name_eq]; rfl
theorem ta12 : g_spec_l08Takes [47, 109, 111, 100] = some ((2 : Nat) : Int) := rfl
theorem nm13 : g_spec_PrimName 13 = some [64] := rfl
theorem wa13 : g_impl_wants 13 = some ((1 : Nat) : Int) := by unfold g_impl_wants g_impl_PrimEffect; rw [name_eq]; rfl
theorem ta13 : g_spec_l08Takes [64] = some ((1 : Nat) : Int) := rfl
theorem nm14 : g_spec_PrimName 14 = some [33] := rfl
theorem wa14 : g_impl_wants 14 = some ((2 : Nat) : Int) := by unfold g_impl_wants g_impl_PrimEffect; rw [name_eq]; rfl
theorem ta14 : g_spec_l08Takes [33] = some ((2 : Nat) : Int) := rfl
theorem nm15 : g_spec_PrimName 15 = some [97] := rfl
theorem wa15 : g_impl_wants 15 = some ((0 : Nat) : Int) := by unfold g_impl_wants g_impl_PrimEffect; rw [name_eq]; rfl
theorem ta15 : g_spec_l08Takes [97] = some ((0 : Nat) : Int) := rfl
theorem nm16 : g_spec_PrimName 16 = some [97, 33] := rfl
theorem wa16 : g_impl_wants 16 = some ((1 : Nat) : Int) := by unfold g_impl_wants g_impl_PrimEffect; rw [name_eq]; rfl
theorem ta16 : g_spec_l08Takes [97, 33] = some ((1 : Nat) : Int) := rfl
theorem nm17 : g_spec_PrimName 17 = some [101, 109, 105, 116] := rfl
theorem wa17 : g_impl_wants 17 = some ((1 : Nat) : Int) := by unfold g_impl_wants g_impl_PrimEffect; rw [name_eq]; rfl
theorem ta17 : g_spec_l08Takes [101, 109, 105, 116] = some ((1 : Nat) : Int) := rfl
theorem nm18 : g_spec_PrimName 18 = some [107, 101, 121] := rfl
theorem wa18 : g_impl_wants 18 = some ((0 : Nat) : Int) := by unfold g_impl_wants g_impl_PrimEffect; rw [name_eq]; rfl
theorem ta18 : g_spec_l08Takes [107, 101, 121] = some ((0 : Nat) : Int) := rfl
theorem nm19 : g_spec_PrimName 19 = some [112, 117, 115, 104] := rfl
theorem wa19 : g_impl_wants 19 = some ((1 : Nat) : Int) := by unfold g_impl_wants g_impl_PrimEffect; rw [name_eq]; rfl
theorem ta19 : g_spec_l08Takes [112, 117, 115, 104] = some ((1 : Nat) : Int) := rfl
theorem nm20 : g_spec_PrimName 20 = some [112, 111, 112] := rfl
theorem wa20 : g_impl_wants 20 = some ((0 : Nat) : Int) := by unfold g_impl_wants g_impl_PrimEffect; rw [name_eq]; rfl
theorem ta20 : g_spec_l08Takes [112, 111, 112] = some ((0 : Nat) : Int) := rfl
theorem nm21 : g_spec_PrimName 21 = some [105] := rfl
theorem wa21 : g_impl_wants 21 = some ((0 : Nat) : Int) := by unfold g_impl_wants g_impl_PrimEffect; rw [name_eq]; rfl
theorem ta21 : g_spec_l08Takes [105] = some ((0 : Nat) : Int) := rfl
theorem nm22 : g_spec_PrimName 22 = some [46] := rfl
theorem wa22 : g_impl_wants 22 = some ((1 : Nat) : Int) := by unfold g_impl_wants g_impl_PrimEffect; rw [name_eq]; rfl
theorem ta22 : g_spec_l08Takes [46] = some ((1 : Nat) : Int) := rfl
theorem nm23 : g_spec_PrimName 23 = some [110, 111, 112] := rfl
theorem wa23 : g_impl_wants 23 = some ((0 : Nat) : Int) := by unfold g_impl_wants g_impl_PrimEffect; rw [name_eq]; rfl
theorem ta23 : g_spec_l08Takes [110, 111, 112] = some ((0 : Nat) : Int) := rfl
theorem bv_ofInt (y : Int) : (BitVec.ofInt 32 y).toNat = (y % 4294967296).toNat := by rw [BitVec.toNat_ofInt]; rfl
theorem not32 {y : Int} (h : i32B y) : notI .i32 y = IntKind.wrap .i32 ((-1) - y) := by
  unfold notI bytesB
  show IntKind.wrap .i32 ((BitVec.ofInt 32 (if true = true then -1 else _) ^^^ BitVec.ofInt 32 y).toNat : Int) = _
  rw [if_pos rfl, show BitVec.ofInt 32 (-1) = BitVec.allOnes 32 from rfl, BitVec.allOnes_xor, BitVec.toNat_not, bv_ofInt]
  unfold i32B at h
  rw [wI32 (x := (-1) - y) (by omega) (by omega)]
  unfold IntKind.wrap
  simp [IntKind.signed, IntKind.bits]
  omega
theorem word0 {st : GSt} (h : SG st) (hf : st.Fault = 0) : Both st 0 :=
  both_pure h hf nm0 rfl wa0 ta0 (by omega) (L := fun x y => [y, y]) (fun _ _ => by simp) (rfl) (fun _ _ => rfl) (fun x y hy _ => by rw [hy (by omega)]) (fun x hx => by simp at hx; subst hx; exact h.y)
theorem word1 {st : GSt} (h : SG st) (hf : st.Fault = 0) : Both st 1 :=
  both_pure h hf nm1 rfl wa1 ta1 (by omega) (L := fun x y => []) (fun _ _ => by simp) (rfl) (fun _ _ => rfl) (fun _ _ _ _ => rfl) (fun x hx => by simp at hx)
theorem word2 {st : GSt} (h : SG st) (hf : st.Fault = 0) : Both st 2 :=
  both_pure h hf nm2 rfl wa2 ta2 (by omega) (L := fun x y => [x, y, x]) (fun _ _ => by simp) (rfl) (fun _ _ => rfl) (fun x y hy hx => by rw [hy (by omega), hx (by omega)]) (fun x hx => by simp at hx; rcases hx with rfl | rfl | rfl <;> first | exact h.x | exact h.y)
theorem word3 {st : GSt} (h : SG st) (hf : st.Fault = 0) : Both st 3 :=
  both_pure h hf nm3 rfl wa3 ta3 (by omega) (L := fun x y => [y]) (fun _ _ => by simp) (rfl) (fun _ _ => rfl) (fun x y hy _ => by rw [hy (by omega)]) (fun x hx => by simp at hx; subst hx; exact h.y)
theorem word4 {st : GSt} (h : SG st) (hf : st.Fault = 0) : Both st 4 :=
  both_pure h hf nm4 rfl wa4 ta4 (by omega) (L := fun x y => [y, x]) (fun _ _ => by simp) (rfl) (fun _ _ => rfl) (fun x y hy hx => by rw [hy (by omega), hx (by omega)]) (fun x hx => by simp at hx; rcases hx with rfl | rfl <;> first | exact h.x | exact h.y)
theorem word5 {st : GSt} (h : SG st) (hf : st.Fault = 0) : Both st 5 :=
  both_pure h hf nm5 rfl wa5 ta5 (by omega) (L := fun x y => [IntKind.wrap .i32 (x + y)]) (fun _ _ => by simp) (rfl) (fun _ _ => rfl) (fun x y hy hx => by rw [hy (by omega), hx (by omega)]) (fun x hx => by rw [List.mem_singleton] at hx; subst hx; exact i32w _)
theorem word6 {st : GSt} (h : SG st) (hf : st.Fault = 0) : Both st 6 :=
  both_pure h hf nm6 rfl wa6 ta6 (by omega) (L := fun x y => [IntKind.wrap .i32 ((-1) - y)]) (fun _ _ => by simp) ((show g_impl_St_effect [45] (xOf st) (yOf st) st = some ([notI .i32 (yOf st)], 0, st) from rfl).trans (by rw [not32 h.y])) (fun _ _ => rfl) (fun x y hy _ => by rw [hy (by omega)]) (fun x hx => by rw [List.mem_singleton] at hx; subst hx; exact i32w _)
theorem word7 {st : GSt} (h : SG st) (hf : st.Fault = 0) : Both st 7 :=
  both_pure h hf nm7 rfl wa7 ta7 (by omega) (L := fun x y => [IntKind.wrap .i32 (x * y)]) (fun _ _ => by simp) (rfl) (fun _ _ => rfl) (fun x y hy hx => by rw [hy (by omega), hx (by omega)]) (fun x hx => by rw [List.mem_singleton] at hx; subst hx; exact i32w _)
theorem word8 {st : GSt} (h : SG st) (hf : st.Fault = 0) : Both st 8 :=
  both_pure h hf nm8 rfl wa8 ta8 (by omega) (L := fun x y => [andI .i32 x y]) (fun _ _ => by simp) (rfl) (fun _ _ => rfl) (fun x y hy hx => by rw [hy (by omega), hx (by omega)]) (fun x hx => by rw [List.mem_singleton] at hx; subst hx; exact i32w _)
theorem word9 {st : GSt} (h : SG st) (hf : st.Fault = 0) : Both st 9 :=
  both_pure h hf nm9 rfl wa9 ta9 (by omega) (L := fun x y => [xorI .i32 x y]) (fun _ _ => by simp) (rfl) (fun _ _ => rfl) (fun x y hy hx => by rw [hy (by omega), hx (by omega)]) (fun x hx => by rw [List.mem_singleton] at hx; subst hx; exact i32w _)
theorem word10 {st : GSt} (h : SG st) (hf : st.Fault = 0) : Both st 10 :=
  both_pure h hf nm10 rfl wa10 ta10 (by omega) (L := fun x y => [IntKind.wrap .i32 (y + y)]) (fun _ _ => by simp) ((show g_impl_St_effect [50, 42] (xOf st) (yOf st) st = some ([IntKind.wrap .i32 (2 * yOf st)], 0, st) from rfl).trans (by rw [show 2 * yOf st = yOf st + yOf st by omega])) (fun _ _ => rfl) (fun x y hy _ => by rw [hy (by omega)]) (fun x hx => by rw [List.mem_singleton] at hx; subst hx; exact i32w _)
theorem word11 {st : GSt} (h : SG st) (hf : st.Fault = 0) : Both st 11 :=
  both_pure h hf nm11 rfl wa11 ta11 (by omega) (L := fun x y => [y / 2]) (fun _ _ => by simp) (rfl) (fun _ _ => rfl) (fun x y hy _ => by rw [hy (by omega)]) (fun x hx => by simp at hx; subst hx; have := h.y; unfold i32B at this ⊢; omega)
theorem word23 {st : GSt} (h : SG st) (hf : st.Fault = 0) : Both st 23 :=
  both_pure h hf nm23 rfl wa23 ta23 (by omega) (L := fun x y => []) (fun _ _ => by simp) (rfl) (fun _ _ => rfl) (fun _ _ _ _ => rfl) (fun x hx => by simp at hx)
end Go.Proofs.YtofjeimkphojaaaGreatDoor
namespace Go.Proofs.YtofjeimkphojaaaGreatDoor
open Go Go.Fm
set_option maxRecDepth 100000
theorem put0 {st : GSt} (h : SB st) {w : Nat} (hw : w ≤ st.Data.length) (hw1 : 0 < w ∨ st.Data.length ≤ 16) : putS st st w [] = dat st (st.Data.take (st.Data.length - w)) := by
  have := h.d
  unfold putS
  rw [if_neg (by simp; omega), List.append_nil]
theorem put0' {st st2 : GSt} (h : SB st) {w : Nat} (hw : w ≤ st.Data.length) : putS st st2 w [] = dat st2 (st.Data.take (st.Data.length - w)) := by
  have := h.d
  unfold putS
  rw [if_neg (by simp; omega), List.append_nil]
theorem put_0 {st : GSt} (h : SB st) {l : List Int} (hl : l.length ≤ 16) : g_spec_l08Put st 0 l = some (putS st st 0 l) := spec_put (w := 0) h (Nat.zero_le _) hl
theorem put_1 {st : GSt} (h : SB st) {l : List Int} (hw : 1 ≤ st.Data.length) (hl : l.length ≤ 16) : g_spec_l08Put st 1 l = some (putS st st 1 l) := spec_put (w := 1) h hw hl
theorem put_2 {st : GSt} (h : SB st) {l : List Int} (hw : 2 ≤ st.Data.length) (hl : l.length ≤ 16) : g_spec_l08Put st 2 l = some (putS st st 2 l) := spec_put (w := 2) h hw hl
theorem notpure {name : List UInt8} {w : Nat} {st : GSt} {x y : Int} {R : Option GSt} (hp : g_spec_l08Pure name x y = some ([], false)) (ho : g_spec_l08Other st name x y = R) :
    ((g_spec_l08Pure name x y).bind fun y_14 => cond y_14.2 ((g_spec_l08Put st (w : Int) y_14.1).bind fun y_15 => some y_15) ((g_spec_l08Other st name x y).bind fun y_16 => some y_16)) = R := by
  rw [hp, Option.bind_some, cond_false, ho]
  cases R <;> rfl
theorem word12 {st : GSt} (h : SG st) (hf : st.Fault = 0) : Both st 12 := by
  have hy := h.y
  have hx := h.x
  unfold i32B at hx hy
  by_cases hz : yOf st = 0
  · refine both_of h hf nm12 rfl wa12 ta12 (by omega) (l := []) (f := 5) (st2 := st) (by simp) (fun _ => ?_) rfl rfl (fun _ e => by cases e) (by omega) (fun hn x y ey ex => notpure rfl ?_)
    · rw [hz]; rfl
    · rw [ey (by omega), hz]
      show ((g_spec_l08Fault st 5).bind _).bind _ = _
      rw [spec_flt h.b]; rfl
  · have e1 : quoI .i64 (IntKind.wrap .i64 (xOf st)) (IntKind.wrap .i64 (yOf st)) = some (IntKind.wrap .i64 (Int.tdiv (xOf st) (yOf st))) := by
      rw [wI64 (by omega) (by omega), wI64 (by omega) (by omega)]; unfold quoI; rw [if_neg hz]
    have e2 : remI .i64 (IntKind.wrap .i64 (xOf st)) (IntKind.wrap .i64 (yOf st)) = some (Int.tmod (xOf st) (yOf st)) := by
      rw [wI64 (by omega) (by omega), wI64 (by omega) (by omega)]; unfold remI; rw [if_neg hz]
    refine both_of h hf nm12 rfl wa12 ta12 (by omega) (l := [IntKind.wrap .i32 (Int.tmod (xOf st) (yOf st)), IntKind.wrap .i32 (IntKind.wrap .i64 (Int.tdiv (xOf st) (yOf st)))]) (f := 0) (st2 := st) (by simp) (fun _ => ?_) rfl rfl (fun _ _ => ⟨h, fun x hx => ?_⟩) (by omega) (fun hn x y ey ex => notpure rfl ?_)
    · show (((cond (yOf st == 0) (some ([], 5)) ((quoI .i64 (IntKind.wrap .i64 (xOf st)) (IntKind.wrap .i64 (yOf st))).bind fun v_6 => (remI .i64 (IntKind.wrap .i64 (xOf st)) (IntKind.wrap .i64 (yOf st))).bind fun v_7 => some ([IntKind.wrap .i32 v_7, IntKind.wrap .i32 v_6], 0)) : Option (List Int × Int)).bind _ : Option (GSt ⊕ (List Int × Int × GSt))).bind _) = _
      rw [show (yOf st == 0) = false by simp [hz], cond_false, e1, e2]; rfl
    · simp only [List.mem_cons, List.not_mem_nil, or_false] at hx
      rcases hx with rfl | rfl <;> exact i32w _
    · rw [ey (by omega), ex (by omega)]
      show ((cond (yOf st == 0) ((g_spec_l08Fault st 5).bind fun y_5 => some y_5) ((quoI .i64 (IntKind.wrap .i64 (xOf st)) (IntKind.wrap .i64 (yOf st))).bind fun v_6 => (remI .i64 (IntKind.wrap .i64 (xOf st)) (IntKind.wrap .i64 (yOf st))).bind fun v_7 => (g_spec_l08Put st 2 [IntKind.wrap .i32 v_7, IntKind.wrap .i32 v_6]).bind fun y_8 => some y_8) : Option GSt).bind _) = _
      rw [show (yOf st == 0) = false by simp [hz], cond_false, e1, Option.bind_some, e2, Option.bind_some, put_2 h.b hn (by simp)]; rfl
theorem word15 {st : GSt} (h : SG st) (hf : st.Fault = 0) : Both st 15 :=
  both_of h hf nm15 rfl wa15 ta15 (by omega) (l := [st.A]) (f := 0) (st2 := st) (by simp) (fun _ => rfl) rfl rfl (fun _ _ => ⟨h, fun x hx => by rw [List.mem_singleton] at hx; subst hx; exact h.a⟩) (by omega) (fun hn x y ey ex => notpure rfl (by
    show (g_spec_l08Put st 0 [st.A]).bind _ = _
    rw [put_0 h.b (by simp)]; rfl))
theorem word16 {st : GSt} (h : SG st) (hf : st.Fault = 0) : Both st 16 :=
  both_of h hf nm16 rfl wa16 ta16 (by omega) (l := []) (f := 0) (st2 := ⟨st.Data, st.Ret, yOf st, st.Mem, st.Cells, st.Vars, st.Out, st.In, st.Fault, st.Fuel⟩) (by simp) (fun _ => rfl) rfl rfl
    (fun _ _ => ⟨⟨⟨h.b.d, h.b.r, h.b.m, h.b.v, h.b.o, h.b.i, h.b.rk, h.b.vb, h.b.c, h.b.cl, h.b.f, h.b.u⟩, h.d, h.m, h.y, h.r⟩, fun x hx => by simp at hx⟩) (by omega) (fun hn x y ey ex => notpure rfl (by
    rw [ey (by omega)]
    show (g_spec_l08Put st 1 ([] : List Int)).bind _ = _
    rw [put_1 h.b hn (by simp), put0 h.b hn (.inl (by omega)), put0' h.b hn]; rfl))
def outS (st : GSt) (o : List Int) : GSt := ⟨st.Data, st.Ret, st.A, st.Mem, st.Cells, st.Vars, o, st.In, st.Fault, st.Fuel⟩
theorem SG.out {st : GSt} (h : SG st) {o : List Int} (ho : o.length ≤ 400) : SG (outS st o) := ⟨⟨h.b.d, h.b.r, h.b.m, h.b.v, ho, h.b.i, h.b.rk, h.b.vb, h.b.c, h.b.cl, h.b.f, h.b.u⟩, h.d, h.m, h.a, h.r⟩
theorem written_eq {st : GSt} (h : SB st) {s : List UInt8} (hs : s.length ≤ 1000) : g_impl_St_written s st = some (if st.Out.length + s.length > 400 then (13, st) else (0, outS st (st.Out ++ bsOf s))) := by
  have := h.o
  unfold g_impl_St_written
  rw [wI64 (by omega) (by omega)]
  by_cases hx : st.Out.length + s.length > 400
  · rw [decide_eq_true (by omega), cond_true, if_pos hx]
  · rw [decide_eq_false (by omega), cond_false, if_neg hx, app_eq (by unfold bsOf; rw [List.length_map]; omega)]; rfl
theorem say_eq {st : GSt} (h : SB st) (hn : 1 ≤ st.Data.length) {b : List Int} (hs : b.length ≤ 1000) : g_spec_l08Say st b = some (if st.Out.length + b.length > 400 then flt st 13 else putS st (outS st (st.Out ++ b)) 1 []) := by
  have := h.o
  unfold g_spec_l08Say
  rw [wI64 (by omega) (by omega), spec_flt h, put_1 h hn (by simp), put0 h hn (.inl (by omega)), put0' h hn]
  by_cases hx : st.Out.length + b.length > 400
  · rw [decide_eq_true (by omega), cond_true, if_pos hx]; rfl
  · rw [decide_eq_false (by omega), cond_false, if_neg hx, Option.bind_some, show (dat st (st.Data.take (st.Data.length - 1))).Out = st.Out from rfl, app_eq (by omega)]; rfl
theorem bsOf_len (s : List UInt8) : (bsOf s).length = s.length := by unfold bsOf; simp
theorem word_out {st : GSt} (h : SG st) (hf : st.Fault = 0) {k : Int} {name : List UInt8} {s : List UInt8} (hk : g_spec_PrimName k = some name) (hne : (name == []) = false) (hw : g_impl_wants k = some ((1 : Nat) : Int)) (ht : g_spec_l08Takes name = some ((1 : Nat) : Int)) (hs : s.length ≤ 1000)
    (hi : g_impl_St_effect name (xOf st) (yOf st) st = (g_impl_St_written s st).bind fun r => some ([], r.1, r.2)) (hp : ∀ x y, g_spec_l08Pure name x y = some ([], false)) (ho : ∀ x, g_spec_l08Other st name x (yOf st) = g_spec_l08Say st (bsOf s)) : Both st k := by
  rw [written_eq h.b hs] at hi
  by_cases hx : st.Out.length + s.length > 400
  · rw [if_pos hx] at hi
    exact both_of h hf hk hne hw ht (by omega) (l := []) (f := 13) (st2 := st) (by simp) (fun _ => hi) rfl rfl (fun _ e => by cases e) (by omega) (fun hn x y ey ex => notpure (hp _ _) (by
      rw [ey (by omega), ho, say_eq h.b hn (by rw [bsOf_len]; exact hs), if_pos (by rw [bsOf_len]; exact hx)]; rfl))
  · rw [if_neg hx] at hi
    exact both_of h hf hk hne hw ht (by omega) (l := []) (f := 0) (st2 := outS st (st.Out ++ bsOf s)) (by simp) (fun _ => hi) rfl rfl (fun _ _ => ⟨h.out (by rw [List.length_append, bsOf_len]; omega), fun x hx => by simp at hx⟩) (by omega) (fun hn x y ey ex => notpure (hp _ _) (by
      rw [ey (by omega), ho, say_eq h.b hn (by rw [bsOf_len]; exact hs), if_neg (by rw [bsOf_len]; exact hx)]; rfl))
theorem u8_and {y : Int} (h : i32B y) : IntKind.wrap .u8 (andI .i32 y 255) = y % 256 := by
  have e : (bytesB .i32 y &&& bytesB .i32 255).toNat = (y % 256).toNat := by
    show (BitVec.ofInt 32 y &&& BitVec.ofInt 32 255).toNat = _
    rw [BitVec.toNat_and, bv_ofInt, show (BitVec.ofInt 32 255).toNat = 2 ^ 8 - 1 from rfl, Nat.and_two_pow_sub_one_eq_mod]
    omega
  unfold andI
  rw [e, wI32 (by omega) (by omega)]
  unfold IntKind.wrap
  simp [IntKind.signed, IntKind.bits]
  omega
theorem u8_w (y : Int) : IntKind.wrap .u8 y = y % 256 := by
  unfold IntKind.wrap
  simp [IntKind.signed, IntKind.bits]
theorem bs_one {n : Int} (h0 : 0 ≤ n) (h1 : n < 256) : bsOf (strOf [n]) = [n] := by
  unfold bsOf strOf
  simp only [List.map_cons, List.map_nil, List.cons.injEq, and_true]
  rw [UInt8.toNat_ofNat']
  omega
theorem word17 {st : GSt} (h : SG st) (hf : st.Fault = 0) : Both st 17 :=
  word_out h hf nm17 rfl wa17 ta17 (s := strOf [IntKind.wrap .u8 (yOf st)]) (by simp [strOf]) (by
    show ((g_impl_St_written (strOf [IntKind.wrap .u8 (yOf st)]) st).bind fun y_20 => some (Sum.inr ([], y_20.1, y_20.2)) : Option (GSt ⊕ (List Int × Int × GSt))).bind _ = _
    rw [Option.bind_assoc]; rfl) (fun _ _ => rfl) (fun x => by
    show (g_spec_l08Say st [IntKind.wrap .u8 (andI .i32 (yOf st) 255)]).bind _ = _
    rw [u8_and h.y, u8_w, bs_one (by omega) (by omega)]
    cases g_spec_l08Say st [yOf st % 256] <;> rfl)
theorem word22 {st : GSt} (h : SG st) (hf : st.Fault = 0) : Both st 22 := by
  have hy := h.y
  unfold i32B at hy
  have hl := itoa_len (n := yOf st) (by omega) (by omega)
  refine word_out h hf nm22 rfl wa22 ta22 (s := Lib.itoa (yOf st) ++ [32]) (by simp; omega) ?_ (fun _ _ => rfl) (fun x => ?_)
  · show ((g_impl_DecText (IntKind.wrap .i64 (yOf st))).bind fun y_21 => (catS y_21 [32]).bind fun v_22 => (g_impl_St_written v_22 st).bind fun y_23 => some (Sum.inr ([], y_23.1, y_23.2)) : Option (GSt ⊕ (List Int × Int × GSt))).bind _ = _
    rw [wI64 (by omega) (by omega), impl_dec (by omega) (by omega), Option.bind_some, catS_eq (by simp; omega), Option.bind_some, Option.bind_assoc]; rfl
  · show ((g_spec_DecText (IntKind.wrap .i64 (yOf st))).bind fun y_12 => (catS y_12 [32]).bind fun v_13 => (s2b v_13).bind fun v_14 => (g_spec_l08Say st v_14).bind fun y_15 => some y_15) = _
    have e : s2b (Lib.itoa (yOf st) ++ [32]) = some (bsOf (Lib.itoa (yOf st) ++ [32])) := by
      unfold s2b; rw [if_pos (by unfold maxN; simp; omega)]
    rw [wI64 (by omega) (by omega), spec_dec (by omega) (by omega), Option.bind_some, catS_eq (by simp; omega), Option.bind_some, e, Option.bind_some]
    cases g_spec_l08Say st (bsOf (Lib.itoa (yOf st) ++ [32])) <;> rfl
def inS (st : GSt) (i : List Int) : GSt := ⟨st.Data, st.Ret, st.A, st.Mem, st.Cells, st.Vars, st.Out, i, st.Fault, st.Fuel⟩
theorem word18 {st : GSt} (h : SG st) (hf : st.Fault = 0) : Both st 18 := by
  have hi := h.b.i
  by_cases h0 : st.In.length = 0
  · refine both_of h hf nm18 rfl wa18 ta18 (by omega) (l := [-1]) (f := 0) (st2 := st) (by simp) (fun _ => ?_) rfl rfl (fun _ _ => ⟨h, fun x hx => by rw [List.mem_singleton] at hx; subst hx; exact ⟨by omega, by omega⟩⟩) (by omega) (fun hn x y ey ex => notpure rfl ?_)
    · show ((cond ((st.In.length : Int) == 0) _ _ : Option (GSt ⊕ (List Int × Int × GSt)))).bind _ = _
      rw [h0]; rfl
    · show ((cond (decide ((st.In.length : Int) > 0)) ((getI st.In 0).bind fun v_17 => some (IntKind.wrap .i32 v_17)) (some (-1)) : Option Int).bind _) = _
      rw [decide_eq_false (by omega), cond_false, Option.bind_some, put_0 h.b (by simp), Option.bind_some]
      have : (putS st st 0 [-1]).In.length = 0 := by unfold putS; split <;> exact h0
      rw [this]
      cases (putS st st 0 [-1]).Fault == 0 <;> rfl
  · have e0 : getI st.In 0 = some st.In[0] := by rw [show (0 : Int) = ((0 : Nat) : Int) from rfl, getI_nat, List.getElem?_eq_getElem (by omega)]
    have e1 : subL st.In 1 ((st.In.length : Nat) : Int) = some (st.In.drop 1) := by rw [subL_drop (by omega) (by omega)]; rfl
    refine both_of h hf nm18 rfl wa18 ta18 (by omega) (l := [IntKind.wrap .i32 st.In[0]]) (f := 0) (st2 := inS st (st.In.drop 1)) (by simp) (fun _ => ?_) rfl rfl (fun _ _ => ⟨⟨⟨h.b.d, h.b.r, h.b.m, h.b.v, h.b.o, by show (st.In.drop 1).length ≤ 100; rw [List.length_drop]; omega, h.b.rk, h.b.vb, h.b.c, h.b.cl, h.b.f, h.b.u⟩, h.d, h.m, h.a, h.r⟩, fun x hx => by rw [List.mem_singleton] at hx; subst hx; exact i32w _⟩) (by omega) (fun hn x y ey ex => notpure rfl ?_)
    · show ((cond ((st.In.length : Int) == 0) _ ((getI st.In 0).bind fun v_24 => (subL st.In 1 ((st.In.length : Nat) : Int)).bind fun v_25 => some (.inr ([IntKind.wrap .i32 v_24], 0, (⟨st.Data, st.Ret, st.A, st.Mem, st.Cells, st.Vars, st.Out, v_25, st.Fault, st.Fuel⟩ : GSt)))) : Option (GSt ⊕ (List Int × Int × GSt)))).bind _ = _
      rw [show ((st.In.length : Int) == 0) = false by rw [beq_eq_false_iff_ne]; omega, cond_false, e0, Option.bind_some, e1]; rfl
    · show ((cond (decide ((st.In.length : Int) > 0)) ((getI st.In 0).bind fun v_17 => some (IntKind.wrap .i32 v_17)) (some (-1)) : Option Int).bind _) = _
      rw [decide_eq_true (p := (st.In.length : Int) > 0) (by omega), cond_true, e0, Option.bind_some, Option.bind_some, put_0 h.b (by simp), Option.bind_some]
      unfold putS
      by_cases hx : st.Data.length - 0 + [IntKind.wrap .i32 st.In[0]].length > 16
      · rw [if_pos hx, if_pos hx]; rfl
      · rw [if_neg hx, if_neg hx]
        show (((cond (st.Fault == 0) (some (decide ((st.In.length : Int) > 0))) (some false) : Option Bool).bind _ : Option GSt)).bind _ = _
        rw [hf, show ((0 : Int) == 0) = true from rfl, cond_true, decide_eq_true (p := (st.In.length : Int) > 0) (by omega), Option.bind_some, cond_true]
        show ((subL st.In 1 ((st.In.length : Nat) : Int)).bind _).bind _ = _
        rw [e1]; simp [dat, inS, hf]
def retS (st : GSt) (r : List GSlot) : GSt := ⟨st.Data, r, st.A, st.Mem, st.Cells, st.Vars, st.Out, st.In, st.Fault, st.Fuel⟩
theorem SG.ret {st : GSt} (h : SG st) {r : List GSlot} (hl : r.length ≤ 24) (hk : ∀ s ∈ r, 0 ≤ s.Kind ∧ s.Kind ≤ 2) (hn : ∀ s ∈ r, i32B s.N) : SG (retS st r) :=
  ⟨⟨h.b.d, hl, h.b.m, h.b.v, h.b.o, h.b.i, hk, h.b.vb, h.b.c, h.b.cl, h.b.f, h.b.u⟩, h.d, h.m, h.a, hn⟩
theorem word19 {st : GSt} (h : SG st) (hf : st.Fault = 0) : Both st 19 := by
  have hr := h.b.r
  by_cases h0 : st.Ret.length = 24
  · refine both_of h hf nm19 rfl wa19 ta19 (by omega) (l := []) (f := 3) (st2 := st) (by simp) (fun _ => ?_) rfl rfl (fun _ e => by cases e) (by omega) (fun hn x y ey ex => notpure rfl ?_)
    · show ((cond ((st.Ret.length : Int) == 24) _ _ : Option (GSt ⊕ (List Int × Int × GSt)))).bind _ = _
      rw [h0]; rfl
    · show ((cond ((st.Ret.length : Int) == 24) ((g_spec_l08Fault st 3).bind _) _ : Option GSt)) = _
      rw [h0, spec_flt h.b]; rfl
  · have e1 : app st.Ret [(⟨0, yOf st⟩ : GSlot)] = some (st.Ret ++ [⟨0, yOf st⟩]) := app_eq (by simp; omega)
    refine both_of h hf nm19 rfl wa19 ta19 (by omega) (l := []) (f := 0) (st2 := retS st (st.Ret ++ [⟨0, yOf st⟩])) (by simp) (fun _ => ?_) rfl rfl (fun _ _ => ⟨h.ret (by simp; omega) (fun s hs => ?_) (fun s hs => ?_), fun x hx => by simp at hx⟩) (by omega) (fun hn x y ey ex => notpure rfl ?_)
    · show ((cond ((st.Ret.length : Int) == 24) _ ((app st.Ret [(⟨0, yOf st⟩ : GSlot)]).bind fun v_26 => some (.inl (⟨st.Data, v_26, st.A, st.Mem, st.Cells, st.Vars, st.Out, st.In, st.Fault, st.Fuel⟩ : GSt))) : Option (GSt ⊕ (List Int × Int × GSt)))).bind _ = _
      rw [show ((st.Ret.length : Int) == 24) = false by simp; omega, cond_false, e1]; rfl
    · rcases List.mem_append.1 hs with hs | hs
      · exact h.b.rk s hs
      · rw [List.mem_singleton] at hs; subst hs; exact ⟨by show (0 : Int) ≤ 0; omega, by show (0 : Int) ≤ 2; omega⟩
    · rcases List.mem_append.1 hs with hs | hs
      · exact h.r s hs
      · rw [List.mem_singleton] at hs; subst hs; exact h.y
    · rw [ey (by omega)]
      show ((cond ((st.Ret.length : Int) == 24) _ ((g_spec_l08Put st 1 ([] : List Int)).bind _) : Option GSt)) = _
      rw [show ((st.Ret.length : Int) == 24) = false by simp; omega, cond_false, put_1 h.b hn (by simp), put0 h.b hn (.inl (by omega)), put0' h.b hn, Option.bind_some]
      show (app st.Ret [(⟨0, yOf st⟩ : GSlot)]).bind _ = _
      rw [e1]; rfl
end Go.Proofs.YtofjeimkphojaaaGreatDoor
