import Derived.Test.YtceiajigccclnaaDoorCS
import Derived.Shelf.Strconv.Itoa3
import Derived.Shelf.Strings.OnBuilder
import Derived.KernelRfl
set_option linter.all false
namespace Go.Proofs.YtceiajigccclnaaDoor
open Go Go.Fm
set_option maxRecDepth 100000
abbrev Bs := List UInt8
structure GSlot where
  Kind : Int
  N : Int
  deriving DecidableEq, Inhabited
structure GSt where
  Data : List Int
  Ret : List GSlot
  A : Int
  Mem : List Int
  Cells : List Int
  Vars : List Int
  Out : List Int
  In : List Int
  Fault : Int
  Fuel : Int
  deriving DecidableEq, Inhabited
structure GStore where
  Cells : List Int
  deriving DecidableEq, Inhabited
def GSlot.cs (x : GSlot) : List CV := [.int .i64 x.Kind, .int .i32 x.N]
def GSt.cs (x : GSt) : List CV := [.imm 1 x.Data.length (x.Data.flatMap (eI .i32)), .imm 2 x.Ret.length (x.Ret.flatMap GSlot.cs), .int .i32 x.A, .imm 1 x.Mem.length (x.Mem.flatMap (eI .i32)), .imm 1 x.Cells.length (x.Cells.flatMap (eI .u32)), .imm 1 x.Vars.length (x.Vars.flatMap (eI .i64)), .imm 1 x.Out.length (x.Out.flatMap (eI .u8)), .imm 1 x.In.length (x.In.flatMap (eI .u8)), .int .i64 x.Fault, .int .i64 x.Fuel]
def GStore.cs (x : GStore) : List CV := [.imm 1 x.Cells.length (x.Cells.flatMap (eI .u32))]
instance : StTy := ⟨fun n => match n with | 0 => GSt | 1 => GSlot | 2 => GStore | _ => Unit, fun n => match n with | 0 => 10 | 1 => 2 | 2 => 1 | _ => 0, lkA [(28, 0), (33, 0), (58, 1), (99, 2), (101, 1)]⟩
noncomputable instance : StCs := ⟨fun n => match n with | 0 => GSt.cs | 1 => GSlot.cs | 2 => GStore.cs | _ => fun _ => []⟩
noncomputable def GSt.lv (x : GSt) : List TC := [.imm (.int .i32) x.Data, .imm (.st 1) x.Ret, .int .i32 x.A, .imm (.int .i32) x.Mem, .imm (.int .u32) x.Cells, .imm (.int .i64) x.Vars, .imm (.int .u8) x.Out, .imm (.int .u8) x.In, .int .i64 x.Fault, .int .i64 x.Fuel]
noncomputable def GSt.of : List TC → Option GSt
  | [c0, c1, c2, c3, c4, c5, c6, c7, c8, c9] => (tImm (.int .i32) c0).bind fun x0 => (tImm (.st 1) c1).bind fun x1 => (tInt .i32 c2).bind fun x2 => (tImm (.int .i32) c3).bind fun x3 => (tImm (.int .u32) c4).bind fun x4 => (tImm (.int .i64) c5).bind fun x5 => (tImm (.int .u8) c6).bind fun x6 => (tImm (.int .u8) c7).bind fun x7 => (tInt .i64 c8).bind fun x8 => (tInt .i64 c9).bind fun x9 => some ⟨x0, x1, x2, x3, x4, x5, x6, x7, x8, x9⟩
  | _ => none
theorem GSt.made {l : List TC} {v : GSt} (h : GSt.of l = some v) : CRs l v.lv := by
  match l, h with
  | [c0, c1, c2, c3, c4, c5, c6, c7, c8, c9], h =>
    obtain ⟨x0, e0, h⟩ := bS h
    obtain ⟨x1, e1, h⟩ := bS h
    obtain ⟨x2, e2, h⟩ := bS h
    obtain ⟨x3, e3, h⟩ := bS h
    obtain ⟨x4, e4, h⟩ := bS h
    obtain ⟨x5, e5, h⟩ := bS h
    obtain ⟨x6, e6, h⟩ := bS h
    obtain ⟨x7, e7, h⟩ := bS h
    obtain ⟨x8, e8, h⟩ := bS h
    obtain ⟨x9, e9, h⟩ := bS h
    cases h
    exact ⟨tImm_cr e0, tImm_cr e1, tInt_cr e2, tImm_cr e3, tImm_cr e4, tImm_cr e5, tImm_cr e6, tImm_cr e7, tInt_cr e8, tInt_cr e9, trivial⟩
noncomputable def GSlot.lv (x : GSlot) : List TC := [.int .i64 x.Kind, .int .i32 x.N]
noncomputable def GSlot.of : List TC → Option GSlot
  | [c0, c1] => (tInt .i64 c0).bind fun x0 => (tInt .i32 c1).bind fun x1 => some ⟨x0, x1⟩
  | _ => none
theorem GSlot.made {l : List TC} {v : GSlot} (h : GSlot.of l = some v) : CRs l v.lv := by
  match l, h with
  | [c0, c1], h =>
    obtain ⟨x0, e0, h⟩ := bS h
    obtain ⟨x1, e1, h⟩ := bS h
    cases h
    exact ⟨tInt_cr e0, tInt_cr e1, trivial⟩
noncomputable def GStore.lv (x : GStore) : List TC := [.imm (.int .u32) x.Cells]
noncomputable def GStore.of : List TC → Option GStore
  | [c0] => (tImm (.int .u32) c0).bind fun x0 => some ⟨x0⟩
  | _ => none
theorem GStore.made {l : List TC} {v : GStore} (h : GStore.of l = some v) : CRs l v.lv := by
  match l, h with
  | [c0], h =>
    obtain ⟨x0, e0, h⟩ := bS h
    cases h
    exact ⟨tImm_cr e0, trivial⟩
noncomputable instance : Structs where
  leaves := fun n => match n with | 0 => GSt.lv | 1 => GSlot.lv | 2 => GStore.lv | _ => fun _ => []
  make := fun n => match n with | 0 => GSt.of | 1 => GSlot.of | 2 => GStore.of | _ => fun _ => none
  plain := fun n => match n with | 0 => false | 1 => true | 2 => false | _ => false
  lt := fun n => match n with | 0 => [(.int .i32), (.st 1), .bool, (.int .i32), (.int .u32), (.int .i64), (.int .u8), (.int .u8), .bool, .bool] | 1 => [.bool, .bool] | 2 => [(.int .u32)] | _ => []
  len := fun n v => match n, v with | 0, _ => rfl | 1, _ => rfl | 2, _ => rfl | _ + 3, _ => rfl
  conc := fun n v => match n, v with | 0, _ => rfl | 1, _ => rfl | 2, _ => rfl | _ + 3, _ => rfl
  pure := fun n v => match n, v with | 0, _ => rfl | 1, _ => rfl | 2, _ => rfl | _ + 3, _ => rfl
  made := fun n l v h => match n, v, h with | 0, v, h => GSt.made h | 1, v, h => GSlot.made h | 2, v, h => GStore.made h | _ + 3, _, h => nomatch h
  flat := fun n v h => match n, v, h with | 0, _, h => nomatch h | 1, _, _ => rfl | 2, _, h => nomatch h | _ + 3, _, h => nomatch h
noncomputable instance : Tabs := ⟨fun g => match g with | 1 => some ⟨.int .u64, gtPow10⟩ | _ => none, fun g => match g with | 0 => rfl | 1 => rfl | _ + 2 => rfl⟩
abbrev K0 : Ty := .int .i32
abbrev K1 : Ty := .list K0
abbrev K2 : Ty := .int .i64
abbrev K3 : Ty := .st 1
abbrev K4 : Ty := .list K3
abbrev K5 : Ty := .int .u32
abbrev K6 : Ty := .list K5
abbrev K7 : Ty := .list K2
abbrev K8 : Ty := .int .u8
abbrev K9 : Ty := .list K8
abbrev K10 : Ty := .st 0
abbrev K11 : Ty := .bool
abbrev K12 : Ty := .st 2
abbrev K13 : Ty := .str
abbrev K14 : Ty := .list K13
end Go.Proofs.YtceiajigccclnaaDoor
namespace Go.Proofs.YtceiajigccclnaaDoor
open Go Go.Fm
set_option maxRecDepth 1000000
def g_laws_szInt32S (a_1 : List Int) (left_2 : Int) : Option Int := cond (decide ((IntKind.wrap .i64 (left_2 - (a_1.length : Int))) < 0)) (some (-1)) (some (IntKind.wrap .i64 (left_2 - (a_1.length : Int))))
def g_laws_szSlotS (a_1 : List GSlot) (left_2 : Int) : Option Int := cond (decide ((IntKind.wrap .i64 (left_2 - (a_1.length : Int))) < 0)) (some (-1)) (some (IntKind.wrap .i64 (left_2 - (a_1.length : Int))))
def g_laws_szUint32S (a_1 : List Int) (left_2 : Int) : Option Int := cond (decide ((IntKind.wrap .i64 (left_2 - (a_1.length : Int))) < 0)) (some (-1)) (some (IntKind.wrap .i64 (left_2 - (a_1.length : Int))))
def g_laws_szIntS (a_1 : List Int) (left_2 : Int) : Option Int := cond (decide ((IntKind.wrap .i64 (left_2 - (a_1.length : Int))) < 0)) (some (-1)) (some (IntKind.wrap .i64 (left_2 - (a_1.length : Int))))
def g_laws_szByteS (a_1 : List Int) (left_2 : Int) : Option Int := cond (decide ((IntKind.wrap .i64 (left_2 - (a_1.length : Int))) < 0)) (some (-1)) (some (IntKind.wrap .i64 (left_2 - (a_1.length : Int))))
def g_laws_szSt (a_1 : GSt) (left_2 : Int) : Option Int := (g_laws_szInt32S a_1.Data left_2).bind fun y_4 => cond (decide (y_4 < 0)) (some (-1)) ((g_laws_szSlotS a_1.Ret y_4).bind fun y_5 => cond (decide (y_5 < 0)) (some (-1)) ((g_laws_szInt32S a_1.Mem y_5).bind fun y_6 => cond (decide (y_6 < 0)) (some (-1)) ((g_laws_szUint32S a_1.Cells y_6).bind fun y_7 => cond (decide (y_7 < 0)) (some (-1)) ((g_laws_szIntS a_1.Vars y_7).bind fun y_8 => cond (decide (y_8 < 0)) (some (-1)) ((g_laws_szByteS a_1.Out y_8).bind fun y_9 => cond (decide (y_9 < 0)) (some (-1)) ((g_laws_szByteS a_1.In y_9).bind fun y_10 => cond (decide (y_10 < 0)) (some (-1)) (some y_10)))))))
def g_laws_toInt32S_l0 (a_1 : List Int) : Nat → (List Int) → Int → Option (List Int)
  | 0, _, _ => none
  | k + 1, out_5, i_6 => cond (decide (i_6 < (a_1.length : Int))) ((getI a_1 i_6).bind fun v_8 => (getI out_5 i_6).bind fun v_9 => g_laws_toInt32S_l0 a_1 k (out_5.set i_6.toNat v_8) (IntKind.wrap .i64 (i_6 + 1))) (some out_5)
def g_laws_toInt32S (a_1 : List Int) : Option (List Int) := (mk (0 : Int) (a_1.length : Int)).bind fun v_3 => ((g_laws_toInt32S_l0 a_1 bigK v_3 0).bind fun out_7 => some out_7 : Option ((List Int))).bind fun out_4 => some out_4
def g_laws_toSlot (a_1 : GSlot) : Option GSlot := some a_1
def g_laws_toSlotS_l0 (a_1 : List GSlot) : Nat → (List GSlot) → Int → Option (List GSlot)
  | 0, _, _ => none
  | k + 1, out_5, i_6 => cond (decide (i_6 < (a_1.length : Int))) ((getI a_1 i_6).bind fun v_8 => (g_laws_toSlot v_8).bind fun y_9 => (getI out_5 i_6).bind fun v_10 => g_laws_toSlotS_l0 a_1 k (out_5.set i_6.toNat y_9) (IntKind.wrap .i64 (i_6 + 1))) (some out_5)
def g_laws_toSlotS (a_1 : List GSlot) : Option (List GSlot) := (mk ((⟨0, 0⟩ : GSlot) : GSlot) (a_1.length : Int)).bind fun v_3 => ((g_laws_toSlotS_l0 a_1 bigK v_3 0).bind fun out_7 => some out_7 : Option ((List GSlot))).bind fun out_4 => some out_4
def g_laws_toUint32S_l0 (a_1 : List Int) : Nat → (List Int) → Int → Option (List Int)
  | 0, _, _ => none
  | k + 1, out_5, i_6 => cond (decide (i_6 < (a_1.length : Int))) ((getI a_1 i_6).bind fun v_8 => (getI out_5 i_6).bind fun v_9 => g_laws_toUint32S_l0 a_1 k (out_5.set i_6.toNat v_8) (IntKind.wrap .i64 (i_6 + 1))) (some out_5)
def g_laws_toUint32S (a_1 : List Int) : Option (List Int) := (mk (0 : Int) (a_1.length : Int)).bind fun v_3 => ((g_laws_toUint32S_l0 a_1 bigK v_3 0).bind fun out_7 => some out_7 : Option ((List Int))).bind fun out_4 => some out_4
def g_laws_toIntS_l0 (a_1 : List Int) : Nat → (List Int) → Int → Option (List Int)
  | 0, _, _ => none
  | k + 1, out_5, i_6 => cond (decide (i_6 < (a_1.length : Int))) ((getI a_1 i_6).bind fun v_8 => (getI out_5 i_6).bind fun v_9 => g_laws_toIntS_l0 a_1 k (out_5.set i_6.toNat v_8) (IntKind.wrap .i64 (i_6 + 1))) (some out_5)
def g_laws_toIntS (a_1 : List Int) : Option (List Int) := (mk (0 : Int) (a_1.length : Int)).bind fun v_3 => ((g_laws_toIntS_l0 a_1 bigK v_3 0).bind fun out_7 => some out_7 : Option ((List Int))).bind fun out_4 => some out_4
def g_laws_toByteS_l0 (a_1 : List Int) : Nat → (List Int) → Int → Option (List Int)
  | 0, _, _ => none
  | k + 1, out_5, i_6 => cond (decide (i_6 < (a_1.length : Int))) ((getI a_1 i_6).bind fun v_8 => (getI out_5 i_6).bind fun v_9 => g_laws_toByteS_l0 a_1 k (out_5.set i_6.toNat v_8) (IntKind.wrap .i64 (i_6 + 1))) (some out_5)
def g_laws_toByteS (a_1 : List Int) : Option (List Int) := (mk (0 : Int) (a_1.length : Int)).bind fun v_3 => ((g_laws_toByteS_l0 a_1 bigK v_3 0).bind fun out_7 => some out_7 : Option ((List Int))).bind fun out_4 => some out_4
def g_laws_toSt (a_1 : GSt) : Option GSt := (g_laws_toInt32S a_1.Data).bind fun y_3 => (g_laws_toSlotS a_1.Ret).bind fun y_4 => (g_laws_toInt32S a_1.Mem).bind fun y_5 => (g_laws_toUint32S a_1.Cells).bind fun y_6 => (g_laws_toIntS a_1.Vars).bind fun y_7 => (g_laws_toByteS a_1.Out).bind fun y_8 => (g_laws_toByteS a_1.In).bind fun y_9 => some (⟨y_3, y_4, a_1.A, y_5, y_6, y_7, y_8, y_9, a_1.Fault, a_1.Fuel⟩ : GSt)
def g_spec_l01In (x_1 : Int) (a_2 : Int) (b_3 : Int) : Option Bool := cond (decide (x_1 ≥ a_2)) (some (decide (x_1 ≤ b_3))) (some false)
def g_spec_StoreOk (s_1 : GStore) : Option Bool := cond ((Int.tmod (s_1.Cells.length : Int) 64) == 0) (some (decide ((s_1.Cells.length : Int) ≤ 768))) (some false)
def g_spec_StOk_l0 (st_1 : GSt) : Nat → Int → Option (Unit ⊕ Bool)
  | 0, _ => none
  | k + 1, i_5 => cond (decide (i_5 < (st_1.Ret.length : Int))) ((getI st_1.Ret i_5).bind fun v_7 => (g_spec_l01In v_7.Kind 0 2).bind fun y_8 => cond (!y_8) (some (.inr false)) (g_spec_StOk_l0 st_1 k (IntKind.wrap .i64 (i_5 + 1)))) (some (.inl ()))
def g_spec_StOk_l2 (i_10 : Int) (st_1 : GSt) : Nat → Int → Option (Unit ⊕ Bool)
  | 0, _ => none
  | k + 1, k_15 => cond (decide (k_15 < i_10)) ((getI st_1.Vars k_15).bind fun v_17 => (getI st_1.Vars i_10).bind fun v_18 => cond (v_17 == v_18) (some (.inr false)) (g_spec_StOk_l2 i_10 st_1 k (IntKind.wrap .i64 (k_15 + 1)))) (some (.inl ()))
def g_spec_StOk_l1 (st_1 : GSt) : Nat → Int → Option (Unit ⊕ Bool)
  | 0, _ => none
  | k + 1, i_10 => cond (decide (i_10 < (st_1.Vars.length : Int))) (((getI st_1.Vars i_10).bind fun v_13 => (g_spec_l01In v_13 0 (IntKind.wrap .i64 ((st_1.Cells.length : Int) - 1))).bind fun y_14 => cond (!y_14) (some (.inr false)) ((g_spec_StOk_l2 i_10 st_1 bigK 0).bind fun o => match o with | .inl () => some (.inl ()) | .inr v_16 => some (.inr v_16)) : Option (Unit ⊕ Bool)).bind fun o => match o with | .inl () => g_spec_StOk_l1 st_1 k (IntKind.wrap .i64 (i_10 + 1)) | .inr v_12 => some (.inr v_12)) (some (.inl ()))
def g_spec_StOk (st_1 : GSt) : Option Bool := (cond (decide ((st_1.Data.length : Int) > 16)) (some true) (cond (decide ((st_1.Ret.length : Int) > 24)) (some true) (cond ((st_1.Mem.length : Int) != 32) (some true) (cond (decide ((st_1.Vars.length : Int) > 20)) (some true) (cond (decide ((st_1.Out.length : Int) > 400)) (some true) (some (decide ((st_1.In.length : Int) > 100))))))) : Option (Bool)).bind fun v_3 => cond v_3 (some false) (((g_spec_StOk_l0 st_1 bigK 0).bind fun o => match o with | .inl () => some (.inl ()) | .inr v_6 => some (.inr v_6) : Option (Unit ⊕ Bool)).bind fun o => match o with | .inl () => (((g_spec_StOk_l1 st_1 bigK 0).bind fun o => match o with | .inl () => some (.inl ()) | .inr v_11 => some (.inr v_11) : Option (Unit ⊕ Bool)).bind fun o => match o with | .inl () => (g_spec_StoreOk (⟨st_1.Cells⟩ : GStore)).bind fun y_19 => cond y_19 ((g_spec_l01In st_1.Fault 0 13).bind fun y_20 => cond y_20 ((g_spec_l01In st_1.Fuel 0 4000).bind fun y_21 => some y_21) (some false)) (some false) | .inr v_9 => some v_9) | .inr v_4 => some v_4)
def g_spec_DecText_l0 : Nat → Bs → Int → Option Bs
  | 0, _, _ => none
  | k + 1, out_4, m_5 => cond (m_5 != 0) ((cond (decide ((Int.tmod m_5 10) < 0)) (some (IntKind.wrap .i64 (0 - (Int.tmod m_5 10)))) (some (Int.tmod m_5 10)) : Option (Int)).bind fun d_7 => (subL [48, 49, 50, 51, 52, 53, 54, 55, 56, 57] d_7 (IntKind.wrap .i64 (d_7 + 1))).bind fun v_8 => (catS v_8 out_4).bind fun v_9 => g_spec_DecText_l0 k v_9 (IntKind.wrap .i64 (Int.tdiv m_5 10))) (some out_4)
def g_spec_DecText (n_1 : Int) : Option Bs := cond (n_1 == 0) (some [48]) ((g_spec_DecText_l0 bigK [] n_1).bind fun out_6 => cond (decide (n_1 < 0)) ((catS [45] out_6).bind fun v_10 => some v_10) (some out_6))
def g_spec_StText_l0 (st_1 : GSt) : Nat → Bs → Int → Option Bs
  | 0, _, _ => none
  | k + 1, out_6, i_7 => cond (decide (i_7 < (st_1.Data.length : Int))) ((getI st_1.Data i_7).bind fun v_9 => (g_spec_DecText (IntKind.wrap .i64 v_9)).bind fun y_10 => (catS out_6 y_10).bind fun v_11 => (catS v_11 [32]).bind fun v_12 => g_spec_StText_l0 st_1 k v_12 (IntKind.wrap .i64 (i_7 + 1))) (some out_6)
def g_spec_StText_l1 (st_1 : GSt) : Nat → Bs → Int → Option Bs
  | 0, _, _ => none
  | k + 1, out_17, i_18 => cond (decide (i_18 < (st_1.Ret.length : Int))) ((getI st_1.Ret i_18).bind fun v_20 => (catS out_17 [32]).bind fun v_21 => (subL [100, 99, 98] v_20.Kind (IntKind.wrap .i64 (v_20.Kind + 1))).bind fun v_22 => (catS v_21 v_22).bind fun v_23 => (getI st_1.Ret i_18).bind fun v_24 => (g_spec_DecText (IntKind.wrap .i64 v_24.N)).bind fun y_25 => (catS v_23 y_25).bind fun v_26 => g_spec_StText_l1 st_1 k v_26 (IntKind.wrap .i64 (i_18 + 1))) (some out_17)
def g_spec_StText (st_1 : GSt) : Option Bs := (g_spec_StOk st_1).bind fun y_3 => cond (!y_3) (some []) (((g_spec_StText_l0 st_1 bigK [] 0).bind fun out_8 => some out_8 : Option (Bs)).bind fun out_4 => (cond (out_4 == []) (some [32]) (some out_4) : Option (Bs)).bind fun out_13 => (catS out_13 [124]).bind fun v_14 => ((g_spec_StText_l1 st_1 bigK v_14 0).bind fun out_19 => some out_19 : Option (Bs)).bind fun out_15 => (catS out_15 [32, 124, 32]).bind fun v_27 => (g_spec_DecText (IntKind.wrap .i64 st_1.A)).bind fun y_28 => (catS v_27 y_28).bind fun v_29 => (catS v_29 [32]).bind fun v_30 => (g_spec_DecText st_1.Fault).bind fun y_31 => (catS v_30 y_31).bind fun v_32 => (catS v_32 [32]).bind fun v_33 => (g_spec_DecText st_1.Fuel).bind fun y_34 => (catS v_33 y_34).bind fun v_35 => some v_35)
def g_impl_StoreOk (s_1 : GStore) : Option Bool := cond ((Int.tmod (s_1.Cells.length : Int) 64) == 0) (some (decide ((s_1.Cells.length : Int) ≤ 768))) (some false)
def g_impl_within (n_1 : Int) (low_2 : Int) (high_3 : Int) : Option Bool := cond (decide (low_2 ≤ n_1)) (some (decide (n_1 ≤ high_3))) (some false)
def g_slices_Index_int_l0 (s_1 : List Int) (v_2 : Int) (v_5 : Int) : Nat → Int → Option (Unit ⊕ Int)
  | 0, _ => none
  | k + 1, v_6 => cond (decide (v_6 < v_5)) ((getI s_1 v_6).bind fun v_8 => cond (v_2 == v_8) (some (.inr v_6)) (g_slices_Index_int_l0 s_1 v_2 v_5 k (IntKind.wrap .i64 (v_6 + 1)))) (some (.inl ()))
def g_slices_Index_int (s_1 : List Int) (v_2 : Int) : Option Int := ((g_slices_Index_int_l0 s_1 v_2 (s_1.length : Int) bigK 0).bind fun o => match o with | .inl () => some (.inl ()) | .inr v_7 => some (.inr v_7) : Option (Unit ⊕ Int)).bind fun o => match o with | .inl () => some (-1) | .inr v_4 => some v_4
def g_slices_Contains_int (s_1 : List Int) (v_2 : Int) : Option Bool := (g_slices_Index_int s_1 v_2).bind fun y_4 => some (decide (y_4 ≥ 0))
def g_impl_StOk_l0 (v_6 : List GSlot) (v_7 : Int) : Nat → Int → Option (Unit ⊕ Bool)
  | 0, _ => none
  | k + 1, v_8 => cond (decide (v_8 < v_7)) ((getI v_6 v_8).bind fun v_10 => (g_impl_within v_10.Kind 0 2).bind fun y_11 => cond (!y_11) (some (.inr false)) (g_impl_StOk_l0 v_6 v_7 k (IntKind.wrap .i64 (v_8 + 1)))) (some (.inl ()))
def g_impl_StOk_l1 (v_13 : List Int) (v_14 : Int) (st_1 : GSt) : Nat → Int → Option (Unit ⊕ Bool)
  | 0, _ => none
  | k + 1, v_15 => cond (decide (v_15 < v_14)) ((getI v_13 v_15).bind fun v_17 => ((g_impl_within v_17 0 (IntKind.wrap .i64 ((st_1.Cells.length : Int) - 1))).bind fun y_19 => cond (!y_19) (some true) ((subL st_1.Vars 0 v_15).bind fun v_20 => (g_slices_Contains_int v_20 v_17).bind fun y_21 => some y_21) : Option (Bool)).bind fun v_18 => cond v_18 (some (.inr false)) (g_impl_StOk_l1 v_13 v_14 st_1 k (IntKind.wrap .i64 (v_15 + 1)))) (some (.inl ()))
def g_impl_StOk (st_1 : GSt) : Option Bool := (cond (decide ((st_1.Data.length : Int) > 16)) (some true) (cond (decide ((st_1.Ret.length : Int) > 24)) (some true) (cond ((st_1.Mem.length : Int) != 32) (some true) ((g_impl_StoreOk (⟨st_1.Cells⟩ : GStore)).bind fun y_4 => cond (!y_4) (some true) (some (decide ((st_1.Vars.length : Int) > 20)))))) : Option (Bool)).bind fun v_3 => cond v_3 (some false) (((g_impl_StOk_l0 st_1.Ret (st_1.Ret.length : Int) bigK 0).bind fun o => match o with | .inl () => some (.inl ()) | .inr v_9 => some (.inr v_9) : Option (Unit ⊕ Bool)).bind fun o => match o with | .inl () => (((g_impl_StOk_l1 st_1.Vars (st_1.Vars.length : Int) st_1 bigK 0).bind fun o => match o with | .inl () => some (.inl ()) | .inr v_16 => some (.inr v_16) : Option (Unit ⊕ Bool)).bind fun o => match o with | .inl () => cond (decide ((st_1.Out.length : Int) ≤ 400)) (cond (decide ((st_1.In.length : Int) ≤ 100)) ((g_impl_within st_1.Fault 0 13).bind fun y_22 => cond y_22 ((g_impl_within st_1.Fuel 0 4000).bind fun y_23 => some y_23) (some false)) (some false)) (some false) | .inr v_12 => some v_12) | .inr v_5 => some v_5)
def g_strconv_Itoa (i_1 : Int) : Option Bs := gItoa i_1
def g_impl_DecText (n_1 : Int) : Option Bs := (g_strconv_Itoa n_1).bind fun y_3 => some y_3
def g_strings_Join (xs_1 : List Bs) (sep_2 : Bs) : Option Bs := gJoin xs_1 sep_2
def g_impl_decTexts_l0 (v_5 : List Int) (v_6 : Int) : Nat → (List Bs) → Int → Option (List Bs)
  | 0, _, _ => none
  | k + 1, parts_7, v_8 => cond (decide (v_8 < v_6)) ((getI v_5 v_8).bind fun v_10 => (g_impl_DecText v_10).bind fun y_11 => (app parts_7 [y_11]).bind fun v_12 => g_impl_decTexts_l0 v_5 v_6 k v_12 (IntKind.wrap .i64 (v_8 + 1))) (some parts_7)
def g_impl_decTexts (list_1 : List Int) : Option Bs := ((g_impl_decTexts_l0 list_1 (list_1.length : Int) bigK ([] : List Bs) 0).bind fun parts_9 => some parts_9 : Option ((List Bs))).bind fun parts_3 => (g_strings_Join parts_3 [32]).bind fun y_13 => some y_13
def g_impl_StText_l0 (v_6 : List Int) (v_7 : Int) : Nat → (List Int) → Int → Option (List Int)
  | 0, _, _ => none
  | k + 1, list_8, v_9 => cond (decide (v_9 < v_7)) ((getI v_6 v_9).bind fun v_11 => (app list_8 [IntKind.wrap .i64 v_11]).bind fun v_12 => g_impl_StText_l0 v_6 v_7 k v_12 (IntKind.wrap .i64 (v_9 + 1))) (some list_8)
def g_impl_StText_l1 (v_17 : List GSlot) (v_18 : Int) : Nat → Bs → Int → Option Bs
  | 0, _, _ => none
  | k + 1, out_19, v_20 => cond (decide (v_20 < v_18)) ((getI v_17 v_20).bind fun v_22 => (subL [100, 99, 98] v_22.Kind (IntKind.wrap .i64 (v_22.Kind + 1))).bind fun v_23 => (catS [32] v_23).bind fun v_24 => (g_impl_DecText (IntKind.wrap .i64 v_22.N)).bind fun y_25 => (catS v_24 y_25).bind fun v_26 => (catS out_19 v_26).bind fun v_27 => g_impl_StText_l1 v_17 v_18 k v_27 (IntKind.wrap .i64 (v_20 + 1))) (some out_19)
def g_impl_StText (st_1 : GSt) : Option Bs := (g_impl_StOk st_1).bind fun y_3 => cond (!y_3) (some []) (((g_impl_StText_l0 st_1.Data (st_1.Data.length : Int) bigK ([] : List Int) 0).bind fun list_10 => some list_10 : Option ((List Int))).bind fun list_4 => (g_impl_decTexts list_4).bind fun y_13 => (catS y_13 [32, 124]).bind fun v_14 => ((g_impl_StText_l1 st_1.Ret (st_1.Ret.length : Int) bigK v_14 0).bind fun out_21 => some out_21 : Option (Bs)).bind fun out_15 => (catS out_15 [32, 124, 32]).bind fun v_28 => (g_impl_decTexts [IntKind.wrap .i64 st_1.A, st_1.Fault, st_1.Fuel]).bind fun y_29 => (catS v_28 y_29).bind fun v_30 => some v_30)
def g_laws_eqInt32S_l0 (a_1 : List Int) (b_2 : List Int) : Nat → Int → Option (Unit ⊕ Bool)
  | 0, _ => none
  | k + 1, i_5 => cond (decide (i_5 < (a_1.length : Int))) ((getI a_1 i_5).bind fun v_7 => (getI b_2 i_5).bind fun v_8 => cond (v_7 != v_8) (some (.inr false)) (g_laws_eqInt32S_l0 a_1 b_2 k (IntKind.wrap .i64 (i_5 + 1)))) (some (.inl ()))
def g_laws_eqInt32S (a_1 : List Int) (b_2 : List Int) : Option Bool := cond ((a_1.length : Int) != (b_2.length : Int)) (some false) (((g_laws_eqInt32S_l0 a_1 b_2 bigK 0).bind fun o => match o with | .inl () => some (.inl ()) | .inr v_6 => some (.inr v_6) : Option (Unit ⊕ Bool)).bind fun o => match o with | .inl () => some true | .inr v_4 => some v_4)
def g_laws_eqSlot (a_1 : GSlot) (b_2 : GSlot) : Option Bool := cond (a_1.Kind != b_2.Kind) (some false) (cond (a_1.N != b_2.N) (some false) (some true))
def g_laws_eqSlotS_l0 (a_1 : List GSlot) (b_2 : List GSlot) : Nat → Int → Option (Unit ⊕ Bool)
  | 0, _ => none
  | k + 1, i_5 => cond (decide (i_5 < (a_1.length : Int))) ((getI a_1 i_5).bind fun v_7 => (getI b_2 i_5).bind fun v_8 => (g_laws_eqSlot v_7 v_8).bind fun y_9 => cond (!y_9) (some (.inr false)) (g_laws_eqSlotS_l0 a_1 b_2 k (IntKind.wrap .i64 (i_5 + 1)))) (some (.inl ()))
def g_laws_eqSlotS (a_1 : List GSlot) (b_2 : List GSlot) : Option Bool := cond ((a_1.length : Int) != (b_2.length : Int)) (some false) (((g_laws_eqSlotS_l0 a_1 b_2 bigK 0).bind fun o => match o with | .inl () => some (.inl ()) | .inr v_6 => some (.inr v_6) : Option (Unit ⊕ Bool)).bind fun o => match o with | .inl () => some true | .inr v_4 => some v_4)
def g_laws_eqUint32S_l0 (a_1 : List Int) (b_2 : List Int) : Nat → Int → Option (Unit ⊕ Bool)
  | 0, _ => none
  | k + 1, i_5 => cond (decide (i_5 < (a_1.length : Int))) ((getI a_1 i_5).bind fun v_7 => (getI b_2 i_5).bind fun v_8 => cond (v_7 != v_8) (some (.inr false)) (g_laws_eqUint32S_l0 a_1 b_2 k (IntKind.wrap .i64 (i_5 + 1)))) (some (.inl ()))
def g_laws_eqUint32S (a_1 : List Int) (b_2 : List Int) : Option Bool := cond ((a_1.length : Int) != (b_2.length : Int)) (some false) (((g_laws_eqUint32S_l0 a_1 b_2 bigK 0).bind fun o => match o with | .inl () => some (.inl ()) | .inr v_6 => some (.inr v_6) : Option (Unit ⊕ Bool)).bind fun o => match o with | .inl () => some true | .inr v_4 => some v_4)
def g_laws_eqIntS_l0 (a_1 : List Int) (b_2 : List Int) : Nat → Int → Option (Unit ⊕ Bool)
  | 0, _ => none
  | k + 1, i_5 => cond (decide (i_5 < (a_1.length : Int))) ((getI a_1 i_5).bind fun v_7 => (getI b_2 i_5).bind fun v_8 => cond (v_7 != v_8) (some (.inr false)) (g_laws_eqIntS_l0 a_1 b_2 k (IntKind.wrap .i64 (i_5 + 1)))) (some (.inl ()))
def g_laws_eqIntS (a_1 : List Int) (b_2 : List Int) : Option Bool := cond ((a_1.length : Int) != (b_2.length : Int)) (some false) (((g_laws_eqIntS_l0 a_1 b_2 bigK 0).bind fun o => match o with | .inl () => some (.inl ()) | .inr v_6 => some (.inr v_6) : Option (Unit ⊕ Bool)).bind fun o => match o with | .inl () => some true | .inr v_4 => some v_4)
def g_laws_eqByteS_l0 (a_1 : List Int) (b_2 : List Int) : Nat → Int → Option (Unit ⊕ Bool)
  | 0, _ => none
  | k + 1, i_5 => cond (decide (i_5 < (a_1.length : Int))) ((getI a_1 i_5).bind fun v_7 => (getI b_2 i_5).bind fun v_8 => cond (v_7 != v_8) (some (.inr false)) (g_laws_eqByteS_l0 a_1 b_2 k (IntKind.wrap .i64 (i_5 + 1)))) (some (.inl ()))
def g_laws_eqByteS (a_1 : List Int) (b_2 : List Int) : Option Bool := cond ((a_1.length : Int) != (b_2.length : Int)) (some false) (((g_laws_eqByteS_l0 a_1 b_2 bigK 0).bind fun o => match o with | .inl () => some (.inl ()) | .inr v_6 => some (.inr v_6) : Option (Unit ⊕ Bool)).bind fun o => match o with | .inl () => some true | .inr v_4 => some v_4)
def g_laws_eqSt (a_1 : GSt) (b_2 : GSt) : Option Bool := (g_laws_eqInt32S a_1.Data b_2.Data).bind fun y_4 => cond (!y_4) (some false) ((g_laws_eqSlotS a_1.Ret b_2.Ret).bind fun y_5 => cond (!y_5) (some false) (cond (a_1.A != b_2.A) (some false) ((g_laws_eqInt32S a_1.Mem b_2.Mem).bind fun y_6 => cond (!y_6) (some false) ((g_laws_eqUint32S a_1.Cells b_2.Cells).bind fun y_7 => cond (!y_7) (some false) ((g_laws_eqIntS a_1.Vars b_2.Vars).bind fun y_8 => cond (!y_8) (some false) ((g_laws_eqByteS a_1.Out b_2.Out).bind fun y_9 => cond (!y_9) (some false) ((g_laws_eqByteS a_1.In b_2.In).bind fun y_10 => cond (!y_10) (some false) (cond (a_1.Fault != b_2.Fault) (some false) (cond (a_1.Fuel != b_2.Fuel) (some false) (some true))))))))))
def g_laws_FnExactStText (aSt_1 : GSt) : Option Bool := (g_laws_szSt aSt_1 1048576).bind fun y_3 => cond (decide (y_3 < 0)) (some true) ((g_laws_toSt aSt_1).bind fun y_4 => (g_spec_StText y_4).bind fun y_5 => (g_laws_toSt aSt_1).bind fun y_6 => (g_impl_StText y_6).bind fun y_7 => cond (y_7 != y_5) (some false) ((g_laws_toSt aSt_1).bind fun y_8 => (g_laws_eqSt y_6 y_8).bind fun y_9 => cond (!y_9) (some false) (some true)))
def bodyOf (f : Func) : Code := match f.body with | some c => c | none => .skip
end Go.Proofs.YtceiajigccclnaaDoor
namespace Go.Proofs.YtceiajigccclnaaDoor
open Go Go.Fm
set_option maxRecDepth 1000000
def itoaLays_ren : Go.Shelf.Ren := ⟨fun | 171 => 63 | 243 => 88 | 246 => 104 | 283 => 117 | 284 => 118 | 285 => 119 | 286 => 120 | 129 => 134 | 317 => 133 | 318 => 135 | 319 => 136 | 320 => 137 | 337 => 145 | 338 => 146 | n => n, fun | 3 => 3 | 9 => 9 | 2 => 2 | 4 => 4 | 171 => 148 | 0 => 0 | 53 => 134 | 37 => 26 | 5 => 5 | 173 => 151 | 212 => 160 | 51 => 71 | 20 => 20 | 213 => 161 | 46 => 132 | 232 => 174 | 233 => 175 | n => n, fun | 17 => 1 | 18 => 4 | 19 => 5 | n => n⟩
theorem itoaLays : Go.Proofs.LaysM.n171 Tryd.prog itoaLays_ren where
  mixed := by kernel_rfl
  f129 := Tryd.func134.trans (congrArg some (by kernel_rfl))
  f171 := Tryd.func63.trans (congrArg some (by kernel_rfl))
  f243 := Tryd.func88.trans (congrArg some (by kernel_rfl))
  f246 := Tryd.func104.trans (congrArg some (by kernel_rfl))
  f283 := Tryd.func117.trans (congrArg some (by kernel_rfl))
  f284 := Tryd.func118.trans (congrArg some (by kernel_rfl))
  f285 := Tryd.func119.trans (congrArg some (by kernel_rfl))
  f286 := Tryd.func120.trans (congrArg some (by kernel_rfl))
  f317 := Tryd.func133.trans (congrArg some (by kernel_rfl))
  f318 := Tryd.func135.trans (congrArg some (by kernel_rfl))
  f319 := Tryd.func136.trans (congrArg some (by kernel_rfl))
  f320 := Tryd.func137.trans (congrArg some (by kernel_rfl))
  f337 := Tryd.func145.trans (congrArg some (by kernel_rfl))
  f338 := Tryd.func146.trans (congrArg some (by kernel_rfl))
  t0 := Tryd.underlying0
  a0 := Tryd.isAgg0
  z0 := Tryd.sizeOf0
  v0 := Tryd.zeroValue0
  t2 := Tryd.underlying2
  a2 := Tryd.isAgg2
  z2 := Tryd.sizeOf2
  v2 := Tryd.zeroValue2
  t3 := Tryd.underlying3
  a3 := Tryd.isAgg3
  z3 := Tryd.sizeOf3
  v3 := Tryd.zeroValue3
  t4 := Tryd.underlying4
  a4 := Tryd.isAgg4
  z4 := Tryd.sizeOf4
  v4 := Tryd.zeroValue4
  t5 := Tryd.underlying5
  a5 := Tryd.isAgg5
  z5 := Tryd.sizeOf5
  v5 := Tryd.zeroValue5
  t9 := Tryd.underlying9
  a9 := Tryd.isAgg9
  z9 := Tryd.sizeOf9
  v9 := Tryd.zeroValue9
  t20 := Tryd.underlying20
  a20 := Tryd.isAgg20
  z20 := Tryd.sizeOf20
  v20 := Tryd.zeroValue20
  t37 := Tryd.underlying26
  a37 := Tryd.isAgg26
  z37 := Tryd.sizeOf26
  v37 := Tryd.zeroValue26
  t46 := Tryd.underlying132
  a46 := Tryd.isAgg132
  z46 := Tryd.sizeOf132
  v46 := Tryd.zeroValue132
  t51 := Tryd.underlying71
  a51 := Tryd.isAgg71
  z51 := Tryd.sizeOf71
  v51 := Tryd.zeroValue71
  t53 := Tryd.underlying134
  a53 := Tryd.isAgg134
  z53 := Tryd.sizeOf134
  v53 := Tryd.zeroValue134
  t171 := Tryd.underlying148
  a171 := Tryd.isAgg148
  z171 := Tryd.sizeOf148
  v171 := Tryd.zeroValue148
  t173 := Tryd.underlying151
  a173 := Tryd.isAgg151
  z173 := Tryd.sizeOf151
  v173 := Tryd.zeroValue151
  t212 := Tryd.underlying160
  a212 := Tryd.isAgg160
  z212 := Tryd.sizeOf160
  v212 := Tryd.zeroValue160
  t213 := Tryd.underlying161
  a213 := Tryd.isAgg161
  z213 := Tryd.sizeOf161
  t232 := Tryd.underlying174
  a232 := Tryd.isAgg174
  z232 := Tryd.sizeOf174
  v232 := Tryd.zeroValue174
  t233 := Tryd.underlying175
  a233 := Tryd.isAgg175
  z233 := Tryd.sizeOf175
  v233 := Tryd.zeroValue175
  g17 := by kernel_rfl
  g18 := by kernel_rfl
  g19 := by kernel_rfl
  i0 := by kernel_rfl
  i2 := by kernel_rfl
  i3 := by kernel_rfl
  i4 := by kernel_rfl
  i5 := by kernel_rfl
  i9 := by kernel_rfl
  i20 := by kernel_rfl
  i37 := by kernel_rfl
  i46 := by kernel_rfl
  i51 := by kernel_rfl
  i53 := by kernel_rfl
  i171 := by kernel_rfl
  i173 := by kernel_rfl
  i212 := by kernel_rfl
  i232 := by kernel_rfl
  i233 := by kernel_rfl
  m17 := by kernel_rfl
  m18 := by kernel_rfl
  m19 := by kernel_rfl
def joinLays_ren : Go.Shelf.Ren := ⟨fun | 156 => 47 | 165 => 74 | 166 => 75 | 169 => 76 | 240 => 96 | 241 => 97 | 276 => 109 | 277 => 110 | n => n, fun | 31 => 82 | 9 => 9 | 3 => 3 | 4 => 4 | 0 => 0 | 20 => 20 | 72 => 111 | 76 => 115 | 70 => 109 | 37 => 26 | 75 => 114 | 127 => 135 | 164 => 143 | 5 => 5 | 80 => 117 | n => n, fun | n => n⟩
theorem joinLays : Go.Proofs.Lays.n156 Tryd.prog joinLays_ren where
  mixed := by kernel_rfl
  f156 := Tryd.func47.trans (congrArg some (by kernel_rfl))
  f165 := Tryd.func74.trans (congrArg some (by kernel_rfl))
  f166 := Tryd.func75.trans (congrArg some (by kernel_rfl))
  f169 := Tryd.func76.trans (congrArg some (by kernel_rfl))
  f240 := Tryd.func96.trans (congrArg some (by kernel_rfl))
  f241 := Tryd.func97.trans (congrArg some (by kernel_rfl))
  f276 := Tryd.func109.trans (congrArg some (by kernel_rfl))
  f277 := Tryd.func110.trans (congrArg some (by kernel_rfl))
  t0 := Tryd.underlying0
  a0 := Tryd.isAgg0
  z0 := Tryd.sizeOf0
  v0 := Tryd.zeroValue0
  t3 := Tryd.underlying3
  a3 := Tryd.isAgg3
  z3 := Tryd.sizeOf3
  v3 := Tryd.zeroValue3
  t4 := Tryd.underlying4
  a4 := Tryd.isAgg4
  z4 := Tryd.sizeOf4
  v4 := Tryd.zeroValue4
  t9 := Tryd.underlying9
  a9 := Tryd.isAgg9
  z9 := Tryd.sizeOf9
  v9 := Tryd.zeroValue9
  t20 := Tryd.underlying20
  a20 := Tryd.isAgg20
  z20 := Tryd.sizeOf20
  v20 := Tryd.zeroValue20
  t31 := Tryd.underlying82
  a31 := Tryd.isAgg82
  z31 := Tryd.sizeOf82
  v31 := Tryd.zeroValue82
  t37 := Tryd.underlying26
  a37 := Tryd.isAgg26
  z37 := Tryd.sizeOf26
  v37 := Tryd.zeroValue26
  t70 := Tryd.underlying109
  a70 := Tryd.isAgg109
  z70 := Tryd.sizeOf109
  v70 := Tryd.zeroValue109
  t72 := Tryd.underlying111
  a72 := Tryd.isAgg111
  z72 := Tryd.sizeOf111
  v72 := Tryd.zeroValue111
  t75 := Tryd.underlying114
  a75 := Tryd.isAgg114
  z75 := Tryd.sizeOf114
  v75 := Tryd.zeroValue114
  t76 := Tryd.underlying115
  a76 := Tryd.isAgg115
  z76 := Tryd.sizeOf115
  v76 := Tryd.zeroValue115
  t127 := Tryd.underlying135
  a127 := Tryd.isAgg135
  z127 := Tryd.sizeOf135
  v127 := Tryd.zeroValue135
  t164 := Tryd.underlying143
  a164 := Tryd.isAgg143
  z164 := Tryd.sizeOf143
  v164 := Tryd.zeroValue143
def joinX_ren : Go.Shelf.Ren := ⟨fun | 156 => 47 | 165 => 74 | 166 => 75 | 169 => 76 | 240 => 96 | 241 => 97 | 276 => 109 | 277 => 110 | n => n, fun | 31 => 82 | 9 => 9 | 3 => 3 | 4 => 4 | 0 => 0 | 20 => 20 | 72 => 111 | 76 => 115 | 70 => 109 | 37 => 26 | 75 => 114 | 127 => 135 | 164 => 143 | 5 => 5 | 80 => 117 | n => n, fun | n => n⟩
theorem joinX : Go.Proofs.Builder.Extra Tryd.prog joinX_ren where
  sizeBuilder := by kernel_rfl
  liesBuilder := by kernel_rfl
  t5 := Tryd.underlying5
  a5 := Tryd.isAgg5
  z5 := Tryd.sizeOf5
  v5 := Tryd.zeroValue5
  infoByte := by kernel_rfl
  cellsByte := by kernel_rfl
  sizeByte := by kernel_rfl
  neB5 := by decide
end Go.Proofs.YtceiajigccclnaaDoor
namespace Go.Proofs.YtceiajigccclnaaDoor
open Go Go.Fm
set_option maxRecDepth 1000000
noncomputable def e_laws_szInt32S : Con := ⟨21, ⟨[(0, .s K1 []), (1, .s K2 [])], []⟩, ⟨[(0, .s K2 [])], []⟩, false, [], fun (a_1, left_2) => g_laws_szInt32S a_1 left_2⟩
noncomputable def e_laws_szSlotS : Con := ⟨22, ⟨[(0, .s K4 []), (1, .s K2 [])], []⟩, ⟨[(0, .s K2 [])], []⟩, false, [], fun (a_1, left_2) => g_laws_szSlotS a_1 left_2⟩
noncomputable def e_laws_szUint32S : Con := ⟨23, ⟨[(0, .s K6 []), (1, .s K2 [])], []⟩, ⟨[(0, .s K2 [])], []⟩, false, [], fun (a_1, left_2) => g_laws_szUint32S a_1 left_2⟩
noncomputable def e_laws_szIntS : Con := ⟨24, ⟨[(0, .s K7 []), (1, .s K2 [])], []⟩, ⟨[(0, .s K2 [])], []⟩, false, [], fun (a_1, left_2) => g_laws_szIntS a_1 left_2⟩
noncomputable def e_laws_szByteS : Con := ⟨25, ⟨[(0, .s K9 []), (1, .s K2 [])], []⟩, ⟨[(0, .s K2 [])], []⟩, false, [], fun (a_1, left_2) => g_laws_szByteS a_1 left_2⟩
noncomputable def e_laws_szSt : Con := ⟨6, ⟨[(0, .s K10 []), (1, .s K2 [])], []⟩, ⟨[(0, .s K2 [])], []⟩, false, [], fun (a_1, left_2) => g_laws_szSt a_1 left_2⟩
noncomputable def e_laws_toInt32S : Con := ⟨28, ⟨[(0, .s K1 [])], []⟩, ⟨[(0, .s K1 [(0, 0)])], [.o]⟩, false, [], fun a_1 => g_laws_toInt32S a_1⟩
noncomputable def e_laws_toSlot : Con := ⟨59, ⟨[(0, .s K3 [])], []⟩, ⟨[(0, .s K3 [])], []⟩, false, [], fun a_1 => g_laws_toSlot a_1⟩
noncomputable def e_laws_toSlotS : Con := ⟨29, ⟨[(0, .s K4 [])], []⟩, ⟨[(0, .s K4 [(0, 0)])], [.o]⟩, false, [], fun a_1 => g_laws_toSlotS a_1⟩
noncomputable def e_laws_toUint32S : Con := ⟨30, ⟨[(0, .s K6 [])], []⟩, ⟨[(0, .s K6 [(0, 0)])], [.o]⟩, false, [], fun a_1 => g_laws_toUint32S a_1⟩
noncomputable def e_laws_toIntS : Con := ⟨31, ⟨[(0, .s K7 [])], []⟩, ⟨[(0, .s K7 [(0, 0)])], [.o]⟩, false, [], fun a_1 => g_laws_toIntS a_1⟩
noncomputable def e_laws_toByteS : Con := ⟨32, ⟨[(0, .s K9 [])], []⟩, ⟨[(0, .s K9 [(0, 0)])], [.o]⟩, false, [], fun a_1 => g_laws_toByteS a_1⟩
noncomputable def e_laws_toSt : Con := ⟨8, ⟨[(0, .s K10 [])], []⟩, ⟨[(0, .s K10 [(0, 0), (1, 1), (3, 2), (4, 3), (5, 4), (6, 5), (7, 6)])], [.o, .o, .o, .o, .o, .o, .o]⟩, false, [], fun a_1 => g_laws_toSt a_1⟩
noncomputable def e_spec_l01In : Con := ⟨57, ⟨[(0, .s K2 []), (1, .s K2 []), (2, .s K2 [])], []⟩, ⟨[(0, .s K11 [])], []⟩, false, [], fun (x_1, a_2, b_3) => g_spec_l01In x_1 a_2 b_3⟩
noncomputable def e_spec_StoreOk : Con := ⟨58, ⟨[(0, .s K12 [])], []⟩, ⟨[(0, .s K11 [])], []⟩, false, [], fun s_1 => g_spec_StoreOk s_1⟩
noncomputable def e_spec_StOk : Con := ⟨26, ⟨[(0, .s K10 [])], []⟩, ⟨[(0, .s K11 [])], []⟩, false, [], fun st_1 => g_spec_StOk st_1⟩
noncomputable def e_spec_DecText : Con := ⟨27, ⟨[(0, .s K2 [])], []⟩, ⟨[(0, .s K13 [])], []⟩, false, [], fun n_1 => g_spec_DecText n_1⟩
noncomputable def e_spec_StText : Con := ⟨7, ⟨[(0, .s K10 [])], []⟩, ⟨[(0, .s K13 [])], []⟩, false, [], fun st_1 => g_spec_StText st_1⟩
noncomputable def e_impl_StoreOk : Con := ⟨60, ⟨[(0, .s K12 [])], []⟩, ⟨[(0, .s K11 [])], []⟩, false, [], fun s_1 => g_impl_StoreOk s_1⟩
noncomputable def e_impl_within : Con := ⟨61, ⟨[(0, .s K2 []), (1, .s K2 []), (2, .s K2 [])], []⟩, ⟨[(0, .s K11 [])], []⟩, false, [], fun (n_1, low_2, high_3) => g_impl_within n_1 low_2 high_3⟩
noncomputable def e_slices_Index_int : Con := ⟨87, ⟨[(0, .s K7 []), (1, .s K2 [])], []⟩, ⟨[(0, .s K2 [])], []⟩, false, [], fun (s_1, v_2) => g_slices_Index_int s_1 v_2⟩
noncomputable def e_slices_Contains_int : Con := ⟨62, ⟨[(0, .s K7 []), (1, .s K2 [])], []⟩, ⟨[(0, .s K11 [])], []⟩, false, [], fun (s_1, v_2) => g_slices_Contains_int s_1 v_2⟩
noncomputable def e_impl_StOk : Con := ⟨33, ⟨[(0, .s K10 [])], []⟩, ⟨[(0, .s K11 [])], []⟩, false, [], fun st_1 => g_impl_StOk st_1⟩
noncomputable def e_strconv_Itoa : Con := ⟨63, ⟨[(0, .s K2 [])], []⟩, ⟨[(0, .s K13 [])], []⟩, false, [], fun i_1 => g_strconv_Itoa i_1⟩
noncomputable def e_impl_DecText : Con := ⟨35, ⟨[(0, .s K2 [])], []⟩, ⟨[(0, .s K13 [])], []⟩, false, [], fun n_1 => g_impl_DecText n_1⟩
noncomputable def e_strings_Join : Con := ⟨47, ⟨[(0, .s K14 []), (1, .s K13 [])], []⟩, ⟨[(0, .s K13 [])], []⟩, false, [], fun a => g_strings_Join a.1 a.2⟩
noncomputable def e_impl_decTexts : Con := ⟨34, ⟨[(0, .s K7 [])], []⟩, ⟨[(0, .s K13 [])], []⟩, false, [], fun list_1 => g_impl_decTexts list_1⟩
noncomputable def e_impl_StText : Con := ⟨9, ⟨[(0, .s K10 [])], []⟩, ⟨[(0, .s K13 [])], []⟩, false, [], fun st_1 => g_impl_StText st_1⟩
noncomputable def e_laws_eqInt32S : Con := ⟨36, ⟨[(0, .s K1 []), (1, .s K1 [])], []⟩, ⟨[(0, .s K11 [])], []⟩, false, [], fun (a_1, b_2) => g_laws_eqInt32S a_1 b_2⟩
noncomputable def e_laws_eqSlot : Con := ⟨64, ⟨[(0, .s K3 []), (1, .s K3 [])], []⟩, ⟨[(0, .s K11 [])], []⟩, false, [], fun (a_1, b_2) => g_laws_eqSlot a_1 b_2⟩
noncomputable def e_laws_eqSlotS : Con := ⟨37, ⟨[(0, .s K4 []), (1, .s K4 [])], []⟩, ⟨[(0, .s K11 [])], []⟩, false, [], fun (a_1, b_2) => g_laws_eqSlotS a_1 b_2⟩
noncomputable def e_laws_eqUint32S : Con := ⟨38, ⟨[(0, .s K6 []), (1, .s K6 [])], []⟩, ⟨[(0, .s K11 [])], []⟩, false, [], fun (a_1, b_2) => g_laws_eqUint32S a_1 b_2⟩
noncomputable def e_laws_eqIntS : Con := ⟨39, ⟨[(0, .s K7 []), (1, .s K7 [])], []⟩, ⟨[(0, .s K11 [])], []⟩, false, [], fun (a_1, b_2) => g_laws_eqIntS a_1 b_2⟩
noncomputable def e_laws_eqByteS : Con := ⟨40, ⟨[(0, .s K9 []), (1, .s K9 [])], []⟩, ⟨[(0, .s K11 [])], []⟩, false, [], fun (a_1, b_2) => g_laws_eqByteS a_1 b_2⟩
noncomputable def e_laws_eqSt : Con := ⟨10, ⟨[(0, .s K10 []), (1, .s K10 [])], []⟩, ⟨[(0, .s K11 [])], []⟩, false, [], fun (a_1, b_2) => g_laws_eqSt a_1 b_2⟩
noncomputable def e_laws_FnExactStText : Con := ⟨3, ⟨[(0, .s K10 [])], []⟩, ⟨[(0, .s K11 [])], []⟩, false, [], fun aSt_1 => g_laws_FnExactStText aSt_1⟩
abbrev CO (c : Con) : Prop := ConOk Tryd.prog c
abbrev CK (Γ : List Con) (n : Nat) (an : An) (f : Func) (e : Con) : Prop := AnOk TrydT Γ n an (bodyOf f) ∧ ∀ a, fnRun TrydT Γ an (bodyOf f) f.results.toList e.ro e.ps e.rs a = e.g a
theorem fnc {Γ : List Con} {n : Nat} {an : An} {fn : Func} {C : Con} (h : Tryd.prog.follows .mixedOrders = true → ∀ c ∈ Γ, CO c) (hf : Tryd.prog.funcs[C.f]? = some fn) (hk : CK Γ n an fn C) (h1 : (!(fn.name == "runtime.NumGoroutine") && okC fn.ntmps (bodyOf fn)) = true)
    (h2 : ∀ a, entB C n fn.ntmps a = true) (h3 : ∀ r, endB C fn.results.toList.length r = true) (hb : fn.body = some (bodyOf fn)) : CO C := by
  rw [Bool.and_eq_true, Bool.not_eq_true'] at h1
  exact fn_ok (P := fun _ => Tryd.prog) (n := n) TrydT_eq h hf hb h1.1 rfl rfl h1.2 rfl h2 h3 hk.1 fun a r e => (hk.2 a).trans e
end Go.Proofs.YtceiajigccclnaaDoor
namespace Go.Proofs.YtceiajigccclnaaDoor
open Go Go.Fm
set_option maxRecDepth 1000000
noncomputable def ane_laws_szInt32S : An := .z
theorem ke_laws_szInt32S : CK [] 0 ane_laws_szInt32S Tryd.f21 e_laws_szInt32S := ⟨trivial, fun _ => by kernel_rfl⟩
noncomputable def ane_laws_szSlotS : An := .z
theorem ke_laws_szSlotS : CK [] 0 ane_laws_szSlotS Tryd.f22 e_laws_szSlotS := ⟨trivial, fun _ => by kernel_rfl⟩
noncomputable def ane_laws_szUint32S : An := .z
theorem ke_laws_szUint32S : CK [] 0 ane_laws_szUint32S Tryd.f23 e_laws_szUint32S := ⟨trivial, fun _ => by kernel_rfl⟩
noncomputable def ane_laws_szIntS : An := .z
theorem ke_laws_szIntS : CK [] 0 ane_laws_szIntS Tryd.f24 e_laws_szIntS := ⟨trivial, fun _ => by kernel_rfl⟩
noncomputable def ane_laws_szByteS : An := .z
theorem ke_laws_szByteS : CK [] 0 ane_laws_szByteS Tryd.f25 e_laws_szByteS := ⟨trivial, fun _ => by kernel_rfl⟩
noncomputable def ane_laws_szSt : An := .z
theorem ke_laws_szSt : CK [e_laws_szInt32S, e_laws_szSlotS, e_laws_szUint32S, e_laws_szIntS, e_laws_szByteS] 0 ane_laws_szSt Tryd.f6 e_laws_szSt := ⟨trivial, fun _ => by kernel_rfl⟩
noncomputable def ane_laws_toInt32S : An := .q .z (.q .z (.m [(.normal, ⟨[(3, .s K1 [(0, 0)])], [.o]⟩)] [0, 2] [] (.q .z (.b (.l ⟨[(0, .s K1 []), (2, .c (.one (.emp)))], [.n]⟩ ⟨[(3, .s K1 [(0, 0)]), (4, .s K2 [])], [.o]⟩ [(.exit 0, ⟨[(3, .s K1 [(0, 0)])], [.o]⟩)] (fun a_1 k (out_5, i_6) => g_laws_toInt32S_l0 a_1 k out_5 i_6) .z))) .z))
theorem ke_laws_toInt32S : CK [] 0 ane_laws_toInt32S Tryd.f28 e_laws_toInt32S := ⟨⟨trivial, ⟨trivial, ⟨⟨trivial, ⟨fun _ _ => rfl, fun _ _ _ _ => by kernel_rfl, trivial⟩⟩, trivial⟩⟩⟩, fun _ => by kernel_rfl⟩
noncomputable def ane_laws_toSlot : An := .z
theorem ke_laws_toSlot : CK [] 0 ane_laws_toSlot Tryd.f59 e_laws_toSlot := ⟨trivial, fun _ => by kernel_rfl⟩
end Go.Proofs.YtceiajigccclnaaDoor
namespace Go.Proofs.YtceiajigccclnaaDoor
open Go Go.Fm
set_option maxRecDepth 1000000
noncomputable def ane_laws_toSlotS : An := .q .z (.q .z (.m [(.normal, ⟨[(3, .s K4 [(0, 0)])], [.o]⟩)] [0, 2] [] (.q .z (.b (.l ⟨[(0, .s K4 []), (2, .c (.one (.emp)))], [.n]⟩ ⟨[(3, .s K4 [(0, 0)]), (4, .s K2 [])], [.o]⟩ [(.exit 0, ⟨[(3, .s K4 [(0, 0)])], [.o]⟩)] (fun a_1 k (out_5, i_6) => g_laws_toSlotS_l0 a_1 k out_5 i_6) .z))) .z))
theorem ke_laws_toSlotS : CK [e_laws_toSlot] 0 ane_laws_toSlotS Tryd.f29 e_laws_toSlotS := ⟨⟨trivial, ⟨trivial, ⟨⟨trivial, ⟨fun _ _ => rfl, fun _ _ _ _ => by kernel_rfl, trivial⟩⟩, trivial⟩⟩⟩, fun _ => by kernel_rfl⟩
noncomputable def ane_laws_toUint32S : An := .q .z (.q .z (.m [(.normal, ⟨[(3, .s K6 [(0, 0)])], [.o]⟩)] [0, 2] [] (.q .z (.b (.l ⟨[(0, .s K6 []), (2, .c (.one (.emp)))], [.n]⟩ ⟨[(3, .s K6 [(0, 0)]), (4, .s K2 [])], [.o]⟩ [(.exit 0, ⟨[(3, .s K6 [(0, 0)])], [.o]⟩)] (fun a_1 k (out_5, i_6) => g_laws_toUint32S_l0 a_1 k out_5 i_6) .z))) .z))
theorem ke_laws_toUint32S : CK [] 0 ane_laws_toUint32S Tryd.f30 e_laws_toUint32S := ⟨⟨trivial, ⟨trivial, ⟨⟨trivial, ⟨fun _ _ => rfl, fun _ _ _ _ => by kernel_rfl, trivial⟩⟩, trivial⟩⟩⟩, fun _ => by kernel_rfl⟩
noncomputable def ane_laws_toIntS : An := .q .z (.q .z (.m [(.normal, ⟨[(3, .s K7 [(0, 0)])], [.o]⟩)] [0, 2] [] (.q .z (.b (.l ⟨[(0, .s K7 []), (2, .c (.one (.emp)))], [.n]⟩ ⟨[(3, .s K7 [(0, 0)]), (4, .s K2 [])], [.o]⟩ [(.exit 0, ⟨[(3, .s K7 [(0, 0)])], [.o]⟩)] (fun a_1 k (out_5, i_6) => g_laws_toIntS_l0 a_1 k out_5 i_6) .z))) .z))
theorem ke_laws_toIntS : CK [] 0 ane_laws_toIntS Tryd.f31 e_laws_toIntS := ⟨⟨trivial, ⟨trivial, ⟨⟨trivial, ⟨fun _ _ => rfl, fun _ _ _ _ => by kernel_rfl, trivial⟩⟩, trivial⟩⟩⟩, fun _ => by kernel_rfl⟩
noncomputable def ane_laws_toByteS : An := .q .z (.q .z (.m [(.normal, ⟨[(3, .s K9 [(0, 0)])], [.o]⟩)] [0, 2] [] (.q .z (.b (.l ⟨[(0, .s K9 []), (2, .c (.one (.emp)))], [.n]⟩ ⟨[(3, .s K9 [(0, 0)]), (4, .s K2 [])], [.o]⟩ [(.exit 0, ⟨[(3, .s K9 [(0, 0)])], [.o]⟩)] (fun a_1 k (out_5, i_6) => g_laws_toByteS_l0 a_1 k out_5 i_6) .z))) .z))
theorem ke_laws_toByteS : CK [] 0 ane_laws_toByteS Tryd.f32 e_laws_toByteS := ⟨⟨trivial, ⟨trivial, ⟨⟨trivial, ⟨fun _ _ => rfl, fun _ _ _ _ => by kernel_rfl, trivial⟩⟩, trivial⟩⟩⟩, fun _ => by kernel_rfl⟩
noncomputable def ane_laws_toSt : An := .z
theorem ke_laws_toSt : CK [e_laws_toInt32S, e_laws_toSlotS, e_laws_toUint32S, e_laws_toIntS, e_laws_toByteS] 0 ane_laws_toSt Tryd.f8 e_laws_toSt := ⟨trivial, fun _ => by kernel_rfl⟩
noncomputable def ane_spec_l01In : An := .z
theorem ke_spec_l01In : CK [] 0 ane_spec_l01In Tryd.f57 e_spec_l01In := ⟨trivial, fun _ => by kernel_rfl⟩
noncomputable def ane_spec_StoreOk : An := .z
theorem ke_spec_StoreOk : CK [] 0 ane_spec_StoreOk Tryd.f58 e_spec_StoreOk := ⟨trivial, fun _ => by kernel_rfl⟩
noncomputable def ane_spec_StOk : An := .q .z (.q (.m [(.normal, ⟨[(39, .s K11 [])], [.f]⟩)] [1, 2] [0] .z .z) (.m [(.normal, ⟨[], [.f]⟩), (.ret, ⟨[(2, .s K11 [])], [.f]⟩)] [1] [0] (.q .z (.b (.l ⟨[(1, .c (.one (.ptr 0 0)))], [.v K10 []]⟩ ⟨[(3, .s K2 [])], [.f]⟩ [(.exit 0, ⟨[], [.f]⟩), (.ret, ⟨[(2, .s K11 [])], [.f]⟩)] (fun st_1 k i_5 => g_spec_StOk_l0 st_1 k i_5) .z))) (.m [(.normal, ⟨[], [.f]⟩), (.ret, ⟨[(2, .s K11 [])], [.f]⟩)] [1] [0] (.q .z (.b (.l ⟨[(1, .c (.one (.ptr 0 0)))], [.v K10 []]⟩ ⟨[(4, .s K2 [])], [.f]⟩ [(.exit 2, ⟨[], [.f]⟩), (.ret, ⟨[(2, .s K11 [])], [.f]⟩)] (fun st_1 k i_10 => g_spec_StOk_l1 st_1 k i_10) (.q .z (.m [(.normal, ⟨[], [.f]⟩), (.ret, ⟨[(2, .s K11 [])], [.f]⟩)] [4] [] (.b (.q .z (.q .z (.b (.l ⟨[(1, .c (.one (.ptr 0 0))), (4, .s K2 [])], [.v K10 []]⟩ ⟨[(5, .s K2 [])], [.f]⟩ [(.exit 4, ⟨[], [.f]⟩), (.ret, ⟨[(2, .s K11 [])], [.f]⟩)] (fun (i_10, st_1) k k_15 => g_spec_StOk_l2 i_10 st_1 k k_15) .z))))) .z))))) .z)))
theorem ke_spec_StOk : CK [e_spec_l01In, e_spec_StoreOk] 0 ane_spec_StOk Tryd.f26 e_spec_StOk := ⟨⟨trivial, ⟨⟨trivial, trivial⟩, ⟨⟨trivial, ⟨fun _ _ => rfl, fun _ _ _ _ => by kernel_rfl, trivial⟩⟩, ⟨⟨trivial, ⟨fun _ _ => rfl, fun _ _ _ _ => by kernel_rfl, ⟨trivial, ⟨⟨trivial, ⟨trivial, ⟨fun _ _ => rfl, fun _ _ _ _ => by kernel_rfl, trivial⟩⟩⟩, trivial⟩⟩⟩⟩, trivial⟩⟩⟩⟩, fun _ => by kernel_rfl⟩
end Go.Proofs.YtceiajigccclnaaDoor
namespace Go.Proofs.YtceiajigccclnaaDoor
open Go Go.Fm
set_option maxRecDepth 1000000
noncomputable def ane_spec_DecText : An := .q .z (.q .z (.q .z (.q .z (.q (.b (.l ⟨[(0, .s K2 []), (2, .s K13 [])], []⟩ ⟨[(3, .s K13 []), (4, .s K2 [])], []⟩ [(.exit 0, ⟨[(3, .s K13 [])], []⟩)] (fun _ k (out_4, m_5) => g_spec_DecText_l0 k out_4 m_5) (.q .z (.b (.q .z (.m [(.normal, ⟨[(5, .s K2 [])], []⟩)] [3, 4] [] .z .z)))))) .z))))
theorem ke_spec_DecText : CK [] 0 ane_spec_DecText Tryd.f27 e_spec_DecText := ⟨⟨trivial, ⟨trivial, ⟨trivial, ⟨trivial, ⟨⟨fun _ _ => rfl, fun _ _ _ _ => by kernel_rfl, ⟨trivial, ⟨trivial, ⟨trivial, trivial⟩⟩⟩⟩, trivial⟩⟩⟩⟩⟩, fun _ => by kernel_rfl⟩
noncomputable def ane_spec_StText : An := .q .z (.q .z (.q .z (.m [(.normal, ⟨[(3, .s K13 [])], [.f]⟩)] [1, 2] [0] (.q .z (.b (.l ⟨[(1, .c (.one (.ptr 0 0))), (2, .s K13 [])], [.v K10 []]⟩ ⟨[(3, .s K13 []), (4, .s K2 [])], [.f]⟩ [(.exit 0, ⟨[(3, .s K13 [])], [.f]⟩)] (fun (_, st_1) k (out_6, i_7) => g_spec_StText_l0 st_1 k out_6 i_7) .z))) (.m [(.normal, ⟨[(3, .s K13 [])], [.f]⟩)] [1, 2] [0] .z (.q .z (.m [(.normal, ⟨[(3, .s K13 [])], [.f]⟩)] [1, 2] [0] (.q .z (.b (.l ⟨[(1, .c (.one (.ptr 0 0))), (2, .s K13 [])], [.v K10 []]⟩ ⟨[(3, .s K13 []), (5, .s K2 [])], [.f]⟩ [(.exit 2, ⟨[(3, .s K13 [])], [.f]⟩)] (fun (_, st_1) k (out_17, i_18) => g_spec_StText_l1 st_1 k out_17 i_18) .z))) .z))))))
theorem ke_spec_StText : CK [e_spec_StOk, e_spec_DecText] 0 ane_spec_StText Tryd.f7 e_spec_StText := ⟨⟨trivial, ⟨trivial, ⟨trivial, ⟨⟨trivial, ⟨fun _ _ => rfl, fun _ _ _ _ => by kernel_rfl, trivial⟩⟩, ⟨trivial, ⟨trivial, ⟨⟨trivial, ⟨fun _ _ => rfl, fun _ _ _ _ => by kernel_rfl, trivial⟩⟩, trivial⟩⟩⟩⟩⟩⟩⟩, fun _ => by kernel_rfl⟩
noncomputable def ane_impl_StoreOk : An := .z
theorem ke_impl_StoreOk : CK [] 0 ane_impl_StoreOk Tryd.f60 e_impl_StoreOk := ⟨trivial, fun _ => by kernel_rfl⟩
noncomputable def ane_impl_within : An := .z
theorem ke_impl_within : CK [] 0 ane_impl_within Tryd.f61 e_impl_within := ⟨trivial, fun _ => by kernel_rfl⟩
noncomputable def ane_slices_Index_int : An := .q .z (.m [(.normal, ⟨[], []⟩), (.ret, ⟨[(4, .s K2 [])], []⟩)] [0, 1] [] (.q .z (.b (.l ⟨[(0, .s K7 []), (1, .s K2 []), (7, .s K2 [])], []⟩ ⟨[(8, .s K2 [])], []⟩ [(.exit 0, ⟨[], []⟩), (.ret, ⟨[(4, .s K2 [])], []⟩)] (fun (s_1, v_2, v_5) k v_6 => g_slices_Index_int_l0 s_1 v_2 v_5 k v_6) .z))) .z)
theorem ke_slices_Index_int : CK [] 0 ane_slices_Index_int Tryd.f87 e_slices_Index_int := ⟨⟨trivial, ⟨⟨trivial, ⟨fun _ _ => rfl, fun _ _ _ _ => by kernel_rfl, trivial⟩⟩, trivial⟩⟩, fun _ => by kernel_rfl⟩
noncomputable def ane_slices_Contains_int : An := .z
theorem ke_slices_Contains_int : CK [e_slices_Index_int] 0 ane_slices_Contains_int Tryd.f62 e_slices_Contains_int := ⟨trivial, fun _ => by kernel_rfl⟩
noncomputable def ane_impl_StOk : An := .q .z (.q (.m [(.normal, ⟨[(35, .s K11 [])], [.f]⟩)] [1, 2] [0] .z .z) (.m [(.normal, ⟨[], [.f]⟩), (.ret, ⟨[(2, .s K11 [])], [.f]⟩)] [1] [0] (.q .z (.b (.l ⟨[(1, .c (.one (.ptr 0 0))), (37, .s K4 []), (38, .s K2 [])], [.v K10 []]⟩ ⟨[(39, .s K2 [])], [.f]⟩ [(.exit 0, ⟨[], [.f]⟩), (.ret, ⟨[(2, .s K11 [])], [.f]⟩)] (fun (v_6, v_7, _) k v_8 => g_impl_StOk_l0 v_6 v_7 k v_8) .z))) (.m [(.normal, ⟨[], [.f]⟩), (.ret, ⟨[(2, .s K11 [])], [.f]⟩)] [1] [0] (.q .z (.b (.l ⟨[(1, .c (.one (.ptr 0 0))), (49, .s K7 []), (50, .s K2 [])], [.v K10 []]⟩ ⟨[(51, .s K2 [])], [.f]⟩ [(.exit 2, ⟨[], [.f]⟩), (.ret, ⟨[(2, .s K11 [])], [.f]⟩)] (fun (v_13, v_14, st_1) k v_15 => g_impl_StOk_l1 v_13 v_14 st_1 k v_15) (.q .z (.q .z (.q (.b (.q .z (.m [(.normal, ⟨[(70, .s K11 [])], [.f]⟩)] [5, 6, 51] [] .z .z))) .z)))))) .z)))
theorem ke_impl_StOk : CK [e_impl_StoreOk, e_impl_within, e_slices_Contains_int] 0 ane_impl_StOk Tryd.f33 e_impl_StOk := ⟨⟨trivial, ⟨⟨trivial, trivial⟩, ⟨⟨trivial, ⟨fun _ _ => rfl, fun _ _ _ _ => by kernel_rfl, trivial⟩⟩, ⟨⟨trivial, ⟨fun _ _ => rfl, fun _ _ _ _ => by kernel_rfl, ⟨trivial, ⟨trivial, ⟨⟨trivial, ⟨trivial, trivial⟩⟩, trivial⟩⟩⟩⟩⟩, trivial⟩⟩⟩⟩, fun _ => by kernel_rfl⟩
theorem fe_strconv_Itoa : ConOk Tryd.prog e_strconv_Itoa := itoa_ok (g := 1) itoaLays rfl (by kernel_rfl) (by rw [glob_1, show gtPow10 = Go.Lib.pow10Tab from by kernel_rfl])
noncomputable def ane_impl_DecText : An := .z
theorem ke_impl_DecText : CK [e_strconv_Itoa] 0 ane_impl_DecText Tryd.f35 e_impl_DecText := ⟨trivial, fun _ => by kernel_rfl⟩
end Go.Proofs.YtceiajigccclnaaDoor
namespace Go.Proofs.YtceiajigccclnaaDoor
open Go Go.Fm
set_option maxRecDepth 1000000
theorem fe_strings_Join : ConOk Tryd.prog e_strings_Join := joinS_ok joinLays joinX rfl
noncomputable def ane_impl_decTexts : An := .q .z (.q .z (.m [(.normal, ⟨[(3, .s K14 [(0, 1)])], [.d, .o]⟩)] [0, 2] [] (.q .z (.b (.l ⟨[(0, .s K7 []), (2, .s K13 []), (7, .s K7 []), (8, .s K2 [])], [.n, .n]⟩ ⟨[(3, .s K14 [(0, 1)]), (9, .s K2 [])], [.d, .o]⟩ [(.exit 0, ⟨[(3, .s K14 [(0, 1)])], [.d, .o]⟩)] (fun (_, _, v_5, v_6) k (parts_7, v_8) => g_impl_decTexts_l0 v_5 v_6 k parts_7 v_8) .z))) .z))
theorem ke_impl_decTexts : CK [e_impl_DecText, e_strings_Join] 0 ane_impl_decTexts Tryd.f34 e_impl_decTexts := ⟨⟨trivial, ⟨trivial, ⟨⟨trivial, ⟨fun _ _ => rfl, fun _ _ _ _ => by kernel_rfl, trivial⟩⟩, trivial⟩⟩⟩, fun _ => by kernel_rfl⟩
noncomputable def ane_impl_StText : An := .q .z (.q .z (.q .z (.m [(.normal, ⟨[(3, .s K7 [(0, 2)])], [.f, .d, .o]⟩)] [1, 2] [0] (.q .z (.b (.l ⟨[(1, .c (.one (.ptr 0 0))), (2, .s K13 []), (14, .s K1 []), (15, .s K2 [])], [.v K10 [], .n, .n]⟩ ⟨[(3, .s K7 [(0, 2)]), (16, .s K2 [])], [.f, .d, .o]⟩ [(.exit 0, ⟨[(3, .s K7 [(0, 2)])], [.f, .d, .o]⟩)] (fun (_, v_6, v_7, _) k (list_8, v_9) => g_impl_StText_l0 v_6 v_7 k list_8 v_9) .z))) (.q .z (.m [(.normal, ⟨[(6, .s K13 [])], [.f, .d, .d]⟩)] [1, 2] [0] (.q .z (.b (.l ⟨[(1, .c (.one (.ptr 0 0))), (2, .s K13 []), (30, .s K4 []), (31, .s K2 [])], [.v K10 [], .n, .n]⟩ ⟨[(6, .s K13 []), (32, .s K2 [])], [.f, .d, .d]⟩ [(.exit 2, ⟨[(6, .s K13 [])], [.f, .d, .d]⟩)] (fun (_, v_17, v_18, _) k (out_19, v_20) => g_impl_StText_l1 v_17 v_18 k out_19 v_20) .z))) .z)))))
theorem ke_impl_StText : CK [e_impl_StOk, e_impl_decTexts, e_impl_DecText] 0 ane_impl_StText Tryd.f9 e_impl_StText := ⟨⟨trivial, ⟨trivial, ⟨trivial, ⟨⟨trivial, ⟨fun _ _ => rfl, fun _ _ _ _ => by kernel_rfl, trivial⟩⟩, ⟨trivial, ⟨⟨trivial, ⟨fun _ _ => rfl, fun _ _ _ _ => by kernel_rfl, trivial⟩⟩, trivial⟩⟩⟩⟩⟩⟩, fun _ => by kernel_rfl⟩
noncomputable def ane_laws_eqInt32S : An := .q .z (.q .z (.m [(.normal, ⟨[], []⟩), (.ret, ⟨[(4, .s K11 [])], []⟩)] [0, 1] [] (.q .z (.b (.l ⟨[(0, .s K1 []), (1, .s K1 [])], []⟩ ⟨[(5, .s K2 [])], []⟩ [(.exit 0, ⟨[], []⟩), (.ret, ⟨[(4, .s K11 [])], []⟩)] (fun (a_1, b_2) k i_5 => g_laws_eqInt32S_l0 a_1 b_2 k i_5) .z))) .z))
theorem ke_laws_eqInt32S : CK [] 0 ane_laws_eqInt32S Tryd.f36 e_laws_eqInt32S := ⟨⟨trivial, ⟨trivial, ⟨⟨trivial, ⟨fun _ _ => rfl, fun _ _ _ _ => by kernel_rfl, trivial⟩⟩, trivial⟩⟩⟩, fun _ => by kernel_rfl⟩
noncomputable def ane_laws_eqSlot : An := .z
theorem ke_laws_eqSlot : CK [] 0 ane_laws_eqSlot Tryd.f64 e_laws_eqSlot := ⟨trivial, fun _ => by kernel_rfl⟩
noncomputable def ane_laws_eqSlotS : An := .q .z (.q .z (.m [(.normal, ⟨[], []⟩), (.ret, ⟨[(4, .s K11 [])], []⟩)] [0, 1] [] (.q .z (.b (.l ⟨[(0, .s K4 []), (1, .s K4 [])], []⟩ ⟨[(5, .s K2 [])], []⟩ [(.exit 0, ⟨[], []⟩), (.ret, ⟨[(4, .s K11 [])], []⟩)] (fun (a_1, b_2) k i_5 => g_laws_eqSlotS_l0 a_1 b_2 k i_5) .z))) .z))
theorem ke_laws_eqSlotS : CK [e_laws_eqSlot] 0 ane_laws_eqSlotS Tryd.f37 e_laws_eqSlotS := ⟨⟨trivial, ⟨trivial, ⟨⟨trivial, ⟨fun _ _ => rfl, fun _ _ _ _ => by kernel_rfl, trivial⟩⟩, trivial⟩⟩⟩, fun _ => by kernel_rfl⟩
noncomputable def ane_laws_eqUint32S : An := .q .z (.q .z (.m [(.normal, ⟨[], []⟩), (.ret, ⟨[(4, .s K11 [])], []⟩)] [0, 1] [] (.q .z (.b (.l ⟨[(0, .s K6 []), (1, .s K6 [])], []⟩ ⟨[(5, .s K2 [])], []⟩ [(.exit 0, ⟨[], []⟩), (.ret, ⟨[(4, .s K11 [])], []⟩)] (fun (a_1, b_2) k i_5 => g_laws_eqUint32S_l0 a_1 b_2 k i_5) .z))) .z))
theorem ke_laws_eqUint32S : CK [] 0 ane_laws_eqUint32S Tryd.f38 e_laws_eqUint32S := ⟨⟨trivial, ⟨trivial, ⟨⟨trivial, ⟨fun _ _ => rfl, fun _ _ _ _ => by kernel_rfl, trivial⟩⟩, trivial⟩⟩⟩, fun _ => by kernel_rfl⟩
noncomputable def ane_laws_eqIntS : An := .q .z (.q .z (.m [(.normal, ⟨[], []⟩), (.ret, ⟨[(4, .s K11 [])], []⟩)] [0, 1] [] (.q .z (.b (.l ⟨[(0, .s K7 []), (1, .s K7 [])], []⟩ ⟨[(5, .s K2 [])], []⟩ [(.exit 0, ⟨[], []⟩), (.ret, ⟨[(4, .s K11 [])], []⟩)] (fun (a_1, b_2) k i_5 => g_laws_eqIntS_l0 a_1 b_2 k i_5) .z))) .z))
theorem ke_laws_eqIntS : CK [] 0 ane_laws_eqIntS Tryd.f39 e_laws_eqIntS := ⟨⟨trivial, ⟨trivial, ⟨⟨trivial, ⟨fun _ _ => rfl, fun _ _ _ _ => by kernel_rfl, trivial⟩⟩, trivial⟩⟩⟩, fun _ => by kernel_rfl⟩
end Go.Proofs.YtceiajigccclnaaDoor
namespace Go.Proofs.YtceiajigccclnaaDoor
open Go Go.Fm
set_option maxRecDepth 1000000
noncomputable def ane_laws_eqByteS : An := .q .z (.q .z (.m [(.normal, ⟨[], []⟩), (.ret, ⟨[(4, .s K11 [])], []⟩)] [0, 1] [] (.q .z (.b (.l ⟨[(0, .s K9 []), (1, .s K9 [])], []⟩ ⟨[(5, .s K2 [])], []⟩ [(.exit 0, ⟨[], []⟩), (.ret, ⟨[(4, .s K11 [])], []⟩)] (fun (a_1, b_2) k i_5 => g_laws_eqByteS_l0 a_1 b_2 k i_5) .z))) .z))
theorem ke_laws_eqByteS : CK [] 0 ane_laws_eqByteS Tryd.f40 e_laws_eqByteS := ⟨⟨trivial, ⟨trivial, ⟨⟨trivial, ⟨fun _ _ => rfl, fun _ _ _ _ => by kernel_rfl, trivial⟩⟩, trivial⟩⟩⟩, fun _ => by kernel_rfl⟩
noncomputable def ane_laws_eqSt : An := .z
theorem ke_laws_eqSt : CK [e_laws_eqInt32S, e_laws_eqSlotS, e_laws_eqUint32S, e_laws_eqIntS, e_laws_eqByteS] 0 ane_laws_eqSt Tryd.f10 e_laws_eqSt := ⟨trivial, fun _ => by kernel_rfl⟩
noncomputable def ane_laws_FnExactStText : An := .z
theorem ke_laws_FnExactStText : CK [e_laws_szSt, e_laws_toSt, e_spec_StText, e_impl_StText, e_laws_eqSt] 0 ane_laws_FnExactStText Tryd.f3 e_laws_FnExactStText := ⟨trivial, fun _ => by kernel_rfl⟩
end Go.Proofs.YtceiajigccclnaaDoor
namespace Go.Proofs.YtceiajigccclnaaDoor
open Go Go.Fm
set_option maxRecDepth 1000000
theorem ce_laws_szInt32S : CO e_laws_szInt32S := fnc (fun _ => con_nil) Tryd.func21 ke_laws_szInt32S (by kernel_rfl) (fun _ => by kernel_rfl) (fun _ => by kernel_rfl) rfl
theorem ce_laws_szSlotS : CO e_laws_szSlotS := fnc (fun _ => con_nil) Tryd.func22 ke_laws_szSlotS (by kernel_rfl) (fun _ => by kernel_rfl) (fun _ => by kernel_rfl) rfl
theorem ce_laws_szUint32S : CO e_laws_szUint32S := fnc (fun _ => con_nil) Tryd.func23 ke_laws_szUint32S (by kernel_rfl) (fun _ => by kernel_rfl) (fun _ => by kernel_rfl) rfl
theorem ce_laws_szIntS : CO e_laws_szIntS := fnc (fun _ => con_nil) Tryd.func24 ke_laws_szIntS (by kernel_rfl) (fun _ => by kernel_rfl) (fun _ => by kernel_rfl) rfl
theorem ce_laws_szByteS : CO e_laws_szByteS := fnc (fun _ => con_nil) Tryd.func25 ke_laws_szByteS (by kernel_rfl) (fun _ => by kernel_rfl) (fun _ => by kernel_rfl) rfl
theorem ce_laws_szSt : CO e_laws_szSt := fnc (fun _ => con_cons ce_laws_szInt32S (con_cons ce_laws_szSlotS (con_cons ce_laws_szUint32S (con_cons ce_laws_szIntS (con_cons ce_laws_szByteS con_nil))))) Tryd.func6 ke_laws_szSt (by kernel_rfl) (fun _ => by kernel_rfl) (fun _ => by kernel_rfl) rfl
theorem ce_laws_toInt32S : CO e_laws_toInt32S := fnc (fun _ => con_nil) Tryd.func28 ke_laws_toInt32S (by kernel_rfl) (fun _ => by kernel_rfl) (fun _ => by kernel_rfl) rfl
theorem ce_laws_toSlot : CO e_laws_toSlot := fnc (fun _ => con_nil) Tryd.func59 ke_laws_toSlot (by kernel_rfl) (fun _ => by kernel_rfl) (fun _ => by kernel_rfl) rfl
theorem ce_laws_toSlotS : CO e_laws_toSlotS := fnc (fun _ => con_cons ce_laws_toSlot con_nil) Tryd.func29 ke_laws_toSlotS (by kernel_rfl) (fun _ => by kernel_rfl) (fun _ => by kernel_rfl) rfl
theorem ce_laws_toUint32S : CO e_laws_toUint32S := fnc (fun _ => con_nil) Tryd.func30 ke_laws_toUint32S (by kernel_rfl) (fun _ => by kernel_rfl) (fun _ => by kernel_rfl) rfl
theorem ce_laws_toIntS : CO e_laws_toIntS := fnc (fun _ => con_nil) Tryd.func31 ke_laws_toIntS (by kernel_rfl) (fun _ => by kernel_rfl) (fun _ => by kernel_rfl) rfl
theorem ce_laws_toByteS : CO e_laws_toByteS := fnc (fun _ => con_nil) Tryd.func32 ke_laws_toByteS (by kernel_rfl) (fun _ => by kernel_rfl) (fun _ => by kernel_rfl) rfl
theorem ce_laws_toSt : CO e_laws_toSt := fnc (fun _ => con_cons ce_laws_toInt32S (con_cons ce_laws_toSlotS (con_cons ce_laws_toUint32S (con_cons ce_laws_toIntS (con_cons ce_laws_toByteS con_nil))))) Tryd.func8 ke_laws_toSt (by kernel_rfl) (fun _ => by kernel_rfl) (fun _ => by kernel_rfl) rfl
theorem ce_spec_l01In : CO e_spec_l01In := fnc (fun _ => con_nil) Tryd.func57 ke_spec_l01In (by kernel_rfl) (fun _ => by kernel_rfl) (fun _ => by kernel_rfl) rfl
theorem ce_spec_StoreOk : CO e_spec_StoreOk := fnc (fun _ => con_nil) Tryd.func58 ke_spec_StoreOk (by kernel_rfl) (fun _ => by kernel_rfl) (fun _ => by kernel_rfl) rfl
theorem ce_spec_StOk : CO e_spec_StOk := fnc (fun _ => con_cons ce_spec_l01In (con_cons ce_spec_StoreOk con_nil)) Tryd.func26 ke_spec_StOk (by kernel_rfl) (fun _ => by kernel_rfl) (fun _ => by kernel_rfl) rfl
theorem ce_spec_DecText : CO e_spec_DecText := fnc (fun _ => con_nil) Tryd.func27 ke_spec_DecText (by kernel_rfl) (fun _ => by kernel_rfl) (fun _ => by kernel_rfl) rfl
theorem ce_spec_StText : CO e_spec_StText := fnc (fun _ => con_cons ce_spec_StOk (con_cons ce_spec_DecText con_nil)) Tryd.func7 ke_spec_StText (by kernel_rfl) (fun _ => by kernel_rfl) (fun _ => by kernel_rfl) rfl
theorem ce_impl_StoreOk : CO e_impl_StoreOk := fnc (fun _ => con_nil) Tryd.func60 ke_impl_StoreOk (by kernel_rfl) (fun _ => by kernel_rfl) (fun _ => by kernel_rfl) rfl
theorem ce_impl_within : CO e_impl_within := fnc (fun _ => con_nil) Tryd.func61 ke_impl_within (by kernel_rfl) (fun _ => by kernel_rfl) (fun _ => by kernel_rfl) rfl
theorem ce_slices_Index_int : CO e_slices_Index_int := fnc (fun _ => con_nil) Tryd.func87 ke_slices_Index_int (by kernel_rfl) (fun _ => by kernel_rfl) (fun _ => by kernel_rfl) rfl
theorem ce_slices_Contains_int : CO e_slices_Contains_int := fnc (fun _ => con_cons ce_slices_Index_int con_nil) Tryd.func62 ke_slices_Contains_int (by kernel_rfl) (fun _ => by kernel_rfl) (fun _ => by kernel_rfl) rfl
theorem ce_impl_StOk : CO e_impl_StOk := fnc (fun _ => con_cons ce_impl_StoreOk (con_cons ce_impl_within (con_cons ce_slices_Contains_int con_nil))) Tryd.func33 ke_impl_StOk (by kernel_rfl) (fun _ => by kernel_rfl) (fun _ => by kernel_rfl) rfl
theorem ce_strconv_Itoa : ConOk Tryd.prog e_strconv_Itoa := fe_strconv_Itoa
theorem ce_impl_DecText : CO e_impl_DecText := fnc (fun _ => con_cons ce_strconv_Itoa con_nil) Tryd.func35 ke_impl_DecText (by kernel_rfl) (fun _ => by kernel_rfl) (fun _ => by kernel_rfl) rfl
theorem ce_strings_Join : ConOk Tryd.prog e_strings_Join := fe_strings_Join
theorem ce_impl_decTexts : CO e_impl_decTexts := fnc (fun _ => con_cons ce_impl_DecText (con_cons ce_strings_Join con_nil)) Tryd.func34 ke_impl_decTexts (by kernel_rfl) (fun _ => by kernel_rfl) (fun _ => by kernel_rfl) rfl
theorem ce_impl_StText : CO e_impl_StText := fnc (fun _ => con_cons ce_impl_StOk (con_cons ce_impl_decTexts (con_cons ce_impl_DecText con_nil))) Tryd.func9 ke_impl_StText (by kernel_rfl) (fun _ => by kernel_rfl) (fun _ => by kernel_rfl) rfl
theorem ce_laws_eqInt32S : CO e_laws_eqInt32S := fnc (fun _ => con_nil) Tryd.func36 ke_laws_eqInt32S (by kernel_rfl) (fun _ => by kernel_rfl) (fun _ => by kernel_rfl) rfl
theorem ce_laws_eqSlot : CO e_laws_eqSlot := fnc (fun _ => con_nil) Tryd.func64 ke_laws_eqSlot (by kernel_rfl) (fun _ => by kernel_rfl) (fun _ => by kernel_rfl) rfl
theorem ce_laws_eqSlotS : CO e_laws_eqSlotS := fnc (fun _ => con_cons ce_laws_eqSlot con_nil) Tryd.func37 ke_laws_eqSlotS (by kernel_rfl) (fun _ => by kernel_rfl) (fun _ => by kernel_rfl) rfl
theorem ce_laws_eqUint32S : CO e_laws_eqUint32S := fnc (fun _ => con_nil) Tryd.func38 ke_laws_eqUint32S (by kernel_rfl) (fun _ => by kernel_rfl) (fun _ => by kernel_rfl) rfl
theorem ce_laws_eqIntS : CO e_laws_eqIntS := fnc (fun _ => con_nil) Tryd.func39 ke_laws_eqIntS (by kernel_rfl) (fun _ => by kernel_rfl) (fun _ => by kernel_rfl) rfl
theorem ce_laws_eqByteS : CO e_laws_eqByteS := fnc (fun _ => con_nil) Tryd.func40 ke_laws_eqByteS (by kernel_rfl) (fun _ => by kernel_rfl) (fun _ => by kernel_rfl) rfl
theorem ce_laws_eqSt : CO e_laws_eqSt := fnc (fun _ => con_cons ce_laws_eqInt32S (con_cons ce_laws_eqSlotS (con_cons ce_laws_eqUint32S (con_cons ce_laws_eqIntS (con_cons ce_laws_eqByteS con_nil))))) Tryd.func10 ke_laws_eqSt (by kernel_rfl) (fun _ => by kernel_rfl) (fun _ => by kernel_rfl) rfl
theorem ce_laws_FnExactStText : CO e_laws_FnExactStText := fnc (fun _ => con_cons ce_laws_szSt (con_cons ce_laws_toSt (con_cons ce_spec_StText (con_cons ce_impl_StText (con_cons ce_laws_eqSt con_nil))))) Tryd.func3 ke_laws_FnExactStText (by kernel_rfl) (fun _ => by kernel_rfl) (fun _ => by kernel_rfl) rfl
end Go.Proofs.YtceiajigccclnaaDoor

namespace Go.Fm
theorem wI64 {x : Int} (h1 : -9223372036854775808 ≤ x) (h2 : x < 9223372036854775808) : IntKind.wrap .i64 x = x := by
  simp [IntKind.wrap, IntKind.bits, IntKind.signed]; omega
theorem getI_nat {α : Type} {xs : List α} {i : Nat} : getI xs (i : Int) = xs[i]? := by
  unfold getI; rw [if_pos (Int.natCast_nonneg i)]; rfl
theorem app_eq {α : Type} {xs ys : List α} (h : xs.length + ys.length ≤ 4294967296) : app xs ys = some (xs ++ ys) := by
  unfold app
  rw [if_pos (by rw [List.length_append]; exact h)]
theorem subL_eq {α : Type} {xs : List α} {a b : Int} (h0 : 0 ≤ a) (h1 : a ≤ b) (h2 : b ≤ xs.length) : subL xs a b = some ((xs.drop a.toNat).take (b.toNat - a.toNat)) := by
  unfold subL; rw [if_pos ⟨h0, h1, h2⟩]
theorem subL_take {α : Type} {xs : List α} {b : Int} (h0 : 0 ≤ b) (h2 : b ≤ xs.length) : subL xs 0 b = some (xs.take b.toNat) := by
  rw [subL_eq (Int.le_refl _) h0 h2]; rfl
theorem mk_eq {α : Type} {z : α} {n : Int} (h0 : 0 ≤ n) (h1 : n ≤ 4294967296) : mk z n = some (List.replicate n.toNat z) := by
  unfold mk; rw [if_pos ⟨h0, h1⟩]
theorem catS_eq {a b : List UInt8} (h : a.length + b.length < 4611686018427387904) : catS a b = some (a ++ b) := by
  unfold catS; rw [if_pos h]
def Tot {α : Type} (o : Option α) (Q : α → Prop) : Prop := ∃ a, o = some a ∧ Q a
section
variable {α β : Type} {Q Q' : α → Prop} {R : β → Prop}
theorem Tot.some {a : α} (h : Q a) : Tot (some a) Q := ⟨a, rfl, h⟩
theorem Tot.bind {o : Option α} {f : α → Option β} (h : Tot o Q) (hf : ∀ a, Q a → Tot (f a) R) : Tot (o.bind f) R := by
  obtain ⟨a, rfl, ha⟩ := h; exact hf a ha
theorem Tot.cond {c : Bool} {x y : Option α} (h1 : c = true → Tot x Q) (h2 : c = false → Tot y Q) : Tot (cond c x y) Q := by
  cases c with
  | true => exact h1 rfl
  | false => exact h2 rfl
theorem Tot.condD {p : Prop} [Decidable p] {x y : Option α} (h1 : p → Tot x Q) (h2 : ¬ p → Tot y Q) : Tot (_root_.cond (decide p) x y) Q :=
  .cond (fun h => h1 (of_decide_eq_true h)) (fun h => h2 (of_decide_eq_false h))
theorem Tot.mono {o : Option α} (h : Tot o Q) (hq : ∀ a, Q a → Q' a) : Tot o Q' := by obtain ⟨a, e, ha⟩ := h; exact ⟨a, e, hq a ha⟩
end
end Go.Fm
namespace Go.Fm
theorem nxt {n : Nat} (h : n < 16777216) : IntKind.wrap .i64 ((n : Int) + 1) = ((n + 1 : Nat) : Int) := by rw [wI64 (by omega) (by omega)]; omega
theorem flipC {α : Type} (b : Bool) (x y : Option α) : cond (!b) x y = cond b y x := by cases b <;> rfl
def allN {α : Type} (p : Nat → α → Bool) : Nat → List α → Bool
  | _, [] => true
  | n, x :: r => p n x && allN p (n + 1) r
theorem allN_const {α : Type} (p : α → Bool) : ∀ (n : Nat) (l : List α), allN (fun _ => p) n l = l.all p
  | n, [] => rfl
  | n, x :: r => by simp only [allN, List.all_cons, allN_const p (n + 1) r]
theorem allLoop {α β : Type} {L : List α} {bad : β} (p : Nat → α → Bool) (F : Nat → Int → Option (Unit ⊕ β)) (step : ∀ (k n : Nat) (x : α), L[n]? = some x → n < L.length → F (k + 1) n = cond (p n x) (F k ((n + 1 : Nat) : Int)) (some (.inr bad)))
    (fin : ∀ k n : Nat, L.length ≤ n → F (k + 1) n = some (.inl ())) (hm : L.length ≤ 16777216) : F bigK 0 = some (cond (allN p 0 L) (.inl ()) (.inr bad)) := by
  have key : ∀ (k n : Nat), n ≤ L.length → L.length - n < k → F k n = some (cond (allN p n (L.drop n)) (.inl ()) (.inr bad)) := by
    intro k
    induction k with
    | zero => intro n h0 h1; omega
    | succ k ih =>
      intro n h0 h1
      by_cases hn : n < L.length
      · rw [step k n L[n] (List.getElem?_eq_getElem hn) hn, List.drop_eq_getElem_cons hn]
        show _ = some (cond (p n L[n] && allN p (n + 1) (L.drop (n + 1))) _ _)
        cases p n L[n] with
        | false => rfl
        | true => rw [cond_true, ih (n + 1) (by omega) (by omega), Bool.true_and]
      · rw [fin k n (by omega), List.drop_eq_nil_of_le (by omega)]; rfl
  have := key bigK 0 (Nat.zero_le _) (by unfold bigK; omega)
  rw [List.drop_zero] at this
  exact this
theorem eqList {α : Type} [DecidableEq α] {a b : List α} (F : Nat → Int → Option (Unit ⊕ Bool)) (g : Option Bool) (hg : g = cond ((a.length : Int) != (b.length : Int)) (some false) (((F bigK 0).bind fun o => match o with | .inl () => some (.inl ()) | .inr v => some (.inr v) : Option (Unit ⊕ Bool)).bind fun o => match o with | .inl () => some true | .inr v => some v))
    (hF : ∀ (k : Nat) (i : Int), F (k + 1) i = cond (decide (i < (a.length : Int))) ((getI a i).bind fun x => (getI b i).bind fun y => cond (!decide (x = y)) (some (.inr false)) (F k (IntKind.wrap .i64 (i + 1)))) (some (.inl ()))) (hm : a.length ≤ 1048576) : g = some (decide (a = b)) := by
  rw [hg]
  by_cases hl : a.length = b.length
  · have key : ∀ (k n : Nat), n ≤ a.length → a.length - n < k → F k n = some (if a.drop n = b.drop n then .inl () else .inr false) := by
      intro k
      induction k with
      | zero => intro n h0 h1; omega
      | succ k ih =>
        intro n h0 h1
        rw [hF]
        by_cases hn : n < a.length
        · have hn' : n < b.length := by omega
          rw [decide_eq_true (by omega), getI_nat, getI_nat, List.getElem?_eq_getElem hn, List.getElem?_eq_getElem hn', List.drop_eq_getElem_cons hn, List.drop_eq_getElem_cons hn']
          simp only [cond_true, Option.bind_some]
          by_cases he : a[n] = b[n]
          · rw [decide_eq_true he, Bool.not_true, cond_false, wI64 (by omega) (by omega), show ((n : Int) + 1) = ((n + 1 : Nat) : Int) by omega, ih (n + 1) (by omega) (by omega), he]
            simp only [List.cons.injEq, true_and]
          · rw [decide_eq_false he, Bool.not_false, cond_true, if_neg (fun h => he (List.cons.inj h).1)]
        · rw [decide_eq_false (by omega), cond_false, List.drop_eq_nil_of_le (by omega), List.drop_eq_nil_of_le (by omega), if_pos rfl]
    have : ((a.length : Int) != (b.length : Int)) = false := by rw [hl]; simp
    rw [this, cond_false]
    have h := key bigK 0 (Nat.zero_le _) (by unfold bigK; omega)
    rw [show ((0 : Nat) : Int) = 0 from rfl] at h
    rw [h]
    by_cases he : a = b
    · simp [he]
    · simp [he]
  · have : ((a.length : Int) != (b.length : Int)) = true := by simp; omega
    rw [this, cond_true, decide_eq_false (fun h => hl (by rw [h]))]
theorem copyM {α : Type} {a : List α} (F : Nat → List α → Int → Option (List α))
    (hs : ∀ (k n : Nat) (out : List α) (x y : α), a[n]? = some x → n < a.length → out[n]? = some y → F (k + 1) out n = F k (out.set n x) ((n + 1 : Nat) : Int))
    (he : ∀ (k n : Nat) (out : List α), a.length ≤ n → F (k + 1) out n = some out) (hm : a.length ≤ 16777216) {z : List α} (hz : z.length = a.length) : F bigK z 0 = some a := by
  have key : ∀ (k n : Nat) (rest : List α), n ≤ a.length → a.length - n < k → rest.length = a.length - n → F k (a.take n ++ rest) n = some a := by
    intro k
    induction k with
    | zero => intro n rest h0 h1; omega
    | succ k ih =>
      intro n rest h0 h1 h2
      by_cases hn : n < a.length
      · cases rest with
        | nil => simp at h2; omega
        | cons x r =>
          have hl : (a.take n).length = n := by rw [List.length_take]; omega
          rw [hs k n _ a[n] x (List.getElem?_eq_getElem hn) hn (by rw [List.getElem?_append_right (by omega), hl, Nat.sub_self]; rfl)]
          have hset : (a.take n ++ x :: r).set n a[n] = a.take (n + 1) ++ r := by
            rw [List.set_append_right _ _ (by omega), hl, Nat.sub_self, List.set_cons_zero, List.take_succ_eq_append_getElem hn, List.append_assoc]
            rfl
          rw [hset]
          exact ih (n + 1) r (by omega) (by omega) (by simp at h2; omega)
      · have hr : rest = [] := List.length_eq_zero_iff.1 (by omega)
        rw [he k n _ (by omega), hr, List.append_nil, List.take_of_length_le (by omega)]
  have h := key bigK 0 z (Nat.zero_le _) (by unfold bigK; omega) (by omega)
  rw [Int.natCast_zero, List.take_zero, List.nil_append] at h
  exact h
theorem copyLoop {α : Type} {a : List α} (F : Nat → List α → Int → Option (List α))
    (hs : ∀ (k : Nat) (out : List α) (i : Int), F (k + 1) out i = cond (decide (i < (a.length : Int))) ((getI a i).bind fun x => (getI out i).bind fun _ => F k (out.set i.toNat x) (IntKind.wrap .i64 (i + 1))) (some out))
    (hm : a.length ≤ 16777216) {z : List α} (hz : z.length = a.length) : F bigK z 0 = some a := by
  by_cases hb : a.length < 16777216
  · exact copyM F (fun k n out x y hx hn hy => by
      rw [hs, decide_eq_true (by omega), cond_true, getI_nat, hx]
      simp only [Option.bind_some]
      rw [getI_nat, hy, nxt (by omega)]
      rfl) (fun k n out hn => by rw [hs, decide_eq_false (by omega), cond_false]) hm hz
  · exact copyM F (fun k n out x y hx hn hy => by
      rw [hs, decide_eq_true (by omega), cond_true, getI_nat, hx]
      simp only [Option.bind_some]
      rw [getI_nat, hy, nxt (by omega)]
      rfl) (fun k n out hn => by rw [hs, decide_eq_false (by omega), cond_false]) hm hz
theorem eqRefl {α : Type} {a : List α} (F : Nat → Int → Option (Unit ⊕ Bool)) (f : Option Bool)
    (hf : f = cond ((a.length : Int) != (a.length : Int)) (some false) (((F bigK 0).bind fun o => match o with | .inl () => some (.inl ()) | .inr v => some (.inr v) : Option (Unit ⊕ Bool)).bind fun o => match o with | .inl () => some true | .inr v => some v))
    (hs : ∀ (k n : Nat) (x : α), a[n]? = some x → n < a.length → F (k + 1) n = F k ((n + 1 : Nat) : Int)) (he : ∀ (k n : Nat), a.length ≤ n → F (k + 1) n = some (.inl ())) (hm : a.length ≤ 16777216) : f = some true := by
  have h := allLoop (L := a) (bad := false) (fun _ _ => true) F (fun k n x hx hn => by rw [hs k n x hx hn]; rfl) he hm
  rw [hf, h]
  have e : ∀ (n : Nat) (l : List α), allN (fun _ _ => true) n l = true := fun n l => by rw [allN_const (fun _ => true)]; simp
  rw [e]
  simp
theorem bne_self' {α : Type} [BEq α] [LawfulBEq α] (x : α) : (x != x) = false := by simp
abbrev LN : Nat := 9223372036854775807
def Fits (f : Int → Option Int) (c : Nat) (Q : Prop) : Prop := ∀ left : Int, 0 ≤ left → left ≤ 1048576 → Tot (f left) fun r => r < 0 ∨ (0 ≤ r ∧ r + c ≤ left ∧ Q)
theorem Fits.one {f : Int → Option Int} {n : Nat} (hn : n ≤ 9223372036854775807) (hf : ∀ left, f left = cond (decide ((IntKind.wrap .i64 (left - (n : Int))) < 0)) (some (-1)) (some (IntKind.wrap .i64 (left - (n : Int))))) : Fits f n True := fun left h0 h1 => by
  rw [hf, wI64 (by omega) (by omega)]
  exact .condD (fun _ => .some (.inl (by decide))) fun h => .some (.inr ⟨by omega, by omega, trivial⟩)
theorem Fits.seq {f g : Int → Option Int} {h : Int → Option Int} {c d : Nat} {Q R : Prop} (hg : Fits g c Q) (hh : Fits h d R) (hf : ∀ left, f left = (g left).bind fun y => cond (decide (y < 0)) (some (-1)) (h y)) : Fits f (c + d) (Q ∧ R) := fun left h0 h1 => by
  rw [hf]
  refine .bind (hg left h0 h1) fun y hy => .condD (fun _ => .some (.inl (by decide))) fun hn => ?_
  have hy := hy.resolve_left hn
  refine (hh y hy.1 (by omega)).mono fun r hr => ?_
  rcases hr with hr | hr
  · exact .inl hr
  · exact .inr ⟨hr.1, by omega, hy.2.2, hr.2.2⟩
theorem Fits.last : Fits (fun y => some y) 0 True := fun left h0 h1 => .some (.inr ⟨h0, by omega, trivial⟩)
theorem Fits.weak {f : Int → Option Int} {c : Nat} {Q R : Prop} (h : Fits f c Q) (hq : c ≤ 1048576 → Q → R) : Fits f 0 R := fun left h0 h1 => (h left h0 h1).mono fun r hr => by
  rcases hr with hr | hr
  · exact .inl hr
  · exact .inr ⟨hr.1, by omega, hq (by omega) hr.2.2⟩
end Go.Fm
namespace Go.Proofs.YtceiajigccclnaaDoor
open Go Go.Fm
set_option maxRecDepth 100000
theorem specIn_eq {x a b : Int} : g_spec_l01In x a b = some (decide (a ≤ x ∧ x ≤ b)) := by
  unfold g_spec_l01In
  by_cases h : x ≥ a
  · rw [decide_eq_true h]
    simp only [cond_true]
    congr 1
    exact decide_eq_decide.2 ⟨fun h2 => ⟨h, h2⟩, fun h2 => h2.2⟩
  · rw [decide_eq_false h]
    simp only [cond_false]
    congr 1
    exact (decide_eq_false fun h2 => h h2.1).symm
theorem within_eq {x a b : Int} : g_impl_within x a b = some (decide (a ≤ x ∧ x ≤ b)) := by
  unfold g_impl_within
  by_cases h : a ≤ x
  · rw [decide_eq_true h]
    simp only [cond_true]
    congr 1
    exact decide_eq_decide.2 ⟨fun h2 => ⟨h, h2⟩, fun h2 => h2.2⟩
  · rw [decide_eq_false h]
    simp only [cond_false]
    congr 1
    exact (decide_eq_false fun h2 => h h2.1).symm
def inB (x a b : Int) : Bool := decide (a ≤ x ∧ x ≤ b)
theorem wIn (x a b : Int) : g_impl_within x a b = some (inB x a b) := within_eq
theorem sIn (x a b : Int) : g_spec_l01In x a b = some (inB x a b) := specIn_eq
end Go.Proofs.YtceiajigccclnaaDoor
namespace Go.Proofs.YtceiajigccclnaaDoor
open Go Go.Fm
set_option maxRecDepth 100000
theorem has_l0 {l : List Int} {v : Int} (hl : l.length ≤ 1048576) : g_slices_Contains_int l v = some (l.any fun x => v == x) := by
  unfold g_slices_Contains_int g_slices_Index_int
  have key : ∀ (k n : Nat), n ≤ l.length → l.length - n < k → ∃ o : Unit ⊕ Int, g_slices_Index_int_l0 l v (l.length : Int) k n = some o ∧ (match o with | .inl _ => ((l.drop n).any fun x => v == x) = false | .inr i => 0 ≤ i ∧ ((l.drop n).any fun x => v == x) = true) := by
    intro k
    induction k with
    | zero => intro n h0 h1; omega
    | succ k ih =>
      intro n h0 h1
      rw [g_slices_Index_int_l0]
      by_cases hn : n < l.length
      · rw [decide_eq_true (by omega), cond_true, getI_nat, List.getElem?_eq_getElem hn, List.drop_eq_getElem_cons hn, List.any_cons]
        simp only [Option.bind_some]
        cases hk : (v == l[n])
        · rw [cond_false, nxt (by omega)]
          obtain ⟨o, g1, g2⟩ := ih (n + 1) (by omega) (by omega)
          exact ⟨o, g1, by cases o <;> simpa using g2⟩
        · rw [cond_true]
          exact ⟨_, rfl, by simp⟩
      · rw [decide_eq_false (by omega), cond_false, List.drop_eq_nil_of_le (by omega)]
        exact ⟨_, rfl, rfl⟩
  obtain ⟨o, h, g⟩ := key bigK 0 (Nat.zero_le _) (by unfold bigK; omega)
  rw [Int.natCast_zero] at h
  rw [List.drop_zero] at g
  rw [h]
  cases o with
  | inl u => simp only [Option.bind_some]; rw [show (l.any fun x => v == x) = false from g]; rfl
  | inr i => simp only [Option.bind_some]; rw [g.2, decide_eq_true g.1]
def StB (st : GSt) : Bool :=
  !decide ((st.Data.length : Int) > 16) && (!decide ((st.Ret.length : Int) > 24) && (!((st.Mem.length : Int) != 32) && (!decide ((st.Vars.length : Int) > 20) && (!decide ((st.Out.length : Int) > 400) && (!decide ((st.In.length : Int) > 100) &&
    (st.Ret.all (fun o => inB o.Kind 0 2) && (allN (fun n v => inB v 0 (IntKind.wrap .i64 ((st.Cells.length : Int) - 1)) && !((st.Vars.take n).any fun x => v == x)) 0 st.Vars && ((((Int.tmod (st.Cells.length : Int) 64) == 0) && decide ((st.Cells.length : Int) ≤ 768)) && (inB st.Fault 0 13 && inB st.Fuel 0 4000)))))))))
structure StSz (st : GSt) : Prop where
  r : st.Ret.length ≤ 1048576
  v : st.Vars.length ≤ 1048576
theorem spec_in {l : List Int} {v : Int} {n : Nat} (hn : n ≤ l.length) (hl : l.length ≤ 1048576) {st : GSt} (hst : st.Vars = l) (hv : l[n]? = some v) : g_spec_StOk_l2 (n : Int) st bigK 0 = some (cond (!((l.take n).any fun x => v == x)) (.inl ()) (.inr false)) := by
  subst hst
  have hlen : (st.Vars.take n).length = n := by rw [List.length_take]; omega
  have h := allLoop (L := st.Vars.take n) (fun _ x => !(v == x)) (g_spec_StOk_l2 (n : Int) st) (fun k m x hx hm => by
      rw [hlen] at hm
      rw [List.getElem?_take, if_pos hm] at hx
      rw [g_spec_StOk_l2, decide_eq_true (by omega), cond_true, getI_nat, hx, getI_nat, hv]
      simp only [Option.bind_some]
      rw [nxt (by omega), flipC, show (x == v) = (v == x) from Bool.beq_comm]) (fun k m hm => by rw [hlen] at hm; rw [g_spec_StOk_l2, decide_eq_false (by omega), cond_false]) (by rw [hlen]; omega)
  rw [h, allN_const]
  congr 2
  rw [List.all_eq_not_any_not]
  simp
theorem spec_st {st : GSt} (h : StSz st) : g_spec_StOk st = some (StB st) := by
  unfold g_spec_StOk StB
  have hr := h.r
  have hv := h.v
  have h0 := allLoop (L := st.Ret) (fun _ o => inB o.Kind 0 2) (g_spec_StOk_l0 st) (fun k n x hx hn => by
      rw [g_spec_StOk_l0, decide_eq_true (by omega), cond_true, getI_nat, hx]
      simp only [Option.bind_some]
      rw [sIn]
      simp only [Option.bind_some]
      rw [nxt (by omega), flipC]) (fun k n hn => by rw [g_spec_StOk_l0, decide_eq_false (by omega), cond_false]) (by omega)
  have h1 := allLoop (L := st.Vars) (fun n v => inB v 0 (IntKind.wrap .i64 ((st.Cells.length : Int) - 1)) && !((st.Vars.take n).any fun x => v == x)) (g_spec_StOk_l1 st) (fun k n x hx hn => by
      rw [g_spec_StOk_l1, decide_eq_true (by omega), cond_true, getI_nat, hx]
      simp only [Option.bind_some]
      rw [sIn]
      simp only [Option.bind_some]
      rw [spec_in (l := st.Vars) (by omega) hv rfl hx, nxt (by omega)]
      cases inB x 0 (IntKind.wrap .i64 ((st.Cells.length : Int) - 1))
      · rfl
      · cases ((st.Vars.take n).any fun y => x == y) <;> rfl) (fun k n hn => by rw [g_spec_StOk_l1, decide_eq_false (by omega), cond_false]) (by omega)
  rw [h0, h1]
  unfold g_spec_StoreOk
  rw [sIn, sIn, allN_const]
  generalize decide ((st.Data.length : Int) > 16) = b1
  generalize decide ((st.Ret.length : Int) > 24) = b2
  generalize ((st.Mem.length : Int) != 32) = b3
  generalize decide ((st.Vars.length : Int) > 20) = b4
  generalize decide ((st.Out.length : Int) > 400) = b5
  generalize decide ((st.In.length : Int) > 100) = b6
  generalize (st.Ret.all fun o => inB o.Kind 0 2) = b7
  generalize allN _ 0 st.Vars = b8
  generalize (Int.tmod (st.Cells.length : Int) 64 == 0) = b9
  generalize decide ((st.Cells.length : Int) ≤ 768) = b10
  generalize inB st.Fault 0 13 = b11
  generalize inB st.Fuel 0 4000 = b12
  revert b1 b2 b3 b4 b5 b6 b7 b8 b9 b10 b11 b12
  decide +kernel
theorem impl_st {st : GSt} (h : StSz st) : g_impl_StOk st = some (StB st) := by
  unfold g_impl_StOk StB
  have hr := h.r
  have hv := h.v
  have h0 := allLoop (L := st.Ret) (fun _ o => inB o.Kind 0 2) (g_impl_StOk_l0 st.Ret (st.Ret.length : Int)) (fun k n x hx hn => by
      rw [g_impl_StOk_l0, decide_eq_true (by omega), cond_true, getI_nat, hx]
      simp only [Option.bind_some]
      rw [wIn]
      simp only [Option.bind_some]
      rw [nxt (by omega), flipC]) (fun k n hn => by rw [g_impl_StOk_l0, decide_eq_false (by omega), cond_false]) (by omega)
  have h1 := allLoop (L := st.Vars) (fun n v => inB v 0 (IntKind.wrap .i64 ((st.Cells.length : Int) - 1)) && !((st.Vars.take n).any fun x => v == x)) (g_impl_StOk_l1 st.Vars (st.Vars.length : Int) st) (fun k n x hx hn => by
      rw [g_impl_StOk_l1, decide_eq_true (by omega), cond_true, getI_nat, hx]
      simp only [Option.bind_some]
      rw [wIn]
      simp only [Option.bind_some]
      rw [subL_take (by omega) (by omega), Int.toNat_natCast]
      simp only [Option.bind_some]
      rw [has_l0 (by rw [List.length_take]; omega), nxt (by omega)]
      simp only [Option.bind_some]
      cases inB x 0 (IntKind.wrap .i64 ((st.Cells.length : Int) - 1))
      · rfl
      · cases ((st.Vars.take n).any fun y => x == y) <;> rfl) (fun k n hn => by rw [g_impl_StOk_l1, decide_eq_false (by omega), cond_false]) (by omega)
  rw [h0, h1]
  unfold g_impl_StoreOk
  rw [wIn, wIn, allN_const]
  have e5 : decide ((st.Out.length : Int) ≤ 400) = !decide ((st.Out.length : Int) > 400) := by rw [← decide_not]; congr 1; simp
  have e6 : decide ((st.In.length : Int) ≤ 100) = !decide ((st.In.length : Int) > 100) := by rw [← decide_not]; congr 1; simp
  rw [e5, e6]
  generalize decide ((st.Data.length : Int) > 16) = b1
  generalize decide ((st.Ret.length : Int) > 24) = b2
  generalize ((st.Mem.length : Int) != 32) = b3
  generalize decide ((st.Vars.length : Int) > 20) = b4
  generalize decide ((st.Out.length : Int) > 400) = b5
  generalize decide ((st.In.length : Int) > 100) = b6
  generalize (st.Ret.all fun o => inB o.Kind 0 2) = b7
  generalize allN _ 0 st.Vars = b8
  generalize (Int.tmod (st.Cells.length : Int) 64 == 0) = b9
  generalize decide ((st.Cells.length : Int) ≤ 768) = b10
  generalize inB st.Fault 0 13 = b11
  generalize inB st.Fuel 0 4000 = b12
  revert b1 b2 b3 b4 b5 b6 b7 b8 b9 b10 b11 b12
  decide +kernel
theorem toInt32S {a : List Int} (h : a.length ≤ 1048576) : g_laws_toInt32S a = some a := by
  unfold g_laws_toInt32S
  rw [mk_eq (by omega) (by omega), Option.bind_some, copyLoop (g_laws_toInt32S_l0 a) (fun _ _ _ => rfl) (by omega) (by simp)]
  rfl
theorem toUint32S {a : List Int} (h : a.length ≤ 1048576) : g_laws_toUint32S a = some a := by
  unfold g_laws_toUint32S
  rw [mk_eq (by omega) (by omega), Option.bind_some, copyLoop (g_laws_toUint32S_l0 a) (fun _ _ _ => rfl) (by omega) (by simp)]
  rfl
theorem toIntS {a : List Int} (h : a.length ≤ 1048576) : g_laws_toIntS a = some a := by
  unfold g_laws_toIntS
  rw [mk_eq (by omega) (by omega), Option.bind_some, copyLoop (g_laws_toIntS_l0 a) (fun _ _ _ => rfl) (by omega) (by simp)]
  rfl
theorem toByteS {a : List Int} (h : a.length ≤ 1048576) : g_laws_toByteS a = some a := by
  unfold g_laws_toByteS
  rw [mk_eq (by omega) (by omega), Option.bind_some, copyLoop (g_laws_toByteS_l0 a) (fun _ _ _ => rfl) (by omega) (by simp)]
  rfl
theorem toSlotS {a : List GSlot} (h : a.length ≤ 1048576) : g_laws_toSlotS a = some a := by
  unfold g_laws_toSlotS
  rw [mk_eq (by omega) (by omega), Option.bind_some, copyLoop (g_laws_toSlotS_l0 a) (fun _ _ _ => rfl) (by omega) (by simp)]
  rfl
theorem eqInt32S {a : List Int} (h : a.length ≤ 1048576) : g_laws_eqInt32S a a = some true := by
  rw [show g_laws_eqInt32S a a = some (decide (a = a)) from eqList (g_laws_eqInt32S_l0 a a) _ rfl (fun _ _ => rfl) (by omega)]; simp
theorem eqUint32S {a : List Int} (h : a.length ≤ 1048576) : g_laws_eqUint32S a a = some true := by
  rw [show g_laws_eqUint32S a a = some (decide (a = a)) from eqList (g_laws_eqUint32S_l0 a a) _ rfl (fun _ _ => rfl) (by omega)]; simp
theorem eqIntS {a : List Int} (h : a.length ≤ 1048576) : g_laws_eqIntS a a = some true := by
  rw [show g_laws_eqIntS a a = some (decide (a = a)) from eqList (g_laws_eqIntS_l0 a a) _ rfl (fun _ _ => rfl) (by omega)]; simp
theorem eqByteS {a : List Int} (h : a.length ≤ 1048576) : g_laws_eqByteS a a = some true := by
  rw [show g_laws_eqByteS a a = some (decide (a = a)) from eqList (g_laws_eqByteS_l0 a a) _ rfl (fun _ _ => rfl) (by omega)]; simp
theorem eqSlotS {a : List GSlot} (h : a.length ≤ 1048576) : g_laws_eqSlotS a a = some true :=
  eqRefl (g_laws_eqSlotS_l0 a a) _ rfl (fun k n x hx hn => by
    rw [g_laws_eqSlotS_l0, decide_eq_true (by omega), cond_true, getI_nat, hx]
    unfold g_laws_eqSlot
    simp only [Option.bind_some, bne_self', cond_false, Bool.not_true]
    rw [nxt (by omega)]) (fun k n hn => by rw [g_laws_eqSlotS_l0, decide_eq_false (by omega), cond_false]) (by omega)
structure StW (st : GSt) : Prop where
  d : st.Data.length ≤ LN
  r : st.Ret.length ≤ LN
  m : st.Mem.length ≤ LN
  c : st.Cells.length ≤ LN
  v : st.Vars.length ≤ LN
  o : st.Out.length ≤ LN
  i : st.In.length ≤ LN
structure StAll (st : GSt) : Prop where
  d : st.Data.length ≤ 1048576
  r : st.Ret.length ≤ 1048576
  m : st.Mem.length ≤ 1048576
  c : st.Cells.length ≤ 1048576
  v : st.Vars.length ≤ 1048576
  o : st.Out.length ≤ 1048576
  i : st.In.length ≤ 1048576
theorem fitsSt {st : GSt} (h : StW st) : Fits (g_laws_szSt st) 0 (StAll st) :=
  Fits.weak (Fits.seq (Fits.one h.d fun _ => rfl) (Fits.seq (Fits.one h.r fun _ => rfl) (Fits.seq (Fits.one h.m fun _ => rfl) (Fits.seq (Fits.one h.c fun _ => rfl) (Fits.seq (Fits.one h.v fun _ => rfl) (Fits.seq (Fits.one h.o fun _ => rfl)
    (Fits.seq (Fits.one h.i fun _ => rfl) Fits.last fun _ => rfl) fun _ => rfl) fun _ => rfl) fun _ => rfl) fun _ => rfl) fun _ => rfl) fun _ => rfl) fun hc _ => ⟨by omega, by omega, by omega, by omega, by omega, by omega, by omega⟩
theorem toSt_eq {st : GSt} (h : StAll st) : g_laws_toSt st = some st := by
  unfold g_laws_toSt
  simp only [toInt32S h.d, toSlotS h.r, toInt32S h.m, toUint32S h.c, toIntS h.v, toByteS h.o, toByteS h.i, Option.bind_some]
theorem eqSt_eq {st : GSt} (h : StAll st) : g_laws_eqSt st st = some true := by
  unfold g_laws_eqSt
  simp only [eqInt32S h.d, eqSlotS h.r, eqInt32S h.m, eqUint32S h.c, eqIntS h.v, eqByteS h.o, eqByteS h.i, Option.bind_some, Bool.not_true, cond_false, bne_self_eq_false]
end Go.Proofs.YtceiajigccclnaaDoor
namespace Go.Proofs.YtceiajigccclnaaDoor
open Go Go.Fm
theorem dec_len : ∀ (k u : Nat), u < 10 ^ (k + 1) → (Lib.decDigits u).length ≤ k + 1 := by
  intro k
  induction k with
  | zero =>
    intro u h
    rw [Lib.decDigits, dif_pos (by omega)]; simp
  | succ k ih =>
    intro u h
    rw [Lib.decDigits]
    split
    · simp
    · have : u / 10 < 10 ^ (k + 1) := by rw [Nat.div_lt_iff_lt_mul (by omega)]; rw [Nat.pow_succ] at h; omega
      have := ih (u / 10) this
      simp; omega
theorem itoa_len {n : Int} (h0 : -9223372036854775808 ≤ n) (h1 : n ≤ 9223372036854775807) : (Lib.itoa n).length ≤ 21 := by
  unfold Lib.itoa
  split
  · have := dec_len 19 n.natAbs (by omega)
    simp; omega
  · have := dec_len 19 n.toNat (by omega)
    omega
theorem impl_dec {n : Int} (h0 : -9223372036854775808 ≤ n) (h1 : n ≤ 9223372036854775807) : g_impl_DecText n = some (Lib.itoa n) := by
  unfold g_impl_DecText g_strconv_Itoa gItoa
  rw [decide_eq_true ⟨h0, h1⟩]; rfl
theorem digit {d : Nat} (h : d < 10) : subL ([48, 49, 50, 51, 52, 53, 54, 55, 56, 57] : List UInt8) (d : Int) (IntKind.wrap .i64 ((d : Int) + 1)) = some [UInt8.ofNat (48 + d)] := by
  match d, h with
  | 0, _ => rfl
  | 1, _ => rfl
  | 2, _ => rfl
  | 3, _ => rfl
  | 4, _ => rfl
  | 5, _ => rfl
  | 6, _ => rfl
  | 7, _ => rfl
  | 8, _ => rfl
  | 9, _ => rfl
theorem tm10 (u : Nat) : Int.tmod (u : Int) 10 = ((u % 10 : Nat) : Int) := (Int.ofNat_tmod u 10).symm
theorem td10 (u : Nat) : Int.tdiv (u : Int) 10 = ((u / 10 : Nat) : Int) := (Int.ofNat_tdiv u 10).symm
theorem spec_loop : ∀ (u k : Nat) (m : Int) (out : List UInt8), m.natAbs = u → u ≠ 0 → u ≤ 9223372036854775808 → u < k → out.length + (Lib.decDigits u).length ≤ 1000 → (m < 0 ∨ u < 9223372036854775808) →
    g_spec_DecText_l0 k out m = some (Lib.decDigits u ++ out) := by
  intro u
  induction u using Nat.strongRecOn with
  | _ u ih =>
    intro k m out hm h0 h1 hk ho hr
    obtain ⟨k, rfl⟩ : ∃ k', k = k' + 1 := ⟨k - 1, by omega⟩
    rw [g_spec_DecText_l0, show (m != 0) = true by simp; omega, cond_true]
    have hd : ((cond (decide ((Int.tmod m 10) < 0)) (some (IntKind.wrap .i64 (0 - (Int.tmod m 10)))) (some (Int.tmod m 10)) : Option Int)) = some ((u % 10 : Nat) : Int) := by
      have h2 : Int.tmod m 10 = if m < 0 then -((u % 10 : Nat) : Int) else ((u % 10 : Nat) : Int) := by
        split
        · have : m = -(u : Int) := by omega
          rw [this, Int.neg_tmod, tm10]
        · have : m = (u : Int) := by omega
          rw [this, tm10]
      rw [h2]
      by_cases hneg : m < 0
      · rw [if_pos hneg]
        by_cases hz : u % 10 = 0
        · rw [hz]; rfl
        · rw [decide_eq_true (by omega), cond_true, wI64 (by omega) (by omega)]
          congr 1; omega
      · rw [if_neg hneg, decide_eq_false (by omega), cond_false]
    have hq : IntKind.wrap .i64 (Int.tdiv m 10) = if m < 0 then -((u / 10 : Nat) : Int) else ((u / 10 : Nat) : Int) := by
      split
      · have : m = -(u : Int) := by omega
        rw [this, Int.neg_tdiv, td10, wI64 (by omega) (by omega)]
      · have : m = (u : Int) := by omega
        rw [this, td10, wI64 (by omega) (by omega)]
    rw [hd, Option.bind_some, digit (Nat.mod_lt _ (by omega)), Option.bind_some, catS_eq (by simp; omega), Option.bind_some, hq]
    by_cases h10 : u < 10
    · obtain ⟨k, rfl⟩ : ∃ k', k = k' + 1 := ⟨k - 1, by omega⟩
      rw [Lib.decDigits, dif_pos h10, Nat.div_eq_of_lt h10, Nat.mod_eq_of_lt h10]
      have : (if m < 0 then -((0 : Nat) : Int) else ((0 : Nat) : Int)) = 0 := by split <;> rfl
      rw [this, g_spec_DecText_l0]
      rfl
    · have hlen : (Lib.decDigits u).length = (Lib.decDigits (u / 10)).length + 1 := by
        rw [Lib.decDigits.eq_def u, dif_neg h10]; simp
      rw [ih (u / 10) (by omega) k _ _ (by split <;> omega) (by omega) (by omega) (by omega) (by simp; omega) (by split <;> omega)]
      rw [Lib.decDigits.eq_def u, dif_neg h10]
      simp
theorem spec_dec {n : Int} (h0 : -9223372036854775808 ≤ n) (h1 : n ≤ 9223372036854775807) : g_spec_DecText n = some (Lib.itoa n) := by
  unfold g_spec_DecText
  by_cases hz : n = 0
  · subst hz
    have : Lib.itoa 0 = [48] := by
      unfold Lib.itoa
      rw [if_neg (by omega), Lib.decDigits]; rfl
    rw [this]; rfl
  · rw [show (n == 0) = false by simp [hz], cond_false, spec_loop n.natAbs bigK n [] rfl (by omega) (by omega) (by unfold bigK; omega) (by have := dec_len 19 n.natAbs (by omega); simp; omega) (by omega), Option.bind_some]
    unfold Lib.itoa
    have := dec_len 19 n.natAbs (by omega)
    by_cases hn : n < 0
    · rw [decide_eq_true hn, cond_true, if_pos hn, catS_eq (by simp; omega)]
      simp
    · rw [decide_eq_false hn, cond_false, if_neg hn, show n.toNat = n.natAbs by omega]
      simp
end Go.Proofs.YtceiajigccclnaaDoor
namespace Go.Proofs.YtceiajigccclnaaDoor
open Go Go.Fm
def i64B (x : Int) : Prop := -9223372036854775808 ≤ x ∧ x ≤ 9223372036854775807
theorem i64W {x : Int} (h : i64B x) : IntKind.wrap .i64 x = x := wI64 h.1 (by have := h.2; omega)
def blk (l : List Int) : List UInt8 := l.flatMap fun x => Lib.itoa x ++ [32]
theorem blk_cons (x : Int) (r : List Int) : blk (x :: r) = Lib.itoa x ++ [32] ++ blk r := rfl
theorem blk_len : ∀ (l : List Int), (∀ x ∈ l, i64B x) → (blk l).length ≤ 22 * l.length
  | [], _ => Nat.le_refl _
  | x :: r, h => by
    have := blk_len r fun y hy => h y (List.mem_cons_of_mem _ hy)
    have hx := h x List.mem_cons_self
    have := itoa_len hx.1 hx.2
    show (Lib.itoa x ++ [32] ++ blk r).length ≤ _
    simp only [List.length_append, List.length_cons, List.length_nil]; omega
theorem join_blk : ∀ (l : List Int), l ≠ [] → Lib.join (l.map Lib.itoa) [32] ++ [32] = blk l
  | [], h => absurd rfl h
  | [x], _ => by rw [List.map_cons, List.map_nil, Lib.join_one]; simp [blk]
  | x :: y :: r, _ => by
    have := join_blk (y :: r) (by simp)
    have e : Lib.join ((x :: y :: r).map Lib.itoa) [32] = Lib.itoa x ++ [32] ++ Lib.join ((y :: r).map Lib.itoa) [32] := by
      simp [Lib.join, List.intercalate, List.intersperse]
    rw [e, List.append_assoc, this]; rfl
theorem join_len (l : List Int) (h : ∀ x ∈ l, i64B x) : (Lib.join (l.map Lib.itoa) [32]).length ≤ 22 * l.length := by
  by_cases hl : l = []
  · subst hl; simp [Lib.join]
  · have e := congrArg List.length (join_blk l hl)
    have := blk_len l h
    simp only [List.length_append, List.length_cons, List.length_nil] at e
    omega
theorem decTexts_eq {l : List Int} (hl : l.length ≤ 1000) (h : ∀ x ∈ l, i64B x) : g_impl_decTexts l = some (Lib.join (l.map Lib.itoa) [32]) := by
  have key : ∀ (k i : Nat) (out : List (List UInt8)), i ≤ l.length → l.length - i < k → out.length ≤ i → g_impl_decTexts_l0 l (l.length : Int) k out (i : Int) = some (out ++ (l.drop i).map Lib.itoa) := by
    intro k
    induction k with
    | zero => intro i out h0 h1; omega
    | succ k ih =>
      intro i out h0 h1 ho
      rw [g_impl_decTexts_l0]
      by_cases hn : i < l.length
      · have hx := h l[i] (List.getElem_mem hn)
        rw [decide_eq_true (by omega), cond_true, getI_nat, List.getElem?_eq_getElem hn, Option.bind_some, impl_dec hx.1 hx.2, Option.bind_some, app_eq (by simp; omega), Option.bind_some, nxt (by omega), ih (i + 1) _ (by omega) (by omega) (by simp; omega), List.drop_eq_getElem_cons hn, List.map_cons, List.append_assoc]
        rfl
      · rw [decide_eq_false (by omega), cond_false, List.drop_eq_nil_of_le (by omega)]; simp
  have h0 := key bigK 0 [] (Nat.zero_le _) (by unfold bigK; omega) (Nat.le_refl _)
  rw [show ((0 : Nat) : Int) = 0 from rfl, List.drop_zero, List.nil_append] at h0
  have := join_len l h
  unfold g_impl_decTexts
  rw [h0]
  simp only [Option.bind_some]
  unfold g_strings_Join gJoin
  rw [decide_eq_true ⟨by simp; omega, by omega⟩]; rfl
theorem data_copy {l : List Int} (hl : l.length ≤ 1000) (h : ∀ x ∈ l, i64B x) : g_impl_StText_l0 l (l.length : Int) bigK [] 0 = some l := by
  have key : ∀ (k i : Nat) (out : List Int), i ≤ l.length → l.length - i < k → out.length ≤ i → g_impl_StText_l0 l (l.length : Int) k out (i : Int) = some (out ++ l.drop i) := by
    intro k
    induction k with
    | zero => intro i out h0 h1; omega
    | succ k ih =>
      intro i out h0 h1 ho
      rw [g_impl_StText_l0]
      by_cases hn : i < l.length
      · have hx := h l[i] (List.getElem_mem hn)
        rw [decide_eq_true (by omega), cond_true, getI_nat, List.getElem?_eq_getElem hn, Option.bind_some, i64W hx, app_eq (by simp; omega), Option.bind_some, nxt (by omega), ih (i + 1) _ (by omega) (by omega) (by simp; omega), List.drop_eq_getElem_cons hn]
        simp
      · rw [decide_eq_false (by omega), cond_false, List.drop_eq_nil_of_le (by omega)]; simp
  have h0 := key bigK 0 [] (Nat.zero_le _) (by unfold bigK; omega) (Nat.le_refl _)
  simpa using h0
def retT (l : List GSlot) : List UInt8 := l.flatMap fun s => [32] ++ ((([100, 99, 98] : List UInt8).drop s.Kind.toNat).take 1 ++ Lib.itoa s.N)
theorem retT_cons (s : GSlot) (r : List GSlot) : retT (s :: r) = [32] ++ ((([100, 99, 98] : List UInt8).drop s.Kind.toNat).take 1 ++ Lib.itoa s.N) ++ retT r := rfl
structure RetN (l : List GSlot) : Prop where
  k : ∀ s ∈ l, 0 ≤ s.Kind ∧ s.Kind ≤ 2
  n : ∀ s ∈ l, i64B s.N
theorem dcb {k : Int} (h0 : 0 ≤ k) (h1 : k ≤ 2) : subL ([100, 99, 98] : List UInt8) k (IntKind.wrap .i64 (k + 1)) = some ((([100, 99, 98] : List UInt8).drop k.toNat).take 1) := by
  rw [wI64 (by omega) (by omega), subL_eq h0 (by omega) (by show k + 1 ≤ 3; omega), show (k + 1).toNat - k.toNat = 1 by omega]
theorem ret_loops {st : GSt} (hl : st.Ret.length ≤ 1000) (h : RetN st.Ret) : ∀ (k i : Nat) (out : List UInt8), i ≤ st.Ret.length → st.Ret.length - i < k → out.length ≤ 1000 + 30 * i →
    g_spec_StText_l1 st k out (i : Int) = some (out ++ retT (st.Ret.drop i)) ∧ g_impl_StText_l1 st.Ret (st.Ret.length : Int) k out (i : Int) = some (out ++ retT (st.Ret.drop i)) := by
  intro k
  induction k with
  | zero => intro i out h0 h1; omega
  | succ k ih =>
    intro i out h0 h1 ho
    rw [g_spec_StText_l1, g_impl_StText_l1]
    by_cases hn : i < st.Ret.length
    · obtain ⟨k0, k2⟩ := h.k st.Ret[i] (List.getElem_mem hn)
      have hx := h.n st.Ret[i] (List.getElem_mem hn)
      have hlen := itoa_len hx.1 hx.2
      have hd : ((([100, 99, 98] : List UInt8).drop st.Ret[i].Kind.toNat).take 1).length ≤ 1 := by rw [List.length_take]; omega
      rw [decide_eq_true (by omega), cond_true, cond_true, getI_nat, List.getElem?_eq_getElem hn]
      simp only [Option.bind_some]
      rw [dcb k0 k2, i64W hx, spec_dec hx.1 hx.2, impl_dec hx.1 hx.2, nxt (by omega)]
      simp only [Option.bind_some]
      obtain ⟨g1, g2⟩ := ih (i + 1) (out ++ ([32] ++ ((([100, 99, 98] : List UInt8).drop st.Ret[i].Kind.toNat).take 1 ++ Lib.itoa st.Ret[i].N))) (by omega) (by omega) (by simp only [List.length_append, List.length_cons, List.length_nil]; omega)
      have hc : out ++ retT (st.Ret.drop i) = out ++ ([32] ++ ((([100, 99, 98] : List UInt8).drop st.Ret[i].Kind.toNat).take 1 ++ Lib.itoa st.Ret[i].N)) ++ retT (st.Ret.drop (i + 1)) := by
        rw [List.drop_eq_getElem_cons hn, retT_cons]
        simp only [List.append_assoc]
      rw [hc]
      constructor
      · rw [catS_eq (by simp; omega), Option.bind_some, catS_eq (by simp only [List.length_append, List.length_cons, List.length_nil]; omega), Option.bind_some, catS_eq (by simp only [List.length_append, List.length_cons, List.length_nil]; omega), Option.bind_some]
        rw [← g1]; simp
      · rw [catS_eq (by simp only [List.length_append, List.length_cons, List.length_nil]; omega), Option.bind_some, catS_eq (by simp only [List.length_append, List.length_cons, List.length_nil]; omega), Option.bind_some, catS_eq (by simp only [List.length_append, List.length_cons, List.length_nil]; omega), Option.bind_some]
        rw [← g2]; simp
    · rw [decide_eq_false (by omega), cond_false, cond_false, List.drop_eq_nil_of_le (by omega)]
      simp [retT]
theorem data_loop {st : GSt} (hl : st.Data.length ≤ 1000) (h : ∀ x ∈ st.Data, i64B x) : g_spec_StText_l0 st bigK [] 0 = some (blk st.Data) := by
  have key : ∀ (k i : Nat) (out : List UInt8), i ≤ st.Data.length → st.Data.length - i < k → out.length ≤ 30 * i → g_spec_StText_l0 st k out (i : Int) = some (out ++ blk (st.Data.drop i)) := by
    intro k
    induction k with
    | zero => intro i out h0 h1; omega
    | succ k ih =>
      intro i out h0 h1 ho
      rw [g_spec_StText_l0]
      by_cases hn : i < st.Data.length
      · have hx := h st.Data[i] (List.getElem_mem hn)
        have hlen := itoa_len hx.1 hx.2
        rw [decide_eq_true (by omega), cond_true, getI_nat, List.getElem?_eq_getElem hn, Option.bind_some, i64W hx, spec_dec hx.1 hx.2, Option.bind_some, catS_eq (by omega), Option.bind_some, catS_eq (by simp; omega), Option.bind_some, nxt (by omega), ih (i + 1) _ (by omega) (by omega) (by simp only [List.length_append, List.length_cons, List.length_nil]; omega), List.drop_eq_getElem_cons hn, blk_cons]
        simp only [List.append_assoc]
      · rw [decide_eq_false (by omega), cond_false, List.drop_eq_nil_of_le (by omega)]; simp [blk]
  have h0 := key bigK 0 [] (Nat.zero_le _) (by unfold bigK; omega) (by simp)
  simpa using h0
structure StNum (st : GSt) : Prop where
  d : ∀ x ∈ st.Data, i64B x
  r : ∀ s ∈ st.Ret, i64B s.N
  a : i64B st.A
  f : i64B st.Fault
  u : i64B st.Fuel
theorem stText_both {st : GSt} (hz : StSz st) (hn : StNum st) : ∃ t, g_spec_StText st = some t ∧ g_impl_StText st = some t ∧ t.length ≤ 4000 := by
  unfold g_spec_StText g_impl_StText
  rw [spec_st hz, impl_st hz]
  cases hB : StB st with
  | false => exact ⟨[], rfl, rfl, by simp⟩
  | true =>
    have hb := hB
    unfold StB at hb
    simp only [Bool.and_eq_true, Bool.not_eq_true', decide_eq_false_iff_not, decide_eq_true_eq, List.all_eq_true] at hb
    obtain ⟨b1, b2, _, _, _, _, b7, _⟩ := hb
    have hR : RetN st.Ret := ⟨fun s hs => by have := b7 s hs; unfold inB at this; simpa using this, hn.r⟩
    have hbl := blk_len st.Data hn.d
    have hjl := join_len st.Data hn.d
    simp only [Option.bind_some, Bool.not_true, cond_false]
    rw [data_loop (by omega) hn.d, data_copy (by omega) hn.d]
    simp only [Option.bind_some]
    rw [decTexts_eq (by omega) hn.d]
    simp only [Option.bind_some]
    obtain ⟨w, hw, hwl, e1, e2⟩ : ∃ w : List UInt8, (w.length ≤ 400) ∧ True ∧ (cond (blk st.Data == []) (some [32]) (some (blk st.Data)) : Option (List UInt8)).bind (fun o => catS o [124]) = some w ∧ catS (Lib.join (st.Data.map Lib.itoa) [32]) [32, 124] = some w := by
      by_cases hd : st.Data = []
      · rw [hd]
        exact ⟨[32, 124], by simp, trivial, rfl, rfl⟩
      · have hne : blk st.Data ≠ [] := fun e => by
          have := congrArg List.length (join_blk st.Data hd)
          rw [e] at this; simp at this
        refine ⟨blk st.Data ++ [124], by simp; omega, trivial, ?_, ?_⟩
        · rw [show (blk st.Data == []) = false by simp [hne], cond_false, Option.bind_some, catS_eq (by simp; omega)]
        · rw [catS_eq (by simp; omega), ← join_blk st.Data hd]; simp
    have hr := ret_loops (st := st) (by omega) hR bigK 0 w (Nat.zero_le _) (by unfold bigK; omega) (by omega)
    rw [show ((0 : Nat) : Int) = 0 from rfl, List.drop_zero] at hr
    obtain ⟨r1, r2⟩ := hr
    have hrl : ∀ l : List GSlot, (∀ s ∈ l, i64B s.N) → (retT l).length ≤ 30 * l.length := by
      intro l
      induction l with
      | nil => intro _; simp [retT]
      | cons s r ih =>
        intro h
        have := ih fun y hy => h y (List.mem_cons_of_mem _ hy)
        have hx := h s List.mem_cons_self
        have := itoa_len hx.1 hx.2
        have hd : ((([100, 99, 98] : List UInt8).drop s.Kind.toNat).take 1).length ≤ 1 := by rw [List.length_take]; omega
        show ([32] ++ ((([100, 99, 98] : List UInt8).drop s.Kind.toNat).take 1 ++ Lib.itoa s.N) ++ retT r).length ≤ _
        simp only [List.length_append, List.length_cons, List.length_nil]; omega
    have hrl := hrl st.Ret hn.r
    have la := itoa_len hn.a.1 hn.a.2
    have lf := itoa_len hn.f.1 hn.f.2
    have lu := itoa_len hn.u.1 hn.u.2
    refine ⟨w ++ retT st.Ret ++ [32, 124, 32] ++ Lib.itoa st.A ++ [32] ++ Lib.itoa st.Fault ++ [32] ++ Lib.itoa st.Fuel, ?_, ?_, by simp only [List.length_append, List.length_cons, List.length_nil]; omega⟩
    · have e1' : ∀ {β : Type} (K : List UInt8 → Option β), ((cond (blk st.Data == []) (some [32]) (some (blk st.Data)) : Option (List UInt8)).bind fun o => (catS o [124]).bind K) = K w := fun K => by
        rw [← Option.bind_assoc, e1]; rfl
      rw [e1', r1]
      simp only [Option.bind_some]
      rw [i64W hn.a, spec_dec hn.a.1 hn.a.2, spec_dec hn.f.1 hn.f.2, spec_dec hn.u.1 hn.u.2]
      simp only [Option.bind_some]
      rw [catS_eq (by simp only [List.length_append, List.length_cons, List.length_nil]; omega), Option.bind_some, catS_eq (by simp only [List.length_append, List.length_cons, List.length_nil]; omega), Option.bind_some, catS_eq (by simp only [List.length_append, List.length_cons, List.length_nil]; omega), Option.bind_some,
        catS_eq (by simp only [List.length_append, List.length_cons, List.length_nil]; omega), Option.bind_some, catS_eq (by simp only [List.length_append, List.length_cons, List.length_nil]; omega), Option.bind_some, catS_eq (by simp only [List.length_append, List.length_cons, List.length_nil]; omega), Option.bind_some]
    · rw [e2]
      simp only [Option.bind_some]
      rw [r2]
      simp only [Option.bind_some]
      rw [i64W hn.a, decTexts_eq (by simp) (fun x hx => by
        simp only [List.mem_cons, List.not_mem_nil, or_false] at hx
        rcases hx with rfl | rfl | rfl
        · exact hn.a
        · exact hn.f
        · exact hn.u)]
      have ej : Lib.join ([st.A, st.Fault, st.Fuel].map Lib.itoa) [32] = Lib.itoa st.A ++ [32] ++ Lib.itoa st.Fault ++ [32] ++ Lib.itoa st.Fuel := by
        simp [Lib.join, List.intercalate, List.intersperse]
      rw [ej, catS_eq (by simp only [List.length_append, List.length_cons, List.length_nil]; omega), Option.bind_some]
      simp only [Option.bind_some]
      rw [catS_eq (by simp only [List.length_append, List.length_cons, List.length_nil]; omega), Option.bind_some]
      simp
theorem law_stText {st : GSt} (hw : StW st) (hn : StNum st) : g_laws_FnExactStText st = some true := by
  unfold g_laws_FnExactStText
  obtain ⟨y, hy, hy2⟩ := fitsSt hw 1048576 (by omega) (by omega)
  rw [hy, Option.bind_some]
  rcases hy2 with hy2 | ⟨h0, _, hA⟩
  · rw [decide_eq_true hy2]; rfl
  · obtain ⟨t, e1, e2, _⟩ := stText_both (st := st) ⟨hA.r, hA.v⟩ hn
    rw [decide_eq_false (by omega), cond_false, toSt_eq hA]
    simp only [Option.bind_some, e1, e2, eqSt_eq hA, bne_self_eq_false, Bool.not_true, cond_false]
end Go.Proofs.YtceiajigccclnaaDoor
namespace Go.Proofs.YtceiajigccclnaaDoor
open Go Go.Fm
theorem wfI32 {n : Int} (h : (Lit.int .i32 n).wf = true) : -2147483648 ≤ n ∧ n ≤ 2147483647 := by
  unfold Lit.wf at h
  simp [IntKind.min, IntKind.max, IntKind.signed, IntKind.bits] at h
  exact h
theorem wfI64 {n : Int} (h : (Lit.int .i64 n).wf = true) : i64B n := by
  unfold Lit.wf at h
  simp [IntKind.min, IntKind.max, IntKind.signed, IntKind.bits] at h
  exact h
theorem st_num (x : GSt) (g0 : (fun x : GSt => (fun xs : List Int => xs.length ≤ maxLen ∧ ∀ x ∈ xs, (fun n : Int => (Lit.int .i32 n).wf = true) x) x.Data ∧ (fun xs : List GSlot => xs.length ≤ maxLen ∧ ∀ x ∈ xs, (fun x : GSlot => (fun n : Int => (Lit.int .i64 n).wf = true) x.Kind ∧ (fun n : Int => (Lit.int .i32 n).wf = true) x.N) x) x.Ret ∧ (fun n : Int => (Lit.int .i32 n).wf = true) x.A ∧ (fun xs : List Int => xs.length ≤ maxLen ∧ ∀ x ∈ xs, (fun n : Int => (Lit.int .i32 n).wf = true) x) x.Mem ∧ (fun xs : List Int => xs.length ≤ maxLen ∧ ∀ x ∈ xs, (fun n : Int => (Lit.int .u32 n).wf = true) x) x.Cells ∧ (fun xs : List Int => xs.length ≤ maxLen ∧ ∀ x ∈ xs, (fun n : Int => (Lit.int .i64 n).wf = true) x) x.Vars ∧ (fun xs : List Int => xs.length ≤ maxLen ∧ ∀ x ∈ xs, (fun n : Int => (Lit.int .u8 n).wf = true) x) x.Out ∧ (fun xs : List Int => xs.length ≤ maxLen ∧ ∀ x ∈ xs, (fun n : Int => (Lit.int .u8 n).wf = true) x) x.In ∧ (fun n : Int => (Lit.int .i64 n).wf = true) x.Fault ∧ (fun n : Int => (Lit.int .i64 n).wf = true) x.Fuel) x) : StW x ∧ StNum x := by
  obtain ⟨⟨d1, d2⟩, ⟨r1, r2⟩, a, ⟨m1, m2⟩, ⟨c1, c2⟩, ⟨v1, v2⟩, ⟨o1, o2⟩, ⟨i1, i2⟩, f, u⟩ := g0
  have hm : maxLen ≤ LN := by decide
  refine ⟨⟨Nat.le_trans d1 hm, Nat.le_trans r1 hm, Nat.le_trans m1 hm, Nat.le_trans c1 hm, Nat.le_trans v1 hm, Nat.le_trans o1 hm, Nat.le_trans i1 hm⟩, fun y hy => ?_, fun y hy => ?_, ?_, wfI64 f, wfI64 u⟩
  · have := wfI32 (d2 y hy); unfold i64B; omega
  · have := wfI32 (r2 y hy).2; unfold i64B; omega
  · have := wfI32 a; unfold i64B; omega
end Go.Proofs.YtceiajigccclnaaDoor

namespace Go.Proofs.YtceiajigccclnaaDoor
open Go Go.Fm
set_option maxRecDepth 100000
theorem typed_GSlot : Typed [.int .i64, .int .i32] GSlot.cs (fun x : GSlot => (fun n : Int => (Lit.int .i64 n).wf = true) x.Kind ∧ (fun n : Int => (Lit.int .i32 n).wf = true) x.N) := fun row hl h => by
  match row, hl with
  | [c0, c1], _ =>
    obtain ⟨x0, e0, g0⟩ := (typed_int .i64) [c0] rfl (Go.Fm.one_cell (h 0 _ c0 rfl rfl))
    obtain ⟨x1, e1, g1⟩ := (typed_int .i32) [c1] rfl (Go.Fm.one_cell (h 1 _ c1 rfl rfl))
    obtain rfl := (List.cons.inj e0).1
    obtain rfl := (List.cons.inj e1).1
    exact ⟨(⟨x0, x1⟩ : GSlot), rfl, ⟨g0, g1⟩⟩
theorem typed_GSt : Typed [.sl [.int .i32], .sl [.int .i64, .int .i32], .int .i32, .sl [.int .i32], .sl [.int .u32], .sl [.int .i64], .sl [.int .u8], .sl [.int .u8], .int .i64, .int .i64] GSt.cs (fun x : GSt => (fun xs : List Int => xs.length ≤ maxLen ∧ ∀ x ∈ xs, (fun n : Int => (Lit.int .i32 n).wf = true) x) x.Data ∧ (fun xs : List GSlot => xs.length ≤ maxLen ∧ ∀ x ∈ xs, (fun x : GSlot => (fun n : Int => (Lit.int .i64 n).wf = true) x.Kind ∧ (fun n : Int => (Lit.int .i32 n).wf = true) x.N) x) x.Ret ∧ (fun n : Int => (Lit.int .i32 n).wf = true) x.A ∧ (fun xs : List Int => xs.length ≤ maxLen ∧ ∀ x ∈ xs, (fun n : Int => (Lit.int .i32 n).wf = true) x) x.Mem ∧ (fun xs : List Int => xs.length ≤ maxLen ∧ ∀ x ∈ xs, (fun n : Int => (Lit.int .u32 n).wf = true) x) x.Cells ∧ (fun xs : List Int => xs.length ≤ maxLen ∧ ∀ x ∈ xs, (fun n : Int => (Lit.int .i64 n).wf = true) x) x.Vars ∧ (fun xs : List Int => xs.length ≤ maxLen ∧ ∀ x ∈ xs, (fun n : Int => (Lit.int .u8 n).wf = true) x) x.Out ∧ (fun xs : List Int => xs.length ≤ maxLen ∧ ∀ x ∈ xs, (fun n : Int => (Lit.int .u8 n).wf = true) x) x.In ∧ (fun n : Int => (Lit.int .i64 n).wf = true) x.Fault ∧ (fun n : Int => (Lit.int .i64 n).wf = true) x.Fuel) := fun row hl h => by
  match row, hl with
  | [c0, c1, c2, c3, c4, c5, c6, c7, c8, c9], _ =>
    obtain ⟨x0, e0, g0⟩ := (typed_sl (typed_int .i32) rfl (by decide)) [c0] rfl (Go.Fm.one_cell (h 0 _ c0 rfl rfl))
    obtain ⟨x1, e1, g1⟩ := (typed_sl (typed_GSlot) rfl (by decide)) [c1] rfl (Go.Fm.one_cell (h 1 _ c1 rfl rfl))
    obtain ⟨x2, e2, g2⟩ := (typed_int .i32) [c2] rfl (Go.Fm.one_cell (h 2 _ c2 rfl rfl))
    obtain ⟨x3, e3, g3⟩ := (typed_sl (typed_int .i32) rfl (by decide)) [c3] rfl (Go.Fm.one_cell (h 3 _ c3 rfl rfl))
    obtain ⟨x4, e4, g4⟩ := (typed_sl (typed_int .u32) rfl (by decide)) [c4] rfl (Go.Fm.one_cell (h 4 _ c4 rfl rfl))
    obtain ⟨x5, e5, g5⟩ := (typed_sl (typed_int .i64) rfl (by decide)) [c5] rfl (Go.Fm.one_cell (h 5 _ c5 rfl rfl))
    obtain ⟨x6, e6, g6⟩ := (typed_sl (typed_int .u8) rfl (by decide)) [c6] rfl (Go.Fm.one_cell (h 6 _ c6 rfl rfl))
    obtain ⟨x7, e7, g7⟩ := (typed_sl (typed_int .u8) rfl (by decide)) [c7] rfl (Go.Fm.one_cell (h 7 _ c7 rfl rfl))
    obtain ⟨x8, e8, g8⟩ := (typed_int .i64) [c8] rfl (Go.Fm.one_cell (h 8 _ c8 rfl rfl))
    obtain ⟨x9, e9, g9⟩ := (typed_int .i64) [c9] rfl (Go.Fm.one_cell (h 9 _ c9 rfl rfl))
    obtain rfl := (List.cons.inj e0).1
    obtain rfl := (List.cons.inj e1).1
    obtain rfl := (List.cons.inj e2).1
    obtain rfl := (List.cons.inj e3).1
    obtain rfl := (List.cons.inj e4).1
    obtain rfl := (List.cons.inj e5).1
    obtain rfl := (List.cons.inj e6).1
    obtain rfl := (List.cons.inj e7).1
    obtain rfl := (List.cons.inj e8).1
    obtain rfl := (List.cons.inj e9).1
    exact ⟨(⟨x0, x1, x2, x3, x4, x5, x6, x7, x8, x9⟩ : GSt), rfl, ⟨g0, g1, g2, g3, g4, g5, g6, g7, g8, g9⟩⟩
theorem ans_FnExactStText (x0 : GSt) (g0 : (fun x : GSt => (fun xs : List Int => xs.length ≤ maxLen ∧ ∀ x ∈ xs, (fun n : Int => (Lit.int .i32 n).wf = true) x) x.Data ∧ (fun xs : List GSlot => xs.length ≤ maxLen ∧ ∀ x ∈ xs, (fun x : GSlot => (fun n : Int => (Lit.int .i64 n).wf = true) x.Kind ∧ (fun n : Int => (Lit.int .i32 n).wf = true) x.N) x) x.Ret ∧ (fun n : Int => (Lit.int .i32 n).wf = true) x.A ∧ (fun xs : List Int => xs.length ≤ maxLen ∧ ∀ x ∈ xs, (fun n : Int => (Lit.int .i32 n).wf = true) x) x.Mem ∧ (fun xs : List Int => xs.length ≤ maxLen ∧ ∀ x ∈ xs, (fun n : Int => (Lit.int .u32 n).wf = true) x) x.Cells ∧ (fun xs : List Int => xs.length ≤ maxLen ∧ ∀ x ∈ xs, (fun n : Int => (Lit.int .i64 n).wf = true) x) x.Vars ∧ (fun xs : List Int => xs.length ≤ maxLen ∧ ∀ x ∈ xs, (fun n : Int => (Lit.int .u8 n).wf = true) x) x.Out ∧ (fun xs : List Int => xs.length ≤ maxLen ∧ ∀ x ∈ xs, (fun n : Int => (Lit.int .u8 n).wf = true) x) x.In ∧ (fun n : Int => (Lit.int .i64 n).wf = true) x.Fault ∧ (fun n : Int => (Lit.int .i64 n).wf = true) x.Fuel) x0) :
    Ans Tryd.prog 3 [.agg [.imm 1 x0.Data.length (x0.Data.flatMap (eI .i32)), .imm 2 x0.Ret.length (x0.Ret.flatMap GSlot.cs), .int .i32 x0.A, .imm 1 x0.Mem.length (x0.Mem.flatMap (eI .i32)), .imm 1 x0.Cells.length (x0.Cells.flatMap (eI .u32)), .imm 1 x0.Vars.length (x0.Vars.flatMap (eI .i64)), .imm 1 x0.Out.length (x0.Out.flatMap (eI .u8)), .imm 1 x0.In.length (x0.In.flatMap (eI .u8)), .int .i64 x0.Fault, .int .i64 x0.Fuel]] [] fun v _ => v = Go.Fm.one (.bool true) := fun hm => by
  obtain ⟨r, h1, a, b, c, _⟩ := ce_laws_FnExactStText (x0) true (good_pure rfl rfl) (law_stText (st_num x0 g0).1 (st_num x0 g0).2) hm
  exact ⟨r, h1, a, b⟩
end Go.Proofs.YtceiajigccclnaaDoor
