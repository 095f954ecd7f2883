import Derived.Test.YtjdccepbhpdkcaaDoorCS
import Derived.Shelf.Sort.Plain
import Derived.KernelRfl
set_option linter.all false
namespace Go.Proofs.YtjdccepbhpdkcaaDoor
open Go Go.Fm
set_option maxRecDepth 100000
abbrev Bs := List UInt8
structure GOp where
  Kind : Int
  N : Int
  deriving DecidableEq, Inhabited
structure GTree where
  Kind : Int
  N : Int
  Kids : List GTree
  deriving Inhabited
def GOp.cs (x : GOp) : List CV := [.int .i64 x.Kind, .int .i32 x.N]
mutual
def GTree.cs : GTree → List CV
  | ⟨x_Kind, x_N, x_Kids⟩ => [.int .i64 x_Kind, .int .i32 x_N, .imm 3 x_Kids.length (GTree.css x_Kids)]
def GTree.css : List GTree → List CV
  | [] => []
  | x :: r => GTree.cs x ++ GTree.css r
end
theorem GTree.css_eq : ∀ l : List GTree, GTree.css l = l.flatMap GTree.cs
  | [] => rfl
  | x :: r => by rw [GTree.css, GTree.css_eq r]; rfl
theorem GTree.cs_eq (x : GTree) : x.cs = [.int .i64 x.Kind, .int .i32 x.N, .imm 3 x.Kids.length (x.Kids.flatMap GTree.cs)] := by
  cases x; rw [GTree.cs]; simp only [GTree.css_eq]
instance : StTy := ⟨fun n => match n with | 0 => GOp | 1 => GTree | _ => Unit, fun n => match n with | 0 => 2 | 1 => 3 | _ => 0, lkA [(84, 0), (86, 0), (123, 1)]⟩
noncomputable instance : StCs := ⟨fun n => match n with | 0 => GOp.cs | 1 => GTree.cs | _ => fun _ => []⟩
noncomputable def GOp.lv (x : GOp) : List TC := [.int .i64 x.Kind, .int .i32 x.N]
noncomputable def GOp.of : List TC → Option GOp
  | [c0, c1] => (tInt .i64 c0).bind fun x0 => (tInt .i32 c1).bind fun x1 => some ⟨x0, x1⟩
  | _ => none
theorem GOp.made {l : List TC} {v : GOp} (h : GOp.of l = some v) : CRs l v.lv := by
  match l, h with
  | [c0, c1], h =>
    obtain ⟨x0, e0, h⟩ := bS h
    obtain ⟨x1, e1, h⟩ := bS h
    cases h
    exact ⟨tInt_cr e0, tInt_cr e1, trivial⟩
noncomputable def GTree.lv (x : GTree) : List TC := [.int .i64 x.Kind, .int .i32 x.N, .imm (.st 1) x.Kids]
noncomputable def GTree.of : List TC → Option GTree
  | [c0, c1, c2] => (tInt .i64 c0).bind fun x0 => (tInt .i32 c1).bind fun x1 => (tImm (.st 1) c2).bind fun x2 => some ⟨x0, x1, x2⟩
  | _ => none
theorem GTree.made {l : List TC} {v : GTree} (h : GTree.of l = some v) : CRs l v.lv := by
  match l, h with
  | [c0, c1, c2], h =>
    obtain ⟨x0, e0, h⟩ := bS h
    obtain ⟨x1, e1, h⟩ := bS h
    obtain ⟨x2, e2, h⟩ := bS h
    cases h
    exact ⟨tInt_cr e0, tInt_cr e1, tImm_cr e2, trivial⟩
noncomputable instance : Structs where
  leaves := fun n => match n with | 0 => GOp.lv | 1 => GTree.lv | _ => fun _ => []
  make := fun n => match n with | 0 => GOp.of | 1 => GTree.of | _ => fun _ => none
  plain := fun n => match n with | 0 => true | 1 => false | _ => false
  lt := fun n => match n with | 0 => [.bool, .bool] | 1 => [.bool, .bool, (.st 1)] | _ => []
  len := fun n v => match n, v with | 0, _ => rfl | 1, _ => rfl | _ + 2, _ => rfl
  conc := fun n v => match n, v with | 0, _ => rfl | 1, v => (GTree.cs_eq v).symm | _ + 2, _ => rfl
  pure := fun n v => match n, v with | 0, _ => rfl | 1, _ => rfl | _ + 2, _ => rfl
  made := fun n l v h => match n, v, h with | 0, v, h => GOp.made h | 1, v, h => GTree.made h | _ + 2, _, h => nomatch h
  flat := fun n v h => match n, v, h with | 0, _, _ => rfl | 1, _, h => nomatch h | _ + 2, _, h => nomatch h
noncomputable instance : Tabs := ⟨fun g => match g with | 0 => some ⟨.int .u8, gtAscii⟩ | _ => none, fun g => match g with | 0 => rfl | _ + 1 => rfl⟩
abbrev K0 : Ty := .int .i64
abbrev K2 : Ty := .st 0
abbrev K3 : Ty := .list K2
abbrev K4 : Ty := .str
abbrev K5 : Ty := .list K4
abbrev K6 : Ty := .bool
abbrev K7 : Ty := .list K0
abbrev K8 : Ty := .int .u8
end Go.Proofs.YtjdccepbhpdkcaaDoor
namespace Go.Proofs.YtjdccepbhpdkcaaDoor
open Go Go.Fm
set_option maxRecDepth 1000000
def g_laws_szOpS (a_1 : List GOp) (left_2 : Int) : Option Int := cond (decide ((IntKind.wrap .i64 (left_2 - (a_1.length : Int))) < 0)) (some (-1)) (some (IntKind.wrap .i64 (left_2 - (a_1.length : Int))))
def g_laws_toOp (a_1 : GOp) : Option GOp := some a_1
def g_laws_toOpS_l0 (a_1 : List GOp) : Nat → (List GOp) → Int → Option (List GOp)
  | 0, _, _ => none
  | k + 1, out_5, i_6 => cond (decide (i_6 < (a_1.length : Int))) ((getI a_1 i_6).bind fun v_8 => (g_laws_toOp v_8).bind fun y_9 => (getI out_5 i_6).bind fun v_10 => g_laws_toOpS_l0 a_1 k (out_5.set i_6.toNat y_9) (IntKind.wrap .i64 (i_6 + 1))) (some out_5)
def g_laws_toOpS (a_1 : List GOp) : Option (List GOp) := (mk ((⟨0, 0⟩ : GOp) : GOp) (a_1.length : Int)).bind fun v_3 => ((g_laws_toOpS_l0 a_1 bigK v_3 0).bind fun out_7 => some out_7 : Option ((List GOp))).bind fun out_4 => some out_4
def g_spec_l08Names : Option (List Bs) := some [[100, 117, 112], [100, 114, 111, 112], [111, 118, 101, 114], [110, 105, 112], [115, 119, 97, 112], [43], [45], [42], [97, 110, 100], [111, 114], [50, 42], [50, 47], [47, 109, 111, 100], [64], [33], [97], [97, 33], [101, 109, 105, 116], [107, 101, 121], [112, 117, 115, 104], [112, 111, 112], [105], [46], [110, 111, 112]]
def g_spec_l01In (x_1 : Int) (a_2 : Int) (b_3 : Int) : Option Bool := cond (decide (x_1 ≥ a_2)) (some (decide (x_1 ≤ b_3))) (some false)
def g_spec_PrimName (k_1 : Int) : Option Bs := (g_spec_l08Names).bind fun y_3 => (g_spec_l01In k_1 0 (IntKind.wrap .i64 ((y_3.length : Int) - 1))).bind fun y_4 => cond (!y_4) (some []) ((getI y_3 k_1).bind fun v_5 => some v_5)
def g_spec_l09Op (o_1 : GOp) : Option Bool := cond (o_1.Kind == 0) (some true) (cond (o_1.Kind == 1) ((g_spec_PrimName (IntKind.wrap .i64 o_1.N)).bind fun y_3 => some (y_3 != [])) (cond (o_1.Kind == 2) ((g_spec_l01In (IntKind.wrap .i64 o_1.N) 0 23).bind fun y_4 => some y_4) ((g_spec_l01In o_1.Kind 3 8).bind fun y_5 => cond y_5 (some (o_1.N == 0)) (some false))))
def g_spec_l09Open_l0 (body_1 : List GOp) : Nat → (List Int) → Int → Option ((List Int) ⊕ Bool)
  | 0, _, _ => none
  | k + 1, vopen_6, i_7 => cond (decide (i_7 < (body_1.length : Int))) (((getI body_1 i_7).bind fun v_12 => (cond (v_12.Kind == 3) (some (v_12.Kind == 3)) (cond (v_12.Kind == 4) (some (v_12.Kind == 4)) (some (v_12.Kind == 6))) : Option (Bool)).bind fun v_13 => cond v_13 ((app vopen_6 [v_12.Kind]).bind fun v_14 => some (.inl v_14)) ((cond (v_12.Kind == 5) (some (v_12.Kind == 5)) (some (v_12.Kind == 7)) : Option (Bool)).bind fun v_15 => cond v_15 ((cond ((vopen_6.length : Int) == 0) (some true) ((getI vopen_6 (IntKind.wrap .i64 ((vopen_6.length : Int) - 1))).bind fun v_17 => some ((v_17 == 6) != (v_12.Kind == 7))) : Option (Bool)).bind fun v_16 => cond v_16 (some (.inr false)) ((subL vopen_6 0 (IntKind.wrap .i64 ((vopen_6.length : Int) - 1))).bind fun v_18 => some (.inl v_18))) (some (.inl vopen_6))) : Option ((List Int) ⊕ Bool)).bind fun o => match o with | .inl vopen_10 => g_spec_l09Open_l0 body_1 k vopen_10 (IntKind.wrap .i64 (i_7 + 1)) | .inr v_11 => some (.inr v_11)) (some (.inl vopen_6))
def g_spec_l09Open (body_1 : List GOp) : Option ((List Int) × Bool) := ((g_spec_l09Open_l0 body_1 bigK ([] : List Int) 0).bind fun o => match o with | .inl vopen_8 => some (.inl vopen_8) | .inr v_9 => some (.inr v_9) : Option ((List Int) ⊕ Bool)).bind fun o => match o with | .inl vopen_4 => some (vopen_4, true) | .inr v_5 => some ([], v_5)
def g_spec_ShapeOk_l0 (body_1 : List GOp) : Nat → Int → Option (Unit ⊕ Bool)
  | 0, _ => none
  | k + 1, i_4 => cond (decide (i_4 < (body_1.length : Int))) ((getI body_1 i_4).bind fun v_6 => (g_spec_l09Op v_6).bind fun y_7 => cond (!y_7) (some (.inr false)) (g_spec_ShapeOk_l0 body_1 k (IntKind.wrap .i64 (i_4 + 1)))) (some (.inl ()))
def g_spec_ShapeOk (body_1 : List GOp) : Option Bool := cond (decide ((body_1.length : Int) > 60)) (some false) (((g_spec_ShapeOk_l0 body_1 bigK 0).bind fun o => match o with | .inl () => some (.inl ()) | .inr v_5 => some (.inr v_5) : Option (Unit ⊕ Bool)).bind fun o => match o with | .inl () => (g_spec_l09Open body_1).bind fun y_8 => cond y_8.2 (some ((y_8.1.length : Int) == 0)) (some false) | .inr v_3 => some v_3)
def g_spec_l20Put_l0 (list_1 : List Int) (n_2 : Int) : Nat → Int → Option Int
  | 0, _ => none
  | k + 1, vat_4 => (cond (decide (vat_4 < (list_1.length : Int))) ((getI list_1 vat_4).bind fun v_7 => some (decide (v_7 < n_2))) (some false) : Option (Bool)).bind fun v_6 => cond v_6 (g_spec_l20Put_l0 list_1 n_2 k (IntKind.wrap .i64 (vat_4 + 1))) (some vat_4)
def g_spec_l20Put (list_1 : List Int) (n_2 : Int) : Option (List Int) := (g_spec_l20Put_l0 list_1 n_2 bigK 0).bind fun vat_5 => (cond (decide (vat_5 < (list_1.length : Int))) ((getI list_1 vat_5).bind fun v_9 => some (v_9 == n_2)) (some false) : Option (Bool)).bind fun v_8 => cond v_8 (some list_1) ((subL list_1 0 vat_5).bind fun v_10 => (app ([] : List Int) v_10).bind fun v_11 => (app v_11 [n_2]).bind fun v_12 => (subL list_1 vat_5 (list_1.length : Int)).bind fun v_13 => (app v_12 v_13).bind fun v_14 => some v_14)
def g_spec_CallsOf_l0 (body_1 : List GOp) : Nat → (List Int) → Int → Option (List Int)
  | 0, _, _ => none
  | k + 1, out_5, i_6 => cond (decide (i_6 < (body_1.length : Int))) (((getI body_1 i_6).bind fun v_9 => cond (v_9.Kind == 2) ((getI body_1 i_6).bind fun v_10 => (g_spec_l20Put out_5 (IntKind.wrap .i64 v_10.N)).bind fun y_11 => some y_11) (some out_5) : Option ((List Int))).bind fun out_8 => g_spec_CallsOf_l0 body_1 k out_8 (IntKind.wrap .i64 (i_6 + 1))) (some out_5)
def g_spec_CallsOf (body_1 : List GOp) : Option (List Int) := (g_spec_ShapeOk body_1).bind fun y_3 => cond (!y_3) (some ([] : List Int)) (((g_spec_CallsOf_l0 body_1 bigK ([] : List Int) 0).bind fun out_7 => some out_7 : Option ((List Int))).bind fun out_4 => some out_4)
def g_strings_Fields_l0 (s_1 : Bs) : Nat → Int → Int → Int → Int → Option (Int × Int)
  | 0, _, _, _, _ => none
  | k + 1, n_5, wasSpace_6, setBits_7, i_8 => cond (decide (i_8 < (s_1.length : Int))) ((idxS s_1 i_8).bind fun v_11 => (getI gtAscii v_11).bind fun v_12 => g_strings_Fields_l0 s_1 k (IntKind.wrap .i64 (n_5 + (andI .i64 wasSpace_6 (notI .i64 (IntKind.wrap .i64 v_12))))) (IntKind.wrap .i64 v_12) (orI .u8 setBits_7 v_11) (IntKind.wrap .i64 (i_8 + 1))) (some (n_5, setBits_7))
def g_strings_Fields_l1 (s_1 : Bs) : Nat → Int → Option Int
  | 0, _ => none
  | k + 1, i_15 => (cond (decide (i_15 < (s_1.length : Int))) ((idxS s_1 i_15).bind fun v_18 => (getI gtAscii v_18).bind fun v_19 => some (v_19 != 0)) (some false) : Option (Bool)).bind fun v_17 => cond v_17 (g_strings_Fields_l1 s_1 k (IntKind.wrap .i64 (i_15 + 1))) (some i_15)
def g_strings_Fields_l3 (s_1 : Bs) : Nat → Int → Option Int
  | 0, _ => none
  | k + 1, i_33 => (cond (decide (i_33 < (s_1.length : Int))) ((idxS s_1 i_33).bind fun v_36 => (getI gtAscii v_36).bind fun v_37 => some (v_37 != 0)) (some false) : Option (Bool)).bind fun v_35 => cond v_35 (g_strings_Fields_l3 s_1 k (IntKind.wrap .i64 (i_33 + 1))) (some i_33)
def g_strings_Fields_l2 (s_1 : Bs) : Nat → (List Bs) → Int → Int → Int → Option ((List Bs) × Int × Int)
  | 0, _, _, _, _ => none
  | k + 1, a_20, na_21, fieldStart_22, i_23 => cond (decide (i_23 < (s_1.length : Int))) ((idxS s_1 i_23).bind fun v_27 => (getI gtAscii v_27).bind fun v_28 => cond (v_28 == 0) (g_strings_Fields_l2 s_1 k a_20 na_21 fieldStart_22 (IntKind.wrap .i64 (i_23 + 1))) ((subL s_1 fieldStart_22 i_23).bind fun v_29 => (getI a_20 na_21).bind fun v_30 => (g_strings_Fields_l3 s_1 bigK (IntKind.wrap .i64 (i_23 + 1))).bind fun i_34 => g_strings_Fields_l2 s_1 k (a_20.set na_21.toNat v_29) (IntKind.wrap .i64 (na_21 + 1)) i_34 i_34)) (some (a_20, na_21, fieldStart_22))
def g_strings_Fields (s_1 : Bs) : Option (List Bs) := ((g_strings_Fields_l0 s_1 bigK 0 1 0 0).bind fun (n_9, setBits_10) => some (n_9, setBits_10) : Option ((Int × Int))).bind fun (n_3, setBits_4) => cond (decide (setBits_4 ≥ 128)) (none) ((mk ([] : Bs) n_3).bind fun v_13 => (g_strings_Fields_l1 s_1 bigK 0).bind fun i_16 => (g_strings_Fields_l2 s_1 bigK v_13 0 i_16 i_16).bind fun (a_24, na_25, fieldStart_26) => (cond (decide (fieldStart_26 < (s_1.length : Int))) ((subL s_1 fieldStart_26 (s_1.length : Int)).bind fun v_39 => (getI a_24 na_25).bind fun v_40 => some (a_24.set na_25.toNat v_39)) (some a_24) : Option ((List Bs))).bind fun a_38 => some a_38)
def g_impl_prims : Option (List Bs) := (g_strings_Fields [100, 117, 112, 32, 100, 114, 111, 112, 32, 111, 118, 101, 114, 32, 110, 105, 112, 32, 115, 119, 97, 112, 32, 43, 32, 45, 32, 42, 32, 97, 110, 100, 32, 111, 114, 32, 50, 42, 32, 50, 47, 32, 47, 109, 111, 100, 32, 64, 32, 33, 32, 97, 32, 97, 33, 32, 101, 109, 105, 116, 32, 107, 101, 121, 32, 112, 117, 115, 104, 32, 112, 111, 112, 32, 105, 32, 46, 32, 110, 111, 112]).bind fun y_2 => some y_2
def g_impl_within (n_1 : Int) (low_2 : Int) (high_3 : Int) : Option Bool := cond (decide (low_2 ≤ n_1)) (some (decide (n_1 ≤ high_3))) (some false)
def g_impl_PrimName (k_1 : Int) : Option Bs := (g_impl_prims).bind fun y_3 => (g_impl_within k_1 0 (IntKind.wrap .i64 ((y_3.length : Int) - 1))).bind fun y_4 => cond y_4 ((getI y_3 k_1).bind fun v_5 => some v_5) (some [])
def g_impl_opOk (o_1 : GOp) : Option Bool := cond (o_1.Kind == 0) (some true) (cond (o_1.Kind == 1) ((g_impl_PrimName (IntKind.wrap .i64 o_1.N)).bind fun y_3 => some (y_3 != [])) (cond (o_1.Kind == 2) ((g_impl_within (IntKind.wrap .i64 o_1.N) 0 23).bind fun y_4 => some y_4) ((g_impl_within o_1.Kind 3 8).bind fun y_5 => cond y_5 (some (o_1.N == 0)) (some false))))
def g_impl_openIn_l0 (v_7 : List GOp) (v_8 : Int) : Nat → (List Int) → Int → Option ((List Int) ⊕ ((List Int) × Bool))
  | 0, _, _ => none
  | k + 1, vopen_9, v_10 => cond (decide (v_10 < v_8)) (((getI v_7 v_10).bind fun v_17 => (g_impl_opOk v_17).bind fun y_18 => cond (!y_18) (some (.inr ([], false))) ((cond (v_17.Kind == 3) (some true) (cond (v_17.Kind == 4) (some true) (some (v_17.Kind == 6))) : Option (Bool)).bind fun v_19 => cond v_19 ((app vopen_9 [v_17.Kind]).bind fun v_20 => some (.inl v_20)) ((cond (v_17.Kind == 5) (some true) (some (v_17.Kind == 7)) : Option (Bool)).bind fun v_21 => cond v_21 ((cond (decide ((IntKind.wrap .i64 ((vopen_9.length : Int) - 1)) < 0)) (some true) ((getI vopen_9 (IntKind.wrap .i64 ((vopen_9.length : Int) - 1))).bind fun v_23 => some ((v_23 == 6) != (v_17.Kind == 7))) : Option (Bool)).bind fun v_22 => cond v_22 (some (.inr ([], false))) ((subL vopen_9 0 (IntKind.wrap .i64 ((vopen_9.length : Int) - 1))).bind fun v_24 => some (.inl v_24))) (some (.inl vopen_9)))) : Option ((List Int) ⊕ ((List Int) × Bool))).bind fun o => match o with | .inl vopen_14 => g_impl_openIn_l0 v_7 v_8 k vopen_14 (IntKind.wrap .i64 (v_10 + 1)) | .inr (v_15, v_16) => some (.inr (v_15, v_16))) (some (.inl vopen_9))
def g_impl_openIn (body_1 : List GOp) : Option ((List Int) × Bool) := ((g_impl_openIn_l0 body_1 (body_1.length : Int) bigK ([] : List Int) 0).bind fun o => match o with | .inl vopen_11 => some (.inl vopen_11) | .inr (v_12, v_13) => some (.inr (v_12, v_13)) : Option ((List Int) ⊕ ((List Int) × Bool))).bind fun o => match o with | .inl vopen_4 => some (vopen_4, decide ((body_1.length : Int) ≤ 60)) | .inr (v_5, v_6) => some (v_5, v_6)
def g_impl_ShapeOk (body_1 : List GOp) : Option Bool := (g_impl_openIn body_1).bind fun y_3 => cond y_3.2 (some ((y_3.1.length : Int) == 0)) (some false)
def g_slices_Index_int_l0 (s_1 : List Int) (v_2 : Int) (v_5 : Int) : Nat → Int → Option (Unit ⊕ Int)
  | 0, _ => none
  | k + 1, v_6 => cond (decide (v_6 < v_5)) ((getI s_1 v_6).bind fun v_8 => cond (v_2 == v_8) (some (.inr v_6)) (g_slices_Index_int_l0 s_1 v_2 v_5 k (IntKind.wrap .i64 (v_6 + 1)))) (some (.inl ()))
def g_slices_Index_int (s_1 : List Int) (v_2 : Int) : Option Int := ((g_slices_Index_int_l0 s_1 v_2 (s_1.length : Int) bigK 0).bind fun o => match o with | .inl () => some (.inl ()) | .inr v_7 => some (.inr v_7) : Option (Unit ⊕ Int)).bind fun o => match o with | .inl () => some (-1) | .inr v_4 => some v_4
def g_slices_Contains_int (s_1 : List Int) (v_2 : Int) : Option Bool := (g_slices_Index_int s_1 v_2).bind fun y_4 => some (decide (y_4 ≥ 0))
def g_slices_Sort_int (x_1 : List Int) : Option (List Int) := gSort x_1
def g_impl_callsOf_l0 (v_4 : List GOp) (v_5 : Int) : Nat → (List Int) → Int → Option (List Int)
  | 0, _, _ => none
  | k + 1, out_6, v_7 => cond (decide (v_7 < v_5)) (((getI v_4 v_7).bind fun v_10 => (cond (v_10.Kind == 2) ((g_slices_Contains_int out_6 (IntKind.wrap .i64 v_10.N)).bind fun y_12 => some (!y_12)) (some false) : Option (Bool)).bind fun v_11 => cond v_11 ((app out_6 [IntKind.wrap .i64 v_10.N]).bind fun v_13 => some v_13) (some out_6) : Option ((List Int))).bind fun out_9 => g_impl_callsOf_l0 v_4 v_5 k out_9 (IntKind.wrap .i64 (v_7 + 1))) (some out_6)
def g_impl_callsOf (body_1 : List GOp) : Option (List Int) := ((g_impl_callsOf_l0 body_1 (body_1.length : Int) bigK ([] : List Int) 0).bind fun out_8 => some out_8 : Option ((List Int))).bind fun out_3 => (g_slices_Sort_int out_3).bind fun y_14 => some y_14
def g_impl_CallsOf (body_1 : List GOp) : Option (List Int) := (g_impl_ShapeOk body_1).bind fun y_3 => cond (!y_3) (some []) ((g_impl_callsOf body_1).bind fun y_4 => some y_4)
def g_laws_eqIntS_l0 (a_1 : List Int) (b_2 : List Int) : Nat → Int → Option (Unit ⊕ Bool)
  | 0, _ => none
  | k + 1, i_5 => cond (decide (i_5 < (a_1.length : Int))) ((getI a_1 i_5).bind fun v_7 => (getI b_2 i_5).bind fun v_8 => cond (v_7 != v_8) (some (.inr false)) (g_laws_eqIntS_l0 a_1 b_2 k (IntKind.wrap .i64 (i_5 + 1)))) (some (.inl ()))
def g_laws_eqIntS (a_1 : List Int) (b_2 : List Int) : Option Bool := cond ((a_1.length : Int) != (b_2.length : Int)) (some false) (((g_laws_eqIntS_l0 a_1 b_2 bigK 0).bind fun o => match o with | .inl () => some (.inl ()) | .inr v_6 => some (.inr v_6) : Option (Unit ⊕ Bool)).bind fun o => match o with | .inl () => some true | .inr v_4 => some v_4)
def g_laws_eqOp (a_1 : GOp) (b_2 : GOp) : Option Bool := cond (a_1.Kind != b_2.Kind) (some false) (cond (a_1.N != b_2.N) (some false) (some true))
def g_laws_eqOpS_l0 (a_1 : List GOp) (b_2 : List GOp) : Nat → Int → Option (Unit ⊕ Bool)
  | 0, _ => none
  | k + 1, i_5 => cond (decide (i_5 < (a_1.length : Int))) ((getI a_1 i_5).bind fun v_7 => (getI b_2 i_5).bind fun v_8 => (g_laws_eqOp v_7 v_8).bind fun y_9 => cond (!y_9) (some (.inr false)) (g_laws_eqOpS_l0 a_1 b_2 k (IntKind.wrap .i64 (i_5 + 1)))) (some (.inl ()))
def g_laws_eqOpS (a_1 : List GOp) (b_2 : List GOp) : Option Bool := cond ((a_1.length : Int) != (b_2.length : Int)) (some false) (((g_laws_eqOpS_l0 a_1 b_2 bigK 0).bind fun o => match o with | .inl () => some (.inl ()) | .inr v_6 => some (.inr v_6) : Option (Unit ⊕ Bool)).bind fun o => match o with | .inl () => some true | .inr v_4 => some v_4)
def g_laws_markOpS_l0 : Nat → (List GOp) → Int → Int → Option (Int × (List GOp))
  | 0, _, _, _ => none
  | k + 1, a_8, k_9, i_10 => cond (decide (i_10 < (a_8.length : Int))) ((getI a_8 i_10).bind fun v_13 => (getI (a_8.set i_10.toNat (⟨k_9, v_13.N⟩ : GOp)) i_10).bind fun v_14 => g_laws_markOpS_l0 k ((a_8.set i_10.toNat (⟨k_9, v_13.N⟩ : GOp)).set i_10.toNat (⟨v_14.Kind, IntKind.wrap .i32 (IntKind.wrap .i64 (k_9 + 1))⟩ : GOp)) (IntKind.wrap .i64 ((IntKind.wrap .i64 (k_9 + 1)) + 1)) (IntKind.wrap .i64 (i_10 + 1))) (some (k_9, a_8))
def g_laws_markOpS (a_1 : List GOp) (k_2 : Int) : Option (Int × (List GOp)) := ((g_laws_markOpS_l0 bigK a_1 k_2 0).bind fun (k_11, p_12) => some (k_11, p_12) : Option ((Int × (List GOp)))).bind fun (k_5, p_6) => some (k_5, p_6)
def g_laws_markIntS_l0 : Nat → (List Int) → Int → Int → Option (Int × (List Int))
  | 0, _, _, _ => none
  | k + 1, a_8, k_9, i_10 => cond (decide (i_10 < (a_8.length : Int))) ((getI a_8 i_10).bind fun v_13 => g_laws_markIntS_l0 k (a_8.set i_10.toNat k_9) (IntKind.wrap .i64 (k_9 + 1)) (IntKind.wrap .i64 (i_10 + 1))) (some (k_9, a_8))
def g_laws_markIntS (a_1 : List Int) (k_2 : Int) : Option (Int × (List Int)) := ((g_laws_markIntS_l0 bigK a_1 k_2 0).bind fun (k_11, p_12) => some (k_11, p_12) : Option ((Int × (List Int)))).bind fun (k_5, p_6) => some (k_5, p_6)
def g_laws_heldIntS_l0 (a_1 : List Int) : Nat → Int → Int → Option (Int ⊕ Int)
  | 0, _, _ => none
  | k + 1, k_6, i_7 => cond (decide (i_7 < (a_1.length : Int))) ((getI a_1 i_7).bind fun v_10 => cond (v_10 != k_6) (some (.inr (-1))) (g_laws_heldIntS_l0 a_1 k (IntKind.wrap .i64 (k_6 + 1)) (IntKind.wrap .i64 (i_7 + 1)))) (some (.inl k_6))
def g_laws_heldIntS (a_1 : List Int) (k_2 : Int) : Option Int := ((g_laws_heldIntS_l0 a_1 bigK k_2 0).bind fun o => match o with | .inl k_8 => some (.inl k_8) | .inr v_9 => some (.inr v_9) : Option (Int ⊕ Int)).bind fun o => match o with | .inl k_4 => some k_4 | .inr v_5 => some v_5
def g_laws_FnExactCallsOf (aBody_1 : List GOp) : Option Bool := (g_laws_szOpS aBody_1 1048576).bind fun y_3 => cond (decide (y_3 < 0)) (some true) ((g_laws_toOpS aBody_1).bind fun y_4 => (g_spec_CallsOf y_4).bind fun y_5 => (g_laws_toOpS aBody_1).bind fun y_6 => (g_impl_CallsOf y_6).bind fun y_7 => (g_laws_eqIntS y_7 y_5).bind fun y_8 => cond (!y_8) (some false) ((g_laws_toOpS aBody_1).bind fun y_9 => (g_laws_eqOpS y_6 y_9).bind fun y_10 => cond (!y_10) (some false) ((g_laws_markOpS y_6 1).bind fun y_11 => (cond (decide (y_11.1 < 0)) (some true) ((g_laws_eqIntS y_7 y_5).bind fun y_13 => some (!y_13)) : Option (Bool)).bind fun v_12 => cond v_12 (some false) ((g_laws_markIntS y_7 1).bind fun y_14 => (g_laws_heldIntS y_14.2 1).bind fun y_15 => cond (decide (y_15 < 0)) (some false) (cond (y_15 != y_14.1) (some false) ((g_laws_toOpS aBody_1).bind fun y_16 => (g_impl_CallsOf y_16).bind fun y_17 => (g_laws_eqIntS y_17 y_5).bind fun y_18 => cond (!y_18) (some false) ((g_laws_heldIntS y_14.2 1).bind fun y_19 => cond (decide (y_19 < 0)) (some false) (cond (y_19 != y_14.1) (some false) (some true)))))))))
def bodyOf (f : Func) : Code := match f.body with | some c => c | none => .skip
end Go.Proofs.YtjdccepbhpdkcaaDoor
namespace Go.Proofs.YtjdccepbhpdkcaaDoor
open Go Go.Fm
set_option maxRecDepth 1000000
def sortLays_ren : Go.Shelf.Ren := ⟨fun | 189 => 74 | 125 => 123 | 257 => 122 | 128 => 162 | 129 => 163 | 294 => 153 | 295 => 154 | 296 => 155 | 297 => 156 | 298 => 157 | 299 => 158 | 216 => 159 | 300 => 160 | 301 => 161 | 328 => 187 | 329 => 188 | 330 => 189 | 331 => 190 | 332 => 191 | 215 => 192 | 343 => 197 | n => n, fun | 28 => 30 | 3 => 3 | 46 => 144 | 0 => 0 | 51 => 153 | 53 => 185 | 4 => 4 | 183 => 176 | 182 => 175 | 131 => 181 | 5 => 5 | 9 => 9 | 218 => 203 | 222 => 207 | 228 => 214 | 229 => 215 | n => n, fun | n => n⟩
theorem sortLays : Go.Proofs.Lays.n189 Tryd.prog sortLays_ren where
  mixed := by kernel_rfl
  f125 := Tryd.func123.trans (congrArg some (by kernel_rfl))
  f128 := Tryd.func162.trans (congrArg some (by kernel_rfl))
  f129 := Tryd.func163.trans (congrArg some (by kernel_rfl))
  f189 := Tryd.func74.trans (congrArg some (by kernel_rfl))
  f215 := Tryd.func192.trans (congrArg some (by kernel_rfl))
  f216 := Tryd.func159.trans (congrArg some (by kernel_rfl))
  f257 := Tryd.func122.trans (congrArg some (by kernel_rfl))
  f294 := Tryd.func153.trans (congrArg some (by kernel_rfl))
  f295 := Tryd.func154.trans (congrArg some (by kernel_rfl))
  f296 := Tryd.func155.trans (congrArg some (by kernel_rfl))
  f297 := Tryd.func156.trans (congrArg some (by kernel_rfl))
  f298 := Tryd.func157.trans (congrArg some (by kernel_rfl))
  f299 := Tryd.func158.trans (congrArg some (by kernel_rfl))
  f300 := Tryd.func160.trans (congrArg some (by kernel_rfl))
  f301 := Tryd.func161.trans (congrArg some (by kernel_rfl))
  f328 := Tryd.func187.trans (congrArg some (by kernel_rfl))
  f329 := Tryd.func188.trans (congrArg some (by kernel_rfl))
  f330 := Tryd.func189.trans (congrArg some (by kernel_rfl))
  f331 := Tryd.func190.trans (congrArg some (by kernel_rfl))
  f332 := Tryd.func191.trans (congrArg some (by kernel_rfl))
  f343 := Tryd.func197.trans (congrArg some (by kernel_rfl))
  t0 := Tryd.underlying0
  a0 := Tryd.isAgg0
  z0 := Tryd.sizeOf0
  v0 := Tryd.zeroValue0
  t3 := Tryd.underlying3
  a3 := Tryd.isAgg3
  z3 := Tryd.sizeOf3
  v3 := Tryd.zeroValue3
  t4 := Tryd.underlying4
  a4 := Tryd.isAgg4
  z4 := Tryd.sizeOf4
  v4 := Tryd.zeroValue4
  t5 := Tryd.underlying5
  a5 := Tryd.isAgg5
  z5 := Tryd.sizeOf5
  v5 := Tryd.zeroValue5
  t9 := Tryd.underlying9
  a9 := Tryd.isAgg9
  z9 := Tryd.sizeOf9
  v9 := Tryd.zeroValue9
  t28 := Tryd.underlying30
  a28 := Tryd.isAgg30
  z28 := Tryd.sizeOf30
  v28 := Tryd.zeroValue30
  t46 := Tryd.underlying144
  a46 := Tryd.isAgg144
  z46 := Tryd.sizeOf144
  v46 := Tryd.zeroValue144
  t51 := Tryd.underlying153
  a51 := Tryd.isAgg153
  z51 := Tryd.sizeOf153
  v51 := Tryd.zeroValue153
  t53 := Tryd.underlying185
  a53 := Tryd.isAgg185
  z53 := Tryd.sizeOf185
  v53 := Tryd.zeroValue185
  t131 := Tryd.underlying181
  a131 := Tryd.isAgg181
  z131 := Tryd.sizeOf181
  v131 := Tryd.zeroValue181
  t182 := Tryd.underlying175
  a182 := Tryd.isAgg175
  z182 := Tryd.sizeOf175
  v182 := Tryd.zeroValue175
  t183 := Tryd.underlying176
  a183 := Tryd.isAgg176
  z183 := Tryd.sizeOf176
  v183 := Tryd.zeroValue176
  t218 := Tryd.underlying203
  a218 := Tryd.isAgg203
  z218 := Tryd.sizeOf203
  v218 := Tryd.zeroValue203
  t222 := Tryd.underlying207
  a222 := Tryd.isAgg207
  z222 := Tryd.sizeOf207
  v222 := Tryd.zeroValue207
  t228 := Tryd.underlying214
  a228 := Tryd.isAgg214
  z228 := Tryd.sizeOf214
  v228 := Tryd.zeroValue214
  t229 := Tryd.underlying215
  a229 := Tryd.isAgg215
  z229 := Tryd.sizeOf215
  v229 := Tryd.zeroValue215
end Go.Proofs.YtjdccepbhpdkcaaDoor
namespace Go.Proofs.YtjdccepbhpdkcaaDoor
open Go Go.Fm
set_option maxRecDepth 1000000
noncomputable def e_laws_szOpS : Con := ⟨11, ⟨[(0, .s K3 []), (1, .s K0 [])], []⟩, ⟨[(0, .s K0 [])], []⟩, false, [], fun (a_1, left_2) => g_laws_szOpS a_1 left_2⟩
noncomputable def e_laws_toOp : Con := ⟨55, ⟨[(0, .s K2 [])], []⟩, ⟨[(0, .s K2 [])], []⟩, false, [], fun a_1 => g_laws_toOp a_1⟩
noncomputable def e_laws_toOpS : Con := ⟨13, ⟨[(0, .s K3 [])], []⟩, ⟨[(0, .s K3 [(0, 0)])], [.o]⟩, false, [], fun a_1 => g_laws_toOpS a_1⟩
noncomputable def e_spec_l08Names : Con := ⟨179, ⟨[], []⟩, ⟨[(0, .s K5 [(0, 0)])], [.o]⟩, false, [], fun _ => g_spec_l08Names⟩
noncomputable def e_spec_l01In : Con := ⟨67, ⟨[(0, .s K0 []), (1, .s K0 []), (2, .s K0 [])], []⟩, ⟨[(0, .s K6 [])], []⟩, false, [], fun (x_1, a_2, b_3) => g_spec_l01In x_1 a_2 b_3⟩
noncomputable def e_spec_PrimName : Con := ⟨140, ⟨[(0, .s K0 [])], []⟩, ⟨[(0, .s K4 [])], []⟩, false, [], fun k_1 => g_spec_PrimName k_1⟩
noncomputable def e_spec_l09Op : Con := ⟨97, ⟨[(0, .s K2 [])], []⟩, ⟨[(0, .s K6 [])], []⟩, false, [], fun o_1 => g_spec_l09Op o_1⟩
noncomputable def e_spec_l09Open : Con := ⟨98, ⟨[(0, .s K3 [])], []⟩, ⟨[(0, .s K7 [(0, 0)]), (1, .s K6 [])], [.o]⟩, false, [], fun body_1 => g_spec_l09Open body_1⟩
noncomputable def e_spec_ShapeOk : Con := ⟨51, ⟨[(0, .s K3 [])], []⟩, ⟨[(0, .s K6 [])], []⟩, false, [], fun body_1 => g_spec_ShapeOk body_1⟩
noncomputable def e_spec_l20Put : Con := ⟨63, ⟨[(0, .s K7 []), (1, .s K0 [])], []⟩, ⟨[(0, .s K7 [])], []⟩, true, [], fun (list_1, n_2) => g_spec_l20Put list_1 n_2⟩
noncomputable def e_spec_CallsOf : Con := ⟨20, ⟨[(0, .s K3 [])], []⟩, ⟨[(0, .s K7 [])], []⟩, true, [], fun body_1 => g_spec_CallsOf body_1⟩
noncomputable def e_strings_Fields : Con := ⟨181, ⟨[(0, .s K4 [])], []⟩, ⟨[(0, .s K5 [(0, 0)])], [.o]⟩, false, [], fun s_1 => g_strings_Fields s_1⟩
noncomputable def e_impl_prims : Con := ⟨146, ⟨[], []⟩, ⟨[(0, .s K5 [(0, 0)])], [.o]⟩, false, [], fun _ => g_impl_prims⟩
noncomputable def e_impl_within : Con := ⟨71, ⟨[(0, .s K0 []), (1, .s K0 []), (2, .s K0 [])], []⟩, ⟨[(0, .s K6 [])], []⟩, false, [], fun (n_1, low_2, high_3) => g_impl_within n_1 low_2 high_3⟩
noncomputable def e_impl_PrimName : Con := ⟨112, ⟨[(0, .s K0 [])], []⟩, ⟨[(0, .s K4 [])], []⟩, false, [], fun k_1 => g_impl_PrimName k_1⟩
noncomputable def e_impl_opOk : Con := ⟨141, ⟨[(0, .s K2 [])], []⟩, ⟨[(0, .s K6 [])], []⟩, false, [], fun o_1 => g_impl_opOk o_1⟩
noncomputable def e_impl_openIn : Con := ⟨101, ⟨[(0, .s K3 [])], []⟩, ⟨[(0, .s K7 [(0, 0)]), (1, .s K6 [])], [.o]⟩, false, [], fun body_1 => g_impl_openIn body_1⟩
noncomputable def e_impl_ShapeOk : Con := ⟨56, ⟨[(0, .s K3 [])], []⟩, ⟨[(0, .s K6 [])], []⟩, false, [], fun body_1 => g_impl_ShapeOk body_1⟩
noncomputable def e_slices_Index_int : Con := ⟨82, ⟨[(0, .s K7 []), (1, .s K0 [])], []⟩, ⟨[(0, .s K0 [])], []⟩, false, [], fun (s_1, v_2) => g_slices_Index_int s_1 v_2⟩
noncomputable def e_slices_Contains_int : Con := ⟨73, ⟨[(0, .s K7 []), (1, .s K0 [])], []⟩, ⟨[(0, .s K6 [])], []⟩, false, [], fun (s_1, v_2) => g_slices_Contains_int s_1 v_2⟩
noncomputable def e_slices_Sort_int : Con := ⟨74, ⟨[(0, .s K7 [(0, 0)])], [.o]⟩, ⟨[], [.r K0]⟩, false, [], fun x_1 => g_slices_Sort_int x_1⟩
noncomputable def e_impl_callsOf : Con := ⟨64, ⟨[(0, .s K3 [])], []⟩, ⟨[(0, .s K7 [(0, 0)])], [.o]⟩, false, [], fun body_1 => g_impl_callsOf body_1⟩
noncomputable def e_impl_CallsOf : Con := ⟨21, ⟨[(0, .s K3 [])], []⟩, ⟨[(0, .s K7 [(0, 0)])], [.o]⟩, false, [], fun body_1 => g_impl_CallsOf body_1⟩
noncomputable def e_laws_eqIntS : Con := ⟨22, ⟨[(0, .s K7 []), (1, .s K7 [])], []⟩, ⟨[(0, .s K6 [])], []⟩, false, [], fun (a_1, b_2) => g_laws_eqIntS a_1 b_2⟩
noncomputable def e_laws_eqOp : Con := ⟨58, ⟨[(0, .s K2 []), (1, .s K2 [])], []⟩, ⟨[(0, .s K6 [])], []⟩, false, [], fun (a_1, b_2) => g_laws_eqOp a_1 b_2⟩
noncomputable def e_laws_eqOpS : Con := ⟨15, ⟨[(0, .s K3 []), (1, .s K3 [])], []⟩, ⟨[(0, .s K6 [])], []⟩, false, [], fun (a_1, b_2) => g_laws_eqOpS a_1 b_2⟩
noncomputable def e_laws_markOpS : Con := ⟨16, ⟨[(0, .s K3 [(0, 0)]), (1, .s K0 [])], [.o]⟩, ⟨[(0, .s K0 [])], [.r K2]⟩, false, [], fun (a_1, k_2) => g_laws_markOpS a_1 k_2⟩
noncomputable def e_laws_markIntS : Con := ⟨23, ⟨[(0, .s K7 [(0, 0)]), (1, .s K0 [])], [.o]⟩, ⟨[(0, .s K0 [])], [.r K0]⟩, false, [], fun (a_1, k_2) => g_laws_markIntS a_1 k_2⟩
noncomputable def e_laws_heldIntS : Con := ⟨24, ⟨[(0, .s K7 []), (1, .s K0 [])], []⟩, ⟨[(0, .s K0 [])], []⟩, false, [], fun (a_1, k_2) => g_laws_heldIntS a_1 k_2⟩
noncomputable def e_laws_FnExactCallsOf : Con := ⟨5, ⟨[(0, .s K3 [])], []⟩, ⟨[(0, .s K6 [])], []⟩, false, [], fun aBody_1 => g_laws_FnExactCallsOf aBody_1⟩
abbrev CO (c : Con) : Prop := ConOk Tryd.prog c
abbrev CK (Γ : List Con) (n : Nat) (an : An) (f : Func) (e : Con) : Prop := AnOk TrydT Γ n an (bodyOf f) ∧ ∀ a, fnRun TrydT Γ an (bodyOf f) f.results.toList e.ro e.ps e.rs a = e.g a
theorem fnc {Γ : List Con} {n : Nat} {an : An} {fn : Func} {C : Con} (h : Tryd.prog.follows .mixedOrders = true → ∀ c ∈ Γ, CO c) (hf : Tryd.prog.funcs[C.f]? = some fn) (hk : CK Γ n an fn C) (h1 : (!(fn.name == "runtime.NumGoroutine") && okC fn.ntmps (bodyOf fn)) = true)
    (h2 : ∀ a, entB C n fn.ntmps a = true) (h3 : ∀ r, endB C fn.results.toList.length r = true) (hb : fn.body = some (bodyOf fn)) : CO C := by
  rw [Bool.and_eq_true, Bool.not_eq_true'] at h1
  exact fn_ok (P := fun _ => Tryd.prog) (n := n) TrydT_eq h hf hb h1.1 rfl rfl h1.2 rfl h2 h3 hk.1 fun a r e => (hk.2 a).trans e
end Go.Proofs.YtjdccepbhpdkcaaDoor
namespace Go.Proofs.YtjdccepbhpdkcaaDoor
open Go Go.Fm
set_option maxRecDepth 1000000
noncomputable def ane_laws_szOpS : An := .z
theorem ke_laws_szOpS : CK [] 0 ane_laws_szOpS Tryd.f11 e_laws_szOpS := ⟨trivial, fun _ => by kernel_rfl⟩
noncomputable def ane_laws_toOp : An := .z
theorem ke_laws_toOp : CK [] 0 ane_laws_toOp Tryd.f55 e_laws_toOp := ⟨trivial, fun _ => by kernel_rfl⟩
noncomputable def ane_laws_toOpS : An := .q .z (.q .z (.m [(.normal, ⟨[(3, .s K3 [(0, 0)])], [.o]⟩)] [0, 2] [] (.q .z (.b (.l ⟨[(0, .s K3 []), (2, .c (.one (.emp)))], [.n]⟩ ⟨[(3, .s K3 [(0, 0)]), (4, .s K0 [])], [.o]⟩ [(.exit 0, ⟨[(3, .s K3 [(0, 0)])], [.o]⟩)] (fun a_1 k (out_5, i_6) => g_laws_toOpS_l0 a_1 k out_5 i_6) .z))) .z))
theorem ke_laws_toOpS : CK [e_laws_toOp] 0 ane_laws_toOpS Tryd.f13 e_laws_toOpS := ⟨⟨trivial, ⟨trivial, ⟨⟨trivial, ⟨fun _ _ => rfl, fun _ _ _ _ => by kernel_rfl, trivial⟩⟩, trivial⟩⟩⟩, fun _ => by kernel_rfl⟩
noncomputable def ane_spec_l08Names : An := .z
theorem ke_spec_l08Names : CK [] 0 ane_spec_l08Names Tryd.f179 e_spec_l08Names := ⟨trivial, fun _ => by kernel_rfl⟩
noncomputable def ane_spec_l01In : An := .z
theorem ke_spec_l01In : CK [] 0 ane_spec_l01In Tryd.f67 e_spec_l01In := ⟨trivial, fun _ => by kernel_rfl⟩
noncomputable def ane_spec_PrimName : An := .z
theorem ke_spec_PrimName : CK [e_spec_l08Names, e_spec_l01In] 0 ane_spec_PrimName Tryd.f140 e_spec_PrimName := ⟨trivial, fun _ => by kernel_rfl⟩
noncomputable def ane_spec_l09Op : An := .z
theorem ke_spec_l09Op : CK [e_spec_PrimName, e_spec_l01In] 0 ane_spec_l09Op Tryd.f97 e_spec_l09Op := ⟨trivial, fun _ => by kernel_rfl⟩
noncomputable def ane_spec_l09Open : An := .q .z (.q .z (.m [(.normal, ⟨[(4, .s K7 [(0, 1)])], [.d, .o]⟩), (.ret, ⟨[(2, .c (.one (.emp))), (3, .s K6 [])], [.d]⟩)] [0] [] (.q .z (.b (.l ⟨[(0, .s K3 [])], [.n, .n]⟩ ⟨[(4, .s K7 [(0, 1)]), (5, .s K0 [])], [.d, .o]⟩ [(.exit 0, ⟨[(4, .s K7 [(0, 1)])], [.d, .o]⟩), (.ret, ⟨[(2, .c (.one (.emp))), (3, .s K6 [])], [.d, .d]⟩)] (fun body_1 k (vopen_6, i_7) => g_spec_l09Open_l0 body_1 k vopen_6 i_7) (.q .z (.m [(.normal, ⟨[(4, .s K7 [(0, 2)])], [.d, .d, .o]⟩), (.ret, ⟨[(2, .c (.one (.emp))), (3, .s K6 [])], [.d, .d]⟩)] [5] [] (.b (.q .z (.q .z (.b (.m [(.normal, ⟨[(21, .s K6 [])], [.d, .f]⟩)] [4, 6, 20] [1] .z (.q .z (.m [(.normal, ⟨[(29, .s K6 [])], [.d, .f]⟩)] [4, 6, 20] [1] .z (.q (.q .z (.q (.m [(.normal, ⟨[(46, .s K6 [])], [.d, .f]⟩)] [4, 6, 7] [1] .z .z) .z)) .z)))))))) .z))))) .z))
theorem ke_spec_l09Open : CK [] 0 ane_spec_l09Open Tryd.f98 e_spec_l09Open := ⟨⟨trivial, ⟨trivial, ⟨⟨trivial, ⟨fun _ _ => rfl, fun _ _ _ _ => by kernel_rfl, ⟨trivial, ⟨⟨trivial, ⟨trivial, ⟨trivial, ⟨trivial, ⟨trivial, ⟨⟨trivial, ⟨⟨trivial, trivial⟩, trivial⟩⟩, trivial⟩⟩⟩⟩⟩⟩, trivial⟩⟩⟩⟩, trivial⟩⟩⟩, fun _ => by kernel_rfl⟩
end Go.Proofs.YtjdccepbhpdkcaaDoor
namespace Go.Proofs.YtjdccepbhpdkcaaDoor
open Go Go.Fm
set_option maxRecDepth 1000000
noncomputable def ane_spec_ShapeOk : An := .q .z (.q .z (.m [(.normal, ⟨[], []⟩), (.ret, ⟨[(2, .s K6 [])], []⟩)] [0] [] (.q .z (.b (.l ⟨[(0, .s K3 [])], []⟩ ⟨[(3, .s K0 [])], []⟩ [(.exit 0, ⟨[], []⟩), (.ret, ⟨[(2, .s K6 [])], []⟩)] (fun body_1 k i_4 => g_spec_ShapeOk_l0 body_1 k i_4) .z))) .z))
theorem ke_spec_ShapeOk : CK [e_spec_l09Op, e_spec_l09Open] 0 ane_spec_ShapeOk Tryd.f51 e_spec_ShapeOk := ⟨⟨trivial, ⟨trivial, ⟨⟨trivial, ⟨fun _ _ => rfl, fun _ _ _ _ => by kernel_rfl, trivial⟩⟩, trivial⟩⟩⟩, fun _ => by kernel_rfl⟩
noncomputable def ane_spec_l20Put : An := .q .z (.q .z (.q (.b (.l ⟨[(0, .s K7 []), (1, .s K0 []), (4, .c (.one (.emp)))], []⟩ ⟨[(5, .s K0 [])], []⟩ [(.exit 0, ⟨[(5, .s K0 [])], []⟩)] (fun (list_1, n_2) k vat_4 => g_spec_l20Put_l0 list_1 n_2 k vat_4) (.q (.m [(.normal, ⟨[(17, .s K6 [])], []⟩)] [5] [] .z .z) .z))) (.q (.m [(.normal, ⟨[(31, .s K6 [])], []⟩)] [0, 1, 4, 5] [] .z .z) .z)))
theorem ke_spec_l20Put : CK [] 0 ane_spec_l20Put Tryd.f63 e_spec_l20Put := ⟨⟨trivial, ⟨trivial, ⟨⟨fun _ _ => rfl, fun _ _ _ _ => by kernel_rfl, ⟨⟨trivial, trivial⟩, trivial⟩⟩, ⟨⟨trivial, trivial⟩, trivial⟩⟩⟩⟩, fun _ => by kernel_rfl⟩
noncomputable def ane_spec_CallsOf : An := .q .z (.q .z (.q .z (.m [(.normal, ⟨[(3, .s K7 [])], [.d]⟩)] [0, 2] [] (.q .z (.b (.l ⟨[(0, .s K3 []), (2, .c (.one (.emp)))], [.n]⟩ ⟨[(3, .s K7 []), (4, .s K0 [])], [.d]⟩ [(.exit 0, ⟨[(3, .s K7 [])], [.d]⟩)] (fun body_1 k (out_5, i_6) => g_spec_CallsOf_l0 body_1 k out_5 i_6) (.q .z (.m [(.normal, ⟨[(3, .s K7 [])], [.d]⟩)] [4] [] .z .z))))) .z)))
theorem ke_spec_CallsOf : CK [e_spec_ShapeOk, e_spec_l20Put] 0 ane_spec_CallsOf Tryd.f20 e_spec_CallsOf := ⟨⟨trivial, ⟨trivial, ⟨trivial, ⟨⟨trivial, ⟨fun _ _ => rfl, fun _ _ _ _ => by kernel_rfl, ⟨trivial, ⟨trivial, trivial⟩⟩⟩⟩, trivial⟩⟩⟩⟩, fun _ => by kernel_rfl⟩
noncomputable def ane_strings_Fields : An := .q .z (.q .z (.q .z (.q .z (.m [(.normal, ⟨[(3, .s K0 []), (5, .s K8 [])], []⟩)] [0, 2] [] (.q .z (.b (.l ⟨[(0, .s K4 []), (2, .c (.one (.emp)))], []⟩ ⟨[(3, .s K0 []), (4, .s K0 []), (5, .s K8 []), (6, .s K0 [])], []⟩ [(.exit 0, ⟨[(3, .s K0 []), (5, .s K8 [])], []⟩)] (fun s_1 k (n_5, wasSpace_6, setBits_7, i_8) => g_strings_Fields_l0 s_1 k n_5 wasSpace_6 setBits_7 i_8) .z))) (.q .z (.q .z (.q .z (.q .z (.q .z (.q (.b (.l ⟨[(0, .s K4 []), (2, .c (.one (.emp))), (9, .s K5 [(0, 0)]), (10, .s K0 [])], [.o]⟩ ⟨[(12, .s K0 [])], [.f]⟩ [(.exit 2, ⟨[(12, .s K0 [])], [.f]⟩)] (fun (s_1, _, _) k i_15 => g_strings_Fields_l1 s_1 k i_15) (.q (.m [(.normal, ⟨[(53, .s K6 [])], [.f]⟩)] [12] [] .z .z) .z))) (.q .z (.q (.b (.l ⟨[(0, .s K4 []), (2, .c (.one (.emp)))], [.n]⟩ ⟨[(9, .s K5 [(0, 0)]), (10, .s K0 []), (11, .s K0 []), (12, .s K0 [])], [.o]⟩ [(.exit 4, ⟨[(9, .s K5 [(0, 0)]), (10, .s K0 []), (11, .s K0 [])], [.o]⟩)] (fun s_1 k (a_20, na_21, fieldStart_22, i_23) => g_strings_Fields_l2 s_1 k a_20 na_21 fieldStart_22 i_23) (.q .z (.b (.q .z (.q .z (.q .z (.q .z (.q (.b (.l ⟨[(0, .s K4 []), (2, .c (.one (.emp))), (9, .s K5 [(0, 0)]), (10, .s K0 []), (11, .s K0 [])], [.o]⟩ ⟨[(12, .s K0 [])], [.f]⟩ [(.exit 6, ⟨[(12, .s K0 [])], [.f]⟩)] (fun (s_1, _, _, _) k i_33 => g_strings_Fields_l3 s_1 k i_33) (.q (.m [(.normal, ⟨[(91, .s K6 [])], [.f]⟩)] [12] [] .z .z) .z))) .z))))))))) (.m [(.normal, ⟨[(9, .s K5 [(0, 0)])], [.o]⟩)] [0, 2, 10, 11] [] .z .z)))))))))))))
theorem ke_strings_Fields : CK [] 0 ane_strings_Fields Tryd.f181 e_strings_Fields := ⟨⟨trivial, ⟨trivial, ⟨trivial, ⟨trivial, ⟨⟨trivial, ⟨fun _ _ => rfl, fun _ _ _ _ => by kernel_rfl, trivial⟩⟩, ⟨trivial, ⟨trivial, ⟨trivial, ⟨trivial, ⟨trivial, ⟨⟨fun _ _ => rfl, fun _ _ _ _ => by kernel_rfl, ⟨⟨trivial, trivial⟩, trivial⟩⟩, ⟨trivial, ⟨⟨fun _ _ => rfl, fun _ _ _ _ => by kernel_rfl, ⟨trivial, ⟨trivial, ⟨trivial, ⟨trivial, ⟨trivial, ⟨⟨fun _ _ => rfl, fun _ _ _ _ => by kernel_rfl, ⟨⟨trivial, trivial⟩, trivial⟩⟩, trivial⟩⟩⟩⟩⟩⟩⟩, ⟨trivial, trivial⟩⟩⟩⟩⟩⟩⟩⟩⟩⟩⟩⟩⟩⟩, fun _ => by kernel_rfl⟩
noncomputable def ane_impl_prims : An := .z
theorem ke_impl_prims : CK [e_strings_Fields] 0 ane_impl_prims Tryd.f146 e_impl_prims := ⟨trivial, fun _ => by kernel_rfl⟩
noncomputable def ane_impl_within : An := .z
theorem ke_impl_within : CK [] 0 ane_impl_within Tryd.f71 e_impl_within := ⟨trivial, fun _ => by kernel_rfl⟩
noncomputable def ane_impl_PrimName : An := .z
theorem ke_impl_PrimName : CK [e_impl_prims, e_impl_within] 0 ane_impl_PrimName Tryd.f112 e_impl_PrimName := ⟨trivial, fun _ => by kernel_rfl⟩
noncomputable def ane_impl_opOk : An := .z
theorem ke_impl_opOk : CK [e_impl_PrimName, e_impl_within] 0 ane_impl_opOk Tryd.f141 e_impl_opOk := ⟨trivial, fun _ => by kernel_rfl⟩
end Go.Proofs.YtjdccepbhpdkcaaDoor
namespace Go.Proofs.YtjdccepbhpdkcaaDoor
open Go Go.Fm
set_option maxRecDepth 1000000
noncomputable def ane_impl_openIn : An := .q .z (.q .z (.m [(.normal, ⟨[(4, .s K7 [(0, 1)])], [.d, .o]⟩), (.ret, ⟨[(2, .s K7 [(0, 1)]), (3, .s K6 [])], [.d, .o]⟩)] [0] [] (.q .z (.b (.l ⟨[(0, .s K3 []), (9, .s K3 []), (10, .s K0 [])], [.n, .n]⟩ ⟨[(4, .s K7 [(0, 1)]), (11, .s K0 [])], [.d, .o]⟩ [(.exit 0, ⟨[(4, .s K7 [(0, 1)])], [.d, .o]⟩), (.ret, ⟨[(2, .s K7 [(0, 2)]), (3, .s K6 [])], [.d, .d, .o]⟩)] (fun (_, v_7, v_8) k (vopen_9, v_10) => g_impl_openIn_l0 v_7 v_8 k vopen_9 v_10) (.q .z (.q .z (.m [(.normal, ⟨[(4, .s K7 [(0, 2)])], [.d, .d, .o]⟩), (.ret, ⟨[(2, .s K7 [(0, 2)]), (3, .s K6 [])], [.d, .d, .o]⟩)] [11] [] (.b (.q .z (.q .z (.b (.q .z (.q .z (.m [(.normal, ⟨[(22, .s K6 [])], [.d, .f, .f]⟩)] [4, 6, 7] [1, 2] .z (.q .z (.m [(.normal, ⟨[(41, .s K6 [])], [.d, .f, .f]⟩)] [4, 6, 7] [1, 2] .z (.q (.q (.m [(.normal, ⟨[(62, .s K6 [])], [.d, .f, .f]⟩)] [4, 6, 7] [1, 2] .z .z) .z) .z)))))))))) .z)))))) .z))
theorem ke_impl_openIn : CK [e_impl_opOk] 0 ane_impl_openIn Tryd.f101 e_impl_openIn := ⟨⟨trivial, ⟨trivial, ⟨⟨trivial, ⟨fun _ _ => rfl, fun _ _ _ _ => by kernel_rfl, ⟨trivial, ⟨trivial, ⟨⟨trivial, ⟨trivial, ⟨trivial, ⟨trivial, ⟨trivial, ⟨trivial, ⟨trivial, ⟨⟨⟨trivial, trivial⟩, trivial⟩, trivial⟩⟩⟩⟩⟩⟩⟩⟩, trivial⟩⟩⟩⟩⟩, trivial⟩⟩⟩, fun _ => by kernel_rfl⟩
noncomputable def ane_impl_ShapeOk : An := .z
theorem ke_impl_ShapeOk : CK [e_impl_openIn] 0 ane_impl_ShapeOk Tryd.f56 e_impl_ShapeOk := ⟨trivial, fun _ => by kernel_rfl⟩
noncomputable def ane_slices_Index_int : An := .q .z (.m [(.normal, ⟨[], []⟩), (.ret, ⟨[(4, .s K0 [])], []⟩)] [0, 1] [] (.q .z (.b (.l ⟨[(0, .s K7 []), (1, .s K0 []), (7, .s K0 [])], []⟩ ⟨[(8, .s K0 [])], []⟩ [(.exit 0, ⟨[], []⟩), (.ret, ⟨[(4, .s K0 [])], []⟩)] (fun (s_1, v_2, v_5) k v_6 => g_slices_Index_int_l0 s_1 v_2 v_5 k v_6) .z))) .z)
theorem ke_slices_Index_int : CK [] 0 ane_slices_Index_int Tryd.f82 e_slices_Index_int := ⟨⟨trivial, ⟨⟨trivial, ⟨fun _ _ => rfl, fun _ _ _ _ => by kernel_rfl, trivial⟩⟩, trivial⟩⟩, fun _ => by kernel_rfl⟩
noncomputable def ane_slices_Contains_int : An := .z
theorem ke_slices_Contains_int : CK [e_slices_Index_int] 0 ane_slices_Contains_int Tryd.f73 e_slices_Contains_int := ⟨trivial, fun _ => by kernel_rfl⟩
theorem fe_slices_Sort_int : ConOk Tryd.prog e_slices_Sort_int := sort_ok sortLays rfl
noncomputable def ane_impl_callsOf : An := .q .z (.q .z (.m [(.normal, ⟨[(3, .s K7 [(0, 1)])], [.d, .o]⟩)] [0, 2] [] (.q .z (.b (.l ⟨[(0, .s K3 []), (2, .c (.one (.emp))), (7, .s K3 []), (8, .s K0 [])], [.n, .n]⟩ ⟨[(3, .s K7 [(0, 1)]), (9, .s K0 [])], [.d, .o]⟩ [(.exit 0, ⟨[(3, .s K7 [(0, 1)])], [.d, .o]⟩)] (fun (_, v_4, v_5) k (out_6, v_7) => g_impl_callsOf_l0 v_4 v_5 k out_6 v_7) (.q .z (.q .z (.m [(.normal, ⟨[(3, .s K7 [(0, 2)])], [.d, .d, .o]⟩)] [9] [] (.b (.q .z (.m [(.normal, ⟨[(23, .s K6 [])], [.d, .f, .f]⟩)] [3, 5] [1, 2] .z .z))) .z)))))) .z))
theorem ke_impl_callsOf : CK [e_slices_Contains_int, e_slices_Sort_int] 0 ane_impl_callsOf Tryd.f64 e_impl_callsOf := ⟨⟨trivial, ⟨trivial, ⟨⟨trivial, ⟨fun _ _ => rfl, fun _ _ _ _ => by kernel_rfl, ⟨trivial, ⟨trivial, ⟨⟨trivial, ⟨trivial, trivial⟩⟩, trivial⟩⟩⟩⟩⟩, trivial⟩⟩⟩, fun _ => by kernel_rfl⟩
noncomputable def ane_impl_CallsOf : An := .z
theorem ke_impl_CallsOf : CK [e_impl_ShapeOk, e_impl_callsOf] 0 ane_impl_CallsOf Tryd.f21 e_impl_CallsOf := ⟨trivial, fun _ => by kernel_rfl⟩
noncomputable def ane_laws_eqIntS : An := .q .z (.q .z (.m [(.normal, ⟨[], []⟩), (.ret, ⟨[(4, .s K6 [])], []⟩)] [0, 1] [] (.q .z (.b (.l ⟨[(0, .s K7 []), (1, .s K7 [])], []⟩ ⟨[(5, .s K0 [])], []⟩ [(.exit 0, ⟨[], []⟩), (.ret, ⟨[(4, .s K6 [])], []⟩)] (fun (a_1, b_2) k i_5 => g_laws_eqIntS_l0 a_1 b_2 k i_5) .z))) .z))
theorem ke_laws_eqIntS : CK [] 0 ane_laws_eqIntS Tryd.f22 e_laws_eqIntS := ⟨⟨trivial, ⟨trivial, ⟨⟨trivial, ⟨fun _ _ => rfl, fun _ _ _ _ => by kernel_rfl, trivial⟩⟩, trivial⟩⟩⟩, fun _ => by kernel_rfl⟩
end Go.Proofs.YtjdccepbhpdkcaaDoor
namespace Go.Proofs.YtjdccepbhpdkcaaDoor
open Go Go.Fm
set_option maxRecDepth 1000000
noncomputable def ane_laws_eqOp : An := .z
theorem ke_laws_eqOp : CK [] 0 ane_laws_eqOp Tryd.f58 e_laws_eqOp := ⟨trivial, fun _ => by kernel_rfl⟩
noncomputable def ane_laws_eqOpS : An := .q .z (.q .z (.m [(.normal, ⟨[], []⟩), (.ret, ⟨[(4, .s K6 [])], []⟩)] [0, 1] [] (.q .z (.b (.l ⟨[(0, .s K3 []), (1, .s K3 [])], []⟩ ⟨[(5, .s K0 [])], []⟩ [(.exit 0, ⟨[], []⟩), (.ret, ⟨[(4, .s K6 [])], []⟩)] (fun (a_1, b_2) k i_5 => g_laws_eqOpS_l0 a_1 b_2 k i_5) .z))) .z))
theorem ke_laws_eqOpS : CK [e_laws_eqOp] 0 ane_laws_eqOpS Tryd.f15 e_laws_eqOpS := ⟨⟨trivial, ⟨trivial, ⟨⟨trivial, ⟨fun _ _ => rfl, fun _ _ _ _ => by kernel_rfl, trivial⟩⟩, trivial⟩⟩⟩, fun _ => by kernel_rfl⟩
noncomputable def ane_laws_markOpS : An := .q .z (.m [(.normal, ⟨[(1, .s K0 [])], [.r K2]⟩)] [4] [] (.q .z (.b (.l ⟨[(4, .s K0 [])], [.n]⟩ ⟨[(0, .s K3 [(0, 0)]), (1, .s K0 []), (5, .s K0 [])], [.o]⟩ [(.exit 0, ⟨[(1, .s K0 [])], [.r K2]⟩)] (fun _ k (a_8, k_9, i_10) => g_laws_markOpS_l0 k a_8 k_9 i_10) .z))) .z)
theorem ke_laws_markOpS : CK [] 1 ane_laws_markOpS Tryd.f16 e_laws_markOpS := ⟨⟨trivial, ⟨⟨trivial, ⟨fun _ _ => rfl, fun _ _ _ _ => by kernel_rfl, trivial⟩⟩, trivial⟩⟩, fun _ => by kernel_rfl⟩
noncomputable def ane_laws_markIntS : An := .q .z (.m [(.normal, ⟨[(1, .s K0 [])], [.r K0]⟩)] [4] [] (.q .z (.b (.l ⟨[(4, .s K0 [])], [.n]⟩ ⟨[(0, .s K7 [(0, 0)]), (1, .s K0 []), (5, .s K0 [])], [.o]⟩ [(.exit 0, ⟨[(1, .s K0 [])], [.r K0]⟩)] (fun _ k (a_8, k_9, i_10) => g_laws_markIntS_l0 k a_8 k_9 i_10) .z))) .z)
theorem ke_laws_markIntS : CK [] 1 ane_laws_markIntS Tryd.f23 e_laws_markIntS := ⟨⟨trivial, ⟨⟨trivial, ⟨fun _ _ => rfl, fun _ _ _ _ => by kernel_rfl, trivial⟩⟩, trivial⟩⟩, fun _ => by kernel_rfl⟩
noncomputable def ane_laws_heldIntS : An := .q .z (.m [(.normal, ⟨[(1, .s K0 [])], []⟩), (.ret, ⟨[(4, .s K0 [])], []⟩)] [0] [] (.q .z (.b (.l ⟨[(0, .s K7 [])], []⟩ ⟨[(1, .s K0 []), (5, .s K0 [])], []⟩ [(.exit 0, ⟨[(1, .s K0 [])], []⟩), (.ret, ⟨[(4, .s K0 [])], []⟩)] (fun a_1 k (k_6, i_7) => g_laws_heldIntS_l0 a_1 k k_6 i_7) .z))) .z)
theorem ke_laws_heldIntS : CK [] 0 ane_laws_heldIntS Tryd.f24 e_laws_heldIntS := ⟨⟨trivial, ⟨⟨trivial, ⟨fun _ _ => rfl, fun _ _ _ _ => by kernel_rfl, trivial⟩⟩, trivial⟩⟩, fun _ => by kernel_rfl⟩
noncomputable def ane_laws_FnExactCallsOf : An := .q .z (.q .z (.q .z (.q .z (.q .z (.q .z (.q .z (.q .z (.q .z (.q .z (.q .z (.q (.m [(.normal, ⟨[(42, .s K6 [])], [.d, .d, .f, .d]⟩)] [0, 2, 4, 6, 7] [2] .z .z) .z)))))))))))
theorem ke_laws_FnExactCallsOf : CK [e_laws_szOpS, e_laws_toOpS, e_spec_CallsOf, e_impl_CallsOf, e_laws_eqIntS, e_laws_eqOpS, e_laws_markOpS, e_laws_markIntS, e_laws_heldIntS] 0 ane_laws_FnExactCallsOf Tryd.f5 e_laws_FnExactCallsOf := ⟨⟨trivial, ⟨trivial, ⟨trivial, ⟨trivial, ⟨trivial, ⟨trivial, ⟨trivial, ⟨trivial, ⟨trivial, ⟨trivial, ⟨trivial, ⟨⟨trivial, trivial⟩, trivial⟩⟩⟩⟩⟩⟩⟩⟩⟩⟩⟩⟩, fun _ => by kernel_rfl⟩
end Go.Proofs.YtjdccepbhpdkcaaDoor
namespace Go.Proofs.YtjdccepbhpdkcaaDoor
open Go Go.Fm
set_option maxRecDepth 1000000
end Go.Proofs.YtjdccepbhpdkcaaDoor
namespace Go.Proofs.YtjdccepbhpdkcaaDoor
open Go Go.Fm
set_option maxRecDepth 1000000
end Go.Proofs.YtjdccepbhpdkcaaDoor
namespace Go.Proofs.YtjdccepbhpdkcaaDoor
open Go Go.Fm
set_option maxRecDepth 1000000
theorem ce_laws_szOpS : CO e_laws_szOpS := fnc (fun _ => con_nil) Tryd.func11 ke_laws_szOpS (by kernel_rfl) (fun _ => by kernel_rfl) (fun _ => by kernel_rfl) rfl
theorem ce_laws_toOp : CO e_laws_toOp := fnc (fun _ => con_nil) Tryd.func55 ke_laws_toOp (by kernel_rfl) (fun _ => by kernel_rfl) (fun _ => by kernel_rfl) rfl
theorem ce_laws_toOpS : CO e_laws_toOpS := fnc (fun _ => con_cons ce_laws_toOp con_nil) Tryd.func13 ke_laws_toOpS (by kernel_rfl) (fun _ => by kernel_rfl) (fun _ => by kernel_rfl) rfl
theorem ce_spec_l08Names : CO e_spec_l08Names := fnc (fun _ => con_nil) Tryd.func179 ke_spec_l08Names (by kernel_rfl) (fun _ => by kernel_rfl) (fun _ => by kernel_rfl) rfl
theorem ce_spec_l01In : CO e_spec_l01In := fnc (fun _ => con_nil) Tryd.func67 ke_spec_l01In (by kernel_rfl) (fun _ => by kernel_rfl) (fun _ => by kernel_rfl) rfl
theorem ce_spec_PrimName : CO e_spec_PrimName := fnc (fun _ => con_cons ce_spec_l08Names (con_cons ce_spec_l01In con_nil)) Tryd.func140 ke_spec_PrimName (by kernel_rfl) (fun _ => by kernel_rfl) (fun _ => by kernel_rfl) rfl
theorem ce_spec_l09Op : CO e_spec_l09Op := fnc (fun _ => con_cons ce_spec_PrimName (con_cons ce_spec_l01In con_nil)) Tryd.func97 ke_spec_l09Op (by kernel_rfl) (fun _ => by kernel_rfl) (fun _ => by kernel_rfl) rfl
theorem ce_spec_l09Open : CO e_spec_l09Open := fnc (fun _ => con_nil) Tryd.func98 ke_spec_l09Open (by kernel_rfl) (fun _ => by kernel_rfl) (fun _ => by kernel_rfl) rfl
theorem ce_spec_ShapeOk : CO e_spec_ShapeOk := fnc (fun _ => con_cons ce_spec_l09Op (con_cons ce_spec_l09Open con_nil)) Tryd.func51 ke_spec_ShapeOk (by kernel_rfl) (fun _ => by kernel_rfl) (fun _ => by kernel_rfl) rfl
theorem ce_spec_l20Put : CO e_spec_l20Put := fnc (fun _ => con_nil) Tryd.func63 ke_spec_l20Put (by kernel_rfl) (fun _ => by kernel_rfl) (fun _ => by kernel_rfl) rfl
theorem ce_spec_CallsOf : CO e_spec_CallsOf := fnc (fun _ => con_cons ce_spec_ShapeOk (con_cons ce_spec_l20Put con_nil)) Tryd.func20 ke_spec_CallsOf (by kernel_rfl) (fun _ => by kernel_rfl) (fun _ => by kernel_rfl) rfl
theorem ce_strings_Fields : CO e_strings_Fields := fnc (fun _ => con_nil) Tryd.func181 ke_strings_Fields (by kernel_rfl) (fun _ => by kernel_rfl) (fun _ => by kernel_rfl) rfl
theorem ce_impl_prims : CO e_impl_prims := fnc (fun _ => con_cons ce_strings_Fields con_nil) Tryd.func146 ke_impl_prims (by kernel_rfl) (fun _ => by kernel_rfl) (fun _ => by kernel_rfl) rfl
theorem ce_impl_within : CO e_impl_within := fnc (fun _ => con_nil) Tryd.func71 ke_impl_within (by kernel_rfl) (fun _ => by kernel_rfl) (fun _ => by kernel_rfl) rfl
theorem ce_impl_PrimName : CO e_impl_PrimName := fnc (fun _ => con_cons ce_impl_prims (con_cons ce_impl_within con_nil)) Tryd.func112 ke_impl_PrimName (by kernel_rfl) (fun _ => by kernel_rfl) (fun _ => by kernel_rfl) rfl
theorem ce_impl_opOk : CO e_impl_opOk := fnc (fun _ => con_cons ce_impl_PrimName (con_cons ce_impl_within con_nil)) Tryd.func141 ke_impl_opOk (by kernel_rfl) (fun _ => by kernel_rfl) (fun _ => by kernel_rfl) rfl
theorem ce_impl_openIn : CO e_impl_openIn := fnc (fun _ => con_cons ce_impl_opOk con_nil) Tryd.func101 ke_impl_openIn (by kernel_rfl) (fun _ => by kernel_rfl) (fun _ => by kernel_rfl) rfl
theorem ce_impl_ShapeOk : CO e_impl_ShapeOk := fnc (fun _ => con_cons ce_impl_openIn con_nil) Tryd.func56 ke_impl_ShapeOk (by kernel_rfl) (fun _ => by kernel_rfl) (fun _ => by kernel_rfl) rfl
theorem ce_slices_Index_int : CO e_slices_Index_int := fnc (fun _ => con_nil) Tryd.func82 ke_slices_Index_int (by kernel_rfl) (fun _ => by kernel_rfl) (fun _ => by kernel_rfl) rfl
theorem ce_slices_Contains_int : CO e_slices_Contains_int := fnc (fun _ => con_cons ce_slices_Index_int con_nil) Tryd.func73 ke_slices_Contains_int (by kernel_rfl) (fun _ => by kernel_rfl) (fun _ => by kernel_rfl) rfl
theorem ce_slices_Sort_int : ConOk Tryd.prog e_slices_Sort_int := fe_slices_Sort_int
theorem ce_impl_callsOf : CO e_impl_callsOf := fnc (fun _ => con_cons ce_slices_Contains_int (con_cons ce_slices_Sort_int con_nil)) Tryd.func64 ke_impl_callsOf (by kernel_rfl) (fun _ => by kernel_rfl) (fun _ => by kernel_rfl) rfl
theorem ce_impl_CallsOf : CO e_impl_CallsOf := fnc (fun _ => con_cons ce_impl_ShapeOk (con_cons ce_impl_callsOf con_nil)) Tryd.func21 ke_impl_CallsOf (by kernel_rfl) (fun _ => by kernel_rfl) (fun _ => by kernel_rfl) rfl
theorem ce_laws_eqIntS : CO e_laws_eqIntS := fnc (fun _ => con_nil) Tryd.func22 ke_laws_eqIntS (by kernel_rfl) (fun _ => by kernel_rfl) (fun _ => by kernel_rfl) rfl
theorem ce_laws_eqOp : CO e_laws_eqOp := fnc (fun _ => con_nil) Tryd.func58 ke_laws_eqOp (by kernel_rfl) (fun _ => by kernel_rfl) (fun _ => by kernel_rfl) rfl
theorem ce_laws_eqOpS : CO e_laws_eqOpS := fnc (fun _ => con_cons ce_laws_eqOp con_nil) Tryd.func15 ke_laws_eqOpS (by kernel_rfl) (fun _ => by kernel_rfl) (fun _ => by kernel_rfl) rfl
theorem ce_laws_markOpS : CO e_laws_markOpS := fnc (fun _ => con_nil) Tryd.func16 ke_laws_markOpS (by kernel_rfl) (fun _ => by kernel_rfl) (fun _ => by kernel_rfl) rfl
theorem ce_laws_markIntS : CO e_laws_markIntS := fnc (fun _ => con_nil) Tryd.func23 ke_laws_markIntS (by kernel_rfl) (fun _ => by kernel_rfl) (fun _ => by kernel_rfl) rfl
theorem ce_laws_heldIntS : CO e_laws_heldIntS := fnc (fun _ => con_nil) Tryd.func24 ke_laws_heldIntS (by kernel_rfl) (fun _ => by kernel_rfl) (fun _ => by kernel_rfl) rfl
theorem ce_laws_FnExactCallsOf : CO e_laws_FnExactCallsOf := fnc (fun _ => con_cons ce_laws_szOpS (con_cons ce_laws_toOpS (con_cons ce_spec_CallsOf (con_cons ce_impl_CallsOf (con_cons ce_laws_eqIntS (con_cons ce_laws_eqOpS (con_cons ce_laws_markOpS (con_cons ce_laws_markIntS (con_cons ce_laws_heldIntS con_nil))))))))) Tryd.func5 ke_laws_FnExactCallsOf (by kernel_rfl) (fun _ => by kernel_rfl) (fun _ => by kernel_rfl) rfl
end Go.Proofs.YtjdccepbhpdkcaaDoor

namespace Go.Fm
theorem wI64 {x : Int} (h1 : -9223372036854775808 ≤ x) (h2 : x < 9223372036854775808) : IntKind.wrap .i64 x = x := by
  simp [IntKind.wrap, IntKind.bits, IntKind.signed]; omega
theorem getI_ex {α : Type} {xs : List α} {i : Int} (h0 : 0 ≤ i) (h1 : i < xs.length) : ∃ x, getI xs i = some x ∧ x ∈ xs ∧ xs[i.toNat]? = some x := by
  have hi : i.toNat < xs.length := by omega
  unfold getI
  rw [if_pos h0, List.getElem?_eq_getElem hi]
  exact ⟨_, rfl, List.getElem_mem hi, rfl⟩
theorem getI_nat {α : Type} {xs : List α} {i : Nat} : getI xs (i : Int) = xs[i]? := by
  unfold getI; rw [if_pos (Int.natCast_nonneg i)]; rfl
theorem app_eq {α : Type} {xs ys : List α} (h : xs.length + ys.length ≤ 4294967296) : app xs ys = some (xs ++ ys) := by
  unfold app
  rw [if_pos (by rw [List.length_append]; exact h)]
theorem subL_eq {α : Type} {xs : List α} {a b : Int} (h0 : 0 ≤ a) (h1 : a ≤ b) (h2 : b ≤ xs.length) : subL xs a b = some ((xs.drop a.toNat).take (b.toNat - a.toNat)) := by
  unfold subL; rw [if_pos ⟨h0, h1, h2⟩]
theorem subL_drop {α : Type} {xs : List α} {a : Int} (h0 : 0 ≤ a) (h2 : a ≤ xs.length) : subL xs a xs.length = some (xs.drop a.toNat) := by
  rw [subL_eq h0 h2 (Int.le_refl _), List.take_of_length_le]
  rw [List.length_drop]; omega
theorem subL_take {α : Type} {xs : List α} {b : Int} (h0 : 0 ≤ b) (h2 : b ≤ xs.length) : subL xs 0 b = some (xs.take b.toNat) := by
  rw [subL_eq (Int.le_refl _) h0 h2]; rfl
theorem mk_eq {α : Type} {z : α} {n : Int} (h0 : 0 ≤ n) (h1 : n ≤ 4294967296) : mk z n = some (List.replicate n.toNat z) := by
  unfold mk; rw [if_pos ⟨h0, h1⟩]
section
variable {α β : Type} {Q Q' : α → Prop} {R : β → Prop}
end
end Go.Fm
namespace Go.Fm
theorem nxt {n : Nat} (h : n < 16777216) : IntKind.wrap .i64 ((n : Int) + 1) = ((n + 1 : Nat) : Int) := by rw [wI64 (by omega) (by omega)]; omega
def allN {α : Type} (p : Nat → α → Bool) : Nat → List α → Bool
  | _, [] => true
  | n, x :: r => p n x && allN p (n + 1) r
theorem allN_const {α : Type} (p : α → Bool) : ∀ (n : Nat) (l : List α), allN (fun _ => p) n l = l.all p
  | n, [] => rfl
  | n, x :: r => by simp only [allN, List.all_cons, allN_const p (n + 1) r]
theorem allLoop {α β : Type} {L : List α} {bad : β} (p : Nat → α → Bool) (F : Nat → Int → Option (Unit ⊕ β)) (step : ∀ (k n : Nat) (x : α), L[n]? = some x → n < L.length → F (k + 1) n = cond (p n x) (F k ((n + 1 : Nat) : Int)) (some (.inr bad)))
    (fin : ∀ k n : Nat, L.length ≤ n → F (k + 1) n = some (.inl ())) (hm : L.length ≤ 16777216) : F bigK 0 = some (cond (allN p 0 L) (.inl ()) (.inr bad)) := by
  have key : ∀ (k n : Nat), n ≤ L.length → L.length - n < k → F k n = some (cond (allN p n (L.drop n)) (.inl ()) (.inr bad)) := by
    intro k
    induction k with
    | zero => intro n h0 h1; omega
    | succ k ih =>
      intro n h0 h1
      by_cases hn : n < L.length
      · rw [step k n L[n] (List.getElem?_eq_getElem hn) hn, List.drop_eq_getElem_cons hn]
        show _ = some (cond (p n L[n] && allN p (n + 1) (L.drop (n + 1))) _ _)
        cases p n L[n] with
        | false => rfl
        | true => rw [cond_true, ih (n + 1) (by omega) (by omega), Bool.true_and]
      · rw [fin k n (by omega), List.drop_eq_nil_of_le (by omega)]; rfl
  have := key bigK 0 (Nat.zero_le _) (by unfold bigK; omega)
  rw [List.drop_zero] at this
  exact this
theorem eqList {α : Type} [DecidableEq α] {a b : List α} (F : Nat → Int → Option (Unit ⊕ Bool)) (g : Option Bool) (hg : g = cond ((a.length : Int) != (b.length : Int)) (some false) (((F bigK 0).bind fun o => match o with | .inl () => some (.inl ()) | .inr v => some (.inr v) : Option (Unit ⊕ Bool)).bind fun o => match o with | .inl () => some true | .inr v => some v))
    (hF : ∀ (k : Nat) (i : Int), F (k + 1) i = cond (decide (i < (a.length : Int))) ((getI a i).bind fun x => (getI b i).bind fun y => cond (!decide (x = y)) (some (.inr false)) (F k (IntKind.wrap .i64 (i + 1)))) (some (.inl ()))) (hm : a.length ≤ 1048576) : g = some (decide (a = b)) := by
  rw [hg]
  by_cases hl : a.length = b.length
  · have key : ∀ (k n : Nat), n ≤ a.length → a.length - n < k → F k n = some (if a.drop n = b.drop n then .inl () else .inr false) := by
      intro k
      induction k with
      | zero => intro n h0 h1; omega
      | succ k ih =>
        intro n h0 h1
        rw [hF]
        by_cases hn : n < a.length
        · have hn' : n < b.length := by omega
          rw [decide_eq_true (by omega), getI_nat, getI_nat, List.getElem?_eq_getElem hn, List.getElem?_eq_getElem hn', List.drop_eq_getElem_cons hn, List.drop_eq_getElem_cons hn']
          simp only [cond_true, Option.bind_some]
          by_cases he : a[n] = b[n]
          · rw [decide_eq_true he, Bool.not_true, cond_false, wI64 (by omega) (by omega), show ((n : Int) + 1) = ((n + 1 : Nat) : Int) by omega, ih (n + 1) (by omega) (by omega), he]
            simp only [List.cons.injEq, true_and]
          · rw [decide_eq_false he, Bool.not_false, cond_true, if_neg (fun h => he (List.cons.inj h).1)]
        · rw [decide_eq_false (by omega), cond_false, List.drop_eq_nil_of_le (by omega), List.drop_eq_nil_of_le (by omega), if_pos rfl]
    have : ((a.length : Int) != (b.length : Int)) = false := by rw [hl]; simp
    rw [this, cond_false]
    have h := key bigK 0 (Nat.zero_le _) (by unfold bigK; omega)
    rw [show ((0 : Nat) : Int) = 0 from rfl] at h
    rw [h]
    by_cases he : a = b
    · simp [he]
    · simp [he]
  · have : ((a.length : Int) != (b.length : Int)) = true := by simp; omega
    rw [this, cond_true, decide_eq_false (fun h => hl (by rw [h]))]
theorem copyM {α : Type} {a : List α} (F : Nat → List α → Int → Option (List α))
    (hs : ∀ (k n : Nat) (out : List α) (x y : α), a[n]? = some x → n < a.length → out[n]? = some y → F (k + 1) out n = F k (out.set n x) ((n + 1 : Nat) : Int))
    (he : ∀ (k n : Nat) (out : List α), a.length ≤ n → F (k + 1) out n = some out) (hm : a.length ≤ 16777216) {z : List α} (hz : z.length = a.length) : F bigK z 0 = some a := by
  have key : ∀ (k n : Nat) (rest : List α), n ≤ a.length → a.length - n < k → rest.length = a.length - n → F k (a.take n ++ rest) n = some a := by
    intro k
    induction k with
    | zero => intro n rest h0 h1; omega
    | succ k ih =>
      intro n rest h0 h1 h2
      by_cases hn : n < a.length
      · cases rest with
        | nil => simp at h2; omega
        | cons x r =>
          have hl : (a.take n).length = n := by rw [List.length_take]; omega
          rw [hs k n _ a[n] x (List.getElem?_eq_getElem hn) hn (by rw [List.getElem?_append_right (by omega), hl, Nat.sub_self]; rfl)]
          have hset : (a.take n ++ x :: r).set n a[n] = a.take (n + 1) ++ r := by
            rw [List.set_append_right _ _ (by omega), hl, Nat.sub_self, List.set_cons_zero, List.take_succ_eq_append_getElem hn, List.append_assoc]
            rfl
          rw [hset]
          exact ih (n + 1) r (by omega) (by omega) (by simp at h2; omega)
      · have hr : rest = [] := List.length_eq_zero_iff.1 (by omega)
        rw [he k n _ (by omega), hr, List.append_nil, List.take_of_length_le (by omega)]
  have h := key bigK 0 z (Nat.zero_le _) (by unfold bigK; omega) (by omega)
  rw [Int.natCast_zero, List.take_zero, List.nil_append] at h
  exact h
theorem copyLoop {α : Type} {a : List α} (F : Nat → List α → Int → Option (List α))
    (hs : ∀ (k : Nat) (out : List α) (i : Int), F (k + 1) out i = cond (decide (i < (a.length : Int))) ((getI a i).bind fun x => (getI out i).bind fun _ => F k (out.set i.toNat x) (IntKind.wrap .i64 (i + 1))) (some out))
    (hm : a.length ≤ 16777216) {z : List α} (hz : z.length = a.length) : F bigK z 0 = some a := by
  by_cases hb : a.length < 16777216
  · exact copyM F (fun k n out x y hx hn hy => by
      rw [hs, decide_eq_true (by omega), cond_true, getI_nat, hx]
      simp only [Option.bind_some]
      rw [getI_nat, hy, nxt (by omega)]
      rfl) (fun k n out hn => by rw [hs, decide_eq_false (by omega), cond_false]) hm hz
  · exact copyM F (fun k n out x y hx hn hy => by
      rw [hs, decide_eq_true (by omega), cond_true, getI_nat, hx]
      simp only [Option.bind_some]
      rw [getI_nat, hy, nxt (by omega)]
      rfl) (fun k n out hn => by rw [hs, decide_eq_false (by omega), cond_false]) hm hz
theorem eqRefl {α : Type} {a : List α} (F : Nat → Int → Option (Unit ⊕ Bool)) (f : Option Bool)
    (hf : f = cond ((a.length : Int) != (a.length : Int)) (some false) (((F bigK 0).bind fun o => match o with | .inl () => some (.inl ()) | .inr v => some (.inr v) : Option (Unit ⊕ Bool)).bind fun o => match o with | .inl () => some true | .inr v => some v))
    (hs : ∀ (k n : Nat) (x : α), a[n]? = some x → n < a.length → F (k + 1) n = F k ((n + 1 : Nat) : Int)) (he : ∀ (k n : Nat), a.length ≤ n → F (k + 1) n = some (.inl ())) (hm : a.length ≤ 16777216) : f = some true := by
  have h := allLoop (L := a) (bad := false) (fun _ _ => true) F (fun k n x hx hn => by rw [hs k n x hx hn]; rfl) he hm
  rw [hf, h]
  have e : ∀ (n : Nat) (l : List α), allN (fun _ _ => true) n l = true := fun n l => by rw [allN_const (fun _ => true)]; simp
  rw [e]
  simp
theorem bne_self' {α : Type} [BEq α] [LawfulBEq α] (x : α) : (x != x) = false := by simp
abbrev LN : Nat := 9223372036854775807
def marksN {β : Type} (val : Nat → β) (s : Nat) : Nat → Nat → List β
  | _, 0 => []
  | k, n + 1 => val k :: marksN val s (k + s) n
theorem marksN_len {β : Type} (val : Nat → β) (s : Nat) : ∀ (n k : Nat), (marksN val s k n).length = n
  | 0, k => rfl
  | n + 1, k => by rw [marksN, List.length_cons, marksN_len val s n]
theorem markL {β : Type} (val : Nat → β) (s N : Nat) (F : Nat → List β → Int → Int → Option (Int × List β)) 
    (hs : ∀ (k : Nat) (a : List β) (kk n : Nat), n < a.length → a.length ≤ 1048576 → kk ≤ N → F (k + 1) a kk n = F k (a.set n (val kk)) ((kk + s : Nat) : Int) ((n + 1 : Nat) : Int))
    (he : ∀ (k : Nat) (a : List β) (kk n : Nat), a.length ≤ n → F (k + 1) a kk n = some ((kk : Int), a)) :
    ∀ (k : Nat) (done rest : List β) (kk : Nat), kk + s * rest.length ≤ N → done.length + rest.length ≤ 1048576 → rest.length < k → F k (done ++ rest) kk done.length = some (((kk + s * rest.length : Nat) : Int), done ++ marksN val s kk rest.length) := by
  intro k
  induction k with
  | zero => intro done rest kk h0 h1 h2; omega
  | succ k ih =>
    intro done rest kk h0 h1 h2
    cases rest with
    | nil => rw [he _ _ _ _ (by simp)]; simp [marksN]
    | cons x r =>
      simp only [List.length_cons, Nat.mul_add, Nat.mul_one] at h0 h1 h2
      rw [hs _ _ _ _ (by simp) (by simp; omega) (by omega), List.set_append_right _ _ (Nat.le_refl _), Nat.sub_self, List.set_cons_zero]
      have := ih (done ++ [val kk]) r (kk + s) (by omega) (by simp; omega) (by omega)
      simp only [List.append_assoc, List.singleton_append, List.length_append, List.length_singleton] at this
      rw [this]
      simp only [marksN, List.length_cons, Nat.mul_add, Nat.mul_one]
      congr 3
      omega
theorem heldL {β : Type} (val : Nat → β) (s N : Nat) {L : List β} (F : Nat → Int → Int → Option (Int ⊕ Int))
    (hs : ∀ (k kk n : Nat) (h : n < L.length), n ≤ 1048576 → kk ≤ N → L[n] = val kk → F (k + 1) kk n = F k ((kk + s : Nat) : Int) ((n + 1 : Nat) : Int))
    (he : ∀ (k kk n : Nat), L.length ≤ n → F (k + 1) kk n = some (.inl (kk : Int))) :
    ∀ (k : Nat) (done : List β) (kk m : Nat), L = done ++ marksN val s kk m → L.length ≤ 1048576 → kk + s * m ≤ N → m < k → F k kk done.length = some (.inl ((kk + s * m : Nat) : Int)) := by
  intro k
  induction k with
  | zero => intro done kk m h0 hL h1 h2; omega
  | succ k ih =>
    intro done kk m h0 hL h1 h2
    cases m with
    | zero => rw [he _ _ _ (by rw [h0]; simp [marksN])]; simp
    | succ m =>
      have hl : done.length < L.length := by rw [h0]; simp [marksN]
      have hg : L[done.length] = val kk := by
        have : L[done.length]? = some (val kk) := by rw [h0, List.getElem?_append_right (Nat.le_refl _), Nat.sub_self]; rfl
        rw [List.getElem?_eq_getElem hl] at this
        exact Option.some.inj this
      simp only [Nat.mul_add, Nat.mul_one] at h1
      rw [hs _ _ _ hl (by omega) (by omega) hg]
      have := ih (done ++ [val kk]) (kk + s) m (by rw [h0, List.append_assoc]; rfl) hL (by omega) (by omega)
      rw [List.length_append, List.length_singleton] at this
      rw [this]
      simp only [Nat.mul_add, Nat.mul_one]
      congr 3
      omega
end Go.Fm
namespace Go.Proofs.YtjdccepbhpdkcaaDoor
open Go Go.Fm
set_option maxRecDepth 100000
theorem specIn_eq {x a b : Int} : g_spec_l01In x a b = some (decide (a ≤ x ∧ x ≤ b)) := by
  unfold g_spec_l01In
  by_cases h : x ≥ a
  · rw [decide_eq_true h]
    simp only [cond_true]
    congr 1
    exact decide_eq_decide.2 ⟨fun h2 => ⟨h, h2⟩, fun h2 => h2.2⟩
  · rw [decide_eq_false h]
    simp only [cond_false]
    congr 1
    exact (decide_eq_false fun h2 => h h2.1).symm
theorem within_eq {x a b : Int} : g_impl_within x a b = some (decide (a ≤ x ∧ x ≤ b)) := by
  unfold g_impl_within
  by_cases h : a ≤ x
  · rw [decide_eq_true h]
    simp only [cond_true]
    congr 1
    exact decide_eq_decide.2 ⟨fun h2 => ⟨h, h2⟩, fun h2 => h2.2⟩
  · rw [decide_eq_false h]
    simp only [cond_false]
    congr 1
    exact (decide_eq_false fun h2 => h h2.1).symm
theorem prims_eq : g_impl_prims = g_spec_l08Names := by kernel_rfl
theorem name_eq (k : Int) : g_impl_PrimName k = g_spec_PrimName k := by
  unfold g_impl_PrimName g_spec_PrimName
  rw [prims_eq]
  unfold g_spec_l08Names
  simp only [Option.bind_some]
  rw [within_eq, specIn_eq]
  simp only [Option.bind_some]
  have key : ∀ (b : Bool) (x y : Option Bs), cond b x y = cond (!b) y x := fun b x y => by cases b <;> rfl
  exact key _ _ _
theorem op_eq (o : GOp) : g_impl_opOk o = g_spec_l09Op o := by
  unfold g_impl_opOk g_spec_l09Op
  simp only [name_eq, within_eq, specIn_eq]
theorem name_tot (k : Int) : ∃ s, g_spec_PrimName k = some s := by
  unfold g_spec_PrimName
  unfold g_spec_l08Names
  simp only [Option.bind_some]
  rw [specIn_eq]
  simp only [Option.bind_some]
  by_cases h : (0 : Int) ≤ k ∧ k ≤ IntKind.wrap .i64 (((([[100, 117, 112], [100, 114, 111, 112], [111, 118, 101, 114], [110, 105, 112], [115, 119, 97, 112], [43], [45], [42], [97, 110, 100], [111, 114], [50, 42], [50, 47], [47, 109, 111, 100], [64], [33], [97], [97, 33], [101, 109, 105, 116], [107, 101, 121], [112, 117, 115, 104], [112, 111, 112], [105], [46], [110, 111, 112]] : List Bs).length : Nat) : Int) - 1)
  · rw [decide_eq_true h, Bool.not_true, cond_false]
    have h2 : k ≤ 23 := h.2
    obtain ⟨x, hx, _⟩ := getI_ex (xs := ([[100, 117, 112], [100, 114, 111, 112], [111, 118, 101, 114], [110, 105, 112], [115, 119, 97, 112], [43], [45], [42], [97, 110, 100], [111, 114], [50, 42], [50, 47], [47, 109, 111, 100], [64], [33], [97], [97, 33], [101, 109, 105, 116], [107, 101, 121], [112, 117, 115, 104], [112, 111, 112], [105], [46], [110, 111, 112]] : List Bs)) (i := k) h.1 (by simp; omega)
    rw [hx]
    exact ⟨_, rfl⟩
  · rw [decide_eq_false h, Bool.not_false, cond_true]
    exact ⟨_, rfl⟩
theorem op_tot (o : GOp) : ∃ b, g_spec_l09Op o = some b := by
  unfold g_spec_l09Op
  obtain ⟨s, hs⟩ := name_tot (IntKind.wrap .i64 o.N)
  rw [hs, specIn_eq, specIn_eq]
  simp only [Option.bind_some]
  cases o.Kind == 0
  · cases o.Kind == 1
    · cases o.Kind == 2
      · simp only [cond_false]
        by_cases h : 3 ≤ o.Kind ∧ o.Kind ≤ 8
        · rw [decide_eq_true h, cond_true]
          exact ⟨_, rfl⟩
        · rw [decide_eq_false h, cond_false]
          exact ⟨_, rfl⟩
      · exact ⟨_, rfl⟩
    · exact ⟨_, rfl⟩
  · exact ⟨_, rfl⟩
def okB (o : GOp) : Bool := (g_spec_l09Op o).getD false
theorem okB_eq (o : GOp) : g_spec_l09Op o = some (okB o) := by
  obtain ⟨b, h⟩ := op_tot o
  unfold okB
  rw [h]
  rfl
def stepF (v : List Int) (o : GOp) : Option (List Int) :=
  if o.Kind = 3 ∨ o.Kind = 4 ∨ o.Kind = 6 then some (v ++ [o.Kind])
  else if o.Kind = 5 ∨ o.Kind = 7 then (match v.getLast? with | none => none | some l => if decide (l = 6) = decide (o.Kind = 7) then some v.dropLast else none)
  else some v
def openF : List GOp → List Int → Option (List Int)
  | [], v => some v
  | o :: r, v => (stepF v o).bind (openF r)
def openG : List GOp → List Int → Option (List Int)
  | [], v => some v
  | o :: r, v => cond (okB o) ((stepF v o).bind (openG r)) none
theorem openG_eq : ∀ (l : List GOp) (v : List Int), openG l v = cond (l.all okB) (openF l v) none
  | [], v => rfl
  | o :: r, v => by
    rw [List.all_cons]
    unfold openG openF
    cases ho : okB o
    · rfl
    · rw [Bool.true_and, cond_true]
      cases hs : stepF v o with
      | none => cases r.all okB <;> rfl
      | some w => simp only [Option.bind_some]; exact openG_eq r w
theorem stepF_len {v w : List Int} {o : GOp} (h : stepF v o = some w) : w.length ≤ v.length + 1 := by
  unfold stepF at h
  split at h
  · cases h; simp
  · split at h
    · split at h
      · cases h
      · split at h
        · cases h; simp; omega
        · cases h
    · cases h; omega
def sumE {β : Type} (e : β) (o : Option (List Int)) : List Int ⊕ β := match o with | some w => .inl w | none => .inr e
theorem kinds (k : Int) : (k == 3) = decide (k = 3) ∧ (k == 4) = decide (k = 4) ∧ (k == 5) = decide (k = 5) ∧ (k == 6) = decide (k = 6) ∧ (k == 7) = decide (k = 7) := by
  refine ⟨?_, ?_, ?_, ?_, ?_⟩ <;> rw [Bool.eq_iff_iff] <;> simp
theorem last_get {v : List Int} (h : v ≠ []) (hl : v.length ≤ 16777216) : getI v (IntKind.wrap .i64 ((v.length : Int) - 1)) = v.getLast? ∧ subL v 0 (IntKind.wrap .i64 ((v.length : Int) - 1)) = some v.dropLast := by
  have h0 : 0 < v.length := by
    cases v with
    | nil => exact absurd rfl h
    | cons a r => simp
  rw [wI64 (by omega) (by omega), show (v.length : Int) - 1 = ((v.length - 1 : Nat) : Int) by omega, getI_nat, subL_take (by omega) (by omega), Int.toNat_natCast, List.getLast?_eq_getElem?, List.dropLast_eq_take]
  exact ⟨rfl, rfl⟩
theorem spec_step {β : Type} (e : β) (v : List Int) (o : GOp) (hl : v.length ≤ 16777216) :
    ((cond (o.Kind == 3) (some (o.Kind == 3)) (cond (o.Kind == 4) (some (o.Kind == 4)) (some (o.Kind == 6))) : Option (Bool)).bind fun v_17 => cond v_17 ((app v [o.Kind]).bind fun v_23 => some (Sum.inl v_23)) ((cond (o.Kind == 5) (some (o.Kind == 5)) (some (o.Kind == 7)) : Option (Bool)).bind fun v_24 => cond v_24 ((cond ((v.length : Int) == 0) (some true) ((getI v (IntKind.wrap .i64 ((v.length : Int) - 1))).bind fun v_33 => some ((v_33 == 6) != (o.Kind == 7))) : Option (Bool)).bind fun v_29 => cond v_29 (some (Sum.inr e)) ((subL v 0 (IntKind.wrap .i64 ((v.length : Int) - 1))).bind fun v_35 => some (Sum.inl v_35))) (some (Sum.inl v))) : Option ((List Int) ⊕ β)) = some (sumE e (stepF v o)) := by
  obtain ⟨e3, e4, e5, e6, e7⟩ := kinds o.Kind
  rw [e3, e4, e5, e6, e7]
  unfold stepF
  by_cases h3 : o.Kind = 3
  · simp only [h3, decide_true, cond_true, Option.bind_some]
    rw [app_eq (by simp; omega)]
    rfl
  · by_cases h4 : o.Kind = 4
    · rw [decide_eq_false h3, cond_false, decide_eq_true h4, cond_true, Option.bind_some, cond_true, app_eq (by simp; omega), if_pos (.inr (.inl h4))]
      rfl
    · by_cases h6 : o.Kind = 6
      · rw [decide_eq_false h3, cond_false, decide_eq_false h4, cond_false, Option.bind_some, decide_eq_true h6, cond_true, app_eq (by simp; omega), if_pos (.inr (.inr h6))]
        rfl
      · rw [decide_eq_false h3, cond_false, decide_eq_false h4, cond_false, Option.bind_some, decide_eq_false h6, cond_false, if_neg (by omega)]
        by_cases h57 : o.Kind = 5 ∨ o.Kind = 7
        · have hc : (cond (decide (o.Kind = 5)) (some (decide (o.Kind = 5))) (some (decide (o.Kind = 7))) : Option Bool) = some true := by
            rcases h57 with h | h
            · rw [decide_eq_true h]; rfl
            · rw [decide_eq_true h, decide_eq_false (by omega)]; rfl
          rw [hc, Option.bind_some, cond_true, if_pos h57]
          cases v with
          | nil => rfl
          | cons a r =>
            obtain ⟨g1, g2⟩ := last_get (v := a :: r) (by simp) hl
            have hz : (((a :: r).length : Int) == 0) = false := by simp; omega
            rw [hz, cond_false, g1, g2]
            obtain ⟨x, hx⟩ : ∃ x, (a :: r).getLast? = some x := by rw [List.getLast?_cons]; exact ⟨_, rfl⟩
            rw [hx]
            simp only [Option.bind_some]
            have ex : (x == 6) = decide (x = 6) := (kinds x).2.2.2.1
            rw [ex]
            by_cases hq : decide (x = 6) = decide (o.Kind = 7)
            · rw [hq, if_pos rfl]
              simp [sumE]
            · rw [if_neg hq]
              have : (decide (x = 6) != decide (o.Kind = 7)) = true := by simpa using hq
              rw [this, cond_true]
              rfl
        · have hc : (cond (decide (o.Kind = 5)) (some (decide (o.Kind = 5))) (some (decide (o.Kind = 7))) : Option Bool) = some false := by
            rw [decide_eq_false (by omega), decide_eq_false (by omega)]; rfl
          rw [hc, Option.bind_some, cond_false, if_neg h57]
          rfl
theorem impl_step {β : Type} (e : β) (v : List Int) (o : GOp) (hl : v.length ≤ 16777216) :
    ((cond (o.Kind == 3) (some true) (cond (o.Kind == 4) (some true) (some (o.Kind == 6))) : Option (Bool)).bind fun v_19 => cond v_19 ((app v [o.Kind]).bind fun v_25 => some (Sum.inl v_25)) ((cond (o.Kind == 5) (some true) (some (o.Kind == 7)) : Option (Bool)).bind fun v_26 => cond v_26 ((cond (decide ((IntKind.wrap .i64 ((v.length : Int) - 1)) < 0)) (some true) ((getI v (IntKind.wrap .i64 ((v.length : Int) - 1))).bind fun v_35 => some ((v_35 == 6) != (o.Kind == 7))) : Option (Bool)).bind fun v_31 => cond v_31 (some (Sum.inr e)) ((subL v 0 (IntKind.wrap .i64 ((v.length : Int) - 1))).bind fun v_37 => some (Sum.inl v_37))) (some (Sum.inl v))) : Option ((List Int) ⊕ β)) = some (sumE e (stepF v o)) := by
  rw [← spec_step e v o hl]
  have c1 : ∀ b : Bool, ∀ x : Option Bool, (cond b (some true) x : Option Bool) = cond b (some b) x := fun b x => by cases b <;> rfl
  have c2 : decide ((IntKind.wrap .i64 ((v.length : Int) - 1)) < 0) = ((v.length : Int) == 0) := by
    rw [wI64 (by omega) (by omega)]
    by_cases h0 : v.length = 0
    · rw [h0]; rfl
    · rw [decide_eq_false (by omega), beq_eq_false_iff_ne.2 (by omega)]
  rw [c2, c1 (o.Kind == 3), c1 (o.Kind == 4), c1 (o.Kind == 5)]
theorem spec_l0 {body : List GOp} (hb : body.length ≤ 1048576) : ∀ (k n : Nat) (v : List Int), n ≤ body.length → body.length - n < k → v.length ≤ n → g_spec_l09Open_l0 body k v n = some (sumE false (openF (body.drop n) v)) := by
  intro k
  induction k with
  | zero => intro n v h0 h1; omega
  | succ k ih =>
    intro n v h0 h1 h2
    rw [g_spec_l09Open_l0]
    by_cases hn : n < body.length
    · rw [decide_eq_true (by omega), cond_true, getI_nat, List.getElem?_eq_getElem hn, List.drop_eq_getElem_cons hn]
      simp only [Option.bind_some]
      rw [spec_step _ v body[n] (by omega)]
      simp only [Option.bind_some, openF]
      cases hs : stepF v body[n] with
      | none => rfl
      | some w =>
        have := stepF_len hs
        simp only [sumE, Option.bind_some]
        rw [wI64 (by omega) (by omega), show (n : Int) + 1 = ((n + 1 : Nat) : Int) by omega, ih (n + 1) w (by omega) (by omega) (by omega)]
        rfl
    · rw [decide_eq_false (by omega), cond_false, List.drop_eq_nil_of_le (by omega)]
      rfl
theorem impl_l0 {body : List GOp} (hb : body.length ≤ 1048576) : ∀ (k n : Nat) (v : List Int), n ≤ body.length → body.length - n < k → v.length ≤ n → g_impl_openIn_l0 body (body.length : Int) k v n = some (sumE (([] : List Int), false) (openG (body.drop n) v)) := by
  intro k
  induction k with
  | zero => intro n v h0 h1; omega
  | succ k ih =>
    intro n v h0 h1 h2
    rw [g_impl_openIn_l0]
    by_cases hn : n < body.length
    · rw [decide_eq_true (by omega), cond_true, getI_nat, List.getElem?_eq_getElem hn, List.drop_eq_getElem_cons hn]
      simp only [Option.bind_some]
      rw [op_eq, okB_eq]
      simp only [Option.bind_some, openG]
      cases ho : okB body[n]
      · rw [Bool.not_false, cond_true, cond_false]
        rfl
      · rw [Bool.not_true, cond_false, cond_true, impl_step _ v body[n] (by omega)]
        simp only [Option.bind_some]
        cases hs : stepF v body[n] with
        | none => rfl
        | some w =>
          have := stepF_len hs
          simp only [sumE, Option.bind_some]
          rw [wI64 (by omega) (by omega), show (n : Int) + 1 = ((n + 1 : Nat) : Int) by omega, ih (n + 1) w (by omega) (by omega) (by omega)]
          rfl
    · rw [decide_eq_false (by omega), cond_false, List.drop_eq_nil_of_le (by omega)]
      rfl
theorem spec_open {body : List GOp} (hb : body.length ≤ 1048576) : g_spec_l09Open body = some (match openF body [] with | none => ([], false) | some w => (w, true)) := by
  unfold g_spec_l09Open
  have h1 := spec_l0 hb bigK 0 [] (Nat.zero_le _) (by unfold bigK; omega) (Nat.le_refl _)
  rw [Int.natCast_zero, List.drop_zero] at h1
  rw [h1]
  cases openF body [] <;> rfl
theorem impl_open {body : List GOp} (hb : body.length ≤ 1048576) : g_impl_openIn body = some (match cond (body.all okB) (openF body []) none with | none => ([], false) | some w => (w, decide ((body.length : Int) ≤ 60))) := by
  unfold g_impl_openIn
  have h1 := impl_l0 hb bigK 0 [] (Nat.zero_le _) (by unfold bigK; omega) (Nat.le_refl _)
  rw [Int.natCast_zero, List.drop_zero] at h1
  rw [h1, openG_eq]
  cases cond (body.all okB) (openF body []) none <;> rfl
theorem toOpS {a : List GOp} (h : a.length ≤ 1048576) : g_laws_toOpS a = some a := by
  unfold g_laws_toOpS
  rw [mk_eq (by omega) (by omega), Option.bind_some, copyLoop (g_laws_toOpS_l0 a) (fun _ _ _ => rfl) (by omega) (by simp)]
  rfl
theorem eqOpS {a : List GOp} (h : a.length ≤ 1048576) : g_laws_eqOpS a a = some true :=
  eqRefl (g_laws_eqOpS_l0 a a) _ rfl (fun k n x hx hn => by
    rw [g_laws_eqOpS_l0, decide_eq_true (by omega), cond_true, getI_nat, hx]
    unfold g_laws_eqOp
    simp only [Option.bind_some, bne_self', cond_false, Bool.not_true]
    rw [nxt (by omega)]) (fun k n hn => by rw [g_laws_eqOpS_l0, decide_eq_false (by omega), cond_false]) (by omega)
def opM (k : Nat) : GOp := ⟨k, IntKind.wrap .i32 ((k + 1 : Nat) : Int)⟩
theorem markOpS {a : List GOp} (h : a.length ≤ 1048576) {k : Nat} (hk : k ≤ 1000000000) : g_laws_markOpS a (k : Int) = some (((k + 2 * a.length : Nat) : Int), marksN opM 2 k a.length) := by
  have := markL opM 2 2000000000 (g_laws_markOpS_l0) (fun f a kk n hn hl hk => by
    rw [g_laws_markOpS_l0, decide_eq_true (by omega), cond_true, getI_nat, List.getElem?_eq_getElem hn, Option.bind_some, getI_nat, Int.toNat_natCast, List.getElem?_set_self (by omega)]
    simp only [Option.bind_some, List.set_set]
    rw [wI64 (x := (kk : Int) + 1) (by omega) (by omega), wI64 (x := (kk : Int) + 1 + 1) (by omega) (by omega), wI64 (x := (n : Int) + 1) (by omega) (by omega)]
    rfl) (fun f a kk n hn => by rw [g_laws_markOpS_l0, decide_eq_false (by omega), cond_false]) bigK [] a k (by omega) (by simpa using h) (by unfold bigK; omega)
  unfold g_laws_markOpS
  rw [List.nil_append, List.length_nil, show ((0 : Nat) : Int) = 0 from rfl] at this
  rw [this]; rfl
theorem fitsOpS {a : List GOp} (hl : a.length ≤ LN) : ∀ {α : Type} (K : Int → Option α) (x : Option α), (∀ y, 0 ≤ y → a.length ≤ 1048576 → K y = x) → (∀ y, y < 0 → K y = x) → (g_laws_szOpS a 1048576).bind K = x := fun K x h1 h2 => by
  unfold g_laws_szOpS
  unfold LN at hl
  by_cases h : a.length ≤ 1048576
  · rw [wI64 (by omega) (by omega), decide_eq_false (by omega), cond_false, Option.bind_some, h1 _ (by omega) h]
  · rw [wI64 (by omega) (by omega), decide_eq_true (by omega), cond_true, Option.bind_some, h2 _ (by omega)]
def shapeB (body : List GOp) : Bool := decide (body.length ≤ 60) && body.all okB && decide (openF body [] = some [])
theorem specShape {body : List GOp} (hb : body.length ≤ 1048576) : g_spec_ShapeOk body = some (shapeB body) := by
  unfold g_spec_ShapeOk shapeB
  by_cases h60 : body.length ≤ 60
  · rw [decide_eq_false (by omega), cond_false, decide_eq_true h60, spec_open hb]
    have := allLoop (L := body) (bad := false) (fun _ o => okB o) (g_spec_ShapeOk_l0 body) (fun k n x hx hn => by
      rw [g_spec_ShapeOk_l0, decide_eq_true (by omega), cond_true, getI_nat, hx, Option.bind_some, okB_eq, Option.bind_some, wI64 (by omega) (by omega), show ((n : Int) + 1) = ((n + 1 : Nat) : Int) by omega]
      cases okB x <;> rfl) (fun k n hn => by rw [g_spec_ShapeOk_l0, decide_eq_false (by omega), cond_false]) (by omega)
    rw [this, allN_const, Bool.true_and]
    cases body.all okB with
    | false => rfl
    | true =>
      simp only [cond_true, Option.bind_some, Bool.true_and]
      cases openF body [] with
      | none => rfl
      | some w => cases w <;> simp <;> omega
  · rw [decide_eq_true (by omega), cond_true, decide_eq_false h60]; rfl
theorem implShape {body : List GOp} (hb : body.length ≤ 1048576) : g_impl_ShapeOk body = some (shapeB body) := by
  unfold g_impl_ShapeOk shapeB
  rw [impl_open hb]
  cases body.all okB with
  | false => simp
  | true =>
    simp only [cond_true, Option.bind_some, Bool.and_true]
    cases openF body [] with
    | none => simp
    | some w =>
      by_cases h60 : body.length ≤ 60
      · rw [decide_eq_true (p := (body.length : Int) ≤ 60) (by omega), decide_eq_true h60]
        cases w <;> simp <;> omega
      · rw [decide_eq_false (p := (body.length : Int) ≤ 60) (by omega), decide_eq_false h60]; simp
end Go.Proofs.YtjdccepbhpdkcaaDoor
namespace Go.Proofs.YtjdccepbhpdkcaaDoor
open Go Go.Fm
def ins (n : Int) : List Int → List Int
  | [] => [n]
  | x :: r => if x < n then x :: ins n r else if x = n then x :: r else n :: x :: r
theorem ins_mem (n : Int) : ∀ (l : List Int) (y : Int), y ∈ ins n l ↔ y = n ∨ y ∈ l
  | [], y => by simp [ins]
  | x :: r, y => by
    unfold ins
    split
    · rw [List.mem_cons, ins_mem n r, List.mem_cons]
      constructor <;> (rintro (h | h | h) <;> simp [h])
    · split
      · rename_i h1 h2; subst h2; simp
      · simp
theorem ins_asc (n : Int) : ∀ (l : List Int), l.Pairwise (· < ·) → (ins n l).Pairwise (· < ·)
  | [], _ => by simp [ins]
  | x :: r, h => by
    rw [List.pairwise_cons] at h
    unfold ins
    split
    · rename_i hx
      rw [List.pairwise_cons]
      refine ⟨fun y hy => ?_, ins_asc n r h.2⟩
      rcases (ins_mem n r y).1 hy with rfl | hy
      · exact hx
      · exact h.1 y hy
    · split
      · rw [List.pairwise_cons]; exact h
      · rename_i h1 h2
        rw [List.pairwise_cons, List.pairwise_cons]
        refine ⟨fun y hy => ?_, h⟩
        rcases List.mem_cons.1 hy with rfl | hy
        · omega
        · have := h.1 y hy; omega
theorem ins_len (n : Int) : ∀ (l : List Int), (ins n l).length ≤ l.length + 1
  | [] => by simp [ins]
  | x :: r => by
    have := ins_len n r
    unfold ins
    split
    · simp; omega
    · split <;> simp
def ahd (n : Int) : List Int → Nat
  | [] => 0
  | x :: r => if x < n then ahd n r + 1 else 0
theorem ahd_le (n : Int) : ∀ l, ahd n l ≤ l.length
  | [] => Nat.le_refl _
  | x :: r => by have := ahd_le n r; unfold ahd; split <;> simp; omega
theorem ins_eq (n : Int) : ∀ l : List Int, ins n l = if l[ahd n l]? = some n then l else l.take (ahd n l) ++ n :: l.drop (ahd n l)
  | [] => by simp [ins, ahd]
  | x :: r => by
    unfold ins ahd
    by_cases h : x < n
    · rw [if_pos h, if_pos h, ins_eq n r]
      simp only [List.getElem?_cons_succ, List.take_succ_cons, List.drop_succ_cons]
      split <;> rfl
    · rw [if_neg h, if_neg h]
      by_cases h2 : x = n
      · simp [h2]
      · simp [h2]
theorem put_l0 {l : List Int} {n : Int} (hl : l.length ≤ 1000) : ∀ (k i : Nat), i ≤ l.length → l.length - i < k → g_spec_l20Put_l0 l n k (i : Int) = some ((i + ahd n (l.drop i) : Nat) : Int) := by
  intro k
  induction k with
  | zero => intro i h0 h1; omega
  | succ k ih =>
    intro i h0 h1
    rw [g_spec_l20Put_l0]
    by_cases hn : i < l.length
    · rw [decide_eq_true (by omega), cond_true, getI_nat, List.getElem?_eq_getElem hn, List.drop_eq_getElem_cons hn]
      simp only [Option.bind_some]
      unfold ahd
      by_cases hx : l[i] < n
      · rw [decide_eq_true hx, cond_true, if_pos hx, nxt (by omega), ih (i + 1) (by omega) (by omega)]
        congr 2; omega
      · rw [decide_eq_false hx, cond_false, if_neg hx]; rfl
    · rw [decide_eq_false (by omega), cond_false, List.drop_eq_nil_of_le (by omega)]
      rfl
theorem put_eq {l : List Int} {n : Int} (hl : l.length ≤ 1000) : g_spec_l20Put l n = some (ins n l) := by
  unfold g_spec_l20Put
  have h := put_l0 (n := n) hl bigK 0 (Nat.zero_le _) (by unfold bigK; omega)
  rw [show ((0 : Nat) : Int) = 0 from rfl] at h
  have ha := ahd_le n l
  rw [h, Option.bind_some, List.drop_zero, Nat.zero_add, ins_eq]
  by_cases hn : ahd n l < l.length
  · rw [decide_eq_true (by omega), cond_true, getI_nat, List.getElem?_eq_getElem hn]
    simp only [Option.bind_some]
    by_cases hx : l[ahd n l] = n
    · rw [show (l[ahd n l] == n) = true by simp [hx], cond_true, if_pos (by rw [hx])]
    · rw [show (l[ahd n l] == n) = false by simp [hx], cond_false, if_neg (fun e => hx (Option.some.inj e)), subL_take (by omega) (by omega), Option.bind_some, app_eq (by simp; omega), Option.bind_some, app_eq (by simp; omega), Option.bind_some, subL_drop (by omega) (by omega), Option.bind_some, app_eq (by simp; omega)]
      simp
  · rw [decide_eq_false (by omega), cond_false]
    simp only [Option.bind_some, cond_false]
    rw [if_neg (by rw [List.getElem?_eq_none (by omega)]; simp), subL_take (by omega) (by omega), Option.bind_some, app_eq (by simp; omega), Option.bind_some, app_eq (by simp; omega), Option.bind_some, subL_drop (by omega) (by omega), Option.bind_some, app_eq (by simp; omega)]
    simp
theorem has_eq {l : List Int} {v : Int} (hl : l.length ≤ 1000) : g_slices_Contains_int l v = some (decide (v ∈ l)) := by
  unfold g_slices_Contains_int g_slices_Index_int
  have key : ∀ (k n : Nat), n ≤ l.length → l.length - n < k → ∃ o : Unit ⊕ Int, g_slices_Index_int_l0 l v (l.length : Int) k n = some o ∧ (match o with | .inl _ => v ∉ l.drop n | .inr i => 0 ≤ i ∧ v ∈ l.drop n) := by
    intro k
    induction k with
    | zero => intro n h0 h1; omega
    | succ k ih =>
      intro n h0 h1
      rw [g_slices_Index_int_l0]
      by_cases hn : n < l.length
      · rw [decide_eq_true (by omega), cond_true, getI_nat, List.getElem?_eq_getElem hn]
        have hd : l.drop n = l[n] :: l.drop (n + 1) := List.drop_eq_getElem_cons hn
        simp only [Option.bind_some]
        by_cases hk : v = l[n]
        · rw [show (v == l[n]) = true by simp [hk], cond_true]
          exact ⟨_, rfl, by show 0 ≤ (n : Int) ∧ v ∈ l.drop n; rw [hd, List.mem_cons]; exact ⟨by omega, .inl hk⟩⟩
        · rw [show (v == l[n]) = false by simp [hk], cond_false, nxt (by omega)]
          obtain ⟨o, g1, g2⟩ := ih (n + 1) (by omega) (by omega)
          refine ⟨o, g1, ?_⟩
          cases o with
          | inl u => show v ∉ l.drop n; rw [hd, List.mem_cons]; exact fun h => h.elim hk g2
          | inr i => show 0 ≤ i ∧ v ∈ l.drop n; rw [hd, List.mem_cons]; exact ⟨g2.1, .inr g2.2⟩
      · rw [decide_eq_false (by omega), cond_false, List.drop_eq_nil_of_le (by omega)]
        exact ⟨_, rfl, by simp⟩
  obtain ⟨o, h, g⟩ := key bigK 0 (Nat.zero_le _) (by unfold bigK; omega)
  rw [Int.natCast_zero] at h
  rw [List.drop_zero] at g
  rw [h]
  cases o with
  | inl u => simp only [Option.bind_some]; rw [decide_eq_false (show v ∉ l from g)]; rfl
  | inr i => simp only [Option.bind_some]; rw [decide_eq_true g.2, decide_eq_true g.1]
structure Same (u s : List Int) (n : Nat) : Prop where
  asc : s.Pairwise (· < ·)
  nd : u.Nodup
  mem : ∀ x, x ∈ u ↔ x ∈ s
  lu : u.length ≤ n
  ls : s.length ≤ n
theorem Same.sort {u s : List Int} {n : Nat} (h : Same u s n) : sortI u = s := by
  have hs : s.Nodup := h.asc.imp fun hab => by omega
  have hp : List.Perm (sortI u) s := (List.mergeSort_perm u _).trans ((List.perm_ext_iff_of_nodup h.nd hs).2 h.mem)
  have h1 : (sortI u).Pairwise (fun a b => decide (a ≤ b) = true) := List.pairwise_mergeSort (fun a b c => by simp; omega) (fun a b => by simp; omega) u
  exact List.Perm.eq_of_pairwise (le := fun a b => a ≤ b) (fun a b _ _ h1 h2 => by omega) (h1.imp fun h => by simpa using h) (h.asc.imp fun h => by omega) hp
theorem Same.step {u s : List Int} {n : Nat} (h : Same u s n) (v : Int) : Same (if v ∈ u then u else u ++ [v]) (ins v s) (n + 1) := by
  have hl := ins_len v s
  refine ⟨ins_asc v s h.asc, ?_, fun x => ?_, ?_, by have := h.ls; omega⟩
  · split
    · exact h.nd
    · rename_i hv
      rw [List.nodup_append]
      refine ⟨h.nd, by simp, fun a ha b hb => ?_⟩
      rw [List.mem_singleton] at hb
      subst hb
      rintro rfl
      exact hv ha
  · rw [ins_mem]
    split
    · rename_i hv
      rw [h.mem]
      constructor
      · exact fun hx => .inr hx
      · rintro (rfl | hx)
        · exact (h.mem _).1 hv
        · exact hx
    · rw [List.mem_append, List.mem_singleton, h.mem]
      constructor
      · rintro (h | h)
        · exact .inr h
        · exact .inl h
      · rintro (h | h)
        · exact .inr h
        · exact .inl h
  · have := h.lu
    split
    · omega
    · simp; omega
theorem calls_loops {body : List GOp} (hb : body.length ≤ 60) : ∀ (k i : Nat) (u s : List Int), i ≤ body.length → body.length - i < k → Same u s i →
    ∃ u' s', Same u' s' body.length ∧ g_impl_callsOf_l0 body (body.length : Int) k u (i : Int) = some u' ∧ g_spec_CallsOf_l0 body k s (i : Int) = some s' := by
  intro k
  induction k with
  | zero => intro i u s h0 h1; omega
  | succ k ih =>
    intro i u s h0 h1 h
    rw [g_impl_callsOf_l0, g_spec_CallsOf_l0]
    by_cases hn : i < body.length
    case neg =>
      have : i = body.length := by omega
      subst this
      exact ⟨u, s, h, by rw [decide_eq_false (by omega), cond_false], by rw [decide_eq_false (by omega), cond_false]⟩
    rw [decide_eq_true (by omega), cond_true, cond_true, getI_nat, List.getElem?_eq_getElem hn, nxt (by omega)]
    simp only [Option.bind_some]
    cases hk : (body[i].Kind == 2) with
    | false =>
      simp only [cond_false, Option.bind_some]
      exact ih (i + 1) u s (by omega) (by omega) ⟨h.asc, h.nd, h.mem, by have := h.lu; omega, by have := h.ls; omega⟩
    | true =>
      have := h.lu; have := h.ls
      simp only [cond_true, Option.bind_some]
      rw [has_eq (by omega), put_eq (by omega)]
      simp only [Option.bind_some]
      have := h.step (IntKind.wrap .i64 body[i].N)
      by_cases hv : IntKind.wrap .i64 body[i].N ∈ u
      · rw [if_pos hv] at this
        rw [decide_eq_true hv]
        exact ih (i + 1) _ _ (by omega) (by omega) this
      · rw [if_neg hv] at this
        rw [decide_eq_false hv, Bool.not_false, cond_true, app_eq (by simp; omega)]
        exact ih (i + 1) _ _ (by omega) (by omega) this
theorem Same.nil : Same [] [] 0 := ⟨.nil, by simp, fun _ => Iff.rfl, Nat.le_refl _, Nat.le_refl _⟩
theorem calls_body {body : List GOp} (hb : body.length ≤ 60) : ∃ s : List Int, s.length ≤ 60 ∧ s.Pairwise (· < ·) ∧ g_impl_callsOf body = some s ∧ g_spec_CallsOf_l0 body bigK [] 0 = some s := by
  obtain ⟨u, s, h, e1, e2⟩ := calls_loops hb bigK 0 [] [] (Nat.zero_le _) (by unfold bigK; omega) .nil
  rw [show ((0 : Nat) : Int) = 0 from rfl] at e1 e2
  have := h.lu; have := h.ls
  refine ⟨s, by omega, h.asc, ?_, e2⟩
  rw [g_impl_callsOf, e1]
  simp only [Option.bind_some]
  rw [g_slices_Sort_int, gSort, decide_eq_true (by omega), cond_true, h.sort]
  rfl
theorem calls_both {body : List GOp} (hb : body.length ≤ 1048576) : ∃ s : List Int, s.length ≤ 60 ∧ g_impl_CallsOf body = some s ∧ g_spec_CallsOf body = some s := by
  rw [g_impl_CallsOf, g_spec_CallsOf, implShape hb, specShape hb]
  cases hs : shapeB body with
  | false => exact ⟨[], by simp, rfl, rfl⟩
  | true =>
    have h60 : body.length ≤ 60 := by unfold shapeB at hs; simp only [Bool.and_eq_true, decide_eq_true_eq] at hs; exact hs.1.1
    obtain ⟨s, h1, _, h2, h3⟩ := calls_body h60
    refine ⟨s, h1, ?_, ?_⟩
    · simp only [Option.bind_some, Bool.not_true, cond_false]; rw [h2]; rfl
    · simp only [Option.bind_some, Bool.not_true, cond_false]; rw [h3]; rfl
theorem eqIntS {a : List Int} (h : a.length ≤ 1048576) : g_laws_eqIntS a a = some true :=
  eqRefl (g_laws_eqIntS_l0 a a) _ rfl (fun k n x hx hn => by
    rw [g_laws_eqIntS_l0, decide_eq_true (by omega), cond_true, getI_nat, hx]
    simp only [Option.bind_some, bne_self', cond_false]
    rw [nxt (by omega)]) (fun k n hn => by rw [g_laws_eqIntS_l0, decide_eq_false (by omega), cond_false]) (by omega)
def intM (k : Nat) : Int := k
theorem markIntS {a : List Int} (h : a.length ≤ 1048576) {k : Nat} (hk : k ≤ 1000000000) : g_laws_markIntS a (k : Int) = some (((k + 1 * a.length : Nat) : Int), marksN intM 1 k a.length) := by
  have := markL intM 1 2000000000 (g_laws_markIntS_l0) (fun f a kk n hn hl hk => by
    rw [g_laws_markIntS_l0, decide_eq_true (by omega), cond_true, getI_nat, List.getElem?_eq_getElem hn, Option.bind_some]
    rw [wI64 (x := (kk : Int) + 1) (by omega) (by omega), wI64 (x := (n : Int) + 1) (by omega) (by omega)]
    rfl) (fun f a kk n hn => by rw [g_laws_markIntS_l0, decide_eq_false (by omega), cond_false]) bigK [] a k (by omega) (by simpa using h) (by unfold bigK; omega)
  unfold g_laws_markIntS
  rw [List.nil_append, List.length_nil, show ((0 : Nat) : Int) = 0 from rfl] at this
  rw [this]; rfl
theorem heldIntS {n k : Nat} (h : n ≤ 1048576) (hk : k ≤ 1000000000) : g_laws_heldIntS (marksN intM 1 k n) (k : Int) = some ((k + 1 * n : Nat) : Int) := by
  have := heldL intM 1 2000000000 (L := marksN intM 1 k n) (g_laws_heldIntS_l0 (marksN intM 1 k n)) (fun f kk i hi hl hk he => by
    rw [g_laws_heldIntS_l0, decide_eq_true (by omega), cond_true, getI_nat, List.getElem?_eq_getElem hi, Option.bind_some, he]
    rw [wI64 (x := (kk : Int) + 1) (by omega) (by omega), wI64 (x := (i : Int) + 1) (by omega) (by omega)]
    show cond ((kk : Int) != kk) _ _ = _
    rw [bne_self_eq_false]
    rfl) (fun f kk i hi => by rw [g_laws_heldIntS_l0, decide_eq_false (by omega), cond_false]) bigK [] k n (by simp) (by rw [marksN_len]; exact h) (by omega) (by unfold bigK; omega)
  unfold g_laws_heldIntS
  rw [List.length_nil, show ((0 : Nat) : Int) = 0 from rfl] at this
  rw [this]; rfl
theorem law_calls {a : List GOp} (hl : a.length ≤ LN) : g_laws_FnExactCallsOf a = some true := by
  unfold g_laws_FnExactCallsOf
  refine fitsOpS hl _ _ (fun y hy ha => ?_) fun y hy => by rw [decide_eq_true hy]; rfl
  obtain ⟨w, h1, h3, h2⟩ := calls_both ha
  have m1 := markOpS (a := a) ha (k := 1) (by omega)
  have m2 := markIntS (a := w) (by omega) (k := 1) (by omega)
  have m3 := heldIntS (n := w.length) (k := 1) (by omega) (by omega)
  rw [show ((1 : Nat) : Int) = 1 from rfl] at m1 m2 m3
  rw [decide_eq_false (by omega), cond_false, toOpS ha, Option.bind_some, h2, Option.bind_some]
  simp only [Option.bind_some, h3, eqIntS (a := w) (by omega), eqOpS ha, m1, m2, m3, Bool.not_true, cond_false, bne_self_eq_false]
  rw [decide_eq_false (by omega), decide_eq_false (by omega)]
  rfl
end Go.Proofs.YtjdccepbhpdkcaaDoor

namespace Go.Proofs.YtjdccepbhpdkcaaDoor
open Go Go.Fm
set_option maxRecDepth 100000
theorem typed_GOp : Typed [.int .i64, .int .i32] GOp.cs (fun x : GOp => (fun n : Int => (Lit.int .i64 n).wf = true) x.Kind ∧ (fun n : Int => (Lit.int .i32 n).wf = true) x.N) := fun row hl h => by
  match row, hl with
  | [c0, c1], _ =>
    obtain ⟨x0, e0, g0⟩ := (typed_int .i64) [c0] rfl (Go.Fm.one_cell (h 0 _ c0 rfl rfl))
    obtain ⟨x1, e1, g1⟩ := (typed_int .i32) [c1] rfl (Go.Fm.one_cell (h 1 _ c1 rfl rfl))
    obtain rfl := (List.cons.inj e0).1
    obtain rfl := (List.cons.inj e1).1
    exact ⟨(⟨x0, x1⟩ : GOp), rfl, ⟨g0, g1⟩⟩
theorem ans_FnExactCallsOf (x0 : List GOp) (g0 : (fun xs : List GOp => xs.length ≤ maxLen ∧ ∀ x ∈ xs, (fun x : GOp => (fun n : Int => (Lit.int .i64 n).wf = true) x.Kind ∧ (fun n : Int => (Lit.int .i32 n).wf = true) x.N) x) x0) :
    Ans Tryd.prog 5 [.one (.imm 2 x0.length (x0.flatMap GOp.cs))] [] fun v _ => v = Go.Fm.one (.bool true) := fun hm => by
  obtain ⟨r, h1, a, b, c, _⟩ := ce_laws_FnExactCallsOf (x0) true (good_pure rfl rfl) (law_calls g0.1) hm
  exact ⟨r, h1, a, b⟩
end Go.Proofs.YtjdccepbhpdkcaaDoor
