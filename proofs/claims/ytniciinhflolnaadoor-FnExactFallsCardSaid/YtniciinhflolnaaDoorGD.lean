import Derived.Test.YtniciinhflolnaaDoorMF
import Derived.Test.YtniciinhflolnaaDoorCS
namespace Go.Proofs.YtniciinhflolnaaDoor
open Go Go.Fm
set_option linter.unusedVariables false
set_option linter.defProp false
abbrev Bs := List UInt8
structure GOp where
  Kind : Int
  N : Int
  deriving DecidableEq, Inhabited, Repr
def GOp.cs (x : GOp) : List CV := [.int .i64 x.Kind, .int .i32 x.N]
theorem GOp.cs_eq (x : GOp) : GOp.cs x = [.int .i64 x.Kind, .int .i32 x.N] := rfl
theorem GOp.ok : EncOk GOp.cs 2 := ⟨fun _ => rfl, fun _ => rfl⟩
theorem tl0_1 (xs : List Int) : winC 0 xs.length 1 (xs.flatMap (eI .i64)) = xs.flatMap (eI .i64) := fWin (eI_ok .i64) rfl
theorem tl0_2 {h : Nat → HS} {π : List Nat} {f : Nat} (xs : List Int) : lendAll (lendC h π f) (xs.flatMap (eI .i64)) = some ([], xs.flatMap (eI .i64)) := fLend (eI_ok .i64) xs
theorem tl0_3 (xs : List Int) : riAll (xs.flatMap (eI .i64)) = true := fRi (eI_ok .i64) xs
theorem tl0_4 {σ : Nat → Nat} {b : Bool} (xs : List Int) : (xs.flatMap (eI .i64)).map (backC σ b) = xs.flatMap (eI .i64) := fBackB (fun _ => rfl) xs
theorem tl1_1 (xs : List Int) : winC 0 xs.length 1 (xs.flatMap (eI .u8)) = xs.flatMap (eI .u8) := fWin (eI_ok .u8) rfl
theorem tl1_2 {h : Nat → HS} {π : List Nat} {f : Nat} (xs : List Int) : lendAll (lendC h π f) (xs.flatMap (eI .u8)) = some ([], xs.flatMap (eI .u8)) := fLend (eI_ok .u8) xs
theorem tl1_3 (xs : List Int) : riAll (xs.flatMap (eI .u8)) = true := fRi (eI_ok .u8) xs
theorem tl1_4 {σ : Nat → Nat} {b : Bool} (xs : List Int) : (xs.flatMap (eI .u8)).map (backC σ b) = xs.flatMap (eI .u8) := fBackB (fun _ => rfl) xs
theorem tl2_1 (xs : List Bs) : winC 0 xs.length 1 (xs.flatMap eS) = xs.flatMap eS := fWin eS_ok rfl
theorem tl2_2 {h : Nat → HS} {π : List Nat} {f : Nat} (xs : List Bs) : lendAll (lendC h π f) (xs.flatMap eS) = some ([], xs.flatMap eS) := fLend eS_ok xs
theorem tl2_3 (xs : List Bs) : riAll (xs.flatMap eS) = true := fRi eS_ok xs
theorem tl2_4 {σ : Nat → Nat} {b : Bool} (xs : List Bs) : (xs.flatMap eS).map (backC σ b) = xs.flatMap eS := fBackB (fun _ => rfl) xs
theorem tl3_1 (xs : List GOp) : winC 0 xs.length 2 (xs.flatMap GOp.cs) = xs.flatMap GOp.cs := fWin GOp.ok rfl
theorem tl3_2 {h : Nat → HS} {π : List Nat} {f : Nat} (xs : List GOp) : lendAll (lendC h π f) (xs.flatMap GOp.cs) = some ([], xs.flatMap GOp.cs) := fLend GOp.ok xs
theorem tl3_3 (xs : List GOp) : riAll (xs.flatMap GOp.cs) = true := fRi GOp.ok xs
theorem tl3_4 {σ : Nat → Nat} {b : Bool} (xs : List GOp) : (xs.flatMap GOp.cs).map (backC σ b) = xs.flatMap GOp.cs := fBackB (fun _ => rfl) xs
def TL := an @tl0_1 <| an @tl0_2 <| an @tl0_3 <| an @tl1_1 <| an @tl1_2 <| an @tl1_3 <| an @tl2_1 <| an @tl2_2 <| an @tl2_3 <| an @tl3_1 <| an @tl3_2 <| @tl3_3
def TT := an @TrydT_0 <| an @TrydT_1 <| an @TrydT_2 <| an @TrydT_3 <| an @TrydT_4 <| an @TrydT_5 <| an @TrydT_6 <| an @TrydT_7 <| an @TrydT_8 <| an @TrydT_9 <| an @TrydT_10 <| an @TrydT_11 <| an @TrydT_12 <| an @TrydT_13 <| an @TrydT_14 <| an @TrydT_15 <| an @TrydT_16 <| an @TrydT_17 <| an @TrydT_18 <| an @TrydT_19 <| an @TrydT_20 <| an @TrydT_21 <| an @TrydT_22 <| an @TrydT_23 <| an @TrydT_24 <| an @TrydT_25 <| an @TrydT_26 <| an @TrydT_27 <| an @TrydT_28 <| an @TrydT_29 <| an @TrydT_30 <| an @TrydT_31 <| an @TrydT_32 <| an @TrydT_33 <| an @TrydT_34 <| an @TrydT_35 <| an @TrydT_36 <| an @TrydT_37 <| an @TrydT_38 <| an @TrydT_39 <| an @TrydT_40 <| an @TrydT_41 <| an @TrydT_42 <| an @TrydT_43 <| an @TrydT_44 <| an @TrydT_45 <| an @TrydT_46 <| an @TrydT_47 <| an @TrydT_48 <| an @TrydT_49 <| an @TrydT_50 <| an @TrydT_51 <| an @TrydT_52 <| an @TrydT_53 <| an @TrydT_54 <| an @TrydT_55 <| an @TrydT_56 <| an @TrydT_57 <| an @TrydT_58 <| an @TrydT_59 <| an @TrydT_60 <| an @TrydT_61 <| an @TrydT_62 <| an @TrydT_63 <| an @TrydT_64 <| an @TrydT_65 <| an @TrydT_66 <| an @TrydT_67 <| an @TrydT_68 <| an @TrydT_69 <| an @TrydT_70 <| an @TrydT_71 <| an @TrydT_72 <| an @TrydT_73 <| an @TrydT_74 <| an @TrydT_75 <| an @TrydT_76 <| an @TrydT_77 <| an @TrydT_78 <| an @TrydT_79 <| an @TrydT_80 <| an @TrydT_81 <| an @GOp.cs_eq <| an @tl0_1 <| an @tl0_4 <| an @tl1_1 <| an @tl1_4 <| an @tl2_1 <| an @tl2_4 <| an @tl3_1 <| @tl3_4
def UP := an @MY <| an @MU <| an @MB <| an @MC <| @TT
def WL := an @MY <| an @MX <| an @ML <| an @TL <| @TT
def DN := an @MD <| an @actH.eq_1 <| an @actH.eq_2 <| an @actH.eq_3 <| an @actH.eq_4 <| an @actH.eq_5 <| an @actH.eq_6 <| an @actH.eq_7 <| an @actH.eq_8 <| an @actH.eq_9 <| an @actH.eq_10 <| an @actH.eq_11 <| an @actH.eq_12 <| an @actH.eq_13 <| an @actH.eq_14 <| an @actH.eq_15 <| an @actH.eq_16 <| an @actH.eq_17 <| an @actH.eq_18 <| an @actH.eq_19 <| an @actH.eq_20 <| an @actH.eq_21 <| an @actH.eq_22 <| an @actH.eq_23 <| an @builtinH.eq_1 <| an @builtinH.eq_2 <| an @builtinH.eq_3 <| an @builtinG.eq_1 <| an @builtinG.eq_2 <| an @builtinG.eq_3 <| an @builtinFT.eq_1 <| an @builtinFT.eq_4 <| an @builtinFT.eq_5 <| an @builtinFT.eq_6 <| an @builtinFT.eq_7 <| an @builtinFT.eq_8 <| @b_cap
open Nat renaming reduceEqDiff → r1, reduceLT → r2, reduceLeDiff → r3, reduceAdd → r4, reduceMul → r5, reduceSub → r6
open Int renaming reduceToNat → r7
theorem wn {k0 : Nat} {s s' : S} (ks π : List Nat) (h : normS k0 ks π 9 s = some s' := by simp only [WL, r1, r2, r3, r4, r5, r6, r7, reduceCtorEq]) : Weak k0 s s' := weak_norm h
theorem cG {f : FuncId} {caps : List CV} {args : List SV} {s : S} {K : Action → Prop} (π : List Nat) {ps1 ps : List PV} {bs H : List HS} {R : SV} (hc : Ans Tryd.prog f ps bs fun r h => r = R ∧ h = H) (hps : argsP args = some ps1 := by rfl)
    (hl : (lendPs (lendP s.st.heap π 9) (ps1 ++ caps.map .one)).map (·.2) = some ps := by simp only [WL, r1, r2, r3, r4, r5, r6, r7, reduceCtorEq]) (hb : (lendH s.st.heap π 9 π).map (·.2) = some bs := by simp only [WL, r1, r2, r3, r4, r5, r6, r7, reduceCtorEq]) (hnd : nodB π = true := by rfl)
    (hk : keepOk bs H = true := by simp only [WL, r1, r2, r3, r4, r5, r6, r7, reduceCtorEq]) (hK : ∀ rd b, K ⟨rd, backS (sig π bs.length s.heap.length) b R, backHp (sig π bs.length s.heap.length) b 0 H⟩) : @callT _ (fun _ => Tryd.prog) f caps args s ⟨K⟩ :=
  callG (P := fun _ => Tryd.prog) π 9 hps hl hb hnd hc hk hK
end Go.Proofs.YtniciinhflolnaaDoor
namespace Go.Proofs.YtniciinhflolnaaDoor
open Go Go.Fm
open Nat renaming reduceEqDiff → r1, reduceLT → r2, reduceLeDiff → r3, reduceAdd → r4, reduceMul → r5, reduceSub → r6
open Int renaming reduceToNat → r7
set_option maxRecDepth 100000
set_option linter.unusedVariables false
set_option linter.unusedSimpArgs false
def g_laws_szOpS (a_1 : List GOp) (left_2 : Int) : Option Int := cond (decide ((IntKind.wrap .i64 (left_2 - (a_1.length : Int))) < 0)) (some (-1)) (some (IntKind.wrap .i64 (left_2 - (a_1.length : Int))))
def g_laws_toOp (a_1 : GOp) : Option GOp := some a_1
def g_laws_toOpS_l0 (a_1 : List GOp) : Nat → (List GOp) → Int → Option (List GOp)
  | 0, _, _ => none
  | k + 1, out_6, i_7 => cond (decide (i_7 < (a_1.length : Int))) ((getI a_1 i_7).bind fun v_14 => (g_laws_toOp v_14).bind fun y_15 => (getI out_6 i_7).bind fun v_16 => g_laws_toOpS_l0 a_1 k (out_6.set i_7.toNat y_15) (IntKind.wrap .i64 (i_7 + 1))) (some out_6)
def g_laws_toOpS (a_1 : List GOp) : Option (List GOp) := (mk ((⟨0, 0⟩ : GOp) : GOp) (a_1.length : Int)).bind fun v_2 => ((g_laws_toOpS_l0 a_1 bigK v_2 0).bind fun out_8 => some out_8 : Option ((List GOp))).bind fun out_3 => some out_3
def g_spec_l08Names : Option (List Bs) := some [[100, 117, 112], [100, 114, 111, 112], [111, 118, 101, 114], [110, 105, 112], [115, 119, 97, 112], [43], [45], [42], [97, 110, 100], [111, 114], [50, 42], [50, 47], [47, 109, 111, 100], [64], [33], [97], [97, 33], [101, 109, 105, 116], [107, 101, 121], [112, 117, 115, 104], [112, 111, 112], [105], [46], [110, 111, 112]]
def g_spec_l01In (x_1 : Int) (a_2 : Int) (b_3 : Int) : Option Bool := cond (decide (x_1 ≥ a_2)) (some (decide (x_1 ≤ b_3))) (some false)
def g_spec_PrimName (k_1 : Int) : Option Bs := (g_spec_l08Names).bind fun y_2 => (g_spec_l01In k_1 0 (IntKind.wrap .i64 ((y_2.length : Int) - 1))).bind fun y_3 => cond (!y_3) (some []) ((getI y_2 k_1).bind fun v_5 => some v_5)
def g_spec_l09Op (o_1 : GOp) : Option Bool := cond (o_1.Kind == 0) (some true) (cond (o_1.Kind == 1) ((g_spec_PrimName (IntKind.wrap .i64 o_1.N)).bind fun y_4 => some (y_4 != [])) (cond (o_1.Kind == 2) ((g_spec_l01In (IntKind.wrap .i64 o_1.N) 0 23).bind fun y_6 => some y_6) ((g_spec_l01In o_1.Kind 3 8).bind fun y_7 => cond y_7 (some (o_1.N == 0)) (some false))))
def g_spec_l09Open_l0 (body_1 : List GOp) : Nat → (List Int) → Int → Option ((List Int) ⊕ Unit)
  | 0, _, _ => none
  | k + 1, vopen_5, i_6 => cond (decide (i_6 < (body_1.length : Int))) (((getI body_1 i_6).bind fun v_16 => (cond (v_16.Kind == 3) (some (v_16.Kind == 3)) (cond (v_16.Kind == 4) (some (v_16.Kind == 4)) (some (v_16.Kind == 6))) : Option (Bool)).bind fun v_17 => cond v_17 ((app vopen_5 [v_16.Kind]).bind fun v_23 => some (.inl v_23)) ((cond (v_16.Kind == 5) (some (v_16.Kind == 5)) (some (v_16.Kind == 7)) : Option (Bool)).bind fun v_24 => cond v_24 ((cond ((vopen_5.length : Int) == 0) (some true) ((getI vopen_5 (IntKind.wrap .i64 ((vopen_5.length : Int) - 1))).bind fun v_33 => some ((v_33 == 6) != (v_16.Kind == 7))) : Option (Bool)).bind fun v_29 => cond v_29 (some (.inr ())) ((subL vopen_5 0 (IntKind.wrap .i64 ((vopen_5.length : Int) - 1))).bind fun v_35 => some (.inl v_35))) (some (.inl vopen_5))) : Option ((List Int) ⊕ Unit)).bind fun o => match o with | .inl vopen_13 => g_spec_l09Open_l0 body_1 k vopen_13 (IntKind.wrap .i64 (i_6 + 1)) | .inr () => some (.inr ())) (some (.inl vopen_5))
def g_spec_l09Open (body_1 : List GOp) : Option ((List Int) × Bool) := ((g_spec_l09Open_l0 body_1 bigK ([] : List Int) 0).bind fun o => match o with | .inl vopen_7 => some (.inl vopen_7) | .inr () => some (.inr ()) : Option ((List Int) ⊕ Unit)).bind fun o => match o with | .inl vopen_2 => some (vopen_2, true) | .inr () => some ([], false)
def g_spec_ShapeOk_l0 (body_1 : List GOp) : Nat → Int → Option (Unit ⊕ Unit)
  | 0, _ => none
  | k + 1, i_5 => cond (decide (i_5 < (body_1.length : Int))) ((getI body_1 i_5).bind fun v_11 => (g_spec_l09Op v_11).bind fun y_12 => cond (!y_12) (some (.inr ())) (g_spec_ShapeOk_l0 body_1 k (IntKind.wrap .i64 (i_5 + 1)))) (some (.inl ()))
def g_spec_ShapeOk (body_1 : List GOp) : Option Bool := cond (decide ((body_1.length : Int) > 60)) (some false) (((g_spec_ShapeOk_l0 body_1 bigK 0).bind fun o => match o with | .inl () => some (.inl ()) | .inr () => some (.inr ()) : Option (Unit ⊕ Unit)).bind fun o => match o with | .inl () => (g_spec_l09Open body_1).bind fun y_14 => cond y_14.2 (some ((y_14.1.length : Int) == 0)) (some false) | .inr () => some false)
def g_spec_Falls (body_1 : List GOp) : Option Bool := (g_spec_ShapeOk body_1).bind fun y_2 => cond y_2 (cond ((body_1.length : Int) == 0) (some true) ((getI body_1 (IntKind.wrap .i64 ((body_1.length : Int) - 1))).bind fun v_5 => some (v_5.Kind != 8))) (some false)
def g_strings_FieldsFunc_unicode_IsSpace (s_1 : Bs) : Option (List Bs) := none
def g_strings_Fields_l0 (s_1 : Bs) : Nat → Int → Int → Int → Int → Option (Int × Int)
  | 0, _, _, _, _ => none
  | k + 1, n_6, wasSpace_7, setBits_8, i_9 => cond (decide (i_9 < (s_1.length : Int))) ((idxS s_1 i_9).bind fun v_17 => (getI gtAscii v_17).bind fun v_18 => g_strings_Fields_l0 s_1 k (IntKind.wrap .i64 (n_6 + (andI .i64 wasSpace_7 (notI .i64 (IntKind.wrap .i64 v_18))))) (IntKind.wrap .i64 v_18) (orI .u8 setBits_8 v_17) (IntKind.wrap .i64 (i_9 + 1))) (some (n_6, setBits_8))
def g_strings_Fields_l1 (s_1 : Bs) : Nat → Int → Option Int
  | 0, _ => none
  | k + 1, i_22 => (cond (decide (i_22 < (s_1.length : Int))) ((idxS s_1 i_22).bind fun v_32 => (getI gtAscii v_32).bind fun v_33 => some (v_33 != 0)) (some false) : Option (Bool)).bind fun v_28 => cond v_28 (g_strings_Fields_l1 s_1 k (IntKind.wrap .i64 (i_22 + 1))) (some i_22)
def g_strings_Fields_l3 (s_1 : Bs) : Nat → Int → Option Int
  | 0, _ => none
  | k + 1, i_52 => (cond (decide (i_52 < (s_1.length : Int))) ((idxS s_1 i_52).bind fun v_62 => (getI gtAscii v_62).bind fun v_63 => some (v_63 != 0)) (some false) : Option (Bool)).bind fun v_58 => cond v_58 (g_strings_Fields_l3 s_1 k (IntKind.wrap .i64 (i_52 + 1))) (some i_52)
def g_strings_Fields_l2 (s_1 : Bs) : Nat → (List Bs) → Int → Int → Int → Option ((List Bs) × Int × Int)
  | 0, _, _, _, _ => none
  | k + 1, a_35, na_36, fieldStart_37, i_38 => cond (decide (i_38 < (s_1.length : Int))) ((idxS s_1 i_38).bind fun v_47 => (getI gtAscii v_47).bind fun v_48 => cond (v_48 == 0) (g_strings_Fields_l2 s_1 k a_35 na_36 fieldStart_37 (IntKind.wrap .i64 (i_38 + 1))) ((subL s_1 fieldStart_37 i_38).bind fun v_50 => (getI a_35 na_36).bind fun v_51 => (g_strings_Fields_l3 s_1 bigK (IntKind.wrap .i64 (i_38 + 1))).bind fun i_53 => g_strings_Fields_l2 s_1 k (a_35.set na_36.toNat v_50) (IntKind.wrap .i64 (na_36 + 1)) i_53 i_53)) (some (a_35, na_36, fieldStart_37))
def g_strings_Fields (s_1 : Bs) : Option (List Bs) := ((g_strings_Fields_l0 s_1 bigK 0 1 0 0).bind fun (n_10, setBits_11) => some (n_10, setBits_11) : Option ((Int × Int))).bind fun (n_2, setBits_3) => cond (decide (setBits_3 ≥ 128)) ((g_strings_FieldsFunc_unicode_IsSpace s_1).bind fun y_20 => some y_20) ((mk ([] : Bs) n_2).bind fun v_21 => (g_strings_Fields_l1 s_1 bigK 0).bind fun i_23 => (g_strings_Fields_l2 s_1 bigK v_21 0 i_23 i_23).bind fun (a_39, na_40, fieldStart_41) => (cond (decide (fieldStart_41 < (s_1.length : Int))) ((subL s_1 fieldStart_41 (s_1.length : Int)).bind fun v_69 => (getI a_39 na_40).bind fun v_70 => some (a_39.set na_40.toNat v_69)) (some a_39) : Option ((List Bs))).bind fun a_65 => some a_65)
def g_impl_prims : Option (List Bs) := (g_strings_Fields [100, 117, 112, 32, 100, 114, 111, 112, 32, 111, 118, 101, 114, 32, 110, 105, 112, 32, 115, 119, 97, 112, 32, 43, 32, 45, 32, 42, 32, 97, 110, 100, 32, 111, 114, 32, 50, 42, 32, 50, 47, 32, 47, 109, 111, 100, 32, 64, 32, 33, 32, 97, 32, 97, 33, 32, 101, 109, 105, 116, 32, 107, 101, 121, 32, 112, 117, 115, 104, 32, 112, 111, 112, 32, 105, 32, 46, 32, 110, 111, 112]).bind fun y_1 => some y_1
def g_impl_within (n_1 : Int) (low_2 : Int) (high_3 : Int) : Option Bool := cond (decide (low_2 ≤ n_1)) (some (decide (n_1 ≤ high_3))) (some false)
def g_impl_PrimName (k_1 : Int) : Option Bs := (g_impl_prims).bind fun y_2 => (g_impl_within k_1 0 (IntKind.wrap .i64 ((y_2.length : Int) - 1))).bind fun y_3 => cond y_3 ((getI y_2 k_1).bind fun v_5 => some v_5) (some [])
def g_impl_opOk (o_1 : GOp) : Option Bool := cond (o_1.Kind == 0) (some true) (cond (o_1.Kind == 1) ((g_impl_PrimName (IntKind.wrap .i64 o_1.N)).bind fun y_4 => some (y_4 != [])) (cond (o_1.Kind == 2) ((g_impl_within (IntKind.wrap .i64 o_1.N) 0 23).bind fun y_6 => some y_6) ((g_impl_within o_1.Kind 3 8).bind fun y_7 => cond y_7 (some (o_1.N == 0)) (some false))))
def g_impl_openIn_l0 (body_1 : List GOp) : Nat → (List Int) → Int → Option ((List Int) ⊕ Unit)
  | 0, _, _ => none
  | k + 1, vopen_5, v_6 => cond (decide (v_6 < (body_1.length : Int))) (((getI body_1 v_6).bind fun v_16 => (g_impl_opOk v_16).bind fun y_17 => cond (!y_17) (some (.inr ())) ((cond (v_16.Kind == 3) (some true) (cond (v_16.Kind == 4) (some true) (some (v_16.Kind == 6))) : Option (Bool)).bind fun v_19 => cond v_19 ((app vopen_5 [v_16.Kind]).bind fun v_25 => some (.inl v_25)) ((cond (v_16.Kind == 5) (some true) (some (v_16.Kind == 7)) : Option (Bool)).bind fun v_26 => cond v_26 ((cond (decide ((IntKind.wrap .i64 ((vopen_5.length : Int) - 1)) < 0)) (some true) ((getI vopen_5 (IntKind.wrap .i64 ((vopen_5.length : Int) - 1))).bind fun v_35 => some ((v_35 == 6) != (v_16.Kind == 7))) : Option (Bool)).bind fun v_31 => cond v_31 (some (.inr ())) ((subL vopen_5 0 (IntKind.wrap .i64 ((vopen_5.length : Int) - 1))).bind fun v_37 => some (.inl v_37))) (some (.inl vopen_5)))) : Option ((List Int) ⊕ Unit)).bind fun o => match o with | .inl vopen_13 => g_impl_openIn_l0 body_1 k vopen_13 (IntKind.wrap .i64 (v_6 + 1)) | .inr () => some (.inr ())) (some (.inl vopen_5))
def g_impl_openIn (body_1 : List GOp) : Option ((List Int) × Bool) := ((g_impl_openIn_l0 body_1 bigK ([] : List Int) 0).bind fun o => match o with | .inl vopen_7 => some (.inl vopen_7) | .inr () => some (.inr ()) : Option ((List Int) ⊕ Unit)).bind fun o => match o with | .inl vopen_2 => some (vopen_2, decide ((body_1.length : Int) ≤ 60)) | .inr () => some ([], false)
def g_impl_ShapeOk (body_1 : List GOp) : Option Bool := (g_impl_openIn body_1).bind fun y_2 => cond y_2.2 (some ((y_2.1.length : Int) == 0)) (some false)
def g_impl_Falls (body_1 : List GOp) : Option Bool := (g_impl_ShapeOk body_1).bind fun y_2 => cond y_2 (cond ((body_1.length : Int) == 0) (some true) ((getI body_1 (IntKind.wrap .i64 ((body_1.length : Int) - 1))).bind fun v_5 => some (v_5.Kind != 8))) (some false)
def g_laws_eqOp (a_1 : GOp) (b_2 : GOp) : Option Bool := cond (a_1.Kind != b_2.Kind) (some false) (cond (a_1.N != b_2.N) (some false) (some true))
def g_laws_eqOpS_l0 (a_1 : List GOp) (b_2 : List GOp) : Nat → Int → Option (Unit ⊕ Unit)
  | 0, _ => none
  | k + 1, i_6 => cond (decide (i_6 < (a_1.length : Int))) ((getI a_1 i_6).bind fun v_12 => (getI b_2 i_6).bind fun v_13 => (g_laws_eqOp v_12 v_13).bind fun y_14 => cond (!y_14) (some (.inr ())) (g_laws_eqOpS_l0 a_1 b_2 k (IntKind.wrap .i64 (i_6 + 1)))) (some (.inl ()))
def g_laws_eqOpS (a_1 : List GOp) (b_2 : List GOp) : Option Bool := cond ((a_1.length : Int) != (b_2.length : Int)) (some false) (((g_laws_eqOpS_l0 a_1 b_2 bigK 0).bind fun o => match o with | .inl () => some (.inl ()) | .inr () => some (.inr ()) : Option (Unit ⊕ Unit)).bind fun o => match o with | .inl () => some true | .inr () => some false)
def g_laws_FnExactFalls (aBody_1 : List GOp) : Option Bool := (g_laws_szOpS aBody_1 1048576).bind fun y_2 => cond (decide (y_2 < 0)) (some true) ((g_laws_toOpS aBody_1).bind fun y_4 => (g_spec_Falls y_4).bind fun y_5 => (g_laws_toOpS aBody_1).bind fun y_6 => (g_impl_Falls y_6).bind fun y_7 => cond (y_7 != y_5) (some false) ((g_laws_toOpS aBody_1).bind fun y_9 => (g_laws_eqOpS y_6 y_9).bind fun y_10 => cond (!y_10) (some false) (some true)))
end Go.Proofs.YtniciinhflolnaaDoor
