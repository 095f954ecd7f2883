import Derived.Test.YtigaffddnidkpaaMF
import Derived.Test.YtigaffddnidkpaaCS
namespace Go.Proofs.Ytigaffddnidkpaa
open Go Go.Fm
set_option linter.unusedVariables false
set_option linter.defProp false
abbrev Bs := List UInt8
structure GItem where
  Kind : Int
  Name : Bs
  N : Int
  Hex : Bool
  Raw : Int
  deriving DecidableEq, Inhabited, Repr
def GItem.cs (x : GItem) : List CV := [.int .i64 x.Kind, .str x.Name, .int .i32 x.N, .bool x.Hex, .int .u32 x.Raw]
theorem GItem.cs_eq (x : GItem) : GItem.cs x = [.int .i64 x.Kind, .str x.Name, .int .i32 x.N, .bool x.Hex, .int .u32 x.Raw] := rfl
theorem GItem.ok : EncOk GItem.cs 5 := ⟨fun _ => rfl, fun _ => rfl⟩
theorem tl0_1 (xs : List Int) : winC 0 xs.length 1 (xs.flatMap (eI .i64)) = xs.flatMap (eI .i64) := fWin (eI_ok .i64) rfl
theorem tl0_2 {h : Nat → HS} {π : List Nat} {f : Nat} (xs : List Int) : lendAll (lendC h π f) (xs.flatMap (eI .i64)) = some ([], xs.flatMap (eI .i64)) := fLend (eI_ok .i64) xs
theorem tl0_3 (xs : List Int) : riAll (xs.flatMap (eI .i64)) = true := fRi (eI_ok .i64) xs
theorem tl0_4 {σ : Nat → Nat} {b : Bool} (xs : List Int) : (xs.flatMap (eI .i64)).map (backC σ b) = xs.flatMap (eI .i64) := fBackB (fun _ => rfl) xs
theorem tl1_1 (xs : List GItem) : winC 0 xs.length 5 (xs.flatMap GItem.cs) = xs.flatMap GItem.cs := fWin GItem.ok rfl
theorem tl1_2 {h : Nat → HS} {π : List Nat} {f : Nat} (xs : List GItem) : lendAll (lendC h π f) (xs.flatMap GItem.cs) = some ([], xs.flatMap GItem.cs) := fLend GItem.ok xs
theorem tl1_3 (xs : List GItem) : riAll (xs.flatMap GItem.cs) = true := fRi GItem.ok xs
theorem tl1_4 {σ : Nat → Nat} {b : Bool} (xs : List GItem) : (xs.flatMap GItem.cs).map (backC σ b) = xs.flatMap GItem.cs := fBackB (fun _ => rfl) xs
theorem tl2_1 (xs : List (List Int)) : winC 0 xs.length 1 (xs.flatMap (eL (eI .i64) 1)) = xs.flatMap (eL (eI .i64) 1) := fWin (eL_ok (eI .i64) 1) rfl
theorem tl2_2 {h : Nat → HS} {π : List Nat} {f : Nat} (xs : List (List Int)) : lendAll (lendC h π f) (xs.flatMap (eL (eI .i64) 1)) = some ([], xs.flatMap (eL (eI .i64) 1)) := fLend (eL_ok (eI .i64) 1) xs
theorem tl2_3 (xs : List (List Int)) : riAll (xs.flatMap (eL (eI .i64) 1)) = true := fRi (eL_ok (eI .i64) 1) xs
theorem tl2_4 {σ : Nat → Nat} (xs : List (List Int)) : (xs.flatMap (eL (eI .i64) 1)).map (backC σ true) = xs.flatMap (eL (eI .i64) 1) := fBack (eL_ok (eI .i64) 1) xs
theorem tl3_1 (xs : List (List (List Int))) : winC 0 xs.length 1 (xs.flatMap (eL (eL (eI .i64) 1) 1)) = xs.flatMap (eL (eL (eI .i64) 1) 1) := fWin (eL_ok (eL (eI .i64) 1) 1) rfl
theorem tl3_2 {h : Nat → HS} {π : List Nat} {f : Nat} (xs : List (List (List Int))) : lendAll (lendC h π f) (xs.flatMap (eL (eL (eI .i64) 1) 1)) = some ([], xs.flatMap (eL (eL (eI .i64) 1) 1)) := fLend (eL_ok (eL (eI .i64) 1) 1) xs
theorem tl3_3 (xs : List (List (List Int))) : riAll (xs.flatMap (eL (eL (eI .i64) 1) 1)) = true := fRi (eL_ok (eL (eI .i64) 1) 1) xs
theorem tl3_4 {σ : Nat → Nat} (xs : List (List (List Int))) : (xs.flatMap (eL (eL (eI .i64) 1) 1)).map (backC σ true) = xs.flatMap (eL (eL (eI .i64) 1) 1) := fBack (eL_ok (eL (eI .i64) 1) 1) xs
def TL := an @tl0_1 <| an @tl0_2 <| an @tl0_3 <| an @tl1_1 <| an @tl1_2 <| an @tl1_3 <| an @tl2_1 <| an @tl2_2 <| an @tl2_3 <| an @tl3_1 <| an @tl3_2 <| @tl3_3
def TT := an @TryT_0 <| an @TryT_1 <| an @TryT_2 <| an @TryT_3 <| an @TryT_4 <| an @TryT_5 <| an @TryT_6 <| an @TryT_7 <| an @TryT_8 <| an @TryT_9 <| an @TryT_10 <| an @TryT_11 <| an @TryT_12 <| an @TryT_13 <| an @TryT_14 <| an @TryT_15 <| an @TryT_16 <| an @TryT_17 <| an @TryT_18 <| an @TryT_19 <| an @TryT_20 <| an @TryT_21 <| an @TryT_22 <| an @TryT_23 <| an @TryT_24 <| an @TryT_25 <| an @TryT_26 <| an @TryT_27 <| an @TryT_28 <| an @TryT_29 <| an @TryT_30 <| an @TryT_31 <| an @TryT_32 <| an @TryT_33 <| an @TryT_34 <| an @TryT_35 <| an @TryT_36 <| an @TryT_37 <| an @TryT_38 <| an @TryT_39 <| an @TryT_40 <| an @TryT_41 <| an @TryT_42 <| an @TryT_43 <| an @TryT_44 <| an @TryT_45 <| an @TryT_46 <| an @TryT_47 <| an @TryT_48 <| an @TryT_49 <| an @TryT_50 <| an @TryT_51 <| an @TryT_52 <| an @TryT_53 <| an @TryT_54 <| an @TryT_55 <| an @TryT_56 <| an @TryT_57 <| an @TryT_58 <| an @TryT_59 <| an @TryT_60 <| an @TryT_61 <| an @TryT_62 <| an @TryT_63 <| an @TryT_64 <| an @TryT_65 <| an @TryT_66 <| an @TryT_67 <| an @TryT_68 <| an @TryT_69 <| an @TryT_70 <| an @TryT_71 <| an @TryT_72 <| an @TryT_73 <| an @TryT_74 <| an @TryT_75 <| an @TryT_76 <| an @TryT_77 <| an @TryT_78 <| an @GItem.cs_eq <| an @tl0_1 <| an @tl0_4 <| an @tl1_1 <| an @tl1_4 <| an @tl2_1 <| an @tl2_4 <| an @tl3_1 <| @tl3_4
def UP := an @MY <| an @MU <| an @MB <| an @MC <| @TT
def WL := an @MY <| an @MX <| an @ML <| an @TL <| @TT
def DN := an @MD <| an @actH.eq_1 <| an @actH.eq_2 <| an @actH.eq_3 <| an @actH.eq_4 <| an @actH.eq_5 <| an @actH.eq_6 <| an @actH.eq_7 <| an @actH.eq_8 <| an @actH.eq_9 <| an @actH.eq_10 <| an @actH.eq_11 <| an @actH.eq_12 <| an @actH.eq_13 <| an @actH.eq_14 <| an @actH.eq_15 <| an @actH.eq_16 <| an @actH.eq_17 <| an @actH.eq_18 <| an @actH.eq_19 <| an @actH.eq_20 <| an @actH.eq_21 <| an @actH.eq_22 <| an @actH.eq_23 <| an @builtinH.eq_1 <| an @builtinH.eq_2 <| an @builtinH.eq_3 <| an @builtinG.eq_1 <| an @builtinG.eq_2 <| an @builtinG.eq_3 <| an @builtinFT.eq_1 <| an @builtinFT.eq_4 <| an @builtinFT.eq_5 <| an @builtinFT.eq_6 <| an @builtinFT.eq_7 <| an @builtinFT.eq_8 <| @b_cap
open Nat renaming reduceEqDiff → r1, reduceLT → r2, reduceLeDiff → r3, reduceAdd → r4, reduceMul → r5, reduceSub → r6
open Int renaming reduceToNat → r7
theorem wn {k0 : Nat} {s s' : S} (ks π : List Nat) (h : normS k0 ks π 9 s = some s' := by simp only [WL, r1, r2, r3, r4, r5, r6, r7, reduceCtorEq]) : Weak k0 s s' := weak_norm h
theorem cG {f : FuncId} {caps : List CV} {args : List SV} {s : S} {K : Action → Prop} (π : List Nat) {ps1 ps : List PV} {bs H : List HS} {R : SV} (hc : Ans Try.prog f ps bs fun r h => r = R ∧ h = H) (hps : argsP args = some ps1 := by rfl)
    (hl : (lendPs (lendP s.st.heap π 9) (ps1 ++ caps.map .one)).map (·.2) = some ps := by simp only [WL, r1, r2, r3, r4, r5, r6, r7, reduceCtorEq]) (hb : (lendH s.st.heap π 9 π).map (·.2) = some bs := by simp only [WL, r1, r2, r3, r4, r5, r6, r7, reduceCtorEq]) (hnd : nodB π = true := by rfl)
    (hk : keepOk bs H = true := by simp only [WL, r1, r2, r3, r4, r5, r6, r7, reduceCtorEq]) (hK : ∀ rd b, K ⟨rd, backS (sig π bs.length s.heap.length) b R, backHp (sig π bs.length s.heap.length) b 0 H⟩) : @callT _ (fun _ => Try.prog) f caps args s ⟨K⟩ :=
  callG (P := fun _ => Try.prog) π 9 hps hl hb hnd hc hk hK
end Go.Proofs.Ytigaffddnidkpaa
namespace Go.Proofs.Ytigaffddnidkpaa
open Go Go.Fm
open Nat renaming reduceEqDiff → r1, reduceLT → r2, reduceLeDiff → r3, reduceAdd → r4, reduceMul → r5, reduceSub → r6
open Int renaming reduceToNat → r7
set_option maxRecDepth 100000
set_option linter.unusedVariables false
set_option linter.unusedSimpArgs false
def g_laws_szItem (a_1 : GItem) (left_2 : Int) : Option Int := cond (decide ((IntKind.wrap .i64 (left_2 - (a_1.Name.length : Int))) < 0)) (some (-1)) (some (IntKind.wrap .i64 (left_2 - (a_1.Name.length : Int))))
def g_laws_szItemS_l0 (a_1 : List GItem) : Nat → Int → Int → Option (Int ⊕ Unit)
  | 0, _, _ => none
  | k + 1, left_7, i_8 => cond (decide (i_8 < (a_1.length : Int))) ((getI a_1 i_8).bind fun v_15 => (g_laws_szItem v_15 left_7).bind fun y_16 => cond (decide (y_16 < 0)) (some (.inr ())) (g_laws_szItemS_l0 a_1 k y_16 (IntKind.wrap .i64 (i_8 + 1)))) (some (.inl left_7))
def g_laws_szItemS (a_1 : List GItem) (left_2 : Int) : Option Int := cond (decide ((IntKind.wrap .i64 (left_2 - (a_1.length : Int))) < 0)) (some (-1)) (((g_laws_szItemS_l0 a_1 bigK (IntKind.wrap .i64 (left_2 - (a_1.length : Int))) 0).bind fun o => match o with | .inl left_9 => some (.inl left_9) | .inr () => some (.inr ()) : Option (Int ⊕ Unit)).bind fun o => match o with | .inl left_4 => some left_4 | .inr () => some (-1))
def g_laws_toItem (a_1 : GItem) : Option GItem := some a_1
def g_laws_toItemS_l0 (a_1 : List GItem) : Nat → (List GItem) → Int → Option (List GItem)
  | 0, _, _ => none
  | k + 1, out_6, i_7 => cond (decide (i_7 < (a_1.length : Int))) ((getI a_1 i_7).bind fun v_14 => (g_laws_toItem v_14).bind fun y_15 => (getI out_6 i_7).bind fun v_16 => g_laws_toItemS_l0 a_1 k (out_6.set i_7.toNat y_15) (IntKind.wrap .i64 (i_7 + 1))) (some out_6)
def g_laws_toItemS (a_1 : List GItem) : Option (List GItem) := (mk ((⟨0, [], 0, false, 0⟩ : GItem) : GItem) (a_1.length : Int)).bind fun v_2 => ((g_laws_toItemS_l0 a_1 bigK v_2 0).bind fun out_8 => some out_8 : Option ((List GItem))).bind fun out_3 => some out_3
def g_spec_l14Max (a_1 : Int) (b_2 : Int) : Option Int := cond (decide (a_1 > b_2)) (some a_1) (some b_2)
def g_spec_l22Table_s (a b : List GItem) (rows : List (List Int)) (i k : Int) : Option (List (List Int)) := (getI rows i).bind fun r => (getI rows (IntKind.wrap .i64 (i + 1))).bind fun r1 => (getI r1 k).bind fun x => (getI r (IntKind.wrap .i64 (k + 1))).bind fun y => (g_spec_l14Max x y).bind fun z => (getI r k).bind fun _ => (getI a i).bind fun p => (getI b k).bind fun q =>
  cond ((p.Kind : Int) == q.Kind && ((p.Name : Bs) == q.Name && ((p.N : Int) == q.N && ((p.Hex : Bool) == q.Hex && ((p.Raw : Int) == q.Raw && true))))) ((getI r1 (IntKind.wrap .i64 (k + 1))).bind fun w => (getI (r.set k.toNat z) k).bind fun _ => some (rows.set i.toNat ((r.set k.toNat z).set k.toNat (IntKind.wrap .i64 (w + 1))))) (some (rows.set i.toNat (r.set k.toNat z)))
def g_spec_l22Table_l2 (a b : List GItem) (i : Int) : Nat → List (List Int) → Int → Option (List (List Int))
  | 0, _, _ => none
  | f + 1, rows, k => cond (decide (k ≥ 0)) ((g_spec_l22Table_s a b rows i k).bind fun rows => g_spec_l22Table_l2 a b i f rows (IntKind.wrap .i64 (k - 1))) (some rows)
def g_spec_l22Table_l1 (a b : List GItem) : Nat → List (List Int) → Int → Option (List (List Int))
  | 0, _, _ => none
  | f + 1, rows, i => cond (decide (i ≥ 0)) ((g_spec_l22Table_l2 a b i bigK rows (IntKind.wrap .i64 ((b.length : Int) - 1))).bind fun rows => g_spec_l22Table_l1 a b f rows (IntKind.wrap .i64 (i - 1))) (some rows)
def g_spec_l22Table_l0 (a b : List GItem) : Nat → List (List Int) → Int → Option (List (List Int))
  | 0, _, _ => none
  | f + 1, rows, i => cond (decide (i ≤ (a.length : Int))) ((mk (0 : Int) (IntKind.wrap .i64 ((b.length : Int) + 1))).bind fun z => (app rows [z]).bind fun rows => g_spec_l22Table_l0 a b f rows (IntKind.wrap .i64 (i + 1))) (some rows)
def g_spec_l22Table (a b : List GItem) : Option (List (List Int)) := (g_spec_l22Table_l0 a b bigK [] 0).bind fun rows => g_spec_l22Table_l1 a b bigK rows (IntKind.wrap .i64 ((a.length : Int) - 1))
def g_spec_Common (a_1 : List GItem) (b_2 : List GItem) : Option Int := (cond (decide ((a_1.length : Int) > 64)) (some true) (some (decide ((b_2.length : Int) > 64))) : Option (Bool)).bind fun v_3 => cond v_3 (some (-1)) ((g_spec_l22Table a_1 b_2).bind fun y_8 => (getI y_8 0).bind fun v_9 => (getI v_9 0).bind fun v_10 => some v_10)
def g_impl_common_l1 (b_2 : List GItem) (row_7 : List Int) (v_18 : GItem) : Nat → (List Int) → Int → Option (List Int)
  | 0, _, _ => none
  | k + 1, next_22, v_23 => cond (decide (v_23 < (b_2.length : Int))) (((getI b_2 v_23).bind fun v_33 => (getI next_22 v_23).bind fun v_34 => (getI row_7 (IntKind.wrap .i64 (v_23 + 1))).bind fun v_35 => (getI next_22 (IntKind.wrap .i64 (v_23 + 1))).bind fun v_36 => cond ((v_18.Kind : Int) == v_33.Kind && ((v_18.Name : Bs) == v_33.Name && ((v_18.N : Int) == v_33.N && ((v_18.Hex : Bool) == v_33.Hex && ((v_18.Raw : Int) == v_33.Raw && true))))) ((getI row_7 v_23).bind fun v_38 => (getI (next_22.set (IntKind.wrap .i64 (v_23 + 1)).toNat (maxI v_34 v_35)) (IntKind.wrap .i64 (v_23 + 1))).bind fun v_39 => some ((next_22.set (IntKind.wrap .i64 (v_23 + 1)).toNat (maxI v_34 v_35)).set (IntKind.wrap .i64 (v_23 + 1)).toNat (IntKind.wrap .i64 (v_38 + 1)))) (some (next_22.set (IntKind.wrap .i64 (v_23 + 1)).toNat (maxI v_34 v_35))) : Option ((List Int))).bind fun next_30 => g_impl_common_l1 b_2 row_7 v_18 k next_30 (IntKind.wrap .i64 (v_23 + 1))) (some next_22)
def g_impl_common_l0 (a_1 : List GItem) (b_2 : List GItem) (v_3 : List Int) : Nat → (List Int) → Int → Option (List Int)
  | 0, _, _ => none
  | k + 1, row_7, v_8 => cond (decide (v_8 < (a_1.length : Int))) (((getI a_1 v_8).bind fun v_18 => ((g_impl_common_l1 b_2 row_7 v_18 bigK v_3 0).bind fun next_24 => some next_24 : Option ((List Int))).bind fun next_19 => some next_19 : Option ((List Int))).bind fun row_15 => g_impl_common_l0 a_1 b_2 v_3 k row_15 (IntKind.wrap .i64 (v_8 + 1))) (some row_7)
def g_impl_common (a_1 : List GItem) (b_2 : List GItem) : Option Int := (mk (0 : Int) (IntKind.wrap .i64 ((b_2.length : Int) + 1))).bind fun v_3 => ((g_impl_common_l0 a_1 b_2 v_3 bigK v_3 0).bind fun row_9 => some row_9 : Option ((List Int))).bind fun row_4 => (getI row_4 (b_2.length : Int)).bind fun v_40 => some v_40
def g_impl_Common (a_1 : List GItem) (b_2 : List GItem) : Option Int := (cond (decide ((a_1.length : Int) > 64)) (some true) (some (decide ((b_2.length : Int) > 64))) : Option (Bool)).bind fun v_3 => cond v_3 (some (-1)) ((g_impl_common a_1 b_2).bind fun y_8 => some y_8)
def g_laws_eqItem (a_1 : GItem) (b_2 : GItem) : Option Bool := cond (a_1.Kind != b_2.Kind) (some false) (cond (a_1.Name != b_2.Name) (some false) (cond (a_1.N != b_2.N) (some false) (cond (a_1.Hex != b_2.Hex) (some false) (cond (a_1.Raw != b_2.Raw) (some false) (some true)))))
def g_laws_eqItemS_l0 (a_1 : List GItem) (b_2 : List GItem) : Nat → Int → Option (Unit ⊕ Unit)
  | 0, _ => none
  | k + 1, i_6 => cond (decide (i_6 < (a_1.length : Int))) ((getI a_1 i_6).bind fun v_12 => (getI b_2 i_6).bind fun v_13 => (g_laws_eqItem v_12 v_13).bind fun y_14 => cond (!y_14) (some (.inr ())) (g_laws_eqItemS_l0 a_1 b_2 k (IntKind.wrap .i64 (i_6 + 1)))) (some (.inl ()))
def g_laws_eqItemS (a_1 : List GItem) (b_2 : List GItem) : Option Bool := cond ((a_1.length : Int) != (b_2.length : Int)) (some false) (((g_laws_eqItemS_l0 a_1 b_2 bigK 0).bind fun o => match o with | .inl () => some (.inl ()) | .inr () => some (.inr ()) : Option (Unit ⊕ Unit)).bind fun o => match o with | .inl () => some true | .inr () => some false)
def g_laws_FnExactCommon (aA_1 : List GItem) (aB_2 : List GItem) : Option Bool := (g_laws_szItemS aA_1 1048576).bind fun y_3 => cond (decide (y_3 < 0)) (some true) ((g_laws_szItemS aB_2 y_3).bind fun y_5 => cond (decide (y_5 < 0)) (some true) ((g_laws_toItemS aA_1).bind fun y_7 => (g_laws_toItemS aB_2).bind fun y_8 => (g_spec_Common y_7 y_8).bind fun y_9 => (g_laws_toItemS aA_1).bind fun y_10 => (g_laws_toItemS aB_2).bind fun y_11 => (g_impl_Common y_10 y_11).bind fun y_12 => cond (y_12 != y_9) (some false) ((g_laws_toItemS aA_1).bind fun y_14 => (g_laws_eqItemS y_10 y_14).bind fun y_15 => cond (!y_15) (some false) ((g_laws_toItemS aB_2).bind fun y_17 => (g_laws_eqItemS y_11 y_17).bind fun y_18 => cond (!y_18) (some false) (some true)))))
end Go.Proofs.Ytigaffddnidkpaa
