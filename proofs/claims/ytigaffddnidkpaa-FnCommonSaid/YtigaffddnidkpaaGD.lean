import Derived.Test.YtigaffddnidkpaaMF
import Derived.Test.YtigaffddnidkpaaCS
namespace Go.Proofs.Ytigaffddnidkpaa
open Go Go.Fm
set_option linter.unusedVariables false
set_option linter.defProp false
abbrev Bs := List UInt8
structure GL01Cur where
  b : List Int
  i : Int
  h : Int
  deriving DecidableEq, Inhabited, Repr
structure GItem where
  Kind : Int
  Name : Bs
  N : Int
  Hex : Bool
  Raw : Int
  deriving DecidableEq, Inhabited, Repr
def GItem.cs (x : GItem) : List CV := [.int .i64 x.Kind, .str x.Name, .int .i32 x.N, .bool x.Hex, .int .u32 x.Raw]
theorem GItem.cs_eq (x : GItem) : GItem.cs x = [.int .i64 x.Kind, .str x.Name, .int .i32 x.N, .bool x.Hex, .int .u32 x.Raw] := rfl
theorem GItem.ok : EncOk GItem.cs 5 := ⟨fun _ => rfl, fun _ => rfl⟩
theorem tl0_1 (xs : List Int) : winC 0 xs.length 1 (xs.flatMap (eI .i64)) = xs.flatMap (eI .i64) := fWin (eI_ok .i64) rfl
theorem tl0_2 {h : Nat → HS} {π : List Nat} {f : Nat} (xs : List Int) : lendAll (lendC h π f) (xs.flatMap (eI .i64)) = some ([], xs.flatMap (eI .i64)) := fLend (eI_ok .i64) xs
theorem tl0_3 (xs : List Int) : riAll (xs.flatMap (eI .i64)) = true := fRi (eI_ok .i64) xs
theorem tl0_4 {σ : Nat → Nat} {b : Bool} (xs : List Int) : (xs.flatMap (eI .i64)).map (backC σ b) = xs.flatMap (eI .i64) := fBackB (fun _ => rfl) xs
theorem tl1_1 (xs : List Int) : winC 0 xs.length 1 (xs.flatMap (eI .u8)) = xs.flatMap (eI .u8) := fWin (eI_ok .u8) rfl
theorem tl1_2 {h : Nat → HS} {π : List Nat} {f : Nat} (xs : List Int) : lendAll (lendC h π f) (xs.flatMap (eI .u8)) = some ([], xs.flatMap (eI .u8)) := fLend (eI_ok .u8) xs
theorem tl1_3 (xs : List Int) : riAll (xs.flatMap (eI .u8)) = true := fRi (eI_ok .u8) xs
theorem tl1_4 {σ : Nat → Nat} {b : Bool} (xs : List Int) : (xs.flatMap (eI .u8)).map (backC σ b) = xs.flatMap (eI .u8) := fBackB (fun _ => rfl) xs
theorem tl2_1 (xs : List Bs) : winC 0 xs.length 1 (xs.flatMap eS) = xs.flatMap eS := fWin eS_ok rfl
theorem tl2_2 {h : Nat → HS} {π : List Nat} {f : Nat} (xs : List Bs) : lendAll (lendC h π f) (xs.flatMap eS) = some ([], xs.flatMap eS) := fLend eS_ok xs
theorem tl2_3 (xs : List Bs) : riAll (xs.flatMap eS) = true := fRi eS_ok xs
theorem tl2_4 {σ : Nat → Nat} {b : Bool} (xs : List Bs) : (xs.flatMap eS).map (backC σ b) = xs.flatMap eS := fBackB (fun _ => rfl) xs
theorem tl3_1 (xs : List (List Int)) : winC 0 xs.length 1 (xs.flatMap (eL (eI .i64) 1)) = xs.flatMap (eL (eI .i64) 1) := fWin (eL_ok (eI .i64) 1) rfl
theorem tl3_2 {h : Nat → HS} {π : List Nat} {f : Nat} (xs : List (List Int)) : lendAll (lendC h π f) (xs.flatMap (eL (eI .i64) 1)) = some ([], xs.flatMap (eL (eI .i64) 1)) := fLend (eL_ok (eI .i64) 1) xs
theorem tl3_3 (xs : List (List Int)) : riAll (xs.flatMap (eL (eI .i64) 1)) = true := fRi (eL_ok (eI .i64) 1) xs
theorem tl3_4 {σ : Nat → Nat} (xs : List (List Int)) : (xs.flatMap (eL (eI .i64) 1)).map (backC σ true) = xs.flatMap (eL (eI .i64) 1) := fBack (eL_ok (eI .i64) 1) xs
theorem tl4_1 (xs : List (List (List Int))) : winC 0 xs.length 1 (xs.flatMap (eL (eL (eI .i64) 1) 1)) = xs.flatMap (eL (eL (eI .i64) 1) 1) := fWin (eL_ok (eL (eI .i64) 1) 1) rfl
theorem tl4_2 {h : Nat → HS} {π : List Nat} {f : Nat} (xs : List (List (List Int))) : lendAll (lendC h π f) (xs.flatMap (eL (eL (eI .i64) 1) 1)) = some ([], xs.flatMap (eL (eL (eI .i64) 1) 1)) := fLend (eL_ok (eL (eI .i64) 1) 1) xs
theorem tl4_3 (xs : List (List (List Int))) : riAll (xs.flatMap (eL (eL (eI .i64) 1) 1)) = true := fRi (eL_ok (eL (eI .i64) 1) 1) xs
theorem tl4_4 {σ : Nat → Nat} (xs : List (List (List Int))) : (xs.flatMap (eL (eL (eI .i64) 1) 1)).map (backC σ true) = xs.flatMap (eL (eL (eI .i64) 1) 1) := fBack (eL_ok (eL (eI .i64) 1) 1) xs
theorem tl5_1 (xs : List GItem) : winC 0 xs.length 5 (xs.flatMap GItem.cs) = xs.flatMap GItem.cs := fWin GItem.ok rfl
theorem tl5_2 {h : Nat → HS} {π : List Nat} {f : Nat} (xs : List GItem) : lendAll (lendC h π f) (xs.flatMap GItem.cs) = some ([], xs.flatMap GItem.cs) := fLend GItem.ok xs
theorem tl5_3 (xs : List GItem) : riAll (xs.flatMap GItem.cs) = true := fRi GItem.ok xs
theorem tl5_4 {σ : Nat → Nat} {b : Bool} (xs : List GItem) : (xs.flatMap GItem.cs).map (backC σ b) = xs.flatMap GItem.cs := fBackB (fun _ => rfl) xs
def TL := an @tl0_1 <| an @tl0_2 <| an @tl0_3 <| an @tl1_1 <| an @tl1_2 <| an @tl1_3 <| an @tl2_1 <| an @tl2_2 <| an @tl2_3 <| an @tl3_1 <| an @tl3_2 <| an @tl3_3 <| an @tl4_1 <| an @tl4_2 <| an @tl4_3 <| an @tl5_1 <| an @tl5_2 <| @tl5_3
def TT := an @TryT_0 <| an @TryT_1 <| an @TryT_2 <| an @TryT_3 <| an @TryT_4 <| an @TryT_5 <| an @TryT_6 <| an @TryT_7 <| an @TryT_8 <| an @TryT_9 <| an @TryT_10 <| an @TryT_11 <| an @TryT_12 <| an @TryT_13 <| an @TryT_14 <| an @TryT_15 <| an @TryT_16 <| an @TryT_17 <| an @TryT_18 <| an @TryT_19 <| an @TryT_20 <| an @TryT_21 <| an @TryT_22 <| an @TryT_23 <| an @TryT_24 <| an @TryT_25 <| an @TryT_26 <| an @TryT_27 <| an @TryT_28 <| an @TryT_29 <| an @TryT_30 <| an @TryT_31 <| an @TryT_32 <| an @TryT_33 <| an @TryT_34 <| an @TryT_35 <| an @TryT_36 <| an @TryT_37 <| an @TryT_38 <| an @TryT_39 <| an @TryT_40 <| an @TryT_41 <| an @TryT_42 <| an @TryT_43 <| an @TryT_44 <| an @TryT_45 <| an @TryT_46 <| an @TryT_47 <| an @TryT_48 <| an @TryT_49 <| an @TryT_50 <| an @TryT_51 <| an @TryT_52 <| an @TryT_53 <| an @TryT_54 <| an @TryT_55 <| an @TryT_56 <| an @TryT_57 <| an @TryT_58 <| an @TryT_59 <| an @TryT_60 <| an @TryT_61 <| an @TryT_62 <| an @TryT_63 <| an @TryT_64 <| an @TryT_65 <| an @TryT_66 <| an @TryT_67 <| an @TryT_68 <| an @TryT_69 <| an @TryT_70 <| an @TryT_71 <| an @TryT_72 <| an @TryT_73 <| an @TryT_74 <| an @TryT_75 <| an @TryT_76 <| an @TryT_77 <| an @TryT_78 <| an @GItem.cs_eq <| an @tl0_1 <| an @tl0_4 <| an @tl1_1 <| an @tl1_4 <| an @tl2_1 <| an @tl2_4 <| an @tl3_1 <| an @tl3_4 <| an @tl4_1 <| an @tl4_4 <| an @tl5_1 <| @tl5_4
def UP := an @MY <| an @MU <| an @MB <| an @MC <| @TT
def WL := an @MY <| an @MX <| an @ML <| an @TL <| @TT
def DN := an @MD <| an @actH.eq_1 <| an @actH.eq_2 <| an @actH.eq_3 <| an @actH.eq_4 <| an @actH.eq_5 <| an @actH.eq_6 <| an @actH.eq_7 <| an @actH.eq_8 <| an @actH.eq_9 <| an @actH.eq_10 <| an @actH.eq_11 <| an @actH.eq_12 <| an @actH.eq_13 <| an @actH.eq_14 <| an @actH.eq_15 <| an @actH.eq_16 <| an @actH.eq_17 <| an @actH.eq_18 <| an @actH.eq_19 <| an @actH.eq_20 <| an @actH.eq_21 <| an @actH.eq_22 <| an @actH.eq_23 <| an @builtinH.eq_1 <| an @builtinH.eq_2 <| an @builtinH.eq_3 <| an @builtinG.eq_1 <| an @builtinG.eq_2 <| an @builtinG.eq_3 <| an @builtinFT.eq_1 <| an @builtinFT.eq_4 <| an @builtinFT.eq_5 <| an @builtinFT.eq_6 <| an @builtinFT.eq_7 <| an @builtinFT.eq_8 <| @b_cap
open Nat renaming reduceEqDiff → r1, reduceLT → r2, reduceLeDiff → r3, reduceAdd → r4, reduceMul → r5, reduceSub → r6
open Int renaming reduceToNat → r7
theorem wn {k0 : Nat} {s s' : S} (ks π : List Nat) (h : normS k0 ks π 9 s = some s' := by simp only [WL, r1, r2, r3, r4, r5, r6, r7, reduceCtorEq]) : Weak k0 s s' := weak_norm h
theorem cG {f : FuncId} {caps : List CV} {args : List SV} {s : S} {K : Action → Prop} (π : List Nat) {ps1 ps : List PV} {bs H : List HS} {R : SV} (hc : Ans Try.prog f ps bs fun r h => r = R ∧ h = H) (hps : argsP args = some ps1 := by rfl)
    (hl : (lendPs (lendP s.st.heap π 9) (ps1 ++ caps.map .one)).map (·.2) = some ps := by simp only [WL, r1, r2, r3, r4, r5, r6, r7, reduceCtorEq]) (hb : (lendH s.st.heap π 9 π).map (·.2) = some bs := by simp only [WL, r1, r2, r3, r4, r5, r6, r7, reduceCtorEq]) (hnd : nodB π = true := by rfl)
    (hk : keepOk bs H = true := by simp only [WL, r1, r2, r3, r4, r5, r6, r7, reduceCtorEq]) (hK : ∀ rd b, K ⟨rd, backS (sig π bs.length s.heap.length) b R, backHp (sig π bs.length s.heap.length) b 0 H⟩) : @callT _ (fun _ => Try.prog) f caps args s ⟨K⟩ :=
  callG (P := fun _ => Try.prog) π 9 hps hl hb hnd hc hk hK
end Go.Proofs.Ytigaffddnidkpaa
namespace Go.Proofs.Ytigaffddnidkpaa
open Go Go.Fm
open Nat renaming reduceEqDiff → r1, reduceLT → r2, reduceLeDiff → r3, reduceAdd → r4, reduceMul → r5, reduceSub → r6
open Int renaming reduceToNat → r7
set_option maxRecDepth 100000
set_option linter.unusedVariables false
set_option linter.unusedSimpArgs false
def g_laws_big (code_1 : List Int) : Option Bool := some (decide ((code_1.length : Int) > 1048576))
def g_spec_l01New_l0 (code_1 : List Int) : Nat → Int → Int → Option Int
  | 0, _, _ => none
  | k + 1, h_5, i_6 => (cond (decide (i_6 < (code_1.length : Int))) (some (decide (i_6 < 4000))) (some false) : Option (Bool)).bind fun v_12 => cond v_12 ((getI code_1 i_6).bind fun v_17 => g_spec_l01New_l0 code_1 k (andI .i64 (IntKind.wrap .i64 ((IntKind.wrap .i64 ((IntKind.wrap .i64 (h_5 * 131)) + (IntKind.wrap .i64 v_17))) + 7)) 1073741823) (IntKind.wrap .i64 (i_6 + 1))) (some h_5)
def g_spec_l01New (code_1 : List Int) : Option GL01Cur := ((g_spec_l01New_l0 code_1 bigK (IntKind.wrap .i64 (711711 + (code_1.length : Int))) 0).bind fun h_7 => some h_7 : Option (Int)).bind fun h_2 => some (⟨code_1, 0, h_2⟩ : GL01Cur)
def g_spec_l01Byte (c_1 : GL01Cur) : Option (Int × GL01Cur) := (cond (decide (c_1.i < (c_1.b.length : Int))) ((getI c_1.b c_1.i).bind fun v_7 => some ((⟨c_1.b, IntKind.wrap .i64 (c_1.i + 1), IntKind.wrap .i64 ((IntKind.wrap .i64 (c_1.h * 6364136223846793005)) + 1442695040888963407)⟩ : GL01Cur), andI .i64 (IntKind.wrap .i64 ((andI .i64 (xorI .i64 ((IntKind.wrap .i64 ((IntKind.wrap .i64 (c_1.h * 6364136223846793005)) + 1442695040888963407)) / 8589934592) ((IntKind.wrap .i64 ((IntKind.wrap .i64 (c_1.h * 6364136223846793005)) + 1442695040888963407)) / 35184372088832)) 255) + (IntKind.wrap .i64 v_7))) 255)) (some ((⟨c_1.b, c_1.i, IntKind.wrap .i64 ((IntKind.wrap .i64 (c_1.h * 6364136223846793005)) + 1442695040888963407)⟩ : GL01Cur), andI .i64 (xorI .i64 ((IntKind.wrap .i64 ((IntKind.wrap .i64 (c_1.h * 6364136223846793005)) + 1442695040888963407)) / 8589934592) ((IntKind.wrap .i64 ((IntKind.wrap .i64 (c_1.h * 6364136223846793005)) + 1442695040888963407)) / 35184372088832)) 255)) : Option ((GL01Cur × Int))).bind fun (p_2, x_3) => some (x_3, p_2)
def g_spec_l01Below (c_1 : GL01Cur) (n_2 : Int) : Option (Int × GL01Cur) := cond (decide (n_2 ≤ 0)) (some (0, c_1)) (cond (decide (n_2 ≤ 256)) ((g_spec_l01Byte c_1).bind fun y_5 => (remI .i64 y_5.1 n_2).bind fun v_6 => some (v_6, y_5.2)) ((g_spec_l01Byte c_1).bind fun y_7 => (g_spec_l01Byte y_7.2).bind fun y_8 => (g_spec_l01Byte y_8.2).bind fun y_9 => (g_spec_l01Byte y_9.2).bind fun y_10 => (remI .i64 (IntKind.wrap .i64 ((IntKind.wrap .i64 ((IntKind.wrap .i64 ((IntKind.wrap .i64 (y_7.1 * 16777216)) + (IntKind.wrap .i64 (y_8.1 * 65536)))) + (IntKind.wrap .i64 (y_9.1 * 256)))) + y_10.1)) n_2).bind fun v_11 => some (v_11, y_10.2)))
def g_spec_l01Once (c_1 : GL01Cur) (n_2 : Int) : Option (Bool × GL01Cur) := (g_spec_l01Below c_1 n_2).bind fun y_3 => some ((y_3.1 == 0), y_3.2)
def g_spec_l01PickInt (c_1 : GL01Cur) (list_2 : List Int) : Option (Int × GL01Cur) := (g_spec_l01Below c_1 (list_2.length : Int)).bind fun y_3 => (getI list_2 y_3.1).bind fun v_4 => some (v_4, y_3.2)
def g_spec_l04Int (c_1 : GL01Cur) : Option (Int × GL01Cur) := (g_spec_l01Once c_1 2).bind fun y_2 => cond y_2.1 ((g_spec_l01Below y_2.2 200).bind fun y_4 => some (IntKind.wrap .i32 (IntKind.wrap .i64 (y_4.1 - 40)), y_4.2)) ((g_spec_l01PickInt y_2.2 [0, 67108863, 67108864, (-67108864), (-67108865), 2147483647, (-2147483648), 1000000, (-1)]).bind fun y_5 => some (IntKind.wrap .i32 y_5.1, y_5.2))
def g_spec_l01Pick (c_1 : GL01Cur) (list_2 : List Bs) : Option (Bs × GL01Cur) := (g_spec_l01Below c_1 (list_2.length : Int)).bind fun y_3 => (getI list_2 y_3.1).bind fun v_4 => some (v_4, y_3.2)
def g_spec_l01In (x_1 : Int) (a_2 : Int) (b_3 : Int) : Option Bool := cond (decide (x_1 ≥ a_2)) (some (decide (x_1 ≤ b_3))) (some false)
def g_spec_l02All : Option Bs := some [32, 114, 116, 111, 101, 97, 110, 105, 115, 109, 99, 121, 108, 103, 102, 119, 100, 118, 112, 98, 104, 120, 117, 113, 48, 49, 50, 51, 52, 53, 54, 55, 56, 57, 106, 45, 107, 46, 122, 47, 59, 39, 33, 43, 64, 42, 44, 63]
def g_spec_LetterAt (k_1 : Int) : Option Int := (g_spec_l01In k_1 0 47).bind fun y_2 => cond (!y_2) (some 0) ((g_spec_l02All).bind fun y_4 => (idxS y_4 k_1).bind fun v_5 => some v_5)
def g_spec_l02Name_l0 (y_5 : Int × GL01Cur) : Nat → GL01Cur → (List Int) → Int → Option (GL01Cur × (List Int))
  | 0, _, _, _ => none
  | k + 1, c_10, out_11, i_12 => cond (decide (i_12 < (IntKind.wrap .i64 (1 + y_5.1)))) ((g_spec_l01Below c_10 47).bind fun y_20 => (g_spec_LetterAt (IntKind.wrap .i64 (1 + y_20.1))).bind fun y_21 => (app out_11 [y_21]).bind fun v_22 => g_spec_l02Name_l0 y_5 k y_20.2 v_22 (IntKind.wrap .i64 (i_12 + 1))) (some (c_10, out_11))
def g_spec_l02Name (c_1 : GL01Cur) : Option (Bs × GL01Cur) := (g_spec_l01Once c_1 2).bind fun y_2 => cond y_2.1 ((g_spec_l01Pick y_2.2 [[100, 117, 112], [111, 118, 101, 114], [115, 113, 117, 97, 114, 101], [97, 33], [50, 42], [103, 111], [45, 105, 102], [59], [63], [114, 114, 114, 114, 114, 114, 114], [114, 116, 111, 101, 97, 110, 105], [119, 119, 119, 119, 119, 119], [113, 113, 113, 113, 113], [120]]).bind fun y_4 => some (y_4.1, y_4.2)) ((g_spec_l01Below y_2.2 9).bind fun y_5 => ((g_spec_l02Name_l0 y_5 bigK y_5.2 ([] : List Int) 0).bind fun (p_13, out_14) => some (p_13, out_14) : Option ((GL01Cur × (List Int)))).bind fun (p_6, out_7) => some (strOf out_7, p_6))
def g_spec_l04Some (c_1 : GL01Cur) : Option (GItem × GL01Cur) := (g_spec_l01Below c_1 8).bind fun y_2 => cond (y_2.1 == 0) ((g_spec_l04Int y_2.2).bind fun y_4 => (g_spec_l01Once y_4.2 3).bind fun y_5 => some ((⟨7, [], y_4.1, y_5.1, 0⟩ : GItem), y_5.2)) (cond (y_2.1 == 1) ((g_spec_l04Int y_2.2).bind fun y_7 => (g_spec_l01Once y_7.2 3).bind fun y_8 => some ((⟨8, [], y_7.1, y_8.1, 0⟩ : GItem), y_8.2)) (cond (y_2.1 == 2) ((g_spec_l01Pick y_2.2 [[120], [97, 116], [113, 113, 113, 113], [116, 101, 110]]).bind fun y_10 => (g_spec_l04Int y_10.2).bind fun y_11 => some ((⟨9, y_10.1, y_11.1, false, 0⟩ : GItem), y_11.2)) ((g_spec_l01Below y_2.2 6).bind fun y_12 => (g_spec_l02Name y_12.2).bind fun y_13 => some ((⟨IntKind.wrap .i64 (1 + y_12.1), y_13.1, 0, false, 0⟩ : GItem), y_13.2))))
def g_spec_l01Word (c_1 : GL01Cur) : Option (Int × GL01Cur) := (g_spec_l01Below c_1 4).bind fun y_2 => cond (y_2.1 == 0) ((g_spec_l01PickInt y_2.2 [0, 1, 2, 31, 32, 255, 256, 2147483647, 2147483648, 4294967295, 4294967294]).bind fun y_4 => some (IntKind.wrap .u32 y_4.1, y_4.2)) (cond (y_2.1 == 1) ((g_spec_l01Below y_2.2 300).bind fun y_6 => some (IntKind.wrap .u32 y_6.1, y_6.2)) ((g_spec_l01Below y_2.2 65536).bind fun y_7 => (g_spec_l01Below y_7.2 65536).bind fun y_8 => some (IntKind.wrap .u32 ((IntKind.wrap .u32 ((IntKind.wrap .u32 y_7.1) * 65536)) + (IntKind.wrap .u32 y_8.1)), y_8.2)))
def g_spec_l04Any (c_1 : GL01Cur) : Option (GItem × GL01Cur) := (g_spec_l04Some c_1).bind fun y_2 => ((g_spec_l01Below y_2.2 14).bind fun y_9 => cond (y_9.1 == 0) ((g_spec_l01Word y_9.2).bind fun y_11 => some (.inr (y_11.2, (⟨0, [], 0, false, y_11.1⟩ : GItem)))) (cond (y_9.1 == 1) ((g_spec_l01Below y_9.2 12).bind fun y_13 => some (.inl (y_13.2, (⟨IntKind.wrap .i64 (y_13.1 - 1), y_2.1.Name, y_2.1.N, y_2.1.Hex, y_2.1.Raw⟩ : GItem)))) (cond (y_9.1 == 2) ((g_spec_l01Pick y_9.2 [[], [65], [113, 113, 113, 113, 113], [115, 113, 117, 97, 114, 101, 115, 113, 117, 97, 114, 101]]).bind fun y_15 => some (.inl (y_15.2, (⟨y_2.1.Kind, y_15.1, y_2.1.N, y_2.1.Hex, y_2.1.Raw⟩ : GItem)))) (cond (y_9.1 == 3) ((g_spec_l01Below y_9.2 3).bind fun y_17 => some (.inl (y_17.2, (⟨y_2.1.Kind, y_2.1.Name, y_2.1.N, y_2.1.Hex, IntKind.wrap .u32 y_17.1⟩ : GItem)))) (some (.inl (y_9.2, y_2.1)))))) : Option ((GL01Cur × GItem) ⊕ (GL01Cur × GItem))).bind fun o => match o with | .inl (p_3, it_4) => some (it_4, p_3) | .inr (p_5, v_6) => some (v_6, p_5)
def g_spec_l04List_l0 (y_3 : Int × GL01Cur) : Nat → GL01Cur → (List GItem) → Int → Option (GL01Cur × (List GItem))
  | 0, _, _, _ => none
  | k + 1, c_8, out_9, i_10 => cond (decide (i_10 < y_3.1)) (((g_spec_l04Some c_8).bind fun y_22 => ((g_spec_l01Once y_22.2 9).bind fun y_27 => cond y_27.1 ((g_spec_l04Any y_27.2).bind fun y_29 => some (y_29.2, y_29.1)) (some (y_27.2, y_22.1)) : Option ((GL01Cur × GItem))).bind fun (p_23, it_24) => (app out_9 [it_24]).bind fun v_30 => some (p_23, v_30) : Option ((GL01Cur × (List GItem)))).bind fun (p_18, out_19) => g_spec_l04List_l0 y_3 k p_18 out_19 (IntKind.wrap .i64 (i_10 + 1))) (some (c_8, out_9))
def g_spec_l04List (c_1 : GL01Cur) (most_2 : Int) : Option ((List GItem) × GL01Cur) := (g_spec_l01Below c_1 most_2).bind fun y_3 => ((g_spec_l04List_l0 y_3 bigK y_3.2 ([] : List GItem) 0).bind fun (p_11, out_12) => some (p_11, out_12) : Option ((GL01Cur × (List GItem)))).bind fun (p_4, out_5) => some (out_5, p_4)
def g_spec_l22Twin_l0 (list_2 : List GItem) : Nat → GL01Cur → (List GItem) → Int → Option (GL01Cur × (List GItem))
  | 0, _, _, _ => none
  | k + 1, c_7, out_8, i_9 => cond (decide (i_9 < (list_2.length : Int))) (((g_spec_l01Below c_7 7).bind fun y_21 => cond (y_21.1 == 0) (some (y_21.2, out_8)) (cond (y_21.1 == 1) ((g_spec_l04Some y_21.2).bind fun y_24 => (getI list_2 i_9).bind fun v_25 => (app out_8 [y_24.1, v_25]).bind fun v_26 => some (y_24.2, v_26)) ((getI list_2 i_9).bind fun v_27 => (app out_8 [v_27]).bind fun v_28 => some (y_21.2, v_28))) : Option ((GL01Cur × (List GItem)))).bind fun (p_17, out_18) => g_spec_l22Twin_l0 list_2 k p_17 out_18 (IntKind.wrap .i64 (i_9 + 1))) (some (c_7, out_8))
def g_spec_l22Twin (c_1 : GL01Cur) (list_2 : List GItem) : Option ((List GItem) × GL01Cur) := ((g_spec_l22Twin_l0 list_2 bigK c_1 ([] : List GItem) 0).bind fun (p_10, out_11) => some (p_10, out_11) : Option ((GL01Cur × (List GItem)))).bind fun (p_3, out_4) => (g_spec_l04Some p_3).bind fun y_29 => (app out_4 [y_29.1]).bind fun v_30 => some (v_30, y_29.2)
def g_spec_DrawCommon_l0 : Nat → GL01Cur → (List GItem) → Option (GL01Cur × (List GItem))
  | 0, _, _ => none
  | k + 1, c_10, a_11 => (g_spec_l01Below c_10 4).bind fun y_18 => cond (decide ((a_11.length : Int) < (IntKind.wrap .i64 (63 + y_18.1)))) ((app a_11 [(⟨7, [], 0, false, 0⟩ : GItem)]).bind fun v_20 => g_spec_DrawCommon_l0 k y_18.2 v_20) (some (y_18.2, a_11))
def g_spec_DrawCommon (code_1 : List Int) : Option ((List GItem) × (List GItem)) := (g_spec_l01New code_1).bind fun y_2 => (g_spec_l04List y_2 14).bind fun y_3 => ((g_spec_l01Once y_3.2 12).bind fun y_8 => cond y_8.1 ((g_spec_DrawCommon_l0 bigK y_8.2 y_3.1).bind fun (c_12, a_13) => some (c_12, a_13)) (some (y_8.2, y_3.1)) : Option ((GL01Cur × (List GItem)))).bind fun (c_4, a_5) => (g_spec_l22Twin c_4 a_5).bind fun y_21 => some (a_5, y_21.1)
def g_impl_common_l1 (b_2 : List GItem) (row_7 : List Int) (v_18 : GItem) : Nat → (List Int) → Int → Option (List Int)
  | 0, _, _ => none
  | k + 1, next_22, v_23 => cond (decide (v_23 < (b_2.length : Int))) (((getI b_2 v_23).bind fun v_33 => (getI next_22 v_23).bind fun v_34 => (getI row_7 (IntKind.wrap .i64 (v_23 + 1))).bind fun v_35 => (getI next_22 (IntKind.wrap .i64 (v_23 + 1))).bind fun v_36 => cond ((v_18.Kind : Int) == v_33.Kind && ((v_18.Name : Bs) == v_33.Name && ((v_18.N : Int) == v_33.N && ((v_18.Hex : Bool) == v_33.Hex && ((v_18.Raw : Int) == v_33.Raw && true))))) ((getI row_7 v_23).bind fun v_38 => (getI (next_22.set (IntKind.wrap .i64 (v_23 + 1)).toNat (maxI v_34 v_35)) (IntKind.wrap .i64 (v_23 + 1))).bind fun v_39 => some ((next_22.set (IntKind.wrap .i64 (v_23 + 1)).toNat (maxI v_34 v_35)).set (IntKind.wrap .i64 (v_23 + 1)).toNat (IntKind.wrap .i64 (v_38 + 1)))) (some (next_22.set (IntKind.wrap .i64 (v_23 + 1)).toNat (maxI v_34 v_35))) : Option ((List Int))).bind fun next_30 => g_impl_common_l1 b_2 row_7 v_18 k next_30 (IntKind.wrap .i64 (v_23 + 1))) (some next_22)
def g_impl_common_l0 (a_1 : List GItem) (b_2 : List GItem) (v_3 : List Int) : Nat → (List Int) → Int → Option (List Int)
  | 0, _, _ => none
  | k + 1, row_7, v_8 => cond (decide (v_8 < (a_1.length : Int))) (((getI a_1 v_8).bind fun v_18 => ((g_impl_common_l1 b_2 row_7 v_18 bigK v_3 0).bind fun next_24 => some next_24 : Option ((List Int))).bind fun next_19 => some next_19 : Option ((List Int))).bind fun row_15 => g_impl_common_l0 a_1 b_2 v_3 k row_15 (IntKind.wrap .i64 (v_8 + 1))) (some row_7)
def g_impl_common (a_1 : List GItem) (b_2 : List GItem) : Option Int := (mk (0 : Int) (IntKind.wrap .i64 ((b_2.length : Int) + 1))).bind fun v_3 => ((g_impl_common_l0 a_1 b_2 v_3 bigK v_3 0).bind fun row_9 => some row_9 : Option ((List Int))).bind fun row_4 => (getI row_4 (b_2.length : Int)).bind fun v_40 => some v_40
def g_impl_Common (a_1 : List GItem) (b_2 : List GItem) : Option Int := (cond (decide ((a_1.length : Int) > 64)) (some true) (some (decide ((b_2.length : Int) > 64))) : Option (Bool)).bind fun v_3 => cond v_3 (some (-1)) ((g_impl_common a_1 b_2).bind fun y_8 => some y_8)
def g_spec_l14Max (a_1 : Int) (b_2 : Int) : Option Int := cond (decide (a_1 > b_2)) (some a_1) (some b_2)
def g_spec_l22Table_s (a b : List GItem) (rows : List (List Int)) (i k : Int) : Option (List (List Int)) := (getI rows i).bind fun r => (getI rows (IntKind.wrap .i64 (i + 1))).bind fun r1 => (getI r1 k).bind fun x => (getI r (IntKind.wrap .i64 (k + 1))).bind fun y => (g_spec_l14Max x y).bind fun z => (getI r k).bind fun _ => (getI a i).bind fun p => (getI b k).bind fun q =>
  cond ((p.Kind : Int) == q.Kind && ((p.Name : Bs) == q.Name && ((p.N : Int) == q.N && ((p.Hex : Bool) == q.Hex && ((p.Raw : Int) == q.Raw && true))))) ((getI r1 (IntKind.wrap .i64 (k + 1))).bind fun w => (getI (r.set k.toNat z) k).bind fun _ => some (rows.set i.toNat ((r.set k.toNat z).set k.toNat (IntKind.wrap .i64 (w + 1))))) (some (rows.set i.toNat (r.set k.toNat z)))
def g_spec_l22Table_l2 (a b : List GItem) (i : Int) : Nat → List (List Int) → Int → Option (List (List Int))
  | 0, _, _ => none
  | f + 1, rows, k => cond (decide (k ≥ 0)) ((g_spec_l22Table_s a b rows i k).bind fun rows => g_spec_l22Table_l2 a b i f rows (IntKind.wrap .i64 (k - 1))) (some rows)
def g_spec_l22Table_l1 (a b : List GItem) : Nat → List (List Int) → Int → Option (List (List Int))
  | 0, _, _ => none
  | f + 1, rows, i => cond (decide (i ≥ 0)) ((g_spec_l22Table_l2 a b i bigK rows (IntKind.wrap .i64 ((b.length : Int) - 1))).bind fun rows => g_spec_l22Table_l1 a b f rows (IntKind.wrap .i64 (i - 1))) (some rows)
def g_spec_l22Table_l0 (a b : List GItem) : Nat → List (List Int) → Int → Option (List (List Int))
  | 0, _, _ => none
  | f + 1, rows, i => cond (decide (i ≤ (a.length : Int))) ((mk (0 : Int) (IntKind.wrap .i64 ((b.length : Int) + 1))).bind fun z => (app rows [z]).bind fun rows => g_spec_l22Table_l0 a b f rows (IntKind.wrap .i64 (i + 1))) (some rows)
def g_spec_l22Table (a b : List GItem) : Option (List (List Int)) := (g_spec_l22Table_l0 a b bigK [] 0).bind fun rows => g_spec_l22Table_l1 a b bigK rows (IntKind.wrap .i64 ((a.length : Int) - 1))
def g_spec_Common (a_1 : List GItem) (b_2 : List GItem) : Option Int := (cond (decide ((a_1.length : Int) > 64)) (some true) (some (decide ((b_2.length : Int) > 64))) : Option (Bool)).bind fun v_3 => cond v_3 (some (-1)) ((g_spec_l22Table a_1 b_2).bind fun y_8 => (getI y_8 0).bind fun v_9 => (getI v_9 0).bind fun v_10 => some v_10)
def g_laws_FnCommon (code_1 : List Int) : Option Bool := (g_laws_big code_1).bind fun y_2 => cond y_2 (some true) ((g_spec_DrawCommon code_1).bind fun y_4 => (g_impl_Common y_4.1 y_4.2).bind fun y_5 => ((g_spec_Common y_4.1 y_4.2).bind fun y_9 => cond (y_5 != y_9) (some true) ((g_impl_Common y_4.2 y_4.1).bind fun y_11 => some (y_5 != y_11)) : Option (Bool)).bind fun v_6 => cond v_6 (some false) (cond (decide (y_5 < 0)) (cond (decide ((y_4.1.length : Int) > 64)) (some true) (some (decide ((y_4.2.length : Int) > 64)))) (cond (decide (y_5 ≤ (y_4.1.length : Int))) (cond (decide (y_5 ≤ (y_4.2.length : Int))) ((g_impl_Common y_4.1 y_4.1).bind fun y_17 => some (y_17 == (y_4.1.length : Int))) (some false)) (some false))))
end Go.Proofs.Ytigaffddnidkpaa
