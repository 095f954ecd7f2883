import Derived.Test.YtkjjcpgickjidaaCA
namespace Go.Proofs.Ytkjjcpgickjidaa
open Go Go.Fm
set_option maxRecDepth 100000
set_option linter.unusedVariables false
set_option linter.unusedSimpArgs false
theorem c_impl_Unpack {list_1 : List Int} {r : Bs × Bool} (h : g_impl_Unpack list_1 = some r) : Ans Try.prog 66 [.one (.imm 1 list_1.length (list_1.flatMap (eI .u32)))] [] fun v h1 => v = .tup [.one (.str r.1), .one (.bool r.2)] ∧ h1 = [] := by
  refine ansK (P := fun _ => Try.prog) TryT_eq (fn := Try.f66) Try.func66 rfl ⟨by kernel_rfl, rfl, rfl, by kernel_rfl⟩ (by simp) (Weak.refl _ _) ?_
  rw [g_impl_Unpack] at h
  try simp only [↓MD, ↓actH, ↓builtinH, ↓builtinG, ↓builtinFT, MU, MB, MC, TT, Nat.reduceEqDiff, Nat.reduceLT, Nat.reduceLeDiff, Nat.reduceAdd, Nat.reduceMul, Nat.reduceSub, Int.reduceToNat, reduceCtorEq, Try.f66]
  refine seqN TryT_eq rfl ?_
  try simp only [↓MD, ↓actH, ↓builtinH, ↓builtinG, ↓builtinFT, MU, MB, MC, TT, Nat.reduceEqDiff, Nat.reduceLT, Nat.reduceLeDiff, Nat.reduceAdd, Nat.reduceMul, Nat.reduceSub, Int.reduceToNat, reduceCtorEq, Try.f66]
  refine stIf h (fun hb_2 h => ?_) (fun hb_2 h => ?_)
  · try simp only [↓MD, ↓actH, ↓builtinH, ↓builtinG, ↓builtinFT, MU, MB, MC, TT, Nat.reduceEqDiff, Nat.reduceLT, Nat.reduceLeDiff, Nat.reduceAdd, Nat.reduceMul, Nat.reduceSub, Int.reduceToNat, reduceCtorEq, Try.f66]
    obtain rfl := Option.some.inj h
    refine endT_of ?_ ⟨rfl, rfl⟩
    exact (weak_norm (ks := [0]) (π := []) (fuel := 9) (by simp only [ML, Nat.reduceEqDiff, Nat.reduceLT, Nat.reduceLeDiff, Nat.reduceAdd, Nat.reduceMul, Nat.reduceSub, Int.reduceToNat, reduceCtorEq, TL, TT]))
  · try simp only [↓MD, ↓actH, ↓builtinH, ↓builtinG, ↓builtinFT, MU, MB, MC, TT, Nat.reduceEqDiff, Nat.reduceLT, Nat.reduceLeDiff, Nat.reduceAdd, Nat.reduceMul, Nat.reduceSub, Int.reduceToNat, reduceCtorEq, Try.f66]
    obtain ⟨y_4, hy_5, h⟩ := bS h
    refine seqK TryT_eq (fun p : Bs => ⟨[(0, .pv (.one (.imm 1 list_1.length (list_1.flatMap (eI .u32))))), (4, .pv (.one (.str p)))], []⟩) (fun v => y_4 = v) (by rfl) ?_ ?_
    · try simp only [↓MD, ↓actH, ↓builtinH, ↓builtinG, ↓builtinFT, MU, MB, MC, TT, Nat.reduceEqDiff, Nat.reduceLT, Nat.reduceLeDiff, Nat.reduceAdd, Nat.reduceMul, Nat.reduceSub, Int.reduceToNat, reduceCtorEq, Try.f66]
      obtain ⟨y_9, hy_10, hy_5⟩ := bS hy_5
      refine loopK TryT_eq (fun p : Bs × Int => ⟨[(0, .pv (.one (.imm 1 list_1.length (list_1.flatMap (eI .u32))))), (4, .pv (.one (.str p.1))), (10, .pv (.one (.imm 1 list_1.length (list_1.flatMap (eI .u32))))), (11, .pv (.one (.int .i64 (list_1.length : Int)))), (12, .pv (.one (.int .i64 p.2)))], []⟩) (fun k p => g_impl_Unpack_l0 list_1 k p.1 p.2 = some y_9) (by kernel_rfl) bigK ([], 0) (weak_norm (ks := [0, 4, 10, 11, 12]) (π := []) (fuel := 9) (by simp only [ML, Nat.reduceEqDiff, Nat.reduceLT, Nat.reduceLeDiff, Nat.reduceAdd, Nat.reduceMul, Nat.reduceSub, Int.reduceToNat, reduceCtorEq, TL, TT])) hy_10 (fun _ h => nomatch (show none = some _ from h)) ?_
      rintro k_11 ⟨name_6, v_7⟩ hk_12
      rw [g_impl_Unpack_l0] at hk_12
      try dsimp only at hk_12
      try simp only [↓MD, ↓actH, ↓builtinH, ↓builtinG, ↓builtinFT, MU, MB, MC, TT, Nat.reduceEqDiff, Nat.reduceLT, Nat.reduceLeDiff, Nat.reduceAdd, Nat.reduceMul, Nat.reduceSub, Int.reduceToNat, reduceCtorEq, Try.f66]
      refine seqN TryT_eq rfl ?_
      try simp only [↓MD, ↓actH, ↓builtinH, ↓builtinG, ↓builtinFT, MU, MB, MC, TT, Nat.reduceEqDiff, Nat.reduceLT, Nat.reduceLeDiff, Nat.reduceAdd, Nat.reduceMul, Nat.reduceSub, Int.reduceToNat, reduceCtorEq, Try.f66]
      refine stIf hk_12 (fun hb_13 hk_12 => ?_) (fun hb_13 hk_12 => ?_)
      · try simp only [↓MD, ↓actH, ↓builtinH, ↓builtinG, ↓builtinFT, MU, MB, MC, TT, Nat.reduceEqDiff, Nat.reduceLT, Nat.reduceLeDiff, Nat.reduceAdd, Nat.reduceMul, Nat.reduceSub, Int.reduceToNat, reduceCtorEq, Try.f66]
        refine seqN TryT_eq rfl ?_
        obtain ⟨v_14, hv_14, hk_12⟩ := bS hk_12
        obtain ⟨y_15, hy_15, hk_12⟩ := bS hk_12
        have f1 := (fAt (eI_ok .u32) hv_14 (n := list_1.length) (by simp))
        try simp only [↓MD, ↓actH, ↓builtinH, ↓builtinG, ↓builtinFT, MU, MB, MC, TT, Nat.reduceEqDiff, Nat.reduceLT, Nat.reduceLeDiff, Nat.reduceAdd, Nat.reduceMul, Nat.reduceSub, Int.reduceToNat, reduceCtorEq, Try.f66, f1]
        refine callG [] 9 rfl (by simp only [ML, TT, Nat.reduceEqDiff, Nat.reduceLT, Nat.reduceLeDiff, Nat.reduceAdd, Nat.reduceMul, Nat.reduceSub, Int.reduceToNat, reduceCtorEq, TL]) (by simp only [ML, TT, Nat.reduceEqDiff, Nat.reduceLT, Nat.reduceLeDiff, Nat.reduceAdd, Nat.reduceMul, Nat.reduceSub, Int.reduceToNat, reduceCtorEq, TL]) rfl (c_impl_UnpackOne hy_15) (by simp only [ML, TL, Nat.reduceEqDiff, Nat.reduceLT, Nat.reduceLeDiff, Nat.reduceAdd, Nat.reduceMul, Nat.reduceSub, Int.reduceToNat, reduceCtorEq]) ?_
        intro rd b
        obtain ⟨v_16, hv_16, hk_12⟩ := bS hk_12
        try simp only [↓MD, ↓actH, ↓builtinH, ↓builtinG, ↓builtinFT, MU, MB, MC, TT, Nat.reduceEqDiff, Nat.reduceLT, Nat.reduceLeDiff, Nat.reduceAdd, Nat.reduceMul, Nat.reduceSub, Int.reduceToNat, reduceCtorEq, Try.f66, f1, hv_16]
        exact ⟨(v_16, IntKind.wrap .i64 (v_7 + 1)), hk_12, (weak_norm (ks := [0, 4, 10, 11, 12]) (π := []) (fuel := 9) (by simp only [ML, Nat.reduceEqDiff, Nat.reduceLT, Nat.reduceLeDiff, Nat.reduceAdd, Nat.reduceMul, Nat.reduceSub, Int.reduceToNat, reduceCtorEq, TL, TT]))⟩
      · obtain rfl := Option.some.inj hk_12
        try dsimp only at hy_5
        try simp only [↓MD, ↓actH, ↓builtinH, ↓builtinG, ↓builtinFT, MU, MB, MC, TT, Nat.reduceEqDiff, Nat.reduceLT, Nat.reduceLeDiff, Nat.reduceAdd, Nat.reduceMul, Nat.reduceSub, Int.reduceToNat, reduceCtorEq, Try.f66]
        obtain rfl := Option.some.inj hy_5
        exact cutT_mk name_6 rfl (weak_norm (ks := [0, 4]) (π := []) (fuel := 9) (by simp only [ML, Nat.reduceEqDiff, Nat.reduceLT, Nat.reduceLeDiff, Nat.reduceAdd, Nat.reduceMul, Nat.reduceSub, Int.reduceToNat, reduceCtorEq, TL, TT]))
    · rintro name_3 hp
      replace hp := hp.symm; subst hp
      try dsimp only at h
      try simp only [↓MD, ↓actH, ↓builtinH, ↓builtinG, ↓builtinFT, MU, MB, MC, TT, Nat.reduceEqDiff, Nat.reduceLT, Nat.reduceLeDiff, Nat.reduceAdd, Nat.reduceMul, Nat.reduceSub, Int.reduceToNat, reduceCtorEq, Try.f66]
      refine seqN TryT_eq rfl ?_
      try simp only [↓MD, ↓actH, ↓builtinH, ↓builtinG, ↓builtinFT, MU, MB, MC, TT, Nat.reduceEqDiff, Nat.reduceLT, Nat.reduceLeDiff, Nat.reduceAdd, Nat.reduceMul, Nat.reduceSub, Int.reduceToNat, reduceCtorEq, Try.f66]
      obtain ⟨y_18, hy_19, h⟩ := bS h
      refine seqK TryT_eq (fun p : Bool => ⟨[(4, .pv (.one (.str name_3))), (30, .pv (.one (.bool p)))], []⟩) (fun v => y_18 = v) (by rfl) ?_ ?_
      · obtain ⟨y_20, hy_20, hy_19⟩ := bS hy_19
        try simp only [↓MD, ↓actH, ↓builtinH, ↓builtinG, ↓builtinFT, MU, MB, MC, TT, Nat.reduceEqDiff, Nat.reduceLT, Nat.reduceLeDiff, Nat.reduceAdd, Nat.reduceMul, Nat.reduceSub, Int.reduceToNat, reduceCtorEq, Try.f66]
        refine callG [] 9 rfl (by simp only [ML, TT, Nat.reduceEqDiff, Nat.reduceLT, Nat.reduceLeDiff, Nat.reduceAdd, Nat.reduceMul, Nat.reduceSub, Int.reduceToNat, reduceCtorEq, TL]) (by simp only [ML, TT, Nat.reduceEqDiff, Nat.reduceLT, Nat.reduceLeDiff, Nat.reduceAdd, Nat.reduceMul, Nat.reduceSub, Int.reduceToNat, reduceCtorEq, TL]) rfl (c_impl_NameOk hy_20) (by simp only [ML, TL, Nat.reduceEqDiff, Nat.reduceLT, Nat.reduceLeDiff, Nat.reduceAdd, Nat.reduceMul, Nat.reduceSub, Int.reduceToNat, reduceCtorEq]) ?_
        intro rd b
        try simp only [↓MD, ↓actH, ↓builtinH, ↓builtinG, ↓builtinFT, MU, MB, MC, TT, Nat.reduceEqDiff, Nat.reduceLT, Nat.reduceLeDiff, Nat.reduceAdd, Nat.reduceMul, Nat.reduceSub, Int.reduceToNat, reduceCtorEq, Try.f66]
        refine stIf hy_19 (fun hb_21 hy_19 => ?_) (fun hb_21 hy_19 => ?_)
        · try simp only [↓MD, ↓actH, ↓builtinH, ↓builtinG, ↓builtinFT, MU, MB, MC, TT, Nat.reduceEqDiff, Nat.reduceLT, Nat.reduceLeDiff, Nat.reduceAdd, Nat.reduceMul, Nat.reduceSub, Int.reduceToNat, reduceCtorEq, Try.f66, hb_21]
          obtain rfl := Option.some.inj hy_19
          exact cutT_mk true rfl (weak_norm (ks := [4, 30]) (π := []) (fuel := 9) (by simp only [ML, Nat.reduceEqDiff, Nat.reduceLT, Nat.reduceLeDiff, Nat.reduceAdd, Nat.reduceMul, Nat.reduceSub, Int.reduceToNat, reduceCtorEq, TL, TT]))
        · obtain ⟨y_22, hy_22, hy_19⟩ := bS hy_19
          try simp only [↓MD, ↓actH, ↓builtinH, ↓builtinG, ↓builtinFT, MU, MB, MC, TT, Nat.reduceEqDiff, Nat.reduceLT, Nat.reduceLeDiff, Nat.reduceAdd, Nat.reduceMul, Nat.reduceSub, Int.reduceToNat, reduceCtorEq, Try.f66, hb_21]
          refine callG [] 9 rfl (by simp only [ML, TT, Nat.reduceEqDiff, Nat.reduceLT, Nat.reduceLeDiff, Nat.reduceAdd, Nat.reduceMul, Nat.reduceSub, Int.reduceToNat, reduceCtorEq, TL]) (by simp only [ML, TT, Nat.reduceEqDiff, Nat.reduceLT, Nat.reduceLeDiff, Nat.reduceAdd, Nat.reduceMul, Nat.reduceSub, Int.reduceToNat, reduceCtorEq, TL]) rfl (c_impl_Pack hy_22) (by simp only [ML, TL, Nat.reduceEqDiff, Nat.reduceLT, Nat.reduceLeDiff, Nat.reduceAdd, Nat.reduceMul, Nat.reduceSub, Int.reduceToNat, reduceCtorEq]) ?_
          intro rd b
          obtain ⟨y_23, hy_23, hy_19⟩ := bS hy_19
          try simp only [↓MD, ↓actH, ↓builtinH, ↓builtinG, ↓builtinFT, MU, MB, MC, TT, Nat.reduceEqDiff, Nat.reduceLT, Nat.reduceLeDiff, Nat.reduceAdd, Nat.reduceMul, Nat.reduceSub, Int.reduceToNat, reduceCtorEq, Try.f66, hb_21]
          refine callG [] 9 rfl (by simp only [ML, TT, Nat.reduceEqDiff, Nat.reduceLT, Nat.reduceLeDiff, Nat.reduceAdd, Nat.reduceMul, Nat.reduceSub, Int.reduceToNat, reduceCtorEq, TL]) (by simp only [ML, TT, Nat.reduceEqDiff, Nat.reduceLT, Nat.reduceLeDiff, Nat.reduceAdd, Nat.reduceMul, Nat.reduceSub, Int.reduceToNat, reduceCtorEq, TL]) rfl (c_slices_Equal_uint32 hy_23) (by simp only [ML, TL, Nat.reduceEqDiff, Nat.reduceLT, Nat.reduceLeDiff, Nat.reduceAdd, Nat.reduceMul, Nat.reduceSub, Int.reduceToNat, reduceCtorEq]) ?_
          intro rd b
          try simp only [↓MD, ↓actH, ↓builtinH, ↓builtinG, ↓builtinFT, MU, MB, MC, TT, Nat.reduceEqDiff, Nat.reduceLT, Nat.reduceLeDiff, Nat.reduceAdd, Nat.reduceMul, Nat.reduceSub, Int.reduceToNat, reduceCtorEq, Try.f66, hb_21]
          obtain rfl := Option.some.inj hy_19
          exact cutT_mk (!y_23) rfl (weak_norm (ks := [4, 30]) (π := []) (fuel := 9) (by simp only [ML, Nat.reduceEqDiff, Nat.reduceLT, Nat.reduceLeDiff, Nat.reduceAdd, Nat.reduceMul, Nat.reduceSub, Int.reduceToNat, reduceCtorEq, TL, TT]))
      · rintro v_17 hp
        replace hp := hp.symm; subst hp
        try dsimp only at h
        try simp only [↓MD, ↓actH, ↓builtinH, ↓builtinG, ↓builtinFT, MU, MB, MC, TT, Nat.reduceEqDiff, Nat.reduceLT, Nat.reduceLeDiff, Nat.reduceAdd, Nat.reduceMul, Nat.reduceSub, Int.reduceToNat, reduceCtorEq, Try.f66]
        refine stIf h (fun hb_24 h => ?_) (fun hb_24 h => ?_)
        · try simp only [↓MD, ↓actH, ↓builtinH, ↓builtinG, ↓builtinFT, MU, MB, MC, TT, Nat.reduceEqDiff, Nat.reduceLT, Nat.reduceLeDiff, Nat.reduceAdd, Nat.reduceMul, Nat.reduceSub, Int.reduceToNat, reduceCtorEq, Try.f66]
          obtain rfl := Option.some.inj h
          refine endT_of ?_ ⟨rfl, rfl⟩
          exact (weak_norm (ks := [0]) (π := []) (fuel := 9) (by simp only [ML, Nat.reduceEqDiff, Nat.reduceLT, Nat.reduceLeDiff, Nat.reduceAdd, Nat.reduceMul, Nat.reduceSub, Int.reduceToNat, reduceCtorEq, TL, TT]))
        · try simp only [↓MD, ↓actH, ↓builtinH, ↓builtinG, ↓builtinFT, MU, MB, MC, TT, Nat.reduceEqDiff, Nat.reduceLT, Nat.reduceLeDiff, Nat.reduceAdd, Nat.reduceMul, Nat.reduceSub, Int.reduceToNat, reduceCtorEq, Try.f66]
          obtain rfl := Option.some.inj h
          refine endT_of ?_ ⟨rfl, rfl⟩
          exact (weak_norm (ks := [0]) (π := []) (fuel := 9) (by simp only [ML, Nat.reduceEqDiff, Nat.reduceLT, Nat.reduceLeDiff, Nat.reduceAdd, Nat.reduceMul, Nat.reduceSub, Int.reduceToNat, reduceCtorEq, TL, TT]))
theorem c_impl_nameTag {kind_1 : Int} {r : Int} (h : g_impl_nameTag kind_1 = some r) : Ans Try.prog 71 [.one (.int .i64 kind_1)] [] fun v h1 => v = .pv (.one (.int .u32 r)) ∧ h1 = [] := by
  refine ansK (P := fun _ => Try.prog) TryT_eq (fn := Try.f71) Try.func71 rfl ⟨by kernel_rfl, rfl, rfl, by kernel_rfl⟩ (by simp) (Weak.refl _ _) ?_
  rw [g_impl_nameTag] at h
  try simp only [↓MD, ↓actH, ↓builtinH, ↓builtinG, ↓builtinFT, MU, MB, MC, TT, Nat.reduceEqDiff, Nat.reduceLT, Nat.reduceLeDiff, Nat.reduceAdd, Nat.reduceMul, Nat.reduceSub, Int.reduceToNat, reduceCtorEq, Try.f71]
  refine seqN TryT_eq rfl ?_
  try simp only [↓MD, ↓actH, ↓builtinH, ↓builtinG, ↓builtinFT, MU, MB, MC, TT, Nat.reduceEqDiff, Nat.reduceLT, Nat.reduceLeDiff, Nat.reduceAdd, Nat.reduceMul, Nat.reduceSub, Int.reduceToNat, reduceCtorEq, Try.f71]
  refine stIf h (fun hb_2 h => ?_) (fun hb_2 h => ?_)
  · try simp only [↓MD, ↓actH, ↓builtinH, ↓builtinG, ↓builtinFT, MU, MB, MC, TT, Nat.reduceEqDiff, Nat.reduceLT, Nat.reduceLeDiff, Nat.reduceAdd, Nat.reduceMul, Nat.reduceSub, Int.reduceToNat, reduceCtorEq, Try.f71]
    obtain rfl := Option.some.inj h
    refine endT_of ?_ ⟨rfl, rfl⟩
    exact (weak_norm (ks := [0]) (π := []) (fuel := 9) (by simp only [ML, Nat.reduceEqDiff, Nat.reduceLT, Nat.reduceLeDiff, Nat.reduceAdd, Nat.reduceMul, Nat.reduceSub, Int.reduceToNat, reduceCtorEq, TL, TT]))
  · try simp only [↓MD, ↓actH, ↓builtinH, ↓builtinG, ↓builtinFT, MU, MB, MC, TT, Nat.reduceEqDiff, Nat.reduceLT, Nat.reduceLeDiff, Nat.reduceAdd, Nat.reduceMul, Nat.reduceSub, Int.reduceToNat, reduceCtorEq, Try.f71]
    refine stIf h (fun hb_3 h => ?_) (fun hb_3 h => ?_)
    · try simp only [↓MD, ↓actH, ↓builtinH, ↓builtinG, ↓builtinFT, MU, MB, MC, TT, Nat.reduceEqDiff, Nat.reduceLT, Nat.reduceLeDiff, Nat.reduceAdd, Nat.reduceMul, Nat.reduceSub, Int.reduceToNat, reduceCtorEq, Try.f71]
      obtain rfl := Option.some.inj h
      refine endT_of ?_ ⟨rfl, rfl⟩
      exact (weak_norm (ks := [0]) (π := []) (fuel := 9) (by simp only [ML, Nat.reduceEqDiff, Nat.reduceLT, Nat.reduceLeDiff, Nat.reduceAdd, Nat.reduceMul, Nat.reduceSub, Int.reduceToNat, reduceCtorEq, TL, TT]))
    · try simp only [↓MD, ↓actH, ↓builtinH, ↓builtinG, ↓builtinFT, MU, MB, MC, TT, Nat.reduceEqDiff, Nat.reduceLT, Nat.reduceLeDiff, Nat.reduceAdd, Nat.reduceMul, Nat.reduceSub, Int.reduceToNat, reduceCtorEq, Try.f71]
      refine stIf h (fun hb_4 h => ?_) (fun hb_4 h => ?_)
      · try simp only [↓MD, ↓actH, ↓builtinH, ↓builtinG, ↓builtinFT, MU, MB, MC, TT, Nat.reduceEqDiff, Nat.reduceLT, Nat.reduceLeDiff, Nat.reduceAdd, Nat.reduceMul, Nat.reduceSub, Int.reduceToNat, reduceCtorEq, Try.f71]
        obtain rfl := Option.some.inj h
        refine endT_of ?_ ⟨rfl, rfl⟩
        exact (weak_norm (ks := [0]) (π := []) (fuel := 9) (by simp only [ML, Nat.reduceEqDiff, Nat.reduceLT, Nat.reduceLeDiff, Nat.reduceAdd, Nat.reduceMul, Nat.reduceSub, Int.reduceToNat, reduceCtorEq, TL, TT]))
      · try simp only [↓MD, ↓actH, ↓builtinH, ↓builtinG, ↓builtinFT, MU, MB, MC, TT, Nat.reduceEqDiff, Nat.reduceLT, Nat.reduceLeDiff, Nat.reduceAdd, Nat.reduceMul, Nat.reduceSub, Int.reduceToNat, reduceCtorEq, Try.f71]
        refine stIf h (fun hb_5 h => ?_) (fun hb_5 h => ?_)
        · try simp only [↓MD, ↓actH, ↓builtinH, ↓builtinG, ↓builtinFT, MU, MB, MC, TT, Nat.reduceEqDiff, Nat.reduceLT, Nat.reduceLeDiff, Nat.reduceAdd, Nat.reduceMul, Nat.reduceSub, Int.reduceToNat, reduceCtorEq, Try.f71]
          obtain rfl := Option.some.inj h
          refine endT_of ?_ ⟨rfl, rfl⟩
          exact (weak_norm (ks := [0]) (π := []) (fuel := 9) (by simp only [ML, Nat.reduceEqDiff, Nat.reduceLT, Nat.reduceLeDiff, Nat.reduceAdd, Nat.reduceMul, Nat.reduceSub, Int.reduceToNat, reduceCtorEq, TL, TT]))
        · try simp only [↓MD, ↓actH, ↓builtinH, ↓builtinG, ↓builtinFT, MU, MB, MC, TT, Nat.reduceEqDiff, Nat.reduceLT, Nat.reduceLeDiff, Nat.reduceAdd, Nat.reduceMul, Nat.reduceSub, Int.reduceToNat, reduceCtorEq, Try.f71]
          refine stIf h (fun hb_6 h => ?_) (fun hb_6 h => ?_)
          · try simp only [↓MD, ↓actH, ↓builtinH, ↓builtinG, ↓builtinFT, MU, MB, MC, TT, Nat.reduceEqDiff, Nat.reduceLT, Nat.reduceLeDiff, Nat.reduceAdd, Nat.reduceMul, Nat.reduceSub, Int.reduceToNat, reduceCtorEq, Try.f71]
            obtain rfl := Option.some.inj h
            refine endT_of ?_ ⟨rfl, rfl⟩
            exact (weak_norm (ks := [0]) (π := []) (fuel := 9) (by simp only [ML, Nat.reduceEqDiff, Nat.reduceLT, Nat.reduceLeDiff, Nat.reduceAdd, Nat.reduceMul, Nat.reduceSub, Int.reduceToNat, reduceCtorEq, TL, TT]))
          · try simp only [↓MD, ↓actH, ↓builtinH, ↓builtinG, ↓builtinFT, MU, MB, MC, TT, Nat.reduceEqDiff, Nat.reduceLT, Nat.reduceLeDiff, Nat.reduceAdd, Nat.reduceMul, Nat.reduceSub, Int.reduceToNat, reduceCtorEq, Try.f71]
            refine stIf h (fun hb_7 h => ?_) (fun hb_7 h => ?_)
            · try simp only [↓MD, ↓actH, ↓builtinH, ↓builtinG, ↓builtinFT, MU, MB, MC, TT, Nat.reduceEqDiff, Nat.reduceLT, Nat.reduceLeDiff, Nat.reduceAdd, Nat.reduceMul, Nat.reduceSub, Int.reduceToNat, reduceCtorEq, Try.f71]
              obtain rfl := Option.some.inj h
              refine endT_of ?_ ⟨rfl, rfl⟩
              exact (weak_norm (ks := [0]) (π := []) (fuel := 9) (by simp only [ML, Nat.reduceEqDiff, Nat.reduceLT, Nat.reduceLeDiff, Nat.reduceAdd, Nat.reduceMul, Nat.reduceSub, Int.reduceToNat, reduceCtorEq, TL, TT]))
            · try simp only [↓MD, ↓actH, ↓builtinH, ↓builtinG, ↓builtinFT, MU, MB, MC, TT, Nat.reduceEqDiff, Nat.reduceLT, Nat.reduceLeDiff, Nat.reduceAdd, Nat.reduceMul, Nat.reduceSub, Int.reduceToNat, reduceCtorEq, Try.f71]
              obtain rfl := Option.some.inj h
              refine endT_of ?_ ⟨rfl, rfl⟩
              exact (weak_norm (ks := [0]) (π := []) (fuel := 9) (by simp only [ML, Nat.reduceEqDiff, Nat.reduceLT, Nat.reduceLeDiff, Nat.reduceAdd, Nat.reduceMul, Nat.reduceSub, Int.reduceToNat, reduceCtorEq, TL, TT]))
theorem c_impl_nameKind {tag_1 : Int} {r : Int} (h : g_impl_nameKind tag_1 = some r) : Ans Try.prog 67 [.one (.int .u32 tag_1)] [] fun v h1 => v = .pv (.one (.int .i64 r)) ∧ h1 = [] := by
  refine ansK (P := fun _ => Try.prog) TryT_eq (fn := Try.f67) Try.func67 rfl ⟨by kernel_rfl, rfl, rfl, by kernel_rfl⟩ (by simp) (Weak.refl _ _) ?_
  rw [g_impl_nameKind] at h
  try simp only [↓MD, ↓actH, ↓builtinH, ↓builtinG, ↓builtinFT, MU, MB, MC, TT, Nat.reduceEqDiff, Nat.reduceLT, Nat.reduceLeDiff, Nat.reduceAdd, Nat.reduceMul, Nat.reduceSub, Int.reduceToNat, reduceCtorEq, Try.f67]
  obtain ⟨y_3, hy_4, h⟩ := bS h
  refine seqK TryT_eq (fun p : Unit => ⟨[], []⟩) (fun v => y_3 = .inl v) (by rfl) ?_ ?_
  · try simp only [↓MD, ↓actH, ↓builtinH, ↓builtinG, ↓builtinFT, MU, MB, MC, TT, Nat.reduceEqDiff, Nat.reduceLT, Nat.reduceLeDiff, Nat.reduceAdd, Nat.reduceMul, Nat.reduceSub, Int.reduceToNat, reduceCtorEq, Try.f67]
    obtain ⟨y_7, hy_8, hy_4⟩ := bS hy_4
    refine loopK TryT_eq (fun p : Int => ⟨[(0, .pv (.one (.int .u32 tag_1))), (3, .pv (.one (.int .i64 p)))], []⟩) (fun k p => g_impl_nameKind_l0 tag_1 k p = some y_7) (by kernel_rfl) bigK 1 (weak_norm (ks := [0, 3]) (π := []) (fuel := 9) (by simp only [ML, Nat.reduceEqDiff, Nat.reduceLT, Nat.reduceLeDiff, Nat.reduceAdd, Nat.reduceMul, Nat.reduceSub, Int.reduceToNat, reduceCtorEq, TL, TT])) hy_8 (fun _ h => nomatch (show none = some _ from h)) ?_
    rintro k_9 kind_5 hk_10
    rw [g_impl_nameKind_l0] at hk_10
    try dsimp only at hk_10
    try simp only [↓MD, ↓actH, ↓builtinH, ↓builtinG, ↓builtinFT, MU, MB, MC, TT, Nat.reduceEqDiff, Nat.reduceLT, Nat.reduceLeDiff, Nat.reduceAdd, Nat.reduceMul, Nat.reduceSub, Int.reduceToNat, reduceCtorEq, Try.f67]
    refine seqN TryT_eq rfl ?_
    try simp only [↓MD, ↓actH, ↓builtinH, ↓builtinG, ↓builtinFT, MU, MB, MC, TT, Nat.reduceEqDiff, Nat.reduceLT, Nat.reduceLeDiff, Nat.reduceAdd, Nat.reduceMul, Nat.reduceSub, Int.reduceToNat, reduceCtorEq, Try.f67]
    refine stIf hk_10 (fun hb_11 hk_10 => ?_) (fun hb_11 hk_10 => ?_)
    · try simp only [↓MD, ↓actH, ↓builtinH, ↓builtinG, ↓builtinFT, MU, MB, MC, TT, Nat.reduceEqDiff, Nat.reduceLT, Nat.reduceLeDiff, Nat.reduceAdd, Nat.reduceMul, Nat.reduceSub, Int.reduceToNat, reduceCtorEq, Try.f67]
      refine seqN TryT_eq rfl ?_
      obtain ⟨y_12, hy_12, hk_10⟩ := bS hk_10
      try simp only [↓MD, ↓actH, ↓builtinH, ↓builtinG, ↓builtinFT, MU, MB, MC, TT, Nat.reduceEqDiff, Nat.reduceLT, Nat.reduceLeDiff, Nat.reduceAdd, Nat.reduceMul, Nat.reduceSub, Int.reduceToNat, reduceCtorEq, Try.f67]
      refine callG [] 9 rfl (by simp only [ML, TT, Nat.reduceEqDiff, Nat.reduceLT, Nat.reduceLeDiff, Nat.reduceAdd, Nat.reduceMul, Nat.reduceSub, Int.reduceToNat, reduceCtorEq, TL]) (by simp only [ML, TT, Nat.reduceEqDiff, Nat.reduceLT, Nat.reduceLeDiff, Nat.reduceAdd, Nat.reduceMul, Nat.reduceSub, Int.reduceToNat, reduceCtorEq, TL]) rfl (c_impl_nameTag hy_12) (by simp only [ML, TL, Nat.reduceEqDiff, Nat.reduceLT, Nat.reduceLeDiff, Nat.reduceAdd, Nat.reduceMul, Nat.reduceSub, Int.reduceToNat, reduceCtorEq]) ?_
      intro rd b
      try simp only [↓MD, ↓actH, ↓builtinH, ↓builtinG, ↓builtinFT, MU, MB, MC, TT, Nat.reduceEqDiff, Nat.reduceLT, Nat.reduceLeDiff, Nat.reduceAdd, Nat.reduceMul, Nat.reduceSub, Int.reduceToNat, reduceCtorEq, Try.f67]
      refine stIf hk_10 (fun hb_13 hk_10 => ?_) (fun hb_13 hk_10 => ?_)
      · obtain rfl := Option.some.inj hk_10
        try dsimp only at hy_4
        obtain rfl := Option.some.inj hy_4
        try dsimp only at h
        try simp only [↓MD, ↓actH, ↓builtinH, ↓builtinG, ↓builtinFT, MU, MB, MC, TT, Nat.reduceEqDiff, Nat.reduceLT, Nat.reduceLeDiff, Nat.reduceAdd, Nat.reduceMul, Nat.reduceSub, Int.reduceToNat, reduceCtorEq, Try.f67]
        obtain rfl := Option.some.inj h
        refine endT_of ?_ ⟨rfl, rfl⟩
        exact (weak_norm (ks := [0]) (π := []) (fuel := 9) (by simp only [ML, Nat.reduceEqDiff, Nat.reduceLT, Nat.reduceLeDiff, Nat.reduceAdd, Nat.reduceMul, Nat.reduceSub, Int.reduceToNat, reduceCtorEq, TL, TT]))
      · try simp only [↓MD, ↓actH, ↓builtinH, ↓builtinG, ↓builtinFT, MU, MB, MC, TT, Nat.reduceEqDiff, Nat.reduceLT, Nat.reduceLeDiff, Nat.reduceAdd, Nat.reduceMul, Nat.reduceSub, Int.reduceToNat, reduceCtorEq, Try.f67]
        exact ⟨IntKind.wrap .i64 (kind_5 + 1), hk_10, (weak_norm (ks := [0, 3]) (π := []) (fuel := 9) (by simp only [ML, Nat.reduceEqDiff, Nat.reduceLT, Nat.reduceLeDiff, Nat.reduceAdd, Nat.reduceMul, Nat.reduceSub, Int.reduceToNat, reduceCtorEq, TL, TT]))⟩
    · obtain rfl := Option.some.inj hk_10
      try dsimp only at hy_4
      try simp only [↓MD, ↓actH, ↓builtinH, ↓builtinG, ↓builtinFT, MU, MB, MC, TT, Nat.reduceEqDiff, Nat.reduceLT, Nat.reduceLeDiff, Nat.reduceAdd, Nat.reduceMul, Nat.reduceSub, Int.reduceToNat, reduceCtorEq, Try.f67]
      obtain rfl := Option.some.inj hy_4
      exact cutT_mk () (by trivial) (weak_norm (ks := []) (π := []) (fuel := 9) (by simp only [ML, Nat.reduceEqDiff, Nat.reduceLT, Nat.reduceLeDiff, Nat.reduceAdd, Nat.reduceMul, Nat.reduceSub, Int.reduceToNat, reduceCtorEq, TL, TT]))
  · rintro _ hp
    replace hp := hp.symm; subst hp
    try dsimp only at h
    try simp only [↓MD, ↓actH, ↓builtinH, ↓builtinG, ↓builtinFT, MU, MB, MC, TT, Nat.reduceEqDiff, Nat.reduceLT, Nat.reduceLeDiff, Nat.reduceAdd, Nat.reduceMul, Nat.reduceSub, Int.reduceToNat, reduceCtorEq, Try.f67]
    obtain rfl := Option.some.inj h
    refine endT_of ?_ ⟨rfl, rfl⟩
    exact (weak_norm (ks := [0]) (π := []) (fuel := 9) (by simp only [ML, Nat.reduceEqDiff, Nat.reduceLT, Nat.reduceLeDiff, Nat.reduceAdd, Nat.reduceMul, Nat.reduceSub, Int.reduceToNat, reduceCtorEq, TL, TT]))
theorem c_impl_numberCells {n_1 : Int} {hex_2 : Bool} {short_3 : Int} {long_4 : Int} {r : (List Int)} (h : g_impl_numberCells n_1 hex_2 short_3 long_4 = some r) : Ans Try.prog 73 [.one (.int .i32 n_1), .one (.bool hex_2), .one (.int .u32 short_3), .one (.int .u32 long_4)] [] fun v h1 => v = .pv (.one (.arr 0 0 r.length)) ∧ h1 = [.live ⟨1, r.length, r.flatMap (eI .u32)⟩] := by
  refine ansK (P := fun _ => Try.prog) TryT_eq (fn := Try.f73) Try.func73 rfl ⟨by kernel_rfl, rfl, rfl, by kernel_rfl⟩ (by simp) (Weak.refl _ _) ?_
  rw [g_impl_numberCells] at h
  try simp only [↓MD, ↓actH, ↓builtinH, ↓builtinG, ↓builtinFT, MU, MB, MC, TT, Nat.reduceEqDiff, Nat.reduceLT, Nat.reduceLeDiff, Nat.reduceAdd, Nat.reduceMul, Nat.reduceSub, Int.reduceToNat, reduceCtorEq, Try.f73]
  obtain ⟨y_6, hy_7, h⟩ := bS h
  refine seqK TryT_eq (fun p : Int => ⟨[(0, .pv (.one (.int .i32 n_1))), (2, .pv (.one (.int .u32 short_3))), (3, .pv (.one (.int .u32 long_4))), (9, .pv (.one (.int .u32 p)))], []⟩) (fun v => y_6 = v) (by rfl) ?_ ?_
  · try simp only [↓MD, ↓actH, ↓builtinH, ↓builtinG, ↓builtinFT, MU, MB, MC, TT, Nat.reduceEqDiff, Nat.reduceLT, Nat.reduceLeDiff, Nat.reduceAdd, Nat.reduceMul, Nat.reduceSub, Int.reduceToNat, reduceCtorEq, Try.f73]
    refine stIf hy_7 (fun hb_8 hy_7 => ?_) (fun hb_8 hy_7 => ?_)
    · try simp only [↓MD, ↓actH, ↓builtinH, ↓builtinG, ↓builtinFT, MU, MB, MC, TT, Nat.reduceEqDiff, Nat.reduceLT, Nat.reduceLeDiff, Nat.reduceAdd, Nat.reduceMul, Nat.reduceSub, Int.reduceToNat, reduceCtorEq, Try.f73]
      obtain rfl := Option.some.inj hy_7
      exact cutT_mk 16 rfl (weak_norm (ks := [0, 2, 3, 9]) (π := []) (fuel := 9) (by simp only [ML, Nat.reduceEqDiff, Nat.reduceLT, Nat.reduceLeDiff, Nat.reduceAdd, Nat.reduceMul, Nat.reduceSub, Int.reduceToNat, reduceCtorEq, TL, TT]))
    · try simp only [↓MD, ↓actH, ↓builtinH, ↓builtinG, ↓builtinFT, MU, MB, MC, TT, Nat.reduceEqDiff, Nat.reduceLT, Nat.reduceLeDiff, Nat.reduceAdd, Nat.reduceMul, Nat.reduceSub, Int.reduceToNat, reduceCtorEq, Try.f73]
      obtain rfl := Option.some.inj hy_7
      exact cutT_mk 0 rfl (weak_norm (ks := [0, 2, 3, 9]) (π := []) (fuel := 9) (by simp only [ML, Nat.reduceEqDiff, Nat.reduceLT, Nat.reduceLeDiff, Nat.reduceAdd, Nat.reduceMul, Nat.reduceSub, Int.reduceToNat, reduceCtorEq, TL, TT]))
  · rintro bit_5 hp
    replace hp := hp.symm; subst hp
    try dsimp only at h
    try simp only [↓MD, ↓actH, ↓builtinH, ↓builtinG, ↓builtinFT, MU, MB, MC, TT, Nat.reduceEqDiff, Nat.reduceLT, Nat.reduceLeDiff, Nat.reduceAdd, Nat.reduceMul, Nat.reduceSub, Int.reduceToNat, reduceCtorEq, Try.f73]
    refine seqN TryT_eq rfl ?_
    try simp only [↓MD, ↓actH, ↓builtinH, ↓builtinG, ↓builtinFT, MU, MB, MC, TT, Nat.reduceEqDiff, Nat.reduceLT, Nat.reduceLeDiff, Nat.reduceAdd, Nat.reduceMul, Nat.reduceSub, Int.reduceToNat, reduceCtorEq, Try.f73]
    obtain ⟨y_10, hy_11, h⟩ := bS h
    refine seqK TryT_eq (fun p : Bool => ⟨[(0, .pv (.one (.int .i32 n_1))), (2, .pv (.one (.int .u32 short_3))), (3, .pv (.one (.int .u32 long_4))), (9, .pv (.one (.int .u32 bit_5))), (16, .pv (.one (.bool p)))], []⟩) (fun v => y_10 = v) (by rfl) ?_ ?_
    · try simp only [↓MD, ↓actH, ↓builtinH, ↓builtinG, ↓builtinFT, MU, MB, MC, TT, Nat.reduceEqDiff, Nat.reduceLT, Nat.reduceLeDiff, Nat.reduceAdd, Nat.reduceMul, Nat.reduceSub, Int.reduceToNat, reduceCtorEq, Try.f73]
      refine stIf hy_11 (fun hb_12 hy_11 => ?_) (fun hb_12 hy_11 => ?_)
      · try simp only [↓MD, ↓actH, ↓builtinH, ↓builtinG, ↓builtinFT, MU, MB, MC, TT, Nat.reduceEqDiff, Nat.reduceLT, Nat.reduceLeDiff, Nat.reduceAdd, Nat.reduceMul, Nat.reduceSub, Int.reduceToNat, reduceCtorEq, Try.f73, hb_12]
        obtain rfl := Option.some.inj hy_11
        exact cutT_mk (decide (n_1 ≤ 67108863)) rfl (weak_norm (ks := [0, 2, 3, 9, 16]) (π := []) (fuel := 9) (by simp only [ML, Nat.reduceEqDiff, Nat.reduceLT, Nat.reduceLeDiff, Nat.reduceAdd, Nat.reduceMul, Nat.reduceSub, Int.reduceToNat, reduceCtorEq, TL, TT]))
      · try simp only [↓MD, ↓actH, ↓builtinH, ↓builtinG, ↓builtinFT, MU, MB, MC, TT, Nat.reduceEqDiff, Nat.reduceLT, Nat.reduceLeDiff, Nat.reduceAdd, Nat.reduceMul, Nat.reduceSub, Int.reduceToNat, reduceCtorEq, Try.f73, hb_12]
        obtain rfl := Option.some.inj hy_11
        exact cutT_mk false rfl (weak_norm (ks := [0, 2, 3, 9, 16]) (π := []) (fuel := 9) (by simp only [ML, Nat.reduceEqDiff, Nat.reduceLT, Nat.reduceLeDiff, Nat.reduceAdd, Nat.reduceMul, Nat.reduceSub, Int.reduceToNat, reduceCtorEq, TL, TT]))
    · rintro v_9 hp
      replace hp := hp.symm; subst hp
      try dsimp only at h
      try simp only [↓MD, ↓actH, ↓builtinH, ↓builtinG, ↓builtinFT, MU, MB, MC, TT, Nat.reduceEqDiff, Nat.reduceLT, Nat.reduceLeDiff, Nat.reduceAdd, Nat.reduceMul, Nat.reduceSub, Int.reduceToNat, reduceCtorEq, Try.f73]
      refine stIf h (fun hb_13 h => ?_) (fun hb_13 h => ?_)
      · have f1 := (shlI_lit (k := .u32) (a := IntKind.wrap .u32 n_1) (b := 5) (m := 32) (by decide) (by decide))
        have f2 := (show bldN 1 = 1 from rfl)
        have f3 := (show bldC [.int .u32 (orI .u32 (orI .u32 (IntKind.wrap .u32 ((IntKind.wrap .u32 n_1) * 32)) bit_5) short_3)] = [orI .u32 (orI .u32 (IntKind.wrap .u32 ((IntKind.wrap .u32 n_1) * 32)) bit_5) short_3].flatMap (eI .u32) from rfl)
        try simp only [↓MD, ↓actH, ↓builtinH, ↓builtinG, ↓builtinFT, MU, MB, MC, TT, Nat.reduceEqDiff, Nat.reduceLT, Nat.reduceLeDiff, Nat.reduceAdd, Nat.reduceMul, Nat.reduceSub, Int.reduceToNat, reduceCtorEq, Try.f73, f1, f2, f3]
        obtain rfl := Option.some.inj h
        refine endT_of ?_ ⟨rfl, rfl⟩
        exact (weak_norm (ks := [0]) (π := [0]) (fuel := 9) (by simp only [ML, Nat.reduceEqDiff, Nat.reduceLT, Nat.reduceLeDiff, Nat.reduceAdd, Nat.reduceMul, Nat.reduceSub, Int.reduceToNat, reduceCtorEq, TL, TT, fWin (eI_ok .u32) (n := 1) (xs := [orI .u32 (orI .u32 (IntKind.wrap .u32 ((IntKind.wrap .u32 n_1) * 32)) bit_5) short_3]) (by simp)]))
      · have f4 := (show bldN 2 = 2 from rfl)
        have f5 := (show bldC [.int .u32 (orI .u32 bit_5 long_4), .int .u32 (IntKind.wrap .u32 n_1)] = [orI .u32 bit_5 long_4, IntKind.wrap .u32 n_1].flatMap (eI .u32) from rfl)
        try simp only [↓MD, ↓actH, ↓builtinH, ↓builtinG, ↓builtinFT, MU, MB, MC, TT, Nat.reduceEqDiff, Nat.reduceLT, Nat.reduceLeDiff, Nat.reduceAdd, Nat.reduceMul, Nat.reduceSub, Int.reduceToNat, reduceCtorEq, Try.f73, f4, f5]
        obtain rfl := Option.some.inj h
        refine endT_of ?_ ⟨rfl, rfl⟩
        exact (weak_norm (ks := [0]) (π := [0]) (fuel := 9) (by simp only [ML, Nat.reduceEqDiff, Nat.reduceLT, Nat.reduceLeDiff, Nat.reduceAdd, Nat.reduceMul, Nat.reduceSub, Int.reduceToNat, reduceCtorEq, TL, TT, fWin (eI_ok .u32) (n := 2) (xs := [orI .u32 bit_5 long_4, IntKind.wrap .u32 n_1]) (by simp)]))
theorem c_impl_CellsOf {it_1 : GItem} {r : (List Int)} (h : g_impl_CellsOf it_1 = some r) : Ans Try.prog 55 [.agg [.int .i64 it_1.Kind, .str it_1.Name, .int .i32 it_1.N, .bool it_1.Hex, .int .u32 it_1.Raw]] [] fun v h1 => v = .pv (.one (.arr 0 0 r.length)) ∧ h1 = [.live ⟨1, r.length, r.flatMap (eI .u32)⟩] := by
  refine ansK (P := fun _ => Try.prog) TryT_eq (fn := Try.f55) Try.func55 rfl ⟨by kernel_rfl, rfl, rfl, by kernel_rfl⟩ (by simp) (Weak.refl _ _) ?_
  rw [g_impl_CellsOf] at h
  obtain ⟨y_2, hy_2, h⟩ := bS h
  try simp only [↓MD, ↓actH, ↓builtinH, ↓builtinG, ↓builtinFT, MU, MB, MC, TT, Nat.reduceEqDiff, Nat.reduceLT, Nat.reduceLeDiff, Nat.reduceAdd, Nat.reduceMul, Nat.reduceSub, Int.reduceToNat, reduceCtorEq, Try.f55]
  refine callG [] 9 rfl (by simp only [ML, TT, Nat.reduceEqDiff, Nat.reduceLT, Nat.reduceLeDiff, Nat.reduceAdd, Nat.reduceMul, Nat.reduceSub, Int.reduceToNat, reduceCtorEq, TL]) (by simp only [ML, TT, Nat.reduceEqDiff, Nat.reduceLT, Nat.reduceLeDiff, Nat.reduceAdd, Nat.reduceMul, Nat.reduceSub, Int.reduceToNat, reduceCtorEq, TL]) rfl (c_impl_nameTag hy_2) (by simp only [ML, TL, Nat.reduceEqDiff, Nat.reduceLT, Nat.reduceLeDiff, Nat.reduceAdd, Nat.reduceMul, Nat.reduceSub, Int.reduceToNat, reduceCtorEq]) ?_
  intro rd b
  try simp only [↓MD, ↓actH, ↓builtinH, ↓builtinG, ↓builtinFT, MU, MB, MC, TT, Nat.reduceEqDiff, Nat.reduceLT, Nat.reduceLeDiff, Nat.reduceAdd, Nat.reduceMul, Nat.reduceSub, Int.reduceToNat, reduceCtorEq, Try.f55]
  obtain ⟨y_4, hy_5, h⟩ := bS h
  refine seqK TryT_eq (fun p : Unit => ⟨[], []⟩) (fun v => y_4 = .inl v) (by rfl) ?_ ?_
  · try simp only [↓MD, ↓actH, ↓builtinH, ↓builtinG, ↓builtinFT, MU, MB, MC, TT, Nat.reduceEqDiff, Nat.reduceLT, Nat.reduceLeDiff, Nat.reduceAdd, Nat.reduceMul, Nat.reduceSub, Int.reduceToNat, reduceCtorEq, Try.f55]
    obtain ⟨y_7, hy_8, hy_5⟩ := bS hy_5
    refine seqK TryT_eq (fun p : Bool => ⟨[(1, .pv (.one (.ptr 0 0))), (3, .pv (.one (.int .u32 y_2))), (11, .pv (.one (.bool p)))], [.live ⟨1, 5, [.int .i64 it_1.Kind, .str it_1.Name, .int .i32 it_1.N, .bool it_1.Hex, .int .u32 it_1.Raw]⟩]⟩) (fun v => y_7 = v) (by rfl) ?_ ?_
    · try simp only [↓MD, ↓actH, ↓builtinH, ↓builtinG, ↓builtinFT, MU, MB, MC, TT, Nat.reduceEqDiff, Nat.reduceLT, Nat.reduceLeDiff, Nat.reduceAdd, Nat.reduceMul, Nat.reduceSub, Int.reduceToNat, reduceCtorEq, Try.f55]
      refine stIf hy_8 (fun hb_9 hy_8 => ?_) (fun hb_9 hy_8 => ?_)
      · try simp only [↓MD, ↓actH, ↓builtinH, ↓builtinG, ↓builtinFT, MU, MB, MC, TT, Nat.reduceEqDiff, Nat.reduceLT, Nat.reduceLeDiff, Nat.reduceAdd, Nat.reduceMul, Nat.reduceSub, Int.reduceToNat, reduceCtorEq, Try.f55, hb_9]
        obtain rfl := Option.some.inj hy_8
        exact cutT_mk ((it_1.Kind : Int) == it_1.Kind && ((it_1.Name : Bs) == it_1.Name && ((it_1.N : Int) == 0 && ((it_1.Hex : Bool) == false && ((it_1.Raw : Int) == 0 && true))))) rfl (weak_norm (ks := [1, 3, 11]) (π := [0]) (fuel := 9) (by simp only [ML, Nat.reduceEqDiff, Nat.reduceLT, Nat.reduceLeDiff, Nat.reduceAdd, Nat.reduceMul, Nat.reduceSub, Int.reduceToNat, reduceCtorEq, TL, TT]))
      · try simp only [↓MD, ↓actH, ↓builtinH, ↓builtinG, ↓builtinFT, MU, MB, MC, TT, Nat.reduceEqDiff, Nat.reduceLT, Nat.reduceLeDiff, Nat.reduceAdd, Nat.reduceMul, Nat.reduceSub, Int.reduceToNat, reduceCtorEq, Try.f55, hb_9]
        obtain rfl := Option.some.inj hy_8
        exact cutT_mk false rfl (weak_norm (ks := [1, 3, 11]) (π := [0]) (fuel := 9) (by simp only [ML, Nat.reduceEqDiff, Nat.reduceLT, Nat.reduceLeDiff, Nat.reduceAdd, Nat.reduceMul, Nat.reduceSub, Int.reduceToNat, reduceCtorEq, TL, TT]))
    · rintro v_6 hp
      replace hp := hp.symm; subst hp
      try dsimp only at hy_5
      try simp only [↓MD, ↓actH, ↓builtinH, ↓builtinG, ↓builtinFT, MU, MB, MC, TT, Nat.reduceEqDiff, Nat.reduceLT, Nat.reduceLeDiff, Nat.reduceAdd, Nat.reduceMul, Nat.reduceSub, Int.reduceToNat, reduceCtorEq, Try.f55]
      refine stIf hy_5 (fun hb_10 hy_5 => ?_) (fun hb_10 hy_5 => ?_)
      · have f1 := (show bldN 0 = 0 from rfl)
        have f2 := (show bldC [] = ([] : List Int).flatMap (eI .u32) from rfl)
        try simp only [↓MD, ↓actH, ↓builtinH, ↓builtinG, ↓builtinFT, MU, MB, MC, TT, Nat.reduceEqDiff, Nat.reduceLT, Nat.reduceLeDiff, Nat.reduceAdd, Nat.reduceMul, Nat.reduceSub, Int.reduceToNat, reduceCtorEq, Try.f55, f1, f2]
        obtain ⟨y_12, hy_13, hy_5⟩ := bS hy_5
        refine seqK TryT_eq (fun p : (List Int) => ⟨[(4, .pv (.one (.arr 0 0 p.length)))], [.live ⟨1, p.length, p.flatMap (eI .u32)⟩]⟩) (fun v => y_12 = v) (by rfl) ?_ ?_
        · obtain ⟨y_14, hy_14, hy_13⟩ := bS hy_13
          try simp only [↓MD, ↓actH, ↓builtinH, ↓builtinG, ↓builtinFT, MU, MB, MC, TT, Nat.reduceEqDiff, Nat.reduceLT, Nat.reduceLeDiff, Nat.reduceAdd, Nat.reduceMul, Nat.reduceSub, Int.reduceToNat, reduceCtorEq, Try.f55, f1, f2]
          refine callG [] 9 rfl (by simp only [ML, TT, Nat.reduceEqDiff, Nat.reduceLT, Nat.reduceLeDiff, Nat.reduceAdd, Nat.reduceMul, Nat.reduceSub, Int.reduceToNat, reduceCtorEq, TL]) (by simp only [ML, TT, Nat.reduceEqDiff, Nat.reduceLT, Nat.reduceLeDiff, Nat.reduceAdd, Nat.reduceMul, Nat.reduceSub, Int.reduceToNat, reduceCtorEq, TL]) rfl (c_impl_Pack hy_14) (by simp only [ML, TL, Nat.reduceEqDiff, Nat.reduceLT, Nat.reduceLeDiff, Nat.reduceAdd, Nat.reduceMul, Nat.reduceSub, Int.reduceToNat, reduceCtorEq]) ?_
          intro rd b
          try simp only [↓MD, ↓actH, ↓builtinH, ↓builtinG, ↓builtinFT, MU, MB, MC, TT, Nat.reduceEqDiff, Nat.reduceLT, Nat.reduceLeDiff, Nat.reduceAdd, Nat.reduceMul, Nat.reduceSub, Int.reduceToNat, reduceCtorEq, Try.f55, f1, f2]
          obtain ⟨y_19, hy_20, hy_13⟩ := bS hy_13
          refine loopK TryT_eq (fun p : Int × (List Int) × Int => ⟨[(3, .pv (.one (.int .u32 p.1))), (4, .pv (.one (.arr 0 0 p.2.1.length))), (26, .pv (.one (.arr 1 0 y_14.length))), (27, .pv (.one (.int .i64 (y_14.length : Int)))), (28, .pv (.one (.int .i64 p.2.2)))], [.live ⟨1, p.2.1.length, p.2.1.flatMap (eI .u32)⟩, .live ⟨1, y_14.length, y_14.flatMap (eI .u32)⟩]⟩) (fun k p => g_impl_CellsOf_l0 y_14 k p.1 p.2.1 p.2.2 = some y_19) (by kernel_rfl) bigK (y_2, ([] : List Int), 0) (weak_norm (ks := [3, 4, 26, 27, 28]) (π := [1, 2]) (fuel := 9) (by simp only [ML, Nat.reduceEqDiff, Nat.reduceLT, Nat.reduceLeDiff, Nat.reduceAdd, Nat.reduceMul, Nat.reduceSub, Int.reduceToNat, reduceCtorEq, TL, TT, fWin (eI_ok .u32) (n := 0) (xs := ([] : List Int)) (by simp)])) hy_20 (fun _ h => nomatch (show none = some _ from h)) ?_
          rintro k_21 ⟨tag_15, out_16, v_17⟩ hk_22
          rw [g_impl_CellsOf_l0] at hk_22
          try dsimp only at hk_22
          try simp only [↓MD, ↓actH, ↓builtinH, ↓builtinG, ↓builtinFT, MU, MB, MC, TT, Nat.reduceEqDiff, Nat.reduceLT, Nat.reduceLeDiff, Nat.reduceAdd, Nat.reduceMul, Nat.reduceSub, Int.reduceToNat, reduceCtorEq, Try.f55]
          refine seqN TryT_eq rfl ?_
          try simp only [↓MD, ↓actH, ↓builtinH, ↓builtinG, ↓builtinFT, MU, MB, MC, TT, Nat.reduceEqDiff, Nat.reduceLT, Nat.reduceLeDiff, Nat.reduceAdd, Nat.reduceMul, Nat.reduceSub, Int.reduceToNat, reduceCtorEq, Try.f55]
          refine stIf hk_22 (fun hb_23 hk_22 => ?_) (fun hb_23 hk_22 => ?_)
          · try simp only [↓MD, ↓actH, ↓builtinH, ↓builtinG, ↓builtinFT, MU, MB, MC, TT, Nat.reduceEqDiff, Nat.reduceLT, Nat.reduceLeDiff, Nat.reduceAdd, Nat.reduceMul, Nat.reduceSub, Int.reduceToNat, reduceCtorEq, Try.f55]
            refine seqN TryT_eq rfl ?_
            obtain ⟨v_24, hv_24, hk_22⟩ := bS hk_22
            obtain ⟨v_25, hv_25, hk_22⟩ := bS hk_22
            have f3 := (fPtr hv_24 (k := 1) (n := y_14.length) (by simp))
            have f4 := (fGet0 (eI_ok .u32) hv_24 (m := 1) (by decide) (by decide))
            have f5 := (shlI_lit (k := .u32) (a := v_24) (b := 4) (m := 16) (by decide) (by decide))
            have f6 := (show bldN 1 = 1 from rfl)
            have f7 := (show bldC [.int .u32 (orI .u32 (IntKind.wrap .u32 (v_24 * 16)) tag_15)] = [orI .u32 (IntKind.wrap .u32 (v_24 * 16)) tag_15].flatMap (eI .u32) from rfl)
            have f8 := (fWin (eI_ok .u32) (n := 1) (xs := [orI .u32 (IntKind.wrap .u32 (v_24 * 16)) tag_15]) (by simp))
            have f9 := (fApp hv_25 (n := out_16.length) (by simp) (m := 1) (by simp [bsOf]))
            have f10 := (fWin (eI_ok .u32) (n := out_16.length) (xs := out_16) (by simp))
            have f11 := (fCat (e := (eI .u32)) (ns := [orI .u32 (IntKind.wrap .u32 (v_24 * 16)) tag_15].flatMap (eI .u32)) hv_25 rfl)
            try simp only [↓MD, ↓actH, ↓builtinH, ↓builtinG, ↓builtinFT, MU, MB, MC, TT, Nat.reduceEqDiff, Nat.reduceLT, Nat.reduceLeDiff, Nat.reduceAdd, Nat.reduceMul, Nat.reduceSub, Int.reduceToNat, reduceCtorEq, Try.f55, f3, f4, f5, f6, f7, f8, f9, f10, f11]
            exact ⟨(0, v_25, IntKind.wrap .i64 (v_17 + 1)), hk_22, (weak_norm (ks := [3, 4, 26, 27, 28]) (π := [3, 1]) (fuel := 9) (by simp only [ML, Nat.reduceEqDiff, Nat.reduceLT, Nat.reduceLeDiff, Nat.reduceAdd, Nat.reduceMul, Nat.reduceSub, Int.reduceToNat, reduceCtorEq, TL, TT]))⟩
          · obtain rfl := Option.some.inj hk_22
            try dsimp only at hy_13
            try simp only [↓MD, ↓actH, ↓builtinH, ↓builtinG, ↓builtinFT, MU, MB, MC, TT, Nat.reduceEqDiff, Nat.reduceLT, Nat.reduceLeDiff, Nat.reduceAdd, Nat.reduceMul, Nat.reduceSub, Int.reduceToNat, reduceCtorEq, Try.f55]
            obtain rfl := Option.some.inj hy_13
            exact cutT_mk out_16 rfl (weak_norm (ks := [4]) (π := [0]) (fuel := 9) (by simp only [ML, Nat.reduceEqDiff, Nat.reduceLT, Nat.reduceLeDiff, Nat.reduceAdd, Nat.reduceMul, Nat.reduceSub, Int.reduceToNat, reduceCtorEq, TL, TT]))
        · rintro out_11 hp
          replace hp := hp.symm; subst hp
          try dsimp only at hy_5
          obtain rfl := Option.some.inj hy_5
          try dsimp only at h
          try simp only [↓MD, ↓actH, ↓builtinH, ↓builtinG, ↓builtinFT, MU, MB, MC, TT, Nat.reduceEqDiff, Nat.reduceLT, Nat.reduceLeDiff, Nat.reduceAdd, Nat.reduceMul, Nat.reduceSub, Int.reduceToNat, reduceCtorEq, Try.f55]
          obtain rfl := Option.some.inj h
          refine endT_of ?_ ⟨rfl, rfl⟩
          exact (weak_norm (ks := [0]) (π := [0]) (fuel := 9) (by simp only [ML, Nat.reduceEqDiff, Nat.reduceLT, Nat.reduceLeDiff, Nat.reduceAdd, Nat.reduceMul, Nat.reduceSub, Int.reduceToNat, reduceCtorEq, TL, TT]))
      · try simp only [↓MD, ↓actH, ↓builtinH, ↓builtinG, ↓builtinFT, MU, MB, MC, TT, Nat.reduceEqDiff, Nat.reduceLT, Nat.reduceLeDiff, Nat.reduceAdd, Nat.reduceMul, Nat.reduceSub, Int.reduceToNat, reduceCtorEq, Try.f55]
        refine stIf hy_5 (fun hb_26 hy_5 => ?_) (fun hb_26 hy_5 => ?_)
        · obtain ⟨y_27, hy_27, hy_5⟩ := bS hy_5
          try simp only [↓MD, ↓actH, ↓builtinH, ↓builtinG, ↓builtinFT, MU, MB, MC, TT, Nat.reduceEqDiff, Nat.reduceLT, Nat.reduceLeDiff, Nat.reduceAdd, Nat.reduceMul, Nat.reduceSub, Int.reduceToNat, reduceCtorEq, Try.f55]
          refine callG [] 9 rfl (by simp only [ML, TT, Nat.reduceEqDiff, Nat.reduceLT, Nat.reduceLeDiff, Nat.reduceAdd, Nat.reduceMul, Nat.reduceSub, Int.reduceToNat, reduceCtorEq, TL]) (by simp only [ML, TT, Nat.reduceEqDiff, Nat.reduceLT, Nat.reduceLeDiff, Nat.reduceAdd, Nat.reduceMul, Nat.reduceSub, Int.reduceToNat, reduceCtorEq, TL]) rfl (c_impl_numberCells hy_27) (by simp only [ML, TL, Nat.reduceEqDiff, Nat.reduceLT, Nat.reduceLeDiff, Nat.reduceAdd, Nat.reduceMul, Nat.reduceSub, Int.reduceToNat, reduceCtorEq]) ?_
          intro rd b
          obtain rfl := Option.some.inj hy_5
          try dsimp only at h
          try simp only [↓MD, ↓actH, ↓builtinH, ↓builtinG, ↓builtinFT, MU, MB, MC, TT, Nat.reduceEqDiff, Nat.reduceLT, Nat.reduceLeDiff, Nat.reduceAdd, Nat.reduceMul, Nat.reduceSub, Int.reduceToNat, reduceCtorEq, Try.f55]
          obtain rfl := Option.some.inj h
          refine endT_of ?_ ⟨rfl, rfl⟩
          exact (weak_norm (ks := [0]) (π := [1]) (fuel := 9) (by simp only [ML, Nat.reduceEqDiff, Nat.reduceLT, Nat.reduceLeDiff, Nat.reduceAdd, Nat.reduceMul, Nat.reduceSub, Int.reduceToNat, reduceCtorEq, TL, TT]))
        · try simp only [↓MD, ↓actH, ↓builtinH, ↓builtinG, ↓builtinFT, MU, MB, MC, TT, Nat.reduceEqDiff, Nat.reduceLT, Nat.reduceLeDiff, Nat.reduceAdd, Nat.reduceMul, Nat.reduceSub, Int.reduceToNat, reduceCtorEq, Try.f55]
          refine stIf hy_5 (fun hb_28 hy_5 => ?_) (fun hb_28 hy_5 => ?_)
          · obtain ⟨y_29, hy_29, hy_5⟩ := bS hy_5
            try simp only [↓MD, ↓actH, ↓builtinH, ↓builtinG, ↓builtinFT, MU, MB, MC, TT, Nat.reduceEqDiff, Nat.reduceLT, Nat.reduceLeDiff, Nat.reduceAdd, Nat.reduceMul, Nat.reduceSub, Int.reduceToNat, reduceCtorEq, Try.f55]
            refine callG [] 9 rfl (by simp only [ML, TT, Nat.reduceEqDiff, Nat.reduceLT, Nat.reduceLeDiff, Nat.reduceAdd, Nat.reduceMul, Nat.reduceSub, Int.reduceToNat, reduceCtorEq, TL]) (by simp only [ML, TT, Nat.reduceEqDiff, Nat.reduceLT, Nat.reduceLeDiff, Nat.reduceAdd, Nat.reduceMul, Nat.reduceSub, Int.reduceToNat, reduceCtorEq, TL]) rfl (c_impl_numberCells hy_29) (by simp only [ML, TL, Nat.reduceEqDiff, Nat.reduceLT, Nat.reduceLeDiff, Nat.reduceAdd, Nat.reduceMul, Nat.reduceSub, Int.reduceToNat, reduceCtorEq]) ?_
            intro rd b
            obtain rfl := Option.some.inj hy_5
            try dsimp only at h
            try simp only [↓MD, ↓actH, ↓builtinH, ↓builtinG, ↓builtinFT, MU, MB, MC, TT, Nat.reduceEqDiff, Nat.reduceLT, Nat.reduceLeDiff, Nat.reduceAdd, Nat.reduceMul, Nat.reduceSub, Int.reduceToNat, reduceCtorEq, Try.f55]
            obtain rfl := Option.some.inj h
            refine endT_of ?_ ⟨rfl, rfl⟩
            exact (weak_norm (ks := [0]) (π := [1]) (fuel := 9) (by simp only [ML, Nat.reduceEqDiff, Nat.reduceLT, Nat.reduceLeDiff, Nat.reduceAdd, Nat.reduceMul, Nat.reduceSub, Int.reduceToNat, reduceCtorEq, TL, TT]))
          · try simp only [↓MD, ↓actH, ↓builtinH, ↓builtinG, ↓builtinFT, MU, MB, MC, TT, Nat.reduceEqDiff, Nat.reduceLT, Nat.reduceLeDiff, Nat.reduceAdd, Nat.reduceMul, Nat.reduceSub, Int.reduceToNat, reduceCtorEq, Try.f55]
            refine stIf hy_5 (fun hb_30 hy_5 => ?_) (fun hb_30 hy_5 => ?_)
            · obtain ⟨y_31, hy_31, hy_5⟩ := bS hy_5
              try simp only [↓MD, ↓actH, ↓builtinH, ↓builtinG, ↓builtinFT, MU, MB, MC, TT, Nat.reduceEqDiff, Nat.reduceLT, Nat.reduceLeDiff, Nat.reduceAdd, Nat.reduceMul, Nat.reduceSub, Int.reduceToNat, reduceCtorEq, Try.f55]
              refine callG [] 9 rfl (by simp only [ML, TT, Nat.reduceEqDiff, Nat.reduceLT, Nat.reduceLeDiff, Nat.reduceAdd, Nat.reduceMul, Nat.reduceSub, Int.reduceToNat, reduceCtorEq, TL]) (by simp only [ML, TT, Nat.reduceEqDiff, Nat.reduceLT, Nat.reduceLeDiff, Nat.reduceAdd, Nat.reduceMul, Nat.reduceSub, Int.reduceToNat, reduceCtorEq, TL]) rfl (c_impl_Pack hy_31) (by simp only [ML, TL, Nat.reduceEqDiff, Nat.reduceLT, Nat.reduceLeDiff, Nat.reduceAdd, Nat.reduceMul, Nat.reduceSub, Int.reduceToNat, reduceCtorEq]) ?_
              intro rd b
              try simp only [↓MD, ↓actH, ↓builtinH, ↓builtinG, ↓builtinFT, MU, MB, MC, TT, Nat.reduceEqDiff, Nat.reduceLT, Nat.reduceLeDiff, Nat.reduceAdd, Nat.reduceMul, Nat.reduceSub, Int.reduceToNat, reduceCtorEq, Try.f55]
              refine stIf hy_5 (fun hb_32 hy_5 => ?_) (fun hb_32 hy_5 => ?_)
              · obtain ⟨v_33, hv_33, hy_5⟩ := bS hy_5
                have f12 := (fPtrL hv_33 (k := 1) (n := y_31.length) (by simp) (c := 0) rfl)
                have f13 := (fGetL0 (eI_ok .u32) hv_33 rfl (m := 1) (by decide) (by decide))
                have f14 := (shlI_lit (k := .u32) (a := v_33) (b := 4) (m := 16) (by decide) (by decide))
                have f15 := (show bldN 2 = 2 from rfl)
                have f16 := (show bldC [.int .u32 (orI .u32 (IntKind.wrap .u32 (v_33 * 16)) 12), .int .u32 (IntKind.wrap .u32 it_1.N)] = [orI .u32 (IntKind.wrap .u32 (v_33 * 16)) 12, IntKind.wrap .u32 it_1.N].flatMap (eI .u32) from rfl)
                try simp only [↓MD, ↓actH, ↓builtinH, ↓builtinG, ↓builtinFT, MU, MB, MC, TT, Nat.reduceEqDiff, Nat.reduceLT, Nat.reduceLeDiff, Nat.reduceAdd, Nat.reduceMul, Nat.reduceSub, Int.reduceToNat, reduceCtorEq, Try.f55, f12, f13, f14, f15, f16]
                refine ⟨rfl, ?_⟩
                obtain rfl := Option.some.inj hy_5
                try dsimp only at h
                try simp only [↓MD, ↓actH, ↓builtinH, ↓builtinG, ↓builtinFT, MU, MB, MC, TT, Nat.reduceEqDiff, Nat.reduceLT, Nat.reduceLeDiff, Nat.reduceAdd, Nat.reduceMul, Nat.reduceSub, Int.reduceToNat, reduceCtorEq, Try.f55, f12, f13, f14, f15, f16]
                obtain rfl := Option.some.inj h
                refine endT_of ?_ ⟨rfl, rfl⟩
                exact (weak_norm (ks := [0]) (π := [2]) (fuel := 9) (by simp only [ML, Nat.reduceEqDiff, Nat.reduceLT, Nat.reduceLeDiff, Nat.reduceAdd, Nat.reduceMul, Nat.reduceSub, Int.reduceToNat, reduceCtorEq, TL, TT, fWin (eI_ok .u32) (n := 2) (xs := [orI .u32 (IntKind.wrap .u32 (v_33 * 16)) 12, IntKind.wrap .u32 it_1.N]) (by simp)]))
              · try simp only [↓MD, ↓actH, ↓builtinH, ↓builtinG, ↓builtinFT, MU, MB, MC, TT, Nat.reduceEqDiff, Nat.reduceLT, Nat.reduceLeDiff, Nat.reduceAdd, Nat.reduceMul, Nat.reduceSub, Int.reduceToNat, reduceCtorEq, Try.f55]
                obtain rfl := Option.some.inj hy_5
                exact cutT_mk () (by trivial) (weak_norm (ks := []) (π := []) (fuel := 9) (by simp only [ML, Nat.reduceEqDiff, Nat.reduceLT, Nat.reduceLeDiff, Nat.reduceAdd, Nat.reduceMul, Nat.reduceSub, Int.reduceToNat, reduceCtorEq, TL, TT]))
            · try simp only [↓MD, ↓actH, ↓builtinH, ↓builtinG, ↓builtinFT, MU, MB, MC, TT, Nat.reduceEqDiff, Nat.reduceLT, Nat.reduceLeDiff, Nat.reduceAdd, Nat.reduceMul, Nat.reduceSub, Int.reduceToNat, reduceCtorEq, Try.f55]
              refine stIf hy_5 (fun hb_34 hy_5 => ?_) (fun hb_34 hy_5 => ?_)
              · obtain rfl := Option.some.inj hy_5
                try dsimp only at h
                have f17 := (show bldN 1 = 1 from rfl)
                have f18 := (show bldC [.int .u32 it_1.Raw] = [it_1.Raw].flatMap (eI .u32) from rfl)
                try simp only [↓MD, ↓actH, ↓builtinH, ↓builtinG, ↓builtinFT, MU, MB, MC, TT, Nat.reduceEqDiff, Nat.reduceLT, Nat.reduceLeDiff, Nat.reduceAdd, Nat.reduceMul, Nat.reduceSub, Int.reduceToNat, reduceCtorEq, Try.f55, f17, f18]
                obtain rfl := Option.some.inj h
                refine endT_of ?_ ⟨rfl, rfl⟩
                exact (weak_norm (ks := [0]) (π := [1]) (fuel := 9) (by simp only [ML, Nat.reduceEqDiff, Nat.reduceLT, Nat.reduceLeDiff, Nat.reduceAdd, Nat.reduceMul, Nat.reduceSub, Int.reduceToNat, reduceCtorEq, TL, TT, fWin (eI_ok .u32) (n := 1) (xs := [it_1.Raw]) (by simp)]))
              · try simp only [↓MD, ↓actH, ↓builtinH, ↓builtinG, ↓builtinFT, MU, MB, MC, TT, Nat.reduceEqDiff, Nat.reduceLT, Nat.reduceLeDiff, Nat.reduceAdd, Nat.reduceMul, Nat.reduceSub, Int.reduceToNat, reduceCtorEq, Try.f55]
                obtain rfl := Option.some.inj hy_5
                exact cutT_mk () (by trivial) (weak_norm (ks := []) (π := []) (fuel := 9) (by simp only [ML, Nat.reduceEqDiff, Nat.reduceLT, Nat.reduceLeDiff, Nat.reduceAdd, Nat.reduceMul, Nat.reduceSub, Int.reduceToNat, reduceCtorEq, TL, TT]))
  · rintro _ hp
    replace hp := hp.symm; subst hp
    try dsimp only at h
    try simp only [↓MD, ↓actH, ↓builtinH, ↓builtinG, ↓builtinFT, MU, MB, MC, TT, Nat.reduceEqDiff, Nat.reduceLT, Nat.reduceLeDiff, Nat.reduceAdd, Nat.reduceMul, Nat.reduceSub, Int.reduceToNat, reduceCtorEq, Try.f55]
    obtain rfl := Option.some.inj h
    refine endT_of ?_ ⟨rfl, rfl⟩
    exact ((weak_norm (ks := [0]) (π := []) (fuel := 9) (s' := ⟨[(0, .pv (.one (.emp)))], []⟩) (by simp only [ML, Nat.reduceEqDiff, Nat.reduceLT, Nat.reduceLeDiff, Nat.reduceAdd, Nat.reduceMul, Nat.reduceSub, Int.reduceToNat, reduceCtorEq, TL, TT])).trans (weak_le (by simp only [LEb, Nat.reduceEqDiff, Nat.reduceLT, Nat.reduceLeDiff, Nat.reduceAdd, Nat.reduceMul, Nat.reduceSub, Int.reduceToNat, reduceCtorEq, TL]) (by simp only [LEb, Nat.reduceEqDiff, Nat.reduceLT, Nat.reduceLeDiff, Nat.reduceAdd, Nat.reduceMul, Nat.reduceSub, Int.reduceToNat, reduceCtorEq, TL])))
theorem c_impl_FieldOk {f_1 : Int} {r : Bool} (h : g_impl_FieldOk f_1 = some r) : Ans Try.prog 69 [.one (.int .u32 f_1)] [] fun v h1 => v = .pv (.one (.bool r)) ∧ h1 = [] := by
  refine ansK (P := fun _ => Try.prog) TryT_eq (fn := Try.f69) Try.func69 rfl ⟨by kernel_rfl, rfl, rfl, by kernel_rfl⟩ (by simp) (Weak.refl _ _) ?_
  rw [g_impl_FieldOk] at h
  obtain ⟨y_2, hy_2, h⟩ := bS h
  try simp only [↓MD, ↓actH, ↓builtinH, ↓builtinG, ↓builtinFT, MU, MB, MC, TT, Nat.reduceEqDiff, Nat.reduceLT, Nat.reduceLeDiff, Nat.reduceAdd, Nat.reduceMul, Nat.reduceSub, Int.reduceToNat, reduceCtorEq, Try.f69]
  refine callG [] 9 rfl (by simp only [ML, TT, Nat.reduceEqDiff, Nat.reduceLT, Nat.reduceLeDiff, Nat.reduceAdd, Nat.reduceMul, Nat.reduceSub, Int.reduceToNat, reduceCtorEq, TL]) (by simp only [ML, TT, Nat.reduceEqDiff, Nat.reduceLT, Nat.reduceLeDiff, Nat.reduceAdd, Nat.reduceMul, Nat.reduceSub, Int.reduceToNat, reduceCtorEq, TL]) rfl (c_impl_UnpackOne hy_2) (by simp only [ML, TL, Nat.reduceEqDiff, Nat.reduceLT, Nat.reduceLeDiff, Nat.reduceAdd, Nat.reduceMul, Nat.reduceSub, Int.reduceToNat, reduceCtorEq]) ?_
  intro rd b
  obtain ⟨y_3, hy_3, h⟩ := bS h
  try simp only [↓MD, ↓actH, ↓builtinH, ↓builtinG, ↓builtinFT, MU, MB, MC, TT, Nat.reduceEqDiff, Nat.reduceLT, Nat.reduceLeDiff, Nat.reduceAdd, Nat.reduceMul, Nat.reduceSub, Int.reduceToNat, reduceCtorEq, Try.f69]
  refine callG [] 9 rfl (by simp only [ML, TT, Nat.reduceEqDiff, Nat.reduceLT, Nat.reduceLeDiff, Nat.reduceAdd, Nat.reduceMul, Nat.reduceSub, Int.reduceToNat, reduceCtorEq, TL]) (by simp only [ML, TT, Nat.reduceEqDiff, Nat.reduceLT, Nat.reduceLeDiff, Nat.reduceAdd, Nat.reduceMul, Nat.reduceSub, Int.reduceToNat, reduceCtorEq, TL]) rfl (c_impl_Pack hy_3) (by simp only [ML, TL, Nat.reduceEqDiff, Nat.reduceLT, Nat.reduceLeDiff, Nat.reduceAdd, Nat.reduceMul, Nat.reduceSub, Int.reduceToNat, reduceCtorEq]) ?_
  intro rd b
  obtain ⟨y_4, hy_4, h⟩ := bS h
  have f1 := (show bldN 1 = 1 from rfl)
  have f2 := (show bldC [.int .u32 f_1] = [f_1].flatMap (eI .u32) from rfl)
  try simp only [↓MD, ↓actH, ↓builtinH, ↓builtinG, ↓builtinFT, MU, MB, MC, TT, Nat.reduceEqDiff, Nat.reduceLT, Nat.reduceLeDiff, Nat.reduceAdd, Nat.reduceMul, Nat.reduceSub, Int.reduceToNat, reduceCtorEq, Try.f69, f1, f2]
  refine callG [] 9 rfl (by simp only [ML, TT, Nat.reduceEqDiff, Nat.reduceLT, Nat.reduceLeDiff, Nat.reduceAdd, Nat.reduceMul, Nat.reduceSub, Int.reduceToNat, reduceCtorEq, TL, fWin (eI_ok .u32) (n := 1) (xs := [f_1]) (by simp)]) (by simp only [ML, TT, Nat.reduceEqDiff, Nat.reduceLT, Nat.reduceLeDiff, Nat.reduceAdd, Nat.reduceMul, Nat.reduceSub, Int.reduceToNat, reduceCtorEq, TL, fWin (eI_ok .u32) (n := 1) (xs := [f_1]) (by simp)]) rfl (c_slices_Equal_uint32 hy_4) (by simp only [ML, TL, Nat.reduceEqDiff, Nat.reduceLT, Nat.reduceLeDiff, Nat.reduceAdd, Nat.reduceMul, Nat.reduceSub, Int.reduceToNat, reduceCtorEq]) ?_
  intro rd b
  try simp only [↓MD, ↓actH, ↓builtinH, ↓builtinG, ↓builtinFT, MU, MB, MC, TT, Nat.reduceEqDiff, Nat.reduceLT, Nat.reduceLeDiff, Nat.reduceAdd, Nat.reduceMul, Nat.reduceSub, Int.reduceToNat, reduceCtorEq, Try.f69, f1, f2]
  obtain rfl := Option.some.inj h
  refine endT_of ?_ ⟨rfl, rfl⟩
  exact (weak_norm (ks := [0]) (π := []) (fuel := 9) (by simp only [ML, Nat.reduceEqDiff, Nat.reduceLT, Nat.reduceLeDiff, Nat.reduceAdd, Nat.reduceMul, Nat.reduceSub, Int.reduceToNat, reduceCtorEq, TL, TT]))
theorem c_impl_parseOne {cells_1 : List Int} {r : GItem} (h : g_impl_parseOne cells_1 = some r) : Ans Try.prog 54 [.one (.imm 1 cells_1.length (cells_1.flatMap (eI .u32)))] [] fun v h1 => v = .pv (.agg [.int .i64 r.Kind, .str r.Name, .int .i32 r.N, .bool r.Hex, .int .u32 r.Raw]) ∧ h1 = [] := by
  refine ansK (P := fun _ => Try.prog) TryT_eq (fn := Try.f54) Try.func54 rfl ⟨by kernel_rfl, rfl, rfl, by kernel_rfl⟩ (by simp) (Weak.refl _ _) ?_
  rw [g_impl_parseOne] at h
  obtain ⟨v_2, hv_2, h⟩ := bS h
  have f1 := (fAt (eI_ok .u32) hv_2 (n := cells_1.length) (by simp))
  try simp only [↓MD, ↓actH, ↓builtinH, ↓builtinG, ↓builtinFT, MU, MB, MC, TT, Nat.reduceEqDiff, Nat.reduceLT, Nat.reduceLeDiff, Nat.reduceAdd, Nat.reduceMul, Nat.reduceSub, Int.reduceToNat, reduceCtorEq, Try.f54, f1]
  refine ⟨rfl, ?_⟩
  try simp only [↓MD, ↓actH, ↓builtinH, ↓builtinG, ↓builtinFT, MU, MB, MC, TT, Nat.reduceEqDiff, Nat.reduceLT, Nat.reduceLeDiff, Nat.reduceAdd, Nat.reduceMul, Nat.reduceSub, Int.reduceToNat, reduceCtorEq, Try.f54, f1]
  obtain ⟨y_4, hy_5, h⟩ := bS h
  refine seqK TryT_eq (fun p : GItem => ⟨[(2, .pv (.one (.ptr 0 0))), (5, .pv (.one (.ptr 1 0)))], [.live ⟨1, 5, [.int .i64 0, .str [], .int .i32 0, .bool false, .int .u32 0]⟩, .live ⟨1, 5, [.int .i64 p.Kind, .str p.Name, .int .i32 p.N, .bool p.Hex, .int .u32 p.Raw]⟩]⟩) (fun v => y_4 = v) (by rfl) ?_ ?_
  · try simp only [↓MD, ↓actH, ↓builtinH, ↓builtinG, ↓builtinFT, MU, MB, MC, TT, Nat.reduceEqDiff, Nat.reduceLT, Nat.reduceLeDiff, Nat.reduceAdd, Nat.reduceMul, Nat.reduceSub, Int.reduceToNat, reduceCtorEq, Try.f54, f1]
    obtain ⟨y_7, hy_8, hy_5⟩ := bS hy_5
    refine seqK TryT_eq (fun p : Bool => ⟨[(0, .pv (.one (.imm 1 cells_1.length (cells_1.flatMap (eI .u32))))), (2, .pv (.one (.ptr 0 0))), (3, .pv (.one (.int .u32 v_2))), (4, .pv (.one (.int .u32 (andI .u32 v_2 15)))), (5, .pv (.one (.ptr 1 0))), (21, .pv (.one (.int .u32 (andI .u32 v_2 15)))), (22, .pv (.one (.bool p)))], [.live ⟨1, 5, [.int .i64 0, .str [], .int .i32 0, .bool false, .int .u32 0]⟩, .live ⟨1, 5, [.int .i64 0, .str [], .int .i32 0, .bool false, .int .u32 v_2]⟩]⟩) (fun v => y_7 = v) (by rfl) ?_ ?_
    · try simp only [↓MD, ↓actH, ↓builtinH, ↓builtinG, ↓builtinFT, MU, MB, MC, TT, Nat.reduceEqDiff, Nat.reduceLT, Nat.reduceLeDiff, Nat.reduceAdd, Nat.reduceMul, Nat.reduceSub, Int.reduceToNat, reduceCtorEq, Try.f54, f1]
      refine stIf hy_8 (fun hb_9 hy_8 => ?_) (fun hb_9 hy_8 => ?_)
      · try simp only [↓MD, ↓actH, ↓builtinH, ↓builtinG, ↓builtinFT, MU, MB, MC, TT, Nat.reduceEqDiff, Nat.reduceLT, Nat.reduceLeDiff, Nat.reduceAdd, Nat.reduceMul, Nat.reduceSub, Int.reduceToNat, reduceCtorEq, Try.f54, f1]
        obtain rfl := Option.some.inj hy_8
        exact cutT_mk ((andI .u32 v_2 15) == 1) rfl (weak_norm (ks := [0, 2, 3, 4, 5, 21, 22]) (π := [0, 1]) (fuel := 9) (by simp only [ML, Nat.reduceEqDiff, Nat.reduceLT, Nat.reduceLeDiff, Nat.reduceAdd, Nat.reduceMul, Nat.reduceSub, Int.reduceToNat, reduceCtorEq, TL, TT]))
      · try simp only [↓MD, ↓actH, ↓builtinH, ↓builtinG, ↓builtinFT, MU, MB, MC, TT, Nat.reduceEqDiff, Nat.reduceLT, Nat.reduceLeDiff, Nat.reduceAdd, Nat.reduceMul, Nat.reduceSub, Int.reduceToNat, reduceCtorEq, Try.f54, f1]
        refine stIf hy_8 (fun hb_10 hy_8 => ?_) (fun hb_10 hy_8 => ?_)
        · try simp only [↓MD, ↓actH, ↓builtinH, ↓builtinG, ↓builtinFT, MU, MB, MC, TT, Nat.reduceEqDiff, Nat.reduceLT, Nat.reduceLeDiff, Nat.reduceAdd, Nat.reduceMul, Nat.reduceSub, Int.reduceToNat, reduceCtorEq, Try.f54, f1]
          obtain rfl := Option.some.inj hy_8
          exact cutT_mk ((andI .u32 v_2 15) == 3) rfl (weak_norm (ks := [0, 2, 3, 4, 5, 21, 22]) (π := [0, 1]) (fuel := 9) (by simp only [ML, Nat.reduceEqDiff, Nat.reduceLT, Nat.reduceLeDiff, Nat.reduceAdd, Nat.reduceMul, Nat.reduceSub, Int.reduceToNat, reduceCtorEq, TL, TT]))
        · try simp only [↓MD, ↓actH, ↓builtinH, ↓builtinG, ↓builtinFT, MU, MB, MC, TT, Nat.reduceEqDiff, Nat.reduceLT, Nat.reduceLeDiff, Nat.reduceAdd, Nat.reduceMul, Nat.reduceSub, Int.reduceToNat, reduceCtorEq, Try.f54, f1]
          refine stIf hy_8 (fun hb_11 hy_8 => ?_) (fun hb_11 hy_8 => ?_)
          · try simp only [↓MD, ↓actH, ↓builtinH, ↓builtinG, ↓builtinFT, MU, MB, MC, TT, Nat.reduceEqDiff, Nat.reduceLT, Nat.reduceLeDiff, Nat.reduceAdd, Nat.reduceMul, Nat.reduceSub, Int.reduceToNat, reduceCtorEq, Try.f54, f1]
            obtain rfl := Option.some.inj hy_8
            exact cutT_mk ((andI .u32 v_2 15) == 4) rfl (weak_norm (ks := [0, 2, 3, 4, 5, 21, 22]) (π := [0, 1]) (fuel := 9) (by simp only [ML, Nat.reduceEqDiff, Nat.reduceLT, Nat.reduceLeDiff, Nat.reduceAdd, Nat.reduceMul, Nat.reduceSub, Int.reduceToNat, reduceCtorEq, TL, TT]))
          · try simp only [↓MD, ↓actH, ↓builtinH, ↓builtinG, ↓builtinFT, MU, MB, MC, TT, Nat.reduceEqDiff, Nat.reduceLT, Nat.reduceLeDiff, Nat.reduceAdd, Nat.reduceMul, Nat.reduceSub, Int.reduceToNat, reduceCtorEq, Try.f54, f1]
            refine stIf hy_8 (fun hb_12 hy_8 => ?_) (fun hb_12 hy_8 => ?_)
            · try simp only [↓MD, ↓actH, ↓builtinH, ↓builtinG, ↓builtinFT, MU, MB, MC, TT, Nat.reduceEqDiff, Nat.reduceLT, Nat.reduceLeDiff, Nat.reduceAdd, Nat.reduceMul, Nat.reduceSub, Int.reduceToNat, reduceCtorEq, Try.f54, f1]
              obtain rfl := Option.some.inj hy_8
              exact cutT_mk ((andI .u32 v_2 15) == 9) rfl (weak_norm (ks := [0, 2, 3, 4, 5, 21, 22]) (π := [0, 1]) (fuel := 9) (by simp only [ML, Nat.reduceEqDiff, Nat.reduceLT, Nat.reduceLeDiff, Nat.reduceAdd, Nat.reduceMul, Nat.reduceSub, Int.reduceToNat, reduceCtorEq, TL, TT]))
            · try simp only [↓MD, ↓actH, ↓builtinH, ↓builtinG, ↓builtinFT, MU, MB, MC, TT, Nat.reduceEqDiff, Nat.reduceLT, Nat.reduceLeDiff, Nat.reduceAdd, Nat.reduceMul, Nat.reduceSub, Int.reduceToNat, reduceCtorEq, Try.f54, f1]
              refine stIf hy_8 (fun hb_13 hy_8 => ?_) (fun hb_13 hy_8 => ?_)
              · try simp only [↓MD, ↓actH, ↓builtinH, ↓builtinG, ↓builtinFT, MU, MB, MC, TT, Nat.reduceEqDiff, Nat.reduceLT, Nat.reduceLeDiff, Nat.reduceAdd, Nat.reduceMul, Nat.reduceSub, Int.reduceToNat, reduceCtorEq, Try.f54, f1]
                obtain rfl := Option.some.inj hy_8
                exact cutT_mk ((andI .u32 v_2 15) == 10) rfl (weak_norm (ks := [0, 2, 3, 4, 5, 21, 22]) (π := [0, 1]) (fuel := 9) (by simp only [ML, Nat.reduceEqDiff, Nat.reduceLT, Nat.reduceLeDiff, Nat.reduceAdd, Nat.reduceMul, Nat.reduceSub, Int.reduceToNat, reduceCtorEq, TL, TT]))
              · try simp only [↓MD, ↓actH, ↓builtinH, ↓builtinG, ↓builtinFT, MU, MB, MC, TT, Nat.reduceEqDiff, Nat.reduceLT, Nat.reduceLeDiff, Nat.reduceAdd, Nat.reduceMul, Nat.reduceSub, Int.reduceToNat, reduceCtorEq, Try.f54, f1]
                obtain rfl := Option.some.inj hy_8
                exact cutT_mk ((andI .u32 v_2 15) == 11) rfl (weak_norm (ks := [0, 2, 3, 4, 5, 21, 22]) (π := [0, 1]) (fuel := 9) (by simp only [ML, Nat.reduceEqDiff, Nat.reduceLT, Nat.reduceLeDiff, Nat.reduceAdd, Nat.reduceMul, Nat.reduceSub, Int.reduceToNat, reduceCtorEq, TL, TT]))
    · rintro v_6 hp
      replace hp := hp.symm; subst hp
      try dsimp only at hy_5
      try simp only [↓MD, ↓actH, ↓builtinH, ↓builtinG, ↓builtinFT, MU, MB, MC, TT, Nat.reduceEqDiff, Nat.reduceLT, Nat.reduceLeDiff, Nat.reduceAdd, Nat.reduceMul, Nat.reduceSub, Int.reduceToNat, reduceCtorEq, Try.f54]
      refine stIf hy_5 (fun hb_14 hy_5 => ?_) (fun hb_14 hy_5 => ?_)
      · have f2 := (shrI_lit (k := .u32) (a := v_2) (b := 4) (m := 16) (by decide) (by decide))
        have f3 := (show bldN 1 = 1 from rfl)
        have f4 := (show bldC [.int .u32 (v_2 / 16)] = [v_2 / 16].flatMap (eI .u32) from rfl)
        try simp only [↓MD, ↓actH, ↓builtinH, ↓builtinG, ↓builtinFT, MU, MB, MC, TT, Nat.reduceEqDiff, Nat.reduceLT, Nat.reduceLeDiff, Nat.reduceAdd, Nat.reduceMul, Nat.reduceSub, Int.reduceToNat, reduceCtorEq, Try.f54, f2, f3, f4]
        obtain ⟨y_16, hy_17, hy_5⟩ := bS hy_5
        refine seqK TryT_eq (fun p : (List Int) => ⟨[(2, .pv (.one (.ptr 0 0))), (4, .pv (.one (.int .u32 (andI .u32 v_2 15)))), (5, .pv (.one (.ptr 1 0))), (6, .pv (.one (.arr 2 0 p.length)))], [.live ⟨1, 5, [.int .i64 0, .str [], .int .i32 0, .bool false, .int .u32 0]⟩, .live ⟨1, 5, [.int .i64 0, .str [], .int .i32 0, .bool false, .int .u32 v_2]⟩, .live ⟨1, p.length, p.flatMap (eI .u32)⟩]⟩) (fun v => y_16 = v) (by rfl) ?_ ?_
        · obtain ⟨v_18, hv_18, hy_17⟩ := bS hy_17
          have f5 := (fSubC (eI_ok .u32) hv_18 (n := cells_1.length) (by simp))
          try simp only [↓MD, ↓actH, ↓builtinH, ↓builtinG, ↓builtinFT, MU, MB, MC, TT, Nat.reduceEqDiff, Nat.reduceLT, Nat.reduceLeDiff, Nat.reduceAdd, Nat.reduceMul, Nat.reduceSub, Int.reduceToNat, reduceCtorEq, Try.f54, f2, f3, f4, f5]
          obtain ⟨y_22, hy_23, hy_17⟩ := bS hy_17
          refine loopK TryT_eq (fun p : (List Int) × Int => ⟨[(2, .pv (.one (.ptr 0 0))), (4, .pv (.one (.int .u32 (andI .u32 v_2 15)))), (5, .pv (.one (.ptr 1 0))), (6, .pv (.one (.arr 2 0 p.1.length))), (33, .pv (.one (.imm 1 v_18.length (v_18.flatMap (eI .u32))))), (34, .pv (.one (.int .i64 (v_18.length : Int)))), (35, .pv (.one (.int .i64 p.2)))], [.live ⟨1, 5, [.int .i64 0, .str [], .int .i32 0, .bool false, .int .u32 0]⟩, .live ⟨1, 5, [.int .i64 0, .str [], .int .i32 0, .bool false, .int .u32 v_2]⟩, .live ⟨1, p.1.length, p.1.flatMap (eI .u32)⟩]⟩) (fun k p => g_impl_parseOne_l0 v_18 k p.1 p.2 = some y_22) (by kernel_rfl) bigK ([v_2 / 16], 0) (weak_norm (ks := [2, 4, 5, 6, 33, 34, 35]) (π := [0, 1, 2]) (fuel := 9) (by simp only [ML, Nat.reduceEqDiff, Nat.reduceLT, Nat.reduceLeDiff, Nat.reduceAdd, Nat.reduceMul, Nat.reduceSub, Int.reduceToNat, reduceCtorEq, TL, TT, fWin (eI_ok .u32) (n := 1) (xs := [v_2 / 16]) (by simp)])) hy_23 (fun _ h => nomatch (show none = some _ from h)) ?_
          rintro k_24 ⟨fields_19, v_20⟩ hk_25
          rw [g_impl_parseOne_l0] at hk_25
          try dsimp only at hk_25
          try simp only [↓MD, ↓actH, ↓builtinH, ↓builtinG, ↓builtinFT, MU, MB, MC, TT, Nat.reduceEqDiff, Nat.reduceLT, Nat.reduceLeDiff, Nat.reduceAdd, Nat.reduceMul, Nat.reduceSub, Int.reduceToNat, reduceCtorEq, Try.f54]
          refine seqN TryT_eq rfl ?_
          try simp only [↓MD, ↓actH, ↓builtinH, ↓builtinG, ↓builtinFT, MU, MB, MC, TT, Nat.reduceEqDiff, Nat.reduceLT, Nat.reduceLeDiff, Nat.reduceAdd, Nat.reduceMul, Nat.reduceSub, Int.reduceToNat, reduceCtorEq, Try.f54]
          refine stIf hk_25 (fun hb_26 hk_25 => ?_) (fun hb_26 hk_25 => ?_)
          · try simp only [↓MD, ↓actH, ↓builtinH, ↓builtinG, ↓builtinFT, MU, MB, MC, TT, Nat.reduceEqDiff, Nat.reduceLT, Nat.reduceLeDiff, Nat.reduceAdd, Nat.reduceMul, Nat.reduceSub, Int.reduceToNat, reduceCtorEq, Try.f54]
            refine seqN TryT_eq rfl ?_
            obtain ⟨v_27, hv_27, hk_25⟩ := bS hk_25
            have f6 := (fAt (eI_ok .u32) hv_27 (n := v_18.length) (by simp))
            try simp only [↓MD, ↓actH, ↓builtinH, ↓builtinG, ↓builtinFT, MU, MB, MC, TT, Nat.reduceEqDiff, Nat.reduceLT, Nat.reduceLeDiff, Nat.reduceAdd, Nat.reduceMul, Nat.reduceSub, Int.reduceToNat, reduceCtorEq, Try.f54, f6]
            refine seqN TryT_eq rfl ?_
            try simp only [↓MD, ↓actH, ↓builtinH, ↓builtinG, ↓builtinFT, MU, MB, MC, TT, Nat.reduceEqDiff, Nat.reduceLT, Nat.reduceLeDiff, Nat.reduceAdd, Nat.reduceMul, Nat.reduceSub, Int.reduceToNat, reduceCtorEq, Try.f54, f6]
            obtain ⟨y_29, hy_30, hk_25⟩ := bS hk_25
            refine seqK TryT_eq (fun p : Bool => ⟨[(2, .pv (.one (.ptr 0 0))), (4, .pv (.one (.int .u32 (andI .u32 v_2 15)))), (5, .pv (.one (.ptr 1 0))), (6, .pv (.one (.arr 2 0 fields_19.length))), (8, .pv (.one (.int .u32 v_27))), (33, .pv (.one (.imm 1 v_18.length (v_18.flatMap (eI .u32))))), (34, .pv (.one (.int .i64 (v_18.length : Int)))), (35, .pv (.one (.int .i64 v_20))), (45, .pv (.one (.bool p)))], [.live ⟨1, 5, [.int .i64 0, .str [], .int .i32 0, .bool false, .int .u32 0]⟩, .live ⟨1, 5, [.int .i64 0, .str [], .int .i32 0, .bool false, .int .u32 v_2]⟩, .live ⟨1, fields_19.length, fields_19.flatMap (eI .u32)⟩]⟩) (fun v => y_29 = v) (by rfl) ?_ ?_
            · try simp only [↓MD, ↓actH, ↓builtinH, ↓builtinG, ↓builtinFT, MU, MB, MC, TT, Nat.reduceEqDiff, Nat.reduceLT, Nat.reduceLeDiff, Nat.reduceAdd, Nat.reduceMul, Nat.reduceSub, Int.reduceToNat, reduceCtorEq, Try.f54, f6]
              refine stIf hy_30 (fun hb_31 hy_30 => ?_) (fun hb_31 hy_30 => ?_)
              · try simp only [↓MD, ↓actH, ↓builtinH, ↓builtinG, ↓builtinFT, MU, MB, MC, TT, Nat.reduceEqDiff, Nat.reduceLT, Nat.reduceLeDiff, Nat.reduceAdd, Nat.reduceMul, Nat.reduceSub, Int.reduceToNat, reduceCtorEq, Try.f54, f6, hb_31]
                obtain rfl := Option.some.inj hy_30
                exact cutT_mk true rfl (weak_norm (ks := [2, 4, 5, 6, 8, 33, 34, 35, 45]) (π := [0, 1, 2]) (fuel := 9) (by simp only [ML, Nat.reduceEqDiff, Nat.reduceLT, Nat.reduceLeDiff, Nat.reduceAdd, Nat.reduceMul, Nat.reduceSub, Int.reduceToNat, reduceCtorEq, TL, TT]))
              · try simp only [↓MD, ↓actH, ↓builtinH, ↓builtinG, ↓builtinFT, MU, MB, MC, TT, Nat.reduceEqDiff, Nat.reduceLT, Nat.reduceLeDiff, Nat.reduceAdd, Nat.reduceMul, Nat.reduceSub, Int.reduceToNat, reduceCtorEq, Try.f54, f6, hb_31]
                obtain rfl := Option.some.inj hy_30
                exact cutT_mk ((andI .u32 v_27 15) != 0) rfl (weak_norm (ks := [2, 4, 5, 6, 8, 33, 34, 35, 45]) (π := [0, 1, 2]) (fuel := 9) (by simp only [ML, Nat.reduceEqDiff, Nat.reduceLT, Nat.reduceLeDiff, Nat.reduceAdd, Nat.reduceMul, Nat.reduceSub, Int.reduceToNat, reduceCtorEq, TL, TT]))
            · rintro v_28 hp
              replace hp := hp.symm; subst hp
              try dsimp only at hk_25
              try simp only [↓MD, ↓actH, ↓builtinH, ↓builtinG, ↓builtinFT, MU, MB, MC, TT, Nat.reduceEqDiff, Nat.reduceLT, Nat.reduceLeDiff, Nat.reduceAdd, Nat.reduceMul, Nat.reduceSub, Int.reduceToNat, reduceCtorEq, Try.f54]
              refine stIf hk_25 (fun hb_32 hk_25 => ?_) (fun hb_32 hk_25 => ?_)
              · obtain rfl := Option.some.inj hk_25
                try dsimp only at hy_17
                try simp only [↓MD, ↓actH, ↓builtinH, ↓builtinG, ↓builtinFT, MU, MB, MC, TT, Nat.reduceEqDiff, Nat.reduceLT, Nat.reduceLeDiff, Nat.reduceAdd, Nat.reduceMul, Nat.reduceSub, Int.reduceToNat, reduceCtorEq, Try.f54]
                obtain rfl := Option.some.inj hy_17
                exact cutT_mk fields_19 rfl (weak_norm (ks := [2, 4, 5, 6]) (π := [0, 1, 2]) (fuel := 9) (by simp only [ML, Nat.reduceEqDiff, Nat.reduceLT, Nat.reduceLeDiff, Nat.reduceAdd, Nat.reduceMul, Nat.reduceSub, Int.reduceToNat, reduceCtorEq, TL, TT]))
              · obtain ⟨v_33, hv_33, hk_25⟩ := bS hk_25
                have f7 := (shrI_lit (k := .u32) (a := v_27) (b := 4) (m := 16) (by decide) (by decide))
                have f8 := (show bldN 1 = 1 from rfl)
                have f9 := (show bldC [.int .u32 (v_27 / 16)] = [v_27 / 16].flatMap (eI .u32) from rfl)
                have f10 := (fWin (eI_ok .u32) (n := 1) (xs := [v_27 / 16]) (by simp))
                have f11 := (fApp hv_33 (n := fields_19.length) (by simp) (m := 1) (by simp [bsOf]))
                have f12 := (fWin (eI_ok .u32) (n := fields_19.length) (xs := fields_19) (by simp))
                have f13 := (fCat (e := (eI .u32)) (ns := [v_27 / 16].flatMap (eI .u32)) hv_33 rfl)
                try simp only [↓MD, ↓actH, ↓builtinH, ↓builtinG, ↓builtinFT, MU, MB, MC, TT, Nat.reduceEqDiff, Nat.reduceLT, Nat.reduceLeDiff, Nat.reduceAdd, Nat.reduceMul, Nat.reduceSub, Int.reduceToNat, reduceCtorEq, Try.f54, f7, f8, f9, f10, f11, f12, f13]
                exact ⟨(v_33, IntKind.wrap .i64 (v_20 + 1)), hk_25, (weak_norm (ks := [2, 4, 5, 6, 33, 34, 35]) (π := [0, 1, 4]) (fuel := 9) (by simp only [ML, Nat.reduceEqDiff, Nat.reduceLT, Nat.reduceLeDiff, Nat.reduceAdd, Nat.reduceMul, Nat.reduceSub, Int.reduceToNat, reduceCtorEq, TL, TT]))⟩
          · obtain rfl := Option.some.inj hk_25
            try dsimp only at hy_17
            try simp only [↓MD, ↓actH, ↓builtinH, ↓builtinG, ↓builtinFT, MU, MB, MC, TT, Nat.reduceEqDiff, Nat.reduceLT, Nat.reduceLeDiff, Nat.reduceAdd, Nat.reduceMul, Nat.reduceSub, Int.reduceToNat, reduceCtorEq, Try.f54]
            obtain rfl := Option.some.inj hy_17
            exact cutT_mk fields_19 rfl (weak_norm (ks := [2, 4, 5, 6]) (π := [0, 1, 2]) (fuel := 9) (by simp only [ML, Nat.reduceEqDiff, Nat.reduceLT, Nat.reduceLeDiff, Nat.reduceAdd, Nat.reduceMul, Nat.reduceSub, Int.reduceToNat, reduceCtorEq, TL, TT]))
        · rintro fields_15 hp
          replace hp := hp.symm; subst hp
          try dsimp only at hy_5
          obtain ⟨y_34, hy_34, hy_5⟩ := bS hy_5
          try simp only [↓MD, ↓actH, ↓builtinH, ↓builtinG, ↓builtinFT, MU, MB, MC, TT, Nat.reduceEqDiff, Nat.reduceLT, Nat.reduceLeDiff, Nat.reduceAdd, Nat.reduceMul, Nat.reduceSub, Int.reduceToNat, reduceCtorEq, Try.f54]
          refine callG [] 9 rfl (by simp only [ML, TT, Nat.reduceEqDiff, Nat.reduceLT, Nat.reduceLeDiff, Nat.reduceAdd, Nat.reduceMul, Nat.reduceSub, Int.reduceToNat, reduceCtorEq, TL]) (by simp only [ML, TT, Nat.reduceEqDiff, Nat.reduceLT, Nat.reduceLeDiff, Nat.reduceAdd, Nat.reduceMul, Nat.reduceSub, Int.reduceToNat, reduceCtorEq, TL]) rfl (c_impl_Unpack hy_34) (by simp only [ML, TL, Nat.reduceEqDiff, Nat.reduceLT, Nat.reduceLeDiff, Nat.reduceAdd, Nat.reduceMul, Nat.reduceSub, Int.reduceToNat, reduceCtorEq]) ?_
          intro rd b
          try simp only [↓MD, ↓actH, ↓builtinH, ↓builtinG, ↓builtinFT, MU, MB, MC, TT, Nat.reduceEqDiff, Nat.reduceLT, Nat.reduceLeDiff, Nat.reduceAdd, Nat.reduceMul, Nat.reduceSub, Int.reduceToNat, reduceCtorEq, Try.f54]
          refine stIf hy_5 (fun hb_35 hy_5 => ?_) (fun hb_35 hy_5 => ?_)
          · obtain ⟨y_36, hy_36, hy_5⟩ := bS hy_5
            try simp only [↓MD, ↓actH, ↓builtinH, ↓builtinG, ↓builtinFT, MU, MB, MC, TT, Nat.reduceEqDiff, Nat.reduceLT, Nat.reduceLeDiff, Nat.reduceAdd, Nat.reduceMul, Nat.reduceSub, Int.reduceToNat, reduceCtorEq, Try.f54]
            refine callG [] 9 rfl (by simp only [ML, TT, Nat.reduceEqDiff, Nat.reduceLT, Nat.reduceLeDiff, Nat.reduceAdd, Nat.reduceMul, Nat.reduceSub, Int.reduceToNat, reduceCtorEq, TL]) (by simp only [ML, TT, Nat.reduceEqDiff, Nat.reduceLT, Nat.reduceLeDiff, Nat.reduceAdd, Nat.reduceMul, Nat.reduceSub, Int.reduceToNat, reduceCtorEq, TL]) rfl (c_impl_nameKind hy_36) (by simp only [ML, TL, Nat.reduceEqDiff, Nat.reduceLT, Nat.reduceLeDiff, Nat.reduceAdd, Nat.reduceMul, Nat.reduceSub, Int.reduceToNat, reduceCtorEq]) ?_
            intro rd b
            try simp only [↓MD, ↓actH, ↓builtinH, ↓builtinG, ↓builtinFT, MU, MB, MC, TT, Nat.reduceEqDiff, Nat.reduceLT, Nat.reduceLeDiff, Nat.reduceAdd, Nat.reduceMul, Nat.reduceSub, Int.reduceToNat, reduceCtorEq, Try.f54]
            obtain rfl := Option.some.inj hy_5
            exact cutT_mk (⟨y_36, y_34.1, 0, false, 0⟩ : GItem) rfl (weak_norm (ks := [2, 5]) (π := [0, 1]) (fuel := 9) (by simp only [ML, Nat.reduceEqDiff, Nat.reduceLT, Nat.reduceLeDiff, Nat.reduceAdd, Nat.reduceMul, Nat.reduceSub, Int.reduceToNat, reduceCtorEq, TL, TT]))
          · try simp only [↓MD, ↓actH, ↓builtinH, ↓builtinG, ↓builtinFT, MU, MB, MC, TT, Nat.reduceEqDiff, Nat.reduceLT, Nat.reduceLeDiff, Nat.reduceAdd, Nat.reduceMul, Nat.reduceSub, Int.reduceToNat, reduceCtorEq, Try.f54]
            obtain rfl := Option.some.inj hy_5
            exact cutT_mk (⟨0, [], 0, false, v_2⟩ : GItem) rfl (weak_norm (ks := [2, 5]) (π := [0, 1]) (fuel := 9) (by simp only [ML, Nat.reduceEqDiff, Nat.reduceLT, Nat.reduceLeDiff, Nat.reduceAdd, Nat.reduceMul, Nat.reduceSub, Int.reduceToNat, reduceCtorEq, TL, TT]))
      · try simp only [↓MD, ↓actH, ↓builtinH, ↓builtinG, ↓builtinFT, MU, MB, MC, TT, Nat.reduceEqDiff, Nat.reduceLT, Nat.reduceLeDiff, Nat.reduceAdd, Nat.reduceMul, Nat.reduceSub, Int.reduceToNat, reduceCtorEq, Try.f54]
        refine stIf hy_5 (fun hb_37 hy_5 => ?_) (fun hb_37 hy_5 => ?_)
        · have f14 := (shrI_lit (k := .i32) (a := IntKind.wrap .i32 v_2) (b := 5) (m := 32) (by decide) (by decide))
          try simp only [↓MD, ↓actH, ↓builtinH, ↓builtinG, ↓builtinFT, MU, MB, MC, TT, Nat.reduceEqDiff, Nat.reduceLT, Nat.reduceLeDiff, Nat.reduceAdd, Nat.reduceMul, Nat.reduceSub, Int.reduceToNat, reduceCtorEq, Try.f54, f14]
          obtain rfl := Option.some.inj hy_5
          exact cutT_mk (⟨7, [], (IntKind.wrap .i32 v_2) / 32, ((andI .u32 v_2 16) != 0), 0⟩ : GItem) rfl (weak_norm (ks := [2, 5]) (π := [0, 1]) (fuel := 9) (by simp only [ML, Nat.reduceEqDiff, Nat.reduceLT, Nat.reduceLeDiff, Nat.reduceAdd, Nat.reduceMul, Nat.reduceSub, Int.reduceToNat, reduceCtorEq, TL, TT]))
        · try simp only [↓MD, ↓actH, ↓builtinH, ↓builtinG, ↓builtinFT, MU, MB, MC, TT, Nat.reduceEqDiff, Nat.reduceLT, Nat.reduceLeDiff, Nat.reduceAdd, Nat.reduceMul, Nat.reduceSub, Int.reduceToNat, reduceCtorEq, Try.f54]
          refine stIf hy_5 (fun hb_38 hy_5 => ?_) (fun hb_38 hy_5 => ?_)
          · have f15 := (shrI_lit (k := .i32) (a := IntKind.wrap .i32 v_2) (b := 5) (m := 32) (by decide) (by decide))
            try simp only [↓MD, ↓actH, ↓builtinH, ↓builtinG, ↓builtinFT, MU, MB, MC, TT, Nat.reduceEqDiff, Nat.reduceLT, Nat.reduceLeDiff, Nat.reduceAdd, Nat.reduceMul, Nat.reduceSub, Int.reduceToNat, reduceCtorEq, Try.f54, f15]
            obtain rfl := Option.some.inj hy_5
            exact cutT_mk (⟨8, [], (IntKind.wrap .i32 v_2) / 32, ((andI .u32 v_2 16) != 0), 0⟩ : GItem) rfl (weak_norm (ks := [2, 5]) (π := [0, 1]) (fuel := 9) (by simp only [ML, Nat.reduceEqDiff, Nat.reduceLT, Nat.reduceLeDiff, Nat.reduceAdd, Nat.reduceMul, Nat.reduceSub, Int.reduceToNat, reduceCtorEq, TL, TT]))
          · try simp only [↓MD, ↓actH, ↓builtinH, ↓builtinG, ↓builtinFT, MU, MB, MC, TT, Nat.reduceEqDiff, Nat.reduceLT, Nat.reduceLeDiff, Nat.reduceAdd, Nat.reduceMul, Nat.reduceSub, Int.reduceToNat, reduceCtorEq, Try.f54]
            obtain ⟨y_40, hy_41, hy_5⟩ := bS hy_5
            refine seqK TryT_eq (fun p : Bool => ⟨[(0, .pv (.one (.imm 1 cells_1.length (cells_1.flatMap (eI .u32))))), (2, .pv (.one (.ptr 0 0))), (3, .pv (.one (.int .u32 v_2))), (4, .pv (.one (.int .u32 (andI .u32 v_2 15)))), (5, .pv (.one (.ptr 1 0))), (21, .pv (.one (.int .u32 (andI .u32 v_2 15)))), (80, .pv (.one (.bool p)))], [.live ⟨1, 5, [.int .i64 0, .str [], .int .i32 0, .bool false, .int .u32 0]⟩, .live ⟨1, 5, [.int .i64 0, .str [], .int .i32 0, .bool false, .int .u32 v_2]⟩]⟩) (fun v => y_40 = v) (by rfl) ?_ ?_
            · try simp only [↓MD, ↓actH, ↓builtinH, ↓builtinG, ↓builtinFT, MU, MB, MC, TT, Nat.reduceEqDiff, Nat.reduceLT, Nat.reduceLeDiff, Nat.reduceAdd, Nat.reduceMul, Nat.reduceSub, Int.reduceToNat, reduceCtorEq, Try.f54]
              refine stIf hy_41 (fun hb_42 hy_41 => ?_) (fun hb_42 hy_41 => ?_)
              · try simp only [↓MD, ↓actH, ↓builtinH, ↓builtinG, ↓builtinFT, MU, MB, MC, TT, Nat.reduceEqDiff, Nat.reduceLT, Nat.reduceLeDiff, Nat.reduceAdd, Nat.reduceMul, Nat.reduceSub, Int.reduceToNat, reduceCtorEq, Try.f54]
                obtain rfl := Option.some.inj hy_41
                exact cutT_mk ((andI .u32 v_2 15) == 2) rfl (weak_norm (ks := [0, 2, 3, 4, 5, 21, 80]) (π := [0, 1]) (fuel := 9) (by simp only [ML, Nat.reduceEqDiff, Nat.reduceLT, Nat.reduceLeDiff, Nat.reduceAdd, Nat.reduceMul, Nat.reduceSub, Int.reduceToNat, reduceCtorEq, TL, TT]))
              · try simp only [↓MD, ↓actH, ↓builtinH, ↓builtinG, ↓builtinFT, MU, MB, MC, TT, Nat.reduceEqDiff, Nat.reduceLT, Nat.reduceLeDiff, Nat.reduceAdd, Nat.reduceMul, Nat.reduceSub, Int.reduceToNat, reduceCtorEq, Try.f54]
                obtain rfl := Option.some.inj hy_41
                exact cutT_mk ((andI .u32 v_2 15) == 5) rfl (weak_norm (ks := [0, 2, 3, 4, 5, 21, 80]) (π := [0, 1]) (fuel := 9) (by simp only [ML, Nat.reduceEqDiff, Nat.reduceLT, Nat.reduceLeDiff, Nat.reduceAdd, Nat.reduceMul, Nat.reduceSub, Int.reduceToNat, reduceCtorEq, TL, TT]))
            · rintro v_39 hp
              replace hp := hp.symm; subst hp
              try dsimp only at hy_5
              try simp only [↓MD, ↓actH, ↓builtinH, ↓builtinG, ↓builtinFT, MU, MB, MC, TT, Nat.reduceEqDiff, Nat.reduceLT, Nat.reduceLeDiff, Nat.reduceAdd, Nat.reduceMul, Nat.reduceSub, Int.reduceToNat, reduceCtorEq, Try.f54]
              refine stIf hy_5 (fun hb_43 hy_5 => ?_) (fun hb_43 hy_5 => ?_)
              · try simp only [↓MD, ↓actH, ↓builtinH, ↓builtinG, ↓builtinFT, MU, MB, MC, TT, Nat.reduceEqDiff, Nat.reduceLT, Nat.reduceLeDiff, Nat.reduceAdd, Nat.reduceMul, Nat.reduceSub, Int.reduceToNat, reduceCtorEq, Try.f54]
                refine seqN TryT_eq rfl ?_
                try simp only [↓MD, ↓actH, ↓builtinH, ↓builtinG, ↓builtinFT, MU, MB, MC, TT, Nat.reduceEqDiff, Nat.reduceLT, Nat.reduceLeDiff, Nat.reduceAdd, Nat.reduceMul, Nat.reduceSub, Int.reduceToNat, reduceCtorEq, Try.f54]
                refine stIf hy_5 (fun hb_44 hy_5 => ?_) (fun hb_44 hy_5 => ?_)
                · try simp only [↓MD, ↓actH, ↓builtinH, ↓builtinG, ↓builtinFT, MU, MB, MC, TT, Nat.reduceEqDiff, Nat.reduceLT, Nat.reduceLeDiff, Nat.reduceAdd, Nat.reduceMul, Nat.reduceSub, Int.reduceToNat, reduceCtorEq, Try.f54]
                  obtain rfl := Option.some.inj hy_5
                  exact cutT_mk (⟨0, [], 0, false, v_2⟩ : GItem) rfl (weak_norm (ks := [2, 5]) (π := [0, 1]) (fuel := 9) (by simp only [ML, Nat.reduceEqDiff, Nat.reduceLT, Nat.reduceLeDiff, Nat.reduceAdd, Nat.reduceMul, Nat.reduceSub, Int.reduceToNat, reduceCtorEq, TL, TT]))
                · obtain ⟨v_45, hv_45, hy_5⟩ := bS hy_5
                  have f16 := (fAt (eI_ok .u32) hv_45 (n := cells_1.length) (by simp))
                  try simp only [↓MD, ↓actH, ↓builtinH, ↓builtinG, ↓builtinFT, MU, MB, MC, TT, Nat.reduceEqDiff, Nat.reduceLT, Nat.reduceLeDiff, Nat.reduceAdd, Nat.reduceMul, Nat.reduceSub, Int.reduceToNat, reduceCtorEq, Try.f54, f16]
                  obtain ⟨y_47, hy_48, hy_5⟩ := bS hy_5
                  refine seqK TryT_eq (fun p : GItem => ⟨[(0, .pv (.one (.imm 1 cells_1.length (cells_1.flatMap (eI .u32))))), (2, .pv (.one (.ptr 0 0))), (5, .pv (.one (.ptr 1 0))), (11, .pv (.one (.ptr 2 0)))], [.live ⟨1, 5, [.int .i64 0, .str [], .int .i32 0, .bool false, .int .u32 0]⟩, .live ⟨1, 5, [.int .i64 0, .str [], .int .i32 0, .bool false, .int .u32 v_2]⟩, .live ⟨1, 5, [.int .i64 p.Kind, .str p.Name, .int .i32 p.N, .bool p.Hex, .int .u32 p.Raw]⟩]⟩) (fun v => y_47 = v) (by rfl) ?_ ?_
                  · try simp only [↓MD, ↓actH, ↓builtinH, ↓builtinG, ↓builtinFT, MU, MB, MC, TT, Nat.reduceEqDiff, Nat.reduceLT, Nat.reduceLeDiff, Nat.reduceAdd, Nat.reduceMul, Nat.reduceSub, Int.reduceToNat, reduceCtorEq, Try.f54, f16]
                    refine stIf hy_48 (fun hb_49 hy_48 => ?_) (fun hb_49 hy_48 => ?_)
                    · try simp only [↓MD, ↓actH, ↓builtinH, ↓builtinG, ↓builtinFT, MU, MB, MC, TT, Nat.reduceEqDiff, Nat.reduceLT, Nat.reduceLeDiff, Nat.reduceAdd, Nat.reduceMul, Nat.reduceSub, Int.reduceToNat, reduceCtorEq, Try.f54, f16]
                      obtain rfl := Option.some.inj hy_48
                      exact cutT_mk (⟨8, [], IntKind.wrap .i32 v_45, ((andI .u32 v_2 16) != 0), 0⟩ : GItem) rfl (weak_norm (ks := [0, 2, 5, 11]) (π := [0, 1, 2]) (fuel := 9) (by simp only [ML, Nat.reduceEqDiff, Nat.reduceLT, Nat.reduceLeDiff, Nat.reduceAdd, Nat.reduceMul, Nat.reduceSub, Int.reduceToNat, reduceCtorEq, TL, TT]))
                    · try simp only [↓MD, ↓actH, ↓builtinH, ↓builtinG, ↓builtinFT, MU, MB, MC, TT, Nat.reduceEqDiff, Nat.reduceLT, Nat.reduceLeDiff, Nat.reduceAdd, Nat.reduceMul, Nat.reduceSub, Int.reduceToNat, reduceCtorEq, Try.f54, f16]
                      obtain rfl := Option.some.inj hy_48
                      exact cutT_mk (⟨7, [], IntKind.wrap .i32 v_45, ((andI .u32 v_2 16) != 0), 0⟩ : GItem) rfl (weak_norm (ks := [0, 2, 5, 11]) (π := [0, 1, 2]) (fuel := 9) (by simp only [ML, Nat.reduceEqDiff, Nat.reduceLT, Nat.reduceLeDiff, Nat.reduceAdd, Nat.reduceMul, Nat.reduceSub, Int.reduceToNat, reduceCtorEq, TL, TT]))
                  · rintro long_46 hp
                    replace hp := hp.symm; subst hp
                    try dsimp only at hy_5
                    obtain ⟨y_50, hy_50, hy_5⟩ := bS hy_5
                    try simp only [↓MD, ↓actH, ↓builtinH, ↓builtinG, ↓builtinFT, MU, MB, MC, TT, Nat.reduceEqDiff, Nat.reduceLT, Nat.reduceLeDiff, Nat.reduceAdd, Nat.reduceMul, Nat.reduceSub, Int.reduceToNat, reduceCtorEq, Try.f54]
                    refine callG [] 9 rfl (by simp only [ML, TT, Nat.reduceEqDiff, Nat.reduceLT, Nat.reduceLeDiff, Nat.reduceAdd, Nat.reduceMul, Nat.reduceSub, Int.reduceToNat, reduceCtorEq, TL]) (by simp only [ML, TT, Nat.reduceEqDiff, Nat.reduceLT, Nat.reduceLeDiff, Nat.reduceAdd, Nat.reduceMul, Nat.reduceSub, Int.reduceToNat, reduceCtorEq, TL]) rfl (c_impl_CellsOf hy_50) (by simp only [ML, TL, Nat.reduceEqDiff, Nat.reduceLT, Nat.reduceLeDiff, Nat.reduceAdd, Nat.reduceMul, Nat.reduceSub, Int.reduceToNat, reduceCtorEq]) ?_
                    intro rd b
                    obtain ⟨v_51, hv_51, hy_5⟩ := bS hy_5
                    obtain ⟨y_52, hy_52, hy_5⟩ := bS hy_5
                    have f17 := (fSubC (eI_ok .u32) hv_51 (n := cells_1.length) (by simp))
                    try simp only [↓MD, ↓actH, ↓builtinH, ↓builtinG, ↓builtinFT, MU, MB, MC, TT, Nat.reduceEqDiff, Nat.reduceLT, Nat.reduceLeDiff, Nat.reduceAdd, Nat.reduceMul, Nat.reduceSub, Int.reduceToNat, reduceCtorEq, Try.f54, f17]
                    refine callG [] 9 rfl (by simp only [ML, TT, Nat.reduceEqDiff, Nat.reduceLT, Nat.reduceLeDiff, Nat.reduceAdd, Nat.reduceMul, Nat.reduceSub, Int.reduceToNat, reduceCtorEq, TL]) (by simp only [ML, TT, Nat.reduceEqDiff, Nat.reduceLT, Nat.reduceLeDiff, Nat.reduceAdd, Nat.reduceMul, Nat.reduceSub, Int.reduceToNat, reduceCtorEq, TL]) rfl (c_slices_Equal_uint32 hy_52) (by simp only [ML, TL, Nat.reduceEqDiff, Nat.reduceLT, Nat.reduceLeDiff, Nat.reduceAdd, Nat.reduceMul, Nat.reduceSub, Int.reduceToNat, reduceCtorEq]) ?_
                    intro rd b
                    try simp only [↓MD, ↓actH, ↓builtinH, ↓builtinG, ↓builtinFT, MU, MB, MC, TT, Nat.reduceEqDiff, Nat.reduceLT, Nat.reduceLeDiff, Nat.reduceAdd, Nat.reduceMul, Nat.reduceSub, Int.reduceToNat, reduceCtorEq, Try.f54, f17]
                    refine ⟨rfl, ?_⟩
                    try simp only [↓MD, ↓actH, ↓builtinH, ↓builtinG, ↓builtinFT, MU, MB, MC, TT, Nat.reduceEqDiff, Nat.reduceLT, Nat.reduceLeDiff, Nat.reduceAdd, Nat.reduceMul, Nat.reduceSub, Int.reduceToNat, reduceCtorEq, Try.f54, f17]
                    refine stIf hy_5 (fun hb_53 hy_5 => ?_) (fun hb_53 hy_5 => ?_)
                    · try simp only [↓MD, ↓actH, ↓builtinH, ↓builtinG, ↓builtinFT, MU, MB, MC, TT, Nat.reduceEqDiff, Nat.reduceLT, Nat.reduceLeDiff, Nat.reduceAdd, Nat.reduceMul, Nat.reduceSub, Int.reduceToNat, reduceCtorEq, Try.f54, f17]
                      obtain rfl := Option.some.inj hy_5
                      exact cutT_mk long_46 rfl (weak_norm (ks := [2, 5]) (π := [0, 1]) (fuel := 9) (by simp only [ML, Nat.reduceEqDiff, Nat.reduceLT, Nat.reduceLeDiff, Nat.reduceAdd, Nat.reduceMul, Nat.reduceSub, Int.reduceToNat, reduceCtorEq, TL, TT]))
                    · try simp only [↓MD, ↓actH, ↓builtinH, ↓builtinG, ↓builtinFT, MU, MB, MC, TT, Nat.reduceEqDiff, Nat.reduceLT, Nat.reduceLeDiff, Nat.reduceAdd, Nat.reduceMul, Nat.reduceSub, Int.reduceToNat, reduceCtorEq, Try.f54, f17]
                      obtain rfl := Option.some.inj hy_5
                      exact cutT_mk (⟨0, [], 0, false, v_2⟩ : GItem) rfl (weak_norm (ks := [2, 5]) (π := [0, 1]) (fuel := 9) (by simp only [ML, Nat.reduceEqDiff, Nat.reduceLT, Nat.reduceLeDiff, Nat.reduceAdd, Nat.reduceMul, Nat.reduceSub, Int.reduceToNat, reduceCtorEq, TL, TT]))
              · try simp only [↓MD, ↓actH, ↓builtinH, ↓builtinG, ↓builtinFT, MU, MB, MC, TT, Nat.reduceEqDiff, Nat.reduceLT, Nat.reduceLeDiff, Nat.reduceAdd, Nat.reduceMul, Nat.reduceSub, Int.reduceToNat, reduceCtorEq, Try.f54]
                refine stIf hy_5 (fun hb_54 hy_5 => ?_) (fun hb_54 hy_5 => ?_)
                · try simp only [↓MD, ↓actH, ↓builtinH, ↓builtinG, ↓builtinFT, MU, MB, MC, TT, Nat.reduceEqDiff, Nat.reduceLT, Nat.reduceLeDiff, Nat.reduceAdd, Nat.reduceMul, Nat.reduceSub, Int.reduceToNat, reduceCtorEq, Try.f54]
                  obtain ⟨y_56, hy_57, hy_5⟩ := bS hy_5
                  refine seqK TryT_eq (fun p : Bool => ⟨[(0, .pv (.one (.imm 1 cells_1.length (cells_1.flatMap (eI .u32))))), (2, .pv (.one (.ptr 0 0))), (3, .pv (.one (.int .u32 v_2))), (5, .pv (.one (.ptr 1 0))), (112, .pv (.one (.bool p)))], [.live ⟨1, 5, [.int .i64 0, .str [], .int .i32 0, .bool false, .int .u32 0]⟩, .live ⟨1, 5, [.int .i64 0, .str [], .int .i32 0, .bool false, .int .u32 v_2]⟩]⟩) (fun v => y_56 = v) (by rfl) ?_ ?_
                  · try simp only [↓MD, ↓actH, ↓builtinH, ↓builtinG, ↓builtinFT, MU, MB, MC, TT, Nat.reduceEqDiff, Nat.reduceLT, Nat.reduceLeDiff, Nat.reduceAdd, Nat.reduceMul, Nat.reduceSub, Int.reduceToNat, reduceCtorEq, Try.f54]
                    refine stIf hy_57 (fun hb_58 hy_57 => ?_) (fun hb_58 hy_57 => ?_)
                    · obtain ⟨y_59, hy_59, hy_57⟩ := bS hy_57
                      have f18 := (shrI_lit (k := .u32) (a := v_2) (b := 4) (m := 16) (by decide) (by decide))
                      try simp only [↓MD, ↓actH, ↓builtinH, ↓builtinG, ↓builtinFT, MU, MB, MC, TT, Nat.reduceEqDiff, Nat.reduceLT, Nat.reduceLeDiff, Nat.reduceAdd, Nat.reduceMul, Nat.reduceSub, Int.reduceToNat, reduceCtorEq, Try.f54, hb_58, f18]
                      refine callG [] 9 rfl (by simp only [ML, TT, Nat.reduceEqDiff, Nat.reduceLT, Nat.reduceLeDiff, Nat.reduceAdd, Nat.reduceMul, Nat.reduceSub, Int.reduceToNat, reduceCtorEq, TL]) (by simp only [ML, TT, Nat.reduceEqDiff, Nat.reduceLT, Nat.reduceLeDiff, Nat.reduceAdd, Nat.reduceMul, Nat.reduceSub, Int.reduceToNat, reduceCtorEq, TL]) rfl (c_impl_FieldOk hy_59) (by simp only [ML, TL, Nat.reduceEqDiff, Nat.reduceLT, Nat.reduceLeDiff, Nat.reduceAdd, Nat.reduceMul, Nat.reduceSub, Int.reduceToNat, reduceCtorEq]) ?_
                      intro rd b
                      try simp only [↓MD, ↓actH, ↓builtinH, ↓builtinG, ↓builtinFT, MU, MB, MC, TT, Nat.reduceEqDiff, Nat.reduceLT, Nat.reduceLeDiff, Nat.reduceAdd, Nat.reduceMul, Nat.reduceSub, Int.reduceToNat, reduceCtorEq, Try.f54, hb_58, f18]
                      obtain rfl := Option.some.inj hy_57
                      exact cutT_mk y_59 rfl (weak_norm (ks := [0, 2, 3, 5, 112]) (π := [0, 1]) (fuel := 9) (by simp only [ML, Nat.reduceEqDiff, Nat.reduceLT, Nat.reduceLeDiff, Nat.reduceAdd, Nat.reduceMul, Nat.reduceSub, Int.reduceToNat, reduceCtorEq, TL, TT]))
                    · try simp only [↓MD, ↓actH, ↓builtinH, ↓builtinG, ↓builtinFT, MU, MB, MC, TT, Nat.reduceEqDiff, Nat.reduceLT, Nat.reduceLeDiff, Nat.reduceAdd, Nat.reduceMul, Nat.reduceSub, Int.reduceToNat, reduceCtorEq, Try.f54, hb_58]
                      obtain rfl := Option.some.inj hy_57
                      exact cutT_mk false rfl (weak_norm (ks := [0, 2, 3, 5, 112]) (π := [0, 1]) (fuel := 9) (by simp only [ML, Nat.reduceEqDiff, Nat.reduceLT, Nat.reduceLeDiff, Nat.reduceAdd, Nat.reduceMul, Nat.reduceSub, Int.reduceToNat, reduceCtorEq, TL, TT]))
                  · rintro v_55 hp
                    replace hp := hp.symm; subst hp
                    try dsimp only at hy_5
                    try simp only [↓MD, ↓actH, ↓builtinH, ↓builtinG, ↓builtinFT, MU, MB, MC, TT, Nat.reduceEqDiff, Nat.reduceLT, Nat.reduceLeDiff, Nat.reduceAdd, Nat.reduceMul, Nat.reduceSub, Int.reduceToNat, reduceCtorEq, Try.f54]
                    refine stIf hy_5 (fun hb_60 hy_5 => ?_) (fun hb_60 hy_5 => ?_)
                    · obtain ⟨y_61, hy_61, hy_5⟩ := bS hy_5
                      have f19 := (shrI_lit (k := .u32) (a := v_2) (b := 4) (m := 16) (by decide) (by decide))
                      try simp only [↓MD, ↓actH, ↓builtinH, ↓builtinG, ↓builtinFT, MU, MB, MC, TT, Nat.reduceEqDiff, Nat.reduceLT, Nat.reduceLeDiff, Nat.reduceAdd, Nat.reduceMul, Nat.reduceSub, Int.reduceToNat, reduceCtorEq, Try.f54, f19]
                      refine callG [] 9 rfl (by simp only [ML, TT, Nat.reduceEqDiff, Nat.reduceLT, Nat.reduceLeDiff, Nat.reduceAdd, Nat.reduceMul, Nat.reduceSub, Int.reduceToNat, reduceCtorEq, TL]) (by simp only [ML, TT, Nat.reduceEqDiff, Nat.reduceLT, Nat.reduceLeDiff, Nat.reduceAdd, Nat.reduceMul, Nat.reduceSub, Int.reduceToNat, reduceCtorEq, TL]) rfl (c_impl_UnpackOne hy_61) (by simp only [ML, TL, Nat.reduceEqDiff, Nat.reduceLT, Nat.reduceLeDiff, Nat.reduceAdd, Nat.reduceMul, Nat.reduceSub, Int.reduceToNat, reduceCtorEq]) ?_
                      intro rd b
                      obtain ⟨v_62, hv_62, hy_5⟩ := bS hy_5
                      have f20 := (fAt (eI_ok .u32) hv_62 (n := cells_1.length) (by simp))
                      try simp only [↓MD, ↓actH, ↓builtinH, ↓builtinG, ↓builtinFT, MU, MB, MC, TT, Nat.reduceEqDiff, Nat.reduceLT, Nat.reduceLeDiff, Nat.reduceAdd, Nat.reduceMul, Nat.reduceSub, Int.reduceToNat, reduceCtorEq, Try.f54, f19, f20]
                      refine ⟨rfl, ?_⟩
                      try simp only [↓MD, ↓actH, ↓builtinH, ↓builtinG, ↓builtinFT, MU, MB, MC, TT, Nat.reduceEqDiff, Nat.reduceLT, Nat.reduceLeDiff, Nat.reduceAdd, Nat.reduceMul, Nat.reduceSub, Int.reduceToNat, reduceCtorEq, Try.f54, f19, f20]
                      obtain rfl := Option.some.inj hy_5
                      exact cutT_mk (⟨9, y_61, IntKind.wrap .i32 v_62, false, 0⟩ : GItem) rfl (weak_norm (ks := [2, 5]) (π := [0, 1]) (fuel := 9) (by simp only [ML, Nat.reduceEqDiff, Nat.reduceLT, Nat.reduceLeDiff, Nat.reduceAdd, Nat.reduceMul, Nat.reduceSub, Int.reduceToNat, reduceCtorEq, TL, TT]))
                    · try simp only [↓MD, ↓actH, ↓builtinH, ↓builtinG, ↓builtinFT, MU, MB, MC, TT, Nat.reduceEqDiff, Nat.reduceLT, Nat.reduceLeDiff, Nat.reduceAdd, Nat.reduceMul, Nat.reduceSub, Int.reduceToNat, reduceCtorEq, Try.f54]
                      obtain rfl := Option.some.inj hy_5
                      exact cutT_mk (⟨0, [], 0, false, v_2⟩ : GItem) rfl (weak_norm (ks := [2, 5]) (π := [0, 1]) (fuel := 9) (by simp only [ML, Nat.reduceEqDiff, Nat.reduceLT, Nat.reduceLeDiff, Nat.reduceAdd, Nat.reduceMul, Nat.reduceSub, Int.reduceToNat, reduceCtorEq, TL, TT]))
                · try simp only [↓MD, ↓actH, ↓builtinH, ↓builtinG, ↓builtinFT, MU, MB, MC, TT, Nat.reduceEqDiff, Nat.reduceLT, Nat.reduceLeDiff, Nat.reduceAdd, Nat.reduceMul, Nat.reduceSub, Int.reduceToNat, reduceCtorEq, Try.f54]
                  obtain rfl := Option.some.inj hy_5
                  exact cutT_mk (⟨0, [], 0, false, v_2⟩ : GItem) rfl (weak_norm (ks := [2, 5]) (π := [0, 1]) (fuel := 9) (by simp only [ML, Nat.reduceEqDiff, Nat.reduceLT, Nat.reduceLeDiff, Nat.reduceAdd, Nat.reduceMul, Nat.reduceSub, Int.reduceToNat, reduceCtorEq, TL, TT]))
  · rintro it_3 hp
    replace hp := hp.symm; subst hp
    try dsimp only at h
    try simp only [↓MD, ↓actH, ↓builtinH, ↓builtinG, ↓builtinFT, MU, MB, MC, TT, Nat.reduceEqDiff, Nat.reduceLT, Nat.reduceLeDiff, Nat.reduceAdd, Nat.reduceMul, Nat.reduceSub, Int.reduceToNat, reduceCtorEq, Try.f54]
    obtain rfl := Option.some.inj h
    refine endT_of ?_ ⟨rfl, rfl⟩
    exact (weak_norm (ks := [0]) (π := []) (fuel := 9) (by simp only [ML, Nat.reduceEqDiff, Nat.reduceLT, Nat.reduceLeDiff, Nat.reduceAdd, Nat.reduceMul, Nat.reduceSub, Int.reduceToNat, reduceCtorEq, TL, TT]))
theorem c_impl_ParseCells {cells_1 : List Int} {r : (List GItem)} (h : g_impl_ParseCells cells_1 = some r) : Ans Try.prog 38 [.one (.imm 1 cells_1.length (cells_1.flatMap (eI .u32)))] [] fun v h1 => v = .pv (.one (.arr 0 0 r.length)) ∧ h1 = [.live ⟨5, r.length, r.flatMap GItem.cs⟩] := by
  refine ansK (P := fun _ => Try.prog) TryT_eq (fn := Try.f38) Try.func38 rfl ⟨by kernel_rfl, rfl, rfl, by kernel_rfl⟩ (by simp) (Weak.refl _ _) ?_
  rw [g_impl_ParseCells] at h
  try simp only [↓MD, ↓actH, ↓builtinH, ↓builtinG, ↓builtinFT, MU, MB, MC, TT, Nat.reduceEqDiff, Nat.reduceLT, Nat.reduceLeDiff, Nat.reduceAdd, Nat.reduceMul, Nat.reduceSub, Int.reduceToNat, reduceCtorEq, Try.f38]
  refine seqN TryT_eq rfl ?_
  try simp only [↓MD, ↓actH, ↓builtinH, ↓builtinG, ↓builtinFT, MU, MB, MC, TT, Nat.reduceEqDiff, Nat.reduceLT, Nat.reduceLeDiff, Nat.reduceAdd, Nat.reduceMul, Nat.reduceSub, Int.reduceToNat, reduceCtorEq, Try.f38]
  refine stIf h (fun hb_2 h => ?_) (fun hb_2 h => ?_)
  · try simp only [↓MD, ↓actH, ↓builtinH, ↓builtinG, ↓builtinFT, MU, MB, MC, TT, Nat.reduceEqDiff, Nat.reduceLT, Nat.reduceLeDiff, Nat.reduceAdd, Nat.reduceMul, Nat.reduceSub, Int.reduceToNat, reduceCtorEq, Try.f38]
    obtain rfl := Option.some.inj h
    refine endT_of ?_ ⟨rfl, rfl⟩
    exact ((weak_norm (ks := [0]) (π := []) (fuel := 9) (s' := ⟨[(0, .pv (.one (.emp)))], []⟩) (by simp only [ML, Nat.reduceEqDiff, Nat.reduceLT, Nat.reduceLeDiff, Nat.reduceAdd, Nat.reduceMul, Nat.reduceSub, Int.reduceToNat, reduceCtorEq, TL, TT])).trans (weak_le (by simp only [LEb, Nat.reduceEqDiff, Nat.reduceLT, Nat.reduceLeDiff, Nat.reduceAdd, Nat.reduceMul, Nat.reduceSub, Int.reduceToNat, reduceCtorEq, TL]) (by simp only [LEb, Nat.reduceEqDiff, Nat.reduceLT, Nat.reduceLeDiff, Nat.reduceAdd, Nat.reduceMul, Nat.reduceSub, Int.reduceToNat, reduceCtorEq, TL])))
  · have f1 := (show bldN 0 = 0 from rfl)
    have f2 := (show bldC [] = ([] : List GItem).flatMap GItem.cs from rfl)
    try simp only [↓MD, ↓actH, ↓builtinH, ↓builtinG, ↓builtinFT, MU, MB, MC, TT, Nat.reduceEqDiff, Nat.reduceLT, Nat.reduceLeDiff, Nat.reduceAdd, Nat.reduceMul, Nat.reduceSub, Int.reduceToNat, reduceCtorEq, Try.f38, f1, f2]
    obtain ⟨y_6, hy_7, h⟩ := bS h
    refine seqK TryT_eq (fun p : (List GItem) => ⟨[(3, .pv (.one (.arr 0 0 p.length)))], [.live ⟨5, p.length, p.flatMap GItem.cs⟩]⟩) (fun v => y_6 = v) (by rfl) ?_ ?_
    · try simp only [↓MD, ↓actH, ↓builtinH, ↓builtinG, ↓builtinFT, MU, MB, MC, TT, Nat.reduceEqDiff, Nat.reduceLT, Nat.reduceLeDiff, Nat.reduceAdd, Nat.reduceMul, Nat.reduceSub, Int.reduceToNat, reduceCtorEq, Try.f38, f1, f2]
      refine loopK TryT_eq (fun p : (List Int) × (List GItem) => ⟨[(0, .pv (.one (.imm 1 p.1.length (p.1.flatMap (eI .u32))))), (3, .pv (.one (.arr 0 0 p.2.length)))], [.live ⟨5, p.2.length, p.2.flatMap GItem.cs⟩]⟩) (fun k p => g_impl_ParseCells_l0 k p.1 p.2 = some y_6) (by kernel_rfl) bigK (cells_1, ([] : List GItem)) (weak_norm (ks := [0, 3]) (π := [0]) (fuel := 9) (by simp only [ML, Nat.reduceEqDiff, Nat.reduceLT, Nat.reduceLeDiff, Nat.reduceAdd, Nat.reduceMul, Nat.reduceSub, Int.reduceToNat, reduceCtorEq, TL, TT, fWin GItem.ok (n := 0) (xs := ([] : List GItem)) (by simp)])) hy_7 (fun _ h => nomatch (show none = some _ from h)) ?_
      rintro k_8 ⟨cells_3, out_4⟩ hk_9
      rw [g_impl_ParseCells_l0] at hk_9
      try dsimp only at hk_9
      try simp only [↓MD, ↓actH, ↓builtinH, ↓builtinG, ↓builtinFT, MU, MB, MC, TT, Nat.reduceEqDiff, Nat.reduceLT, Nat.reduceLeDiff, Nat.reduceAdd, Nat.reduceMul, Nat.reduceSub, Int.reduceToNat, reduceCtorEq, Try.f38]
      refine seqN TryT_eq rfl ?_
      try simp only [↓MD, ↓actH, ↓builtinH, ↓builtinG, ↓builtinFT, MU, MB, MC, TT, Nat.reduceEqDiff, Nat.reduceLT, Nat.reduceLeDiff, Nat.reduceAdd, Nat.reduceMul, Nat.reduceSub, Int.reduceToNat, reduceCtorEq, Try.f38]
      refine stIf hk_9 (fun hb_10 hk_9 => ?_) (fun hb_10 hk_9 => ?_)
      · obtain ⟨y_11, hy_11, hk_9⟩ := bS hk_9
        try simp only [↓MD, ↓actH, ↓builtinH, ↓builtinG, ↓builtinFT, MU, MB, MC, TT, Nat.reduceEqDiff, Nat.reduceLT, Nat.reduceLeDiff, Nat.reduceAdd, Nat.reduceMul, Nat.reduceSub, Int.reduceToNat, reduceCtorEq, Try.f38]
        refine callG [] 9 rfl (by simp only [ML, TT, Nat.reduceEqDiff, Nat.reduceLT, Nat.reduceLeDiff, Nat.reduceAdd, Nat.reduceMul, Nat.reduceSub, Int.reduceToNat, reduceCtorEq, TL]) (by simp only [ML, TT, Nat.reduceEqDiff, Nat.reduceLT, Nat.reduceLeDiff, Nat.reduceAdd, Nat.reduceMul, Nat.reduceSub, Int.reduceToNat, reduceCtorEq, TL]) rfl (c_impl_parseOne hy_11) (by simp only [ML, TL, Nat.reduceEqDiff, Nat.reduceLT, Nat.reduceLeDiff, Nat.reduceAdd, Nat.reduceMul, Nat.reduceSub, Int.reduceToNat, reduceCtorEq]) ?_
        intro rd b
        obtain ⟨v_12, hv_12, hk_9⟩ := bS hk_9
        obtain ⟨y_13, hy_13, hk_9⟩ := bS hk_9
        have f3 := (show bldN 1 = 1 from rfl)
        have f4 := (show bldC [.int .i64 y_11.Kind, .str y_11.Name, .int .i32 y_11.N, .bool y_11.Hex, .int .u32 y_11.Raw] = [y_11].flatMap GItem.cs from rfl)
        have f5 := (fWin GItem.ok (n := 1) (xs := [y_11]) (by simp))
        have f6 := (fApp hv_12 (n := out_4.length) (by simp) (m := 1) (by simp [bsOf]))
        have f7 := (fWin GItem.ok (n := out_4.length) (xs := out_4) (by simp))
        have f8 := (fCat (e := GItem.cs) (ns := [y_11].flatMap GItem.cs) hv_12 rfl)
        try simp only [↓MD, ↓actH, ↓builtinH, ↓builtinG, ↓builtinFT, MU, MB, MC, TT, Nat.reduceEqDiff, Nat.reduceLT, Nat.reduceLeDiff, Nat.reduceAdd, Nat.reduceMul, Nat.reduceSub, Int.reduceToNat, reduceCtorEq, Try.f38, f3, f4, f5, f6, f7, f8]
        refine callG [] 9 rfl (by simp only [ML, TT, Nat.reduceEqDiff, Nat.reduceLT, Nat.reduceLeDiff, Nat.reduceAdd, Nat.reduceMul, Nat.reduceSub, Int.reduceToNat, reduceCtorEq, TL]) (by simp only [ML, TT, Nat.reduceEqDiff, Nat.reduceLT, Nat.reduceLeDiff, Nat.reduceAdd, Nat.reduceMul, Nat.reduceSub, Int.reduceToNat, reduceCtorEq, TL]) rfl (c_impl_CellsOf hy_13) (by simp only [ML, TL, Nat.reduceEqDiff, Nat.reduceLT, Nat.reduceLeDiff, Nat.reduceAdd, Nat.reduceMul, Nat.reduceSub, Int.reduceToNat, reduceCtorEq]) ?_
        intro rd b
        obtain ⟨v_14, hv_14, hk_9⟩ := bS hk_9
        have f9 := (fSubC (eI_ok .u32) hv_14 (n := cells_3.length) (by simp))
        try simp only [↓MD, ↓actH, ↓builtinH, ↓builtinG, ↓builtinFT, MU, MB, MC, TT, Nat.reduceEqDiff, Nat.reduceLT, Nat.reduceLeDiff, Nat.reduceAdd, Nat.reduceMul, Nat.reduceSub, Int.reduceToNat, reduceCtorEq, Try.f38, f3, f4, f5, f6, f7, f8, f9]
        exact ⟨(v_14, v_12), hk_9, (weak_norm (ks := [0, 3]) (π := [3]) (fuel := 9) (by simp only [ML, Nat.reduceEqDiff, Nat.reduceLT, Nat.reduceLeDiff, Nat.reduceAdd, Nat.reduceMul, Nat.reduceSub, Int.reduceToNat, reduceCtorEq, TL, TT]))⟩
      · try simp only [↓MD, ↓actH, ↓builtinH, ↓builtinG, ↓builtinFT, MU, MB, MC, TT, Nat.reduceEqDiff, Nat.reduceLT, Nat.reduceLeDiff, Nat.reduceAdd, Nat.reduceMul, Nat.reduceSub, Int.reduceToNat, reduceCtorEq, Try.f38]
        obtain rfl := Option.some.inj hk_9
        exact cutT_mk out_4 rfl (weak_norm (ks := [3]) (π := [0]) (fuel := 9) (by simp only [ML, Nat.reduceEqDiff, Nat.reduceLT, Nat.reduceLeDiff, Nat.reduceAdd, Nat.reduceMul, Nat.reduceSub, Int.reduceToNat, reduceCtorEq, TL, TT]))
    · rintro out_5 hp
      replace hp := hp.symm; subst hp
      try dsimp only at h
      try simp only [↓MD, ↓actH, ↓builtinH, ↓builtinG, ↓builtinFT, MU, MB, MC, TT, Nat.reduceEqDiff, Nat.reduceLT, Nat.reduceLeDiff, Nat.reduceAdd, Nat.reduceMul, Nat.reduceSub, Int.reduceToNat, reduceCtorEq, Try.f38]
      obtain ⟨y_16, hy_17, h⟩ := bS h
      refine seqK TryT_eq (fun p : (List GItem) => ⟨[(3, .pv (.one (.arr 0 0 p.length)))], [.live ⟨5, p.length, p.flatMap GItem.cs⟩]⟩) (fun v => y_16 = v) (by rfl) ?_ ?_
      · try simp only [↓MD, ↓actH, ↓builtinH, ↓builtinG, ↓builtinFT, MU, MB, MC, TT, Nat.reduceEqDiff, Nat.reduceLT, Nat.reduceLeDiff, Nat.reduceAdd, Nat.reduceMul, Nat.reduceSub, Int.reduceToNat, reduceCtorEq, Try.f38]
        obtain ⟨y_21, hy_22, hy_17⟩ := bS hy_17
        refine loopK TryT_eq (fun p : (List GItem) × Int => ⟨[(3, .pv (.one (.arr 0 0 p.1.length))), (5, .pv (.one (.int .i64 p.2)))], [.live ⟨5, p.1.length, p.1.flatMap GItem.cs⟩]⟩) (fun k p => g_impl_ParseCells_l1 k p.1 p.2 = some y_21) (by kernel_rfl) bigK (out_5, IntKind.wrap .i64 ((out_5.length : Int) - 1)) (weak_norm (ks := [3, 5]) (π := [0]) (fuel := 9) (by simp only [ML, Nat.reduceEqDiff, Nat.reduceLT, Nat.reduceLeDiff, Nat.reduceAdd, Nat.reduceMul, Nat.reduceSub, Int.reduceToNat, reduceCtorEq, TL, TT])) hy_22 (fun _ h => nomatch (show none = some _ from h)) ?_
        rintro k_23 ⟨out_18, n_19⟩ hk_24
        rw [g_impl_ParseCells_l1] at hk_24
        try dsimp only at hk_24
        try simp only [↓MD, ↓actH, ↓builtinH, ↓builtinG, ↓builtinFT, MU, MB, MC, TT, Nat.reduceEqDiff, Nat.reduceLT, Nat.reduceLeDiff, Nat.reduceAdd, Nat.reduceMul, Nat.reduceSub, Int.reduceToNat, reduceCtorEq, Try.f38]
        refine seqN TryT_eq rfl ?_
        try simp only [↓MD, ↓actH, ↓builtinH, ↓builtinG, ↓builtinFT, MU, MB, MC, TT, Nat.reduceEqDiff, Nat.reduceLT, Nat.reduceLeDiff, Nat.reduceAdd, Nat.reduceMul, Nat.reduceSub, Int.reduceToNat, reduceCtorEq, Try.f38]
        obtain ⟨y_26, hy_27, hk_24⟩ := bS hk_24
        refine seqK TryT_eq (fun p : Bool => ⟨[(3, .pv (.one (.arr 0 0 out_18.length))), (5, .pv (.one (.int .i64 n_19))), (36, .pv (.one (.bool p)))], [.live ⟨5, out_18.length, out_18.flatMap GItem.cs⟩]⟩) (fun v => y_26 = v) (by rfl) ?_ ?_
        · try simp only [↓MD, ↓actH, ↓builtinH, ↓builtinG, ↓builtinFT, MU, MB, MC, TT, Nat.reduceEqDiff, Nat.reduceLT, Nat.reduceLeDiff, Nat.reduceAdd, Nat.reduceMul, Nat.reduceSub, Int.reduceToNat, reduceCtorEq, Try.f38]
          refine stIf hy_27 (fun hb_28 hy_27 => ?_) (fun hb_28 hy_27 => ?_)
          · obtain ⟨v_29, hv_29, hy_27⟩ := bS hy_27
            have f10 := (fPtr hv_29 (k := 5) (n := out_18.length) (by simp))
            have f11 := (fGet0 GItem.ok hv_29 (m := 5) (by decide) (by decide))
            try simp only [↓MD, ↓actH, ↓builtinH, ↓builtinG, ↓builtinFT, MU, MB, MC, TT, Nat.reduceEqDiff, Nat.reduceLT, Nat.reduceLeDiff, Nat.reduceAdd, Nat.reduceMul, Nat.reduceSub, Int.reduceToNat, reduceCtorEq, Try.f38, hb_28, f10, f11]
            obtain rfl := Option.some.inj hy_27
            exact cutT_mk ((v_29.Kind : Int) == 0 && ((v_29.Name : Bs) == [] && ((v_29.N : Int) == 0 && ((v_29.Hex : Bool) == false && ((v_29.Raw : Int) == 0 && true))))) rfl (weak_norm (ks := [3, 5, 36]) (π := [0]) (fuel := 9) (by simp only [ML, Nat.reduceEqDiff, Nat.reduceLT, Nat.reduceLeDiff, Nat.reduceAdd, Nat.reduceMul, Nat.reduceSub, Int.reduceToNat, reduceCtorEq, TL, TT]))
          · try simp only [↓MD, ↓actH, ↓builtinH, ↓builtinG, ↓builtinFT, MU, MB, MC, TT, Nat.reduceEqDiff, Nat.reduceLT, Nat.reduceLeDiff, Nat.reduceAdd, Nat.reduceMul, Nat.reduceSub, Int.reduceToNat, reduceCtorEq, Try.f38, hb_28]
            obtain rfl := Option.some.inj hy_27
            exact cutT_mk false rfl (weak_norm (ks := [3, 5, 36]) (π := [0]) (fuel := 9) (by simp only [ML, Nat.reduceEqDiff, Nat.reduceLT, Nat.reduceLeDiff, Nat.reduceAdd, Nat.reduceMul, Nat.reduceSub, Int.reduceToNat, reduceCtorEq, TL, TT]))
        · rintro v_25 hp
          replace hp := hp.symm; subst hp
          try dsimp only at hk_24
          try simp only [↓MD, ↓actH, ↓builtinH, ↓builtinG, ↓builtinFT, MU, MB, MC, TT, Nat.reduceEqDiff, Nat.reduceLT, Nat.reduceLeDiff, Nat.reduceAdd, Nat.reduceMul, Nat.reduceSub, Int.reduceToNat, reduceCtorEq, Try.f38]
          refine stIf hk_24 (fun hb_30 hk_24 => ?_) (fun hb_30 hk_24 => ?_)
          · try simp only [↓MD, ↓actH, ↓builtinH, ↓builtinG, ↓builtinFT, MU, MB, MC, TT, Nat.reduceEqDiff, Nat.reduceLT, Nat.reduceLeDiff, Nat.reduceAdd, Nat.reduceMul, Nat.reduceSub, Int.reduceToNat, reduceCtorEq, Try.f38]
            refine seqN TryT_eq rfl ?_
            obtain ⟨v_31, hv_31, hk_24⟩ := bS hk_24
            have f12 := (fSubN hv_31 (n := out_18.length) (by simp))
            try simp only [↓MD, ↓actH, ↓builtinH, ↓builtinG, ↓builtinFT, MU, MB, MC, TT, Nat.reduceEqDiff, Nat.reduceLT, Nat.reduceLeDiff, Nat.reduceAdd, Nat.reduceMul, Nat.reduceSub, Int.reduceToNat, reduceCtorEq, Try.f38, f12]
            exact ⟨(v_31, IntKind.wrap .i64 (n_19 - 1)), hk_24, ((weak_trim 0 0 v_31.length (b := ⟨_, _, _⟩) rfl (fLeW hv_31 (by simp) (by simp)) (by decide)).trans (weak_norm (ks := [3, 5]) (π := [0]) (fuel := 9) (by simp only [trS, trE, trH, trHS, trSV, trP, trC, ML, MB, and_self, Nat.reduceEqDiff, Nat.reduceLT, Nat.reduceLeDiff, Nat.reduceAdd, Nat.reduceMul, Nat.reduceSub, Int.reduceToNat, reduceCtorEq, TL, TT, fTrim0 GItem.ok hv_31 (lo := 0) (by simp)])))⟩
          · obtain rfl := Option.some.inj hk_24
            try dsimp only at hy_17
            try simp only [↓MD, ↓actH, ↓builtinH, ↓builtinG, ↓builtinFT, MU, MB, MC, TT, Nat.reduceEqDiff, Nat.reduceLT, Nat.reduceLeDiff, Nat.reduceAdd, Nat.reduceMul, Nat.reduceSub, Int.reduceToNat, reduceCtorEq, Try.f38]
            obtain rfl := Option.some.inj hy_17
            exact cutT_mk out_18 rfl (weak_norm (ks := [3]) (π := [0]) (fuel := 9) (by simp only [ML, Nat.reduceEqDiff, Nat.reduceLT, Nat.reduceLeDiff, Nat.reduceAdd, Nat.reduceMul, Nat.reduceSub, Int.reduceToNat, reduceCtorEq, TL, TT]))
      · rintro out_15 hp
        replace hp := hp.symm; subst hp
        try dsimp only at h
        try simp only [↓MD, ↓actH, ↓builtinH, ↓builtinG, ↓builtinFT, MU, MB, MC, TT, Nat.reduceEqDiff, Nat.reduceLT, Nat.reduceLeDiff, Nat.reduceAdd, Nat.reduceMul, Nat.reduceSub, Int.reduceToNat, reduceCtorEq, Try.f38]
        obtain rfl := Option.some.inj h
        refine endT_of ?_ ⟨rfl, rfl⟩
        exact (weak_norm (ks := [0]) (π := [0]) (fuel := 9) (by simp only [ML, Nat.reduceEqDiff, Nat.reduceLT, Nat.reduceLeDiff, Nat.reduceAdd, Nat.reduceMul, Nat.reduceSub, Int.reduceToNat, reduceCtorEq, TL, TT]))
theorem c_impl_OpenEd {cells_1 : List Int} {r : GEd} (h : g_impl_OpenEd cells_1 = some r) : Ans Try.prog 17 [.one (.imm 1 cells_1.length (cells_1.flatMap (eI .u32)))] [] fun v h1 => v = .pv (.agg [.arr 0 0 r.Left.length, .arr 1 0 r.Right.length, .arr 2 0 r.Cut.length]) ∧ h1 = [.live ⟨5, r.Left.length, r.Left.flatMap GItem.cs⟩, .live ⟨5, r.Right.length, r.Right.flatMap GItem.cs⟩, .live ⟨5, r.Cut.length, r.Cut.flatMap GItem.cs⟩] := by
  refine ansK (P := fun _ => Try.prog) TryT_eq (fn := Try.f17) Try.func17 rfl ⟨by kernel_rfl, rfl, rfl, by kernel_rfl⟩ (by simp) (Weak.refl _ _) ?_
  rw [g_impl_OpenEd] at h
  obtain ⟨y_2, hy_2, h⟩ := bS h
  try simp only [↓MD, ↓actH, ↓builtinH, ↓builtinG, ↓builtinFT, MU, MB, MC, TT, Nat.reduceEqDiff, Nat.reduceLT, Nat.reduceLeDiff, Nat.reduceAdd, Nat.reduceMul, Nat.reduceSub, Int.reduceToNat, reduceCtorEq, Try.f17]
  refine callG [] 9 rfl (by simp only [ML, TT, Nat.reduceEqDiff, Nat.reduceLT, Nat.reduceLeDiff, Nat.reduceAdd, Nat.reduceMul, Nat.reduceSub, Int.reduceToNat, reduceCtorEq, TL]) (by simp only [ML, TT, Nat.reduceEqDiff, Nat.reduceLT, Nat.reduceLeDiff, Nat.reduceAdd, Nat.reduceMul, Nat.reduceSub, Int.reduceToNat, reduceCtorEq, TL]) rfl (c_impl_ParseCells hy_2) (by simp only [ML, TL, Nat.reduceEqDiff, Nat.reduceLT, Nat.reduceLeDiff, Nat.reduceAdd, Nat.reduceMul, Nat.reduceSub, Int.reduceToNat, reduceCtorEq]) ?_
  intro rd b
  try simp only [↓MD, ↓actH, ↓builtinH, ↓builtinG, ↓builtinFT, MU, MB, MC, TT, Nat.reduceEqDiff, Nat.reduceLT, Nat.reduceLeDiff, Nat.reduceAdd, Nat.reduceMul, Nat.reduceSub, Int.reduceToNat, reduceCtorEq, Try.f17]
  obtain rfl := Option.some.inj h
  refine endT_of ?_ ⟨rfl, rfl⟩
  exact ((weak_norm (ks := [0]) (π := [1]) (fuel := 9) (s' := ⟨[(0, .pv (.agg [.emp, .arr 0 0 (((⟨[], y_2, []⟩ : GEd).Right).length), .emp]))], [.live ⟨5, ((⟨[], y_2, []⟩ : GEd).Right).length, ((⟨[], y_2, []⟩ : GEd).Right).flatMap GItem.cs⟩]⟩) (by simp only [ML, Nat.reduceEqDiff, Nat.reduceLT, Nat.reduceLeDiff, Nat.reduceAdd, Nat.reduceMul, Nat.reduceSub, Int.reduceToNat, reduceCtorEq, TL, TT])).trans ((weak_le (s' := ⟨[(0, .pv (.agg [.arr 1 0 (((⟨[], y_2, []⟩ : GEd).Left).length), .arr 0 0 (((⟨[], y_2, []⟩ : GEd).Right).length), .arr 2 0 (((⟨[], y_2, []⟩ : GEd).Cut).length)]))], [.live ⟨5, ((⟨[], y_2, []⟩ : GEd).Right).length, ((⟨[], y_2, []⟩ : GEd).Right).flatMap GItem.cs⟩, .live ⟨5, ((⟨[], y_2, []⟩ : GEd).Left).length, ((⟨[], y_2, []⟩ : GEd).Left).flatMap GItem.cs⟩, .live ⟨5, ((⟨[], y_2, []⟩ : GEd).Cut).length, ((⟨[], y_2, []⟩ : GEd).Cut).flatMap GItem.cs⟩]⟩) (by simp only [LEb, Nat.reduceEqDiff, Nat.reduceLT, Nat.reduceLeDiff, Nat.reduceAdd, Nat.reduceMul, Nat.reduceSub, Int.reduceToNat, reduceCtorEq, TL]) (by simp only [LEb, Nat.reduceEqDiff, Nat.reduceLT, Nat.reduceLeDiff, Nat.reduceAdd, Nat.reduceMul, Nat.reduceSub, Int.reduceToNat, reduceCtorEq, TL])).trans (weak_norm (ks := [0]) (π := [1, 0, 2]) (fuel := 9) (by simp only [ML, Nat.reduceEqDiff, Nat.reduceLT, Nat.reduceLeDiff, Nat.reduceAdd, Nat.reduceMul, Nat.reduceSub, Int.reduceToNat, reduceCtorEq, TL, TT]))))
theorem c_laws_sameItems {a_1 : List GItem} {b_2 : List GItem} {r : Bool} (h : g_laws_sameItems a_1 b_2 = some r) : Ans Try.prog 39 [.one (.imm 5 a_1.length (a_1.flatMap GItem.cs)), .one (.imm 5 b_2.length (b_2.flatMap GItem.cs))] [] fun v h1 => v = .pv (.one (.bool r)) ∧ h1 = [] := by
  refine ansK (P := fun _ => Try.prog) TryT_eq (fn := Try.f39) Try.func39 rfl ⟨by kernel_rfl, rfl, rfl, by kernel_rfl⟩ (by simp) (Weak.refl _ _) ?_
  rw [g_laws_sameItems] at h
  try simp only [↓MD, ↓actH, ↓builtinH, ↓builtinG, ↓builtinFT, MU, MB, MC, TT, Nat.reduceEqDiff, Nat.reduceLT, Nat.reduceLeDiff, Nat.reduceAdd, Nat.reduceMul, Nat.reduceSub, Int.reduceToNat, reduceCtorEq, Try.f39]
  refine seqN TryT_eq rfl ?_
  try simp only [↓MD, ↓actH, ↓builtinH, ↓builtinG, ↓builtinFT, MU, MB, MC, TT, Nat.reduceEqDiff, Nat.reduceLT, Nat.reduceLeDiff, Nat.reduceAdd, Nat.reduceMul, Nat.reduceSub, Int.reduceToNat, reduceCtorEq, Try.f39]
  refine stIf h (fun hb_3 h => ?_) (fun hb_3 h => ?_)
  · try simp only [↓MD, ↓actH, ↓builtinH, ↓builtinG, ↓builtinFT, MU, MB, MC, TT, Nat.reduceEqDiff, Nat.reduceLT, Nat.reduceLeDiff, Nat.reduceAdd, Nat.reduceMul, Nat.reduceSub, Int.reduceToNat, reduceCtorEq, Try.f39]
    obtain rfl := Option.some.inj h
    refine endT_of ?_ ⟨rfl, rfl⟩
    exact (weak_norm (ks := [0]) (π := []) (fuel := 9) (by simp only [ML, Nat.reduceEqDiff, Nat.reduceLT, Nat.reduceLeDiff, Nat.reduceAdd, Nat.reduceMul, Nat.reduceSub, Int.reduceToNat, reduceCtorEq, TL, TT]))
  · try simp only [↓MD, ↓actH, ↓builtinH, ↓builtinG, ↓builtinFT, MU, MB, MC, TT, Nat.reduceEqDiff, Nat.reduceLT, Nat.reduceLeDiff, Nat.reduceAdd, Nat.reduceMul, Nat.reduceSub, Int.reduceToNat, reduceCtorEq, Try.f39]
    obtain ⟨y_4, hy_5, h⟩ := bS h
    refine seqK TryT_eq (fun p : Unit => ⟨[], []⟩) (fun v => y_4 = .inl v) (by rfl) ?_ ?_
    · try simp only [↓MD, ↓actH, ↓builtinH, ↓builtinG, ↓builtinFT, MU, MB, MC, TT, Nat.reduceEqDiff, Nat.reduceLT, Nat.reduceLeDiff, Nat.reduceAdd, Nat.reduceMul, Nat.reduceSub, Int.reduceToNat, reduceCtorEq, Try.f39]
      obtain ⟨y_7, hy_8, hy_5⟩ := bS hy_5
      refine loopK TryT_eq (fun p : Int => ⟨[(0, .pv (.one (.imm 5 a_1.length (a_1.flatMap GItem.cs)))), (1, .pv (.one (.imm 5 b_2.length (b_2.flatMap GItem.cs)))), (5, .pv (.one (.int .i64 p)))], []⟩) (fun k p => g_laws_sameItems_l0 a_1 b_2 k p = some y_7) (by kernel_rfl) bigK 0 (weak_norm (ks := [0, 1, 5]) (π := []) (fuel := 9) (by simp only [ML, Nat.reduceEqDiff, Nat.reduceLT, Nat.reduceLeDiff, Nat.reduceAdd, Nat.reduceMul, Nat.reduceSub, Int.reduceToNat, reduceCtorEq, TL, TT])) hy_8 (fun _ h => nomatch (show none = some _ from h)) ?_
      rintro k_9 i_6 hk_10
      rw [g_laws_sameItems_l0] at hk_10
      try dsimp only at hk_10
      try simp only [↓MD, ↓actH, ↓builtinH, ↓builtinG, ↓builtinFT, MU, MB, MC, TT, Nat.reduceEqDiff, Nat.reduceLT, Nat.reduceLeDiff, Nat.reduceAdd, Nat.reduceMul, Nat.reduceSub, Int.reduceToNat, reduceCtorEq, Try.f39]
      refine seqN TryT_eq rfl ?_
      try simp only [↓MD, ↓actH, ↓builtinH, ↓builtinG, ↓builtinFT, MU, MB, MC, TT, Nat.reduceEqDiff, Nat.reduceLT, Nat.reduceLeDiff, Nat.reduceAdd, Nat.reduceMul, Nat.reduceSub, Int.reduceToNat, reduceCtorEq, Try.f39]
      refine stIf hk_10 (fun hb_11 hk_10 => ?_) (fun hb_11 hk_10 => ?_)
      · try simp only [↓MD, ↓actH, ↓builtinH, ↓builtinG, ↓builtinFT, MU, MB, MC, TT, Nat.reduceEqDiff, Nat.reduceLT, Nat.reduceLeDiff, Nat.reduceAdd, Nat.reduceMul, Nat.reduceSub, Int.reduceToNat, reduceCtorEq, Try.f39]
        refine seqN TryT_eq rfl ?_
        obtain ⟨v_12, hv_12, hk_10⟩ := bS hk_10
        obtain ⟨v_13, hv_13, hk_10⟩ := bS hk_10
        have f1 := (fAt GItem.ok hv_12 (n := a_1.length) (by simp))
        have f2 := (fAt GItem.ok hv_13 (n := b_2.length) (by simp))
        try simp only [↓MD, ↓actH, ↓builtinH, ↓builtinG, ↓builtinFT, MU, MB, MC, TT, Nat.reduceEqDiff, Nat.reduceLT, Nat.reduceLeDiff, Nat.reduceAdd, Nat.reduceMul, Nat.reduceSub, Int.reduceToNat, reduceCtorEq, Try.f39, f1, f2]
        refine ⟨rfl, ?_⟩
        try simp only [↓MD, ↓actH, ↓builtinH, ↓builtinG, ↓builtinFT, MU, MB, MC, TT, Nat.reduceEqDiff, Nat.reduceLT, Nat.reduceLeDiff, Nat.reduceAdd, Nat.reduceMul, Nat.reduceSub, Int.reduceToNat, reduceCtorEq, Try.f39, f1, f2]
        refine stIf hk_10 (fun hb_14 hk_10 => ?_) (fun hb_14 hk_10 => ?_)
        · obtain rfl := Option.some.inj hk_10
          try dsimp only at hy_5
          obtain rfl := Option.some.inj hy_5
          try dsimp only at h
          try simp only [↓MD, ↓actH, ↓builtinH, ↓builtinG, ↓builtinFT, MU, MB, MC, TT, Nat.reduceEqDiff, Nat.reduceLT, Nat.reduceLeDiff, Nat.reduceAdd, Nat.reduceMul, Nat.reduceSub, Int.reduceToNat, reduceCtorEq, Try.f39, f1, f2]
          obtain rfl := Option.some.inj h
          refine endT_of ?_ ⟨rfl, rfl⟩
          exact (weak_norm (ks := [0]) (π := []) (fuel := 9) (by simp only [ML, Nat.reduceEqDiff, Nat.reduceLT, Nat.reduceLeDiff, Nat.reduceAdd, Nat.reduceMul, Nat.reduceSub, Int.reduceToNat, reduceCtorEq, TL, TT]))
        · try simp only [↓MD, ↓actH, ↓builtinH, ↓builtinG, ↓builtinFT, MU, MB, MC, TT, Nat.reduceEqDiff, Nat.reduceLT, Nat.reduceLeDiff, Nat.reduceAdd, Nat.reduceMul, Nat.reduceSub, Int.reduceToNat, reduceCtorEq, Try.f39, f1, f2]
          exact ⟨IntKind.wrap .i64 (i_6 + 1), hk_10, (weak_norm (ks := [0, 1, 5]) (π := []) (fuel := 9) (by simp only [ML, Nat.reduceEqDiff, Nat.reduceLT, Nat.reduceLeDiff, Nat.reduceAdd, Nat.reduceMul, Nat.reduceSub, Int.reduceToNat, reduceCtorEq, TL, TT]))⟩
      · obtain rfl := Option.some.inj hk_10
        try dsimp only at hy_5
        try simp only [↓MD, ↓actH, ↓builtinH, ↓builtinG, ↓builtinFT, MU, MB, MC, TT, Nat.reduceEqDiff, Nat.reduceLT, Nat.reduceLeDiff, Nat.reduceAdd, Nat.reduceMul, Nat.reduceSub, Int.reduceToNat, reduceCtorEq, Try.f39]
        obtain rfl := Option.some.inj hy_5
        exact cutT_mk () (by trivial) (weak_norm (ks := []) (π := []) (fuel := 9) (by simp only [ML, Nat.reduceEqDiff, Nat.reduceLT, Nat.reduceLeDiff, Nat.reduceAdd, Nat.reduceMul, Nat.reduceSub, Int.reduceToNat, reduceCtorEq, TL, TT]))
    · rintro _ hp
      replace hp := hp.symm; subst hp
      try dsimp only at h
      try simp only [↓MD, ↓actH, ↓builtinH, ↓builtinG, ↓builtinFT, MU, MB, MC, TT, Nat.reduceEqDiff, Nat.reduceLT, Nat.reduceLeDiff, Nat.reduceAdd, Nat.reduceMul, Nat.reduceSub, Int.reduceToNat, reduceCtorEq, Try.f39]
      obtain rfl := Option.some.inj h
      refine endT_of ?_ ⟨rfl, rfl⟩
      exact (weak_norm (ks := [0]) (π := []) (fuel := 9) (by simp only [ML, Nat.reduceEqDiff, Nat.reduceLT, Nat.reduceLeDiff, Nat.reduceAdd, Nat.reduceMul, Nat.reduceSub, Int.reduceToNat, reduceCtorEq, TL, TT]))
theorem c_laws_sameEd {a_1 : GEd} {b_2 : GEd} {r : Bool} (h : g_laws_sameEd a_1 b_2 = some r) : Ans Try.prog 18 [.agg [.imm 5 a_1.Left.length (a_1.Left.flatMap GItem.cs), .imm 5 a_1.Right.length (a_1.Right.flatMap GItem.cs), .imm 5 a_1.Cut.length (a_1.Cut.flatMap GItem.cs)], .agg [.imm 5 b_2.Left.length (b_2.Left.flatMap GItem.cs), .imm 5 b_2.Right.length (b_2.Right.flatMap GItem.cs), .imm 5 b_2.Cut.length (b_2.Cut.flatMap GItem.cs)]] [] fun v h1 => v = .pv (.one (.bool r)) ∧ h1 = [] := by
  refine ansK (P := fun _ => Try.prog) TryT_eq (fn := Try.f18) Try.func18 rfl ⟨by kernel_rfl, rfl, rfl, by kernel_rfl⟩ (by simp) (Weak.refl _ _) ?_
  rw [g_laws_sameEd] at h
  try simp only [↓MD, ↓actH, ↓builtinH, ↓builtinG, ↓builtinFT, MU, MB, MC, TT, Nat.reduceEqDiff, Nat.reduceLT, Nat.reduceLeDiff, Nat.reduceAdd, Nat.reduceMul, Nat.reduceSub, Int.reduceToNat, reduceCtorEq, Try.f18]
  refine seqN TryT_eq rfl ?_
  obtain ⟨y_3, hy_3, h⟩ := bS h
  try simp only [↓MD, ↓actH, ↓builtinH, ↓builtinG, ↓builtinFT, MU, MB, MC, TT, Nat.reduceEqDiff, Nat.reduceLT, Nat.reduceLeDiff, Nat.reduceAdd, Nat.reduceMul, Nat.reduceSub, Int.reduceToNat, reduceCtorEq, Try.f18]
  refine callG [] 9 rfl (by simp only [ML, TT, Nat.reduceEqDiff, Nat.reduceLT, Nat.reduceLeDiff, Nat.reduceAdd, Nat.reduceMul, Nat.reduceSub, Int.reduceToNat, reduceCtorEq, TL]) (by simp only [ML, TT, Nat.reduceEqDiff, Nat.reduceLT, Nat.reduceLeDiff, Nat.reduceAdd, Nat.reduceMul, Nat.reduceSub, Int.reduceToNat, reduceCtorEq, TL]) rfl (c_laws_sameItems hy_3) (by simp only [ML, TL, Nat.reduceEqDiff, Nat.reduceLT, Nat.reduceLeDiff, Nat.reduceAdd, Nat.reduceMul, Nat.reduceSub, Int.reduceToNat, reduceCtorEq]) ?_
  intro rd b
  try simp only [↓MD, ↓actH, ↓builtinH, ↓builtinG, ↓builtinFT, MU, MB, MC, TT, Nat.reduceEqDiff, Nat.reduceLT, Nat.reduceLeDiff, Nat.reduceAdd, Nat.reduceMul, Nat.reduceSub, Int.reduceToNat, reduceCtorEq, Try.f18]
  refine stIf h (fun hb_4 h => ?_) (fun hb_4 h => ?_)
  · obtain ⟨y_5, hy_5, h⟩ := bS h
    try simp only [↓MD, ↓actH, ↓builtinH, ↓builtinG, ↓builtinFT, MU, MB, MC, TT, Nat.reduceEqDiff, Nat.reduceLT, Nat.reduceLeDiff, Nat.reduceAdd, Nat.reduceMul, Nat.reduceSub, Int.reduceToNat, reduceCtorEq, Try.f18, hb_4]
    refine callG [] 9 rfl (by simp only [ML, TT, Nat.reduceEqDiff, Nat.reduceLT, Nat.reduceLeDiff, Nat.reduceAdd, Nat.reduceMul, Nat.reduceSub, Int.reduceToNat, reduceCtorEq, TL]) (by simp only [ML, TT, Nat.reduceEqDiff, Nat.reduceLT, Nat.reduceLeDiff, Nat.reduceAdd, Nat.reduceMul, Nat.reduceSub, Int.reduceToNat, reduceCtorEq, TL]) rfl (c_laws_sameItems hy_5) (by simp only [ML, TL, Nat.reduceEqDiff, Nat.reduceLT, Nat.reduceLeDiff, Nat.reduceAdd, Nat.reduceMul, Nat.reduceSub, Int.reduceToNat, reduceCtorEq]) ?_
    intro rd b
    try simp only [↓MD, ↓actH, ↓builtinH, ↓builtinG, ↓builtinFT, MU, MB, MC, TT, Nat.reduceEqDiff, Nat.reduceLT, Nat.reduceLeDiff, Nat.reduceAdd, Nat.reduceMul, Nat.reduceSub, Int.reduceToNat, reduceCtorEq, Try.f18, hb_4]
    refine stIf h (fun hb_6 h => ?_) (fun hb_6 h => ?_)
    · obtain ⟨y_7, hy_7, h⟩ := bS h
      try simp only [↓MD, ↓actH, ↓builtinH, ↓builtinG, ↓builtinFT, MU, MB, MC, TT, Nat.reduceEqDiff, Nat.reduceLT, Nat.reduceLeDiff, Nat.reduceAdd, Nat.reduceMul, Nat.reduceSub, Int.reduceToNat, reduceCtorEq, Try.f18, hb_4, hb_6]
      refine callG [] 9 rfl (by simp only [ML, TT, Nat.reduceEqDiff, Nat.reduceLT, Nat.reduceLeDiff, Nat.reduceAdd, Nat.reduceMul, Nat.reduceSub, Int.reduceToNat, reduceCtorEq, TL]) (by simp only [ML, TT, Nat.reduceEqDiff, Nat.reduceLT, Nat.reduceLeDiff, Nat.reduceAdd, Nat.reduceMul, Nat.reduceSub, Int.reduceToNat, reduceCtorEq, TL]) rfl (c_laws_sameItems hy_7) (by simp only [ML, TL, Nat.reduceEqDiff, Nat.reduceLT, Nat.reduceLeDiff, Nat.reduceAdd, Nat.reduceMul, Nat.reduceSub, Int.reduceToNat, reduceCtorEq]) ?_
      intro rd b
      try simp only [↓MD, ↓actH, ↓builtinH, ↓builtinG, ↓builtinFT, MU, MB, MC, TT, Nat.reduceEqDiff, Nat.reduceLT, Nat.reduceLeDiff, Nat.reduceAdd, Nat.reduceMul, Nat.reduceSub, Int.reduceToNat, reduceCtorEq, Try.f18, hb_4, hb_6]
      obtain rfl := Option.some.inj h
      refine endT_of ?_ ⟨rfl, rfl⟩
      exact (weak_norm (ks := [0]) (π := []) (fuel := 9) (by simp only [ML, Nat.reduceEqDiff, Nat.reduceLT, Nat.reduceLeDiff, Nat.reduceAdd, Nat.reduceMul, Nat.reduceSub, Int.reduceToNat, reduceCtorEq, TL, TT]))
    · try simp only [↓MD, ↓actH, ↓builtinH, ↓builtinG, ↓builtinFT, MU, MB, MC, TT, Nat.reduceEqDiff, Nat.reduceLT, Nat.reduceLeDiff, Nat.reduceAdd, Nat.reduceMul, Nat.reduceSub, Int.reduceToNat, reduceCtorEq, Try.f18, hb_4, hb_6]
      obtain rfl := Option.some.inj h
      refine endT_of ?_ ⟨rfl, rfl⟩
      exact (weak_norm (ks := [0]) (π := []) (fuel := 9) (by simp only [ML, Nat.reduceEqDiff, Nat.reduceLT, Nat.reduceLeDiff, Nat.reduceAdd, Nat.reduceMul, Nat.reduceSub, Int.reduceToNat, reduceCtorEq, TL, TT]))
  · try simp only [↓MD, ↓actH, ↓builtinH, ↓builtinG, ↓builtinFT, MU, MB, MC, TT, Nat.reduceEqDiff, Nat.reduceLT, Nat.reduceLeDiff, Nat.reduceAdd, Nat.reduceMul, Nat.reduceSub, Int.reduceToNat, reduceCtorEq, Try.f18, hb_4]
    obtain rfl := Option.some.inj h
    refine endT_of ?_ ⟨rfl, rfl⟩
    exact (weak_norm (ks := [0]) (π := []) (fuel := 9) (by simp only [ML, Nat.reduceEqDiff, Nat.reduceLT, Nat.reduceLeDiff, Nat.reduceAdd, Nat.reduceMul, Nat.reduceSub, Int.reduceToNat, reduceCtorEq, TL, TT]))
theorem c_impl_ItemOk {it_1 : GItem} {r : Bool} (h : g_impl_ItemOk it_1 = some r) : Ans Try.prog 42 [.agg [.int .i64 it_1.Kind, .str it_1.Name, .int .i32 it_1.N, .bool it_1.Hex, .int .u32 it_1.Raw]] [] fun v h1 => v = .pv (.one (.bool r)) ∧ h1 = [] := by
  refine ansK (P := fun _ => Try.prog) TryT_eq (fn := Try.f42) Try.func42 rfl ⟨by kernel_rfl, rfl, rfl, by kernel_rfl⟩ (by simp) (Weak.refl _ _) ?_
  rw [g_impl_ItemOk] at h
  obtain ⟨y_2, hy_2, h⟩ := bS h
  try simp only [↓MD, ↓actH, ↓builtinH, ↓builtinG, ↓builtinFT, MU, MB, MC, TT, Nat.reduceEqDiff, Nat.reduceLT, Nat.reduceLeDiff, Nat.reduceAdd, Nat.reduceMul, Nat.reduceSub, Int.reduceToNat, reduceCtorEq, Try.f42]
  refine callG [] 9 rfl (by simp only [ML, TT, Nat.reduceEqDiff, Nat.reduceLT, Nat.reduceLeDiff, Nat.reduceAdd, Nat.reduceMul, Nat.reduceSub, Int.reduceToNat, reduceCtorEq, TL]) (by simp only [ML, TT, Nat.reduceEqDiff, Nat.reduceLT, Nat.reduceLeDiff, Nat.reduceAdd, Nat.reduceMul, Nat.reduceSub, Int.reduceToNat, reduceCtorEq, TL]) rfl (c_impl_CellsOf hy_2) (by simp only [ML, TL, Nat.reduceEqDiff, Nat.reduceLT, Nat.reduceLeDiff, Nat.reduceAdd, Nat.reduceMul, Nat.reduceSub, Int.reduceToNat, reduceCtorEq]) ?_
  intro rd b
  try simp only [↓MD, ↓actH, ↓builtinH, ↓builtinG, ↓builtinFT, MU, MB, MC, TT, Nat.reduceEqDiff, Nat.reduceLT, Nat.reduceLeDiff, Nat.reduceAdd, Nat.reduceMul, Nat.reduceSub, Int.reduceToNat, reduceCtorEq, Try.f42]
  obtain rfl := Option.some.inj h
  refine endT_of ?_ ⟨rfl, rfl⟩
  exact (weak_norm (ks := [0]) (π := []) (fuel := 9) (by simp only [ML, Nat.reduceEqDiff, Nat.reduceLT, Nat.reduceLeDiff, Nat.reduceAdd, Nat.reduceMul, Nat.reduceSub, Int.reduceToNat, reduceCtorEq, TL, TT]))
theorem c_impl_EdOkc1 {it_1 : GItem} {r : Bool} (h : g_impl_EdOkc1 it_1 = some r) : Ans Try.prog 41 [.agg [.int .i64 it_1.Kind, .str it_1.Name, .int .i32 it_1.N, .bool it_1.Hex, .int .u32 it_1.Raw]] [] fun v h1 => v = .pv (.one (.bool r)) ∧ h1 = [] := by
  refine ansK (P := fun _ => Try.prog) TryT_eq (fn := Try.f41) Try.func41 rfl ⟨by kernel_rfl, rfl, rfl, by kernel_rfl⟩ (by simp) (Weak.refl _ _) ?_
  rw [g_impl_EdOkc1] at h
  obtain ⟨y_2, hy_2, h⟩ := bS h
  try simp only [↓MD, ↓actH, ↓builtinH, ↓builtinG, ↓builtinFT, MU, MB, MC, TT, Nat.reduceEqDiff, Nat.reduceLT, Nat.reduceLeDiff, Nat.reduceAdd, Nat.reduceMul, Nat.reduceSub, Int.reduceToNat, reduceCtorEq, Try.f41]
  refine callG [] 9 rfl (by simp only [ML, TT, Nat.reduceEqDiff, Nat.reduceLT, Nat.reduceLeDiff, Nat.reduceAdd, Nat.reduceMul, Nat.reduceSub, Int.reduceToNat, reduceCtorEq, TL]) (by simp only [ML, TT, Nat.reduceEqDiff, Nat.reduceLT, Nat.reduceLeDiff, Nat.reduceAdd, Nat.reduceMul, Nat.reduceSub, Int.reduceToNat, reduceCtorEq, TL]) rfl (c_impl_ItemOk hy_2) (by simp only [ML, TL, Nat.reduceEqDiff, Nat.reduceLT, Nat.reduceLeDiff, Nat.reduceAdd, Nat.reduceMul, Nat.reduceSub, Int.reduceToNat, reduceCtorEq]) ?_
  intro rd b
  try simp only [↓MD, ↓actH, ↓builtinH, ↓builtinG, ↓builtinFT, MU, MB, MC, TT, Nat.reduceEqDiff, Nat.reduceLT, Nat.reduceLeDiff, Nat.reduceAdd, Nat.reduceMul, Nat.reduceSub, Int.reduceToNat, reduceCtorEq, Try.f41]
  obtain rfl := Option.some.inj h
  refine endT_of ?_ ⟨rfl, rfl⟩
  exact (weak_norm (ks := [0]) (π := []) (fuel := 9) (by simp only [ML, Nat.reduceEqDiff, Nat.reduceLT, Nat.reduceLeDiff, Nat.reduceAdd, Nat.reduceMul, Nat.reduceSub, Int.reduceToNat, reduceCtorEq, TL, TT]))
theorem c_slices_IndexFunc_Item_impl_EdOkc1 {s_1 : List GItem} {r : Int} (h : g_slices_IndexFunc_Item_impl_EdOkc1 s_1 = some r) : Ans Try.prog 56 [.one (.imm 5 s_1.length (s_1.flatMap GItem.cs)), .one (.fn 41 [])] [] fun v h1 => v = .pv (.one (.int .i64 r)) ∧ h1 = [] := by
  refine ansK (P := fun _ => Try.prog) TryT_eq (fn := Try.f56) Try.func56 rfl ⟨by kernel_rfl, rfl, rfl, by kernel_rfl⟩ (by simp) (Weak.refl _ _) ?_
  rw [g_slices_IndexFunc_Item_impl_EdOkc1] at h
  try simp only [↓MD, ↓actH, ↓builtinH, ↓builtinG, ↓builtinFT, MU, MB, MC, TT, Nat.reduceEqDiff, Nat.reduceLT, Nat.reduceLeDiff, Nat.reduceAdd, Nat.reduceMul, Nat.reduceSub, Int.reduceToNat, reduceCtorEq, Try.f56]
  obtain ⟨y_3, hy_4, h⟩ := bS h
  refine seqK TryT_eq (fun p : Unit => ⟨[], []⟩) (fun v => y_3 = .inl v) (by rfl) ?_ ?_
  · try simp only [↓MD, ↓actH, ↓builtinH, ↓builtinG, ↓builtinFT, MU, MB, MC, TT, Nat.reduceEqDiff, Nat.reduceLT, Nat.reduceLeDiff, Nat.reduceAdd, Nat.reduceMul, Nat.reduceSub, Int.reduceToNat, reduceCtorEq, Try.f56]
    obtain ⟨y_7, hy_8, hy_4⟩ := bS hy_4
    refine loopK TryT_eq (fun p : Int => ⟨[(0, .pv (.one (.imm 5 s_1.length (s_1.flatMap GItem.cs)))), (1, .pv (.one (.fn 41 []))), (7, .pv (.one (.int .i64 (s_1.length : Int)))), (8, .pv (.one (.int .i64 p)))], []⟩) (fun k p => g_slices_IndexFunc_Item_impl_EdOkc1_l0 s_1 k p = some y_7) (by kernel_rfl) bigK 0 (weak_norm (ks := [0, 1, 7, 8]) (π := []) (fuel := 9) (by simp only [ML, Nat.reduceEqDiff, Nat.reduceLT, Nat.reduceLeDiff, Nat.reduceAdd, Nat.reduceMul, Nat.reduceSub, Int.reduceToNat, reduceCtorEq, TL, TT])) hy_8 (fun _ h => nomatch (show none = some _ from h)) ?_
    rintro k_9 v_5 hk_10
    rw [g_slices_IndexFunc_Item_impl_EdOkc1_l0] at hk_10
    try dsimp only at hk_10
    try simp only [↓MD, ↓actH, ↓builtinH, ↓builtinG, ↓builtinFT, MU, MB, MC, TT, Nat.reduceEqDiff, Nat.reduceLT, Nat.reduceLeDiff, Nat.reduceAdd, Nat.reduceMul, Nat.reduceSub, Int.reduceToNat, reduceCtorEq, Try.f56]
    refine seqN TryT_eq rfl ?_
    try simp only [↓MD, ↓actH, ↓builtinH, ↓builtinG, ↓builtinFT, MU, MB, MC, TT, Nat.reduceEqDiff, Nat.reduceLT, Nat.reduceLeDiff, Nat.reduceAdd, Nat.reduceMul, Nat.reduceSub, Int.reduceToNat, reduceCtorEq, Try.f56]
    refine stIf hk_10 (fun hb_11 hk_10 => ?_) (fun hb_11 hk_10 => ?_)
    · try simp only [↓MD, ↓actH, ↓builtinH, ↓builtinG, ↓builtinFT, MU, MB, MC, TT, Nat.reduceEqDiff, Nat.reduceLT, Nat.reduceLeDiff, Nat.reduceAdd, Nat.reduceMul, Nat.reduceSub, Int.reduceToNat, reduceCtorEq, Try.f56]
      refine seqN TryT_eq rfl ?_
      obtain ⟨v_12, hv_12, hk_10⟩ := bS hk_10
      obtain ⟨y_13, hy_13, hk_10⟩ := bS hk_10
      have f1 := (fAt GItem.ok hv_12 (n := s_1.length) (by simp))
      try simp only [↓MD, ↓actH, ↓builtinH, ↓builtinG, ↓builtinFT, MU, MB, MC, TT, Nat.reduceEqDiff, Nat.reduceLT, Nat.reduceLeDiff, Nat.reduceAdd, Nat.reduceMul, Nat.reduceSub, Int.reduceToNat, reduceCtorEq, Try.f56, f1]
      refine callG [] 9 rfl (by simp only [ML, TT, Nat.reduceEqDiff, Nat.reduceLT, Nat.reduceLeDiff, Nat.reduceAdd, Nat.reduceMul, Nat.reduceSub, Int.reduceToNat, reduceCtorEq, TL]) (by simp only [ML, TT, Nat.reduceEqDiff, Nat.reduceLT, Nat.reduceLeDiff, Nat.reduceAdd, Nat.reduceMul, Nat.reduceSub, Int.reduceToNat, reduceCtorEq, TL]) rfl (c_impl_EdOkc1 hy_13) (by simp only [ML, TL, Nat.reduceEqDiff, Nat.reduceLT, Nat.reduceLeDiff, Nat.reduceAdd, Nat.reduceMul, Nat.reduceSub, Int.reduceToNat, reduceCtorEq]) ?_
      intro rd b
      try simp only [↓MD, ↓actH, ↓builtinH, ↓builtinG, ↓builtinFT, MU, MB, MC, TT, Nat.reduceEqDiff, Nat.reduceLT, Nat.reduceLeDiff, Nat.reduceAdd, Nat.reduceMul, Nat.reduceSub, Int.reduceToNat, reduceCtorEq, Try.f56, f1]
      refine stIf hk_10 (fun hb_14 hk_10 => ?_) (fun hb_14 hk_10 => ?_)
      · obtain rfl := Option.some.inj hk_10
        try dsimp only at hy_4
        obtain rfl := Option.some.inj hy_4
        try dsimp only at h
        try simp only [↓MD, ↓actH, ↓builtinH, ↓builtinG, ↓builtinFT, MU, MB, MC, TT, Nat.reduceEqDiff, Nat.reduceLT, Nat.reduceLeDiff, Nat.reduceAdd, Nat.reduceMul, Nat.reduceSub, Int.reduceToNat, reduceCtorEq, Try.f56, f1]
        obtain rfl := Option.some.inj h
        refine endT_of ?_ ⟨rfl, rfl⟩
        exact (weak_norm (ks := [0]) (π := []) (fuel := 9) (by simp only [ML, Nat.reduceEqDiff, Nat.reduceLT, Nat.reduceLeDiff, Nat.reduceAdd, Nat.reduceMul, Nat.reduceSub, Int.reduceToNat, reduceCtorEq, TL, TT]))
      · try simp only [↓MD, ↓actH, ↓builtinH, ↓builtinG, ↓builtinFT, MU, MB, MC, TT, Nat.reduceEqDiff, Nat.reduceLT, Nat.reduceLeDiff, Nat.reduceAdd, Nat.reduceMul, Nat.reduceSub, Int.reduceToNat, reduceCtorEq, Try.f56, f1]
        exact ⟨IntKind.wrap .i64 (v_5 + 1), hk_10, (weak_norm (ks := [0, 1, 7, 8]) (π := []) (fuel := 9) (by simp only [ML, Nat.reduceEqDiff, Nat.reduceLT, Nat.reduceLeDiff, Nat.reduceAdd, Nat.reduceMul, Nat.reduceSub, Int.reduceToNat, reduceCtorEq, TL, TT]))⟩
    · obtain rfl := Option.some.inj hk_10
      try dsimp only at hy_4
      try simp only [↓MD, ↓actH, ↓builtinH, ↓builtinG, ↓builtinFT, MU, MB, MC, TT, Nat.reduceEqDiff, Nat.reduceLT, Nat.reduceLeDiff, Nat.reduceAdd, Nat.reduceMul, Nat.reduceSub, Int.reduceToNat, reduceCtorEq, Try.f56]
      obtain rfl := Option.some.inj hy_4
      exact cutT_mk () (by trivial) (weak_norm (ks := []) (π := []) (fuel := 9) (by simp only [ML, Nat.reduceEqDiff, Nat.reduceLT, Nat.reduceLeDiff, Nat.reduceAdd, Nat.reduceMul, Nat.reduceSub, Int.reduceToNat, reduceCtorEq, TL, TT]))
  · rintro _ hp
    replace hp := hp.symm; subst hp
    try dsimp only at h
    try simp only [↓MD, ↓actH, ↓builtinH, ↓builtinG, ↓builtinFT, MU, MB, MC, TT, Nat.reduceEqDiff, Nat.reduceLT, Nat.reduceLeDiff, Nat.reduceAdd, Nat.reduceMul, Nat.reduceSub, Int.reduceToNat, reduceCtorEq, Try.f56]
    obtain rfl := Option.some.inj h
    refine endT_of ?_ ⟨rfl, rfl⟩
    exact (weak_norm (ks := [0]) (π := []) (fuel := 9) (by simp only [ML, Nat.reduceEqDiff, Nat.reduceLT, Nat.reduceLeDiff, Nat.reduceAdd, Nat.reduceMul, Nat.reduceSub, Int.reduceToNat, reduceCtorEq, TL, TT]))
theorem c_slices_ContainsFunc_Item_impl_EdOkc1 {s_1 : List GItem} {r : Bool} (h : g_slices_ContainsFunc_Item_impl_EdOkc1 s_1 = some r) : Ans Try.prog 40 [.one (.imm 5 s_1.length (s_1.flatMap GItem.cs)), .one (.fn 41 [])] [] fun v h1 => v = .pv (.one (.bool r)) ∧ h1 = [] := by
  refine ansK (P := fun _ => Try.prog) TryT_eq (fn := Try.f40) Try.func40 rfl ⟨by kernel_rfl, rfl, rfl, by kernel_rfl⟩ (by simp) (Weak.refl _ _) ?_
  rw [g_slices_ContainsFunc_Item_impl_EdOkc1] at h
  obtain ⟨y_2, hy_2, h⟩ := bS h
  try simp only [↓MD, ↓actH, ↓builtinH, ↓builtinG, ↓builtinFT, MU, MB, MC, TT, Nat.reduceEqDiff, Nat.reduceLT, Nat.reduceLeDiff, Nat.reduceAdd, Nat.reduceMul, Nat.reduceSub, Int.reduceToNat, reduceCtorEq, Try.f40]
  refine callG [] 9 rfl (by simp only [ML, TT, Nat.reduceEqDiff, Nat.reduceLT, Nat.reduceLeDiff, Nat.reduceAdd, Nat.reduceMul, Nat.reduceSub, Int.reduceToNat, reduceCtorEq, TL]) (by simp only [ML, TT, Nat.reduceEqDiff, Nat.reduceLT, Nat.reduceLeDiff, Nat.reduceAdd, Nat.reduceMul, Nat.reduceSub, Int.reduceToNat, reduceCtorEq, TL]) rfl (c_slices_IndexFunc_Item_impl_EdOkc1 hy_2) (by simp only [ML, TL, Nat.reduceEqDiff, Nat.reduceLT, Nat.reduceLeDiff, Nat.reduceAdd, Nat.reduceMul, Nat.reduceSub, Int.reduceToNat, reduceCtorEq]) ?_
  intro rd b
  try simp only [↓MD, ↓actH, ↓builtinH, ↓builtinG, ↓builtinFT, MU, MB, MC, TT, Nat.reduceEqDiff, Nat.reduceLT, Nat.reduceLeDiff, Nat.reduceAdd, Nat.reduceMul, Nat.reduceSub, Int.reduceToNat, reduceCtorEq, Try.f40]
  obtain rfl := Option.some.inj h
  refine endT_of ?_ ⟨rfl, rfl⟩
  exact (weak_norm (ks := [0]) (π := []) (fuel := 9) (by simp only [ML, Nat.reduceEqDiff, Nat.reduceLT, Nat.reduceLeDiff, Nat.reduceAdd, Nat.reduceMul, Nat.reduceSub, Int.reduceToNat, reduceCtorEq, TL, TT]))
theorem c_slices_Grow_Item_emp {n_1 : Int} {r : (List GItem)} (h : g_slices_Grow_Item_emp n_1 = some r) : Ans Try.prog 74 [.one (.emp), .one (.int .i64 n_1)] [] fun v h1 => v = .pv (.one (.arr 0 0 r.length)) ∧ h1 = [.live ⟨5, r.length, r.flatMap GItem.cs⟩] := by
  refine ansK (P := fun _ => Try.prog) TryT_eq (fn := Try.f74) Try.func74 rfl ⟨by kernel_rfl, rfl, rfl, by kernel_rfl⟩ (by simp) (Weak.refl _ _) ?_
  rw [g_slices_Grow_Item_emp] at h
  try simp only [↓MD, ↓actH, ↓builtinH, ↓builtinG, ↓builtinFT, MU, MB, MC, TT, Nat.reduceEqDiff, Nat.reduceLT, Nat.reduceLeDiff, Nat.reduceAdd, Nat.reduceMul, Nat.reduceSub, Int.reduceToNat, reduceCtorEq, Try.f74]
  obtain ⟨y_2, hy_3, h⟩ := bS h
  refine seqK TryT_eq (fun p : Unit => ⟨[(0, .pv (.one (.emp))), (1, .pv (.one (.int .i64 n_1)))], []⟩) (fun v => y_2 = v) (by rfl) ?_ ?_
  · try simp only [↓MD, ↓actH, ↓builtinH, ↓builtinG, ↓builtinFT, MU, MB, MC, TT, Nat.reduceEqDiff, Nat.reduceLT, Nat.reduceLeDiff, Nat.reduceAdd, Nat.reduceMul, Nat.reduceSub, Int.reduceToNat, reduceCtorEq, Try.f74]
    refine stIf hy_3 (fun hb_4 hy_3 => ?_) (fun hb_4 hy_3 => ?_)
    · exact nomatch hy_3
    · try simp only [↓MD, ↓actH, ↓builtinH, ↓builtinG, ↓builtinFT, MU, MB, MC, TT, Nat.reduceEqDiff, Nat.reduceLT, Nat.reduceLeDiff, Nat.reduceAdd, Nat.reduceMul, Nat.reduceSub, Int.reduceToNat, reduceCtorEq, Try.f74]
      obtain rfl := Option.some.inj hy_3
      exact cutT_mk () (by trivial) (weak_norm (ks := [0, 1]) (π := []) (fuel := 9) (by simp only [ML, Nat.reduceEqDiff, Nat.reduceLT, Nat.reduceLeDiff, Nat.reduceAdd, Nat.reduceMul, Nat.reduceSub, Int.reduceToNat, reduceCtorEq, TL, TT]))
  · rintro _ hp
    replace hp := hp.symm; subst hp
    try dsimp only at h
    try simp only [↓MD, ↓actH, ↓builtinH, ↓builtinG, ↓builtinFT, MU, MB, MC, TT, Nat.reduceEqDiff, Nat.reduceLT, Nat.reduceLeDiff, Nat.reduceAdd, Nat.reduceMul, Nat.reduceSub, Int.reduceToNat, reduceCtorEq, Try.f74]
    obtain ⟨y_6, hy_7, h⟩ := bS h
    refine seqK TryT_eq (fun p : (List GItem) => ⟨[(0, .pv (.one (.arr 0 0 p.length)))], [.live ⟨5, p.length, p.flatMap GItem.cs⟩]⟩) (fun v => y_6 = v) (by rfl) ?_ ?_
    · try simp only [↓MD, ↓actH, ↓builtinH, ↓builtinG, ↓builtinFT, MU, MB, MC, TT, Nat.reduceEqDiff, Nat.reduceLT, Nat.reduceLeDiff, Nat.reduceAdd, Nat.reduceMul, Nat.reduceSub, Int.reduceToNat, reduceCtorEq, Try.f74]
      refine stIf hy_7 (fun hb_8 hy_7 => ?_) (fun hb_8 hy_7 => ?_)
      · obtain ⟨v_9, hv_9, hy_7⟩ := bS hy_7
        obtain ⟨v_10, hv_10, hy_7⟩ := bS hy_7
        have f1 := (fMk hv_9)
        have f2 := (fMkC (e := GItem.cs) (ns := [.int .i64 0, .str [], .int .i32 0, .bool false, .int .u32 0]) hv_9 rfl)
        have f3 := (fSubN hv_10 (n := v_9.length) (by simp))
        try simp only [↓MD, ↓actH, ↓builtinH, ↓builtinG, ↓builtinFT, MU, MB, MC, TT, Nat.reduceEqDiff, Nat.reduceLT, Nat.reduceLeDiff, Nat.reduceAdd, Nat.reduceMul, Nat.reduceSub, Int.reduceToNat, reduceCtorEq, Try.f74, f1, f2, f3]
        obtain rfl := Option.some.inj hy_7
        exact cutT_mk v_10 rfl ((weak_trim 0 0 v_10.length (b := ⟨_, _, _⟩) rfl (fLeW hv_10 (by simp) (by simp)) (by decide)).trans (weak_norm (ks := [0]) (π := [0]) (fuel := 9) (by simp only [trS, trE, trH, trHS, trSV, trP, trC, ML, MB, and_self, Nat.reduceEqDiff, Nat.reduceLT, Nat.reduceLeDiff, Nat.reduceAdd, Nat.reduceMul, Nat.reduceSub, Int.reduceToNat, reduceCtorEq, TL, TT, fTrim0 GItem.ok hv_10 (lo := 0) (by simp)])))
      · try simp only [↓MD, ↓actH, ↓builtinH, ↓builtinG, ↓builtinFT, MU, MB, MC, TT, Nat.reduceEqDiff, Nat.reduceLT, Nat.reduceLeDiff, Nat.reduceAdd, Nat.reduceMul, Nat.reduceSub, Int.reduceToNat, reduceCtorEq, Try.f74]
        obtain rfl := Option.some.inj hy_7
        exact cutT_mk [] rfl ((weak_norm (ks := [0]) (π := []) (fuel := 9) (s' := ⟨[(0, .pv (.one (.emp)))], []⟩) (by simp only [ML, Nat.reduceEqDiff, Nat.reduceLT, Nat.reduceLeDiff, Nat.reduceAdd, Nat.reduceMul, Nat.reduceSub, Int.reduceToNat, reduceCtorEq, TL, TT])).trans (weak_le (by simp only [LEb, Nat.reduceEqDiff, Nat.reduceLT, Nat.reduceLeDiff, Nat.reduceAdd, Nat.reduceMul, Nat.reduceSub, Int.reduceToNat, reduceCtorEq, TL]) (by simp only [LEb, Nat.reduceEqDiff, Nat.reduceLT, Nat.reduceLeDiff, Nat.reduceAdd, Nat.reduceMul, Nat.reduceSub, Int.reduceToNat, reduceCtorEq, TL])))
    · rintro s_5 hp
      replace hp := hp.symm; subst hp
      try dsimp only at h
      try simp only [↓MD, ↓actH, ↓builtinH, ↓builtinG, ↓builtinFT, MU, MB, MC, TT, Nat.reduceEqDiff, Nat.reduceLT, Nat.reduceLeDiff, Nat.reduceAdd, Nat.reduceMul, Nat.reduceSub, Int.reduceToNat, reduceCtorEq, Try.f74]
      obtain rfl := Option.some.inj h
      refine endT_of ?_ ⟨rfl, rfl⟩
      exact (weak_norm (ks := [0]) (π := [0]) (fuel := 9) (by simp only [ML, Nat.reduceEqDiff, Nat.reduceLT, Nat.reduceLeDiff, Nat.reduceAdd, Nat.reduceMul, Nat.reduceSub, Int.reduceToNat, reduceCtorEq, TL, TT]))
theorem c_slices_Concat_Item {slices_1 : List (List GItem)} {r : (List GItem)} (h : g_slices_Concat_Item slices_1 = some r) : Ans Try.prog 58 [.one (.imm 1 slices_1.length (slices_1.flatMap (eL GItem.cs 5)))] [] fun v h1 => v = .pv (.one (.arr 0 0 r.length)) ∧ h1 = [.live ⟨5, r.length, r.flatMap GItem.cs⟩] := by
  refine ansK (P := fun _ => Try.prog) TryT_eq (fn := Try.f58) Try.func58 rfl ⟨by kernel_rfl, rfl, rfl, by kernel_rfl⟩ (by simp) (Weak.refl _ _) ?_
  rw [g_slices_Concat_Item] at h
  try simp only [↓MD, ↓actH, ↓builtinH, ↓builtinG, ↓builtinFT, MU, MB, MC, TT, Nat.reduceEqDiff, Nat.reduceLT, Nat.reduceLeDiff, Nat.reduceAdd, Nat.reduceMul, Nat.reduceSub, Int.reduceToNat, reduceCtorEq, Try.f58]
  obtain ⟨y_3, hy_4, h⟩ := bS h
  refine seqK TryT_eq (fun p : Int => ⟨[(0, .pv (.one (.imm 1 slices_1.length (slices_1.flatMap (eL GItem.cs 5))))), (3, .pv (.one (.int .i64 p)))], []⟩) (fun v => y_3 = v) (by rfl) ?_ ?_
  · try simp only [↓MD, ↓actH, ↓builtinH, ↓builtinG, ↓builtinFT, MU, MB, MC, TT, Nat.reduceEqDiff, Nat.reduceLT, Nat.reduceLeDiff, Nat.reduceAdd, Nat.reduceMul, Nat.reduceSub, Int.reduceToNat, reduceCtorEq, Try.f58]
    obtain ⟨y_8, hy_9, hy_4⟩ := bS hy_4
    refine loopK TryT_eq (fun p : Int × Int => ⟨[(0, .pv (.one (.imm 1 slices_1.length (slices_1.flatMap (eL GItem.cs 5))))), (3, .pv (.one (.int .i64 p.1))), (9, .pv (.one (.imm 1 slices_1.length (slices_1.flatMap (eL GItem.cs 5))))), (10, .pv (.one (.int .i64 (slices_1.length : Int)))), (11, .pv (.one (.int .i64 p.2)))], []⟩) (fun k p => g_slices_Concat_Item_l0 slices_1 k p.1 p.2 = some y_8) (by kernel_rfl) bigK (0, 0) (weak_norm (ks := [0, 3, 9, 10, 11]) (π := []) (fuel := 9) (by simp only [ML, Nat.reduceEqDiff, Nat.reduceLT, Nat.reduceLeDiff, Nat.reduceAdd, Nat.reduceMul, Nat.reduceSub, Int.reduceToNat, reduceCtorEq, TL, TT])) hy_9 (fun _ h => nomatch (show none = some _ from h)) ?_
    rintro k_10 ⟨size_5, v_6⟩ hk_11
    rw [g_slices_Concat_Item_l0] at hk_11
    try dsimp only at hk_11
    try simp only [↓MD, ↓actH, ↓builtinH, ↓builtinG, ↓builtinFT, MU, MB, MC, TT, Nat.reduceEqDiff, Nat.reduceLT, Nat.reduceLeDiff, Nat.reduceAdd, Nat.reduceMul, Nat.reduceSub, Int.reduceToNat, reduceCtorEq, Try.f58]
    refine seqN TryT_eq rfl ?_
    try simp only [↓MD, ↓actH, ↓builtinH, ↓builtinG, ↓builtinFT, MU, MB, MC, TT, Nat.reduceEqDiff, Nat.reduceLT, Nat.reduceLeDiff, Nat.reduceAdd, Nat.reduceMul, Nat.reduceSub, Int.reduceToNat, reduceCtorEq, Try.f58]
    refine stIf hk_11 (fun hb_12 hk_11 => ?_) (fun hb_12 hk_11 => ?_)
    · try simp only [↓MD, ↓actH, ↓builtinH, ↓builtinG, ↓builtinFT, MU, MB, MC, TT, Nat.reduceEqDiff, Nat.reduceLT, Nat.reduceLeDiff, Nat.reduceAdd, Nat.reduceMul, Nat.reduceSub, Int.reduceToNat, reduceCtorEq, Try.f58]
      obtain ⟨y_14, hy_15, hk_11⟩ := bS hk_11
      refine seqK TryT_eq (fun p : Int => ⟨[(0, .pv (.one (.imm 1 slices_1.length (slices_1.flatMap (eL GItem.cs 5))))), (3, .pv (.one (.int .i64 p))), (9, .pv (.one (.imm 1 slices_1.length (slices_1.flatMap (eL GItem.cs 5))))), (10, .pv (.one (.int .i64 (slices_1.length : Int)))), (11, .pv (.one (.int .i64 v_6)))], []⟩) (fun v => y_14 = v) (by rfl) ?_ ?_
      · obtain ⟨v_16, hv_16, hy_15⟩ := bS hy_15
        have f1 := (fAt (eL_ok GItem.cs 5) hv_16 (n := slices_1.length) (by simp))
        try simp only [↓MD, ↓actH, ↓builtinH, ↓builtinG, ↓builtinFT, MU, MB, MC, TT, Nat.reduceEqDiff, Nat.reduceLT, Nat.reduceLeDiff, Nat.reduceAdd, Nat.reduceMul, Nat.reduceSub, Int.reduceToNat, reduceCtorEq, Try.f58, f1]
        refine stIf hy_15 (fun hb_17 hy_15 => ?_) (fun hb_17 hy_15 => ?_)
        · exact nomatch hy_15
        · try simp only [↓MD, ↓actH, ↓builtinH, ↓builtinG, ↓builtinFT, MU, MB, MC, TT, Nat.reduceEqDiff, Nat.reduceLT, Nat.reduceLeDiff, Nat.reduceAdd, Nat.reduceMul, Nat.reduceSub, Int.reduceToNat, reduceCtorEq, Try.f58, f1]
          obtain rfl := Option.some.inj hy_15
          exact cutT_mk (IntKind.wrap .i64 (size_5 + (v_16.length : Int))) rfl (weak_norm (ks := [0, 3, 9, 10, 11]) (π := []) (fuel := 9) (by simp only [ML, Nat.reduceEqDiff, Nat.reduceLT, Nat.reduceLeDiff, Nat.reduceAdd, Nat.reduceMul, Nat.reduceSub, Int.reduceToNat, reduceCtorEq, TL, TT]))
      · rintro size_13 hp
        replace hp := hp.symm; subst hp
        try dsimp only at hk_11
        try simp only [↓MD, ↓actH, ↓builtinH, ↓builtinG, ↓builtinFT, MU, MB, MC, TT, Nat.reduceEqDiff, Nat.reduceLT, Nat.reduceLeDiff, Nat.reduceAdd, Nat.reduceMul, Nat.reduceSub, Int.reduceToNat, reduceCtorEq, Try.f58]
        exact ⟨(size_13, IntKind.wrap .i64 (v_6 + 1)), hk_11, (weak_norm (ks := [0, 3, 9, 10, 11]) (π := []) (fuel := 9) (by simp only [ML, Nat.reduceEqDiff, Nat.reduceLT, Nat.reduceLeDiff, Nat.reduceAdd, Nat.reduceMul, Nat.reduceSub, Int.reduceToNat, reduceCtorEq, TL, TT]))⟩
    · obtain rfl := Option.some.inj hk_11
      try dsimp only at hy_4
      try simp only [↓MD, ↓actH, ↓builtinH, ↓builtinG, ↓builtinFT, MU, MB, MC, TT, Nat.reduceEqDiff, Nat.reduceLT, Nat.reduceLeDiff, Nat.reduceAdd, Nat.reduceMul, Nat.reduceSub, Int.reduceToNat, reduceCtorEq, Try.f58]
      obtain rfl := Option.some.inj hy_4
      exact cutT_mk size_5 rfl (weak_norm (ks := [0, 3]) (π := []) (fuel := 9) (by simp only [ML, Nat.reduceEqDiff, Nat.reduceLT, Nat.reduceLeDiff, Nat.reduceAdd, Nat.reduceMul, Nat.reduceSub, Int.reduceToNat, reduceCtorEq, TL, TT]))
  · rintro size_2 hp
    replace hp := hp.symm; subst hp
    try dsimp only at h
    obtain ⟨y_18, hy_18, h⟩ := bS h
    try simp only [↓MD, ↓actH, ↓builtinH, ↓builtinG, ↓builtinFT, MU, MB, MC, TT, Nat.reduceEqDiff, Nat.reduceLT, Nat.reduceLeDiff, Nat.reduceAdd, Nat.reduceMul, Nat.reduceSub, Int.reduceToNat, reduceCtorEq, Try.f58]
    refine callG [] 9 rfl (by simp only [ML, TT, Nat.reduceEqDiff, Nat.reduceLT, Nat.reduceLeDiff, Nat.reduceAdd, Nat.reduceMul, Nat.reduceSub, Int.reduceToNat, reduceCtorEq, TL]) (by simp only [ML, TT, Nat.reduceEqDiff, Nat.reduceLT, Nat.reduceLeDiff, Nat.reduceAdd, Nat.reduceMul, Nat.reduceSub, Int.reduceToNat, reduceCtorEq, TL]) rfl (c_slices_Grow_Item_emp hy_18) (by simp only [ML, TL, Nat.reduceEqDiff, Nat.reduceLT, Nat.reduceLeDiff, Nat.reduceAdd, Nat.reduceMul, Nat.reduceSub, Int.reduceToNat, reduceCtorEq]) ?_
    intro rd b
    try simp only [↓MD, ↓actH, ↓builtinH, ↓builtinG, ↓builtinFT, MU, MB, MC, TT, Nat.reduceEqDiff, Nat.reduceLT, Nat.reduceLeDiff, Nat.reduceAdd, Nat.reduceMul, Nat.reduceSub, Int.reduceToNat, reduceCtorEq, Try.f58]
    obtain ⟨y_20, hy_21, h⟩ := bS h
    refine seqK TryT_eq (fun p : (List GItem) => ⟨[(6, .pv (.one (.arr 0 0 p.length)))], [.live ⟨5, p.length, p.flatMap GItem.cs⟩]⟩) (fun v => y_20 = v) (by rfl) ?_ ?_
    · try simp only [↓MD, ↓actH, ↓builtinH, ↓builtinG, ↓builtinFT, MU, MB, MC, TT, Nat.reduceEqDiff, Nat.reduceLT, Nat.reduceLeDiff, Nat.reduceAdd, Nat.reduceMul, Nat.reduceSub, Int.reduceToNat, reduceCtorEq, Try.f58]
      obtain ⟨y_25, hy_26, hy_21⟩ := bS hy_21
      refine loopK TryT_eq (fun p : (List GItem) × Int => ⟨[(6, .pv (.one (.arr 0 0 p.1.length))), (25, .pv (.one (.imm 1 slices_1.length (slices_1.flatMap (eL GItem.cs 5))))), (26, .pv (.one (.int .i64 (slices_1.length : Int)))), (27, .pv (.one (.int .i64 p.2)))], [.live ⟨5, p.1.length, p.1.flatMap GItem.cs⟩]⟩) (fun k p => g_slices_Concat_Item_l1 slices_1 k p.1 p.2 = some y_25) (by kernel_rfl) bigK (y_18, 0) (weak_norm (ks := [6, 25, 26, 27]) (π := [0]) (fuel := 9) (by simp only [ML, Nat.reduceEqDiff, Nat.reduceLT, Nat.reduceLeDiff, Nat.reduceAdd, Nat.reduceMul, Nat.reduceSub, Int.reduceToNat, reduceCtorEq, TL, TT])) hy_26 (fun _ h => nomatch (show none = some _ from h)) ?_
      rintro k_27 ⟨newslice_22, v_23⟩ hk_28
      rw [g_slices_Concat_Item_l1] at hk_28
      try dsimp only at hk_28
      try simp only [↓MD, ↓actH, ↓builtinH, ↓builtinG, ↓builtinFT, MU, MB, MC, TT, Nat.reduceEqDiff, Nat.reduceLT, Nat.reduceLeDiff, Nat.reduceAdd, Nat.reduceMul, Nat.reduceSub, Int.reduceToNat, reduceCtorEq, Try.f58]
      refine seqN TryT_eq rfl ?_
      try simp only [↓MD, ↓actH, ↓builtinH, ↓builtinG, ↓builtinFT, MU, MB, MC, TT, Nat.reduceEqDiff, Nat.reduceLT, Nat.reduceLeDiff, Nat.reduceAdd, Nat.reduceMul, Nat.reduceSub, Int.reduceToNat, reduceCtorEq, Try.f58]
      refine stIf hk_28 (fun hb_29 hk_28 => ?_) (fun hb_29 hk_28 => ?_)
      · try simp only [↓MD, ↓actH, ↓builtinH, ↓builtinG, ↓builtinFT, MU, MB, MC, TT, Nat.reduceEqDiff, Nat.reduceLT, Nat.reduceLeDiff, Nat.reduceAdd, Nat.reduceMul, Nat.reduceSub, Int.reduceToNat, reduceCtorEq, Try.f58]
        refine seqN TryT_eq rfl ?_
        obtain ⟨v_30, hv_30, hk_28⟩ := bS hk_28
        obtain ⟨v_31, hv_31, hk_28⟩ := bS hk_28
        have f2 := (fAt (eL_ok GItem.cs 5) hv_30 (n := slices_1.length) (by simp))
        have f3 := (fApp hv_31 (n := newslice_22.length) (by simp) (m := v_30.length) (by simp [bsOf]))
        have f4 := (fWin GItem.ok (n := newslice_22.length) (xs := newslice_22) (by simp))
        have f5 := (fCat (e := GItem.cs) (ns := v_30.flatMap GItem.cs) hv_31 rfl)
        try simp only [↓MD, ↓actH, ↓builtinH, ↓builtinG, ↓builtinFT, MU, MB, MC, TT, Nat.reduceEqDiff, Nat.reduceLT, Nat.reduceLeDiff, Nat.reduceAdd, Nat.reduceMul, Nat.reduceSub, Int.reduceToNat, reduceCtorEq, Try.f58, f2, f3, f4, f5]
        exact ⟨(v_31, IntKind.wrap .i64 (v_23 + 1)), hk_28, (weak_norm (ks := [6, 25, 26, 27]) (π := [1]) (fuel := 9) (by simp only [ML, Nat.reduceEqDiff, Nat.reduceLT, Nat.reduceLeDiff, Nat.reduceAdd, Nat.reduceMul, Nat.reduceSub, Int.reduceToNat, reduceCtorEq, TL, TT]))⟩
      · obtain rfl := Option.some.inj hk_28
        try dsimp only at hy_21
        try simp only [↓MD, ↓actH, ↓builtinH, ↓builtinG, ↓builtinFT, MU, MB, MC, TT, Nat.reduceEqDiff, Nat.reduceLT, Nat.reduceLeDiff, Nat.reduceAdd, Nat.reduceMul, Nat.reduceSub, Int.reduceToNat, reduceCtorEq, Try.f58]
        obtain rfl := Option.some.inj hy_21
        exact cutT_mk newslice_22 rfl (weak_norm (ks := [6]) (π := [0]) (fuel := 9) (by simp only [ML, Nat.reduceEqDiff, Nat.reduceLT, Nat.reduceLeDiff, Nat.reduceAdd, Nat.reduceMul, Nat.reduceSub, Int.reduceToNat, reduceCtorEq, TL, TT]))
    · rintro newslice_19 hp
      replace hp := hp.symm; subst hp
      try dsimp only at h
      try simp only [↓MD, ↓actH, ↓builtinH, ↓builtinG, ↓builtinFT, MU, MB, MC, TT, Nat.reduceEqDiff, Nat.reduceLT, Nat.reduceLeDiff, Nat.reduceAdd, Nat.reduceMul, Nat.reduceSub, Int.reduceToNat, reduceCtorEq, Try.f58]
      obtain rfl := Option.some.inj h
      refine endT_of ?_ ⟨rfl, rfl⟩
      exact (weak_norm (ks := [0]) (π := [0]) (fuel := 9) (by simp only [ML, Nat.reduceEqDiff, Nat.reduceLT, Nat.reduceLeDiff, Nat.reduceAdd, Nat.reduceMul, Nat.reduceSub, Int.reduceToNat, reduceCtorEq, TL, TT]))
theorem c_impl_edItems {e_1 : GEd} {r : (List GItem)} (h : g_impl_edItems e_1 = some r) : Ans Try.prog 44 [.agg [.imm 5 e_1.Left.length (e_1.Left.flatMap GItem.cs), .imm 5 e_1.Right.length (e_1.Right.flatMap GItem.cs), .imm 5 e_1.Cut.length (e_1.Cut.flatMap GItem.cs)]] [] fun v h1 => v = .pv (.one (.arr 0 0 r.length)) ∧ h1 = [.live ⟨5, r.length, r.flatMap GItem.cs⟩] := by
  refine ansK (P := fun _ => Try.prog) TryT_eq (fn := Try.f44) Try.func44 rfl ⟨by kernel_rfl, rfl, rfl, by kernel_rfl⟩ (by simp) (Weak.refl _ _) ?_
  rw [g_impl_edItems] at h
  obtain ⟨y_2, hy_2, h⟩ := bS h
  have f1 := (show bldN 2 = 2 from rfl)
  have f2 := (show bldC [.imm 5 e_1.Left.length (e_1.Left.flatMap GItem.cs), .imm 5 e_1.Right.length (e_1.Right.flatMap GItem.cs)] = [e_1.Left, e_1.Right].flatMap (eL GItem.cs 5) from rfl)
  try simp only [↓MD, ↓actH, ↓builtinH, ↓builtinG, ↓builtinFT, MU, MB, MC, TT, Nat.reduceEqDiff, Nat.reduceLT, Nat.reduceLeDiff, Nat.reduceAdd, Nat.reduceMul, Nat.reduceSub, Int.reduceToNat, reduceCtorEq, Try.f44, f1, f2]
  refine callG [] 9 rfl (by simp only [ML, TT, Nat.reduceEqDiff, Nat.reduceLT, Nat.reduceLeDiff, Nat.reduceAdd, Nat.reduceMul, Nat.reduceSub, Int.reduceToNat, reduceCtorEq, TL, fWin (eL_ok GItem.cs 5) (n := 2) (xs := [e_1.Left, e_1.Right]) (by simp)]) (by simp only [ML, TT, Nat.reduceEqDiff, Nat.reduceLT, Nat.reduceLeDiff, Nat.reduceAdd, Nat.reduceMul, Nat.reduceSub, Int.reduceToNat, reduceCtorEq, TL, fWin (eL_ok GItem.cs 5) (n := 2) (xs := [e_1.Left, e_1.Right]) (by simp)]) rfl (c_slices_Concat_Item hy_2) (by simp only [ML, TL, Nat.reduceEqDiff, Nat.reduceLT, Nat.reduceLeDiff, Nat.reduceAdd, Nat.reduceMul, Nat.reduceSub, Int.reduceToNat, reduceCtorEq]) ?_
  intro rd b
  try simp only [↓MD, ↓actH, ↓builtinH, ↓builtinG, ↓builtinFT, MU, MB, MC, TT, Nat.reduceEqDiff, Nat.reduceLT, Nat.reduceLeDiff, Nat.reduceAdd, Nat.reduceMul, Nat.reduceSub, Int.reduceToNat, reduceCtorEq, Try.f44, f1, f2]
  obtain rfl := Option.some.inj h
  refine endT_of ?_ ⟨rfl, rfl⟩
  exact (weak_norm (ks := [0]) (π := [2]) (fuel := 9) (by simp only [ML, Nat.reduceEqDiff, Nat.reduceLT, Nat.reduceLeDiff, Nat.reduceAdd, Nat.reduceMul, Nat.reduceSub, Int.reduceToNat, reduceCtorEq, TL, TT]))
theorem c_impl_Unparse {list_1 : List GItem} {r : (List Int) × Bool} (h : g_impl_Unparse list_1 = some r) : Ans Try.prog 45 [.one (.imm 5 list_1.length (list_1.flatMap GItem.cs))] [] fun v h1 => v = .tup [.one (.arr 0 0 r.1.length), .one (.bool r.2)] ∧ h1 = [.live ⟨1, r.1.length, r.1.flatMap (eI .u32)⟩] := by
  refine ansK (P := fun _ => Try.prog) TryT_eq (fn := Try.f45) Try.func45 rfl ⟨by kernel_rfl, rfl, rfl, by kernel_rfl⟩ (by simp) (Weak.refl _ _) ?_
  rw [g_impl_Unparse] at h
  have f1 := (show bldN 0 = 0 from rfl)
  have f2 := (show bldC [] = ([] : List Int).flatMap (eI .u32) from rfl)
  try simp only [↓MD, ↓actH, ↓builtinH, ↓builtinG, ↓builtinFT, MU, MB, MC, TT, Nat.reduceEqDiff, Nat.reduceLT, Nat.reduceLeDiff, Nat.reduceAdd, Nat.reduceMul, Nat.reduceSub, Int.reduceToNat, reduceCtorEq, Try.f45, f1, f2]
  obtain ⟨y_3, hy_4, h⟩ := bS h
  refine seqK TryT_eq (fun p : (List Int) => ⟨[(4, .pv (.one (.arr 0 0 p.length)))], [.live ⟨1, p.length, p.flatMap (eI .u32)⟩]⟩) (fun v => y_3 = .inl v) (by rfl) ?_ ?_
  · try simp only [↓MD, ↓actH, ↓builtinH, ↓builtinG, ↓builtinFT, MU, MB, MC, TT, Nat.reduceEqDiff, Nat.reduceLT, Nat.reduceLeDiff, Nat.reduceAdd, Nat.reduceMul, Nat.reduceSub, Int.reduceToNat, reduceCtorEq, Try.f45, f1, f2]
    obtain ⟨y_8, hy_9, hy_4⟩ := bS hy_4
    refine loopK TryT_eq (fun p : (List Int) × Int => ⟨[(4, .pv (.one (.arr 0 0 p.1.length))), (9, .pv (.one (.imm 5 list_1.length (list_1.flatMap GItem.cs)))), (10, .pv (.one (.int .i64 (list_1.length : Int)))), (11, .pv (.one (.int .i64 p.2)))], [.live ⟨1, p.1.length, p.1.flatMap (eI .u32)⟩]⟩) (fun k p => g_impl_Unparse_l0 list_1 k p.1 p.2 = some y_8) (by kernel_rfl) bigK (([] : List Int), 0) (weak_norm (ks := [4, 9, 10, 11]) (π := [0]) (fuel := 9) (by simp only [ML, Nat.reduceEqDiff, Nat.reduceLT, Nat.reduceLeDiff, Nat.reduceAdd, Nat.reduceMul, Nat.reduceSub, Int.reduceToNat, reduceCtorEq, TL, TT, fWin (eI_ok .u32) (n := 0) (xs := ([] : List Int)) (by simp)])) hy_9 (fun _ h => nomatch (show none = some _ from h)) ?_
    rintro k_10 ⟨out_5, v_6⟩ hk_11
    rw [g_impl_Unparse_l0] at hk_11
    try dsimp only at hk_11
    try simp only [↓MD, ↓actH, ↓builtinH, ↓builtinG, ↓builtinFT, MU, MB, MC, TT, Nat.reduceEqDiff, Nat.reduceLT, Nat.reduceLeDiff, Nat.reduceAdd, Nat.reduceMul, Nat.reduceSub, Int.reduceToNat, reduceCtorEq, Try.f45]
    refine seqN TryT_eq rfl ?_
    try simp only [↓MD, ↓actH, ↓builtinH, ↓builtinG, ↓builtinFT, MU, MB, MC, TT, Nat.reduceEqDiff, Nat.reduceLT, Nat.reduceLeDiff, Nat.reduceAdd, Nat.reduceMul, Nat.reduceSub, Int.reduceToNat, reduceCtorEq, Try.f45]
    refine stIf hk_11 (fun hb_12 hk_11 => ?_) (fun hb_12 hk_11 => ?_)
    · try simp only [↓MD, ↓actH, ↓builtinH, ↓builtinG, ↓builtinFT, MU, MB, MC, TT, Nat.reduceEqDiff, Nat.reduceLT, Nat.reduceLeDiff, Nat.reduceAdd, Nat.reduceMul, Nat.reduceSub, Int.reduceToNat, reduceCtorEq, Try.f45]
      refine seqN TryT_eq rfl ?_
      obtain ⟨v_13, hv_13, hk_11⟩ := bS hk_11
      obtain ⟨y_14, hy_14, hk_11⟩ := bS hk_11
      have f3 := (fAt GItem.ok hv_13 (n := list_1.length) (by simp))
      try simp only [↓MD, ↓actH, ↓builtinH, ↓builtinG, ↓builtinFT, MU, MB, MC, TT, Nat.reduceEqDiff, Nat.reduceLT, Nat.reduceLeDiff, Nat.reduceAdd, Nat.reduceMul, Nat.reduceSub, Int.reduceToNat, reduceCtorEq, Try.f45, f3]
      refine callG [] 9 rfl (by simp only [ML, TT, Nat.reduceEqDiff, Nat.reduceLT, Nat.reduceLeDiff, Nat.reduceAdd, Nat.reduceMul, Nat.reduceSub, Int.reduceToNat, reduceCtorEq, TL]) (by simp only [ML, TT, Nat.reduceEqDiff, Nat.reduceLT, Nat.reduceLeDiff, Nat.reduceAdd, Nat.reduceMul, Nat.reduceSub, Int.reduceToNat, reduceCtorEq, TL]) rfl (c_impl_CellsOf hy_14) (by simp only [ML, TL, Nat.reduceEqDiff, Nat.reduceLT, Nat.reduceLeDiff, Nat.reduceAdd, Nat.reduceMul, Nat.reduceSub, Int.reduceToNat, reduceCtorEq]) ?_
      intro rd b
      obtain ⟨v_15, hv_15, hk_11⟩ := bS hk_11
      have f4 := (fWin (eI_ok .u32) (n := y_14.length) (xs := y_14) (by simp))
      have f5 := (fApp hv_15 (n := out_5.length) (by simp) (m := y_14.length) (by simp [bsOf]))
      have f6 := (fWin (eI_ok .u32) (n := out_5.length) (xs := out_5) (by simp))
      have f7 := (fCat (e := (eI .u32)) (ns := y_14.flatMap (eI .u32)) hv_15 rfl)
      try simp only [↓MD, ↓actH, ↓builtinH, ↓builtinG, ↓builtinFT, MU, MB, MC, TT, Nat.reduceEqDiff, Nat.reduceLT, Nat.reduceLeDiff, Nat.reduceAdd, Nat.reduceMul, Nat.reduceSub, Int.reduceToNat, reduceCtorEq, Try.f45, f3, f4, f5, f6, f7]
      obtain ⟨y_17, hy_18, hk_11⟩ := bS hk_11
      refine seqK TryT_eq (fun p : Bool => ⟨[(4, .pv (.one (.arr 0 0 v_15.length))), (9, .pv (.one (.imm 5 list_1.length (list_1.flatMap GItem.cs)))), (10, .pv (.one (.int .i64 (list_1.length : Int)))), (11, .pv (.one (.int .i64 v_6))), (27, .pv (.one (.bool p)))], [.live ⟨1, v_15.length, v_15.flatMap (eI .u32)⟩]⟩) (fun v => y_17 = v) (by rfl) ?_ ?_
      · try simp only [↓MD, ↓actH, ↓builtinH, ↓builtinG, ↓builtinFT, MU, MB, MC, TT, Nat.reduceEqDiff, Nat.reduceLT, Nat.reduceLeDiff, Nat.reduceAdd, Nat.reduceMul, Nat.reduceSub, Int.reduceToNat, reduceCtorEq, Try.f45, f3, f4, f5, f6, f7]
        refine stIf hy_18 (fun hb_19 hy_18 => ?_) (fun hb_19 hy_18 => ?_)
        · try simp only [↓MD, ↓actH, ↓builtinH, ↓builtinG, ↓builtinFT, MU, MB, MC, TT, Nat.reduceEqDiff, Nat.reduceLT, Nat.reduceLeDiff, Nat.reduceAdd, Nat.reduceMul, Nat.reduceSub, Int.reduceToNat, reduceCtorEq, Try.f45, f3, f4, f5, f6, f7, hb_19]
          obtain rfl := Option.some.inj hy_18
          exact cutT_mk true rfl (weak_norm (ks := [4, 9, 10, 11, 27]) (π := [3]) (fuel := 9) (by simp only [ML, Nat.reduceEqDiff, Nat.reduceLT, Nat.reduceLeDiff, Nat.reduceAdd, Nat.reduceMul, Nat.reduceSub, Int.reduceToNat, reduceCtorEq, TL, TT]))
        · try simp only [↓MD, ↓actH, ↓builtinH, ↓builtinG, ↓builtinFT, MU, MB, MC, TT, Nat.reduceEqDiff, Nat.reduceLT, Nat.reduceLeDiff, Nat.reduceAdd, Nat.reduceMul, Nat.reduceSub, Int.reduceToNat, reduceCtorEq, Try.f45, f3, f4, f5, f6, f7, hb_19]
          obtain rfl := Option.some.inj hy_18
          exact cutT_mk (decide ((v_15.length : Int) > 64)) rfl (weak_norm (ks := [4, 9, 10, 11, 27]) (π := [3]) (fuel := 9) (by simp only [ML, Nat.reduceEqDiff, Nat.reduceLT, Nat.reduceLeDiff, Nat.reduceAdd, Nat.reduceMul, Nat.reduceSub, Int.reduceToNat, reduceCtorEq, TL, TT]))
      · rintro v_16 hp
        replace hp := hp.symm; subst hp
        try dsimp only at hk_11
        try simp only [↓MD, ↓actH, ↓builtinH, ↓builtinG, ↓builtinFT, MU, MB, MC, TT, Nat.reduceEqDiff, Nat.reduceLT, Nat.reduceLeDiff, Nat.reduceAdd, Nat.reduceMul, Nat.reduceSub, Int.reduceToNat, reduceCtorEq, Try.f45]
        refine stIf hk_11 (fun hb_20 hk_11 => ?_) (fun hb_20 hk_11 => ?_)
        · obtain rfl := Option.some.inj hk_11
          try dsimp only at hy_4
          obtain rfl := Option.some.inj hy_4
          try dsimp only at h
          try simp only [↓MD, ↓actH, ↓builtinH, ↓builtinG, ↓builtinFT, MU, MB, MC, TT, Nat.reduceEqDiff, Nat.reduceLT, Nat.reduceLeDiff, Nat.reduceAdd, Nat.reduceMul, Nat.reduceSub, Int.reduceToNat, reduceCtorEq, Try.f45]
          obtain rfl := Option.some.inj h
          refine endT_of ?_ ⟨rfl, rfl⟩
          exact ((weak_norm (ks := [0]) (π := []) (fuel := 9) (s' := ⟨[(0, .tup [.one (.emp), .one (.bool false)])], []⟩) (by simp only [ML, Nat.reduceEqDiff, Nat.reduceLT, Nat.reduceLeDiff, Nat.reduceAdd, Nat.reduceMul, Nat.reduceSub, Int.reduceToNat, reduceCtorEq, TL, TT])).trans (weak_le (by simp only [LEb, Nat.reduceEqDiff, Nat.reduceLT, Nat.reduceLeDiff, Nat.reduceAdd, Nat.reduceMul, Nat.reduceSub, Int.reduceToNat, reduceCtorEq, TL]) (by simp only [LEb, Nat.reduceEqDiff, Nat.reduceLT, Nat.reduceLeDiff, Nat.reduceAdd, Nat.reduceMul, Nat.reduceSub, Int.reduceToNat, reduceCtorEq, TL])))
        · try simp only [↓MD, ↓actH, ↓builtinH, ↓builtinG, ↓builtinFT, MU, MB, MC, TT, Nat.reduceEqDiff, Nat.reduceLT, Nat.reduceLeDiff, Nat.reduceAdd, Nat.reduceMul, Nat.reduceSub, Int.reduceToNat, reduceCtorEq, Try.f45]
          exact ⟨(v_15, IntKind.wrap .i64 (v_6 + 1)), hk_11, (weak_norm (ks := [4, 9, 10, 11]) (π := [0]) (fuel := 9) (by simp only [ML, Nat.reduceEqDiff, Nat.reduceLT, Nat.reduceLeDiff, Nat.reduceAdd, Nat.reduceMul, Nat.reduceSub, Int.reduceToNat, reduceCtorEq, TL, TT]))⟩
    · obtain rfl := Option.some.inj hk_11
      try dsimp only at hy_4
      try simp only [↓MD, ↓actH, ↓builtinH, ↓builtinG, ↓builtinFT, MU, MB, MC, TT, Nat.reduceEqDiff, Nat.reduceLT, Nat.reduceLeDiff, Nat.reduceAdd, Nat.reduceMul, Nat.reduceSub, Int.reduceToNat, reduceCtorEq, Try.f45]
      obtain rfl := Option.some.inj hy_4
      exact cutT_mk out_5 rfl (weak_norm (ks := [4]) (π := [0]) (fuel := 9) (by simp only [ML, Nat.reduceEqDiff, Nat.reduceLT, Nat.reduceLeDiff, Nat.reduceAdd, Nat.reduceMul, Nat.reduceSub, Int.reduceToNat, reduceCtorEq, TL, TT]))
  · rintro out_2 hp
    replace hp := hp.symm; subst hp
    try dsimp only at h
    try simp only [↓MD, ↓actH, ↓builtinH, ↓builtinG, ↓builtinFT, MU, MB, MC, TT, Nat.reduceEqDiff, Nat.reduceLT, Nat.reduceLeDiff, Nat.reduceAdd, Nat.reduceMul, Nat.reduceSub, Int.reduceToNat, reduceCtorEq, Try.f45]
    obtain rfl := Option.some.inj h
    refine endT_of ?_ ⟨rfl, rfl⟩
    exact (weak_norm (ks := [0]) (π := [0]) (fuel := 9) (by simp only [ML, Nat.reduceEqDiff, Nat.reduceLT, Nat.reduceLeDiff, Nat.reduceAdd, Nat.reduceMul, Nat.reduceSub, Int.reduceToNat, reduceCtorEq, TL, TT]))
theorem c_slices_Equal_Item {s1_1 : List GItem} {s2_2 : List GItem} {r : Bool} (h : g_slices_Equal_Item s1_1 s2_2 = some r) : Ans Try.prog 57 [.one (.imm 5 s1_1.length (s1_1.flatMap GItem.cs)), .one (.imm 5 s2_2.length (s2_2.flatMap GItem.cs))] [] fun v h1 => v = .pv (.one (.bool r)) ∧ h1 = [] := by
  refine ansK (P := fun _ => Try.prog) TryT_eq (fn := Try.f57) Try.func57 rfl ⟨by kernel_rfl, rfl, rfl, by kernel_rfl⟩ (by simp) (Weak.refl _ _) ?_
  rw [g_slices_Equal_Item] at h
  try simp only [↓MD, ↓actH, ↓builtinH, ↓builtinG, ↓builtinFT, MU, MB, MC, TT, Nat.reduceEqDiff, Nat.reduceLT, Nat.reduceLeDiff, Nat.reduceAdd, Nat.reduceMul, Nat.reduceSub, Int.reduceToNat, reduceCtorEq, Try.f57]
  refine seqN TryT_eq rfl ?_
  try simp only [↓MD, ↓actH, ↓builtinH, ↓builtinG, ↓builtinFT, MU, MB, MC, TT, Nat.reduceEqDiff, Nat.reduceLT, Nat.reduceLeDiff, Nat.reduceAdd, Nat.reduceMul, Nat.reduceSub, Int.reduceToNat, reduceCtorEq, Try.f57]
  refine stIf h (fun hb_3 h => ?_) (fun hb_3 h => ?_)
  · try simp only [↓MD, ↓actH, ↓builtinH, ↓builtinG, ↓builtinFT, MU, MB, MC, TT, Nat.reduceEqDiff, Nat.reduceLT, Nat.reduceLeDiff, Nat.reduceAdd, Nat.reduceMul, Nat.reduceSub, Int.reduceToNat, reduceCtorEq, Try.f57]
    obtain rfl := Option.some.inj h
    refine endT_of ?_ ⟨rfl, rfl⟩
    exact (weak_norm (ks := [0]) (π := []) (fuel := 9) (by simp only [ML, Nat.reduceEqDiff, Nat.reduceLT, Nat.reduceLeDiff, Nat.reduceAdd, Nat.reduceMul, Nat.reduceSub, Int.reduceToNat, reduceCtorEq, TL, TT]))
  · try simp only [↓MD, ↓actH, ↓builtinH, ↓builtinG, ↓builtinFT, MU, MB, MC, TT, Nat.reduceEqDiff, Nat.reduceLT, Nat.reduceLeDiff, Nat.reduceAdd, Nat.reduceMul, Nat.reduceSub, Int.reduceToNat, reduceCtorEq, Try.f57]
    obtain ⟨y_4, hy_5, h⟩ := bS h
    refine seqK TryT_eq (fun p : Unit => ⟨[], []⟩) (fun v => y_4 = .inl v) (by rfl) ?_ ?_
    · try simp only [↓MD, ↓actH, ↓builtinH, ↓builtinG, ↓builtinFT, MU, MB, MC, TT, Nat.reduceEqDiff, Nat.reduceLT, Nat.reduceLeDiff, Nat.reduceAdd, Nat.reduceMul, Nat.reduceSub, Int.reduceToNat, reduceCtorEq, Try.f57]
      obtain ⟨y_7, hy_8, hy_5⟩ := bS hy_5
      refine loopK TryT_eq (fun p : Int => ⟨[(0, .pv (.one (.imm 5 s1_1.length (s1_1.flatMap GItem.cs)))), (1, .pv (.one (.imm 5 s2_2.length (s2_2.flatMap GItem.cs)))), (12, .pv (.one (.int .i64 (s1_1.length : Int)))), (13, .pv (.one (.int .i64 p)))], []⟩) (fun k p => g_slices_Equal_Item_l0 s1_1 s2_2 k p = some y_7) (by kernel_rfl) bigK 0 (weak_norm (ks := [0, 1, 12, 13]) (π := []) (fuel := 9) (by simp only [ML, Nat.reduceEqDiff, Nat.reduceLT, Nat.reduceLeDiff, Nat.reduceAdd, Nat.reduceMul, Nat.reduceSub, Int.reduceToNat, reduceCtorEq, TL, TT])) hy_8 (fun _ h => nomatch (show none = some _ from h)) ?_
      rintro k_9 v_6 hk_10
      rw [g_slices_Equal_Item_l0] at hk_10
      try dsimp only at hk_10
      try simp only [↓MD, ↓actH, ↓builtinH, ↓builtinG, ↓builtinFT, MU, MB, MC, TT, Nat.reduceEqDiff, Nat.reduceLT, Nat.reduceLeDiff, Nat.reduceAdd, Nat.reduceMul, Nat.reduceSub, Int.reduceToNat, reduceCtorEq, Try.f57]
      refine seqN TryT_eq rfl ?_
      try simp only [↓MD, ↓actH, ↓builtinH, ↓builtinG, ↓builtinFT, MU, MB, MC, TT, Nat.reduceEqDiff, Nat.reduceLT, Nat.reduceLeDiff, Nat.reduceAdd, Nat.reduceMul, Nat.reduceSub, Int.reduceToNat, reduceCtorEq, Try.f57]
      refine stIf hk_10 (fun hb_11 hk_10 => ?_) (fun hb_11 hk_10 => ?_)
      · try simp only [↓MD, ↓actH, ↓builtinH, ↓builtinG, ↓builtinFT, MU, MB, MC, TT, Nat.reduceEqDiff, Nat.reduceLT, Nat.reduceLeDiff, Nat.reduceAdd, Nat.reduceMul, Nat.reduceSub, Int.reduceToNat, reduceCtorEq, Try.f57]
        refine seqN TryT_eq rfl ?_
        obtain ⟨v_12, hv_12, hk_10⟩ := bS hk_10
        obtain ⟨v_13, hv_13, hk_10⟩ := bS hk_10
        have f1 := (fAt GItem.ok hv_12 (n := s1_1.length) (by simp))
        have f2 := (fAt GItem.ok hv_13 (n := s2_2.length) (by simp))
        try simp only [↓MD, ↓actH, ↓builtinH, ↓builtinG, ↓builtinFT, MU, MB, MC, TT, Nat.reduceEqDiff, Nat.reduceLT, Nat.reduceLeDiff, Nat.reduceAdd, Nat.reduceMul, Nat.reduceSub, Int.reduceToNat, reduceCtorEq, Try.f57, f1, f2]
        refine ⟨rfl, ?_⟩
        try simp only [↓MD, ↓actH, ↓builtinH, ↓builtinG, ↓builtinFT, MU, MB, MC, TT, Nat.reduceEqDiff, Nat.reduceLT, Nat.reduceLeDiff, Nat.reduceAdd, Nat.reduceMul, Nat.reduceSub, Int.reduceToNat, reduceCtorEq, Try.f57, f1, f2]
        refine stIf hk_10 (fun hb_14 hk_10 => ?_) (fun hb_14 hk_10 => ?_)
        · obtain rfl := Option.some.inj hk_10
          try dsimp only at hy_5
          obtain rfl := Option.some.inj hy_5
          try dsimp only at h
          try simp only [↓MD, ↓actH, ↓builtinH, ↓builtinG, ↓builtinFT, MU, MB, MC, TT, Nat.reduceEqDiff, Nat.reduceLT, Nat.reduceLeDiff, Nat.reduceAdd, Nat.reduceMul, Nat.reduceSub, Int.reduceToNat, reduceCtorEq, Try.f57, f1, f2]
          obtain rfl := Option.some.inj h
          refine endT_of ?_ ⟨rfl, rfl⟩
          exact (weak_norm (ks := [0]) (π := []) (fuel := 9) (by simp only [ML, Nat.reduceEqDiff, Nat.reduceLT, Nat.reduceLeDiff, Nat.reduceAdd, Nat.reduceMul, Nat.reduceSub, Int.reduceToNat, reduceCtorEq, TL, TT]))
        · try simp only [↓MD, ↓actH, ↓builtinH, ↓builtinG, ↓builtinFT, MU, MB, MC, TT, Nat.reduceEqDiff, Nat.reduceLT, Nat.reduceLeDiff, Nat.reduceAdd, Nat.reduceMul, Nat.reduceSub, Int.reduceToNat, reduceCtorEq, Try.f57, f1, f2]
          exact ⟨IntKind.wrap .i64 (v_6 + 1), hk_10, (weak_norm (ks := [0, 1, 12, 13]) (π := []) (fuel := 9) (by simp only [ML, Nat.reduceEqDiff, Nat.reduceLT, Nat.reduceLeDiff, Nat.reduceAdd, Nat.reduceMul, Nat.reduceSub, Int.reduceToNat, reduceCtorEq, TL, TT]))⟩
      · obtain rfl := Option.some.inj hk_10
        try dsimp only at hy_5
        try simp only [↓MD, ↓actH, ↓builtinH, ↓builtinG, ↓builtinFT, MU, MB, MC, TT, Nat.reduceEqDiff, Nat.reduceLT, Nat.reduceLeDiff, Nat.reduceAdd, Nat.reduceMul, Nat.reduceSub, Int.reduceToNat, reduceCtorEq, Try.f57]
        obtain rfl := Option.some.inj hy_5
        exact cutT_mk () (by trivial) (weak_norm (ks := []) (π := []) (fuel := 9) (by simp only [ML, Nat.reduceEqDiff, Nat.reduceLT, Nat.reduceLeDiff, Nat.reduceAdd, Nat.reduceMul, Nat.reduceSub, Int.reduceToNat, reduceCtorEq, TL, TT]))
    · rintro _ hp
      replace hp := hp.symm; subst hp
      try dsimp only at h
      try simp only [↓MD, ↓actH, ↓builtinH, ↓builtinG, ↓builtinFT, MU, MB, MC, TT, Nat.reduceEqDiff, Nat.reduceLT, Nat.reduceLeDiff, Nat.reduceAdd, Nat.reduceMul, Nat.reduceSub, Int.reduceToNat, reduceCtorEq, Try.f57]
      obtain rfl := Option.some.inj h
      refine endT_of ?_ ⟨rfl, rfl⟩
      exact (weak_norm (ks := [0]) (π := []) (fuel := 9) (by simp only [ML, Nat.reduceEqDiff, Nat.reduceLT, Nat.reduceLeDiff, Nat.reduceAdd, Nat.reduceMul, Nat.reduceSub, Int.reduceToNat, reduceCtorEq, TL, TT]))
theorem c_impl_ListOk {list_1 : List GItem} {r : Bool} (h : g_impl_ListOk list_1 = some r) : Ans Try.prog 43 [.one (.imm 5 list_1.length (list_1.flatMap GItem.cs))] [] fun v h1 => v = .pv (.one (.bool r)) ∧ h1 = [] := by
  refine ansK (P := fun _ => Try.prog) TryT_eq (fn := Try.f43) Try.func43 rfl ⟨by kernel_rfl, rfl, rfl, by kernel_rfl⟩ (by simp) (Weak.refl _ _) ?_
  rw [g_impl_ListOk] at h
  obtain ⟨y_2, hy_2, h⟩ := bS h
  try simp only [↓MD, ↓actH, ↓builtinH, ↓builtinG, ↓builtinFT, MU, MB, MC, TT, Nat.reduceEqDiff, Nat.reduceLT, Nat.reduceLeDiff, Nat.reduceAdd, Nat.reduceMul, Nat.reduceSub, Int.reduceToNat, reduceCtorEq, Try.f43]
  refine callG [] 9 rfl (by simp only [ML, TT, Nat.reduceEqDiff, Nat.reduceLT, Nat.reduceLeDiff, Nat.reduceAdd, Nat.reduceMul, Nat.reduceSub, Int.reduceToNat, reduceCtorEq, TL]) (by simp only [ML, TT, Nat.reduceEqDiff, Nat.reduceLT, Nat.reduceLeDiff, Nat.reduceAdd, Nat.reduceMul, Nat.reduceSub, Int.reduceToNat, reduceCtorEq, TL]) rfl (c_impl_Unparse hy_2) (by simp only [ML, TL, Nat.reduceEqDiff, Nat.reduceLT, Nat.reduceLeDiff, Nat.reduceAdd, Nat.reduceMul, Nat.reduceSub, Int.reduceToNat, reduceCtorEq]) ?_
  intro rd b
  try simp only [↓MD, ↓actH, ↓builtinH, ↓builtinG, ↓builtinFT, MU, MB, MC, TT, Nat.reduceEqDiff, Nat.reduceLT, Nat.reduceLeDiff, Nat.reduceAdd, Nat.reduceMul, Nat.reduceSub, Int.reduceToNat, reduceCtorEq, Try.f43]
  refine seqN TryT_eq rfl ?_
  try simp only [↓MD, ↓actH, ↓builtinH, ↓builtinG, ↓builtinFT, MU, MB, MC, TT, Nat.reduceEqDiff, Nat.reduceLT, Nat.reduceLeDiff, Nat.reduceAdd, Nat.reduceMul, Nat.reduceSub, Int.reduceToNat, reduceCtorEq, Try.f43]
  refine stIf h (fun hb_3 h => ?_) (fun hb_3 h => ?_)
  · obtain ⟨y_4, hy_4, h⟩ := bS h
    try simp only [↓MD, ↓actH, ↓builtinH, ↓builtinG, ↓builtinFT, MU, MB, MC, TT, Nat.reduceEqDiff, Nat.reduceLT, Nat.reduceLeDiff, Nat.reduceAdd, Nat.reduceMul, Nat.reduceSub, Int.reduceToNat, reduceCtorEq, Try.f43, hb_3]
    refine callG [] 9 rfl (by simp only [ML, TT, Nat.reduceEqDiff, Nat.reduceLT, Nat.reduceLeDiff, Nat.reduceAdd, Nat.reduceMul, Nat.reduceSub, Int.reduceToNat, reduceCtorEq, TL]) (by simp only [ML, TT, Nat.reduceEqDiff, Nat.reduceLT, Nat.reduceLeDiff, Nat.reduceAdd, Nat.reduceMul, Nat.reduceSub, Int.reduceToNat, reduceCtorEq, TL]) rfl (c_impl_ParseCells hy_4) (by simp only [ML, TL, Nat.reduceEqDiff, Nat.reduceLT, Nat.reduceLeDiff, Nat.reduceAdd, Nat.reduceMul, Nat.reduceSub, Int.reduceToNat, reduceCtorEq]) ?_
    intro rd b
    obtain ⟨y_5, hy_5, h⟩ := bS h
    try simp only [↓MD, ↓actH, ↓builtinH, ↓builtinG, ↓builtinFT, MU, MB, MC, TT, Nat.reduceEqDiff, Nat.reduceLT, Nat.reduceLeDiff, Nat.reduceAdd, Nat.reduceMul, Nat.reduceSub, Int.reduceToNat, reduceCtorEq, Try.f43, hb_3]
    refine callG [] 9 rfl (by simp only [ML, TT, Nat.reduceEqDiff, Nat.reduceLT, Nat.reduceLeDiff, Nat.reduceAdd, Nat.reduceMul, Nat.reduceSub, Int.reduceToNat, reduceCtorEq, TL]) (by simp only [ML, TT, Nat.reduceEqDiff, Nat.reduceLT, Nat.reduceLeDiff, Nat.reduceAdd, Nat.reduceMul, Nat.reduceSub, Int.reduceToNat, reduceCtorEq, TL]) rfl (c_slices_Equal_Item hy_5) (by simp only [ML, TL, Nat.reduceEqDiff, Nat.reduceLT, Nat.reduceLeDiff, Nat.reduceAdd, Nat.reduceMul, Nat.reduceSub, Int.reduceToNat, reduceCtorEq]) ?_
    intro rd b
    try simp only [↓MD, ↓actH, ↓builtinH, ↓builtinG, ↓builtinFT, MU, MB, MC, TT, Nat.reduceEqDiff, Nat.reduceLT, Nat.reduceLeDiff, Nat.reduceAdd, Nat.reduceMul, Nat.reduceSub, Int.reduceToNat, reduceCtorEq, Try.f43, hb_3]
    obtain rfl := Option.some.inj h
    refine endT_of ?_ ⟨rfl, rfl⟩
    exact (weak_norm (ks := [0]) (π := []) (fuel := 9) (by simp only [ML, Nat.reduceEqDiff, Nat.reduceLT, Nat.reduceLeDiff, Nat.reduceAdd, Nat.reduceMul, Nat.reduceSub, Int.reduceToNat, reduceCtorEq, TL, TT]))
  · try simp only [↓MD, ↓actH, ↓builtinH, ↓builtinG, ↓builtinFT, MU, MB, MC, TT, Nat.reduceEqDiff, Nat.reduceLT, Nat.reduceLeDiff, Nat.reduceAdd, Nat.reduceMul, Nat.reduceSub, Int.reduceToNat, reduceCtorEq, Try.f43, hb_3]
    obtain rfl := Option.some.inj h
    refine endT_of ?_ ⟨rfl, rfl⟩
    exact (weak_norm (ks := [0]) (π := []) (fuel := 9) (by simp only [ML, Nat.reduceEqDiff, Nat.reduceLT, Nat.reduceLeDiff, Nat.reduceAdd, Nat.reduceMul, Nat.reduceSub, Int.reduceToNat, reduceCtorEq, TL, TT]))
theorem c_impl_EdOk {e_1 : GEd} {r : Bool} (h : g_impl_EdOk e_1 = some r) : Ans Try.prog 19 [.agg [.imm 5 e_1.Left.length (e_1.Left.flatMap GItem.cs), .imm 5 e_1.Right.length (e_1.Right.flatMap GItem.cs), .imm 5 e_1.Cut.length (e_1.Cut.flatMap GItem.cs)]] [] fun v h1 => v = .pv (.one (.bool r)) ∧ h1 = [] := by
  refine ansK (P := fun _ => Try.prog) TryT_eq (fn := Try.f19) Try.func19 rfl ⟨by kernel_rfl, rfl, rfl, by kernel_rfl⟩ (by simp) (Weak.refl _ _) ?_
  rw [g_impl_EdOk] at h
  try simp only [↓MD, ↓actH, ↓builtinH, ↓builtinG, ↓builtinFT, MU, MB, MC, TT, Nat.reduceEqDiff, Nat.reduceLT, Nat.reduceLeDiff, Nat.reduceAdd, Nat.reduceMul, Nat.reduceSub, Int.reduceToNat, reduceCtorEq, Try.f19]
  refine seqN TryT_eq rfl ?_
  try simp only [↓MD, ↓actH, ↓builtinH, ↓builtinG, ↓builtinFT, MU, MB, MC, TT, Nat.reduceEqDiff, Nat.reduceLT, Nat.reduceLeDiff, Nat.reduceAdd, Nat.reduceMul, Nat.reduceSub, Int.reduceToNat, reduceCtorEq, Try.f19]
  refine stIf h (fun hb_2 h => ?_) (fun hb_2 h => ?_)
  · obtain ⟨y_3, hy_3, h⟩ := bS h
    try simp only [↓MD, ↓actH, ↓builtinH, ↓builtinG, ↓builtinFT, MU, MB, MC, TT, Nat.reduceEqDiff, Nat.reduceLT, Nat.reduceLeDiff, Nat.reduceAdd, Nat.reduceMul, Nat.reduceSub, Int.reduceToNat, reduceCtorEq, Try.f19, hb_2]
    refine callG [] 9 rfl (by simp only [ML, TT, Nat.reduceEqDiff, Nat.reduceLT, Nat.reduceLeDiff, Nat.reduceAdd, Nat.reduceMul, Nat.reduceSub, Int.reduceToNat, reduceCtorEq, TL]) (by simp only [ML, TT, Nat.reduceEqDiff, Nat.reduceLT, Nat.reduceLeDiff, Nat.reduceAdd, Nat.reduceMul, Nat.reduceSub, Int.reduceToNat, reduceCtorEq, TL]) rfl (c_slices_ContainsFunc_Item_impl_EdOkc1 hy_3) (by simp only [ML, TL, Nat.reduceEqDiff, Nat.reduceLT, Nat.reduceLeDiff, Nat.reduceAdd, Nat.reduceMul, Nat.reduceSub, Int.reduceToNat, reduceCtorEq]) ?_
    intro rd b
    try simp only [↓MD, ↓actH, ↓builtinH, ↓builtinG, ↓builtinFT, MU, MB, MC, TT, Nat.reduceEqDiff, Nat.reduceLT, Nat.reduceLeDiff, Nat.reduceAdd, Nat.reduceMul, Nat.reduceSub, Int.reduceToNat, reduceCtorEq, Try.f19, hb_2]
    refine stIf h (fun hb_4 h => ?_) (fun hb_4 h => ?_)
    · obtain ⟨y_5, hy_5, h⟩ := bS h
      try simp only [↓MD, ↓actH, ↓builtinH, ↓builtinG, ↓builtinFT, MU, MB, MC, TT, Nat.reduceEqDiff, Nat.reduceLT, Nat.reduceLeDiff, Nat.reduceAdd, Nat.reduceMul, Nat.reduceSub, Int.reduceToNat, reduceCtorEq, Try.f19, hb_2, hb_4]
      refine callG [] 9 rfl (by simp only [ML, TT, Nat.reduceEqDiff, Nat.reduceLT, Nat.reduceLeDiff, Nat.reduceAdd, Nat.reduceMul, Nat.reduceSub, Int.reduceToNat, reduceCtorEq, TL]) (by simp only [ML, TT, Nat.reduceEqDiff, Nat.reduceLT, Nat.reduceLeDiff, Nat.reduceAdd, Nat.reduceMul, Nat.reduceSub, Int.reduceToNat, reduceCtorEq, TL]) rfl (c_impl_edItems hy_5) (by simp only [ML, TL, Nat.reduceEqDiff, Nat.reduceLT, Nat.reduceLeDiff, Nat.reduceAdd, Nat.reduceMul, Nat.reduceSub, Int.reduceToNat, reduceCtorEq]) ?_
      intro rd b
      obtain ⟨y_6, hy_6, h⟩ := bS h
      try simp only [↓MD, ↓actH, ↓builtinH, ↓builtinG, ↓builtinFT, MU, MB, MC, TT, Nat.reduceEqDiff, Nat.reduceLT, Nat.reduceLeDiff, Nat.reduceAdd, Nat.reduceMul, Nat.reduceSub, Int.reduceToNat, reduceCtorEq, Try.f19, hb_2, hb_4]
      refine callG [] 9 rfl (by simp only [ML, TT, Nat.reduceEqDiff, Nat.reduceLT, Nat.reduceLeDiff, Nat.reduceAdd, Nat.reduceMul, Nat.reduceSub, Int.reduceToNat, reduceCtorEq, TL]) (by simp only [ML, TT, Nat.reduceEqDiff, Nat.reduceLT, Nat.reduceLeDiff, Nat.reduceAdd, Nat.reduceMul, Nat.reduceSub, Int.reduceToNat, reduceCtorEq, TL]) rfl (c_impl_ListOk hy_6) (by simp only [ML, TL, Nat.reduceEqDiff, Nat.reduceLT, Nat.reduceLeDiff, Nat.reduceAdd, Nat.reduceMul, Nat.reduceSub, Int.reduceToNat, reduceCtorEq]) ?_
      intro rd b
      try simp only [↓MD, ↓actH, ↓builtinH, ↓builtinG, ↓builtinFT, MU, MB, MC, TT, Nat.reduceEqDiff, Nat.reduceLT, Nat.reduceLeDiff, Nat.reduceAdd, Nat.reduceMul, Nat.reduceSub, Int.reduceToNat, reduceCtorEq, Try.f19, hb_2, hb_4]
      obtain rfl := Option.some.inj h
      refine endT_of ?_ ⟨rfl, rfl⟩
      exact (weak_norm (ks := [0]) (π := []) (fuel := 9) (by simp only [ML, Nat.reduceEqDiff, Nat.reduceLT, Nat.reduceLeDiff, Nat.reduceAdd, Nat.reduceMul, Nat.reduceSub, Int.reduceToNat, reduceCtorEq, TL, TT]))
    · try simp only [↓MD, ↓actH, ↓builtinH, ↓builtinG, ↓builtinFT, MU, MB, MC, TT, Nat.reduceEqDiff, Nat.reduceLT, Nat.reduceLeDiff, Nat.reduceAdd, Nat.reduceMul, Nat.reduceSub, Int.reduceToNat, reduceCtorEq, Try.f19, hb_2, hb_4]
      obtain rfl := Option.some.inj h
      refine endT_of ?_ ⟨rfl, rfl⟩
      exact (weak_norm (ks := [0]) (π := []) (fuel := 9) (by simp only [ML, Nat.reduceEqDiff, Nat.reduceLT, Nat.reduceLeDiff, Nat.reduceAdd, Nat.reduceMul, Nat.reduceSub, Int.reduceToNat, reduceCtorEq, TL, TT]))
  · try simp only [↓MD, ↓actH, ↓builtinH, ↓builtinG, ↓builtinFT, MU, MB, MC, TT, Nat.reduceEqDiff, Nat.reduceLT, Nat.reduceLeDiff, Nat.reduceAdd, Nat.reduceMul, Nat.reduceSub, Int.reduceToNat, reduceCtorEq, Try.f19, hb_2]
    obtain rfl := Option.some.inj h
    refine endT_of ?_ ⟨rfl, rfl⟩
    exact (weak_norm (ks := [0]) (π := []) (fuel := 9) (by simp only [ML, Nat.reduceEqDiff, Nat.reduceLT, Nat.reduceLeDiff, Nat.reduceAdd, Nat.reduceMul, Nat.reduceSub, Int.reduceToNat, reduceCtorEq, TL, TT]))
theorem c_impl_EdCells {e_1 : GEd} {r : (List Int)} (h : g_impl_EdCells e_1 = some r) : Ans Try.prog 22 [.agg [.imm 5 e_1.Left.length (e_1.Left.flatMap GItem.cs), .imm 5 e_1.Right.length (e_1.Right.flatMap GItem.cs), .imm 5 e_1.Cut.length (e_1.Cut.flatMap GItem.cs)]] [] fun v h1 => v = .pv (.one (.arr 0 0 r.length)) ∧ h1 = [.live ⟨1, r.length, r.flatMap (eI .u32)⟩] := by
  refine ansK (P := fun _ => Try.prog) TryT_eq (fn := Try.f22) Try.func22 rfl ⟨by kernel_rfl, rfl, rfl, by kernel_rfl⟩ (by simp) (Weak.refl _ _) ?_
  rw [g_impl_EdCells] at h
  try simp only [↓MD, ↓actH, ↓builtinH, ↓builtinG, ↓builtinFT, MU, MB, MC, TT, Nat.reduceEqDiff, Nat.reduceLT, Nat.reduceLeDiff, Nat.reduceAdd, Nat.reduceMul, Nat.reduceSub, Int.reduceToNat, reduceCtorEq, Try.f22]
  refine seqN TryT_eq rfl ?_
  obtain ⟨y_2, hy_2, h⟩ := bS h
  try simp only [↓MD, ↓actH, ↓builtinH, ↓builtinG, ↓builtinFT, MU, MB, MC, TT, Nat.reduceEqDiff, Nat.reduceLT, Nat.reduceLeDiff, Nat.reduceAdd, Nat.reduceMul, Nat.reduceSub, Int.reduceToNat, reduceCtorEq, Try.f22]
  refine callG [] 9 rfl (by simp only [ML, TT, Nat.reduceEqDiff, Nat.reduceLT, Nat.reduceLeDiff, Nat.reduceAdd, Nat.reduceMul, Nat.reduceSub, Int.reduceToNat, reduceCtorEq, TL]) (by simp only [ML, TT, Nat.reduceEqDiff, Nat.reduceLT, Nat.reduceLeDiff, Nat.reduceAdd, Nat.reduceMul, Nat.reduceSub, Int.reduceToNat, reduceCtorEq, TL]) rfl (c_impl_EdOk hy_2) (by simp only [ML, TL, Nat.reduceEqDiff, Nat.reduceLT, Nat.reduceLeDiff, Nat.reduceAdd, Nat.reduceMul, Nat.reduceSub, Int.reduceToNat, reduceCtorEq]) ?_
  intro rd b
  try simp only [↓MD, ↓actH, ↓builtinH, ↓builtinG, ↓builtinFT, MU, MB, MC, TT, Nat.reduceEqDiff, Nat.reduceLT, Nat.reduceLeDiff, Nat.reduceAdd, Nat.reduceMul, Nat.reduceSub, Int.reduceToNat, reduceCtorEq, Try.f22]
  refine stIf h (fun hb_3 h => ?_) (fun hb_3 h => ?_)
  · try simp only [↓MD, ↓actH, ↓builtinH, ↓builtinG, ↓builtinFT, MU, MB, MC, TT, Nat.reduceEqDiff, Nat.reduceLT, Nat.reduceLeDiff, Nat.reduceAdd, Nat.reduceMul, Nat.reduceSub, Int.reduceToNat, reduceCtorEq, Try.f22]
    obtain rfl := Option.some.inj h
    refine endT_of ?_ ⟨rfl, rfl⟩
    exact ((weak_norm (ks := [0]) (π := []) (fuel := 9) (s' := ⟨[(0, .pv (.one (.emp)))], []⟩) (by simp only [ML, Nat.reduceEqDiff, Nat.reduceLT, Nat.reduceLeDiff, Nat.reduceAdd, Nat.reduceMul, Nat.reduceSub, Int.reduceToNat, reduceCtorEq, TL, TT])).trans (weak_le (by simp only [LEb, Nat.reduceEqDiff, Nat.reduceLT, Nat.reduceLeDiff, Nat.reduceAdd, Nat.reduceMul, Nat.reduceSub, Int.reduceToNat, reduceCtorEq, TL]) (by simp only [LEb, Nat.reduceEqDiff, Nat.reduceLT, Nat.reduceLeDiff, Nat.reduceAdd, Nat.reduceMul, Nat.reduceSub, Int.reduceToNat, reduceCtorEq, TL])))
  · obtain ⟨y_4, hy_4, h⟩ := bS h
    try simp only [↓MD, ↓actH, ↓builtinH, ↓builtinG, ↓builtinFT, MU, MB, MC, TT, Nat.reduceEqDiff, Nat.reduceLT, Nat.reduceLeDiff, Nat.reduceAdd, Nat.reduceMul, Nat.reduceSub, Int.reduceToNat, reduceCtorEq, Try.f22]
    refine callG [] 9 rfl (by simp only [ML, TT, Nat.reduceEqDiff, Nat.reduceLT, Nat.reduceLeDiff, Nat.reduceAdd, Nat.reduceMul, Nat.reduceSub, Int.reduceToNat, reduceCtorEq, TL]) (by simp only [ML, TT, Nat.reduceEqDiff, Nat.reduceLT, Nat.reduceLeDiff, Nat.reduceAdd, Nat.reduceMul, Nat.reduceSub, Int.reduceToNat, reduceCtorEq, TL]) rfl (c_impl_edItems hy_4) (by simp only [ML, TL, Nat.reduceEqDiff, Nat.reduceLT, Nat.reduceLeDiff, Nat.reduceAdd, Nat.reduceMul, Nat.reduceSub, Int.reduceToNat, reduceCtorEq]) ?_
    intro rd b
    obtain ⟨y_5, hy_5, h⟩ := bS h
    try simp only [↓MD, ↓actH, ↓builtinH, ↓builtinG, ↓builtinFT, MU, MB, MC, TT, Nat.reduceEqDiff, Nat.reduceLT, Nat.reduceLeDiff, Nat.reduceAdd, Nat.reduceMul, Nat.reduceSub, Int.reduceToNat, reduceCtorEq, Try.f22]
    refine callG [] 9 rfl (by simp only [ML, TT, Nat.reduceEqDiff, Nat.reduceLT, Nat.reduceLeDiff, Nat.reduceAdd, Nat.reduceMul, Nat.reduceSub, Int.reduceToNat, reduceCtorEq, TL]) (by simp only [ML, TT, Nat.reduceEqDiff, Nat.reduceLT, Nat.reduceLeDiff, Nat.reduceAdd, Nat.reduceMul, Nat.reduceSub, Int.reduceToNat, reduceCtorEq, TL]) rfl (c_impl_Unparse hy_5) (by simp only [ML, TL, Nat.reduceEqDiff, Nat.reduceLT, Nat.reduceLeDiff, Nat.reduceAdd, Nat.reduceMul, Nat.reduceSub, Int.reduceToNat, reduceCtorEq]) ?_
    intro rd b
    try simp only [↓MD, ↓actH, ↓builtinH, ↓builtinG, ↓builtinFT, MU, MB, MC, TT, Nat.reduceEqDiff, Nat.reduceLT, Nat.reduceLeDiff, Nat.reduceAdd, Nat.reduceMul, Nat.reduceSub, Int.reduceToNat, reduceCtorEq, Try.f22]
    obtain rfl := Option.some.inj h
    refine endT_of ?_ ⟨rfl, rfl⟩
    exact (weak_norm (ks := [0]) (π := [2]) (fuel := 9) (by simp only [ML, Nat.reduceEqDiff, Nat.reduceLT, Nat.reduceLeDiff, Nat.reduceAdd, Nat.reduceMul, Nat.reduceSub, Int.reduceToNat, reduceCtorEq, TL, TT]))
theorem c_laws_padded {cells_1 : List Int} {r : (List Int)} (h : g_laws_padded cells_1 = some r) : Ans Try.prog 21 [.one (.imm 1 cells_1.length (cells_1.flatMap (eI .u32)))] [] fun v h1 => v = .pv (.one (.arr 0 0 r.length)) ∧ h1 = [.live ⟨1, r.length, r.flatMap (eI .u32)⟩] := by
  refine ansK (P := fun _ => Try.prog) TryT_eq (fn := Try.f21) Try.func21 rfl ⟨by kernel_rfl, rfl, rfl, by kernel_rfl⟩ (by simp) (Weak.refl _ _) ?_
  rw [g_laws_padded] at h
  obtain ⟨v_2, hv_2, h⟩ := bS h
  have f1 := (show bldN 0 = 0 from rfl)
  have f2 := (show bldC [] = ([] : List Int).flatMap (eI .u32) from rfl)
  have f3 := (fApp hv_2 (n := 0) (by simp) (m := cells_1.length) (by simp [bsOf]))
  have f4 := (fWin (eI_ok .u32) (n := 0) (xs := ([] : List Int)) (by simp))
  have f5 := (fCat (e := (eI .u32)) (ns := cells_1.flatMap (eI .u32)) hv_2 rfl)
  try simp only [↓MD, ↓actH, ↓builtinH, ↓builtinG, ↓builtinFT, MU, MB, MC, TT, Nat.reduceEqDiff, Nat.reduceLT, Nat.reduceLeDiff, Nat.reduceAdd, Nat.reduceMul, Nat.reduceSub, Int.reduceToNat, reduceCtorEq, Try.f21, f1, f2, f3, f4, f5]
  obtain ⟨y_5, hy_6, h⟩ := bS h
  refine seqK TryT_eq (fun p : (List Int) => ⟨[(3, .pv (.one (.arr 0 0 p.length)))], [.live ⟨1, p.length, p.flatMap (eI .u32)⟩]⟩) (fun v => y_5 = v) (by rfl) ?_ ?_
  · try simp only [↓MD, ↓actH, ↓builtinH, ↓builtinG, ↓builtinFT, MU, MB, MC, TT, Nat.reduceEqDiff, Nat.reduceLT, Nat.reduceLeDiff, Nat.reduceAdd, Nat.reduceMul, Nat.reduceSub, Int.reduceToNat, reduceCtorEq, Try.f21, f1, f2, f3, f4, f5]
    refine loopK TryT_eq (fun p : (List Int) => ⟨[(3, .pv (.one (.arr 0 0 p.length)))], [.live ⟨1, p.length, p.flatMap (eI .u32)⟩]⟩) (fun k p => g_laws_padded_l0 k p = some y_5) (by kernel_rfl) bigK v_2 (weak_norm (ks := [3]) (π := [1]) (fuel := 9) (by simp only [ML, Nat.reduceEqDiff, Nat.reduceLT, Nat.reduceLeDiff, Nat.reduceAdd, Nat.reduceMul, Nat.reduceSub, Int.reduceToNat, reduceCtorEq, TL, TT])) hy_6 (fun _ h => nomatch (show none = some _ from h)) ?_
    rintro k_7 out_3 hk_8
    rw [g_laws_padded_l0] at hk_8
    try dsimp only at hk_8
    try simp only [↓MD, ↓actH, ↓builtinH, ↓builtinG, ↓builtinFT, MU, MB, MC, TT, Nat.reduceEqDiff, Nat.reduceLT, Nat.reduceLeDiff, Nat.reduceAdd, Nat.reduceMul, Nat.reduceSub, Int.reduceToNat, reduceCtorEq, Try.f21]
    refine seqN TryT_eq rfl ?_
    try simp only [↓MD, ↓actH, ↓builtinH, ↓builtinG, ↓builtinFT, MU, MB, MC, TT, Nat.reduceEqDiff, Nat.reduceLT, Nat.reduceLeDiff, Nat.reduceAdd, Nat.reduceMul, Nat.reduceSub, Int.reduceToNat, reduceCtorEq, Try.f21]
    refine stIf hk_8 (fun hb_9 hk_8 => ?_) (fun hb_9 hk_8 => ?_)
    · obtain ⟨v_10, hv_10, hk_8⟩ := bS hk_8
      have f6 := (show bldN 1 = 1 from rfl)
      have f7 := (show bldC [.int .u32 0] = [0].flatMap (eI .u32) from rfl)
      have f8 := (fWin (eI_ok .u32) (n := 1) (xs := [0]) (by simp))
      have f9 := (fApp hv_10 (n := out_3.length) (by simp) (m := 1) (by simp [bsOf]))
      have f10 := (fWin (eI_ok .u32) (n := out_3.length) (xs := out_3) (by simp))
      have f11 := (fCat (e := (eI .u32)) (ns := [0].flatMap (eI .u32)) hv_10 rfl)
      try simp only [↓MD, ↓actH, ↓builtinH, ↓builtinG, ↓builtinFT, MU, MB, MC, TT, Nat.reduceEqDiff, Nat.reduceLT, Nat.reduceLeDiff, Nat.reduceAdd, Nat.reduceMul, Nat.reduceSub, Int.reduceToNat, reduceCtorEq, Try.f21, f6, f7, f8, f9, f10, f11]
      exact ⟨v_10, hk_8, (weak_norm (ks := [3]) (π := [2]) (fuel := 9) (by simp only [ML, Nat.reduceEqDiff, Nat.reduceLT, Nat.reduceLeDiff, Nat.reduceAdd, Nat.reduceMul, Nat.reduceSub, Int.reduceToNat, reduceCtorEq, TL, TT]))⟩
    · try simp only [↓MD, ↓actH, ↓builtinH, ↓builtinG, ↓builtinFT, MU, MB, MC, TT, Nat.reduceEqDiff, Nat.reduceLT, Nat.reduceLeDiff, Nat.reduceAdd, Nat.reduceMul, Nat.reduceSub, Int.reduceToNat, reduceCtorEq, Try.f21]
      obtain rfl := Option.some.inj hk_8
      exact cutT_mk out_3 rfl (weak_norm (ks := [3]) (π := [0]) (fuel := 9) (by simp only [ML, Nat.reduceEqDiff, Nat.reduceLT, Nat.reduceLeDiff, Nat.reduceAdd, Nat.reduceMul, Nat.reduceSub, Int.reduceToNat, reduceCtorEq, TL, TT]))
  · rintro out_4 hp
    replace hp := hp.symm; subst hp
    try dsimp only at h
    try simp only [↓MD, ↓actH, ↓builtinH, ↓builtinG, ↓builtinFT, MU, MB, MC, TT, Nat.reduceEqDiff, Nat.reduceLT, Nat.reduceLeDiff, Nat.reduceAdd, Nat.reduceMul, Nat.reduceSub, Int.reduceToNat, reduceCtorEq, Try.f21]
    obtain rfl := Option.some.inj h
    refine endT_of ?_ ⟨rfl, rfl⟩
    exact (weak_norm (ks := [0]) (π := [0]) (fuel := 9) (by simp only [ML, Nat.reduceEqDiff, Nat.reduceLT, Nat.reduceLeDiff, Nat.reduceAdd, Nat.reduceMul, Nat.reduceSub, Int.reduceToNat, reduceCtorEq, TL, TT]))
theorem c_laws_sameCells {a_1 : List Int} {b_2 : List Int} {r : Bool} (h : g_laws_sameCells a_1 b_2 = some r) : Ans Try.prog 20 [.one (.imm 1 a_1.length (a_1.flatMap (eI .u32))), .one (.imm 1 b_2.length (b_2.flatMap (eI .u32)))] [] fun v h1 => v = .pv (.one (.bool r)) ∧ h1 = [] := by
  refine ansK (P := fun _ => Try.prog) TryT_eq (fn := Try.f20) Try.func20 rfl ⟨by kernel_rfl, rfl, rfl, by kernel_rfl⟩ (by simp) (Weak.refl _ _) ?_
  rw [g_laws_sameCells] at h
  try simp only [↓MD, ↓actH, ↓builtinH, ↓builtinG, ↓builtinFT, MU, MB, MC, TT, Nat.reduceEqDiff, Nat.reduceLT, Nat.reduceLeDiff, Nat.reduceAdd, Nat.reduceMul, Nat.reduceSub, Int.reduceToNat, reduceCtorEq, Try.f20]
  refine seqN TryT_eq rfl ?_
  try simp only [↓MD, ↓actH, ↓builtinH, ↓builtinG, ↓builtinFT, MU, MB, MC, TT, Nat.reduceEqDiff, Nat.reduceLT, Nat.reduceLeDiff, Nat.reduceAdd, Nat.reduceMul, Nat.reduceSub, Int.reduceToNat, reduceCtorEq, Try.f20]
  refine stIf h (fun hb_3 h => ?_) (fun hb_3 h => ?_)
  · try simp only [↓MD, ↓actH, ↓builtinH, ↓builtinG, ↓builtinFT, MU, MB, MC, TT, Nat.reduceEqDiff, Nat.reduceLT, Nat.reduceLeDiff, Nat.reduceAdd, Nat.reduceMul, Nat.reduceSub, Int.reduceToNat, reduceCtorEq, Try.f20]
    obtain rfl := Option.some.inj h
    refine endT_of ?_ ⟨rfl, rfl⟩
    exact (weak_norm (ks := [0]) (π := []) (fuel := 9) (by simp only [ML, Nat.reduceEqDiff, Nat.reduceLT, Nat.reduceLeDiff, Nat.reduceAdd, Nat.reduceMul, Nat.reduceSub, Int.reduceToNat, reduceCtorEq, TL, TT]))
  · try simp only [↓MD, ↓actH, ↓builtinH, ↓builtinG, ↓builtinFT, MU, MB, MC, TT, Nat.reduceEqDiff, Nat.reduceLT, Nat.reduceLeDiff, Nat.reduceAdd, Nat.reduceMul, Nat.reduceSub, Int.reduceToNat, reduceCtorEq, Try.f20]
    obtain ⟨y_4, hy_5, h⟩ := bS h
    refine seqK TryT_eq (fun p : Unit => ⟨[], []⟩) (fun v => y_4 = .inl v) (by rfl) ?_ ?_
    · try simp only [↓MD, ↓actH, ↓builtinH, ↓builtinG, ↓builtinFT, MU, MB, MC, TT, Nat.reduceEqDiff, Nat.reduceLT, Nat.reduceLeDiff, Nat.reduceAdd, Nat.reduceMul, Nat.reduceSub, Int.reduceToNat, reduceCtorEq, Try.f20]
      obtain ⟨y_7, hy_8, hy_5⟩ := bS hy_5
      refine loopK TryT_eq (fun p : Int => ⟨[(0, .pv (.one (.imm 1 a_1.length (a_1.flatMap (eI .u32))))), (1, .pv (.one (.imm 1 b_2.length (b_2.flatMap (eI .u32))))), (5, .pv (.one (.int .i64 p)))], []⟩) (fun k p => g_laws_sameCells_l0 a_1 b_2 k p = some y_7) (by kernel_rfl) bigK 0 (weak_norm (ks := [0, 1, 5]) (π := []) (fuel := 9) (by simp only [ML, Nat.reduceEqDiff, Nat.reduceLT, Nat.reduceLeDiff, Nat.reduceAdd, Nat.reduceMul, Nat.reduceSub, Int.reduceToNat, reduceCtorEq, TL, TT])) hy_8 (fun _ h => nomatch (show none = some _ from h)) ?_
      rintro k_9 i_6 hk_10
      rw [g_laws_sameCells_l0] at hk_10
      try dsimp only at hk_10
      try simp only [↓MD, ↓actH, ↓builtinH, ↓builtinG, ↓builtinFT, MU, MB, MC, TT, Nat.reduceEqDiff, Nat.reduceLT, Nat.reduceLeDiff, Nat.reduceAdd, Nat.reduceMul, Nat.reduceSub, Int.reduceToNat, reduceCtorEq, Try.f20]
      refine seqN TryT_eq rfl ?_
      try simp only [↓MD, ↓actH, ↓builtinH, ↓builtinG, ↓builtinFT, MU, MB, MC, TT, Nat.reduceEqDiff, Nat.reduceLT, Nat.reduceLeDiff, Nat.reduceAdd, Nat.reduceMul, Nat.reduceSub, Int.reduceToNat, reduceCtorEq, Try.f20]
      refine stIf hk_10 (fun hb_11 hk_10 => ?_) (fun hb_11 hk_10 => ?_)
      · try simp only [↓MD, ↓actH, ↓builtinH, ↓builtinG, ↓builtinFT, MU, MB, MC, TT, Nat.reduceEqDiff, Nat.reduceLT, Nat.reduceLeDiff, Nat.reduceAdd, Nat.reduceMul, Nat.reduceSub, Int.reduceToNat, reduceCtorEq, Try.f20]
        refine seqN TryT_eq rfl ?_
        obtain ⟨v_12, hv_12, hk_10⟩ := bS hk_10
        obtain ⟨v_13, hv_13, hk_10⟩ := bS hk_10
        have f1 := (fAt (eI_ok .u32) hv_12 (n := a_1.length) (by simp))
        have f2 := (fAt (eI_ok .u32) hv_13 (n := b_2.length) (by simp))
        try simp only [↓MD, ↓actH, ↓builtinH, ↓builtinG, ↓builtinFT, MU, MB, MC, TT, Nat.reduceEqDiff, Nat.reduceLT, Nat.reduceLeDiff, Nat.reduceAdd, Nat.reduceMul, Nat.reduceSub, Int.reduceToNat, reduceCtorEq, Try.f20, f1, f2]
        refine ⟨rfl, ?_⟩
        try simp only [↓MD, ↓actH, ↓builtinH, ↓builtinG, ↓builtinFT, MU, MB, MC, TT, Nat.reduceEqDiff, Nat.reduceLT, Nat.reduceLeDiff, Nat.reduceAdd, Nat.reduceMul, Nat.reduceSub, Int.reduceToNat, reduceCtorEq, Try.f20, f1, f2]
        refine stIf hk_10 (fun hb_14 hk_10 => ?_) (fun hb_14 hk_10 => ?_)
        · obtain rfl := Option.some.inj hk_10
          try dsimp only at hy_5
          obtain rfl := Option.some.inj hy_5
          try dsimp only at h
          try simp only [↓MD, ↓actH, ↓builtinH, ↓builtinG, ↓builtinFT, MU, MB, MC, TT, Nat.reduceEqDiff, Nat.reduceLT, Nat.reduceLeDiff, Nat.reduceAdd, Nat.reduceMul, Nat.reduceSub, Int.reduceToNat, reduceCtorEq, Try.f20, f1, f2]
          obtain rfl := Option.some.inj h
          refine endT_of ?_ ⟨rfl, rfl⟩
          exact (weak_norm (ks := [0]) (π := []) (fuel := 9) (by simp only [ML, Nat.reduceEqDiff, Nat.reduceLT, Nat.reduceLeDiff, Nat.reduceAdd, Nat.reduceMul, Nat.reduceSub, Int.reduceToNat, reduceCtorEq, TL, TT]))
        · try simp only [↓MD, ↓actH, ↓builtinH, ↓builtinG, ↓builtinFT, MU, MB, MC, TT, Nat.reduceEqDiff, Nat.reduceLT, Nat.reduceLeDiff, Nat.reduceAdd, Nat.reduceMul, Nat.reduceSub, Int.reduceToNat, reduceCtorEq, Try.f20, f1, f2]
          exact ⟨IntKind.wrap .i64 (i_6 + 1), hk_10, (weak_norm (ks := [0, 1, 5]) (π := []) (fuel := 9) (by simp only [ML, Nat.reduceEqDiff, Nat.reduceLT, Nat.reduceLeDiff, Nat.reduceAdd, Nat.reduceMul, Nat.reduceSub, Int.reduceToNat, reduceCtorEq, TL, TT]))⟩
      · obtain rfl := Option.some.inj hk_10
        try dsimp only at hy_5
        try simp only [↓MD, ↓actH, ↓builtinH, ↓builtinG, ↓builtinFT, MU, MB, MC, TT, Nat.reduceEqDiff, Nat.reduceLT, Nat.reduceLeDiff, Nat.reduceAdd, Nat.reduceMul, Nat.reduceSub, Int.reduceToNat, reduceCtorEq, Try.f20]
        obtain rfl := Option.some.inj hy_5
        exact cutT_mk () (by trivial) (weak_norm (ks := []) (π := []) (fuel := 9) (by simp only [ML, Nat.reduceEqDiff, Nat.reduceLT, Nat.reduceLeDiff, Nat.reduceAdd, Nat.reduceMul, Nat.reduceSub, Int.reduceToNat, reduceCtorEq, TL, TT]))
    · rintro _ hp
      replace hp := hp.symm; subst hp
      try dsimp only at h
      try simp only [↓MD, ↓actH, ↓builtinH, ↓builtinG, ↓builtinFT, MU, MB, MC, TT, Nat.reduceEqDiff, Nat.reduceLT, Nat.reduceLeDiff, Nat.reduceAdd, Nat.reduceMul, Nat.reduceSub, Int.reduceToNat, reduceCtorEq, Try.f20]
      obtain rfl := Option.some.inj h
      refine endT_of ?_ ⟨rfl, rfl⟩
      exact (weak_norm (ks := [0]) (π := []) (fuel := 9) (by simp only [ML, Nat.reduceEqDiff, Nat.reduceLT, Nat.reduceLeDiff, Nat.reduceAdd, Nat.reduceMul, Nat.reduceSub, Int.reduceToNat, reduceCtorEq, TL, TT]))
theorem c_laws_FnOpen {code_1 : List Int} {r : Bool} (h : g_laws_FnOpen code_1 = some r) : Ans Try.prog 6 [.one (.imm 1 code_1.length (code_1.flatMap (eI .u8)))] [] fun v h1 => v = .pv (.one (.bool r)) ∧ h1 = [] := by
  refine ansK (P := fun _ => Try.prog) TryT_eq (fn := Try.f6) Try.func6 rfl ⟨by kernel_rfl, rfl, rfl, by kernel_rfl⟩ (by simp) (Weak.refl _ _) ?_
  rw [g_laws_FnOpen] at h
  try simp only [↓MD, ↓actH, ↓builtinH, ↓builtinG, ↓builtinFT, MU, MB, MC, TT, Nat.reduceEqDiff, Nat.reduceLT, Nat.reduceLeDiff, Nat.reduceAdd, Nat.reduceMul, Nat.reduceSub, Int.reduceToNat, reduceCtorEq, Try.f6]
  refine seqN TryT_eq rfl ?_
  obtain ⟨y_2, hy_2, h⟩ := bS h
  try simp only [↓MD, ↓actH, ↓builtinH, ↓builtinG, ↓builtinFT, MU, MB, MC, TT, Nat.reduceEqDiff, Nat.reduceLT, Nat.reduceLeDiff, Nat.reduceAdd, Nat.reduceMul, Nat.reduceSub, Int.reduceToNat, reduceCtorEq, Try.f6]
  refine callG [] 9 rfl (by simp only [ML, TT, Nat.reduceEqDiff, Nat.reduceLT, Nat.reduceLeDiff, Nat.reduceAdd, Nat.reduceMul, Nat.reduceSub, Int.reduceToNat, reduceCtorEq, TL]) (by simp only [ML, TT, Nat.reduceEqDiff, Nat.reduceLT, Nat.reduceLeDiff, Nat.reduceAdd, Nat.reduceMul, Nat.reduceSub, Int.reduceToNat, reduceCtorEq, TL]) rfl (c_laws_big hy_2) (by simp only [ML, TL, Nat.reduceEqDiff, Nat.reduceLT, Nat.reduceLeDiff, Nat.reduceAdd, Nat.reduceMul, Nat.reduceSub, Int.reduceToNat, reduceCtorEq]) ?_
  intro rd b
  try simp only [↓MD, ↓actH, ↓builtinH, ↓builtinG, ↓builtinFT, MU, MB, MC, TT, Nat.reduceEqDiff, Nat.reduceLT, Nat.reduceLeDiff, Nat.reduceAdd, Nat.reduceMul, Nat.reduceSub, Int.reduceToNat, reduceCtorEq, Try.f6]
  refine stIf h (fun hb_3 h => ?_) (fun hb_3 h => ?_)
  · try simp only [↓MD, ↓actH, ↓builtinH, ↓builtinG, ↓builtinFT, MU, MB, MC, TT, Nat.reduceEqDiff, Nat.reduceLT, Nat.reduceLeDiff, Nat.reduceAdd, Nat.reduceMul, Nat.reduceSub, Int.reduceToNat, reduceCtorEq, Try.f6]
    obtain rfl := Option.some.inj h
    refine endT_of ?_ ⟨rfl, rfl⟩
    exact (weak_norm (ks := [0]) (π := []) (fuel := 9) (by simp only [ML, Nat.reduceEqDiff, Nat.reduceLT, Nat.reduceLeDiff, Nat.reduceAdd, Nat.reduceMul, Nat.reduceSub, Int.reduceToNat, reduceCtorEq, TL, TT]))
  · obtain ⟨y_4, hy_4, h⟩ := bS h
    try simp only [↓MD, ↓actH, ↓builtinH, ↓builtinG, ↓builtinFT, MU, MB, MC, TT, Nat.reduceEqDiff, Nat.reduceLT, Nat.reduceLeDiff, Nat.reduceAdd, Nat.reduceMul, Nat.reduceSub, Int.reduceToNat, reduceCtorEq, Try.f6]
    refine callG [] 9 rfl (by simp only [ML, TT, Nat.reduceEqDiff, Nat.reduceLT, Nat.reduceLeDiff, Nat.reduceAdd, Nat.reduceMul, Nat.reduceSub, Int.reduceToNat, reduceCtorEq, TL]) (by simp only [ML, TT, Nat.reduceEqDiff, Nat.reduceLT, Nat.reduceLeDiff, Nat.reduceAdd, Nat.reduceMul, Nat.reduceSub, Int.reduceToNat, reduceCtorEq, TL]) rfl (c_spec_DrawOpenEd hy_4) (by simp only [ML, TL, Nat.reduceEqDiff, Nat.reduceLT, Nat.reduceLeDiff, Nat.reduceAdd, Nat.reduceMul, Nat.reduceSub, Int.reduceToNat, reduceCtorEq]) ?_
    intro rd b
    obtain ⟨y_5, hy_5, h⟩ := bS h
    try simp only [↓MD, ↓actH, ↓builtinH, ↓builtinG, ↓builtinFT, MU, MB, MC, TT, Nat.reduceEqDiff, Nat.reduceLT, Nat.reduceLeDiff, Nat.reduceAdd, Nat.reduceMul, Nat.reduceSub, Int.reduceToNat, reduceCtorEq, Try.f6]
    refine callG [] 9 rfl (by simp only [ML, TT, Nat.reduceEqDiff, Nat.reduceLT, Nat.reduceLeDiff, Nat.reduceAdd, Nat.reduceMul, Nat.reduceSub, Int.reduceToNat, reduceCtorEq, TL]) (by simp only [ML, TT, Nat.reduceEqDiff, Nat.reduceLT, Nat.reduceLeDiff, Nat.reduceAdd, Nat.reduceMul, Nat.reduceSub, Int.reduceToNat, reduceCtorEq, TL]) rfl (c_impl_OpenEd hy_5) (by simp only [ML, TL, Nat.reduceEqDiff, Nat.reduceLT, Nat.reduceLeDiff, Nat.reduceAdd, Nat.reduceMul, Nat.reduceSub, Int.reduceToNat, reduceCtorEq]) ?_
    intro rd b
    try simp only [↓MD, ↓actH, ↓builtinH, ↓builtinG, ↓builtinFT, MU, MB, MC, TT, Nat.reduceEqDiff, Nat.reduceLT, Nat.reduceLeDiff, Nat.reduceAdd, Nat.reduceMul, Nat.reduceSub, Int.reduceToNat, reduceCtorEq, Try.f6]
    refine seqN TryT_eq rfl ?_
    try simp only [↓MD, ↓actH, ↓builtinH, ↓builtinG, ↓builtinFT, MU, MB, MC, TT, Nat.reduceEqDiff, Nat.reduceLT, Nat.reduceLeDiff, Nat.reduceAdd, Nat.reduceMul, Nat.reduceSub, Int.reduceToNat, reduceCtorEq, Try.f6]
    refine stIf h (fun hb_6 h => ?_) (fun hb_6 h => ?_)
    · obtain ⟨y_7, hy_7, h⟩ := bS h
      try simp only [↓MD, ↓actH, ↓builtinH, ↓builtinG, ↓builtinFT, MU, MB, MC, TT, Nat.reduceEqDiff, Nat.reduceLT, Nat.reduceLeDiff, Nat.reduceAdd, Nat.reduceMul, Nat.reduceSub, Int.reduceToNat, reduceCtorEq, Try.f6]
      refine callG (ps := [.agg [.imm 5 y_5.Left.length (y_5.Left.flatMap GItem.cs), .imm 5 y_5.Right.length (y_5.Right.flatMap GItem.cs), .imm 5 y_5.Cut.length (y_5.Cut.flatMap GItem.cs)], .agg [.emp, .emp, .emp]]) [] 9 rfl (by simp only [ML, TT, Nat.reduceEqDiff, Nat.reduceLT, Nat.reduceLeDiff, Nat.reduceAdd, Nat.reduceMul, Nat.reduceSub, Int.reduceToNat, reduceCtorEq, TL]) (by simp only [ML, TT, Nat.reduceEqDiff, Nat.reduceLT, Nat.reduceLeDiff, Nat.reduceAdd, Nat.reduceMul, Nat.reduceSub, Int.reduceToNat, reduceCtorEq, TL]) rfl (ans_le (c_laws_sameEd hy_7) (by simp only [LEb, Nat.reduceEqDiff, Nat.reduceLT, Nat.reduceLeDiff, Nat.reduceAdd, Nat.reduceMul, Nat.reduceSub, Int.reduceToNat, reduceCtorEq, TL])) (by simp only [ML, TL, Nat.reduceEqDiff, Nat.reduceLT, Nat.reduceLeDiff, Nat.reduceAdd, Nat.reduceMul, Nat.reduceSub, Int.reduceToNat, reduceCtorEq]) ?_
      intro rd b
      try simp only [↓MD, ↓actH, ↓builtinH, ↓builtinG, ↓builtinFT, MU, MB, MC, TT, Nat.reduceEqDiff, Nat.reduceLT, Nat.reduceLeDiff, Nat.reduceAdd, Nat.reduceMul, Nat.reduceSub, Int.reduceToNat, reduceCtorEq, Try.f6]
      obtain rfl := Option.some.inj h
      refine endT_of ?_ ⟨rfl, rfl⟩
      exact (weak_norm (ks := [0]) (π := []) (fuel := 9) (by simp only [ML, Nat.reduceEqDiff, Nat.reduceLT, Nat.reduceLeDiff, Nat.reduceAdd, Nat.reduceMul, Nat.reduceSub, Int.reduceToNat, reduceCtorEq, TL, TT]))
    · try simp only [↓MD, ↓actH, ↓builtinH, ↓builtinG, ↓builtinFT, MU, MB, MC, TT, Nat.reduceEqDiff, Nat.reduceLT, Nat.reduceLeDiff, Nat.reduceAdd, Nat.reduceMul, Nat.reduceSub, Int.reduceToNat, reduceCtorEq, Try.f6]
      refine seqN TryT_eq rfl ?_
      obtain ⟨y_8, hy_8, h⟩ := bS h
      try simp only [↓MD, ↓actH, ↓builtinH, ↓builtinG, ↓builtinFT, MU, MB, MC, TT, Nat.reduceEqDiff, Nat.reduceLT, Nat.reduceLeDiff, Nat.reduceAdd, Nat.reduceMul, Nat.reduceSub, Int.reduceToNat, reduceCtorEq, Try.f6]
      refine callG [] 9 rfl (by simp only [ML, TT, Nat.reduceEqDiff, Nat.reduceLT, Nat.reduceLeDiff, Nat.reduceAdd, Nat.reduceMul, Nat.reduceSub, Int.reduceToNat, reduceCtorEq, TL]) (by simp only [ML, TT, Nat.reduceEqDiff, Nat.reduceLT, Nat.reduceLeDiff, Nat.reduceAdd, Nat.reduceMul, Nat.reduceSub, Int.reduceToNat, reduceCtorEq, TL]) rfl (c_impl_EdOk hy_8) (by simp only [ML, TL, Nat.reduceEqDiff, Nat.reduceLT, Nat.reduceLeDiff, Nat.reduceAdd, Nat.reduceMul, Nat.reduceSub, Int.reduceToNat, reduceCtorEq]) ?_
      intro rd b
      try simp only [↓MD, ↓actH, ↓builtinH, ↓builtinG, ↓builtinFT, MU, MB, MC, TT, Nat.reduceEqDiff, Nat.reduceLT, Nat.reduceLeDiff, Nat.reduceAdd, Nat.reduceMul, Nat.reduceSub, Int.reduceToNat, reduceCtorEq, Try.f6]
      refine stIf h (fun hb_9 h => ?_) (fun hb_9 h => ?_)
      · obtain ⟨y_10, hy_10, h⟩ := bS h
        try simp only [↓MD, ↓actH, ↓builtinH, ↓builtinG, ↓builtinFT, MU, MB, MC, TT, Nat.reduceEqDiff, Nat.reduceLT, Nat.reduceLeDiff, Nat.reduceAdd, Nat.reduceMul, Nat.reduceSub, Int.reduceToNat, reduceCtorEq, Try.f6, hb_9]
        refine callG [] 9 rfl (by simp only [ML, TT, Nat.reduceEqDiff, Nat.reduceLT, Nat.reduceLeDiff, Nat.reduceAdd, Nat.reduceMul, Nat.reduceSub, Int.reduceToNat, reduceCtorEq, TL]) (by simp only [ML, TT, Nat.reduceEqDiff, Nat.reduceLT, Nat.reduceLeDiff, Nat.reduceAdd, Nat.reduceMul, Nat.reduceSub, Int.reduceToNat, reduceCtorEq, TL]) rfl (c_impl_EdCells hy_10) (by simp only [ML, TL, Nat.reduceEqDiff, Nat.reduceLT, Nat.reduceLeDiff, Nat.reduceAdd, Nat.reduceMul, Nat.reduceSub, Int.reduceToNat, reduceCtorEq]) ?_
        intro rd b
        obtain ⟨y_11, hy_11, h⟩ := bS h
        try simp only [↓MD, ↓actH, ↓builtinH, ↓builtinG, ↓builtinFT, MU, MB, MC, TT, Nat.reduceEqDiff, Nat.reduceLT, Nat.reduceLeDiff, Nat.reduceAdd, Nat.reduceMul, Nat.reduceSub, Int.reduceToNat, reduceCtorEq, Try.f6, hb_9]
        refine callG [] 9 rfl (by simp only [ML, TT, Nat.reduceEqDiff, Nat.reduceLT, Nat.reduceLeDiff, Nat.reduceAdd, Nat.reduceMul, Nat.reduceSub, Int.reduceToNat, reduceCtorEq, TL]) (by simp only [ML, TT, Nat.reduceEqDiff, Nat.reduceLT, Nat.reduceLeDiff, Nat.reduceAdd, Nat.reduceMul, Nat.reduceSub, Int.reduceToNat, reduceCtorEq, TL]) rfl (c_laws_padded hy_11) (by simp only [ML, TL, Nat.reduceEqDiff, Nat.reduceLT, Nat.reduceLeDiff, Nat.reduceAdd, Nat.reduceMul, Nat.reduceSub, Int.reduceToNat, reduceCtorEq]) ?_
        intro rd b
        obtain ⟨y_12, hy_12, h⟩ := bS h
        try simp only [↓MD, ↓actH, ↓builtinH, ↓builtinG, ↓builtinFT, MU, MB, MC, TT, Nat.reduceEqDiff, Nat.reduceLT, Nat.reduceLeDiff, Nat.reduceAdd, Nat.reduceMul, Nat.reduceSub, Int.reduceToNat, reduceCtorEq, Try.f6, hb_9]
        refine callG [] 9 rfl (by simp only [ML, TT, Nat.reduceEqDiff, Nat.reduceLT, Nat.reduceLeDiff, Nat.reduceAdd, Nat.reduceMul, Nat.reduceSub, Int.reduceToNat, reduceCtorEq, TL]) (by simp only [ML, TT, Nat.reduceEqDiff, Nat.reduceLT, Nat.reduceLeDiff, Nat.reduceAdd, Nat.reduceMul, Nat.reduceSub, Int.reduceToNat, reduceCtorEq, TL]) rfl (c_laws_padded hy_12) (by simp only [ML, TL, Nat.reduceEqDiff, Nat.reduceLT, Nat.reduceLeDiff, Nat.reduceAdd, Nat.reduceMul, Nat.reduceSub, Int.reduceToNat, reduceCtorEq]) ?_
        intro rd b
        obtain ⟨y_13, hy_13, h⟩ := bS h
        try simp only [↓MD, ↓actH, ↓builtinH, ↓builtinG, ↓builtinFT, MU, MB, MC, TT, Nat.reduceEqDiff, Nat.reduceLT, Nat.reduceLeDiff, Nat.reduceAdd, Nat.reduceMul, Nat.reduceSub, Int.reduceToNat, reduceCtorEq, Try.f6, hb_9]
        refine callG [] 9 rfl (by simp only [ML, TT, Nat.reduceEqDiff, Nat.reduceLT, Nat.reduceLeDiff, Nat.reduceAdd, Nat.reduceMul, Nat.reduceSub, Int.reduceToNat, reduceCtorEq, TL]) (by simp only [ML, TT, Nat.reduceEqDiff, Nat.reduceLT, Nat.reduceLeDiff, Nat.reduceAdd, Nat.reduceMul, Nat.reduceSub, Int.reduceToNat, reduceCtorEq, TL]) rfl (c_laws_sameCells hy_13) (by simp only [ML, TL, Nat.reduceEqDiff, Nat.reduceLT, Nat.reduceLeDiff, Nat.reduceAdd, Nat.reduceMul, Nat.reduceSub, Int.reduceToNat, reduceCtorEq]) ?_
        intro rd b
        try simp only [↓MD, ↓actH, ↓builtinH, ↓builtinG, ↓builtinFT, MU, MB, MC, TT, Nat.reduceEqDiff, Nat.reduceLT, Nat.reduceLeDiff, Nat.reduceAdd, Nat.reduceMul, Nat.reduceSub, Int.reduceToNat, reduceCtorEq, Try.f6, hb_9]
        refine stIf h (fun hb_14 h => ?_) (fun hb_14 h => ?_)
        · try simp only [↓MD, ↓actH, ↓builtinH, ↓builtinG, ↓builtinFT, MU, MB, MC, TT, Nat.reduceEqDiff, Nat.reduceLT, Nat.reduceLeDiff, Nat.reduceAdd, Nat.reduceMul, Nat.reduceSub, Int.reduceToNat, reduceCtorEq, Try.f6, hb_9, hb_14]
          obtain rfl := Option.some.inj h
          refine endT_of ?_ ⟨rfl, rfl⟩
          exact (weak_norm (ks := [0]) (π := []) (fuel := 9) (by simp only [ML, Nat.reduceEqDiff, Nat.reduceLT, Nat.reduceLeDiff, Nat.reduceAdd, Nat.reduceMul, Nat.reduceSub, Int.reduceToNat, reduceCtorEq, TL, TT]))
        · try simp only [↓MD, ↓actH, ↓builtinH, ↓builtinG, ↓builtinFT, MU, MB, MC, TT, Nat.reduceEqDiff, Nat.reduceLT, Nat.reduceLeDiff, Nat.reduceAdd, Nat.reduceMul, Nat.reduceSub, Int.reduceToNat, reduceCtorEq, Try.f6, hb_9, hb_14]
          obtain rfl := Option.some.inj h
          refine endT_of ?_ ⟨rfl, rfl⟩
          exact (weak_norm (ks := [0]) (π := []) (fuel := 9) (by simp only [ML, Nat.reduceEqDiff, Nat.reduceLT, Nat.reduceLeDiff, Nat.reduceAdd, Nat.reduceMul, Nat.reduceSub, Int.reduceToNat, reduceCtorEq, TL, TT]))
      · try simp only [↓MD, ↓actH, ↓builtinH, ↓builtinG, ↓builtinFT, MU, MB, MC, TT, Nat.reduceEqDiff, Nat.reduceLT, Nat.reduceLeDiff, Nat.reduceAdd, Nat.reduceMul, Nat.reduceSub, Int.reduceToNat, reduceCtorEq, Try.f6, hb_9]
        obtain rfl := Option.some.inj h
        refine endT_of ?_ ⟨rfl, rfl⟩
        exact (weak_norm (ks := [0]) (π := []) (fuel := 9) (by simp only [ML, Nat.reduceEqDiff, Nat.reduceLT, Nat.reduceLeDiff, Nat.reduceAdd, Nat.reduceMul, Nat.reduceSub, Int.reduceToNat, reduceCtorEq, TL, TT]))
end Go.Proofs.Ytkjjcpgickjidaa
