import Derived.Test.YtkjjcpgickjidaaGD
namespace Go.Proofs.Ytkjjcpgickjidaa
open Go Go.Fm
set_option maxRecDepth 100000
set_option linter.unusedVariables false
set_option linter.unusedSimpArgs false
theorem c_laws_big {code_1 : List Int} {r : Bool} (h : g_laws_big code_1 = some r) : Ans Try.prog 14 [.one (.imm 1 code_1.length (code_1.flatMap (eI .u8)))] [] fun v h1 => v = .pv (.one (.bool r)) ∧ h1 = [] := by
  refine ansK (P := fun _ => Try.prog) TryT_eq (fn := Try.f14) Try.func14 rfl ⟨by kernel_rfl, rfl, rfl, by kernel_rfl⟩ (by simp) (Weak.refl _ _) ?_
  rw [g_laws_big] at h
  try simp only [↓MD, ↓actH, ↓builtinH, ↓builtinG, ↓builtinFT, MU, MB, MC, TT, Nat.reduceEqDiff, Nat.reduceLT, Nat.reduceLeDiff, Nat.reduceAdd, Nat.reduceMul, Nat.reduceSub, Int.reduceToNat, reduceCtorEq, Try.f14]
  obtain rfl := Option.some.inj h
  refine endT_of ?_ ⟨rfl, rfl⟩
  exact (weak_norm (ks := [0]) (π := []) (fuel := 9) (by simp only [ML, Nat.reduceEqDiff, Nat.reduceLT, Nat.reduceLeDiff, Nat.reduceAdd, Nat.reduceMul, Nat.reduceSub, Int.reduceToNat, reduceCtorEq, TL, TT]))
theorem c_spec_l01New {code_1 : List Int} {r : GL01Cur} (h : g_spec_l01New code_1 = some r) : Ans Try.prog 32 [.one (.imm 1 code_1.length (code_1.flatMap (eI .u8)))] [] fun v h1 => v = .pv (.one (.ptr 0 0)) ∧ h1 = [.live ⟨1, 3, [.imm 1 r.b.length (r.b.flatMap (eI .u8)), .int .i64 r.i, .int .i64 r.h]⟩] := by
  refine ansK (P := fun _ => Try.prog) TryT_eq (fn := Try.f32) Try.func32 rfl ⟨by kernel_rfl, rfl, rfl, by kernel_rfl⟩ (by simp) (Weak.refl _ _) ?_
  rw [g_spec_l01New] at h
  try simp only [↓MD, ↓actH, ↓builtinH, ↓builtinG, ↓builtinFT, MU, MB, MC, TT, Nat.reduceEqDiff, Nat.reduceLT, Nat.reduceLeDiff, Nat.reduceAdd, Nat.reduceMul, Nat.reduceSub, Int.reduceToNat, reduceCtorEq, Try.f32]
  obtain ⟨y_3, hy_4, h⟩ := bS h
  refine seqK TryT_eq (fun p : Int => ⟨[(0, .pv (.one (.imm 1 code_1.length (code_1.flatMap (eI .u8))))), (3, .pv (.one (.int .i64 p)))], []⟩) (fun v => y_3 = v) (by rfl) ?_ ?_
  · try simp only [↓MD, ↓actH, ↓builtinH, ↓builtinG, ↓builtinFT, MU, MB, MC, TT, Nat.reduceEqDiff, Nat.reduceLT, Nat.reduceLeDiff, Nat.reduceAdd, Nat.reduceMul, Nat.reduceSub, Int.reduceToNat, reduceCtorEq, Try.f32]
    obtain ⟨y_8, hy_9, hy_4⟩ := bS hy_4
    refine loopK TryT_eq (fun p : Int × Int => ⟨[(0, .pv (.one (.imm 1 code_1.length (code_1.flatMap (eI .u8))))), (3, .pv (.one (.int .i64 p.1))), (4, .pv (.one (.int .i64 p.2)))], []⟩) (fun k p => g_spec_l01New_l0 code_1 k p.1 p.2 = some y_8) (by kernel_rfl) bigK (IntKind.wrap .i64 (711711 + (code_1.length : Int)), 0) (weak_norm (ks := [0, 3, 4]) (π := []) (fuel := 9) (by simp only [ML, Nat.reduceEqDiff, Nat.reduceLT, Nat.reduceLeDiff, Nat.reduceAdd, Nat.reduceMul, Nat.reduceSub, Int.reduceToNat, reduceCtorEq, TL, TT])) hy_9 (fun _ h => nomatch (show none = some _ from h)) ?_
    rintro k_10 ⟨h_5, i_6⟩ hk_11
    rw [g_spec_l01New_l0] at hk_11
    try dsimp only at hk_11
    try simp only [↓MD, ↓actH, ↓builtinH, ↓builtinG, ↓builtinFT, MU, MB, MC, TT, Nat.reduceEqDiff, Nat.reduceLT, Nat.reduceLeDiff, Nat.reduceAdd, Nat.reduceMul, Nat.reduceSub, Int.reduceToNat, reduceCtorEq, Try.f32]
    refine seqN TryT_eq rfl ?_
    try simp only [↓MD, ↓actH, ↓builtinH, ↓builtinG, ↓builtinFT, MU, MB, MC, TT, Nat.reduceEqDiff, Nat.reduceLT, Nat.reduceLeDiff, Nat.reduceAdd, Nat.reduceMul, Nat.reduceSub, Int.reduceToNat, reduceCtorEq, Try.f32]
    obtain ⟨y_13, hy_14, hk_11⟩ := bS hk_11
    refine seqK TryT_eq (fun p : Bool => ⟨[(0, .pv (.one (.imm 1 code_1.length (code_1.flatMap (eI .u8))))), (3, .pv (.one (.int .i64 h_5))), (4, .pv (.one (.int .i64 i_6))), (15, .pv (.one (.bool p)))], []⟩) (fun v => y_13 = v) (by rfl) ?_ ?_
    · try simp only [↓MD, ↓actH, ↓builtinH, ↓builtinG, ↓builtinFT, MU, MB, MC, TT, Nat.reduceEqDiff, Nat.reduceLT, Nat.reduceLeDiff, Nat.reduceAdd, Nat.reduceMul, Nat.reduceSub, Int.reduceToNat, reduceCtorEq, Try.f32]
      refine stIf hy_14 (fun hb_15 hy_14 => ?_) (fun hb_15 hy_14 => ?_)
      · try simp only [↓MD, ↓actH, ↓builtinH, ↓builtinG, ↓builtinFT, MU, MB, MC, TT, Nat.reduceEqDiff, Nat.reduceLT, Nat.reduceLeDiff, Nat.reduceAdd, Nat.reduceMul, Nat.reduceSub, Int.reduceToNat, reduceCtorEq, Try.f32, hb_15]
        obtain rfl := Option.some.inj hy_14
        exact cutT_mk (decide (i_6 < 4000)) rfl (weak_norm (ks := [0, 3, 4, 15]) (π := []) (fuel := 9) (by simp only [ML, Nat.reduceEqDiff, Nat.reduceLT, Nat.reduceLeDiff, Nat.reduceAdd, Nat.reduceMul, Nat.reduceSub, Int.reduceToNat, reduceCtorEq, TL, TT]))
      · try simp only [↓MD, ↓actH, ↓builtinH, ↓builtinG, ↓builtinFT, MU, MB, MC, TT, Nat.reduceEqDiff, Nat.reduceLT, Nat.reduceLeDiff, Nat.reduceAdd, Nat.reduceMul, Nat.reduceSub, Int.reduceToNat, reduceCtorEq, Try.f32, hb_15]
        obtain rfl := Option.some.inj hy_14
        exact cutT_mk false rfl (weak_norm (ks := [0, 3, 4, 15]) (π := []) (fuel := 9) (by simp only [ML, Nat.reduceEqDiff, Nat.reduceLT, Nat.reduceLeDiff, Nat.reduceAdd, Nat.reduceMul, Nat.reduceSub, Int.reduceToNat, reduceCtorEq, TL, TT]))
    · rintro v_12 hp
      replace hp := hp.symm; subst hp
      try dsimp only at hk_11
      try simp only [↓MD, ↓actH, ↓builtinH, ↓builtinG, ↓builtinFT, MU, MB, MC, TT, Nat.reduceEqDiff, Nat.reduceLT, Nat.reduceLeDiff, Nat.reduceAdd, Nat.reduceMul, Nat.reduceSub, Int.reduceToNat, reduceCtorEq, Try.f32]
      refine stIf hk_11 (fun hb_16 hk_11 => ?_) (fun hb_16 hk_11 => ?_)
      · try simp only [↓MD, ↓actH, ↓builtinH, ↓builtinG, ↓builtinFT, MU, MB, MC, TT, Nat.reduceEqDiff, Nat.reduceLT, Nat.reduceLeDiff, Nat.reduceAdd, Nat.reduceMul, Nat.reduceSub, Int.reduceToNat, reduceCtorEq, Try.f32]
        refine seqN TryT_eq rfl ?_
        obtain ⟨v_17, hv_17, hk_11⟩ := bS hk_11
        have f1 := (fAt (eI_ok .u8) hv_17 (n := code_1.length) (by simp))
        try simp only [↓MD, ↓actH, ↓builtinH, ↓builtinG, ↓builtinFT, MU, MB, MC, TT, Nat.reduceEqDiff, Nat.reduceLT, Nat.reduceLeDiff, Nat.reduceAdd, Nat.reduceMul, Nat.reduceSub, Int.reduceToNat, reduceCtorEq, Try.f32, f1]
        exact ⟨(andI .i64 (IntKind.wrap .i64 ((IntKind.wrap .i64 ((IntKind.wrap .i64 (h_5 * 131)) + (IntKind.wrap .i64 v_17))) + 7)) 1073741823, IntKind.wrap .i64 (i_6 + 1)), hk_11, (weak_norm (ks := [0, 3, 4]) (π := []) (fuel := 9) (by simp only [ML, Nat.reduceEqDiff, Nat.reduceLT, Nat.reduceLeDiff, Nat.reduceAdd, Nat.reduceMul, Nat.reduceSub, Int.reduceToNat, reduceCtorEq, TL, TT]))⟩
      · obtain rfl := Option.some.inj hk_11
        try dsimp only at hy_4
        try simp only [↓MD, ↓actH, ↓builtinH, ↓builtinG, ↓builtinFT, MU, MB, MC, TT, Nat.reduceEqDiff, Nat.reduceLT, Nat.reduceLeDiff, Nat.reduceAdd, Nat.reduceMul, Nat.reduceSub, Int.reduceToNat, reduceCtorEq, Try.f32]
        obtain rfl := Option.some.inj hy_4
        exact cutT_mk h_5 rfl (weak_norm (ks := [0, 3]) (π := []) (fuel := 9) (by simp only [ML, Nat.reduceEqDiff, Nat.reduceLT, Nat.reduceLeDiff, Nat.reduceAdd, Nat.reduceMul, Nat.reduceSub, Int.reduceToNat, reduceCtorEq, TL, TT]))
  · rintro h_2 hp
    replace hp := hp.symm; subst hp
    try dsimp only at h
    try simp only [↓MD, ↓actH, ↓builtinH, ↓builtinG, ↓builtinFT, MU, MB, MC, TT, Nat.reduceEqDiff, Nat.reduceLT, Nat.reduceLeDiff, Nat.reduceAdd, Nat.reduceMul, Nat.reduceSub, Int.reduceToNat, reduceCtorEq, Try.f32]
    obtain rfl := Option.some.inj h
    refine endT_of ?_ ⟨rfl, rfl⟩
    exact (weak_norm (ks := [0]) (π := [0]) (fuel := 9) (by simp only [ML, Nat.reduceEqDiff, Nat.reduceLT, Nat.reduceLeDiff, Nat.reduceAdd, Nat.reduceMul, Nat.reduceSub, Int.reduceToNat, reduceCtorEq, TL, TT]))
theorem c_spec_l01Byte {c_1 : GL01Cur} {r : Int × GL01Cur} (h : g_spec_l01Byte c_1 = some r) : Ans Try.prog 50 [.one (.ptr 0 0)] [.live ⟨1, 3, [.imm 1 c_1.b.length (c_1.b.flatMap (eI .u8)), .int .i64 c_1.i, .int .i64 c_1.h]⟩] fun v h1 => v = .pv (.one (.int .i64 r.1)) ∧ h1 = [.live ⟨1, 3, [.imm 1 r.2.b.length (r.2.b.flatMap (eI .u8)), .int .i64 r.2.i, .int .i64 r.2.h]⟩] := by
  refine ansK (P := fun _ => Try.prog) TryT_eq (fn := Try.f50) Try.func50 rfl ⟨by kernel_rfl, rfl, rfl, by kernel_rfl⟩ (by simp) (Weak.refl _ _) ?_
  rw [g_spec_l01Byte] at h
  have f1 := (shrI_lit (k := .i64) (a := IntKind.wrap .i64 ((IntKind.wrap .i64 (c_1.h * 6364136223846793005)) + 1442695040888963407)) (b := 33) (m := 8589934592) (by decide) (by decide))
  have f2 := (shrI_lit (k := .i64) (a := IntKind.wrap .i64 ((IntKind.wrap .i64 (c_1.h * 6364136223846793005)) + 1442695040888963407)) (b := 45) (m := 35184372088832) (by decide) (by decide))
  try simp only [↓MD, ↓actH, ↓builtinH, ↓builtinG, ↓builtinFT, MU, MB, MC, TT, Nat.reduceEqDiff, Nat.reduceLT, Nat.reduceLeDiff, Nat.reduceAdd, Nat.reduceMul, Nat.reduceSub, Int.reduceToNat, reduceCtorEq, Try.f50, f1, f2]
  refine ⟨rfl, ?_⟩
  try simp only [↓MD, ↓actH, ↓builtinH, ↓builtinG, ↓builtinFT, MU, MB, MC, TT, Nat.reduceEqDiff, Nat.reduceLT, Nat.reduceLeDiff, Nat.reduceAdd, Nat.reduceMul, Nat.reduceSub, Int.reduceToNat, reduceCtorEq, Try.f50, f1, f2]
  obtain ⟨y_4, hy_5, h⟩ := bS h
  refine seqK TryT_eq (fun p : GL01Cur × Int => ⟨[(3, .pv (.one (.int .i64 p.2)))], [.live ⟨1, 3, [.imm 1 p.1.b.length (p.1.b.flatMap (eI .u8)), .int .i64 p.1.i, .int .i64 p.1.h]⟩]⟩) (fun v => y_4 = v) (by rfl) ?_ ?_
  · try simp only [↓MD, ↓actH, ↓builtinH, ↓builtinG, ↓builtinFT, MU, MB, MC, TT, Nat.reduceEqDiff, Nat.reduceLT, Nat.reduceLeDiff, Nat.reduceAdd, Nat.reduceMul, Nat.reduceSub, Int.reduceToNat, reduceCtorEq, Try.f50, f1, f2]
    refine ⟨rfl, ?_⟩
    try simp only [↓MD, ↓actH, ↓builtinH, ↓builtinG, ↓builtinFT, MU, MB, MC, TT, Nat.reduceEqDiff, Nat.reduceLT, Nat.reduceLeDiff, Nat.reduceAdd, Nat.reduceMul, Nat.reduceSub, Int.reduceToNat, reduceCtorEq, Try.f50, f1, f2]
    refine stIf hy_5 (fun hb_6 hy_5 => ?_) (fun hb_6 hy_5 => ?_)
    · obtain ⟨v_7, hv_7, hy_5⟩ := bS hy_5
      have f3 := (fAt (eI_ok .u8) hv_7 (n := c_1.b.length) (by simp))
      try simp only [↓MD, ↓actH, ↓builtinH, ↓builtinG, ↓builtinFT, MU, MB, MC, TT, Nat.reduceEqDiff, Nat.reduceLT, Nat.reduceLeDiff, Nat.reduceAdd, Nat.reduceMul, Nat.reduceSub, Int.reduceToNat, reduceCtorEq, Try.f50, f1, f2, f3]
      refine ⟨rfl, ?_⟩
      try simp only [↓MD, ↓actH, ↓builtinH, ↓builtinG, ↓builtinFT, MU, MB, MC, TT, Nat.reduceEqDiff, Nat.reduceLT, Nat.reduceLeDiff, Nat.reduceAdd, Nat.reduceMul, Nat.reduceSub, Int.reduceToNat, reduceCtorEq, Try.f50, f1, f2, f3]
      obtain rfl := Option.some.inj hy_5
      exact cutT_mk ((⟨c_1.b, IntKind.wrap .i64 (c_1.i + 1), IntKind.wrap .i64 ((IntKind.wrap .i64 (c_1.h * 6364136223846793005)) + 1442695040888963407)⟩ : GL01Cur), andI .i64 (IntKind.wrap .i64 ((andI .i64 (xorI .i64 ((IntKind.wrap .i64 ((IntKind.wrap .i64 (c_1.h * 6364136223846793005)) + 1442695040888963407)) / 8589934592) ((IntKind.wrap .i64 ((IntKind.wrap .i64 (c_1.h * 6364136223846793005)) + 1442695040888963407)) / 35184372088832)) 255) + (IntKind.wrap .i64 v_7))) 255) rfl (weak_norm (ks := [3]) (π := [0]) (fuel := 9) (by simp only [ML, Nat.reduceEqDiff, Nat.reduceLT, Nat.reduceLeDiff, Nat.reduceAdd, Nat.reduceMul, Nat.reduceSub, Int.reduceToNat, reduceCtorEq, TL, TT]))
    · try simp only [↓MD, ↓actH, ↓builtinH, ↓builtinG, ↓builtinFT, MU, MB, MC, TT, Nat.reduceEqDiff, Nat.reduceLT, Nat.reduceLeDiff, Nat.reduceAdd, Nat.reduceMul, Nat.reduceSub, Int.reduceToNat, reduceCtorEq, Try.f50, f1, f2]
      obtain rfl := Option.some.inj hy_5
      exact cutT_mk ((⟨c_1.b, c_1.i, IntKind.wrap .i64 ((IntKind.wrap .i64 (c_1.h * 6364136223846793005)) + 1442695040888963407)⟩ : GL01Cur), andI .i64 (xorI .i64 ((IntKind.wrap .i64 ((IntKind.wrap .i64 (c_1.h * 6364136223846793005)) + 1442695040888963407)) / 8589934592) ((IntKind.wrap .i64 ((IntKind.wrap .i64 (c_1.h * 6364136223846793005)) + 1442695040888963407)) / 35184372088832)) 255) rfl (weak_norm (ks := [3]) (π := [0]) (fuel := 9) (by simp only [ML, Nat.reduceEqDiff, Nat.reduceLT, Nat.reduceLeDiff, Nat.reduceAdd, Nat.reduceMul, Nat.reduceSub, Int.reduceToNat, reduceCtorEq, TL, TT]))
  · rintro ⟨p_2, x_3⟩ hp
    replace hp := hp.symm; subst hp
    try dsimp only at h
    try simp only [↓MD, ↓actH, ↓builtinH, ↓builtinG, ↓builtinFT, MU, MB, MC, TT, Nat.reduceEqDiff, Nat.reduceLT, Nat.reduceLeDiff, Nat.reduceAdd, Nat.reduceMul, Nat.reduceSub, Int.reduceToNat, reduceCtorEq, Try.f50]
    obtain rfl := Option.some.inj h
    refine endT_of ?_ ⟨rfl, rfl⟩
    exact (weak_norm (ks := [0]) (π := [0]) (fuel := 9) (by simp only [ML, Nat.reduceEqDiff, Nat.reduceLT, Nat.reduceLeDiff, Nat.reduceAdd, Nat.reduceMul, Nat.reduceSub, Int.reduceToNat, reduceCtorEq, TL, TT]))
theorem c_spec_l01Below {c_1 : GL01Cur} {n_2 : Int} {r : Int × GL01Cur} (h : g_spec_l01Below c_1 n_2 = some r) : Ans Try.prog 35 [.one (.ptr 0 0), .one (.int .i64 n_2)] [.live ⟨1, 3, [.imm 1 c_1.b.length (c_1.b.flatMap (eI .u8)), .int .i64 c_1.i, .int .i64 c_1.h]⟩] fun v h1 => v = .pv (.one (.int .i64 r.1)) ∧ h1 = [.live ⟨1, 3, [.imm 1 r.2.b.length (r.2.b.flatMap (eI .u8)), .int .i64 r.2.i, .int .i64 r.2.h]⟩] := by
  refine ansK (P := fun _ => Try.prog) TryT_eq (fn := Try.f35) Try.func35 rfl ⟨by kernel_rfl, rfl, rfl, by kernel_rfl⟩ (by simp) (Weak.refl _ _) ?_
  rw [g_spec_l01Below] at h
  try simp only [↓MD, ↓actH, ↓builtinH, ↓builtinG, ↓builtinFT, MU, MB, MC, TT, Nat.reduceEqDiff, Nat.reduceLT, Nat.reduceLeDiff, Nat.reduceAdd, Nat.reduceMul, Nat.reduceSub, Int.reduceToNat, reduceCtorEq, Try.f35]
  refine seqN TryT_eq rfl ?_
  try simp only [↓MD, ↓actH, ↓builtinH, ↓builtinG, ↓builtinFT, MU, MB, MC, TT, Nat.reduceEqDiff, Nat.reduceLT, Nat.reduceLeDiff, Nat.reduceAdd, Nat.reduceMul, Nat.reduceSub, Int.reduceToNat, reduceCtorEq, Try.f35]
  refine stIf h (fun hb_3 h => ?_) (fun hb_3 h => ?_)
  · try simp only [↓MD, ↓actH, ↓builtinH, ↓builtinG, ↓builtinFT, MU, MB, MC, TT, Nat.reduceEqDiff, Nat.reduceLT, Nat.reduceLeDiff, Nat.reduceAdd, Nat.reduceMul, Nat.reduceSub, Int.reduceToNat, reduceCtorEq, Try.f35]
    obtain rfl := Option.some.inj h
    refine endT_of ?_ ⟨rfl, rfl⟩
    exact (weak_norm (ks := [0]) (π := [0]) (fuel := 9) (by simp only [ML, Nat.reduceEqDiff, Nat.reduceLT, Nat.reduceLeDiff, Nat.reduceAdd, Nat.reduceMul, Nat.reduceSub, Int.reduceToNat, reduceCtorEq, TL, TT]))
  · try simp only [↓MD, ↓actH, ↓builtinH, ↓builtinG, ↓builtinFT, MU, MB, MC, TT, Nat.reduceEqDiff, Nat.reduceLT, Nat.reduceLeDiff, Nat.reduceAdd, Nat.reduceMul, Nat.reduceSub, Int.reduceToNat, reduceCtorEq, Try.f35]
    refine seqN TryT_eq rfl ?_
    try simp only [↓MD, ↓actH, ↓builtinH, ↓builtinG, ↓builtinFT, MU, MB, MC, TT, Nat.reduceEqDiff, Nat.reduceLT, Nat.reduceLeDiff, Nat.reduceAdd, Nat.reduceMul, Nat.reduceSub, Int.reduceToNat, reduceCtorEq, Try.f35]
    refine stIf h (fun hb_4 h => ?_) (fun hb_4 h => ?_)
    · obtain ⟨y_5, hy_5, h⟩ := bS h
      try simp only [↓MD, ↓actH, ↓builtinH, ↓builtinG, ↓builtinFT, MU, MB, MC, TT, Nat.reduceEqDiff, Nat.reduceLT, Nat.reduceLeDiff, Nat.reduceAdd, Nat.reduceMul, Nat.reduceSub, Int.reduceToNat, reduceCtorEq, Try.f35]
      refine callE [0] 9 rfl rfl rfl rfl (c_spec_l01Byte hy_5) rfl ?_
      obtain ⟨v_6, hv_6, h⟩ := bS h
      try simp only [↓MD, ↓actH, ↓builtinH, ↓builtinG, ↓builtinFT, MU, MB, MC, TT, Nat.reduceEqDiff, Nat.reduceLT, Nat.reduceLeDiff, Nat.reduceAdd, Nat.reduceMul, Nat.reduceSub, Int.reduceToNat, reduceCtorEq, Try.f35, hv_6]
      obtain rfl := Option.some.inj h
      refine endT_of ?_ ⟨rfl, rfl⟩
      exact (weak_norm (ks := [0]) (π := [0]) (fuel := 9) (by simp only [ML, Nat.reduceEqDiff, Nat.reduceLT, Nat.reduceLeDiff, Nat.reduceAdd, Nat.reduceMul, Nat.reduceSub, Int.reduceToNat, reduceCtorEq, TL, TT]))
    · obtain ⟨y_7, hy_7, h⟩ := bS h
      try simp only [↓MD, ↓actH, ↓builtinH, ↓builtinG, ↓builtinFT, MU, MB, MC, TT, Nat.reduceEqDiff, Nat.reduceLT, Nat.reduceLeDiff, Nat.reduceAdd, Nat.reduceMul, Nat.reduceSub, Int.reduceToNat, reduceCtorEq, Try.f35]
      refine callE [0] 9 rfl rfl rfl rfl (c_spec_l01Byte hy_7) rfl ?_
      obtain ⟨y_8, hy_8, h⟩ := bS h
      try simp only [↓MD, ↓actH, ↓builtinH, ↓builtinG, ↓builtinFT, MU, MB, MC, TT, Nat.reduceEqDiff, Nat.reduceLT, Nat.reduceLeDiff, Nat.reduceAdd, Nat.reduceMul, Nat.reduceSub, Int.reduceToNat, reduceCtorEq, Try.f35]
      refine callE [0] 9 rfl rfl rfl rfl (c_spec_l01Byte hy_8) rfl ?_
      obtain ⟨y_9, hy_9, h⟩ := bS h
      try simp only [↓MD, ↓actH, ↓builtinH, ↓builtinG, ↓builtinFT, MU, MB, MC, TT, Nat.reduceEqDiff, Nat.reduceLT, Nat.reduceLeDiff, Nat.reduceAdd, Nat.reduceMul, Nat.reduceSub, Int.reduceToNat, reduceCtorEq, Try.f35]
      refine callE [0] 9 rfl rfl rfl rfl (c_spec_l01Byte hy_9) rfl ?_
      obtain ⟨y_10, hy_10, h⟩ := bS h
      try simp only [↓MD, ↓actH, ↓builtinH, ↓builtinG, ↓builtinFT, MU, MB, MC, TT, Nat.reduceEqDiff, Nat.reduceLT, Nat.reduceLeDiff, Nat.reduceAdd, Nat.reduceMul, Nat.reduceSub, Int.reduceToNat, reduceCtorEq, Try.f35]
      refine callE [0] 9 rfl rfl rfl rfl (c_spec_l01Byte hy_10) rfl ?_
      obtain ⟨v_11, hv_11, h⟩ := bS h
      try simp only [↓MD, ↓actH, ↓builtinH, ↓builtinG, ↓builtinFT, MU, MB, MC, TT, Nat.reduceEqDiff, Nat.reduceLT, Nat.reduceLeDiff, Nat.reduceAdd, Nat.reduceMul, Nat.reduceSub, Int.reduceToNat, reduceCtorEq, Try.f35, hv_11]
      obtain rfl := Option.some.inj h
      refine endT_of ?_ ⟨rfl, rfl⟩
      exact (weak_norm (ks := [0]) (π := [0]) (fuel := 9) (by simp only [ML, Nat.reduceEqDiff, Nat.reduceLT, Nat.reduceLeDiff, Nat.reduceAdd, Nat.reduceMul, Nat.reduceSub, Int.reduceToNat, reduceCtorEq, TL, TT]))
theorem c_spec_l01Once {c_1 : GL01Cur} {n_2 : Int} {r : Bool × GL01Cur} (h : g_spec_l01Once c_1 n_2 = some r) : Ans Try.prog 34 [.one (.ptr 0 0), .one (.int .i64 n_2)] [.live ⟨1, 3, [.imm 1 c_1.b.length (c_1.b.flatMap (eI .u8)), .int .i64 c_1.i, .int .i64 c_1.h]⟩] fun v h1 => v = .pv (.one (.bool r.1)) ∧ h1 = [.live ⟨1, 3, [.imm 1 r.2.b.length (r.2.b.flatMap (eI .u8)), .int .i64 r.2.i, .int .i64 r.2.h]⟩] := by
  refine ansK (P := fun _ => Try.prog) TryT_eq (fn := Try.f34) Try.func34 rfl ⟨by kernel_rfl, rfl, rfl, by kernel_rfl⟩ (by simp) (Weak.refl _ _) ?_
  rw [g_spec_l01Once] at h
  obtain ⟨y_3, hy_3, h⟩ := bS h
  try simp only [↓MD, ↓actH, ↓builtinH, ↓builtinG, ↓builtinFT, MU, MB, MC, TT, Nat.reduceEqDiff, Nat.reduceLT, Nat.reduceLeDiff, Nat.reduceAdd, Nat.reduceMul, Nat.reduceSub, Int.reduceToNat, reduceCtorEq, Try.f34]
  refine callE [0] 9 rfl rfl rfl rfl (c_spec_l01Below hy_3) rfl ?_
  try simp only [↓MD, ↓actH, ↓builtinH, ↓builtinG, ↓builtinFT, MU, MB, MC, TT, Nat.reduceEqDiff, Nat.reduceLT, Nat.reduceLeDiff, Nat.reduceAdd, Nat.reduceMul, Nat.reduceSub, Int.reduceToNat, reduceCtorEq, Try.f34]
  obtain rfl := Option.some.inj h
  refine endT_of ?_ ⟨rfl, rfl⟩
  exact (weak_norm (ks := [0]) (π := [0]) (fuel := 9) (by simp only [ML, Nat.reduceEqDiff, Nat.reduceLT, Nat.reduceLeDiff, Nat.reduceAdd, Nat.reduceMul, Nat.reduceSub, Int.reduceToNat, reduceCtorEq, TL, TT]))
theorem c_spec_l01PickInt {c_1 : GL01Cur} {list_2 : List Int} {r : Int × GL01Cur} (h : g_spec_l01PickInt c_1 list_2 = some r) : Ans Try.prog 53 [.one (.ptr 0 0), .one (.imm 1 list_2.length (list_2.flatMap (eI .i64)))] [.live ⟨1, 3, [.imm 1 c_1.b.length (c_1.b.flatMap (eI .u8)), .int .i64 c_1.i, .int .i64 c_1.h]⟩] fun v h1 => v = .pv (.one (.int .i64 r.1)) ∧ h1 = [.live ⟨1, 3, [.imm 1 r.2.b.length (r.2.b.flatMap (eI .u8)), .int .i64 r.2.i, .int .i64 r.2.h]⟩] := by
  refine ansK (P := fun _ => Try.prog) TryT_eq (fn := Try.f53) Try.func53 rfl ⟨by kernel_rfl, rfl, rfl, by kernel_rfl⟩ (by simp) (Weak.refl _ _) ?_
  rw [g_spec_l01PickInt] at h
  obtain ⟨y_3, hy_3, h⟩ := bS h
  try simp only [↓MD, ↓actH, ↓builtinH, ↓builtinG, ↓builtinFT, MU, MB, MC, TT, Nat.reduceEqDiff, Nat.reduceLT, Nat.reduceLeDiff, Nat.reduceAdd, Nat.reduceMul, Nat.reduceSub, Int.reduceToNat, reduceCtorEq, Try.f53]
  refine callE [0] 9 rfl rfl rfl rfl (c_spec_l01Below hy_3) rfl ?_
  obtain ⟨v_4, hv_4, h⟩ := bS h
  have f1 := (fAt (eI_ok .i64) hv_4 (n := list_2.length) (by simp))
  try simp only [↓MD, ↓actH, ↓builtinH, ↓builtinG, ↓builtinFT, MU, MB, MC, TT, Nat.reduceEqDiff, Nat.reduceLT, Nat.reduceLeDiff, Nat.reduceAdd, Nat.reduceMul, Nat.reduceSub, Int.reduceToNat, reduceCtorEq, Try.f53, f1]
  obtain rfl := Option.some.inj h
  refine endT_of ?_ ⟨rfl, rfl⟩
  exact (weak_norm (ks := [0]) (π := [0]) (fuel := 9) (by simp only [ML, Nat.reduceEqDiff, Nat.reduceLT, Nat.reduceLeDiff, Nat.reduceAdd, Nat.reduceMul, Nat.reduceSub, Int.reduceToNat, reduceCtorEq, TL, TT]))
theorem c_spec_l04Int {c_1 : GL01Cur} {r : Int × GL01Cur} (h : g_spec_l04Int c_1 = some r) : Ans Try.prog 60 [.one (.ptr 0 0)] [.live ⟨1, 3, [.imm 1 c_1.b.length (c_1.b.flatMap (eI .u8)), .int .i64 c_1.i, .int .i64 c_1.h]⟩] fun v h1 => v = .pv (.one (.int .i32 r.1)) ∧ h1 = [.live ⟨1, 3, [.imm 1 r.2.b.length (r.2.b.flatMap (eI .u8)), .int .i64 r.2.i, .int .i64 r.2.h]⟩] := by
  refine ansK (P := fun _ => Try.prog) TryT_eq (fn := Try.f60) Try.func60 rfl ⟨by kernel_rfl, rfl, rfl, by kernel_rfl⟩ (by simp) (Weak.refl _ _) ?_
  rw [g_spec_l04Int] at h
  try simp only [↓MD, ↓actH, ↓builtinH, ↓builtinG, ↓builtinFT, MU, MB, MC, TT, Nat.reduceEqDiff, Nat.reduceLT, Nat.reduceLeDiff, Nat.reduceAdd, Nat.reduceMul, Nat.reduceSub, Int.reduceToNat, reduceCtorEq, Try.f60]
  refine seqN TryT_eq rfl ?_
  obtain ⟨y_2, hy_2, h⟩ := bS h
  try simp only [↓MD, ↓actH, ↓builtinH, ↓builtinG, ↓builtinFT, MU, MB, MC, TT, Nat.reduceEqDiff, Nat.reduceLT, Nat.reduceLeDiff, Nat.reduceAdd, Nat.reduceMul, Nat.reduceSub, Int.reduceToNat, reduceCtorEq, Try.f60]
  refine callE [0] 9 rfl rfl rfl rfl (c_spec_l01Once hy_2) rfl ?_
  try simp only [↓MD, ↓actH, ↓builtinH, ↓builtinG, ↓builtinFT, MU, MB, MC, TT, Nat.reduceEqDiff, Nat.reduceLT, Nat.reduceLeDiff, Nat.reduceAdd, Nat.reduceMul, Nat.reduceSub, Int.reduceToNat, reduceCtorEq, Try.f60]
  refine stIf h (fun hb_3 h => ?_) (fun hb_3 h => ?_)
  · obtain ⟨y_4, hy_4, h⟩ := bS h
    try simp only [↓MD, ↓actH, ↓builtinH, ↓builtinG, ↓builtinFT, MU, MB, MC, TT, Nat.reduceEqDiff, Nat.reduceLT, Nat.reduceLeDiff, Nat.reduceAdd, Nat.reduceMul, Nat.reduceSub, Int.reduceToNat, reduceCtorEq, Try.f60]
    refine callE [0] 9 rfl rfl rfl rfl (c_spec_l01Below hy_4) rfl ?_
    try simp only [↓MD, ↓actH, ↓builtinH, ↓builtinG, ↓builtinFT, MU, MB, MC, TT, Nat.reduceEqDiff, Nat.reduceLT, Nat.reduceLeDiff, Nat.reduceAdd, Nat.reduceMul, Nat.reduceSub, Int.reduceToNat, reduceCtorEq, Try.f60]
    obtain rfl := Option.some.inj h
    refine endT_of ?_ ⟨rfl, rfl⟩
    exact (weak_norm (ks := [0]) (π := [0]) (fuel := 9) (by simp only [ML, Nat.reduceEqDiff, Nat.reduceLT, Nat.reduceLeDiff, Nat.reduceAdd, Nat.reduceMul, Nat.reduceSub, Int.reduceToNat, reduceCtorEq, TL, TT]))
  · obtain ⟨y_5, hy_5, h⟩ := bS h
    have f1 := (show bldN 9 = 9 from rfl)
    have f2 := (show bldC [.int .i64 0, .int .i64 67108863, .int .i64 67108864, .int .i64 (-67108864), .int .i64 (-67108865), .int .i64 2147483647, .int .i64 (-2147483648), .int .i64 1000000, .int .i64 (-1)] = [0, 67108863, 67108864, (-67108864), (-67108865), 2147483647, (-2147483648), 1000000, (-1)].flatMap (eI .i64) from rfl)
    try simp only [↓MD, ↓actH, ↓builtinH, ↓builtinG, ↓builtinFT, MU, MB, MC, TT, Nat.reduceEqDiff, Nat.reduceLT, Nat.reduceLeDiff, Nat.reduceAdd, Nat.reduceMul, Nat.reduceSub, Int.reduceToNat, reduceCtorEq, Try.f60, f1, f2]
    refine callGz [1] [0, 1] [0] 9 rfl rfl (by simp only [ML, MZ, TT, Nat.reduceEqDiff, Nat.reduceLT, Nat.reduceLeDiff, Nat.reduceAdd, Nat.reduceMul, Nat.reduceSub, Int.reduceToNat, reduceCtorEq, TL, fWin (eI_ok .i64) (n := 9) (xs := [0, 67108863, 67108864, (-67108864), (-67108865), 2147483647, (-2147483648), 1000000, (-1)]) (by simp)]) (by simp only [ML, MZ, TT, Nat.reduceEqDiff, Nat.reduceLT, Nat.reduceLeDiff, Nat.reduceAdd, Nat.reduceMul, Nat.reduceSub, Int.reduceToNat, reduceCtorEq, TL, fWin (eI_ok .i64) (n := 9) (xs := [0, 67108863, 67108864, (-67108864), (-67108865), 2147483647, (-2147483648), 1000000, (-1)]) (by simp)]) rfl rfl (c_spec_l01PickInt hy_5) (by simp only [ML, TL, Nat.reduceEqDiff, Nat.reduceLT, Nat.reduceLeDiff, Nat.reduceAdd, Nat.reduceMul, Nat.reduceSub, Int.reduceToNat, reduceCtorEq]) ?_
    intro rd
    try simp only [↓MD, ↓actH, ↓builtinH, ↓builtinG, ↓builtinFT, MU, MB, MC, TT, Nat.reduceEqDiff, Nat.reduceLT, Nat.reduceLeDiff, Nat.reduceAdd, Nat.reduceMul, Nat.reduceSub, Int.reduceToNat, reduceCtorEq, Try.f60, f1, f2]
    obtain rfl := Option.some.inj h
    refine endT_of ?_ ⟨rfl, rfl⟩
    exact (weak_norm (ks := [0]) (π := [0]) (fuel := 9) (by simp only [ML, Nat.reduceEqDiff, Nat.reduceLT, Nat.reduceLeDiff, Nat.reduceAdd, Nat.reduceMul, Nat.reduceSub, Int.reduceToNat, reduceCtorEq, TL, TT]))
theorem c_spec_l01Pick {c_1 : GL01Cur} {list_2 : List Bs} {r : Bs × GL01Cur} (h : g_spec_l01Pick c_1 list_2 = some r) : Ans Try.prog 61 [.one (.ptr 0 0), .one (.imm 1 list_2.length (list_2.flatMap eS))] [.live ⟨1, 3, [.imm 1 c_1.b.length (c_1.b.flatMap (eI .u8)), .int .i64 c_1.i, .int .i64 c_1.h]⟩] fun v h1 => v = .pv (.one (.str r.1)) ∧ h1 = [.live ⟨1, 3, [.imm 1 r.2.b.length (r.2.b.flatMap (eI .u8)), .int .i64 r.2.i, .int .i64 r.2.h]⟩] := by
  refine ansK (P := fun _ => Try.prog) TryT_eq (fn := Try.f61) Try.func61 rfl ⟨by kernel_rfl, rfl, rfl, by kernel_rfl⟩ (by simp) (Weak.refl _ _) ?_
  rw [g_spec_l01Pick] at h
  obtain ⟨y_3, hy_3, h⟩ := bS h
  try simp only [↓MD, ↓actH, ↓builtinH, ↓builtinG, ↓builtinFT, MU, MB, MC, TT, Nat.reduceEqDiff, Nat.reduceLT, Nat.reduceLeDiff, Nat.reduceAdd, Nat.reduceMul, Nat.reduceSub, Int.reduceToNat, reduceCtorEq, Try.f61]
  refine callE [0] 9 rfl rfl rfl rfl (c_spec_l01Below hy_3) rfl ?_
  obtain ⟨v_4, hv_4, h⟩ := bS h
  have f1 := (fAt eS_ok hv_4 (n := list_2.length) (by simp))
  try simp only [↓MD, ↓actH, ↓builtinH, ↓builtinG, ↓builtinFT, MU, MB, MC, TT, Nat.reduceEqDiff, Nat.reduceLT, Nat.reduceLeDiff, Nat.reduceAdd, Nat.reduceMul, Nat.reduceSub, Int.reduceToNat, reduceCtorEq, Try.f61, f1]
  obtain rfl := Option.some.inj h
  refine endT_of ?_ ⟨rfl, rfl⟩
  exact (weak_norm (ks := [0]) (π := [0]) (fuel := 9) (by simp only [ML, Nat.reduceEqDiff, Nat.reduceLT, Nat.reduceLeDiff, Nat.reduceAdd, Nat.reduceMul, Nat.reduceSub, Int.reduceToNat, reduceCtorEq, TL, TT]))
theorem c_spec_l01In {x_1 : Int} {a_2 : Int} {b_3 : Int} {r : Bool} (h : g_spec_l01In x_1 a_2 b_3 = some r) : Ans Try.prog 81 [.one (.int .i64 x_1), .one (.int .i64 a_2), .one (.int .i64 b_3)] [] fun v h1 => v = .pv (.one (.bool r)) ∧ h1 = [] := by
  refine ansK (P := fun _ => Try.prog) TryT_eq (fn := Try.f81) Try.func81 rfl ⟨by kernel_rfl, rfl, rfl, by kernel_rfl⟩ (by simp) (Weak.refl _ _) ?_
  rw [g_spec_l01In] at h
  try simp only [↓MD, ↓actH, ↓builtinH, ↓builtinG, ↓builtinFT, MU, MB, MC, TT, Nat.reduceEqDiff, Nat.reduceLT, Nat.reduceLeDiff, Nat.reduceAdd, Nat.reduceMul, Nat.reduceSub, Int.reduceToNat, reduceCtorEq, Try.f81]
  refine seqN TryT_eq rfl ?_
  try simp only [↓MD, ↓actH, ↓builtinH, ↓builtinG, ↓builtinFT, MU, MB, MC, TT, Nat.reduceEqDiff, Nat.reduceLT, Nat.reduceLeDiff, Nat.reduceAdd, Nat.reduceMul, Nat.reduceSub, Int.reduceToNat, reduceCtorEq, Try.f81]
  refine stIf h (fun hb_4 h => ?_) (fun hb_4 h => ?_)
  · try simp only [↓MD, ↓actH, ↓builtinH, ↓builtinG, ↓builtinFT, MU, MB, MC, TT, Nat.reduceEqDiff, Nat.reduceLT, Nat.reduceLeDiff, Nat.reduceAdd, Nat.reduceMul, Nat.reduceSub, Int.reduceToNat, reduceCtorEq, Try.f81, hb_4]
    obtain rfl := Option.some.inj h
    refine endT_of ?_ ⟨rfl, rfl⟩
    exact (weak_norm (ks := [0]) (π := []) (fuel := 9) (by simp only [ML, Nat.reduceEqDiff, Nat.reduceLT, Nat.reduceLeDiff, Nat.reduceAdd, Nat.reduceMul, Nat.reduceSub, Int.reduceToNat, reduceCtorEq, TL, TT]))
  · try simp only [↓MD, ↓actH, ↓builtinH, ↓builtinG, ↓builtinFT, MU, MB, MC, TT, Nat.reduceEqDiff, Nat.reduceLT, Nat.reduceLeDiff, Nat.reduceAdd, Nat.reduceMul, Nat.reduceSub, Int.reduceToNat, reduceCtorEq, Try.f81, hb_4]
    obtain rfl := Option.some.inj h
    refine endT_of ?_ ⟨rfl, rfl⟩
    exact (weak_norm (ks := [0]) (π := []) (fuel := 9) (by simp only [ML, Nat.reduceEqDiff, Nat.reduceLT, Nat.reduceLeDiff, Nat.reduceAdd, Nat.reduceMul, Nat.reduceSub, Int.reduceToNat, reduceCtorEq, TL, TT]))
theorem c_spec_l02All {r : Bs} (h : g_spec_l02All = some r) : Ans Try.prog 82 [] [] fun v h1 => v = .pv (.one (.str r)) ∧ h1 = [] := by
  refine ansK (P := fun _ => Try.prog) TryT_eq (fn := Try.f82) Try.func82 rfl ⟨by kernel_rfl, rfl, rfl, by kernel_rfl⟩ (by simp) (Weak.refl _ _) ?_
  rw [g_spec_l02All] at h
  try simp only [↓MD, ↓actH, ↓builtinH, ↓builtinG, ↓builtinFT, MU, MB, MC, TT, Nat.reduceEqDiff, Nat.reduceLT, Nat.reduceLeDiff, Nat.reduceAdd, Nat.reduceMul, Nat.reduceSub, Int.reduceToNat, reduceCtorEq, Try.f82]
  obtain rfl := Option.some.inj h
  refine endT_of ?_ ⟨rfl, rfl⟩
  exact (weak_norm (ks := [0]) (π := []) (fuel := 9) (by simp only [ML, Nat.reduceEqDiff, Nat.reduceLT, Nat.reduceLeDiff, Nat.reduceAdd, Nat.reduceMul, Nat.reduceSub, Int.reduceToNat, reduceCtorEq, TL, TT]))
theorem c_spec_LetterAt {k_1 : Int} {r : Int} (h : g_spec_LetterAt k_1 = some r) : Ans Try.prog 75 [.one (.int .i64 k_1)] [] fun v h1 => v = .pv (.one (.int .u8 r)) ∧ h1 = [] := by
  refine ansK (P := fun _ => Try.prog) TryT_eq (fn := Try.f75) Try.func75 rfl ⟨by kernel_rfl, rfl, rfl, by kernel_rfl⟩ (by simp) (Weak.refl _ _) ?_
  rw [g_spec_LetterAt] at h
  try simp only [↓MD, ↓actH, ↓builtinH, ↓builtinG, ↓builtinFT, MU, MB, MC, TT, Nat.reduceEqDiff, Nat.reduceLT, Nat.reduceLeDiff, Nat.reduceAdd, Nat.reduceMul, Nat.reduceSub, Int.reduceToNat, reduceCtorEq, Try.f75]
  refine seqN TryT_eq rfl ?_
  obtain ⟨y_2, hy_2, h⟩ := bS h
  try simp only [↓MD, ↓actH, ↓builtinH, ↓builtinG, ↓builtinFT, MU, MB, MC, TT, Nat.reduceEqDiff, Nat.reduceLT, Nat.reduceLeDiff, Nat.reduceAdd, Nat.reduceMul, Nat.reduceSub, Int.reduceToNat, reduceCtorEq, Try.f75]
  refine callG [] 9 rfl (by simp only [ML, TT, Nat.reduceEqDiff, Nat.reduceLT, Nat.reduceLeDiff, Nat.reduceAdd, Nat.reduceMul, Nat.reduceSub, Int.reduceToNat, reduceCtorEq, TL]) (by simp only [ML, TT, Nat.reduceEqDiff, Nat.reduceLT, Nat.reduceLeDiff, Nat.reduceAdd, Nat.reduceMul, Nat.reduceSub, Int.reduceToNat, reduceCtorEq, TL]) rfl (c_spec_l01In hy_2) (by simp only [ML, TL, Nat.reduceEqDiff, Nat.reduceLT, Nat.reduceLeDiff, Nat.reduceAdd, Nat.reduceMul, Nat.reduceSub, Int.reduceToNat, reduceCtorEq]) ?_
  intro rd b
  try simp only [↓MD, ↓actH, ↓builtinH, ↓builtinG, ↓builtinFT, MU, MB, MC, TT, Nat.reduceEqDiff, Nat.reduceLT, Nat.reduceLeDiff, Nat.reduceAdd, Nat.reduceMul, Nat.reduceSub, Int.reduceToNat, reduceCtorEq, Try.f75]
  refine stIf h (fun hb_3 h => ?_) (fun hb_3 h => ?_)
  · try simp only [↓MD, ↓actH, ↓builtinH, ↓builtinG, ↓builtinFT, MU, MB, MC, TT, Nat.reduceEqDiff, Nat.reduceLT, Nat.reduceLeDiff, Nat.reduceAdd, Nat.reduceMul, Nat.reduceSub, Int.reduceToNat, reduceCtorEq, Try.f75]
    obtain rfl := Option.some.inj h
    refine endT_of ?_ ⟨rfl, rfl⟩
    exact (weak_norm (ks := [0]) (π := []) (fuel := 9) (by simp only [ML, Nat.reduceEqDiff, Nat.reduceLT, Nat.reduceLeDiff, Nat.reduceAdd, Nat.reduceMul, Nat.reduceSub, Int.reduceToNat, reduceCtorEq, TL, TT]))
  · obtain ⟨y_4, hy_4, h⟩ := bS h
    try simp only [↓MD, ↓actH, ↓builtinH, ↓builtinG, ↓builtinFT, MU, MB, MC, TT, Nat.reduceEqDiff, Nat.reduceLT, Nat.reduceLeDiff, Nat.reduceAdd, Nat.reduceMul, Nat.reduceSub, Int.reduceToNat, reduceCtorEq, Try.f75]
    refine callG [] 9 rfl (by simp only [ML, TT, Nat.reduceEqDiff, Nat.reduceLT, Nat.reduceLeDiff, Nat.reduceAdd, Nat.reduceMul, Nat.reduceSub, Int.reduceToNat, reduceCtorEq, TL]) (by simp only [ML, TT, Nat.reduceEqDiff, Nat.reduceLT, Nat.reduceLeDiff, Nat.reduceAdd, Nat.reduceMul, Nat.reduceSub, Int.reduceToNat, reduceCtorEq, TL]) rfl (c_spec_l02All hy_4) (by simp only [ML, TL, Nat.reduceEqDiff, Nat.reduceLT, Nat.reduceLeDiff, Nat.reduceAdd, Nat.reduceMul, Nat.reduceSub, Int.reduceToNat, reduceCtorEq]) ?_
    intro rd b
    obtain ⟨v_5, hv_5, h⟩ := bS h
    try simp only [↓MD, ↓actH, ↓builtinH, ↓builtinG, ↓builtinFT, MU, MB, MC, TT, Nat.reduceEqDiff, Nat.reduceLT, Nat.reduceLeDiff, Nat.reduceAdd, Nat.reduceMul, Nat.reduceSub, Int.reduceToNat, reduceCtorEq, Try.f75, hv_5]
    obtain rfl := Option.some.inj h
    refine endT_of ?_ ⟨rfl, rfl⟩
    exact (weak_norm (ks := [0]) (π := []) (fuel := 9) (by simp only [ML, Nat.reduceEqDiff, Nat.reduceLT, Nat.reduceLeDiff, Nat.reduceAdd, Nat.reduceMul, Nat.reduceSub, Int.reduceToNat, reduceCtorEq, TL, TT]))
theorem c_spec_l02Name {c_1 : GL01Cur} {r : Bs × GL01Cur} (h : g_spec_l02Name c_1 = some r) : Ans Try.prog 62 [.one (.ptr 0 0)] [.live ⟨1, 3, [.imm 1 c_1.b.length (c_1.b.flatMap (eI .u8)), .int .i64 c_1.i, .int .i64 c_1.h]⟩] fun v h1 => v = .pv (.one (.str r.1)) ∧ h1 = [.live ⟨1, 3, [.imm 1 r.2.b.length (r.2.b.flatMap (eI .u8)), .int .i64 r.2.i, .int .i64 r.2.h]⟩] := by
  refine ansK (P := fun _ => Try.prog) TryT_eq (fn := Try.f62) Try.func62 rfl ⟨by kernel_rfl, rfl, rfl, by kernel_rfl⟩ (by simp) (Weak.refl _ _) ?_
  rw [g_spec_l02Name] at h
  try simp only [↓MD, ↓actH, ↓builtinH, ↓builtinG, ↓builtinFT, MU, MB, MC, TT, Nat.reduceEqDiff, Nat.reduceLT, Nat.reduceLeDiff, Nat.reduceAdd, Nat.reduceMul, Nat.reduceSub, Int.reduceToNat, reduceCtorEq, Try.f62]
  refine seqN TryT_eq rfl ?_
  obtain ⟨y_2, hy_2, h⟩ := bS h
  try simp only [↓MD, ↓actH, ↓builtinH, ↓builtinG, ↓builtinFT, MU, MB, MC, TT, Nat.reduceEqDiff, Nat.reduceLT, Nat.reduceLeDiff, Nat.reduceAdd, Nat.reduceMul, Nat.reduceSub, Int.reduceToNat, reduceCtorEq, Try.f62]
  refine callE [0] 9 rfl rfl rfl rfl (c_spec_l01Once hy_2) rfl ?_
  try simp only [↓MD, ↓actH, ↓builtinH, ↓builtinG, ↓builtinFT, MU, MB, MC, TT, Nat.reduceEqDiff, Nat.reduceLT, Nat.reduceLeDiff, Nat.reduceAdd, Nat.reduceMul, Nat.reduceSub, Int.reduceToNat, reduceCtorEq, Try.f62]
  refine stIf h (fun hb_3 h => ?_) (fun hb_3 h => ?_)
  · obtain ⟨y_4, hy_4, h⟩ := bS h
    have f1 := (show bldN 14 = 14 from rfl)
    have f2 := (show bldC [.str [100, 117, 112], .str [111, 118, 101, 114], .str [115, 113, 117, 97, 114, 101], .str [97, 33], .str [50, 42], .str [103, 111], .str [45, 105, 102], .str [59], .str [63], .str [114, 114, 114, 114, 114, 114, 114], .str [114, 116, 111, 101, 97, 110, 105], .str [119, 119, 119, 119, 119, 119], .str [113, 113, 113, 113, 113], .str [120]] = [[100, 117, 112], [111, 118, 101, 114], [115, 113, 117, 97, 114, 101], [97, 33], [50, 42], [103, 111], [45, 105, 102], [59], [63], [114, 114, 114, 114, 114, 114, 114], [114, 116, 111, 101, 97, 110, 105], [119, 119, 119, 119, 119, 119], [113, 113, 113, 113, 113], [120]].flatMap eS from rfl)
    try simp only [↓MD, ↓actH, ↓builtinH, ↓builtinG, ↓builtinFT, MU, MB, MC, TT, Nat.reduceEqDiff, Nat.reduceLT, Nat.reduceLeDiff, Nat.reduceAdd, Nat.reduceMul, Nat.reduceSub, Int.reduceToNat, reduceCtorEq, Try.f62, f1, f2]
    refine callGz [1] [0, 1] [0] 9 rfl rfl (by simp only [ML, MZ, TT, Nat.reduceEqDiff, Nat.reduceLT, Nat.reduceLeDiff, Nat.reduceAdd, Nat.reduceMul, Nat.reduceSub, Int.reduceToNat, reduceCtorEq, TL, fWin eS_ok (n := 14) (xs := [[100, 117, 112], [111, 118, 101, 114], [115, 113, 117, 97, 114, 101], [97, 33], [50, 42], [103, 111], [45, 105, 102], [59], [63], [114, 114, 114, 114, 114, 114, 114], [114, 116, 111, 101, 97, 110, 105], [119, 119, 119, 119, 119, 119], [113, 113, 113, 113, 113], [120]]) (by simp)]) (by simp only [ML, MZ, TT, Nat.reduceEqDiff, Nat.reduceLT, Nat.reduceLeDiff, Nat.reduceAdd, Nat.reduceMul, Nat.reduceSub, Int.reduceToNat, reduceCtorEq, TL, fWin eS_ok (n := 14) (xs := [[100, 117, 112], [111, 118, 101, 114], [115, 113, 117, 97, 114, 101], [97, 33], [50, 42], [103, 111], [45, 105, 102], [59], [63], [114, 114, 114, 114, 114, 114, 114], [114, 116, 111, 101, 97, 110, 105], [119, 119, 119, 119, 119, 119], [113, 113, 113, 113, 113], [120]]) (by simp)]) rfl rfl (c_spec_l01Pick hy_4) (by simp only [ML, TL, Nat.reduceEqDiff, Nat.reduceLT, Nat.reduceLeDiff, Nat.reduceAdd, Nat.reduceMul, Nat.reduceSub, Int.reduceToNat, reduceCtorEq]) ?_
    intro rd
    try simp only [↓MD, ↓actH, ↓builtinH, ↓builtinG, ↓builtinFT, MU, MB, MC, TT, Nat.reduceEqDiff, Nat.reduceLT, Nat.reduceLeDiff, Nat.reduceAdd, Nat.reduceMul, Nat.reduceSub, Int.reduceToNat, reduceCtorEq, Try.f62, f1, f2]
    obtain rfl := Option.some.inj h
    refine endT_of ?_ ⟨rfl, rfl⟩
    exact (weak_norm (ks := [0]) (π := [0]) (fuel := 9) (by simp only [ML, Nat.reduceEqDiff, Nat.reduceLT, Nat.reduceLeDiff, Nat.reduceAdd, Nat.reduceMul, Nat.reduceSub, Int.reduceToNat, reduceCtorEq, TL, TT]))
  · obtain ⟨y_5, hy_5, h⟩ := bS h
    have f3 := (show bldN 0 = 0 from rfl)
    have f4 := (show bldC [] = ([] : List Int).flatMap (eI .u8) from rfl)
    try simp only [↓MD, ↓actH, ↓builtinH, ↓builtinG, ↓builtinFT, MU, MB, MC, TT, Nat.reduceEqDiff, Nat.reduceLT, Nat.reduceLeDiff, Nat.reduceAdd, Nat.reduceMul, Nat.reduceSub, Int.reduceToNat, reduceCtorEq, Try.f62, f3, f4]
    refine callE [0] 9 rfl rfl rfl rfl (c_spec_l01Below hy_5) rfl ?_
    try simp only [↓MD, ↓actH, ↓builtinH, ↓builtinG, ↓builtinFT, MU, MB, MC, TT, Nat.reduceEqDiff, Nat.reduceLT, Nat.reduceLeDiff, Nat.reduceAdd, Nat.reduceMul, Nat.reduceSub, Int.reduceToNat, reduceCtorEq, Try.f62, f3, f4]
    obtain ⟨y_8, hy_9, h⟩ := bS h
    refine seqK TryT_eq (fun p : GL01Cur × (List Int) => ⟨[(3, .pv (.one (.arr 1 0 p.2.length)))], [.live ⟨1, 3, [.imm 1 p.1.b.length (p.1.b.flatMap (eI .u8)), .int .i64 p.1.i, .int .i64 p.1.h]⟩, .live ⟨1, p.2.length, p.2.flatMap (eI .u8)⟩]⟩) (fun v => y_8 = v) (by rfl) ?_ ?_
    · try simp only [↓MD, ↓actH, ↓builtinH, ↓builtinG, ↓builtinFT, MU, MB, MC, TT, Nat.reduceEqDiff, Nat.reduceLT, Nat.reduceLeDiff, Nat.reduceAdd, Nat.reduceMul, Nat.reduceSub, Int.reduceToNat, reduceCtorEq, Try.f62, f3, f4]
      obtain ⟨y_15, hy_16, hy_9⟩ := bS hy_9
      refine loopK TryT_eq (fun p : GL01Cur × (List Int) × Int => ⟨[(0, .pv (.one (.ptr 0 0))), (3, .pv (.one (.arr 1 0 p.2.1.length))), (4, .pv (.one (.int .i64 (IntKind.wrap .i64 (1 + y_5.1))))), (5, .pv (.one (.int .i64 p.2.2)))], [.live ⟨1, 3, [.imm 1 p.1.b.length (p.1.b.flatMap (eI .u8)), .int .i64 p.1.i, .int .i64 p.1.h]⟩, .live ⟨1, p.2.1.length, p.2.1.flatMap (eI .u8)⟩]⟩) (fun k p => g_spec_l02Name_l0 y_5 k p.1 p.2.1 p.2.2 = some y_15) (by kernel_rfl) bigK (y_5.2, ([] : List Int), 0) (weak_norm (ks := [0, 3, 4, 5]) (π := [0, 1]) (fuel := 9) (by simp only [ML, Nat.reduceEqDiff, Nat.reduceLT, Nat.reduceLeDiff, Nat.reduceAdd, Nat.reduceMul, Nat.reduceSub, Int.reduceToNat, reduceCtorEq, TL, TT, fWin (eI_ok .u8) (n := 0) (xs := ([] : List Int)) (by simp)])) hy_16 (fun _ h => nomatch (show none = some _ from h)) ?_
      rintro k_17 ⟨c_10, out_11, i_12⟩ hk_18
      rw [g_spec_l02Name_l0] at hk_18
      try dsimp only at hk_18
      try simp only [↓MD, ↓actH, ↓builtinH, ↓builtinG, ↓builtinFT, MU, MB, MC, TT, Nat.reduceEqDiff, Nat.reduceLT, Nat.reduceLeDiff, Nat.reduceAdd, Nat.reduceMul, Nat.reduceSub, Int.reduceToNat, reduceCtorEq, Try.f62]
      refine seqN TryT_eq rfl ?_
      try simp only [↓MD, ↓actH, ↓builtinH, ↓builtinG, ↓builtinFT, MU, MB, MC, TT, Nat.reduceEqDiff, Nat.reduceLT, Nat.reduceLeDiff, Nat.reduceAdd, Nat.reduceMul, Nat.reduceSub, Int.reduceToNat, reduceCtorEq, Try.f62]
      refine stIf hk_18 (fun hb_19 hk_18 => ?_) (fun hb_19 hk_18 => ?_)
      · try simp only [↓MD, ↓actH, ↓builtinH, ↓builtinG, ↓builtinFT, MU, MB, MC, TT, Nat.reduceEqDiff, Nat.reduceLT, Nat.reduceLeDiff, Nat.reduceAdd, Nat.reduceMul, Nat.reduceSub, Int.reduceToNat, reduceCtorEq, Try.f62]
        refine seqN TryT_eq rfl ?_
        obtain ⟨y_20, hy_20, hk_18⟩ := bS hk_18
        try simp only [↓MD, ↓actH, ↓builtinH, ↓builtinG, ↓builtinFT, MU, MB, MC, TT, Nat.reduceEqDiff, Nat.reduceLT, Nat.reduceLeDiff, Nat.reduceAdd, Nat.reduceMul, Nat.reduceSub, Int.reduceToNat, reduceCtorEq, Try.f62]
        refine callE [0] 9 rfl rfl rfl rfl (c_spec_l01Below hy_20) rfl ?_
        obtain ⟨y_21, hy_21, hk_18⟩ := bS hk_18
        try simp only [↓MD, ↓actH, ↓builtinH, ↓builtinG, ↓builtinFT, MU, MB, MC, TT, Nat.reduceEqDiff, Nat.reduceLT, Nat.reduceLeDiff, Nat.reduceAdd, Nat.reduceMul, Nat.reduceSub, Int.reduceToNat, reduceCtorEq, Try.f62]
        refine callG [] 9 rfl (by simp only [ML, TT, Nat.reduceEqDiff, Nat.reduceLT, Nat.reduceLeDiff, Nat.reduceAdd, Nat.reduceMul, Nat.reduceSub, Int.reduceToNat, reduceCtorEq, TL]) (by simp only [ML, TT, Nat.reduceEqDiff, Nat.reduceLT, Nat.reduceLeDiff, Nat.reduceAdd, Nat.reduceMul, Nat.reduceSub, Int.reduceToNat, reduceCtorEq, TL]) rfl (c_spec_LetterAt hy_21) (by simp only [ML, TL, Nat.reduceEqDiff, Nat.reduceLT, Nat.reduceLeDiff, Nat.reduceAdd, Nat.reduceMul, Nat.reduceSub, Int.reduceToNat, reduceCtorEq]) ?_
        intro rd b
        obtain ⟨v_22, hv_22, hk_18⟩ := bS hk_18
        have f5 := (show bldN 1 = 1 from rfl)
        have f6 := (show bldC [.int .u8 y_21] = [y_21].flatMap (eI .u8) from rfl)
        have f7 := (fWin (eI_ok .u8) (n := 1) (xs := [y_21]) (by simp))
        have f8 := (fApp hv_22 (n := out_11.length) (by simp) (m := 1) (by simp [bsOf]))
        have f9 := (fWin (eI_ok .u8) (n := out_11.length) (xs := out_11) (by simp))
        have f10 := (fCat (e := (eI .u8)) (ns := [y_21].flatMap (eI .u8)) hv_22 rfl)
        try simp only [↓MD, ↓actH, ↓builtinH, ↓builtinG, ↓builtinFT, MU, MB, MC, TT, Nat.reduceEqDiff, Nat.reduceLT, Nat.reduceLeDiff, Nat.reduceAdd, Nat.reduceMul, Nat.reduceSub, Int.reduceToNat, reduceCtorEq, Try.f62, f5, f6, f7, f8, f9, f10]
        exact ⟨(y_20.2, v_22, IntKind.wrap .i64 (i_12 + 1)), hk_18, (weak_norm (ks := [0, 3, 4, 5]) (π := [0, 3]) (fuel := 9) (by simp only [ML, Nat.reduceEqDiff, Nat.reduceLT, Nat.reduceLeDiff, Nat.reduceAdd, Nat.reduceMul, Nat.reduceSub, Int.reduceToNat, reduceCtorEq, TL, TT]))⟩
      · obtain rfl := Option.some.inj hk_18
        try dsimp only at hy_9
        try simp only [↓MD, ↓actH, ↓builtinH, ↓builtinG, ↓builtinFT, MU, MB, MC, TT, Nat.reduceEqDiff, Nat.reduceLT, Nat.reduceLeDiff, Nat.reduceAdd, Nat.reduceMul, Nat.reduceSub, Int.reduceToNat, reduceCtorEq, Try.f62]
        obtain rfl := Option.some.inj hy_9
        exact cutT_mk (c_10, out_11) rfl (weak_norm (ks := [3]) (π := [0, 1]) (fuel := 9) (by simp only [ML, Nat.reduceEqDiff, Nat.reduceLT, Nat.reduceLeDiff, Nat.reduceAdd, Nat.reduceMul, Nat.reduceSub, Int.reduceToNat, reduceCtorEq, TL, TT]))
    · rintro ⟨p_6, out_7⟩ hp
      replace hp := hp.symm; subst hp
      try dsimp only at h
      have f11 := (fWin (eI_ok .u8) (n := out_7.length) (xs := out_7) (by simp))
      try simp only [↓MD, ↓actH, ↓builtinH, ↓builtinG, ↓builtinFT, MU, MB, MC, TT, Nat.reduceEqDiff, Nat.reduceLT, Nat.reduceLeDiff, Nat.reduceAdd, Nat.reduceMul, Nat.reduceSub, Int.reduceToNat, reduceCtorEq, Try.f62, f11]
      obtain rfl := Option.some.inj h
      refine endT_of ?_ ⟨rfl, rfl⟩
      exact (weak_norm (ks := [0]) (π := [0]) (fuel := 9) (by simp only [ML, Nat.reduceEqDiff, Nat.reduceLT, Nat.reduceLeDiff, Nat.reduceAdd, Nat.reduceMul, Nat.reduceSub, Int.reduceToNat, reduceCtorEq, TL, TT]))
theorem c_spec_l04Some {c_1 : GL01Cur} {r : GItem × GL01Cur} (h : g_spec_l04Some c_1 = some r) : Ans Try.prog 48 [.one (.ptr 0 0)] [.live ⟨1, 3, [.imm 1 c_1.b.length (c_1.b.flatMap (eI .u8)), .int .i64 c_1.i, .int .i64 c_1.h]⟩] fun v h1 => v = .pv (.agg [.int .i64 r.1.Kind, .str r.1.Name, .int .i32 r.1.N, .bool r.1.Hex, .int .u32 r.1.Raw]) ∧ h1 = [.live ⟨1, 3, [.imm 1 r.2.b.length (r.2.b.flatMap (eI .u8)), .int .i64 r.2.i, .int .i64 r.2.h]⟩] := by
  refine ansK (P := fun _ => Try.prog) TryT_eq (fn := Try.f48) Try.func48 rfl ⟨by kernel_rfl, rfl, rfl, by kernel_rfl⟩ (by simp) (Weak.refl _ _) ?_
  rw [g_spec_l04Some] at h
  try simp only [↓MD, ↓actH, ↓builtinH, ↓builtinG, ↓builtinFT, MU, MB, MC, TT, Nat.reduceEqDiff, Nat.reduceLT, Nat.reduceLeDiff, Nat.reduceAdd, Nat.reduceMul, Nat.reduceSub, Int.reduceToNat, reduceCtorEq, Try.f48]
  refine seqN TryT_eq rfl ?_
  obtain ⟨y_2, hy_2, h⟩ := bS h
  try simp only [↓MD, ↓actH, ↓builtinH, ↓builtinG, ↓builtinFT, MU, MB, MC, TT, Nat.reduceEqDiff, Nat.reduceLT, Nat.reduceLeDiff, Nat.reduceAdd, Nat.reduceMul, Nat.reduceSub, Int.reduceToNat, reduceCtorEq, Try.f48]
  refine callE [0] 9 rfl rfl rfl rfl (c_spec_l01Below hy_2) rfl ?_
  try simp only [↓MD, ↓actH, ↓builtinH, ↓builtinG, ↓builtinFT, MU, MB, MC, TT, Nat.reduceEqDiff, Nat.reduceLT, Nat.reduceLeDiff, Nat.reduceAdd, Nat.reduceMul, Nat.reduceSub, Int.reduceToNat, reduceCtorEq, Try.f48]
  refine stIf h (fun hb_3 h => ?_) (fun hb_3 h => ?_)
  · obtain ⟨y_4, hy_4, h⟩ := bS h
    try simp only [↓MD, ↓actH, ↓builtinH, ↓builtinG, ↓builtinFT, MU, MB, MC, TT, Nat.reduceEqDiff, Nat.reduceLT, Nat.reduceLeDiff, Nat.reduceAdd, Nat.reduceMul, Nat.reduceSub, Int.reduceToNat, reduceCtorEq, Try.f48]
    refine callE [0] 9 rfl rfl rfl rfl (c_spec_l04Int hy_4) rfl ?_
    obtain ⟨y_5, hy_5, h⟩ := bS h
    try simp only [↓MD, ↓actH, ↓builtinH, ↓builtinG, ↓builtinFT, MU, MB, MC, TT, Nat.reduceEqDiff, Nat.reduceLT, Nat.reduceLeDiff, Nat.reduceAdd, Nat.reduceMul, Nat.reduceSub, Int.reduceToNat, reduceCtorEq, Try.f48]
    refine callE [0] 9 rfl rfl rfl rfl (c_spec_l01Once hy_5) rfl ?_
    try simp only [↓MD, ↓actH, ↓builtinH, ↓builtinG, ↓builtinFT, MU, MB, MC, TT, Nat.reduceEqDiff, Nat.reduceLT, Nat.reduceLeDiff, Nat.reduceAdd, Nat.reduceMul, Nat.reduceSub, Int.reduceToNat, reduceCtorEq, Try.f48]
    obtain rfl := Option.some.inj h
    refine endT_of ?_ ⟨rfl, rfl⟩
    exact (weak_norm (ks := [0]) (π := [0]) (fuel := 9) (by simp only [ML, Nat.reduceEqDiff, Nat.reduceLT, Nat.reduceLeDiff, Nat.reduceAdd, Nat.reduceMul, Nat.reduceSub, Int.reduceToNat, reduceCtorEq, TL, TT]))
  · try simp only [↓MD, ↓actH, ↓builtinH, ↓builtinG, ↓builtinFT, MU, MB, MC, TT, Nat.reduceEqDiff, Nat.reduceLT, Nat.reduceLeDiff, Nat.reduceAdd, Nat.reduceMul, Nat.reduceSub, Int.reduceToNat, reduceCtorEq, Try.f48]
    refine stIf h (fun hb_6 h => ?_) (fun hb_6 h => ?_)
    · obtain ⟨y_7, hy_7, h⟩ := bS h
      try simp only [↓MD, ↓actH, ↓builtinH, ↓builtinG, ↓builtinFT, MU, MB, MC, TT, Nat.reduceEqDiff, Nat.reduceLT, Nat.reduceLeDiff, Nat.reduceAdd, Nat.reduceMul, Nat.reduceSub, Int.reduceToNat, reduceCtorEq, Try.f48]
      refine callE [0] 9 rfl rfl rfl rfl (c_spec_l04Int hy_7) rfl ?_
      obtain ⟨y_8, hy_8, h⟩ := bS h
      try simp only [↓MD, ↓actH, ↓builtinH, ↓builtinG, ↓builtinFT, MU, MB, MC, TT, Nat.reduceEqDiff, Nat.reduceLT, Nat.reduceLeDiff, Nat.reduceAdd, Nat.reduceMul, Nat.reduceSub, Int.reduceToNat, reduceCtorEq, Try.f48]
      refine callE [0] 9 rfl rfl rfl rfl (c_spec_l01Once hy_8) rfl ?_
      try simp only [↓MD, ↓actH, ↓builtinH, ↓builtinG, ↓builtinFT, MU, MB, MC, TT, Nat.reduceEqDiff, Nat.reduceLT, Nat.reduceLeDiff, Nat.reduceAdd, Nat.reduceMul, Nat.reduceSub, Int.reduceToNat, reduceCtorEq, Try.f48]
      obtain rfl := Option.some.inj h
      refine endT_of ?_ ⟨rfl, rfl⟩
      exact (weak_norm (ks := [0]) (π := [0]) (fuel := 9) (by simp only [ML, Nat.reduceEqDiff, Nat.reduceLT, Nat.reduceLeDiff, Nat.reduceAdd, Nat.reduceMul, Nat.reduceSub, Int.reduceToNat, reduceCtorEq, TL, TT]))
    · try simp only [↓MD, ↓actH, ↓builtinH, ↓builtinG, ↓builtinFT, MU, MB, MC, TT, Nat.reduceEqDiff, Nat.reduceLT, Nat.reduceLeDiff, Nat.reduceAdd, Nat.reduceMul, Nat.reduceSub, Int.reduceToNat, reduceCtorEq, Try.f48]
      refine stIf h (fun hb_9 h => ?_) (fun hb_9 h => ?_)
      · obtain ⟨y_10, hy_10, h⟩ := bS h
        have f1 := (show bldN 4 = 4 from rfl)
        have f2 := (show bldC [.str [120], .str [97, 116], .str [113, 113, 113, 113], .str [116, 101, 110]] = [[120], [97, 116], [113, 113, 113, 113], [116, 101, 110]].flatMap eS from rfl)
        try simp only [↓MD, ↓actH, ↓builtinH, ↓builtinG, ↓builtinFT, MU, MB, MC, TT, Nat.reduceEqDiff, Nat.reduceLT, Nat.reduceLeDiff, Nat.reduceAdd, Nat.reduceMul, Nat.reduceSub, Int.reduceToNat, reduceCtorEq, Try.f48, f1, f2]
        refine callGz [2] [0, 2] [0] 9 rfl rfl (by simp only [ML, MZ, TT, Nat.reduceEqDiff, Nat.reduceLT, Nat.reduceLeDiff, Nat.reduceAdd, Nat.reduceMul, Nat.reduceSub, Int.reduceToNat, reduceCtorEq, TL, fWin eS_ok (n := 4) (xs := [[120], [97, 116], [113, 113, 113, 113], [116, 101, 110]]) (by simp)]) (by simp only [ML, MZ, TT, Nat.reduceEqDiff, Nat.reduceLT, Nat.reduceLeDiff, Nat.reduceAdd, Nat.reduceMul, Nat.reduceSub, Int.reduceToNat, reduceCtorEq, TL, fWin eS_ok (n := 4) (xs := [[120], [97, 116], [113, 113, 113, 113], [116, 101, 110]]) (by simp)]) rfl rfl (c_spec_l01Pick hy_10) (by simp only [ML, TL, Nat.reduceEqDiff, Nat.reduceLT, Nat.reduceLeDiff, Nat.reduceAdd, Nat.reduceMul, Nat.reduceSub, Int.reduceToNat, reduceCtorEq]) ?_
        intro rd
        obtain ⟨y_11, hy_11, h⟩ := bS h
        try simp only [↓MD, ↓actH, ↓builtinH, ↓builtinG, ↓builtinFT, MU, MB, MC, TT, Nat.reduceEqDiff, Nat.reduceLT, Nat.reduceLeDiff, Nat.reduceAdd, Nat.reduceMul, Nat.reduceSub, Int.reduceToNat, reduceCtorEq, Try.f48, f1, f2]
        refine callE [0] 9 rfl rfl rfl rfl (c_spec_l04Int hy_11) rfl ?_
        try simp only [↓MD, ↓actH, ↓builtinH, ↓builtinG, ↓builtinFT, MU, MB, MC, TT, Nat.reduceEqDiff, Nat.reduceLT, Nat.reduceLeDiff, Nat.reduceAdd, Nat.reduceMul, Nat.reduceSub, Int.reduceToNat, reduceCtorEq, Try.f48, f1, f2]
        obtain rfl := Option.some.inj h
        refine endT_of ?_ ⟨rfl, rfl⟩
        exact (weak_norm (ks := [0]) (π := [0]) (fuel := 9) (by simp only [ML, Nat.reduceEqDiff, Nat.reduceLT, Nat.reduceLeDiff, Nat.reduceAdd, Nat.reduceMul, Nat.reduceSub, Int.reduceToNat, reduceCtorEq, TL, TT]))
      · obtain ⟨y_12, hy_12, h⟩ := bS h
        try simp only [↓MD, ↓actH, ↓builtinH, ↓builtinG, ↓builtinFT, MU, MB, MC, TT, Nat.reduceEqDiff, Nat.reduceLT, Nat.reduceLeDiff, Nat.reduceAdd, Nat.reduceMul, Nat.reduceSub, Int.reduceToNat, reduceCtorEq, Try.f48]
        refine callE [0] 9 rfl rfl rfl rfl (c_spec_l01Below hy_12) rfl ?_
        obtain ⟨y_13, hy_13, h⟩ := bS h
        try simp only [↓MD, ↓actH, ↓builtinH, ↓builtinG, ↓builtinFT, MU, MB, MC, TT, Nat.reduceEqDiff, Nat.reduceLT, Nat.reduceLeDiff, Nat.reduceAdd, Nat.reduceMul, Nat.reduceSub, Int.reduceToNat, reduceCtorEq, Try.f48]
        refine callE [0] 9 rfl rfl rfl rfl (c_spec_l02Name hy_13) rfl ?_
        try simp only [↓MD, ↓actH, ↓builtinH, ↓builtinG, ↓builtinFT, MU, MB, MC, TT, Nat.reduceEqDiff, Nat.reduceLT, Nat.reduceLeDiff, Nat.reduceAdd, Nat.reduceMul, Nat.reduceSub, Int.reduceToNat, reduceCtorEq, Try.f48]
        obtain rfl := Option.some.inj h
        refine endT_of ?_ ⟨rfl, rfl⟩
        exact (weak_norm (ks := [0]) (π := [0]) (fuel := 9) (by simp only [ML, Nat.reduceEqDiff, Nat.reduceLT, Nat.reduceLeDiff, Nat.reduceAdd, Nat.reduceMul, Nat.reduceSub, Int.reduceToNat, reduceCtorEq, TL, TT]))
theorem c_spec_l04Num {n_1 : Int} {hex_2 : Bool} {short_3 : Int} {long_4 : Int} {r : (List Int)} (h : g_spec_l04Num n_1 hex_2 short_3 long_4 = some r) : Ans Try.prog 63 [.one (.int .i32 n_1), .one (.bool hex_2), .one (.int .u32 short_3), .one (.int .u32 long_4)] [] fun v h1 => v = .pv (.one (.arr 0 0 r.length)) ∧ h1 = [.live ⟨1, r.length, r.flatMap (eI .u32)⟩] := by
  refine ansK (P := fun _ => Try.prog) TryT_eq (fn := Try.f63) Try.func63 rfl ⟨by kernel_rfl, rfl, rfl, by kernel_rfl⟩ (by simp) (Weak.refl _ _) ?_
  rw [g_spec_l04Num] at h
  try simp only [↓MD, ↓actH, ↓builtinH, ↓builtinG, ↓builtinFT, MU, MB, MC, TT, Nat.reduceEqDiff, Nat.reduceLT, Nat.reduceLeDiff, Nat.reduceAdd, Nat.reduceMul, Nat.reduceSub, Int.reduceToNat, reduceCtorEq, Try.f63]
  obtain ⟨y_6, hy_7, h⟩ := bS h
  refine seqK TryT_eq (fun p : Int => ⟨[(0, .pv (.one (.int .i32 n_1))), (2, .pv (.one (.int .u32 short_3))), (3, .pv (.one (.int .u32 long_4))), (9, .pv (.one (.int .u32 p)))], []⟩) (fun v => y_6 = v) (by rfl) ?_ ?_
  · try simp only [↓MD, ↓actH, ↓builtinH, ↓builtinG, ↓builtinFT, MU, MB, MC, TT, Nat.reduceEqDiff, Nat.reduceLT, Nat.reduceLeDiff, Nat.reduceAdd, Nat.reduceMul, Nat.reduceSub, Int.reduceToNat, reduceCtorEq, Try.f63]
    refine stIf hy_7 (fun hb_8 hy_7 => ?_) (fun hb_8 hy_7 => ?_)
    · try simp only [↓MD, ↓actH, ↓builtinH, ↓builtinG, ↓builtinFT, MU, MB, MC, TT, Nat.reduceEqDiff, Nat.reduceLT, Nat.reduceLeDiff, Nat.reduceAdd, Nat.reduceMul, Nat.reduceSub, Int.reduceToNat, reduceCtorEq, Try.f63]
      obtain rfl := Option.some.inj hy_7
      exact cutT_mk 16 rfl (weak_norm (ks := [0, 2, 3, 9]) (π := []) (fuel := 9) (by simp only [ML, Nat.reduceEqDiff, Nat.reduceLT, Nat.reduceLeDiff, Nat.reduceAdd, Nat.reduceMul, Nat.reduceSub, Int.reduceToNat, reduceCtorEq, TL, TT]))
    · try simp only [↓MD, ↓actH, ↓builtinH, ↓builtinG, ↓builtinFT, MU, MB, MC, TT, Nat.reduceEqDiff, Nat.reduceLT, Nat.reduceLeDiff, Nat.reduceAdd, Nat.reduceMul, Nat.reduceSub, Int.reduceToNat, reduceCtorEq, Try.f63]
      obtain rfl := Option.some.inj hy_7
      exact cutT_mk 0 rfl (weak_norm (ks := [0, 2, 3, 9]) (π := []) (fuel := 9) (by simp only [ML, Nat.reduceEqDiff, Nat.reduceLT, Nat.reduceLeDiff, Nat.reduceAdd, Nat.reduceMul, Nat.reduceSub, Int.reduceToNat, reduceCtorEq, TL, TT]))
  · rintro bit_5 hp
    replace hp := hp.symm; subst hp
    try dsimp only at h
    try simp only [↓MD, ↓actH, ↓builtinH, ↓builtinG, ↓builtinFT, MU, MB, MC, TT, Nat.reduceEqDiff, Nat.reduceLT, Nat.reduceLeDiff, Nat.reduceAdd, Nat.reduceMul, Nat.reduceSub, Int.reduceToNat, reduceCtorEq, Try.f63]
    refine seqN TryT_eq rfl ?_
    try simp only [↓MD, ↓actH, ↓builtinH, ↓builtinG, ↓builtinFT, MU, MB, MC, TT, Nat.reduceEqDiff, Nat.reduceLT, Nat.reduceLeDiff, Nat.reduceAdd, Nat.reduceMul, Nat.reduceSub, Int.reduceToNat, reduceCtorEq, Try.f63]
    obtain ⟨y_10, hy_11, h⟩ := bS h
    refine seqK TryT_eq (fun p : Bool => ⟨[(0, .pv (.one (.int .i32 n_1))), (2, .pv (.one (.int .u32 short_3))), (3, .pv (.one (.int .u32 long_4))), (9, .pv (.one (.int .u32 bit_5))), (16, .pv (.one (.bool p)))], []⟩) (fun v => y_10 = v) (by rfl) ?_ ?_
    · try simp only [↓MD, ↓actH, ↓builtinH, ↓builtinG, ↓builtinFT, MU, MB, MC, TT, Nat.reduceEqDiff, Nat.reduceLT, Nat.reduceLeDiff, Nat.reduceAdd, Nat.reduceMul, Nat.reduceSub, Int.reduceToNat, reduceCtorEq, Try.f63]
      refine stIf hy_11 (fun hb_12 hy_11 => ?_) (fun hb_12 hy_11 => ?_)
      · try simp only [↓MD, ↓actH, ↓builtinH, ↓builtinG, ↓builtinFT, MU, MB, MC, TT, Nat.reduceEqDiff, Nat.reduceLT, Nat.reduceLeDiff, Nat.reduceAdd, Nat.reduceMul, Nat.reduceSub, Int.reduceToNat, reduceCtorEq, Try.f63, hb_12]
        obtain rfl := Option.some.inj hy_11
        exact cutT_mk (decide (n_1 ≤ 67108863)) rfl (weak_norm (ks := [0, 2, 3, 9, 16]) (π := []) (fuel := 9) (by simp only [ML, Nat.reduceEqDiff, Nat.reduceLT, Nat.reduceLeDiff, Nat.reduceAdd, Nat.reduceMul, Nat.reduceSub, Int.reduceToNat, reduceCtorEq, TL, TT]))
      · try simp only [↓MD, ↓actH, ↓builtinH, ↓builtinG, ↓builtinFT, MU, MB, MC, TT, Nat.reduceEqDiff, Nat.reduceLT, Nat.reduceLeDiff, Nat.reduceAdd, Nat.reduceMul, Nat.reduceSub, Int.reduceToNat, reduceCtorEq, Try.f63, hb_12]
        obtain rfl := Option.some.inj hy_11
        exact cutT_mk false rfl (weak_norm (ks := [0, 2, 3, 9, 16]) (π := []) (fuel := 9) (by simp only [ML, Nat.reduceEqDiff, Nat.reduceLT, Nat.reduceLeDiff, Nat.reduceAdd, Nat.reduceMul, Nat.reduceSub, Int.reduceToNat, reduceCtorEq, TL, TT]))
    · rintro v_9 hp
      replace hp := hp.symm; subst hp
      try dsimp only at h
      try simp only [↓MD, ↓actH, ↓builtinH, ↓builtinG, ↓builtinFT, MU, MB, MC, TT, Nat.reduceEqDiff, Nat.reduceLT, Nat.reduceLeDiff, Nat.reduceAdd, Nat.reduceMul, Nat.reduceSub, Int.reduceToNat, reduceCtorEq, Try.f63]
      refine stIf h (fun hb_13 h => ?_) (fun hb_13 h => ?_)
      · have f1 := (show bldN 1 = 1 from rfl)
        have f2 := (show bldC [.int .u32 (IntKind.wrap .u32 ((IntKind.wrap .u32 ((IntKind.wrap .u32 ((IntKind.wrap .u32 n_1) * 32)) + bit_5)) + short_3))] = [IntKind.wrap .u32 ((IntKind.wrap .u32 ((IntKind.wrap .u32 ((IntKind.wrap .u32 n_1) * 32)) + bit_5)) + short_3)].flatMap (eI .u32) from rfl)
        try simp only [↓MD, ↓actH, ↓builtinH, ↓builtinG, ↓builtinFT, MU, MB, MC, TT, Nat.reduceEqDiff, Nat.reduceLT, Nat.reduceLeDiff, Nat.reduceAdd, Nat.reduceMul, Nat.reduceSub, Int.reduceToNat, reduceCtorEq, Try.f63, f1, f2]
        obtain rfl := Option.some.inj h
        refine endT_of ?_ ⟨rfl, rfl⟩
        exact (weak_norm (ks := [0]) (π := [0]) (fuel := 9) (by simp only [ML, Nat.reduceEqDiff, Nat.reduceLT, Nat.reduceLeDiff, Nat.reduceAdd, Nat.reduceMul, Nat.reduceSub, Int.reduceToNat, reduceCtorEq, TL, TT, fWin (eI_ok .u32) (n := 1) (xs := [IntKind.wrap .u32 ((IntKind.wrap .u32 ((IntKind.wrap .u32 ((IntKind.wrap .u32 n_1) * 32)) + bit_5)) + short_3)]) (by simp)]))
      · have f3 := (show bldN 2 = 2 from rfl)
        have f4 := (show bldC [.int .u32 (IntKind.wrap .u32 (bit_5 + long_4)), .int .u32 (IntKind.wrap .u32 n_1)] = [IntKind.wrap .u32 (bit_5 + long_4), IntKind.wrap .u32 n_1].flatMap (eI .u32) from rfl)
        try simp only [↓MD, ↓actH, ↓builtinH, ↓builtinG, ↓builtinFT, MU, MB, MC, TT, Nat.reduceEqDiff, Nat.reduceLT, Nat.reduceLeDiff, Nat.reduceAdd, Nat.reduceMul, Nat.reduceSub, Int.reduceToNat, reduceCtorEq, Try.f63, f3, f4]
        obtain rfl := Option.some.inj h
        refine endT_of ?_ ⟨rfl, rfl⟩
        exact (weak_norm (ks := [0]) (π := [0]) (fuel := 9) (by simp only [ML, Nat.reduceEqDiff, Nat.reduceLT, Nat.reduceLeDiff, Nat.reduceAdd, Nat.reduceMul, Nat.reduceSub, Int.reduceToNat, reduceCtorEq, TL, TT, fWin (eI_ok .u32) (n := 2) (xs := [IntKind.wrap .u32 (bit_5 + long_4), IntKind.wrap .u32 n_1]) (by simp)]))
theorem c_spec_LetterOf {b_1 : Int} {r : Int} (h : g_spec_LetterOf b_1 = some r) : Ans Try.prog 90 [.one (.int .u8 b_1)] [] fun v h1 => v = .pv (.one (.int .i64 r)) ∧ h1 = [] := by
  refine ansK (P := fun _ => Try.prog) TryT_eq (fn := Try.f90) Try.func90 rfl ⟨by kernel_rfl, rfl, rfl, by kernel_rfl⟩ (by simp) (Weak.refl _ _) ?_
  rw [g_spec_LetterOf] at h
  obtain ⟨y_2, hy_2, h⟩ := bS h
  try simp only [↓MD, ↓actH, ↓builtinH, ↓builtinG, ↓builtinFT, MU, MB, MC, TT, Nat.reduceEqDiff, Nat.reduceLT, Nat.reduceLeDiff, Nat.reduceAdd, Nat.reduceMul, Nat.reduceSub, Int.reduceToNat, reduceCtorEq, Try.f90]
  refine callG [] 9 rfl (by simp only [ML, TT, Nat.reduceEqDiff, Nat.reduceLT, Nat.reduceLeDiff, Nat.reduceAdd, Nat.reduceMul, Nat.reduceSub, Int.reduceToNat, reduceCtorEq, TL]) (by simp only [ML, TT, Nat.reduceEqDiff, Nat.reduceLT, Nat.reduceLeDiff, Nat.reduceAdd, Nat.reduceMul, Nat.reduceSub, Int.reduceToNat, reduceCtorEq, TL]) rfl (c_spec_l02All hy_2) (by simp only [ML, TL, Nat.reduceEqDiff, Nat.reduceLT, Nat.reduceLeDiff, Nat.reduceAdd, Nat.reduceMul, Nat.reduceSub, Int.reduceToNat, reduceCtorEq]) ?_
  intro rd b
  try simp only [↓MD, ↓actH, ↓builtinH, ↓builtinG, ↓builtinFT, MU, MB, MC, TT, Nat.reduceEqDiff, Nat.reduceLT, Nat.reduceLeDiff, Nat.reduceAdd, Nat.reduceMul, Nat.reduceSub, Int.reduceToNat, reduceCtorEq, Try.f90]
  obtain ⟨y_4, hy_5, h⟩ := bS h
  refine seqK TryT_eq (fun p : Unit => ⟨[], []⟩) (fun v => y_4 = .inl v) (by rfl) ?_ ?_
  · try simp only [↓MD, ↓actH, ↓builtinH, ↓builtinG, ↓builtinFT, MU, MB, MC, TT, Nat.reduceEqDiff, Nat.reduceLT, Nat.reduceLeDiff, Nat.reduceAdd, Nat.reduceMul, Nat.reduceSub, Int.reduceToNat, reduceCtorEq, Try.f90]
    obtain ⟨y_8, hy_9, hy_5⟩ := bS hy_5
    refine loopK TryT_eq (fun p : Int => ⟨[(0, .pv (.one (.int .u8 b_1))), (3, .pv (.one (.str y_2))), (4, .pv (.one (.int .i64 p)))], []⟩) (fun k p => g_spec_LetterOf_l0 b_1 y_2 k p = some y_8) (by kernel_rfl) bigK 0 (weak_norm (ks := [0, 3, 4]) (π := []) (fuel := 9) (by simp only [ML, Nat.reduceEqDiff, Nat.reduceLT, Nat.reduceLeDiff, Nat.reduceAdd, Nat.reduceMul, Nat.reduceSub, Int.reduceToNat, reduceCtorEq, TL, TT])) hy_9 (fun _ h => nomatch (show none = some _ from h)) ?_
    rintro k_10 i_6 hk_11
    rw [g_spec_LetterOf_l0] at hk_11
    try dsimp only at hk_11
    try simp only [↓MD, ↓actH, ↓builtinH, ↓builtinG, ↓builtinFT, MU, MB, MC, TT, Nat.reduceEqDiff, Nat.reduceLT, Nat.reduceLeDiff, Nat.reduceAdd, Nat.reduceMul, Nat.reduceSub, Int.reduceToNat, reduceCtorEq, Try.f90]
    refine seqN TryT_eq rfl ?_
    try simp only [↓MD, ↓actH, ↓builtinH, ↓builtinG, ↓builtinFT, MU, MB, MC, TT, Nat.reduceEqDiff, Nat.reduceLT, Nat.reduceLeDiff, Nat.reduceAdd, Nat.reduceMul, Nat.reduceSub, Int.reduceToNat, reduceCtorEq, Try.f90]
    refine stIf hk_11 (fun hb_12 hk_11 => ?_) (fun hb_12 hk_11 => ?_)
    · try simp only [↓MD, ↓actH, ↓builtinH, ↓builtinG, ↓builtinFT, MU, MB, MC, TT, Nat.reduceEqDiff, Nat.reduceLT, Nat.reduceLeDiff, Nat.reduceAdd, Nat.reduceMul, Nat.reduceSub, Int.reduceToNat, reduceCtorEq, Try.f90]
      refine seqN TryT_eq rfl ?_
      obtain ⟨v_13, hv_13, hk_11⟩ := bS hk_11
      try simp only [↓MD, ↓actH, ↓builtinH, ↓builtinG, ↓builtinFT, MU, MB, MC, TT, Nat.reduceEqDiff, Nat.reduceLT, Nat.reduceLeDiff, Nat.reduceAdd, Nat.reduceMul, Nat.reduceSub, Int.reduceToNat, reduceCtorEq, Try.f90, hv_13]
      refine stIf hk_11 (fun hb_14 hk_11 => ?_) (fun hb_14 hk_11 => ?_)
      · obtain rfl := Option.some.inj hk_11
        try dsimp only at hy_5
        obtain rfl := Option.some.inj hy_5
        try dsimp only at h
        try simp only [↓MD, ↓actH, ↓builtinH, ↓builtinG, ↓builtinFT, MU, MB, MC, TT, Nat.reduceEqDiff, Nat.reduceLT, Nat.reduceLeDiff, Nat.reduceAdd, Nat.reduceMul, Nat.reduceSub, Int.reduceToNat, reduceCtorEq, Try.f90, hv_13]
        obtain rfl := Option.some.inj h
        refine endT_of ?_ ⟨rfl, rfl⟩
        exact (weak_norm (ks := [0]) (π := []) (fuel := 9) (by simp only [ML, Nat.reduceEqDiff, Nat.reduceLT, Nat.reduceLeDiff, Nat.reduceAdd, Nat.reduceMul, Nat.reduceSub, Int.reduceToNat, reduceCtorEq, TL, TT]))
      · try simp only [↓MD, ↓actH, ↓builtinH, ↓builtinG, ↓builtinFT, MU, MB, MC, TT, Nat.reduceEqDiff, Nat.reduceLT, Nat.reduceLeDiff, Nat.reduceAdd, Nat.reduceMul, Nat.reduceSub, Int.reduceToNat, reduceCtorEq, Try.f90, hv_13]
        exact ⟨IntKind.wrap .i64 (i_6 + 1), hk_11, (weak_norm (ks := [0, 3, 4]) (π := []) (fuel := 9) (by simp only [ML, Nat.reduceEqDiff, Nat.reduceLT, Nat.reduceLeDiff, Nat.reduceAdd, Nat.reduceMul, Nat.reduceSub, Int.reduceToNat, reduceCtorEq, TL, TT]))⟩
    · obtain rfl := Option.some.inj hk_11
      try dsimp only at hy_5
      try simp only [↓MD, ↓actH, ↓builtinH, ↓builtinG, ↓builtinFT, MU, MB, MC, TT, Nat.reduceEqDiff, Nat.reduceLT, Nat.reduceLeDiff, Nat.reduceAdd, Nat.reduceMul, Nat.reduceSub, Int.reduceToNat, reduceCtorEq, Try.f90]
      obtain rfl := Option.some.inj hy_5
      exact cutT_mk () (by trivial) (weak_norm (ks := []) (π := []) (fuel := 9) (by simp only [ML, Nat.reduceEqDiff, Nat.reduceLT, Nat.reduceLeDiff, Nat.reduceAdd, Nat.reduceMul, Nat.reduceSub, Int.reduceToNat, reduceCtorEq, TL, TT]))
  · rintro _ hp
    replace hp := hp.symm; subst hp
    try dsimp only at h
    try simp only [↓MD, ↓actH, ↓builtinH, ↓builtinG, ↓builtinFT, MU, MB, MC, TT, Nat.reduceEqDiff, Nat.reduceLT, Nat.reduceLeDiff, Nat.reduceAdd, Nat.reduceMul, Nat.reduceSub, Int.reduceToNat, reduceCtorEq, Try.f90]
    obtain rfl := Option.some.inj h
    refine endT_of ?_ ⟨rfl, rfl⟩
    exact (weak_norm (ks := [0]) (π := []) (fuel := 9) (by simp only [ML, Nat.reduceEqDiff, Nat.reduceLT, Nat.reduceLeDiff, Nat.reduceAdd, Nat.reduceMul, Nat.reduceSub, Int.reduceToNat, reduceCtorEq, TL, TT]))
theorem c_spec_NameOk {s_1 : Bs} {r : Bool} (h : g_spec_NameOk s_1 = some r) : Ans Try.prog 83 [.one (.str s_1)] [] fun v h1 => v = .pv (.one (.bool r)) ∧ h1 = [] := by
  refine ansK (P := fun _ => Try.prog) TryT_eq (fn := Try.f83) Try.func83 rfl ⟨by kernel_rfl, rfl, rfl, by kernel_rfl⟩ (by simp) (Weak.refl _ _) ?_
  rw [g_spec_NameOk] at h
  try simp only [↓MD, ↓actH, ↓builtinH, ↓builtinG, ↓builtinFT, MU, MB, MC, TT, Nat.reduceEqDiff, Nat.reduceLT, Nat.reduceLeDiff, Nat.reduceAdd, Nat.reduceMul, Nat.reduceSub, Int.reduceToNat, reduceCtorEq, Try.f83]
  refine seqN TryT_eq rfl ?_
  obtain ⟨y_2, hy_2, h⟩ := bS h
  try simp only [↓MD, ↓actH, ↓builtinH, ↓builtinG, ↓builtinFT, MU, MB, MC, TT, Nat.reduceEqDiff, Nat.reduceLT, Nat.reduceLeDiff, Nat.reduceAdd, Nat.reduceMul, Nat.reduceSub, Int.reduceToNat, reduceCtorEq, Try.f83]
  refine callG [] 9 rfl (by simp only [ML, TT, Nat.reduceEqDiff, Nat.reduceLT, Nat.reduceLeDiff, Nat.reduceAdd, Nat.reduceMul, Nat.reduceSub, Int.reduceToNat, reduceCtorEq, TL]) (by simp only [ML, TT, Nat.reduceEqDiff, Nat.reduceLT, Nat.reduceLeDiff, Nat.reduceAdd, Nat.reduceMul, Nat.reduceSub, Int.reduceToNat, reduceCtorEq, TL]) rfl (c_spec_l01In hy_2) (by simp only [ML, TL, Nat.reduceEqDiff, Nat.reduceLT, Nat.reduceLeDiff, Nat.reduceAdd, Nat.reduceMul, Nat.reduceSub, Int.reduceToNat, reduceCtorEq]) ?_
  intro rd b
  try simp only [↓MD, ↓actH, ↓builtinH, ↓builtinG, ↓builtinFT, MU, MB, MC, TT, Nat.reduceEqDiff, Nat.reduceLT, Nat.reduceLeDiff, Nat.reduceAdd, Nat.reduceMul, Nat.reduceSub, Int.reduceToNat, reduceCtorEq, Try.f83]
  refine stIf h (fun hb_3 h => ?_) (fun hb_3 h => ?_)
  · try simp only [↓MD, ↓actH, ↓builtinH, ↓builtinG, ↓builtinFT, MU, MB, MC, TT, Nat.reduceEqDiff, Nat.reduceLT, Nat.reduceLeDiff, Nat.reduceAdd, Nat.reduceMul, Nat.reduceSub, Int.reduceToNat, reduceCtorEq, Try.f83]
    obtain rfl := Option.some.inj h
    refine endT_of ?_ ⟨rfl, rfl⟩
    exact (weak_norm (ks := [0]) (π := []) (fuel := 9) (by simp only [ML, Nat.reduceEqDiff, Nat.reduceLT, Nat.reduceLeDiff, Nat.reduceAdd, Nat.reduceMul, Nat.reduceSub, Int.reduceToNat, reduceCtorEq, TL, TT]))
  · try simp only [↓MD, ↓actH, ↓builtinH, ↓builtinG, ↓builtinFT, MU, MB, MC, TT, Nat.reduceEqDiff, Nat.reduceLT, Nat.reduceLeDiff, Nat.reduceAdd, Nat.reduceMul, Nat.reduceSub, Int.reduceToNat, reduceCtorEq, Try.f83]
    obtain ⟨y_4, hy_5, h⟩ := bS h
    refine seqK TryT_eq (fun p : Unit => ⟨[], []⟩) (fun v => y_4 = .inl v) (by rfl) ?_ ?_
    · try simp only [↓MD, ↓actH, ↓builtinH, ↓builtinG, ↓builtinFT, MU, MB, MC, TT, Nat.reduceEqDiff, Nat.reduceLT, Nat.reduceLeDiff, Nat.reduceAdd, Nat.reduceMul, Nat.reduceSub, Int.reduceToNat, reduceCtorEq, Try.f83]
      obtain ⟨y_7, hy_8, hy_5⟩ := bS hy_5
      refine loopK TryT_eq (fun p : Int => ⟨[(0, .pv (.one (.str s_1))), (3, .pv (.one (.int .i64 p)))], []⟩) (fun k p => g_spec_NameOk_l0 s_1 k p = some y_7) (by kernel_rfl) bigK 0 (weak_norm (ks := [0, 3]) (π := []) (fuel := 9) (by simp only [ML, Nat.reduceEqDiff, Nat.reduceLT, Nat.reduceLeDiff, Nat.reduceAdd, Nat.reduceMul, Nat.reduceSub, Int.reduceToNat, reduceCtorEq, TL, TT])) hy_8 (fun _ h => nomatch (show none = some _ from h)) ?_
      rintro k_9 i_6 hk_10
      rw [g_spec_NameOk_l0] at hk_10
      try dsimp only at hk_10
      try simp only [↓MD, ↓actH, ↓builtinH, ↓builtinG, ↓builtinFT, MU, MB, MC, TT, Nat.reduceEqDiff, Nat.reduceLT, Nat.reduceLeDiff, Nat.reduceAdd, Nat.reduceMul, Nat.reduceSub, Int.reduceToNat, reduceCtorEq, Try.f83]
      refine seqN TryT_eq rfl ?_
      try simp only [↓MD, ↓actH, ↓builtinH, ↓builtinG, ↓builtinFT, MU, MB, MC, TT, Nat.reduceEqDiff, Nat.reduceLT, Nat.reduceLeDiff, Nat.reduceAdd, Nat.reduceMul, Nat.reduceSub, Int.reduceToNat, reduceCtorEq, Try.f83]
      refine stIf hk_10 (fun hb_11 hk_10 => ?_) (fun hb_11 hk_10 => ?_)
      · try simp only [↓MD, ↓actH, ↓builtinH, ↓builtinG, ↓builtinFT, MU, MB, MC, TT, Nat.reduceEqDiff, Nat.reduceLT, Nat.reduceLeDiff, Nat.reduceAdd, Nat.reduceMul, Nat.reduceSub, Int.reduceToNat, reduceCtorEq, Try.f83]
        refine seqN TryT_eq rfl ?_
        obtain ⟨v_12, hv_12, hk_10⟩ := bS hk_10
        obtain ⟨y_13, hy_13, hk_10⟩ := bS hk_10
        try simp only [↓MD, ↓actH, ↓builtinH, ↓builtinG, ↓builtinFT, MU, MB, MC, TT, Nat.reduceEqDiff, Nat.reduceLT, Nat.reduceLeDiff, Nat.reduceAdd, Nat.reduceMul, Nat.reduceSub, Int.reduceToNat, reduceCtorEq, Try.f83, hv_12]
        refine callG [] 9 rfl (by simp only [ML, TT, Nat.reduceEqDiff, Nat.reduceLT, Nat.reduceLeDiff, Nat.reduceAdd, Nat.reduceMul, Nat.reduceSub, Int.reduceToNat, reduceCtorEq, TL]) (by simp only [ML, TT, Nat.reduceEqDiff, Nat.reduceLT, Nat.reduceLeDiff, Nat.reduceAdd, Nat.reduceMul, Nat.reduceSub, Int.reduceToNat, reduceCtorEq, TL]) rfl (c_spec_LetterOf hy_13) (by simp only [ML, TL, Nat.reduceEqDiff, Nat.reduceLT, Nat.reduceLeDiff, Nat.reduceAdd, Nat.reduceMul, Nat.reduceSub, Int.reduceToNat, reduceCtorEq]) ?_
        intro rd b
        try simp only [↓MD, ↓actH, ↓builtinH, ↓builtinG, ↓builtinFT, MU, MB, MC, TT, Nat.reduceEqDiff, Nat.reduceLT, Nat.reduceLeDiff, Nat.reduceAdd, Nat.reduceMul, Nat.reduceSub, Int.reduceToNat, reduceCtorEq, Try.f83, hv_12]
        refine stIf hk_10 (fun hb_14 hk_10 => ?_) (fun hb_14 hk_10 => ?_)
        · obtain rfl := Option.some.inj hk_10
          try dsimp only at hy_5
          obtain rfl := Option.some.inj hy_5
          try dsimp only at h
          try simp only [↓MD, ↓actH, ↓builtinH, ↓builtinG, ↓builtinFT, MU, MB, MC, TT, Nat.reduceEqDiff, Nat.reduceLT, Nat.reduceLeDiff, Nat.reduceAdd, Nat.reduceMul, Nat.reduceSub, Int.reduceToNat, reduceCtorEq, Try.f83, hv_12]
          obtain rfl := Option.some.inj h
          refine endT_of ?_ ⟨rfl, rfl⟩
          exact (weak_norm (ks := [0]) (π := []) (fuel := 9) (by simp only [ML, Nat.reduceEqDiff, Nat.reduceLT, Nat.reduceLeDiff, Nat.reduceAdd, Nat.reduceMul, Nat.reduceSub, Int.reduceToNat, reduceCtorEq, TL, TT]))
        · try simp only [↓MD, ↓actH, ↓builtinH, ↓builtinG, ↓builtinFT, MU, MB, MC, TT, Nat.reduceEqDiff, Nat.reduceLT, Nat.reduceLeDiff, Nat.reduceAdd, Nat.reduceMul, Nat.reduceSub, Int.reduceToNat, reduceCtorEq, Try.f83, hv_12]
          exact ⟨IntKind.wrap .i64 (i_6 + 1), hk_10, (weak_norm (ks := [0, 3]) (π := []) (fuel := 9) (by simp only [ML, Nat.reduceEqDiff, Nat.reduceLT, Nat.reduceLeDiff, Nat.reduceAdd, Nat.reduceMul, Nat.reduceSub, Int.reduceToNat, reduceCtorEq, TL, TT]))⟩
      · obtain rfl := Option.some.inj hk_10
        try dsimp only at hy_5
        try simp only [↓MD, ↓actH, ↓builtinH, ↓builtinG, ↓builtinFT, MU, MB, MC, TT, Nat.reduceEqDiff, Nat.reduceLT, Nat.reduceLeDiff, Nat.reduceAdd, Nat.reduceMul, Nat.reduceSub, Int.reduceToNat, reduceCtorEq, Try.f83]
        obtain rfl := Option.some.inj hy_5
        exact cutT_mk () (by trivial) (weak_norm (ks := []) (π := []) (fuel := 9) (by simp only [ML, Nat.reduceEqDiff, Nat.reduceLT, Nat.reduceLeDiff, Nat.reduceAdd, Nat.reduceMul, Nat.reduceSub, Int.reduceToNat, reduceCtorEq, TL, TT]))
    · rintro _ hp
      replace hp := hp.symm; subst hp
      try dsimp only at h
      try simp only [↓MD, ↓actH, ↓builtinH, ↓builtinG, ↓builtinFT, MU, MB, MC, TT, Nat.reduceEqDiff, Nat.reduceLT, Nat.reduceLeDiff, Nat.reduceAdd, Nat.reduceMul, Nat.reduceSub, Int.reduceToNat, reduceCtorEq, Try.f83]
      obtain rfl := Option.some.inj h
      refine endT_of ?_ ⟨rfl, rfl⟩
      exact (weak_norm (ks := [0]) (π := []) (fuel := 9) (by simp only [ML, Nat.reduceEqDiff, Nat.reduceLT, Nat.reduceLeDiff, Nat.reduceAdd, Nat.reduceMul, Nat.reduceSub, Int.reduceToNat, reduceCtorEq, TL, TT]))
theorem c_spec_WidthOf {k_1 : Int} {r : Int} (h : g_spec_WidthOf k_1 = some r) : Ans Try.prog 91 [.one (.int .i64 k_1)] [] fun v h1 => v = .pv (.one (.int .i64 r)) ∧ h1 = [] := by
  refine ansK (P := fun _ => Try.prog) TryT_eq (fn := Try.f91) Try.func91 rfl ⟨by kernel_rfl, rfl, rfl, by kernel_rfl⟩ (by simp) (Weak.refl _ _) ?_
  rw [g_spec_WidthOf] at h
  try simp only [↓MD, ↓actH, ↓builtinH, ↓builtinG, ↓builtinFT, MU, MB, MC, TT, Nat.reduceEqDiff, Nat.reduceLT, Nat.reduceLeDiff, Nat.reduceAdd, Nat.reduceMul, Nat.reduceSub, Int.reduceToNat, reduceCtorEq, Try.f91]
  refine seqN TryT_eq rfl ?_
  obtain ⟨y_2, hy_2, h⟩ := bS h
  try simp only [↓MD, ↓actH, ↓builtinH, ↓builtinG, ↓builtinFT, MU, MB, MC, TT, Nat.reduceEqDiff, Nat.reduceLT, Nat.reduceLeDiff, Nat.reduceAdd, Nat.reduceMul, Nat.reduceSub, Int.reduceToNat, reduceCtorEq, Try.f91]
  refine callG [] 9 rfl (by simp only [ML, TT, Nat.reduceEqDiff, Nat.reduceLT, Nat.reduceLeDiff, Nat.reduceAdd, Nat.reduceMul, Nat.reduceSub, Int.reduceToNat, reduceCtorEq, TL]) (by simp only [ML, TT, Nat.reduceEqDiff, Nat.reduceLT, Nat.reduceLeDiff, Nat.reduceAdd, Nat.reduceMul, Nat.reduceSub, Int.reduceToNat, reduceCtorEq, TL]) rfl (c_spec_l01In hy_2) (by simp only [ML, TL, Nat.reduceEqDiff, Nat.reduceLT, Nat.reduceLeDiff, Nat.reduceAdd, Nat.reduceMul, Nat.reduceSub, Int.reduceToNat, reduceCtorEq]) ?_
  intro rd b
  try simp only [↓MD, ↓actH, ↓builtinH, ↓builtinG, ↓builtinFT, MU, MB, MC, TT, Nat.reduceEqDiff, Nat.reduceLT, Nat.reduceLeDiff, Nat.reduceAdd, Nat.reduceMul, Nat.reduceSub, Int.reduceToNat, reduceCtorEq, Try.f91]
  refine stIf h (fun hb_3 h => ?_) (fun hb_3 h => ?_)
  · try simp only [↓MD, ↓actH, ↓builtinH, ↓builtinG, ↓builtinFT, MU, MB, MC, TT, Nat.reduceEqDiff, Nat.reduceLT, Nat.reduceLeDiff, Nat.reduceAdd, Nat.reduceMul, Nat.reduceSub, Int.reduceToNat, reduceCtorEq, Try.f91]
    obtain rfl := Option.some.inj h
    refine endT_of ?_ ⟨rfl, rfl⟩
    exact (weak_norm (ks := [0]) (π := []) (fuel := 9) (by simp only [ML, Nat.reduceEqDiff, Nat.reduceLT, Nat.reduceLeDiff, Nat.reduceAdd, Nat.reduceMul, Nat.reduceSub, Int.reduceToNat, reduceCtorEq, TL, TT]))
  · obtain ⟨y_4, hy_4, h⟩ := bS h
    try simp only [↓MD, ↓actH, ↓builtinH, ↓builtinG, ↓builtinFT, MU, MB, MC, TT, Nat.reduceEqDiff, Nat.reduceLT, Nat.reduceLeDiff, Nat.reduceAdd, Nat.reduceMul, Nat.reduceSub, Int.reduceToNat, reduceCtorEq, Try.f91]
    refine callG [] 9 rfl (by simp only [ML, TT, Nat.reduceEqDiff, Nat.reduceLT, Nat.reduceLeDiff, Nat.reduceAdd, Nat.reduceMul, Nat.reduceSub, Int.reduceToNat, reduceCtorEq, TL]) (by simp only [ML, TT, Nat.reduceEqDiff, Nat.reduceLT, Nat.reduceLeDiff, Nat.reduceAdd, Nat.reduceMul, Nat.reduceSub, Int.reduceToNat, reduceCtorEq, TL]) rfl (c_spec_l01In hy_4) (by simp only [ML, TL, Nat.reduceEqDiff, Nat.reduceLT, Nat.reduceLeDiff, Nat.reduceAdd, Nat.reduceMul, Nat.reduceSub, Int.reduceToNat, reduceCtorEq]) ?_
    intro rd b
    try simp only [↓MD, ↓actH, ↓builtinH, ↓builtinG, ↓builtinFT, MU, MB, MC, TT, Nat.reduceEqDiff, Nat.reduceLT, Nat.reduceLeDiff, Nat.reduceAdd, Nat.reduceMul, Nat.reduceSub, Int.reduceToNat, reduceCtorEq, Try.f91]
    refine stIf h (fun hb_5 h => ?_) (fun hb_5 h => ?_)
    · try simp only [↓MD, ↓actH, ↓builtinH, ↓builtinG, ↓builtinFT, MU, MB, MC, TT, Nat.reduceEqDiff, Nat.reduceLT, Nat.reduceLeDiff, Nat.reduceAdd, Nat.reduceMul, Nat.reduceSub, Int.reduceToNat, reduceCtorEq, Try.f91]
      obtain rfl := Option.some.inj h
      refine endT_of ?_ ⟨rfl, rfl⟩
      exact (weak_norm (ks := [0]) (π := []) (fuel := 9) (by simp only [ML, Nat.reduceEqDiff, Nat.reduceLT, Nat.reduceLeDiff, Nat.reduceAdd, Nat.reduceMul, Nat.reduceSub, Int.reduceToNat, reduceCtorEq, TL, TT]))
    · obtain ⟨y_6, hy_6, h⟩ := bS h
      try simp only [↓MD, ↓actH, ↓builtinH, ↓builtinG, ↓builtinFT, MU, MB, MC, TT, Nat.reduceEqDiff, Nat.reduceLT, Nat.reduceLeDiff, Nat.reduceAdd, Nat.reduceMul, Nat.reduceSub, Int.reduceToNat, reduceCtorEq, Try.f91]
      refine callG [] 9 rfl (by simp only [ML, TT, Nat.reduceEqDiff, Nat.reduceLT, Nat.reduceLeDiff, Nat.reduceAdd, Nat.reduceMul, Nat.reduceSub, Int.reduceToNat, reduceCtorEq, TL]) (by simp only [ML, TT, Nat.reduceEqDiff, Nat.reduceLT, Nat.reduceLeDiff, Nat.reduceAdd, Nat.reduceMul, Nat.reduceSub, Int.reduceToNat, reduceCtorEq, TL]) rfl (c_spec_l01In hy_6) (by simp only [ML, TL, Nat.reduceEqDiff, Nat.reduceLT, Nat.reduceLeDiff, Nat.reduceAdd, Nat.reduceMul, Nat.reduceSub, Int.reduceToNat, reduceCtorEq]) ?_
      intro rd b
      try simp only [↓MD, ↓actH, ↓builtinH, ↓builtinG, ↓builtinFT, MU, MB, MC, TT, Nat.reduceEqDiff, Nat.reduceLT, Nat.reduceLeDiff, Nat.reduceAdd, Nat.reduceMul, Nat.reduceSub, Int.reduceToNat, reduceCtorEq, Try.f91]
      refine stIf h (fun hb_7 h => ?_) (fun hb_7 h => ?_)
      · try simp only [↓MD, ↓actH, ↓builtinH, ↓builtinG, ↓builtinFT, MU, MB, MC, TT, Nat.reduceEqDiff, Nat.reduceLT, Nat.reduceLeDiff, Nat.reduceAdd, Nat.reduceMul, Nat.reduceSub, Int.reduceToNat, reduceCtorEq, Try.f91]
        obtain rfl := Option.some.inj h
        refine endT_of ?_ ⟨rfl, rfl⟩
        exact (weak_norm (ks := [0]) (π := []) (fuel := 9) (by simp only [ML, Nat.reduceEqDiff, Nat.reduceLT, Nat.reduceLeDiff, Nat.reduceAdd, Nat.reduceMul, Nat.reduceSub, Int.reduceToNat, reduceCtorEq, TL, TT]))
      · try simp only [↓MD, ↓actH, ↓builtinH, ↓builtinG, ↓builtinFT, MU, MB, MC, TT, Nat.reduceEqDiff, Nat.reduceLT, Nat.reduceLeDiff, Nat.reduceAdd, Nat.reduceMul, Nat.reduceSub, Int.reduceToNat, reduceCtorEq, Try.f91]
        obtain rfl := Option.some.inj h
        refine endT_of ?_ ⟨rfl, rfl⟩
        exact (weak_norm (ks := [0]) (π := []) (fuel := 9) (by simp only [ML, Nat.reduceEqDiff, Nat.reduceLT, Nat.reduceLeDiff, Nat.reduceAdd, Nat.reduceMul, Nat.reduceSub, Int.reduceToNat, reduceCtorEq, TL, TT]))
theorem c_spec_BitsOf {k_1 : Int} {r : Int} (h : g_spec_BitsOf k_1 = some r) : Ans Try.prog 92 [.one (.int .i64 k_1)] [] fun v h1 => v = .pv (.one (.int .u32 r)) ∧ h1 = [] := by
  refine ansK (P := fun _ => Try.prog) TryT_eq (fn := Try.f92) Try.func92 rfl ⟨by kernel_rfl, rfl, rfl, by kernel_rfl⟩ (by simp) (Weak.refl _ _) ?_
  rw [g_spec_BitsOf] at h
  try simp only [↓MD, ↓actH, ↓builtinH, ↓builtinG, ↓builtinFT, MU, MB, MC, TT, Nat.reduceEqDiff, Nat.reduceLT, Nat.reduceLeDiff, Nat.reduceAdd, Nat.reduceMul, Nat.reduceSub, Int.reduceToNat, reduceCtorEq, Try.f92]
  refine seqN TryT_eq rfl ?_
  obtain ⟨y_2, hy_2, h⟩ := bS h
  try simp only [↓MD, ↓actH, ↓builtinH, ↓builtinG, ↓builtinFT, MU, MB, MC, TT, Nat.reduceEqDiff, Nat.reduceLT, Nat.reduceLeDiff, Nat.reduceAdd, Nat.reduceMul, Nat.reduceSub, Int.reduceToNat, reduceCtorEq, Try.f92]
  refine callG [] 9 rfl (by simp only [ML, TT, Nat.reduceEqDiff, Nat.reduceLT, Nat.reduceLeDiff, Nat.reduceAdd, Nat.reduceMul, Nat.reduceSub, Int.reduceToNat, reduceCtorEq, TL]) (by simp only [ML, TT, Nat.reduceEqDiff, Nat.reduceLT, Nat.reduceLeDiff, Nat.reduceAdd, Nat.reduceMul, Nat.reduceSub, Int.reduceToNat, reduceCtorEq, TL]) rfl (c_spec_WidthOf hy_2) (by simp only [ML, TL, Nat.reduceEqDiff, Nat.reduceLT, Nat.reduceLeDiff, Nat.reduceAdd, Nat.reduceMul, Nat.reduceSub, Int.reduceToNat, reduceCtorEq]) ?_
  intro rd b
  try simp only [↓MD, ↓actH, ↓builtinH, ↓builtinG, ↓builtinFT, MU, MB, MC, TT, Nat.reduceEqDiff, Nat.reduceLT, Nat.reduceLeDiff, Nat.reduceAdd, Nat.reduceMul, Nat.reduceSub, Int.reduceToNat, reduceCtorEq, Try.f92]
  refine stIf h (fun hb_3 h => ?_) (fun hb_3 h => ?_)
  · try simp only [↓MD, ↓actH, ↓builtinH, ↓builtinG, ↓builtinFT, MU, MB, MC, TT, Nat.reduceEqDiff, Nat.reduceLT, Nat.reduceLeDiff, Nat.reduceAdd, Nat.reduceMul, Nat.reduceSub, Int.reduceToNat, reduceCtorEq, Try.f92]
    obtain rfl := Option.some.inj h
    refine endT_of ?_ ⟨rfl, rfl⟩
    exact (weak_norm (ks := [0]) (π := []) (fuel := 9) (by simp only [ML, Nat.reduceEqDiff, Nat.reduceLT, Nat.reduceLeDiff, Nat.reduceAdd, Nat.reduceMul, Nat.reduceSub, Int.reduceToNat, reduceCtorEq, TL, TT]))
  · try simp only [↓MD, ↓actH, ↓builtinH, ↓builtinG, ↓builtinFT, MU, MB, MC, TT, Nat.reduceEqDiff, Nat.reduceLT, Nat.reduceLeDiff, Nat.reduceAdd, Nat.reduceMul, Nat.reduceSub, Int.reduceToNat, reduceCtorEq, Try.f92]
    refine stIf h (fun hb_4 h => ?_) (fun hb_4 h => ?_)
    · try simp only [↓MD, ↓actH, ↓builtinH, ↓builtinG, ↓builtinFT, MU, MB, MC, TT, Nat.reduceEqDiff, Nat.reduceLT, Nat.reduceLeDiff, Nat.reduceAdd, Nat.reduceMul, Nat.reduceSub, Int.reduceToNat, reduceCtorEq, Try.f92]
      obtain rfl := Option.some.inj h
      refine endT_of ?_ ⟨rfl, rfl⟩
      exact (weak_norm (ks := [0]) (π := []) (fuel := 9) (by simp only [ML, Nat.reduceEqDiff, Nat.reduceLT, Nat.reduceLeDiff, Nat.reduceAdd, Nat.reduceMul, Nat.reduceSub, Int.reduceToNat, reduceCtorEq, TL, TT]))
    · try simp only [↓MD, ↓actH, ↓builtinH, ↓builtinG, ↓builtinFT, MU, MB, MC, TT, Nat.reduceEqDiff, Nat.reduceLT, Nat.reduceLeDiff, Nat.reduceAdd, Nat.reduceMul, Nat.reduceSub, Int.reduceToNat, reduceCtorEq, Try.f92]
      refine stIf h (fun hb_5 h => ?_) (fun hb_5 h => ?_)
      · try simp only [↓MD, ↓actH, ↓builtinH, ↓builtinG, ↓builtinFT, MU, MB, MC, TT, Nat.reduceEqDiff, Nat.reduceLT, Nat.reduceLeDiff, Nat.reduceAdd, Nat.reduceMul, Nat.reduceSub, Int.reduceToNat, reduceCtorEq, Try.f92]
        obtain rfl := Option.some.inj h
        refine endT_of ?_ ⟨rfl, rfl⟩
        exact (weak_norm (ks := [0]) (π := []) (fuel := 9) (by simp only [ML, Nat.reduceEqDiff, Nat.reduceLT, Nat.reduceLeDiff, Nat.reduceAdd, Nat.reduceMul, Nat.reduceSub, Int.reduceToNat, reduceCtorEq, TL, TT]))
      · try simp only [↓MD, ↓actH, ↓builtinH, ↓builtinG, ↓builtinFT, MU, MB, MC, TT, Nat.reduceEqDiff, Nat.reduceLT, Nat.reduceLeDiff, Nat.reduceAdd, Nat.reduceMul, Nat.reduceSub, Int.reduceToNat, reduceCtorEq, Try.f92]
        obtain rfl := Option.some.inj h
        refine endT_of ?_ ⟨rfl, rfl⟩
        exact (weak_norm (ks := [0]) (π := []) (fuel := 9) (by simp only [ML, Nat.reduceEqDiff, Nat.reduceLT, Nat.reduceLeDiff, Nat.reduceAdd, Nat.reduceMul, Nat.reduceSub, Int.reduceToNat, reduceCtorEq, TL, TT]))
theorem c_spec_l03One {s_1 : Bs} {r : Int × Int} (h : g_spec_l03One s_1 = some r) : Ans Try.prog 84 [.one (.str s_1)] [] fun v h1 => v = .tup [.one (.int .u32 r.1), .one (.int .i64 r.2)] ∧ h1 = [] := by
  refine ansK (P := fun _ => Try.prog) TryT_eq (fn := Try.f84) Try.func84 rfl ⟨by kernel_rfl, rfl, rfl, by kernel_rfl⟩ (by simp) (Weak.refl _ _) ?_
  rw [g_spec_l03One] at h
  try simp only [↓MD, ↓actH, ↓builtinH, ↓builtinG, ↓builtinFT, MU, MB, MC, TT, Nat.reduceEqDiff, Nat.reduceLT, Nat.reduceLeDiff, Nat.reduceAdd, Nat.reduceMul, Nat.reduceSub, Int.reduceToNat, reduceCtorEq, Try.f84]
  obtain ⟨y_7, hy_8, h⟩ := bS h
  refine seqK TryT_eq (fun p : Int × Int => ⟨[(4, .pv (.one (.int .i64 p.1))), (6, .pv (.one (.int .i64 p.2)))], []⟩) (fun v => y_7 = v) (by rfl) ?_ ?_
  · try simp only [↓MD, ↓actH, ↓builtinH, ↓builtinG, ↓builtinFT, MU, MB, MC, TT, Nat.reduceEqDiff, Nat.reduceLT, Nat.reduceLeDiff, Nat.reduceAdd, Nat.reduceMul, Nat.reduceSub, Int.reduceToNat, reduceCtorEq, Try.f84]
    refine loopK TryT_eq (fun p : Int × Int × Int => ⟨[(0, .pv (.one (.str s_1))), (4, .pv (.one (.int .i64 p.1))), (5, .pv (.one (.int .i64 p.2.1))), (6, .pv (.one (.int .i64 p.2.2)))], []⟩) (fun k p => g_spec_l03One_l0 s_1 k p.1 p.2.1 p.2.2 = some y_7) (by kernel_rfl) bigK (0, 28, 0) (weak_norm (ks := [0, 4, 5, 6]) (π := []) (fuel := 9) (by simp only [ML, Nat.reduceEqDiff, Nat.reduceLT, Nat.reduceLeDiff, Nat.reduceAdd, Nat.reduceMul, Nat.reduceSub, Int.reduceToNat, reduceCtorEq, TL, TT])) hy_8 (fun _ h => nomatch (show none = some _ from h)) ?_
    rintro k_9 ⟨f_2, left_3, n_4⟩ hk_10
    rw [g_spec_l03One_l0] at hk_10
    try dsimp only at hk_10
    try simp only [↓MD, ↓actH, ↓builtinH, ↓builtinG, ↓builtinFT, MU, MB, MC, TT, Nat.reduceEqDiff, Nat.reduceLT, Nat.reduceLeDiff, Nat.reduceAdd, Nat.reduceMul, Nat.reduceSub, Int.reduceToNat, reduceCtorEq, Try.f84]
    refine seqN TryT_eq rfl ?_
    try simp only [↓MD, ↓actH, ↓builtinH, ↓builtinG, ↓builtinFT, MU, MB, MC, TT, Nat.reduceEqDiff, Nat.reduceLT, Nat.reduceLeDiff, Nat.reduceAdd, Nat.reduceMul, Nat.reduceSub, Int.reduceToNat, reduceCtorEq, Try.f84]
    refine stIf hk_10 (fun hb_11 hk_10 => ?_) (fun hb_11 hk_10 => ?_)
    · obtain ⟨v_12, hv_12, hk_10⟩ := bS hk_10
      obtain ⟨y_13, hy_13, hk_10⟩ := bS hk_10
      try simp only [↓MD, ↓actH, ↓builtinH, ↓builtinG, ↓builtinFT, MU, MB, MC, TT, Nat.reduceEqDiff, Nat.reduceLT, Nat.reduceLeDiff, Nat.reduceAdd, Nat.reduceMul, Nat.reduceSub, Int.reduceToNat, reduceCtorEq, Try.f84, hv_12]
      refine callG [] 9 rfl (by simp only [ML, TT, Nat.reduceEqDiff, Nat.reduceLT, Nat.reduceLeDiff, Nat.reduceAdd, Nat.reduceMul, Nat.reduceSub, Int.reduceToNat, reduceCtorEq, TL]) (by simp only [ML, TT, Nat.reduceEqDiff, Nat.reduceLT, Nat.reduceLeDiff, Nat.reduceAdd, Nat.reduceMul, Nat.reduceSub, Int.reduceToNat, reduceCtorEq, TL]) rfl (c_spec_LetterOf hy_13) (by simp only [ML, TL, Nat.reduceEqDiff, Nat.reduceLT, Nat.reduceLeDiff, Nat.reduceAdd, Nat.reduceMul, Nat.reduceSub, Int.reduceToNat, reduceCtorEq]) ?_
      intro rd b
      obtain ⟨y_14, hy_14, hk_10⟩ := bS hk_10
      try simp only [↓MD, ↓actH, ↓builtinH, ↓builtinG, ↓builtinFT, MU, MB, MC, TT, Nat.reduceEqDiff, Nat.reduceLT, Nat.reduceLeDiff, Nat.reduceAdd, Nat.reduceMul, Nat.reduceSub, Int.reduceToNat, reduceCtorEq, Try.f84, hv_12]
      refine callG [] 9 rfl (by simp only [ML, TT, Nat.reduceEqDiff, Nat.reduceLT, Nat.reduceLeDiff, Nat.reduceAdd, Nat.reduceMul, Nat.reduceSub, Int.reduceToNat, reduceCtorEq, TL]) (by simp only [ML, TT, Nat.reduceEqDiff, Nat.reduceLT, Nat.reduceLeDiff, Nat.reduceAdd, Nat.reduceMul, Nat.reduceSub, Int.reduceToNat, reduceCtorEq, TL]) rfl (c_spec_WidthOf hy_14) (by simp only [ML, TL, Nat.reduceEqDiff, Nat.reduceLT, Nat.reduceLeDiff, Nat.reduceAdd, Nat.reduceMul, Nat.reduceSub, Int.reduceToNat, reduceCtorEq]) ?_
      intro rd b
      try simp only [↓MD, ↓actH, ↓builtinH, ↓builtinG, ↓builtinFT, MU, MB, MC, TT, Nat.reduceEqDiff, Nat.reduceLT, Nat.reduceLeDiff, Nat.reduceAdd, Nat.reduceMul, Nat.reduceSub, Int.reduceToNat, reduceCtorEq, Try.f84, hv_12]
      refine seqN TryT_eq rfl ?_
      try simp only [↓MD, ↓actH, ↓builtinH, ↓builtinG, ↓builtinFT, MU, MB, MC, TT, Nat.reduceEqDiff, Nat.reduceLT, Nat.reduceLeDiff, Nat.reduceAdd, Nat.reduceMul, Nat.reduceSub, Int.reduceToNat, reduceCtorEq, Try.f84, hv_12]
      refine stIf hk_10 (fun hb_15 hk_10 => ?_) (fun hb_15 hk_10 => ?_)
      · try simp only [↓MD, ↓actH, ↓builtinH, ↓builtinG, ↓builtinFT, MU, MB, MC, TT, Nat.reduceEqDiff, Nat.reduceLT, Nat.reduceLeDiff, Nat.reduceAdd, Nat.reduceMul, Nat.reduceSub, Int.reduceToNat, reduceCtorEq, Try.f84, hv_12]
        obtain rfl := Option.some.inj hk_10
        exact cutT_mk (f_2, n_4) rfl (weak_norm (ks := [4, 6]) (π := []) (fuel := 9) (by simp only [ML, Nat.reduceEqDiff, Nat.reduceLT, Nat.reduceLeDiff, Nat.reduceAdd, Nat.reduceMul, Nat.reduceSub, Int.reduceToNat, reduceCtorEq, TL, TT]))
      · obtain ⟨y_16, hy_16, hk_10⟩ := bS hk_10
        try simp only [↓MD, ↓actH, ↓builtinH, ↓builtinG, ↓builtinFT, MU, MB, MC, TT, Nat.reduceEqDiff, Nat.reduceLT, Nat.reduceLeDiff, Nat.reduceAdd, Nat.reduceMul, Nat.reduceSub, Int.reduceToNat, reduceCtorEq, Try.f84, hv_12]
        refine callG [] 9 rfl (by simp only [ML, TT, Nat.reduceEqDiff, Nat.reduceLT, Nat.reduceLeDiff, Nat.reduceAdd, Nat.reduceMul, Nat.reduceSub, Int.reduceToNat, reduceCtorEq, TL]) (by simp only [ML, TT, Nat.reduceEqDiff, Nat.reduceLT, Nat.reduceLeDiff, Nat.reduceAdd, Nat.reduceMul, Nat.reduceSub, Int.reduceToNat, reduceCtorEq, TL]) rfl (c_spec_BitsOf hy_16) (by simp only [ML, TL, Nat.reduceEqDiff, Nat.reduceLT, Nat.reduceLeDiff, Nat.reduceAdd, Nat.reduceMul, Nat.reduceSub, Int.reduceToNat, reduceCtorEq]) ?_
        intro rd b
        obtain ⟨v_17, hv_17, hk_10⟩ := bS hk_10
        try simp only [↓MD, ↓actH, ↓builtinH, ↓builtinG, ↓builtinFT, MU, MB, MC, TT, Nat.reduceEqDiff, Nat.reduceLT, Nat.reduceLeDiff, Nat.reduceAdd, Nat.reduceMul, Nat.reduceSub, Int.reduceToNat, reduceCtorEq, Try.f84, hv_12, hv_17]
        exact ⟨(IntKind.wrap .i64 (f_2 + v_17), IntKind.wrap .i64 (left_3 - y_14), IntKind.wrap .i64 (n_4 + 1)), hk_10, (weak_norm (ks := [0, 4, 5, 6]) (π := []) (fuel := 9) (by simp only [ML, Nat.reduceEqDiff, Nat.reduceLT, Nat.reduceLeDiff, Nat.reduceAdd, Nat.reduceMul, Nat.reduceSub, Int.reduceToNat, reduceCtorEq, TL, TT]))⟩
    · try simp only [↓MD, ↓actH, ↓builtinH, ↓builtinG, ↓builtinFT, MU, MB, MC, TT, Nat.reduceEqDiff, Nat.reduceLT, Nat.reduceLeDiff, Nat.reduceAdd, Nat.reduceMul, Nat.reduceSub, Int.reduceToNat, reduceCtorEq, Try.f84]
      obtain rfl := Option.some.inj hk_10
      exact cutT_mk (f_2, n_4) rfl (weak_norm (ks := [4, 6]) (π := []) (fuel := 9) (by simp only [ML, Nat.reduceEqDiff, Nat.reduceLT, Nat.reduceLeDiff, Nat.reduceAdd, Nat.reduceMul, Nat.reduceSub, Int.reduceToNat, reduceCtorEq, TL, TT]))
  · rintro ⟨f_5, n_6⟩ hp
    replace hp := hp.symm; subst hp
    try dsimp only at h
    try simp only [↓MD, ↓actH, ↓builtinH, ↓builtinG, ↓builtinFT, MU, MB, MC, TT, Nat.reduceEqDiff, Nat.reduceLT, Nat.reduceLeDiff, Nat.reduceAdd, Nat.reduceMul, Nat.reduceSub, Int.reduceToNat, reduceCtorEq, Try.f84]
    obtain rfl := Option.some.inj h
    refine endT_of ?_ ⟨rfl, rfl⟩
    exact (weak_norm (ks := [0]) (π := []) (fuel := 9) (by simp only [ML, Nat.reduceEqDiff, Nat.reduceLT, Nat.reduceLeDiff, Nat.reduceAdd, Nat.reduceMul, Nat.reduceSub, Int.reduceToNat, reduceCtorEq, TL, TT]))
theorem c_spec_Pack {s_1 : Bs} {r : (List Int)} (h : g_spec_Pack s_1 = some r) : Ans Try.prog 76 [.one (.str s_1)] [] fun v h1 => v = .pv (.one (.arr 0 0 r.length)) ∧ h1 = [.live ⟨1, r.length, r.flatMap (eI .u32)⟩] := by
  refine ansK (P := fun _ => Try.prog) TryT_eq (fn := Try.f76) Try.func76 rfl ⟨by kernel_rfl, rfl, rfl, by kernel_rfl⟩ (by simp) (Weak.refl _ _) ?_
  rw [g_spec_Pack] at h
  have f1 := (show bldN 0 = 0 from rfl)
  have f2 := (show bldC [] = ([] : List Int).flatMap (eI .u32) from rfl)
  try simp only [↓MD, ↓actH, ↓builtinH, ↓builtinG, ↓builtinFT, MU, MB, MC, TT, Nat.reduceEqDiff, Nat.reduceLT, Nat.reduceLeDiff, Nat.reduceAdd, Nat.reduceMul, Nat.reduceSub, Int.reduceToNat, reduceCtorEq, Try.f76, f1, f2]
  refine seqN TryT_eq rfl ?_
  obtain ⟨y_2, hy_2, h⟩ := bS h
  try simp only [↓MD, ↓actH, ↓builtinH, ↓builtinG, ↓builtinFT, MU, MB, MC, TT, Nat.reduceEqDiff, Nat.reduceLT, Nat.reduceLeDiff, Nat.reduceAdd, Nat.reduceMul, Nat.reduceSub, Int.reduceToNat, reduceCtorEq, Try.f76, f1, f2]
  refine callG [] 9 rfl (by simp only [ML, TT, Nat.reduceEqDiff, Nat.reduceLT, Nat.reduceLeDiff, Nat.reduceAdd, Nat.reduceMul, Nat.reduceSub, Int.reduceToNat, reduceCtorEq, TL]) (by simp only [ML, TT, Nat.reduceEqDiff, Nat.reduceLT, Nat.reduceLeDiff, Nat.reduceAdd, Nat.reduceMul, Nat.reduceSub, Int.reduceToNat, reduceCtorEq, TL]) rfl (c_spec_NameOk hy_2) (by simp only [ML, TL, Nat.reduceEqDiff, Nat.reduceLT, Nat.reduceLeDiff, Nat.reduceAdd, Nat.reduceMul, Nat.reduceSub, Int.reduceToNat, reduceCtorEq]) ?_
  intro rd b
  try simp only [↓MD, ↓actH, ↓builtinH, ↓builtinG, ↓builtinFT, MU, MB, MC, TT, Nat.reduceEqDiff, Nat.reduceLT, Nat.reduceLeDiff, Nat.reduceAdd, Nat.reduceMul, Nat.reduceSub, Int.reduceToNat, reduceCtorEq, Try.f76, f1, f2]
  refine stIf h (fun hb_3 h => ?_) (fun hb_3 h => ?_)
  · try simp only [↓MD, ↓actH, ↓builtinH, ↓builtinG, ↓builtinFT, MU, MB, MC, TT, Nat.reduceEqDiff, Nat.reduceLT, Nat.reduceLeDiff, Nat.reduceAdd, Nat.reduceMul, Nat.reduceSub, Int.reduceToNat, reduceCtorEq, Try.f76, f1, f2]
    obtain rfl := Option.some.inj h
    refine endT_of ?_ ⟨rfl, rfl⟩
    exact (weak_norm (ks := [0]) (π := [0]) (fuel := 9) (by simp only [ML, Nat.reduceEqDiff, Nat.reduceLT, Nat.reduceLeDiff, Nat.reduceAdd, Nat.reduceMul, Nat.reduceSub, Int.reduceToNat, reduceCtorEq, TL, TT, fWin (eI_ok .u32) (n := 0) (xs := ([] : List Int)) (by simp)]))
  · try simp only [↓MD, ↓actH, ↓builtinH, ↓builtinG, ↓builtinFT, MU, MB, MC, TT, Nat.reduceEqDiff, Nat.reduceLT, Nat.reduceLeDiff, Nat.reduceAdd, Nat.reduceMul, Nat.reduceSub, Int.reduceToNat, reduceCtorEq, Try.f76, f1, f2]
    obtain ⟨y_7, hy_8, h⟩ := bS h
    refine seqK TryT_eq (fun p : (List Int) => ⟨[(3, .pv (.one (.arr 0 0 p.length)))], [.live ⟨1, p.length, p.flatMap (eI .u32)⟩]⟩) (fun v => y_7 = v) (by rfl) ?_ ?_
    · try simp only [↓MD, ↓actH, ↓builtinH, ↓builtinG, ↓builtinFT, MU, MB, MC, TT, Nat.reduceEqDiff, Nat.reduceLT, Nat.reduceLeDiff, Nat.reduceAdd, Nat.reduceMul, Nat.reduceSub, Int.reduceToNat, reduceCtorEq, Try.f76, f1, f2]
      refine loopK TryT_eq (fun p : Bs × (List Int) => ⟨[(0, .pv (.one (.str p.1))), (3, .pv (.one (.arr 0 0 p.2.length)))], [.live ⟨1, p.2.length, p.2.flatMap (eI .u32)⟩]⟩) (fun k p => g_spec_Pack_l0 k p.1 p.2 = some y_7) (by kernel_rfl) bigK (s_1, ([] : List Int)) (weak_norm (ks := [0, 3]) (π := [0]) (fuel := 9) (by simp only [ML, Nat.reduceEqDiff, Nat.reduceLT, Nat.reduceLeDiff, Nat.reduceAdd, Nat.reduceMul, Nat.reduceSub, Int.reduceToNat, reduceCtorEq, TL, TT, fWin (eI_ok .u32) (n := 0) (xs := ([] : List Int)) (by simp)])) hy_8 (fun _ h => nomatch (show none = some _ from h)) ?_
      rintro k_9 ⟨s_4, out_5⟩ hk_10
      rw [g_spec_Pack_l0] at hk_10
      try dsimp only at hk_10
      try simp only [↓MD, ↓actH, ↓builtinH, ↓builtinG, ↓builtinFT, MU, MB, MC, TT, Nat.reduceEqDiff, Nat.reduceLT, Nat.reduceLeDiff, Nat.reduceAdd, Nat.reduceMul, Nat.reduceSub, Int.reduceToNat, reduceCtorEq, Try.f76]
      refine seqN TryT_eq rfl ?_
      try simp only [↓MD, ↓actH, ↓builtinH, ↓builtinG, ↓builtinFT, MU, MB, MC, TT, Nat.reduceEqDiff, Nat.reduceLT, Nat.reduceLeDiff, Nat.reduceAdd, Nat.reduceMul, Nat.reduceSub, Int.reduceToNat, reduceCtorEq, Try.f76]
      refine stIf hk_10 (fun hb_11 hk_10 => ?_) (fun hb_11 hk_10 => ?_)
      · obtain ⟨y_12, hy_12, hk_10⟩ := bS hk_10
        try simp only [↓MD, ↓actH, ↓builtinH, ↓builtinG, ↓builtinFT, MU, MB, MC, TT, Nat.reduceEqDiff, Nat.reduceLT, Nat.reduceLeDiff, Nat.reduceAdd, Nat.reduceMul, Nat.reduceSub, Int.reduceToNat, reduceCtorEq, Try.f76]
        refine callG [] 9 rfl (by simp only [ML, TT, Nat.reduceEqDiff, Nat.reduceLT, Nat.reduceLeDiff, Nat.reduceAdd, Nat.reduceMul, Nat.reduceSub, Int.reduceToNat, reduceCtorEq, TL]) (by simp only [ML, TT, Nat.reduceEqDiff, Nat.reduceLT, Nat.reduceLeDiff, Nat.reduceAdd, Nat.reduceMul, Nat.reduceSub, Int.reduceToNat, reduceCtorEq, TL]) rfl (c_spec_l03One hy_12) (by simp only [ML, TL, Nat.reduceEqDiff, Nat.reduceLT, Nat.reduceLeDiff, Nat.reduceAdd, Nat.reduceMul, Nat.reduceSub, Int.reduceToNat, reduceCtorEq]) ?_
        intro rd b
        obtain ⟨v_13, hv_13, hk_10⟩ := bS hk_10
        obtain ⟨v_14, hv_14, hk_10⟩ := bS hk_10
        have f3 := (show bldN 1 = 1 from rfl)
        have f4 := (show bldC [.int .u32 y_12.1] = [y_12.1].flatMap (eI .u32) from rfl)
        have f5 := (fWin (eI_ok .u32) (n := 1) (xs := [y_12.1]) (by simp))
        have f6 := (fApp hv_13 (n := out_5.length) (by simp) (m := 1) (by simp [bsOf]))
        have f7 := (fWin (eI_ok .u32) (n := out_5.length) (xs := out_5) (by simp))
        have f8 := (fCat (e := (eI .u32)) (ns := [y_12.1].flatMap (eI .u32)) hv_13 rfl)
        try simp only [↓MD, ↓actH, ↓builtinH, ↓builtinG, ↓builtinFT, MU, MB, MC, TT, Nat.reduceEqDiff, Nat.reduceLT, Nat.reduceLeDiff, Nat.reduceAdd, Nat.reduceMul, Nat.reduceSub, Int.reduceToNat, reduceCtorEq, Try.f76, f3, f4, f5, f6, f7, f8, hv_14]
        exact ⟨(v_14, v_13), hk_10, (weak_norm (ks := [0, 3]) (π := [2]) (fuel := 9) (by simp only [ML, Nat.reduceEqDiff, Nat.reduceLT, Nat.reduceLeDiff, Nat.reduceAdd, Nat.reduceMul, Nat.reduceSub, Int.reduceToNat, reduceCtorEq, TL, TT]))⟩
      · try simp only [↓MD, ↓actH, ↓builtinH, ↓builtinG, ↓builtinFT, MU, MB, MC, TT, Nat.reduceEqDiff, Nat.reduceLT, Nat.reduceLeDiff, Nat.reduceAdd, Nat.reduceMul, Nat.reduceSub, Int.reduceToNat, reduceCtorEq, Try.f76]
        obtain rfl := Option.some.inj hk_10
        exact cutT_mk out_5 rfl (weak_norm (ks := [3]) (π := [0]) (fuel := 9) (by simp only [ML, Nat.reduceEqDiff, Nat.reduceLT, Nat.reduceLeDiff, Nat.reduceAdd, Nat.reduceMul, Nat.reduceSub, Int.reduceToNat, reduceCtorEq, TL, TT]))
    · rintro out_6 hp
      replace hp := hp.symm; subst hp
      try dsimp only at h
      try simp only [↓MD, ↓actH, ↓builtinH, ↓builtinG, ↓builtinFT, MU, MB, MC, TT, Nat.reduceEqDiff, Nat.reduceLT, Nat.reduceLeDiff, Nat.reduceAdd, Nat.reduceMul, Nat.reduceSub, Int.reduceToNat, reduceCtorEq, Try.f76]
      obtain rfl := Option.some.inj h
      refine endT_of ?_ ⟨rfl, rfl⟩
      exact (weak_norm (ks := [0]) (π := [0]) (fuel := 9) (by simp only [ML, Nat.reduceEqDiff, Nat.reduceLT, Nat.reduceLeDiff, Nat.reduceAdd, Nat.reduceMul, Nat.reduceSub, Int.reduceToNat, reduceCtorEq, TL, TT]))
theorem c_spec_l04Word {tag_1 : Int} {name_2 : Bs} {r : (List Int)} (h : g_spec_l04Word tag_1 name_2 = some r) : Ans Try.prog 64 [.one (.int .u32 tag_1), .one (.str name_2)] [] fun v h1 => v = .pv (.one (.arr 0 0 r.length)) ∧ h1 = [.live ⟨1, r.length, r.flatMap (eI .u32)⟩] := by
  refine ansK (P := fun _ => Try.prog) TryT_eq (fn := Try.f64) Try.func64 rfl ⟨by kernel_rfl, rfl, rfl, by kernel_rfl⟩ (by simp) (Weak.refl _ _) ?_
  rw [g_spec_l04Word] at h
  obtain ⟨y_3, hy_3, h⟩ := bS h
  try simp only [↓MD, ↓actH, ↓builtinH, ↓builtinG, ↓builtinFT, MU, MB, MC, TT, Nat.reduceEqDiff, Nat.reduceLT, Nat.reduceLeDiff, Nat.reduceAdd, Nat.reduceMul, Nat.reduceSub, Int.reduceToNat, reduceCtorEq, Try.f64]
  refine callG [] 9 rfl (by simp only [ML, TT, Nat.reduceEqDiff, Nat.reduceLT, Nat.reduceLeDiff, Nat.reduceAdd, Nat.reduceMul, Nat.reduceSub, Int.reduceToNat, reduceCtorEq, TL]) (by simp only [ML, TT, Nat.reduceEqDiff, Nat.reduceLT, Nat.reduceLeDiff, Nat.reduceAdd, Nat.reduceMul, Nat.reduceSub, Int.reduceToNat, reduceCtorEq, TL]) rfl (c_spec_Pack hy_3) (by simp only [ML, TL, Nat.reduceEqDiff, Nat.reduceLT, Nat.reduceLeDiff, Nat.reduceAdd, Nat.reduceMul, Nat.reduceSub, Int.reduceToNat, reduceCtorEq]) ?_
  intro rd b
  try simp only [↓MD, ↓actH, ↓builtinH, ↓builtinG, ↓builtinFT, MU, MB, MC, TT, Nat.reduceEqDiff, Nat.reduceLT, Nat.reduceLeDiff, Nat.reduceAdd, Nat.reduceMul, Nat.reduceSub, Int.reduceToNat, reduceCtorEq, Try.f64]
  obtain ⟨y_5, hy_6, h⟩ := bS h
  refine seqK TryT_eq (fun p : (List Int) => ⟨[(5, .pv (.one (.arr 0 0 p.length)))], [.live ⟨1, p.length, p.flatMap (eI .u32)⟩]⟩) (fun v => y_5 = v) (by rfl) ?_ ?_
  · try simp only [↓MD, ↓actH, ↓builtinH, ↓builtinG, ↓builtinFT, MU, MB, MC, TT, Nat.reduceEqDiff, Nat.reduceLT, Nat.reduceLeDiff, Nat.reduceAdd, Nat.reduceMul, Nat.reduceSub, Int.reduceToNat, reduceCtorEq, Try.f64]
    obtain ⟨y_10, hy_11, hy_6⟩ := bS hy_6
    refine loopK TryT_eq (fun p : (List Int) × Int => ⟨[(0, .pv (.one (.int .u32 tag_1))), (5, .pv (.one (.arr 0 0 p.1.length))), (6, .pv (.one (.int .i64 p.2)))], [.live ⟨1, p.1.length, p.1.flatMap (eI .u32)⟩]⟩) (fun k p => g_spec_l04Word_l0 tag_1 k p.1 p.2 = some y_10) (by kernel_rfl) bigK (y_3, 0) (weak_norm (ks := [0, 5, 6]) (π := [0]) (fuel := 9) (by simp only [ML, Nat.reduceEqDiff, Nat.reduceLT, Nat.reduceLeDiff, Nat.reduceAdd, Nat.reduceMul, Nat.reduceSub, Int.reduceToNat, reduceCtorEq, TL, TT])) hy_11 (fun _ h => nomatch (show none = some _ from h)) ?_
    rintro k_12 ⟨out_7, i_8⟩ hk_13
    rw [g_spec_l04Word_l0] at hk_13
    try dsimp only at hk_13
    try simp only [↓MD, ↓actH, ↓builtinH, ↓builtinG, ↓builtinFT, MU, MB, MC, TT, Nat.reduceEqDiff, Nat.reduceLT, Nat.reduceLeDiff, Nat.reduceAdd, Nat.reduceMul, Nat.reduceSub, Int.reduceToNat, reduceCtorEq, Try.f64]
    refine seqN TryT_eq rfl ?_
    try simp only [↓MD, ↓actH, ↓builtinH, ↓builtinG, ↓builtinFT, MU, MB, MC, TT, Nat.reduceEqDiff, Nat.reduceLT, Nat.reduceLeDiff, Nat.reduceAdd, Nat.reduceMul, Nat.reduceSub, Int.reduceToNat, reduceCtorEq, Try.f64]
    refine stIf hk_13 (fun hb_14 hk_13 => ?_) (fun hb_14 hk_13 => ?_)
    · try simp only [↓MD, ↓actH, ↓builtinH, ↓builtinG, ↓builtinFT, MU, MB, MC, TT, Nat.reduceEqDiff, Nat.reduceLT, Nat.reduceLeDiff, Nat.reduceAdd, Nat.reduceMul, Nat.reduceSub, Int.reduceToNat, reduceCtorEq, Try.f64]
      obtain ⟨y_16, hy_17, hk_13⟩ := bS hk_13
      refine seqK TryT_eq (fun p : (List Int) => ⟨[(0, .pv (.one (.int .u32 tag_1))), (5, .pv (.one (.arr 0 0 p.length))), (6, .pv (.one (.int .i64 i_8)))], [.live ⟨1, p.length, p.flatMap (eI .u32)⟩]⟩) (fun v => y_16 = v) (by rfl) ?_ ?_
      · obtain ⟨v_18, hv_18, hy_17⟩ := bS hy_17
        have f1 := (fPtr hv_18 (k := 1) (n := out_7.length) (by simp))
        have f2 := (fGet0 (eI_ok .u32) hv_18 (m := 1) (by decide) (by decide))
        have f3 := (fPut0 (eI_ok .u32) hv_18 (ns := [.int .u32 (IntKind.wrap .u32 (v_18 * 16))]) (y := IntKind.wrap .u32 (v_18 * 16)) rfl)
        try simp only [↓MD, ↓actH, ↓builtinH, ↓builtinG, ↓builtinFT, MU, MB, MC, TT, Nat.reduceEqDiff, Nat.reduceLT, Nat.reduceLeDiff, Nat.reduceAdd, Nat.reduceMul, Nat.reduceSub, Int.reduceToNat, reduceCtorEq, Try.f64, f1, f2, f3]
        refine stIf hy_17 (fun hb_19 hy_17 => ?_) (fun hb_19 hy_17 => ?_)
        · obtain ⟨v_20, hv_20, hy_17⟩ := bS hy_17
          have f4 := (fPtr hv_20 (k := 1) (n := out_7.length) (by simp))
          have f5 := (fGet0 (eI_ok .u32) hv_20 (m := 1) (by decide) (by decide))
          have f6 := (fPut0 (eI_ok .u32) hv_20 (ns := [.int .u32 (IntKind.wrap .u32 (v_20 + tag_1))]) (y := IntKind.wrap .u32 (v_20 + tag_1)) rfl)
          try simp only [↓MD, ↓actH, ↓builtinH, ↓builtinG, ↓builtinFT, MU, MB, MC, TT, Nat.reduceEqDiff, Nat.reduceLT, Nat.reduceLeDiff, Nat.reduceAdd, Nat.reduceMul, Nat.reduceSub, Int.reduceToNat, reduceCtorEq, Try.f64, f1, f2, f3, f4, f5, f6]
          obtain rfl := Option.some.inj hy_17
          exact cutT_mk ((out_7.set i_8.toNat (IntKind.wrap .u32 (v_18 * 16))).set i_8.toNat (IntKind.wrap .u32 (v_20 + tag_1))) rfl (weak_norm (ks := [0, 5, 6]) (π := [0]) (fuel := 9) (by simp only [ML, Nat.reduceEqDiff, Nat.reduceLT, Nat.reduceLeDiff, Nat.reduceAdd, Nat.reduceMul, Nat.reduceSub, Int.reduceToNat, reduceCtorEq, TL, TT, fWin (eI_ok .u32) (n := out_7.length) (xs := (out_7.set i_8.toNat (IntKind.wrap .u32 (v_18 * 16))).set i_8.toNat (IntKind.wrap .u32 (v_20 + tag_1))) (by simp)]))
        · try simp only [↓MD, ↓actH, ↓builtinH, ↓builtinG, ↓builtinFT, MU, MB, MC, TT, Nat.reduceEqDiff, Nat.reduceLT, Nat.reduceLeDiff, Nat.reduceAdd, Nat.reduceMul, Nat.reduceSub, Int.reduceToNat, reduceCtorEq, Try.f64, f1, f2, f3]
          obtain rfl := Option.some.inj hy_17
          exact cutT_mk (out_7.set i_8.toNat (IntKind.wrap .u32 (v_18 * 16))) rfl (weak_norm (ks := [0, 5, 6]) (π := [0]) (fuel := 9) (by simp only [ML, Nat.reduceEqDiff, Nat.reduceLT, Nat.reduceLeDiff, Nat.reduceAdd, Nat.reduceMul, Nat.reduceSub, Int.reduceToNat, reduceCtorEq, TL, TT, fWin (eI_ok .u32) (n := out_7.length) (xs := out_7.set i_8.toNat (IntKind.wrap .u32 (v_18 * 16))) (by simp)]))
      · rintro out_15 hp
        replace hp := hp.symm; subst hp
        try dsimp only at hk_13
        try simp only [↓MD, ↓actH, ↓builtinH, ↓builtinG, ↓builtinFT, MU, MB, MC, TT, Nat.reduceEqDiff, Nat.reduceLT, Nat.reduceLeDiff, Nat.reduceAdd, Nat.reduceMul, Nat.reduceSub, Int.reduceToNat, reduceCtorEq, Try.f64]
        exact ⟨(out_15, IntKind.wrap .i64 (i_8 + 1)), hk_13, (weak_norm (ks := [0, 5, 6]) (π := [0]) (fuel := 9) (by simp only [ML, Nat.reduceEqDiff, Nat.reduceLT, Nat.reduceLeDiff, Nat.reduceAdd, Nat.reduceMul, Nat.reduceSub, Int.reduceToNat, reduceCtorEq, TL, TT]))⟩
    · obtain rfl := Option.some.inj hk_13
      try dsimp only at hy_6
      try simp only [↓MD, ↓actH, ↓builtinH, ↓builtinG, ↓builtinFT, MU, MB, MC, TT, Nat.reduceEqDiff, Nat.reduceLT, Nat.reduceLeDiff, Nat.reduceAdd, Nat.reduceMul, Nat.reduceSub, Int.reduceToNat, reduceCtorEq, Try.f64]
      obtain rfl := Option.some.inj hy_6
      exact cutT_mk out_7 rfl (weak_norm (ks := [5]) (π := [0]) (fuel := 9) (by simp only [ML, Nat.reduceEqDiff, Nat.reduceLT, Nat.reduceLeDiff, Nat.reduceAdd, Nat.reduceMul, Nat.reduceSub, Int.reduceToNat, reduceCtorEq, TL, TT]))
  · rintro out_4 hp
    replace hp := hp.symm; subst hp
    try dsimp only at h
    try simp only [↓MD, ↓actH, ↓builtinH, ↓builtinG, ↓builtinFT, MU, MB, MC, TT, Nat.reduceEqDiff, Nat.reduceLT, Nat.reduceLeDiff, Nat.reduceAdd, Nat.reduceMul, Nat.reduceSub, Int.reduceToNat, reduceCtorEq, Try.f64]
    obtain rfl := Option.some.inj h
    refine endT_of ?_ ⟨rfl, rfl⟩
    exact (weak_norm (ks := [0]) (π := [0]) (fuel := 9) (by simp only [ML, Nat.reduceEqDiff, Nat.reduceLT, Nat.reduceLeDiff, Nat.reduceAdd, Nat.reduceMul, Nat.reduceSub, Int.reduceToNat, reduceCtorEq, TL, TT]))
theorem c_spec_l04Tag {kind_1 : Int} {r : Int} (h : g_spec_l04Tag kind_1 = some r) : Ans Try.prog 65 [.one (.int .i64 kind_1)] [] fun v h1 => v = .pv (.one (.int .u32 r)) ∧ h1 = [] := by
  refine ansK (P := fun _ => Try.prog) TryT_eq (fn := Try.f65) Try.func65 rfl ⟨by kernel_rfl, rfl, rfl, by kernel_rfl⟩ (by simp) (Weak.refl _ _) ?_
  rw [g_spec_l04Tag] at h
  try simp only [↓MD, ↓actH, ↓builtinH, ↓builtinG, ↓builtinFT, MU, MB, MC, TT, Nat.reduceEqDiff, Nat.reduceLT, Nat.reduceLeDiff, Nat.reduceAdd, Nat.reduceMul, Nat.reduceSub, Int.reduceToNat, reduceCtorEq, Try.f65]
  refine seqN TryT_eq rfl ?_
  try simp only [↓MD, ↓actH, ↓builtinH, ↓builtinG, ↓builtinFT, MU, MB, MC, TT, Nat.reduceEqDiff, Nat.reduceLT, Nat.reduceLeDiff, Nat.reduceAdd, Nat.reduceMul, Nat.reduceSub, Int.reduceToNat, reduceCtorEq, Try.f65]
  refine stIf h (fun hb_2 h => ?_) (fun hb_2 h => ?_)
  · try simp only [↓MD, ↓actH, ↓builtinH, ↓builtinG, ↓builtinFT, MU, MB, MC, TT, Nat.reduceEqDiff, Nat.reduceLT, Nat.reduceLeDiff, Nat.reduceAdd, Nat.reduceMul, Nat.reduceSub, Int.reduceToNat, reduceCtorEq, Try.f65]
    obtain rfl := Option.some.inj h
    refine endT_of ?_ ⟨rfl, rfl⟩
    exact (weak_norm (ks := [0]) (π := []) (fuel := 9) (by simp only [ML, Nat.reduceEqDiff, Nat.reduceLT, Nat.reduceLeDiff, Nat.reduceAdd, Nat.reduceMul, Nat.reduceSub, Int.reduceToNat, reduceCtorEq, TL, TT]))
  · try simp only [↓MD, ↓actH, ↓builtinH, ↓builtinG, ↓builtinFT, MU, MB, MC, TT, Nat.reduceEqDiff, Nat.reduceLT, Nat.reduceLeDiff, Nat.reduceAdd, Nat.reduceMul, Nat.reduceSub, Int.reduceToNat, reduceCtorEq, Try.f65]
    refine stIf h (fun hb_3 h => ?_) (fun hb_3 h => ?_)
    · try simp only [↓MD, ↓actH, ↓builtinH, ↓builtinG, ↓builtinFT, MU, MB, MC, TT, Nat.reduceEqDiff, Nat.reduceLT, Nat.reduceLeDiff, Nat.reduceAdd, Nat.reduceMul, Nat.reduceSub, Int.reduceToNat, reduceCtorEq, Try.f65]
      obtain rfl := Option.some.inj h
      refine endT_of ?_ ⟨rfl, rfl⟩
      exact (weak_norm (ks := [0]) (π := []) (fuel := 9) (by simp only [ML, Nat.reduceEqDiff, Nat.reduceLT, Nat.reduceLeDiff, Nat.reduceAdd, Nat.reduceMul, Nat.reduceSub, Int.reduceToNat, reduceCtorEq, TL, TT]))
    · try simp only [↓MD, ↓actH, ↓builtinH, ↓builtinG, ↓builtinFT, MU, MB, MC, TT, Nat.reduceEqDiff, Nat.reduceLT, Nat.reduceLeDiff, Nat.reduceAdd, Nat.reduceMul, Nat.reduceSub, Int.reduceToNat, reduceCtorEq, Try.f65]
      refine stIf h (fun hb_4 h => ?_) (fun hb_4 h => ?_)
      · try simp only [↓MD, ↓actH, ↓builtinH, ↓builtinG, ↓builtinFT, MU, MB, MC, TT, Nat.reduceEqDiff, Nat.reduceLT, Nat.reduceLeDiff, Nat.reduceAdd, Nat.reduceMul, Nat.reduceSub, Int.reduceToNat, reduceCtorEq, Try.f65]
        obtain rfl := Option.some.inj h
        refine endT_of ?_ ⟨rfl, rfl⟩
        exact (weak_norm (ks := [0]) (π := []) (fuel := 9) (by simp only [ML, Nat.reduceEqDiff, Nat.reduceLT, Nat.reduceLeDiff, Nat.reduceAdd, Nat.reduceMul, Nat.reduceSub, Int.reduceToNat, reduceCtorEq, TL, TT]))
      · try simp only [↓MD, ↓actH, ↓builtinH, ↓builtinG, ↓builtinFT, MU, MB, MC, TT, Nat.reduceEqDiff, Nat.reduceLT, Nat.reduceLeDiff, Nat.reduceAdd, Nat.reduceMul, Nat.reduceSub, Int.reduceToNat, reduceCtorEq, Try.f65]
        refine stIf h (fun hb_5 h => ?_) (fun hb_5 h => ?_)
        · try simp only [↓MD, ↓actH, ↓builtinH, ↓builtinG, ↓builtinFT, MU, MB, MC, TT, Nat.reduceEqDiff, Nat.reduceLT, Nat.reduceLeDiff, Nat.reduceAdd, Nat.reduceMul, Nat.reduceSub, Int.reduceToNat, reduceCtorEq, Try.f65]
          obtain rfl := Option.some.inj h
          refine endT_of ?_ ⟨rfl, rfl⟩
          exact (weak_norm (ks := [0]) (π := []) (fuel := 9) (by simp only [ML, Nat.reduceEqDiff, Nat.reduceLT, Nat.reduceLeDiff, Nat.reduceAdd, Nat.reduceMul, Nat.reduceSub, Int.reduceToNat, reduceCtorEq, TL, TT]))
        · try simp only [↓MD, ↓actH, ↓builtinH, ↓builtinG, ↓builtinFT, MU, MB, MC, TT, Nat.reduceEqDiff, Nat.reduceLT, Nat.reduceLeDiff, Nat.reduceAdd, Nat.reduceMul, Nat.reduceSub, Int.reduceToNat, reduceCtorEq, Try.f65]
          refine stIf h (fun hb_6 h => ?_) (fun hb_6 h => ?_)
          · try simp only [↓MD, ↓actH, ↓builtinH, ↓builtinG, ↓builtinFT, MU, MB, MC, TT, Nat.reduceEqDiff, Nat.reduceLT, Nat.reduceLeDiff, Nat.reduceAdd, Nat.reduceMul, Nat.reduceSub, Int.reduceToNat, reduceCtorEq, Try.f65]
            obtain rfl := Option.some.inj h
            refine endT_of ?_ ⟨rfl, rfl⟩
            exact (weak_norm (ks := [0]) (π := []) (fuel := 9) (by simp only [ML, Nat.reduceEqDiff, Nat.reduceLT, Nat.reduceLeDiff, Nat.reduceAdd, Nat.reduceMul, Nat.reduceSub, Int.reduceToNat, reduceCtorEq, TL, TT]))
          · try simp only [↓MD, ↓actH, ↓builtinH, ↓builtinG, ↓builtinFT, MU, MB, MC, TT, Nat.reduceEqDiff, Nat.reduceLT, Nat.reduceLeDiff, Nat.reduceAdd, Nat.reduceMul, Nat.reduceSub, Int.reduceToNat, reduceCtorEq, Try.f65]
            refine stIf h (fun hb_7 h => ?_) (fun hb_7 h => ?_)
            · try simp only [↓MD, ↓actH, ↓builtinH, ↓builtinG, ↓builtinFT, MU, MB, MC, TT, Nat.reduceEqDiff, Nat.reduceLT, Nat.reduceLeDiff, Nat.reduceAdd, Nat.reduceMul, Nat.reduceSub, Int.reduceToNat, reduceCtorEq, Try.f65]
              obtain rfl := Option.some.inj h
              refine endT_of ?_ ⟨rfl, rfl⟩
              exact (weak_norm (ks := [0]) (π := []) (fuel := 9) (by simp only [ML, Nat.reduceEqDiff, Nat.reduceLT, Nat.reduceLeDiff, Nat.reduceAdd, Nat.reduceMul, Nat.reduceSub, Int.reduceToNat, reduceCtorEq, TL, TT]))
            · try simp only [↓MD, ↓actH, ↓builtinH, ↓builtinG, ↓builtinFT, MU, MB, MC, TT, Nat.reduceEqDiff, Nat.reduceLT, Nat.reduceLeDiff, Nat.reduceAdd, Nat.reduceMul, Nat.reduceSub, Int.reduceToNat, reduceCtorEq, Try.f65]
              obtain rfl := Option.some.inj h
              refine endT_of ?_ ⟨rfl, rfl⟩
              exact (weak_norm (ks := [0]) (π := []) (fuel := 9) (by simp only [ML, Nat.reduceEqDiff, Nat.reduceLT, Nat.reduceLeDiff, Nat.reduceAdd, Nat.reduceMul, Nat.reduceSub, Int.reduceToNat, reduceCtorEq, TL, TT]))
theorem c_spec_CellsOf {it_1 : GItem} {r : (List Int)} (h : g_spec_CellsOf it_1 = some r) : Ans Try.prog 51 [.agg [.int .i64 it_1.Kind, .str it_1.Name, .int .i32 it_1.N, .bool it_1.Hex, .int .u32 it_1.Raw]] [] fun v h1 => v = .pv (.one (.arr 0 0 r.length)) ∧ h1 = [.live ⟨1, r.length, r.flatMap (eI .u32)⟩] := by
  refine ansK (P := fun _ => Try.prog) TryT_eq (fn := Try.f51) Try.func51 rfl ⟨by kernel_rfl, rfl, rfl, by kernel_rfl⟩ (by simp) (Weak.refl _ _) ?_
  rw [g_spec_CellsOf] at h
  try simp only [↓MD, ↓actH, ↓builtinH, ↓builtinG, ↓builtinFT, MU, MB, MC, TT, Nat.reduceEqDiff, Nat.reduceLT, Nat.reduceLeDiff, Nat.reduceAdd, Nat.reduceMul, Nat.reduceSub, Int.reduceToNat, reduceCtorEq, Try.f51]
  obtain ⟨y_3, hy_4, h⟩ := bS h
  refine seqK TryT_eq (fun p : Bool => ⟨[(1, .pv (.one (.ptr 0 0))), (3, .pv (.one (.bool p)))], [.live ⟨1, 5, [.int .i64 it_1.Kind, .str it_1.Name, .int .i32 it_1.N, .bool it_1.Hex, .int .u32 it_1.Raw]⟩]⟩) (fun v => y_3 = v) (by rfl) ?_ ?_
  · try simp only [↓MD, ↓actH, ↓builtinH, ↓builtinG, ↓builtinFT, MU, MB, MC, TT, Nat.reduceEqDiff, Nat.reduceLT, Nat.reduceLeDiff, Nat.reduceAdd, Nat.reduceMul, Nat.reduceSub, Int.reduceToNat, reduceCtorEq, Try.f51]
    refine stIf hy_4 (fun hb_5 hy_4 => ?_) (fun hb_5 hy_4 => ?_)
    · try simp only [↓MD, ↓actH, ↓builtinH, ↓builtinG, ↓builtinFT, MU, MB, MC, TT, Nat.reduceEqDiff, Nat.reduceLT, Nat.reduceLeDiff, Nat.reduceAdd, Nat.reduceMul, Nat.reduceSub, Int.reduceToNat, reduceCtorEq, Try.f51, hb_5]
      refine stIf hy_4 (fun hb_6 hy_4 => ?_) (fun hb_6 hy_4 => ?_)
      · try simp only [↓MD, ↓actH, ↓builtinH, ↓builtinG, ↓builtinFT, MU, MB, MC, TT, Nat.reduceEqDiff, Nat.reduceLT, Nat.reduceLeDiff, Nat.reduceAdd, Nat.reduceMul, Nat.reduceSub, Int.reduceToNat, reduceCtorEq, Try.f51, hb_5, hb_6]
        obtain rfl := Option.some.inj hy_4
        exact cutT_mk (it_1.Raw == 0) rfl (weak_norm (ks := [1, 3]) (π := [0]) (fuel := 9) (by simp only [ML, Nat.reduceEqDiff, Nat.reduceLT, Nat.reduceLeDiff, Nat.reduceAdd, Nat.reduceMul, Nat.reduceSub, Int.reduceToNat, reduceCtorEq, TL, TT]))
      · try simp only [↓MD, ↓actH, ↓builtinH, ↓builtinG, ↓builtinFT, MU, MB, MC, TT, Nat.reduceEqDiff, Nat.reduceLT, Nat.reduceLeDiff, Nat.reduceAdd, Nat.reduceMul, Nat.reduceSub, Int.reduceToNat, reduceCtorEq, Try.f51, hb_5, hb_6]
        obtain rfl := Option.some.inj hy_4
        exact cutT_mk false rfl (weak_norm (ks := [1, 3]) (π := [0]) (fuel := 9) (by simp only [ML, Nat.reduceEqDiff, Nat.reduceLT, Nat.reduceLeDiff, Nat.reduceAdd, Nat.reduceMul, Nat.reduceSub, Int.reduceToNat, reduceCtorEq, TL, TT]))
    · try simp only [↓MD, ↓actH, ↓builtinH, ↓builtinG, ↓builtinFT, MU, MB, MC, TT, Nat.reduceEqDiff, Nat.reduceLT, Nat.reduceLeDiff, Nat.reduceAdd, Nat.reduceMul, Nat.reduceSub, Int.reduceToNat, reduceCtorEq, Try.f51, hb_5]
      obtain rfl := Option.some.inj hy_4
      exact cutT_mk false rfl (weak_norm (ks := [1, 3]) (π := [0]) (fuel := 9) (by simp only [ML, Nat.reduceEqDiff, Nat.reduceLT, Nat.reduceLeDiff, Nat.reduceAdd, Nat.reduceMul, Nat.reduceSub, Int.reduceToNat, reduceCtorEq, TL, TT]))
  · rintro plain_2 hp
    replace hp := hp.symm; subst hp
    try dsimp only at h
    try simp only [↓MD, ↓actH, ↓builtinH, ↓builtinG, ↓builtinFT, MU, MB, MC, TT, Nat.reduceEqDiff, Nat.reduceLT, Nat.reduceLeDiff, Nat.reduceAdd, Nat.reduceMul, Nat.reduceSub, Int.reduceToNat, reduceCtorEq, Try.f51]
    obtain ⟨y_8, hy_9, h⟩ := bS h
    refine seqK TryT_eq (fun p : Unit => ⟨[], []⟩) (fun v => y_8 = .inl v) (by rfl) ?_ ?_
    · try simp only [↓MD, ↓actH, ↓builtinH, ↓builtinG, ↓builtinFT, MU, MB, MC, TT, Nat.reduceEqDiff, Nat.reduceLT, Nat.reduceLeDiff, Nat.reduceAdd, Nat.reduceMul, Nat.reduceSub, Int.reduceToNat, reduceCtorEq, Try.f51]
      refine stIf hy_9 (fun hb_10 hy_9 => ?_) (fun hb_10 hy_9 => ?_)
      · try simp only [↓MD, ↓actH, ↓builtinH, ↓builtinG, ↓builtinFT, MU, MB, MC, TT, Nat.reduceEqDiff, Nat.reduceLT, Nat.reduceLeDiff, Nat.reduceAdd, Nat.reduceMul, Nat.reduceSub, Int.reduceToNat, reduceCtorEq, Try.f51]
        obtain ⟨y_12, hy_13, hy_9⟩ := bS hy_9
        refine seqK TryT_eq (fun p : Bool => ⟨[(1, .pv (.one (.ptr 0 0))), (47, .pv (.one (.bool p)))], [.live ⟨1, 5, [.int .i64 it_1.Kind, .str it_1.Name, .int .i32 it_1.N, .bool it_1.Hex, .int .u32 it_1.Raw]⟩]⟩) (fun v => y_12 = v) (by rfl) ?_ ?_
        · try simp only [↓MD, ↓actH, ↓builtinH, ↓builtinG, ↓builtinFT, MU, MB, MC, TT, Nat.reduceEqDiff, Nat.reduceLT, Nat.reduceLeDiff, Nat.reduceAdd, Nat.reduceMul, Nat.reduceSub, Int.reduceToNat, reduceCtorEq, Try.f51]
          refine stIf hy_13 (fun hb_14 hy_13 => ?_) (fun hb_14 hy_13 => ?_)
          · try simp only [↓MD, ↓actH, ↓builtinH, ↓builtinG, ↓builtinFT, MU, MB, MC, TT, Nat.reduceEqDiff, Nat.reduceLT, Nat.reduceLeDiff, Nat.reduceAdd, Nat.reduceMul, Nat.reduceSub, Int.reduceToNat, reduceCtorEq, Try.f51, hb_14]
            refine stIf hy_13 (fun hb_15 hy_13 => ?_) (fun hb_15 hy_13 => ?_)
            · try simp only [↓MD, ↓actH, ↓builtinH, ↓builtinG, ↓builtinFT, MU, MB, MC, TT, Nat.reduceEqDiff, Nat.reduceLT, Nat.reduceLeDiff, Nat.reduceAdd, Nat.reduceMul, Nat.reduceSub, Int.reduceToNat, reduceCtorEq, Try.f51, hb_14, hb_15]
              obtain rfl := Option.some.inj hy_13
              exact cutT_mk (!it_1.Hex) rfl (weak_norm (ks := [1, 47]) (π := [0]) (fuel := 9) (by simp only [ML, Nat.reduceEqDiff, Nat.reduceLT, Nat.reduceLeDiff, Nat.reduceAdd, Nat.reduceMul, Nat.reduceSub, Int.reduceToNat, reduceCtorEq, TL, TT]))
            · try simp only [↓MD, ↓actH, ↓builtinH, ↓builtinG, ↓builtinFT, MU, MB, MC, TT, Nat.reduceEqDiff, Nat.reduceLT, Nat.reduceLeDiff, Nat.reduceAdd, Nat.reduceMul, Nat.reduceSub, Int.reduceToNat, reduceCtorEq, Try.f51, hb_14, hb_15]
              obtain rfl := Option.some.inj hy_13
              exact cutT_mk false rfl (weak_norm (ks := [1, 47]) (π := [0]) (fuel := 9) (by simp only [ML, Nat.reduceEqDiff, Nat.reduceLT, Nat.reduceLeDiff, Nat.reduceAdd, Nat.reduceMul, Nat.reduceSub, Int.reduceToNat, reduceCtorEq, TL, TT]))
          · try simp only [↓MD, ↓actH, ↓builtinH, ↓builtinG, ↓builtinFT, MU, MB, MC, TT, Nat.reduceEqDiff, Nat.reduceLT, Nat.reduceLeDiff, Nat.reduceAdd, Nat.reduceMul, Nat.reduceSub, Int.reduceToNat, reduceCtorEq, Try.f51, hb_14]
            obtain rfl := Option.some.inj hy_13
            exact cutT_mk false rfl (weak_norm (ks := [1, 47]) (π := [0]) (fuel := 9) (by simp only [ML, Nat.reduceEqDiff, Nat.reduceLT, Nat.reduceLeDiff, Nat.reduceAdd, Nat.reduceMul, Nat.reduceSub, Int.reduceToNat, reduceCtorEq, TL, TT]))
        · rintro v_11 hp
          replace hp := hp.symm; subst hp
          try dsimp only at hy_9
          try simp only [↓MD, ↓actH, ↓builtinH, ↓builtinG, ↓builtinFT, MU, MB, MC, TT, Nat.reduceEqDiff, Nat.reduceLT, Nat.reduceLeDiff, Nat.reduceAdd, Nat.reduceMul, Nat.reduceSub, Int.reduceToNat, reduceCtorEq, Try.f51]
          refine stIf hy_9 (fun hb_16 hy_9 => ?_) (fun hb_16 hy_9 => ?_)
          · obtain rfl := Option.some.inj hy_9
            try dsimp only at h
            have f1 := (show bldN 1 = 1 from rfl)
            have f2 := (show bldC [.int .u32 it_1.Raw] = [it_1.Raw].flatMap (eI .u32) from rfl)
            try simp only [↓MD, ↓actH, ↓builtinH, ↓builtinG, ↓builtinFT, MU, MB, MC, TT, Nat.reduceEqDiff, Nat.reduceLT, Nat.reduceLeDiff, Nat.reduceAdd, Nat.reduceMul, Nat.reduceSub, Int.reduceToNat, reduceCtorEq, Try.f51, f1, f2]
            obtain rfl := Option.some.inj h
            refine endT_of ?_ ⟨rfl, rfl⟩
            exact (weak_norm (ks := [0]) (π := [1]) (fuel := 9) (by simp only [ML, Nat.reduceEqDiff, Nat.reduceLT, Nat.reduceLeDiff, Nat.reduceAdd, Nat.reduceMul, Nat.reduceSub, Int.reduceToNat, reduceCtorEq, TL, TT, fWin (eI_ok .u32) (n := 1) (xs := [it_1.Raw]) (by simp)]))
          · try simp only [↓MD, ↓actH, ↓builtinH, ↓builtinG, ↓builtinFT, MU, MB, MC, TT, Nat.reduceEqDiff, Nat.reduceLT, Nat.reduceLeDiff, Nat.reduceAdd, Nat.reduceMul, Nat.reduceSub, Int.reduceToNat, reduceCtorEq, Try.f51]
            obtain rfl := Option.some.inj hy_9
            exact cutT_mk () (by trivial) (weak_norm (ks := []) (π := []) (fuel := 9) (by simp only [ML, Nat.reduceEqDiff, Nat.reduceLT, Nat.reduceLeDiff, Nat.reduceAdd, Nat.reduceMul, Nat.reduceSub, Int.reduceToNat, reduceCtorEq, TL, TT]))
      · try simp only [↓MD, ↓actH, ↓builtinH, ↓builtinG, ↓builtinFT, MU, MB, MC, TT, Nat.reduceEqDiff, Nat.reduceLT, Nat.reduceLeDiff, Nat.reduceAdd, Nat.reduceMul, Nat.reduceSub, Int.reduceToNat, reduceCtorEq, Try.f51]
        refine stIf hy_9 (fun hb_17 hy_9 => ?_) (fun hb_17 hy_9 => ?_)
        · try simp only [↓MD, ↓actH, ↓builtinH, ↓builtinG, ↓builtinFT, MU, MB, MC, TT, Nat.reduceEqDiff, Nat.reduceLT, Nat.reduceLeDiff, Nat.reduceAdd, Nat.reduceMul, Nat.reduceSub, Int.reduceToNat, reduceCtorEq, Try.f51]
          obtain ⟨y_19, hy_20, hy_9⟩ := bS hy_9
          refine seqK TryT_eq (fun p : Bool => ⟨[(1, .pv (.one (.ptr 0 0))), (60, .pv (.one (.bool p)))], [.live ⟨1, 5, [.int .i64 it_1.Kind, .str it_1.Name, .int .i32 it_1.N, .bool it_1.Hex, .int .u32 it_1.Raw]⟩]⟩) (fun v => y_19 = v) (by rfl) ?_ ?_
          · try simp only [↓MD, ↓actH, ↓builtinH, ↓builtinG, ↓builtinFT, MU, MB, MC, TT, Nat.reduceEqDiff, Nat.reduceLT, Nat.reduceLeDiff, Nat.reduceAdd, Nat.reduceMul, Nat.reduceSub, Int.reduceToNat, reduceCtorEq, Try.f51]
            refine stIf hy_20 (fun hb_21 hy_20 => ?_) (fun hb_21 hy_20 => ?_)
            · try simp only [↓MD, ↓actH, ↓builtinH, ↓builtinG, ↓builtinFT, MU, MB, MC, TT, Nat.reduceEqDiff, Nat.reduceLT, Nat.reduceLeDiff, Nat.reduceAdd, Nat.reduceMul, Nat.reduceSub, Int.reduceToNat, reduceCtorEq, Try.f51, hb_21]
              obtain rfl := Option.some.inj hy_20
              exact cutT_mk (it_1.Raw == 0) rfl (weak_norm (ks := [1, 60]) (π := [0]) (fuel := 9) (by simp only [ML, Nat.reduceEqDiff, Nat.reduceLT, Nat.reduceLeDiff, Nat.reduceAdd, Nat.reduceMul, Nat.reduceSub, Int.reduceToNat, reduceCtorEq, TL, TT]))
            · try simp only [↓MD, ↓actH, ↓builtinH, ↓builtinG, ↓builtinFT, MU, MB, MC, TT, Nat.reduceEqDiff, Nat.reduceLT, Nat.reduceLeDiff, Nat.reduceAdd, Nat.reduceMul, Nat.reduceSub, Int.reduceToNat, reduceCtorEq, Try.f51, hb_21]
              obtain rfl := Option.some.inj hy_20
              exact cutT_mk false rfl (weak_norm (ks := [1, 60]) (π := [0]) (fuel := 9) (by simp only [ML, Nat.reduceEqDiff, Nat.reduceLT, Nat.reduceLeDiff, Nat.reduceAdd, Nat.reduceMul, Nat.reduceSub, Int.reduceToNat, reduceCtorEq, TL, TT]))
          · rintro v_18 hp
            replace hp := hp.symm; subst hp
            try dsimp only at hy_9
            try simp only [↓MD, ↓actH, ↓builtinH, ↓builtinG, ↓builtinFT, MU, MB, MC, TT, Nat.reduceEqDiff, Nat.reduceLT, Nat.reduceLeDiff, Nat.reduceAdd, Nat.reduceMul, Nat.reduceSub, Int.reduceToNat, reduceCtorEq, Try.f51]
            refine stIf hy_9 (fun hb_22 hy_9 => ?_) (fun hb_22 hy_9 => ?_)
            · obtain ⟨y_23, hy_23, hy_9⟩ := bS hy_9
              try simp only [↓MD, ↓actH, ↓builtinH, ↓builtinG, ↓builtinFT, MU, MB, MC, TT, Nat.reduceEqDiff, Nat.reduceLT, Nat.reduceLeDiff, Nat.reduceAdd, Nat.reduceMul, Nat.reduceSub, Int.reduceToNat, reduceCtorEq, Try.f51]
              refine callG [] 9 rfl (by simp only [ML, TT, Nat.reduceEqDiff, Nat.reduceLT, Nat.reduceLeDiff, Nat.reduceAdd, Nat.reduceMul, Nat.reduceSub, Int.reduceToNat, reduceCtorEq, TL]) (by simp only [ML, TT, Nat.reduceEqDiff, Nat.reduceLT, Nat.reduceLeDiff, Nat.reduceAdd, Nat.reduceMul, Nat.reduceSub, Int.reduceToNat, reduceCtorEq, TL]) rfl (c_spec_l04Num hy_23) (by simp only [ML, TL, Nat.reduceEqDiff, Nat.reduceLT, Nat.reduceLeDiff, Nat.reduceAdd, Nat.reduceMul, Nat.reduceSub, Int.reduceToNat, reduceCtorEq]) ?_
              intro rd b
              obtain rfl := Option.some.inj hy_9
              try dsimp only at h
              try simp only [↓MD, ↓actH, ↓builtinH, ↓builtinG, ↓builtinFT, MU, MB, MC, TT, Nat.reduceEqDiff, Nat.reduceLT, Nat.reduceLeDiff, Nat.reduceAdd, Nat.reduceMul, Nat.reduceSub, Int.reduceToNat, reduceCtorEq, Try.f51]
              obtain rfl := Option.some.inj h
              refine endT_of ?_ ⟨rfl, rfl⟩
              exact (weak_norm (ks := [0]) (π := [1]) (fuel := 9) (by simp only [ML, Nat.reduceEqDiff, Nat.reduceLT, Nat.reduceLeDiff, Nat.reduceAdd, Nat.reduceMul, Nat.reduceSub, Int.reduceToNat, reduceCtorEq, TL, TT]))
            · try simp only [↓MD, ↓actH, ↓builtinH, ↓builtinG, ↓builtinFT, MU, MB, MC, TT, Nat.reduceEqDiff, Nat.reduceLT, Nat.reduceLeDiff, Nat.reduceAdd, Nat.reduceMul, Nat.reduceSub, Int.reduceToNat, reduceCtorEq, Try.f51]
              obtain rfl := Option.some.inj hy_9
              exact cutT_mk () (by trivial) (weak_norm (ks := []) (π := []) (fuel := 9) (by simp only [ML, Nat.reduceEqDiff, Nat.reduceLT, Nat.reduceLeDiff, Nat.reduceAdd, Nat.reduceMul, Nat.reduceSub, Int.reduceToNat, reduceCtorEq, TL, TT]))
        · try simp only [↓MD, ↓actH, ↓builtinH, ↓builtinG, ↓builtinFT, MU, MB, MC, TT, Nat.reduceEqDiff, Nat.reduceLT, Nat.reduceLeDiff, Nat.reduceAdd, Nat.reduceMul, Nat.reduceSub, Int.reduceToNat, reduceCtorEq, Try.f51]
          refine stIf hy_9 (fun hb_24 hy_9 => ?_) (fun hb_24 hy_9 => ?_)
          · try simp only [↓MD, ↓actH, ↓builtinH, ↓builtinG, ↓builtinFT, MU, MB, MC, TT, Nat.reduceEqDiff, Nat.reduceLT, Nat.reduceLeDiff, Nat.reduceAdd, Nat.reduceMul, Nat.reduceSub, Int.reduceToNat, reduceCtorEq, Try.f51]
            obtain ⟨y_26, hy_27, hy_9⟩ := bS hy_9
            refine seqK TryT_eq (fun p : Bool => ⟨[(1, .pv (.one (.ptr 0 0))), (75, .pv (.one (.bool p)))], [.live ⟨1, 5, [.int .i64 it_1.Kind, .str it_1.Name, .int .i32 it_1.N, .bool it_1.Hex, .int .u32 it_1.Raw]⟩]⟩) (fun v => y_26 = v) (by rfl) ?_ ?_
            · try simp only [↓MD, ↓actH, ↓builtinH, ↓builtinG, ↓builtinFT, MU, MB, MC, TT, Nat.reduceEqDiff, Nat.reduceLT, Nat.reduceLeDiff, Nat.reduceAdd, Nat.reduceMul, Nat.reduceSub, Int.reduceToNat, reduceCtorEq, Try.f51]
              refine stIf hy_27 (fun hb_28 hy_27 => ?_) (fun hb_28 hy_27 => ?_)
              · try simp only [↓MD, ↓actH, ↓builtinH, ↓builtinG, ↓builtinFT, MU, MB, MC, TT, Nat.reduceEqDiff, Nat.reduceLT, Nat.reduceLeDiff, Nat.reduceAdd, Nat.reduceMul, Nat.reduceSub, Int.reduceToNat, reduceCtorEq, Try.f51, hb_28]
                obtain rfl := Option.some.inj hy_27
                exact cutT_mk (it_1.Raw == 0) rfl (weak_norm (ks := [1, 75]) (π := [0]) (fuel := 9) (by simp only [ML, Nat.reduceEqDiff, Nat.reduceLT, Nat.reduceLeDiff, Nat.reduceAdd, Nat.reduceMul, Nat.reduceSub, Int.reduceToNat, reduceCtorEq, TL, TT]))
              · try simp only [↓MD, ↓actH, ↓builtinH, ↓builtinG, ↓builtinFT, MU, MB, MC, TT, Nat.reduceEqDiff, Nat.reduceLT, Nat.reduceLeDiff, Nat.reduceAdd, Nat.reduceMul, Nat.reduceSub, Int.reduceToNat, reduceCtorEq, Try.f51, hb_28]
                obtain rfl := Option.some.inj hy_27
                exact cutT_mk false rfl (weak_norm (ks := [1, 75]) (π := [0]) (fuel := 9) (by simp only [ML, Nat.reduceEqDiff, Nat.reduceLT, Nat.reduceLeDiff, Nat.reduceAdd, Nat.reduceMul, Nat.reduceSub, Int.reduceToNat, reduceCtorEq, TL, TT]))
            · rintro v_25 hp
              replace hp := hp.symm; subst hp
              try dsimp only at hy_9
              try simp only [↓MD, ↓actH, ↓builtinH, ↓builtinG, ↓builtinFT, MU, MB, MC, TT, Nat.reduceEqDiff, Nat.reduceLT, Nat.reduceLeDiff, Nat.reduceAdd, Nat.reduceMul, Nat.reduceSub, Int.reduceToNat, reduceCtorEq, Try.f51]
              refine stIf hy_9 (fun hb_29 hy_9 => ?_) (fun hb_29 hy_9 => ?_)
              · obtain ⟨y_30, hy_30, hy_9⟩ := bS hy_9
                try simp only [↓MD, ↓actH, ↓builtinH, ↓builtinG, ↓builtinFT, MU, MB, MC, TT, Nat.reduceEqDiff, Nat.reduceLT, Nat.reduceLeDiff, Nat.reduceAdd, Nat.reduceMul, Nat.reduceSub, Int.reduceToNat, reduceCtorEq, Try.f51]
                refine callG [] 9 rfl (by simp only [ML, TT, Nat.reduceEqDiff, Nat.reduceLT, Nat.reduceLeDiff, Nat.reduceAdd, Nat.reduceMul, Nat.reduceSub, Int.reduceToNat, reduceCtorEq, TL]) (by simp only [ML, TT, Nat.reduceEqDiff, Nat.reduceLT, Nat.reduceLeDiff, Nat.reduceAdd, Nat.reduceMul, Nat.reduceSub, Int.reduceToNat, reduceCtorEq, TL]) rfl (c_spec_l04Num hy_30) (by simp only [ML, TL, Nat.reduceEqDiff, Nat.reduceLT, Nat.reduceLeDiff, Nat.reduceAdd, Nat.reduceMul, Nat.reduceSub, Int.reduceToNat, reduceCtorEq]) ?_
                intro rd b
                obtain rfl := Option.some.inj hy_9
                try dsimp only at h
                try simp only [↓MD, ↓actH, ↓builtinH, ↓builtinG, ↓builtinFT, MU, MB, MC, TT, Nat.reduceEqDiff, Nat.reduceLT, Nat.reduceLeDiff, Nat.reduceAdd, Nat.reduceMul, Nat.reduceSub, Int.reduceToNat, reduceCtorEq, Try.f51]
                obtain rfl := Option.some.inj h
                refine endT_of ?_ ⟨rfl, rfl⟩
                exact (weak_norm (ks := [0]) (π := [1]) (fuel := 9) (by simp only [ML, Nat.reduceEqDiff, Nat.reduceLT, Nat.reduceLeDiff, Nat.reduceAdd, Nat.reduceMul, Nat.reduceSub, Int.reduceToNat, reduceCtorEq, TL, TT]))
              · try simp only [↓MD, ↓actH, ↓builtinH, ↓builtinG, ↓builtinFT, MU, MB, MC, TT, Nat.reduceEqDiff, Nat.reduceLT, Nat.reduceLeDiff, Nat.reduceAdd, Nat.reduceMul, Nat.reduceSub, Int.reduceToNat, reduceCtorEq, Try.f51]
                obtain rfl := Option.some.inj hy_9
                exact cutT_mk () (by trivial) (weak_norm (ks := []) (π := []) (fuel := 9) (by simp only [ML, Nat.reduceEqDiff, Nat.reduceLT, Nat.reduceLeDiff, Nat.reduceAdd, Nat.reduceMul, Nat.reduceSub, Int.reduceToNat, reduceCtorEq, TL, TT]))
          · try simp only [↓MD, ↓actH, ↓builtinH, ↓builtinG, ↓builtinFT, MU, MB, MC, TT, Nat.reduceEqDiff, Nat.reduceLT, Nat.reduceLeDiff, Nat.reduceAdd, Nat.reduceMul, Nat.reduceSub, Int.reduceToNat, reduceCtorEq, Try.f51]
            refine stIf hy_9 (fun hb_31 hy_9 => ?_) (fun hb_31 hy_9 => ?_)
            · obtain ⟨y_32, hy_32, hy_9⟩ := bS hy_9
              try simp only [↓MD, ↓actH, ↓builtinH, ↓builtinG, ↓builtinFT, MU, MB, MC, TT, Nat.reduceEqDiff, Nat.reduceLT, Nat.reduceLeDiff, Nat.reduceAdd, Nat.reduceMul, Nat.reduceSub, Int.reduceToNat, reduceCtorEq, Try.f51]
              refine callG [] 9 rfl (by simp only [ML, TT, Nat.reduceEqDiff, Nat.reduceLT, Nat.reduceLeDiff, Nat.reduceAdd, Nat.reduceMul, Nat.reduceSub, Int.reduceToNat, reduceCtorEq, TL]) (by simp only [ML, TT, Nat.reduceEqDiff, Nat.reduceLT, Nat.reduceLeDiff, Nat.reduceAdd, Nat.reduceMul, Nat.reduceSub, Int.reduceToNat, reduceCtorEq, TL]) rfl (c_spec_l04Word hy_32) (by simp only [ML, TL, Nat.reduceEqDiff, Nat.reduceLT, Nat.reduceLeDiff, Nat.reduceAdd, Nat.reduceMul, Nat.reduceSub, Int.reduceToNat, reduceCtorEq]) ?_
              intro rd b
              try simp only [↓MD, ↓actH, ↓builtinH, ↓builtinG, ↓builtinFT, MU, MB, MC, TT, Nat.reduceEqDiff, Nat.reduceLT, Nat.reduceLeDiff, Nat.reduceAdd, Nat.reduceMul, Nat.reduceSub, Int.reduceToNat, reduceCtorEq, Try.f51]
              obtain ⟨y_34, hy_35, hy_9⟩ := bS hy_9
              refine seqK TryT_eq (fun p : Bool => ⟨[(1, .pv (.one (.ptr 0 0))), (4, .pv (.one (.arr 1 0 y_32.length))), (98, .pv (.one (.bool p)))], [.live ⟨1, 5, [.int .i64 it_1.Kind, .str it_1.Name, .int .i32 it_1.N, .bool it_1.Hex, .int .u32 it_1.Raw]⟩, .live ⟨1, y_32.length, y_32.flatMap (eI .u32)⟩]⟩) (fun v => y_34 = v) (by rfl) ?_ ?_
              · try simp only [↓MD, ↓actH, ↓builtinH, ↓builtinG, ↓builtinFT, MU, MB, MC, TT, Nat.reduceEqDiff, Nat.reduceLT, Nat.reduceLeDiff, Nat.reduceAdd, Nat.reduceMul, Nat.reduceSub, Int.reduceToNat, reduceCtorEq, Try.f51]
                refine stIf hy_35 (fun hb_36 hy_35 => ?_) (fun hb_36 hy_35 => ?_)
                · try simp only [↓MD, ↓actH, ↓builtinH, ↓builtinG, ↓builtinFT, MU, MB, MC, TT, Nat.reduceEqDiff, Nat.reduceLT, Nat.reduceLeDiff, Nat.reduceAdd, Nat.reduceMul, Nat.reduceSub, Int.reduceToNat, reduceCtorEq, Try.f51, hb_36]
                  refine stIf hy_35 (fun hb_37 hy_35 => ?_) (fun hb_37 hy_35 => ?_)
                  · try simp only [↓MD, ↓actH, ↓builtinH, ↓builtinG, ↓builtinFT, MU, MB, MC, TT, Nat.reduceEqDiff, Nat.reduceLT, Nat.reduceLeDiff, Nat.reduceAdd, Nat.reduceMul, Nat.reduceSub, Int.reduceToNat, reduceCtorEq, Try.f51, hb_36, hb_37]
                    obtain rfl := Option.some.inj hy_35
                    exact cutT_mk (it_1.Raw == 0) rfl (weak_norm (ks := [1, 4, 98]) (π := [0, 1]) (fuel := 9) (by simp only [ML, Nat.reduceEqDiff, Nat.reduceLT, Nat.reduceLeDiff, Nat.reduceAdd, Nat.reduceMul, Nat.reduceSub, Int.reduceToNat, reduceCtorEq, TL, TT]))
                  · try simp only [↓MD, ↓actH, ↓builtinH, ↓builtinG, ↓builtinFT, MU, MB, MC, TT, Nat.reduceEqDiff, Nat.reduceLT, Nat.reduceLeDiff, Nat.reduceAdd, Nat.reduceMul, Nat.reduceSub, Int.reduceToNat, reduceCtorEq, Try.f51, hb_36, hb_37]
                    obtain rfl := Option.some.inj hy_35
                    exact cutT_mk false rfl (weak_norm (ks := [1, 4, 98]) (π := [0, 1]) (fuel := 9) (by simp only [ML, Nat.reduceEqDiff, Nat.reduceLT, Nat.reduceLeDiff, Nat.reduceAdd, Nat.reduceMul, Nat.reduceSub, Int.reduceToNat, reduceCtorEq, TL, TT]))
                · try simp only [↓MD, ↓actH, ↓builtinH, ↓builtinG, ↓builtinFT, MU, MB, MC, TT, Nat.reduceEqDiff, Nat.reduceLT, Nat.reduceLeDiff, Nat.reduceAdd, Nat.reduceMul, Nat.reduceSub, Int.reduceToNat, reduceCtorEq, Try.f51, hb_36]
                  obtain rfl := Option.some.inj hy_35
                  exact cutT_mk false rfl (weak_norm (ks := [1, 4, 98]) (π := [0, 1]) (fuel := 9) (by simp only [ML, Nat.reduceEqDiff, Nat.reduceLT, Nat.reduceLeDiff, Nat.reduceAdd, Nat.reduceMul, Nat.reduceSub, Int.reduceToNat, reduceCtorEq, TL, TT]))
              · rintro v_33 hp
                replace hp := hp.symm; subst hp
                try dsimp only at hy_9
                try simp only [↓MD, ↓actH, ↓builtinH, ↓builtinG, ↓builtinFT, MU, MB, MC, TT, Nat.reduceEqDiff, Nat.reduceLT, Nat.reduceLeDiff, Nat.reduceAdd, Nat.reduceMul, Nat.reduceSub, Int.reduceToNat, reduceCtorEq, Try.f51]
                refine stIf hy_9 (fun hb_38 hy_9 => ?_) (fun hb_38 hy_9 => ?_)
                · obtain ⟨v_39, hv_39, hy_9⟩ := bS hy_9
                  obtain rfl := Option.some.inj hy_9
                  try dsimp only at h
                  have f3 := (show bldN 1 = 1 from rfl)
                  have f4 := (show bldC [.int .u32 (IntKind.wrap .u32 it_1.N)] = [IntKind.wrap .u32 it_1.N].flatMap (eI .u32) from rfl)
                  have f5 := (fWin (eI_ok .u32) (n := 1) (xs := [IntKind.wrap .u32 it_1.N]) (by simp))
                  have f6 := (fApp hv_39 (n := y_32.length) (by simp) (m := 1) (by simp [bsOf]))
                  have f7 := (fWin (eI_ok .u32) (n := y_32.length) (xs := y_32) (by simp))
                  have f8 := (fCat (e := (eI .u32)) (ns := [IntKind.wrap .u32 it_1.N].flatMap (eI .u32)) hv_39 rfl)
                  try simp only [↓MD, ↓actH, ↓builtinH, ↓builtinG, ↓builtinFT, MU, MB, MC, TT, Nat.reduceEqDiff, Nat.reduceLT, Nat.reduceLeDiff, Nat.reduceAdd, Nat.reduceMul, Nat.reduceSub, Int.reduceToNat, reduceCtorEq, Try.f51, f3, f4, f5, f6, f7, f8]
                  obtain rfl := Option.some.inj h
                  refine endT_of ?_ ⟨rfl, rfl⟩
                  exact (weak_norm (ks := [0]) (π := [3]) (fuel := 9) (by simp only [ML, Nat.reduceEqDiff, Nat.reduceLT, Nat.reduceLeDiff, Nat.reduceAdd, Nat.reduceMul, Nat.reduceSub, Int.reduceToNat, reduceCtorEq, TL, TT]))
                · try simp only [↓MD, ↓actH, ↓builtinH, ↓builtinG, ↓builtinFT, MU, MB, MC, TT, Nat.reduceEqDiff, Nat.reduceLT, Nat.reduceLeDiff, Nat.reduceAdd, Nat.reduceMul, Nat.reduceSub, Int.reduceToNat, reduceCtorEq, Try.f51]
                  obtain rfl := Option.some.inj hy_9
                  exact cutT_mk () (by trivial) (weak_norm (ks := []) (π := []) (fuel := 9) (by simp only [ML, Nat.reduceEqDiff, Nat.reduceLT, Nat.reduceLeDiff, Nat.reduceAdd, Nat.reduceMul, Nat.reduceSub, Int.reduceToNat, reduceCtorEq, TL, TT]))
            · obtain ⟨y_40, hy_40, hy_9⟩ := bS hy_9
              try simp only [↓MD, ↓actH, ↓builtinH, ↓builtinG, ↓builtinFT, MU, MB, MC, TT, Nat.reduceEqDiff, Nat.reduceLT, Nat.reduceLeDiff, Nat.reduceAdd, Nat.reduceMul, Nat.reduceSub, Int.reduceToNat, reduceCtorEq, Try.f51]
              refine callG [] 9 rfl (by simp only [ML, TT, Nat.reduceEqDiff, Nat.reduceLT, Nat.reduceLeDiff, Nat.reduceAdd, Nat.reduceMul, Nat.reduceSub, Int.reduceToNat, reduceCtorEq, TL]) (by simp only [ML, TT, Nat.reduceEqDiff, Nat.reduceLT, Nat.reduceLeDiff, Nat.reduceAdd, Nat.reduceMul, Nat.reduceSub, Int.reduceToNat, reduceCtorEq, TL]) rfl (c_spec_l04Tag hy_40) (by simp only [ML, TL, Nat.reduceEqDiff, Nat.reduceLT, Nat.reduceLeDiff, Nat.reduceAdd, Nat.reduceMul, Nat.reduceSub, Int.reduceToNat, reduceCtorEq]) ?_
              intro rd b
              try simp only [↓MD, ↓actH, ↓builtinH, ↓builtinG, ↓builtinFT, MU, MB, MC, TT, Nat.reduceEqDiff, Nat.reduceLT, Nat.reduceLeDiff, Nat.reduceAdd, Nat.reduceMul, Nat.reduceSub, Int.reduceToNat, reduceCtorEq, Try.f51]
              obtain ⟨y_42, hy_43, hy_9⟩ := bS hy_9
              refine seqK TryT_eq (fun p : Bool => ⟨[(1, .pv (.one (.ptr 0 0))), (5, .pv (.one (.int .u32 y_40))), (28, .pv (.one (.bool p)))], [.live ⟨1, 5, [.int .i64 it_1.Kind, .str it_1.Name, .int .i32 it_1.N, .bool it_1.Hex, .int .u32 it_1.Raw]⟩]⟩) (fun v => y_42 = v) (by rfl) ?_ ?_
              · try simp only [↓MD, ↓actH, ↓builtinH, ↓builtinG, ↓builtinFT, MU, MB, MC, TT, Nat.reduceEqDiff, Nat.reduceLT, Nat.reduceLeDiff, Nat.reduceAdd, Nat.reduceMul, Nat.reduceSub, Int.reduceToNat, reduceCtorEq, Try.f51]
                refine stIf hy_43 (fun hb_44 hy_43 => ?_) (fun hb_44 hy_43 => ?_)
                · try simp only [↓MD, ↓actH, ↓builtinH, ↓builtinG, ↓builtinFT, MU, MB, MC, TT, Nat.reduceEqDiff, Nat.reduceLT, Nat.reduceLeDiff, Nat.reduceAdd, Nat.reduceMul, Nat.reduceSub, Int.reduceToNat, reduceCtorEq, Try.f51, hb_44]
                  obtain rfl := Option.some.inj hy_43
                  exact cutT_mk plain_2 rfl (weak_norm (ks := [1, 5, 28]) (π := [0]) (fuel := 9) (by simp only [ML, Nat.reduceEqDiff, Nat.reduceLT, Nat.reduceLeDiff, Nat.reduceAdd, Nat.reduceMul, Nat.reduceSub, Int.reduceToNat, reduceCtorEq, TL, TT]))
                · try simp only [↓MD, ↓actH, ↓builtinH, ↓builtinG, ↓builtinFT, MU, MB, MC, TT, Nat.reduceEqDiff, Nat.reduceLT, Nat.reduceLeDiff, Nat.reduceAdd, Nat.reduceMul, Nat.reduceSub, Int.reduceToNat, reduceCtorEq, Try.f51, hb_44]
                  obtain rfl := Option.some.inj hy_43
                  exact cutT_mk false rfl (weak_norm (ks := [1, 5, 28]) (π := [0]) (fuel := 9) (by simp only [ML, Nat.reduceEqDiff, Nat.reduceLT, Nat.reduceLeDiff, Nat.reduceAdd, Nat.reduceMul, Nat.reduceSub, Int.reduceToNat, reduceCtorEq, TL, TT]))
              · rintro v_41 hp
                replace hp := hp.symm; subst hp
                try dsimp only at hy_9
                try simp only [↓MD, ↓actH, ↓builtinH, ↓builtinG, ↓builtinFT, MU, MB, MC, TT, Nat.reduceEqDiff, Nat.reduceLT, Nat.reduceLeDiff, Nat.reduceAdd, Nat.reduceMul, Nat.reduceSub, Int.reduceToNat, reduceCtorEq, Try.f51]
                refine stIf hy_9 (fun hb_45 hy_9 => ?_) (fun hb_45 hy_9 => ?_)
                · obtain ⟨y_46, hy_46, hy_9⟩ := bS hy_9
                  try simp only [↓MD, ↓actH, ↓builtinH, ↓builtinG, ↓builtinFT, MU, MB, MC, TT, Nat.reduceEqDiff, Nat.reduceLT, Nat.reduceLeDiff, Nat.reduceAdd, Nat.reduceMul, Nat.reduceSub, Int.reduceToNat, reduceCtorEq, Try.f51]
                  refine callG [] 9 rfl (by simp only [ML, TT, Nat.reduceEqDiff, Nat.reduceLT, Nat.reduceLeDiff, Nat.reduceAdd, Nat.reduceMul, Nat.reduceSub, Int.reduceToNat, reduceCtorEq, TL]) (by simp only [ML, TT, Nat.reduceEqDiff, Nat.reduceLT, Nat.reduceLeDiff, Nat.reduceAdd, Nat.reduceMul, Nat.reduceSub, Int.reduceToNat, reduceCtorEq, TL]) rfl (c_spec_l04Word hy_46) (by simp only [ML, TL, Nat.reduceEqDiff, Nat.reduceLT, Nat.reduceLeDiff, Nat.reduceAdd, Nat.reduceMul, Nat.reduceSub, Int.reduceToNat, reduceCtorEq]) ?_
                  intro rd b
                  obtain rfl := Option.some.inj hy_9
                  try dsimp only at h
                  try simp only [↓MD, ↓actH, ↓builtinH, ↓builtinG, ↓builtinFT, MU, MB, MC, TT, Nat.reduceEqDiff, Nat.reduceLT, Nat.reduceLeDiff, Nat.reduceAdd, Nat.reduceMul, Nat.reduceSub, Int.reduceToNat, reduceCtorEq, Try.f51]
                  obtain rfl := Option.some.inj h
                  refine endT_of ?_ ⟨rfl, rfl⟩
                  exact (weak_norm (ks := [0]) (π := [1]) (fuel := 9) (by simp only [ML, Nat.reduceEqDiff, Nat.reduceLT, Nat.reduceLeDiff, Nat.reduceAdd, Nat.reduceMul, Nat.reduceSub, Int.reduceToNat, reduceCtorEq, TL, TT]))
                · try simp only [↓MD, ↓actH, ↓builtinH, ↓builtinG, ↓builtinFT, MU, MB, MC, TT, Nat.reduceEqDiff, Nat.reduceLT, Nat.reduceLeDiff, Nat.reduceAdd, Nat.reduceMul, Nat.reduceSub, Int.reduceToNat, reduceCtorEq, Try.f51]
                  obtain rfl := Option.some.inj hy_9
                  exact cutT_mk () (by trivial) (weak_norm (ks := []) (π := []) (fuel := 9) (by simp only [ML, Nat.reduceEqDiff, Nat.reduceLT, Nat.reduceLeDiff, Nat.reduceAdd, Nat.reduceMul, Nat.reduceSub, Int.reduceToNat, reduceCtorEq, TL, TT]))
    · rintro _ hp
      replace hp := hp.symm; subst hp
      try dsimp only at h
      have f9 := (show bldN 0 = 0 from rfl)
      have f10 := (show bldC [] = ([] : List Int).flatMap (eI .u32) from rfl)
      try simp only [↓MD, ↓actH, ↓builtinH, ↓builtinG, ↓builtinFT, MU, MB, MC, TT, Nat.reduceEqDiff, Nat.reduceLT, Nat.reduceLeDiff, Nat.reduceAdd, Nat.reduceMul, Nat.reduceSub, Int.reduceToNat, reduceCtorEq, Try.f51, f9, f10]
      obtain rfl := Option.some.inj h
      refine endT_of ?_ ⟨rfl, rfl⟩
      exact (weak_norm (ks := [0]) (π := [0]) (fuel := 9) (by simp only [ML, Nat.reduceEqDiff, Nat.reduceLT, Nat.reduceLeDiff, Nat.reduceAdd, Nat.reduceMul, Nat.reduceSub, Int.reduceToNat, reduceCtorEq, TL, TT, fWin (eI_ok .u32) (n := 0) (xs := ([] : List Int)) (by simp)]))
theorem c_spec_l01Word {c_1 : GL01Cur} {r : Int × GL01Cur} (h : g_spec_l01Word c_1 = some r) : Ans Try.prog 52 [.one (.ptr 0 0)] [.live ⟨1, 3, [.imm 1 c_1.b.length (c_1.b.flatMap (eI .u8)), .int .i64 c_1.i, .int .i64 c_1.h]⟩] fun v h1 => v = .pv (.one (.int .u32 r.1)) ∧ h1 = [.live ⟨1, 3, [.imm 1 r.2.b.length (r.2.b.flatMap (eI .u8)), .int .i64 r.2.i, .int .i64 r.2.h]⟩] := by
  refine ansK (P := fun _ => Try.prog) TryT_eq (fn := Try.f52) Try.func52 rfl ⟨by kernel_rfl, rfl, rfl, by kernel_rfl⟩ (by simp) (Weak.refl _ _) ?_
  rw [g_spec_l01Word] at h
  try simp only [↓MD, ↓actH, ↓builtinH, ↓builtinG, ↓builtinFT, MU, MB, MC, TT, Nat.reduceEqDiff, Nat.reduceLT, Nat.reduceLeDiff, Nat.reduceAdd, Nat.reduceMul, Nat.reduceSub, Int.reduceToNat, reduceCtorEq, Try.f52]
  refine seqN TryT_eq rfl ?_
  obtain ⟨y_2, hy_2, h⟩ := bS h
  try simp only [↓MD, ↓actH, ↓builtinH, ↓builtinG, ↓builtinFT, MU, MB, MC, TT, Nat.reduceEqDiff, Nat.reduceLT, Nat.reduceLeDiff, Nat.reduceAdd, Nat.reduceMul, Nat.reduceSub, Int.reduceToNat, reduceCtorEq, Try.f52]
  refine callE [0] 9 rfl rfl rfl rfl (c_spec_l01Below hy_2) rfl ?_
  try simp only [↓MD, ↓actH, ↓builtinH, ↓builtinG, ↓builtinFT, MU, MB, MC, TT, Nat.reduceEqDiff, Nat.reduceLT, Nat.reduceLeDiff, Nat.reduceAdd, Nat.reduceMul, Nat.reduceSub, Int.reduceToNat, reduceCtorEq, Try.f52]
  refine stIf h (fun hb_3 h => ?_) (fun hb_3 h => ?_)
  · obtain ⟨y_4, hy_4, h⟩ := bS h
    have f1 := (show bldN 11 = 11 from rfl)
    have f2 := (show bldC [.int .i64 0, .int .i64 1, .int .i64 2, .int .i64 31, .int .i64 32, .int .i64 255, .int .i64 256, .int .i64 2147483647, .int .i64 2147483648, .int .i64 4294967295, .int .i64 4294967294] = [0, 1, 2, 31, 32, 255, 256, 2147483647, 2147483648, 4294967295, 4294967294].flatMap (eI .i64) from rfl)
    try simp only [↓MD, ↓actH, ↓builtinH, ↓builtinG, ↓builtinFT, MU, MB, MC, TT, Nat.reduceEqDiff, Nat.reduceLT, Nat.reduceLeDiff, Nat.reduceAdd, Nat.reduceMul, Nat.reduceSub, Int.reduceToNat, reduceCtorEq, Try.f52, f1, f2]
    refine callGz [1] [0, 1] [0] 9 rfl rfl (by simp only [ML, MZ, TT, Nat.reduceEqDiff, Nat.reduceLT, Nat.reduceLeDiff, Nat.reduceAdd, Nat.reduceMul, Nat.reduceSub, Int.reduceToNat, reduceCtorEq, TL, fWin (eI_ok .i64) (n := 11) (xs := [0, 1, 2, 31, 32, 255, 256, 2147483647, 2147483648, 4294967295, 4294967294]) (by simp)]) (by simp only [ML, MZ, TT, Nat.reduceEqDiff, Nat.reduceLT, Nat.reduceLeDiff, Nat.reduceAdd, Nat.reduceMul, Nat.reduceSub, Int.reduceToNat, reduceCtorEq, TL, fWin (eI_ok .i64) (n := 11) (xs := [0, 1, 2, 31, 32, 255, 256, 2147483647, 2147483648, 4294967295, 4294967294]) (by simp)]) rfl rfl (c_spec_l01PickInt hy_4) (by simp only [ML, TL, Nat.reduceEqDiff, Nat.reduceLT, Nat.reduceLeDiff, Nat.reduceAdd, Nat.reduceMul, Nat.reduceSub, Int.reduceToNat, reduceCtorEq]) ?_
    intro rd
    try simp only [↓MD, ↓actH, ↓builtinH, ↓builtinG, ↓builtinFT, MU, MB, MC, TT, Nat.reduceEqDiff, Nat.reduceLT, Nat.reduceLeDiff, Nat.reduceAdd, Nat.reduceMul, Nat.reduceSub, Int.reduceToNat, reduceCtorEq, Try.f52, f1, f2]
    obtain rfl := Option.some.inj h
    refine endT_of ?_ ⟨rfl, rfl⟩
    exact (weak_norm (ks := [0]) (π := [0]) (fuel := 9) (by simp only [ML, Nat.reduceEqDiff, Nat.reduceLT, Nat.reduceLeDiff, Nat.reduceAdd, Nat.reduceMul, Nat.reduceSub, Int.reduceToNat, reduceCtorEq, TL, TT]))
  · try simp only [↓MD, ↓actH, ↓builtinH, ↓builtinG, ↓builtinFT, MU, MB, MC, TT, Nat.reduceEqDiff, Nat.reduceLT, Nat.reduceLeDiff, Nat.reduceAdd, Nat.reduceMul, Nat.reduceSub, Int.reduceToNat, reduceCtorEq, Try.f52]
    refine stIf h (fun hb_5 h => ?_) (fun hb_5 h => ?_)
    · obtain ⟨y_6, hy_6, h⟩ := bS h
      try simp only [↓MD, ↓actH, ↓builtinH, ↓builtinG, ↓builtinFT, MU, MB, MC, TT, Nat.reduceEqDiff, Nat.reduceLT, Nat.reduceLeDiff, Nat.reduceAdd, Nat.reduceMul, Nat.reduceSub, Int.reduceToNat, reduceCtorEq, Try.f52]
      refine callE [0] 9 rfl rfl rfl rfl (c_spec_l01Below hy_6) rfl ?_
      try simp only [↓MD, ↓actH, ↓builtinH, ↓builtinG, ↓builtinFT, MU, MB, MC, TT, Nat.reduceEqDiff, Nat.reduceLT, Nat.reduceLeDiff, Nat.reduceAdd, Nat.reduceMul, Nat.reduceSub, Int.reduceToNat, reduceCtorEq, Try.f52]
      obtain rfl := Option.some.inj h
      refine endT_of ?_ ⟨rfl, rfl⟩
      exact (weak_norm (ks := [0]) (π := [0]) (fuel := 9) (by simp only [ML, Nat.reduceEqDiff, Nat.reduceLT, Nat.reduceLeDiff, Nat.reduceAdd, Nat.reduceMul, Nat.reduceSub, Int.reduceToNat, reduceCtorEq, TL, TT]))
    · obtain ⟨y_7, hy_7, h⟩ := bS h
      try simp only [↓MD, ↓actH, ↓builtinH, ↓builtinG, ↓builtinFT, MU, MB, MC, TT, Nat.reduceEqDiff, Nat.reduceLT, Nat.reduceLeDiff, Nat.reduceAdd, Nat.reduceMul, Nat.reduceSub, Int.reduceToNat, reduceCtorEq, Try.f52]
      refine callE [0] 9 rfl rfl rfl rfl (c_spec_l01Below hy_7) rfl ?_
      obtain ⟨y_8, hy_8, h⟩ := bS h
      try simp only [↓MD, ↓actH, ↓builtinH, ↓builtinG, ↓builtinFT, MU, MB, MC, TT, Nat.reduceEqDiff, Nat.reduceLT, Nat.reduceLeDiff, Nat.reduceAdd, Nat.reduceMul, Nat.reduceSub, Int.reduceToNat, reduceCtorEq, Try.f52]
      refine callE [0] 9 rfl rfl rfl rfl (c_spec_l01Below hy_8) rfl ?_
      try simp only [↓MD, ↓actH, ↓builtinH, ↓builtinG, ↓builtinFT, MU, MB, MC, TT, Nat.reduceEqDiff, Nat.reduceLT, Nat.reduceLeDiff, Nat.reduceAdd, Nat.reduceMul, Nat.reduceSub, Int.reduceToNat, reduceCtorEq, Try.f52]
      obtain rfl := Option.some.inj h
      refine endT_of ?_ ⟨rfl, rfl⟩
      exact (weak_norm (ks := [0]) (π := [0]) (fuel := 9) (by simp only [ML, Nat.reduceEqDiff, Nat.reduceLT, Nat.reduceLeDiff, Nat.reduceAdd, Nat.reduceMul, Nat.reduceSub, Int.reduceToNat, reduceCtorEq, TL, TT]))
theorem c_spec_l04Cells {c_1 : GL01Cur} {r : (List Int) × GL01Cur} (h : g_spec_l04Cells c_1 = some r) : Ans Try.prog 37 [.one (.ptr 0 0)] [.live ⟨1, 3, [.imm 1 c_1.b.length (c_1.b.flatMap (eI .u8)), .int .i64 c_1.i, .int .i64 c_1.h]⟩] fun v h1 => v = .pv (.one (.arr 1 0 r.1.length)) ∧ h1 = [.live ⟨1, 3, [.imm 1 r.2.b.length (r.2.b.flatMap (eI .u8)), .int .i64 r.2.i, .int .i64 r.2.h]⟩, .live ⟨1, r.1.length, r.1.flatMap (eI .u32)⟩] := by
  refine ansK (P := fun _ => Try.prog) TryT_eq (fn := Try.f37) Try.func37 rfl ⟨by kernel_rfl, rfl, rfl, by kernel_rfl⟩ (by simp) (Weak.refl _ _) ?_
  rw [g_spec_l04Cells] at h
  obtain ⟨y_2, hy_2, h⟩ := bS h
  have f1 := (show bldN 0 = 0 from rfl)
  have f2 := (show bldC [] = ([] : List Int).flatMap (eI .u32) from rfl)
  try simp only [↓MD, ↓actH, ↓builtinH, ↓builtinG, ↓builtinFT, MU, MB, MC, TT, Nat.reduceEqDiff, Nat.reduceLT, Nat.reduceLeDiff, Nat.reduceAdd, Nat.reduceMul, Nat.reduceSub, Int.reduceToNat, reduceCtorEq, Try.f37, f1, f2]
  refine callE [0] 9 rfl rfl rfl rfl (c_spec_l01Below hy_2) rfl ?_
  try simp only [↓MD, ↓actH, ↓builtinH, ↓builtinG, ↓builtinFT, MU, MB, MC, TT, Nat.reduceEqDiff, Nat.reduceLT, Nat.reduceLeDiff, Nat.reduceAdd, Nat.reduceMul, Nat.reduceSub, Int.reduceToNat, reduceCtorEq, Try.f37, f1, f2]
  obtain ⟨y_5, hy_6, h⟩ := bS h
  refine seqK TryT_eq (fun p : GL01Cur × (List Int) => ⟨[(0, .pv (.one (.ptr 0 0))), (3, .pv (.one (.arr 1 0 p.2.length)))], [.live ⟨1, 3, [.imm 1 p.1.b.length (p.1.b.flatMap (eI .u8)), .int .i64 p.1.i, .int .i64 p.1.h]⟩, .live ⟨1, p.2.length, p.2.flatMap (eI .u32)⟩]⟩) (fun v => y_5 = v) (by rfl) ?_ ?_
  · try simp only [↓MD, ↓actH, ↓builtinH, ↓builtinG, ↓builtinFT, MU, MB, MC, TT, Nat.reduceEqDiff, Nat.reduceLT, Nat.reduceLeDiff, Nat.reduceAdd, Nat.reduceMul, Nat.reduceSub, Int.reduceToNat, reduceCtorEq, Try.f37, f1, f2]
    obtain ⟨y_12, hy_13, hy_6⟩ := bS hy_6
    refine loopK TryT_eq (fun p : GL01Cur × (List Int) × Int => ⟨[(0, .pv (.one (.ptr 0 0))), (3, .pv (.one (.arr 1 0 p.2.1.length))), (4, .pv (.one (.int .i64 y_2.1))), (5, .pv (.one (.int .i64 p.2.2)))], [.live ⟨1, 3, [.imm 1 p.1.b.length (p.1.b.flatMap (eI .u8)), .int .i64 p.1.i, .int .i64 p.1.h]⟩, .live ⟨1, p.2.1.length, p.2.1.flatMap (eI .u32)⟩]⟩) (fun k p => g_spec_l04Cells_l0 y_2 k p.1 p.2.1 p.2.2 = some y_12) (by kernel_rfl) bigK (y_2.2, ([] : List Int), 0) (weak_norm (ks := [0, 3, 4, 5]) (π := [0, 1]) (fuel := 9) (by simp only [ML, Nat.reduceEqDiff, Nat.reduceLT, Nat.reduceLeDiff, Nat.reduceAdd, Nat.reduceMul, Nat.reduceSub, Int.reduceToNat, reduceCtorEq, TL, TT, fWin (eI_ok .u32) (n := 0) (xs := ([] : List Int)) (by simp)])) hy_13 (fun _ h => nomatch (show none = some _ from h)) ?_
    rintro k_14 ⟨c_7, out_8, i_9⟩ hk_15
    rw [g_spec_l04Cells_l0] at hk_15
    try dsimp only at hk_15
    try simp only [↓MD, ↓actH, ↓builtinH, ↓builtinG, ↓builtinFT, MU, MB, MC, TT, Nat.reduceEqDiff, Nat.reduceLT, Nat.reduceLeDiff, Nat.reduceAdd, Nat.reduceMul, Nat.reduceSub, Int.reduceToNat, reduceCtorEq, Try.f37]
    refine seqN TryT_eq rfl ?_
    try simp only [↓MD, ↓actH, ↓builtinH, ↓builtinG, ↓builtinFT, MU, MB, MC, TT, Nat.reduceEqDiff, Nat.reduceLT, Nat.reduceLeDiff, Nat.reduceAdd, Nat.reduceMul, Nat.reduceSub, Int.reduceToNat, reduceCtorEq, Try.f37]
    refine stIf hk_15 (fun hb_16 hk_15 => ?_) (fun hb_16 hk_15 => ?_)
    · try simp only [↓MD, ↓actH, ↓builtinH, ↓builtinG, ↓builtinFT, MU, MB, MC, TT, Nat.reduceEqDiff, Nat.reduceLT, Nat.reduceLeDiff, Nat.reduceAdd, Nat.reduceMul, Nat.reduceSub, Int.reduceToNat, reduceCtorEq, Try.f37]
      obtain ⟨y_19, hy_20, hk_15⟩ := bS hk_15
      refine seqK TryT_eq (fun p : GL01Cur × (List Int) => ⟨[(0, .pv (.one (.ptr 0 0))), (3, .pv (.one (.arr 1 0 p.2.length))), (4, .pv (.one (.int .i64 y_2.1))), (5, .pv (.one (.int .i64 i_9)))], [.live ⟨1, 3, [.imm 1 p.1.b.length (p.1.b.flatMap (eI .u8)), .int .i64 p.1.i, .int .i64 p.1.h]⟩, .live ⟨1, p.2.length, p.2.flatMap (eI .u32)⟩]⟩) (fun v => y_19 = v) (by rfl) ?_ ?_
      · obtain ⟨y_21, hy_21, hy_20⟩ := bS hy_20
        try simp only [↓MD, ↓actH, ↓builtinH, ↓builtinG, ↓builtinFT, MU, MB, MC, TT, Nat.reduceEqDiff, Nat.reduceLT, Nat.reduceLeDiff, Nat.reduceAdd, Nat.reduceMul, Nat.reduceSub, Int.reduceToNat, reduceCtorEq, Try.f37]
        refine callE [0] 9 rfl rfl rfl rfl (c_spec_l04Some hy_21) rfl ?_
        obtain ⟨y_22, hy_22, hy_20⟩ := bS hy_20
        try simp only [↓MD, ↓actH, ↓builtinH, ↓builtinG, ↓builtinFT, MU, MB, MC, TT, Nat.reduceEqDiff, Nat.reduceLT, Nat.reduceLeDiff, Nat.reduceAdd, Nat.reduceMul, Nat.reduceSub, Int.reduceToNat, reduceCtorEq, Try.f37]
        refine callG [] 9 rfl (by simp only [ML, TT, Nat.reduceEqDiff, Nat.reduceLT, Nat.reduceLeDiff, Nat.reduceAdd, Nat.reduceMul, Nat.reduceSub, Int.reduceToNat, reduceCtorEq, TL]) (by simp only [ML, TT, Nat.reduceEqDiff, Nat.reduceLT, Nat.reduceLeDiff, Nat.reduceAdd, Nat.reduceMul, Nat.reduceSub, Int.reduceToNat, reduceCtorEq, TL]) rfl (c_spec_CellsOf hy_22) (by simp only [ML, TL, Nat.reduceEqDiff, Nat.reduceLT, Nat.reduceLeDiff, Nat.reduceAdd, Nat.reduceMul, Nat.reduceSub, Int.reduceToNat, reduceCtorEq]) ?_
        intro rd b
        obtain ⟨v_23, hv_23, hy_20⟩ := bS hy_20
        obtain ⟨y_24, hy_24, hy_20⟩ := bS hy_20
        have f3 := (fWin (eI_ok .u32) (n := y_22.length) (xs := y_22) (by simp))
        have f4 := (fApp hv_23 (n := out_8.length) (by simp) (m := y_22.length) (by simp [bsOf]))
        have f5 := (fWin (eI_ok .u32) (n := out_8.length) (xs := out_8) (by simp))
        have f6 := (fCat (e := (eI .u32)) (ns := y_22.flatMap (eI .u32)) hv_23 rfl)
        try simp only [↓MD, ↓actH, ↓builtinH, ↓builtinG, ↓builtinFT, MU, MB, MC, TT, Nat.reduceEqDiff, Nat.reduceLT, Nat.reduceLeDiff, Nat.reduceAdd, Nat.reduceMul, Nat.reduceSub, Int.reduceToNat, reduceCtorEq, Try.f37, f3, f4, f5, f6]
        refine callE [0] 9 rfl rfl rfl rfl (c_spec_l01Below hy_24) rfl ?_
        try simp only [↓MD, ↓actH, ↓builtinH, ↓builtinG, ↓builtinFT, MU, MB, MC, TT, Nat.reduceEqDiff, Nat.reduceLT, Nat.reduceLeDiff, Nat.reduceAdd, Nat.reduceMul, Nat.reduceSub, Int.reduceToNat, reduceCtorEq, Try.f37, f3, f4, f5, f6]
        refine stIf hy_20 (fun hb_25 hy_20 => ?_) (fun hb_25 hy_20 => ?_)
        · obtain ⟨y_26, hy_26, hy_20⟩ := bS hy_20
          try simp only [↓MD, ↓actH, ↓builtinH, ↓builtinG, ↓builtinFT, MU, MB, MC, TT, Nat.reduceEqDiff, Nat.reduceLT, Nat.reduceLeDiff, Nat.reduceAdd, Nat.reduceMul, Nat.reduceSub, Int.reduceToNat, reduceCtorEq, Try.f37, f3, f4, f5, f6]
          refine callE [0] 9 rfl rfl rfl rfl (c_spec_l01Word hy_26) rfl ?_
          obtain ⟨v_27, hv_27, hy_20⟩ := bS hy_20
          have f7 := (show bldN 1 = 1 from rfl)
          have f8 := (show bldC [.int .u32 y_26.1] = [y_26.1].flatMap (eI .u32) from rfl)
          have f9 := (fWin (eI_ok .u32) (n := 1) (xs := [y_26.1]) (by simp))
          have f10 := (fApp hv_27 (n := v_23.length) (by simp) (m := 1) (by simp [bsOf]))
          have f11 := (fWin (eI_ok .u32) (n := v_23.length) (xs := v_23) (by simp))
          have f12 := (fCat (e := (eI .u32)) (ns := [y_26.1].flatMap (eI .u32)) hv_27 rfl)
          try simp only [↓MD, ↓actH, ↓builtinH, ↓builtinG, ↓builtinFT, MU, MB, MC, TT, Nat.reduceEqDiff, Nat.reduceLT, Nat.reduceLeDiff, Nat.reduceAdd, Nat.reduceMul, Nat.reduceSub, Int.reduceToNat, reduceCtorEq, Try.f37, f3, f4, f5, f6, f7, f8, f9, f10, f11, f12]
          obtain rfl := Option.some.inj hy_20
          exact cutT_mk (y_26.2, v_27) rfl (weak_norm (ks := [0, 3, 4, 5]) (π := [0, 5]) (fuel := 9) (by simp only [ML, Nat.reduceEqDiff, Nat.reduceLT, Nat.reduceLeDiff, Nat.reduceAdd, Nat.reduceMul, Nat.reduceSub, Int.reduceToNat, reduceCtorEq, TL, TT]))
        · try simp only [↓MD, ↓actH, ↓builtinH, ↓builtinG, ↓builtinFT, MU, MB, MC, TT, Nat.reduceEqDiff, Nat.reduceLT, Nat.reduceLeDiff, Nat.reduceAdd, Nat.reduceMul, Nat.reduceSub, Int.reduceToNat, reduceCtorEq, Try.f37, f3, f4, f5, f6]
          refine stIf hy_20 (fun hb_28 hy_20 => ?_) (fun hb_28 hy_20 => ?_)
          · obtain ⟨v_29, hv_29, hy_20⟩ := bS hy_20
            have f13 := (show bldN 1 = 1 from rfl)
            have f14 := (show bldC [.int .u32 0] = [0].flatMap (eI .u32) from rfl)
            have f15 := (fWin (eI_ok .u32) (n := 1) (xs := [0]) (by simp))
            have f16 := (fApp hv_29 (n := v_23.length) (by simp) (m := 1) (by simp [bsOf]))
            have f17 := (fWin (eI_ok .u32) (n := v_23.length) (xs := v_23) (by simp))
            have f18 := (fCat (e := (eI .u32)) (ns := [0].flatMap (eI .u32)) hv_29 rfl)
            try simp only [↓MD, ↓actH, ↓builtinH, ↓builtinG, ↓builtinFT, MU, MB, MC, TT, Nat.reduceEqDiff, Nat.reduceLT, Nat.reduceLeDiff, Nat.reduceAdd, Nat.reduceMul, Nat.reduceSub, Int.reduceToNat, reduceCtorEq, Try.f37, f3, f4, f5, f6, f13, f14, f15, f16, f17, f18]
            obtain rfl := Option.some.inj hy_20
            exact cutT_mk (y_24.2, v_29) rfl (weak_norm (ks := [0, 3, 4, 5]) (π := [0, 5]) (fuel := 9) (by simp only [ML, Nat.reduceEqDiff, Nat.reduceLT, Nat.reduceLeDiff, Nat.reduceAdd, Nat.reduceMul, Nat.reduceSub, Int.reduceToNat, reduceCtorEq, TL, TT]))
          · try simp only [↓MD, ↓actH, ↓builtinH, ↓builtinG, ↓builtinFT, MU, MB, MC, TT, Nat.reduceEqDiff, Nat.reduceLT, Nat.reduceLeDiff, Nat.reduceAdd, Nat.reduceMul, Nat.reduceSub, Int.reduceToNat, reduceCtorEq, Try.f37, f3, f4, f5, f6]
            refine stIf hy_20 (fun hb_30 hy_20 => ?_) (fun hb_30 hy_20 => ?_)
            · obtain ⟨y_31, hy_31, hy_20⟩ := bS hy_20
              try simp only [↓MD, ↓actH, ↓builtinH, ↓builtinG, ↓builtinFT, MU, MB, MC, TT, Nat.reduceEqDiff, Nat.reduceLT, Nat.reduceLeDiff, Nat.reduceAdd, Nat.reduceMul, Nat.reduceSub, Int.reduceToNat, reduceCtorEq, Try.f37, f3, f4, f5, f6]
              refine callE [0] 9 rfl rfl rfl rfl (c_spec_l01Below hy_31) rfl ?_
              obtain ⟨v_32, hv_32, hy_20⟩ := bS hy_20
              have f19 := (show bldN 1 = 1 from rfl)
              have f20 := (show bldC [.int .u32 (IntKind.wrap .u32 ((IntKind.wrap .u32 y_31.1) * 16))] = [IntKind.wrap .u32 ((IntKind.wrap .u32 y_31.1) * 16)].flatMap (eI .u32) from rfl)
              have f21 := (fWin (eI_ok .u32) (n := 1) (xs := [IntKind.wrap .u32 ((IntKind.wrap .u32 y_31.1) * 16)]) (by simp))
              have f22 := (fApp hv_32 (n := v_23.length) (by simp) (m := 1) (by simp [bsOf]))
              have f23 := (fWin (eI_ok .u32) (n := v_23.length) (xs := v_23) (by simp))
              have f24 := (fCat (e := (eI .u32)) (ns := [IntKind.wrap .u32 ((IntKind.wrap .u32 y_31.1) * 16)].flatMap (eI .u32)) hv_32 rfl)
              try simp only [↓MD, ↓actH, ↓builtinH, ↓builtinG, ↓builtinFT, MU, MB, MC, TT, Nat.reduceEqDiff, Nat.reduceLT, Nat.reduceLeDiff, Nat.reduceAdd, Nat.reduceMul, Nat.reduceSub, Int.reduceToNat, reduceCtorEq, Try.f37, f3, f4, f5, f6, f19, f20, f21, f22, f23, f24]
              obtain rfl := Option.some.inj hy_20
              exact cutT_mk (y_31.2, v_32) rfl (weak_norm (ks := [0, 3, 4, 5]) (π := [0, 5]) (fuel := 9) (by simp only [ML, Nat.reduceEqDiff, Nat.reduceLT, Nat.reduceLeDiff, Nat.reduceAdd, Nat.reduceMul, Nat.reduceSub, Int.reduceToNat, reduceCtorEq, TL, TT]))
            · try simp only [↓MD, ↓actH, ↓builtinH, ↓builtinG, ↓builtinFT, MU, MB, MC, TT, Nat.reduceEqDiff, Nat.reduceLT, Nat.reduceLeDiff, Nat.reduceAdd, Nat.reduceMul, Nat.reduceSub, Int.reduceToNat, reduceCtorEq, Try.f37, f3, f4, f5, f6]
              refine stIf hy_20 (fun hb_33 hy_20 => ?_) (fun hb_33 hy_20 => ?_)
              · obtain ⟨y_34, hy_34, hy_20⟩ := bS hy_20
                have f25 := (show bldN 5 = 5 from rfl)
                have f26 := (show bldC [.int .i64 2, .int .i64 18, .int .i64 5, .int .i64 34, .int .i64 12] = [2, 18, 5, 34, 12].flatMap (eI .i64) from rfl)
                try simp only [↓MD, ↓actH, ↓builtinH, ↓builtinG, ↓builtinFT, MU, MB, MC, TT, Nat.reduceEqDiff, Nat.reduceLT, Nat.reduceLeDiff, Nat.reduceAdd, Nat.reduceMul, Nat.reduceSub, Int.reduceToNat, reduceCtorEq, Try.f37, f3, f4, f5, f6, f25, f26]
                refine callGz [4] [0, 4] [0] 9 rfl rfl (by simp only [ML, MZ, TT, Nat.reduceEqDiff, Nat.reduceLT, Nat.reduceLeDiff, Nat.reduceAdd, Nat.reduceMul, Nat.reduceSub, Int.reduceToNat, reduceCtorEq, TL, fWin (eI_ok .i64) (n := 5) (xs := [2, 18, 5, 34, 12]) (by simp)]) (by simp only [ML, MZ, TT, Nat.reduceEqDiff, Nat.reduceLT, Nat.reduceLeDiff, Nat.reduceAdd, Nat.reduceMul, Nat.reduceSub, Int.reduceToNat, reduceCtorEq, TL, fWin (eI_ok .i64) (n := 5) (xs := [2, 18, 5, 34, 12]) (by simp)]) rfl rfl (c_spec_l01PickInt hy_34) (by simp only [ML, TL, Nat.reduceEqDiff, Nat.reduceLT, Nat.reduceLeDiff, Nat.reduceAdd, Nat.reduceMul, Nat.reduceSub, Int.reduceToNat, reduceCtorEq]) ?_
                intro rd
                obtain ⟨v_35, hv_35, hy_20⟩ := bS hy_20
                have f27 := (show bldN 1 = 1 from rfl)
                have f28 := (show bldC [.int .u32 (IntKind.wrap .u32 y_34.1)] = [IntKind.wrap .u32 y_34.1].flatMap (eI .u32) from rfl)
                have f29 := (fWin (eI_ok .u32) (n := 1) (xs := [IntKind.wrap .u32 y_34.1]) (by simp))
                have f30 := (fApp hv_35 (n := v_23.length) (by simp) (m := 1) (by simp [bsOf]))
                have f31 := (fWin (eI_ok .u32) (n := v_23.length) (xs := v_23) (by simp))
                have f32 := (fCat (e := (eI .u32)) (ns := [IntKind.wrap .u32 y_34.1].flatMap (eI .u32)) hv_35 rfl)
                try simp only [↓MD, ↓actH, ↓builtinH, ↓builtinG, ↓builtinFT, MU, MB, MC, TT, Nat.reduceEqDiff, Nat.reduceLT, Nat.reduceLeDiff, Nat.reduceAdd, Nat.reduceMul, Nat.reduceSub, Int.reduceToNat, reduceCtorEq, Try.f37, f3, f4, f5, f6, f25, f26, f27, f28, f29, f30, f31, f32]
                obtain rfl := Option.some.inj hy_20
                exact cutT_mk (y_34.2, v_35) rfl (weak_norm (ks := [0, 3, 4, 5]) (π := [0, 6]) (fuel := 9) (by simp only [ML, Nat.reduceEqDiff, Nat.reduceLT, Nat.reduceLeDiff, Nat.reduceAdd, Nat.reduceMul, Nat.reduceSub, Int.reduceToNat, reduceCtorEq, TL, TT]))
              · try simp only [↓MD, ↓actH, ↓builtinH, ↓builtinG, ↓builtinFT, MU, MB, MC, TT, Nat.reduceEqDiff, Nat.reduceLT, Nat.reduceLeDiff, Nat.reduceAdd, Nat.reduceMul, Nat.reduceSub, Int.reduceToNat, reduceCtorEq, Try.f37, f3, f4, f5, f6]
                obtain rfl := Option.some.inj hy_20
                exact cutT_mk (y_24.2, v_23) rfl (weak_norm (ks := [0, 3, 4, 5]) (π := [0, 3]) (fuel := 9) (by simp only [ML, Nat.reduceEqDiff, Nat.reduceLT, Nat.reduceLeDiff, Nat.reduceAdd, Nat.reduceMul, Nat.reduceSub, Int.reduceToNat, reduceCtorEq, TL, TT]))
      · rintro ⟨p_17, out_18⟩ hp
        replace hp := hp.symm; subst hp
        try dsimp only at hk_15
        try simp only [↓MD, ↓actH, ↓builtinH, ↓builtinG, ↓builtinFT, MU, MB, MC, TT, Nat.reduceEqDiff, Nat.reduceLT, Nat.reduceLeDiff, Nat.reduceAdd, Nat.reduceMul, Nat.reduceSub, Int.reduceToNat, reduceCtorEq, Try.f37]
        exact ⟨(p_17, out_18, IntKind.wrap .i64 (i_9 + 1)), hk_15, (weak_norm (ks := [0, 3, 4, 5]) (π := [0, 1]) (fuel := 9) (by simp only [ML, Nat.reduceEqDiff, Nat.reduceLT, Nat.reduceLeDiff, Nat.reduceAdd, Nat.reduceMul, Nat.reduceSub, Int.reduceToNat, reduceCtorEq, TL, TT]))⟩
    · obtain rfl := Option.some.inj hk_15
      try dsimp only at hy_6
      try simp only [↓MD, ↓actH, ↓builtinH, ↓builtinG, ↓builtinFT, MU, MB, MC, TT, Nat.reduceEqDiff, Nat.reduceLT, Nat.reduceLeDiff, Nat.reduceAdd, Nat.reduceMul, Nat.reduceSub, Int.reduceToNat, reduceCtorEq, Try.f37]
      obtain rfl := Option.some.inj hy_6
      exact cutT_mk (c_7, out_8) rfl (weak_norm (ks := [0, 3]) (π := [0, 1]) (fuel := 9) (by simp only [ML, Nat.reduceEqDiff, Nat.reduceLT, Nat.reduceLeDiff, Nat.reduceAdd, Nat.reduceMul, Nat.reduceSub, Int.reduceToNat, reduceCtorEq, TL, TT]))
  · rintro ⟨p_3, out_4⟩ hp
    replace hp := hp.symm; subst hp
    try dsimp only at h
    try simp only [↓MD, ↓actH, ↓builtinH, ↓builtinG, ↓builtinFT, MU, MB, MC, TT, Nat.reduceEqDiff, Nat.reduceLT, Nat.reduceLeDiff, Nat.reduceAdd, Nat.reduceMul, Nat.reduceSub, Int.reduceToNat, reduceCtorEq, Try.f37]
    refine seqN TryT_eq rfl ?_
    try simp only [↓MD, ↓actH, ↓builtinH, ↓builtinG, ↓builtinFT, MU, MB, MC, TT, Nat.reduceEqDiff, Nat.reduceLT, Nat.reduceLeDiff, Nat.reduceAdd, Nat.reduceMul, Nat.reduceSub, Int.reduceToNat, reduceCtorEq, Try.f37]
    obtain ⟨y_38, hy_39, h⟩ := bS h
    refine seqK TryT_eq (fun p : GL01Cur × Bool => ⟨[(3, .pv (.one (.arr 1 0 out_4.length))), (58, .pv (.one (.bool p.2)))], [.live ⟨1, 3, [.imm 1 p.1.b.length (p.1.b.flatMap (eI .u8)), .int .i64 p.1.i, .int .i64 p.1.h]⟩, .live ⟨1, out_4.length, out_4.flatMap (eI .u32)⟩]⟩) (fun v => y_38 = v) (by rfl) ?_ ?_
    · try simp only [↓MD, ↓actH, ↓builtinH, ↓builtinG, ↓builtinFT, MU, MB, MC, TT, Nat.reduceEqDiff, Nat.reduceLT, Nat.reduceLeDiff, Nat.reduceAdd, Nat.reduceMul, Nat.reduceSub, Int.reduceToNat, reduceCtorEq, Try.f37]
      refine stIf hy_39 (fun hb_40 hy_39 => ?_) (fun hb_40 hy_39 => ?_)
      · obtain ⟨y_41, hy_41, hy_39⟩ := bS hy_39
        try simp only [↓MD, ↓actH, ↓builtinH, ↓builtinG, ↓builtinFT, MU, MB, MC, TT, Nat.reduceEqDiff, Nat.reduceLT, Nat.reduceLeDiff, Nat.reduceAdd, Nat.reduceMul, Nat.reduceSub, Int.reduceToNat, reduceCtorEq, Try.f37, hb_40]
        refine callE [0] 9 rfl rfl rfl rfl (c_spec_l01Once hy_41) rfl ?_
        try simp only [↓MD, ↓actH, ↓builtinH, ↓builtinG, ↓builtinFT, MU, MB, MC, TT, Nat.reduceEqDiff, Nat.reduceLT, Nat.reduceLeDiff, Nat.reduceAdd, Nat.reduceMul, Nat.reduceSub, Int.reduceToNat, reduceCtorEq, Try.f37, hb_40]
        obtain rfl := Option.some.inj hy_39
        exact cutT_mk (y_41.2, (!y_41.1)) rfl (weak_norm (ks := [3, 58]) (π := [0, 1]) (fuel := 9) (by simp only [ML, Nat.reduceEqDiff, Nat.reduceLT, Nat.reduceLeDiff, Nat.reduceAdd, Nat.reduceMul, Nat.reduceSub, Int.reduceToNat, reduceCtorEq, TL, TT]))
      · try simp only [↓MD, ↓actH, ↓builtinH, ↓builtinG, ↓builtinFT, MU, MB, MC, TT, Nat.reduceEqDiff, Nat.reduceLT, Nat.reduceLeDiff, Nat.reduceAdd, Nat.reduceMul, Nat.reduceSub, Int.reduceToNat, reduceCtorEq, Try.f37, hb_40]
        obtain rfl := Option.some.inj hy_39
        exact cutT_mk (p_3, false) rfl (weak_norm (ks := [3, 58]) (π := [0, 1]) (fuel := 9) (by simp only [ML, Nat.reduceEqDiff, Nat.reduceLT, Nat.reduceLeDiff, Nat.reduceAdd, Nat.reduceMul, Nat.reduceSub, Int.reduceToNat, reduceCtorEq, TL, TT]))
    · rintro ⟨p_36, v_37⟩ hp
      replace hp := hp.symm; subst hp
      try dsimp only at h
      try simp only [↓MD, ↓actH, ↓builtinH, ↓builtinG, ↓builtinFT, MU, MB, MC, TT, Nat.reduceEqDiff, Nat.reduceLT, Nat.reduceLeDiff, Nat.reduceAdd, Nat.reduceMul, Nat.reduceSub, Int.reduceToNat, reduceCtorEq, Try.f37]
      refine stIf h (fun hb_42 h => ?_) (fun hb_42 h => ?_)
      · obtain ⟨v_43, hv_43, h⟩ := bS h
        have f33 := (fSubN hv_43 (n := out_4.length) (by simp))
        try simp only [↓MD, ↓actH, ↓builtinH, ↓builtinG, ↓builtinFT, MU, MB, MC, TT, Nat.reduceEqDiff, Nat.reduceLT, Nat.reduceLeDiff, Nat.reduceAdd, Nat.reduceMul, Nat.reduceSub, Int.reduceToNat, reduceCtorEq, Try.f37, f33]
        obtain rfl := Option.some.inj h
        refine endT_of ?_ ⟨rfl, rfl⟩
        exact ((weak_trim 1 0 v_43.length (b := ⟨_, _, _⟩) rfl (fLeW hv_43 (by simp) (by simp)) (by decide)).trans (weak_norm (ks := [0]) (π := [0, 1]) (fuel := 9) (by simp only [trS, trE, trH, trHS, trSV, trP, trC, ML, MB, and_self, Nat.reduceEqDiff, Nat.reduceLT, Nat.reduceLeDiff, Nat.reduceAdd, Nat.reduceMul, Nat.reduceSub, Int.reduceToNat, reduceCtorEq, TL, TT, fTrim0 (eI_ok .u32) hv_43 (lo := 0) (by simp)])))
      · try simp only [↓MD, ↓actH, ↓builtinH, ↓builtinG, ↓builtinFT, MU, MB, MC, TT, Nat.reduceEqDiff, Nat.reduceLT, Nat.reduceLeDiff, Nat.reduceAdd, Nat.reduceMul, Nat.reduceSub, Int.reduceToNat, reduceCtorEq, Try.f37]
        obtain rfl := Option.some.inj h
        refine endT_of ?_ ⟨rfl, rfl⟩
        exact (weak_norm (ks := [0]) (π := [0, 1]) (fuel := 9) (by simp only [ML, Nat.reduceEqDiff, Nat.reduceLT, Nat.reduceLeDiff, Nat.reduceAdd, Nat.reduceMul, Nat.reduceSub, Int.reduceToNat, reduceCtorEq, TL, TT]))
theorem c_spec_DrawOpenEd {code_1 : List Int} {r : (List Int)} (h : g_spec_DrawOpenEd code_1 = some r) : Ans Try.prog 16 [.one (.imm 1 code_1.length (code_1.flatMap (eI .u8)))] [] fun v h1 => v = .pv (.one (.arr 0 0 r.length)) ∧ h1 = [.live ⟨1, r.length, r.flatMap (eI .u32)⟩] := by
  refine ansK (P := fun _ => Try.prog) TryT_eq (fn := Try.f16) Try.func16 rfl ⟨by kernel_rfl, rfl, rfl, by kernel_rfl⟩ (by simp) (Weak.refl _ _) ?_
  rw [g_spec_DrawOpenEd] at h
  obtain ⟨y_2, hy_2, h⟩ := bS h
  try simp only [↓MD, ↓actH, ↓builtinH, ↓builtinG, ↓builtinFT, MU, MB, MC, TT, Nat.reduceEqDiff, Nat.reduceLT, Nat.reduceLeDiff, Nat.reduceAdd, Nat.reduceMul, Nat.reduceSub, Int.reduceToNat, reduceCtorEq, Try.f16]
  refine callE [] 9 rfl rfl rfl rfl (c_spec_l01New hy_2) rfl ?_
  obtain ⟨y_3, hy_3, h⟩ := bS h
  try simp only [↓MD, ↓actH, ↓builtinH, ↓builtinG, ↓builtinFT, MU, MB, MC, TT, Nat.reduceEqDiff, Nat.reduceLT, Nat.reduceLeDiff, Nat.reduceAdd, Nat.reduceMul, Nat.reduceSub, Int.reduceToNat, reduceCtorEq, Try.f16]
  refine callE [0] 9 rfl rfl rfl rfl (c_spec_l04Cells hy_3) rfl ?_
  try simp only [↓MD, ↓actH, ↓builtinH, ↓builtinG, ↓builtinFT, MU, MB, MC, TT, Nat.reduceEqDiff, Nat.reduceLT, Nat.reduceLeDiff, Nat.reduceAdd, Nat.reduceMul, Nat.reduceSub, Int.reduceToNat, reduceCtorEq, Try.f16]
  obtain rfl := Option.some.inj h
  refine endT_of ?_ ⟨rfl, rfl⟩
  exact (weak_norm (ks := [0]) (π := [1]) (fuel := 9) (by simp only [ML, Nat.reduceEqDiff, Nat.reduceLT, Nat.reduceLeDiff, Nat.reduceAdd, Nat.reduceMul, Nat.reduceSub, Int.reduceToNat, reduceCtorEq, TL, TT]))
theorem c_impl_within {n_1 : Int} {low_2 : Int} {high_3 : Int} {r : Bool} (h : g_impl_within n_1 low_2 high_3 = some r) : Ans Try.prog 86 [.one (.int .i64 n_1), .one (.int .i64 low_2), .one (.int .i64 high_3)] [] fun v h1 => v = .pv (.one (.bool r)) ∧ h1 = [] := by
  refine ansK (P := fun _ => Try.prog) TryT_eq (fn := Try.f86) Try.func86 rfl ⟨by kernel_rfl, rfl, rfl, by kernel_rfl⟩ (by simp) (Weak.refl _ _) ?_
  rw [g_impl_within] at h
  try simp only [↓MD, ↓actH, ↓builtinH, ↓builtinG, ↓builtinFT, MU, MB, MC, TT, Nat.reduceEqDiff, Nat.reduceLT, Nat.reduceLeDiff, Nat.reduceAdd, Nat.reduceMul, Nat.reduceSub, Int.reduceToNat, reduceCtorEq, Try.f86]
  refine seqN TryT_eq rfl ?_
  try simp only [↓MD, ↓actH, ↓builtinH, ↓builtinG, ↓builtinFT, MU, MB, MC, TT, Nat.reduceEqDiff, Nat.reduceLT, Nat.reduceLeDiff, Nat.reduceAdd, Nat.reduceMul, Nat.reduceSub, Int.reduceToNat, reduceCtorEq, Try.f86]
  refine stIf h (fun hb_4 h => ?_) (fun hb_4 h => ?_)
  · try simp only [↓MD, ↓actH, ↓builtinH, ↓builtinG, ↓builtinFT, MU, MB, MC, TT, Nat.reduceEqDiff, Nat.reduceLT, Nat.reduceLeDiff, Nat.reduceAdd, Nat.reduceMul, Nat.reduceSub, Int.reduceToNat, reduceCtorEq, Try.f86, hb_4]
    obtain rfl := Option.some.inj h
    refine endT_of ?_ ⟨rfl, rfl⟩
    exact (weak_norm (ks := [0]) (π := []) (fuel := 9) (by simp only [ML, Nat.reduceEqDiff, Nat.reduceLT, Nat.reduceLeDiff, Nat.reduceAdd, Nat.reduceMul, Nat.reduceSub, Int.reduceToNat, reduceCtorEq, TL, TT]))
  · try simp only [↓MD, ↓actH, ↓builtinH, ↓builtinG, ↓builtinFT, MU, MB, MC, TT, Nat.reduceEqDiff, Nat.reduceLT, Nat.reduceLeDiff, Nat.reduceAdd, Nat.reduceMul, Nat.reduceSub, Int.reduceToNat, reduceCtorEq, Try.f86, hb_4]
    obtain rfl := Option.some.inj h
    refine endT_of ?_ ⟨rfl, rfl⟩
    exact (weak_norm (ks := [0]) (π := []) (fuel := 9) (by simp only [ML, Nat.reduceEqDiff, Nat.reduceLT, Nat.reduceLeDiff, Nat.reduceAdd, Nat.reduceMul, Nat.reduceSub, Int.reduceToNat, reduceCtorEq, TL, TT]))
theorem c_impl_WidthOf {k_1 : Int} {r : Int} (h : g_impl_WidthOf k_1 = some r) : Ans Try.prog 87 [.one (.int .i64 k_1)] [] fun v h1 => v = .pv (.one (.int .i64 r)) ∧ h1 = [] := by
  refine ansK (P := fun _ => Try.prog) TryT_eq (fn := Try.f87) Try.func87 rfl ⟨by kernel_rfl, rfl, rfl, by kernel_rfl⟩ (by simp) (Weak.refl _ _) ?_
  rw [g_impl_WidthOf] at h
  try simp only [↓MD, ↓actH, ↓builtinH, ↓builtinG, ↓builtinFT, MU, MB, MC, TT, Nat.reduceEqDiff, Nat.reduceLT, Nat.reduceLeDiff, Nat.reduceAdd, Nat.reduceMul, Nat.reduceSub, Int.reduceToNat, reduceCtorEq, Try.f87]
  refine seqN TryT_eq rfl ?_
  obtain ⟨y_2, hy_2, h⟩ := bS h
  try simp only [↓MD, ↓actH, ↓builtinH, ↓builtinG, ↓builtinFT, MU, MB, MC, TT, Nat.reduceEqDiff, Nat.reduceLT, Nat.reduceLeDiff, Nat.reduceAdd, Nat.reduceMul, Nat.reduceSub, Int.reduceToNat, reduceCtorEq, Try.f87]
  refine callG [] 9 rfl (by simp only [ML, TT, Nat.reduceEqDiff, Nat.reduceLT, Nat.reduceLeDiff, Nat.reduceAdd, Nat.reduceMul, Nat.reduceSub, Int.reduceToNat, reduceCtorEq, TL]) (by simp only [ML, TT, Nat.reduceEqDiff, Nat.reduceLT, Nat.reduceLeDiff, Nat.reduceAdd, Nat.reduceMul, Nat.reduceSub, Int.reduceToNat, reduceCtorEq, TL]) rfl (c_impl_within hy_2) (by simp only [ML, TL, Nat.reduceEqDiff, Nat.reduceLT, Nat.reduceLeDiff, Nat.reduceAdd, Nat.reduceMul, Nat.reduceSub, Int.reduceToNat, reduceCtorEq]) ?_
  intro rd b
  try simp only [↓MD, ↓actH, ↓builtinH, ↓builtinG, ↓builtinFT, MU, MB, MC, TT, Nat.reduceEqDiff, Nat.reduceLT, Nat.reduceLeDiff, Nat.reduceAdd, Nat.reduceMul, Nat.reduceSub, Int.reduceToNat, reduceCtorEq, Try.f87]
  refine stIf h (fun hb_3 h => ?_) (fun hb_3 h => ?_)
  · try simp only [↓MD, ↓actH, ↓builtinH, ↓builtinG, ↓builtinFT, MU, MB, MC, TT, Nat.reduceEqDiff, Nat.reduceLT, Nat.reduceLeDiff, Nat.reduceAdd, Nat.reduceMul, Nat.reduceSub, Int.reduceToNat, reduceCtorEq, Try.f87]
    obtain rfl := Option.some.inj h
    refine endT_of ?_ ⟨rfl, rfl⟩
    exact (weak_norm (ks := [0]) (π := []) (fuel := 9) (by simp only [ML, Nat.reduceEqDiff, Nat.reduceLT, Nat.reduceLeDiff, Nat.reduceAdd, Nat.reduceMul, Nat.reduceSub, Int.reduceToNat, reduceCtorEq, TL, TT]))
  · obtain ⟨y_4, hy_4, h⟩ := bS h
    try simp only [↓MD, ↓actH, ↓builtinH, ↓builtinG, ↓builtinFT, MU, MB, MC, TT, Nat.reduceEqDiff, Nat.reduceLT, Nat.reduceLeDiff, Nat.reduceAdd, Nat.reduceMul, Nat.reduceSub, Int.reduceToNat, reduceCtorEq, Try.f87]
    refine callG [] 9 rfl (by simp only [ML, TT, Nat.reduceEqDiff, Nat.reduceLT, Nat.reduceLeDiff, Nat.reduceAdd, Nat.reduceMul, Nat.reduceSub, Int.reduceToNat, reduceCtorEq, TL]) (by simp only [ML, TT, Nat.reduceEqDiff, Nat.reduceLT, Nat.reduceLeDiff, Nat.reduceAdd, Nat.reduceMul, Nat.reduceSub, Int.reduceToNat, reduceCtorEq, TL]) rfl (c_impl_within hy_4) (by simp only [ML, TL, Nat.reduceEqDiff, Nat.reduceLT, Nat.reduceLeDiff, Nat.reduceAdd, Nat.reduceMul, Nat.reduceSub, Int.reduceToNat, reduceCtorEq]) ?_
    intro rd b
    try simp only [↓MD, ↓actH, ↓builtinH, ↓builtinG, ↓builtinFT, MU, MB, MC, TT, Nat.reduceEqDiff, Nat.reduceLT, Nat.reduceLeDiff, Nat.reduceAdd, Nat.reduceMul, Nat.reduceSub, Int.reduceToNat, reduceCtorEq, Try.f87]
    refine stIf h (fun hb_5 h => ?_) (fun hb_5 h => ?_)
    · try simp only [↓MD, ↓actH, ↓builtinH, ↓builtinG, ↓builtinFT, MU, MB, MC, TT, Nat.reduceEqDiff, Nat.reduceLT, Nat.reduceLeDiff, Nat.reduceAdd, Nat.reduceMul, Nat.reduceSub, Int.reduceToNat, reduceCtorEq, Try.f87]
      obtain rfl := Option.some.inj h
      refine endT_of ?_ ⟨rfl, rfl⟩
      exact (weak_norm (ks := [0]) (π := []) (fuel := 9) (by simp only [ML, Nat.reduceEqDiff, Nat.reduceLT, Nat.reduceLeDiff, Nat.reduceAdd, Nat.reduceMul, Nat.reduceSub, Int.reduceToNat, reduceCtorEq, TL, TT]))
    · obtain ⟨y_6, hy_6, h⟩ := bS h
      try simp only [↓MD, ↓actH, ↓builtinH, ↓builtinG, ↓builtinFT, MU, MB, MC, TT, Nat.reduceEqDiff, Nat.reduceLT, Nat.reduceLeDiff, Nat.reduceAdd, Nat.reduceMul, Nat.reduceSub, Int.reduceToNat, reduceCtorEq, Try.f87]
      refine callG [] 9 rfl (by simp only [ML, TT, Nat.reduceEqDiff, Nat.reduceLT, Nat.reduceLeDiff, Nat.reduceAdd, Nat.reduceMul, Nat.reduceSub, Int.reduceToNat, reduceCtorEq, TL]) (by simp only [ML, TT, Nat.reduceEqDiff, Nat.reduceLT, Nat.reduceLeDiff, Nat.reduceAdd, Nat.reduceMul, Nat.reduceSub, Int.reduceToNat, reduceCtorEq, TL]) rfl (c_impl_within hy_6) (by simp only [ML, TL, Nat.reduceEqDiff, Nat.reduceLT, Nat.reduceLeDiff, Nat.reduceAdd, Nat.reduceMul, Nat.reduceSub, Int.reduceToNat, reduceCtorEq]) ?_
      intro rd b
      try simp only [↓MD, ↓actH, ↓builtinH, ↓builtinG, ↓builtinFT, MU, MB, MC, TT, Nat.reduceEqDiff, Nat.reduceLT, Nat.reduceLeDiff, Nat.reduceAdd, Nat.reduceMul, Nat.reduceSub, Int.reduceToNat, reduceCtorEq, Try.f87]
      refine stIf h (fun hb_7 h => ?_) (fun hb_7 h => ?_)
      · try simp only [↓MD, ↓actH, ↓builtinH, ↓builtinG, ↓builtinFT, MU, MB, MC, TT, Nat.reduceEqDiff, Nat.reduceLT, Nat.reduceLeDiff, Nat.reduceAdd, Nat.reduceMul, Nat.reduceSub, Int.reduceToNat, reduceCtorEq, Try.f87]
        obtain rfl := Option.some.inj h
        refine endT_of ?_ ⟨rfl, rfl⟩
        exact (weak_norm (ks := [0]) (π := []) (fuel := 9) (by simp only [ML, Nat.reduceEqDiff, Nat.reduceLT, Nat.reduceLeDiff, Nat.reduceAdd, Nat.reduceMul, Nat.reduceSub, Int.reduceToNat, reduceCtorEq, TL, TT]))
      · try simp only [↓MD, ↓actH, ↓builtinH, ↓builtinG, ↓builtinFT, MU, MB, MC, TT, Nat.reduceEqDiff, Nat.reduceLT, Nat.reduceLeDiff, Nat.reduceAdd, Nat.reduceMul, Nat.reduceSub, Int.reduceToNat, reduceCtorEq, Try.f87]
        obtain rfl := Option.some.inj h
        refine endT_of ?_ ⟨rfl, rfl⟩
        exact (weak_norm (ks := [0]) (π := []) (fuel := 9) (by simp only [ML, Nat.reduceEqDiff, Nat.reduceLT, Nat.reduceLeDiff, Nat.reduceAdd, Nat.reduceMul, Nat.reduceSub, Int.reduceToNat, reduceCtorEq, TL, TT]))
theorem c_impl_BitsOf {k_1 : Int} {r : Int} (h : g_impl_BitsOf k_1 = some r) : Ans Try.prog 88 [.one (.int .i64 k_1)] [] fun v h1 => v = .pv (.one (.int .u32 r)) ∧ h1 = [] := by
  refine ansK (P := fun _ => Try.prog) TryT_eq (fn := Try.f88) Try.func88 rfl ⟨by kernel_rfl, rfl, rfl, by kernel_rfl⟩ (by simp) (Weak.refl _ _) ?_
  rw [g_impl_BitsOf] at h
  try simp only [↓MD, ↓actH, ↓builtinH, ↓builtinG, ↓builtinFT, MU, MB, MC, TT, Nat.reduceEqDiff, Nat.reduceLT, Nat.reduceLeDiff, Nat.reduceAdd, Nat.reduceMul, Nat.reduceSub, Int.reduceToNat, reduceCtorEq, Try.f88]
  refine seqN TryT_eq rfl ?_
  obtain ⟨y_2, hy_2, h⟩ := bS h
  try simp only [↓MD, ↓actH, ↓builtinH, ↓builtinG, ↓builtinFT, MU, MB, MC, TT, Nat.reduceEqDiff, Nat.reduceLT, Nat.reduceLeDiff, Nat.reduceAdd, Nat.reduceMul, Nat.reduceSub, Int.reduceToNat, reduceCtorEq, Try.f88]
  refine callG [] 9 rfl (by simp only [ML, TT, Nat.reduceEqDiff, Nat.reduceLT, Nat.reduceLeDiff, Nat.reduceAdd, Nat.reduceMul, Nat.reduceSub, Int.reduceToNat, reduceCtorEq, TL]) (by simp only [ML, TT, Nat.reduceEqDiff, Nat.reduceLT, Nat.reduceLeDiff, Nat.reduceAdd, Nat.reduceMul, Nat.reduceSub, Int.reduceToNat, reduceCtorEq, TL]) rfl (c_impl_WidthOf hy_2) (by simp only [ML, TL, Nat.reduceEqDiff, Nat.reduceLT, Nat.reduceLeDiff, Nat.reduceAdd, Nat.reduceMul, Nat.reduceSub, Int.reduceToNat, reduceCtorEq]) ?_
  intro rd b
  try simp only [↓MD, ↓actH, ↓builtinH, ↓builtinG, ↓builtinFT, MU, MB, MC, TT, Nat.reduceEqDiff, Nat.reduceLT, Nat.reduceLeDiff, Nat.reduceAdd, Nat.reduceMul, Nat.reduceSub, Int.reduceToNat, reduceCtorEq, Try.f88]
  refine stIf h (fun hb_3 h => ?_) (fun hb_3 h => ?_)
  · try simp only [↓MD, ↓actH, ↓builtinH, ↓builtinG, ↓builtinFT, MU, MB, MC, TT, Nat.reduceEqDiff, Nat.reduceLT, Nat.reduceLeDiff, Nat.reduceAdd, Nat.reduceMul, Nat.reduceSub, Int.reduceToNat, reduceCtorEq, Try.f88]
    obtain rfl := Option.some.inj h
    refine endT_of ?_ ⟨rfl, rfl⟩
    exact (weak_norm (ks := [0]) (π := []) (fuel := 9) (by simp only [ML, Nat.reduceEqDiff, Nat.reduceLT, Nat.reduceLeDiff, Nat.reduceAdd, Nat.reduceMul, Nat.reduceSub, Int.reduceToNat, reduceCtorEq, TL, TT]))
  · try simp only [↓MD, ↓actH, ↓builtinH, ↓builtinG, ↓builtinFT, MU, MB, MC, TT, Nat.reduceEqDiff, Nat.reduceLT, Nat.reduceLeDiff, Nat.reduceAdd, Nat.reduceMul, Nat.reduceSub, Int.reduceToNat, reduceCtorEq, Try.f88]
    refine stIf h (fun hb_4 h => ?_) (fun hb_4 h => ?_)
    · try simp only [↓MD, ↓actH, ↓builtinH, ↓builtinG, ↓builtinFT, MU, MB, MC, TT, Nat.reduceEqDiff, Nat.reduceLT, Nat.reduceLeDiff, Nat.reduceAdd, Nat.reduceMul, Nat.reduceSub, Int.reduceToNat, reduceCtorEq, Try.f88]
      obtain rfl := Option.some.inj h
      refine endT_of ?_ ⟨rfl, rfl⟩
      exact (weak_norm (ks := [0]) (π := []) (fuel := 9) (by simp only [ML, Nat.reduceEqDiff, Nat.reduceLT, Nat.reduceLeDiff, Nat.reduceAdd, Nat.reduceMul, Nat.reduceSub, Int.reduceToNat, reduceCtorEq, TL, TT]))
    · try simp only [↓MD, ↓actH, ↓builtinH, ↓builtinG, ↓builtinFT, MU, MB, MC, TT, Nat.reduceEqDiff, Nat.reduceLT, Nat.reduceLeDiff, Nat.reduceAdd, Nat.reduceMul, Nat.reduceSub, Int.reduceToNat, reduceCtorEq, Try.f88]
      refine stIf h (fun hb_5 h => ?_) (fun hb_5 h => ?_)
      · try simp only [↓MD, ↓actH, ↓builtinH, ↓builtinG, ↓builtinFT, MU, MB, MC, TT, Nat.reduceEqDiff, Nat.reduceLT, Nat.reduceLeDiff, Nat.reduceAdd, Nat.reduceMul, Nat.reduceSub, Int.reduceToNat, reduceCtorEq, Try.f88]
        obtain rfl := Option.some.inj h
        refine endT_of ?_ ⟨rfl, rfl⟩
        exact (weak_norm (ks := [0]) (π := []) (fuel := 9) (by simp only [ML, Nat.reduceEqDiff, Nat.reduceLT, Nat.reduceLeDiff, Nat.reduceAdd, Nat.reduceMul, Nat.reduceSub, Int.reduceToNat, reduceCtorEq, TL, TT]))
      · try simp only [↓MD, ↓actH, ↓builtinH, ↓builtinG, ↓builtinFT, MU, MB, MC, TT, Nat.reduceEqDiff, Nat.reduceLT, Nat.reduceLeDiff, Nat.reduceAdd, Nat.reduceMul, Nat.reduceSub, Int.reduceToNat, reduceCtorEq, Try.f88]
        obtain rfl := Option.some.inj h
        refine endT_of ?_ ⟨rfl, rfl⟩
        exact (weak_norm (ks := [0]) (π := []) (fuel := 9) (by simp only [ML, Nat.reduceEqDiff, Nat.reduceLT, Nat.reduceLeDiff, Nat.reduceAdd, Nat.reduceMul, Nat.reduceSub, Int.reduceToNat, reduceCtorEq, TL, TT]))
theorem c_impl_Decode {bits_1 : Int} {n_2 : Int} {r : Int × Int} (h : g_impl_Decode bits_1 n_2 = some r) : Ans Try.prog 78 [.one (.int .u32 bits_1), .one (.int .i64 n_2)] [] fun v h1 => v = .tup [.one (.int .i64 r.1), .one (.int .i64 r.2)] ∧ h1 = [] := by
  refine ansK (P := fun _ => Try.prog) TryT_eq (fn := Try.f78) Try.func78 rfl ⟨by kernel_rfl, rfl, rfl, by kernel_rfl⟩ (by simp) (Weak.refl _ _) ?_
  rw [g_impl_Decode] at h
  try simp only [↓MD, ↓actH, ↓builtinH, ↓builtinG, ↓builtinFT, MU, MB, MC, TT, Nat.reduceEqDiff, Nat.reduceLT, Nat.reduceLeDiff, Nat.reduceAdd, Nat.reduceMul, Nat.reduceSub, Int.reduceToNat, reduceCtorEq, Try.f78]
  refine seqN TryT_eq rfl ?_
  obtain ⟨y_3, hy_3, h⟩ := bS h
  try simp only [↓MD, ↓actH, ↓builtinH, ↓builtinG, ↓builtinFT, MU, MB, MC, TT, Nat.reduceEqDiff, Nat.reduceLT, Nat.reduceLeDiff, Nat.reduceAdd, Nat.reduceMul, Nat.reduceSub, Int.reduceToNat, reduceCtorEq, Try.f78]
  refine callG [] 9 rfl (by simp only [ML, TT, Nat.reduceEqDiff, Nat.reduceLT, Nat.reduceLeDiff, Nat.reduceAdd, Nat.reduceMul, Nat.reduceSub, Int.reduceToNat, reduceCtorEq, TL]) (by simp only [ML, TT, Nat.reduceEqDiff, Nat.reduceLT, Nat.reduceLeDiff, Nat.reduceAdd, Nat.reduceMul, Nat.reduceSub, Int.reduceToNat, reduceCtorEq, TL]) rfl (c_impl_within hy_3) (by simp only [ML, TL, Nat.reduceEqDiff, Nat.reduceLT, Nat.reduceLeDiff, Nat.reduceAdd, Nat.reduceMul, Nat.reduceSub, Int.reduceToNat, reduceCtorEq]) ?_
  intro rd b
  try simp only [↓MD, ↓actH, ↓builtinH, ↓builtinG, ↓builtinFT, MU, MB, MC, TT, Nat.reduceEqDiff, Nat.reduceLT, Nat.reduceLeDiff, Nat.reduceAdd, Nat.reduceMul, Nat.reduceSub, Int.reduceToNat, reduceCtorEq, Try.f78]
  refine stIf h (fun hb_4 h => ?_) (fun hb_4 h => ?_)
  · try simp only [↓MD, ↓actH, ↓builtinH, ↓builtinG, ↓builtinFT, MU, MB, MC, TT, Nat.reduceEqDiff, Nat.reduceLT, Nat.reduceLeDiff, Nat.reduceAdd, Nat.reduceMul, Nat.reduceSub, Int.reduceToNat, reduceCtorEq, Try.f78]
    obtain rfl := Option.some.inj h
    refine endT_of ?_ ⟨rfl, rfl⟩
    exact (weak_norm (ks := [0]) (π := []) (fuel := 9) (by simp only [ML, Nat.reduceEqDiff, Nat.reduceLT, Nat.reduceLeDiff, Nat.reduceAdd, Nat.reduceMul, Nat.reduceSub, Int.reduceToNat, reduceCtorEq, TL, TT]))
  · try simp only [↓MD, ↓actH, ↓builtinH, ↓builtinG, ↓builtinFT, MU, MB, MC, TT, Nat.reduceEqDiff, Nat.reduceLT, Nat.reduceLeDiff, Nat.reduceAdd, Nat.reduceMul, Nat.reduceSub, Int.reduceToNat, reduceCtorEq, Try.f78]
    obtain ⟨y_7, hy_8, h⟩ := bS h
    refine seqK TryT_eq (fun p : Unit => ⟨[], []⟩) (fun v => y_7 = .inl v) (by rfl) ?_ ?_
    · try simp only [↓MD, ↓actH, ↓builtinH, ↓builtinG, ↓builtinFT, MU, MB, MC, TT, Nat.reduceEqDiff, Nat.reduceLT, Nat.reduceLeDiff, Nat.reduceAdd, Nat.reduceMul, Nat.reduceSub, Int.reduceToNat, reduceCtorEq, Try.f78]
      obtain ⟨y_12, hy_13, hy_8⟩ := bS hy_8
      refine loopK TryT_eq (fun p : Int => ⟨[(0, .pv (.one (.int .u32 bits_1))), (1, .pv (.one (.int .i64 n_2))), (11, .pv (.one (.int .i64 p)))], []⟩) (fun k p => g_impl_Decode_l0 bits_1 n_2 k p = some y_12) (by kernel_rfl) bigK 0 (weak_norm (ks := [0, 1, 11]) (π := []) (fuel := 9) (by simp only [ML, Nat.reduceEqDiff, Nat.reduceLT, Nat.reduceLeDiff, Nat.reduceAdd, Nat.reduceMul, Nat.reduceSub, Int.reduceToNat, reduceCtorEq, TL, TT])) hy_13 (fun _ h => nomatch (show none = some _ from h)) ?_
      rintro k_14 v_9 hk_15
      rw [g_impl_Decode_l0] at hk_15
      try dsimp only at hk_15
      try simp only [↓MD, ↓actH, ↓builtinH, ↓builtinG, ↓builtinFT, MU, MB, MC, TT, Nat.reduceEqDiff, Nat.reduceLT, Nat.reduceLeDiff, Nat.reduceAdd, Nat.reduceMul, Nat.reduceSub, Int.reduceToNat, reduceCtorEq, Try.f78]
      refine seqN TryT_eq rfl ?_
      try simp only [↓MD, ↓actH, ↓builtinH, ↓builtinG, ↓builtinFT, MU, MB, MC, TT, Nat.reduceEqDiff, Nat.reduceLT, Nat.reduceLeDiff, Nat.reduceAdd, Nat.reduceMul, Nat.reduceSub, Int.reduceToNat, reduceCtorEq, Try.f78]
      refine stIf hk_15 (fun hb_16 hk_15 => ?_) (fun hb_16 hk_15 => ?_)
      · try simp only [↓MD, ↓actH, ↓builtinH, ↓builtinG, ↓builtinFT, MU, MB, MC, TT, Nat.reduceEqDiff, Nat.reduceLT, Nat.reduceLeDiff, Nat.reduceAdd, Nat.reduceMul, Nat.reduceSub, Int.reduceToNat, reduceCtorEq, Try.f78]
        refine seqN TryT_eq rfl ?_
        obtain ⟨y_17, hy_17, hk_15⟩ := bS hk_15
        try simp only [↓MD, ↓actH, ↓builtinH, ↓builtinG, ↓builtinFT, MU, MB, MC, TT, Nat.reduceEqDiff, Nat.reduceLT, Nat.reduceLeDiff, Nat.reduceAdd, Nat.reduceMul, Nat.reduceSub, Int.reduceToNat, reduceCtorEq, Try.f78]
        refine callG [] 9 rfl (by simp only [ML, TT, Nat.reduceEqDiff, Nat.reduceLT, Nat.reduceLeDiff, Nat.reduceAdd, Nat.reduceMul, Nat.reduceSub, Int.reduceToNat, reduceCtorEq, TL]) (by simp only [ML, TT, Nat.reduceEqDiff, Nat.reduceLT, Nat.reduceLeDiff, Nat.reduceAdd, Nat.reduceMul, Nat.reduceSub, Int.reduceToNat, reduceCtorEq, TL]) rfl (c_impl_WidthOf hy_17) (by simp only [ML, TL, Nat.reduceEqDiff, Nat.reduceLT, Nat.reduceLeDiff, Nat.reduceAdd, Nat.reduceMul, Nat.reduceSub, Int.reduceToNat, reduceCtorEq]) ?_
        intro rd b
        try simp only [↓MD, ↓actH, ↓builtinH, ↓builtinG, ↓builtinFT, MU, MB, MC, TT, Nat.reduceEqDiff, Nat.reduceLT, Nat.reduceLeDiff, Nat.reduceAdd, Nat.reduceMul, Nat.reduceSub, Int.reduceToNat, reduceCtorEq, Try.f78]
        obtain ⟨y_19, hy_20, hk_15⟩ := bS hk_15
        refine seqK TryT_eq (fun p : Bool => ⟨[(0, .pv (.one (.int .u32 bits_1))), (1, .pv (.one (.int .i64 n_2))), (6, .pv (.one (.int .i64 v_9))), (7, .pv (.one (.int .i64 y_17))), (11, .pv (.one (.int .i64 v_9))), (32, .pv (.one (.bool p)))], []⟩) (fun v => y_19 = v) (by rfl) ?_ ?_
        · try simp only [↓MD, ↓actH, ↓builtinH, ↓builtinG, ↓builtinFT, MU, MB, MC, TT, Nat.reduceEqDiff, Nat.reduceLT, Nat.reduceLeDiff, Nat.reduceAdd, Nat.reduceMul, Nat.reduceSub, Int.reduceToNat, reduceCtorEq, Try.f78]
          refine stIf hy_20 (fun hb_21 hy_20 => ?_) (fun hb_21 hy_20 => ?_)
          · obtain ⟨v_22, hv_22, hy_20⟩ := bS hy_20
            obtain ⟨v_23, hv_23, hy_20⟩ := bS hy_20
            obtain ⟨y_24, hy_24, hy_20⟩ := bS hy_20
            try simp only [↓MD, ↓actH, ↓builtinH, ↓builtinG, ↓builtinFT, MU, MB, MC, TT, Nat.reduceEqDiff, Nat.reduceLT, Nat.reduceLeDiff, Nat.reduceAdd, Nat.reduceMul, Nat.reduceSub, Int.reduceToNat, reduceCtorEq, Try.f78, hb_21, hv_22, hv_23]
            refine callG [] 9 rfl (by simp only [ML, TT, Nat.reduceEqDiff, Nat.reduceLT, Nat.reduceLeDiff, Nat.reduceAdd, Nat.reduceMul, Nat.reduceSub, Int.reduceToNat, reduceCtorEq, TL]) (by simp only [ML, TT, Nat.reduceEqDiff, Nat.reduceLT, Nat.reduceLeDiff, Nat.reduceAdd, Nat.reduceMul, Nat.reduceSub, Int.reduceToNat, reduceCtorEq, TL]) rfl (c_impl_BitsOf hy_24) (by simp only [ML, TL, Nat.reduceEqDiff, Nat.reduceLT, Nat.reduceLeDiff, Nat.reduceAdd, Nat.reduceMul, Nat.reduceSub, Int.reduceToNat, reduceCtorEq]) ?_
            intro rd b
            try simp only [↓MD, ↓actH, ↓builtinH, ↓builtinG, ↓builtinFT, MU, MB, MC, TT, Nat.reduceEqDiff, Nat.reduceLT, Nat.reduceLeDiff, Nat.reduceAdd, Nat.reduceMul, Nat.reduceSub, Int.reduceToNat, reduceCtorEq, Try.f78, hb_21, hv_22, hv_23]
            refine ⟨rfl, ?_⟩
            try simp only [↓MD, ↓actH, ↓builtinH, ↓builtinG, ↓builtinFT, MU, MB, MC, TT, Nat.reduceEqDiff, Nat.reduceLT, Nat.reduceLeDiff, Nat.reduceAdd, Nat.reduceMul, Nat.reduceSub, Int.reduceToNat, reduceCtorEq, Try.f78, hb_21, hv_22, hv_23]
            obtain rfl := Option.some.inj hy_20
            exact cutT_mk ((andI .u32 v_22 (IntKind.wrap .u32 (v_23 - 1))) == y_24) rfl (weak_norm (ks := [0, 1, 6, 7, 11, 32]) (π := []) (fuel := 9) (by simp only [ML, Nat.reduceEqDiff, Nat.reduceLT, Nat.reduceLeDiff, Nat.reduceAdd, Nat.reduceMul, Nat.reduceSub, Int.reduceToNat, reduceCtorEq, TL, TT]))
          · try simp only [↓MD, ↓actH, ↓builtinH, ↓builtinG, ↓builtinFT, MU, MB, MC, TT, Nat.reduceEqDiff, Nat.reduceLT, Nat.reduceLeDiff, Nat.reduceAdd, Nat.reduceMul, Nat.reduceSub, Int.reduceToNat, reduceCtorEq, Try.f78, hb_21]
            refine ⟨rfl, ?_⟩
            try simp only [↓MD, ↓actH, ↓builtinH, ↓builtinG, ↓builtinFT, MU, MB, MC, TT, Nat.reduceEqDiff, Nat.reduceLT, Nat.reduceLeDiff, Nat.reduceAdd, Nat.reduceMul, Nat.reduceSub, Int.reduceToNat, reduceCtorEq, Try.f78, hb_21]
            obtain rfl := Option.some.inj hy_20
            exact cutT_mk false rfl (weak_norm (ks := [0, 1, 6, 7, 11, 32]) (π := []) (fuel := 9) (by simp only [ML, Nat.reduceEqDiff, Nat.reduceLT, Nat.reduceLeDiff, Nat.reduceAdd, Nat.reduceMul, Nat.reduceSub, Int.reduceToNat, reduceCtorEq, TL, TT]))
        · rintro v_18 hp
          replace hp := hp.symm; subst hp
          try dsimp only at hk_15
          try simp only [↓MD, ↓actH, ↓builtinH, ↓builtinG, ↓builtinFT, MU, MB, MC, TT, Nat.reduceEqDiff, Nat.reduceLT, Nat.reduceLeDiff, Nat.reduceAdd, Nat.reduceMul, Nat.reduceSub, Int.reduceToNat, reduceCtorEq, Try.f78]
          refine stIf hk_15 (fun hb_25 hk_15 => ?_) (fun hb_25 hk_15 => ?_)
          · obtain rfl := Option.some.inj hk_15
            try dsimp only at hy_8
            obtain rfl := Option.some.inj hy_8
            try dsimp only at h
            try simp only [↓MD, ↓actH, ↓builtinH, ↓builtinG, ↓builtinFT, MU, MB, MC, TT, Nat.reduceEqDiff, Nat.reduceLT, Nat.reduceLeDiff, Nat.reduceAdd, Nat.reduceMul, Nat.reduceSub, Int.reduceToNat, reduceCtorEq, Try.f78]
            obtain rfl := Option.some.inj h
            refine endT_of ?_ ⟨rfl, rfl⟩
            exact (weak_norm (ks := [0]) (π := []) (fuel := 9) (by simp only [ML, Nat.reduceEqDiff, Nat.reduceLT, Nat.reduceLeDiff, Nat.reduceAdd, Nat.reduceMul, Nat.reduceSub, Int.reduceToNat, reduceCtorEq, TL, TT]))
          · try simp only [↓MD, ↓actH, ↓builtinH, ↓builtinG, ↓builtinFT, MU, MB, MC, TT, Nat.reduceEqDiff, Nat.reduceLT, Nat.reduceLeDiff, Nat.reduceAdd, Nat.reduceMul, Nat.reduceSub, Int.reduceToNat, reduceCtorEq, Try.f78]
            exact ⟨IntKind.wrap .i64 (v_9 + 1), hk_15, (weak_norm (ks := [0, 1, 11]) (π := []) (fuel := 9) (by simp only [ML, Nat.reduceEqDiff, Nat.reduceLT, Nat.reduceLeDiff, Nat.reduceAdd, Nat.reduceMul, Nat.reduceSub, Int.reduceToNat, reduceCtorEq, TL, TT]))⟩
      · obtain rfl := Option.some.inj hk_15
        try dsimp only at hy_8
        try simp only [↓MD, ↓actH, ↓builtinH, ↓builtinG, ↓builtinFT, MU, MB, MC, TT, Nat.reduceEqDiff, Nat.reduceLT, Nat.reduceLeDiff, Nat.reduceAdd, Nat.reduceMul, Nat.reduceSub, Int.reduceToNat, reduceCtorEq, Try.f78]
        obtain rfl := Option.some.inj hy_8
        exact cutT_mk () (by trivial) (weak_norm (ks := []) (π := []) (fuel := 9) (by simp only [ML, Nat.reduceEqDiff, Nat.reduceLT, Nat.reduceLeDiff, Nat.reduceAdd, Nat.reduceMul, Nat.reduceSub, Int.reduceToNat, reduceCtorEq, TL, TT]))
    · rintro _ hp
      replace hp := hp.symm; subst hp
      try dsimp only at h
      try simp only [↓MD, ↓actH, ↓builtinH, ↓builtinG, ↓builtinFT, MU, MB, MC, TT, Nat.reduceEqDiff, Nat.reduceLT, Nat.reduceLeDiff, Nat.reduceAdd, Nat.reduceMul, Nat.reduceSub, Int.reduceToNat, reduceCtorEq, Try.f78]
      obtain rfl := Option.some.inj h
      refine endT_of ?_ ⟨rfl, rfl⟩
      exact (weak_norm (ks := [0]) (π := []) (fuel := 9) (by simp only [ML, Nat.reduceEqDiff, Nat.reduceLT, Nat.reduceLeDiff, Nat.reduceAdd, Nat.reduceMul, Nat.reduceSub, Int.reduceToNat, reduceCtorEq, TL, TT]))
theorem c_impl_letters {r : Bs} (h : g_impl_letters = some r) : Ans Try.prog 89 [] [] fun v h1 => v = .pv (.one (.str r)) ∧ h1 = [] := by
  refine ansK (P := fun _ => Try.prog) TryT_eq (fn := Try.f89) Try.func89 rfl ⟨by kernel_rfl, rfl, rfl, by kernel_rfl⟩ (by simp) (Weak.refl _ _) ?_
  rw [g_impl_letters] at h
  try simp only [↓MD, ↓actH, ↓builtinH, ↓builtinG, ↓builtinFT, MU, MB, MC, TT, Nat.reduceEqDiff, Nat.reduceLT, Nat.reduceLeDiff, Nat.reduceAdd, Nat.reduceMul, Nat.reduceSub, Int.reduceToNat, reduceCtorEq, Try.f89]
  obtain rfl := Option.some.inj h
  refine endT_of ?_ ⟨rfl, rfl⟩
  exact (weak_norm (ks := [0]) (π := []) (fuel := 9) (by simp only [ML, Nat.reduceEqDiff, Nat.reduceLT, Nat.reduceLeDiff, Nat.reduceAdd, Nat.reduceMul, Nat.reduceSub, Int.reduceToNat, reduceCtorEq, TL, TT]))
theorem c_impl_LetterAt {k_1 : Int} {r : Int} (h : g_impl_LetterAt k_1 = some r) : Ans Try.prog 79 [.one (.int .i64 k_1)] [] fun v h1 => v = .pv (.one (.int .u8 r)) ∧ h1 = [] := by
  refine ansK (P := fun _ => Try.prog) TryT_eq (fn := Try.f79) Try.func79 rfl ⟨by kernel_rfl, rfl, rfl, by kernel_rfl⟩ (by simp) (Weak.refl _ _) ?_
  rw [g_impl_LetterAt] at h
  try simp only [↓MD, ↓actH, ↓builtinH, ↓builtinG, ↓builtinFT, MU, MB, MC, TT, Nat.reduceEqDiff, Nat.reduceLT, Nat.reduceLeDiff, Nat.reduceAdd, Nat.reduceMul, Nat.reduceSub, Int.reduceToNat, reduceCtorEq, Try.f79]
  refine seqN TryT_eq rfl ?_
  obtain ⟨y_2, hy_2, h⟩ := bS h
  try simp only [↓MD, ↓actH, ↓builtinH, ↓builtinG, ↓builtinFT, MU, MB, MC, TT, Nat.reduceEqDiff, Nat.reduceLT, Nat.reduceLeDiff, Nat.reduceAdd, Nat.reduceMul, Nat.reduceSub, Int.reduceToNat, reduceCtorEq, Try.f79]
  refine callG [] 9 rfl (by simp only [ML, TT, Nat.reduceEqDiff, Nat.reduceLT, Nat.reduceLeDiff, Nat.reduceAdd, Nat.reduceMul, Nat.reduceSub, Int.reduceToNat, reduceCtorEq, TL]) (by simp only [ML, TT, Nat.reduceEqDiff, Nat.reduceLT, Nat.reduceLeDiff, Nat.reduceAdd, Nat.reduceMul, Nat.reduceSub, Int.reduceToNat, reduceCtorEq, TL]) rfl (c_impl_within hy_2) (by simp only [ML, TL, Nat.reduceEqDiff, Nat.reduceLT, Nat.reduceLeDiff, Nat.reduceAdd, Nat.reduceMul, Nat.reduceSub, Int.reduceToNat, reduceCtorEq]) ?_
  intro rd b
  try simp only [↓MD, ↓actH, ↓builtinH, ↓builtinG, ↓builtinFT, MU, MB, MC, TT, Nat.reduceEqDiff, Nat.reduceLT, Nat.reduceLeDiff, Nat.reduceAdd, Nat.reduceMul, Nat.reduceSub, Int.reduceToNat, reduceCtorEq, Try.f79]
  refine stIf h (fun hb_3 h => ?_) (fun hb_3 h => ?_)
  · try simp only [↓MD, ↓actH, ↓builtinH, ↓builtinG, ↓builtinFT, MU, MB, MC, TT, Nat.reduceEqDiff, Nat.reduceLT, Nat.reduceLeDiff, Nat.reduceAdd, Nat.reduceMul, Nat.reduceSub, Int.reduceToNat, reduceCtorEq, Try.f79]
    obtain rfl := Option.some.inj h
    refine endT_of ?_ ⟨rfl, rfl⟩
    exact (weak_norm (ks := [0]) (π := []) (fuel := 9) (by simp only [ML, Nat.reduceEqDiff, Nat.reduceLT, Nat.reduceLeDiff, Nat.reduceAdd, Nat.reduceMul, Nat.reduceSub, Int.reduceToNat, reduceCtorEq, TL, TT]))
  · obtain ⟨y_4, hy_4, h⟩ := bS h
    try simp only [↓MD, ↓actH, ↓builtinH, ↓builtinG, ↓builtinFT, MU, MB, MC, TT, Nat.reduceEqDiff, Nat.reduceLT, Nat.reduceLeDiff, Nat.reduceAdd, Nat.reduceMul, Nat.reduceSub, Int.reduceToNat, reduceCtorEq, Try.f79]
    refine callG [] 9 rfl (by simp only [ML, TT, Nat.reduceEqDiff, Nat.reduceLT, Nat.reduceLeDiff, Nat.reduceAdd, Nat.reduceMul, Nat.reduceSub, Int.reduceToNat, reduceCtorEq, TL]) (by simp only [ML, TT, Nat.reduceEqDiff, Nat.reduceLT, Nat.reduceLeDiff, Nat.reduceAdd, Nat.reduceMul, Nat.reduceSub, Int.reduceToNat, reduceCtorEq, TL]) rfl (c_impl_letters hy_4) (by simp only [ML, TL, Nat.reduceEqDiff, Nat.reduceLT, Nat.reduceLeDiff, Nat.reduceAdd, Nat.reduceMul, Nat.reduceSub, Int.reduceToNat, reduceCtorEq]) ?_
    intro rd b
    obtain ⟨v_5, hv_5, h⟩ := bS h
    try simp only [↓MD, ↓actH, ↓builtinH, ↓builtinG, ↓builtinFT, MU, MB, MC, TT, Nat.reduceEqDiff, Nat.reduceLT, Nat.reduceLeDiff, Nat.reduceAdd, Nat.reduceMul, Nat.reduceSub, Int.reduceToNat, reduceCtorEq, Try.f79, hv_5]
    obtain rfl := Option.some.inj h
    refine endT_of ?_ ⟨rfl, rfl⟩
    exact (weak_norm (ks := [0]) (π := []) (fuel := 9) (by simp only [ML, Nat.reduceEqDiff, Nat.reduceLT, Nat.reduceLeDiff, Nat.reduceAdd, Nat.reduceMul, Nat.reduceSub, Int.reduceToNat, reduceCtorEq, TL, TT]))
theorem c_impl_UnpackOne {f_1 : Int} {r : Bs} (h : g_impl_UnpackOne f_1 = some r) : Ans Try.prog 70 [.one (.int .u32 f_1)] [] fun v h1 => v = .pv (.one (.str r)) ∧ h1 = [] := by
  refine ansK (P := fun _ => Try.prog) TryT_eq (fn := Try.f70) Try.func70 rfl ⟨by kernel_rfl, rfl, rfl, by kernel_rfl⟩ (by simp) (Weak.refl _ _) ?_
  rw [g_impl_UnpackOne] at h
  try simp only [↓MD, ↓actH, ↓builtinH, ↓builtinG, ↓builtinFT, MU, MB, MC, TT, Nat.reduceEqDiff, Nat.reduceLT, Nat.reduceLeDiff, Nat.reduceAdd, Nat.reduceMul, Nat.reduceSub, Int.reduceToNat, reduceCtorEq, Try.f70]
  refine seqN TryT_eq rfl ?_
  try simp only [↓MD, ↓actH, ↓builtinH, ↓builtinG, ↓builtinFT, MU, MB, MC, TT, Nat.reduceEqDiff, Nat.reduceLT, Nat.reduceLeDiff, Nat.reduceAdd, Nat.reduceMul, Nat.reduceSub, Int.reduceToNat, reduceCtorEq, Try.f70]
  refine stIf h (fun hb_2 h => ?_) (fun hb_2 h => ?_)
  · try simp only [↓MD, ↓actH, ↓builtinH, ↓builtinG, ↓builtinFT, MU, MB, MC, TT, Nat.reduceEqDiff, Nat.reduceLT, Nat.reduceLeDiff, Nat.reduceAdd, Nat.reduceMul, Nat.reduceSub, Int.reduceToNat, reduceCtorEq, Try.f70]
    obtain rfl := Option.some.inj h
    refine endT_of ?_ ⟨rfl, rfl⟩
    exact (weak_norm (ks := [0]) (π := []) (fuel := 9) (by simp only [ML, Nat.reduceEqDiff, Nat.reduceLT, Nat.reduceLeDiff, Nat.reduceAdd, Nat.reduceMul, Nat.reduceSub, Int.reduceToNat, reduceCtorEq, TL, TT]))
  · have f1 := (show bldN 0 = 0 from rfl)
    have f2 := (show bldC [] = ([] : List Int).flatMap (eI .u8) from rfl)
    try simp only [↓MD, ↓actH, ↓builtinH, ↓builtinG, ↓builtinFT, MU, MB, MC, TT, Nat.reduceEqDiff, Nat.reduceLT, Nat.reduceLeDiff, Nat.reduceAdd, Nat.reduceMul, Nat.reduceSub, Int.reduceToNat, reduceCtorEq, Try.f70, f1, f2]
    obtain ⟨y_6, hy_7, h⟩ := bS h
    refine seqK TryT_eq (fun p : (List Int) => ⟨[(3, .pv (.one (.arr 0 0 p.length)))], [.live ⟨1, p.length, p.flatMap (eI .u8)⟩]⟩) (fun v => y_6 = v) (by rfl) ?_ ?_
    · try simp only [↓MD, ↓actH, ↓builtinH, ↓builtinG, ↓builtinFT, MU, MB, MC, TT, Nat.reduceEqDiff, Nat.reduceLT, Nat.reduceLeDiff, Nat.reduceAdd, Nat.reduceMul, Nat.reduceSub, Int.reduceToNat, reduceCtorEq, Try.f70, f1, f2]
      refine loopK TryT_eq (fun p : (List Int) × Int => ⟨[(0, .pv (.one (.int .u32 f_1))), (3, .pv (.one (.arr 0 0 p.1.length))), (4, .pv (.one (.int .i64 p.2)))], [.live ⟨1, p.1.length, p.1.flatMap (eI .u8)⟩]⟩) (fun k p => g_impl_UnpackOne_l0 f_1 k p.1 p.2 = some y_6) (by kernel_rfl) bigK (([] : List Int), 28) (weak_norm (ks := [0, 3, 4]) (π := [0]) (fuel := 9) (by simp only [ML, Nat.reduceEqDiff, Nat.reduceLT, Nat.reduceLeDiff, Nat.reduceAdd, Nat.reduceMul, Nat.reduceSub, Int.reduceToNat, reduceCtorEq, TL, TT, fWin (eI_ok .u8) (n := 0) (xs := ([] : List Int)) (by simp)])) hy_7 (fun _ h => nomatch (show none = some _ from h)) ?_
      rintro k_8 ⟨out_3, left_4⟩ hk_9
      rw [g_impl_UnpackOne_l0] at hk_9
      try dsimp only at hk_9
      try simp only [↓MD, ↓actH, ↓builtinH, ↓builtinG, ↓builtinFT, MU, MB, MC, TT, Nat.reduceEqDiff, Nat.reduceLT, Nat.reduceLeDiff, Nat.reduceAdd, Nat.reduceMul, Nat.reduceSub, Int.reduceToNat, reduceCtorEq, Try.f70]
      refine seqN TryT_eq rfl ?_
      obtain ⟨v_10, hv_10, hk_9⟩ := bS hk_9
      try simp only [↓MD, ↓actH, ↓builtinH, ↓builtinG, ↓builtinFT, MU, MB, MC, TT, Nat.reduceEqDiff, Nat.reduceLT, Nat.reduceLeDiff, Nat.reduceAdd, Nat.reduceMul, Nat.reduceSub, Int.reduceToNat, reduceCtorEq, Try.f70, hv_10]
      refine stIf hk_9 (fun hb_11 hk_9 => ?_) (fun hb_11 hk_9 => ?_)
      · obtain ⟨y_12, hy_12, hk_9⟩ := bS hk_9
        try simp only [↓MD, ↓actH, ↓builtinH, ↓builtinG, ↓builtinFT, MU, MB, MC, TT, Nat.reduceEqDiff, Nat.reduceLT, Nat.reduceLeDiff, Nat.reduceAdd, Nat.reduceMul, Nat.reduceSub, Int.reduceToNat, reduceCtorEq, Try.f70, hv_10]
        refine callG [] 9 rfl (by simp only [ML, TT, Nat.reduceEqDiff, Nat.reduceLT, Nat.reduceLeDiff, Nat.reduceAdd, Nat.reduceMul, Nat.reduceSub, Int.reduceToNat, reduceCtorEq, TL]) (by simp only [ML, TT, Nat.reduceEqDiff, Nat.reduceLT, Nat.reduceLeDiff, Nat.reduceAdd, Nat.reduceMul, Nat.reduceSub, Int.reduceToNat, reduceCtorEq, TL]) rfl (c_impl_Decode hy_12) (by simp only [ML, TL, Nat.reduceEqDiff, Nat.reduceLT, Nat.reduceLeDiff, Nat.reduceAdd, Nat.reduceMul, Nat.reduceSub, Int.reduceToNat, reduceCtorEq]) ?_
        intro rd b
        try simp only [↓MD, ↓actH, ↓builtinH, ↓builtinG, ↓builtinFT, MU, MB, MC, TT, Nat.reduceEqDiff, Nat.reduceLT, Nat.reduceLeDiff, Nat.reduceAdd, Nat.reduceMul, Nat.reduceSub, Int.reduceToNat, reduceCtorEq, Try.f70, hv_10]
        refine seqN TryT_eq rfl ?_
        try simp only [↓MD, ↓actH, ↓builtinH, ↓builtinG, ↓builtinFT, MU, MB, MC, TT, Nat.reduceEqDiff, Nat.reduceLT, Nat.reduceLeDiff, Nat.reduceAdd, Nat.reduceMul, Nat.reduceSub, Int.reduceToNat, reduceCtorEq, Try.f70, hv_10]
        refine stIf hk_9 (fun hb_13 hk_9 => ?_) (fun hb_13 hk_9 => ?_)
        · try simp only [↓MD, ↓actH, ↓builtinH, ↓builtinG, ↓builtinFT, MU, MB, MC, TT, Nat.reduceEqDiff, Nat.reduceLT, Nat.reduceLeDiff, Nat.reduceAdd, Nat.reduceMul, Nat.reduceSub, Int.reduceToNat, reduceCtorEq, Try.f70, hv_10]
          obtain rfl := Option.some.inj hk_9
          exact cutT_mk out_3 rfl (weak_norm (ks := [3]) (π := [0]) (fuel := 9) (by simp only [ML, Nat.reduceEqDiff, Nat.reduceLT, Nat.reduceLeDiff, Nat.reduceAdd, Nat.reduceMul, Nat.reduceSub, Int.reduceToNat, reduceCtorEq, TL, TT]))
        · obtain ⟨y_14, hy_14, hk_9⟩ := bS hk_9
          try simp only [↓MD, ↓actH, ↓builtinH, ↓builtinG, ↓builtinFT, MU, MB, MC, TT, Nat.reduceEqDiff, Nat.reduceLT, Nat.reduceLeDiff, Nat.reduceAdd, Nat.reduceMul, Nat.reduceSub, Int.reduceToNat, reduceCtorEq, Try.f70, hv_10]
          refine callG [] 9 rfl (by simp only [ML, TT, Nat.reduceEqDiff, Nat.reduceLT, Nat.reduceLeDiff, Nat.reduceAdd, Nat.reduceMul, Nat.reduceSub, Int.reduceToNat, reduceCtorEq, TL]) (by simp only [ML, TT, Nat.reduceEqDiff, Nat.reduceLT, Nat.reduceLeDiff, Nat.reduceAdd, Nat.reduceMul, Nat.reduceSub, Int.reduceToNat, reduceCtorEq, TL]) rfl (c_impl_LetterAt hy_14) (by simp only [ML, TL, Nat.reduceEqDiff, Nat.reduceLT, Nat.reduceLeDiff, Nat.reduceAdd, Nat.reduceMul, Nat.reduceSub, Int.reduceToNat, reduceCtorEq]) ?_
          intro rd b
          obtain ⟨v_15, hv_15, hk_9⟩ := bS hk_9
          have f3 := (show bldN 1 = 1 from rfl)
          have f4 := (show bldC [.int .u8 y_14] = [y_14].flatMap (eI .u8) from rfl)
          have f5 := (fWin (eI_ok .u8) (n := 1) (xs := [y_14]) (by simp))
          have f6 := (fApp hv_15 (n := out_3.length) (by simp) (m := 1) (by simp [bsOf]))
          have f7 := (fWin (eI_ok .u8) (n := out_3.length) (xs := out_3) (by simp))
          have f8 := (fCat (e := (eI .u8)) (ns := [y_14].flatMap (eI .u8)) hv_15 rfl)
          try simp only [↓MD, ↓actH, ↓builtinH, ↓builtinG, ↓builtinFT, MU, MB, MC, TT, Nat.reduceEqDiff, Nat.reduceLT, Nat.reduceLeDiff, Nat.reduceAdd, Nat.reduceMul, Nat.reduceSub, Int.reduceToNat, reduceCtorEq, Try.f70, hv_10, f3, f4, f5, f6, f7, f8]
          exact ⟨(v_15, IntKind.wrap .i64 (left_4 - y_12.2)), hk_9, (weak_norm (ks := [0, 3, 4]) (π := [2]) (fuel := 9) (by simp only [ML, Nat.reduceEqDiff, Nat.reduceLT, Nat.reduceLeDiff, Nat.reduceAdd, Nat.reduceMul, Nat.reduceSub, Int.reduceToNat, reduceCtorEq, TL, TT]))⟩
      · try simp only [↓MD, ↓actH, ↓builtinH, ↓builtinG, ↓builtinFT, MU, MB, MC, TT, Nat.reduceEqDiff, Nat.reduceLT, Nat.reduceLeDiff, Nat.reduceAdd, Nat.reduceMul, Nat.reduceSub, Int.reduceToNat, reduceCtorEq, Try.f70, hv_10]
        obtain rfl := Option.some.inj hk_9
        exact cutT_mk out_3 rfl (weak_norm (ks := [3]) (π := [0]) (fuel := 9) (by simp only [ML, Nat.reduceEqDiff, Nat.reduceLT, Nat.reduceLeDiff, Nat.reduceAdd, Nat.reduceMul, Nat.reduceSub, Int.reduceToNat, reduceCtorEq, TL, TT]))
    · rintro out_5 hp
      replace hp := hp.symm; subst hp
      try dsimp only at h
      have f9 := (fWin (eI_ok .u8) (n := out_5.length) (xs := out_5) (by simp))
      try simp only [↓MD, ↓actH, ↓builtinH, ↓builtinG, ↓builtinFT, MU, MB, MC, TT, Nat.reduceEqDiff, Nat.reduceLT, Nat.reduceLeDiff, Nat.reduceAdd, Nat.reduceMul, Nat.reduceSub, Int.reduceToNat, reduceCtorEq, Try.f70, f9]
      obtain rfl := Option.some.inj h
      refine endT_of ?_ ⟨rfl, rfl⟩
      exact (weak_norm (ks := [0]) (π := []) (fuel := 9) (by simp only [ML, Nat.reduceEqDiff, Nat.reduceLT, Nat.reduceLeDiff, Nat.reduceAdd, Nat.reduceMul, Nat.reduceSub, Int.reduceToNat, reduceCtorEq, TL, TT]))
theorem c_ibytealg_IndexByteString {a_1 : Bs} {a_2 : Int} {r : Int} (h : g_ibytealg_IndexByteString a_1 a_2 = some r) : Ans Try.prog 59 [.one (.str a_1), .one (.int .u8 a_2)] [] fun v h1 => v = .pv (.one (.int .i64 r)) ∧ h1 = [] := by
  exact ext_indexByte (fn := Try.f59) Try.func59 (by kernel_rfl) (by kernel_rfl) (by kernel_rfl) (by kernel_rfl) h
theorem c_istringslite_IndexByte {s_1 : Bs} {c_2 : Int} {r : Int} (h : g_istringslite_IndexByte s_1 c_2 = some r) : Ans Try.prog 46 [.one (.str s_1), .one (.int .u8 c_2)] [] fun v h1 => v = .pv (.one (.int .i64 r)) ∧ h1 = [] := by
  refine ansK (P := fun _ => Try.prog) TryT_eq (fn := Try.f46) Try.func46 rfl ⟨by kernel_rfl, rfl, rfl, by kernel_rfl⟩ (by simp) (Weak.refl _ _) ?_
  rw [g_istringslite_IndexByte] at h
  obtain ⟨y_3, hy_3, h⟩ := bS h
  try simp only [↓MD, ↓actH, ↓builtinH, ↓builtinG, ↓builtinFT, MU, MB, MC, TT, Nat.reduceEqDiff, Nat.reduceLT, Nat.reduceLeDiff, Nat.reduceAdd, Nat.reduceMul, Nat.reduceSub, Int.reduceToNat, reduceCtorEq, Try.f46]
  refine callG [] 9 rfl (by simp only [ML, TT, Nat.reduceEqDiff, Nat.reduceLT, Nat.reduceLeDiff, Nat.reduceAdd, Nat.reduceMul, Nat.reduceSub, Int.reduceToNat, reduceCtorEq, TL]) (by simp only [ML, TT, Nat.reduceEqDiff, Nat.reduceLT, Nat.reduceLeDiff, Nat.reduceAdd, Nat.reduceMul, Nat.reduceSub, Int.reduceToNat, reduceCtorEq, TL]) rfl (c_ibytealg_IndexByteString hy_3) (by simp only [ML, TL, Nat.reduceEqDiff, Nat.reduceLT, Nat.reduceLeDiff, Nat.reduceAdd, Nat.reduceMul, Nat.reduceSub, Int.reduceToNat, reduceCtorEq]) ?_
  intro rd b
  try simp only [↓MD, ↓actH, ↓builtinH, ↓builtinG, ↓builtinFT, MU, MB, MC, TT, Nat.reduceEqDiff, Nat.reduceLT, Nat.reduceLeDiff, Nat.reduceAdd, Nat.reduceMul, Nat.reduceSub, Int.reduceToNat, reduceCtorEq, Try.f46]
  obtain rfl := Option.some.inj h
  refine endT_of ?_ ⟨rfl, rfl⟩
  exact (weak_norm (ks := [0]) (π := []) (fuel := 9) (by simp only [ML, Nat.reduceEqDiff, Nat.reduceLT, Nat.reduceLeDiff, Nat.reduceAdd, Nat.reduceMul, Nat.reduceSub, Int.reduceToNat, reduceCtorEq, TL, TT]))
theorem c_strings_IndexByte {s_1 : Bs} {c_2 : Int} {r : Int} (h : g_strings_IndexByte s_1 c_2 = some r) : Ans Try.prog 24 [.one (.str s_1), .one (.int .u8 c_2)] [] fun v h1 => v = .pv (.one (.int .i64 r)) ∧ h1 = [] := by
  refine ansK (P := fun _ => Try.prog) TryT_eq (fn := Try.f24) Try.func24 rfl ⟨by kernel_rfl, rfl, rfl, by kernel_rfl⟩ (by simp) (Weak.refl _ _) ?_
  rw [g_strings_IndexByte] at h
  obtain ⟨y_3, hy_3, h⟩ := bS h
  try simp only [↓MD, ↓actH, ↓builtinH, ↓builtinG, ↓builtinFT, MU, MB, MC, TT, Nat.reduceEqDiff, Nat.reduceLT, Nat.reduceLeDiff, Nat.reduceAdd, Nat.reduceMul, Nat.reduceSub, Int.reduceToNat, reduceCtorEq, Try.f24]
  refine callG [] 9 rfl (by simp only [ML, TT, Nat.reduceEqDiff, Nat.reduceLT, Nat.reduceLeDiff, Nat.reduceAdd, Nat.reduceMul, Nat.reduceSub, Int.reduceToNat, reduceCtorEq, TL]) (by simp only [ML, TT, Nat.reduceEqDiff, Nat.reduceLT, Nat.reduceLeDiff, Nat.reduceAdd, Nat.reduceMul, Nat.reduceSub, Int.reduceToNat, reduceCtorEq, TL]) rfl (c_istringslite_IndexByte hy_3) (by simp only [ML, TL, Nat.reduceEqDiff, Nat.reduceLT, Nat.reduceLeDiff, Nat.reduceAdd, Nat.reduceMul, Nat.reduceSub, Int.reduceToNat, reduceCtorEq]) ?_
  intro rd b
  try simp only [↓MD, ↓actH, ↓builtinH, ↓builtinG, ↓builtinFT, MU, MB, MC, TT, Nat.reduceEqDiff, Nat.reduceLT, Nat.reduceLeDiff, Nat.reduceAdd, Nat.reduceMul, Nat.reduceSub, Int.reduceToNat, reduceCtorEq, Try.f24]
  obtain rfl := Option.some.inj h
  refine endT_of ?_ ⟨rfl, rfl⟩
  exact (weak_norm (ks := [0]) (π := []) (fuel := 9) (by simp only [ML, Nat.reduceEqDiff, Nat.reduceLT, Nat.reduceLeDiff, Nat.reduceAdd, Nat.reduceMul, Nat.reduceSub, Int.reduceToNat, reduceCtorEq, TL, TT]))
theorem c_impl_LetterOf {b_1 : Int} {r : Int} (h : g_impl_LetterOf b_1 = some r) : Ans Try.prog 85 [.one (.int .u8 b_1)] [] fun v h1 => v = .pv (.one (.int .i64 r)) ∧ h1 = [] := by
  refine ansK (P := fun _ => Try.prog) TryT_eq (fn := Try.f85) Try.func85 rfl ⟨by kernel_rfl, rfl, rfl, by kernel_rfl⟩ (by simp) (Weak.refl _ _) ?_
  rw [g_impl_LetterOf] at h
  obtain ⟨y_2, hy_2, h⟩ := bS h
  try simp only [↓MD, ↓actH, ↓builtinH, ↓builtinG, ↓builtinFT, MU, MB, MC, TT, Nat.reduceEqDiff, Nat.reduceLT, Nat.reduceLeDiff, Nat.reduceAdd, Nat.reduceMul, Nat.reduceSub, Int.reduceToNat, reduceCtorEq, Try.f85]
  refine callG [] 9 rfl (by simp only [ML, TT, Nat.reduceEqDiff, Nat.reduceLT, Nat.reduceLeDiff, Nat.reduceAdd, Nat.reduceMul, Nat.reduceSub, Int.reduceToNat, reduceCtorEq, TL]) (by simp only [ML, TT, Nat.reduceEqDiff, Nat.reduceLT, Nat.reduceLeDiff, Nat.reduceAdd, Nat.reduceMul, Nat.reduceSub, Int.reduceToNat, reduceCtorEq, TL]) rfl (c_impl_letters hy_2) (by simp only [ML, TL, Nat.reduceEqDiff, Nat.reduceLT, Nat.reduceLeDiff, Nat.reduceAdd, Nat.reduceMul, Nat.reduceSub, Int.reduceToNat, reduceCtorEq]) ?_
  intro rd b
  obtain ⟨y_3, hy_3, h⟩ := bS h
  try simp only [↓MD, ↓actH, ↓builtinH, ↓builtinG, ↓builtinFT, MU, MB, MC, TT, Nat.reduceEqDiff, Nat.reduceLT, Nat.reduceLeDiff, Nat.reduceAdd, Nat.reduceMul, Nat.reduceSub, Int.reduceToNat, reduceCtorEq, Try.f85]
  refine callG [] 9 rfl (by simp only [ML, TT, Nat.reduceEqDiff, Nat.reduceLT, Nat.reduceLeDiff, Nat.reduceAdd, Nat.reduceMul, Nat.reduceSub, Int.reduceToNat, reduceCtorEq, TL]) (by simp only [ML, TT, Nat.reduceEqDiff, Nat.reduceLT, Nat.reduceLeDiff, Nat.reduceAdd, Nat.reduceMul, Nat.reduceSub, Int.reduceToNat, reduceCtorEq, TL]) rfl (c_strings_IndexByte hy_3) (by simp only [ML, TL, Nat.reduceEqDiff, Nat.reduceLT, Nat.reduceLeDiff, Nat.reduceAdd, Nat.reduceMul, Nat.reduceSub, Int.reduceToNat, reduceCtorEq]) ?_
  intro rd b
  try simp only [↓MD, ↓actH, ↓builtinH, ↓builtinG, ↓builtinFT, MU, MB, MC, TT, Nat.reduceEqDiff, Nat.reduceLT, Nat.reduceLeDiff, Nat.reduceAdd, Nat.reduceMul, Nat.reduceSub, Int.reduceToNat, reduceCtorEq, Try.f85]
  obtain rfl := Option.some.inj h
  refine endT_of ?_ ⟨rfl, rfl⟩
  exact (weak_norm (ks := [0]) (π := []) (fuel := 9) (by simp only [ML, Nat.reduceEqDiff, Nat.reduceLT, Nat.reduceLeDiff, Nat.reduceAdd, Nat.reduceMul, Nat.reduceSub, Int.reduceToNat, reduceCtorEq, TL, TT]))
theorem c_impl_NameOk {s_1 : Bs} {r : Bool} (h : g_impl_NameOk s_1 = some r) : Ans Try.prog 77 [.one (.str s_1)] [] fun v h1 => v = .pv (.one (.bool r)) ∧ h1 = [] := by
  refine ansK (P := fun _ => Try.prog) TryT_eq (fn := Try.f77) Try.func77 rfl ⟨by kernel_rfl, rfl, rfl, by kernel_rfl⟩ (by simp) (Weak.refl _ _) ?_
  rw [g_impl_NameOk] at h
  try simp only [↓MD, ↓actH, ↓builtinH, ↓builtinG, ↓builtinFT, MU, MB, MC, TT, Nat.reduceEqDiff, Nat.reduceLT, Nat.reduceLeDiff, Nat.reduceAdd, Nat.reduceMul, Nat.reduceSub, Int.reduceToNat, reduceCtorEq, Try.f77]
  obtain ⟨y_2, hy_3, h⟩ := bS h
  refine seqK TryT_eq (fun p : Unit => ⟨[(0, .pv (.one (.str s_1)))], []⟩) (fun v => y_2 = .inl v) (by rfl) ?_ ?_
  · try simp only [↓MD, ↓actH, ↓builtinH, ↓builtinG, ↓builtinFT, MU, MB, MC, TT, Nat.reduceEqDiff, Nat.reduceLT, Nat.reduceLeDiff, Nat.reduceAdd, Nat.reduceMul, Nat.reduceSub, Int.reduceToNat, reduceCtorEq, Try.f77]
    obtain ⟨y_5, hy_6, hy_3⟩ := bS hy_3
    refine loopK TryT_eq (fun p : Int => ⟨[(0, .pv (.one (.str s_1))), (5, .pv (.one (.int .i64 (s_1.length : Int)))), (6, .pv (.one (.int .i64 p)))], []⟩) (fun k p => g_impl_NameOk_l0 s_1 k p = some y_5) (by kernel_rfl) bigK 0 (weak_norm (ks := [0, 5, 6]) (π := []) (fuel := 9) (by simp only [ML, Nat.reduceEqDiff, Nat.reduceLT, Nat.reduceLeDiff, Nat.reduceAdd, Nat.reduceMul, Nat.reduceSub, Int.reduceToNat, reduceCtorEq, TL, TT])) hy_6 (fun _ h => nomatch (show none = some _ from h)) ?_
    rintro k_7 v_4 hk_8
    rw [g_impl_NameOk_l0] at hk_8
    try dsimp only at hk_8
    try simp only [↓MD, ↓actH, ↓builtinH, ↓builtinG, ↓builtinFT, MU, MB, MC, TT, Nat.reduceEqDiff, Nat.reduceLT, Nat.reduceLeDiff, Nat.reduceAdd, Nat.reduceMul, Nat.reduceSub, Int.reduceToNat, reduceCtorEq, Try.f77]
    refine seqN TryT_eq rfl ?_
    try simp only [↓MD, ↓actH, ↓builtinH, ↓builtinG, ↓builtinFT, MU, MB, MC, TT, Nat.reduceEqDiff, Nat.reduceLT, Nat.reduceLeDiff, Nat.reduceAdd, Nat.reduceMul, Nat.reduceSub, Int.reduceToNat, reduceCtorEq, Try.f77]
    refine stIf hk_8 (fun hb_9 hk_8 => ?_) (fun hb_9 hk_8 => ?_)
    · try simp only [↓MD, ↓actH, ↓builtinH, ↓builtinG, ↓builtinFT, MU, MB, MC, TT, Nat.reduceEqDiff, Nat.reduceLT, Nat.reduceLeDiff, Nat.reduceAdd, Nat.reduceMul, Nat.reduceSub, Int.reduceToNat, reduceCtorEq, Try.f77]
      refine seqN TryT_eq rfl ?_
      obtain ⟨v_10, hv_10, hk_8⟩ := bS hk_8
      obtain ⟨y_11, hy_11, hk_8⟩ := bS hk_8
      try simp only [↓MD, ↓actH, ↓builtinH, ↓builtinG, ↓builtinFT, MU, MB, MC, TT, Nat.reduceEqDiff, Nat.reduceLT, Nat.reduceLeDiff, Nat.reduceAdd, Nat.reduceMul, Nat.reduceSub, Int.reduceToNat, reduceCtorEq, Try.f77, hv_10]
      refine callG [] 9 rfl (by simp only [ML, TT, Nat.reduceEqDiff, Nat.reduceLT, Nat.reduceLeDiff, Nat.reduceAdd, Nat.reduceMul, Nat.reduceSub, Int.reduceToNat, reduceCtorEq, TL]) (by simp only [ML, TT, Nat.reduceEqDiff, Nat.reduceLT, Nat.reduceLeDiff, Nat.reduceAdd, Nat.reduceMul, Nat.reduceSub, Int.reduceToNat, reduceCtorEq, TL]) rfl (c_impl_LetterOf hy_11) (by simp only [ML, TL, Nat.reduceEqDiff, Nat.reduceLT, Nat.reduceLeDiff, Nat.reduceAdd, Nat.reduceMul, Nat.reduceSub, Int.reduceToNat, reduceCtorEq]) ?_
      intro rd b
      try simp only [↓MD, ↓actH, ↓builtinH, ↓builtinG, ↓builtinFT, MU, MB, MC, TT, Nat.reduceEqDiff, Nat.reduceLT, Nat.reduceLeDiff, Nat.reduceAdd, Nat.reduceMul, Nat.reduceSub, Int.reduceToNat, reduceCtorEq, Try.f77, hv_10]
      refine stIf hk_8 (fun hb_12 hk_8 => ?_) (fun hb_12 hk_8 => ?_)
      · obtain rfl := Option.some.inj hk_8
        try dsimp only at hy_3
        obtain rfl := Option.some.inj hy_3
        try dsimp only at h
        try simp only [↓MD, ↓actH, ↓builtinH, ↓builtinG, ↓builtinFT, MU, MB, MC, TT, Nat.reduceEqDiff, Nat.reduceLT, Nat.reduceLeDiff, Nat.reduceAdd, Nat.reduceMul, Nat.reduceSub, Int.reduceToNat, reduceCtorEq, Try.f77, hv_10]
        obtain rfl := Option.some.inj h
        refine endT_of ?_ ⟨rfl, rfl⟩
        exact (weak_norm (ks := [0]) (π := []) (fuel := 9) (by simp only [ML, Nat.reduceEqDiff, Nat.reduceLT, Nat.reduceLeDiff, Nat.reduceAdd, Nat.reduceMul, Nat.reduceSub, Int.reduceToNat, reduceCtorEq, TL, TT]))
      · try simp only [↓MD, ↓actH, ↓builtinH, ↓builtinG, ↓builtinFT, MU, MB, MC, TT, Nat.reduceEqDiff, Nat.reduceLT, Nat.reduceLeDiff, Nat.reduceAdd, Nat.reduceMul, Nat.reduceSub, Int.reduceToNat, reduceCtorEq, Try.f77, hv_10]
        exact ⟨IntKind.wrap .i64 (v_4 + 1), hk_8, (weak_norm (ks := [0, 5, 6]) (π := []) (fuel := 9) (by simp only [ML, Nat.reduceEqDiff, Nat.reduceLT, Nat.reduceLeDiff, Nat.reduceAdd, Nat.reduceMul, Nat.reduceSub, Int.reduceToNat, reduceCtorEq, TL, TT]))⟩
    · obtain rfl := Option.some.inj hk_8
      try dsimp only at hy_3
      try simp only [↓MD, ↓actH, ↓builtinH, ↓builtinG, ↓builtinFT, MU, MB, MC, TT, Nat.reduceEqDiff, Nat.reduceLT, Nat.reduceLeDiff, Nat.reduceAdd, Nat.reduceMul, Nat.reduceSub, Int.reduceToNat, reduceCtorEq, Try.f77]
      obtain rfl := Option.some.inj hy_3
      exact cutT_mk () (by trivial) (weak_norm (ks := [0]) (π := []) (fuel := 9) (by simp only [ML, Nat.reduceEqDiff, Nat.reduceLT, Nat.reduceLeDiff, Nat.reduceAdd, Nat.reduceMul, Nat.reduceSub, Int.reduceToNat, reduceCtorEq, TL, TT]))
  · rintro _ hp
    replace hp := hp.symm; subst hp
    try dsimp only at h
    obtain ⟨y_13, hy_13, h⟩ := bS h
    try simp only [↓MD, ↓actH, ↓builtinH, ↓builtinG, ↓builtinFT, MU, MB, MC, TT, Nat.reduceEqDiff, Nat.reduceLT, Nat.reduceLeDiff, Nat.reduceAdd, Nat.reduceMul, Nat.reduceSub, Int.reduceToNat, reduceCtorEq, Try.f77]
    refine callG [] 9 rfl (by simp only [ML, TT, Nat.reduceEqDiff, Nat.reduceLT, Nat.reduceLeDiff, Nat.reduceAdd, Nat.reduceMul, Nat.reduceSub, Int.reduceToNat, reduceCtorEq, TL]) (by simp only [ML, TT, Nat.reduceEqDiff, Nat.reduceLT, Nat.reduceLeDiff, Nat.reduceAdd, Nat.reduceMul, Nat.reduceSub, Int.reduceToNat, reduceCtorEq, TL]) rfl (c_impl_within hy_13) (by simp only [ML, TL, Nat.reduceEqDiff, Nat.reduceLT, Nat.reduceLeDiff, Nat.reduceAdd, Nat.reduceMul, Nat.reduceSub, Int.reduceToNat, reduceCtorEq]) ?_
    intro rd b
    try simp only [↓MD, ↓actH, ↓builtinH, ↓builtinG, ↓builtinFT, MU, MB, MC, TT, Nat.reduceEqDiff, Nat.reduceLT, Nat.reduceLeDiff, Nat.reduceAdd, Nat.reduceMul, Nat.reduceSub, Int.reduceToNat, reduceCtorEq, Try.f77]
    obtain rfl := Option.some.inj h
    refine endT_of ?_ ⟨rfl, rfl⟩
    exact (weak_norm (ks := [0]) (π := []) (fuel := 9) (by simp only [ML, Nat.reduceEqDiff, Nat.reduceLT, Nat.reduceLeDiff, Nat.reduceAdd, Nat.reduceMul, Nat.reduceSub, Int.reduceToNat, reduceCtorEq, TL, TT]))
theorem c_impl_PackOne {s_1 : Bs} {r : Int × Int} (h : g_impl_PackOne s_1 = some r) : Ans Try.prog 80 [.one (.str s_1)] [] fun v h1 => v = .tup [.one (.int .u32 r.1), .one (.int .i64 r.2)] ∧ h1 = [] := by
  refine ansK (P := fun _ => Try.prog) TryT_eq (fn := Try.f80) Try.func80 rfl ⟨by kernel_rfl, rfl, rfl, by kernel_rfl⟩ (by simp) (Weak.refl _ _) ?_
  rw [g_impl_PackOne] at h
  try simp only [↓MD, ↓actH, ↓builtinH, ↓builtinG, ↓builtinFT, MU, MB, MC, TT, Nat.reduceEqDiff, Nat.reduceLT, Nat.reduceLeDiff, Nat.reduceAdd, Nat.reduceMul, Nat.reduceSub, Int.reduceToNat, reduceCtorEq, Try.f80]
  refine seqN TryT_eq rfl ?_
  obtain ⟨y_2, hy_2, h⟩ := bS h
  try simp only [↓MD, ↓actH, ↓builtinH, ↓builtinG, ↓builtinFT, MU, MB, MC, TT, Nat.reduceEqDiff, Nat.reduceLT, Nat.reduceLeDiff, Nat.reduceAdd, Nat.reduceMul, Nat.reduceSub, Int.reduceToNat, reduceCtorEq, Try.f80]
  refine callG [] 9 rfl (by simp only [ML, TT, Nat.reduceEqDiff, Nat.reduceLT, Nat.reduceLeDiff, Nat.reduceAdd, Nat.reduceMul, Nat.reduceSub, Int.reduceToNat, reduceCtorEq, TL]) (by simp only [ML, TT, Nat.reduceEqDiff, Nat.reduceLT, Nat.reduceLeDiff, Nat.reduceAdd, Nat.reduceMul, Nat.reduceSub, Int.reduceToNat, reduceCtorEq, TL]) rfl (c_impl_NameOk hy_2) (by simp only [ML, TL, Nat.reduceEqDiff, Nat.reduceLT, Nat.reduceLeDiff, Nat.reduceAdd, Nat.reduceMul, Nat.reduceSub, Int.reduceToNat, reduceCtorEq]) ?_
  intro rd b
  try simp only [↓MD, ↓actH, ↓builtinH, ↓builtinG, ↓builtinFT, MU, MB, MC, TT, Nat.reduceEqDiff, Nat.reduceLT, Nat.reduceLeDiff, Nat.reduceAdd, Nat.reduceMul, Nat.reduceSub, Int.reduceToNat, reduceCtorEq, Try.f80]
  refine stIf h (fun hb_3 h => ?_) (fun hb_3 h => ?_)
  · try simp only [↓MD, ↓actH, ↓builtinH, ↓builtinG, ↓builtinFT, MU, MB, MC, TT, Nat.reduceEqDiff, Nat.reduceLT, Nat.reduceLeDiff, Nat.reduceAdd, Nat.reduceMul, Nat.reduceSub, Int.reduceToNat, reduceCtorEq, Try.f80]
    obtain rfl := Option.some.inj h
    refine endT_of ?_ ⟨rfl, rfl⟩
    exact (weak_norm (ks := [0]) (π := []) (fuel := 9) (by simp only [ML, Nat.reduceEqDiff, Nat.reduceLT, Nat.reduceLeDiff, Nat.reduceAdd, Nat.reduceMul, Nat.reduceSub, Int.reduceToNat, reduceCtorEq, TL, TT]))
  · try simp only [↓MD, ↓actH, ↓builtinH, ↓builtinG, ↓builtinFT, MU, MB, MC, TT, Nat.reduceEqDiff, Nat.reduceLT, Nat.reduceLeDiff, Nat.reduceAdd, Nat.reduceMul, Nat.reduceSub, Int.reduceToNat, reduceCtorEq, Try.f80]
    obtain ⟨y_6, hy_7, h⟩ := bS h
    refine seqK TryT_eq (fun p : Int × Int => ⟨[(4, .pv (.one (.int .u32 p.1))), (6, .pv (.one (.int .i64 p.2)))], []⟩) (fun v => y_6 = v) (by rfl) ?_ ?_
    · try simp only [↓MD, ↓actH, ↓builtinH, ↓builtinG, ↓builtinFT, MU, MB, MC, TT, Nat.reduceEqDiff, Nat.reduceLT, Nat.reduceLeDiff, Nat.reduceAdd, Nat.reduceMul, Nat.reduceSub, Int.reduceToNat, reduceCtorEq, Try.f80]
      obtain ⟨y_14, hy_15, hy_7⟩ := bS hy_7
      refine loopK TryT_eq (fun p : Int × Int × Int × Int => ⟨[(0, .pv (.one (.str s_1))), (4, .pv (.one (.int .u32 p.1))), (5, .pv (.one (.int .i64 p.2.1))), (6, .pv (.one (.int .i64 p.2.2.1))), (13, .pv (.one (.int .i64 (s_1.length : Int)))), (14, .pv (.one (.int .i64 p.2.2.2)))], []⟩) (fun k p => g_impl_PackOne_l0 s_1 k p.1 p.2.1 p.2.2.1 p.2.2.2 = some y_14) (by kernel_rfl) bigK (0, 28, 0, 0) (weak_norm (ks := [0, 4, 5, 6, 13, 14]) (π := []) (fuel := 9) (by simp only [ML, Nat.reduceEqDiff, Nat.reduceLT, Nat.reduceLeDiff, Nat.reduceAdd, Nat.reduceMul, Nat.reduceSub, Int.reduceToNat, reduceCtorEq, TL, TT])) hy_15 (fun _ h => nomatch (show none = some _ from h)) ?_
      rintro k_16 ⟨field_8, left_9, many_10, v_11⟩ hk_17
      rw [g_impl_PackOne_l0] at hk_17
      try dsimp only at hk_17
      try simp only [↓MD, ↓actH, ↓builtinH, ↓builtinG, ↓builtinFT, MU, MB, MC, TT, Nat.reduceEqDiff, Nat.reduceLT, Nat.reduceLeDiff, Nat.reduceAdd, Nat.reduceMul, Nat.reduceSub, Int.reduceToNat, reduceCtorEq, Try.f80]
      refine seqN TryT_eq rfl ?_
      try simp only [↓MD, ↓actH, ↓builtinH, ↓builtinG, ↓builtinFT, MU, MB, MC, TT, Nat.reduceEqDiff, Nat.reduceLT, Nat.reduceLeDiff, Nat.reduceAdd, Nat.reduceMul, Nat.reduceSub, Int.reduceToNat, reduceCtorEq, Try.f80]
      refine stIf hk_17 (fun hb_18 hk_17 => ?_) (fun hb_18 hk_17 => ?_)
      · try simp only [↓MD, ↓actH, ↓builtinH, ↓builtinG, ↓builtinFT, MU, MB, MC, TT, Nat.reduceEqDiff, Nat.reduceLT, Nat.reduceLeDiff, Nat.reduceAdd, Nat.reduceMul, Nat.reduceSub, Int.reduceToNat, reduceCtorEq, Try.f80]
        refine seqN TryT_eq rfl ?_
        obtain ⟨v_19, hv_19, hk_17⟩ := bS hk_17
        obtain ⟨y_20, hy_20, hk_17⟩ := bS hk_17
        try simp only [↓MD, ↓actH, ↓builtinH, ↓builtinG, ↓builtinFT, MU, MB, MC, TT, Nat.reduceEqDiff, Nat.reduceLT, Nat.reduceLeDiff, Nat.reduceAdd, Nat.reduceMul, Nat.reduceSub, Int.reduceToNat, reduceCtorEq, Try.f80, hv_19]
        refine callG [] 9 rfl (by simp only [ML, TT, Nat.reduceEqDiff, Nat.reduceLT, Nat.reduceLeDiff, Nat.reduceAdd, Nat.reduceMul, Nat.reduceSub, Int.reduceToNat, reduceCtorEq, TL]) (by simp only [ML, TT, Nat.reduceEqDiff, Nat.reduceLT, Nat.reduceLeDiff, Nat.reduceAdd, Nat.reduceMul, Nat.reduceSub, Int.reduceToNat, reduceCtorEq, TL]) rfl (c_impl_LetterOf hy_20) (by simp only [ML, TL, Nat.reduceEqDiff, Nat.reduceLT, Nat.reduceLeDiff, Nat.reduceAdd, Nat.reduceMul, Nat.reduceSub, Int.reduceToNat, reduceCtorEq]) ?_
        intro rd b
        try simp only [↓MD, ↓actH, ↓builtinH, ↓builtinG, ↓builtinFT, MU, MB, MC, TT, Nat.reduceEqDiff, Nat.reduceLT, Nat.reduceLeDiff, Nat.reduceAdd, Nat.reduceMul, Nat.reduceSub, Int.reduceToNat, reduceCtorEq, Try.f80, hv_19]
        refine seqN TryT_eq rfl ?_
        obtain ⟨y_21, hy_21, hk_17⟩ := bS hk_17
        try simp only [↓MD, ↓actH, ↓builtinH, ↓builtinG, ↓builtinFT, MU, MB, MC, TT, Nat.reduceEqDiff, Nat.reduceLT, Nat.reduceLeDiff, Nat.reduceAdd, Nat.reduceMul, Nat.reduceSub, Int.reduceToNat, reduceCtorEq, Try.f80, hv_19]
        refine callG [] 9 rfl (by simp only [ML, TT, Nat.reduceEqDiff, Nat.reduceLT, Nat.reduceLeDiff, Nat.reduceAdd, Nat.reduceMul, Nat.reduceSub, Int.reduceToNat, reduceCtorEq, TL]) (by simp only [ML, TT, Nat.reduceEqDiff, Nat.reduceLT, Nat.reduceLeDiff, Nat.reduceAdd, Nat.reduceMul, Nat.reduceSub, Int.reduceToNat, reduceCtorEq, TL]) rfl (c_impl_WidthOf hy_21) (by simp only [ML, TL, Nat.reduceEqDiff, Nat.reduceLT, Nat.reduceLeDiff, Nat.reduceAdd, Nat.reduceMul, Nat.reduceSub, Int.reduceToNat, reduceCtorEq]) ?_
        intro rd b
        try simp only [↓MD, ↓actH, ↓builtinH, ↓builtinG, ↓builtinFT, MU, MB, MC, TT, Nat.reduceEqDiff, Nat.reduceLT, Nat.reduceLeDiff, Nat.reduceAdd, Nat.reduceMul, Nat.reduceSub, Int.reduceToNat, reduceCtorEq, Try.f80, hv_19]
        refine stIf hk_17 (fun hb_22 hk_17 => ?_) (fun hb_22 hk_17 => ?_)
        · obtain rfl := Option.some.inj hk_17
          try dsimp only at hy_7
          try simp only [↓MD, ↓actH, ↓builtinH, ↓builtinG, ↓builtinFT, MU, MB, MC, TT, Nat.reduceEqDiff, Nat.reduceLT, Nat.reduceLeDiff, Nat.reduceAdd, Nat.reduceMul, Nat.reduceSub, Int.reduceToNat, reduceCtorEq, Try.f80, hv_19]
          obtain rfl := Option.some.inj hy_7
          exact cutT_mk (field_8, many_10) rfl (weak_norm (ks := [4, 6]) (π := []) (fuel := 9) (by simp only [ML, Nat.reduceEqDiff, Nat.reduceLT, Nat.reduceLeDiff, Nat.reduceAdd, Nat.reduceMul, Nat.reduceSub, Int.reduceToNat, reduceCtorEq, TL, TT]))
        · obtain ⟨y_23, hy_23, hk_17⟩ := bS hk_17
          try simp only [↓MD, ↓actH, ↓builtinH, ↓builtinG, ↓builtinFT, MU, MB, MC, TT, Nat.reduceEqDiff, Nat.reduceLT, Nat.reduceLeDiff, Nat.reduceAdd, Nat.reduceMul, Nat.reduceSub, Int.reduceToNat, reduceCtorEq, Try.f80, hv_19]
          refine callG [] 9 rfl (by simp only [ML, TT, Nat.reduceEqDiff, Nat.reduceLT, Nat.reduceLeDiff, Nat.reduceAdd, Nat.reduceMul, Nat.reduceSub, Int.reduceToNat, reduceCtorEq, TL]) (by simp only [ML, TT, Nat.reduceEqDiff, Nat.reduceLT, Nat.reduceLeDiff, Nat.reduceAdd, Nat.reduceMul, Nat.reduceSub, Int.reduceToNat, reduceCtorEq, TL]) rfl (c_impl_WidthOf hy_23) (by simp only [ML, TL, Nat.reduceEqDiff, Nat.reduceLT, Nat.reduceLeDiff, Nat.reduceAdd, Nat.reduceMul, Nat.reduceSub, Int.reduceToNat, reduceCtorEq]) ?_
          intro rd b
          obtain ⟨y_24, hy_24, hk_17⟩ := bS hk_17
          try simp only [↓MD, ↓actH, ↓builtinH, ↓builtinG, ↓builtinFT, MU, MB, MC, TT, Nat.reduceEqDiff, Nat.reduceLT, Nat.reduceLeDiff, Nat.reduceAdd, Nat.reduceMul, Nat.reduceSub, Int.reduceToNat, reduceCtorEq, Try.f80, hv_19]
          refine callG [] 9 rfl (by simp only [ML, TT, Nat.reduceEqDiff, Nat.reduceLT, Nat.reduceLeDiff, Nat.reduceAdd, Nat.reduceMul, Nat.reduceSub, Int.reduceToNat, reduceCtorEq, TL]) (by simp only [ML, TT, Nat.reduceEqDiff, Nat.reduceLT, Nat.reduceLeDiff, Nat.reduceAdd, Nat.reduceMul, Nat.reduceSub, Int.reduceToNat, reduceCtorEq, TL]) rfl (c_impl_BitsOf hy_24) (by simp only [ML, TL, Nat.reduceEqDiff, Nat.reduceLT, Nat.reduceLeDiff, Nat.reduceAdd, Nat.reduceMul, Nat.reduceSub, Int.reduceToNat, reduceCtorEq]) ?_
          intro rd b
          obtain ⟨v_25, hv_25, hk_17⟩ := bS hk_17
          try simp only [↓MD, ↓actH, ↓builtinH, ↓builtinG, ↓builtinFT, MU, MB, MC, TT, Nat.reduceEqDiff, Nat.reduceLT, Nat.reduceLeDiff, Nat.reduceAdd, Nat.reduceMul, Nat.reduceSub, Int.reduceToNat, reduceCtorEq, Try.f80, hv_19, hv_25]
          exact ⟨(orI .u32 field_8 v_25, IntKind.wrap .i64 (left_9 - y_23), IntKind.wrap .i64 (many_10 + 1), IntKind.wrap .i64 (v_11 + 1)), hk_17, (weak_norm (ks := [0, 4, 5, 6, 13, 14]) (π := []) (fuel := 9) (by simp only [ML, Nat.reduceEqDiff, Nat.reduceLT, Nat.reduceLeDiff, Nat.reduceAdd, Nat.reduceMul, Nat.reduceSub, Int.reduceToNat, reduceCtorEq, TL, TT]))⟩
      · obtain rfl := Option.some.inj hk_17
        try dsimp only at hy_7
        try simp only [↓MD, ↓actH, ↓builtinH, ↓builtinG, ↓builtinFT, MU, MB, MC, TT, Nat.reduceEqDiff, Nat.reduceLT, Nat.reduceLeDiff, Nat.reduceAdd, Nat.reduceMul, Nat.reduceSub, Int.reduceToNat, reduceCtorEq, Try.f80]
        obtain rfl := Option.some.inj hy_7
        exact cutT_mk (field_8, many_10) rfl (weak_norm (ks := [4, 6]) (π := []) (fuel := 9) (by simp only [ML, Nat.reduceEqDiff, Nat.reduceLT, Nat.reduceLeDiff, Nat.reduceAdd, Nat.reduceMul, Nat.reduceSub, Int.reduceToNat, reduceCtorEq, TL, TT]))
    · rintro ⟨field_4, many_5⟩ hp
      replace hp := hp.symm; subst hp
      try dsimp only at h
      try simp only [↓MD, ↓actH, ↓builtinH, ↓builtinG, ↓builtinFT, MU, MB, MC, TT, Nat.reduceEqDiff, Nat.reduceLT, Nat.reduceLeDiff, Nat.reduceAdd, Nat.reduceMul, Nat.reduceSub, Int.reduceToNat, reduceCtorEq, Try.f80]
      obtain rfl := Option.some.inj h
      refine endT_of ?_ ⟨rfl, rfl⟩
      exact (weak_norm (ks := [0]) (π := []) (fuel := 9) (by simp only [ML, Nat.reduceEqDiff, Nat.reduceLT, Nat.reduceLeDiff, Nat.reduceAdd, Nat.reduceMul, Nat.reduceSub, Int.reduceToNat, reduceCtorEq, TL, TT]))
theorem c_impl_Pack {s_1 : Bs} {r : (List Int)} (h : g_impl_Pack s_1 = some r) : Ans Try.prog 72 [.one (.str s_1)] [] fun v h1 => v = .pv (.one (.arr 0 0 r.length)) ∧ h1 = [.live ⟨1, r.length, r.flatMap (eI .u32)⟩] := by
  refine ansK (P := fun _ => Try.prog) TryT_eq (fn := Try.f72) Try.func72 rfl ⟨by kernel_rfl, rfl, rfl, by kernel_rfl⟩ (by simp) (Weak.refl _ _) ?_
  rw [g_impl_Pack] at h
  have f1 := (show bldN 0 = 0 from rfl)
  have f2 := (show bldC [] = ([] : List Int).flatMap (eI .u32) from rfl)
  try simp only [↓MD, ↓actH, ↓builtinH, ↓builtinG, ↓builtinFT, MU, MB, MC, TT, Nat.reduceEqDiff, Nat.reduceLT, Nat.reduceLeDiff, Nat.reduceAdd, Nat.reduceMul, Nat.reduceSub, Int.reduceToNat, reduceCtorEq, Try.f72, f1, f2]
  obtain ⟨y_5, hy_6, h⟩ := bS h
  refine seqK TryT_eq (fun p : (List Int) => ⟨[(3, .pv (.one (.arr 0 0 p.length)))], [.live ⟨1, p.length, p.flatMap (eI .u32)⟩]⟩) (fun v => y_5 = v) (by rfl) ?_ ?_
  · try simp only [↓MD, ↓actH, ↓builtinH, ↓builtinG, ↓builtinFT, MU, MB, MC, TT, Nat.reduceEqDiff, Nat.reduceLT, Nat.reduceLeDiff, Nat.reduceAdd, Nat.reduceMul, Nat.reduceSub, Int.reduceToNat, reduceCtorEq, Try.f72, f1, f2]
    refine loopK TryT_eq (fun p : Bs × (List Int) => ⟨[(0, .pv (.one (.str p.1))), (3, .pv (.one (.arr 0 0 p.2.length)))], [.live ⟨1, p.2.length, p.2.flatMap (eI .u32)⟩]⟩) (fun k p => g_impl_Pack_l0 k p.1 p.2 = some y_5) (by kernel_rfl) bigK (s_1, ([] : List Int)) (weak_norm (ks := [0, 3]) (π := [0]) (fuel := 9) (by simp only [ML, Nat.reduceEqDiff, Nat.reduceLT, Nat.reduceLeDiff, Nat.reduceAdd, Nat.reduceMul, Nat.reduceSub, Int.reduceToNat, reduceCtorEq, TL, TT, fWin (eI_ok .u32) (n := 0) (xs := ([] : List Int)) (by simp)])) hy_6 (fun _ h => nomatch (show none = some _ from h)) ?_
    rintro k_7 ⟨s_2, out_3⟩ hk_8
    rw [g_impl_Pack_l0] at hk_8
    try dsimp only at hk_8
    try simp only [↓MD, ↓actH, ↓builtinH, ↓builtinG, ↓builtinFT, MU, MB, MC, TT, Nat.reduceEqDiff, Nat.reduceLT, Nat.reduceLeDiff, Nat.reduceAdd, Nat.reduceMul, Nat.reduceSub, Int.reduceToNat, reduceCtorEq, Try.f72]
    refine seqN TryT_eq rfl ?_
    obtain ⟨y_9, hy_9, hk_8⟩ := bS hk_8
    try simp only [↓MD, ↓actH, ↓builtinH, ↓builtinG, ↓builtinFT, MU, MB, MC, TT, Nat.reduceEqDiff, Nat.reduceLT, Nat.reduceLeDiff, Nat.reduceAdd, Nat.reduceMul, Nat.reduceSub, Int.reduceToNat, reduceCtorEq, Try.f72]
    refine callG [] 9 rfl (by simp only [ML, TT, Nat.reduceEqDiff, Nat.reduceLT, Nat.reduceLeDiff, Nat.reduceAdd, Nat.reduceMul, Nat.reduceSub, Int.reduceToNat, reduceCtorEq, TL]) (by simp only [ML, TT, Nat.reduceEqDiff, Nat.reduceLT, Nat.reduceLeDiff, Nat.reduceAdd, Nat.reduceMul, Nat.reduceSub, Int.reduceToNat, reduceCtorEq, TL]) rfl (c_impl_NameOk hy_9) (by simp only [ML, TL, Nat.reduceEqDiff, Nat.reduceLT, Nat.reduceLeDiff, Nat.reduceAdd, Nat.reduceMul, Nat.reduceSub, Int.reduceToNat, reduceCtorEq]) ?_
    intro rd b
    try simp only [↓MD, ↓actH, ↓builtinH, ↓builtinG, ↓builtinFT, MU, MB, MC, TT, Nat.reduceEqDiff, Nat.reduceLT, Nat.reduceLeDiff, Nat.reduceAdd, Nat.reduceMul, Nat.reduceSub, Int.reduceToNat, reduceCtorEq, Try.f72]
    refine stIf hk_8 (fun hb_10 hk_8 => ?_) (fun hb_10 hk_8 => ?_)
    · obtain ⟨y_11, hy_11, hk_8⟩ := bS hk_8
      try simp only [↓MD, ↓actH, ↓builtinH, ↓builtinG, ↓builtinFT, MU, MB, MC, TT, Nat.reduceEqDiff, Nat.reduceLT, Nat.reduceLeDiff, Nat.reduceAdd, Nat.reduceMul, Nat.reduceSub, Int.reduceToNat, reduceCtorEq, Try.f72]
      refine callG [] 9 rfl (by simp only [ML, TT, Nat.reduceEqDiff, Nat.reduceLT, Nat.reduceLeDiff, Nat.reduceAdd, Nat.reduceMul, Nat.reduceSub, Int.reduceToNat, reduceCtorEq, TL]) (by simp only [ML, TT, Nat.reduceEqDiff, Nat.reduceLT, Nat.reduceLeDiff, Nat.reduceAdd, Nat.reduceMul, Nat.reduceSub, Int.reduceToNat, reduceCtorEq, TL]) rfl (c_impl_PackOne hy_11) (by simp only [ML, TL, Nat.reduceEqDiff, Nat.reduceLT, Nat.reduceLeDiff, Nat.reduceAdd, Nat.reduceMul, Nat.reduceSub, Int.reduceToNat, reduceCtorEq]) ?_
      intro rd b
      obtain ⟨v_12, hv_12, hk_8⟩ := bS hk_8
      obtain ⟨v_13, hv_13, hk_8⟩ := bS hk_8
      have f3 := (show bldN 1 = 1 from rfl)
      have f4 := (show bldC [.int .u32 y_11.1] = [y_11.1].flatMap (eI .u32) from rfl)
      have f5 := (fWin (eI_ok .u32) (n := 1) (xs := [y_11.1]) (by simp))
      have f6 := (fApp hv_12 (n := out_3.length) (by simp) (m := 1) (by simp [bsOf]))
      have f7 := (fWin (eI_ok .u32) (n := out_3.length) (xs := out_3) (by simp))
      have f8 := (fCat (e := (eI .u32)) (ns := [y_11.1].flatMap (eI .u32)) hv_12 rfl)
      try simp only [↓MD, ↓actH, ↓builtinH, ↓builtinG, ↓builtinFT, MU, MB, MC, TT, Nat.reduceEqDiff, Nat.reduceLT, Nat.reduceLeDiff, Nat.reduceAdd, Nat.reduceMul, Nat.reduceSub, Int.reduceToNat, reduceCtorEq, Try.f72, f3, f4, f5, f6, f7, f8, hv_13]
      exact ⟨(v_13, v_12), hk_8, (weak_norm (ks := [0, 3]) (π := [2]) (fuel := 9) (by simp only [ML, Nat.reduceEqDiff, Nat.reduceLT, Nat.reduceLeDiff, Nat.reduceAdd, Nat.reduceMul, Nat.reduceSub, Int.reduceToNat, reduceCtorEq, TL, TT]))⟩
    · try simp only [↓MD, ↓actH, ↓builtinH, ↓builtinG, ↓builtinFT, MU, MB, MC, TT, Nat.reduceEqDiff, Nat.reduceLT, Nat.reduceLeDiff, Nat.reduceAdd, Nat.reduceMul, Nat.reduceSub, Int.reduceToNat, reduceCtorEq, Try.f72]
      obtain rfl := Option.some.inj hk_8
      exact cutT_mk out_3 rfl (weak_norm (ks := [3]) (π := [0]) (fuel := 9) (by simp only [ML, Nat.reduceEqDiff, Nat.reduceLT, Nat.reduceLeDiff, Nat.reduceAdd, Nat.reduceMul, Nat.reduceSub, Int.reduceToNat, reduceCtorEq, TL, TT]))
  · rintro out_4 hp
    replace hp := hp.symm; subst hp
    try dsimp only at h
    try simp only [↓MD, ↓actH, ↓builtinH, ↓builtinG, ↓builtinFT, MU, MB, MC, TT, Nat.reduceEqDiff, Nat.reduceLT, Nat.reduceLeDiff, Nat.reduceAdd, Nat.reduceMul, Nat.reduceSub, Int.reduceToNat, reduceCtorEq, Try.f72]
    obtain rfl := Option.some.inj h
    refine endT_of ?_ ⟨rfl, rfl⟩
    exact (weak_norm (ks := [0]) (π := [0]) (fuel := 9) (by simp only [ML, Nat.reduceEqDiff, Nat.reduceLT, Nat.reduceLeDiff, Nat.reduceAdd, Nat.reduceMul, Nat.reduceSub, Int.reduceToNat, reduceCtorEq, TL, TT]))
theorem c_slices_Equal_uint32 {s1_1 : List Int} {s2_2 : List Int} {r : Bool} (h : g_slices_Equal_uint32 s1_1 s2_2 = some r) : Ans Try.prog 68 [.one (.imm 1 s1_1.length (s1_1.flatMap (eI .u32))), .one (.imm 1 s2_2.length (s2_2.flatMap (eI .u32)))] [] fun v h1 => v = .pv (.one (.bool r)) ∧ h1 = [] := by
  refine ansK (P := fun _ => Try.prog) TryT_eq (fn := Try.f68) Try.func68 rfl ⟨by kernel_rfl, rfl, rfl, by kernel_rfl⟩ (by simp) (Weak.refl _ _) ?_
  rw [g_slices_Equal_uint32] at h
  try simp only [↓MD, ↓actH, ↓builtinH, ↓builtinG, ↓builtinFT, MU, MB, MC, TT, Nat.reduceEqDiff, Nat.reduceLT, Nat.reduceLeDiff, Nat.reduceAdd, Nat.reduceMul, Nat.reduceSub, Int.reduceToNat, reduceCtorEq, Try.f68]
  refine seqN TryT_eq rfl ?_
  try simp only [↓MD, ↓actH, ↓builtinH, ↓builtinG, ↓builtinFT, MU, MB, MC, TT, Nat.reduceEqDiff, Nat.reduceLT, Nat.reduceLeDiff, Nat.reduceAdd, Nat.reduceMul, Nat.reduceSub, Int.reduceToNat, reduceCtorEq, Try.f68]
  refine stIf h (fun hb_3 h => ?_) (fun hb_3 h => ?_)
  · try simp only [↓MD, ↓actH, ↓builtinH, ↓builtinG, ↓builtinFT, MU, MB, MC, TT, Nat.reduceEqDiff, Nat.reduceLT, Nat.reduceLeDiff, Nat.reduceAdd, Nat.reduceMul, Nat.reduceSub, Int.reduceToNat, reduceCtorEq, Try.f68]
    obtain rfl := Option.some.inj h
    refine endT_of ?_ ⟨rfl, rfl⟩
    exact (weak_norm (ks := [0]) (π := []) (fuel := 9) (by simp only [ML, Nat.reduceEqDiff, Nat.reduceLT, Nat.reduceLeDiff, Nat.reduceAdd, Nat.reduceMul, Nat.reduceSub, Int.reduceToNat, reduceCtorEq, TL, TT]))
  · try simp only [↓MD, ↓actH, ↓builtinH, ↓builtinG, ↓builtinFT, MU, MB, MC, TT, Nat.reduceEqDiff, Nat.reduceLT, Nat.reduceLeDiff, Nat.reduceAdd, Nat.reduceMul, Nat.reduceSub, Int.reduceToNat, reduceCtorEq, Try.f68]
    obtain ⟨y_4, hy_5, h⟩ := bS h
    refine seqK TryT_eq (fun p : Unit => ⟨[], []⟩) (fun v => y_4 = .inl v) (by rfl) ?_ ?_
    · try simp only [↓MD, ↓actH, ↓builtinH, ↓builtinG, ↓builtinFT, MU, MB, MC, TT, Nat.reduceEqDiff, Nat.reduceLT, Nat.reduceLeDiff, Nat.reduceAdd, Nat.reduceMul, Nat.reduceSub, Int.reduceToNat, reduceCtorEq, Try.f68]
      obtain ⟨y_7, hy_8, hy_5⟩ := bS hy_5
      refine loopK TryT_eq (fun p : Int => ⟨[(0, .pv (.one (.imm 1 s1_1.length (s1_1.flatMap (eI .u32))))), (1, .pv (.one (.imm 1 s2_2.length (s2_2.flatMap (eI .u32))))), (12, .pv (.one (.int .i64 (s1_1.length : Int)))), (13, .pv (.one (.int .i64 p)))], []⟩) (fun k p => g_slices_Equal_uint32_l0 s1_1 s2_2 k p = some y_7) (by kernel_rfl) bigK 0 (weak_norm (ks := [0, 1, 12, 13]) (π := []) (fuel := 9) (by simp only [ML, Nat.reduceEqDiff, Nat.reduceLT, Nat.reduceLeDiff, Nat.reduceAdd, Nat.reduceMul, Nat.reduceSub, Int.reduceToNat, reduceCtorEq, TL, TT])) hy_8 (fun _ h => nomatch (show none = some _ from h)) ?_
      rintro k_9 v_6 hk_10
      rw [g_slices_Equal_uint32_l0] at hk_10
      try dsimp only at hk_10
      try simp only [↓MD, ↓actH, ↓builtinH, ↓builtinG, ↓builtinFT, MU, MB, MC, TT, Nat.reduceEqDiff, Nat.reduceLT, Nat.reduceLeDiff, Nat.reduceAdd, Nat.reduceMul, Nat.reduceSub, Int.reduceToNat, reduceCtorEq, Try.f68]
      refine seqN TryT_eq rfl ?_
      try simp only [↓MD, ↓actH, ↓builtinH, ↓builtinG, ↓builtinFT, MU, MB, MC, TT, Nat.reduceEqDiff, Nat.reduceLT, Nat.reduceLeDiff, Nat.reduceAdd, Nat.reduceMul, Nat.reduceSub, Int.reduceToNat, reduceCtorEq, Try.f68]
      refine stIf hk_10 (fun hb_11 hk_10 => ?_) (fun hb_11 hk_10 => ?_)
      · try simp only [↓MD, ↓actH, ↓builtinH, ↓builtinG, ↓builtinFT, MU, MB, MC, TT, Nat.reduceEqDiff, Nat.reduceLT, Nat.reduceLeDiff, Nat.reduceAdd, Nat.reduceMul, Nat.reduceSub, Int.reduceToNat, reduceCtorEq, Try.f68]
        refine seqN TryT_eq rfl ?_
        obtain ⟨v_12, hv_12, hk_10⟩ := bS hk_10
        obtain ⟨v_13, hv_13, hk_10⟩ := bS hk_10
        have f1 := (fAt (eI_ok .u32) hv_12 (n := s1_1.length) (by simp))
        have f2 := (fAt (eI_ok .u32) hv_13 (n := s2_2.length) (by simp))
        try simp only [↓MD, ↓actH, ↓builtinH, ↓builtinG, ↓builtinFT, MU, MB, MC, TT, Nat.reduceEqDiff, Nat.reduceLT, Nat.reduceLeDiff, Nat.reduceAdd, Nat.reduceMul, Nat.reduceSub, Int.reduceToNat, reduceCtorEq, Try.f68, f1, f2]
        refine ⟨rfl, ?_⟩
        try simp only [↓MD, ↓actH, ↓builtinH, ↓builtinG, ↓builtinFT, MU, MB, MC, TT, Nat.reduceEqDiff, Nat.reduceLT, Nat.reduceLeDiff, Nat.reduceAdd, Nat.reduceMul, Nat.reduceSub, Int.reduceToNat, reduceCtorEq, Try.f68, f1, f2]
        refine stIf hk_10 (fun hb_14 hk_10 => ?_) (fun hb_14 hk_10 => ?_)
        · obtain rfl := Option.some.inj hk_10
          try dsimp only at hy_5
          obtain rfl := Option.some.inj hy_5
          try dsimp only at h
          try simp only [↓MD, ↓actH, ↓builtinH, ↓builtinG, ↓builtinFT, MU, MB, MC, TT, Nat.reduceEqDiff, Nat.reduceLT, Nat.reduceLeDiff, Nat.reduceAdd, Nat.reduceMul, Nat.reduceSub, Int.reduceToNat, reduceCtorEq, Try.f68, f1, f2]
          obtain rfl := Option.some.inj h
          refine endT_of ?_ ⟨rfl, rfl⟩
          exact (weak_norm (ks := [0]) (π := []) (fuel := 9) (by simp only [ML, Nat.reduceEqDiff, Nat.reduceLT, Nat.reduceLeDiff, Nat.reduceAdd, Nat.reduceMul, Nat.reduceSub, Int.reduceToNat, reduceCtorEq, TL, TT]))
        · try simp only [↓MD, ↓actH, ↓builtinH, ↓builtinG, ↓builtinFT, MU, MB, MC, TT, Nat.reduceEqDiff, Nat.reduceLT, Nat.reduceLeDiff, Nat.reduceAdd, Nat.reduceMul, Nat.reduceSub, Int.reduceToNat, reduceCtorEq, Try.f68, f1, f2]
          exact ⟨IntKind.wrap .i64 (v_6 + 1), hk_10, (weak_norm (ks := [0, 1, 12, 13]) (π := []) (fuel := 9) (by simp only [ML, Nat.reduceEqDiff, Nat.reduceLT, Nat.reduceLeDiff, Nat.reduceAdd, Nat.reduceMul, Nat.reduceSub, Int.reduceToNat, reduceCtorEq, TL, TT]))⟩
      · obtain rfl := Option.some.inj hk_10
        try dsimp only at hy_5
        try simp only [↓MD, ↓actH, ↓builtinH, ↓builtinG, ↓builtinFT, MU, MB, MC, TT, Nat.reduceEqDiff, Nat.reduceLT, Nat.reduceLeDiff, Nat.reduceAdd, Nat.reduceMul, Nat.reduceSub, Int.reduceToNat, reduceCtorEq, Try.f68]
        obtain rfl := Option.some.inj hy_5
        exact cutT_mk () (by trivial) (weak_norm (ks := []) (π := []) (fuel := 9) (by simp only [ML, Nat.reduceEqDiff, Nat.reduceLT, Nat.reduceLeDiff, Nat.reduceAdd, Nat.reduceMul, Nat.reduceSub, Int.reduceToNat, reduceCtorEq, TL, TT]))
    · rintro _ hp
      replace hp := hp.symm; subst hp
      try dsimp only at h
      try simp only [↓MD, ↓actH, ↓builtinH, ↓builtinG, ↓builtinFT, MU, MB, MC, TT, Nat.reduceEqDiff, Nat.reduceLT, Nat.reduceLeDiff, Nat.reduceAdd, Nat.reduceMul, Nat.reduceSub, Int.reduceToNat, reduceCtorEq, Try.f68]
      obtain rfl := Option.some.inj h
      refine endT_of ?_ ⟨rfl, rfl⟩
      exact (weak_norm (ks := [0]) (π := []) (fuel := 9) (by simp only [ML, Nat.reduceEqDiff, Nat.reduceLT, Nat.reduceLeDiff, Nat.reduceAdd, Nat.reduceMul, Nat.reduceSub, Int.reduceToNat, reduceCtorEq, TL, TT]))
end Go.Proofs.Ytkjjcpgickjidaa
