import Derived.Test.YtigaffddnidkpaaGD
namespace Go.Proofs.Ytigaffddnidkpaa
open Go Go.Fm
open Nat renaming reduceEqDiff → r1, reduceLT → r2, reduceLeDiff → r3, reduceAdd → r4, reduceMul → r5, reduceSub → r6
open Int renaming reduceToNat → r7
set_option maxRecDepth 100000
set_option linter.unusedVariables false
set_option linter.unusedSimpArgs false
theorem c_laws_big {code_1 : List Int} {r : Bool} (h : g_laws_big code_1 = some r) : Ans Try.prog 10 [.one (.imm 1 code_1.length (code_1.flatMap (eI .u8)))] [] fun v h1 => v = .pv (.one (.bool r)) ∧ h1 = [] := by
  refine ansK (P := fun _ => Try.prog) TryT_eq (fn := Try.f10) Try.func10 rfl ⟨by kernel_rfl, rfl, rfl, by kernel_rfl⟩ (by simp) (Weak.refl _ _) ?_
  rw [g_laws_big] at h
  try simp only [↓DN, UP, r1, r2, r3, r4, r5, r6, r7, reduceCtorEq, Try.f10]
  obtain rfl := Option.some.inj h
  refine endT_of ?_ ⟨rfl, rfl⟩
  exact (wn [0] [])
theorem c_spec_l01New {code_1 : List Int} {r : GL01Cur} (h : g_spec_l01New code_1 = some r) : Ans Try.prog 17 [.one (.imm 1 code_1.length (code_1.flatMap (eI .u8)))] [] fun v h1 => v = .pv (.one (.ptr 0 0)) ∧ h1 = [.live ⟨1, 3, [.imm 1 r.b.length (r.b.flatMap (eI .u8)), .int .i64 r.i, .int .i64 r.h]⟩] := by
  refine ansK (P := fun _ => Try.prog) TryT_eq (fn := Try.f17) Try.func17 rfl ⟨by kernel_rfl, rfl, rfl, by kernel_rfl⟩ (by simp) (Weak.refl _ _) ?_
  rw [g_spec_l01New] at h
  try simp only [↓DN, UP, r1, r2, r3, r4, r5, r6, r7, reduceCtorEq, Try.f17]
  obtain ⟨y_3, hy_4, h⟩ := bS h
  refine seqK TryT_eq (fun p : Int => ⟨[(0, .pv (.one (.imm 1 code_1.length (code_1.flatMap (eI .u8))))), (3, .pv (.one (.int .i64 p)))], []⟩) (fun v => y_3 = v) (by rfl) ?_ ?_
  · try simp only [↓DN, UP, r1, r2, r3, r4, r5, r6, r7, reduceCtorEq, Try.f17]
    obtain ⟨y_8, hy_9, hy_4⟩ := bS hy_4
    refine loopK TryT_eq (fun p : Int × Int => ⟨[(0, .pv (.one (.imm 1 code_1.length (code_1.flatMap (eI .u8))))), (3, .pv (.one (.int .i64 p.1))), (4, .pv (.one (.int .i64 p.2)))], []⟩) (fun k p => g_spec_l01New_l0 code_1 k p.1 p.2 = some y_8) (by kernel_rfl) bigK (IntKind.wrap .i64 (711711 + (code_1.length : Int)), 0) (wn [0, 3, 4] []) hy_9 (fun _ h => nomatch (show none = some _ from h)) ?_
    rintro k_10 ⟨h_5, i_6⟩ hk_11
    rw [g_spec_l01New_l0] at hk_11
    try dsimp only at hk_11
    try simp only [↓DN, UP, r1, r2, r3, r4, r5, r6, r7, reduceCtorEq, Try.f17]
    refine seqN TryT_eq rfl ?_
    try simp only [↓DN, UP, r1, r2, r3, r4, r5, r6, r7, reduceCtorEq, Try.f17]
    obtain ⟨y_13, hy_14, hk_11⟩ := bS hk_11
    refine seqK TryT_eq (fun p : Bool => ⟨[(0, .pv (.one (.imm 1 code_1.length (code_1.flatMap (eI .u8))))), (3, .pv (.one (.int .i64 h_5))), (4, .pv (.one (.int .i64 i_6))), (15, .pv (.one (.bool p)))], []⟩) (fun v => y_13 = v) (by rfl) ?_ ?_
    · try simp only [↓DN, UP, r1, r2, r3, r4, r5, r6, r7, reduceCtorEq, Try.f17]
      refine stIf hy_14 (fun hb_15 hy_14 => ?_) (fun hb_15 hy_14 => ?_)
      · try simp only [↓DN, UP, r1, r2, r3, r4, r5, r6, r7, reduceCtorEq, Try.f17, hb_15]
        obtain rfl := Option.some.inj hy_14
        exact cutT_mk (decide (i_6 < 4000)) rfl (wn [0, 3, 4, 15] [])
      · try simp only [↓DN, UP, r1, r2, r3, r4, r5, r6, r7, reduceCtorEq, Try.f17, hb_15]
        obtain rfl := Option.some.inj hy_14
        exact cutT_mk false rfl (wn [0, 3, 4, 15] [])
    · rintro v_12 hp
      replace hp := hp.symm; subst hp
      try dsimp only at hk_11
      try simp only [↓DN, UP, r1, r2, r3, r4, r5, r6, r7, reduceCtorEq, Try.f17]
      refine stIf hk_11 (fun hb_16 hk_11 => ?_) (fun hb_16 hk_11 => ?_)
      · try simp only [↓DN, UP, r1, r2, r3, r4, r5, r6, r7, reduceCtorEq, Try.f17]
        refine seqN TryT_eq rfl ?_
        obtain ⟨v_17, hv_17, hk_11⟩ := bS hk_11
        have f1 := (fAt (eI_ok .u8) hv_17 (n := code_1.length) (by simp))
        try simp only [↓DN, UP, r1, r2, r3, r4, r5, r6, r7, reduceCtorEq, Try.f17, f1]
        exact ⟨(andI .i64 (IntKind.wrap .i64 ((IntKind.wrap .i64 ((IntKind.wrap .i64 (h_5 * 131)) + (IntKind.wrap .i64 v_17))) + 7)) 1073741823, IntKind.wrap .i64 (i_6 + 1)), hk_11, (wn [0, 3, 4] [])⟩
      · obtain rfl := Option.some.inj hk_11
        try dsimp only at hy_4
        try simp only [↓DN, UP, r1, r2, r3, r4, r5, r6, r7, reduceCtorEq, Try.f17]
        obtain rfl := Option.some.inj hy_4
        exact cutT_mk h_5 rfl (wn [0, 3] [])
  · rintro h_2 hp
    replace hp := hp.symm; subst hp
    try dsimp only at h
    try simp only [↓DN, UP, r1, r2, r3, r4, r5, r6, r7, reduceCtorEq, Try.f17]
    obtain rfl := Option.some.inj h
    refine endT_of ?_ ⟨rfl, rfl⟩
    exact (wn [0] [0])
theorem c_spec_l01Byte {c_1 : GL01Cur} {r : Int × GL01Cur} (h : g_spec_l01Byte c_1 = some r) : Ans Try.prog 25 [.one (.ptr 0 0)] [.live ⟨1, 3, [.imm 1 c_1.b.length (c_1.b.flatMap (eI .u8)), .int .i64 c_1.i, .int .i64 c_1.h]⟩] fun v h1 => v = .pv (.one (.int .i64 r.1)) ∧ h1 = [.live ⟨1, 3, [.imm 1 r.2.b.length (r.2.b.flatMap (eI .u8)), .int .i64 r.2.i, .int .i64 r.2.h]⟩] := by
  refine ansK (P := fun _ => Try.prog) TryT_eq (fn := Try.f25) Try.func25 rfl ⟨by kernel_rfl, rfl, rfl, by kernel_rfl⟩ (by simp) (Weak.refl _ _) ?_
  rw [g_spec_l01Byte] at h
  have f1 := (shrI_lit (k := .i64) (a := IntKind.wrap .i64 ((IntKind.wrap .i64 (c_1.h * 6364136223846793005)) + 1442695040888963407)) (b := 33) (m := 8589934592) (by decide) (by decide))
  have f2 := (shrI_lit (k := .i64) (a := IntKind.wrap .i64 ((IntKind.wrap .i64 (c_1.h * 6364136223846793005)) + 1442695040888963407)) (b := 45) (m := 35184372088832) (by decide) (by decide))
  try simp only [↓DN, UP, r1, r2, r3, r4, r5, r6, r7, reduceCtorEq, Try.f25, f1, f2]
  refine ⟨rfl, ?_⟩
  try simp only [↓DN, UP, r1, r2, r3, r4, r5, r6, r7, reduceCtorEq, Try.f25, f1, f2]
  obtain ⟨y_4, hy_5, h⟩ := bS h
  refine seqK TryT_eq (fun p : GL01Cur × Int => ⟨[(3, .pv (.one (.int .i64 p.2)))], [.live ⟨1, 3, [.imm 1 p.1.b.length (p.1.b.flatMap (eI .u8)), .int .i64 p.1.i, .int .i64 p.1.h]⟩]⟩) (fun v => y_4 = v) (by rfl) ?_ ?_
  · try simp only [↓DN, UP, r1, r2, r3, r4, r5, r6, r7, reduceCtorEq, Try.f25, f1, f2]
    refine ⟨rfl, ?_⟩
    try simp only [↓DN, UP, r1, r2, r3, r4, r5, r6, r7, reduceCtorEq, Try.f25, f1, f2]
    refine stIf hy_5 (fun hb_6 hy_5 => ?_) (fun hb_6 hy_5 => ?_)
    · obtain ⟨v_7, hv_7, hy_5⟩ := bS hy_5
      have f3 := (fAt (eI_ok .u8) hv_7 (n := c_1.b.length) (by simp))
      try simp only [↓DN, UP, r1, r2, r3, r4, r5, r6, r7, reduceCtorEq, Try.f25, f1, f2, f3]
      refine ⟨rfl, ?_⟩
      try simp only [↓DN, UP, r1, r2, r3, r4, r5, r6, r7, reduceCtorEq, Try.f25, f1, f2, f3]
      obtain rfl := Option.some.inj hy_5
      exact cutT_mk ((⟨c_1.b, IntKind.wrap .i64 (c_1.i + 1), IntKind.wrap .i64 ((IntKind.wrap .i64 (c_1.h * 6364136223846793005)) + 1442695040888963407)⟩ : GL01Cur), andI .i64 (IntKind.wrap .i64 ((andI .i64 (xorI .i64 ((IntKind.wrap .i64 ((IntKind.wrap .i64 (c_1.h * 6364136223846793005)) + 1442695040888963407)) / 8589934592) ((IntKind.wrap .i64 ((IntKind.wrap .i64 (c_1.h * 6364136223846793005)) + 1442695040888963407)) / 35184372088832)) 255) + (IntKind.wrap .i64 v_7))) 255) rfl (wn [3] [0])
    · try simp only [↓DN, UP, r1, r2, r3, r4, r5, r6, r7, reduceCtorEq, Try.f25, f1, f2]
      obtain rfl := Option.some.inj hy_5
      exact cutT_mk ((⟨c_1.b, c_1.i, IntKind.wrap .i64 ((IntKind.wrap .i64 (c_1.h * 6364136223846793005)) + 1442695040888963407)⟩ : GL01Cur), andI .i64 (xorI .i64 ((IntKind.wrap .i64 ((IntKind.wrap .i64 (c_1.h * 6364136223846793005)) + 1442695040888963407)) / 8589934592) ((IntKind.wrap .i64 ((IntKind.wrap .i64 (c_1.h * 6364136223846793005)) + 1442695040888963407)) / 35184372088832)) 255) rfl (wn [3] [0])
  · rintro ⟨p_2, x_3⟩ hp
    replace hp := hp.symm; subst hp
    try dsimp only at h
    try simp only [↓DN, UP, r1, r2, r3, r4, r5, r6, r7, reduceCtorEq, Try.f25]
    obtain rfl := Option.some.inj h
    refine endT_of ?_ ⟨rfl, rfl⟩
    exact (wn [0] [0])
theorem c_spec_l01Below {c_1 : GL01Cur} {n_2 : Int} {r : Int × GL01Cur} (h : g_spec_l01Below c_1 n_2 = some r) : Ans Try.prog 20 [.one (.ptr 0 0), .one (.int .i64 n_2)] [.live ⟨1, 3, [.imm 1 c_1.b.length (c_1.b.flatMap (eI .u8)), .int .i64 c_1.i, .int .i64 c_1.h]⟩] fun v h1 => v = .pv (.one (.int .i64 r.1)) ∧ h1 = [.live ⟨1, 3, [.imm 1 r.2.b.length (r.2.b.flatMap (eI .u8)), .int .i64 r.2.i, .int .i64 r.2.h]⟩] := by
  refine ansK (P := fun _ => Try.prog) TryT_eq (fn := Try.f20) Try.func20 rfl ⟨by kernel_rfl, rfl, rfl, by kernel_rfl⟩ (by simp) (Weak.refl _ _) ?_
  rw [g_spec_l01Below] at h
  try simp only [↓DN, UP, r1, r2, r3, r4, r5, r6, r7, reduceCtorEq, Try.f20]
  refine seqN TryT_eq rfl ?_
  try simp only [↓DN, UP, r1, r2, r3, r4, r5, r6, r7, reduceCtorEq, Try.f20]
  refine stIf h (fun hb_3 h => ?_) (fun hb_3 h => ?_)
  · try simp only [↓DN, UP, r1, r2, r3, r4, r5, r6, r7, reduceCtorEq, Try.f20]
    obtain rfl := Option.some.inj h
    refine endT_of ?_ ⟨rfl, rfl⟩
    exact (wn [0] [0])
  · try simp only [↓DN, UP, r1, r2, r3, r4, r5, r6, r7, reduceCtorEq, Try.f20]
    refine seqN TryT_eq rfl ?_
    try simp only [↓DN, UP, r1, r2, r3, r4, r5, r6, r7, reduceCtorEq, Try.f20]
    refine stIf h (fun hb_4 h => ?_) (fun hb_4 h => ?_)
    · obtain ⟨y_5, hy_5, h⟩ := bS h
      try simp only [↓DN, UP, r1, r2, r3, r4, r5, r6, r7, reduceCtorEq, Try.f20]
      refine callE [0] 9 rfl rfl rfl rfl (c_spec_l01Byte hy_5) rfl ?_
      obtain ⟨v_6, hv_6, h⟩ := bS h
      try simp only [↓DN, UP, r1, r2, r3, r4, r5, r6, r7, reduceCtorEq, Try.f20, hv_6]
      obtain rfl := Option.some.inj h
      refine endT_of ?_ ⟨rfl, rfl⟩
      exact (wn [0] [0])
    · obtain ⟨y_7, hy_7, h⟩ := bS h
      try simp only [↓DN, UP, r1, r2, r3, r4, r5, r6, r7, reduceCtorEq, Try.f20]
      refine callE [0] 9 rfl rfl rfl rfl (c_spec_l01Byte hy_7) rfl ?_
      obtain ⟨y_8, hy_8, h⟩ := bS h
      try simp only [↓DN, UP, r1, r2, r3, r4, r5, r6, r7, reduceCtorEq, Try.f20]
      refine callE [0] 9 rfl rfl rfl rfl (c_spec_l01Byte hy_8) rfl ?_
      obtain ⟨y_9, hy_9, h⟩ := bS h
      try simp only [↓DN, UP, r1, r2, r3, r4, r5, r6, r7, reduceCtorEq, Try.f20]
      refine callE [0] 9 rfl rfl rfl rfl (c_spec_l01Byte hy_9) rfl ?_
      obtain ⟨y_10, hy_10, h⟩ := bS h
      try simp only [↓DN, UP, r1, r2, r3, r4, r5, r6, r7, reduceCtorEq, Try.f20]
      refine callE [0] 9 rfl rfl rfl rfl (c_spec_l01Byte hy_10) rfl ?_
      obtain ⟨v_11, hv_11, h⟩ := bS h
      try simp only [↓DN, UP, r1, r2, r3, r4, r5, r6, r7, reduceCtorEq, Try.f20, hv_11]
      obtain rfl := Option.some.inj h
      refine endT_of ?_ ⟨rfl, rfl⟩
      exact (wn [0] [0])
theorem c_spec_l01Once {c_1 : GL01Cur} {n_2 : Int} {r : Bool × GL01Cur} (h : g_spec_l01Once c_1 n_2 = some r) : Ans Try.prog 19 [.one (.ptr 0 0), .one (.int .i64 n_2)] [.live ⟨1, 3, [.imm 1 c_1.b.length (c_1.b.flatMap (eI .u8)), .int .i64 c_1.i, .int .i64 c_1.h]⟩] fun v h1 => v = .pv (.one (.bool r.1)) ∧ h1 = [.live ⟨1, 3, [.imm 1 r.2.b.length (r.2.b.flatMap (eI .u8)), .int .i64 r.2.i, .int .i64 r.2.h]⟩] := by
  refine ansK (P := fun _ => Try.prog) TryT_eq (fn := Try.f19) Try.func19 rfl ⟨by kernel_rfl, rfl, rfl, by kernel_rfl⟩ (by simp) (Weak.refl _ _) ?_
  rw [g_spec_l01Once] at h
  obtain ⟨y_3, hy_3, h⟩ := bS h
  try simp only [↓DN, UP, r1, r2, r3, r4, r5, r6, r7, reduceCtorEq, Try.f19]
  refine callE [0] 9 rfl rfl rfl rfl (c_spec_l01Below hy_3) rfl ?_
  try simp only [↓DN, UP, r1, r2, r3, r4, r5, r6, r7, reduceCtorEq, Try.f19]
  obtain rfl := Option.some.inj h
  refine endT_of ?_ ⟨rfl, rfl⟩
  exact (wn [0] [0])
theorem c_spec_l01PickInt {c_1 : GL01Cur} {list_2 : List Int} {r : Int × GL01Cur} (h : g_spec_l01PickInt c_1 list_2 = some r) : Ans Try.prog 30 [.one (.ptr 0 0), .one (.imm 1 list_2.length (list_2.flatMap (eI .i64)))] [.live ⟨1, 3, [.imm 1 c_1.b.length (c_1.b.flatMap (eI .u8)), .int .i64 c_1.i, .int .i64 c_1.h]⟩] fun v h1 => v = .pv (.one (.int .i64 r.1)) ∧ h1 = [.live ⟨1, 3, [.imm 1 r.2.b.length (r.2.b.flatMap (eI .u8)), .int .i64 r.2.i, .int .i64 r.2.h]⟩] := by
  refine ansK (P := fun _ => Try.prog) TryT_eq (fn := Try.f30) Try.func30 rfl ⟨by kernel_rfl, rfl, rfl, by kernel_rfl⟩ (by simp) (Weak.refl _ _) ?_
  rw [g_spec_l01PickInt] at h
  obtain ⟨y_3, hy_3, h⟩ := bS h
  try simp only [↓DN, UP, r1, r2, r3, r4, r5, r6, r7, reduceCtorEq, Try.f30]
  refine callE [0] 9 rfl rfl rfl rfl (c_spec_l01Below hy_3) rfl ?_
  obtain ⟨v_4, hv_4, h⟩ := bS h
  have f1 := (fAt (eI_ok .i64) hv_4 (n := list_2.length) (by simp))
  try simp only [↓DN, UP, r1, r2, r3, r4, r5, r6, r7, reduceCtorEq, Try.f30, f1]
  obtain rfl := Option.some.inj h
  refine endT_of ?_ ⟨rfl, rfl⟩
  exact (wn [0] [0])
theorem c_spec_l04Int {c_1 : GL01Cur} {r : Int × GL01Cur} (h : g_spec_l04Int c_1 = some r) : Ans Try.prog 26 [.one (.ptr 0 0)] [.live ⟨1, 3, [.imm 1 c_1.b.length (c_1.b.flatMap (eI .u8)), .int .i64 c_1.i, .int .i64 c_1.h]⟩] fun v h1 => v = .pv (.one (.int .i32 r.1)) ∧ h1 = [.live ⟨1, 3, [.imm 1 r.2.b.length (r.2.b.flatMap (eI .u8)), .int .i64 r.2.i, .int .i64 r.2.h]⟩] := by
  refine ansK (P := fun _ => Try.prog) TryT_eq (fn := Try.f26) Try.func26 rfl ⟨by kernel_rfl, rfl, rfl, by kernel_rfl⟩ (by simp) (Weak.refl _ _) ?_
  rw [g_spec_l04Int] at h
  try simp only [↓DN, UP, r1, r2, r3, r4, r5, r6, r7, reduceCtorEq, Try.f26]
  refine seqN TryT_eq rfl ?_
  obtain ⟨y_2, hy_2, h⟩ := bS h
  try simp only [↓DN, UP, r1, r2, r3, r4, r5, r6, r7, reduceCtorEq, Try.f26]
  refine callE [0] 9 rfl rfl rfl rfl (c_spec_l01Once hy_2) rfl ?_
  try simp only [↓DN, UP, r1, r2, r3, r4, r5, r6, r7, reduceCtorEq, Try.f26]
  refine stIf h (fun hb_3 h => ?_) (fun hb_3 h => ?_)
  · obtain ⟨y_4, hy_4, h⟩ := bS h
    try simp only [↓DN, UP, r1, r2, r3, r4, r5, r6, r7, reduceCtorEq, Try.f26]
    refine callE [0] 9 rfl rfl rfl rfl (c_spec_l01Below hy_4) rfl ?_
    try simp only [↓DN, UP, r1, r2, r3, r4, r5, r6, r7, reduceCtorEq, Try.f26]
    obtain rfl := Option.some.inj h
    refine endT_of ?_ ⟨rfl, rfl⟩
    exact (wn [0] [0])
  · obtain ⟨y_5, hy_5, h⟩ := bS h
    have f1 := (show bldN 9 = 9 from rfl)
    have f2 := (show bldC [.int .i64 0, .int .i64 67108863, .int .i64 67108864, .int .i64 (-67108864), .int .i64 (-67108865), .int .i64 2147483647, .int .i64 (-2147483648), .int .i64 1000000, .int .i64 (-1)] = [0, 67108863, 67108864, (-67108864), (-67108865), 2147483647, (-2147483648), 1000000, (-1)].flatMap (eI .i64) from rfl)
    try simp only [↓DN, UP, r1, r2, r3, r4, r5, r6, r7, reduceCtorEq, Try.f26, f1, f2]
    refine callGz [1] [0, 1] [0] 9 rfl rfl (by simp only [WL, MZ, r1, r2, r3, r4, r5, r6, r7, reduceCtorEq, fWin (eI_ok .i64) (n := 9) (xs := [0, 67108863, 67108864, (-67108864), (-67108865), 2147483647, (-2147483648), 1000000, (-1)]) (by simp)]) (by simp only [WL, MZ, r1, r2, r3, r4, r5, r6, r7, reduceCtorEq, fWin (eI_ok .i64) (n := 9) (xs := [0, 67108863, 67108864, (-67108864), (-67108865), 2147483647, (-2147483648), 1000000, (-1)]) (by simp)]) rfl rfl (c_spec_l01PickInt hy_5) (by simp only [WL, r1, r2, r3, r4, r5, r6, r7, reduceCtorEq]) ?_
    intro rd
    try simp only [↓DN, UP, r1, r2, r3, r4, r5, r6, r7, reduceCtorEq, Try.f26, f1, f2]
    obtain rfl := Option.some.inj h
    refine endT_of ?_ ⟨rfl, rfl⟩
    exact (wn [0] [0])
theorem c_spec_l01Pick {c_1 : GL01Cur} {list_2 : List Bs} {r : Bs × GL01Cur} (h : g_spec_l01Pick c_1 list_2 = some r) : Ans Try.prog 27 [.one (.ptr 0 0), .one (.imm 1 list_2.length (list_2.flatMap eS))] [.live ⟨1, 3, [.imm 1 c_1.b.length (c_1.b.flatMap (eI .u8)), .int .i64 c_1.i, .int .i64 c_1.h]⟩] fun v h1 => v = .pv (.one (.str r.1)) ∧ h1 = [.live ⟨1, 3, [.imm 1 r.2.b.length (r.2.b.flatMap (eI .u8)), .int .i64 r.2.i, .int .i64 r.2.h]⟩] := by
  refine ansK (P := fun _ => Try.prog) TryT_eq (fn := Try.f27) Try.func27 rfl ⟨by kernel_rfl, rfl, rfl, by kernel_rfl⟩ (by simp) (Weak.refl _ _) ?_
  rw [g_spec_l01Pick] at h
  obtain ⟨y_3, hy_3, h⟩ := bS h
  try simp only [↓DN, UP, r1, r2, r3, r4, r5, r6, r7, reduceCtorEq, Try.f27]
  refine callE [0] 9 rfl rfl rfl rfl (c_spec_l01Below hy_3) rfl ?_
  obtain ⟨v_4, hv_4, h⟩ := bS h
  have f1 := (fAt eS_ok hv_4 (n := list_2.length) (by simp))
  try simp only [↓DN, UP, r1, r2, r3, r4, r5, r6, r7, reduceCtorEq, Try.f27, f1]
  obtain rfl := Option.some.inj h
  refine endT_of ?_ ⟨rfl, rfl⟩
  exact (wn [0] [0])
theorem c_spec_l01In {x_1 : Int} {a_2 : Int} {b_3 : Int} {r : Bool} (h : g_spec_l01In x_1 a_2 b_3 = some r) : Ans Try.prog 32 [.one (.int .i64 x_1), .one (.int .i64 a_2), .one (.int .i64 b_3)] [] fun v h1 => v = .pv (.one (.bool r)) ∧ h1 = [] := by
  refine ansK (P := fun _ => Try.prog) TryT_eq (fn := Try.f32) Try.func32 rfl ⟨by kernel_rfl, rfl, rfl, by kernel_rfl⟩ (by simp) (Weak.refl _ _) ?_
  rw [g_spec_l01In] at h
  try simp only [↓DN, UP, r1, r2, r3, r4, r5, r6, r7, reduceCtorEq, Try.f32]
  refine seqN TryT_eq rfl ?_
  try simp only [↓DN, UP, r1, r2, r3, r4, r5, r6, r7, reduceCtorEq, Try.f32]
  refine stIf h (fun hb_4 h => ?_) (fun hb_4 h => ?_)
  · try simp only [↓DN, UP, r1, r2, r3, r4, r5, r6, r7, reduceCtorEq, Try.f32, hb_4]
    obtain rfl := Option.some.inj h
    refine endT_of ?_ ⟨rfl, rfl⟩
    exact (wn [0] [])
  · try simp only [↓DN, UP, r1, r2, r3, r4, r5, r6, r7, reduceCtorEq, Try.f32, hb_4]
    obtain rfl := Option.some.inj h
    refine endT_of ?_ ⟨rfl, rfl⟩
    exact (wn [0] [])
theorem c_spec_l02All {r : Bs} (h : g_spec_l02All = some r) : Ans Try.prog 33 [] [] fun v h1 => v = .pv (.one (.str r)) ∧ h1 = [] := by
  refine ansK (P := fun _ => Try.prog) TryT_eq (fn := Try.f33) Try.func33 rfl ⟨by kernel_rfl, rfl, rfl, by kernel_rfl⟩ (by simp) (Weak.refl _ _) ?_
  rw [g_spec_l02All] at h
  try simp only [↓DN, UP, r1, r2, r3, r4, r5, r6, r7, reduceCtorEq, Try.f33]
  obtain rfl := Option.some.inj h
  refine endT_of ?_ ⟨rfl, rfl⟩
  exact (wn [0] [])
theorem c_spec_LetterAt {k_1 : Int} {r : Int} (h : g_spec_LetterAt k_1 = some r) : Ans Try.prog 31 [.one (.int .i64 k_1)] [] fun v h1 => v = .pv (.one (.int .u8 r)) ∧ h1 = [] := by
  refine ansK (P := fun _ => Try.prog) TryT_eq (fn := Try.f31) Try.func31 rfl ⟨by kernel_rfl, rfl, rfl, by kernel_rfl⟩ (by simp) (Weak.refl _ _) ?_
  rw [g_spec_LetterAt] at h
  try simp only [↓DN, UP, r1, r2, r3, r4, r5, r6, r7, reduceCtorEq, Try.f31]
  refine seqN TryT_eq rfl ?_
  obtain ⟨y_2, hy_2, h⟩ := bS h
  try simp only [↓DN, UP, r1, r2, r3, r4, r5, r6, r7, reduceCtorEq, Try.f31]
  refine cG [] (c_spec_l01In hy_2) (hK := fun rd b => ?_)
  try simp only [↓DN, UP, r1, r2, r3, r4, r5, r6, r7, reduceCtorEq, Try.f31]
  refine stIf h (fun hb_3 h => ?_) (fun hb_3 h => ?_)
  · try simp only [↓DN, UP, r1, r2, r3, r4, r5, r6, r7, reduceCtorEq, Try.f31]
    obtain rfl := Option.some.inj h
    refine endT_of ?_ ⟨rfl, rfl⟩
    exact (wn [0] [])
  · obtain ⟨y_4, hy_4, h⟩ := bS h
    try simp only [↓DN, UP, r1, r2, r3, r4, r5, r6, r7, reduceCtorEq, Try.f31]
    refine cG [] (c_spec_l02All hy_4) (hK := fun rd b => ?_)
    obtain ⟨v_5, hv_5, h⟩ := bS h
    try simp only [↓DN, UP, r1, r2, r3, r4, r5, r6, r7, reduceCtorEq, Try.f31, hv_5]
    obtain rfl := Option.some.inj h
    refine endT_of ?_ ⟨rfl, rfl⟩
    exact (wn [0] [])
theorem c_spec_l02Name {c_1 : GL01Cur} {r : Bs × GL01Cur} (h : g_spec_l02Name c_1 = some r) : Ans Try.prog 28 [.one (.ptr 0 0)] [.live ⟨1, 3, [.imm 1 c_1.b.length (c_1.b.flatMap (eI .u8)), .int .i64 c_1.i, .int .i64 c_1.h]⟩] fun v h1 => v = .pv (.one (.str r.1)) ∧ h1 = [.live ⟨1, 3, [.imm 1 r.2.b.length (r.2.b.flatMap (eI .u8)), .int .i64 r.2.i, .int .i64 r.2.h]⟩] := by
  refine ansK (P := fun _ => Try.prog) TryT_eq (fn := Try.f28) Try.func28 rfl ⟨by kernel_rfl, rfl, rfl, by kernel_rfl⟩ (by simp) (Weak.refl _ _) ?_
  rw [g_spec_l02Name] at h
  try simp only [↓DN, UP, r1, r2, r3, r4, r5, r6, r7, reduceCtorEq, Try.f28]
  refine seqN TryT_eq rfl ?_
  obtain ⟨y_2, hy_2, h⟩ := bS h
  try simp only [↓DN, UP, r1, r2, r3, r4, r5, r6, r7, reduceCtorEq, Try.f28]
  refine callE [0] 9 rfl rfl rfl rfl (c_spec_l01Once hy_2) rfl ?_
  try simp only [↓DN, UP, r1, r2, r3, r4, r5, r6, r7, reduceCtorEq, Try.f28]
  refine stIf h (fun hb_3 h => ?_) (fun hb_3 h => ?_)
  · obtain ⟨y_4, hy_4, h⟩ := bS h
    have f1 := (show bldN 14 = 14 from rfl)
    have f2 := (show bldC [.str [100, 117, 112], .str [111, 118, 101, 114], .str [115, 113, 117, 97, 114, 101], .str [97, 33], .str [50, 42], .str [103, 111], .str [45, 105, 102], .str [59], .str [63], .str [114, 114, 114, 114, 114, 114, 114], .str [114, 116, 111, 101, 97, 110, 105], .str [119, 119, 119, 119, 119, 119], .str [113, 113, 113, 113, 113], .str [120]] = [[100, 117, 112], [111, 118, 101, 114], [115, 113, 117, 97, 114, 101], [97, 33], [50, 42], [103, 111], [45, 105, 102], [59], [63], [114, 114, 114, 114, 114, 114, 114], [114, 116, 111, 101, 97, 110, 105], [119, 119, 119, 119, 119, 119], [113, 113, 113, 113, 113], [120]].flatMap eS from rfl)
    try simp only [↓DN, UP, r1, r2, r3, r4, r5, r6, r7, reduceCtorEq, Try.f28, f1, f2]
    refine callGz [1] [0, 1] [0] 9 rfl rfl (by simp only [WL, MZ, r1, r2, r3, r4, r5, r6, r7, reduceCtorEq, fWin eS_ok (n := 14) (xs := [[100, 117, 112], [111, 118, 101, 114], [115, 113, 117, 97, 114, 101], [97, 33], [50, 42], [103, 111], [45, 105, 102], [59], [63], [114, 114, 114, 114, 114, 114, 114], [114, 116, 111, 101, 97, 110, 105], [119, 119, 119, 119, 119, 119], [113, 113, 113, 113, 113], [120]]) (by simp)]) (by simp only [WL, MZ, r1, r2, r3, r4, r5, r6, r7, reduceCtorEq, fWin eS_ok (n := 14) (xs := [[100, 117, 112], [111, 118, 101, 114], [115, 113, 117, 97, 114, 101], [97, 33], [50, 42], [103, 111], [45, 105, 102], [59], [63], [114, 114, 114, 114, 114, 114, 114], [114, 116, 111, 101, 97, 110, 105], [119, 119, 119, 119, 119, 119], [113, 113, 113, 113, 113], [120]]) (by simp)]) rfl rfl (c_spec_l01Pick hy_4) (by simp only [WL, r1, r2, r3, r4, r5, r6, r7, reduceCtorEq]) ?_
    intro rd
    try simp only [↓DN, UP, r1, r2, r3, r4, r5, r6, r7, reduceCtorEq, Try.f28, f1, f2]
    obtain rfl := Option.some.inj h
    refine endT_of ?_ ⟨rfl, rfl⟩
    exact (wn [0] [0])
  · obtain ⟨y_5, hy_5, h⟩ := bS h
    have f3 := (show bldN 0 = 0 from rfl)
    have f4 := (show bldC [] = ([] : List Int).flatMap (eI .u8) from rfl)
    try simp only [↓DN, UP, r1, r2, r3, r4, r5, r6, r7, reduceCtorEq, Try.f28, f3, f4]
    refine callE [0] 9 rfl rfl rfl rfl (c_spec_l01Below hy_5) rfl ?_
    try simp only [↓DN, UP, r1, r2, r3, r4, r5, r6, r7, reduceCtorEq, Try.f28, f3, f4]
    obtain ⟨y_8, hy_9, h⟩ := bS h
    refine seqK TryT_eq (fun p : GL01Cur × (List Int) => ⟨[(3, .pv (.one (.arr 1 0 p.2.length)))], [.live ⟨1, 3, [.imm 1 p.1.b.length (p.1.b.flatMap (eI .u8)), .int .i64 p.1.i, .int .i64 p.1.h]⟩, .live ⟨1, p.2.length, p.2.flatMap (eI .u8)⟩]⟩) (fun v => y_8 = v) (by rfl) ?_ ?_
    · try simp only [↓DN, UP, r1, r2, r3, r4, r5, r6, r7, reduceCtorEq, Try.f28, f3, f4]
      obtain ⟨y_15, hy_16, hy_9⟩ := bS hy_9
      refine loopK TryT_eq (fun p : GL01Cur × (List Int) × Int => ⟨[(0, .pv (.one (.ptr 0 0))), (3, .pv (.one (.arr 1 0 p.2.1.length))), (4, .pv (.one (.int .i64 (IntKind.wrap .i64 (1 + y_5.1))))), (5, .pv (.one (.int .i64 p.2.2)))], [.live ⟨1, 3, [.imm 1 p.1.b.length (p.1.b.flatMap (eI .u8)), .int .i64 p.1.i, .int .i64 p.1.h]⟩, .live ⟨1, p.2.1.length, p.2.1.flatMap (eI .u8)⟩]⟩) (fun k p => g_spec_l02Name_l0 y_5 k p.1 p.2.1 p.2.2 = some y_15) (by kernel_rfl) bigK (y_5.2, ([] : List Int), 0) (weak_norm (ks := [0, 3, 4, 5]) (π := [0, 1]) (fuel := 9) (by simp only [WL, r1, r2, r3, r4, r5, r6, r7, reduceCtorEq, fWin (eI_ok .u8) (n := 0) (xs := ([] : List Int)) (by simp)])) hy_16 (fun _ h => nomatch (show none = some _ from h)) ?_
      rintro k_17 ⟨c_10, out_11, i_12⟩ hk_18
      rw [g_spec_l02Name_l0] at hk_18
      try dsimp only at hk_18
      try simp only [↓DN, UP, r1, r2, r3, r4, r5, r6, r7, reduceCtorEq, Try.f28]
      refine seqN TryT_eq rfl ?_
      try simp only [↓DN, UP, r1, r2, r3, r4, r5, r6, r7, reduceCtorEq, Try.f28]
      refine stIf hk_18 (fun hb_19 hk_18 => ?_) (fun hb_19 hk_18 => ?_)
      · try simp only [↓DN, UP, r1, r2, r3, r4, r5, r6, r7, reduceCtorEq, Try.f28]
        refine seqN TryT_eq rfl ?_
        obtain ⟨y_20, hy_20, hk_18⟩ := bS hk_18
        try simp only [↓DN, UP, r1, r2, r3, r4, r5, r6, r7, reduceCtorEq, Try.f28]
        refine callE [0] 9 rfl rfl rfl rfl (c_spec_l01Below hy_20) rfl ?_
        obtain ⟨y_21, hy_21, hk_18⟩ := bS hk_18
        try simp only [↓DN, UP, r1, r2, r3, r4, r5, r6, r7, reduceCtorEq, Try.f28]
        refine cG [] (c_spec_LetterAt hy_21) (hK := fun rd b => ?_)
        obtain ⟨v_22, hv_22, hk_18⟩ := bS hk_18
        have f5 := (show bldN 1 = 1 from rfl)
        have f6 := (show bldC [.int .u8 y_21] = [y_21].flatMap (eI .u8) from rfl)
        have f7 := (fWin (eI_ok .u8) (n := 1) (xs := [y_21]) (by simp))
        have f8 := (fApp hv_22 (n := out_11.length) (by simp) (m := 1) (by simp [bsOf]))
        have f9 := (fWin (eI_ok .u8) (n := out_11.length) (xs := out_11) (by simp))
        have f10 := (fCat (e := (eI .u8)) (ns := [y_21].flatMap (eI .u8)) hv_22 rfl)
        try simp only [↓DN, UP, r1, r2, r3, r4, r5, r6, r7, reduceCtorEq, Try.f28, f5, f6, f7, f8, f9, f10]
        exact ⟨(y_20.2, v_22, IntKind.wrap .i64 (i_12 + 1)), hk_18, (wn [0, 3, 4, 5] [0, 3])⟩
      · obtain rfl := Option.some.inj hk_18
        try dsimp only at hy_9
        try simp only [↓DN, UP, r1, r2, r3, r4, r5, r6, r7, reduceCtorEq, Try.f28]
        obtain rfl := Option.some.inj hy_9
        exact cutT_mk (c_10, out_11) rfl (wn [3] [0, 1])
    · rintro ⟨p_6, out_7⟩ hp
      replace hp := hp.symm; subst hp
      try dsimp only at h
      have f11 := (fWin (eI_ok .u8) (n := out_7.length) (xs := out_7) (by simp))
      try simp only [↓DN, UP, r1, r2, r3, r4, r5, r6, r7, reduceCtorEq, Try.f28, f11]
      obtain rfl := Option.some.inj h
      refine endT_of ?_ ⟨rfl, rfl⟩
      exact (wn [0] [0])
theorem c_spec_l04Some {c_1 : GL01Cur} {r : GItem × GL01Cur} (h : g_spec_l04Some c_1 = some r) : Ans Try.prog 23 [.one (.ptr 0 0)] [.live ⟨1, 3, [.imm 1 c_1.b.length (c_1.b.flatMap (eI .u8)), .int .i64 c_1.i, .int .i64 c_1.h]⟩] fun v h1 => v = .pv (.agg [.int .i64 r.1.Kind, .str r.1.Name, .int .i32 r.1.N, .bool r.1.Hex, .int .u32 r.1.Raw]) ∧ h1 = [.live ⟨1, 3, [.imm 1 r.2.b.length (r.2.b.flatMap (eI .u8)), .int .i64 r.2.i, .int .i64 r.2.h]⟩] := by
  refine ansK (P := fun _ => Try.prog) TryT_eq (fn := Try.f23) Try.func23 rfl ⟨by kernel_rfl, rfl, rfl, by kernel_rfl⟩ (by simp) (Weak.refl _ _) ?_
  rw [g_spec_l04Some] at h
  try simp only [↓DN, UP, r1, r2, r3, r4, r5, r6, r7, reduceCtorEq, Try.f23]
  refine seqN TryT_eq rfl ?_
  obtain ⟨y_2, hy_2, h⟩ := bS h
  try simp only [↓DN, UP, r1, r2, r3, r4, r5, r6, r7, reduceCtorEq, Try.f23]
  refine callE [0] 9 rfl rfl rfl rfl (c_spec_l01Below hy_2) rfl ?_
  try simp only [↓DN, UP, r1, r2, r3, r4, r5, r6, r7, reduceCtorEq, Try.f23]
  refine stIf h (fun hb_3 h => ?_) (fun hb_3 h => ?_)
  · obtain ⟨y_4, hy_4, h⟩ := bS h
    try simp only [↓DN, UP, r1, r2, r3, r4, r5, r6, r7, reduceCtorEq, Try.f23]
    refine callE [0] 9 rfl rfl rfl rfl (c_spec_l04Int hy_4) rfl ?_
    obtain ⟨y_5, hy_5, h⟩ := bS h
    try simp only [↓DN, UP, r1, r2, r3, r4, r5, r6, r7, reduceCtorEq, Try.f23]
    refine callE [0] 9 rfl rfl rfl rfl (c_spec_l01Once hy_5) rfl ?_
    try simp only [↓DN, UP, r1, r2, r3, r4, r5, r6, r7, reduceCtorEq, Try.f23]
    obtain rfl := Option.some.inj h
    refine endT_of ?_ ⟨rfl, rfl⟩
    exact (wn [0] [0])
  · try simp only [↓DN, UP, r1, r2, r3, r4, r5, r6, r7, reduceCtorEq, Try.f23]
    refine stIf h (fun hb_6 h => ?_) (fun hb_6 h => ?_)
    · obtain ⟨y_7, hy_7, h⟩ := bS h
      try simp only [↓DN, UP, r1, r2, r3, r4, r5, r6, r7, reduceCtorEq, Try.f23]
      refine callE [0] 9 rfl rfl rfl rfl (c_spec_l04Int hy_7) rfl ?_
      obtain ⟨y_8, hy_8, h⟩ := bS h
      try simp only [↓DN, UP, r1, r2, r3, r4, r5, r6, r7, reduceCtorEq, Try.f23]
      refine callE [0] 9 rfl rfl rfl rfl (c_spec_l01Once hy_8) rfl ?_
      try simp only [↓DN, UP, r1, r2, r3, r4, r5, r6, r7, reduceCtorEq, Try.f23]
      obtain rfl := Option.some.inj h
      refine endT_of ?_ ⟨rfl, rfl⟩
      exact (wn [0] [0])
    · try simp only [↓DN, UP, r1, r2, r3, r4, r5, r6, r7, reduceCtorEq, Try.f23]
      refine stIf h (fun hb_9 h => ?_) (fun hb_9 h => ?_)
      · obtain ⟨y_10, hy_10, h⟩ := bS h
        have f1 := (show bldN 4 = 4 from rfl)
        have f2 := (show bldC [.str [120], .str [97, 116], .str [113, 113, 113, 113], .str [116, 101, 110]] = [[120], [97, 116], [113, 113, 113, 113], [116, 101, 110]].flatMap eS from rfl)
        try simp only [↓DN, UP, r1, r2, r3, r4, r5, r6, r7, reduceCtorEq, Try.f23, f1, f2]
        refine callGz [2] [0, 2] [0] 9 rfl rfl (by simp only [WL, MZ, r1, r2, r3, r4, r5, r6, r7, reduceCtorEq, fWin eS_ok (n := 4) (xs := [[120], [97, 116], [113, 113, 113, 113], [116, 101, 110]]) (by simp)]) (by simp only [WL, MZ, r1, r2, r3, r4, r5, r6, r7, reduceCtorEq, fWin eS_ok (n := 4) (xs := [[120], [97, 116], [113, 113, 113, 113], [116, 101, 110]]) (by simp)]) rfl rfl (c_spec_l01Pick hy_10) (by simp only [WL, r1, r2, r3, r4, r5, r6, r7, reduceCtorEq]) ?_
        intro rd
        obtain ⟨y_11, hy_11, h⟩ := bS h
        try simp only [↓DN, UP, r1, r2, r3, r4, r5, r6, r7, reduceCtorEq, Try.f23, f1, f2]
        refine callE [0] 9 rfl rfl rfl rfl (c_spec_l04Int hy_11) rfl ?_
        try simp only [↓DN, UP, r1, r2, r3, r4, r5, r6, r7, reduceCtorEq, Try.f23, f1, f2]
        obtain rfl := Option.some.inj h
        refine endT_of ?_ ⟨rfl, rfl⟩
        exact (wn [0] [0])
      · obtain ⟨y_12, hy_12, h⟩ := bS h
        try simp only [↓DN, UP, r1, r2, r3, r4, r5, r6, r7, reduceCtorEq, Try.f23]
        refine callE [0] 9 rfl rfl rfl rfl (c_spec_l01Below hy_12) rfl ?_
        obtain ⟨y_13, hy_13, h⟩ := bS h
        try simp only [↓DN, UP, r1, r2, r3, r4, r5, r6, r7, reduceCtorEq, Try.f23]
        refine callE [0] 9 rfl rfl rfl rfl (c_spec_l02Name hy_13) rfl ?_
        try simp only [↓DN, UP, r1, r2, r3, r4, r5, r6, r7, reduceCtorEq, Try.f23]
        obtain rfl := Option.some.inj h
        refine endT_of ?_ ⟨rfl, rfl⟩
        exact (wn [0] [0])
theorem c_spec_l01Word {c_1 : GL01Cur} {r : Int × GL01Cur} (h : g_spec_l01Word c_1 = some r) : Ans Try.prog 29 [.one (.ptr 0 0)] [.live ⟨1, 3, [.imm 1 c_1.b.length (c_1.b.flatMap (eI .u8)), .int .i64 c_1.i, .int .i64 c_1.h]⟩] fun v h1 => v = .pv (.one (.int .u32 r.1)) ∧ h1 = [.live ⟨1, 3, [.imm 1 r.2.b.length (r.2.b.flatMap (eI .u8)), .int .i64 r.2.i, .int .i64 r.2.h]⟩] := by
  refine ansK (P := fun _ => Try.prog) TryT_eq (fn := Try.f29) Try.func29 rfl ⟨by kernel_rfl, rfl, rfl, by kernel_rfl⟩ (by simp) (Weak.refl _ _) ?_
  rw [g_spec_l01Word] at h
  try simp only [↓DN, UP, r1, r2, r3, r4, r5, r6, r7, reduceCtorEq, Try.f29]
  refine seqN TryT_eq rfl ?_
  obtain ⟨y_2, hy_2, h⟩ := bS h
  try simp only [↓DN, UP, r1, r2, r3, r4, r5, r6, r7, reduceCtorEq, Try.f29]
  refine callE [0] 9 rfl rfl rfl rfl (c_spec_l01Below hy_2) rfl ?_
  try simp only [↓DN, UP, r1, r2, r3, r4, r5, r6, r7, reduceCtorEq, Try.f29]
  refine stIf h (fun hb_3 h => ?_) (fun hb_3 h => ?_)
  · obtain ⟨y_4, hy_4, h⟩ := bS h
    have f1 := (show bldN 11 = 11 from rfl)
    have f2 := (show bldC [.int .i64 0, .int .i64 1, .int .i64 2, .int .i64 31, .int .i64 32, .int .i64 255, .int .i64 256, .int .i64 2147483647, .int .i64 2147483648, .int .i64 4294967295, .int .i64 4294967294] = [0, 1, 2, 31, 32, 255, 256, 2147483647, 2147483648, 4294967295, 4294967294].flatMap (eI .i64) from rfl)
    try simp only [↓DN, UP, r1, r2, r3, r4, r5, r6, r7, reduceCtorEq, Try.f29, f1, f2]
    refine callGz [1] [0, 1] [0] 9 rfl rfl (by simp only [WL, MZ, r1, r2, r3, r4, r5, r6, r7, reduceCtorEq, fWin (eI_ok .i64) (n := 11) (xs := [0, 1, 2, 31, 32, 255, 256, 2147483647, 2147483648, 4294967295, 4294967294]) (by simp)]) (by simp only [WL, MZ, r1, r2, r3, r4, r5, r6, r7, reduceCtorEq, fWin (eI_ok .i64) (n := 11) (xs := [0, 1, 2, 31, 32, 255, 256, 2147483647, 2147483648, 4294967295, 4294967294]) (by simp)]) rfl rfl (c_spec_l01PickInt hy_4) (by simp only [WL, r1, r2, r3, r4, r5, r6, r7, reduceCtorEq]) ?_
    intro rd
    try simp only [↓DN, UP, r1, r2, r3, r4, r5, r6, r7, reduceCtorEq, Try.f29, f1, f2]
    obtain rfl := Option.some.inj h
    refine endT_of ?_ ⟨rfl, rfl⟩
    exact (wn [0] [0])
  · try simp only [↓DN, UP, r1, r2, r3, r4, r5, r6, r7, reduceCtorEq, Try.f29]
    refine stIf h (fun hb_5 h => ?_) (fun hb_5 h => ?_)
    · obtain ⟨y_6, hy_6, h⟩ := bS h
      try simp only [↓DN, UP, r1, r2, r3, r4, r5, r6, r7, reduceCtorEq, Try.f29]
      refine callE [0] 9 rfl rfl rfl rfl (c_spec_l01Below hy_6) rfl ?_
      try simp only [↓DN, UP, r1, r2, r3, r4, r5, r6, r7, reduceCtorEq, Try.f29]
      obtain rfl := Option.some.inj h
      refine endT_of ?_ ⟨rfl, rfl⟩
      exact (wn [0] [0])
    · obtain ⟨y_7, hy_7, h⟩ := bS h
      try simp only [↓DN, UP, r1, r2, r3, r4, r5, r6, r7, reduceCtorEq, Try.f29]
      refine callE [0] 9 rfl rfl rfl rfl (c_spec_l01Below hy_7) rfl ?_
      obtain ⟨y_8, hy_8, h⟩ := bS h
      try simp only [↓DN, UP, r1, r2, r3, r4, r5, r6, r7, reduceCtorEq, Try.f29]
      refine callE [0] 9 rfl rfl rfl rfl (c_spec_l01Below hy_8) rfl ?_
      try simp only [↓DN, UP, r1, r2, r3, r4, r5, r6, r7, reduceCtorEq, Try.f29]
      obtain rfl := Option.some.inj h
      refine endT_of ?_ ⟨rfl, rfl⟩
      exact (wn [0] [0])
theorem c_spec_l04Any {c_1 : GL01Cur} {r : GItem × GL01Cur} (h : g_spec_l04Any c_1 = some r) : Ans Try.prog 24 [.one (.ptr 0 0)] [.live ⟨1, 3, [.imm 1 c_1.b.length (c_1.b.flatMap (eI .u8)), .int .i64 c_1.i, .int .i64 c_1.h]⟩] fun v h1 => v = .pv (.agg [.int .i64 r.1.Kind, .str r.1.Name, .int .i32 r.1.N, .bool r.1.Hex, .int .u32 r.1.Raw]) ∧ h1 = [.live ⟨1, 3, [.imm 1 r.2.b.length (r.2.b.flatMap (eI .u8)), .int .i64 r.2.i, .int .i64 r.2.h]⟩] := by
  refine ansK (P := fun _ => Try.prog) TryT_eq (fn := Try.f24) Try.func24 rfl ⟨by kernel_rfl, rfl, rfl, by kernel_rfl⟩ (by simp) (Weak.refl _ _) ?_
  rw [g_spec_l04Any] at h
  obtain ⟨y_2, hy_2, h⟩ := bS h
  try simp only [↓DN, UP, r1, r2, r3, r4, r5, r6, r7, reduceCtorEq, Try.f24]
  refine callE [0] 9 rfl rfl rfl rfl (c_spec_l04Some hy_2) rfl ?_
  try simp only [↓DN, UP, r1, r2, r3, r4, r5, r6, r7, reduceCtorEq, Try.f24]
  obtain ⟨y_7, hy_8, h⟩ := bS h
  refine seqK TryT_eq (fun p : GL01Cur × GItem => ⟨[(2, .pv (.one (.ptr 1 0))), (3, .pv (.one (.ptr 2 0)))], [.live ⟨1, 3, [.imm 1 p.1.b.length (p.1.b.flatMap (eI .u8)), .int .i64 p.1.i, .int .i64 p.1.h]⟩, .live ⟨1, 5, [.int .i64 0, .str [], .int .i32 0, .bool false, .int .u32 0]⟩, .live ⟨1, 5, [.int .i64 p.2.Kind, .str p.2.Name, .int .i32 p.2.N, .bool p.2.Hex, .int .u32 p.2.Raw]⟩]⟩) (fun v => y_7 = .inl v) (by rfl) ?_ ?_
  · obtain ⟨y_9, hy_9, hy_8⟩ := bS hy_8
    try simp only [↓DN, UP, r1, r2, r3, r4, r5, r6, r7, reduceCtorEq, Try.f24]
    refine callE [0] 9 rfl rfl rfl rfl (c_spec_l01Below hy_9) rfl ?_
    try simp only [↓DN, UP, r1, r2, r3, r4, r5, r6, r7, reduceCtorEq, Try.f24]
    refine stIf hy_8 (fun hb_10 hy_8 => ?_) (fun hb_10 hy_8 => ?_)
    · obtain ⟨y_11, hy_11, hy_8⟩ := bS hy_8
      try simp only [↓DN, UP, r1, r2, r3, r4, r5, r6, r7, reduceCtorEq, Try.f24]
      refine callE [0] 9 rfl rfl rfl rfl (c_spec_l01Word hy_11) rfl ?_
      obtain rfl := Option.some.inj hy_8
      try dsimp only at h
      try simp only [↓DN, UP, r1, r2, r3, r4, r5, r6, r7, reduceCtorEq, Try.f24]
      obtain rfl := Option.some.inj h
      refine endT_of ?_ ⟨rfl, rfl⟩
      exact (wn [0] [0])
    · try simp only [↓DN, UP, r1, r2, r3, r4, r5, r6, r7, reduceCtorEq, Try.f24]
      refine stIf hy_8 (fun hb_12 hy_8 => ?_) (fun hb_12 hy_8 => ?_)
      · obtain ⟨y_13, hy_13, hy_8⟩ := bS hy_8
        try simp only [↓DN, UP, r1, r2, r3, r4, r5, r6, r7, reduceCtorEq, Try.f24]
        refine callE [0] 9 rfl rfl rfl rfl (c_spec_l01Below hy_13) rfl ?_
        try simp only [↓DN, UP, r1, r2, r3, r4, r5, r6, r7, reduceCtorEq, Try.f24]
        obtain rfl := Option.some.inj hy_8
        exact cutT_mk (y_13.2, (⟨IntKind.wrap .i64 (y_13.1 - 1), y_2.1.Name, y_2.1.N, y_2.1.Hex, y_2.1.Raw⟩ : GItem)) rfl (wn [2, 3] [0, 1, 2])
      · try simp only [↓DN, UP, r1, r2, r3, r4, r5, r6, r7, reduceCtorEq, Try.f24]
        refine stIf hy_8 (fun hb_14 hy_8 => ?_) (fun hb_14 hy_8 => ?_)
        · obtain ⟨y_15, hy_15, hy_8⟩ := bS hy_8
          have f1 := (show bldN 4 = 4 from rfl)
          have f2 := (show bldC [.str [], .str [65], .str [113, 113, 113, 113, 113], .str [115, 113, 117, 97, 114, 101, 115, 113, 117, 97, 114, 101]] = [[], [65], [113, 113, 113, 113, 113], [115, 113, 117, 97, 114, 101, 115, 113, 117, 97, 114, 101]].flatMap eS from rfl)
          try simp only [↓DN, UP, r1, r2, r3, r4, r5, r6, r7, reduceCtorEq, Try.f24, f1, f2]
          refine callGz [3] [0, 3] [0] 9 rfl rfl (by simp only [WL, MZ, r1, r2, r3, r4, r5, r6, r7, reduceCtorEq, fWin eS_ok (n := 4) (xs := [[], [65], [113, 113, 113, 113, 113], [115, 113, 117, 97, 114, 101, 115, 113, 117, 97, 114, 101]]) (by simp)]) (by simp only [WL, MZ, r1, r2, r3, r4, r5, r6, r7, reduceCtorEq, fWin eS_ok (n := 4) (xs := [[], [65], [113, 113, 113, 113, 113], [115, 113, 117, 97, 114, 101, 115, 113, 117, 97, 114, 101]]) (by simp)]) rfl rfl (c_spec_l01Pick hy_15) (by simp only [WL, r1, r2, r3, r4, r5, r6, r7, reduceCtorEq]) ?_
          intro rd
          try simp only [↓DN, UP, r1, r2, r3, r4, r5, r6, r7, reduceCtorEq, Try.f24, f1, f2]
          obtain rfl := Option.some.inj hy_8
          exact cutT_mk (y_15.2, (⟨y_2.1.Kind, y_15.1, y_2.1.N, y_2.1.Hex, y_2.1.Raw⟩ : GItem)) rfl (wn [2, 3] [0, 1, 2])
        · try simp only [↓DN, UP, r1, r2, r3, r4, r5, r6, r7, reduceCtorEq, Try.f24]
          refine stIf hy_8 (fun hb_16 hy_8 => ?_) (fun hb_16 hy_8 => ?_)
          · obtain ⟨y_17, hy_17, hy_8⟩ := bS hy_8
            try simp only [↓DN, UP, r1, r2, r3, r4, r5, r6, r7, reduceCtorEq, Try.f24]
            refine callE [0] 9 rfl rfl rfl rfl (c_spec_l01Below hy_17) rfl ?_
            try simp only [↓DN, UP, r1, r2, r3, r4, r5, r6, r7, reduceCtorEq, Try.f24]
            obtain rfl := Option.some.inj hy_8
            exact cutT_mk (y_17.2, (⟨y_2.1.Kind, y_2.1.Name, y_2.1.N, y_2.1.Hex, IntKind.wrap .u32 y_17.1⟩ : GItem)) rfl (wn [2, 3] [0, 1, 2])
          · try simp only [↓DN, UP, r1, r2, r3, r4, r5, r6, r7, reduceCtorEq, Try.f24]
            obtain rfl := Option.some.inj hy_8
            exact cutT_mk (y_9.2, y_2.1) rfl (wn [2, 3] [0, 1, 2])
  · rintro ⟨p_3, it_4⟩ hp
    replace hp := hp.symm; subst hp
    try dsimp only at h
    try simp only [↓DN, UP, r1, r2, r3, r4, r5, r6, r7, reduceCtorEq, Try.f24]
    obtain rfl := Option.some.inj h
    refine endT_of ?_ ⟨rfl, rfl⟩
    exact (wn [0] [0])
theorem c_spec_l04List {c_1 : GL01Cur} {most_2 : Int} {r : (List GItem) × GL01Cur} (h : g_spec_l04List c_1 most_2 = some r) : Ans Try.prog 18 [.one (.ptr 0 0), .one (.int .i64 most_2)] [.live ⟨1, 3, [.imm 1 c_1.b.length (c_1.b.flatMap (eI .u8)), .int .i64 c_1.i, .int .i64 c_1.h]⟩] fun v h1 => v = .pv (.one (.arr 1 0 r.1.length)) ∧ h1 = [.live ⟨1, 3, [.imm 1 r.2.b.length (r.2.b.flatMap (eI .u8)), .int .i64 r.2.i, .int .i64 r.2.h]⟩, .live ⟨5, r.1.length, r.1.flatMap GItem.cs⟩] := by
  refine ansK (P := fun _ => Try.prog) TryT_eq (fn := Try.f18) Try.func18 rfl ⟨by kernel_rfl, rfl, rfl, by kernel_rfl⟩ (by simp) (Weak.refl _ _) ?_
  rw [g_spec_l04List] at h
  obtain ⟨y_3, hy_3, h⟩ := bS h
  have f1 := (show bldN 0 = 0 from rfl)
  have f2 := (show bldC [] = ([] : List GItem).flatMap GItem.cs from rfl)
  try simp only [↓DN, UP, r1, r2, r3, r4, r5, r6, r7, reduceCtorEq, Try.f18, f1, f2]
  refine callE [0] 9 rfl rfl rfl rfl (c_spec_l01Below hy_3) rfl ?_
  try simp only [↓DN, UP, r1, r2, r3, r4, r5, r6, r7, reduceCtorEq, Try.f18, f1, f2]
  obtain ⟨y_6, hy_7, h⟩ := bS h
  refine seqK TryT_eq (fun p : GL01Cur × (List GItem) => ⟨[(5, .pv (.one (.arr 1 0 p.2.length)))], [.live ⟨1, 3, [.imm 1 p.1.b.length (p.1.b.flatMap (eI .u8)), .int .i64 p.1.i, .int .i64 p.1.h]⟩, .live ⟨5, p.2.length, p.2.flatMap GItem.cs⟩]⟩) (fun v => y_6 = v) (by rfl) ?_ ?_
  · try simp only [↓DN, UP, r1, r2, r3, r4, r5, r6, r7, reduceCtorEq, Try.f18, f1, f2]
    obtain ⟨y_13, hy_14, hy_7⟩ := bS hy_7
    refine loopK TryT_eq (fun p : GL01Cur × (List GItem) × Int => ⟨[(0, .pv (.one (.ptr 0 0))), (5, .pv (.one (.arr 1 0 p.2.1.length))), (6, .pv (.one (.int .i64 y_3.1))), (7, .pv (.one (.int .i64 p.2.2)))], [.live ⟨1, 3, [.imm 1 p.1.b.length (p.1.b.flatMap (eI .u8)), .int .i64 p.1.i, .int .i64 p.1.h]⟩, .live ⟨5, p.2.1.length, p.2.1.flatMap GItem.cs⟩]⟩) (fun k p => g_spec_l04List_l0 y_3 k p.1 p.2.1 p.2.2 = some y_13) (by kernel_rfl) bigK (y_3.2, ([] : List GItem), 0) (weak_norm (ks := [0, 5, 6, 7]) (π := [0, 1]) (fuel := 9) (by simp only [WL, r1, r2, r3, r4, r5, r6, r7, reduceCtorEq, fWin GItem.ok (n := 0) (xs := ([] : List GItem)) (by simp)])) hy_14 (fun _ h => nomatch (show none = some _ from h)) ?_
    rintro k_15 ⟨c_8, out_9, i_10⟩ hk_16
    rw [g_spec_l04List_l0] at hk_16
    try dsimp only at hk_16
    try simp only [↓DN, UP, r1, r2, r3, r4, r5, r6, r7, reduceCtorEq, Try.f18]
    refine seqN TryT_eq rfl ?_
    try simp only [↓DN, UP, r1, r2, r3, r4, r5, r6, r7, reduceCtorEq, Try.f18]
    refine stIf hk_16 (fun hb_17 hk_16 => ?_) (fun hb_17 hk_16 => ?_)
    · try simp only [↓DN, UP, r1, r2, r3, r4, r5, r6, r7, reduceCtorEq, Try.f18]
      obtain ⟨y_20, hy_21, hk_16⟩ := bS hk_16
      refine seqK TryT_eq (fun p : GL01Cur × (List GItem) => ⟨[(0, .pv (.one (.ptr 0 0))), (5, .pv (.one (.arr 1 0 p.2.length))), (6, .pv (.one (.int .i64 y_3.1))), (7, .pv (.one (.int .i64 i_10)))], [.live ⟨1, 3, [.imm 1 p.1.b.length (p.1.b.flatMap (eI .u8)), .int .i64 p.1.i, .int .i64 p.1.h]⟩, .live ⟨5, p.2.length, p.2.flatMap GItem.cs⟩]⟩) (fun v => y_20 = v) (by rfl) ?_ ?_
      · obtain ⟨y_22, hy_22, hy_21⟩ := bS hy_21
        try simp only [↓DN, UP, r1, r2, r3, r4, r5, r6, r7, reduceCtorEq, Try.f18]
        refine callE [0] 9 rfl rfl rfl rfl (c_spec_l04Some hy_22) rfl ?_
        try simp only [↓DN, UP, r1, r2, r3, r4, r5, r6, r7, reduceCtorEq, Try.f18]
        obtain ⟨y_25, hy_26, hy_21⟩ := bS hy_21
        refine seqK TryT_eq (fun p : GL01Cur × GItem => ⟨[(0, .pv (.one (.ptr 0 0))), (5, .pv (.one (.arr 1 0 out_9.length))), (6, .pv (.one (.int .i64 y_3.1))), (7, .pv (.one (.int .i64 i_10))), (8, .pv (.one (.ptr 2 0)))], [.live ⟨1, 3, [.imm 1 p.1.b.length (p.1.b.flatMap (eI .u8)), .int .i64 p.1.i, .int .i64 p.1.h]⟩, .live ⟨5, out_9.length, out_9.flatMap GItem.cs⟩, .live ⟨1, 5, [.int .i64 p.2.Kind, .str p.2.Name, .int .i32 p.2.N, .bool p.2.Hex, .int .u32 p.2.Raw]⟩]⟩) (fun v => y_25 = v) (by rfl) ?_ ?_
        · obtain ⟨y_27, hy_27, hy_26⟩ := bS hy_26
          try simp only [↓DN, UP, r1, r2, r3, r4, r5, r6, r7, reduceCtorEq, Try.f18]
          refine callE [0] 9 rfl rfl rfl rfl (c_spec_l01Once hy_27) rfl ?_
          try simp only [↓DN, UP, r1, r2, r3, r4, r5, r6, r7, reduceCtorEq, Try.f18]
          refine stIf hy_26 (fun hb_28 hy_26 => ?_) (fun hb_28 hy_26 => ?_)
          · obtain ⟨y_29, hy_29, hy_26⟩ := bS hy_26
            try simp only [↓DN, UP, r1, r2, r3, r4, r5, r6, r7, reduceCtorEq, Try.f18]
            refine callE [0] 9 rfl rfl rfl rfl (c_spec_l04Any hy_29) rfl ?_
            try simp only [↓DN, UP, r1, r2, r3, r4, r5, r6, r7, reduceCtorEq, Try.f18]
            obtain rfl := Option.some.inj hy_26
            exact cutT_mk (y_29.2, y_29.1) rfl (wn [0, 5, 6, 7, 8] [0, 1, 2])
          · try simp only [↓DN, UP, r1, r2, r3, r4, r5, r6, r7, reduceCtorEq, Try.f18]
            obtain rfl := Option.some.inj hy_26
            exact cutT_mk (y_27.2, y_22.1) rfl (wn [0, 5, 6, 7, 8] [0, 1, 2])
        · rintro ⟨p_23, it_24⟩ hp
          replace hp := hp.symm; subst hp
          try dsimp only at hy_21
          obtain ⟨v_30, hv_30, hy_21⟩ := bS hy_21
          have f3 := (show bldN 1 = 1 from rfl)
          have f4 := (show bldC [.int .i64 it_24.Kind, .str it_24.Name, .int .i32 it_24.N, .bool it_24.Hex, .int .u32 it_24.Raw] = [it_24].flatMap GItem.cs from rfl)
          have f5 := (fWin GItem.ok (n := 1) (xs := [it_24]) (by simp))
          have f6 := (fApp hv_30 (n := out_9.length) (by simp) (m := 1) (by simp [bsOf]))
          have f7 := (fWin GItem.ok (n := out_9.length) (xs := out_9) (by simp))
          have f8 := (fCat (e := GItem.cs) (ns := [it_24].flatMap GItem.cs) hv_30 rfl)
          try simp only [↓DN, UP, r1, r2, r3, r4, r5, r6, r7, reduceCtorEq, Try.f18, f3, f4, f5, f6, f7, f8]
          obtain rfl := Option.some.inj hy_21
          exact cutT_mk (p_23, v_30) rfl (wn [0, 5, 6, 7] [0, 4])
      · rintro ⟨p_18, out_19⟩ hp
        replace hp := hp.symm; subst hp
        try dsimp only at hk_16
        try simp only [↓DN, UP, r1, r2, r3, r4, r5, r6, r7, reduceCtorEq, Try.f18]
        exact ⟨(p_18, out_19, IntKind.wrap .i64 (i_10 + 1)), hk_16, (wn [0, 5, 6, 7] [0, 1])⟩
    · obtain rfl := Option.some.inj hk_16
      try dsimp only at hy_7
      try simp only [↓DN, UP, r1, r2, r3, r4, r5, r6, r7, reduceCtorEq, Try.f18]
      obtain rfl := Option.some.inj hy_7
      exact cutT_mk (c_8, out_9) rfl (wn [5] [0, 1])
  · rintro ⟨p_4, out_5⟩ hp
    replace hp := hp.symm; subst hp
    try dsimp only at h
    try simp only [↓DN, UP, r1, r2, r3, r4, r5, r6, r7, reduceCtorEq, Try.f18]
    obtain rfl := Option.some.inj h
    refine endT_of ?_ ⟨rfl, rfl⟩
    exact (wn [0] [0, 1])
theorem c_spec_l22Twin {c_1 : GL01Cur} {list_2 : List GItem} {r : (List GItem) × GL01Cur} (h : g_spec_l22Twin c_1 list_2 = some r) : Ans Try.prog 21 [.one (.ptr 0 0), .one (.imm 5 list_2.length (list_2.flatMap GItem.cs))] [.live ⟨1, 3, [.imm 1 c_1.b.length (c_1.b.flatMap (eI .u8)), .int .i64 c_1.i, .int .i64 c_1.h]⟩] fun v h1 => v = .pv (.one (.arr 1 0 r.1.length)) ∧ h1 = [.live ⟨1, 3, [.imm 1 r.2.b.length (r.2.b.flatMap (eI .u8)), .int .i64 r.2.i, .int .i64 r.2.h]⟩, .live ⟨5, r.1.length, r.1.flatMap GItem.cs⟩] := by
  refine ansK (P := fun _ => Try.prog) TryT_eq (fn := Try.f21) Try.func21 rfl ⟨by kernel_rfl, rfl, rfl, by kernel_rfl⟩ (by simp) (Weak.refl _ _) ?_
  rw [g_spec_l22Twin] at h
  have f1 := (show bldN 0 = 0 from rfl)
  have f2 := (show bldC [] = ([] : List GItem).flatMap GItem.cs from rfl)
  try simp only [↓DN, UP, r1, r2, r3, r4, r5, r6, r7, reduceCtorEq, Try.f21, f1, f2]
  obtain ⟨y_5, hy_6, h⟩ := bS h
  refine seqK TryT_eq (fun p : GL01Cur × (List GItem) => ⟨[(0, .pv (.one (.ptr 0 0))), (5, .pv (.one (.arr 1 0 p.2.length)))], [.live ⟨1, 3, [.imm 1 p.1.b.length (p.1.b.flatMap (eI .u8)), .int .i64 p.1.i, .int .i64 p.1.h]⟩, .live ⟨5, p.2.length, p.2.flatMap GItem.cs⟩]⟩) (fun v => y_5 = v) (by rfl) ?_ ?_
  · try simp only [↓DN, UP, r1, r2, r3, r4, r5, r6, r7, reduceCtorEq, Try.f21, f1, f2]
    obtain ⟨y_12, hy_13, hy_6⟩ := bS hy_6
    refine loopK TryT_eq (fun p : GL01Cur × (List GItem) × Int => ⟨[(0, .pv (.one (.ptr 0 0))), (1, .pv (.one (.imm 5 list_2.length (list_2.flatMap GItem.cs)))), (5, .pv (.one (.arr 1 0 p.2.1.length))), (6, .pv (.one (.int .i64 p.2.2)))], [.live ⟨1, 3, [.imm 1 p.1.b.length (p.1.b.flatMap (eI .u8)), .int .i64 p.1.i, .int .i64 p.1.h]⟩, .live ⟨5, p.2.1.length, p.2.1.flatMap GItem.cs⟩]⟩) (fun k p => g_spec_l22Twin_l0 list_2 k p.1 p.2.1 p.2.2 = some y_12) (by kernel_rfl) bigK (c_1, ([] : List GItem), 0) (weak_norm (ks := [0, 1, 5, 6]) (π := [0, 1]) (fuel := 9) (by simp only [WL, r1, r2, r3, r4, r5, r6, r7, reduceCtorEq, fWin GItem.ok (n := 0) (xs := ([] : List GItem)) (by simp)])) hy_13 (fun _ h => nomatch (show none = some _ from h)) ?_
    rintro k_14 ⟨c_7, out_8, i_9⟩ hk_15
    rw [g_spec_l22Twin_l0] at hk_15
    try dsimp only at hk_15
    try simp only [↓DN, UP, r1, r2, r3, r4, r5, r6, r7, reduceCtorEq, Try.f21]
    refine seqN TryT_eq rfl ?_
    try simp only [↓DN, UP, r1, r2, r3, r4, r5, r6, r7, reduceCtorEq, Try.f21]
    refine stIf hk_15 (fun hb_16 hk_15 => ?_) (fun hb_16 hk_15 => ?_)
    · try simp only [↓DN, UP, r1, r2, r3, r4, r5, r6, r7, reduceCtorEq, Try.f21]
      obtain ⟨y_19, hy_20, hk_15⟩ := bS hk_15
      refine seqK TryT_eq (fun p : GL01Cur × (List GItem) => ⟨[(0, .pv (.one (.ptr 0 0))), (1, .pv (.one (.imm 5 list_2.length (list_2.flatMap GItem.cs)))), (5, .pv (.one (.arr 1 0 p.2.length))), (6, .pv (.one (.int .i64 i_9)))], [.live ⟨1, 3, [.imm 1 p.1.b.length (p.1.b.flatMap (eI .u8)), .int .i64 p.1.i, .int .i64 p.1.h]⟩, .live ⟨5, p.2.length, p.2.flatMap GItem.cs⟩]⟩) (fun v => y_19 = v) (by rfl) ?_ ?_
      · obtain ⟨y_21, hy_21, hy_20⟩ := bS hy_20
        try simp only [↓DN, UP, r1, r2, r3, r4, r5, r6, r7, reduceCtorEq, Try.f21]
        refine callE [0] 9 rfl rfl rfl rfl (c_spec_l01Below hy_21) rfl ?_
        try simp only [↓DN, UP, r1, r2, r3, r4, r5, r6, r7, reduceCtorEq, Try.f21]
        refine stIf hy_20 (fun hb_22 hy_20 => ?_) (fun hb_22 hy_20 => ?_)
        · try simp only [↓DN, UP, r1, r2, r3, r4, r5, r6, r7, reduceCtorEq, Try.f21]
          obtain rfl := Option.some.inj hy_20
          exact cutT_mk (y_21.2, out_8) rfl (wn [0, 1, 5, 6] [0, 1])
        · try simp only [↓DN, UP, r1, r2, r3, r4, r5, r6, r7, reduceCtorEq, Try.f21]
          refine stIf hy_20 (fun hb_23 hy_20 => ?_) (fun hb_23 hy_20 => ?_)
          · obtain ⟨y_24, hy_24, hy_20⟩ := bS hy_20
            try simp only [↓DN, UP, r1, r2, r3, r4, r5, r6, r7, reduceCtorEq, Try.f21]
            refine callE [0] 9 rfl rfl rfl rfl (c_spec_l04Some hy_24) rfl ?_
            obtain ⟨v_25, hv_25, hy_20⟩ := bS hy_20
            obtain ⟨v_26, hv_26, hy_20⟩ := bS hy_20
            have f3 := (fAt GItem.ok hv_25 (n := list_2.length) (by simp))
            have f4 := (show bldN 2 = 2 from rfl)
            have f5 := (show bldC [.int .i64 y_24.1.Kind, .str y_24.1.Name, .int .i32 y_24.1.N, .bool y_24.1.Hex, .int .u32 y_24.1.Raw, .int .i64 v_25.Kind, .str v_25.Name, .int .i32 v_25.N, .bool v_25.Hex, .int .u32 v_25.Raw] = [y_24.1, v_25].flatMap GItem.cs from rfl)
            have f6 := (fWin GItem.ok (n := 2) (xs := [y_24.1, v_25]) (by simp))
            have f7 := (fApp hv_26 (n := out_8.length) (by simp) (m := 2) (by simp [bsOf]))
            have f8 := (fWin GItem.ok (n := out_8.length) (xs := out_8) (by simp))
            have f9 := (fCat (e := GItem.cs) (ns := [y_24.1, v_25].flatMap GItem.cs) hv_26 rfl)
            try simp only [↓DN, UP, r1, r2, r3, r4, r5, r6, r7, reduceCtorEq, Try.f21, f3, f4, f5, f6, f7, f8, f9]
            refine ⟨rfl, ?_⟩
            try simp only [↓DN, UP, r1, r2, r3, r4, r5, r6, r7, reduceCtorEq, Try.f21, f3, f4, f5, f6, f7, f8, f9]
            obtain rfl := Option.some.inj hy_20
            exact cutT_mk (y_24.2, v_26) rfl (wn [0, 1, 5, 6] [0, 3])
          · obtain ⟨v_27, hv_27, hy_20⟩ := bS hy_20
            obtain ⟨v_28, hv_28, hy_20⟩ := bS hy_20
            have f10 := (fAt GItem.ok hv_27 (n := list_2.length) (by simp))
            have f11 := (show bldN 1 = 1 from rfl)
            have f12 := (show bldC [.int .i64 v_27.Kind, .str v_27.Name, .int .i32 v_27.N, .bool v_27.Hex, .int .u32 v_27.Raw] = [v_27].flatMap GItem.cs from rfl)
            have f13 := (fWin GItem.ok (n := 1) (xs := [v_27]) (by simp))
            have f14 := (fApp hv_28 (n := out_8.length) (by simp) (m := 1) (by simp [bsOf]))
            have f15 := (fWin GItem.ok (n := out_8.length) (xs := out_8) (by simp))
            have f16 := (fCat (e := GItem.cs) (ns := [v_27].flatMap GItem.cs) hv_28 rfl)
            try simp only [↓DN, UP, r1, r2, r3, r4, r5, r6, r7, reduceCtorEq, Try.f21, f10, f11, f12, f13, f14, f15, f16]
            obtain rfl := Option.some.inj hy_20
            exact cutT_mk (y_21.2, v_28) rfl (wn [0, 1, 5, 6] [0, 3])
      · rintro ⟨p_17, out_18⟩ hp
        replace hp := hp.symm; subst hp
        try dsimp only at hk_15
        try simp only [↓DN, UP, r1, r2, r3, r4, r5, r6, r7, reduceCtorEq, Try.f21]
        exact ⟨(p_17, out_18, IntKind.wrap .i64 (i_9 + 1)), hk_15, (wn [0, 1, 5, 6] [0, 1])⟩
    · obtain rfl := Option.some.inj hk_15
      try dsimp only at hy_6
      try simp only [↓DN, UP, r1, r2, r3, r4, r5, r6, r7, reduceCtorEq, Try.f21]
      obtain rfl := Option.some.inj hy_6
      exact cutT_mk (c_7, out_8) rfl (wn [0, 5] [0, 1])
  · rintro ⟨p_3, out_4⟩ hp
    replace hp := hp.symm; subst hp
    try dsimp only at h
    obtain ⟨y_29, hy_29, h⟩ := bS h
    try simp only [↓DN, UP, r1, r2, r3, r4, r5, r6, r7, reduceCtorEq, Try.f21]
    refine callE [0] 9 rfl rfl rfl rfl (c_spec_l04Some hy_29) rfl ?_
    obtain ⟨v_30, hv_30, h⟩ := bS h
    have f17 := (show bldN 1 = 1 from rfl)
    have f18 := (show bldC [.int .i64 y_29.1.Kind, .str y_29.1.Name, .int .i32 y_29.1.N, .bool y_29.1.Hex, .int .u32 y_29.1.Raw] = [y_29.1].flatMap GItem.cs from rfl)
    have f19 := (fWin GItem.ok (n := 1) (xs := [y_29.1]) (by simp))
    have f20 := (fApp hv_30 (n := out_4.length) (by simp) (m := 1) (by simp [bsOf]))
    have f21 := (fWin GItem.ok (n := out_4.length) (xs := out_4) (by simp))
    have f22 := (fCat (e := GItem.cs) (ns := [y_29.1].flatMap GItem.cs) hv_30 rfl)
    try simp only [↓DN, UP, r1, r2, r3, r4, r5, r6, r7, reduceCtorEq, Try.f21, f17, f18, f19, f20, f21, f22]
    obtain rfl := Option.some.inj h
    refine endT_of ?_ ⟨rfl, rfl⟩
    exact (wn [0] [0, 3])
theorem c_spec_DrawCommon {code_1 : List Int} {r : (List GItem) × (List GItem)} (h : g_spec_DrawCommon code_1 = some r) : Ans Try.prog 11 [.one (.imm 1 code_1.length (code_1.flatMap (eI .u8)))] [] fun v h1 => v = .tup [.one (.arr 0 0 r.1.length), .one (.arr 1 0 r.2.length)] ∧ h1 = [.live ⟨5, r.1.length, r.1.flatMap GItem.cs⟩, .live ⟨5, r.2.length, r.2.flatMap GItem.cs⟩] := by
  refine ansK (P := fun _ => Try.prog) TryT_eq (fn := Try.f11) Try.func11 rfl ⟨by kernel_rfl, rfl, rfl, by kernel_rfl⟩ (by simp) (Weak.refl _ _) ?_
  rw [g_spec_DrawCommon] at h
  obtain ⟨y_2, hy_2, h⟩ := bS h
  try simp only [↓DN, UP, r1, r2, r3, r4, r5, r6, r7, reduceCtorEq, Try.f11]
  refine callE [] 9 rfl rfl rfl rfl (c_spec_l01New hy_2) rfl ?_
  obtain ⟨y_3, hy_3, h⟩ := bS h
  try simp only [↓DN, UP, r1, r2, r3, r4, r5, r6, r7, reduceCtorEq, Try.f11]
  refine callE [0] 9 rfl rfl rfl rfl (c_spec_l04List hy_3) rfl ?_
  try simp only [↓DN, UP, r1, r2, r3, r4, r5, r6, r7, reduceCtorEq, Try.f11]
  obtain ⟨y_6, hy_7, h⟩ := bS h
  refine seqK TryT_eq (fun p : GL01Cur × (List GItem) => ⟨[(4, .pv (.one (.ptr 0 0))), (5, .pv (.one (.arr 1 0 p.2.length)))], [.live ⟨1, 3, [.imm 1 p.1.b.length (p.1.b.flatMap (eI .u8)), .int .i64 p.1.i, .int .i64 p.1.h]⟩, .live ⟨5, p.2.length, p.2.flatMap GItem.cs⟩]⟩) (fun v => y_6 = v) (by rfl) ?_ ?_
  · obtain ⟨y_8, hy_8, hy_7⟩ := bS hy_7
    try simp only [↓DN, UP, r1, r2, r3, r4, r5, r6, r7, reduceCtorEq, Try.f11]
    refine callE [0] 9 rfl rfl rfl rfl (c_spec_l01Once hy_8) rfl ?_
    try simp only [↓DN, UP, r1, r2, r3, r4, r5, r6, r7, reduceCtorEq, Try.f11]
    refine stIf hy_7 (fun hb_9 hy_7 => ?_) (fun hb_9 hy_7 => ?_)
    · try simp only [↓DN, UP, r1, r2, r3, r4, r5, r6, r7, reduceCtorEq, Try.f11]
      obtain ⟨y_14, hy_15, hy_7⟩ := bS hy_7
      refine loopK TryT_eq (fun p : GL01Cur × (List GItem) => ⟨[(4, .pv (.one (.ptr 0 0))), (5, .pv (.one (.arr 1 0 p.2.length)))], [.live ⟨1, 3, [.imm 1 p.1.b.length (p.1.b.flatMap (eI .u8)), .int .i64 p.1.i, .int .i64 p.1.h]⟩, .live ⟨5, p.2.length, p.2.flatMap GItem.cs⟩]⟩) (fun k p => g_spec_DrawCommon_l0 k p.1 p.2 = some y_14) (by kernel_rfl) bigK (y_8.2, y_3.1) (wn [4, 5] [0, 1]) hy_15 (fun _ h => nomatch (show none = some _ from h)) ?_
      rintro k_16 ⟨c_10, a_11⟩ hk_17
      rw [g_spec_DrawCommon_l0] at hk_17
      try dsimp only at hk_17
      try simp only [↓DN, UP, r1, r2, r3, r4, r5, r6, r7, reduceCtorEq, Try.f11]
      refine seqN TryT_eq rfl ?_
      obtain ⟨y_18, hy_18, hk_17⟩ := bS hk_17
      try simp only [↓DN, UP, r1, r2, r3, r4, r5, r6, r7, reduceCtorEq, Try.f11]
      refine callE [0] 9 rfl rfl rfl rfl (c_spec_l01Below hy_18) rfl ?_
      try simp only [↓DN, UP, r1, r2, r3, r4, r5, r6, r7, reduceCtorEq, Try.f11]
      refine stIf hk_17 (fun hb_19 hk_17 => ?_) (fun hb_19 hk_17 => ?_)
      · obtain ⟨v_20, hv_20, hk_17⟩ := bS hk_17
        have f1 := (show bldN 1 = 1 from rfl)
        have f2 := (show bldC [.int .i64 7, .str [], .int .i32 0, .bool false, .int .u32 0] = [(⟨7, [], 0, false, 0⟩ : GItem)].flatMap GItem.cs from rfl)
        have f3 := (fWin GItem.ok (n := 1) (xs := [(⟨7, [], 0, false, 0⟩ : GItem)]) (by simp))
        have f4 := (fApp hv_20 (n := a_11.length) (by simp) (m := 1) (by simp [bsOf]))
        have f5 := (fWin GItem.ok (n := a_11.length) (xs := a_11) (by simp))
        have f6 := (fCat (e := GItem.cs) (ns := [(⟨7, [], 0, false, 0⟩ : GItem)].flatMap GItem.cs) hv_20 rfl)
        try simp only [↓DN, UP, r1, r2, r3, r4, r5, r6, r7, reduceCtorEq, Try.f11, f1, f2, f3, f4, f5, f6]
        exact ⟨(y_18.2, v_20), hk_17, (wn [4, 5] [0, 3])⟩
      · obtain rfl := Option.some.inj hk_17
        try dsimp only at hy_7
        try simp only [↓DN, UP, r1, r2, r3, r4, r5, r6, r7, reduceCtorEq, Try.f11]
        obtain rfl := Option.some.inj hy_7
        exact cutT_mk (y_18.2, a_11) rfl (wn [4, 5] [0, 1])
    · try simp only [↓DN, UP, r1, r2, r3, r4, r5, r6, r7, reduceCtorEq, Try.f11]
      obtain rfl := Option.some.inj hy_7
      exact cutT_mk (y_8.2, y_3.1) rfl (wn [4, 5] [0, 1])
  · rintro ⟨c_4, a_5⟩ hp
    replace hp := hp.symm; subst hp
    try dsimp only at h
    obtain ⟨y_21, hy_21, h⟩ := bS h
    try simp only [↓DN, UP, r1, r2, r3, r4, r5, r6, r7, reduceCtorEq, Try.f11]
    refine cG [0] (c_spec_l22Twin hy_21) (hK := fun rd b => ?_)
    try simp only [↓DN, UP, r1, r2, r3, r4, r5, r6, r7, reduceCtorEq, Try.f11]
    obtain rfl := Option.some.inj h
    refine endT_of ?_ ⟨rfl, rfl⟩
    exact (wn [0] [1, 2])
theorem c_impl_common {a_1 : List GItem} {b_2 : List GItem} {r : Int} (h : g_impl_common a_1 b_2 = some r) : Ans Try.prog 15 [.one (.imm 5 a_1.length (a_1.flatMap GItem.cs)), .one (.imm 5 b_2.length (b_2.flatMap GItem.cs))] [] fun v h1 => v = .pv (.one (.int .i64 r)) ∧ h1 = [] := by
  refine ansK (P := fun _ => Try.prog) TryT_eq (fn := Try.f15) Try.func15 rfl ⟨by kernel_rfl, rfl, rfl, by kernel_rfl⟩ (by simp) (Weak.refl _ _) ?_
  rw [g_impl_common] at h
  obtain ⟨v_3, hv_3, h⟩ := bS h
  have f1 := (fMk hv_3)
  have f2 := (fMkC (e := (eI .i64)) (ns := [.int .i64 0]) hv_3 rfl)
  try simp only [↓DN, UP, r1, r2, r3, r4, r5, r6, r7, reduceCtorEq, Try.f15, f1, f2]
  obtain ⟨y_5, hy_6, h⟩ := bS h
  refine seqK TryT_eq (fun p : (List Int) => ⟨[(1, .pv (.one (.imm 5 b_2.length (b_2.flatMap GItem.cs)))), (5, .pv (.one (.arr 0 0 p.length)))], [.live ⟨1, p.length, p.flatMap (eI .i64)⟩]⟩) (fun v => y_5 = v) (by rfl) ?_ ?_
  · try simp only [↓DN, UP, r1, r2, r3, r4, r5, r6, r7, reduceCtorEq, Try.f15, f1, f2]
    obtain ⟨y_10, hy_11, hy_6⟩ := bS hy_6
    refine loopK TryT_eq (fun p : (List Int) × Int => ⟨[(1, .pv (.one (.imm 5 b_2.length (b_2.flatMap GItem.cs)))), (5, .pv (.one (.arr 0 0 p.1.length))), (15, .pv (.one (.imm 5 a_1.length (a_1.flatMap GItem.cs)))), (16, .pv (.one (.int .i64 (a_1.length : Int)))), (17, .pv (.one (.int .i64 p.2)))], [.live ⟨1, p.1.length, p.1.flatMap (eI .i64)⟩]⟩) (fun k p => g_impl_common_l0 a_1 b_2 v_3 k p.1 p.2 = some y_10) (by kernel_rfl) bigK (v_3, 0) (wn [1, 5, 15, 16, 17] [0]) hy_11 (fun _ h => nomatch (show none = some _ from h)) ?_
    rintro k_12 ⟨row_7, v_8⟩ hk_13
    rw [g_impl_common_l0] at hk_13
    try dsimp only at hk_13
    try simp only [↓DN, UP, r1, r2, r3, r4, r5, r6, r7, reduceCtorEq, Try.f15]
    refine seqN TryT_eq rfl ?_
    try simp only [↓DN, UP, r1, r2, r3, r4, r5, r6, r7, reduceCtorEq, Try.f15]
    refine stIf hk_13 (fun hb_14 hk_13 => ?_) (fun hb_14 hk_13 => ?_)
    · try simp only [↓DN, UP, r1, r2, r3, r4, r5, r6, r7, reduceCtorEq, Try.f15]
      obtain ⟨y_16, hy_17, hk_13⟩ := bS hk_13
      refine seqK TryT_eq (fun p : (List Int) => ⟨[(1, .pv (.one (.imm 5 b_2.length (b_2.flatMap GItem.cs)))), (5, .pv (.one (.arr 0 0 p.length))), (15, .pv (.one (.imm 5 a_1.length (a_1.flatMap GItem.cs)))), (16, .pv (.one (.int .i64 (a_1.length : Int)))), (17, .pv (.one (.int .i64 v_8)))], [.live ⟨1, p.length, p.flatMap (eI .i64)⟩]⟩) (fun v => y_16 = v) (by rfl) ?_ ?_
      · obtain ⟨v_18, hv_18, hy_17⟩ := bS hy_17
        have f3 := (fAt GItem.ok hv_18 (n := a_1.length) (by simp))
        have f4 := (fMk hv_3)
        have f5 := (fMkC (e := (eI .i64)) (ns := [.int .i64 0]) hv_3 rfl)
        try simp only [↓DN, UP, r1, r2, r3, r4, r5, r6, r7, reduceCtorEq, Try.f15, f3, f4, f5]
        obtain ⟨y_20, hy_21, hy_17⟩ := bS hy_17
        refine seqK TryT_eq (fun p : (List Int) => ⟨[(1, .pv (.one (.imm 5 b_2.length (b_2.flatMap GItem.cs)))), (8, .pv (.one (.arr 0 0 p.length))), (15, .pv (.one (.imm 5 a_1.length (a_1.flatMap GItem.cs)))), (16, .pv (.one (.int .i64 (a_1.length : Int)))), (17, .pv (.one (.int .i64 v_8)))], [.live ⟨1, p.length, p.flatMap (eI .i64)⟩]⟩) (fun v => y_20 = v) (by rfl) ?_ ?_
        · try simp only [↓DN, UP, r1, r2, r3, r4, r5, r6, r7, reduceCtorEq, Try.f15, f3, f4, f5]
          obtain ⟨y_25, hy_26, hy_21⟩ := bS hy_21
          refine loopK TryT_eq (fun p : (List Int) × Int => ⟨[(1, .pv (.one (.imm 5 b_2.length (b_2.flatMap GItem.cs)))), (5, .pv (.one (.arr 0 0 row_7.length))), (7, .pv (.one (.ptr 1 0))), (8, .pv (.one (.arr 2 0 p.1.length))), (15, .pv (.one (.imm 5 a_1.length (a_1.flatMap GItem.cs)))), (16, .pv (.one (.int .i64 (a_1.length : Int)))), (17, .pv (.one (.int .i64 v_8))), (25, .pv (.one (.imm 5 b_2.length (b_2.flatMap GItem.cs)))), (26, .pv (.one (.int .i64 (b_2.length : Int)))), (27, .pv (.one (.int .i64 p.2)))], [.live ⟨1, row_7.length, row_7.flatMap (eI .i64)⟩, .live ⟨1, 5, [.int .i64 v_18.Kind, .str v_18.Name, .int .i32 v_18.N, .bool v_18.Hex, .int .u32 v_18.Raw]⟩, .live ⟨1, p.1.length, p.1.flatMap (eI .i64)⟩]⟩) (fun k p => g_impl_common_l1 b_2 row_7 v_18 k p.1 p.2 = some y_25) (by kernel_rfl) bigK (v_3, 0) (wn [1, 5, 7, 8, 15, 16, 17, 25, 26, 27] [0, 1, 2]) hy_26 (fun _ h => nomatch (show none = some _ from h)) ?_
          rintro k_27 ⟨next_22, v_23⟩ hk_28
          rw [g_impl_common_l1] at hk_28
          try dsimp only at hk_28
          try simp only [↓DN, UP, r1, r2, r3, r4, r5, r6, r7, reduceCtorEq, Try.f15]
          refine seqN TryT_eq rfl ?_
          try simp only [↓DN, UP, r1, r2, r3, r4, r5, r6, r7, reduceCtorEq, Try.f15]
          refine stIf hk_28 (fun hb_29 hk_28 => ?_) (fun hb_29 hk_28 => ?_)
          · try simp only [↓DN, UP, r1, r2, r3, r4, r5, r6, r7, reduceCtorEq, Try.f15]
            obtain ⟨y_31, hy_32, hk_28⟩ := bS hk_28
            refine seqK TryT_eq (fun p : (List Int) => ⟨[(1, .pv (.one (.imm 5 b_2.length (b_2.flatMap GItem.cs)))), (5, .pv (.one (.arr 0 0 row_7.length))), (7, .pv (.one (.ptr 1 0))), (8, .pv (.one (.arr 2 0 p.length))), (15, .pv (.one (.imm 5 a_1.length (a_1.flatMap GItem.cs)))), (16, .pv (.one (.int .i64 (a_1.length : Int)))), (17, .pv (.one (.int .i64 v_8))), (25, .pv (.one (.imm 5 b_2.length (b_2.flatMap GItem.cs)))), (26, .pv (.one (.int .i64 (b_2.length : Int)))), (27, .pv (.one (.int .i64 v_23)))], [.live ⟨1, row_7.length, row_7.flatMap (eI .i64)⟩, .live ⟨1, 5, [.int .i64 v_18.Kind, .str v_18.Name, .int .i32 v_18.N, .bool v_18.Hex, .int .u32 v_18.Raw]⟩, .live ⟨1, p.length, p.flatMap (eI .i64)⟩]⟩) (fun v => y_31 = v) (by rfl) ?_ ?_
            · obtain ⟨v_33, hv_33, hy_32⟩ := bS hy_32
              obtain ⟨v_34, hv_34, hy_32⟩ := bS hy_32
              obtain ⟨v_35, hv_35, hy_32⟩ := bS hy_32
              obtain ⟨v_36, hv_36, hy_32⟩ := bS hy_32
              have f6 := (fAt GItem.ok hv_33 (n := b_2.length) (by simp))
              have f7 := (fPtr hv_34 (k := 1) (n := next_22.length) (by simp))
              have f8 := (fGet0 (eI_ok .i64) hv_34 (m := 1) (by decide) (by decide))
              have f9 := (fPtr hv_35 (k := 1) (n := row_7.length) (by simp))
              have f10 := (fGet0 (eI_ok .i64) hv_35 (m := 1) (by decide) (by decide))
              have f11 := (fPtr hv_36 (k := 1) (n := next_22.length) (by simp))
              have f12 := (fPut0 (eI_ok .i64) hv_36 (ns := [.int .i64 (maxI v_34 v_35)]) (y := maxI v_34 v_35) rfl)
              try simp only [↓DN, UP, r1, r2, r3, r4, r5, r6, r7, reduceCtorEq, Try.f15, f6, f7, f8, f9, f10, f11, f12]
              refine ⟨rfl, ?_⟩
              try simp only [↓DN, UP, r1, r2, r3, r4, r5, r6, r7, reduceCtorEq, Try.f15, f6, f7, f8, f9, f10, f11, f12]
              refine stIf hy_32 (fun hb_37 hy_32 => ?_) (fun hb_37 hy_32 => ?_)
              · obtain ⟨v_38, hv_38, hy_32⟩ := bS hy_32
                obtain ⟨v_39, hv_39, hy_32⟩ := bS hy_32
                have f13 := (fPtr hv_38 (k := 1) (n := row_7.length) (by simp))
                have f14 := (fGet0 (eI_ok .i64) hv_38 (m := 1) (by decide) (by decide))
                have f15 := (fPtr hv_39 (k := 1) (n := next_22.length) (by simp))
                have f16 := (fPut0 (eI_ok .i64) hv_39 (ns := [.int .i64 (IntKind.wrap .i64 (v_38 + 1))]) (y := IntKind.wrap .i64 (v_38 + 1)) rfl)
                try simp only [↓DN, UP, r1, r2, r3, r4, r5, r6, r7, reduceCtorEq, Try.f15, f6, f7, f8, f9, f10, f11, f12, f13, f14, f15, f16]
                obtain rfl := Option.some.inj hy_32
                exact cutT_mk ((next_22.set (IntKind.wrap .i64 (v_23 + 1)).toNat (maxI v_34 v_35)).set (IntKind.wrap .i64 (v_23 + 1)).toNat (IntKind.wrap .i64 (v_38 + 1))) rfl (weak_norm (ks := [1, 5, 7, 8, 15, 16, 17, 25, 26, 27]) (π := [0, 1, 2]) (fuel := 9) (by simp only [WL, r1, r2, r3, r4, r5, r6, r7, reduceCtorEq, fWin (eI_ok .i64) (n := next_22.length) (xs := (next_22.set (IntKind.wrap .i64 (v_23 + 1)).toNat (maxI v_34 v_35)).set (IntKind.wrap .i64 (v_23 + 1)).toNat (IntKind.wrap .i64 (v_38 + 1))) (by simp)]))
              · try simp only [↓DN, UP, r1, r2, r3, r4, r5, r6, r7, reduceCtorEq, Try.f15, f6, f7, f8, f9, f10, f11, f12]
                obtain rfl := Option.some.inj hy_32
                exact cutT_mk (next_22.set (IntKind.wrap .i64 (v_23 + 1)).toNat (maxI v_34 v_35)) rfl (weak_norm (ks := [1, 5, 7, 8, 15, 16, 17, 25, 26, 27]) (π := [0, 1, 2]) (fuel := 9) (by simp only [WL, r1, r2, r3, r4, r5, r6, r7, reduceCtorEq, fWin (eI_ok .i64) (n := next_22.length) (xs := next_22.set (IntKind.wrap .i64 (v_23 + 1)).toNat (maxI v_34 v_35)) (by simp)]))
            · rintro next_30 hp
              replace hp := hp.symm; subst hp
              try dsimp only at hk_28
              try simp only [↓DN, UP, r1, r2, r3, r4, r5, r6, r7, reduceCtorEq, Try.f15]
              exact ⟨(next_30, IntKind.wrap .i64 (v_23 + 1)), hk_28, (wn [1, 5, 7, 8, 15, 16, 17, 25, 26, 27] [0, 1, 2])⟩
          · obtain rfl := Option.some.inj hk_28
            try dsimp only at hy_21
            try simp only [↓DN, UP, r1, r2, r3, r4, r5, r6, r7, reduceCtorEq, Try.f15]
            obtain rfl := Option.some.inj hy_21
            exact cutT_mk next_22 rfl (wn [1, 8, 15, 16, 17] [2])
        · rintro next_19 hp
          replace hp := hp.symm; subst hp
          try dsimp only at hy_17
          try simp only [↓DN, UP, r1, r2, r3, r4, r5, r6, r7, reduceCtorEq, Try.f15]
          obtain rfl := Option.some.inj hy_17
          exact cutT_mk next_19 rfl (wn [1, 5, 15, 16, 17] [0])
      · rintro row_15 hp
        replace hp := hp.symm; subst hp
        try dsimp only at hk_13
        try simp only [↓DN, UP, r1, r2, r3, r4, r5, r6, r7, reduceCtorEq, Try.f15]
        exact ⟨(row_15, IntKind.wrap .i64 (v_8 + 1)), hk_13, (wn [1, 5, 15, 16, 17] [0])⟩
    · obtain rfl := Option.some.inj hk_13
      try dsimp only at hy_6
      try simp only [↓DN, UP, r1, r2, r3, r4, r5, r6, r7, reduceCtorEq, Try.f15]
      obtain rfl := Option.some.inj hy_6
      exact cutT_mk row_7 rfl (wn [1, 5] [0])
  · rintro row_4 hp
    replace hp := hp.symm; subst hp
    try dsimp only at h
    obtain ⟨v_40, hv_40, h⟩ := bS h
    have f17 := (fPtr hv_40 (k := 1) (n := row_4.length) (by simp))
    have f18 := (fGet0 (eI_ok .i64) hv_40 (m := 1) (by decide) (by decide))
    try simp only [↓DN, UP, r1, r2, r3, r4, r5, r6, r7, reduceCtorEq, Try.f15, f17, f18]
    obtain rfl := Option.some.inj h
    refine endT_of ?_ ⟨rfl, rfl⟩
    exact (wn [0] [])
theorem c_impl_Common {a_1 : List GItem} {b_2 : List GItem} {r : Int} (h : g_impl_Common a_1 b_2 = some r) : Ans Try.prog 8 [.one (.imm 5 a_1.length (a_1.flatMap GItem.cs)), .one (.imm 5 b_2.length (b_2.flatMap GItem.cs))] [] fun v h1 => v = .pv (.one (.int .i64 r)) ∧ h1 = [] := by
  refine ansK (P := fun _ => Try.prog) TryT_eq (fn := Try.f8) Try.func8 rfl ⟨by kernel_rfl, rfl, rfl, by kernel_rfl⟩ (by simp) (Weak.refl _ _) ?_
  rw [g_impl_Common] at h
  try simp only [↓DN, UP, r1, r2, r3, r4, r5, r6, r7, reduceCtorEq, Try.f8]
  refine seqN TryT_eq rfl ?_
  try simp only [↓DN, UP, r1, r2, r3, r4, r5, r6, r7, reduceCtorEq, Try.f8]
  obtain ⟨y_4, hy_5, h⟩ := bS h
  refine seqK TryT_eq (fun p : Bool => ⟨[(0, .pv (.one (.imm 5 a_1.length (a_1.flatMap GItem.cs)))), (1, .pv (.one (.imm 5 b_2.length (b_2.flatMap GItem.cs)))), (12, .pv (.one (.bool p)))], []⟩) (fun v => y_4 = v) (by rfl) ?_ ?_
  · try simp only [↓DN, UP, r1, r2, r3, r4, r5, r6, r7, reduceCtorEq, Try.f8]
    refine stIf hy_5 (fun hb_6 hy_5 => ?_) (fun hb_6 hy_5 => ?_)
    · try simp only [↓DN, UP, r1, r2, r3, r4, r5, r6, r7, reduceCtorEq, Try.f8, hb_6]
      obtain rfl := Option.some.inj hy_5
      exact cutT_mk true rfl (wn [0, 1, 12] [])
    · try simp only [↓DN, UP, r1, r2, r3, r4, r5, r6, r7, reduceCtorEq, Try.f8, hb_6]
      obtain rfl := Option.some.inj hy_5
      exact cutT_mk (decide ((b_2.length : Int) > 64)) rfl (wn [0, 1, 12] [])
  · rintro v_3 hp
    replace hp := hp.symm; subst hp
    try dsimp only at h
    try simp only [↓DN, UP, r1, r2, r3, r4, r5, r6, r7, reduceCtorEq, Try.f8]
    refine stIf h (fun hb_7 h => ?_) (fun hb_7 h => ?_)
    · try simp only [↓DN, UP, r1, r2, r3, r4, r5, r6, r7, reduceCtorEq, Try.f8]
      obtain rfl := Option.some.inj h
      refine endT_of ?_ ⟨rfl, rfl⟩
      exact (wn [0] [])
    · obtain ⟨y_8, hy_8, h⟩ := bS h
      try simp only [↓DN, UP, r1, r2, r3, r4, r5, r6, r7, reduceCtorEq, Try.f8]
      refine cG [] (c_impl_common hy_8) (hK := fun rd b => ?_)
      try simp only [↓DN, UP, r1, r2, r3, r4, r5, r6, r7, reduceCtorEq, Try.f8]
      obtain rfl := Option.some.inj h
      refine endT_of ?_ ⟨rfl, rfl⟩
      exact (wn [0] [])
theorem c_spec_l14Max {a_1 : Int} {b_2 : Int} {r : Int} (h : g_spec_l14Max a_1 b_2 = some r) : Ans Try.prog 22 [.one (.int .i64 a_1), .one (.int .i64 b_2)] [] fun v h1 => v = .pv (.one (.int .i64 r)) ∧ h1 = [] := by
  refine ansK (P := fun _ => Try.prog) TryT_eq (fn := Try.f22) Try.func22 rfl ⟨by kernel_rfl, rfl, rfl, by kernel_rfl⟩ (by simp) (Weak.refl _ _) ?_
  rw [g_spec_l14Max] at h
  try simp only [↓DN, UP, r1, r2, r3, r4, r5, r6, r7, reduceCtorEq, Try.f22]
  refine seqN TryT_eq rfl ?_
  try simp only [↓DN, UP, r1, r2, r3, r4, r5, r6, r7, reduceCtorEq, Try.f22]
  refine stIf h (fun hb_3 h => ?_) (fun hb_3 h => ?_)
  · try simp only [↓DN, UP, r1, r2, r3, r4, r5, r6, r7, reduceCtorEq, Try.f22]
    obtain rfl := Option.some.inj h
    refine endT_of ?_ ⟨rfl, rfl⟩
    exact (wn [0] [])
  · try simp only [↓DN, UP, r1, r2, r3, r4, r5, r6, r7, reduceCtorEq, Try.f22]
    obtain rfl := Option.some.inj h
    refine endT_of ?_ ⟨rfl, rfl⟩
    exact (wn [0] [])
theorem c_spec_l22Table {a : List GItem} {b : List GItem} {r : List (List Int)} (h : g_spec_l22Table a b = some r) : Ans Try.prog 13 [.one (.imm 5 a.length (a.flatMap GItem.cs)), .one (.imm 5 b.length (b.flatMap GItem.cs))] [] fun v h1 => v = .pv (.one (.imm 1 r.length (r.flatMap (eL (eI .i64) 1)))) ∧ h1 = [] := by
  refine ansK (P := fun _ => Try.prog) TryT_eq (fn := Try.f13) Try.func13 rfl ⟨by kernel_rfl, rfl, rfl, by kernel_rfl⟩ (by simp) (Weak.refl _ _) ?_
  rw [g_spec_l22Table] at h
  obtain ⟨rows, hrows, h⟩ := bS h
  have f1 := (show bldN 0 = 0 from rfl)
  have f2 := (show bldC [] = [] from rfl)
  simp only [↓DN, UP, r1, r2, r3, r4, r5, r6, r7, reduceCtorEq, Try.f13, f1, f2]
  refine seqK TryT_eq (fun p : List HS × Nat × List Nat => ⟨[(0, .pv (.one (.imm 5 a.length (a.flatMap GItem.cs)))), (1, .pv (.one (.imm 5 b.length (b.flatMap GItem.cs)))), (5, .pv (.one (.arr p.2.1 0 p.2.2.length)))], p.1⟩) (fun p => TabInv p.1 p.2.1 p.2.2 rows (IntKind.wrap .i64 ((b.length : Int) + 1)).toNat) (by rfl) ?_ ?_
  · simp only [↓DN, UP, r1, r2, r3, r4, r5, r6, r7, reduceCtorEq, Try.f13]
    refine loopK TryT_eq (fun p : List HS × Nat × List Nat × List (List Int) × Int => ⟨[(0, .pv (.one (.imm 5 a.length (a.flatMap GItem.cs)))), (1, .pv (.one (.imm 5 b.length (b.flatMap GItem.cs)))), (5, .pv (.one (.arr p.2.1 0 p.2.2.1.length))), (6, .pv (.one (.int .i64 p.2.2.2.2)))], p.1⟩)
      (fun k p => TabInv p.1 p.2.1 p.2.2.1 p.2.2.2.1 (IntKind.wrap .i64 ((b.length : Int) + 1)).toNat ∧ g_spec_l22Table_l0 a b k p.2.2.2.1 p.2.2.2.2 = some rows) (by kernel_rfl) bigK ([.live ⟨1, 0, []⟩], 0, [], [], 0) (wn [0, 1, 5, 6] [0]) ⟨tab_nil _, hrows⟩ (fun p hp => nomatch (show none = some _ from hp.2)) ?_
    rintro k ⟨H, o, ids, rs, i⟩ ⟨I, hk⟩
    rw [g_spec_l22Table_l0] at hk
    dsimp only at I hk ⊢
    refine seqN TryT_eq rfl ?_
    simp only [↓DN, UP, r1, r2, r3, r4, r5, r6, r7, reduceCtorEq, Try.f13]
    refine stIf hk (fun hb hk => ?_) (fun hb hk => ?_)
    · simp only [↓DN, UP, r1, r2, r3, r4, r5, r6, r7, reduceCtorEq, Try.f13]
      obtain ⟨z, hz, hk⟩ := bS hk
      obtain ⟨rs', hrs', hk⟩ := bS hk
      have hlo := I.lto
      have hzl := mk_len hz
      have g1 := fMk hz
      have g2 := fMkC (e := eI .i64) (ns := [.int .i64 0]) hz rfl
      rw [hzl] at g1 g2
      have g3 : (o = H.length) = False := eq_false (by omega)
      have g4 : (o = H.length + 1) = False := eq_false (by omega)
      have g5 : (H.length = H.length + 1) = False := eq_false (by omega)
      have g6 : (H.length + 1 = H.length) = False := eq_false (by omega)
      have g7 := fApp hrs' (n := ids.length) I.len.symm (m := 1) rfl
      have g8 := I.ho
      refine seqN TryT_eq rfl ?_
      simp only [↓DN, UP, r1, r2, r3, r4, r5, r6, r7, reduceCtorEq, Try.f13, g1, g2, g3, g4, g5, g6, g7, g8, bldC_id, bldN_id, setH_end, hOf_setH, winId, winOne]
      obtain ⟨e1, e2⟩ := appSome hrs'
      subst e1
      have hlen : (rs ++ [z]).length = ids.length + 1 := by rw [List.length_append, I.len]; rfl
      rw [hlen]
      refine ⟨(_, H.length + 2, ids ++ [H.length], rs ++ [z], IntKind.wrap .i64 (i + 1)), ⟨TabInv.app I hzl (by rw [← hlen]; exact e2) (by simp only [setH_len]; omega) (by intro j; simp only [hOf_setH]; rfl), hk⟩, weak_sub (by simp [lk])⟩
    · simp only [↓DN, UP, r1, r2, r3, r4, r5, r6, r7, reduceCtorEq, Try.f13]
      cases hk
      exact cutT_mk (H, o, ids) I (weak_sub (by simp [lk]))
  · rintro ⟨H, o, ids⟩ I
    dsimp only at I ⊢
    refine seqK TryT_eq (fun p : List HS => ⟨[(0, .pv (.one (.imm 5 a.length (a.flatMap GItem.cs)))), (1, .pv (.one (.imm 5 b.length (b.flatMap GItem.cs)))), (5, .pv (.one (.arr o 0 ids.length)))], p⟩) (fun p => TabInv p o ids r (IntKind.wrap .i64 ((b.length : Int) + 1)).toNat) (by rfl) ?_ ?_
    · simp only [↓DN, UP, r1, r2, r3, r4, r5, r6, r7, reduceCtorEq, Try.f13]
      refine loopK TryT_eq (fun p : List HS × List (List Int) × Int => ⟨[(0, .pv (.one (.imm 5 a.length (a.flatMap GItem.cs)))), (1, .pv (.one (.imm 5 b.length (b.flatMap GItem.cs)))), (5, .pv (.one (.arr o 0 ids.length))), (7, .pv (.one (.int .i64 p.2.2)))], p.1⟩)
        (fun k p => TabInv p.1 o ids p.2.1 (IntKind.wrap .i64 ((b.length : Int) + 1)).toNat ∧ g_spec_l22Table_l1 a b k p.2.1 p.2.2 = some r) (by kernel_rfl) bigK (H, rows, IntKind.wrap .i64 ((a.length : Int) - 1)) (weak_sub (by simp [lk])) ⟨I, h⟩ (fun p hp => nomatch (show none = some _ from hp.2)) ?_
      rintro k ⟨H, rs, i⟩ ⟨I, hk⟩
      rw [g_spec_l22Table_l1] at hk
      dsimp only at I hk ⊢
      refine seqN TryT_eq rfl ?_
      simp only [↓DN, UP, r1, r2, r3, r4, r5, r6, r7, reduceCtorEq, Try.f13]
      refine stIf hk (fun hb hk => ?_) (fun hb hk => ?_)
      · simp only [↓DN, UP, r1, r2, r3, r4, r5, r6, r7, reduceCtorEq, Try.f13]
        obtain ⟨rs2, hrs2, hk⟩ := bS hk
        refine seqK TryT_eq (fun p : List HS => ⟨[(0, .pv (.one (.imm 5 a.length (a.flatMap GItem.cs)))), (1, .pv (.one (.imm 5 b.length (b.flatMap GItem.cs)))), (5, .pv (.one (.arr o 0 ids.length))), (7, .pv (.one (.int .i64 i)))], p⟩) (fun p => TabInv p o ids rs2 (IntKind.wrap .i64 ((b.length : Int) + 1)).toNat) (by rfl) ?_ ?_
        · simp only [↓DN, UP, r1, r2, r3, r4, r5, r6, r7, reduceCtorEq, Try.f13]
          refine loopK TryT_eq (fun p : List HS × List (List Int) × Int => ⟨[(0, .pv (.one (.imm 5 a.length (a.flatMap GItem.cs)))), (1, .pv (.one (.imm 5 b.length (b.flatMap GItem.cs)))), (5, .pv (.one (.arr o 0 ids.length))), (7, .pv (.one (.int .i64 i))), (8, .pv (.one (.int .i64 p.2.2)))], p.1⟩)
            (fun k p => TabInv p.1 o ids p.2.1 (IntKind.wrap .i64 ((b.length : Int) + 1)).toNat ∧ g_spec_l22Table_l2 a b i k p.2.1 p.2.2 = some rs2) (by kernel_rfl) bigK (H, rs, IntKind.wrap .i64 ((b.length : Int) - 1)) (weak_sub (by simp [lk])) ⟨I, hrs2⟩ (fun p hp => nomatch (show none = some _ from hp.2)) ?_
          clear hrs2 hk I
          rintro k ⟨H, rs, k1⟩ ⟨I, hk⟩
          rw [g_spec_l22Table_l2] at hk
          dsimp only at I hk ⊢
          refine seqN TryT_eq rfl ?_
          simp only [↓DN, UP, r1, r2, r3, r4, r5, r6, r7, reduceCtorEq, Try.f13]
          refine stIf hk (fun hb hk => ?_) (fun hb hk => ?_)
          · simp only [↓DN, UP, r1, r2, r3, r4, r5, r6, r7, reduceCtorEq, Try.f13]
            obtain ⟨rs3, hrs3, hk⟩ := bS hk
            refine seqK TryT_eq (fun p : List HS => ⟨[(0, .pv (.one (.imm 5 a.length (a.flatMap GItem.cs)))), (1, .pv (.one (.imm 5 b.length (b.flatMap GItem.cs)))), (5, .pv (.one (.arr o 0 ids.length))), (7, .pv (.one (.int .i64 i))), (8, .pv (.one (.int .i64 k1)))], p⟩) (fun p => TabInv p o ids rs3 (IntKind.wrap .i64 ((b.length : Int) + 1)).toNat) (by rfl) ?_ ?_
            · rw [g_spec_l22Table_s] at hrs3
              obtain ⟨ra, hrw, hrs3⟩ := bS hrs3
              obtain ⟨rx, hrx, hrs3⟩ := bS hrs3
              obtain ⟨x, hx, hrs3⟩ := bS hrs3
              obtain ⟨y, hy, hrs3⟩ := bS hrs3
              obtain ⟨z, hz, hrs3⟩ := bS hrs3
              obtain ⟨w, hw, hrs3⟩ := bS hrs3
              obtain ⟨p, hp, hrs3⟩ := bS hrs3
              obtain ⟨q, hq, hrs3⟩ := bS hrs3
              obtain ⟨id0, e1, e2, e3, e4, e5⟩ := I.get hrw
              obtain ⟨id1, d1, d2, d3, d4, d5⟩ := I.get hrx
              have hlo := I.ho
              have l0 := (I.row _ _ _ e1 e2).2
              have l1 := (I.row _ _ _ d1 d2).2
              have g1 := row_get hx l1
              have g2 := row_get hy l0
              have g3 := row_get hw l0
              simp only [↓DN, UP, r1, r2, r3, r4, r5, r6, r7, reduceCtorEq, Try.f13, hlo, e3, e4, e5, d3, d4, d5, g1.1, g1.2, g2.1, g2.2, g3.1, g3.2]
              refine callE [] (rd1 := []) (rd2 := []) 9 rfl rfl rfl rfl (c_spec_l14Max hz) rfl ?_
              have u1 := row_put hw z
              simp only [↓DN, UP, r1, r2, r3, r4, r5, r6, r7, reduceCtorEq, Try.f13, hlo, e3, e4, e5, d3, d4, d5, g1.1, g1.2, g2.1, g2.2, g3.1, g3.2, u1]
              refine ⟨draw_flat (by kernel_rfl), ?_⟩
              have I1 := I.set e1 e2 (r' := ra.set k1.toNat z) (by rw [List.length_set])
              have q1 := fAt GItem.ok hp (n := a.length) (by simp)
              have q2 := fAt GItem.ok hq (n := b.length) (by simp)
              generalize setH H id0 _ = H1 at I1 ⊢
              try simp only [↓DN, UP, r1, r2, r3, r4, r5, r6, r7, reduceCtorEq, Try.f13, q1, q2]
              refine ⟨rfl, ?_⟩
              refine stIf hrs3 (fun hb hrs3 => ?_) (fun hb hrs3 => ?_)
              · obtain ⟨v, hv, hrs3⟩ := bS hrs3
                obtain ⟨v2, hv2, hrs3⟩ := bS hrs3
                obtain rfl := Option.some.inj hrs3
                have hne := I.ne hrw
                have c0 := I1.ho
                obtain ⟨c1, c2⟩ := I1.row _ _ (ra.set k1.toNat z) e1 (by rw [List.getElem?_set_self (List.getElem?_eq_some_iff.1 e2).1])
                obtain ⟨c3, c4⟩ := I1.row _ _ rx d1 (by rw [List.getElem?_set_ne (Ne.symm hne)]; exact d2)
                have g4 := row_get hv c4
                have g5 := row_get hv2 c2
                have u2 := row_put hv2 (IntKind.wrap .i64 (v + 1))
                try simp only [↓DN, UP, r1, r2, r3, r4, r5, r6, r7, reduceCtorEq, Try.f13, c0, c1, c3, e4, e5, d4, d5, g4.1, g4.2, g5.1, g5.2, u2]
                refine ⟨draw_flat (by kernel_rfl), ?_⟩
                try simp only [↓DN, UP, r1, r2, r3, r4, r5, r6, r7, reduceCtorEq, Try.f13]
                have I2 := I1.set (r' := (ra.set k1.toNat z).set k1.toNat (IntKind.wrap .i64 (v + 1))) e1 (by rw [List.getElem?_set_self (List.getElem?_eq_some_iff.1 e2).1]) (by rw [List.length_set])
                rw [show ∀ Y, (rs.set i.toNat (ra.set k1.toNat z)).set i.toNat Y = rs.set i.toNat Y from fun Y => List.set_set _] at I2
                exact cutT_mk _ I2 (weak_sub (by simp [lk]))
              · obtain rfl := Option.some.inj hrs3
                try simp only [↓DN, UP, r1, r2, r3, r4, r5, r6, r7, reduceCtorEq, Try.f13]
                exact cutT_mk H1 I1 (weak_sub (by simp [lk]))
            · intro H I
              simp only [↓DN, UP, r1, r2, r3, r4, r5, r6, r7, reduceCtorEq, Try.f13]
              exact ⟨(H, rs3, IntKind.wrap .i64 (k1 - 1)), ⟨I, hk⟩, weak_sub (by simp [lk])⟩
          · simp only [↓DN, UP, r1, r2, r3, r4, r5, r6, r7, reduceCtorEq, Try.f13]
            cases hk
            exact cutT_mk H I (weak_sub (by simp [lk]))
        · intro H I
          simp only [↓DN, UP, r1, r2, r3, r4, r5, r6, r7, reduceCtorEq, Try.f13]
          exact ⟨(H, rs2, IntKind.wrap .i64 (i - 1)), ⟨I, hk⟩, weak_sub (by simp [lk])⟩
      · simp only [↓DN, UP, r1, r2, r3, r4, r5, r6, r7, reduceCtorEq, Try.f13]
        cases hk
        exact cutT_mk H I (weak_sub (by simp [lk]))
    · intro H I
      simp only [↓DN, UP, r1, r2, r3, r4, r5, r6, r7, reduceCtorEq, Try.f13]
      exact endT_of I.shut ⟨rfl, rfl⟩
theorem c_spec_Common {a_1 : List GItem} {b_2 : List GItem} {r : Int} (h : g_spec_Common a_1 b_2 = some r) : Ans Try.prog 6 [.one (.imm 5 a_1.length (a_1.flatMap GItem.cs)), .one (.imm 5 b_2.length (b_2.flatMap GItem.cs))] [] fun v h1 => v = .pv (.one (.int .i64 r)) ∧ h1 = [] := by
  refine ansK (P := fun _ => Try.prog) TryT_eq (fn := Try.f6) Try.func6 rfl ⟨by kernel_rfl, rfl, rfl, by kernel_rfl⟩ (by simp) (Weak.refl _ _) ?_
  rw [g_spec_Common] at h
  try simp only [↓DN, UP, r1, r2, r3, r4, r5, r6, r7, reduceCtorEq, Try.f6]
  refine seqN TryT_eq rfl ?_
  try simp only [↓DN, UP, r1, r2, r3, r4, r5, r6, r7, reduceCtorEq, Try.f6]
  obtain ⟨y_4, hy_5, h⟩ := bS h
  refine seqK TryT_eq (fun p : Bool => ⟨[(0, .pv (.one (.imm 5 a_1.length (a_1.flatMap GItem.cs)))), (1, .pv (.one (.imm 5 b_2.length (b_2.flatMap GItem.cs)))), (12, .pv (.one (.bool p)))], []⟩) (fun v => y_4 = v) (by rfl) ?_ ?_
  · try simp only [↓DN, UP, r1, r2, r3, r4, r5, r6, r7, reduceCtorEq, Try.f6]
    refine stIf hy_5 (fun hb_6 hy_5 => ?_) (fun hb_6 hy_5 => ?_)
    · try simp only [↓DN, UP, r1, r2, r3, r4, r5, r6, r7, reduceCtorEq, Try.f6, hb_6]
      obtain rfl := Option.some.inj hy_5
      exact cutT_mk true rfl (wn [0, 1, 12] [])
    · try simp only [↓DN, UP, r1, r2, r3, r4, r5, r6, r7, reduceCtorEq, Try.f6, hb_6]
      obtain rfl := Option.some.inj hy_5
      exact cutT_mk (decide ((b_2.length : Int) > 64)) rfl (wn [0, 1, 12] [])
  · rintro v_3 hp
    replace hp := hp.symm; subst hp
    try dsimp only at h
    try simp only [↓DN, UP, r1, r2, r3, r4, r5, r6, r7, reduceCtorEq, Try.f6]
    refine stIf h (fun hb_7 h => ?_) (fun hb_7 h => ?_)
    · try simp only [↓DN, UP, r1, r2, r3, r4, r5, r6, r7, reduceCtorEq, Try.f6]
      obtain rfl := Option.some.inj h
      refine endT_of ?_ ⟨rfl, rfl⟩
      exact (wn [0] [])
    · obtain ⟨y_8, hy_8, h⟩ := bS h
      try simp only [↓DN, UP, r1, r2, r3, r4, r5, r6, r7, reduceCtorEq, Try.f6]
      refine callE [] 9 rfl rfl rfl rfl (c_spec_l22Table hy_8) rfl ?_
      obtain ⟨v_9, hv_9, h⟩ := bS h
      obtain ⟨v_10, hv_10, h⟩ := bS h
      have f1 := (fAt (eL_ok (eI .i64) 1) hv_9 (n := y_8.length) (by simp))
      have f2 := (fAt (eI_ok .i64) hv_10 (n := v_9.length) (by simp))
      try simp only [↓DN, UP, r1, r2, r3, r4, r5, r6, r7, reduceCtorEq, Try.f6, f1, f2]
      obtain rfl := Option.some.inj h
      refine endT_of ?_ ⟨rfl, rfl⟩
      exact (wn [0] [])
theorem c_laws_FnCommon {code_1 : List Int} {r : Bool} (h : g_laws_FnCommon code_1 = some r) : Ans Try.prog 4 [.one (.imm 1 code_1.length (code_1.flatMap (eI .u8)))] [] fun v h1 => v = .pv (.one (.bool r)) ∧ h1 = [] := by
  refine ansK (P := fun _ => Try.prog) TryT_eq (fn := Try.f4) Try.func4 rfl ⟨by kernel_rfl, rfl, rfl, by kernel_rfl⟩ (by simp) (Weak.refl _ _) ?_
  rw [g_laws_FnCommon] at h
  try simp only [↓DN, UP, r1, r2, r3, r4, r5, r6, r7, reduceCtorEq, Try.f4]
  refine seqN TryT_eq rfl ?_
  obtain ⟨y_2, hy_2, h⟩ := bS h
  try simp only [↓DN, UP, r1, r2, r3, r4, r5, r6, r7, reduceCtorEq, Try.f4]
  refine cG [] (c_laws_big hy_2) (hK := fun rd b => ?_)
  try simp only [↓DN, UP, r1, r2, r3, r4, r5, r6, r7, reduceCtorEq, Try.f4]
  refine stIf h (fun hb_3 h => ?_) (fun hb_3 h => ?_)
  · try simp only [↓DN, UP, r1, r2, r3, r4, r5, r6, r7, reduceCtorEq, Try.f4]
    obtain rfl := Option.some.inj h
    refine endT_of ?_ ⟨rfl, rfl⟩
    exact (wn [0] [])
  · obtain ⟨y_4, hy_4, h⟩ := bS h
    try simp only [↓DN, UP, r1, r2, r3, r4, r5, r6, r7, reduceCtorEq, Try.f4]
    refine cG [] (c_spec_DrawCommon hy_4) (hK := fun rd b => ?_)
    obtain ⟨y_5, hy_5, h⟩ := bS h
    try simp only [↓DN, UP, r1, r2, r3, r4, r5, r6, r7, reduceCtorEq, Try.f4]
    refine cG [] (c_impl_Common hy_5) (hK := fun rd b => ?_)
    try simp only [↓DN, UP, r1, r2, r3, r4, r5, r6, r7, reduceCtorEq, Try.f4]
    refine seqN TryT_eq rfl ?_
    try simp only [↓DN, UP, r1, r2, r3, r4, r5, r6, r7, reduceCtorEq, Try.f4]
    obtain ⟨y_7, hy_8, h⟩ := bS h
    refine seqK TryT_eq (fun p : Bool => ⟨[(3, .pv (.one (.arr 0 0 y_4.1.length))), (4, .pv (.one (.arr 1 0 y_4.2.length))), (5, .pv (.one (.int .i64 y_5))), (27, .pv (.one (.bool p)))], [.live ⟨5, y_4.1.length, y_4.1.flatMap GItem.cs⟩, .live ⟨5, y_4.2.length, y_4.2.flatMap GItem.cs⟩]⟩) (fun v => y_7 = v) (by rfl) ?_ ?_
    · obtain ⟨y_9, hy_9, hy_8⟩ := bS hy_8
      try simp only [↓DN, UP, r1, r2, r3, r4, r5, r6, r7, reduceCtorEq, Try.f4]
      refine cG [] (c_spec_Common hy_9) (hK := fun rd b => ?_)
      try simp only [↓DN, UP, r1, r2, r3, r4, r5, r6, r7, reduceCtorEq, Try.f4]
      refine stIf hy_8 (fun hb_10 hy_8 => ?_) (fun hb_10 hy_8 => ?_)
      · try simp only [↓DN, UP, r1, r2, r3, r4, r5, r6, r7, reduceCtorEq, Try.f4, hb_10]
        obtain rfl := Option.some.inj hy_8
        exact cutT_mk true rfl (wn [3, 4, 5, 27] [0, 1])
      · obtain ⟨y_11, hy_11, hy_8⟩ := bS hy_8
        try simp only [↓DN, UP, r1, r2, r3, r4, r5, r6, r7, reduceCtorEq, Try.f4, hb_10]
        refine cG [] (c_impl_Common hy_11) (hK := fun rd b => ?_)
        try simp only [↓DN, UP, r1, r2, r3, r4, r5, r6, r7, reduceCtorEq, Try.f4, hb_10]
        obtain rfl := Option.some.inj hy_8
        exact cutT_mk (y_5 != y_11) rfl (wn [3, 4, 5, 27] [0, 1])
    · rintro v_6 hp
      replace hp := hp.symm; subst hp
      try dsimp only at h
      try simp only [↓DN, UP, r1, r2, r3, r4, r5, r6, r7, reduceCtorEq, Try.f4]
      refine stIf h (fun hb_12 h => ?_) (fun hb_12 h => ?_)
      · try simp only [↓DN, UP, r1, r2, r3, r4, r5, r6, r7, reduceCtorEq, Try.f4]
        obtain rfl := Option.some.inj h
        refine endT_of ?_ ⟨rfl, rfl⟩
        exact (wn [0] [])
      · try simp only [↓DN, UP, r1, r2, r3, r4, r5, r6, r7, reduceCtorEq, Try.f4]
        refine seqN TryT_eq rfl ?_
        try simp only [↓DN, UP, r1, r2, r3, r4, r5, r6, r7, reduceCtorEq, Try.f4]
        refine stIf h (fun hb_13 h => ?_) (fun hb_13 h => ?_)
        · try simp only [↓DN, UP, r1, r2, r3, r4, r5, r6, r7, reduceCtorEq, Try.f4]
          refine seqN TryT_eq rfl ?_
          try simp only [↓DN, UP, r1, r2, r3, r4, r5, r6, r7, reduceCtorEq, Try.f4]
          refine stIf h (fun hb_14 h => ?_) (fun hb_14 h => ?_)
          · try simp only [↓DN, UP, r1, r2, r3, r4, r5, r6, r7, reduceCtorEq, Try.f4, hb_14]
            obtain rfl := Option.some.inj h
            refine endT_of ?_ ⟨rfl, rfl⟩
            exact (wn [0] [])
          · try simp only [↓DN, UP, r1, r2, r3, r4, r5, r6, r7, reduceCtorEq, Try.f4, hb_14]
            obtain rfl := Option.some.inj h
            refine endT_of ?_ ⟨rfl, rfl⟩
            exact (wn [0] [])
        · try simp only [↓DN, UP, r1, r2, r3, r4, r5, r6, r7, reduceCtorEq, Try.f4]
          refine seqN TryT_eq rfl ?_
          try simp only [↓DN, UP, r1, r2, r3, r4, r5, r6, r7, reduceCtorEq, Try.f4]
          refine stIf h (fun hb_15 h => ?_) (fun hb_15 h => ?_)
          · try simp only [↓DN, UP, r1, r2, r3, r4, r5, r6, r7, reduceCtorEq, Try.f4, hb_15]
            refine stIf h (fun hb_16 h => ?_) (fun hb_16 h => ?_)
            · obtain ⟨y_17, hy_17, h⟩ := bS h
              try simp only [↓DN, UP, r1, r2, r3, r4, r5, r6, r7, reduceCtorEq, Try.f4, hb_15, hb_16]
              refine cG [] (c_impl_Common hy_17) (hK := fun rd b => ?_)
              try simp only [↓DN, UP, r1, r2, r3, r4, r5, r6, r7, reduceCtorEq, Try.f4, hb_15, hb_16]
              obtain rfl := Option.some.inj h
              refine endT_of ?_ ⟨rfl, rfl⟩
              exact (wn [0] [])
            · try simp only [↓DN, UP, r1, r2, r3, r4, r5, r6, r7, reduceCtorEq, Try.f4, hb_15, hb_16]
              obtain rfl := Option.some.inj h
              refine endT_of ?_ ⟨rfl, rfl⟩
              exact (wn [0] [])
          · try simp only [↓DN, UP, r1, r2, r3, r4, r5, r6, r7, reduceCtorEq, Try.f4, hb_15]
            obtain rfl := Option.some.inj h
            refine endT_of ?_ ⟨rfl, rfl⟩
            exact (wn [0] [])
end Go.Proofs.Ytigaffddnidkpaa
