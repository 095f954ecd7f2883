import Derived.Test.YthhoellakpnjpaaGreatGD
namespace Go.Proofs.YthhoellakpnjpaaGreat
open Go Go.Fm
open Nat renaming reduceEqDiff → r1, reduceLT → r2, reduceLeDiff → r3, reduceAdd → r4, reduceMul → r5, reduceSub → r6
open Int renaming reduceToNat → r7
set_option maxRecDepth 100000
set_option linter.unusedVariables false
set_option linter.unusedSimpArgs false
theorem c_laws_big {code_1 : List Int} {r : Bool} (h : g_laws_big code_1 = some r) : Ans Tryz.prog 4 [.one (.imm 1 code_1.length (code_1.flatMap (eI .u8)))] [] fun v h1 => v = .pv (.one (.bool r)) ∧ h1 = [] := by
  refine ansK (P := fun _ => Tryz.prog) TryzT_eq (fn := Tryz.f4) Tryz.func4 rfl ⟨by kernel_rfl, rfl, rfl, by kernel_rfl⟩ (by simp) (Weak.refl _ _) ?_
  rw [g_laws_big] at h
  try simp only [↓DN, UP, r1, r2, r3, r4, r5, r6, r7, reduceCtorEq, Tryz.f4]
  obtain rfl := Option.some.inj h
  refine endT_of ?_ ⟨rfl, rfl⟩
  exact (wn [0] [])
theorem c_spec_l01New {code_1 : List Int} {r : GL01Cur} (h : g_spec_l01New code_1 = some r) : Ans Tryz.prog 12 [.one (.imm 1 code_1.length (code_1.flatMap (eI .u8)))] [] fun v h1 => v = .pv (.one (.ptr 0 0)) ∧ h1 = [.live ⟨1, 3, [.imm 1 r.b.length (r.b.flatMap (eI .u8)), .int .i64 r.i, .int .i64 r.h]⟩] := by
  refine ansK (P := fun _ => Tryz.prog) TryzT_eq (fn := Tryz.f12) Tryz.func12 rfl ⟨by kernel_rfl, rfl, rfl, by kernel_rfl⟩ (by simp) (Weak.refl _ _) ?_
  rw [g_spec_l01New] at h
  try simp only [↓DN, UP, r1, r2, r3, r4, r5, r6, r7, reduceCtorEq, Tryz.f12]
  obtain ⟨y_3, hy_4, h⟩ := bS h
  refine seqK TryzT_eq (fun p : Int => ⟨[(0, .pv (.one (.imm 1 code_1.length (code_1.flatMap (eI .u8))))), (3, .pv (.one (.int .i64 p)))], []⟩) (fun v => y_3 = v) (by rfl) ?_ ?_
  · try simp only [↓DN, UP, r1, r2, r3, r4, r5, r6, r7, reduceCtorEq, Tryz.f12]
    obtain ⟨y_8, hy_9, hy_4⟩ := bS hy_4
    refine loopK TryzT_eq (fun p : Int × Int => ⟨[(0, .pv (.one (.imm 1 code_1.length (code_1.flatMap (eI .u8))))), (3, .pv (.one (.int .i64 p.1))), (4, .pv (.one (.int .i64 p.2)))], []⟩) (fun k p => g_spec_l01New_l0 code_1 k p.1 p.2 = some y_8) (by kernel_rfl) bigK (IntKind.wrap .i64 (711711 + (code_1.length : Int)), 0) (wn [0, 3, 4] []) hy_9 (fun _ h => nomatch (show none = some _ from h)) ?_
    rintro k_10 ⟨h_5, i_6⟩ hk_11
    rw [g_spec_l01New_l0] at hk_11
    try dsimp only at hk_11
    try simp only [↓DN, UP, r1, r2, r3, r4, r5, r6, r7, reduceCtorEq, Tryz.f12]
    refine seqN TryzT_eq rfl ?_
    try simp only [↓DN, UP, r1, r2, r3, r4, r5, r6, r7, reduceCtorEq, Tryz.f12]
    obtain ⟨y_13, hy_14, hk_11⟩ := bS hk_11
    refine seqK TryzT_eq (fun p : Bool => ⟨[(0, .pv (.one (.imm 1 code_1.length (code_1.flatMap (eI .u8))))), (3, .pv (.one (.int .i64 h_5))), (4, .pv (.one (.int .i64 i_6))), (15, .pv (.one (.bool p)))], []⟩) (fun v => y_13 = v) (by rfl) ?_ ?_
    · try simp only [↓DN, UP, r1, r2, r3, r4, r5, r6, r7, reduceCtorEq, Tryz.f12]
      refine stIf hy_14 (fun hb_15 hy_14 => ?_) (fun hb_15 hy_14 => ?_)
      · try simp only [↓DN, UP, r1, r2, r3, r4, r5, r6, r7, reduceCtorEq, Tryz.f12, hb_15]
        obtain rfl := Option.some.inj hy_14
        exact cutT_mk (decide (i_6 < 4000)) rfl (wn [0, 3, 4, 15] [])
      · try simp only [↓DN, UP, r1, r2, r3, r4, r5, r6, r7, reduceCtorEq, Tryz.f12, hb_15]
        obtain rfl := Option.some.inj hy_14
        exact cutT_mk false rfl (wn [0, 3, 4, 15] [])
    · rintro v_12 hp
      replace hp := hp.symm; subst hp
      try dsimp only at hk_11
      try simp only [↓DN, UP, r1, r2, r3, r4, r5, r6, r7, reduceCtorEq, Tryz.f12]
      refine stIf hk_11 (fun hb_16 hk_11 => ?_) (fun hb_16 hk_11 => ?_)
      · try simp only [↓DN, UP, r1, r2, r3, r4, r5, r6, r7, reduceCtorEq, Tryz.f12]
        refine seqN TryzT_eq rfl ?_
        obtain ⟨v_17, hv_17, hk_11⟩ := bS hk_11
        have f1 := (fAt (eI_ok .u8) hv_17 (n := code_1.length) (by simp))
        try simp only [↓DN, UP, r1, r2, r3, r4, r5, r6, r7, reduceCtorEq, Tryz.f12, f1]
        exact ⟨(andI .i64 (IntKind.wrap .i64 ((IntKind.wrap .i64 ((IntKind.wrap .i64 (h_5 * 131)) + (IntKind.wrap .i64 v_17))) + 7)) 1073741823, IntKind.wrap .i64 (i_6 + 1)), hk_11, (wn [0, 3, 4] [])⟩
      · obtain rfl := Option.some.inj hk_11
        try dsimp only at hy_4
        try simp only [↓DN, UP, r1, r2, r3, r4, r5, r6, r7, reduceCtorEq, Tryz.f12]
        obtain rfl := Option.some.inj hy_4
        exact cutT_mk h_5 rfl (wn [0, 3] [])
  · rintro h_2 hp
    replace hp := hp.symm; subst hp
    try dsimp only at h
    try simp only [↓DN, UP, r1, r2, r3, r4, r5, r6, r7, reduceCtorEq, Tryz.f12]
    obtain rfl := Option.some.inj h
    refine endT_of ?_ ⟨rfl, rfl⟩
    exact (wn [0] [0])
theorem c_spec_l01Byte {c_1 : GL01Cur} {r : Int × GL01Cur} (h : g_spec_l01Byte c_1 = some r) : Ans Tryz.prog 52 [.one (.ptr 0 0)] [.live ⟨1, 3, [.imm 1 c_1.b.length (c_1.b.flatMap (eI .u8)), .int .i64 c_1.i, .int .i64 c_1.h]⟩] fun v h1 => v = .pv (.one (.int .i64 r.1)) ∧ h1 = [.live ⟨1, 3, [.imm 1 r.2.b.length (r.2.b.flatMap (eI .u8)), .int .i64 r.2.i, .int .i64 r.2.h]⟩] := by
  refine ansK (P := fun _ => Tryz.prog) TryzT_eq (fn := Tryz.f52) Tryz.func52 rfl ⟨by kernel_rfl, rfl, rfl, by kernel_rfl⟩ (by simp) (Weak.refl _ _) ?_
  rw [g_spec_l01Byte] at h
  have f1 := (shrI_lit (k := .i64) (a := IntKind.wrap .i64 ((IntKind.wrap .i64 (c_1.h * 6364136223846793005)) + 1442695040888963407)) (b := 33) (m := 8589934592) (by decide) (by decide))
  have f2 := (shrI_lit (k := .i64) (a := IntKind.wrap .i64 ((IntKind.wrap .i64 (c_1.h * 6364136223846793005)) + 1442695040888963407)) (b := 45) (m := 35184372088832) (by decide) (by decide))
  try simp only [↓DN, UP, r1, r2, r3, r4, r5, r6, r7, reduceCtorEq, Tryz.f52, f1, f2]
  refine ⟨rfl, ?_⟩
  try simp only [↓DN, UP, r1, r2, r3, r4, r5, r6, r7, reduceCtorEq, Tryz.f52, f1, f2]
  obtain ⟨y_4, hy_5, h⟩ := bS h
  refine seqK TryzT_eq (fun p : GL01Cur × Int => ⟨[(3, .pv (.one (.int .i64 p.2)))], [.live ⟨1, 3, [.imm 1 p.1.b.length (p.1.b.flatMap (eI .u8)), .int .i64 p.1.i, .int .i64 p.1.h]⟩]⟩) (fun v => y_4 = v) (by rfl) ?_ ?_
  · try simp only [↓DN, UP, r1, r2, r3, r4, r5, r6, r7, reduceCtorEq, Tryz.f52, f1, f2]
    refine ⟨rfl, ?_⟩
    try simp only [↓DN, UP, r1, r2, r3, r4, r5, r6, r7, reduceCtorEq, Tryz.f52, f1, f2]
    refine stIf hy_5 (fun hb_6 hy_5 => ?_) (fun hb_6 hy_5 => ?_)
    · obtain ⟨v_7, hv_7, hy_5⟩ := bS hy_5
      have f3 := (fAt (eI_ok .u8) hv_7 (n := c_1.b.length) (by simp))
      try simp only [↓DN, UP, r1, r2, r3, r4, r5, r6, r7, reduceCtorEq, Tryz.f52, f1, f2, f3]
      refine ⟨rfl, ?_⟩
      try simp only [↓DN, UP, r1, r2, r3, r4, r5, r6, r7, reduceCtorEq, Tryz.f52, f1, f2, f3]
      obtain rfl := Option.some.inj hy_5
      exact cutT_mk ((⟨c_1.b, IntKind.wrap .i64 (c_1.i + 1), IntKind.wrap .i64 ((IntKind.wrap .i64 (c_1.h * 6364136223846793005)) + 1442695040888963407)⟩ : GL01Cur), andI .i64 (IntKind.wrap .i64 ((andI .i64 (xorI .i64 ((IntKind.wrap .i64 ((IntKind.wrap .i64 (c_1.h * 6364136223846793005)) + 1442695040888963407)) / 8589934592) ((IntKind.wrap .i64 ((IntKind.wrap .i64 (c_1.h * 6364136223846793005)) + 1442695040888963407)) / 35184372088832)) 255) + (IntKind.wrap .i64 v_7))) 255) rfl (wn [3] [0])
    · try simp only [↓DN, UP, r1, r2, r3, r4, r5, r6, r7, reduceCtorEq, Tryz.f52, f1, f2]
      obtain rfl := Option.some.inj hy_5
      exact cutT_mk ((⟨c_1.b, c_1.i, IntKind.wrap .i64 ((IntKind.wrap .i64 (c_1.h * 6364136223846793005)) + 1442695040888963407)⟩ : GL01Cur), andI .i64 (xorI .i64 ((IntKind.wrap .i64 ((IntKind.wrap .i64 (c_1.h * 6364136223846793005)) + 1442695040888963407)) / 8589934592) ((IntKind.wrap .i64 ((IntKind.wrap .i64 (c_1.h * 6364136223846793005)) + 1442695040888963407)) / 35184372088832)) 255) rfl (wn [3] [0])
  · rintro ⟨p_2, x_3⟩ hp
    replace hp := hp.symm; subst hp
    try dsimp only at h
    try simp only [↓DN, UP, r1, r2, r3, r4, r5, r6, r7, reduceCtorEq, Tryz.f52]
    obtain rfl := Option.some.inj h
    refine endT_of ?_ ⟨rfl, rfl⟩
    exact (wn [0] [0])
theorem c_spec_l01Below {c_1 : GL01Cur} {n_2 : Int} {r : Int × GL01Cur} (h : g_spec_l01Below c_1 n_2 = some r) : Ans Tryz.prog 34 [.one (.ptr 0 0), .one (.int .i64 n_2)] [.live ⟨1, 3, [.imm 1 c_1.b.length (c_1.b.flatMap (eI .u8)), .int .i64 c_1.i, .int .i64 c_1.h]⟩] fun v h1 => v = .pv (.one (.int .i64 r.1)) ∧ h1 = [.live ⟨1, 3, [.imm 1 r.2.b.length (r.2.b.flatMap (eI .u8)), .int .i64 r.2.i, .int .i64 r.2.h]⟩] := by
  refine ansK (P := fun _ => Tryz.prog) TryzT_eq (fn := Tryz.f34) Tryz.func34 rfl ⟨by kernel_rfl, rfl, rfl, by kernel_rfl⟩ (by simp) (Weak.refl _ _) ?_
  rw [g_spec_l01Below] at h
  try simp only [↓DN, UP, r1, r2, r3, r4, r5, r6, r7, reduceCtorEq, Tryz.f34]
  refine seqN TryzT_eq rfl ?_
  try simp only [↓DN, UP, r1, r2, r3, r4, r5, r6, r7, reduceCtorEq, Tryz.f34]
  refine stIf h (fun hb_3 h => ?_) (fun hb_3 h => ?_)
  · try simp only [↓DN, UP, r1, r2, r3, r4, r5, r6, r7, reduceCtorEq, Tryz.f34]
    obtain rfl := Option.some.inj h
    refine endT_of ?_ ⟨rfl, rfl⟩
    exact (wn [0] [0])
  · try simp only [↓DN, UP, r1, r2, r3, r4, r5, r6, r7, reduceCtorEq, Tryz.f34]
    refine seqN TryzT_eq rfl ?_
    try simp only [↓DN, UP, r1, r2, r3, r4, r5, r6, r7, reduceCtorEq, Tryz.f34]
    refine stIf h (fun hb_4 h => ?_) (fun hb_4 h => ?_)
    · obtain ⟨y_5, hy_5, h⟩ := bS h
      try simp only [↓DN, UP, r1, r2, r3, r4, r5, r6, r7, reduceCtorEq, Tryz.f34]
      refine callE [0] 9 rfl rfl rfl rfl (c_spec_l01Byte hy_5) rfl ?_
      obtain ⟨v_6, hv_6, h⟩ := bS h
      try simp only [↓DN, UP, r1, r2, r3, r4, r5, r6, r7, reduceCtorEq, Tryz.f34, hv_6]
      obtain rfl := Option.some.inj h
      refine endT_of ?_ ⟨rfl, rfl⟩
      exact (wn [0] [0])
    · obtain ⟨y_7, hy_7, h⟩ := bS h
      try simp only [↓DN, UP, r1, r2, r3, r4, r5, r6, r7, reduceCtorEq, Tryz.f34]
      refine callE [0] 9 rfl rfl rfl rfl (c_spec_l01Byte hy_7) rfl ?_
      obtain ⟨y_8, hy_8, h⟩ := bS h
      try simp only [↓DN, UP, r1, r2, r3, r4, r5, r6, r7, reduceCtorEq, Tryz.f34]
      refine callE [0] 9 rfl rfl rfl rfl (c_spec_l01Byte hy_8) rfl ?_
      obtain ⟨y_9, hy_9, h⟩ := bS h
      try simp only [↓DN, UP, r1, r2, r3, r4, r5, r6, r7, reduceCtorEq, Tryz.f34]
      refine callE [0] 9 rfl rfl rfl rfl (c_spec_l01Byte hy_9) rfl ?_
      obtain ⟨y_10, hy_10, h⟩ := bS h
      try simp only [↓DN, UP, r1, r2, r3, r4, r5, r6, r7, reduceCtorEq, Tryz.f34]
      refine callE [0] 9 rfl rfl rfl rfl (c_spec_l01Byte hy_10) rfl ?_
      obtain ⟨v_11, hv_11, h⟩ := bS h
      try simp only [↓DN, UP, r1, r2, r3, r4, r5, r6, r7, reduceCtorEq, Tryz.f34, hv_11]
      obtain rfl := Option.some.inj h
      refine endT_of ?_ ⟨rfl, rfl⟩
      exact (wn [0] [0])
theorem c_spec_l01Once {c_1 : GL01Cur} {n_2 : Int} {r : Bool × GL01Cur} (h : g_spec_l01Once c_1 n_2 = some r) : Ans Tryz.prog 15 [.one (.ptr 0 0), .one (.int .i64 n_2)] [.live ⟨1, 3, [.imm 1 c_1.b.length (c_1.b.flatMap (eI .u8)), .int .i64 c_1.i, .int .i64 c_1.h]⟩] fun v h1 => v = .pv (.one (.bool r.1)) ∧ h1 = [.live ⟨1, 3, [.imm 1 r.2.b.length (r.2.b.flatMap (eI .u8)), .int .i64 r.2.i, .int .i64 r.2.h]⟩] := by
  refine ansK (P := fun _ => Tryz.prog) TryzT_eq (fn := Tryz.f15) Tryz.func15 rfl ⟨by kernel_rfl, rfl, rfl, by kernel_rfl⟩ (by simp) (Weak.refl _ _) ?_
  rw [g_spec_l01Once] at h
  obtain ⟨y_3, hy_3, h⟩ := bS h
  try simp only [↓DN, UP, r1, r2, r3, r4, r5, r6, r7, reduceCtorEq, Tryz.f15]
  refine callE [0] 9 rfl rfl rfl rfl (c_spec_l01Below hy_3) rfl ?_
  try simp only [↓DN, UP, r1, r2, r3, r4, r5, r6, r7, reduceCtorEq, Tryz.f15]
  obtain rfl := Option.some.inj h
  refine endT_of ?_ ⟨rfl, rfl⟩
  exact (wn [0] [0])
theorem c_spec_l01In {x_1 : Int} {a_2 : Int} {b_3 : Int} {r : Bool} (h : g_spec_l01In x_1 a_2 b_3 = some r) : Ans Tryz.prog 30 [.one (.int .i64 x_1), .one (.int .i64 a_2), .one (.int .i64 b_3)] [] fun v h1 => v = .pv (.one (.bool r)) ∧ h1 = [] := by
  refine ansK (P := fun _ => Tryz.prog) TryzT_eq (fn := Tryz.f30) Tryz.func30 rfl ⟨by kernel_rfl, rfl, rfl, by kernel_rfl⟩ (by simp) (Weak.refl _ _) ?_
  rw [g_spec_l01In] at h
  try simp only [↓DN, UP, r1, r2, r3, r4, r5, r6, r7, reduceCtorEq, Tryz.f30]
  refine seqN TryzT_eq rfl ?_
  try simp only [↓DN, UP, r1, r2, r3, r4, r5, r6, r7, reduceCtorEq, Tryz.f30]
  refine stIf h (fun hb_4 h => ?_) (fun hb_4 h => ?_)
  · try simp only [↓DN, UP, r1, r2, r3, r4, r5, r6, r7, reduceCtorEq, Tryz.f30, hb_4]
    obtain rfl := Option.some.inj h
    refine endT_of ?_ ⟨rfl, rfl⟩
    exact (wn [0] [])
  · try simp only [↓DN, UP, r1, r2, r3, r4, r5, r6, r7, reduceCtorEq, Tryz.f30, hb_4]
    obtain rfl := Option.some.inj h
    refine endT_of ?_ ⟨rfl, rfl⟩
    exact (wn [0] [])
theorem c_spec_NewStore {n_1 : Int} {r : GStore} (h : g_spec_NewStore n_1 = some r) : Ans Tryz.prog 50 [.one (.int .i64 n_1)] [] fun v h1 => v = .pv (.agg [.arr 0 0 r.Cells.length]) ∧ h1 = [.live ⟨1, r.Cells.length, r.Cells.flatMap (eI .u32)⟩] := by
  refine ansK (P := fun _ => Tryz.prog) TryzT_eq (fn := Tryz.f50) Tryz.func50 rfl ⟨by kernel_rfl, rfl, rfl, by kernel_rfl⟩ (by simp) (Weak.refl _ _) ?_
  rw [g_spec_NewStore] at h
  try simp only [↓DN, UP, r1, r2, r3, r4, r5, r6, r7, reduceCtorEq, Tryz.f50]
  refine seqN TryzT_eq rfl ?_
  obtain ⟨y_2, hy_2, h⟩ := bS h
  try simp only [↓DN, UP, r1, r2, r3, r4, r5, r6, r7, reduceCtorEq, Tryz.f50]
  refine cG [] (c_spec_l01In hy_2) (hK := fun rd b => ?_)
  try simp only [↓DN, UP, r1, r2, r3, r4, r5, r6, r7, reduceCtorEq, Tryz.f50]
  refine stIf h (fun hb_3 h => ?_) (fun hb_3 h => ?_)
  · try simp only [↓DN, UP, r1, r2, r3, r4, r5, r6, r7, reduceCtorEq, Tryz.f50]
    obtain rfl := Option.some.inj h
    refine endT_of ?_ ⟨rfl, rfl⟩
    exact ((weak_norm (ks := [0]) (π := []) (fuel := 9) (s' := ⟨[(0, .pv (.agg [.emp]))], []⟩) (by simp only [WL, r1, r2, r3, r4, r5, r6, r7, reduceCtorEq])).trans (weak_le (by simp only [LEb, r1, r2, r3, r4, r5, r6, r7, reduceCtorEq, TL]) (by simp only [LEb, r1, r2, r3, r4, r5, r6, r7, reduceCtorEq, TL])))
  · obtain ⟨v_4, hv_4, h⟩ := bS h
    have f1 := (fMk hv_4)
    have f2 := (fMkC (e := (eI .u32)) (ns := [.int .u32 0]) hv_4 rfl)
    try simp only [↓DN, UP, r1, r2, r3, r4, r5, r6, r7, reduceCtorEq, Tryz.f50, f1, f2]
    obtain rfl := Option.some.inj h
    refine endT_of ?_ ⟨rfl, rfl⟩
    exact (wn [0] [1])
theorem c_spec_l01PickInt {c_1 : GL01Cur} {list_2 : List Int} {r : Int × GL01Cur} (h : g_spec_l01PickInt c_1 list_2 = some r) : Ans Tryz.prog 89 [.one (.ptr 0 0), .one (.imm 1 list_2.length (list_2.flatMap (eI .i64)))] [.live ⟨1, 3, [.imm 1 c_1.b.length (c_1.b.flatMap (eI .u8)), .int .i64 c_1.i, .int .i64 c_1.h]⟩] fun v h1 => v = .pv (.one (.int .i64 r.1)) ∧ h1 = [.live ⟨1, 3, [.imm 1 r.2.b.length (r.2.b.flatMap (eI .u8)), .int .i64 r.2.i, .int .i64 r.2.h]⟩] := by
  refine ansK (P := fun _ => Tryz.prog) TryzT_eq (fn := Tryz.f89) Tryz.func89 rfl ⟨by kernel_rfl, rfl, rfl, by kernel_rfl⟩ (by simp) (Weak.refl _ _) ?_
  rw [g_spec_l01PickInt] at h
  obtain ⟨y_3, hy_3, h⟩ := bS h
  try simp only [↓DN, UP, r1, r2, r3, r4, r5, r6, r7, reduceCtorEq, Tryz.f89]
  refine callE [0] 9 rfl rfl rfl rfl (c_spec_l01Below hy_3) rfl ?_
  obtain ⟨v_4, hv_4, h⟩ := bS h
  have f1 := (fAt (eI_ok .i64) hv_4 (n := list_2.length) (by simp))
  try simp only [↓DN, UP, r1, r2, r3, r4, r5, r6, r7, reduceCtorEq, Tryz.f89, f1]
  obtain rfl := Option.some.inj h
  refine endT_of ?_ ⟨rfl, rfl⟩
  exact (wn [0] [0])
theorem c_spec_l04Int {c_1 : GL01Cur} {r : Int × GL01Cur} (h : g_spec_l04Int c_1 = some r) : Ans Tryz.prog 101 [.one (.ptr 0 0)] [.live ⟨1, 3, [.imm 1 c_1.b.length (c_1.b.flatMap (eI .u8)), .int .i64 c_1.i, .int .i64 c_1.h]⟩] fun v h1 => v = .pv (.one (.int .i32 r.1)) ∧ h1 = [.live ⟨1, 3, [.imm 1 r.2.b.length (r.2.b.flatMap (eI .u8)), .int .i64 r.2.i, .int .i64 r.2.h]⟩] := by
  refine ansK (P := fun _ => Tryz.prog) TryzT_eq (fn := Tryz.f101) Tryz.func101 rfl ⟨by kernel_rfl, rfl, rfl, by kernel_rfl⟩ (by simp) (Weak.refl _ _) ?_
  rw [g_spec_l04Int] at h
  try simp only [↓DN, UP, r1, r2, r3, r4, r5, r6, r7, reduceCtorEq, Tryz.f101]
  refine seqN TryzT_eq rfl ?_
  obtain ⟨y_2, hy_2, h⟩ := bS h
  try simp only [↓DN, UP, r1, r2, r3, r4, r5, r6, r7, reduceCtorEq, Tryz.f101]
  refine callE [0] 9 rfl rfl rfl rfl (c_spec_l01Once hy_2) rfl ?_
  try simp only [↓DN, UP, r1, r2, r3, r4, r5, r6, r7, reduceCtorEq, Tryz.f101]
  refine stIf h (fun hb_3 h => ?_) (fun hb_3 h => ?_)
  · obtain ⟨y_4, hy_4, h⟩ := bS h
    try simp only [↓DN, UP, r1, r2, r3, r4, r5, r6, r7, reduceCtorEq, Tryz.f101]
    refine callE [0] 9 rfl rfl rfl rfl (c_spec_l01Below hy_4) rfl ?_
    try simp only [↓DN, UP, r1, r2, r3, r4, r5, r6, r7, reduceCtorEq, Tryz.f101]
    obtain rfl := Option.some.inj h
    refine endT_of ?_ ⟨rfl, rfl⟩
    exact (wn [0] [0])
  · obtain ⟨y_5, hy_5, h⟩ := bS h
    have f1 := (show bldN 9 = 9 from rfl)
    have f2 := (show bldC [.int .i64 0, .int .i64 67108863, .int .i64 67108864, .int .i64 (-67108864), .int .i64 (-67108865), .int .i64 2147483647, .int .i64 (-2147483648), .int .i64 1000000, .int .i64 (-1)] = [0, 67108863, 67108864, (-67108864), (-67108865), 2147483647, (-2147483648), 1000000, (-1)].flatMap (eI .i64) from rfl)
    try simp only [↓DN, UP, r1, r2, r3, r4, r5, r6, r7, reduceCtorEq, Tryz.f101, f1, f2]
    refine callGz [1] [0, 1] [0] 9 rfl rfl (by simp only [WL, MZ, r1, r2, r3, r4, r5, r6, r7, reduceCtorEq, fWin (eI_ok .i64) (n := 9) (xs := [0, 67108863, 67108864, (-67108864), (-67108865), 2147483647, (-2147483648), 1000000, (-1)]) (by simp)]) (by simp only [WL, MZ, r1, r2, r3, r4, r5, r6, r7, reduceCtorEq, fWin (eI_ok .i64) (n := 9) (xs := [0, 67108863, 67108864, (-67108864), (-67108865), 2147483647, (-2147483648), 1000000, (-1)]) (by simp)]) rfl rfl (c_spec_l01PickInt hy_5) (by simp only [WL, r1, r2, r3, r4, r5, r6, r7, reduceCtorEq]) ?_
    intro rd
    try simp only [↓DN, UP, r1, r2, r3, r4, r5, r6, r7, reduceCtorEq, Tryz.f101, f1, f2]
    obtain rfl := Option.some.inj h
    refine endT_of ?_ ⟨rfl, rfl⟩
    exact (wn [0] [0])
theorem c_spec_l01Pick {c_1 : GL01Cur} {list_2 : List Bs} {r : Bs × GL01Cur} (h : g_spec_l01Pick c_1 list_2 = some r) : Ans Tryz.prog 16 [.one (.ptr 0 0), .one (.imm 1 list_2.length (list_2.flatMap eS))] [.live ⟨1, 3, [.imm 1 c_1.b.length (c_1.b.flatMap (eI .u8)), .int .i64 c_1.i, .int .i64 c_1.h]⟩] fun v h1 => v = .pv (.one (.str r.1)) ∧ h1 = [.live ⟨1, 3, [.imm 1 r.2.b.length (r.2.b.flatMap (eI .u8)), .int .i64 r.2.i, .int .i64 r.2.h]⟩] := by
  refine ansK (P := fun _ => Tryz.prog) TryzT_eq (fn := Tryz.f16) Tryz.func16 rfl ⟨by kernel_rfl, rfl, rfl, by kernel_rfl⟩ (by simp) (Weak.refl _ _) ?_
  rw [g_spec_l01Pick] at h
  obtain ⟨y_3, hy_3, h⟩ := bS h
  try simp only [↓DN, UP, r1, r2, r3, r4, r5, r6, r7, reduceCtorEq, Tryz.f16]
  refine callE [0] 9 rfl rfl rfl rfl (c_spec_l01Below hy_3) rfl ?_
  obtain ⟨v_4, hv_4, h⟩ := bS h
  have f1 := (fAt eS_ok hv_4 (n := list_2.length) (by simp))
  try simp only [↓DN, UP, r1, r2, r3, r4, r5, r6, r7, reduceCtorEq, Tryz.f16, f1]
  obtain rfl := Option.some.inj h
  refine endT_of ?_ ⟨rfl, rfl⟩
  exact (wn [0] [0])
theorem c_spec_l02All {r : Bs} (h : g_spec_l02All = some r) : Ans Tryz.prog 48 [] [] fun v h1 => v = .pv (.one (.str r)) ∧ h1 = [] := by
  refine ansK (P := fun _ => Tryz.prog) TryzT_eq (fn := Tryz.f48) Tryz.func48 rfl ⟨by kernel_rfl, rfl, rfl, by kernel_rfl⟩ (by simp) (Weak.refl _ _) ?_
  rw [g_spec_l02All] at h
  try simp only [↓DN, UP, r1, r2, r3, r4, r5, r6, r7, reduceCtorEq, Tryz.f48]
  obtain rfl := Option.some.inj h
  refine endT_of ?_ ⟨rfl, rfl⟩
  exact (wn [0] [])
theorem c_spec_LetterAt {k_1 : Int} {r : Int} (h : g_spec_LetterAt k_1 = some r) : Ans Tryz.prog 98 [.one (.int .i64 k_1)] [] fun v h1 => v = .pv (.one (.int .u8 r)) ∧ h1 = [] := by
  refine ansK (P := fun _ => Tryz.prog) TryzT_eq (fn := Tryz.f98) Tryz.func98 rfl ⟨by kernel_rfl, rfl, rfl, by kernel_rfl⟩ (by simp) (Weak.refl _ _) ?_
  rw [g_spec_LetterAt] at h
  try simp only [↓DN, UP, r1, r2, r3, r4, r5, r6, r7, reduceCtorEq, Tryz.f98]
  refine seqN TryzT_eq rfl ?_
  obtain ⟨y_2, hy_2, h⟩ := bS h
  try simp only [↓DN, UP, r1, r2, r3, r4, r5, r6, r7, reduceCtorEq, Tryz.f98]
  refine cG [] (c_spec_l01In hy_2) (hK := fun rd b => ?_)
  try simp only [↓DN, UP, r1, r2, r3, r4, r5, r6, r7, reduceCtorEq, Tryz.f98]
  refine stIf h (fun hb_3 h => ?_) (fun hb_3 h => ?_)
  · try simp only [↓DN, UP, r1, r2, r3, r4, r5, r6, r7, reduceCtorEq, Tryz.f98]
    obtain rfl := Option.some.inj h
    refine endT_of ?_ ⟨rfl, rfl⟩
    exact (wn [0] [])
  · obtain ⟨y_4, hy_4, h⟩ := bS h
    try simp only [↓DN, UP, r1, r2, r3, r4, r5, r6, r7, reduceCtorEq, Tryz.f98]
    refine cG [] (c_spec_l02All hy_4) (hK := fun rd b => ?_)
    obtain ⟨v_5, hv_5, h⟩ := bS h
    try simp only [↓DN, UP, r1, r2, r3, r4, r5, r6, r7, reduceCtorEq, Tryz.f98, hv_5]
    obtain rfl := Option.some.inj h
    refine endT_of ?_ ⟨rfl, rfl⟩
    exact (wn [0] [])
theorem c_spec_l02Name {c_1 : GL01Cur} {r : Bs × GL01Cur} (h : g_spec_l02Name c_1 = some r) : Ans Tryz.prog 102 [.one (.ptr 0 0)] [.live ⟨1, 3, [.imm 1 c_1.b.length (c_1.b.flatMap (eI .u8)), .int .i64 c_1.i, .int .i64 c_1.h]⟩] fun v h1 => v = .pv (.one (.str r.1)) ∧ h1 = [.live ⟨1, 3, [.imm 1 r.2.b.length (r.2.b.flatMap (eI .u8)), .int .i64 r.2.i, .int .i64 r.2.h]⟩] := by
  refine ansK (P := fun _ => Tryz.prog) TryzT_eq (fn := Tryz.f102) Tryz.func102 rfl ⟨by kernel_rfl, rfl, rfl, by kernel_rfl⟩ (by simp) (Weak.refl _ _) ?_
  rw [g_spec_l02Name] at h
  try simp only [↓DN, UP, r1, r2, r3, r4, r5, r6, r7, reduceCtorEq, Tryz.f102]
  refine seqN TryzT_eq rfl ?_
  obtain ⟨y_2, hy_2, h⟩ := bS h
  try simp only [↓DN, UP, r1, r2, r3, r4, r5, r6, r7, reduceCtorEq, Tryz.f102]
  refine callE [0] 9 rfl rfl rfl rfl (c_spec_l01Once hy_2) rfl ?_
  try simp only [↓DN, UP, r1, r2, r3, r4, r5, r6, r7, reduceCtorEq, Tryz.f102]
  refine stIf h (fun hb_3 h => ?_) (fun hb_3 h => ?_)
  · obtain ⟨y_4, hy_4, h⟩ := bS h
    have f1 := (show bldN 14 = 14 from rfl)
    have f2 := (show bldC [.str [100, 117, 112], .str [111, 118, 101, 114], .str [115, 113, 117, 97, 114, 101], .str [97, 33], .str [50, 42], .str [103, 111], .str [45, 105, 102], .str [59], .str [63], .str [114, 114, 114, 114, 114, 114, 114], .str [114, 116, 111, 101, 97, 110, 105], .str [119, 119, 119, 119, 119, 119], .str [113, 113, 113, 113, 113], .str [120]] = [[100, 117, 112], [111, 118, 101, 114], [115, 113, 117, 97, 114, 101], [97, 33], [50, 42], [103, 111], [45, 105, 102], [59], [63], [114, 114, 114, 114, 114, 114, 114], [114, 116, 111, 101, 97, 110, 105], [119, 119, 119, 119, 119, 119], [113, 113, 113, 113, 113], [120]].flatMap eS from rfl)
    try simp only [↓DN, UP, r1, r2, r3, r4, r5, r6, r7, reduceCtorEq, Tryz.f102, f1, f2]
    refine callGz [1] [0, 1] [0] 9 rfl rfl (by simp only [WL, MZ, r1, r2, r3, r4, r5, r6, r7, reduceCtorEq, fWin eS_ok (n := 14) (xs := [[100, 117, 112], [111, 118, 101, 114], [115, 113, 117, 97, 114, 101], [97, 33], [50, 42], [103, 111], [45, 105, 102], [59], [63], [114, 114, 114, 114, 114, 114, 114], [114, 116, 111, 101, 97, 110, 105], [119, 119, 119, 119, 119, 119], [113, 113, 113, 113, 113], [120]]) (by simp)]) (by simp only [WL, MZ, r1, r2, r3, r4, r5, r6, r7, reduceCtorEq, fWin eS_ok (n := 14) (xs := [[100, 117, 112], [111, 118, 101, 114], [115, 113, 117, 97, 114, 101], [97, 33], [50, 42], [103, 111], [45, 105, 102], [59], [63], [114, 114, 114, 114, 114, 114, 114], [114, 116, 111, 101, 97, 110, 105], [119, 119, 119, 119, 119, 119], [113, 113, 113, 113, 113], [120]]) (by simp)]) rfl rfl (c_spec_l01Pick hy_4) (by simp only [WL, r1, r2, r3, r4, r5, r6, r7, reduceCtorEq]) ?_
    intro rd
    try simp only [↓DN, UP, r1, r2, r3, r4, r5, r6, r7, reduceCtorEq, Tryz.f102, f1, f2]
    obtain rfl := Option.some.inj h
    refine endT_of ?_ ⟨rfl, rfl⟩
    exact (wn [0] [0])
  · obtain ⟨y_5, hy_5, h⟩ := bS h
    have f3 := (show bldN 0 = 0 from rfl)
    have f4 := (show bldC [] = ([] : List Int).flatMap (eI .u8) from rfl)
    try simp only [↓DN, UP, r1, r2, r3, r4, r5, r6, r7, reduceCtorEq, Tryz.f102, f3, f4]
    refine callE [0] 9 rfl rfl rfl rfl (c_spec_l01Below hy_5) rfl ?_
    try simp only [↓DN, UP, r1, r2, r3, r4, r5, r6, r7, reduceCtorEq, Tryz.f102, f3, f4]
    obtain ⟨y_8, hy_9, h⟩ := bS h
    refine seqK TryzT_eq (fun p : GL01Cur × (List Int) => ⟨[(3, .pv (.one (.arr 1 0 p.2.length)))], [.live ⟨1, 3, [.imm 1 p.1.b.length (p.1.b.flatMap (eI .u8)), .int .i64 p.1.i, .int .i64 p.1.h]⟩, .live ⟨1, p.2.length, p.2.flatMap (eI .u8)⟩]⟩) (fun v => y_8 = v) (by rfl) ?_ ?_
    · try simp only [↓DN, UP, r1, r2, r3, r4, r5, r6, r7, reduceCtorEq, Tryz.f102, f3, f4]
      obtain ⟨y_15, hy_16, hy_9⟩ := bS hy_9
      refine loopK TryzT_eq (fun p : GL01Cur × (List Int) × Int => ⟨[(0, .pv (.one (.ptr 0 0))), (3, .pv (.one (.arr 1 0 p.2.1.length))), (4, .pv (.one (.int .i64 (IntKind.wrap .i64 (1 + y_5.1))))), (5, .pv (.one (.int .i64 p.2.2)))], [.live ⟨1, 3, [.imm 1 p.1.b.length (p.1.b.flatMap (eI .u8)), .int .i64 p.1.i, .int .i64 p.1.h]⟩, .live ⟨1, p.2.1.length, p.2.1.flatMap (eI .u8)⟩]⟩) (fun k p => g_spec_l02Name_l0 y_5 k p.1 p.2.1 p.2.2 = some y_15) (by kernel_rfl) bigK (y_5.2, ([] : List Int), 0) (weak_norm (ks := [0, 3, 4, 5]) (π := [0, 1]) (fuel := 9) (by simp only [WL, r1, r2, r3, r4, r5, r6, r7, reduceCtorEq, fWin (eI_ok .u8) (n := 0) (xs := ([] : List Int)) (by simp)])) hy_16 (fun _ h => nomatch (show none = some _ from h)) ?_
      rintro k_17 ⟨c_10, out_11, i_12⟩ hk_18
      rw [g_spec_l02Name_l0] at hk_18
      try dsimp only at hk_18
      try simp only [↓DN, UP, r1, r2, r3, r4, r5, r6, r7, reduceCtorEq, Tryz.f102]
      refine seqN TryzT_eq rfl ?_
      try simp only [↓DN, UP, r1, r2, r3, r4, r5, r6, r7, reduceCtorEq, Tryz.f102]
      refine stIf hk_18 (fun hb_19 hk_18 => ?_) (fun hb_19 hk_18 => ?_)
      · try simp only [↓DN, UP, r1, r2, r3, r4, r5, r6, r7, reduceCtorEq, Tryz.f102]
        refine seqN TryzT_eq rfl ?_
        obtain ⟨y_20, hy_20, hk_18⟩ := bS hk_18
        try simp only [↓DN, UP, r1, r2, r3, r4, r5, r6, r7, reduceCtorEq, Tryz.f102]
        refine callE [0] 9 rfl rfl rfl rfl (c_spec_l01Below hy_20) rfl ?_
        obtain ⟨y_21, hy_21, hk_18⟩ := bS hk_18
        try simp only [↓DN, UP, r1, r2, r3, r4, r5, r6, r7, reduceCtorEq, Tryz.f102]
        refine cG [] (c_spec_LetterAt hy_21) (hK := fun rd b => ?_)
        obtain ⟨v_22, hv_22, hk_18⟩ := bS hk_18
        have f5 := (show bldN 1 = 1 from rfl)
        have f6 := (show bldC [.int .u8 y_21] = [y_21].flatMap (eI .u8) from rfl)
        have f7 := (fWin (eI_ok .u8) (n := 1) (xs := [y_21]) (by simp))
        have f8 := (fApp hv_22 (n := out_11.length) (by simp) (m := 1) (by simp [bsOf]))
        have f9 := (fWin (eI_ok .u8) (n := out_11.length) (xs := out_11) (by simp))
        have f10 := (fCat (e := (eI .u8)) (ns := [y_21].flatMap (eI .u8)) hv_22 rfl)
        try simp only [↓DN, UP, r1, r2, r3, r4, r5, r6, r7, reduceCtorEq, Tryz.f102, f5, f6, f7, f8, f9, f10]
        exact ⟨(y_20.2, v_22, IntKind.wrap .i64 (i_12 + 1)), hk_18, (wn [0, 3, 4, 5] [0, 3])⟩
      · obtain rfl := Option.some.inj hk_18
        try dsimp only at hy_9
        try simp only [↓DN, UP, r1, r2, r3, r4, r5, r6, r7, reduceCtorEq, Tryz.f102]
        obtain rfl := Option.some.inj hy_9
        exact cutT_mk (c_10, out_11) rfl (wn [3] [0, 1])
    · rintro ⟨p_6, out_7⟩ hp
      replace hp := hp.symm; subst hp
      try dsimp only at h
      have f11 := (fWin (eI_ok .u8) (n := out_7.length) (xs := out_7) (by simp))
      try simp only [↓DN, UP, r1, r2, r3, r4, r5, r6, r7, reduceCtorEq, Tryz.f102, f11]
      obtain rfl := Option.some.inj h
      refine endT_of ?_ ⟨rfl, rfl⟩
      exact (wn [0] [0])
theorem c_spec_l04Some {c_1 : GL01Cur} {r : GItem × GL01Cur} (h : g_spec_l04Some c_1 = some r) : Ans Tryz.prog 87 [.one (.ptr 0 0)] [.live ⟨1, 3, [.imm 1 c_1.b.length (c_1.b.flatMap (eI .u8)), .int .i64 c_1.i, .int .i64 c_1.h]⟩] fun v h1 => v = .pv (.agg [.int .i64 r.1.Kind, .str r.1.Name, .int .i32 r.1.N, .bool r.1.Hex, .int .u32 r.1.Raw]) ∧ h1 = [.live ⟨1, 3, [.imm 1 r.2.b.length (r.2.b.flatMap (eI .u8)), .int .i64 r.2.i, .int .i64 r.2.h]⟩] := by
  refine ansK (P := fun _ => Tryz.prog) TryzT_eq (fn := Tryz.f87) Tryz.func87 rfl ⟨by kernel_rfl, rfl, rfl, by kernel_rfl⟩ (by simp) (Weak.refl _ _) ?_
  rw [g_spec_l04Some] at h
  try simp only [↓DN, UP, r1, r2, r3, r4, r5, r6, r7, reduceCtorEq, Tryz.f87]
  refine seqN TryzT_eq rfl ?_
  obtain ⟨y_2, hy_2, h⟩ := bS h
  try simp only [↓DN, UP, r1, r2, r3, r4, r5, r6, r7, reduceCtorEq, Tryz.f87]
  refine callE [0] 9 rfl rfl rfl rfl (c_spec_l01Below hy_2) rfl ?_
  try simp only [↓DN, UP, r1, r2, r3, r4, r5, r6, r7, reduceCtorEq, Tryz.f87]
  refine stIf h (fun hb_3 h => ?_) (fun hb_3 h => ?_)
  · obtain ⟨y_4, hy_4, h⟩ := bS h
    try simp only [↓DN, UP, r1, r2, r3, r4, r5, r6, r7, reduceCtorEq, Tryz.f87]
    refine callE [0] 9 rfl rfl rfl rfl (c_spec_l04Int hy_4) rfl ?_
    obtain ⟨y_5, hy_5, h⟩ := bS h
    try simp only [↓DN, UP, r1, r2, r3, r4, r5, r6, r7, reduceCtorEq, Tryz.f87]
    refine callE [0] 9 rfl rfl rfl rfl (c_spec_l01Once hy_5) rfl ?_
    try simp only [↓DN, UP, r1, r2, r3, r4, r5, r6, r7, reduceCtorEq, Tryz.f87]
    obtain rfl := Option.some.inj h
    refine endT_of ?_ ⟨rfl, rfl⟩
    exact (wn [0] [0])
  · try simp only [↓DN, UP, r1, r2, r3, r4, r5, r6, r7, reduceCtorEq, Tryz.f87]
    refine stIf h (fun hb_6 h => ?_) (fun hb_6 h => ?_)
    · obtain ⟨y_7, hy_7, h⟩ := bS h
      try simp only [↓DN, UP, r1, r2, r3, r4, r5, r6, r7, reduceCtorEq, Tryz.f87]
      refine callE [0] 9 rfl rfl rfl rfl (c_spec_l04Int hy_7) rfl ?_
      obtain ⟨y_8, hy_8, h⟩ := bS h
      try simp only [↓DN, UP, r1, r2, r3, r4, r5, r6, r7, reduceCtorEq, Tryz.f87]
      refine callE [0] 9 rfl rfl rfl rfl (c_spec_l01Once hy_8) rfl ?_
      try simp only [↓DN, UP, r1, r2, r3, r4, r5, r6, r7, reduceCtorEq, Tryz.f87]
      obtain rfl := Option.some.inj h
      refine endT_of ?_ ⟨rfl, rfl⟩
      exact (wn [0] [0])
    · try simp only [↓DN, UP, r1, r2, r3, r4, r5, r6, r7, reduceCtorEq, Tryz.f87]
      refine stIf h (fun hb_9 h => ?_) (fun hb_9 h => ?_)
      · obtain ⟨y_10, hy_10, h⟩ := bS h
        have f1 := (show bldN 4 = 4 from rfl)
        have f2 := (show bldC [.str [120], .str [97, 116], .str [113, 113, 113, 113], .str [116, 101, 110]] = [[120], [97, 116], [113, 113, 113, 113], [116, 101, 110]].flatMap eS from rfl)
        try simp only [↓DN, UP, r1, r2, r3, r4, r5, r6, r7, reduceCtorEq, Tryz.f87, f1, f2]
        refine callGz [2] [0, 2] [0] 9 rfl rfl (by simp only [WL, MZ, r1, r2, r3, r4, r5, r6, r7, reduceCtorEq, fWin eS_ok (n := 4) (xs := [[120], [97, 116], [113, 113, 113, 113], [116, 101, 110]]) (by simp)]) (by simp only [WL, MZ, r1, r2, r3, r4, r5, r6, r7, reduceCtorEq, fWin eS_ok (n := 4) (xs := [[120], [97, 116], [113, 113, 113, 113], [116, 101, 110]]) (by simp)]) rfl rfl (c_spec_l01Pick hy_10) (by simp only [WL, r1, r2, r3, r4, r5, r6, r7, reduceCtorEq]) ?_
        intro rd
        obtain ⟨y_11, hy_11, h⟩ := bS h
        try simp only [↓DN, UP, r1, r2, r3, r4, r5, r6, r7, reduceCtorEq, Tryz.f87, f1, f2]
        refine callE [0] 9 rfl rfl rfl rfl (c_spec_l04Int hy_11) rfl ?_
        try simp only [↓DN, UP, r1, r2, r3, r4, r5, r6, r7, reduceCtorEq, Tryz.f87, f1, f2]
        obtain rfl := Option.some.inj h
        refine endT_of ?_ ⟨rfl, rfl⟩
        exact (wn [0] [0])
      · obtain ⟨y_12, hy_12, h⟩ := bS h
        try simp only [↓DN, UP, r1, r2, r3, r4, r5, r6, r7, reduceCtorEq, Tryz.f87]
        refine callE [0] 9 rfl rfl rfl rfl (c_spec_l01Below hy_12) rfl ?_
        obtain ⟨y_13, hy_13, h⟩ := bS h
        try simp only [↓DN, UP, r1, r2, r3, r4, r5, r6, r7, reduceCtorEq, Tryz.f87]
        refine callE [0] 9 rfl rfl rfl rfl (c_spec_l02Name hy_13) rfl ?_
        try simp only [↓DN, UP, r1, r2, r3, r4, r5, r6, r7, reduceCtorEq, Tryz.f87]
        obtain rfl := Option.some.inj h
        refine endT_of ?_ ⟨rfl, rfl⟩
        exact (wn [0] [0])
theorem c_spec_l04Num {n_1 : Int} {hex_2 : Bool} {short_3 : Int} {long_4 : Int} {r : (List Int)} (h : g_spec_l04Num n_1 hex_2 short_3 long_4 = some r) : Ans Tryz.prog 83 [.one (.int .i32 n_1), .one (.bool hex_2), .one (.int .u32 short_3), .one (.int .u32 long_4)] [] fun v h1 => v = .pv (.one (.arr 0 0 r.length)) ∧ h1 = [.live ⟨1, r.length, r.flatMap (eI .u32)⟩] := by
  refine ansK (P := fun _ => Tryz.prog) TryzT_eq (fn := Tryz.f83) Tryz.func83 rfl ⟨by kernel_rfl, rfl, rfl, by kernel_rfl⟩ (by simp) (Weak.refl _ _) ?_
  rw [g_spec_l04Num] at h
  try simp only [↓DN, UP, r1, r2, r3, r4, r5, r6, r7, reduceCtorEq, Tryz.f83]
  obtain ⟨y_6, hy_7, h⟩ := bS h
  refine seqK TryzT_eq (fun p : Int => ⟨[(0, .pv (.one (.int .i32 n_1))), (2, .pv (.one (.int .u32 short_3))), (3, .pv (.one (.int .u32 long_4))), (9, .pv (.one (.int .u32 p)))], []⟩) (fun v => y_6 = v) (by rfl) ?_ ?_
  · try simp only [↓DN, UP, r1, r2, r3, r4, r5, r6, r7, reduceCtorEq, Tryz.f83]
    refine stIf hy_7 (fun hb_8 hy_7 => ?_) (fun hb_8 hy_7 => ?_)
    · try simp only [↓DN, UP, r1, r2, r3, r4, r5, r6, r7, reduceCtorEq, Tryz.f83]
      obtain rfl := Option.some.inj hy_7
      exact cutT_mk 16 rfl (wn [0, 2, 3, 9] [])
    · try simp only [↓DN, UP, r1, r2, r3, r4, r5, r6, r7, reduceCtorEq, Tryz.f83]
      obtain rfl := Option.some.inj hy_7
      exact cutT_mk 0 rfl (wn [0, 2, 3, 9] [])
  · rintro bit_5 hp
    replace hp := hp.symm; subst hp
    try dsimp only at h
    try simp only [↓DN, UP, r1, r2, r3, r4, r5, r6, r7, reduceCtorEq, Tryz.f83]
    refine seqN TryzT_eq rfl ?_
    try simp only [↓DN, UP, r1, r2, r3, r4, r5, r6, r7, reduceCtorEq, Tryz.f83]
    obtain ⟨y_10, hy_11, h⟩ := bS h
    refine seqK TryzT_eq (fun p : Bool => ⟨[(0, .pv (.one (.int .i32 n_1))), (2, .pv (.one (.int .u32 short_3))), (3, .pv (.one (.int .u32 long_4))), (9, .pv (.one (.int .u32 bit_5))), (16, .pv (.one (.bool p)))], []⟩) (fun v => y_10 = v) (by rfl) ?_ ?_
    · try simp only [↓DN, UP, r1, r2, r3, r4, r5, r6, r7, reduceCtorEq, Tryz.f83]
      refine stIf hy_11 (fun hb_12 hy_11 => ?_) (fun hb_12 hy_11 => ?_)
      · try simp only [↓DN, UP, r1, r2, r3, r4, r5, r6, r7, reduceCtorEq, Tryz.f83, hb_12]
        obtain rfl := Option.some.inj hy_11
        exact cutT_mk (decide (n_1 ≤ 67108863)) rfl (wn [0, 2, 3, 9, 16] [])
      · try simp only [↓DN, UP, r1, r2, r3, r4, r5, r6, r7, reduceCtorEq, Tryz.f83, hb_12]
        obtain rfl := Option.some.inj hy_11
        exact cutT_mk false rfl (wn [0, 2, 3, 9, 16] [])
    · rintro v_9 hp
      replace hp := hp.symm; subst hp
      try dsimp only at h
      try simp only [↓DN, UP, r1, r2, r3, r4, r5, r6, r7, reduceCtorEq, Tryz.f83]
      refine stIf h (fun hb_13 h => ?_) (fun hb_13 h => ?_)
      · have f1 := (show bldN 1 = 1 from rfl)
        have f2 := (show bldC [.int .u32 (IntKind.wrap .u32 ((IntKind.wrap .u32 ((IntKind.wrap .u32 ((IntKind.wrap .u32 n_1) * 32)) + bit_5)) + short_3))] = [IntKind.wrap .u32 ((IntKind.wrap .u32 ((IntKind.wrap .u32 ((IntKind.wrap .u32 n_1) * 32)) + bit_5)) + short_3)].flatMap (eI .u32) from rfl)
        try simp only [↓DN, UP, r1, r2, r3, r4, r5, r6, r7, reduceCtorEq, Tryz.f83, f1, f2]
        obtain rfl := Option.some.inj h
        refine endT_of ?_ ⟨rfl, rfl⟩
        exact (weak_norm (ks := [0]) (π := [0]) (fuel := 9) (by simp only [WL, r1, r2, r3, r4, r5, r6, r7, reduceCtorEq, fWin (eI_ok .u32) (n := 1) (xs := [IntKind.wrap .u32 ((IntKind.wrap .u32 ((IntKind.wrap .u32 ((IntKind.wrap .u32 n_1) * 32)) + bit_5)) + short_3)]) (by simp)]))
      · have f3 := (show bldN 2 = 2 from rfl)
        have f4 := (show bldC [.int .u32 (IntKind.wrap .u32 (bit_5 + long_4)), .int .u32 (IntKind.wrap .u32 n_1)] = [IntKind.wrap .u32 (bit_5 + long_4), IntKind.wrap .u32 n_1].flatMap (eI .u32) from rfl)
        try simp only [↓DN, UP, r1, r2, r3, r4, r5, r6, r7, reduceCtorEq, Tryz.f83, f3, f4]
        obtain rfl := Option.some.inj h
        refine endT_of ?_ ⟨rfl, rfl⟩
        exact (weak_norm (ks := [0]) (π := [0]) (fuel := 9) (by simp only [WL, r1, r2, r3, r4, r5, r6, r7, reduceCtorEq, fWin (eI_ok .u32) (n := 2) (xs := [IntKind.wrap .u32 (bit_5 + long_4), IntKind.wrap .u32 n_1]) (by simp)]))
theorem c_spec_LetterOf {b_1 : Int} {r : Int} (h : g_spec_LetterOf b_1 = some r) : Ans Tryz.prog 31 [.one (.int .u8 b_1)] [] fun v h1 => v = .pv (.one (.int .i64 r)) ∧ h1 = [] := by
  refine ansK (P := fun _ => Tryz.prog) TryzT_eq (fn := Tryz.f31) Tryz.func31 rfl ⟨by kernel_rfl, rfl, rfl, by kernel_rfl⟩ (by simp) (Weak.refl _ _) ?_
  rw [g_spec_LetterOf] at h
  obtain ⟨y_2, hy_2, h⟩ := bS h
  try simp only [↓DN, UP, r1, r2, r3, r4, r5, r6, r7, reduceCtorEq, Tryz.f31]
  refine cG [] (c_spec_l02All hy_2) (hK := fun rd b => ?_)
  try simp only [↓DN, UP, r1, r2, r3, r4, r5, r6, r7, reduceCtorEq, Tryz.f31]
  obtain ⟨y_4, hy_5, h⟩ := bS h
  refine seqK TryzT_eq (fun p : Unit => ⟨[], []⟩) (fun v => y_4 = .inl v) (by rfl) ?_ ?_
  · try simp only [↓DN, UP, r1, r2, r3, r4, r5, r6, r7, reduceCtorEq, Tryz.f31]
    obtain ⟨y_8, hy_9, hy_5⟩ := bS hy_5
    refine loopK TryzT_eq (fun p : Int => ⟨[(0, .pv (.one (.int .u8 b_1))), (3, .pv (.one (.str y_2))), (4, .pv (.one (.int .i64 p)))], []⟩) (fun k p => g_spec_LetterOf_l0 b_1 y_2 k p = some y_8) (by kernel_rfl) bigK 0 (wn [0, 3, 4] []) hy_9 (fun _ h => nomatch (show none = some _ from h)) ?_
    rintro k_10 i_6 hk_11
    rw [g_spec_LetterOf_l0] at hk_11
    try dsimp only at hk_11
    try simp only [↓DN, UP, r1, r2, r3, r4, r5, r6, r7, reduceCtorEq, Tryz.f31]
    refine seqN TryzT_eq rfl ?_
    try simp only [↓DN, UP, r1, r2, r3, r4, r5, r6, r7, reduceCtorEq, Tryz.f31]
    refine stIf hk_11 (fun hb_12 hk_11 => ?_) (fun hb_12 hk_11 => ?_)
    · try simp only [↓DN, UP, r1, r2, r3, r4, r5, r6, r7, reduceCtorEq, Tryz.f31]
      refine seqN TryzT_eq rfl ?_
      obtain ⟨v_13, hv_13, hk_11⟩ := bS hk_11
      try simp only [↓DN, UP, r1, r2, r3, r4, r5, r6, r7, reduceCtorEq, Tryz.f31, hv_13]
      refine stIf hk_11 (fun hb_14 hk_11 => ?_) (fun hb_14 hk_11 => ?_)
      · obtain rfl := Option.some.inj hk_11
        try dsimp only at hy_5
        obtain rfl := Option.some.inj hy_5
        try dsimp only at h
        try simp only [↓DN, UP, r1, r2, r3, r4, r5, r6, r7, reduceCtorEq, Tryz.f31, hv_13]
        obtain rfl := Option.some.inj h
        refine endT_of ?_ ⟨rfl, rfl⟩
        exact (wn [0] [])
      · try simp only [↓DN, UP, r1, r2, r3, r4, r5, r6, r7, reduceCtorEq, Tryz.f31, hv_13]
        exact ⟨IntKind.wrap .i64 (i_6 + 1), hk_11, (wn [0, 3, 4] [])⟩
    · obtain rfl := Option.some.inj hk_11
      try dsimp only at hy_5
      try simp only [↓DN, UP, r1, r2, r3, r4, r5, r6, r7, reduceCtorEq, Tryz.f31]
      obtain rfl := Option.some.inj hy_5
      exact cutT_mk () (by trivial) (wn [] [])
  · rintro _ hp
    replace hp := hp.symm; subst hp
    try dsimp only at h
    try simp only [↓DN, UP, r1, r2, r3, r4, r5, r6, r7, reduceCtorEq, Tryz.f31]
    obtain rfl := Option.some.inj h
    refine endT_of ?_ ⟨rfl, rfl⟩
    exact (wn [0] [])
theorem c_spec_NameOk {s_1 : Bs} {r : Bool} (h : g_spec_NameOk s_1 = some r) : Ans Tryz.prog 10 [.one (.str s_1)] [] fun v h1 => v = .pv (.one (.bool r)) ∧ h1 = [] := by
  refine ansK (P := fun _ => Tryz.prog) TryzT_eq (fn := Tryz.f10) Tryz.func10 rfl ⟨by kernel_rfl, rfl, rfl, by kernel_rfl⟩ (by simp) (Weak.refl _ _) ?_
  rw [g_spec_NameOk] at h
  try simp only [↓DN, UP, r1, r2, r3, r4, r5, r6, r7, reduceCtorEq, Tryz.f10]
  refine seqN TryzT_eq rfl ?_
  obtain ⟨y_2, hy_2, h⟩ := bS h
  try simp only [↓DN, UP, r1, r2, r3, r4, r5, r6, r7, reduceCtorEq, Tryz.f10]
  refine cG [] (c_spec_l01In hy_2) (hK := fun rd b => ?_)
  try simp only [↓DN, UP, r1, r2, r3, r4, r5, r6, r7, reduceCtorEq, Tryz.f10]
  refine stIf h (fun hb_3 h => ?_) (fun hb_3 h => ?_)
  · try simp only [↓DN, UP, r1, r2, r3, r4, r5, r6, r7, reduceCtorEq, Tryz.f10]
    obtain rfl := Option.some.inj h
    refine endT_of ?_ ⟨rfl, rfl⟩
    exact (wn [0] [])
  · try simp only [↓DN, UP, r1, r2, r3, r4, r5, r6, r7, reduceCtorEq, Tryz.f10]
    obtain ⟨y_4, hy_5, h⟩ := bS h
    refine seqK TryzT_eq (fun p : Unit => ⟨[], []⟩) (fun v => y_4 = .inl v) (by rfl) ?_ ?_
    · try simp only [↓DN, UP, r1, r2, r3, r4, r5, r6, r7, reduceCtorEq, Tryz.f10]
      obtain ⟨y_7, hy_8, hy_5⟩ := bS hy_5
      refine loopK TryzT_eq (fun p : Int => ⟨[(0, .pv (.one (.str s_1))), (3, .pv (.one (.int .i64 p)))], []⟩) (fun k p => g_spec_NameOk_l0 s_1 k p = some y_7) (by kernel_rfl) bigK 0 (wn [0, 3] []) hy_8 (fun _ h => nomatch (show none = some _ from h)) ?_
      rintro k_9 i_6 hk_10
      rw [g_spec_NameOk_l0] at hk_10
      try dsimp only at hk_10
      try simp only [↓DN, UP, r1, r2, r3, r4, r5, r6, r7, reduceCtorEq, Tryz.f10]
      refine seqN TryzT_eq rfl ?_
      try simp only [↓DN, UP, r1, r2, r3, r4, r5, r6, r7, reduceCtorEq, Tryz.f10]
      refine stIf hk_10 (fun hb_11 hk_10 => ?_) (fun hb_11 hk_10 => ?_)
      · try simp only [↓DN, UP, r1, r2, r3, r4, r5, r6, r7, reduceCtorEq, Tryz.f10]
        refine seqN TryzT_eq rfl ?_
        obtain ⟨v_12, hv_12, hk_10⟩ := bS hk_10
        obtain ⟨y_13, hy_13, hk_10⟩ := bS hk_10
        try simp only [↓DN, UP, r1, r2, r3, r4, r5, r6, r7, reduceCtorEq, Tryz.f10, hv_12]
        refine cG [] (c_spec_LetterOf hy_13) (hK := fun rd b => ?_)
        try simp only [↓DN, UP, r1, r2, r3, r4, r5, r6, r7, reduceCtorEq, Tryz.f10, hv_12]
        refine stIf hk_10 (fun hb_14 hk_10 => ?_) (fun hb_14 hk_10 => ?_)
        · obtain rfl := Option.some.inj hk_10
          try dsimp only at hy_5
          obtain rfl := Option.some.inj hy_5
          try dsimp only at h
          try simp only [↓DN, UP, r1, r2, r3, r4, r5, r6, r7, reduceCtorEq, Tryz.f10, hv_12]
          obtain rfl := Option.some.inj h
          refine endT_of ?_ ⟨rfl, rfl⟩
          exact (wn [0] [])
        · try simp only [↓DN, UP, r1, r2, r3, r4, r5, r6, r7, reduceCtorEq, Tryz.f10, hv_12]
          exact ⟨IntKind.wrap .i64 (i_6 + 1), hk_10, (wn [0, 3] [])⟩
      · obtain rfl := Option.some.inj hk_10
        try dsimp only at hy_5
        try simp only [↓DN, UP, r1, r2, r3, r4, r5, r6, r7, reduceCtorEq, Tryz.f10]
        obtain rfl := Option.some.inj hy_5
        exact cutT_mk () (by trivial) (wn [] [])
    · rintro _ hp
      replace hp := hp.symm; subst hp
      try dsimp only at h
      try simp only [↓DN, UP, r1, r2, r3, r4, r5, r6, r7, reduceCtorEq, Tryz.f10]
      obtain rfl := Option.some.inj h
      refine endT_of ?_ ⟨rfl, rfl⟩
      exact (wn [0] [])
theorem c_spec_WidthOf {k_1 : Int} {r : Int} (h : g_spec_WidthOf k_1 = some r) : Ans Tryz.prog 105 [.one (.int .i64 k_1)] [] fun v h1 => v = .pv (.one (.int .i64 r)) ∧ h1 = [] := by
  refine ansK (P := fun _ => Tryz.prog) TryzT_eq (fn := Tryz.f105) Tryz.func105 rfl ⟨by kernel_rfl, rfl, rfl, by kernel_rfl⟩ (by simp) (Weak.refl _ _) ?_
  rw [g_spec_WidthOf] at h
  try simp only [↓DN, UP, r1, r2, r3, r4, r5, r6, r7, reduceCtorEq, Tryz.f105]
  refine seqN TryzT_eq rfl ?_
  obtain ⟨y_2, hy_2, h⟩ := bS h
  try simp only [↓DN, UP, r1, r2, r3, r4, r5, r6, r7, reduceCtorEq, Tryz.f105]
  refine cG [] (c_spec_l01In hy_2) (hK := fun rd b => ?_)
  try simp only [↓DN, UP, r1, r2, r3, r4, r5, r6, r7, reduceCtorEq, Tryz.f105]
  refine stIf h (fun hb_3 h => ?_) (fun hb_3 h => ?_)
  · try simp only [↓DN, UP, r1, r2, r3, r4, r5, r6, r7, reduceCtorEq, Tryz.f105]
    obtain rfl := Option.some.inj h
    refine endT_of ?_ ⟨rfl, rfl⟩
    exact (wn [0] [])
  · obtain ⟨y_4, hy_4, h⟩ := bS h
    try simp only [↓DN, UP, r1, r2, r3, r4, r5, r6, r7, reduceCtorEq, Tryz.f105]
    refine cG [] (c_spec_l01In hy_4) (hK := fun rd b => ?_)
    try simp only [↓DN, UP, r1, r2, r3, r4, r5, r6, r7, reduceCtorEq, Tryz.f105]
    refine stIf h (fun hb_5 h => ?_) (fun hb_5 h => ?_)
    · try simp only [↓DN, UP, r1, r2, r3, r4, r5, r6, r7, reduceCtorEq, Tryz.f105]
      obtain rfl := Option.some.inj h
      refine endT_of ?_ ⟨rfl, rfl⟩
      exact (wn [0] [])
    · obtain ⟨y_6, hy_6, h⟩ := bS h
      try simp only [↓DN, UP, r1, r2, r3, r4, r5, r6, r7, reduceCtorEq, Tryz.f105]
      refine cG [] (c_spec_l01In hy_6) (hK := fun rd b => ?_)
      try simp only [↓DN, UP, r1, r2, r3, r4, r5, r6, r7, reduceCtorEq, Tryz.f105]
      refine stIf h (fun hb_7 h => ?_) (fun hb_7 h => ?_)
      · try simp only [↓DN, UP, r1, r2, r3, r4, r5, r6, r7, reduceCtorEq, Tryz.f105]
        obtain rfl := Option.some.inj h
        refine endT_of ?_ ⟨rfl, rfl⟩
        exact (wn [0] [])
      · try simp only [↓DN, UP, r1, r2, r3, r4, r5, r6, r7, reduceCtorEq, Tryz.f105]
        obtain rfl := Option.some.inj h
        refine endT_of ?_ ⟨rfl, rfl⟩
        exact (wn [0] [])
theorem c_spec_BitsOf {k_1 : Int} {r : Int} (h : g_spec_BitsOf k_1 = some r) : Ans Tryz.prog 106 [.one (.int .i64 k_1)] [] fun v h1 => v = .pv (.one (.int .u32 r)) ∧ h1 = [] := by
  refine ansK (P := fun _ => Tryz.prog) TryzT_eq (fn := Tryz.f106) Tryz.func106 rfl ⟨by kernel_rfl, rfl, rfl, by kernel_rfl⟩ (by simp) (Weak.refl _ _) ?_
  rw [g_spec_BitsOf] at h
  try simp only [↓DN, UP, r1, r2, r3, r4, r5, r6, r7, reduceCtorEq, Tryz.f106]
  refine seqN TryzT_eq rfl ?_
  obtain ⟨y_2, hy_2, h⟩ := bS h
  try simp only [↓DN, UP, r1, r2, r3, r4, r5, r6, r7, reduceCtorEq, Tryz.f106]
  refine cG [] (c_spec_WidthOf hy_2) (hK := fun rd b => ?_)
  try simp only [↓DN, UP, r1, r2, r3, r4, r5, r6, r7, reduceCtorEq, Tryz.f106]
  refine stIf h (fun hb_3 h => ?_) (fun hb_3 h => ?_)
  · try simp only [↓DN, UP, r1, r2, r3, r4, r5, r6, r7, reduceCtorEq, Tryz.f106]
    obtain rfl := Option.some.inj h
    refine endT_of ?_ ⟨rfl, rfl⟩
    exact (wn [0] [])
  · try simp only [↓DN, UP, r1, r2, r3, r4, r5, r6, r7, reduceCtorEq, Tryz.f106]
    refine stIf h (fun hb_4 h => ?_) (fun hb_4 h => ?_)
    · try simp only [↓DN, UP, r1, r2, r3, r4, r5, r6, r7, reduceCtorEq, Tryz.f106]
      obtain rfl := Option.some.inj h
      refine endT_of ?_ ⟨rfl, rfl⟩
      exact (wn [0] [])
    · try simp only [↓DN, UP, r1, r2, r3, r4, r5, r6, r7, reduceCtorEq, Tryz.f106]
      refine stIf h (fun hb_5 h => ?_) (fun hb_5 h => ?_)
      · try simp only [↓DN, UP, r1, r2, r3, r4, r5, r6, r7, reduceCtorEq, Tryz.f106]
        obtain rfl := Option.some.inj h
        refine endT_of ?_ ⟨rfl, rfl⟩
        exact (wn [0] [])
      · try simp only [↓DN, UP, r1, r2, r3, r4, r5, r6, r7, reduceCtorEq, Tryz.f106]
        obtain rfl := Option.some.inj h
        refine endT_of ?_ ⟨rfl, rfl⟩
        exact (wn [0] [])
theorem c_spec_l03One {s_1 : Bs} {r : Int × Int} (h : g_spec_l03One s_1 = some r) : Ans Tryz.prog 104 [.one (.str s_1)] [] fun v h1 => v = .tup [.one (.int .u32 r.1), .one (.int .i64 r.2)] ∧ h1 = [] := by
  refine ansK (P := fun _ => Tryz.prog) TryzT_eq (fn := Tryz.f104) Tryz.func104 rfl ⟨by kernel_rfl, rfl, rfl, by kernel_rfl⟩ (by simp) (Weak.refl _ _) ?_
  rw [g_spec_l03One] at h
  try simp only [↓DN, UP, r1, r2, r3, r4, r5, r6, r7, reduceCtorEq, Tryz.f104]
  obtain ⟨y_7, hy_8, h⟩ := bS h
  refine seqK TryzT_eq (fun p : Int × Int => ⟨[(4, .pv (.one (.int .i64 p.1))), (6, .pv (.one (.int .i64 p.2)))], []⟩) (fun v => y_7 = v) (by rfl) ?_ ?_
  · try simp only [↓DN, UP, r1, r2, r3, r4, r5, r6, r7, reduceCtorEq, Tryz.f104]
    refine loopK TryzT_eq (fun p : Int × Int × Int => ⟨[(0, .pv (.one (.str s_1))), (4, .pv (.one (.int .i64 p.1))), (5, .pv (.one (.int .i64 p.2.1))), (6, .pv (.one (.int .i64 p.2.2)))], []⟩) (fun k p => g_spec_l03One_l0 s_1 k p.1 p.2.1 p.2.2 = some y_7) (by kernel_rfl) bigK (0, 28, 0) (wn [0, 4, 5, 6] []) hy_8 (fun _ h => nomatch (show none = some _ from h)) ?_
    rintro k_9 ⟨f_2, left_3, n_4⟩ hk_10
    rw [g_spec_l03One_l0] at hk_10
    try dsimp only at hk_10
    try simp only [↓DN, UP, r1, r2, r3, r4, r5, r6, r7, reduceCtorEq, Tryz.f104]
    refine seqN TryzT_eq rfl ?_
    try simp only [↓DN, UP, r1, r2, r3, r4, r5, r6, r7, reduceCtorEq, Tryz.f104]
    refine stIf hk_10 (fun hb_11 hk_10 => ?_) (fun hb_11 hk_10 => ?_)
    · obtain ⟨v_12, hv_12, hk_10⟩ := bS hk_10
      obtain ⟨y_13, hy_13, hk_10⟩ := bS hk_10
      try simp only [↓DN, UP, r1, r2, r3, r4, r5, r6, r7, reduceCtorEq, Tryz.f104, hv_12]
      refine cG [] (c_spec_LetterOf hy_13) (hK := fun rd b => ?_)
      obtain ⟨y_14, hy_14, hk_10⟩ := bS hk_10
      try simp only [↓DN, UP, r1, r2, r3, r4, r5, r6, r7, reduceCtorEq, Tryz.f104, hv_12]
      refine cG [] (c_spec_WidthOf hy_14) (hK := fun rd b => ?_)
      try simp only [↓DN, UP, r1, r2, r3, r4, r5, r6, r7, reduceCtorEq, Tryz.f104, hv_12]
      refine seqN TryzT_eq rfl ?_
      try simp only [↓DN, UP, r1, r2, r3, r4, r5, r6, r7, reduceCtorEq, Tryz.f104, hv_12]
      refine stIf hk_10 (fun hb_15 hk_10 => ?_) (fun hb_15 hk_10 => ?_)
      · try simp only [↓DN, UP, r1, r2, r3, r4, r5, r6, r7, reduceCtorEq, Tryz.f104, hv_12]
        obtain rfl := Option.some.inj hk_10
        exact cutT_mk (f_2, n_4) rfl (wn [4, 6] [])
      · obtain ⟨y_16, hy_16, hk_10⟩ := bS hk_10
        try simp only [↓DN, UP, r1, r2, r3, r4, r5, r6, r7, reduceCtorEq, Tryz.f104, hv_12]
        refine cG [] (c_spec_BitsOf hy_16) (hK := fun rd b => ?_)
        obtain ⟨v_17, hv_17, hk_10⟩ := bS hk_10
        try simp only [↓DN, UP, r1, r2, r3, r4, r5, r6, r7, reduceCtorEq, Tryz.f104, hv_12, hv_17]
        exact ⟨(IntKind.wrap .i64 (f_2 + v_17), IntKind.wrap .i64 (left_3 - y_14), IntKind.wrap .i64 (n_4 + 1)), hk_10, (wn [0, 4, 5, 6] [])⟩
    · try simp only [↓DN, UP, r1, r2, r3, r4, r5, r6, r7, reduceCtorEq, Tryz.f104]
      obtain rfl := Option.some.inj hk_10
      exact cutT_mk (f_2, n_4) rfl (wn [4, 6] [])
  · rintro ⟨f_5, n_6⟩ hp
    replace hp := hp.symm; subst hp
    try dsimp only at h
    try simp only [↓DN, UP, r1, r2, r3, r4, r5, r6, r7, reduceCtorEq, Tryz.f104]
    obtain rfl := Option.some.inj h
    refine endT_of ?_ ⟨rfl, rfl⟩
    exact (wn [0] [])
theorem c_spec_Pack {s_1 : Bs} {r : (List Int)} (h : g_spec_Pack s_1 = some r) : Ans Tryz.prog 96 [.one (.str s_1)] [] fun v h1 => v = .pv (.one (.arr 0 0 r.length)) ∧ h1 = [.live ⟨1, r.length, r.flatMap (eI .u32)⟩] := by
  refine ansK (P := fun _ => Tryz.prog) TryzT_eq (fn := Tryz.f96) Tryz.func96 rfl ⟨by kernel_rfl, rfl, rfl, by kernel_rfl⟩ (by simp) (Weak.refl _ _) ?_
  rw [g_spec_Pack] at h
  have f1 := (show bldN 0 = 0 from rfl)
  have f2 := (show bldC [] = ([] : List Int).flatMap (eI .u32) from rfl)
  try simp only [↓DN, UP, r1, r2, r3, r4, r5, r6, r7, reduceCtorEq, Tryz.f96, f1, f2]
  refine seqN TryzT_eq rfl ?_
  obtain ⟨y_2, hy_2, h⟩ := bS h
  try simp only [↓DN, UP, r1, r2, r3, r4, r5, r6, r7, reduceCtorEq, Tryz.f96, f1, f2]
  refine cG [] (c_spec_NameOk hy_2) (hK := fun rd b => ?_)
  try simp only [↓DN, UP, r1, r2, r3, r4, r5, r6, r7, reduceCtorEq, Tryz.f96, f1, f2]
  refine stIf h (fun hb_3 h => ?_) (fun hb_3 h => ?_)
  · try simp only [↓DN, UP, r1, r2, r3, r4, r5, r6, r7, reduceCtorEq, Tryz.f96, f1, f2]
    obtain rfl := Option.some.inj h
    refine endT_of ?_ ⟨rfl, rfl⟩
    exact (weak_norm (ks := [0]) (π := [0]) (fuel := 9) (by simp only [WL, r1, r2, r3, r4, r5, r6, r7, reduceCtorEq, fWin (eI_ok .u32) (n := 0) (xs := ([] : List Int)) (by simp)]))
  · try simp only [↓DN, UP, r1, r2, r3, r4, r5, r6, r7, reduceCtorEq, Tryz.f96, f1, f2]
    obtain ⟨y_7, hy_8, h⟩ := bS h
    refine seqK TryzT_eq (fun p : (List Int) => ⟨[(3, .pv (.one (.arr 0 0 p.length)))], [.live ⟨1, p.length, p.flatMap (eI .u32)⟩]⟩) (fun v => y_7 = v) (by rfl) ?_ ?_
    · try simp only [↓DN, UP, r1, r2, r3, r4, r5, r6, r7, reduceCtorEq, Tryz.f96, f1, f2]
      refine loopK TryzT_eq (fun p : Bs × (List Int) => ⟨[(0, .pv (.one (.str p.1))), (3, .pv (.one (.arr 0 0 p.2.length)))], [.live ⟨1, p.2.length, p.2.flatMap (eI .u32)⟩]⟩) (fun k p => g_spec_Pack_l0 k p.1 p.2 = some y_7) (by kernel_rfl) bigK (s_1, ([] : List Int)) (weak_norm (ks := [0, 3]) (π := [0]) (fuel := 9) (by simp only [WL, r1, r2, r3, r4, r5, r6, r7, reduceCtorEq, fWin (eI_ok .u32) (n := 0) (xs := ([] : List Int)) (by simp)])) hy_8 (fun _ h => nomatch (show none = some _ from h)) ?_
      rintro k_9 ⟨s_4, out_5⟩ hk_10
      rw [g_spec_Pack_l0] at hk_10
      try dsimp only at hk_10
      try simp only [↓DN, UP, r1, r2, r3, r4, r5, r6, r7, reduceCtorEq, Tryz.f96]
      refine seqN TryzT_eq rfl ?_
      try simp only [↓DN, UP, r1, r2, r3, r4, r5, r6, r7, reduceCtorEq, Tryz.f96]
      refine stIf hk_10 (fun hb_11 hk_10 => ?_) (fun hb_11 hk_10 => ?_)
      · obtain ⟨y_12, hy_12, hk_10⟩ := bS hk_10
        try simp only [↓DN, UP, r1, r2, r3, r4, r5, r6, r7, reduceCtorEq, Tryz.f96]
        refine cG [] (c_spec_l03One hy_12) (hK := fun rd b => ?_)
        obtain ⟨v_13, hv_13, hk_10⟩ := bS hk_10
        obtain ⟨v_14, hv_14, hk_10⟩ := bS hk_10
        have f3 := (show bldN 1 = 1 from rfl)
        have f4 := (show bldC [.int .u32 y_12.1] = [y_12.1].flatMap (eI .u32) from rfl)
        have f5 := (fWin (eI_ok .u32) (n := 1) (xs := [y_12.1]) (by simp))
        have f6 := (fApp hv_13 (n := out_5.length) (by simp) (m := 1) (by simp [bsOf]))
        have f7 := (fWin (eI_ok .u32) (n := out_5.length) (xs := out_5) (by simp))
        have f8 := (fCat (e := (eI .u32)) (ns := [y_12.1].flatMap (eI .u32)) hv_13 rfl)
        try simp only [↓DN, UP, r1, r2, r3, r4, r5, r6, r7, reduceCtorEq, Tryz.f96, f3, f4, f5, f6, f7, f8, hv_14]
        exact ⟨(v_14, v_13), hk_10, (wn [0, 3] [2])⟩
      · try simp only [↓DN, UP, r1, r2, r3, r4, r5, r6, r7, reduceCtorEq, Tryz.f96]
        obtain rfl := Option.some.inj hk_10
        exact cutT_mk out_5 rfl (wn [3] [0])
    · rintro out_6 hp
      replace hp := hp.symm; subst hp
      try dsimp only at h
      try simp only [↓DN, UP, r1, r2, r3, r4, r5, r6, r7, reduceCtorEq, Tryz.f96]
      obtain rfl := Option.some.inj h
      refine endT_of ?_ ⟨rfl, rfl⟩
      exact (wn [0] [0])
theorem c_spec_l04Word {tag_1 : Int} {name_2 : Bs} {r : (List Int)} (h : g_spec_l04Word tag_1 name_2 = some r) : Ans Tryz.prog 84 [.one (.int .u32 tag_1), .one (.str name_2)] [] fun v h1 => v = .pv (.one (.arr 0 0 r.length)) ∧ h1 = [.live ⟨1, r.length, r.flatMap (eI .u32)⟩] := by
  refine ansK (P := fun _ => Tryz.prog) TryzT_eq (fn := Tryz.f84) Tryz.func84 rfl ⟨by kernel_rfl, rfl, rfl, by kernel_rfl⟩ (by simp) (Weak.refl _ _) ?_
  rw [g_spec_l04Word] at h
  obtain ⟨y_3, hy_3, h⟩ := bS h
  try simp only [↓DN, UP, r1, r2, r3, r4, r5, r6, r7, reduceCtorEq, Tryz.f84]
  refine cG [] (c_spec_Pack hy_3) (hK := fun rd b => ?_)
  try simp only [↓DN, UP, r1, r2, r3, r4, r5, r6, r7, reduceCtorEq, Tryz.f84]
  obtain ⟨y_5, hy_6, h⟩ := bS h
  refine seqK TryzT_eq (fun p : (List Int) => ⟨[(5, .pv (.one (.arr 0 0 p.length)))], [.live ⟨1, p.length, p.flatMap (eI .u32)⟩]⟩) (fun v => y_5 = v) (by rfl) ?_ ?_
  · try simp only [↓DN, UP, r1, r2, r3, r4, r5, r6, r7, reduceCtorEq, Tryz.f84]
    obtain ⟨y_10, hy_11, hy_6⟩ := bS hy_6
    refine loopK TryzT_eq (fun p : (List Int) × Int => ⟨[(0, .pv (.one (.int .u32 tag_1))), (5, .pv (.one (.arr 0 0 p.1.length))), (6, .pv (.one (.int .i64 p.2)))], [.live ⟨1, p.1.length, p.1.flatMap (eI .u32)⟩]⟩) (fun k p => g_spec_l04Word_l0 tag_1 k p.1 p.2 = some y_10) (by kernel_rfl) bigK (y_3, 0) (wn [0, 5, 6] [0]) hy_11 (fun _ h => nomatch (show none = some _ from h)) ?_
    rintro k_12 ⟨out_7, i_8⟩ hk_13
    rw [g_spec_l04Word_l0] at hk_13
    try dsimp only at hk_13
    try simp only [↓DN, UP, r1, r2, r3, r4, r5, r6, r7, reduceCtorEq, Tryz.f84]
    refine seqN TryzT_eq rfl ?_
    try simp only [↓DN, UP, r1, r2, r3, r4, r5, r6, r7, reduceCtorEq, Tryz.f84]
    refine stIf hk_13 (fun hb_14 hk_13 => ?_) (fun hb_14 hk_13 => ?_)
    · try simp only [↓DN, UP, r1, r2, r3, r4, r5, r6, r7, reduceCtorEq, Tryz.f84]
      obtain ⟨y_16, hy_17, hk_13⟩ := bS hk_13
      refine seqK TryzT_eq (fun p : (List Int) => ⟨[(0, .pv (.one (.int .u32 tag_1))), (5, .pv (.one (.arr 0 0 p.length))), (6, .pv (.one (.int .i64 i_8)))], [.live ⟨1, p.length, p.flatMap (eI .u32)⟩]⟩) (fun v => y_16 = v) (by rfl) ?_ ?_
      · obtain ⟨v_18, hv_18, hy_17⟩ := bS hy_17
        have f1 := (fPtr hv_18 (k := 1) (n := out_7.length) (by simp))
        have f2 := (fGet0 (eI_ok .u32) hv_18 (m := 1) (by decide) (by decide))
        have f3 := (fPut0 (eI_ok .u32) hv_18 (ns := [.int .u32 (IntKind.wrap .u32 (v_18 * 16))]) (y := IntKind.wrap .u32 (v_18 * 16)) rfl)
        try simp only [↓DN, UP, r1, r2, r3, r4, r5, r6, r7, reduceCtorEq, Tryz.f84, f1, f2, f3]
        refine stIf hy_17 (fun hb_19 hy_17 => ?_) (fun hb_19 hy_17 => ?_)
        · obtain ⟨v_20, hv_20, hy_17⟩ := bS hy_17
          have f4 := (fPtr hv_20 (k := 1) (n := out_7.length) (by simp))
          have f5 := (fGet0 (eI_ok .u32) hv_20 (m := 1) (by decide) (by decide))
          have f6 := (fPut0 (eI_ok .u32) hv_20 (ns := [.int .u32 (IntKind.wrap .u32 (v_20 + tag_1))]) (y := IntKind.wrap .u32 (v_20 + tag_1)) rfl)
          try simp only [↓DN, UP, r1, r2, r3, r4, r5, r6, r7, reduceCtorEq, Tryz.f84, f1, f2, f3, f4, f5, f6]
          obtain rfl := Option.some.inj hy_17
          exact cutT_mk ((out_7.set i_8.toNat (IntKind.wrap .u32 (v_18 * 16))).set i_8.toNat (IntKind.wrap .u32 (v_20 + tag_1))) rfl (weak_norm (ks := [0, 5, 6]) (π := [0]) (fuel := 9) (by simp only [WL, r1, r2, r3, r4, r5, r6, r7, reduceCtorEq, fWin (eI_ok .u32) (n := out_7.length) (xs := (out_7.set i_8.toNat (IntKind.wrap .u32 (v_18 * 16))).set i_8.toNat (IntKind.wrap .u32 (v_20 + tag_1))) (by simp)]))
        · try simp only [↓DN, UP, r1, r2, r3, r4, r5, r6, r7, reduceCtorEq, Tryz.f84, f1, f2, f3]
          obtain rfl := Option.some.inj hy_17
          exact cutT_mk (out_7.set i_8.toNat (IntKind.wrap .u32 (v_18 * 16))) rfl (weak_norm (ks := [0, 5, 6]) (π := [0]) (fuel := 9) (by simp only [WL, r1, r2, r3, r4, r5, r6, r7, reduceCtorEq, fWin (eI_ok .u32) (n := out_7.length) (xs := out_7.set i_8.toNat (IntKind.wrap .u32 (v_18 * 16))) (by simp)]))
      · rintro out_15 hp
        replace hp := hp.symm; subst hp
        try dsimp only at hk_13
        try simp only [↓DN, UP, r1, r2, r3, r4, r5, r6, r7, reduceCtorEq, Tryz.f84]
        exact ⟨(out_15, IntKind.wrap .i64 (i_8 + 1)), hk_13, (wn [0, 5, 6] [0])⟩
    · obtain rfl := Option.some.inj hk_13
      try dsimp only at hy_6
      try simp only [↓DN, UP, r1, r2, r3, r4, r5, r6, r7, reduceCtorEq, Tryz.f84]
      obtain rfl := Option.some.inj hy_6
      exact cutT_mk out_7 rfl (wn [5] [0])
  · rintro out_4 hp
    replace hp := hp.symm; subst hp
    try dsimp only at h
    try simp only [↓DN, UP, r1, r2, r3, r4, r5, r6, r7, reduceCtorEq, Tryz.f84]
    obtain rfl := Option.some.inj h
    refine endT_of ?_ ⟨rfl, rfl⟩
    exact (wn [0] [0])
theorem c_spec_l04Tag {kind_1 : Int} {r : Int} (h : g_spec_l04Tag kind_1 = some r) : Ans Tryz.prog 85 [.one (.int .i64 kind_1)] [] fun v h1 => v = .pv (.one (.int .u32 r)) ∧ h1 = [] := by
  refine ansK (P := fun _ => Tryz.prog) TryzT_eq (fn := Tryz.f85) Tryz.func85 rfl ⟨by kernel_rfl, rfl, rfl, by kernel_rfl⟩ (by simp) (Weak.refl _ _) ?_
  rw [g_spec_l04Tag] at h
  try simp only [↓DN, UP, r1, r2, r3, r4, r5, r6, r7, reduceCtorEq, Tryz.f85]
  refine seqN TryzT_eq rfl ?_
  try simp only [↓DN, UP, r1, r2, r3, r4, r5, r6, r7, reduceCtorEq, Tryz.f85]
  refine stIf h (fun hb_2 h => ?_) (fun hb_2 h => ?_)
  · try simp only [↓DN, UP, r1, r2, r3, r4, r5, r6, r7, reduceCtorEq, Tryz.f85]
    obtain rfl := Option.some.inj h
    refine endT_of ?_ ⟨rfl, rfl⟩
    exact (wn [0] [])
  · try simp only [↓DN, UP, r1, r2, r3, r4, r5, r6, r7, reduceCtorEq, Tryz.f85]
    refine stIf h (fun hb_3 h => ?_) (fun hb_3 h => ?_)
    · try simp only [↓DN, UP, r1, r2, r3, r4, r5, r6, r7, reduceCtorEq, Tryz.f85]
      obtain rfl := Option.some.inj h
      refine endT_of ?_ ⟨rfl, rfl⟩
      exact (wn [0] [])
    · try simp only [↓DN, UP, r1, r2, r3, r4, r5, r6, r7, reduceCtorEq, Tryz.f85]
      refine stIf h (fun hb_4 h => ?_) (fun hb_4 h => ?_)
      · try simp only [↓DN, UP, r1, r2, r3, r4, r5, r6, r7, reduceCtorEq, Tryz.f85]
        obtain rfl := Option.some.inj h
        refine endT_of ?_ ⟨rfl, rfl⟩
        exact (wn [0] [])
      · try simp only [↓DN, UP, r1, r2, r3, r4, r5, r6, r7, reduceCtorEq, Tryz.f85]
        refine stIf h (fun hb_5 h => ?_) (fun hb_5 h => ?_)
        · try simp only [↓DN, UP, r1, r2, r3, r4, r5, r6, r7, reduceCtorEq, Tryz.f85]
          obtain rfl := Option.some.inj h
          refine endT_of ?_ ⟨rfl, rfl⟩
          exact (wn [0] [])
        · try simp only [↓DN, UP, r1, r2, r3, r4, r5, r6, r7, reduceCtorEq, Tryz.f85]
          refine stIf h (fun hb_6 h => ?_) (fun hb_6 h => ?_)
          · try simp only [↓DN, UP, r1, r2, r3, r4, r5, r6, r7, reduceCtorEq, Tryz.f85]
            obtain rfl := Option.some.inj h
            refine endT_of ?_ ⟨rfl, rfl⟩
            exact (wn [0] [])
          · try simp only [↓DN, UP, r1, r2, r3, r4, r5, r6, r7, reduceCtorEq, Tryz.f85]
            refine stIf h (fun hb_7 h => ?_) (fun hb_7 h => ?_)
            · try simp only [↓DN, UP, r1, r2, r3, r4, r5, r6, r7, reduceCtorEq, Tryz.f85]
              obtain rfl := Option.some.inj h
              refine endT_of ?_ ⟨rfl, rfl⟩
              exact (wn [0] [])
            · try simp only [↓DN, UP, r1, r2, r3, r4, r5, r6, r7, reduceCtorEq, Tryz.f85]
              obtain rfl := Option.some.inj h
              refine endT_of ?_ ⟨rfl, rfl⟩
              exact (wn [0] [])
theorem c_spec_CellsOf {it_1 : GItem} {r : (List Int)} (h : g_spec_CellsOf it_1 = some r) : Ans Tryz.prog 59 [.agg [.int .i64 it_1.Kind, .str it_1.Name, .int .i32 it_1.N, .bool it_1.Hex, .int .u32 it_1.Raw]] [] fun v h1 => v = .pv (.one (.arr 0 0 r.length)) ∧ h1 = [.live ⟨1, r.length, r.flatMap (eI .u32)⟩] := by
  refine ansK (P := fun _ => Tryz.prog) TryzT_eq (fn := Tryz.f59) Tryz.func59 rfl ⟨by kernel_rfl, rfl, rfl, by kernel_rfl⟩ (by simp) (Weak.refl _ _) ?_
  rw [g_spec_CellsOf] at h
  try simp only [↓DN, UP, r1, r2, r3, r4, r5, r6, r7, reduceCtorEq, Tryz.f59]
  obtain ⟨y_3, hy_4, h⟩ := bS h
  refine seqK TryzT_eq (fun p : Bool => ⟨[(1, .pv (.one (.ptr 0 0))), (3, .pv (.one (.bool p)))], [.live ⟨1, 5, [.int .i64 it_1.Kind, .str it_1.Name, .int .i32 it_1.N, .bool it_1.Hex, .int .u32 it_1.Raw]⟩]⟩) (fun v => y_3 = v) (by rfl) ?_ ?_
  · try simp only [↓DN, UP, r1, r2, r3, r4, r5, r6, r7, reduceCtorEq, Tryz.f59]
    refine stIf hy_4 (fun hb_5 hy_4 => ?_) (fun hb_5 hy_4 => ?_)
    · try simp only [↓DN, UP, r1, r2, r3, r4, r5, r6, r7, reduceCtorEq, Tryz.f59, hb_5]
      refine stIf hy_4 (fun hb_6 hy_4 => ?_) (fun hb_6 hy_4 => ?_)
      · try simp only [↓DN, UP, r1, r2, r3, r4, r5, r6, r7, reduceCtorEq, Tryz.f59, hb_5, hb_6]
        obtain rfl := Option.some.inj hy_4
        exact cutT_mk (it_1.Raw == 0) rfl (wn [1, 3] [0])
      · try simp only [↓DN, UP, r1, r2, r3, r4, r5, r6, r7, reduceCtorEq, Tryz.f59, hb_5, hb_6]
        obtain rfl := Option.some.inj hy_4
        exact cutT_mk false rfl (wn [1, 3] [0])
    · try simp only [↓DN, UP, r1, r2, r3, r4, r5, r6, r7, reduceCtorEq, Tryz.f59, hb_5]
      obtain rfl := Option.some.inj hy_4
      exact cutT_mk false rfl (wn [1, 3] [0])
  · rintro plain_2 hp
    replace hp := hp.symm; subst hp
    try dsimp only at h
    try simp only [↓DN, UP, r1, r2, r3, r4, r5, r6, r7, reduceCtorEq, Tryz.f59]
    obtain ⟨y_8, hy_9, h⟩ := bS h
    refine seqK TryzT_eq (fun p : Unit => ⟨[], []⟩) (fun v => y_8 = .inl v) (by rfl) ?_ ?_
    · try simp only [↓DN, UP, r1, r2, r3, r4, r5, r6, r7, reduceCtorEq, Tryz.f59]
      refine stIf hy_9 (fun hb_10 hy_9 => ?_) (fun hb_10 hy_9 => ?_)
      · try simp only [↓DN, UP, r1, r2, r3, r4, r5, r6, r7, reduceCtorEq, Tryz.f59]
        obtain ⟨y_12, hy_13, hy_9⟩ := bS hy_9
        refine seqK TryzT_eq (fun p : Bool => ⟨[(1, .pv (.one (.ptr 0 0))), (47, .pv (.one (.bool p)))], [.live ⟨1, 5, [.int .i64 it_1.Kind, .str it_1.Name, .int .i32 it_1.N, .bool it_1.Hex, .int .u32 it_1.Raw]⟩]⟩) (fun v => y_12 = v) (by rfl) ?_ ?_
        · try simp only [↓DN, UP, r1, r2, r3, r4, r5, r6, r7, reduceCtorEq, Tryz.f59]
          refine stIf hy_13 (fun hb_14 hy_13 => ?_) (fun hb_14 hy_13 => ?_)
          · try simp only [↓DN, UP, r1, r2, r3, r4, r5, r6, r7, reduceCtorEq, Tryz.f59, hb_14]
            refine stIf hy_13 (fun hb_15 hy_13 => ?_) (fun hb_15 hy_13 => ?_)
            · try simp only [↓DN, UP, r1, r2, r3, r4, r5, r6, r7, reduceCtorEq, Tryz.f59, hb_14, hb_15]
              obtain rfl := Option.some.inj hy_13
              exact cutT_mk (!it_1.Hex) rfl (wn [1, 47] [0])
            · try simp only [↓DN, UP, r1, r2, r3, r4, r5, r6, r7, reduceCtorEq, Tryz.f59, hb_14, hb_15]
              obtain rfl := Option.some.inj hy_13
              exact cutT_mk false rfl (wn [1, 47] [0])
          · try simp only [↓DN, UP, r1, r2, r3, r4, r5, r6, r7, reduceCtorEq, Tryz.f59, hb_14]
            obtain rfl := Option.some.inj hy_13
            exact cutT_mk false rfl (wn [1, 47] [0])
        · rintro v_11 hp
          replace hp := hp.symm; subst hp
          try dsimp only at hy_9
          try simp only [↓DN, UP, r1, r2, r3, r4, r5, r6, r7, reduceCtorEq, Tryz.f59]
          refine stIf hy_9 (fun hb_16 hy_9 => ?_) (fun hb_16 hy_9 => ?_)
          · obtain rfl := Option.some.inj hy_9
            try dsimp only at h
            have f1 := (show bldN 1 = 1 from rfl)
            have f2 := (show bldC [.int .u32 it_1.Raw] = [it_1.Raw].flatMap (eI .u32) from rfl)
            try simp only [↓DN, UP, r1, r2, r3, r4, r5, r6, r7, reduceCtorEq, Tryz.f59, f1, f2]
            obtain rfl := Option.some.inj h
            refine endT_of ?_ ⟨rfl, rfl⟩
            exact (weak_norm (ks := [0]) (π := [1]) (fuel := 9) (by simp only [WL, r1, r2, r3, r4, r5, r6, r7, reduceCtorEq, fWin (eI_ok .u32) (n := 1) (xs := [it_1.Raw]) (by simp)]))
          · try simp only [↓DN, UP, r1, r2, r3, r4, r5, r6, r7, reduceCtorEq, Tryz.f59]
            obtain rfl := Option.some.inj hy_9
            exact cutT_mk () (by trivial) (wn [] [])
      · try simp only [↓DN, UP, r1, r2, r3, r4, r5, r6, r7, reduceCtorEq, Tryz.f59]
        refine stIf hy_9 (fun hb_17 hy_9 => ?_) (fun hb_17 hy_9 => ?_)
        · try simp only [↓DN, UP, r1, r2, r3, r4, r5, r6, r7, reduceCtorEq, Tryz.f59]
          obtain ⟨y_19, hy_20, hy_9⟩ := bS hy_9
          refine seqK TryzT_eq (fun p : Bool => ⟨[(1, .pv (.one (.ptr 0 0))), (60, .pv (.one (.bool p)))], [.live ⟨1, 5, [.int .i64 it_1.Kind, .str it_1.Name, .int .i32 it_1.N, .bool it_1.Hex, .int .u32 it_1.Raw]⟩]⟩) (fun v => y_19 = v) (by rfl) ?_ ?_
          · try simp only [↓DN, UP, r1, r2, r3, r4, r5, r6, r7, reduceCtorEq, Tryz.f59]
            refine stIf hy_20 (fun hb_21 hy_20 => ?_) (fun hb_21 hy_20 => ?_)
            · try simp only [↓DN, UP, r1, r2, r3, r4, r5, r6, r7, reduceCtorEq, Tryz.f59, hb_21]
              obtain rfl := Option.some.inj hy_20
              exact cutT_mk (it_1.Raw == 0) rfl (wn [1, 60] [0])
            · try simp only [↓DN, UP, r1, r2, r3, r4, r5, r6, r7, reduceCtorEq, Tryz.f59, hb_21]
              obtain rfl := Option.some.inj hy_20
              exact cutT_mk false rfl (wn [1, 60] [0])
          · rintro v_18 hp
            replace hp := hp.symm; subst hp
            try dsimp only at hy_9
            try simp only [↓DN, UP, r1, r2, r3, r4, r5, r6, r7, reduceCtorEq, Tryz.f59]
            refine stIf hy_9 (fun hb_22 hy_9 => ?_) (fun hb_22 hy_9 => ?_)
            · obtain ⟨y_23, hy_23, hy_9⟩ := bS hy_9
              try simp only [↓DN, UP, r1, r2, r3, r4, r5, r6, r7, reduceCtorEq, Tryz.f59]
              refine cG [] (c_spec_l04Num hy_23) (hK := fun rd b => ?_)
              obtain rfl := Option.some.inj hy_9
              try dsimp only at h
              try simp only [↓DN, UP, r1, r2, r3, r4, r5, r6, r7, reduceCtorEq, Tryz.f59]
              obtain rfl := Option.some.inj h
              refine endT_of ?_ ⟨rfl, rfl⟩
              exact (wn [0] [1])
            · try simp only [↓DN, UP, r1, r2, r3, r4, r5, r6, r7, reduceCtorEq, Tryz.f59]
              obtain rfl := Option.some.inj hy_9
              exact cutT_mk () (by trivial) (wn [] [])
        · try simp only [↓DN, UP, r1, r2, r3, r4, r5, r6, r7, reduceCtorEq, Tryz.f59]
          refine stIf hy_9 (fun hb_24 hy_9 => ?_) (fun hb_24 hy_9 => ?_)
          · try simp only [↓DN, UP, r1, r2, r3, r4, r5, r6, r7, reduceCtorEq, Tryz.f59]
            obtain ⟨y_26, hy_27, hy_9⟩ := bS hy_9
            refine seqK TryzT_eq (fun p : Bool => ⟨[(1, .pv (.one (.ptr 0 0))), (75, .pv (.one (.bool p)))], [.live ⟨1, 5, [.int .i64 it_1.Kind, .str it_1.Name, .int .i32 it_1.N, .bool it_1.Hex, .int .u32 it_1.Raw]⟩]⟩) (fun v => y_26 = v) (by rfl) ?_ ?_
            · try simp only [↓DN, UP, r1, r2, r3, r4, r5, r6, r7, reduceCtorEq, Tryz.f59]
              refine stIf hy_27 (fun hb_28 hy_27 => ?_) (fun hb_28 hy_27 => ?_)
              · try simp only [↓DN, UP, r1, r2, r3, r4, r5, r6, r7, reduceCtorEq, Tryz.f59, hb_28]
                obtain rfl := Option.some.inj hy_27
                exact cutT_mk (it_1.Raw == 0) rfl (wn [1, 75] [0])
              · try simp only [↓DN, UP, r1, r2, r3, r4, r5, r6, r7, reduceCtorEq, Tryz.f59, hb_28]
                obtain rfl := Option.some.inj hy_27
                exact cutT_mk false rfl (wn [1, 75] [0])
            · rintro v_25 hp
              replace hp := hp.symm; subst hp
              try dsimp only at hy_9
              try simp only [↓DN, UP, r1, r2, r3, r4, r5, r6, r7, reduceCtorEq, Tryz.f59]
              refine stIf hy_9 (fun hb_29 hy_9 => ?_) (fun hb_29 hy_9 => ?_)
              · obtain ⟨y_30, hy_30, hy_9⟩ := bS hy_9
                try simp only [↓DN, UP, r1, r2, r3, r4, r5, r6, r7, reduceCtorEq, Tryz.f59]
                refine cG [] (c_spec_l04Num hy_30) (hK := fun rd b => ?_)
                obtain rfl := Option.some.inj hy_9
                try dsimp only at h
                try simp only [↓DN, UP, r1, r2, r3, r4, r5, r6, r7, reduceCtorEq, Tryz.f59]
                obtain rfl := Option.some.inj h
                refine endT_of ?_ ⟨rfl, rfl⟩
                exact (wn [0] [1])
              · try simp only [↓DN, UP, r1, r2, r3, r4, r5, r6, r7, reduceCtorEq, Tryz.f59]
                obtain rfl := Option.some.inj hy_9
                exact cutT_mk () (by trivial) (wn [] [])
          · try simp only [↓DN, UP, r1, r2, r3, r4, r5, r6, r7, reduceCtorEq, Tryz.f59]
            refine stIf hy_9 (fun hb_31 hy_9 => ?_) (fun hb_31 hy_9 => ?_)
            · obtain ⟨y_32, hy_32, hy_9⟩ := bS hy_9
              try simp only [↓DN, UP, r1, r2, r3, r4, r5, r6, r7, reduceCtorEq, Tryz.f59]
              refine cG [] (c_spec_l04Word hy_32) (hK := fun rd b => ?_)
              try simp only [↓DN, UP, r1, r2, r3, r4, r5, r6, r7, reduceCtorEq, Tryz.f59]
              obtain ⟨y_34, hy_35, hy_9⟩ := bS hy_9
              refine seqK TryzT_eq (fun p : Bool => ⟨[(1, .pv (.one (.ptr 0 0))), (4, .pv (.one (.arr 1 0 y_32.length))), (98, .pv (.one (.bool p)))], [.live ⟨1, 5, [.int .i64 it_1.Kind, .str it_1.Name, .int .i32 it_1.N, .bool it_1.Hex, .int .u32 it_1.Raw]⟩, .live ⟨1, y_32.length, y_32.flatMap (eI .u32)⟩]⟩) (fun v => y_34 = v) (by rfl) ?_ ?_
              · try simp only [↓DN, UP, r1, r2, r3, r4, r5, r6, r7, reduceCtorEq, Tryz.f59]
                refine stIf hy_35 (fun hb_36 hy_35 => ?_) (fun hb_36 hy_35 => ?_)
                · try simp only [↓DN, UP, r1, r2, r3, r4, r5, r6, r7, reduceCtorEq, Tryz.f59, hb_36]
                  refine stIf hy_35 (fun hb_37 hy_35 => ?_) (fun hb_37 hy_35 => ?_)
                  · try simp only [↓DN, UP, r1, r2, r3, r4, r5, r6, r7, reduceCtorEq, Tryz.f59, hb_36, hb_37]
                    obtain rfl := Option.some.inj hy_35
                    exact cutT_mk (it_1.Raw == 0) rfl (wn [1, 4, 98] [0, 1])
                  · try simp only [↓DN, UP, r1, r2, r3, r4, r5, r6, r7, reduceCtorEq, Tryz.f59, hb_36, hb_37]
                    obtain rfl := Option.some.inj hy_35
                    exact cutT_mk false rfl (wn [1, 4, 98] [0, 1])
                · try simp only [↓DN, UP, r1, r2, r3, r4, r5, r6, r7, reduceCtorEq, Tryz.f59, hb_36]
                  obtain rfl := Option.some.inj hy_35
                  exact cutT_mk false rfl (wn [1, 4, 98] [0, 1])
              · rintro v_33 hp
                replace hp := hp.symm; subst hp
                try dsimp only at hy_9
                try simp only [↓DN, UP, r1, r2, r3, r4, r5, r6, r7, reduceCtorEq, Tryz.f59]
                refine stIf hy_9 (fun hb_38 hy_9 => ?_) (fun hb_38 hy_9 => ?_)
                · obtain ⟨v_39, hv_39, hy_9⟩ := bS hy_9
                  obtain rfl := Option.some.inj hy_9
                  try dsimp only at h
                  have f3 := (show bldN 1 = 1 from rfl)
                  have f4 := (show bldC [.int .u32 (IntKind.wrap .u32 it_1.N)] = [IntKind.wrap .u32 it_1.N].flatMap (eI .u32) from rfl)
                  have f5 := (fWin (eI_ok .u32) (n := 1) (xs := [IntKind.wrap .u32 it_1.N]) (by simp))
                  have f6 := (fApp hv_39 (n := y_32.length) (by simp) (m := 1) (by simp [bsOf]))
                  have f7 := (fWin (eI_ok .u32) (n := y_32.length) (xs := y_32) (by simp))
                  have f8 := (fCat (e := (eI .u32)) (ns := [IntKind.wrap .u32 it_1.N].flatMap (eI .u32)) hv_39 rfl)
                  try simp only [↓DN, UP, r1, r2, r3, r4, r5, r6, r7, reduceCtorEq, Tryz.f59, f3, f4, f5, f6, f7, f8]
                  obtain rfl := Option.some.inj h
                  refine endT_of ?_ ⟨rfl, rfl⟩
                  exact (wn [0] [3])
                · try simp only [↓DN, UP, r1, r2, r3, r4, r5, r6, r7, reduceCtorEq, Tryz.f59]
                  obtain rfl := Option.some.inj hy_9
                  exact cutT_mk () (by trivial) (wn [] [])
            · obtain ⟨y_40, hy_40, hy_9⟩ := bS hy_9
              try simp only [↓DN, UP, r1, r2, r3, r4, r5, r6, r7, reduceCtorEq, Tryz.f59]
              refine cG [] (c_spec_l04Tag hy_40) (hK := fun rd b => ?_)
              try simp only [↓DN, UP, r1, r2, r3, r4, r5, r6, r7, reduceCtorEq, Tryz.f59]
              obtain ⟨y_42, hy_43, hy_9⟩ := bS hy_9
              refine seqK TryzT_eq (fun p : Bool => ⟨[(1, .pv (.one (.ptr 0 0))), (5, .pv (.one (.int .u32 y_40))), (28, .pv (.one (.bool p)))], [.live ⟨1, 5, [.int .i64 it_1.Kind, .str it_1.Name, .int .i32 it_1.N, .bool it_1.Hex, .int .u32 it_1.Raw]⟩]⟩) (fun v => y_42 = v) (by rfl) ?_ ?_
              · try simp only [↓DN, UP, r1, r2, r3, r4, r5, r6, r7, reduceCtorEq, Tryz.f59]
                refine stIf hy_43 (fun hb_44 hy_43 => ?_) (fun hb_44 hy_43 => ?_)
                · try simp only [↓DN, UP, r1, r2, r3, r4, r5, r6, r7, reduceCtorEq, Tryz.f59, hb_44]
                  obtain rfl := Option.some.inj hy_43
                  exact cutT_mk plain_2 rfl (wn [1, 5, 28] [0])
                · try simp only [↓DN, UP, r1, r2, r3, r4, r5, r6, r7, reduceCtorEq, Tryz.f59, hb_44]
                  obtain rfl := Option.some.inj hy_43
                  exact cutT_mk false rfl (wn [1, 5, 28] [0])
              · rintro v_41 hp
                replace hp := hp.symm; subst hp
                try dsimp only at hy_9
                try simp only [↓DN, UP, r1, r2, r3, r4, r5, r6, r7, reduceCtorEq, Tryz.f59]
                refine stIf hy_9 (fun hb_45 hy_9 => ?_) (fun hb_45 hy_9 => ?_)
                · obtain ⟨y_46, hy_46, hy_9⟩ := bS hy_9
                  try simp only [↓DN, UP, r1, r2, r3, r4, r5, r6, r7, reduceCtorEq, Tryz.f59]
                  refine cG [] (c_spec_l04Word hy_46) (hK := fun rd b => ?_)
                  obtain rfl := Option.some.inj hy_9
                  try dsimp only at h
                  try simp only [↓DN, UP, r1, r2, r3, r4, r5, r6, r7, reduceCtorEq, Tryz.f59]
                  obtain rfl := Option.some.inj h
                  refine endT_of ?_ ⟨rfl, rfl⟩
                  exact (wn [0] [1])
                · try simp only [↓DN, UP, r1, r2, r3, r4, r5, r6, r7, reduceCtorEq, Tryz.f59]
                  obtain rfl := Option.some.inj hy_9
                  exact cutT_mk () (by trivial) (wn [] [])
    · rintro _ hp
      replace hp := hp.symm; subst hp
      try dsimp only at h
      have f9 := (show bldN 0 = 0 from rfl)
      have f10 := (show bldC [] = ([] : List Int).flatMap (eI .u32) from rfl)
      try simp only [↓DN, UP, r1, r2, r3, r4, r5, r6, r7, reduceCtorEq, Tryz.f59, f9, f10]
      obtain rfl := Option.some.inj h
      refine endT_of ?_ ⟨rfl, rfl⟩
      exact (weak_norm (ks := [0]) (π := [0]) (fuel := 9) (by simp only [WL, r1, r2, r3, r4, r5, r6, r7, reduceCtorEq, fWin (eI_ok .u32) (n := 0) (xs := ([] : List Int)) (by simp)]))
theorem c_spec_l01Word {c_1 : GL01Cur} {r : Int × GL01Cur} (h : g_spec_l01Word c_1 = some r) : Ans Tryz.prog 88 [.one (.ptr 0 0)] [.live ⟨1, 3, [.imm 1 c_1.b.length (c_1.b.flatMap (eI .u8)), .int .i64 c_1.i, .int .i64 c_1.h]⟩] fun v h1 => v = .pv (.one (.int .u32 r.1)) ∧ h1 = [.live ⟨1, 3, [.imm 1 r.2.b.length (r.2.b.flatMap (eI .u8)), .int .i64 r.2.i, .int .i64 r.2.h]⟩] := by
  refine ansK (P := fun _ => Tryz.prog) TryzT_eq (fn := Tryz.f88) Tryz.func88 rfl ⟨by kernel_rfl, rfl, rfl, by kernel_rfl⟩ (by simp) (Weak.refl _ _) ?_
  rw [g_spec_l01Word] at h
  try simp only [↓DN, UP, r1, r2, r3, r4, r5, r6, r7, reduceCtorEq, Tryz.f88]
  refine seqN TryzT_eq rfl ?_
  obtain ⟨y_2, hy_2, h⟩ := bS h
  try simp only [↓DN, UP, r1, r2, r3, r4, r5, r6, r7, reduceCtorEq, Tryz.f88]
  refine callE [0] 9 rfl rfl rfl rfl (c_spec_l01Below hy_2) rfl ?_
  try simp only [↓DN, UP, r1, r2, r3, r4, r5, r6, r7, reduceCtorEq, Tryz.f88]
  refine stIf h (fun hb_3 h => ?_) (fun hb_3 h => ?_)
  · obtain ⟨y_4, hy_4, h⟩ := bS h
    have f1 := (show bldN 11 = 11 from rfl)
    have f2 := (show bldC [.int .i64 0, .int .i64 1, .int .i64 2, .int .i64 31, .int .i64 32, .int .i64 255, .int .i64 256, .int .i64 2147483647, .int .i64 2147483648, .int .i64 4294967295, .int .i64 4294967294] = [0, 1, 2, 31, 32, 255, 256, 2147483647, 2147483648, 4294967295, 4294967294].flatMap (eI .i64) from rfl)
    try simp only [↓DN, UP, r1, r2, r3, r4, r5, r6, r7, reduceCtorEq, Tryz.f88, f1, f2]
    refine callGz [1] [0, 1] [0] 9 rfl rfl (by simp only [WL, MZ, r1, r2, r3, r4, r5, r6, r7, reduceCtorEq, fWin (eI_ok .i64) (n := 11) (xs := [0, 1, 2, 31, 32, 255, 256, 2147483647, 2147483648, 4294967295, 4294967294]) (by simp)]) (by simp only [WL, MZ, r1, r2, r3, r4, r5, r6, r7, reduceCtorEq, fWin (eI_ok .i64) (n := 11) (xs := [0, 1, 2, 31, 32, 255, 256, 2147483647, 2147483648, 4294967295, 4294967294]) (by simp)]) rfl rfl (c_spec_l01PickInt hy_4) (by simp only [WL, r1, r2, r3, r4, r5, r6, r7, reduceCtorEq]) ?_
    intro rd
    try simp only [↓DN, UP, r1, r2, r3, r4, r5, r6, r7, reduceCtorEq, Tryz.f88, f1, f2]
    obtain rfl := Option.some.inj h
    refine endT_of ?_ ⟨rfl, rfl⟩
    exact (wn [0] [0])
  · try simp only [↓DN, UP, r1, r2, r3, r4, r5, r6, r7, reduceCtorEq, Tryz.f88]
    refine stIf h (fun hb_5 h => ?_) (fun hb_5 h => ?_)
    · obtain ⟨y_6, hy_6, h⟩ := bS h
      try simp only [↓DN, UP, r1, r2, r3, r4, r5, r6, r7, reduceCtorEq, Tryz.f88]
      refine callE [0] 9 rfl rfl rfl rfl (c_spec_l01Below hy_6) rfl ?_
      try simp only [↓DN, UP, r1, r2, r3, r4, r5, r6, r7, reduceCtorEq, Tryz.f88]
      obtain rfl := Option.some.inj h
      refine endT_of ?_ ⟨rfl, rfl⟩
      exact (wn [0] [0])
    · obtain ⟨y_7, hy_7, h⟩ := bS h
      try simp only [↓DN, UP, r1, r2, r3, r4, r5, r6, r7, reduceCtorEq, Tryz.f88]
      refine callE [0] 9 rfl rfl rfl rfl (c_spec_l01Below hy_7) rfl ?_
      obtain ⟨y_8, hy_8, h⟩ := bS h
      try simp only [↓DN, UP, r1, r2, r3, r4, r5, r6, r7, reduceCtorEq, Tryz.f88]
      refine callE [0] 9 rfl rfl rfl rfl (c_spec_l01Below hy_8) rfl ?_
      try simp only [↓DN, UP, r1, r2, r3, r4, r5, r6, r7, reduceCtorEq, Tryz.f88]
      obtain rfl := Option.some.inj h
      refine endT_of ?_ ⟨rfl, rfl⟩
      exact (wn [0] [0])
theorem c_spec_l04Cells {c_1 : GL01Cur} {r : (List Int) × GL01Cur} (h : g_spec_l04Cells c_1 = some r) : Ans Tryz.prog 63 [.one (.ptr 0 0)] [.live ⟨1, 3, [.imm 1 c_1.b.length (c_1.b.flatMap (eI .u8)), .int .i64 c_1.i, .int .i64 c_1.h]⟩] fun v h1 => v = .pv (.one (.arr 1 0 r.1.length)) ∧ h1 = [.live ⟨1, 3, [.imm 1 r.2.b.length (r.2.b.flatMap (eI .u8)), .int .i64 r.2.i, .int .i64 r.2.h]⟩, .live ⟨1, r.1.length, r.1.flatMap (eI .u32)⟩] := by
  refine ansK (P := fun _ => Tryz.prog) TryzT_eq (fn := Tryz.f63) Tryz.func63 rfl ⟨by kernel_rfl, rfl, rfl, by kernel_rfl⟩ (by simp) (Weak.refl _ _) ?_
  rw [g_spec_l04Cells] at h
  obtain ⟨y_2, hy_2, h⟩ := bS h
  have f1 := (show bldN 0 = 0 from rfl)
  have f2 := (show bldC [] = ([] : List Int).flatMap (eI .u32) from rfl)
  try simp only [↓DN, UP, r1, r2, r3, r4, r5, r6, r7, reduceCtorEq, Tryz.f63, f1, f2]
  refine callE [0] 9 rfl rfl rfl rfl (c_spec_l01Below hy_2) rfl ?_
  try simp only [↓DN, UP, r1, r2, r3, r4, r5, r6, r7, reduceCtorEq, Tryz.f63, f1, f2]
  obtain ⟨y_5, hy_6, h⟩ := bS h
  refine seqK TryzT_eq (fun p : GL01Cur × (List Int) => ⟨[(0, .pv (.one (.ptr 0 0))), (3, .pv (.one (.arr 1 0 p.2.length)))], [.live ⟨1, 3, [.imm 1 p.1.b.length (p.1.b.flatMap (eI .u8)), .int .i64 p.1.i, .int .i64 p.1.h]⟩, .live ⟨1, p.2.length, p.2.flatMap (eI .u32)⟩]⟩) (fun v => y_5 = v) (by rfl) ?_ ?_
  · try simp only [↓DN, UP, r1, r2, r3, r4, r5, r6, r7, reduceCtorEq, Tryz.f63, f1, f2]
    obtain ⟨y_12, hy_13, hy_6⟩ := bS hy_6
    refine loopK TryzT_eq (fun p : GL01Cur × (List Int) × Int => ⟨[(0, .pv (.one (.ptr 0 0))), (3, .pv (.one (.arr 1 0 p.2.1.length))), (4, .pv (.one (.int .i64 y_2.1))), (5, .pv (.one (.int .i64 p.2.2)))], [.live ⟨1, 3, [.imm 1 p.1.b.length (p.1.b.flatMap (eI .u8)), .int .i64 p.1.i, .int .i64 p.1.h]⟩, .live ⟨1, p.2.1.length, p.2.1.flatMap (eI .u32)⟩]⟩) (fun k p => g_spec_l04Cells_l0 y_2 k p.1 p.2.1 p.2.2 = some y_12) (by kernel_rfl) bigK (y_2.2, ([] : List Int), 0) (weak_norm (ks := [0, 3, 4, 5]) (π := [0, 1]) (fuel := 9) (by simp only [WL, r1, r2, r3, r4, r5, r6, r7, reduceCtorEq, fWin (eI_ok .u32) (n := 0) (xs := ([] : List Int)) (by simp)])) hy_13 (fun _ h => nomatch (show none = some _ from h)) ?_
    rintro k_14 ⟨c_7, out_8, i_9⟩ hk_15
    rw [g_spec_l04Cells_l0] at hk_15
    try dsimp only at hk_15
    try simp only [↓DN, UP, r1, r2, r3, r4, r5, r6, r7, reduceCtorEq, Tryz.f63]
    refine seqN TryzT_eq rfl ?_
    try simp only [↓DN, UP, r1, r2, r3, r4, r5, r6, r7, reduceCtorEq, Tryz.f63]
    refine stIf hk_15 (fun hb_16 hk_15 => ?_) (fun hb_16 hk_15 => ?_)
    · try simp only [↓DN, UP, r1, r2, r3, r4, r5, r6, r7, reduceCtorEq, Tryz.f63]
      obtain ⟨y_19, hy_20, hk_15⟩ := bS hk_15
      refine seqK TryzT_eq (fun p : GL01Cur × (List Int) => ⟨[(0, .pv (.one (.ptr 0 0))), (3, .pv (.one (.arr 1 0 p.2.length))), (4, .pv (.one (.int .i64 y_2.1))), (5, .pv (.one (.int .i64 i_9)))], [.live ⟨1, 3, [.imm 1 p.1.b.length (p.1.b.flatMap (eI .u8)), .int .i64 p.1.i, .int .i64 p.1.h]⟩, .live ⟨1, p.2.length, p.2.flatMap (eI .u32)⟩]⟩) (fun v => y_19 = v) (by rfl) ?_ ?_
      · obtain ⟨y_21, hy_21, hy_20⟩ := bS hy_20
        try simp only [↓DN, UP, r1, r2, r3, r4, r5, r6, r7, reduceCtorEq, Tryz.f63]
        refine callE [0] 9 rfl rfl rfl rfl (c_spec_l04Some hy_21) rfl ?_
        obtain ⟨y_22, hy_22, hy_20⟩ := bS hy_20
        try simp only [↓DN, UP, r1, r2, r3, r4, r5, r6, r7, reduceCtorEq, Tryz.f63]
        refine cG [] (c_spec_CellsOf hy_22) (hK := fun rd b => ?_)
        obtain ⟨v_23, hv_23, hy_20⟩ := bS hy_20
        obtain ⟨y_24, hy_24, hy_20⟩ := bS hy_20
        have f3 := (fWin (eI_ok .u32) (n := y_22.length) (xs := y_22) (by simp))
        have f4 := (fApp hv_23 (n := out_8.length) (by simp) (m := y_22.length) (by simp [bsOf]))
        have f5 := (fWin (eI_ok .u32) (n := out_8.length) (xs := out_8) (by simp))
        have f6 := (fCat (e := (eI .u32)) (ns := y_22.flatMap (eI .u32)) hv_23 rfl)
        try simp only [↓DN, UP, r1, r2, r3, r4, r5, r6, r7, reduceCtorEq, Tryz.f63, f3, f4, f5, f6]
        refine callE [0] 9 rfl rfl rfl rfl (c_spec_l01Below hy_24) rfl ?_
        try simp only [↓DN, UP, r1, r2, r3, r4, r5, r6, r7, reduceCtorEq, Tryz.f63, f3, f4, f5, f6]
        refine stIf hy_20 (fun hb_25 hy_20 => ?_) (fun hb_25 hy_20 => ?_)
        · obtain ⟨y_26, hy_26, hy_20⟩ := bS hy_20
          try simp only [↓DN, UP, r1, r2, r3, r4, r5, r6, r7, reduceCtorEq, Tryz.f63, f3, f4, f5, f6]
          refine callE [0] 9 rfl rfl rfl rfl (c_spec_l01Word hy_26) rfl ?_
          obtain ⟨v_27, hv_27, hy_20⟩ := bS hy_20
          have f7 := (show bldN 1 = 1 from rfl)
          have f8 := (show bldC [.int .u32 y_26.1] = [y_26.1].flatMap (eI .u32) from rfl)
          have f9 := (fWin (eI_ok .u32) (n := 1) (xs := [y_26.1]) (by simp))
          have f10 := (fApp hv_27 (n := v_23.length) (by simp) (m := 1) (by simp [bsOf]))
          have f11 := (fWin (eI_ok .u32) (n := v_23.length) (xs := v_23) (by simp))
          have f12 := (fCat (e := (eI .u32)) (ns := [y_26.1].flatMap (eI .u32)) hv_27 rfl)
          try simp only [↓DN, UP, r1, r2, r3, r4, r5, r6, r7, reduceCtorEq, Tryz.f63, f3, f4, f5, f6, f7, f8, f9, f10, f11, f12]
          obtain rfl := Option.some.inj hy_20
          exact cutT_mk (y_26.2, v_27) rfl (wn [0, 3, 4, 5] [0, 5])
        · try simp only [↓DN, UP, r1, r2, r3, r4, r5, r6, r7, reduceCtorEq, Tryz.f63, f3, f4, f5, f6]
          refine stIf hy_20 (fun hb_28 hy_20 => ?_) (fun hb_28 hy_20 => ?_)
          · obtain ⟨v_29, hv_29, hy_20⟩ := bS hy_20
            have f13 := (show bldN 1 = 1 from rfl)
            have f14 := (show bldC [.int .u32 0] = [0].flatMap (eI .u32) from rfl)
            have f15 := (fWin (eI_ok .u32) (n := 1) (xs := [0]) (by simp))
            have f16 := (fApp hv_29 (n := v_23.length) (by simp) (m := 1) (by simp [bsOf]))
            have f17 := (fWin (eI_ok .u32) (n := v_23.length) (xs := v_23) (by simp))
            have f18 := (fCat (e := (eI .u32)) (ns := [0].flatMap (eI .u32)) hv_29 rfl)
            try simp only [↓DN, UP, r1, r2, r3, r4, r5, r6, r7, reduceCtorEq, Tryz.f63, f3, f4, f5, f6, f13, f14, f15, f16, f17, f18]
            obtain rfl := Option.some.inj hy_20
            exact cutT_mk (y_24.2, v_29) rfl (wn [0, 3, 4, 5] [0, 5])
          · try simp only [↓DN, UP, r1, r2, r3, r4, r5, r6, r7, reduceCtorEq, Tryz.f63, f3, f4, f5, f6]
            refine stIf hy_20 (fun hb_30 hy_20 => ?_) (fun hb_30 hy_20 => ?_)
            · obtain ⟨y_31, hy_31, hy_20⟩ := bS hy_20
              try simp only [↓DN, UP, r1, r2, r3, r4, r5, r6, r7, reduceCtorEq, Tryz.f63, f3, f4, f5, f6]
              refine callE [0] 9 rfl rfl rfl rfl (c_spec_l01Below hy_31) rfl ?_
              obtain ⟨v_32, hv_32, hy_20⟩ := bS hy_20
              have f19 := (show bldN 1 = 1 from rfl)
              have f20 := (show bldC [.int .u32 (IntKind.wrap .u32 ((IntKind.wrap .u32 y_31.1) * 16))] = [IntKind.wrap .u32 ((IntKind.wrap .u32 y_31.1) * 16)].flatMap (eI .u32) from rfl)
              have f21 := (fWin (eI_ok .u32) (n := 1) (xs := [IntKind.wrap .u32 ((IntKind.wrap .u32 y_31.1) * 16)]) (by simp))
              have f22 := (fApp hv_32 (n := v_23.length) (by simp) (m := 1) (by simp [bsOf]))
              have f23 := (fWin (eI_ok .u32) (n := v_23.length) (xs := v_23) (by simp))
              have f24 := (fCat (e := (eI .u32)) (ns := [IntKind.wrap .u32 ((IntKind.wrap .u32 y_31.1) * 16)].flatMap (eI .u32)) hv_32 rfl)
              try simp only [↓DN, UP, r1, r2, r3, r4, r5, r6, r7, reduceCtorEq, Tryz.f63, f3, f4, f5, f6, f19, f20, f21, f22, f23, f24]
              obtain rfl := Option.some.inj hy_20
              exact cutT_mk (y_31.2, v_32) rfl (wn [0, 3, 4, 5] [0, 5])
            · try simp only [↓DN, UP, r1, r2, r3, r4, r5, r6, r7, reduceCtorEq, Tryz.f63, f3, f4, f5, f6]
              refine stIf hy_20 (fun hb_33 hy_20 => ?_) (fun hb_33 hy_20 => ?_)
              · obtain ⟨y_34, hy_34, hy_20⟩ := bS hy_20
                have f25 := (show bldN 5 = 5 from rfl)
                have f26 := (show bldC [.int .i64 2, .int .i64 18, .int .i64 5, .int .i64 34, .int .i64 12] = [2, 18, 5, 34, 12].flatMap (eI .i64) from rfl)
                try simp only [↓DN, UP, r1, r2, r3, r4, r5, r6, r7, reduceCtorEq, Tryz.f63, f3, f4, f5, f6, f25, f26]
                refine callGz [4] [0, 4] [0] 9 rfl rfl (by simp only [WL, MZ, r1, r2, r3, r4, r5, r6, r7, reduceCtorEq, fWin (eI_ok .i64) (n := 5) (xs := [2, 18, 5, 34, 12]) (by simp)]) (by simp only [WL, MZ, r1, r2, r3, r4, r5, r6, r7, reduceCtorEq, fWin (eI_ok .i64) (n := 5) (xs := [2, 18, 5, 34, 12]) (by simp)]) rfl rfl (c_spec_l01PickInt hy_34) (by simp only [WL, r1, r2, r3, r4, r5, r6, r7, reduceCtorEq]) ?_
                intro rd
                obtain ⟨v_35, hv_35, hy_20⟩ := bS hy_20
                have f27 := (show bldN 1 = 1 from rfl)
                have f28 := (show bldC [.int .u32 (IntKind.wrap .u32 y_34.1)] = [IntKind.wrap .u32 y_34.1].flatMap (eI .u32) from rfl)
                have f29 := (fWin (eI_ok .u32) (n := 1) (xs := [IntKind.wrap .u32 y_34.1]) (by simp))
                have f30 := (fApp hv_35 (n := v_23.length) (by simp) (m := 1) (by simp [bsOf]))
                have f31 := (fWin (eI_ok .u32) (n := v_23.length) (xs := v_23) (by simp))
                have f32 := (fCat (e := (eI .u32)) (ns := [IntKind.wrap .u32 y_34.1].flatMap (eI .u32)) hv_35 rfl)
                try simp only [↓DN, UP, r1, r2, r3, r4, r5, r6, r7, reduceCtorEq, Tryz.f63, f3, f4, f5, f6, f25, f26, f27, f28, f29, f30, f31, f32]
                obtain rfl := Option.some.inj hy_20
                exact cutT_mk (y_34.2, v_35) rfl (wn [0, 3, 4, 5] [0, 6])
              · try simp only [↓DN, UP, r1, r2, r3, r4, r5, r6, r7, reduceCtorEq, Tryz.f63, f3, f4, f5, f6]
                obtain rfl := Option.some.inj hy_20
                exact cutT_mk (y_24.2, v_23) rfl (wn [0, 3, 4, 5] [0, 3])
      · rintro ⟨p_17, out_18⟩ hp
        replace hp := hp.symm; subst hp
        try dsimp only at hk_15
        try simp only [↓DN, UP, r1, r2, r3, r4, r5, r6, r7, reduceCtorEq, Tryz.f63]
        exact ⟨(p_17, out_18, IntKind.wrap .i64 (i_9 + 1)), hk_15, (wn [0, 3, 4, 5] [0, 1])⟩
    · obtain rfl := Option.some.inj hk_15
      try dsimp only at hy_6
      try simp only [↓DN, UP, r1, r2, r3, r4, r5, r6, r7, reduceCtorEq, Tryz.f63]
      obtain rfl := Option.some.inj hy_6
      exact cutT_mk (c_7, out_8) rfl (wn [0, 3] [0, 1])
  · rintro ⟨p_3, out_4⟩ hp
    replace hp := hp.symm; subst hp
    try dsimp only at h
    try simp only [↓DN, UP, r1, r2, r3, r4, r5, r6, r7, reduceCtorEq, Tryz.f63]
    refine seqN TryzT_eq rfl ?_
    try simp only [↓DN, UP, r1, r2, r3, r4, r5, r6, r7, reduceCtorEq, Tryz.f63]
    obtain ⟨y_38, hy_39, h⟩ := bS h
    refine seqK TryzT_eq (fun p : GL01Cur × Bool => ⟨[(3, .pv (.one (.arr 1 0 out_4.length))), (58, .pv (.one (.bool p.2)))], [.live ⟨1, 3, [.imm 1 p.1.b.length (p.1.b.flatMap (eI .u8)), .int .i64 p.1.i, .int .i64 p.1.h]⟩, .live ⟨1, out_4.length, out_4.flatMap (eI .u32)⟩]⟩) (fun v => y_38 = v) (by rfl) ?_ ?_
    · try simp only [↓DN, UP, r1, r2, r3, r4, r5, r6, r7, reduceCtorEq, Tryz.f63]
      refine stIf hy_39 (fun hb_40 hy_39 => ?_) (fun hb_40 hy_39 => ?_)
      · obtain ⟨y_41, hy_41, hy_39⟩ := bS hy_39
        try simp only [↓DN, UP, r1, r2, r3, r4, r5, r6, r7, reduceCtorEq, Tryz.f63, hb_40]
        refine callE [0] 9 rfl rfl rfl rfl (c_spec_l01Once hy_41) rfl ?_
        try simp only [↓DN, UP, r1, r2, r3, r4, r5, r6, r7, reduceCtorEq, Tryz.f63, hb_40]
        obtain rfl := Option.some.inj hy_39
        exact cutT_mk (y_41.2, (!y_41.1)) rfl (wn [3, 58] [0, 1])
      · try simp only [↓DN, UP, r1, r2, r3, r4, r5, r6, r7, reduceCtorEq, Tryz.f63, hb_40]
        obtain rfl := Option.some.inj hy_39
        exact cutT_mk (p_3, false) rfl (wn [3, 58] [0, 1])
    · rintro ⟨p_36, v_37⟩ hp
      replace hp := hp.symm; subst hp
      try dsimp only at h
      try simp only [↓DN, UP, r1, r2, r3, r4, r5, r6, r7, reduceCtorEq, Tryz.f63]
      refine stIf h (fun hb_42 h => ?_) (fun hb_42 h => ?_)
      · obtain ⟨v_43, hv_43, h⟩ := bS h
        have f33 := (fSubN hv_43 (n := out_4.length) (by simp))
        try simp only [↓DN, UP, r1, r2, r3, r4, r5, r6, r7, reduceCtorEq, Tryz.f63, f33]
        obtain rfl := Option.some.inj h
        refine endT_of ?_ ⟨rfl, rfl⟩
        exact ((weak_trim 1 0 v_43.length (b := ⟨_, _, _⟩) rfl (fLeW hv_43 (by simp) (by simp)) (by decide)).trans (weak_norm (ks := [0]) (π := [0, 1]) (fuel := 9) (by simp only [trS, trE, trH, trHS, trSV, trP, trC, ML, MB, and_self, r1, r2, r3, r4, r5, r6, r7, reduceCtorEq, TL, TT, fTrim0 (eI_ok .u32) hv_43 (lo := 0) (by simp)])))
      · try simp only [↓DN, UP, r1, r2, r3, r4, r5, r6, r7, reduceCtorEq, Tryz.f63]
        obtain rfl := Option.some.inj h
        refine endT_of ?_ ⟨rfl, rfl⟩
        exact (wn [0] [0, 1])
theorem c_spec_l05Make {c_1 : GL01Cur} {r : GStore × GL01Cur} (h : g_spec_l05Make c_1 = some r) : Ans Tryz.prog 49 [.one (.ptr 0 0)] [.live ⟨1, 3, [.imm 1 c_1.b.length (c_1.b.flatMap (eI .u8)), .int .i64 c_1.i, .int .i64 c_1.h]⟩] fun v h1 => v = .pv (.agg [.arr 1 0 r.1.Cells.length]) ∧ h1 = [.live ⟨1, 3, [.imm 1 r.2.b.length (r.2.b.flatMap (eI .u8)), .int .i64 r.2.i, .int .i64 r.2.h]⟩, .live ⟨1, r.1.Cells.length, r.1.Cells.flatMap (eI .u32)⟩] := by
  refine ansK (P := fun _ => Tryz.prog) TryzT_eq (fn := Tryz.f49) Tryz.func49 rfl ⟨by kernel_rfl, rfl, rfl, by kernel_rfl⟩ (by simp) (Weak.refl _ _) ?_
  rw [g_spec_l05Make] at h
  obtain ⟨y_2, hy_2, h⟩ := bS h
  try simp only [↓DN, UP, r1, r2, r3, r4, r5, r6, r7, reduceCtorEq, Tryz.f49]
  refine callE [0] 9 rfl rfl rfl rfl (c_spec_l01Below hy_2) rfl ?_
  obtain ⟨y_3, hy_3, h⟩ := bS h
  try simp only [↓DN, UP, r1, r2, r3, r4, r5, r6, r7, reduceCtorEq, Tryz.f49]
  refine cG [] (c_spec_NewStore hy_3) (hK := fun rd b => ?_)
  try simp only [↓DN, UP, r1, r2, r3, r4, r5, r6, r7, reduceCtorEq, Tryz.f49]
  obtain ⟨y_6, hy_7, h⟩ := bS h
  refine seqK TryzT_eq (fun p : GL01Cur × (List Int) => ⟨[(2, .pv (.one (.ptr 1 0))), (3, .pv (.one (.ptr 2 0)))], [.live ⟨1, 3, [.imm 1 p.1.b.length (p.1.b.flatMap (eI .u8)), .int .i64 p.1.i, .int .i64 p.1.h]⟩, .live ⟨1, 1, [.emp]⟩, .live ⟨1, 1, [.arr 3 0 p.2.length]⟩, .live ⟨1, p.2.length, p.2.flatMap (eI .u32)⟩]⟩) (fun v => y_6 = v) (by rfl) ?_ ?_
  · try simp only [↓DN, UP, r1, r2, r3, r4, r5, r6, r7, reduceCtorEq, Tryz.f49]
    obtain ⟨y_13, hy_14, hy_7⟩ := bS hy_7
    refine loopK TryzT_eq (fun p : GL01Cur × GStore × Int => ⟨[(0, .pv (.one (.ptr 0 0))), (2, .pv (.one (.ptr 1 0))), (3, .pv (.one (.ptr 2 0))), (4, .pv (.one (.int .i64 p.2.2)))], [.live ⟨1, 3, [.imm 1 p.1.b.length (p.1.b.flatMap (eI .u8)), .int .i64 p.1.i, .int .i64 p.1.h]⟩, .live ⟨1, 1, [.emp]⟩, .live ⟨1, 1, [.arr 3 0 p.2.1.Cells.length]⟩, .live ⟨1, p.2.1.Cells.length, p.2.1.Cells.flatMap (eI .u32)⟩]⟩) (fun k p => g_spec_l05Make_l0 k p.1 p.2.1 p.2.2 = some y_13) (by kernel_rfl) bigK (y_2.2, y_3, 0) (wn [0, 2, 3, 4] [0, 1, 3, 2]) hy_14 (fun _ h => nomatch (show none = some _ from h)) ?_
    rintro k_15 ⟨c_8, s_9, b_10⟩ hk_16
    rw [g_spec_l05Make_l0] at hk_16
    try dsimp only at hk_16
    try simp only [↓DN, UP, r1, r2, r3, r4, r5, r6, r7, reduceCtorEq, Tryz.f49]
    refine seqN TryzT_eq rfl ?_
    have f1 := (quoI_ne (k := .i64) (a := (s_9.Cells.length : Int)) (b := 64) (by decide))
    try simp only [↓DN, UP, r1, r2, r3, r4, r5, r6, r7, reduceCtorEq, Tryz.f49, f1]
    refine stIf hk_16 (fun hb_17 hk_16 => ?_) (fun hb_17 hk_16 => ?_)
    · try simp only [↓DN, UP, r1, r2, r3, r4, r5, r6, r7, reduceCtorEq, Tryz.f49, f1]
      obtain ⟨y_20, hy_21, hk_16⟩ := bS hk_16
      refine seqK TryzT_eq (fun p : GL01Cur × (List Int) => ⟨[(0, .pv (.one (.ptr 0 0))), (2, .pv (.one (.ptr 1 0))), (3, .pv (.one (.ptr 2 0))), (4, .pv (.one (.int .i64 b_10)))], [.live ⟨1, 3, [.imm 1 p.1.b.length (p.1.b.flatMap (eI .u8)), .int .i64 p.1.i, .int .i64 p.1.h]⟩, .live ⟨1, 1, [.emp]⟩, .live ⟨1, 1, [.arr 3 0 p.2.length]⟩, .live ⟨1, p.2.length, p.2.flatMap (eI .u32)⟩]⟩) (fun v => y_20 = v) (by rfl) ?_ ?_
      · obtain ⟨y_22, hy_22, hy_21⟩ := bS hy_21
        try simp only [↓DN, UP, r1, r2, r3, r4, r5, r6, r7, reduceCtorEq, Tryz.f49, f1]
        refine callE [0] 9 rfl rfl rfl rfl (c_spec_l04Cells hy_22) rfl ?_
        try simp only [↓DN, UP, r1, r2, r3, r4, r5, r6, r7, reduceCtorEq, Tryz.f49, f1]
        obtain ⟨y_26, hy_27, hy_21⟩ := bS hy_21
        refine loopK TryzT_eq (fun p : GStore × Int => ⟨[(0, .pv (.one (.ptr 0 0))), (2, .pv (.one (.ptr 1 0))), (3, .pv (.one (.ptr 2 0))), (4, .pv (.one (.int .i64 b_10))), (5, .pv (.one (.arr 4 0 y_22.1.length))), (6, .pv (.one (.int .i64 p.2)))], [.live ⟨1, 3, [.imm 1 y_22.2.b.length (y_22.2.b.flatMap (eI .u8)), .int .i64 y_22.2.i, .int .i64 y_22.2.h]⟩, .live ⟨1, 1, [.emp]⟩, .live ⟨1, 1, [.arr 3 0 p.1.Cells.length]⟩, .live ⟨1, p.1.Cells.length, p.1.Cells.flatMap (eI .u32)⟩, .live ⟨1, y_22.1.length, y_22.1.flatMap (eI .u32)⟩]⟩) (fun k p => g_spec_l05Make_l1 b_10 y_22 k p.1 p.2 = some y_26) (by kernel_rfl) bigK (s_9, 0) (wn [0, 2, 3, 4, 5, 6] [0, 1, 2, 3, 4]) hy_27 (fun _ h => nomatch (show none = some _ from h)) ?_
        rintro k_28 ⟨s_23, i_24⟩ hk_29
        rw [g_spec_l05Make_l1] at hk_29
        try dsimp only at hk_29
        try simp only [↓DN, UP, r1, r2, r3, r4, r5, r6, r7, reduceCtorEq, Tryz.f49]
        refine seqN TryzT_eq rfl ?_
        try simp only [↓DN, UP, r1, r2, r3, r4, r5, r6, r7, reduceCtorEq, Tryz.f49]
        obtain ⟨y_31, hy_32, hk_29⟩ := bS hk_29
        refine seqK TryzT_eq (fun p : Bool => ⟨[(0, .pv (.one (.ptr 0 0))), (2, .pv (.one (.ptr 1 0))), (3, .pv (.one (.ptr 2 0))), (4, .pv (.one (.int .i64 b_10))), (5, .pv (.one (.arr 4 0 y_22.1.length))), (6, .pv (.one (.int .i64 i_24))), (28, .pv (.one (.bool p)))], [.live ⟨1, 3, [.imm 1 y_22.2.b.length (y_22.2.b.flatMap (eI .u8)), .int .i64 y_22.2.i, .int .i64 y_22.2.h]⟩, .live ⟨1, 1, [.emp]⟩, .live ⟨1, 1, [.arr 3 0 s_23.Cells.length]⟩, .live ⟨1, s_23.Cells.length, s_23.Cells.flatMap (eI .u32)⟩, .live ⟨1, y_22.1.length, y_22.1.flatMap (eI .u32)⟩]⟩) (fun v => y_31 = v) (by rfl) ?_ ?_
        · try simp only [↓DN, UP, r1, r2, r3, r4, r5, r6, r7, reduceCtorEq, Tryz.f49]
          refine stIf hy_32 (fun hb_33 hy_32 => ?_) (fun hb_33 hy_32 => ?_)
          · try simp only [↓DN, UP, r1, r2, r3, r4, r5, r6, r7, reduceCtorEq, Tryz.f49, hb_33]
            obtain rfl := Option.some.inj hy_32
            exact cutT_mk (decide (i_24 < 64)) rfl (wn [0, 2, 3, 4, 5, 6, 28] [0, 1, 2, 3, 4])
          · try simp only [↓DN, UP, r1, r2, r3, r4, r5, r6, r7, reduceCtorEq, Tryz.f49, hb_33]
            obtain rfl := Option.some.inj hy_32
            exact cutT_mk false rfl (wn [0, 2, 3, 4, 5, 6, 28] [0, 1, 2, 3, 4])
        · rintro v_30 hp
          replace hp := hp.symm; subst hp
          try dsimp only at hk_29
          try simp only [↓DN, UP, r1, r2, r3, r4, r5, r6, r7, reduceCtorEq, Tryz.f49]
          refine stIf hk_29 (fun hb_34 hk_29 => ?_) (fun hb_34 hk_29 => ?_)
          · try simp only [↓DN, UP, r1, r2, r3, r4, r5, r6, r7, reduceCtorEq, Tryz.f49]
            refine seqN TryzT_eq rfl ?_
            obtain ⟨v_35, hv_35, hk_29⟩ := bS hk_29
            obtain ⟨v_36, hv_36, hk_29⟩ := bS hk_29
            have f2 := (fPtr hv_35 (k := 1) (n := y_22.1.length) (by simp))
            have f3 := (fGet0 (eI_ok .u32) hv_35 (m := 1) (by decide) (by decide))
            have f4 := (fPtr hv_36 (k := 1) (n := s_23.Cells.length) (by simp))
            have f5 := (fPut0 (eI_ok .u32) hv_36 (ns := [.int .u32 v_35]) (y := v_35) rfl)
            try simp only [↓DN, UP, r1, r2, r3, r4, r5, r6, r7, reduceCtorEq, Tryz.f49, f2, f3, f4, f5]
            refine ⟨rfl, ?_⟩
            try simp only [↓DN, UP, r1, r2, r3, r4, r5, r6, r7, reduceCtorEq, Tryz.f49, f2, f3, f4, f5]
            exact ⟨((⟨s_23.Cells.set (IntKind.wrap .i64 ((IntKind.wrap .i64 (b_10 * 64)) + i_24)).toNat v_35⟩ : GStore), IntKind.wrap .i64 (i_24 + 1)), hk_29, (weak_norm (ks := [0, 2, 3, 4, 5, 6]) (π := [0, 1, 2, 3, 4]) (fuel := 9) (by simp only [WL, r1, r2, r3, r4, r5, r6, r7, reduceCtorEq, fWin (eI_ok .u32) (n := s_23.Cells.length) (xs := s_23.Cells.set (IntKind.wrap .i64 ((IntKind.wrap .i64 (b_10 * 64)) + i_24)).toNat v_35) (by simp)]))⟩
          · obtain rfl := Option.some.inj hk_29
            try dsimp only at hy_21
            try simp only [↓DN, UP, r1, r2, r3, r4, r5, r6, r7, reduceCtorEq, Tryz.f49]
            obtain rfl := Option.some.inj hy_21
            exact cutT_mk (y_22.2, s_23.Cells) rfl (wn [0, 2, 3, 4] [0, 1, 2, 3])
      · rintro ⟨p_18, s_19⟩ hp
        replace hp := hp.symm; subst hp
        try dsimp only at hk_16
        try simp only [↓DN, UP, r1, r2, r3, r4, r5, r6, r7, reduceCtorEq, Tryz.f49]
        exact ⟨(p_18, (⟨s_19⟩ : GStore), IntKind.wrap .i64 (b_10 + 1)), hk_16, (wn [0, 2, 3, 4] [0, 1, 2, 3])⟩
    · obtain rfl := Option.some.inj hk_16
      try dsimp only at hy_7
      try simp only [↓DN, UP, r1, r2, r3, r4, r5, r6, r7, reduceCtorEq, Tryz.f49, f1]
      obtain rfl := Option.some.inj hy_7
      exact cutT_mk (c_8, s_9.Cells) rfl (wn [2, 3] [0, 1, 2, 3])
  · rintro ⟨p_4, s_5⟩ hp
    replace hp := hp.symm; subst hp
    try dsimp only at h
    try simp only [↓DN, UP, r1, r2, r3, r4, r5, r6, r7, reduceCtorEq, Tryz.f49]
    obtain rfl := Option.some.inj h
    refine endT_of ?_ ⟨rfl, rfl⟩
    exact (wn [0] [0, 3])
theorem c_spec_l05Any {c_1 : GL01Cur} {r : GStore × GL01Cur} (h : g_spec_l05Any c_1 = some r) : Ans Tryz.prog 32 [.one (.ptr 0 0)] [.live ⟨1, 3, [.imm 1 c_1.b.length (c_1.b.flatMap (eI .u8)), .int .i64 c_1.i, .int .i64 c_1.h]⟩] fun v h1 => v = .pv (.agg [.arr 1 0 r.1.Cells.length]) ∧ h1 = [.live ⟨1, 3, [.imm 1 r.2.b.length (r.2.b.flatMap (eI .u8)), .int .i64 r.2.i, .int .i64 r.2.h]⟩, .live ⟨1, r.1.Cells.length, r.1.Cells.flatMap (eI .u32)⟩] := by
  refine ansK (P := fun _ => Tryz.prog) TryzT_eq (fn := Tryz.f32) Tryz.func32 rfl ⟨by kernel_rfl, rfl, rfl, by kernel_rfl⟩ (by simp) (Weak.refl _ _) ?_
  rw [g_spec_l05Any] at h
  obtain ⟨y_2, hy_2, h⟩ := bS h
  try simp only [↓DN, UP, r1, r2, r3, r4, r5, r6, r7, reduceCtorEq, Tryz.f32]
  refine callE [0] 9 rfl rfl rfl rfl (c_spec_l05Make hy_2) rfl ?_
  try simp only [↓DN, UP, r1, r2, r3, r4, r5, r6, r7, reduceCtorEq, Tryz.f32]
  obtain ⟨y_7, hy_8, h⟩ := bS h
  refine seqK TryzT_eq (fun p : GL01Cur × (List Int) => ⟨[(2, .pv (.one (.ptr 1 0))), (3, .pv (.one (.ptr 2 0)))], [.live ⟨1, 3, [.imm 1 p.1.b.length (p.1.b.flatMap (eI .u8)), .int .i64 p.1.i, .int .i64 p.1.h]⟩, .live ⟨1, 1, [.emp]⟩, .live ⟨1, 1, [.arr 3 0 p.2.length]⟩, .live ⟨1, p.2.length, p.2.flatMap (eI .u32)⟩]⟩) (fun v => y_7 = .inl v) (by rfl) ?_ ?_
  · obtain ⟨y_9, hy_9, hy_8⟩ := bS hy_8
    try simp only [↓DN, UP, r1, r2, r3, r4, r5, r6, r7, reduceCtorEq, Tryz.f32]
    refine callE [0] 9 rfl rfl rfl rfl (c_spec_l01Below hy_9) rfl ?_
    try simp only [↓DN, UP, r1, r2, r3, r4, r5, r6, r7, reduceCtorEq, Tryz.f32]
    refine stIf hy_8 (fun hb_10 hy_8 => ?_) (fun hb_10 hy_8 => ?_)
    · obtain ⟨v_11, hv_11, hy_8⟩ := bS hy_8
      have f1 := (show bldN 1 = 1 from rfl)
      have f2 := (show bldC [.int .u32 7] = [7].flatMap (eI .u32) from rfl)
      have f3 := (fWin (eI_ok .u32) (n := 1) (xs := [7]) (by simp))
      have f4 := (fApp hv_11 (n := y_2.1.Cells.length) (by simp) (m := 1) (by simp [bsOf]))
      have f5 := (fWin (eI_ok .u32) (n := y_2.1.Cells.length) (xs := y_2.1.Cells) (by simp))
      have f6 := (fCat (e := (eI .u32)) (ns := [7].flatMap (eI .u32)) hv_11 rfl)
      try simp only [↓DN, UP, r1, r2, r3, r4, r5, r6, r7, reduceCtorEq, Tryz.f32, f1, f2, f3, f4, f5, f6]
      obtain rfl := Option.some.inj hy_8
      exact cutT_mk (y_9.2, v_11) rfl (wn [2, 3] [0, 1, 3, 5])
    · try simp only [↓DN, UP, r1, r2, r3, r4, r5, r6, r7, reduceCtorEq, Tryz.f32]
      refine stIf hy_8 (fun hb_12 hy_8 => ?_) (fun hb_12 hy_8 => ?_)
      · obtain ⟨y_13, hy_13, hy_8⟩ := bS hy_8
        try simp only [↓DN, UP, r1, r2, r3, r4, r5, r6, r7, reduceCtorEq, Tryz.f32]
        refine callE [0] 9 rfl rfl rfl rfl (c_spec_l01Below hy_13) rfl ?_
        obtain ⟨v_14, hv_14, hy_8⟩ := bS hy_8
        obtain rfl := Option.some.inj hy_8
        try dsimp only at h
        have f7 := (fMk hv_14)
        have f8 := (fMkC (e := (eI .u32)) (ns := [.int .u32 0]) hv_14 rfl)
        try simp only [↓DN, UP, r1, r2, r3, r4, r5, r6, r7, reduceCtorEq, Tryz.f32, f7, f8]
        obtain rfl := Option.some.inj h
        refine endT_of ?_ ⟨rfl, rfl⟩
        exact (wn [0] [0, 4])
      · try simp only [↓DN, UP, r1, r2, r3, r4, r5, r6, r7, reduceCtorEq, Tryz.f32]
        refine stIf hy_8 (fun hb_15 hy_8 => ?_) (fun hb_15 hy_8 => ?_)
        · obtain rfl := Option.some.inj hy_8
          try dsimp only at h
          try simp only [↓DN, UP, r1, r2, r3, r4, r5, r6, r7, reduceCtorEq, Tryz.f32]
          obtain rfl := Option.some.inj h
          refine endT_of ?_ ⟨rfl, rfl⟩
          exact ((weak_norm (ks := [0]) (π := [0]) (fuel := 9) (s' := ⟨[(0, .pv (.agg [.emp]))], [.live ⟨1, 3, [.imm 1 y_9.2.b.length (y_9.2.b.flatMap (eI .u8)), .int .i64 y_9.2.i, .int .i64 y_9.2.h]⟩]⟩) (by simp only [WL, r1, r2, r3, r4, r5, r6, r7, reduceCtorEq])).trans (weak_le (by simp only [LEb, r1, r2, r3, r4, r5, r6, r7, reduceCtorEq, TL]) (by simp only [LEb, r1, r2, r3, r4, r5, r6, r7, reduceCtorEq, TL])))
        · try simp only [↓DN, UP, r1, r2, r3, r4, r5, r6, r7, reduceCtorEq, Tryz.f32]
          obtain rfl := Option.some.inj hy_8
          exact cutT_mk (y_9.2, y_2.1.Cells) rfl (wn [2, 3] [0, 1, 3, 2])
  · rintro ⟨p_3, s_4⟩ hp
    replace hp := hp.symm; subst hp
    try dsimp only at h
    try simp only [↓DN, UP, r1, r2, r3, r4, r5, r6, r7, reduceCtorEq, Tryz.f32]
    obtain rfl := Option.some.inj h
    refine endT_of ?_ ⟨rfl, rfl⟩
    exact (wn [0] [0, 3])
theorem c_spec_l13G {name_1 : Bs} {r : GItem} (h : g_spec_l13G name_1 = some r) : Ans Tryz.prog 65 [.one (.str name_1)] [] fun v h1 => v = .pv (.agg [.int .i64 r.Kind, .str r.Name, .int .i32 r.N, .bool r.Hex, .int .u32 r.Raw]) ∧ h1 = [] := by
  refine ansK (P := fun _ => Tryz.prog) TryzT_eq (fn := Tryz.f65) Tryz.func65 rfl ⟨by kernel_rfl, rfl, rfl, by kernel_rfl⟩ (by simp) (Weak.refl _ _) ?_
  rw [g_spec_l13G] at h
  try simp only [↓DN, UP, r1, r2, r3, r4, r5, r6, r7, reduceCtorEq, Tryz.f65]
  obtain rfl := Option.some.inj h
  refine endT_of ?_ ⟨rfl, rfl⟩
  exact (wn [0] [])
theorem c_spec_l13N {n_1 : Int} {r : GItem} (h : g_spec_l13N n_1 = some r) : Ans Tryz.prog 66 [.one (.int .i64 n_1)] [] fun v h1 => v = .pv (.agg [.int .i64 r.Kind, .str r.Name, .int .i32 r.N, .bool r.Hex, .int .u32 r.Raw]) ∧ h1 = [] := by
  refine ansK (P := fun _ => Tryz.prog) TryzT_eq (fn := Tryz.f66) Tryz.func66 rfl ⟨by kernel_rfl, rfl, rfl, by kernel_rfl⟩ (by simp) (Weak.refl _ _) ?_
  rw [g_spec_l13N] at h
  try simp only [↓DN, UP, r1, r2, r3, r4, r5, r6, r7, reduceCtorEq, Tryz.f66]
  obtain rfl := Option.some.inj h
  refine endT_of ?_ ⟨rfl, rfl⟩
  exact (wn [0] [])
theorem c_spec_l13Y {name_1 : Bs} {r : GItem} (h : g_spec_l13Y name_1 = some r) : Ans Tryz.prog 67 [.one (.str name_1)] [] fun v h1 => v = .pv (.agg [.int .i64 r.Kind, .str r.Name, .int .i32 r.N, .bool r.Hex, .int .u32 r.Raw]) ∧ h1 = [] := by
  refine ansK (P := fun _ => Tryz.prog) TryzT_eq (fn := Tryz.f67) Tryz.func67 rfl ⟨by kernel_rfl, rfl, rfl, by kernel_rfl⟩ (by simp) (Weak.refl _ _) ?_
  rw [g_spec_l13Y] at h
  try simp only [↓DN, UP, r1, r2, r3, r4, r5, r6, r7, reduceCtorEq, Tryz.f67]
  obtain rfl := Option.some.inj h
  refine endT_of ?_ ⟨rfl, rfl⟩
  exact (wn [0] [])
theorem c_spec_l08Names {r : (List Bs)} (h : g_spec_l08Names = some r) : Ans Tryz.prog 90 [] [] fun v h1 => v = .pv (.one (.arr 0 0 r.length)) ∧ h1 = [.live ⟨1, r.length, r.flatMap eS⟩] := by
  refine ansK (P := fun _ => Tryz.prog) TryzT_eq (fn := Tryz.f90) Tryz.func90 rfl ⟨by kernel_rfl, rfl, rfl, by kernel_rfl⟩ (by simp) (Weak.refl _ _) ?_
  rw [g_spec_l08Names] at h
  have f1 := (show bldN 24 = 24 from rfl)
  have f2 := (show bldC [.str [100, 117, 112], .str [100, 114, 111, 112], .str [111, 118, 101, 114], .str [110, 105, 112], .str [115, 119, 97, 112], .str [43], .str [45], .str [42], .str [97, 110, 100], .str [111, 114], .str [50, 42], .str [50, 47], .str [47, 109, 111, 100], .str [64], .str [33], .str [97], .str [97, 33], .str [101, 109, 105, 116], .str [107, 101, 121], .str [112, 117, 115, 104], .str [112, 111, 112], .str [105], .str [46], .str [110, 111, 112]] = [[100, 117, 112], [100, 114, 111, 112], [111, 118, 101, 114], [110, 105, 112], [115, 119, 97, 112], [43], [45], [42], [97, 110, 100], [111, 114], [50, 42], [50, 47], [47, 109, 111, 100], [64], [33], [97], [97, 33], [101, 109, 105, 116], [107, 101, 121], [112, 117, 115, 104], [112, 111, 112], [105], [46], [110, 111, 112]].flatMap eS from rfl)
  try simp only [↓DN, UP, r1, r2, r3, r4, r5, r6, r7, reduceCtorEq, Tryz.f90, f1, f2]
  obtain rfl := Option.some.inj h
  refine endT_of ?_ ⟨rfl, rfl⟩
  exact (weak_norm (ks := [0]) (π := [0]) (fuel := 9) (by simp only [WL, r1, r2, r3, r4, r5, r6, r7, reduceCtorEq, fWin eS_ok (n := 24) (xs := [[100, 117, 112], [100, 114, 111, 112], [111, 118, 101, 114], [110, 105, 112], [115, 119, 97, 112], [43], [45], [42], [97, 110, 100], [111, 114], [50, 42], [50, 47], [47, 109, 111, 100], [64], [33], [97], [97, 33], [101, 109, 105, 116], [107, 101, 121], [112, 117, 115, 104], [112, 111, 112], [105], [46], [110, 111, 112]]) (by simp)]))
theorem c_spec_PrimName {k_1 : Int} {r : Bs} (h : g_spec_PrimName k_1 = some r) : Ans Tryz.prog 69 [.one (.int .i64 k_1)] [] fun v h1 => v = .pv (.one (.str r)) ∧ h1 = [] := by
  refine ansK (P := fun _ => Tryz.prog) TryzT_eq (fn := Tryz.f69) Tryz.func69 rfl ⟨by kernel_rfl, rfl, rfl, by kernel_rfl⟩ (by simp) (Weak.refl _ _) ?_
  rw [g_spec_PrimName] at h
  obtain ⟨y_2, hy_2, h⟩ := bS h
  try simp only [↓DN, UP, r1, r2, r3, r4, r5, r6, r7, reduceCtorEq, Tryz.f69]
  refine cG [] (c_spec_l08Names hy_2) (hK := fun rd b => ?_)
  try simp only [↓DN, UP, r1, r2, r3, r4, r5, r6, r7, reduceCtorEq, Tryz.f69]
  refine seqN TryzT_eq rfl ?_
  obtain ⟨y_3, hy_3, h⟩ := bS h
  try simp only [↓DN, UP, r1, r2, r3, r4, r5, r6, r7, reduceCtorEq, Tryz.f69]
  refine cG [] (c_spec_l01In hy_3) (hK := fun rd b => ?_)
  try simp only [↓DN, UP, r1, r2, r3, r4, r5, r6, r7, reduceCtorEq, Tryz.f69]
  refine stIf h (fun hb_4 h => ?_) (fun hb_4 h => ?_)
  · try simp only [↓DN, UP, r1, r2, r3, r4, r5, r6, r7, reduceCtorEq, Tryz.f69]
    obtain rfl := Option.some.inj h
    refine endT_of ?_ ⟨rfl, rfl⟩
    exact (wn [0] [])
  · obtain ⟨v_5, hv_5, h⟩ := bS h
    have f1 := (fPtr hv_5 (k := 1) (n := y_2.length) (by simp))
    have f2 := (fGet0 eS_ok hv_5 (m := 1) (by decide) (by decide))
    try simp only [↓DN, UP, r1, r2, r3, r4, r5, r6, r7, reduceCtorEq, Tryz.f69, f1, f2]
    obtain rfl := Option.some.inj h
    refine endT_of ?_ ⟨rfl, rfl⟩
    exact (wn [0] [])
theorem c_spec_l13Word {c_1 : GL01Cur} {r : (List GItem) × GL01Cur} (h : g_spec_l13Word c_1 = some r) : Ans Tryz.prog 64 [.one (.ptr 0 0)] [.live ⟨1, 3, [.imm 1 c_1.b.length (c_1.b.flatMap (eI .u8)), .int .i64 c_1.i, .int .i64 c_1.h]⟩] fun v h1 => v = .pv (.one (.arr 1 0 r.1.length)) ∧ h1 = [.live ⟨1, 3, [.imm 1 r.2.b.length (r.2.b.flatMap (eI .u8)), .int .i64 r.2.i, .int .i64 r.2.h]⟩, .live ⟨5, r.1.length, r.1.flatMap GItem.cs⟩] := by
  refine ansK (P := fun _ => Tryz.prog) TryzT_eq (fn := Tryz.f64) Tryz.func64 rfl ⟨by kernel_rfl, rfl, rfl, by kernel_rfl⟩ (by simp) (Weak.refl _ _) ?_
  rw [g_spec_l13Word] at h
  try simp only [↓DN, UP, r1, r2, r3, r4, r5, r6, r7, reduceCtorEq, Tryz.f64]
  refine seqN TryzT_eq rfl ?_
  obtain ⟨y_2, hy_2, h⟩ := bS h
  try simp only [↓DN, UP, r1, r2, r3, r4, r5, r6, r7, reduceCtorEq, Tryz.f64]
  refine callE [0] 9 rfl rfl rfl rfl (c_spec_l01Below hy_2) rfl ?_
  try simp only [↓DN, UP, r1, r2, r3, r4, r5, r6, r7, reduceCtorEq, Tryz.f64]
  refine stIf h (fun hb_3 h => ?_) (fun hb_3 h => ?_)
  · obtain ⟨y_4, hy_4, h⟩ := bS h
    try simp only [↓DN, UP, r1, r2, r3, r4, r5, r6, r7, reduceCtorEq, Tryz.f64]
    refine cG [] (c_spec_l13G hy_4) (hK := fun rd b => ?_)
    obtain ⟨y_5, hy_5, h⟩ := bS h
    try simp only [↓DN, UP, r1, r2, r3, r4, r5, r6, r7, reduceCtorEq, Tryz.f64]
    refine cG [] (c_spec_l13G hy_5) (hK := fun rd b => ?_)
    have f1 := (show bldN 2 = 2 from rfl)
    have f2 := (show bldC [.int .i64 y_4.Kind, .str y_4.Name, .int .i32 y_4.N, .bool y_4.Hex, .int .u32 y_4.Raw, .int .i64 y_5.Kind, .str y_5.Name, .int .i32 y_5.N, .bool y_5.Hex, .int .u32 y_5.Raw] = [y_4, y_5].flatMap GItem.cs from rfl)
    try simp only [↓DN, UP, r1, r2, r3, r4, r5, r6, r7, reduceCtorEq, Tryz.f64, f1, f2]
    obtain rfl := Option.some.inj h
    refine endT_of ?_ ⟨rfl, rfl⟩
    exact (weak_norm (ks := [0]) (π := [0, 1]) (fuel := 9) (by simp only [WL, r1, r2, r3, r4, r5, r6, r7, reduceCtorEq, fWin GItem.ok (n := 2) (xs := [y_4, y_5]) (by simp)]))
  · try simp only [↓DN, UP, r1, r2, r3, r4, r5, r6, r7, reduceCtorEq, Tryz.f64]
    refine stIf h (fun hb_6 h => ?_) (fun hb_6 h => ?_)
    · obtain ⟨y_7, hy_7, h⟩ := bS h
      try simp only [↓DN, UP, r1, r2, r3, r4, r5, r6, r7, reduceCtorEq, Tryz.f64]
      refine cG [] (c_spec_l13G hy_7) (hK := fun rd b => ?_)
      obtain ⟨y_8, hy_8, h⟩ := bS h
      try simp only [↓DN, UP, r1, r2, r3, r4, r5, r6, r7, reduceCtorEq, Tryz.f64]
      refine cG [] (c_spec_l13G hy_8) (hK := fun rd b => ?_)
      obtain ⟨y_9, hy_9, h⟩ := bS h
      try simp only [↓DN, UP, r1, r2, r3, r4, r5, r6, r7, reduceCtorEq, Tryz.f64]
      refine cG [] (c_spec_l13G hy_9) (hK := fun rd b => ?_)
      have f3 := (show bldN 4 = 4 from rfl)
      have f4 := (show bldC [.int .i64 y_7.Kind, .str y_7.Name, .int .i32 y_7.N, .bool y_7.Hex, .int .u32 y_7.Raw, .int .i64 y_8.Kind, .str y_8.Name, .int .i32 y_8.N, .bool y_8.Hex, .int .u32 y_8.Raw, .int .i64 8, .str [], .int .i32 7, .bool false, .int .u32 0, .int .i64 y_9.Kind, .str y_9.Name, .int .i32 y_9.N, .bool y_9.Hex, .int .u32 y_9.Raw] = [y_7, y_8, (⟨8, [], 7, false, 0⟩ : GItem), y_9].flatMap GItem.cs from rfl)
      try simp only [↓DN, UP, r1, r2, r3, r4, r5, r6, r7, reduceCtorEq, Tryz.f64, f3, f4]
      obtain rfl := Option.some.inj h
      refine endT_of ?_ ⟨rfl, rfl⟩
      exact (weak_norm (ks := [0]) (π := [0, 1]) (fuel := 9) (by simp only [WL, r1, r2, r3, r4, r5, r6, r7, reduceCtorEq, fWin GItem.ok (n := 4) (xs := [y_7, y_8, (⟨8, [], 7, false, 0⟩ : GItem), y_9]) (by simp)]))
    · try simp only [↓DN, UP, r1, r2, r3, r4, r5, r6, r7, reduceCtorEq, Tryz.f64]
      refine stIf h (fun hb_10 h => ?_) (fun hb_10 h => ?_)
      · obtain ⟨y_11, hy_11, h⟩ := bS h
        try simp only [↓DN, UP, r1, r2, r3, r4, r5, r6, r7, reduceCtorEq, Tryz.f64]
        refine cG [] (c_spec_l13G hy_11) (hK := fun rd b => ?_)
        obtain ⟨y_12, hy_12, h⟩ := bS h
        try simp only [↓DN, UP, r1, r2, r3, r4, r5, r6, r7, reduceCtorEq, Tryz.f64]
        refine cG [] (c_spec_l13G hy_12) (hK := fun rd b => ?_)
        obtain ⟨y_13, hy_13, h⟩ := bS h
        try simp only [↓DN, UP, r1, r2, r3, r4, r5, r6, r7, reduceCtorEq, Tryz.f64]
        refine cG [] (c_spec_l13G hy_13) (hK := fun rd b => ?_)
        obtain ⟨y_14, hy_14, h⟩ := bS h
        try simp only [↓DN, UP, r1, r2, r3, r4, r5, r6, r7, reduceCtorEq, Tryz.f64]
        refine cG [] (c_spec_l13G hy_14) (hK := fun rd b => ?_)
        have f5 := (show bldN 5 = 5 from rfl)
        have f6 := (show bldC [.int .i64 8, .str [], .int .i32 3, .bool false, .int .u32 0, .int .i64 y_11.Kind, .str y_11.Name, .int .i32 y_11.N, .bool y_11.Hex, .int .u32 y_11.Raw, .int .i64 y_12.Kind, .str y_12.Name, .int .i32 y_12.N, .bool y_12.Hex, .int .u32 y_12.Raw, .int .i64 y_13.Kind, .str y_13.Name, .int .i32 y_13.N, .bool y_13.Hex, .int .u32 y_13.Raw, .int .i64 y_14.Kind, .str y_14.Name, .int .i32 y_14.N, .bool y_14.Hex, .int .u32 y_14.Raw] = [(⟨8, [], 3, false, 0⟩ : GItem), y_11, y_12, y_13, y_14].flatMap GItem.cs from rfl)
        try simp only [↓DN, UP, r1, r2, r3, r4, r5, r6, r7, reduceCtorEq, Tryz.f64, f5, f6]
        obtain rfl := Option.some.inj h
        refine endT_of ?_ ⟨rfl, rfl⟩
        exact (weak_norm (ks := [0]) (π := [0, 1]) (fuel := 9) (by simp only [WL, r1, r2, r3, r4, r5, r6, r7, reduceCtorEq, fWin GItem.ok (n := 5) (xs := [(⟨8, [], 3, false, 0⟩ : GItem), y_11, y_12, y_13, y_14]) (by simp)]))
      · try simp only [↓DN, UP, r1, r2, r3, r4, r5, r6, r7, reduceCtorEq, Tryz.f64]
        refine stIf h (fun hb_15 h => ?_) (fun hb_15 h => ?_)
        · obtain ⟨y_16, hy_16, h⟩ := bS h
          try simp only [↓DN, UP, r1, r2, r3, r4, r5, r6, r7, reduceCtorEq, Tryz.f64]
          refine callE [0] 9 rfl rfl rfl rfl (c_spec_l01Below hy_16) rfl ?_
          obtain ⟨y_17, hy_17, h⟩ := bS h
          try simp only [↓DN, UP, r1, r2, r3, r4, r5, r6, r7, reduceCtorEq, Tryz.f64]
          refine cG [] (c_spec_l13N hy_17) (hK := fun rd b => ?_)
          obtain ⟨y_18, hy_18, h⟩ := bS h
          try simp only [↓DN, UP, r1, r2, r3, r4, r5, r6, r7, reduceCtorEq, Tryz.f64]
          refine cG [] (c_spec_l13Y hy_18) (hK := fun rd b => ?_)
          obtain ⟨y_19, hy_19, h⟩ := bS h
          try simp only [↓DN, UP, r1, r2, r3, r4, r5, r6, r7, reduceCtorEq, Tryz.f64]
          refine cG [] (c_spec_l13Y hy_19) (hK := fun rd b => ?_)
          have f7 := (show bldN 4 = 4 from rfl)
          have f8 := (show bldC [.int .i64 y_17.Kind, .str y_17.Name, .int .i32 y_17.N, .bool y_17.Hex, .int .u32 y_17.Raw, .int .i64 y_18.Kind, .str y_18.Name, .int .i32 y_18.N, .bool y_18.Hex, .int .u32 y_18.Raw, .int .i64 y_19.Kind, .str y_19.Name, .int .i32 y_19.N, .bool y_19.Hex, .int .u32 y_19.Raw, .int .i64 4, .str [115, 113, 117, 97, 114, 101], .int .i32 0, .bool false, .int .u32 0] = [y_17, y_18, y_19, (⟨4, [115, 113, 117, 97, 114, 101], 0, false, 0⟩ : GItem)].flatMap GItem.cs from rfl)
          try simp only [↓DN, UP, r1, r2, r3, r4, r5, r6, r7, reduceCtorEq, Tryz.f64, f7, f8]
          obtain rfl := Option.some.inj h
          refine endT_of ?_ ⟨rfl, rfl⟩
          exact (weak_norm (ks := [0]) (π := [0, 1]) (fuel := 9) (by simp only [WL, r1, r2, r3, r4, r5, r6, r7, reduceCtorEq, fWin GItem.ok (n := 4) (xs := [y_17, y_18, y_19, (⟨4, [115, 113, 117, 97, 114, 101], 0, false, 0⟩ : GItem)]) (by simp)]))
        · try simp only [↓DN, UP, r1, r2, r3, r4, r5, r6, r7, reduceCtorEq, Tryz.f64]
          refine stIf h (fun hb_20 h => ?_) (fun hb_20 h => ?_)
          · obtain ⟨y_21, hy_21, h⟩ := bS h
            have f9 := (show bldN 5 = 5 from rfl)
            have f10 := (show bldC [.str [103, 111], .str [120], .str [97, 116], .str [116, 101, 110], .str [110, 105, 120]] = [[103, 111], [120], [97, 116], [116, 101, 110], [110, 105, 120]].flatMap eS from rfl)
            try simp only [↓DN, UP, r1, r2, r3, r4, r5, r6, r7, reduceCtorEq, Tryz.f64, f9, f10]
            refine callGz [1] [0, 1] [0] 9 rfl rfl (by simp only [WL, MZ, r1, r2, r3, r4, r5, r6, r7, reduceCtorEq, fWin eS_ok (n := 5) (xs := [[103, 111], [120], [97, 116], [116, 101, 110], [110, 105, 120]]) (by simp)]) (by simp only [WL, MZ, r1, r2, r3, r4, r5, r6, r7, reduceCtorEq, fWin eS_ok (n := 5) (xs := [[103, 111], [120], [97, 116], [116, 101, 110], [110, 105, 120]]) (by simp)]) rfl rfl (c_spec_l01Pick hy_21) (by simp only [WL, r1, r2, r3, r4, r5, r6, r7, reduceCtorEq]) ?_
            intro rd
            obtain ⟨y_22, hy_22, h⟩ := bS h
            try simp only [↓DN, UP, r1, r2, r3, r4, r5, r6, r7, reduceCtorEq, Tryz.f64, f9, f10]
            refine cG [] (c_spec_l13G hy_22) (hK := fun rd b => ?_)
            have f11 := (show bldN 1 = 1 from rfl)
            have f12 := (show bldC [.int .i64 y_22.Kind, .str y_22.Name, .int .i32 y_22.N, .bool y_22.Hex, .int .u32 y_22.Raw] = [y_22].flatMap GItem.cs from rfl)
            try simp only [↓DN, UP, r1, r2, r3, r4, r5, r6, r7, reduceCtorEq, Tryz.f64, f9, f10, f11, f12]
            obtain rfl := Option.some.inj h
            refine endT_of ?_ ⟨rfl, rfl⟩
            exact (weak_norm (ks := [0]) (π := [0, 2]) (fuel := 9) (by simp only [WL, r1, r2, r3, r4, r5, r6, r7, reduceCtorEq, fWin GItem.ok (n := 1) (xs := [y_22]) (by simp)]))
          · try simp only [↓DN, UP, r1, r2, r3, r4, r5, r6, r7, reduceCtorEq, Tryz.f64]
            refine stIf h (fun hb_23 h => ?_) (fun hb_23 h => ?_)
            · obtain ⟨y_24, hy_24, h⟩ := bS h
              try simp only [↓DN, UP, r1, r2, r3, r4, r5, r6, r7, reduceCtorEq, Tryz.f64]
              refine cG [] (c_spec_l13G hy_24) (hK := fun rd b => ?_)
              obtain ⟨y_25, hy_25, h⟩ := bS h
              try simp only [↓DN, UP, r1, r2, r3, r4, r5, r6, r7, reduceCtorEq, Tryz.f64]
              refine cG [] (c_spec_l13G hy_25) (hK := fun rd b => ?_)
              obtain ⟨y_26, hy_26, h⟩ := bS h
              try simp only [↓DN, UP, r1, r2, r3, r4, r5, r6, r7, reduceCtorEq, Tryz.f64]
              refine cG [] (c_spec_l13G hy_26) (hK := fun rd b => ?_)
              obtain ⟨y_27, hy_27, h⟩ := bS h
              try simp only [↓DN, UP, r1, r2, r3, r4, r5, r6, r7, reduceCtorEq, Tryz.f64]
              refine cG [] (c_spec_l13G hy_27) (hK := fun rd b => ?_)
              obtain ⟨y_28, hy_28, h⟩ := bS h
              try simp only [↓DN, UP, r1, r2, r3, r4, r5, r6, r7, reduceCtorEq, Tryz.f64]
              refine cG [] (c_spec_l13G hy_28) (hK := fun rd b => ?_)
              have f13 := (show bldN 6 = 6 from rfl)
              have f14 := (show bldC [.int .i64 y_24.Kind, .str y_24.Name, .int .i32 y_24.N, .bool y_24.Hex, .int .u32 y_24.Raw, .int .i64 y_25.Kind, .str y_25.Name, .int .i32 y_25.N, .bool y_25.Hex, .int .u32 y_25.Raw, .int .i64 8, .str [], .int .i32 1, .bool false, .int .u32 0, .int .i64 y_26.Kind, .str y_26.Name, .int .i32 y_26.N, .bool y_26.Hex, .int .u32 y_26.Raw, .int .i64 y_27.Kind, .str y_27.Name, .int .i32 y_27.N, .bool y_27.Hex, .int .u32 y_27.Raw, .int .i64 y_28.Kind, .str y_28.Name, .int .i32 y_28.N, .bool y_28.Hex, .int .u32 y_28.Raw] = [y_24, y_25, (⟨8, [], 1, false, 0⟩ : GItem), y_26, y_27, y_28].flatMap GItem.cs from rfl)
              try simp only [↓DN, UP, r1, r2, r3, r4, r5, r6, r7, reduceCtorEq, Tryz.f64, f13, f14]
              obtain rfl := Option.some.inj h
              refine endT_of ?_ ⟨rfl, rfl⟩
              exact (weak_norm (ks := [0]) (π := [0, 1]) (fuel := 9) (by simp only [WL, r1, r2, r3, r4, r5, r6, r7, reduceCtorEq, fWin GItem.ok (n := 6) (xs := [y_24, y_25, (⟨8, [], 1, false, 0⟩ : GItem), y_26, y_27, y_28]) (by simp)]))
            · obtain ⟨y_29, hy_29, h⟩ := bS h
              try simp only [↓DN, UP, r1, r2, r3, r4, r5, r6, r7, reduceCtorEq, Tryz.f64]
              refine callE [0] 9 rfl rfl rfl rfl (c_spec_l01Below hy_29) rfl ?_
              obtain ⟨y_30, hy_30, h⟩ := bS h
              try simp only [↓DN, UP, r1, r2, r3, r4, r5, r6, r7, reduceCtorEq, Tryz.f64]
              refine cG [] (c_spec_PrimName hy_30) (hK := fun rd b => ?_)
              obtain ⟨y_31, hy_31, h⟩ := bS h
              try simp only [↓DN, UP, r1, r2, r3, r4, r5, r6, r7, reduceCtorEq, Tryz.f64]
              refine cG [] (c_spec_l13G hy_31) (hK := fun rd b => ?_)
              have f15 := (show bldN 1 = 1 from rfl)
              have f16 := (show bldC [.int .i64 y_31.Kind, .str y_31.Name, .int .i32 y_31.N, .bool y_31.Hex, .int .u32 y_31.Raw] = [y_31].flatMap GItem.cs from rfl)
              try simp only [↓DN, UP, r1, r2, r3, r4, r5, r6, r7, reduceCtorEq, Tryz.f64, f15, f16]
              obtain rfl := Option.some.inj h
              refine endT_of ?_ ⟨rfl, rfl⟩
              exact (weak_norm (ks := [0]) (π := [0, 1]) (fuel := 9) (by simp only [WL, r1, r2, r3, r4, r5, r6, r7, reduceCtorEq, fWin GItem.ok (n := 1) (xs := [y_31]) (by simp)]))
theorem c_spec_l04Any {c_1 : GL01Cur} {r : GItem × GL01Cur} (h : g_spec_l04Any c_1 = some r) : Ans Tryz.prog 68 [.one (.ptr 0 0)] [.live ⟨1, 3, [.imm 1 c_1.b.length (c_1.b.flatMap (eI .u8)), .int .i64 c_1.i, .int .i64 c_1.h]⟩] fun v h1 => v = .pv (.agg [.int .i64 r.1.Kind, .str r.1.Name, .int .i32 r.1.N, .bool r.1.Hex, .int .u32 r.1.Raw]) ∧ h1 = [.live ⟨1, 3, [.imm 1 r.2.b.length (r.2.b.flatMap (eI .u8)), .int .i64 r.2.i, .int .i64 r.2.h]⟩] := by
  refine ansK (P := fun _ => Tryz.prog) TryzT_eq (fn := Tryz.f68) Tryz.func68 rfl ⟨by kernel_rfl, rfl, rfl, by kernel_rfl⟩ (by simp) (Weak.refl _ _) ?_
  rw [g_spec_l04Any] at h
  obtain ⟨y_2, hy_2, h⟩ := bS h
  try simp only [↓DN, UP, r1, r2, r3, r4, r5, r6, r7, reduceCtorEq, Tryz.f68]
  refine callE [0] 9 rfl rfl rfl rfl (c_spec_l04Some hy_2) rfl ?_
  try simp only [↓DN, UP, r1, r2, r3, r4, r5, r6, r7, reduceCtorEq, Tryz.f68]
  obtain ⟨y_7, hy_8, h⟩ := bS h
  refine seqK TryzT_eq (fun p : GL01Cur × GItem => ⟨[(2, .pv (.one (.ptr 1 0))), (3, .pv (.one (.ptr 2 0)))], [.live ⟨1, 3, [.imm 1 p.1.b.length (p.1.b.flatMap (eI .u8)), .int .i64 p.1.i, .int .i64 p.1.h]⟩, .live ⟨1, 5, [.int .i64 0, .str [], .int .i32 0, .bool false, .int .u32 0]⟩, .live ⟨1, 5, [.int .i64 p.2.Kind, .str p.2.Name, .int .i32 p.2.N, .bool p.2.Hex, .int .u32 p.2.Raw]⟩]⟩) (fun v => y_7 = .inl v) (by rfl) ?_ ?_
  · obtain ⟨y_9, hy_9, hy_8⟩ := bS hy_8
    try simp only [↓DN, UP, r1, r2, r3, r4, r5, r6, r7, reduceCtorEq, Tryz.f68]
    refine callE [0] 9 rfl rfl rfl rfl (c_spec_l01Below hy_9) rfl ?_
    try simp only [↓DN, UP, r1, r2, r3, r4, r5, r6, r7, reduceCtorEq, Tryz.f68]
    refine stIf hy_8 (fun hb_10 hy_8 => ?_) (fun hb_10 hy_8 => ?_)
    · obtain ⟨y_11, hy_11, hy_8⟩ := bS hy_8
      try simp only [↓DN, UP, r1, r2, r3, r4, r5, r6, r7, reduceCtorEq, Tryz.f68]
      refine callE [0] 9 rfl rfl rfl rfl (c_spec_l01Word hy_11) rfl ?_
      obtain rfl := Option.some.inj hy_8
      try dsimp only at h
      try simp only [↓DN, UP, r1, r2, r3, r4, r5, r6, r7, reduceCtorEq, Tryz.f68]
      obtain rfl := Option.some.inj h
      refine endT_of ?_ ⟨rfl, rfl⟩
      exact (wn [0] [0])
    · try simp only [↓DN, UP, r1, r2, r3, r4, r5, r6, r7, reduceCtorEq, Tryz.f68]
      refine stIf hy_8 (fun hb_12 hy_8 => ?_) (fun hb_12 hy_8 => ?_)
      · obtain ⟨y_13, hy_13, hy_8⟩ := bS hy_8
        try simp only [↓DN, UP, r1, r2, r3, r4, r5, r6, r7, reduceCtorEq, Tryz.f68]
        refine callE [0] 9 rfl rfl rfl rfl (c_spec_l01Below hy_13) rfl ?_
        try simp only [↓DN, UP, r1, r2, r3, r4, r5, r6, r7, reduceCtorEq, Tryz.f68]
        obtain rfl := Option.some.inj hy_8
        exact cutT_mk (y_13.2, (⟨IntKind.wrap .i64 (y_13.1 - 1), y_2.1.Name, y_2.1.N, y_2.1.Hex, y_2.1.Raw⟩ : GItem)) rfl (wn [2, 3] [0, 1, 2])
      · try simp only [↓DN, UP, r1, r2, r3, r4, r5, r6, r7, reduceCtorEq, Tryz.f68]
        refine stIf hy_8 (fun hb_14 hy_8 => ?_) (fun hb_14 hy_8 => ?_)
        · obtain ⟨y_15, hy_15, hy_8⟩ := bS hy_8
          have f1 := (show bldN 4 = 4 from rfl)
          have f2 := (show bldC [.str [], .str [65], .str [113, 113, 113, 113, 113], .str [115, 113, 117, 97, 114, 101, 115, 113, 117, 97, 114, 101]] = [[], [65], [113, 113, 113, 113, 113], [115, 113, 117, 97, 114, 101, 115, 113, 117, 97, 114, 101]].flatMap eS from rfl)
          try simp only [↓DN, UP, r1, r2, r3, r4, r5, r6, r7, reduceCtorEq, Tryz.f68, f1, f2]
          refine callGz [3] [0, 3] [0] 9 rfl rfl (by simp only [WL, MZ, r1, r2, r3, r4, r5, r6, r7, reduceCtorEq, fWin eS_ok (n := 4) (xs := [[], [65], [113, 113, 113, 113, 113], [115, 113, 117, 97, 114, 101, 115, 113, 117, 97, 114, 101]]) (by simp)]) (by simp only [WL, MZ, r1, r2, r3, r4, r5, r6, r7, reduceCtorEq, fWin eS_ok (n := 4) (xs := [[], [65], [113, 113, 113, 113, 113], [115, 113, 117, 97, 114, 101, 115, 113, 117, 97, 114, 101]]) (by simp)]) rfl rfl (c_spec_l01Pick hy_15) (by simp only [WL, r1, r2, r3, r4, r5, r6, r7, reduceCtorEq]) ?_
          intro rd
          try simp only [↓DN, UP, r1, r2, r3, r4, r5, r6, r7, reduceCtorEq, Tryz.f68, f1, f2]
          obtain rfl := Option.some.inj hy_8
          exact cutT_mk (y_15.2, (⟨y_2.1.Kind, y_15.1, y_2.1.N, y_2.1.Hex, y_2.1.Raw⟩ : GItem)) rfl (wn [2, 3] [0, 1, 2])
        · try simp only [↓DN, UP, r1, r2, r3, r4, r5, r6, r7, reduceCtorEq, Tryz.f68]
          refine stIf hy_8 (fun hb_16 hy_8 => ?_) (fun hb_16 hy_8 => ?_)
          · obtain ⟨y_17, hy_17, hy_8⟩ := bS hy_8
            try simp only [↓DN, UP, r1, r2, r3, r4, r5, r6, r7, reduceCtorEq, Tryz.f68]
            refine callE [0] 9 rfl rfl rfl rfl (c_spec_l01Below hy_17) rfl ?_
            try simp only [↓DN, UP, r1, r2, r3, r4, r5, r6, r7, reduceCtorEq, Tryz.f68]
            obtain rfl := Option.some.inj hy_8
            exact cutT_mk (y_17.2, (⟨y_2.1.Kind, y_2.1.Name, y_2.1.N, y_2.1.Hex, IntKind.wrap .u32 y_17.1⟩ : GItem)) rfl (wn [2, 3] [0, 1, 2])
          · try simp only [↓DN, UP, r1, r2, r3, r4, r5, r6, r7, reduceCtorEq, Tryz.f68]
            obtain rfl := Option.some.inj hy_8
            exact cutT_mk (y_9.2, y_2.1) rfl (wn [2, 3] [0, 1, 2])
  · rintro ⟨p_3, it_4⟩ hp
    replace hp := hp.symm; subst hp
    try dsimp only at h
    try simp only [↓DN, UP, r1, r2, r3, r4, r5, r6, r7, reduceCtorEq, Tryz.f68]
    obtain rfl := Option.some.inj h
    refine endT_of ?_ ⟨rfl, rfl⟩
    exact (wn [0] [0])
theorem c_spec_l13List {c_1 : GL01Cur} {blocks_2 : Int} {r : (List GItem) × GL01Cur} (h : g_spec_l13List c_1 blocks_2 = some r) : Ans Tryz.prog 51 [.one (.ptr 0 0), .one (.int .i64 blocks_2)] [.live ⟨1, 3, [.imm 1 c_1.b.length (c_1.b.flatMap (eI .u8)), .int .i64 c_1.i, .int .i64 c_1.h]⟩] fun v h1 => v = .pv (.one (.arr 1 0 r.1.length)) ∧ h1 = [.live ⟨1, 3, [.imm 1 r.2.b.length (r.2.b.flatMap (eI .u8)), .int .i64 r.2.i, .int .i64 r.2.h]⟩, .live ⟨5, r.1.length, r.1.flatMap GItem.cs⟩] := by
  refine ansK (P := fun _ => Tryz.prog) TryzT_eq (fn := Tryz.f51) Tryz.func51 rfl ⟨by kernel_rfl, rfl, rfl, by kernel_rfl⟩ (by simp) (Weak.refl _ _) ?_
  rw [g_spec_l13List] at h
  obtain ⟨y_3, hy_3, h⟩ := bS h
  have f1 := (show bldN 0 = 0 from rfl)
  have f2 := (show bldC [] = ([] : List GItem).flatMap GItem.cs from rfl)
  try simp only [↓DN, UP, r1, r2, r3, r4, r5, r6, r7, reduceCtorEq, Tryz.f51, f1, f2]
  refine callE [0] 9 rfl rfl rfl rfl (c_spec_l01Below hy_3) rfl ?_
  try simp only [↓DN, UP, r1, r2, r3, r4, r5, r6, r7, reduceCtorEq, Tryz.f51, f1, f2]
  obtain ⟨y_6, hy_7, h⟩ := bS h
  refine seqK TryzT_eq (fun p : GL01Cur × (List GItem) => ⟨[(0, .pv (.one (.ptr 0 0))), (1, .pv (.one (.int .i64 blocks_2))), (5, .pv (.one (.arr 1 0 p.2.length)))], [.live ⟨1, 3, [.imm 1 p.1.b.length (p.1.b.flatMap (eI .u8)), .int .i64 p.1.i, .int .i64 p.1.h]⟩, .live ⟨5, p.2.length, p.2.flatMap GItem.cs⟩]⟩) (fun v => y_6 = v) (by rfl) ?_ ?_
  · try simp only [↓DN, UP, r1, r2, r3, r4, r5, r6, r7, reduceCtorEq, Tryz.f51, f1, f2]
    obtain ⟨y_13, hy_14, hy_7⟩ := bS hy_7
    refine loopK TryzT_eq (fun p : GL01Cur × (List GItem) × Int => ⟨[(0, .pv (.one (.ptr 0 0))), (1, .pv (.one (.int .i64 blocks_2))), (5, .pv (.one (.arr 1 0 p.2.1.length))), (6, .pv (.one (.int .i64 (IntKind.wrap .i64 (1 + y_3.1))))), (7, .pv (.one (.int .i64 p.2.2)))], [.live ⟨1, 3, [.imm 1 p.1.b.length (p.1.b.flatMap (eI .u8)), .int .i64 p.1.i, .int .i64 p.1.h]⟩, .live ⟨5, p.2.1.length, p.2.1.flatMap GItem.cs⟩]⟩) (fun k p => g_spec_l13List_l0 y_3 k p.1 p.2.1 p.2.2 = some y_13) (by kernel_rfl) bigK (y_3.2, ([] : List GItem), 0) (weak_norm (ks := [0, 1, 5, 6, 7]) (π := [0, 1]) (fuel := 9) (by simp only [WL, r1, r2, r3, r4, r5, r6, r7, reduceCtorEq, fWin GItem.ok (n := 0) (xs := ([] : List GItem)) (by simp)])) hy_14 (fun _ h => nomatch (show none = some _ from h)) ?_
    rintro k_15 ⟨c_8, out_9, i_10⟩ hk_16
    rw [g_spec_l13List_l0] at hk_16
    try dsimp only at hk_16
    try simp only [↓DN, UP, r1, r2, r3, r4, r5, r6, r7, reduceCtorEq, Tryz.f51]
    refine seqN TryzT_eq rfl ?_
    try simp only [↓DN, UP, r1, r2, r3, r4, r5, r6, r7, reduceCtorEq, Tryz.f51]
    refine stIf hk_16 (fun hb_17 hk_16 => ?_) (fun hb_17 hk_16 => ?_)
    · try simp only [↓DN, UP, r1, r2, r3, r4, r5, r6, r7, reduceCtorEq, Tryz.f51]
      obtain ⟨y_20, hy_21, hk_16⟩ := bS hk_16
      refine seqK TryzT_eq (fun p : GL01Cur × (List GItem) => ⟨[(0, .pv (.one (.ptr 0 0))), (1, .pv (.one (.int .i64 blocks_2))), (5, .pv (.one (.arr 1 0 p.2.length))), (6, .pv (.one (.int .i64 (IntKind.wrap .i64 (1 + y_3.1))))), (7, .pv (.one (.int .i64 i_10)))], [.live ⟨1, 3, [.imm 1 p.1.b.length (p.1.b.flatMap (eI .u8)), .int .i64 p.1.i, .int .i64 p.1.h]⟩, .live ⟨5, p.2.length, p.2.flatMap GItem.cs⟩]⟩) (fun v => y_20 = v) (by rfl) ?_ ?_
      · try simp only [↓DN, UP, r1, r2, r3, r4, r5, r6, r7, reduceCtorEq, Tryz.f51]
        obtain ⟨y_24, hy_25, hy_21⟩ := bS hy_21
        refine seqK TryzT_eq (fun p : GL01Cur × (List GItem) => ⟨[(0, .pv (.one (.ptr 0 0))), (1, .pv (.one (.int .i64 blocks_2))), (5, .pv (.one (.arr 1 0 p.2.length))), (6, .pv (.one (.int .i64 (IntKind.wrap .i64 (1 + y_3.1))))), (7, .pv (.one (.int .i64 i_10)))], [.live ⟨1, 3, [.imm 1 p.1.b.length (p.1.b.flatMap (eI .u8)), .int .i64 p.1.i, .int .i64 p.1.h]⟩, .live ⟨5, p.2.length, p.2.flatMap GItem.cs⟩]⟩) (fun v => y_24 = v) (by rfl) ?_ ?_
        · obtain ⟨y_26, hy_26, hy_25⟩ := bS hy_25
          try simp only [↓DN, UP, r1, r2, r3, r4, r5, r6, r7, reduceCtorEq, Tryz.f51]
          refine callE [0] 9 rfl rfl rfl rfl (c_spec_l01Once hy_26) rfl ?_
          try simp only [↓DN, UP, r1, r2, r3, r4, r5, r6, r7, reduceCtorEq, Tryz.f51]
          refine stIf hy_25 (fun hb_27 hy_25 => ?_) (fun hb_27 hy_25 => ?_)
          · obtain ⟨y_28, hy_28, hy_25⟩ := bS hy_25
            have f3 := (show bldN 2 = 2 from rfl)
            have f4 := (show bldC [.str [120], .str [97, 116]] = [[120], [97, 116]].flatMap eS from rfl)
            try simp only [↓DN, UP, r1, r2, r3, r4, r5, r6, r7, reduceCtorEq, Tryz.f51, f3, f4]
            refine callGz [2] [0, 2] [0] 9 rfl rfl (by simp only [WL, MZ, r1, r2, r3, r4, r5, r6, r7, reduceCtorEq, fWin eS_ok (n := 2) (xs := [[120], [97, 116]]) (by simp)]) (by simp only [WL, MZ, r1, r2, r3, r4, r5, r6, r7, reduceCtorEq, fWin eS_ok (n := 2) (xs := [[120], [97, 116]]) (by simp)]) rfl rfl (c_spec_l01Pick hy_28) (by simp only [WL, r1, r2, r3, r4, r5, r6, r7, reduceCtorEq]) ?_
            intro rd
            obtain ⟨y_29, hy_29, hy_25⟩ := bS hy_25
            try simp only [↓DN, UP, r1, r2, r3, r4, r5, r6, r7, reduceCtorEq, Tryz.f51, f3, f4]
            refine callE [0] 9 rfl rfl rfl rfl (c_spec_l01Below hy_29) rfl ?_
            obtain ⟨v_30, hv_30, hy_25⟩ := bS hy_25
            have f5 := (show bldN 1 = 1 from rfl)
            have f6 := (show bldC [.int .i64 9, .str y_28.1, .int .i32 (IntKind.wrap .i32 y_29.1), .bool false, .int .u32 0] = [(⟨9, y_28.1, IntKind.wrap .i32 y_29.1, false, 0⟩ : GItem)].flatMap GItem.cs from rfl)
            have f7 := (fWin GItem.ok (n := 1) (xs := [(⟨9, y_28.1, IntKind.wrap .i32 y_29.1, false, 0⟩ : GItem)]) (by simp))
            have f8 := (fApp hv_30 (n := out_9.length) (by simp) (m := 1) (by simp [bsOf]))
            have f9 := (fWin GItem.ok (n := out_9.length) (xs := out_9) (by simp))
            have f10 := (fCat (e := GItem.cs) (ns := [(⟨9, y_28.1, IntKind.wrap .i32 y_29.1, false, 0⟩ : GItem)].flatMap GItem.cs) hv_30 rfl)
            try simp only [↓DN, UP, r1, r2, r3, r4, r5, r6, r7, reduceCtorEq, Tryz.f51, f3, f4, f5, f6, f7, f8, f9, f10]
            obtain rfl := Option.some.inj hy_25
            exact cutT_mk (y_29.2, v_30) rfl (wn [0, 1, 5, 6, 7] [0, 4])
          · try simp only [↓DN, UP, r1, r2, r3, r4, r5, r6, r7, reduceCtorEq, Tryz.f51]
            obtain rfl := Option.some.inj hy_25
            exact cutT_mk (y_26.2, out_9) rfl (wn [0, 1, 5, 6, 7] [0, 1])
        · rintro ⟨p_22, out_23⟩ hp
          replace hp := hp.symm; subst hp
          try dsimp only at hy_21
          obtain ⟨y_31, hy_31, hy_21⟩ := bS hy_21
          have f11 := (show bldN 4 = 4 from rfl)
          have f12 := (show bldC [.str [103, 111], .str [116, 101, 110], .str [120], .str [114, 117, 110]] = [[103, 111], [116, 101, 110], [120], [114, 117, 110]].flatMap eS from rfl)
          try simp only [↓DN, UP, r1, r2, r3, r4, r5, r6, r7, reduceCtorEq, Tryz.f51, f11, f12]
          refine callGz [2] [0, 2] [0] 9 rfl rfl (by simp only [WL, MZ, r1, r2, r3, r4, r5, r6, r7, reduceCtorEq, fWin eS_ok (n := 4) (xs := [[103, 111], [116, 101, 110], [120], [114, 117, 110]]) (by simp)]) (by simp only [WL, MZ, r1, r2, r3, r4, r5, r6, r7, reduceCtorEq, fWin eS_ok (n := 4) (xs := [[103, 111], [116, 101, 110], [120], [114, 117, 110]]) (by simp)]) rfl rfl (c_spec_l01Pick hy_31) (by simp only [WL, r1, r2, r3, r4, r5, r6, r7, reduceCtorEq]) ?_
          intro rd
          obtain ⟨v_32, hv_32, hy_21⟩ := bS hy_21
          obtain ⟨y_33, hy_33, hy_21⟩ := bS hy_21
          have f13 := (show bldN 1 = 1 from rfl)
          have f14 := (show bldC [.int .i64 2, .str y_31.1, .int .i32 0, .bool false, .int .u32 0] = [(⟨2, y_31.1, 0, false, 0⟩ : GItem)].flatMap GItem.cs from rfl)
          have f15 := (fWin GItem.ok (n := 1) (xs := [(⟨2, y_31.1, 0, false, 0⟩ : GItem)]) (by simp))
          have f16 := (fApp hv_32 (n := out_23.length) (by simp) (m := 1) (by simp [bsOf]))
          have f17 := (fWin GItem.ok (n := out_23.length) (xs := out_23) (by simp))
          have f18 := (fCat (e := GItem.cs) (ns := [(⟨2, y_31.1, 0, false, 0⟩ : GItem)].flatMap GItem.cs) hv_32 rfl)
          try simp only [↓DN, UP, r1, r2, r3, r4, r5, r6, r7, reduceCtorEq, Tryz.f51, f11, f12, f13, f14, f15, f16, f17, f18]
          refine callE [0] 9 rfl rfl rfl rfl (c_spec_l01Below hy_33) rfl ?_
          try simp only [↓DN, UP, r1, r2, r3, r4, r5, r6, r7, reduceCtorEq, Tryz.f51, f11, f12, f13, f14, f15, f16, f17, f18]
          obtain ⟨y_36, hy_37, hy_21⟩ := bS hy_21
          refine seqK TryzT_eq (fun p : GL01Cur × (List GItem) => ⟨[(0, .pv (.one (.ptr 0 0))), (1, .pv (.one (.int .i64 blocks_2))), (5, .pv (.one (.arr 1 0 p.2.length))), (6, .pv (.one (.int .i64 (IntKind.wrap .i64 (1 + y_3.1))))), (7, .pv (.one (.int .i64 i_10)))], [.live ⟨1, 3, [.imm 1 p.1.b.length (p.1.b.flatMap (eI .u8)), .int .i64 p.1.i, .int .i64 p.1.h]⟩, .live ⟨5, p.2.length, p.2.flatMap GItem.cs⟩]⟩) (fun v => y_36 = v) (by rfl) ?_ ?_
          · try simp only [↓DN, UP, r1, r2, r3, r4, r5, r6, r7, reduceCtorEq, Tryz.f51, f11, f12, f13, f14, f15, f16, f17, f18]
            obtain ⟨y_43, hy_44, hy_37⟩ := bS hy_37
            refine loopK TryzT_eq (fun p : GL01Cur × (List GItem) × Int => ⟨[(0, .pv (.one (.ptr 0 0))), (1, .pv (.one (.int .i64 blocks_2))), (5, .pv (.one (.arr 1 0 p.2.1.length))), (6, .pv (.one (.int .i64 (IntKind.wrap .i64 (1 + y_3.1))))), (7, .pv (.one (.int .i64 i_10))), (8, .pv (.one (.int .i64 y_33.1))), (9, .pv (.one (.int .i64 p.2.2)))], [.live ⟨1, 3, [.imm 1 p.1.b.length (p.1.b.flatMap (eI .u8)), .int .i64 p.1.i, .int .i64 p.1.h]⟩, .live ⟨5, p.2.1.length, p.2.1.flatMap GItem.cs⟩]⟩) (fun k p => g_spec_l13List_l1 y_33 k p.1 p.2.1 p.2.2 = some y_43) (by kernel_rfl) bigK (y_33.2, v_32, 0) (wn [0, 1, 5, 6, 7, 8, 9] [0, 4]) hy_44 (fun _ h => nomatch (show none = some _ from h)) ?_
            rintro k_45 ⟨c_38, out_39, j_40⟩ hk_46
            rw [g_spec_l13List_l1] at hk_46
            try dsimp only at hk_46
            try simp only [↓DN, UP, r1, r2, r3, r4, r5, r6, r7, reduceCtorEq, Tryz.f51]
            refine seqN TryzT_eq rfl ?_
            try simp only [↓DN, UP, r1, r2, r3, r4, r5, r6, r7, reduceCtorEq, Tryz.f51]
            refine stIf hk_46 (fun hb_47 hk_46 => ?_) (fun hb_47 hk_46 => ?_)
            · try simp only [↓DN, UP, r1, r2, r3, r4, r5, r6, r7, reduceCtorEq, Tryz.f51]
              refine seqN TryzT_eq rfl ?_
              obtain ⟨y_48, hy_48, hk_46⟩ := bS hk_46
              try simp only [↓DN, UP, r1, r2, r3, r4, r5, r6, r7, reduceCtorEq, Tryz.f51]
              refine callE [0] 9 rfl rfl rfl rfl (c_spec_l13Word hy_48) rfl ?_
              obtain ⟨v_49, hv_49, hk_46⟩ := bS hk_46
              have f19 := (fWin GItem.ok (n := y_48.1.length) (xs := y_48.1) (by simp))
              have f20 := (fApp hv_49 (n := out_39.length) (by simp) (m := y_48.1.length) (by simp [bsOf]))
              have f21 := (fWin GItem.ok (n := out_39.length) (xs := out_39) (by simp))
              have f22 := (fCat (e := GItem.cs) (ns := y_48.1.flatMap GItem.cs) hv_49 rfl)
              try simp only [↓DN, UP, r1, r2, r3, r4, r5, r6, r7, reduceCtorEq, Tryz.f51, f19, f20, f21, f22]
              exact ⟨(y_48.2, v_49, IntKind.wrap .i64 (j_40 + 1)), hk_46, (wn [0, 1, 5, 6, 7, 8, 9] [0, 3])⟩
            · obtain rfl := Option.some.inj hk_46
              try dsimp only at hy_37
              try simp only [↓DN, UP, r1, r2, r3, r4, r5, r6, r7, reduceCtorEq, Tryz.f51]
              obtain rfl := Option.some.inj hy_37
              exact cutT_mk (c_38, out_39) rfl (wn [0, 1, 5, 6, 7] [0, 1])
          · rintro ⟨p_34, out_35⟩ hp
            replace hp := hp.symm; subst hp
            try dsimp only at hy_21
            obtain ⟨y_50, hy_50, hy_21⟩ := bS hy_21
            try simp only [↓DN, UP, r1, r2, r3, r4, r5, r6, r7, reduceCtorEq, Tryz.f51]
            refine callE [0] 9 rfl rfl rfl rfl (c_spec_l01Once hy_50) rfl ?_
            try simp only [↓DN, UP, r1, r2, r3, r4, r5, r6, r7, reduceCtorEq, Tryz.f51]
            refine stIf hy_21 (fun hb_51 hy_21 => ?_) (fun hb_51 hy_21 => ?_)
            · obtain ⟨y_52, hy_52, hy_21⟩ := bS hy_21
              try simp only [↓DN, UP, r1, r2, r3, r4, r5, r6, r7, reduceCtorEq, Tryz.f51]
              refine cG [] (c_spec_l13G hy_52) (hK := fun rd b => ?_)
              obtain ⟨v_53, hv_53, hy_21⟩ := bS hy_21
              have f23 := (show bldN 1 = 1 from rfl)
              have f24 := (show bldC [.int .i64 y_52.Kind, .str y_52.Name, .int .i32 y_52.N, .bool y_52.Hex, .int .u32 y_52.Raw] = [y_52].flatMap GItem.cs from rfl)
              have f25 := (fWin GItem.ok (n := 1) (xs := [y_52]) (by simp))
              have f26 := (fApp hv_53 (n := out_35.length) (by simp) (m := 1) (by simp [bsOf]))
              have f27 := (fWin GItem.ok (n := out_35.length) (xs := out_35) (by simp))
              have f28 := (fCat (e := GItem.cs) (ns := [y_52].flatMap GItem.cs) hv_53 rfl)
              try simp only [↓DN, UP, r1, r2, r3, r4, r5, r6, r7, reduceCtorEq, Tryz.f51, f23, f24, f25, f26, f27, f28]
              obtain rfl := Option.some.inj hy_21
              exact cutT_mk (y_50.2, v_53) rfl (wn [0, 1, 5, 6, 7] [0, 3])
            · try simp only [↓DN, UP, r1, r2, r3, r4, r5, r6, r7, reduceCtorEq, Tryz.f51]
              obtain rfl := Option.some.inj hy_21
              exact cutT_mk (y_50.2, out_35) rfl (wn [0, 1, 5, 6, 7] [0, 1])
      · rintro ⟨p_18, out_19⟩ hp
        replace hp := hp.symm; subst hp
        try dsimp only at hk_16
        try simp only [↓DN, UP, r1, r2, r3, r4, r5, r6, r7, reduceCtorEq, Tryz.f51]
        exact ⟨(p_18, out_19, IntKind.wrap .i64 (i_10 + 1)), hk_16, (wn [0, 1, 5, 6, 7] [0, 1])⟩
    · obtain rfl := Option.some.inj hk_16
      try dsimp only at hy_7
      try simp only [↓DN, UP, r1, r2, r3, r4, r5, r6, r7, reduceCtorEq, Tryz.f51]
      obtain rfl := Option.some.inj hy_7
      exact cutT_mk (c_8, out_9) rfl (wn [0, 1, 5] [0, 1])
  · rintro ⟨p_4, out_5⟩ hp
    replace hp := hp.symm; subst hp
    try dsimp only at h
    try simp only [↓DN, UP, r1, r2, r3, r4, r5, r6, r7, reduceCtorEq, Tryz.f51]
    obtain ⟨y_56, hy_57, h⟩ := bS h
    refine seqK TryzT_eq (fun p : GL01Cur × (List GItem) => ⟨[(0, .pv (.one (.ptr 0 0))), (5, .pv (.one (.arr 1 0 p.2.length)))], [.live ⟨1, 3, [.imm 1 p.1.b.length (p.1.b.flatMap (eI .u8)), .int .i64 p.1.i, .int .i64 p.1.h]⟩, .live ⟨5, p.2.length, p.2.flatMap GItem.cs⟩]⟩) (fun v => y_56 = v) (by rfl) ?_ ?_
    · obtain ⟨y_58, hy_58, hy_57⟩ := bS hy_57
      try simp only [↓DN, UP, r1, r2, r3, r4, r5, r6, r7, reduceCtorEq, Tryz.f51]
      refine callE [0] 9 rfl rfl rfl rfl (c_spec_l01Below hy_58) rfl ?_
      try simp only [↓DN, UP, r1, r2, r3, r4, r5, r6, r7, reduceCtorEq, Tryz.f51]
      refine stIf hy_57 (fun hb_59 hy_57 => ?_) (fun hb_59 hy_57 => ?_)
      · obtain ⟨y_60, hy_60, hy_57⟩ := bS hy_57
        try simp only [↓DN, UP, r1, r2, r3, r4, r5, r6, r7, reduceCtorEq, Tryz.f51]
        refine callE [0] 9 rfl rfl rfl rfl (c_spec_l01Below hy_60) rfl ?_
        obtain ⟨y_61, hy_61, hy_57⟩ := bS hy_57
        try simp only [↓DN, UP, r1, r2, r3, r4, r5, r6, r7, reduceCtorEq, Tryz.f51]
        refine cG [] (c_spec_l13N hy_61) (hK := fun rd b => ?_)
        obtain ⟨y_62, hy_62, hy_57⟩ := bS hy_57
        try simp only [↓DN, UP, r1, r2, r3, r4, r5, r6, r7, reduceCtorEq, Tryz.f51]
        refine cG [] (c_spec_l13Y hy_62) (hK := fun rd b => ?_)
        obtain ⟨v_63, hv_63, hy_57⟩ := bS hy_57
        have f29 := (show bldN 2 = 2 from rfl)
        have f30 := (show bldC [.int .i64 y_61.Kind, .str y_61.Name, .int .i32 y_61.N, .bool y_61.Hex, .int .u32 y_61.Raw, .int .i64 y_62.Kind, .str y_62.Name, .int .i32 y_62.N, .bool y_62.Hex, .int .u32 y_62.Raw] = [y_61, y_62].flatMap GItem.cs from rfl)
        have f31 := (fWin GItem.ok (n := 2) (xs := [y_61, y_62]) (by simp))
        have f32 := (fApp hv_63 (n := out_5.length) (by simp) (m := 2) (by simp [bsOf]))
        have f33 := (fWin GItem.ok (n := out_5.length) (xs := out_5) (by simp))
        have f34 := (fCat (e := GItem.cs) (ns := [y_61, y_62].flatMap GItem.cs) hv_63 rfl)
        try simp only [↓DN, UP, r1, r2, r3, r4, r5, r6, r7, reduceCtorEq, Tryz.f51, f29, f30, f31, f32, f33, f34]
        obtain rfl := Option.some.inj hy_57
        exact cutT_mk (y_60.2, v_63) rfl (wn [0, 5] [0, 3])
      · try simp only [↓DN, UP, r1, r2, r3, r4, r5, r6, r7, reduceCtorEq, Tryz.f51]
        refine stIf hy_57 (fun hb_64 hy_57 => ?_) (fun hb_64 hy_57 => ?_)
        · obtain ⟨y_65, hy_65, hy_57⟩ := bS hy_57
          try simp only [↓DN, UP, r1, r2, r3, r4, r5, r6, r7, reduceCtorEq, Tryz.f51]
          refine cG [] (c_spec_l13Y hy_65) (hK := fun rd b => ?_)
          obtain ⟨v_66, hv_66, hy_57⟩ := bS hy_57
          have f35 := (show bldN 1 = 1 from rfl)
          have f36 := (show bldC [.int .i64 y_65.Kind, .str y_65.Name, .int .i32 y_65.N, .bool y_65.Hex, .int .u32 y_65.Raw] = [y_65].flatMap GItem.cs from rfl)
          have f37 := (fWin GItem.ok (n := 1) (xs := [y_65]) (by simp))
          have f38 := (fApp hv_66 (n := out_5.length) (by simp) (m := 1) (by simp [bsOf]))
          have f39 := (fWin GItem.ok (n := out_5.length) (xs := out_5) (by simp))
          have f40 := (fCat (e := GItem.cs) (ns := [y_65].flatMap GItem.cs) hv_66 rfl)
          try simp only [↓DN, UP, r1, r2, r3, r4, r5, r6, r7, reduceCtorEq, Tryz.f51, f35, f36, f37, f38, f39, f40]
          obtain rfl := Option.some.inj hy_57
          exact cutT_mk (y_58.2, v_66) rfl (wn [0, 5] [0, 3])
        · try simp only [↓DN, UP, r1, r2, r3, r4, r5, r6, r7, reduceCtorEq, Tryz.f51]
          refine stIf hy_57 (fun hb_67 hy_57 => ?_) (fun hb_67 hy_57 => ?_)
          · obtain ⟨y_68, hy_68, hy_57⟩ := bS hy_57
            try simp only [↓DN, UP, r1, r2, r3, r4, r5, r6, r7, reduceCtorEq, Tryz.f51]
            refine callE [0] 9 rfl rfl rfl rfl (c_spec_l04Any hy_68) rfl ?_
            obtain ⟨v_69, hv_69, hy_57⟩ := bS hy_57
            have f41 := (show bldN 1 = 1 from rfl)
            have f42 := (show bldC [.int .i64 y_68.1.Kind, .str y_68.1.Name, .int .i32 y_68.1.N, .bool y_68.1.Hex, .int .u32 y_68.1.Raw] = [y_68.1].flatMap GItem.cs from rfl)
            have f43 := (fWin GItem.ok (n := 1) (xs := [y_68.1]) (by simp))
            have f44 := (fApp hv_69 (n := out_5.length) (by simp) (m := 1) (by simp [bsOf]))
            have f45 := (fWin GItem.ok (n := out_5.length) (xs := out_5) (by simp))
            have f46 := (fCat (e := GItem.cs) (ns := [y_68.1].flatMap GItem.cs) hv_69 rfl)
            try simp only [↓DN, UP, r1, r2, r3, r4, r5, r6, r7, reduceCtorEq, Tryz.f51, f41, f42, f43, f44, f45, f46]
            obtain rfl := Option.some.inj hy_57
            exact cutT_mk (y_68.2, v_69) rfl (wn [0, 5] [0, 3])
          · try simp only [↓DN, UP, r1, r2, r3, r4, r5, r6, r7, reduceCtorEq, Tryz.f51]
            refine stIf hy_57 (fun hb_70 hy_57 => ?_) (fun hb_70 hy_57 => ?_)
            · obtain ⟨y_71, hy_71, hy_57⟩ := bS hy_57
              try simp only [↓DN, UP, r1, r2, r3, r4, r5, r6, r7, reduceCtorEq, Tryz.f51]
              refine callE [0] 9 rfl rfl rfl rfl (c_spec_l01Below hy_71) rfl ?_
              obtain ⟨y_72, hy_72, hy_57⟩ := bS hy_57
              try simp only [↓DN, UP, r1, r2, r3, r4, r5, r6, r7, reduceCtorEq, Tryz.f51]
              refine cG [] (c_spec_PrimName hy_72) (hK := fun rd b => ?_)
              obtain ⟨y_73, hy_73, hy_57⟩ := bS hy_57
              try simp only [↓DN, UP, r1, r2, r3, r4, r5, r6, r7, reduceCtorEq, Tryz.f51]
              refine cG [] (c_spec_l13Y hy_73) (hK := fun rd b => ?_)
              obtain ⟨v_74, hv_74, hy_57⟩ := bS hy_57
              have f47 := (show bldN 1 = 1 from rfl)
              have f48 := (show bldC [.int .i64 y_73.Kind, .str y_73.Name, .int .i32 y_73.N, .bool y_73.Hex, .int .u32 y_73.Raw] = [y_73].flatMap GItem.cs from rfl)
              have f49 := (fWin GItem.ok (n := 1) (xs := [y_73]) (by simp))
              have f50 := (fApp hv_74 (n := out_5.length) (by simp) (m := 1) (by simp [bsOf]))
              have f51 := (fWin GItem.ok (n := out_5.length) (xs := out_5) (by simp))
              have f52 := (fCat (e := GItem.cs) (ns := [y_73].flatMap GItem.cs) hv_74 rfl)
              try simp only [↓DN, UP, r1, r2, r3, r4, r5, r6, r7, reduceCtorEq, Tryz.f51, f47, f48, f49, f50, f51, f52]
              obtain rfl := Option.some.inj hy_57
              exact cutT_mk (y_71.2, v_74) rfl (wn [0, 5] [0, 3])
            · try simp only [↓DN, UP, r1, r2, r3, r4, r5, r6, r7, reduceCtorEq, Tryz.f51]
              obtain rfl := Option.some.inj hy_57
              exact cutT_mk (y_58.2, out_5) rfl (wn [0, 5] [0, 1])
    · rintro ⟨p_54, out_55⟩ hp
      replace hp := hp.symm; subst hp
      try dsimp only at h
      obtain ⟨y_75, hy_75, h⟩ := bS h
      try simp only [↓DN, UP, r1, r2, r3, r4, r5, r6, r7, reduceCtorEq, Tryz.f51]
      refine callE [0] 9 rfl rfl rfl rfl (c_spec_l01Below hy_75) rfl ?_
      obtain ⟨y_76, hy_76, h⟩ := bS h
      try simp only [↓DN, UP, r1, r2, r3, r4, r5, r6, r7, reduceCtorEq, Tryz.f51]
      refine cG [] (c_spec_l13N hy_76) (hK := fun rd b => ?_)
      obtain ⟨y_77, hy_77, h⟩ := bS h
      have f53 := (show bldN 6 = 6 from rfl)
      have f54 := (show bldC [.str [103, 111], .str [116, 101, 110], .str [120], .str [114, 117, 110], .str [110, 105, 120], .str [100, 117, 112]] = [[103, 111], [116, 101, 110], [120], [114, 117, 110], [110, 105, 120], [100, 117, 112]].flatMap eS from rfl)
      try simp only [↓DN, UP, r1, r2, r3, r4, r5, r6, r7, reduceCtorEq, Tryz.f51, f53, f54]
      refine callGz [2] [0, 2] [0] 9 rfl rfl (by simp only [WL, MZ, r1, r2, r3, r4, r5, r6, r7, reduceCtorEq, fWin eS_ok (n := 6) (xs := [[103, 111], [116, 101, 110], [120], [114, 117, 110], [110, 105, 120], [100, 117, 112]]) (by simp)]) (by simp only [WL, MZ, r1, r2, r3, r4, r5, r6, r7, reduceCtorEq, fWin eS_ok (n := 6) (xs := [[103, 111], [116, 101, 110], [120], [114, 117, 110], [110, 105, 120], [100, 117, 112]]) (by simp)]) rfl rfl (c_spec_l01Pick hy_77) (by simp only [WL, r1, r2, r3, r4, r5, r6, r7, reduceCtorEq]) ?_
      intro rd
      obtain ⟨y_78, hy_78, h⟩ := bS h
      try simp only [↓DN, UP, r1, r2, r3, r4, r5, r6, r7, reduceCtorEq, Tryz.f51, f53, f54]
      refine cG [] (c_spec_l13Y hy_78) (hK := fun rd b => ?_)
      obtain ⟨v_79, hv_79, h⟩ := bS h
      obtain ⟨y_80, hy_80, h⟩ := bS h
      have f55 := (show bldN 2 = 2 from rfl)
      have f56 := (show bldC [.int .i64 y_76.Kind, .str y_76.Name, .int .i32 y_76.N, .bool y_76.Hex, .int .u32 y_76.Raw, .int .i64 y_78.Kind, .str y_78.Name, .int .i32 y_78.N, .bool y_78.Hex, .int .u32 y_78.Raw] = [y_76, y_78].flatMap GItem.cs from rfl)
      have f57 := (fWin GItem.ok (n := 2) (xs := [y_76, y_78]) (by simp))
      have f58 := (fApp hv_79 (n := out_55.length) (by simp) (m := 2) (by simp [bsOf]))
      have f59 := (fWin GItem.ok (n := out_55.length) (xs := out_55) (by simp))
      have f60 := (fCat (e := GItem.cs) (ns := [y_76, y_78].flatMap GItem.cs) hv_79 rfl)
      try simp only [↓DN, UP, r1, r2, r3, r4, r5, r6, r7, reduceCtorEq, Tryz.f51, f53, f54, f55, f56, f57, f58, f59, f60]
      refine cG [] (c_spec_l13Y hy_80) (hK := fun rd b => ?_)
      obtain ⟨v_81, hv_81, h⟩ := bS h
      have f61 := (show bldN 1 = 1 from rfl)
      have f62 := (show bldC [.int .i64 y_80.Kind, .str y_80.Name, .int .i32 y_80.N, .bool y_80.Hex, .int .u32 y_80.Raw] = [y_80].flatMap GItem.cs from rfl)
      have f63 := (fWin GItem.ok (n := 1) (xs := [y_80]) (by simp))
      have f64 := (fApp hv_81 (n := v_79.length) (by simp) (m := 1) (by simp [bsOf]))
      have f65 := (fWin GItem.ok (n := v_79.length) (xs := v_79) (by simp))
      have f66 := (fCat (e := GItem.cs) (ns := [y_80].flatMap GItem.cs) hv_81 rfl)
      try simp only [↓DN, UP, r1, r2, r3, r4, r5, r6, r7, reduceCtorEq, Tryz.f51, f53, f54, f55, f56, f57, f58, f59, f60, f61, f62, f63, f64, f65, f66]
      obtain rfl := Option.some.inj h
      refine endT_of ?_ ⟨rfl, rfl⟩
      exact (wn [0] [0, 6])
theorem c_spec_Unparse {list_1 : List GItem} {r : (List Int) × Bool} (h : g_spec_Unparse list_1 = some r) : Ans Tryz.prog 44 [.one (.imm 5 list_1.length (list_1.flatMap GItem.cs))] [] fun v h1 => v = .tup [.one (.arr 0 0 r.1.length), .one (.bool r.2)] ∧ h1 = [.live ⟨1, r.1.length, r.1.flatMap (eI .u32)⟩] := by
  refine ansK (P := fun _ => Tryz.prog) TryzT_eq (fn := Tryz.f44) Tryz.func44 rfl ⟨by kernel_rfl, rfl, rfl, by kernel_rfl⟩ (by simp) (Weak.refl _ _) ?_
  rw [g_spec_Unparse] at h
  have f1 := (show bldN 0 = 0 from rfl)
  have f2 := (show bldC [] = ([] : List Int).flatMap (eI .u32) from rfl)
  try simp only [↓DN, UP, r1, r2, r3, r4, r5, r6, r7, reduceCtorEq, Tryz.f44, f1, f2]
  obtain ⟨y_3, hy_4, h⟩ := bS h
  refine seqK TryzT_eq (fun p : (List Int) => ⟨[(4, .pv (.one (.arr 0 0 p.length)))], [.live ⟨1, p.length, p.flatMap (eI .u32)⟩]⟩) (fun v => y_3 = .inl v) (by rfl) ?_ ?_
  · try simp only [↓DN, UP, r1, r2, r3, r4, r5, r6, r7, reduceCtorEq, Tryz.f44, f1, f2]
    obtain ⟨y_8, hy_9, hy_4⟩ := bS hy_4
    refine loopK TryzT_eq (fun p : (List Int) × Int => ⟨[(0, .pv (.one (.imm 5 list_1.length (list_1.flatMap GItem.cs)))), (4, .pv (.one (.arr 0 0 p.1.length))), (5, .pv (.one (.int .i64 p.2)))], [.live ⟨1, p.1.length, p.1.flatMap (eI .u32)⟩]⟩) (fun k p => g_spec_Unparse_l0 list_1 k p.1 p.2 = some y_8) (by kernel_rfl) bigK (([] : List Int), 0) (weak_norm (ks := [0, 4, 5]) (π := [0]) (fuel := 9) (by simp only [WL, r1, r2, r3, r4, r5, r6, r7, reduceCtorEq, fWin (eI_ok .u32) (n := 0) (xs := ([] : List Int)) (by simp)])) hy_9 (fun _ h => nomatch (show none = some _ from h)) ?_
    rintro k_10 ⟨out_5, i_6⟩ hk_11
    rw [g_spec_Unparse_l0] at hk_11
    try dsimp only at hk_11
    try simp only [↓DN, UP, r1, r2, r3, r4, r5, r6, r7, reduceCtorEq, Tryz.f44]
    refine seqN TryzT_eq rfl ?_
    try simp only [↓DN, UP, r1, r2, r3, r4, r5, r6, r7, reduceCtorEq, Tryz.f44]
    refine stIf hk_11 (fun hb_12 hk_11 => ?_) (fun hb_12 hk_11 => ?_)
    · try simp only [↓DN, UP, r1, r2, r3, r4, r5, r6, r7, reduceCtorEq, Tryz.f44]
      refine seqN TryzT_eq rfl ?_
      obtain ⟨v_13, hv_13, hk_11⟩ := bS hk_11
      obtain ⟨y_14, hy_14, hk_11⟩ := bS hk_11
      have f3 := (fAt GItem.ok hv_13 (n := list_1.length) (by simp))
      try simp only [↓DN, UP, r1, r2, r3, r4, r5, r6, r7, reduceCtorEq, Tryz.f44, f3]
      refine cG [] (c_spec_CellsOf hy_14) (hK := fun rd b => ?_)
      try simp only [↓DN, UP, r1, r2, r3, r4, r5, r6, r7, reduceCtorEq, Tryz.f44, f3]
      refine seqN TryzT_eq rfl ?_
      try simp only [↓DN, UP, r1, r2, r3, r4, r5, r6, r7, reduceCtorEq, Tryz.f44, f3]
      obtain ⟨y_16, hy_17, hk_11⟩ := bS hk_11
      refine seqK TryzT_eq (fun p : Bool => ⟨[(0, .pv (.one (.imm 5 list_1.length (list_1.flatMap GItem.cs)))), (4, .pv (.one (.arr 0 0 out_5.length))), (5, .pv (.one (.int .i64 i_6))), (6, .pv (.one (.arr 1 0 y_14.length))), (29, .pv (.one (.bool p)))], [.live ⟨1, out_5.length, out_5.flatMap (eI .u32)⟩, .live ⟨1, y_14.length, y_14.flatMap (eI .u32)⟩]⟩) (fun v => y_16 = v) (by rfl) ?_ ?_
      · try simp only [↓DN, UP, r1, r2, r3, r4, r5, r6, r7, reduceCtorEq, Tryz.f44, f3]
        refine stIf hy_17 (fun hb_18 hy_17 => ?_) (fun hb_18 hy_17 => ?_)
        · try simp only [↓DN, UP, r1, r2, r3, r4, r5, r6, r7, reduceCtorEq, Tryz.f44, f3, hb_18]
          obtain rfl := Option.some.inj hy_17
          exact cutT_mk true rfl (wn [0, 4, 5, 6, 29] [0, 1])
        · try simp only [↓DN, UP, r1, r2, r3, r4, r5, r6, r7, reduceCtorEq, Tryz.f44, f3, hb_18]
          obtain rfl := Option.some.inj hy_17
          exact cutT_mk (decide ((IntKind.wrap .i64 ((out_5.length : Int) + (y_14.length : Int))) > 64)) rfl (wn [0, 4, 5, 6, 29] [0, 1])
      · rintro v_15 hp
        replace hp := hp.symm; subst hp
        try dsimp only at hk_11
        try simp only [↓DN, UP, r1, r2, r3, r4, r5, r6, r7, reduceCtorEq, Tryz.f44]
        refine stIf hk_11 (fun hb_19 hk_11 => ?_) (fun hb_19 hk_11 => ?_)
        · obtain rfl := Option.some.inj hk_11
          try dsimp only at hy_4
          obtain rfl := Option.some.inj hy_4
          try dsimp only at h
          have f4 := (show bldN 0 = 0 from rfl)
          have f5 := (show bldC [] = ([] : List Int).flatMap (eI .u32) from rfl)
          try simp only [↓DN, UP, r1, r2, r3, r4, r5, r6, r7, reduceCtorEq, Tryz.f44, f4, f5]
          obtain rfl := Option.some.inj h
          refine endT_of ?_ ⟨rfl, rfl⟩
          exact (weak_norm (ks := [0]) (π := [2]) (fuel := 9) (by simp only [WL, r1, r2, r3, r4, r5, r6, r7, reduceCtorEq, fWin (eI_ok .u32) (n := 0) (xs := ([] : List Int)) (by simp)]))
        · obtain ⟨v_20, hv_20, hk_11⟩ := bS hk_11
          have f6 := (fWin (eI_ok .u32) (n := y_14.length) (xs := y_14) (by simp))
          have f7 := (fApp hv_20 (n := out_5.length) (by simp) (m := y_14.length) (by simp [bsOf]))
          have f8 := (fWin (eI_ok .u32) (n := out_5.length) (xs := out_5) (by simp))
          have f9 := (fCat (e := (eI .u32)) (ns := y_14.flatMap (eI .u32)) hv_20 rfl)
          try simp only [↓DN, UP, r1, r2, r3, r4, r5, r6, r7, reduceCtorEq, Tryz.f44, f6, f7, f8, f9]
          exact ⟨(v_20, IntKind.wrap .i64 (i_6 + 1)), hk_11, (wn [0, 4, 5] [2])⟩
    · obtain rfl := Option.some.inj hk_11
      try dsimp only at hy_4
      try simp only [↓DN, UP, r1, r2, r3, r4, r5, r6, r7, reduceCtorEq, Tryz.f44]
      obtain rfl := Option.some.inj hy_4
      exact cutT_mk out_5 rfl (wn [4] [0])
  · rintro out_2 hp
    replace hp := hp.symm; subst hp
    try dsimp only at h
    try simp only [↓DN, UP, r1, r2, r3, r4, r5, r6, r7, reduceCtorEq, Tryz.f44]
    obtain rfl := Option.some.inj h
    refine endT_of ?_ ⟨rfl, rfl⟩
    exact (wn [0] [0])
theorem c_spec_StoreOk {s_1 : GStore} {r : Bool} (h : g_spec_StoreOk s_1 = some r) : Ans Tryz.prog 24 [.agg [.imm 1 s_1.Cells.length (s_1.Cells.flatMap (eI .u32))]] [] fun v h1 => v = .pv (.one (.bool r)) ∧ h1 = [] := by
  refine ansK (P := fun _ => Tryz.prog) TryzT_eq (fn := Tryz.f24) Tryz.func24 rfl ⟨by kernel_rfl, rfl, rfl, by kernel_rfl⟩ (by simp) (Weak.refl _ _) ?_
  rw [g_spec_StoreOk] at h
  try simp only [↓DN, UP, r1, r2, r3, r4, r5, r6, r7, reduceCtorEq, Tryz.f24]
  refine seqN TryzT_eq rfl ?_
  have f1 := (remI_ne (k := .i64) (a := (s_1.Cells.length : Int)) (b := 64) (by decide))
  try simp only [↓DN, UP, r1, r2, r3, r4, r5, r6, r7, reduceCtorEq, Tryz.f24, f1]
  refine stIf h (fun hb_2 h => ?_) (fun hb_2 h => ?_)
  · try simp only [↓DN, UP, r1, r2, r3, r4, r5, r6, r7, reduceCtorEq, Tryz.f24, f1, hb_2]
    obtain rfl := Option.some.inj h
    refine endT_of ?_ ⟨rfl, rfl⟩
    exact (wn [0] [])
  · try simp only [↓DN, UP, r1, r2, r3, r4, r5, r6, r7, reduceCtorEq, Tryz.f24, f1, hb_2]
    obtain rfl := Option.some.inj h
    refine endT_of ?_ ⟨rfl, rfl⟩
    exact (wn [0] [])
theorem c_spec_l05Has {s_1 : GStore} {b_2 : Int} {r : Bool} (h : g_spec_l05Has s_1 b_2 = some r) : Ans Tryz.prog 57 [.agg [.imm 1 s_1.Cells.length (s_1.Cells.flatMap (eI .u32))], .one (.int .i64 b_2)] [] fun v h1 => v = .pv (.one (.bool r)) ∧ h1 = [] := by
  refine ansK (P := fun _ => Tryz.prog) TryzT_eq (fn := Tryz.f57) Tryz.func57 rfl ⟨by kernel_rfl, rfl, rfl, by kernel_rfl⟩ (by simp) (Weak.refl _ _) ?_
  rw [g_spec_l05Has] at h
  try simp only [↓DN, UP, r1, r2, r3, r4, r5, r6, r7, reduceCtorEq, Tryz.f57]
  refine seqN TryzT_eq rfl ?_
  obtain ⟨y_3, hy_3, h⟩ := bS h
  try simp only [↓DN, UP, r1, r2, r3, r4, r5, r6, r7, reduceCtorEq, Tryz.f57]
  refine cG [] (c_spec_StoreOk hy_3) (hK := fun rd b => ?_)
  try simp only [↓DN, UP, r1, r2, r3, r4, r5, r6, r7, reduceCtorEq, Tryz.f57]
  refine stIf h (fun hb_4 h => ?_) (fun hb_4 h => ?_)
  · try simp only [↓DN, UP, r1, r2, r3, r4, r5, r6, r7, reduceCtorEq, Tryz.f57, hb_4]
    refine stIf h (fun hb_5 h => ?_) (fun hb_5 h => ?_)
    · have f1 := (quoI_ne (k := .i64) (a := (s_1.Cells.length : Int)) (b := 64) (by decide))
      try simp only [↓DN, UP, r1, r2, r3, r4, r5, r6, r7, reduceCtorEq, Tryz.f57, hb_4, hb_5, f1]
      obtain rfl := Option.some.inj h
      refine endT_of ?_ ⟨rfl, rfl⟩
      exact (wn [0] [])
    · try simp only [↓DN, UP, r1, r2, r3, r4, r5, r6, r7, reduceCtorEq, Tryz.f57, hb_4, hb_5]
      obtain rfl := Option.some.inj h
      refine endT_of ?_ ⟨rfl, rfl⟩
      exact (wn [0] [])
  · try simp only [↓DN, UP, r1, r2, r3, r4, r5, r6, r7, reduceCtorEq, Tryz.f57, hb_4]
    obtain rfl := Option.some.inj h
    refine endT_of ?_ ⟨rfl, rfl⟩
    exact (wn [0] [])
theorem c_spec_PutBlock {s_1 : GStore} {b_2 : Int} {cells_3 : List Int} {r : GStore × Bool} (h : g_spec_PutBlock s_1 b_2 cells_3 = some r) : Ans Tryz.prog 45 [.agg [.imm 1 s_1.Cells.length (s_1.Cells.flatMap (eI .u32))], .one (.int .i64 b_2), .one (.imm 1 cells_3.length (cells_3.flatMap (eI .u32)))] [] fun v h1 => v = .tup [.agg [.arr 0 0 r.1.Cells.length], .one (.bool r.2)] ∧ h1 = [.live ⟨1, r.1.Cells.length, r.1.Cells.flatMap (eI .u32)⟩] := by
  refine ansK (P := fun _ => Tryz.prog) TryzT_eq (fn := Tryz.f45) Tryz.func45 rfl ⟨by kernel_rfl, rfl, rfl, by kernel_rfl⟩ (by simp) (Weak.refl _ _) ?_
  rw [g_spec_PutBlock] at h
  try simp only [↓DN, UP, r1, r2, r3, r4, r5, r6, r7, reduceCtorEq, Tryz.f45]
  refine seqN TryzT_eq rfl ?_
  try simp only [↓DN, UP, r1, r2, r3, r4, r5, r6, r7, reduceCtorEq, Tryz.f45]
  obtain ⟨y_5, hy_6, h⟩ := bS h
  refine seqK TryzT_eq (fun p : Bool => ⟨[(1, .pv (.one (.int .i64 b_2))), (2, .pv (.one (.imm 1 cells_3.length (cells_3.flatMap (eI .u32))))), (3, .pv (.one (.ptr 0 0))), (6, .pv (.one (.ptr 1 0))), (18, .pv (.one (.bool p)))], [.live ⟨1, 1, [.imm 1 s_1.Cells.length (s_1.Cells.flatMap (eI .u32))]⟩, .live ⟨1, 1, [.emp]⟩]⟩) (fun v => y_5 = v) (by rfl) ?_ ?_
  · obtain ⟨y_7, hy_7, hy_6⟩ := bS hy_6
    try simp only [↓DN, UP, r1, r2, r3, r4, r5, r6, r7, reduceCtorEq, Tryz.f45]
    refine cG [] (c_spec_l05Has hy_7) (hK := fun rd b => ?_)
    try simp only [↓DN, UP, r1, r2, r3, r4, r5, r6, r7, reduceCtorEq, Tryz.f45]
    refine stIf hy_6 (fun hb_8 hy_6 => ?_) (fun hb_8 hy_6 => ?_)
    · try simp only [↓DN, UP, r1, r2, r3, r4, r5, r6, r7, reduceCtorEq, Tryz.f45, hb_8]
      obtain rfl := Option.some.inj hy_6
      exact cutT_mk true rfl (wn [1, 2, 3, 6, 18] [0, 1])
    · try simp only [↓DN, UP, r1, r2, r3, r4, r5, r6, r7, reduceCtorEq, Tryz.f45, hb_8]
      obtain rfl := Option.some.inj hy_6
      exact cutT_mk (decide ((cells_3.length : Int) > 64)) rfl (wn [1, 2, 3, 6, 18] [0, 1])
  · rintro v_4 hp
    replace hp := hp.symm; subst hp
    try dsimp only at h
    try simp only [↓DN, UP, r1, r2, r3, r4, r5, r6, r7, reduceCtorEq, Tryz.f45]
    refine stIf h (fun hb_9 h => ?_) (fun hb_9 h => ?_)
    · try simp only [↓DN, UP, r1, r2, r3, r4, r5, r6, r7, reduceCtorEq, Tryz.f45]
      obtain rfl := Option.some.inj h
      refine endT_of ?_ ⟨rfl, rfl⟩
      exact ((weak_norm (ks := [0]) (π := []) (fuel := 9) (s' := ⟨[(0, .tup [.agg [.emp], .one (.bool false)])], []⟩) (by simp only [WL, r1, r2, r3, r4, r5, r6, r7, reduceCtorEq])).trans (weak_le (by simp only [LEb, r1, r2, r3, r4, r5, r6, r7, reduceCtorEq, TL]) (by simp only [LEb, r1, r2, r3, r4, r5, r6, r7, reduceCtorEq, TL])))
    · obtain ⟨v_10, hv_10, h⟩ := bS h
      have f1 := (show bldN 0 = 0 from rfl)
      have f2 := (show bldC [] = ([] : List Int).flatMap (eI .u32) from rfl)
      have f3 := (fApp hv_10 (n := 0) (by simp) (m := s_1.Cells.length) (by simp [bsOf]))
      have f4 := (fWin (eI_ok .u32) (n := 0) (xs := ([] : List Int)) (by simp))
      have f5 := (fCat (e := (eI .u32)) (ns := s_1.Cells.flatMap (eI .u32)) hv_10 rfl)
      try simp only [↓DN, UP, r1, r2, r3, r4, r5, r6, r7, reduceCtorEq, Tryz.f45, f1, f2, f3, f4, f5]
      obtain ⟨y_12, hy_13, h⟩ := bS h
      refine seqK TryzT_eq (fun p : (List Int) => ⟨[(6, .pv (.one (.ptr 0 0))), (8, .pv (.one (.arr 1 0 p.length)))], [.live ⟨1, 1, [.emp]⟩, .live ⟨1, p.length, p.flatMap (eI .u32)⟩]⟩) (fun v => y_12 = v) (by rfl) ?_ ?_
      · try simp only [↓DN, UP, r1, r2, r3, r4, r5, r6, r7, reduceCtorEq, Tryz.f45, f1, f2, f3, f4, f5]
        obtain ⟨y_17, hy_18, hy_13⟩ := bS hy_13
        refine loopK TryzT_eq (fun p : (List Int) × Int => ⟨[(1, .pv (.one (.int .i64 b_2))), (2, .pv (.one (.imm 1 cells_3.length (cells_3.flatMap (eI .u32))))), (6, .pv (.one (.ptr 0 0))), (8, .pv (.one (.arr 1 0 p.1.length))), (9, .pv (.one (.int .i64 p.2)))], [.live ⟨1, 1, [.emp]⟩, .live ⟨1, p.1.length, p.1.flatMap (eI .u32)⟩]⟩) (fun k p => g_spec_PutBlock_l0 b_2 cells_3 k p.1 p.2 = some y_17) (by kernel_rfl) bigK (v_10, 0) (wn [1, 2, 6, 8, 9] [1, 3]) hy_18 (fun _ h => nomatch (show none = some _ from h)) ?_
        rintro k_19 ⟨out_14, i_15⟩ hk_20
        rw [g_spec_PutBlock_l0] at hk_20
        try dsimp only at hk_20
        try simp only [↓DN, UP, r1, r2, r3, r4, r5, r6, r7, reduceCtorEq, Tryz.f45]
        refine seqN TryzT_eq rfl ?_
        try simp only [↓DN, UP, r1, r2, r3, r4, r5, r6, r7, reduceCtorEq, Tryz.f45]
        refine stIf hk_20 (fun hb_21 hk_20 => ?_) (fun hb_21 hk_20 => ?_)
        · try simp only [↓DN, UP, r1, r2, r3, r4, r5, r6, r7, reduceCtorEq, Tryz.f45]
          obtain ⟨y_23, hy_24, hk_20⟩ := bS hk_20
          refine seqK TryzT_eq (fun p : (List Int) => ⟨[(1, .pv (.one (.int .i64 b_2))), (2, .pv (.one (.imm 1 cells_3.length (cells_3.flatMap (eI .u32))))), (6, .pv (.one (.ptr 0 0))), (8, .pv (.one (.arr 1 0 p.length))), (9, .pv (.one (.int .i64 i_15)))], [.live ⟨1, 1, [.emp]⟩, .live ⟨1, p.length, p.flatMap (eI .u32)⟩]⟩) (fun v => y_23 = v) (by rfl) ?_ ?_
          · obtain ⟨v_25, hv_25, hy_24⟩ := bS hy_24
            have f6 := (fPtr hv_25 (k := 1) (n := out_14.length) (by simp))
            have f7 := (fPut0 (eI_ok .u32) hv_25 (ns := [.int .u32 0]) (y := 0) rfl)
            try simp only [↓DN, UP, r1, r2, r3, r4, r5, r6, r7, reduceCtorEq, Tryz.f45, f6, f7]
            refine stIf hy_24 (fun hb_26 hy_24 => ?_) (fun hb_26 hy_24 => ?_)
            · obtain ⟨v_27, hv_27, hy_24⟩ := bS hy_24
              obtain ⟨v_28, hv_28, hy_24⟩ := bS hy_24
              have f8 := (fAt (eI_ok .u32) hv_27 (n := cells_3.length) (by simp))
              have f9 := (fPtr hv_28 (k := 1) (n := out_14.length) (by simp))
              have f10 := (fPut0 (eI_ok .u32) hv_28 (ns := [.int .u32 v_27]) (y := v_27) rfl)
              try simp only [↓DN, UP, r1, r2, r3, r4, r5, r6, r7, reduceCtorEq, Tryz.f45, f6, f7, f8, f9, f10]
              obtain rfl := Option.some.inj hy_24
              exact cutT_mk ((out_14.set (IntKind.wrap .i64 ((IntKind.wrap .i64 (b_2 * 64)) + i_15)).toNat 0).set (IntKind.wrap .i64 ((IntKind.wrap .i64 (b_2 * 64)) + i_15)).toNat v_27) rfl (weak_norm (ks := [1, 2, 6, 8, 9]) (π := [0, 1]) (fuel := 9) (by simp only [WL, r1, r2, r3, r4, r5, r6, r7, reduceCtorEq, fWin (eI_ok .u32) (n := out_14.length) (xs := (out_14.set (IntKind.wrap .i64 ((IntKind.wrap .i64 (b_2 * 64)) + i_15)).toNat 0).set (IntKind.wrap .i64 ((IntKind.wrap .i64 (b_2 * 64)) + i_15)).toNat v_27) (by simp)]))
            · try simp only [↓DN, UP, r1, r2, r3, r4, r5, r6, r7, reduceCtorEq, Tryz.f45, f6, f7]
              obtain rfl := Option.some.inj hy_24
              exact cutT_mk (out_14.set (IntKind.wrap .i64 ((IntKind.wrap .i64 (b_2 * 64)) + i_15)).toNat 0) rfl (weak_norm (ks := [1, 2, 6, 8, 9]) (π := [0, 1]) (fuel := 9) (by simp only [WL, r1, r2, r3, r4, r5, r6, r7, reduceCtorEq, fWin (eI_ok .u32) (n := out_14.length) (xs := out_14.set (IntKind.wrap .i64 ((IntKind.wrap .i64 (b_2 * 64)) + i_15)).toNat 0) (by simp)]))
          · rintro out_22 hp
            replace hp := hp.symm; subst hp
            try dsimp only at hk_20
            try simp only [↓DN, UP, r1, r2, r3, r4, r5, r6, r7, reduceCtorEq, Tryz.f45]
            exact ⟨(out_22, IntKind.wrap .i64 (i_15 + 1)), hk_20, (wn [1, 2, 6, 8, 9] [0, 1])⟩
        · obtain rfl := Option.some.inj hk_20
          try dsimp only at hy_13
          try simp only [↓DN, UP, r1, r2, r3, r4, r5, r6, r7, reduceCtorEq, Tryz.f45]
          obtain rfl := Option.some.inj hy_13
          exact cutT_mk out_14 rfl (wn [6, 8] [0, 1])
      · rintro out_11 hp
        replace hp := hp.symm; subst hp
        try dsimp only at h
        try simp only [↓DN, UP, r1, r2, r3, r4, r5, r6, r7, reduceCtorEq, Tryz.f45]
        obtain rfl := Option.some.inj h
        refine endT_of ?_ ⟨rfl, rfl⟩
        exact (wn [0] [1])
theorem c_spec_PutItems {s_1 : GStore} {b_2 : Int} {list_3 : List GItem} {r : GStore × Bool} (h : g_spec_PutItems s_1 b_2 list_3 = some r) : Ans Tryz.prog 27 [.agg [.imm 1 s_1.Cells.length (s_1.Cells.flatMap (eI .u32))], .one (.int .i64 b_2), .one (.imm 5 list_3.length (list_3.flatMap GItem.cs))] [] fun v h1 => v = .tup [.agg [.arr 0 0 r.1.Cells.length], .one (.bool r.2)] ∧ h1 = [.live ⟨1, r.1.Cells.length, r.1.Cells.flatMap (eI .u32)⟩] := by
  refine ansK (P := fun _ => Tryz.prog) TryzT_eq (fn := Tryz.f27) Tryz.func27 rfl ⟨by kernel_rfl, rfl, rfl, by kernel_rfl⟩ (by simp) (Weak.refl _ _) ?_
  rw [g_spec_PutItems] at h
  obtain ⟨y_4, hy_4, h⟩ := bS h
  try simp only [↓DN, UP, r1, r2, r3, r4, r5, r6, r7, reduceCtorEq, Tryz.f27]
  refine cG [] (c_spec_Unparse hy_4) (hK := fun rd b => ?_)
  try simp only [↓DN, UP, r1, r2, r3, r4, r5, r6, r7, reduceCtorEq, Tryz.f27]
  refine seqN TryzT_eq rfl ?_
  try simp only [↓DN, UP, r1, r2, r3, r4, r5, r6, r7, reduceCtorEq, Tryz.f27]
  refine stIf h (fun hb_5 h => ?_) (fun hb_5 h => ?_)
  · try simp only [↓DN, UP, r1, r2, r3, r4, r5, r6, r7, reduceCtorEq, Tryz.f27]
    obtain rfl := Option.some.inj h
    refine endT_of ?_ ⟨rfl, rfl⟩
    exact ((weak_norm (ks := [0]) (π := []) (fuel := 9) (s' := ⟨[(0, .tup [.agg [.emp], .one (.bool false)])], []⟩) (by simp only [WL, r1, r2, r3, r4, r5, r6, r7, reduceCtorEq])).trans (weak_le (by simp only [LEb, r1, r2, r3, r4, r5, r6, r7, reduceCtorEq, TL]) (by simp only [LEb, r1, r2, r3, r4, r5, r6, r7, reduceCtorEq, TL])))
  · obtain ⟨y_6, hy_6, h⟩ := bS h
    try simp only [↓DN, UP, r1, r2, r3, r4, r5, r6, r7, reduceCtorEq, Tryz.f27]
    refine cG [] (c_spec_PutBlock hy_6) (hK := fun rd b => ?_)
    try simp only [↓DN, UP, r1, r2, r3, r4, r5, r6, r7, reduceCtorEq, Tryz.f27]
    obtain rfl := Option.some.inj h
    refine endT_of ?_ ⟨rfl, rfl⟩
    exact (wn [0] [3])
theorem c_spec_l13Store {c_1 : GL01Cur} {r : GStore × GL01Cur} (h : g_spec_l13Store c_1 = some r) : Ans Tryz.prog 33 [.one (.ptr 0 0)] [.live ⟨1, 3, [.imm 1 c_1.b.length (c_1.b.flatMap (eI .u8)), .int .i64 c_1.i, .int .i64 c_1.h]⟩] fun v h1 => v = .pv (.agg [.arr 1 0 r.1.Cells.length]) ∧ h1 = [.live ⟨1, 3, [.imm 1 r.2.b.length (r.2.b.flatMap (eI .u8)), .int .i64 r.2.i, .int .i64 r.2.h]⟩, .live ⟨1, r.1.Cells.length, r.1.Cells.flatMap (eI .u32)⟩] := by
  refine ansK (P := fun _ => Tryz.prog) TryzT_eq (fn := Tryz.f33) Tryz.func33 rfl ⟨by kernel_rfl, rfl, rfl, by kernel_rfl⟩ (by simp) (Weak.refl _ _) ?_
  rw [g_spec_l13Store] at h
  obtain ⟨y_2, hy_2, h⟩ := bS h
  try simp only [↓DN, UP, r1, r2, r3, r4, r5, r6, r7, reduceCtorEq, Tryz.f33]
  refine callE [0] 9 rfl rfl rfl rfl (c_spec_l01Below hy_2) rfl ?_
  obtain ⟨y_3, hy_3, h⟩ := bS h
  try simp only [↓DN, UP, r1, r2, r3, r4, r5, r6, r7, reduceCtorEq, Tryz.f33]
  refine cG [] (c_spec_NewStore hy_3) (hK := fun rd b => ?_)
  try simp only [↓DN, UP, r1, r2, r3, r4, r5, r6, r7, reduceCtorEq, Tryz.f33]
  obtain ⟨y_6, hy_7, h⟩ := bS h
  refine seqK TryzT_eq (fun p : GL01Cur × (List Int) => ⟨[(2, .pv (.one (.ptr 1 0))), (4, .pv (.one (.ptr 2 0)))], [.live ⟨1, 3, [.imm 1 p.1.b.length (p.1.b.flatMap (eI .u8)), .int .i64 p.1.i, .int .i64 p.1.h]⟩, .live ⟨1, 1, [.emp]⟩, .live ⟨1, 1, [.arr 3 0 p.2.length]⟩, .live ⟨1, p.2.length, p.2.flatMap (eI .u32)⟩]⟩) (fun v => y_6 = v) (by rfl) ?_ ?_
  · try simp only [↓DN, UP, r1, r2, r3, r4, r5, r6, r7, reduceCtorEq, Tryz.f33]
    obtain ⟨y_13, hy_14, hy_7⟩ := bS hy_7
    refine loopK TryzT_eq (fun p : GL01Cur × GStore × Int => ⟨[(0, .pv (.one (.ptr 0 0))), (2, .pv (.one (.ptr 1 0))), (3, .pv (.one (.int .i64 (IntKind.wrap .i64 (1 + y_2.1))))), (4, .pv (.one (.ptr 2 0))), (5, .pv (.one (.int .i64 p.2.2)))], [.live ⟨1, 3, [.imm 1 p.1.b.length (p.1.b.flatMap (eI .u8)), .int .i64 p.1.i, .int .i64 p.1.h]⟩, .live ⟨1, 1, [.emp]⟩, .live ⟨1, 1, [.arr 3 0 p.2.1.Cells.length]⟩, .live ⟨1, p.2.1.Cells.length, p.2.1.Cells.flatMap (eI .u32)⟩]⟩) (fun k p => g_spec_l13Store_l0 y_2 k p.1 p.2.1 p.2.2 = some y_13) (by kernel_rfl) bigK (y_2.2, y_3, 0) (wn [0, 2, 3, 4, 5] [0, 1, 3, 2]) hy_14 (fun _ h => nomatch (show none = some _ from h)) ?_
    rintro k_15 ⟨c_8, s_9, b_10⟩ hk_16
    rw [g_spec_l13Store_l0] at hk_16
    try dsimp only at hk_16
    try simp only [↓DN, UP, r1, r2, r3, r4, r5, r6, r7, reduceCtorEq, Tryz.f33]
    refine seqN TryzT_eq rfl ?_
    try simp only [↓DN, UP, r1, r2, r3, r4, r5, r6, r7, reduceCtorEq, Tryz.f33]
    refine stIf hk_16 (fun hb_17 hk_16 => ?_) (fun hb_17 hk_16 => ?_)
    · try simp only [↓DN, UP, r1, r2, r3, r4, r5, r6, r7, reduceCtorEq, Tryz.f33]
      obtain ⟨y_20, hy_21, hk_16⟩ := bS hk_16
      refine seqK TryzT_eq (fun p : GL01Cur × (List Int) => ⟨[(0, .pv (.one (.ptr 0 0))), (2, .pv (.one (.ptr 1 0))), (3, .pv (.one (.int .i64 (IntKind.wrap .i64 (1 + y_2.1))))), (4, .pv (.one (.ptr 2 0))), (5, .pv (.one (.int .i64 b_10)))], [.live ⟨1, 3, [.imm 1 p.1.b.length (p.1.b.flatMap (eI .u8)), .int .i64 p.1.i, .int .i64 p.1.h]⟩, .live ⟨1, 1, [.emp]⟩, .live ⟨1, 1, [.arr 3 0 p.2.length]⟩, .live ⟨1, p.2.length, p.2.flatMap (eI .u32)⟩]⟩) (fun v => y_20 = v) (by rfl) ?_ ?_
      · obtain ⟨y_22, hy_22, hy_21⟩ := bS hy_21
        try simp only [↓DN, UP, r1, r2, r3, r4, r5, r6, r7, reduceCtorEq, Tryz.f33]
        refine callE [0] 9 rfl rfl rfl rfl (c_spec_l13List hy_22) rfl ?_
        obtain ⟨y_23, hy_23, hy_21⟩ := bS hy_21
        try simp only [↓DN, UP, r1, r2, r3, r4, r5, r6, r7, reduceCtorEq, Tryz.f33]
        refine callE [] (rd1 := [3, 4]) (rd2 := []) 9 rfl (by simp only [WL, r1, r2, r3, r4, r5, r6, r7, reduceCtorEq]) (by simp only [WL, r1, r2, r3, r4, r5, r6, r7, reduceCtorEq]) rfl (c_spec_PutItems hy_23) (by simp only [WL, r1, r2, r3, r4, r5, r6, r7, reduceCtorEq]) ?_
        try simp only [↓DN, UP, r1, r2, r3, r4, r5, r6, r7, reduceCtorEq, Tryz.f33]
        refine ⟨rfl, ?_⟩
        try simp only [↓DN, UP, r1, r2, r3, r4, r5, r6, r7, reduceCtorEq, Tryz.f33]
        refine stIf hy_21 (fun hb_24 hy_21 => ?_) (fun hb_24 hy_21 => ?_)
        · try simp only [↓DN, UP, r1, r2, r3, r4, r5, r6, r7, reduceCtorEq, Tryz.f33]
          obtain rfl := Option.some.inj hy_21
          exact cutT_mk (y_22.2, y_23.1.Cells) rfl (wn [0, 2, 3, 4, 5] [0, 1, 2, 5])
        · try simp only [↓DN, UP, r1, r2, r3, r4, r5, r6, r7, reduceCtorEq, Tryz.f33]
          obtain rfl := Option.some.inj hy_21
          exact cutT_mk (y_22.2, s_9.Cells) rfl (wn [0, 2, 3, 4, 5] [0, 1, 2, 3])
      · rintro ⟨p_18, s_19⟩ hp
        replace hp := hp.symm; subst hp
        try dsimp only at hk_16
        try simp only [↓DN, UP, r1, r2, r3, r4, r5, r6, r7, reduceCtorEq, Tryz.f33]
        exact ⟨(p_18, (⟨s_19⟩ : GStore), IntKind.wrap .i64 (b_10 + 1)), hk_16, (wn [0, 2, 3, 4, 5] [0, 1, 2, 3])⟩
    · obtain rfl := Option.some.inj hk_16
      try dsimp only at hy_7
      try simp only [↓DN, UP, r1, r2, r3, r4, r5, r6, r7, reduceCtorEq, Tryz.f33]
      obtain rfl := Option.some.inj hy_7
      exact cutT_mk (c_8, s_9.Cells) rfl (wn [2, 4] [0, 1, 2, 3])
  · rintro ⟨p_4, s_5⟩ hp
    replace hp := hp.symm; subst hp
    try dsimp only at h
    try simp only [↓DN, UP, r1, r2, r3, r4, r5, r6, r7, reduceCtorEq, Tryz.f33]
    obtain rfl := Option.some.inj h
    refine endT_of ?_ ⟨rfl, rfl⟩
    exact (wn [0] [0, 3])
theorem c_spec_l17Store {c_1 : GL01Cur} {r : GStore × GL01Cur} (h : g_spec_l17Store c_1 = some r) : Ans Tryz.prog 13 [.one (.ptr 0 0)] [.live ⟨1, 3, [.imm 1 c_1.b.length (c_1.b.flatMap (eI .u8)), .int .i64 c_1.i, .int .i64 c_1.h]⟩] fun v h1 => v = .pv (.agg [.arr 1 0 r.1.Cells.length]) ∧ h1 = [.live ⟨1, 3, [.imm 1 r.2.b.length (r.2.b.flatMap (eI .u8)), .int .i64 r.2.i, .int .i64 r.2.h]⟩, .live ⟨1, r.1.Cells.length, r.1.Cells.flatMap (eI .u32)⟩] := by
  refine ansK (P := fun _ => Tryz.prog) TryzT_eq (fn := Tryz.f13) Tryz.func13 rfl ⟨by kernel_rfl, rfl, rfl, by kernel_rfl⟩ (by simp) (Weak.refl _ _) ?_
  rw [g_spec_l17Store] at h
  try simp only [↓DN, UP, r1, r2, r3, r4, r5, r6, r7, reduceCtorEq, Tryz.f13]
  refine seqN TryzT_eq rfl ?_
  obtain ⟨y_2, hy_2, h⟩ := bS h
  try simp only [↓DN, UP, r1, r2, r3, r4, r5, r6, r7, reduceCtorEq, Tryz.f13]
  refine callE [0] 9 rfl rfl rfl rfl (c_spec_l01Once hy_2) rfl ?_
  try simp only [↓DN, UP, r1, r2, r3, r4, r5, r6, r7, reduceCtorEq, Tryz.f13]
  refine stIf h (fun hb_3 h => ?_) (fun hb_3 h => ?_)
  · obtain ⟨y_4, hy_4, h⟩ := bS h
    try simp only [↓DN, UP, r1, r2, r3, r4, r5, r6, r7, reduceCtorEq, Tryz.f13]
    refine callE [0] 9 rfl rfl rfl rfl (c_spec_l05Any hy_4) rfl ?_
    try simp only [↓DN, UP, r1, r2, r3, r4, r5, r6, r7, reduceCtorEq, Tryz.f13]
    obtain rfl := Option.some.inj h
    refine endT_of ?_ ⟨rfl, rfl⟩
    exact (wn [0] [0, 2])
  · obtain ⟨y_5, hy_5, h⟩ := bS h
    try simp only [↓DN, UP, r1, r2, r3, r4, r5, r6, r7, reduceCtorEq, Tryz.f13]
    refine callE [0] 9 rfl rfl rfl rfl (c_spec_l13Store hy_5) rfl ?_
    try simp only [↓DN, UP, r1, r2, r3, r4, r5, r6, r7, reduceCtorEq, Tryz.f13]
    obtain rfl := Option.some.inj h
    refine endT_of ?_ ⟨rfl, rfl⟩
    exact (wn [0] [0, 2])
theorem c_spec_l17Name {c_1 : GL01Cur} {r : Bs × GL01Cur} (h : g_spec_l17Name c_1 = some r) : Ans Tryz.prog 14 [.one (.ptr 0 0)] [.live ⟨1, 3, [.imm 1 c_1.b.length (c_1.b.flatMap (eI .u8)), .int .i64 c_1.i, .int .i64 c_1.h]⟩] fun v h1 => v = .pv (.one (.str r.1)) ∧ h1 = [.live ⟨1, 3, [.imm 1 r.2.b.length (r.2.b.flatMap (eI .u8)), .int .i64 r.2.i, .int .i64 r.2.h]⟩] := by
  refine ansK (P := fun _ => Tryz.prog) TryzT_eq (fn := Tryz.f14) Tryz.func14 rfl ⟨by kernel_rfl, rfl, rfl, by kernel_rfl⟩ (by simp) (Weak.refl _ _) ?_
  rw [g_spec_l17Name] at h
  obtain ⟨y_2, hy_2, h⟩ := bS h
  have f1 := (show bldN 10 = 10 from rfl)
  have f2 := (show bldC [.str [103, 111], .str [116, 101, 110], .str [120], .str [114, 117, 110], .str [100, 117, 112], .str [46], .str [108, 111, 97, 100], .str [110, 105, 120], .str [115, 113, 117, 97, 114, 101, 115], .str []] = [[103, 111], [116, 101, 110], [120], [114, 117, 110], [100, 117, 112], [46], [108, 111, 97, 100], [110, 105, 120], [115, 113, 117, 97, 114, 101, 115], []].flatMap eS from rfl)
  try simp only [↓DN, UP, r1, r2, r3, r4, r5, r6, r7, reduceCtorEq, Tryz.f14, f1, f2]
  refine callGz [1] [0, 1] [0] 9 rfl rfl (by simp only [WL, MZ, r1, r2, r3, r4, r5, r6, r7, reduceCtorEq, fWin eS_ok (n := 10) (xs := [[103, 111], [116, 101, 110], [120], [114, 117, 110], [100, 117, 112], [46], [108, 111, 97, 100], [110, 105, 120], [115, 113, 117, 97, 114, 101, 115], []]) (by simp)]) (by simp only [WL, MZ, r1, r2, r3, r4, r5, r6, r7, reduceCtorEq, fWin eS_ok (n := 10) (xs := [[103, 111], [116, 101, 110], [120], [114, 117, 110], [100, 117, 112], [46], [108, 111, 97, 100], [110, 105, 120], [115, 113, 117, 97, 114, 101, 115], []]) (by simp)]) rfl rfl (c_spec_l01Pick hy_2) (by simp only [WL, r1, r2, r3, r4, r5, r6, r7, reduceCtorEq]) ?_
  intro rd
  try simp only [↓DN, UP, r1, r2, r3, r4, r5, r6, r7, reduceCtorEq, Tryz.f14, f1, f2]
  obtain rfl := Option.some.inj h
  refine endT_of ?_ ⟨rfl, rfl⟩
  exact (wn [0] [0])
theorem c_spec_DrawRename {code_1 : List Int} {r : GStore × Bs × Bs} (h : g_spec_DrawRename code_1 = some r) : Ans Tryz.prog 5 [.one (.imm 1 code_1.length (code_1.flatMap (eI .u8)))] [] fun v h1 => v = .tup [.agg [.arr 0 0 r.1.Cells.length], .one (.str r.2.1), .one (.str r.2.2)] ∧ h1 = [.live ⟨1, r.1.Cells.length, r.1.Cells.flatMap (eI .u32)⟩] := by
  refine ansK (P := fun _ => Tryz.prog) TryzT_eq (fn := Tryz.f5) Tryz.func5 rfl ⟨by kernel_rfl, rfl, rfl, by kernel_rfl⟩ (by simp) (Weak.refl _ _) ?_
  rw [g_spec_DrawRename] at h
  obtain ⟨y_2, hy_2, h⟩ := bS h
  try simp only [↓DN, UP, r1, r2, r3, r4, r5, r6, r7, reduceCtorEq, Tryz.f5]
  refine callE [] 9 rfl rfl rfl rfl (c_spec_l01New hy_2) rfl ?_
  obtain ⟨y_3, hy_3, h⟩ := bS h
  try simp only [↓DN, UP, r1, r2, r3, r4, r5, r6, r7, reduceCtorEq, Tryz.f5]
  refine callE [1] 9 rfl rfl rfl rfl (c_spec_l17Store hy_3) rfl ?_
  obtain ⟨y_4, hy_4, h⟩ := bS h
  try simp only [↓DN, UP, r1, r2, r3, r4, r5, r6, r7, reduceCtorEq, Tryz.f5]
  refine callE [1] 9 rfl rfl rfl rfl (c_spec_l17Name hy_4) rfl ?_
  obtain ⟨y_5, hy_5, h⟩ := bS h
  try simp only [↓DN, UP, r1, r2, r3, r4, r5, r6, r7, reduceCtorEq, Tryz.f5]
  refine callE [1] 9 rfl rfl rfl rfl (c_spec_l17Name hy_5) rfl ?_
  try simp only [↓DN, UP, r1, r2, r3, r4, r5, r6, r7, reduceCtorEq, Tryz.f5]
  obtain ⟨y_7, hy_8, h⟩ := bS h
  refine seqK TryzT_eq (fun p : Bs => ⟨[(2, .pv (.one (.ptr 0 0))), (6, .pv (.one (.ptr 1 0))), (7, .pv (.one (.str y_4.1))), (8, .pv (.one (.str p)))], [.live ⟨1, 1, [.emp]⟩, .live ⟨1, 1, [.arr 2 0 y_3.1.Cells.length]⟩, .live ⟨1, y_3.1.Cells.length, y_3.1.Cells.flatMap (eI .u32)⟩]⟩) (fun v => y_7 = v) (by rfl) ?_ ?_
  · obtain ⟨y_9, hy_9, hy_8⟩ := bS hy_8
    try simp only [↓DN, UP, r1, r2, r3, r4, r5, r6, r7, reduceCtorEq, Tryz.f5]
    refine callE [1] 9 rfl rfl rfl rfl (c_spec_l01Once hy_9) rfl ?_
    try simp only [↓DN, UP, r1, r2, r3, r4, r5, r6, r7, reduceCtorEq, Tryz.f5]
    refine stIf hy_8 (fun hb_10 hy_8 => ?_) (fun hb_10 hy_8 => ?_)
    · obtain ⟨y_11, hy_11, hy_8⟩ := bS hy_8
      have f1 := (show bldN 4 = 4 from rfl)
      have f2 := (show bldC [.str [110, 101, 119], .str [113, 117, 97, 114, 116, 122, 113, 117, 97, 114, 116, 122], .str [106, 106, 106, 106, 106], .str [65]] = [[110, 101, 119], [113, 117, 97, 114, 116, 122, 113, 117, 97, 114, 116, 122], [106, 106, 106, 106, 106], [65]].flatMap eS from rfl)
      try simp only [↓DN, UP, r1, r2, r3, r4, r5, r6, r7, reduceCtorEq, Tryz.f5, f1, f2]
      refine callGz [4] [1, 4] [1] 9 rfl rfl (by simp only [WL, MZ, r1, r2, r3, r4, r5, r6, r7, reduceCtorEq, fWin eS_ok (n := 4) (xs := [[110, 101, 119], [113, 117, 97, 114, 116, 122, 113, 117, 97, 114, 116, 122], [106, 106, 106, 106, 106], [65]]) (by simp)]) (by simp only [WL, MZ, r1, r2, r3, r4, r5, r6, r7, reduceCtorEq, fWin eS_ok (n := 4) (xs := [[110, 101, 119], [113, 117, 97, 114, 116, 122, 113, 117, 97, 114, 116, 122], [106, 106, 106, 106, 106], [65]]) (by simp)]) rfl rfl (c_spec_l01Pick hy_11) (by simp only [WL, r1, r2, r3, r4, r5, r6, r7, reduceCtorEq]) ?_
      intro rd
      try simp only [↓DN, UP, r1, r2, r3, r4, r5, r6, r7, reduceCtorEq, Tryz.f5, f1, f2]
      obtain rfl := Option.some.inj hy_8
      exact cutT_mk y_11.1 rfl (wn [2, 6, 7, 8] [0, 3, 2])
    · try simp only [↓DN, UP, r1, r2, r3, r4, r5, r6, r7, reduceCtorEq, Tryz.f5]
      obtain rfl := Option.some.inj hy_8
      exact cutT_mk y_5.1 rfl (wn [2, 6, 7, 8] [0, 3, 2])
  · rintro to_6 hp
    replace hp := hp.symm; subst hp
    try dsimp only at h
    try simp only [↓DN, UP, r1, r2, r3, r4, r5, r6, r7, reduceCtorEq, Tryz.f5]
    obtain rfl := Option.some.inj h
    refine endT_of ?_ ⟨rfl, rfl⟩
    exact (wn [0] [2])
theorem c_impl_StoreOk {s_1 : GStore} {r : Bool} (h : g_impl_StoreOk s_1 = some r) : Ans Tryz.prog 17 [.agg [.imm 1 s_1.Cells.length (s_1.Cells.flatMap (eI .u32))]] [] fun v h1 => v = .pv (.one (.bool r)) ∧ h1 = [] := by
  refine ansK (P := fun _ => Tryz.prog) TryzT_eq (fn := Tryz.f17) Tryz.func17 rfl ⟨by kernel_rfl, rfl, rfl, by kernel_rfl⟩ (by simp) (Weak.refl _ _) ?_
  rw [g_impl_StoreOk] at h
  try simp only [↓DN, UP, r1, r2, r3, r4, r5, r6, r7, reduceCtorEq, Tryz.f17]
  refine seqN TryzT_eq rfl ?_
  have f1 := (remI_ne (k := .i64) (a := (s_1.Cells.length : Int)) (b := 64) (by decide))
  try simp only [↓DN, UP, r1, r2, r3, r4, r5, r6, r7, reduceCtorEq, Tryz.f17, f1]
  refine stIf h (fun hb_2 h => ?_) (fun hb_2 h => ?_)
  · try simp only [↓DN, UP, r1, r2, r3, r4, r5, r6, r7, reduceCtorEq, Tryz.f17, f1, hb_2]
    obtain rfl := Option.some.inj h
    refine endT_of ?_ ⟨rfl, rfl⟩
    exact (wn [0] [])
  · try simp only [↓DN, UP, r1, r2, r3, r4, r5, r6, r7, reduceCtorEq, Tryz.f17, f1, hb_2]
    obtain rfl := Option.some.inj h
    refine endT_of ?_ ⟨rfl, rfl⟩
    exact (wn [0] [])
theorem c_impl_letters {r : Bs} (h : g_impl_letters = some r) : Ans Tryz.prog 54 [] [] fun v h1 => v = .pv (.one (.str r)) ∧ h1 = [] := by
  refine ansK (P := fun _ => Tryz.prog) TryzT_eq (fn := Tryz.f54) Tryz.func54 rfl ⟨by kernel_rfl, rfl, rfl, by kernel_rfl⟩ (by simp) (Weak.refl _ _) ?_
  rw [g_impl_letters] at h
  try simp only [↓DN, UP, r1, r2, r3, r4, r5, r6, r7, reduceCtorEq, Tryz.f54]
  obtain rfl := Option.some.inj h
  refine endT_of ?_ ⟨rfl, rfl⟩
  exact (wn [0] [])
theorem c_ibytealg_IndexByteString {a_1 : Bs} {a_2 : Int} {r : Int} (h : g_ibytealg_IndexByteString a_1 a_2 = some r) : Ans Tryz.prog 91 [.one (.str a_1), .one (.int .u8 a_2)] [] fun v h1 => v = .pv (.one (.int .i64 r)) ∧ h1 = [] := by
  exact ext_indexByte (fn := Tryz.f91) Tryz.func91 (by kernel_rfl) (by kernel_rfl) (by kernel_rfl) (by kernel_rfl) h
theorem c_istringslite_IndexByte {s_1 : Bs} {c_2 : Int} {r : Int} (h : g_istringslite_IndexByte s_1 c_2 = some r) : Ans Tryz.prog 70 [.one (.str s_1), .one (.int .u8 c_2)] [] fun v h1 => v = .pv (.one (.int .i64 r)) ∧ h1 = [] := by
  refine ansK (P := fun _ => Tryz.prog) TryzT_eq (fn := Tryz.f70) Tryz.func70 rfl ⟨by kernel_rfl, rfl, rfl, by kernel_rfl⟩ (by simp) (Weak.refl _ _) ?_
  rw [g_istringslite_IndexByte] at h
  obtain ⟨y_3, hy_3, h⟩ := bS h
  try simp only [↓DN, UP, r1, r2, r3, r4, r5, r6, r7, reduceCtorEq, Tryz.f70]
  refine cG [] (c_ibytealg_IndexByteString hy_3) (hK := fun rd b => ?_)
  try simp only [↓DN, UP, r1, r2, r3, r4, r5, r6, r7, reduceCtorEq, Tryz.f70]
  obtain rfl := Option.some.inj h
  refine endT_of ?_ ⟨rfl, rfl⟩
  exact (wn [0] [])
theorem c_strings_IndexByte {s_1 : Bs} {c_2 : Int} {r : Int} (h : g_strings_IndexByte s_1 c_2 = some r) : Ans Tryz.prog 53 [.one (.str s_1), .one (.int .u8 c_2)] [] fun v h1 => v = .pv (.one (.int .i64 r)) ∧ h1 = [] := by
  refine ansK (P := fun _ => Tryz.prog) TryzT_eq (fn := Tryz.f53) Tryz.func53 rfl ⟨by kernel_rfl, rfl, rfl, by kernel_rfl⟩ (by simp) (Weak.refl _ _) ?_
  rw [g_strings_IndexByte] at h
  obtain ⟨y_3, hy_3, h⟩ := bS h
  try simp only [↓DN, UP, r1, r2, r3, r4, r5, r6, r7, reduceCtorEq, Tryz.f53]
  refine cG [] (c_istringslite_IndexByte hy_3) (hK := fun rd b => ?_)
  try simp only [↓DN, UP, r1, r2, r3, r4, r5, r6, r7, reduceCtorEq, Tryz.f53]
  obtain rfl := Option.some.inj h
  refine endT_of ?_ ⟨rfl, rfl⟩
  exact (wn [0] [])
theorem c_impl_LetterOf {b_1 : Int} {r : Int} (h : g_impl_LetterOf b_1 = some r) : Ans Tryz.prog 35 [.one (.int .u8 b_1)] [] fun v h1 => v = .pv (.one (.int .i64 r)) ∧ h1 = [] := by
  refine ansK (P := fun _ => Tryz.prog) TryzT_eq (fn := Tryz.f35) Tryz.func35 rfl ⟨by kernel_rfl, rfl, rfl, by kernel_rfl⟩ (by simp) (Weak.refl _ _) ?_
  rw [g_impl_LetterOf] at h
  obtain ⟨y_2, hy_2, h⟩ := bS h
  try simp only [↓DN, UP, r1, r2, r3, r4, r5, r6, r7, reduceCtorEq, Tryz.f35]
  refine cG [] (c_impl_letters hy_2) (hK := fun rd b => ?_)
  obtain ⟨y_3, hy_3, h⟩ := bS h
  try simp only [↓DN, UP, r1, r2, r3, r4, r5, r6, r7, reduceCtorEq, Tryz.f35]
  refine cG [] (c_strings_IndexByte hy_3) (hK := fun rd b => ?_)
  try simp only [↓DN, UP, r1, r2, r3, r4, r5, r6, r7, reduceCtorEq, Tryz.f35]
  obtain rfl := Option.some.inj h
  refine endT_of ?_ ⟨rfl, rfl⟩
  exact (wn [0] [])
theorem c_impl_within {n_1 : Int} {low_2 : Int} {high_3 : Int} {r : Bool} (h : g_impl_within n_1 low_2 high_3 = some r) : Ans Tryz.prog 36 [.one (.int .i64 n_1), .one (.int .i64 low_2), .one (.int .i64 high_3)] [] fun v h1 => v = .pv (.one (.bool r)) ∧ h1 = [] := by
  refine ansK (P := fun _ => Tryz.prog) TryzT_eq (fn := Tryz.f36) Tryz.func36 rfl ⟨by kernel_rfl, rfl, rfl, by kernel_rfl⟩ (by simp) (Weak.refl _ _) ?_
  rw [g_impl_within] at h
  try simp only [↓DN, UP, r1, r2, r3, r4, r5, r6, r7, reduceCtorEq, Tryz.f36]
  refine seqN TryzT_eq rfl ?_
  try simp only [↓DN, UP, r1, r2, r3, r4, r5, r6, r7, reduceCtorEq, Tryz.f36]
  refine stIf h (fun hb_4 h => ?_) (fun hb_4 h => ?_)
  · try simp only [↓DN, UP, r1, r2, r3, r4, r5, r6, r7, reduceCtorEq, Tryz.f36, hb_4]
    obtain rfl := Option.some.inj h
    refine endT_of ?_ ⟨rfl, rfl⟩
    exact (wn [0] [])
  · try simp only [↓DN, UP, r1, r2, r3, r4, r5, r6, r7, reduceCtorEq, Tryz.f36, hb_4]
    obtain rfl := Option.some.inj h
    refine endT_of ?_ ⟨rfl, rfl⟩
    exact (wn [0] [])
theorem c_impl_NameOk {s_1 : Bs} {r : Bool} (h : g_impl_NameOk s_1 = some r) : Ans Tryz.prog 18 [.one (.str s_1)] [] fun v h1 => v = .pv (.one (.bool r)) ∧ h1 = [] := by
  refine ansK (P := fun _ => Tryz.prog) TryzT_eq (fn := Tryz.f18) Tryz.func18 rfl ⟨by kernel_rfl, rfl, rfl, by kernel_rfl⟩ (by simp) (Weak.refl _ _) ?_
  rw [g_impl_NameOk] at h
  try simp only [↓DN, UP, r1, r2, r3, r4, r5, r6, r7, reduceCtorEq, Tryz.f18]
  obtain ⟨y_2, hy_3, h⟩ := bS h
  refine seqK TryzT_eq (fun p : Unit => ⟨[(0, .pv (.one (.str s_1)))], []⟩) (fun v => y_2 = .inl v) (by rfl) ?_ ?_
  · try simp only [↓DN, UP, r1, r2, r3, r4, r5, r6, r7, reduceCtorEq, Tryz.f18]
    obtain ⟨y_5, hy_6, hy_3⟩ := bS hy_3
    refine loopK TryzT_eq (fun p : Int => ⟨[(0, .pv (.one (.str s_1))), (5, .pv (.one (.int .i64 (s_1.length : Int)))), (6, .pv (.one (.int .i64 p)))], []⟩) (fun k p => g_impl_NameOk_l0 s_1 k p = some y_5) (by kernel_rfl) bigK 0 (wn [0, 5, 6] []) hy_6 (fun _ h => nomatch (show none = some _ from h)) ?_
    rintro k_7 v_4 hk_8
    rw [g_impl_NameOk_l0] at hk_8
    try dsimp only at hk_8
    try simp only [↓DN, UP, r1, r2, r3, r4, r5, r6, r7, reduceCtorEq, Tryz.f18]
    refine seqN TryzT_eq rfl ?_
    try simp only [↓DN, UP, r1, r2, r3, r4, r5, r6, r7, reduceCtorEq, Tryz.f18]
    refine stIf hk_8 (fun hb_9 hk_8 => ?_) (fun hb_9 hk_8 => ?_)
    · try simp only [↓DN, UP, r1, r2, r3, r4, r5, r6, r7, reduceCtorEq, Tryz.f18]
      refine seqN TryzT_eq rfl ?_
      obtain ⟨v_10, hv_10, hk_8⟩ := bS hk_8
      obtain ⟨y_11, hy_11, hk_8⟩ := bS hk_8
      try simp only [↓DN, UP, r1, r2, r3, r4, r5, r6, r7, reduceCtorEq, Tryz.f18, hv_10]
      refine cG [] (c_impl_LetterOf hy_11) (hK := fun rd b => ?_)
      try simp only [↓DN, UP, r1, r2, r3, r4, r5, r6, r7, reduceCtorEq, Tryz.f18, hv_10]
      refine stIf hk_8 (fun hb_12 hk_8 => ?_) (fun hb_12 hk_8 => ?_)
      · obtain rfl := Option.some.inj hk_8
        try dsimp only at hy_3
        obtain rfl := Option.some.inj hy_3
        try dsimp only at h
        try simp only [↓DN, UP, r1, r2, r3, r4, r5, r6, r7, reduceCtorEq, Tryz.f18, hv_10]
        obtain rfl := Option.some.inj h
        refine endT_of ?_ ⟨rfl, rfl⟩
        exact (wn [0] [])
      · try simp only [↓DN, UP, r1, r2, r3, r4, r5, r6, r7, reduceCtorEq, Tryz.f18, hv_10]
        exact ⟨IntKind.wrap .i64 (v_4 + 1), hk_8, (wn [0, 5, 6] [])⟩
    · obtain rfl := Option.some.inj hk_8
      try dsimp only at hy_3
      try simp only [↓DN, UP, r1, r2, r3, r4, r5, r6, r7, reduceCtorEq, Tryz.f18]
      obtain rfl := Option.some.inj hy_3
      exact cutT_mk () (by trivial) (wn [0] [])
  · rintro _ hp
    replace hp := hp.symm; subst hp
    try dsimp only at h
    obtain ⟨y_13, hy_13, h⟩ := bS h
    try simp only [↓DN, UP, r1, r2, r3, r4, r5, r6, r7, reduceCtorEq, Tryz.f18]
    refine cG [] (c_impl_within hy_13) (hK := fun rd b => ?_)
    try simp only [↓DN, UP, r1, r2, r3, r4, r5, r6, r7, reduceCtorEq, Tryz.f18]
    obtain rfl := Option.some.inj h
    refine endT_of ?_ ⟨rfl, rfl⟩
    exact (wn [0] [])
theorem c_slices_Clone_uint32 {s_1 : List Int} {r : (List Int)} (h : g_slices_Clone_uint32 s_1 = some r) : Ans Tryz.prog 19 [.one (.imm 1 s_1.length (s_1.flatMap (eI .u32)))] [] fun v h1 => v = .pv (.one (.arr 0 0 r.length)) ∧ h1 = [.live ⟨1, r.length, r.flatMap (eI .u32)⟩] := by
  rw [g_slices_Clone_uint32] at h
  refine ext_clone (P := fun _ => Tryz.prog) TryzT_eq (fn := Tryz.f19) Tryz.func19 rfl rfl ⟨by kernel_rfl, by kernel_rfl, by kernel_rfl⟩ (congrArg TyI.kind TryzT_24) (clone0 h) ?_
  obtain ⟨v_2, hv_2, h⟩ := bS h
  have f1 := (show bldN 0 = 0 from rfl)
  have f2 := (show bldC [] = ([] : List Int).flatMap (eI .u32) from rfl)
  have f3 := (fApp hv_2 (n := 0) (by simp) (m := s_1.length) (by simp [bsOf]))
  have f4 := (fWin (eI_ok .u32) (n := 0) (xs := ([] : List Int)) (by simp))
  have f5 := (fCat (e := (eI .u32)) (ns := s_1.flatMap (eI .u32)) hv_2 rfl)
  try simp only [↓DN, UP, r1, r2, r3, r4, r5, r6, r7, reduceCtorEq, Tryz.f19, f1, f2, f3, f4, f5]
  obtain rfl := Option.some.inj h
  exact (wn [2] [1])
theorem c_impl_hasBlocksc1 {b_1 : Int} {a_2 : GStore} {r : Bool × GStore} (h : g_impl_hasBlocksc1 b_1 a_2 = some r) : Ans Tryz.prog 72 [.one (.int .i64 b_1), .one (.ptr 0 0)] [.live ⟨1, 1, [.imm 1 a_2.Cells.length (a_2.Cells.flatMap (eI .u32))]⟩] fun v h1 => v = .pv (.one (.bool r.1)) ∧ h1 = [.live ⟨1, 1, [.imm 1 r.2.Cells.length (r.2.Cells.flatMap (eI .u32))]⟩] := by
  refine ansK (P := fun _ => Tryz.prog) TryzT_eq (fn := Tryz.f72) Tryz.func72 rfl ⟨by kernel_rfl, rfl, rfl, by kernel_rfl⟩ (by simp) (Weak.refl _ _) ?_
  rw [g_impl_hasBlocksc1] at h
  obtain ⟨y_3, hy_3, h⟩ := bS h
  have f1 := (quoI_ne (k := .i64) (a := (a_2.Cells.length : Int)) (b := 64) (by decide))
  try simp only [↓DN, UP, r1, r2, r3, r4, r5, r6, r7, reduceCtorEq, Tryz.f72, f1]
  refine cG [] (c_impl_within hy_3) (hK := fun rd b => ?_)
  try simp only [↓DN, UP, r1, r2, r3, r4, r5, r6, r7, reduceCtorEq, Tryz.f72, f1]
  obtain rfl := Option.some.inj h
  refine endT_of ?_ ⟨rfl, rfl⟩
  exact (wn [0] [0])
theorem c_slices_IndexFunc_int_impl_hasBlocksc1 {s_1 : List Int} {c_2 : GStore} {r : Int × GStore} (h : g_slices_IndexFunc_int_impl_hasBlocksc1 s_1 c_2 = some r) : Ans Tryz.prog 92 [.one (.imm 1 s_1.length (s_1.flatMap (eI .i64))), .one (.fn 72 [.ptr 0 0])] [.live ⟨1, 1, [.imm 1 c_2.Cells.length (c_2.Cells.flatMap (eI .u32))]⟩] fun v h1 => v = .pv (.one (.int .i64 r.1)) ∧ h1 = [.live ⟨1, 1, [.imm 1 r.2.Cells.length (r.2.Cells.flatMap (eI .u32))]⟩] := by
  refine ansK (P := fun _ => Tryz.prog) TryzT_eq (fn := Tryz.f92) Tryz.func92 rfl ⟨by kernel_rfl, rfl, rfl, by kernel_rfl⟩ (by simp) (Weak.refl _ _) ?_
  rw [g_slices_IndexFunc_int_impl_hasBlocksc1] at h
  try simp only [↓DN, UP, r1, r2, r3, r4, r5, r6, r7, reduceCtorEq, Tryz.f92]
  obtain ⟨y_6, hy_7, h⟩ := bS h
  refine seqK TryzT_eq (fun p : (List Int) => ⟨[], [.live ⟨1, 1, [.imm 1 p.length (p.flatMap (eI .u32))]⟩]⟩) (fun v => y_6 = .inl v) (by rfl) ?_ ?_
  · try simp only [↓DN, UP, r1, r2, r3, r4, r5, r6, r7, reduceCtorEq, Tryz.f92]
    obtain ⟨y_13, hy_14, hy_7⟩ := bS hy_7
    refine loopK TryzT_eq (fun p : GStore × Int => ⟨[(0, .pv (.one (.imm 1 s_1.length (s_1.flatMap (eI .i64))))), (1, .pv (.one (.fn 72 [.ptr 0 0]))), (7, .pv (.one (.int .i64 (s_1.length : Int)))), (8, .pv (.one (.int .i64 p.2)))], [.live ⟨1, 1, [.imm 1 p.1.Cells.length (p.1.Cells.flatMap (eI .u32))]⟩]⟩) (fun k p => g_slices_IndexFunc_int_impl_hasBlocksc1_l0 s_1 k p.1 p.2 = some y_13) (by kernel_rfl) bigK (c_2, 0) (wn [0, 1, 7, 8] [0]) hy_14 (fun _ h => nomatch (show none = some _ from h)) ?_
    rintro k_15 ⟨v0_8, v_9⟩ hk_16
    rw [g_slices_IndexFunc_int_impl_hasBlocksc1_l0] at hk_16
    try dsimp only at hk_16
    try simp only [↓DN, UP, r1, r2, r3, r4, r5, r6, r7, reduceCtorEq, Tryz.f92]
    refine seqN TryzT_eq rfl ?_
    try simp only [↓DN, UP, r1, r2, r3, r4, r5, r6, r7, reduceCtorEq, Tryz.f92]
    refine stIf hk_16 (fun hb_17 hk_16 => ?_) (fun hb_17 hk_16 => ?_)
    · try simp only [↓DN, UP, r1, r2, r3, r4, r5, r6, r7, reduceCtorEq, Tryz.f92]
      refine seqN TryzT_eq rfl ?_
      obtain ⟨v_18, hv_18, hk_16⟩ := bS hk_16
      obtain ⟨y_19, hy_19, hk_16⟩ := bS hk_16
      have f1 := (fAt (eI_ok .i64) hv_18 (n := s_1.length) (by simp))
      try simp only [↓DN, UP, r1, r2, r3, r4, r5, r6, r7, reduceCtorEq, Tryz.f92, f1]
      refine callE [0] 9 rfl rfl rfl rfl (c_impl_hasBlocksc1 hy_19) rfl ?_
      try simp only [↓DN, UP, r1, r2, r3, r4, r5, r6, r7, reduceCtorEq, Tryz.f92, f1]
      refine stIf hk_16 (fun hb_20 hk_16 => ?_) (fun hb_20 hk_16 => ?_)
      · obtain rfl := Option.some.inj hk_16
        try dsimp only at hy_7
        obtain rfl := Option.some.inj hy_7
        try dsimp only at h
        try simp only [↓DN, UP, r1, r2, r3, r4, r5, r6, r7, reduceCtorEq, Tryz.f92, f1]
        obtain rfl := Option.some.inj h
        refine endT_of ?_ ⟨rfl, rfl⟩
        exact (wn [0] [0])
      · try simp only [↓DN, UP, r1, r2, r3, r4, r5, r6, r7, reduceCtorEq, Tryz.f92, f1]
        exact ⟨(y_19.2, IntKind.wrap .i64 (v_9 + 1)), hk_16, (wn [0, 1, 7, 8] [0])⟩
    · obtain rfl := Option.some.inj hk_16
      try dsimp only at hy_7
      try simp only [↓DN, UP, r1, r2, r3, r4, r5, r6, r7, reduceCtorEq, Tryz.f92]
      obtain rfl := Option.some.inj hy_7
      exact cutT_mk v0_8.Cells rfl (wn [] [0])
  · rintro p_3 hp
    replace hp := hp.symm; subst hp
    try dsimp only at h
    try simp only [↓DN, UP, r1, r2, r3, r4, r5, r6, r7, reduceCtorEq, Tryz.f92]
    obtain rfl := Option.some.inj h
    refine endT_of ?_ ⟨rfl, rfl⟩
    exact (wn [0] [0])
theorem c_slices_ContainsFunc_int_impl_hasBlocksc1 {s_1 : List Int} {c_2 : GStore} {r : Bool × GStore} (h : g_slices_ContainsFunc_int_impl_hasBlocksc1 s_1 c_2 = some r) : Ans Tryz.prog 71 [.one (.imm 1 s_1.length (s_1.flatMap (eI .i64))), .one (.fn 72 [.ptr 0 0])] [.live ⟨1, 1, [.imm 1 c_2.Cells.length (c_2.Cells.flatMap (eI .u32))]⟩] fun v h1 => v = .pv (.one (.bool r.1)) ∧ h1 = [.live ⟨1, 1, [.imm 1 r.2.Cells.length (r.2.Cells.flatMap (eI .u32))]⟩] := by
  refine ansK (P := fun _ => Tryz.prog) TryzT_eq (fn := Tryz.f71) Tryz.func71 rfl ⟨by kernel_rfl, rfl, rfl, by kernel_rfl⟩ (by simp) (Weak.refl _ _) ?_
  rw [g_slices_ContainsFunc_int_impl_hasBlocksc1] at h
  obtain ⟨y_3, hy_3, h⟩ := bS h
  try simp only [↓DN, UP, r1, r2, r3, r4, r5, r6, r7, reduceCtorEq, Tryz.f71]
  refine callE [0] 9 rfl rfl rfl rfl (c_slices_IndexFunc_int_impl_hasBlocksc1 hy_3) rfl ?_
  try simp only [↓DN, UP, r1, r2, r3, r4, r5, r6, r7, reduceCtorEq, Tryz.f71]
  obtain rfl := Option.some.inj h
  refine endT_of ?_ ⟨rfl, rfl⟩
  exact (wn [0] [0])
theorem c_impl_hasBlocks {s_1 : GStore} {list_2 : List Int} {r : Bool} (h : g_impl_hasBlocks s_1 list_2 = some r) : Ans Tryz.prog 55 [.agg [.imm 1 s_1.Cells.length (s_1.Cells.flatMap (eI .u32))], .one (.imm 1 list_2.length (list_2.flatMap (eI .i64)))] [] fun v h1 => v = .pv (.one (.bool r)) ∧ h1 = [] := by
  refine ansK (P := fun _ => Tryz.prog) TryzT_eq (fn := Tryz.f55) Tryz.func55 rfl ⟨by kernel_rfl, rfl, rfl, by kernel_rfl⟩ (by simp) (Weak.refl _ _) ?_
  rw [g_impl_hasBlocks] at h
  try simp only [↓DN, UP, r1, r2, r3, r4, r5, r6, r7, reduceCtorEq, Tryz.f55]
  refine seqN TryzT_eq rfl ?_
  obtain ⟨y_3, hy_3, h⟩ := bS h
  try simp only [↓DN, UP, r1, r2, r3, r4, r5, r6, r7, reduceCtorEq, Tryz.f55]
  refine cG [] (c_impl_StoreOk hy_3) (hK := fun rd b => ?_)
  try simp only [↓DN, UP, r1, r2, r3, r4, r5, r6, r7, reduceCtorEq, Tryz.f55]
  refine stIf h (fun hb_4 h => ?_) (fun hb_4 h => ?_)
  · obtain ⟨y_5, hy_5, h⟩ := bS h
    try simp only [↓DN, UP, r1, r2, r3, r4, r5, r6, r7, reduceCtorEq, Tryz.f55, hb_4]
    refine callE [0] 9 rfl rfl rfl rfl (c_slices_ContainsFunc_int_impl_hasBlocksc1 hy_5) rfl ?_
    try simp only [↓DN, UP, r1, r2, r3, r4, r5, r6, r7, reduceCtorEq, Tryz.f55, hb_4]
    obtain rfl := Option.some.inj h
    refine endT_of ?_ ⟨rfl, rfl⟩
    exact (wn [0] [])
  · try simp only [↓DN, UP, r1, r2, r3, r4, r5, r6, r7, reduceCtorEq, Tryz.f55, hb_4]
    obtain rfl := Option.some.inj h
    refine endT_of ?_ ⟨rfl, rfl⟩
    exact (wn [0] [])
theorem c_impl_BlockOf {s_1 : GStore} {b_2 : Int} {r : (List Int) × Bool} (h : g_impl_BlockOf s_1 b_2 = some r) : Ans Tryz.prog 37 [.agg [.imm 1 s_1.Cells.length (s_1.Cells.flatMap (eI .u32))], .one (.int .i64 b_2)] [] fun v h1 => v = .tup [.one (.arr 0 0 r.1.length), .one (.bool r.2)] ∧ h1 = [.live ⟨1, r.1.length, r.1.flatMap (eI .u32)⟩] := by
  refine ansK (P := fun _ => Tryz.prog) TryzT_eq (fn := Tryz.f37) Tryz.func37 rfl ⟨by kernel_rfl, rfl, rfl, by kernel_rfl⟩ (by simp) (Weak.refl _ _) ?_
  rw [g_impl_BlockOf] at h
  try simp only [↓DN, UP, r1, r2, r3, r4, r5, r6, r7, reduceCtorEq, Tryz.f37]
  refine seqN TryzT_eq rfl ?_
  obtain ⟨y_3, hy_3, h⟩ := bS h
  have f1 := (show bldN 1 = 1 from rfl)
  have f2 := (show bldC [.int .i64 b_2] = [b_2].flatMap (eI .i64) from rfl)
  try simp only [↓DN, UP, r1, r2, r3, r4, r5, r6, r7, reduceCtorEq, Tryz.f37, f1, f2]
  refine callG [] 9 rfl (by simp only [WL, r1, r2, r3, r4, r5, r6, r7, reduceCtorEq, fWin (eI_ok .i64) (n := 1) (xs := [b_2]) (by simp)]) (by simp only [WL, r1, r2, r3, r4, r5, r6, r7, reduceCtorEq, fWin (eI_ok .i64) (n := 1) (xs := [b_2]) (by simp)]) rfl (c_impl_hasBlocks hy_3) (by simp only [WL, r1, r2, r3, r4, r5, r6, r7, reduceCtorEq]) ?_
  intro rd b
  try simp only [↓DN, UP, r1, r2, r3, r4, r5, r6, r7, reduceCtorEq, Tryz.f37, f1, f2]
  refine stIf h (fun hb_4 h => ?_) (fun hb_4 h => ?_)
  · try simp only [↓DN, UP, r1, r2, r3, r4, r5, r6, r7, reduceCtorEq, Tryz.f37, f1, f2]
    obtain rfl := Option.some.inj h
    refine endT_of ?_ ⟨rfl, rfl⟩
    exact ((weak_norm (ks := [0]) (π := []) (fuel := 9) (s' := ⟨[(0, .tup [.one (.emp), .one (.bool false)])], []⟩) (by simp only [WL, r1, r2, r3, r4, r5, r6, r7, reduceCtorEq])).trans (weak_le (by simp only [LEb, r1, r2, r3, r4, r5, r6, r7, reduceCtorEq, TL]) (by simp only [LEb, r1, r2, r3, r4, r5, r6, r7, reduceCtorEq, TL])))
  · obtain ⟨v_5, hv_5, h⟩ := bS h
    obtain ⟨y_6, hy_6, h⟩ := bS h
    have f3 := (fSubC (eI_ok .u32) hv_5 (n := s_1.Cells.length) (by simp))
    try simp only [↓DN, UP, r1, r2, r3, r4, r5, r6, r7, reduceCtorEq, Tryz.f37, f1, f2, f3]
    refine cG [] (c_slices_Clone_uint32 hy_6) (hK := fun rd b => ?_)
    try simp only [↓DN, UP, r1, r2, r3, r4, r5, r6, r7, reduceCtorEq, Tryz.f37, f1, f2, f3]
    obtain rfl := Option.some.inj h
    refine endT_of ?_ ⟨rfl, rfl⟩
    exact (wn [0] [2])
theorem c_impl_WidthOf {k_1 : Int} {r : Int} (h : g_impl_WidthOf k_1 = some r) : Ans Tryz.prog 99 [.one (.int .i64 k_1)] [] fun v h1 => v = .pv (.one (.int .i64 r)) ∧ h1 = [] := by
  refine ansK (P := fun _ => Tryz.prog) TryzT_eq (fn := Tryz.f99) Tryz.func99 rfl ⟨by kernel_rfl, rfl, rfl, by kernel_rfl⟩ (by simp) (Weak.refl _ _) ?_
  rw [g_impl_WidthOf] at h
  try simp only [↓DN, UP, r1, r2, r3, r4, r5, r6, r7, reduceCtorEq, Tryz.f99]
  refine seqN TryzT_eq rfl ?_
  obtain ⟨y_2, hy_2, h⟩ := bS h
  try simp only [↓DN, UP, r1, r2, r3, r4, r5, r6, r7, reduceCtorEq, Tryz.f99]
  refine cG [] (c_impl_within hy_2) (hK := fun rd b => ?_)
  try simp only [↓DN, UP, r1, r2, r3, r4, r5, r6, r7, reduceCtorEq, Tryz.f99]
  refine stIf h (fun hb_3 h => ?_) (fun hb_3 h => ?_)
  · try simp only [↓DN, UP, r1, r2, r3, r4, r5, r6, r7, reduceCtorEq, Tryz.f99]
    obtain rfl := Option.some.inj h
    refine endT_of ?_ ⟨rfl, rfl⟩
    exact (wn [0] [])
  · obtain ⟨y_4, hy_4, h⟩ := bS h
    try simp only [↓DN, UP, r1, r2, r3, r4, r5, r6, r7, reduceCtorEq, Tryz.f99]
    refine cG [] (c_impl_within hy_4) (hK := fun rd b => ?_)
    try simp only [↓DN, UP, r1, r2, r3, r4, r5, r6, r7, reduceCtorEq, Tryz.f99]
    refine stIf h (fun hb_5 h => ?_) (fun hb_5 h => ?_)
    · try simp only [↓DN, UP, r1, r2, r3, r4, r5, r6, r7, reduceCtorEq, Tryz.f99]
      obtain rfl := Option.some.inj h
      refine endT_of ?_ ⟨rfl, rfl⟩
      exact (wn [0] [])
    · obtain ⟨y_6, hy_6, h⟩ := bS h
      try simp only [↓DN, UP, r1, r2, r3, r4, r5, r6, r7, reduceCtorEq, Tryz.f99]
      refine cG [] (c_impl_within hy_6) (hK := fun rd b => ?_)
      try simp only [↓DN, UP, r1, r2, r3, r4, r5, r6, r7, reduceCtorEq, Tryz.f99]
      refine stIf h (fun hb_7 h => ?_) (fun hb_7 h => ?_)
      · try simp only [↓DN, UP, r1, r2, r3, r4, r5, r6, r7, reduceCtorEq, Tryz.f99]
        obtain rfl := Option.some.inj h
        refine endT_of ?_ ⟨rfl, rfl⟩
        exact (wn [0] [])
      · try simp only [↓DN, UP, r1, r2, r3, r4, r5, r6, r7, reduceCtorEq, Tryz.f99]
        obtain rfl := Option.some.inj h
        refine endT_of ?_ ⟨rfl, rfl⟩
        exact (wn [0] [])
theorem c_impl_BitsOf {k_1 : Int} {r : Int} (h : g_impl_BitsOf k_1 = some r) : Ans Tryz.prog 100 [.one (.int .i64 k_1)] [] fun v h1 => v = .pv (.one (.int .u32 r)) ∧ h1 = [] := by
  refine ansK (P := fun _ => Tryz.prog) TryzT_eq (fn := Tryz.f100) Tryz.func100 rfl ⟨by kernel_rfl, rfl, rfl, by kernel_rfl⟩ (by simp) (Weak.refl _ _) ?_
  rw [g_impl_BitsOf] at h
  try simp only [↓DN, UP, r1, r2, r3, r4, r5, r6, r7, reduceCtorEq, Tryz.f100]
  refine seqN TryzT_eq rfl ?_
  obtain ⟨y_2, hy_2, h⟩ := bS h
  try simp only [↓DN, UP, r1, r2, r3, r4, r5, r6, r7, reduceCtorEq, Tryz.f100]
  refine cG [] (c_impl_WidthOf hy_2) (hK := fun rd b => ?_)
  try simp only [↓DN, UP, r1, r2, r3, r4, r5, r6, r7, reduceCtorEq, Tryz.f100]
  refine stIf h (fun hb_3 h => ?_) (fun hb_3 h => ?_)
  · try simp only [↓DN, UP, r1, r2, r3, r4, r5, r6, r7, reduceCtorEq, Tryz.f100]
    obtain rfl := Option.some.inj h
    refine endT_of ?_ ⟨rfl, rfl⟩
    exact (wn [0] [])
  · try simp only [↓DN, UP, r1, r2, r3, r4, r5, r6, r7, reduceCtorEq, Tryz.f100]
    refine stIf h (fun hb_4 h => ?_) (fun hb_4 h => ?_)
    · try simp only [↓DN, UP, r1, r2, r3, r4, r5, r6, r7, reduceCtorEq, Tryz.f100]
      obtain rfl := Option.some.inj h
      refine endT_of ?_ ⟨rfl, rfl⟩
      exact (wn [0] [])
    · try simp only [↓DN, UP, r1, r2, r3, r4, r5, r6, r7, reduceCtorEq, Tryz.f100]
      refine stIf h (fun hb_5 h => ?_) (fun hb_5 h => ?_)
      · try simp only [↓DN, UP, r1, r2, r3, r4, r5, r6, r7, reduceCtorEq, Tryz.f100]
        obtain rfl := Option.some.inj h
        refine endT_of ?_ ⟨rfl, rfl⟩
        exact (wn [0] [])
      · try simp only [↓DN, UP, r1, r2, r3, r4, r5, r6, r7, reduceCtorEq, Tryz.f100]
        obtain rfl := Option.some.inj h
        refine endT_of ?_ ⟨rfl, rfl⟩
        exact (wn [0] [])
theorem c_impl_Decode {bits_1 : Int} {n_2 : Int} {r : Int × Int} (h : g_impl_Decode bits_1 n_2 = some r) : Ans Tryz.prog 93 [.one (.int .u32 bits_1), .one (.int .i64 n_2)] [] fun v h1 => v = .tup [.one (.int .i64 r.1), .one (.int .i64 r.2)] ∧ h1 = [] := by
  refine ansK (P := fun _ => Tryz.prog) TryzT_eq (fn := Tryz.f93) Tryz.func93 rfl ⟨by kernel_rfl, rfl, rfl, by kernel_rfl⟩ (by simp) (Weak.refl _ _) ?_
  rw [g_impl_Decode] at h
  try simp only [↓DN, UP, r1, r2, r3, r4, r5, r6, r7, reduceCtorEq, Tryz.f93]
  refine seqN TryzT_eq rfl ?_
  obtain ⟨y_3, hy_3, h⟩ := bS h
  try simp only [↓DN, UP, r1, r2, r3, r4, r5, r6, r7, reduceCtorEq, Tryz.f93]
  refine cG [] (c_impl_within hy_3) (hK := fun rd b => ?_)
  try simp only [↓DN, UP, r1, r2, r3, r4, r5, r6, r7, reduceCtorEq, Tryz.f93]
  refine stIf h (fun hb_4 h => ?_) (fun hb_4 h => ?_)
  · try simp only [↓DN, UP, r1, r2, r3, r4, r5, r6, r7, reduceCtorEq, Tryz.f93]
    obtain rfl := Option.some.inj h
    refine endT_of ?_ ⟨rfl, rfl⟩
    exact (wn [0] [])
  · try simp only [↓DN, UP, r1, r2, r3, r4, r5, r6, r7, reduceCtorEq, Tryz.f93]
    obtain ⟨y_7, hy_8, h⟩ := bS h
    refine seqK TryzT_eq (fun p : Unit => ⟨[], []⟩) (fun v => y_7 = .inl v) (by rfl) ?_ ?_
    · try simp only [↓DN, UP, r1, r2, r3, r4, r5, r6, r7, reduceCtorEq, Tryz.f93]
      obtain ⟨y_12, hy_13, hy_8⟩ := bS hy_8
      refine loopK TryzT_eq (fun p : Int => ⟨[(0, .pv (.one (.int .u32 bits_1))), (1, .pv (.one (.int .i64 n_2))), (11, .pv (.one (.int .i64 p)))], []⟩) (fun k p => g_impl_Decode_l0 bits_1 n_2 k p = some y_12) (by kernel_rfl) bigK 0 (wn [0, 1, 11] []) hy_13 (fun _ h => nomatch (show none = some _ from h)) ?_
      rintro k_14 v_9 hk_15
      rw [g_impl_Decode_l0] at hk_15
      try dsimp only at hk_15
      try simp only [↓DN, UP, r1, r2, r3, r4, r5, r6, r7, reduceCtorEq, Tryz.f93]
      refine seqN TryzT_eq rfl ?_
      try simp only [↓DN, UP, r1, r2, r3, r4, r5, r6, r7, reduceCtorEq, Tryz.f93]
      refine stIf hk_15 (fun hb_16 hk_15 => ?_) (fun hb_16 hk_15 => ?_)
      · try simp only [↓DN, UP, r1, r2, r3, r4, r5, r6, r7, reduceCtorEq, Tryz.f93]
        refine seqN TryzT_eq rfl ?_
        obtain ⟨y_17, hy_17, hk_15⟩ := bS hk_15
        try simp only [↓DN, UP, r1, r2, r3, r4, r5, r6, r7, reduceCtorEq, Tryz.f93]
        refine cG [] (c_impl_WidthOf hy_17) (hK := fun rd b => ?_)
        try simp only [↓DN, UP, r1, r2, r3, r4, r5, r6, r7, reduceCtorEq, Tryz.f93]
        obtain ⟨y_19, hy_20, hk_15⟩ := bS hk_15
        refine seqK TryzT_eq (fun p : Bool => ⟨[(0, .pv (.one (.int .u32 bits_1))), (1, .pv (.one (.int .i64 n_2))), (6, .pv (.one (.int .i64 v_9))), (7, .pv (.one (.int .i64 y_17))), (11, .pv (.one (.int .i64 v_9))), (32, .pv (.one (.bool p)))], []⟩) (fun v => y_19 = v) (by rfl) ?_ ?_
        · try simp only [↓DN, UP, r1, r2, r3, r4, r5, r6, r7, reduceCtorEq, Tryz.f93]
          refine stIf hy_20 (fun hb_21 hy_20 => ?_) (fun hb_21 hy_20 => ?_)
          · obtain ⟨v_22, hv_22, hy_20⟩ := bS hy_20
            obtain ⟨v_23, hv_23, hy_20⟩ := bS hy_20
            obtain ⟨y_24, hy_24, hy_20⟩ := bS hy_20
            try simp only [↓DN, UP, r1, r2, r3, r4, r5, r6, r7, reduceCtorEq, Tryz.f93, hb_21, hv_22, hv_23]
            refine callE [] (rd1 := []) (rd2 := []) 9 rfl (by simp only [WL, r1, r2, r3, r4, r5, r6, r7, reduceCtorEq]) (by simp only [WL, r1, r2, r3, r4, r5, r6, r7, reduceCtorEq]) rfl (c_impl_BitsOf hy_24) (by simp only [WL, r1, r2, r3, r4, r5, r6, r7, reduceCtorEq]) ?_
            try simp only [↓DN, UP, r1, r2, r3, r4, r5, r6, r7, reduceCtorEq, Tryz.f93, hb_21, hv_22, hv_23]
            refine ⟨rfl, ?_⟩
            try simp only [↓DN, UP, r1, r2, r3, r4, r5, r6, r7, reduceCtorEq, Tryz.f93, hb_21, hv_22, hv_23]
            obtain rfl := Option.some.inj hy_20
            exact cutT_mk ((andI .u32 v_22 (IntKind.wrap .u32 (v_23 - 1))) == y_24) rfl (wn [0, 1, 6, 7, 11, 32] [])
          · try simp only [↓DN, UP, r1, r2, r3, r4, r5, r6, r7, reduceCtorEq, Tryz.f93, hb_21]
            refine ⟨rfl, ?_⟩
            try simp only [↓DN, UP, r1, r2, r3, r4, r5, r6, r7, reduceCtorEq, Tryz.f93, hb_21]
            obtain rfl := Option.some.inj hy_20
            exact cutT_mk false rfl (wn [0, 1, 6, 7, 11, 32] [])
        · rintro v_18 hp
          replace hp := hp.symm; subst hp
          try dsimp only at hk_15
          try simp only [↓DN, UP, r1, r2, r3, r4, r5, r6, r7, reduceCtorEq, Tryz.f93]
          refine stIf hk_15 (fun hb_25 hk_15 => ?_) (fun hb_25 hk_15 => ?_)
          · obtain rfl := Option.some.inj hk_15
            try dsimp only at hy_8
            obtain rfl := Option.some.inj hy_8
            try dsimp only at h
            try simp only [↓DN, UP, r1, r2, r3, r4, r5, r6, r7, reduceCtorEq, Tryz.f93]
            obtain rfl := Option.some.inj h
            refine endT_of ?_ ⟨rfl, rfl⟩
            exact (wn [0] [])
          · try simp only [↓DN, UP, r1, r2, r3, r4, r5, r6, r7, reduceCtorEq, Tryz.f93]
            exact ⟨IntKind.wrap .i64 (v_9 + 1), hk_15, (wn [0, 1, 11] [])⟩
      · obtain rfl := Option.some.inj hk_15
        try dsimp only at hy_8
        try simp only [↓DN, UP, r1, r2, r3, r4, r5, r6, r7, reduceCtorEq, Tryz.f93]
        obtain rfl := Option.some.inj hy_8
        exact cutT_mk () (by trivial) (wn [] [])
    · rintro _ hp
      replace hp := hp.symm; subst hp
      try dsimp only at h
      try simp only [↓DN, UP, r1, r2, r3, r4, r5, r6, r7, reduceCtorEq, Tryz.f93]
      obtain rfl := Option.some.inj h
      refine endT_of ?_ ⟨rfl, rfl⟩
      exact (wn [0] [])
theorem c_impl_LetterAt {k_1 : Int} {r : Int} (h : g_impl_LetterAt k_1 = some r) : Ans Tryz.prog 94 [.one (.int .i64 k_1)] [] fun v h1 => v = .pv (.one (.int .u8 r)) ∧ h1 = [] := by
  refine ansK (P := fun _ => Tryz.prog) TryzT_eq (fn := Tryz.f94) Tryz.func94 rfl ⟨by kernel_rfl, rfl, rfl, by kernel_rfl⟩ (by simp) (Weak.refl _ _) ?_
  rw [g_impl_LetterAt] at h
  try simp only [↓DN, UP, r1, r2, r3, r4, r5, r6, r7, reduceCtorEq, Tryz.f94]
  refine seqN TryzT_eq rfl ?_
  obtain ⟨y_2, hy_2, h⟩ := bS h
  try simp only [↓DN, UP, r1, r2, r3, r4, r5, r6, r7, reduceCtorEq, Tryz.f94]
  refine cG [] (c_impl_within hy_2) (hK := fun rd b => ?_)
  try simp only [↓DN, UP, r1, r2, r3, r4, r5, r6, r7, reduceCtorEq, Tryz.f94]
  refine stIf h (fun hb_3 h => ?_) (fun hb_3 h => ?_)
  · try simp only [↓DN, UP, r1, r2, r3, r4, r5, r6, r7, reduceCtorEq, Tryz.f94]
    obtain rfl := Option.some.inj h
    refine endT_of ?_ ⟨rfl, rfl⟩
    exact (wn [0] [])
  · obtain ⟨y_4, hy_4, h⟩ := bS h
    try simp only [↓DN, UP, r1, r2, r3, r4, r5, r6, r7, reduceCtorEq, Tryz.f94]
    refine cG [] (c_impl_letters hy_4) (hK := fun rd b => ?_)
    obtain ⟨v_5, hv_5, h⟩ := bS h
    try simp only [↓DN, UP, r1, r2, r3, r4, r5, r6, r7, reduceCtorEq, Tryz.f94, hv_5]
    obtain rfl := Option.some.inj h
    refine endT_of ?_ ⟨rfl, rfl⟩
    exact (wn [0] [])
theorem c_impl_UnpackOne {f_1 : Int} {r : Bs} (h : g_impl_UnpackOne f_1 = some r) : Ans Tryz.prog 77 [.one (.int .u32 f_1)] [] fun v h1 => v = .pv (.one (.str r)) ∧ h1 = [] := by
  refine ansK (P := fun _ => Tryz.prog) TryzT_eq (fn := Tryz.f77) Tryz.func77 rfl ⟨by kernel_rfl, rfl, rfl, by kernel_rfl⟩ (by simp) (Weak.refl _ _) ?_
  rw [g_impl_UnpackOne] at h
  try simp only [↓DN, UP, r1, r2, r3, r4, r5, r6, r7, reduceCtorEq, Tryz.f77]
  refine seqN TryzT_eq rfl ?_
  try simp only [↓DN, UP, r1, r2, r3, r4, r5, r6, r7, reduceCtorEq, Tryz.f77]
  refine stIf h (fun hb_2 h => ?_) (fun hb_2 h => ?_)
  · try simp only [↓DN, UP, r1, r2, r3, r4, r5, r6, r7, reduceCtorEq, Tryz.f77]
    obtain rfl := Option.some.inj h
    refine endT_of ?_ ⟨rfl, rfl⟩
    exact (wn [0] [])
  · have f1 := (show bldN 0 = 0 from rfl)
    have f2 := (show bldC [] = ([] : List Int).flatMap (eI .u8) from rfl)
    try simp only [↓DN, UP, r1, r2, r3, r4, r5, r6, r7, reduceCtorEq, Tryz.f77, f1, f2]
    obtain ⟨y_6, hy_7, h⟩ := bS h
    refine seqK TryzT_eq (fun p : (List Int) => ⟨[(3, .pv (.one (.arr 0 0 p.length)))], [.live ⟨1, p.length, p.flatMap (eI .u8)⟩]⟩) (fun v => y_6 = v) (by rfl) ?_ ?_
    · try simp only [↓DN, UP, r1, r2, r3, r4, r5, r6, r7, reduceCtorEq, Tryz.f77, f1, f2]
      refine loopK TryzT_eq (fun p : (List Int) × Int => ⟨[(0, .pv (.one (.int .u32 f_1))), (3, .pv (.one (.arr 0 0 p.1.length))), (4, .pv (.one (.int .i64 p.2)))], [.live ⟨1, p.1.length, p.1.flatMap (eI .u8)⟩]⟩) (fun k p => g_impl_UnpackOne_l0 f_1 k p.1 p.2 = some y_6) (by kernel_rfl) bigK (([] : List Int), 28) (weak_norm (ks := [0, 3, 4]) (π := [0]) (fuel := 9) (by simp only [WL, r1, r2, r3, r4, r5, r6, r7, reduceCtorEq, fWin (eI_ok .u8) (n := 0) (xs := ([] : List Int)) (by simp)])) hy_7 (fun _ h => nomatch (show none = some _ from h)) ?_
      rintro k_8 ⟨out_3, left_4⟩ hk_9
      rw [g_impl_UnpackOne_l0] at hk_9
      try dsimp only at hk_9
      try simp only [↓DN, UP, r1, r2, r3, r4, r5, r6, r7, reduceCtorEq, Tryz.f77]
      refine seqN TryzT_eq rfl ?_
      obtain ⟨v_10, hv_10, hk_9⟩ := bS hk_9
      try simp only [↓DN, UP, r1, r2, r3, r4, r5, r6, r7, reduceCtorEq, Tryz.f77, hv_10]
      refine stIf hk_9 (fun hb_11 hk_9 => ?_) (fun hb_11 hk_9 => ?_)
      · obtain ⟨y_12, hy_12, hk_9⟩ := bS hk_9
        try simp only [↓DN, UP, r1, r2, r3, r4, r5, r6, r7, reduceCtorEq, Tryz.f77, hv_10]
        refine cG [] (c_impl_Decode hy_12) (hK := fun rd b => ?_)
        try simp only [↓DN, UP, r1, r2, r3, r4, r5, r6, r7, reduceCtorEq, Tryz.f77, hv_10]
        refine seqN TryzT_eq rfl ?_
        try simp only [↓DN, UP, r1, r2, r3, r4, r5, r6, r7, reduceCtorEq, Tryz.f77, hv_10]
        refine stIf hk_9 (fun hb_13 hk_9 => ?_) (fun hb_13 hk_9 => ?_)
        · try simp only [↓DN, UP, r1, r2, r3, r4, r5, r6, r7, reduceCtorEq, Tryz.f77, hv_10]
          obtain rfl := Option.some.inj hk_9
          exact cutT_mk out_3 rfl (wn [3] [0])
        · obtain ⟨y_14, hy_14, hk_9⟩ := bS hk_9
          try simp only [↓DN, UP, r1, r2, r3, r4, r5, r6, r7, reduceCtorEq, Tryz.f77, hv_10]
          refine cG [] (c_impl_LetterAt hy_14) (hK := fun rd b => ?_)
          obtain ⟨v_15, hv_15, hk_9⟩ := bS hk_9
          have f3 := (show bldN 1 = 1 from rfl)
          have f4 := (show bldC [.int .u8 y_14] = [y_14].flatMap (eI .u8) from rfl)
          have f5 := (fWin (eI_ok .u8) (n := 1) (xs := [y_14]) (by simp))
          have f6 := (fApp hv_15 (n := out_3.length) (by simp) (m := 1) (by simp [bsOf]))
          have f7 := (fWin (eI_ok .u8) (n := out_3.length) (xs := out_3) (by simp))
          have f8 := (fCat (e := (eI .u8)) (ns := [y_14].flatMap (eI .u8)) hv_15 rfl)
          try simp only [↓DN, UP, r1, r2, r3, r4, r5, r6, r7, reduceCtorEq, Tryz.f77, hv_10, f3, f4, f5, f6, f7, f8]
          exact ⟨(v_15, IntKind.wrap .i64 (left_4 - y_12.2)), hk_9, (wn [0, 3, 4] [2])⟩
      · try simp only [↓DN, UP, r1, r2, r3, r4, r5, r6, r7, reduceCtorEq, Tryz.f77, hv_10]
        obtain rfl := Option.some.inj hk_9
        exact cutT_mk out_3 rfl (wn [3] [0])
    · rintro out_5 hp
      replace hp := hp.symm; subst hp
      try dsimp only at h
      have f9 := (fWin (eI_ok .u8) (n := out_5.length) (xs := out_5) (by simp))
      try simp only [↓DN, UP, r1, r2, r3, r4, r5, r6, r7, reduceCtorEq, Tryz.f77, f9]
      obtain rfl := Option.some.inj h
      refine endT_of ?_ ⟨rfl, rfl⟩
      exact (wn [0] [])
theorem c_impl_PackOne {s_1 : Bs} {r : Int × Int} (h : g_impl_PackOne s_1 = some r) : Ans Tryz.prog 86 [.one (.str s_1)] [] fun v h1 => v = .tup [.one (.int .u32 r.1), .one (.int .i64 r.2)] ∧ h1 = [] := by
  refine ansK (P := fun _ => Tryz.prog) TryzT_eq (fn := Tryz.f86) Tryz.func86 rfl ⟨by kernel_rfl, rfl, rfl, by kernel_rfl⟩ (by simp) (Weak.refl _ _) ?_
  rw [g_impl_PackOne] at h
  try simp only [↓DN, UP, r1, r2, r3, r4, r5, r6, r7, reduceCtorEq, Tryz.f86]
  refine seqN TryzT_eq rfl ?_
  obtain ⟨y_2, hy_2, h⟩ := bS h
  try simp only [↓DN, UP, r1, r2, r3, r4, r5, r6, r7, reduceCtorEq, Tryz.f86]
  refine cG [] (c_impl_NameOk hy_2) (hK := fun rd b => ?_)
  try simp only [↓DN, UP, r1, r2, r3, r4, r5, r6, r7, reduceCtorEq, Tryz.f86]
  refine stIf h (fun hb_3 h => ?_) (fun hb_3 h => ?_)
  · try simp only [↓DN, UP, r1, r2, r3, r4, r5, r6, r7, reduceCtorEq, Tryz.f86]
    obtain rfl := Option.some.inj h
    refine endT_of ?_ ⟨rfl, rfl⟩
    exact (wn [0] [])
  · try simp only [↓DN, UP, r1, r2, r3, r4, r5, r6, r7, reduceCtorEq, Tryz.f86]
    obtain ⟨y_6, hy_7, h⟩ := bS h
    refine seqK TryzT_eq (fun p : Int × Int => ⟨[(4, .pv (.one (.int .u32 p.1))), (6, .pv (.one (.int .i64 p.2)))], []⟩) (fun v => y_6 = v) (by rfl) ?_ ?_
    · try simp only [↓DN, UP, r1, r2, r3, r4, r5, r6, r7, reduceCtorEq, Tryz.f86]
      obtain ⟨y_14, hy_15, hy_7⟩ := bS hy_7
      refine loopK TryzT_eq (fun p : Int × Int × Int × Int => ⟨[(0, .pv (.one (.str s_1))), (4, .pv (.one (.int .u32 p.1))), (5, .pv (.one (.int .i64 p.2.1))), (6, .pv (.one (.int .i64 p.2.2.1))), (13, .pv (.one (.int .i64 (s_1.length : Int)))), (14, .pv (.one (.int .i64 p.2.2.2)))], []⟩) (fun k p => g_impl_PackOne_l0 s_1 k p.1 p.2.1 p.2.2.1 p.2.2.2 = some y_14) (by kernel_rfl) bigK (0, 28, 0, 0) (wn [0, 4, 5, 6, 13, 14] []) hy_15 (fun _ h => nomatch (show none = some _ from h)) ?_
      rintro k_16 ⟨field_8, left_9, many_10, v_11⟩ hk_17
      rw [g_impl_PackOne_l0] at hk_17
      try dsimp only at hk_17
      try simp only [↓DN, UP, r1, r2, r3, r4, r5, r6, r7, reduceCtorEq, Tryz.f86]
      refine seqN TryzT_eq rfl ?_
      try simp only [↓DN, UP, r1, r2, r3, r4, r5, r6, r7, reduceCtorEq, Tryz.f86]
      refine stIf hk_17 (fun hb_18 hk_17 => ?_) (fun hb_18 hk_17 => ?_)
      · try simp only [↓DN, UP, r1, r2, r3, r4, r5, r6, r7, reduceCtorEq, Tryz.f86]
        refine seqN TryzT_eq rfl ?_
        obtain ⟨v_19, hv_19, hk_17⟩ := bS hk_17
        obtain ⟨y_20, hy_20, hk_17⟩ := bS hk_17
        try simp only [↓DN, UP, r1, r2, r3, r4, r5, r6, r7, reduceCtorEq, Tryz.f86, hv_19]
        refine cG [] (c_impl_LetterOf hy_20) (hK := fun rd b => ?_)
        try simp only [↓DN, UP, r1, r2, r3, r4, r5, r6, r7, reduceCtorEq, Tryz.f86, hv_19]
        refine seqN TryzT_eq rfl ?_
        obtain ⟨y_21, hy_21, hk_17⟩ := bS hk_17
        try simp only [↓DN, UP, r1, r2, r3, r4, r5, r6, r7, reduceCtorEq, Tryz.f86, hv_19]
        refine cG [] (c_impl_WidthOf hy_21) (hK := fun rd b => ?_)
        try simp only [↓DN, UP, r1, r2, r3, r4, r5, r6, r7, reduceCtorEq, Tryz.f86, hv_19]
        refine stIf hk_17 (fun hb_22 hk_17 => ?_) (fun hb_22 hk_17 => ?_)
        · obtain rfl := Option.some.inj hk_17
          try dsimp only at hy_7
          try simp only [↓DN, UP, r1, r2, r3, r4, r5, r6, r7, reduceCtorEq, Tryz.f86, hv_19]
          obtain rfl := Option.some.inj hy_7
          exact cutT_mk (field_8, many_10) rfl (wn [4, 6] [])
        · obtain ⟨y_23, hy_23, hk_17⟩ := bS hk_17
          try simp only [↓DN, UP, r1, r2, r3, r4, r5, r6, r7, reduceCtorEq, Tryz.f86, hv_19]
          refine cG [] (c_impl_WidthOf hy_23) (hK := fun rd b => ?_)
          obtain ⟨y_24, hy_24, hk_17⟩ := bS hk_17
          try simp only [↓DN, UP, r1, r2, r3, r4, r5, r6, r7, reduceCtorEq, Tryz.f86, hv_19]
          refine cG [] (c_impl_BitsOf hy_24) (hK := fun rd b => ?_)
          obtain ⟨v_25, hv_25, hk_17⟩ := bS hk_17
          try simp only [↓DN, UP, r1, r2, r3, r4, r5, r6, r7, reduceCtorEq, Tryz.f86, hv_19, hv_25]
          exact ⟨(orI .u32 field_8 v_25, IntKind.wrap .i64 (left_9 - y_23), IntKind.wrap .i64 (many_10 + 1), IntKind.wrap .i64 (v_11 + 1)), hk_17, (wn [0, 4, 5, 6, 13, 14] [])⟩
      · obtain rfl := Option.some.inj hk_17
        try dsimp only at hy_7
        try simp only [↓DN, UP, r1, r2, r3, r4, r5, r6, r7, reduceCtorEq, Tryz.f86]
        obtain rfl := Option.some.inj hy_7
        exact cutT_mk (field_8, many_10) rfl (wn [4, 6] [])
    · rintro ⟨field_4, many_5⟩ hp
      replace hp := hp.symm; subst hp
      try dsimp only at h
      try simp only [↓DN, UP, r1, r2, r3, r4, r5, r6, r7, reduceCtorEq, Tryz.f86]
      obtain rfl := Option.some.inj h
      refine endT_of ?_ ⟨rfl, rfl⟩
      exact (wn [0] [])
theorem c_impl_Pack {s_1 : Bs} {r : (List Int)} (h : g_impl_Pack s_1 = some r) : Ans Tryz.prog 61 [.one (.str s_1)] [] fun v h1 => v = .pv (.one (.arr 0 0 r.length)) ∧ h1 = [.live ⟨1, r.length, r.flatMap (eI .u32)⟩] := by
  refine ansK (P := fun _ => Tryz.prog) TryzT_eq (fn := Tryz.f61) Tryz.func61 rfl ⟨by kernel_rfl, rfl, rfl, by kernel_rfl⟩ (by simp) (Weak.refl _ _) ?_
  rw [g_impl_Pack] at h
  have f1 := (show bldN 0 = 0 from rfl)
  have f2 := (show bldC [] = ([] : List Int).flatMap (eI .u32) from rfl)
  try simp only [↓DN, UP, r1, r2, r3, r4, r5, r6, r7, reduceCtorEq, Tryz.f61, f1, f2]
  obtain ⟨y_5, hy_6, h⟩ := bS h
  refine seqK TryzT_eq (fun p : (List Int) => ⟨[(3, .pv (.one (.arr 0 0 p.length)))], [.live ⟨1, p.length, p.flatMap (eI .u32)⟩]⟩) (fun v => y_5 = v) (by rfl) ?_ ?_
  · try simp only [↓DN, UP, r1, r2, r3, r4, r5, r6, r7, reduceCtorEq, Tryz.f61, f1, f2]
    refine loopK TryzT_eq (fun p : Bs × (List Int) => ⟨[(0, .pv (.one (.str p.1))), (3, .pv (.one (.arr 0 0 p.2.length)))], [.live ⟨1, p.2.length, p.2.flatMap (eI .u32)⟩]⟩) (fun k p => g_impl_Pack_l0 k p.1 p.2 = some y_5) (by kernel_rfl) bigK (s_1, ([] : List Int)) (weak_norm (ks := [0, 3]) (π := [0]) (fuel := 9) (by simp only [WL, r1, r2, r3, r4, r5, r6, r7, reduceCtorEq, fWin (eI_ok .u32) (n := 0) (xs := ([] : List Int)) (by simp)])) hy_6 (fun _ h => nomatch (show none = some _ from h)) ?_
    rintro k_7 ⟨s_2, out_3⟩ hk_8
    rw [g_impl_Pack_l0] at hk_8
    try dsimp only at hk_8
    try simp only [↓DN, UP, r1, r2, r3, r4, r5, r6, r7, reduceCtorEq, Tryz.f61]
    refine seqN TryzT_eq rfl ?_
    obtain ⟨y_9, hy_9, hk_8⟩ := bS hk_8
    try simp only [↓DN, UP, r1, r2, r3, r4, r5, r6, r7, reduceCtorEq, Tryz.f61]
    refine cG [] (c_impl_NameOk hy_9) (hK := fun rd b => ?_)
    try simp only [↓DN, UP, r1, r2, r3, r4, r5, r6, r7, reduceCtorEq, Tryz.f61]
    refine stIf hk_8 (fun hb_10 hk_8 => ?_) (fun hb_10 hk_8 => ?_)
    · obtain ⟨y_11, hy_11, hk_8⟩ := bS hk_8
      try simp only [↓DN, UP, r1, r2, r3, r4, r5, r6, r7, reduceCtorEq, Tryz.f61]
      refine cG [] (c_impl_PackOne hy_11) (hK := fun rd b => ?_)
      obtain ⟨v_12, hv_12, hk_8⟩ := bS hk_8
      obtain ⟨v_13, hv_13, hk_8⟩ := bS hk_8
      have f3 := (show bldN 1 = 1 from rfl)
      have f4 := (show bldC [.int .u32 y_11.1] = [y_11.1].flatMap (eI .u32) from rfl)
      have f5 := (fWin (eI_ok .u32) (n := 1) (xs := [y_11.1]) (by simp))
      have f6 := (fApp hv_12 (n := out_3.length) (by simp) (m := 1) (by simp [bsOf]))
      have f7 := (fWin (eI_ok .u32) (n := out_3.length) (xs := out_3) (by simp))
      have f8 := (fCat (e := (eI .u32)) (ns := [y_11.1].flatMap (eI .u32)) hv_12 rfl)
      try simp only [↓DN, UP, r1, r2, r3, r4, r5, r6, r7, reduceCtorEq, Tryz.f61, f3, f4, f5, f6, f7, f8, hv_13]
      exact ⟨(v_13, v_12), hk_8, (wn [0, 3] [2])⟩
    · try simp only [↓DN, UP, r1, r2, r3, r4, r5, r6, r7, reduceCtorEq, Tryz.f61]
      obtain rfl := Option.some.inj hk_8
      exact cutT_mk out_3 rfl (wn [3] [0])
  · rintro out_4 hp
    replace hp := hp.symm; subst hp
    try dsimp only at h
    try simp only [↓DN, UP, r1, r2, r3, r4, r5, r6, r7, reduceCtorEq, Tryz.f61]
    obtain rfl := Option.some.inj h
    refine endT_of ?_ ⟨rfl, rfl⟩
    exact (wn [0] [0])
theorem c_slices_Equal_uint32 {s1_1 : List Int} {s2_2 : List Int} {r : Bool} (h : g_slices_Equal_uint32 s1_1 s2_2 = some r) : Ans Tryz.prog 75 [.one (.imm 1 s1_1.length (s1_1.flatMap (eI .u32))), .one (.imm 1 s2_2.length (s2_2.flatMap (eI .u32)))] [] fun v h1 => v = .pv (.one (.bool r)) ∧ h1 = [] := by
  refine ansK (P := fun _ => Tryz.prog) TryzT_eq (fn := Tryz.f75) Tryz.func75 rfl ⟨by kernel_rfl, rfl, rfl, by kernel_rfl⟩ (by simp) (Weak.refl _ _) ?_
  rw [g_slices_Equal_uint32] at h
  try simp only [↓DN, UP, r1, r2, r3, r4, r5, r6, r7, reduceCtorEq, Tryz.f75]
  refine seqN TryzT_eq rfl ?_
  try simp only [↓DN, UP, r1, r2, r3, r4, r5, r6, r7, reduceCtorEq, Tryz.f75]
  refine stIf h (fun hb_3 h => ?_) (fun hb_3 h => ?_)
  · try simp only [↓DN, UP, r1, r2, r3, r4, r5, r6, r7, reduceCtorEq, Tryz.f75]
    obtain rfl := Option.some.inj h
    refine endT_of ?_ ⟨rfl, rfl⟩
    exact (wn [0] [])
  · try simp only [↓DN, UP, r1, r2, r3, r4, r5, r6, r7, reduceCtorEq, Tryz.f75]
    obtain ⟨y_4, hy_5, h⟩ := bS h
    refine seqK TryzT_eq (fun p : Unit => ⟨[], []⟩) (fun v => y_4 = .inl v) (by rfl) ?_ ?_
    · try simp only [↓DN, UP, r1, r2, r3, r4, r5, r6, r7, reduceCtorEq, Tryz.f75]
      obtain ⟨y_7, hy_8, hy_5⟩ := bS hy_5
      refine loopK TryzT_eq (fun p : Int => ⟨[(0, .pv (.one (.imm 1 s1_1.length (s1_1.flatMap (eI .u32))))), (1, .pv (.one (.imm 1 s2_2.length (s2_2.flatMap (eI .u32))))), (12, .pv (.one (.int .i64 (s1_1.length : Int)))), (13, .pv (.one (.int .i64 p)))], []⟩) (fun k p => g_slices_Equal_uint32_l0 s1_1 s2_2 k p = some y_7) (by kernel_rfl) bigK 0 (wn [0, 1, 12, 13] []) hy_8 (fun _ h => nomatch (show none = some _ from h)) ?_
      rintro k_9 v_6 hk_10
      rw [g_slices_Equal_uint32_l0] at hk_10
      try dsimp only at hk_10
      try simp only [↓DN, UP, r1, r2, r3, r4, r5, r6, r7, reduceCtorEq, Tryz.f75]
      refine seqN TryzT_eq rfl ?_
      try simp only [↓DN, UP, r1, r2, r3, r4, r5, r6, r7, reduceCtorEq, Tryz.f75]
      refine stIf hk_10 (fun hb_11 hk_10 => ?_) (fun hb_11 hk_10 => ?_)
      · try simp only [↓DN, UP, r1, r2, r3, r4, r5, r6, r7, reduceCtorEq, Tryz.f75]
        refine seqN TryzT_eq rfl ?_
        obtain ⟨v_12, hv_12, hk_10⟩ := bS hk_10
        obtain ⟨v_13, hv_13, hk_10⟩ := bS hk_10
        have f1 := (fAt (eI_ok .u32) hv_12 (n := s1_1.length) (by simp))
        have f2 := (fAt (eI_ok .u32) hv_13 (n := s2_2.length) (by simp))
        try simp only [↓DN, UP, r1, r2, r3, r4, r5, r6, r7, reduceCtorEq, Tryz.f75, f1, f2]
        refine ⟨rfl, ?_⟩
        try simp only [↓DN, UP, r1, r2, r3, r4, r5, r6, r7, reduceCtorEq, Tryz.f75, f1, f2]
        refine stIf hk_10 (fun hb_14 hk_10 => ?_) (fun hb_14 hk_10 => ?_)
        · obtain rfl := Option.some.inj hk_10
          try dsimp only at hy_5
          obtain rfl := Option.some.inj hy_5
          try dsimp only at h
          try simp only [↓DN, UP, r1, r2, r3, r4, r5, r6, r7, reduceCtorEq, Tryz.f75, f1, f2]
          obtain rfl := Option.some.inj h
          refine endT_of ?_ ⟨rfl, rfl⟩
          exact (wn [0] [])
        · try simp only [↓DN, UP, r1, r2, r3, r4, r5, r6, r7, reduceCtorEq, Tryz.f75, f1, f2]
          exact ⟨IntKind.wrap .i64 (v_6 + 1), hk_10, (wn [0, 1, 12, 13] [])⟩
      · obtain rfl := Option.some.inj hk_10
        try dsimp only at hy_5
        try simp only [↓DN, UP, r1, r2, r3, r4, r5, r6, r7, reduceCtorEq, Tryz.f75]
        obtain rfl := Option.some.inj hy_5
        exact cutT_mk () (by trivial) (wn [] [])
    · rintro _ hp
      replace hp := hp.symm; subst hp
      try dsimp only at h
      try simp only [↓DN, UP, r1, r2, r3, r4, r5, r6, r7, reduceCtorEq, Tryz.f75]
      obtain rfl := Option.some.inj h
      refine endT_of ?_ ⟨rfl, rfl⟩
      exact (wn [0] [])
theorem c_impl_Unpack {list_1 : List Int} {r : Bs × Bool} (h : g_impl_Unpack list_1 = some r) : Ans Tryz.prog 73 [.one (.imm 1 list_1.length (list_1.flatMap (eI .u32)))] [] fun v h1 => v = .tup [.one (.str r.1), .one (.bool r.2)] ∧ h1 = [] := by
  refine ansK (P := fun _ => Tryz.prog) TryzT_eq (fn := Tryz.f73) Tryz.func73 rfl ⟨by kernel_rfl, rfl, rfl, by kernel_rfl⟩ (by simp) (Weak.refl _ _) ?_
  rw [g_impl_Unpack] at h
  try simp only [↓DN, UP, r1, r2, r3, r4, r5, r6, r7, reduceCtorEq, Tryz.f73]
  refine seqN TryzT_eq rfl ?_
  try simp only [↓DN, UP, r1, r2, r3, r4, r5, r6, r7, reduceCtorEq, Tryz.f73]
  refine stIf h (fun hb_2 h => ?_) (fun hb_2 h => ?_)
  · try simp only [↓DN, UP, r1, r2, r3, r4, r5, r6, r7, reduceCtorEq, Tryz.f73]
    obtain rfl := Option.some.inj h
    refine endT_of ?_ ⟨rfl, rfl⟩
    exact (wn [0] [])
  · try simp only [↓DN, UP, r1, r2, r3, r4, r5, r6, r7, reduceCtorEq, Tryz.f73]
    obtain ⟨y_4, hy_5, h⟩ := bS h
    refine seqK TryzT_eq (fun p : Bs => ⟨[(0, .pv (.one (.imm 1 list_1.length (list_1.flatMap (eI .u32))))), (4, .pv (.one (.str p)))], []⟩) (fun v => y_4 = v) (by rfl) ?_ ?_
    · try simp only [↓DN, UP, r1, r2, r3, r4, r5, r6, r7, reduceCtorEq, Tryz.f73]
      obtain ⟨y_9, hy_10, hy_5⟩ := bS hy_5
      refine loopK TryzT_eq (fun p : Bs × Int => ⟨[(0, .pv (.one (.imm 1 list_1.length (list_1.flatMap (eI .u32))))), (4, .pv (.one (.str p.1))), (10, .pv (.one (.imm 1 list_1.length (list_1.flatMap (eI .u32))))), (11, .pv (.one (.int .i64 (list_1.length : Int)))), (12, .pv (.one (.int .i64 p.2)))], []⟩) (fun k p => g_impl_Unpack_l0 list_1 k p.1 p.2 = some y_9) (by kernel_rfl) bigK ([], 0) (wn [0, 4, 10, 11, 12] []) hy_10 (fun _ h => nomatch (show none = some _ from h)) ?_
      rintro k_11 ⟨name_6, v_7⟩ hk_12
      rw [g_impl_Unpack_l0] at hk_12
      try dsimp only at hk_12
      try simp only [↓DN, UP, r1, r2, r3, r4, r5, r6, r7, reduceCtorEq, Tryz.f73]
      refine seqN TryzT_eq rfl ?_
      try simp only [↓DN, UP, r1, r2, r3, r4, r5, r6, r7, reduceCtorEq, Tryz.f73]
      refine stIf hk_12 (fun hb_13 hk_12 => ?_) (fun hb_13 hk_12 => ?_)
      · try simp only [↓DN, UP, r1, r2, r3, r4, r5, r6, r7, reduceCtorEq, Tryz.f73]
        refine seqN TryzT_eq rfl ?_
        obtain ⟨v_14, hv_14, hk_12⟩ := bS hk_12
        obtain ⟨y_15, hy_15, hk_12⟩ := bS hk_12
        have f1 := (fAt (eI_ok .u32) hv_14 (n := list_1.length) (by simp))
        try simp only [↓DN, UP, r1, r2, r3, r4, r5, r6, r7, reduceCtorEq, Tryz.f73, f1]
        refine cG [] (c_impl_UnpackOne hy_15) (hK := fun rd b => ?_)
        obtain ⟨v_16, hv_16, hk_12⟩ := bS hk_12
        try simp only [↓DN, UP, r1, r2, r3, r4, r5, r6, r7, reduceCtorEq, Tryz.f73, f1, hv_16]
        exact ⟨(v_16, IntKind.wrap .i64 (v_7 + 1)), hk_12, (wn [0, 4, 10, 11, 12] [])⟩
      · obtain rfl := Option.some.inj hk_12
        try dsimp only at hy_5
        try simp only [↓DN, UP, r1, r2, r3, r4, r5, r6, r7, reduceCtorEq, Tryz.f73]
        obtain rfl := Option.some.inj hy_5
        exact cutT_mk name_6 rfl (wn [0, 4] [])
    · rintro name_3 hp
      replace hp := hp.symm; subst hp
      try dsimp only at h
      try simp only [↓DN, UP, r1, r2, r3, r4, r5, r6, r7, reduceCtorEq, Tryz.f73]
      refine seqN TryzT_eq rfl ?_
      try simp only [↓DN, UP, r1, r2, r3, r4, r5, r6, r7, reduceCtorEq, Tryz.f73]
      obtain ⟨y_18, hy_19, h⟩ := bS h
      refine seqK TryzT_eq (fun p : Bool => ⟨[(4, .pv (.one (.str name_3))), (30, .pv (.one (.bool p)))], []⟩) (fun v => y_18 = v) (by rfl) ?_ ?_
      · obtain ⟨y_20, hy_20, hy_19⟩ := bS hy_19
        try simp only [↓DN, UP, r1, r2, r3, r4, r5, r6, r7, reduceCtorEq, Tryz.f73]
        refine cG [] (c_impl_NameOk hy_20) (hK := fun rd b => ?_)
        try simp only [↓DN, UP, r1, r2, r3, r4, r5, r6, r7, reduceCtorEq, Tryz.f73]
        refine stIf hy_19 (fun hb_21 hy_19 => ?_) (fun hb_21 hy_19 => ?_)
        · try simp only [↓DN, UP, r1, r2, r3, r4, r5, r6, r7, reduceCtorEq, Tryz.f73, hb_21]
          obtain rfl := Option.some.inj hy_19
          exact cutT_mk true rfl (wn [4, 30] [])
        · obtain ⟨y_22, hy_22, hy_19⟩ := bS hy_19
          try simp only [↓DN, UP, r1, r2, r3, r4, r5, r6, r7, reduceCtorEq, Tryz.f73, hb_21]
          refine cG [] (c_impl_Pack hy_22) (hK := fun rd b => ?_)
          obtain ⟨y_23, hy_23, hy_19⟩ := bS hy_19
          try simp only [↓DN, UP, r1, r2, r3, r4, r5, r6, r7, reduceCtorEq, Tryz.f73, hb_21]
          refine cG [] (c_slices_Equal_uint32 hy_23) (hK := fun rd b => ?_)
          try simp only [↓DN, UP, r1, r2, r3, r4, r5, r6, r7, reduceCtorEq, Tryz.f73, hb_21]
          obtain rfl := Option.some.inj hy_19
          exact cutT_mk (!y_23) rfl (wn [4, 30] [])
      · rintro v_17 hp
        replace hp := hp.symm; subst hp
        try dsimp only at h
        try simp only [↓DN, UP, r1, r2, r3, r4, r5, r6, r7, reduceCtorEq, Tryz.f73]
        refine stIf h (fun hb_24 h => ?_) (fun hb_24 h => ?_)
        · try simp only [↓DN, UP, r1, r2, r3, r4, r5, r6, r7, reduceCtorEq, Tryz.f73]
          obtain rfl := Option.some.inj h
          refine endT_of ?_ ⟨rfl, rfl⟩
          exact (wn [0] [])
        · try simp only [↓DN, UP, r1, r2, r3, r4, r5, r6, r7, reduceCtorEq, Tryz.f73]
          obtain rfl := Option.some.inj h
          refine endT_of ?_ ⟨rfl, rfl⟩
          exact (wn [0] [])
theorem c_impl_nameTag {kind_1 : Int} {r : Int} (h : g_impl_nameTag kind_1 = some r) : Ans Tryz.prog 60 [.one (.int .i64 kind_1)] [] fun v h1 => v = .pv (.one (.int .u32 r)) ∧ h1 = [] := by
  refine ansK (P := fun _ => Tryz.prog) TryzT_eq (fn := Tryz.f60) Tryz.func60 rfl ⟨by kernel_rfl, rfl, rfl, by kernel_rfl⟩ (by simp) (Weak.refl _ _) ?_
  rw [g_impl_nameTag] at h
  try simp only [↓DN, UP, r1, r2, r3, r4, r5, r6, r7, reduceCtorEq, Tryz.f60]
  refine seqN TryzT_eq rfl ?_
  try simp only [↓DN, UP, r1, r2, r3, r4, r5, r6, r7, reduceCtorEq, Tryz.f60]
  refine stIf h (fun hb_2 h => ?_) (fun hb_2 h => ?_)
  · try simp only [↓DN, UP, r1, r2, r3, r4, r5, r6, r7, reduceCtorEq, Tryz.f60]
    obtain rfl := Option.some.inj h
    refine endT_of ?_ ⟨rfl, rfl⟩
    exact (wn [0] [])
  · try simp only [↓DN, UP, r1, r2, r3, r4, r5, r6, r7, reduceCtorEq, Tryz.f60]
    refine stIf h (fun hb_3 h => ?_) (fun hb_3 h => ?_)
    · try simp only [↓DN, UP, r1, r2, r3, r4, r5, r6, r7, reduceCtorEq, Tryz.f60]
      obtain rfl := Option.some.inj h
      refine endT_of ?_ ⟨rfl, rfl⟩
      exact (wn [0] [])
    · try simp only [↓DN, UP, r1, r2, r3, r4, r5, r6, r7, reduceCtorEq, Tryz.f60]
      refine stIf h (fun hb_4 h => ?_) (fun hb_4 h => ?_)
      · try simp only [↓DN, UP, r1, r2, r3, r4, r5, r6, r7, reduceCtorEq, Tryz.f60]
        obtain rfl := Option.some.inj h
        refine endT_of ?_ ⟨rfl, rfl⟩
        exact (wn [0] [])
      · try simp only [↓DN, UP, r1, r2, r3, r4, r5, r6, r7, reduceCtorEq, Tryz.f60]
        refine stIf h (fun hb_5 h => ?_) (fun hb_5 h => ?_)
        · try simp only [↓DN, UP, r1, r2, r3, r4, r5, r6, r7, reduceCtorEq, Tryz.f60]
          obtain rfl := Option.some.inj h
          refine endT_of ?_ ⟨rfl, rfl⟩
          exact (wn [0] [])
        · try simp only [↓DN, UP, r1, r2, r3, r4, r5, r6, r7, reduceCtorEq, Tryz.f60]
          refine stIf h (fun hb_6 h => ?_) (fun hb_6 h => ?_)
          · try simp only [↓DN, UP, r1, r2, r3, r4, r5, r6, r7, reduceCtorEq, Tryz.f60]
            obtain rfl := Option.some.inj h
            refine endT_of ?_ ⟨rfl, rfl⟩
            exact (wn [0] [])
          · try simp only [↓DN, UP, r1, r2, r3, r4, r5, r6, r7, reduceCtorEq, Tryz.f60]
            refine stIf h (fun hb_7 h => ?_) (fun hb_7 h => ?_)
            · try simp only [↓DN, UP, r1, r2, r3, r4, r5, r6, r7, reduceCtorEq, Tryz.f60]
              obtain rfl := Option.some.inj h
              refine endT_of ?_ ⟨rfl, rfl⟩
              exact (wn [0] [])
            · try simp only [↓DN, UP, r1, r2, r3, r4, r5, r6, r7, reduceCtorEq, Tryz.f60]
              obtain rfl := Option.some.inj h
              refine endT_of ?_ ⟨rfl, rfl⟩
              exact (wn [0] [])
theorem c_impl_nameKind {tag_1 : Int} {r : Int} (h : g_impl_nameKind tag_1 = some r) : Ans Tryz.prog 74 [.one (.int .u32 tag_1)] [] fun v h1 => v = .pv (.one (.int .i64 r)) ∧ h1 = [] := by
  refine ansK (P := fun _ => Tryz.prog) TryzT_eq (fn := Tryz.f74) Tryz.func74 rfl ⟨by kernel_rfl, rfl, rfl, by kernel_rfl⟩ (by simp) (Weak.refl _ _) ?_
  rw [g_impl_nameKind] at h
  try simp only [↓DN, UP, r1, r2, r3, r4, r5, r6, r7, reduceCtorEq, Tryz.f74]
  obtain ⟨y_3, hy_4, h⟩ := bS h
  refine seqK TryzT_eq (fun p : Unit => ⟨[], []⟩) (fun v => y_3 = .inl v) (by rfl) ?_ ?_
  · try simp only [↓DN, UP, r1, r2, r3, r4, r5, r6, r7, reduceCtorEq, Tryz.f74]
    obtain ⟨y_7, hy_8, hy_4⟩ := bS hy_4
    refine loopK TryzT_eq (fun p : Int => ⟨[(0, .pv (.one (.int .u32 tag_1))), (3, .pv (.one (.int .i64 p)))], []⟩) (fun k p => g_impl_nameKind_l0 tag_1 k p = some y_7) (by kernel_rfl) bigK 1 (wn [0, 3] []) hy_8 (fun _ h => nomatch (show none = some _ from h)) ?_
    rintro k_9 kind_5 hk_10
    rw [g_impl_nameKind_l0] at hk_10
    try dsimp only at hk_10
    try simp only [↓DN, UP, r1, r2, r3, r4, r5, r6, r7, reduceCtorEq, Tryz.f74]
    refine seqN TryzT_eq rfl ?_
    try simp only [↓DN, UP, r1, r2, r3, r4, r5, r6, r7, reduceCtorEq, Tryz.f74]
    refine stIf hk_10 (fun hb_11 hk_10 => ?_) (fun hb_11 hk_10 => ?_)
    · try simp only [↓DN, UP, r1, r2, r3, r4, r5, r6, r7, reduceCtorEq, Tryz.f74]
      refine seqN TryzT_eq rfl ?_
      obtain ⟨y_12, hy_12, hk_10⟩ := bS hk_10
      try simp only [↓DN, UP, r1, r2, r3, r4, r5, r6, r7, reduceCtorEq, Tryz.f74]
      refine cG [] (c_impl_nameTag hy_12) (hK := fun rd b => ?_)
      try simp only [↓DN, UP, r1, r2, r3, r4, r5, r6, r7, reduceCtorEq, Tryz.f74]
      refine stIf hk_10 (fun hb_13 hk_10 => ?_) (fun hb_13 hk_10 => ?_)
      · obtain rfl := Option.some.inj hk_10
        try dsimp only at hy_4
        obtain rfl := Option.some.inj hy_4
        try dsimp only at h
        try simp only [↓DN, UP, r1, r2, r3, r4, r5, r6, r7, reduceCtorEq, Tryz.f74]
        obtain rfl := Option.some.inj h
        refine endT_of ?_ ⟨rfl, rfl⟩
        exact (wn [0] [])
      · try simp only [↓DN, UP, r1, r2, r3, r4, r5, r6, r7, reduceCtorEq, Tryz.f74]
        exact ⟨IntKind.wrap .i64 (kind_5 + 1), hk_10, (wn [0, 3] [])⟩
    · obtain rfl := Option.some.inj hk_10
      try dsimp only at hy_4
      try simp only [↓DN, UP, r1, r2, r3, r4, r5, r6, r7, reduceCtorEq, Tryz.f74]
      obtain rfl := Option.some.inj hy_4
      exact cutT_mk () (by trivial) (wn [] [])
  · rintro _ hp
    replace hp := hp.symm; subst hp
    try dsimp only at h
    try simp only [↓DN, UP, r1, r2, r3, r4, r5, r6, r7, reduceCtorEq, Tryz.f74]
    obtain rfl := Option.some.inj h
    refine endT_of ?_ ⟨rfl, rfl⟩
    exact (wn [0] [])
end Go.Proofs.YthhoellakpnjpaaGreat
