import Derived.Test.YtniciinhflolnaaDoorGD
namespace Go.Proofs.YtniciinhflolnaaDoor
open Go Go.Fm
open Nat renaming reduceEqDiff → r1, reduceLT → r2, reduceLeDiff → r3, reduceAdd → r4, reduceMul → r5, reduceSub → r6
open Int renaming reduceToNat → r7
set_option maxRecDepth 100000
set_option linter.unusedVariables false
set_option linter.unusedSimpArgs false
theorem c_laws_szOpS {a_1 : List GOp} {left_2 : Int} {r : Int} (h : g_laws_szOpS a_1 left_2 = some r) : Ans Tryd.prog 4 [.one (.imm 2 a_1.length (a_1.flatMap GOp.cs)), .one (.int .i64 left_2)] [] fun v h1 => v = .pv (.one (.int .i64 r)) ∧ h1 = [] := by
  refine ansK (P := fun _ => Tryd.prog) TrydT_eq (fn := Tryd.f4) Tryd.func4 rfl ⟨by kernel_rfl, rfl, rfl, by kernel_rfl⟩ (by simp) (Weak.refl _ _) ?_
  rw [g_laws_szOpS] at h
  try simp only [↓DN, UP, r1, r2, r3, r4, r5, r6, r7, reduceCtorEq, Tryd.f4]
  refine seqN TrydT_eq rfl ?_
  try simp only [↓DN, UP, r1, r2, r3, r4, r5, r6, r7, reduceCtorEq, Tryd.f4]
  refine stIf h (fun hb_3 h => ?_) (fun hb_3 h => ?_)
  · try simp only [↓DN, UP, r1, r2, r3, r4, r5, r6, r7, reduceCtorEq, Tryd.f4]
    obtain rfl := Option.some.inj h
    refine endT_of ?_ ⟨rfl, rfl⟩
    exact (wn [0] [])
  · try simp only [↓DN, UP, r1, r2, r3, r4, r5, r6, r7, reduceCtorEq, Tryd.f4]
    obtain rfl := Option.some.inj h
    refine endT_of ?_ ⟨rfl, rfl⟩
    exact (wn [0] [])
theorem c_laws_toOp {a_1 : GOp} {r : GOp} (h : g_laws_toOp a_1 = some r) : Ans Tryd.prog 10 [.agg [.int .i64 a_1.Kind, .int .i32 a_1.N]] [] fun v h1 => v = .pv (.agg [.int .i64 r.Kind, .int .i32 r.N]) ∧ h1 = [] := by
  refine ansK (P := fun _ => Tryd.prog) TrydT_eq (fn := Tryd.f10) Tryd.func10 rfl ⟨by kernel_rfl, rfl, rfl, by kernel_rfl⟩ (by simp) (Weak.refl _ _) ?_
  rw [g_laws_toOp] at h
  try simp only [↓DN, UP, r1, r2, r3, r4, r5, r6, r7, reduceCtorEq, Tryd.f10]
  obtain rfl := Option.some.inj h
  refine endT_of ?_ ⟨rfl, rfl⟩
  exact (wn [0] [])
theorem c_laws_toOpS {a_1 : List GOp} {r : (List GOp)} (h : g_laws_toOpS a_1 = some r) : Ans Tryd.prog 6 [.one (.imm 2 a_1.length (a_1.flatMap GOp.cs))] [] fun v h1 => v = .pv (.one (.arr 0 0 r.length)) ∧ h1 = [.live ⟨2, r.length, r.flatMap GOp.cs⟩] := by
  refine ansK (P := fun _ => Tryd.prog) TrydT_eq (fn := Tryd.f6) Tryd.func6 rfl ⟨by kernel_rfl, rfl, rfl, by kernel_rfl⟩ (by simp) (Weak.refl _ _) ?_
  rw [g_laws_toOpS] at h
  obtain ⟨v_2, hv_2, h⟩ := bS h
  have f1 := (fMk hv_2)
  have f2 := (fMkC (e := GOp.cs) (ns := [.int .i64 0, .int .i32 0]) hv_2 rfl)
  try simp only [↓DN, UP, r1, r2, r3, r4, r5, r6, r7, reduceCtorEq, Tryd.f6, f1, f2]
  obtain ⟨y_4, hy_5, h⟩ := bS h
  refine seqK TrydT_eq (fun p : (List GOp) => ⟨[(3, .pv (.one (.arr 0 0 p.length)))], [.live ⟨2, p.length, p.flatMap GOp.cs⟩]⟩) (fun v => y_4 = v) (by rfl) ?_ ?_
  · try simp only [↓DN, UP, r1, r2, r3, r4, r5, r6, r7, reduceCtorEq, Tryd.f6, f1, f2]
    obtain ⟨y_9, hy_10, hy_5⟩ := bS hy_5
    refine loopK TrydT_eq (fun p : (List GOp) × Int => ⟨[(0, .pv (.one (.imm 2 a_1.length (a_1.flatMap GOp.cs)))), (3, .pv (.one (.arr 0 0 p.1.length))), (4, .pv (.one (.int .i64 p.2)))], [.live ⟨2, p.1.length, p.1.flatMap GOp.cs⟩]⟩) (fun k p => g_laws_toOpS_l0 a_1 k p.1 p.2 = some y_9) (by kernel_rfl) bigK (v_2, 0) (wn [0, 3, 4] [0]) hy_10 (fun _ h => nomatch (show none = some _ from h)) ?_
    rintro k_11 ⟨out_6, i_7⟩ hk_12
    rw [g_laws_toOpS_l0] at hk_12
    try dsimp only at hk_12
    try simp only [↓DN, UP, r1, r2, r3, r4, r5, r6, r7, reduceCtorEq, Tryd.f6]
    refine seqN TrydT_eq rfl ?_
    try simp only [↓DN, UP, r1, r2, r3, r4, r5, r6, r7, reduceCtorEq, Tryd.f6]
    refine stIf hk_12 (fun hb_13 hk_12 => ?_) (fun hb_13 hk_12 => ?_)
    · try simp only [↓DN, UP, r1, r2, r3, r4, r5, r6, r7, reduceCtorEq, Tryd.f6]
      refine seqN TrydT_eq rfl ?_
      obtain ⟨v_14, hv_14, hk_12⟩ := bS hk_12
      obtain ⟨y_15, hy_15, hk_12⟩ := bS hk_12
      have f3 := (fAt GOp.ok hv_14 (n := a_1.length) (by simp))
      try simp only [↓DN, UP, r1, r2, r3, r4, r5, r6, r7, reduceCtorEq, Tryd.f6, f3]
      refine cG [] (c_laws_toOp hy_15) (hK := fun rd b => ?_)
      obtain ⟨v_16, hv_16, hk_12⟩ := bS hk_12
      have f4 := (fPtr hv_16 (k := 2) (n := out_6.length) (by simp))
      have f5 := (fPut0 GOp.ok hv_16 (ns := [.int .i64 y_15.Kind, .int .i32 y_15.N]) (y := y_15) rfl)
      try simp only [↓DN, UP, r1, r2, r3, r4, r5, r6, r7, reduceCtorEq, Tryd.f6, f3, f4, f5]
      exact ⟨(out_6.set i_7.toNat y_15, IntKind.wrap .i64 (i_7 + 1)), hk_12, (weak_norm (ks := [0, 3, 4]) (π := [0]) (fuel := 9) (by simp only [WL, r1, r2, r3, r4, r5, r6, r7, reduceCtorEq, fWin GOp.ok (n := out_6.length) (xs := out_6.set i_7.toNat y_15) (by simp)]))⟩
    · obtain rfl := Option.some.inj hk_12
      try dsimp only at hy_5
      try simp only [↓DN, UP, r1, r2, r3, r4, r5, r6, r7, reduceCtorEq, Tryd.f6]
      obtain rfl := Option.some.inj hy_5
      exact cutT_mk out_6 rfl (wn [3] [0])
  · rintro out_3 hp
    replace hp := hp.symm; subst hp
    try dsimp only at h
    try simp only [↓DN, UP, r1, r2, r3, r4, r5, r6, r7, reduceCtorEq, Tryd.f6]
    obtain rfl := Option.some.inj h
    refine endT_of ?_ ⟨rfl, rfl⟩
    exact (wn [0] [0])
theorem c_spec_l08Names {r : (List Bs)} (h : g_spec_l08Names = some r) : Ans Tryd.prog 19 [] [] fun v h1 => v = .pv (.one (.arr 0 0 r.length)) ∧ h1 = [.live ⟨1, r.length, r.flatMap eS⟩] := by
  refine ansK (P := fun _ => Tryd.prog) TrydT_eq (fn := Tryd.f19) Tryd.func19 rfl ⟨by kernel_rfl, rfl, rfl, by kernel_rfl⟩ (by simp) (Weak.refl _ _) ?_
  rw [g_spec_l08Names] at h
  have f1 := (show bldN 24 = 24 from rfl)
  have f2 := (show bldC [.str [100, 117, 112], .str [100, 114, 111, 112], .str [111, 118, 101, 114], .str [110, 105, 112], .str [115, 119, 97, 112], .str [43], .str [45], .str [42], .str [97, 110, 100], .str [111, 114], .str [50, 42], .str [50, 47], .str [47, 109, 111, 100], .str [64], .str [33], .str [97], .str [97, 33], .str [101, 109, 105, 116], .str [107, 101, 121], .str [112, 117, 115, 104], .str [112, 111, 112], .str [105], .str [46], .str [110, 111, 112]] = [[100, 117, 112], [100, 114, 111, 112], [111, 118, 101, 114], [110, 105, 112], [115, 119, 97, 112], [43], [45], [42], [97, 110, 100], [111, 114], [50, 42], [50, 47], [47, 109, 111, 100], [64], [33], [97], [97, 33], [101, 109, 105, 116], [107, 101, 121], [112, 117, 115, 104], [112, 111, 112], [105], [46], [110, 111, 112]].flatMap eS from rfl)
  try simp only [↓DN, UP, r1, r2, r3, r4, r5, r6, r7, reduceCtorEq, Tryd.f19, f1, f2]
  obtain rfl := Option.some.inj h
  refine endT_of ?_ ⟨rfl, rfl⟩
  exact (weak_norm (ks := [0]) (π := [0]) (fuel := 9) (by simp only [WL, r1, r2, r3, r4, r5, r6, r7, reduceCtorEq, fWin eS_ok (n := 24) (xs := [[100, 117, 112], [100, 114, 111, 112], [111, 118, 101, 114], [110, 105, 112], [115, 119, 97, 112], [43], [45], [42], [97, 110, 100], [111, 114], [50, 42], [50, 47], [47, 109, 111, 100], [64], [33], [97], [97, 33], [101, 109, 105, 116], [107, 101, 121], [112, 117, 115, 104], [112, 111, 112], [105], [46], [110, 111, 112]]) (by simp)]))
theorem c_spec_l01In {x_1 : Int} {a_2 : Int} {b_3 : Int} {r : Bool} (h : g_spec_l01In x_1 a_2 b_3 = some r) : Ans Tryd.prog 17 [.one (.int .i64 x_1), .one (.int .i64 a_2), .one (.int .i64 b_3)] [] fun v h1 => v = .pv (.one (.bool r)) ∧ h1 = [] := by
  refine ansK (P := fun _ => Tryd.prog) TrydT_eq (fn := Tryd.f17) Tryd.func17 rfl ⟨by kernel_rfl, rfl, rfl, by kernel_rfl⟩ (by simp) (Weak.refl _ _) ?_
  rw [g_spec_l01In] at h
  try simp only [↓DN, UP, r1, r2, r3, r4, r5, r6, r7, reduceCtorEq, Tryd.f17]
  refine seqN TrydT_eq rfl ?_
  try simp only [↓DN, UP, r1, r2, r3, r4, r5, r6, r7, reduceCtorEq, Tryd.f17]
  refine stIf h (fun hb_4 h => ?_) (fun hb_4 h => ?_)
  · try simp only [↓DN, UP, r1, r2, r3, r4, r5, r6, r7, reduceCtorEq, Tryd.f17, hb_4]
    obtain rfl := Option.some.inj h
    refine endT_of ?_ ⟨rfl, rfl⟩
    exact (wn [0] [])
  · try simp only [↓DN, UP, r1, r2, r3, r4, r5, r6, r7, reduceCtorEq, Tryd.f17, hb_4]
    obtain rfl := Option.some.inj h
    refine endT_of ?_ ⟨rfl, rfl⟩
    exact (wn [0] [])
theorem c_spec_PrimName {k_1 : Int} {r : Bs} (h : g_spec_PrimName k_1 = some r) : Ans Tryd.prog 16 [.one (.int .i64 k_1)] [] fun v h1 => v = .pv (.one (.str r)) ∧ h1 = [] := by
  refine ansK (P := fun _ => Tryd.prog) TrydT_eq (fn := Tryd.f16) Tryd.func16 rfl ⟨by kernel_rfl, rfl, rfl, by kernel_rfl⟩ (by simp) (Weak.refl _ _) ?_
  rw [g_spec_PrimName] at h
  obtain ⟨y_2, hy_2, h⟩ := bS h
  try simp only [↓DN, UP, r1, r2, r3, r4, r5, r6, r7, reduceCtorEq, Tryd.f16]
  refine cG [] (c_spec_l08Names hy_2) (hK := fun rd b => ?_)
  try simp only [↓DN, UP, r1, r2, r3, r4, r5, r6, r7, reduceCtorEq, Tryd.f16]
  refine seqN TrydT_eq rfl ?_
  obtain ⟨y_3, hy_3, h⟩ := bS h
  try simp only [↓DN, UP, r1, r2, r3, r4, r5, r6, r7, reduceCtorEq, Tryd.f16]
  refine cG [] (c_spec_l01In hy_3) (hK := fun rd b => ?_)
  try simp only [↓DN, UP, r1, r2, r3, r4, r5, r6, r7, reduceCtorEq, Tryd.f16]
  refine stIf h (fun hb_4 h => ?_) (fun hb_4 h => ?_)
  · try simp only [↓DN, UP, r1, r2, r3, r4, r5, r6, r7, reduceCtorEq, Tryd.f16]
    obtain rfl := Option.some.inj h
    refine endT_of ?_ ⟨rfl, rfl⟩
    exact (wn [0] [])
  · obtain ⟨v_5, hv_5, h⟩ := bS h
    have f1 := (fPtr hv_5 (k := 1) (n := y_2.length) (by simp))
    have f2 := (fGet0 eS_ok hv_5 (m := 1) (by decide) (by decide))
    try simp only [↓DN, UP, r1, r2, r3, r4, r5, r6, r7, reduceCtorEq, Tryd.f16, f1, f2]
    obtain rfl := Option.some.inj h
    refine endT_of ?_ ⟨rfl, rfl⟩
    exact (wn [0] [])
theorem c_spec_l09Op {o_1 : GOp} {r : Bool} (h : g_spec_l09Op o_1 = some r) : Ans Tryd.prog 13 [.agg [.int .i64 o_1.Kind, .int .i32 o_1.N]] [] fun v h1 => v = .pv (.one (.bool r)) ∧ h1 = [] := by
  refine ansK (P := fun _ => Tryd.prog) TrydT_eq (fn := Tryd.f13) Tryd.func13 rfl ⟨by kernel_rfl, rfl, rfl, by kernel_rfl⟩ (by simp) (Weak.refl _ _) ?_
  rw [g_spec_l09Op] at h
  try simp only [↓DN, UP, r1, r2, r3, r4, r5, r6, r7, reduceCtorEq, Tryd.f13]
  refine seqN TrydT_eq rfl ?_
  try simp only [↓DN, UP, r1, r2, r3, r4, r5, r6, r7, reduceCtorEq, Tryd.f13]
  refine stIf h (fun hb_2 h => ?_) (fun hb_2 h => ?_)
  · try simp only [↓DN, UP, r1, r2, r3, r4, r5, r6, r7, reduceCtorEq, Tryd.f13]
    obtain rfl := Option.some.inj h
    refine endT_of ?_ ⟨rfl, rfl⟩
    exact (wn [0] [])
  · try simp only [↓DN, UP, r1, r2, r3, r4, r5, r6, r7, reduceCtorEq, Tryd.f13]
    refine stIf h (fun hb_3 h => ?_) (fun hb_3 h => ?_)
    · obtain ⟨y_4, hy_4, h⟩ := bS h
      try simp only [↓DN, UP, r1, r2, r3, r4, r5, r6, r7, reduceCtorEq, Tryd.f13]
      refine cG [] (c_spec_PrimName hy_4) (hK := fun rd b => ?_)
      try simp only [↓DN, UP, r1, r2, r3, r4, r5, r6, r7, reduceCtorEq, Tryd.f13]
      obtain rfl := Option.some.inj h
      refine endT_of ?_ ⟨rfl, rfl⟩
      exact (wn [0] [])
    · try simp only [↓DN, UP, r1, r2, r3, r4, r5, r6, r7, reduceCtorEq, Tryd.f13]
      refine stIf h (fun hb_5 h => ?_) (fun hb_5 h => ?_)
      · obtain ⟨y_6, hy_6, h⟩ := bS h
        try simp only [↓DN, UP, r1, r2, r3, r4, r5, r6, r7, reduceCtorEq, Tryd.f13]
        refine cG [] (c_spec_l01In hy_6) (hK := fun rd b => ?_)
        try simp only [↓DN, UP, r1, r2, r3, r4, r5, r6, r7, reduceCtorEq, Tryd.f13]
        obtain rfl := Option.some.inj h
        refine endT_of ?_ ⟨rfl, rfl⟩
        exact (wn [0] [])
      · try simp only [↓DN, UP, r1, r2, r3, r4, r5, r6, r7, reduceCtorEq, Tryd.f13]
        refine seqN TrydT_eq rfl ?_
        obtain ⟨y_7, hy_7, h⟩ := bS h
        try simp only [↓DN, UP, r1, r2, r3, r4, r5, r6, r7, reduceCtorEq, Tryd.f13]
        refine cG [] (c_spec_l01In hy_7) (hK := fun rd b => ?_)
        try simp only [↓DN, UP, r1, r2, r3, r4, r5, r6, r7, reduceCtorEq, Tryd.f13]
        refine stIf h (fun hb_8 h => ?_) (fun hb_8 h => ?_)
        · try simp only [↓DN, UP, r1, r2, r3, r4, r5, r6, r7, reduceCtorEq, Tryd.f13, hb_8]
          obtain rfl := Option.some.inj h
          refine endT_of ?_ ⟨rfl, rfl⟩
          exact (wn [0] [])
        · try simp only [↓DN, UP, r1, r2, r3, r4, r5, r6, r7, reduceCtorEq, Tryd.f13, hb_8]
          obtain rfl := Option.some.inj h
          refine endT_of ?_ ⟨rfl, rfl⟩
          exact (wn [0] [])
theorem c_spec_l09Open {body_1 : List GOp} {r : (List Int) × Bool} (h : g_spec_l09Open body_1 = some r) : Ans Tryd.prog 14 [.one (.imm 2 body_1.length (body_1.flatMap GOp.cs))] [] fun v h1 => v = .tup [.one (.arr 0 0 r.1.length), .one (.bool r.2)] ∧ h1 = [.live ⟨1, r.1.length, r.1.flatMap (eI .i64)⟩] := by
  refine ansK (P := fun _ => Tryd.prog) TrydT_eq (fn := Tryd.f14) Tryd.func14 rfl ⟨by kernel_rfl, rfl, rfl, by kernel_rfl⟩ (by simp) (Weak.refl _ _) ?_
  rw [g_spec_l09Open] at h
  have f1 := (show bldN 0 = 0 from rfl)
  have f2 := (show bldC [] = ([] : List Int).flatMap (eI .i64) from rfl)
  try simp only [↓DN, UP, r1, r2, r3, r4, r5, r6, r7, reduceCtorEq, Tryd.f14, f1, f2]
  obtain ⟨y_3, hy_4, h⟩ := bS h
  refine seqK TrydT_eq (fun p : (List Int) => ⟨[(4, .pv (.one (.arr 0 0 p.length)))], [.live ⟨1, p.length, p.flatMap (eI .i64)⟩]⟩) (fun v => y_3 = .inl v) (by rfl) ?_ ?_
  · try simp only [↓DN, UP, r1, r2, r3, r4, r5, r6, r7, reduceCtorEq, Tryd.f14, f1, f2]
    obtain ⟨y_8, hy_9, hy_4⟩ := bS hy_4
    refine loopK TrydT_eq (fun p : (List Int) × Int => ⟨[(0, .pv (.one (.imm 2 body_1.length (body_1.flatMap GOp.cs)))), (4, .pv (.one (.arr 0 0 p.1.length))), (5, .pv (.one (.int .i64 p.2)))], [.live ⟨1, p.1.length, p.1.flatMap (eI .i64)⟩]⟩) (fun k p => g_spec_l09Open_l0 body_1 k p.1 p.2 = some y_8) (by kernel_rfl) bigK (([] : List Int), 0) (weak_norm (ks := [0, 4, 5]) (π := [0]) (fuel := 9) (by simp only [WL, r1, r2, r3, r4, r5, r6, r7, reduceCtorEq, fWin (eI_ok .i64) (n := 0) (xs := ([] : List Int)) (by simp)])) hy_9 (fun _ h => nomatch (show none = some _ from h)) ?_
    rintro k_10 ⟨vopen_5, i_6⟩ hk_11
    rw [g_spec_l09Open_l0] at hk_11
    try dsimp only at hk_11
    try simp only [↓DN, UP, r1, r2, r3, r4, r5, r6, r7, reduceCtorEq, Tryd.f14]
    refine seqN TrydT_eq rfl ?_
    try simp only [↓DN, UP, r1, r2, r3, r4, r5, r6, r7, reduceCtorEq, Tryd.f14]
    refine stIf hk_11 (fun hb_12 hk_11 => ?_) (fun hb_12 hk_11 => ?_)
    · try simp only [↓DN, UP, r1, r2, r3, r4, r5, r6, r7, reduceCtorEq, Tryd.f14]
      obtain ⟨y_14, hy_15, hk_11⟩ := bS hk_11
      refine seqK TrydT_eq (fun p : (List Int) => ⟨[(0, .pv (.one (.imm 2 body_1.length (body_1.flatMap GOp.cs)))), (4, .pv (.one (.arr 0 0 p.length))), (5, .pv (.one (.int .i64 i_6)))], [.live ⟨1, p.length, p.flatMap (eI .i64)⟩]⟩) (fun v => y_14 = .inl v) (by rfl) ?_ ?_
      · obtain ⟨v_16, hv_16, hy_15⟩ := bS hy_15
        have f3 := (fAt GOp.ok hv_16 (n := body_1.length) (by simp))
        try simp only [↓DN, UP, r1, r2, r3, r4, r5, r6, r7, reduceCtorEq, Tryd.f14, f3]
        obtain ⟨y_18, hy_19, hy_15⟩ := bS hy_15
        refine seqK TrydT_eq (fun p : Bool => ⟨[(0, .pv (.one (.imm 2 body_1.length (body_1.flatMap GOp.cs)))), (4, .pv (.one (.arr 0 0 vopen_5.length))), (5, .pv (.one (.int .i64 i_6))), (6, .pv (.one (.int .i64 v_16.Kind))), (20, .pv (.one (.int .i64 v_16.Kind))), (21, .pv (.one (.bool p)))], [.live ⟨1, vopen_5.length, vopen_5.flatMap (eI .i64)⟩]⟩) (fun v => y_18 = v) (by rfl) ?_ ?_
        · try simp only [↓DN, UP, r1, r2, r3, r4, r5, r6, r7, reduceCtorEq, Tryd.f14, f3]
          refine stIf hy_19 (fun hb_20 hy_19 => ?_) (fun hb_20 hy_19 => ?_)
          · try simp only [↓DN, UP, r1, r2, r3, r4, r5, r6, r7, reduceCtorEq, Tryd.f14, f3]
            obtain rfl := Option.some.inj hy_19
            exact cutT_mk (v_16.Kind == 3) rfl (wn [0, 4, 5, 6, 20, 21] [0])
          · try simp only [↓DN, UP, r1, r2, r3, r4, r5, r6, r7, reduceCtorEq, Tryd.f14, f3]
            refine stIf hy_19 (fun hb_21 hy_19 => ?_) (fun hb_21 hy_19 => ?_)
            · try simp only [↓DN, UP, r1, r2, r3, r4, r5, r6, r7, reduceCtorEq, Tryd.f14, f3]
              obtain rfl := Option.some.inj hy_19
              exact cutT_mk (v_16.Kind == 4) rfl (wn [0, 4, 5, 6, 20, 21] [0])
            · try simp only [↓DN, UP, r1, r2, r3, r4, r5, r6, r7, reduceCtorEq, Tryd.f14, f3]
              obtain rfl := Option.some.inj hy_19
              exact cutT_mk (v_16.Kind == 6) rfl (wn [0, 4, 5, 6, 20, 21] [0])
        · rintro v_17 hp
          replace hp := hp.symm; subst hp
          try dsimp only at hy_15
          try simp only [↓DN, UP, r1, r2, r3, r4, r5, r6, r7, reduceCtorEq, Tryd.f14]
          refine stIf hy_15 (fun hb_22 hy_15 => ?_) (fun hb_22 hy_15 => ?_)
          · obtain ⟨v_23, hv_23, hy_15⟩ := bS hy_15
            have f4 := (show bldN 1 = 1 from rfl)
            have f5 := (show bldC [.int .i64 v_16.Kind] = [v_16.Kind].flatMap (eI .i64) from rfl)
            have f6 := (fWin (eI_ok .i64) (n := 1) (xs := [v_16.Kind]) (by simp))
            have f7 := (fApp hv_23 (n := vopen_5.length) (by simp) (m := 1) (by simp [bsOf]))
            have f8 := (fWin (eI_ok .i64) (n := vopen_5.length) (xs := vopen_5) (by simp))
            have f9 := (fCat (e := (eI .i64)) (ns := [v_16.Kind].flatMap (eI .i64)) hv_23 rfl)
            try simp only [↓DN, UP, r1, r2, r3, r4, r5, r6, r7, reduceCtorEq, Tryd.f14, f4, f5, f6, f7, f8, f9]
            obtain rfl := Option.some.inj hy_15
            exact cutT_mk v_23 rfl (wn [0, 4, 5] [2])
          · try simp only [↓DN, UP, r1, r2, r3, r4, r5, r6, r7, reduceCtorEq, Tryd.f14]
            obtain ⟨y_25, hy_26, hy_15⟩ := bS hy_15
            refine seqK TrydT_eq (fun p : Bool => ⟨[(0, .pv (.one (.imm 2 body_1.length (body_1.flatMap GOp.cs)))), (4, .pv (.one (.arr 0 0 vopen_5.length))), (5, .pv (.one (.int .i64 i_6))), (6, .pv (.one (.int .i64 v_16.Kind))), (29, .pv (.one (.bool p)))], [.live ⟨1, vopen_5.length, vopen_5.flatMap (eI .i64)⟩]⟩) (fun v => y_25 = v) (by rfl) ?_ ?_
            · try simp only [↓DN, UP, r1, r2, r3, r4, r5, r6, r7, reduceCtorEq, Tryd.f14]
              refine stIf hy_26 (fun hb_27 hy_26 => ?_) (fun hb_27 hy_26 => ?_)
              · try simp only [↓DN, UP, r1, r2, r3, r4, r5, r6, r7, reduceCtorEq, Tryd.f14]
                obtain rfl := Option.some.inj hy_26
                exact cutT_mk (v_16.Kind == 5) rfl (wn [0, 4, 5, 6, 29] [0])
              · try simp only [↓DN, UP, r1, r2, r3, r4, r5, r6, r7, reduceCtorEq, Tryd.f14]
                obtain rfl := Option.some.inj hy_26
                exact cutT_mk (v_16.Kind == 7) rfl (wn [0, 4, 5, 6, 29] [0])
            · rintro v_24 hp
              replace hp := hp.symm; subst hp
              try dsimp only at hy_15
              try simp only [↓DN, UP, r1, r2, r3, r4, r5, r6, r7, reduceCtorEq, Tryd.f14]
              refine stIf hy_15 (fun hb_28 hy_15 => ?_) (fun hb_28 hy_15 => ?_)
              · try simp only [↓DN, UP, r1, r2, r3, r4, r5, r6, r7, reduceCtorEq, Tryd.f14]
                refine seqN TrydT_eq rfl ?_
                try simp only [↓DN, UP, r1, r2, r3, r4, r5, r6, r7, reduceCtorEq, Tryd.f14]
                obtain ⟨y_30, hy_31, hy_15⟩ := bS hy_15
                refine seqK TrydT_eq (fun p : Bool => ⟨[(0, .pv (.one (.imm 2 body_1.length (body_1.flatMap GOp.cs)))), (4, .pv (.one (.arr 0 0 vopen_5.length))), (5, .pv (.one (.int .i64 i_6))), (7, .pv (.one (.int .i64 (vopen_5.length : Int)))), (46, .pv (.one (.bool p)))], [.live ⟨1, vopen_5.length, vopen_5.flatMap (eI .i64)⟩]⟩) (fun v => y_30 = v) (by rfl) ?_ ?_
                · try simp only [↓DN, UP, r1, r2, r3, r4, r5, r6, r7, reduceCtorEq, Tryd.f14]
                  refine stIf hy_31 (fun hb_32 hy_31 => ?_) (fun hb_32 hy_31 => ?_)
                  · try simp only [↓DN, UP, r1, r2, r3, r4, r5, r6, r7, reduceCtorEq, Tryd.f14, hb_32]
                    obtain rfl := Option.some.inj hy_31
                    exact cutT_mk true rfl (wn [0, 4, 5, 7, 46] [0])
                  · obtain ⟨v_33, hv_33, hy_31⟩ := bS hy_31
                    have f10 := (fPtr hv_33 (k := 1) (n := vopen_5.length) (by simp))
                    have f11 := (fGet0 (eI_ok .i64) hv_33 (m := 1) (by decide) (by decide))
                    try simp only [↓DN, UP, r1, r2, r3, r4, r5, r6, r7, reduceCtorEq, Tryd.f14, hb_32, f10, f11]
                    obtain rfl := Option.some.inj hy_31
                    exact cutT_mk ((v_33 == 6) != (v_16.Kind == 7)) rfl (wn [0, 4, 5, 7, 46] [0])
                · rintro v_29 hp
                  replace hp := hp.symm; subst hp
                  try dsimp only at hy_15
                  try simp only [↓DN, UP, r1, r2, r3, r4, r5, r6, r7, reduceCtorEq, Tryd.f14]
                  refine stIf hy_15 (fun hb_34 hy_15 => ?_) (fun hb_34 hy_15 => ?_)
                  · obtain rfl := Option.some.inj hy_15
                    try dsimp only at hk_11
                    obtain rfl := Option.some.inj hk_11
                    try dsimp only at hy_4
                    obtain rfl := Option.some.inj hy_4
                    try dsimp only at h
                    try simp only [↓DN, UP, r1, r2, r3, r4, r5, r6, r7, reduceCtorEq, Tryd.f14]
                    obtain rfl := Option.some.inj h
                    refine endT_of ?_ ⟨rfl, rfl⟩
                    exact ((weak_norm (ks := [0]) (π := []) (fuel := 9) (s' := ⟨[(0, .tup [.one (.emp), .one (.bool false)])], []⟩) (by simp only [WL, r1, r2, r3, r4, r5, r6, r7, reduceCtorEq])).trans (weak_le (by simp only [LEb, r1, r2, r3, r4, r5, r6, r7, reduceCtorEq, TL]) (by simp only [LEb, r1, r2, r3, r4, r5, r6, r7, reduceCtorEq, TL])))
                  · obtain ⟨v_35, hv_35, hy_15⟩ := bS hy_15
                    have f12 := (fSubN hv_35 (n := vopen_5.length) (by simp))
                    try simp only [↓DN, UP, r1, r2, r3, r4, r5, r6, r7, reduceCtorEq, Tryd.f14, f12]
                    obtain rfl := Option.some.inj hy_15
                    exact cutT_mk v_35 rfl ((weak_trim 0 0 v_35.length (b := ⟨_, _, _⟩) rfl (fLeW hv_35 (by simp) (by simp)) (by decide)).trans (weak_norm (ks := [0, 4, 5]) (π := [0]) (fuel := 9) (by simp only [trS, trE, trH, trHS, trSV, trP, trC, ML, MB, and_self, r1, r2, r3, r4, r5, r6, r7, reduceCtorEq, TL, TT, fTrim0 (eI_ok .i64) hv_35 (lo := 0) (by simp), fTr (eI_ok .i64)])))
              · try simp only [↓DN, UP, r1, r2, r3, r4, r5, r6, r7, reduceCtorEq, Tryd.f14]
                obtain rfl := Option.some.inj hy_15
                exact cutT_mk vopen_5 rfl (wn [0, 4, 5] [0])
      · rintro vopen_13 hp
        replace hp := hp.symm; subst hp
        try dsimp only at hk_11
        try simp only [↓DN, UP, r1, r2, r3, r4, r5, r6, r7, reduceCtorEq, Tryd.f14]
        exact ⟨(vopen_13, IntKind.wrap .i64 (i_6 + 1)), hk_11, (wn [0, 4, 5] [0])⟩
    · obtain rfl := Option.some.inj hk_11
      try dsimp only at hy_4
      try simp only [↓DN, UP, r1, r2, r3, r4, r5, r6, r7, reduceCtorEq, Tryd.f14]
      obtain rfl := Option.some.inj hy_4
      exact cutT_mk vopen_5 rfl (wn [4] [0])
  · rintro vopen_2 hp
    replace hp := hp.symm; subst hp
    try dsimp only at h
    try simp only [↓DN, UP, r1, r2, r3, r4, r5, r6, r7, reduceCtorEq, Tryd.f14]
    obtain rfl := Option.some.inj h
    refine endT_of ?_ ⟨rfl, rfl⟩
    exact (wn [0] [0])
theorem c_spec_ShapeOk {body_1 : List GOp} {r : Bool} (h : g_spec_ShapeOk body_1 = some r) : Ans Tryd.prog 9 [.one (.imm 2 body_1.length (body_1.flatMap GOp.cs))] [] fun v h1 => v = .pv (.one (.bool r)) ∧ h1 = [] := by
  refine ansK (P := fun _ => Tryd.prog) TrydT_eq (fn := Tryd.f9) Tryd.func9 rfl ⟨by kernel_rfl, rfl, rfl, by kernel_rfl⟩ (by simp) (Weak.refl _ _) ?_
  rw [g_spec_ShapeOk] at h
  try simp only [↓DN, UP, r1, r2, r3, r4, r5, r6, r7, reduceCtorEq, Tryd.f9]
  refine seqN TrydT_eq rfl ?_
  try simp only [↓DN, UP, r1, r2, r3, r4, r5, r6, r7, reduceCtorEq, Tryd.f9]
  refine stIf h (fun hb_2 h => ?_) (fun hb_2 h => ?_)
  · try simp only [↓DN, UP, r1, r2, r3, r4, r5, r6, r7, reduceCtorEq, Tryd.f9]
    obtain rfl := Option.some.inj h
    refine endT_of ?_ ⟨rfl, rfl⟩
    exact (wn [0] [])
  · try simp only [↓DN, UP, r1, r2, r3, r4, r5, r6, r7, reduceCtorEq, Tryd.f9]
    obtain ⟨y_3, hy_4, h⟩ := bS h
    refine seqK TrydT_eq (fun p : Unit => ⟨[(0, .pv (.one (.imm 2 body_1.length (body_1.flatMap GOp.cs))))], []⟩) (fun v => y_3 = .inl v) (by rfl) ?_ ?_
    · try simp only [↓DN, UP, r1, r2, r3, r4, r5, r6, r7, reduceCtorEq, Tryd.f9]
      obtain ⟨y_6, hy_7, hy_4⟩ := bS hy_4
      refine loopK TrydT_eq (fun p : Int => ⟨[(0, .pv (.one (.imm 2 body_1.length (body_1.flatMap GOp.cs)))), (3, .pv (.one (.int .i64 p)))], []⟩) (fun k p => g_spec_ShapeOk_l0 body_1 k p = some y_6) (by kernel_rfl) bigK 0 (wn [0, 3] []) hy_7 (fun _ h => nomatch (show none = some _ from h)) ?_
      rintro k_8 i_5 hk_9
      rw [g_spec_ShapeOk_l0] at hk_9
      try dsimp only at hk_9
      try simp only [↓DN, UP, r1, r2, r3, r4, r5, r6, r7, reduceCtorEq, Tryd.f9]
      refine seqN TrydT_eq rfl ?_
      try simp only [↓DN, UP, r1, r2, r3, r4, r5, r6, r7, reduceCtorEq, Tryd.f9]
      refine stIf hk_9 (fun hb_10 hk_9 => ?_) (fun hb_10 hk_9 => ?_)
      · try simp only [↓DN, UP, r1, r2, r3, r4, r5, r6, r7, reduceCtorEq, Tryd.f9]
        refine seqN TrydT_eq rfl ?_
        obtain ⟨v_11, hv_11, hk_9⟩ := bS hk_9
        obtain ⟨y_12, hy_12, hk_9⟩ := bS hk_9
        have f1 := (fAt GOp.ok hv_11 (n := body_1.length) (by simp))
        try simp only [↓DN, UP, r1, r2, r3, r4, r5, r6, r7, reduceCtorEq, Tryd.f9, f1]
        refine cG [] (c_spec_l09Op hy_12) (hK := fun rd b => ?_)
        try simp only [↓DN, UP, r1, r2, r3, r4, r5, r6, r7, reduceCtorEq, Tryd.f9, f1]
        refine stIf hk_9 (fun hb_13 hk_9 => ?_) (fun hb_13 hk_9 => ?_)
        · obtain rfl := Option.some.inj hk_9
          try dsimp only at hy_4
          obtain rfl := Option.some.inj hy_4
          try dsimp only at h
          try simp only [↓DN, UP, r1, r2, r3, r4, r5, r6, r7, reduceCtorEq, Tryd.f9, f1]
          obtain rfl := Option.some.inj h
          refine endT_of ?_ ⟨rfl, rfl⟩
          exact (wn [0] [])
        · try simp only [↓DN, UP, r1, r2, r3, r4, r5, r6, r7, reduceCtorEq, Tryd.f9, f1]
          exact ⟨IntKind.wrap .i64 (i_5 + 1), hk_9, (wn [0, 3] [])⟩
      · obtain rfl := Option.some.inj hk_9
        try dsimp only at hy_4
        try simp only [↓DN, UP, r1, r2, r3, r4, r5, r6, r7, reduceCtorEq, Tryd.f9]
        obtain rfl := Option.some.inj hy_4
        exact cutT_mk () (by trivial) (wn [0] [])
    · rintro _ hp
      replace hp := hp.symm; subst hp
      try dsimp only at h
      obtain ⟨y_14, hy_14, h⟩ := bS h
      try simp only [↓DN, UP, r1, r2, r3, r4, r5, r6, r7, reduceCtorEq, Tryd.f9]
      refine cG [] (c_spec_l09Open hy_14) (hK := fun rd b => ?_)
      try simp only [↓DN, UP, r1, r2, r3, r4, r5, r6, r7, reduceCtorEq, Tryd.f9]
      refine seqN TrydT_eq rfl ?_
      try simp only [↓DN, UP, r1, r2, r3, r4, r5, r6, r7, reduceCtorEq, Tryd.f9]
      refine stIf h (fun hb_15 h => ?_) (fun hb_15 h => ?_)
      · try simp only [↓DN, UP, r1, r2, r3, r4, r5, r6, r7, reduceCtorEq, Tryd.f9, hb_15]
        obtain rfl := Option.some.inj h
        refine endT_of ?_ ⟨rfl, rfl⟩
        exact (wn [0] [])
      · try simp only [↓DN, UP, r1, r2, r3, r4, r5, r6, r7, reduceCtorEq, Tryd.f9, hb_15]
        obtain rfl := Option.some.inj h
        refine endT_of ?_ ⟨rfl, rfl⟩
        exact (wn [0] [])
theorem c_spec_Falls {body_1 : List GOp} {r : Bool} (h : g_spec_Falls body_1 = some r) : Ans Tryd.prog 5 [.one (.imm 2 body_1.length (body_1.flatMap GOp.cs))] [] fun v h1 => v = .pv (.one (.bool r)) ∧ h1 = [] := by
  refine ansK (P := fun _ => Tryd.prog) TrydT_eq (fn := Tryd.f5) Tryd.func5 rfl ⟨by kernel_rfl, rfl, rfl, by kernel_rfl⟩ (by simp) (Weak.refl _ _) ?_
  rw [g_spec_Falls] at h
  try simp only [↓DN, UP, r1, r2, r3, r4, r5, r6, r7, reduceCtorEq, Tryd.f5]
  refine seqN TrydT_eq rfl ?_
  obtain ⟨y_2, hy_2, h⟩ := bS h
  try simp only [↓DN, UP, r1, r2, r3, r4, r5, r6, r7, reduceCtorEq, Tryd.f5]
  refine cG [] (c_spec_ShapeOk hy_2) (hK := fun rd b => ?_)
  try simp only [↓DN, UP, r1, r2, r3, r4, r5, r6, r7, reduceCtorEq, Tryd.f5]
  refine stIf h (fun hb_3 h => ?_) (fun hb_3 h => ?_)
  · try simp only [↓DN, UP, r1, r2, r3, r4, r5, r6, r7, reduceCtorEq, Tryd.f5, hb_3]
    refine stIf h (fun hb_4 h => ?_) (fun hb_4 h => ?_)
    · try simp only [↓DN, UP, r1, r2, r3, r4, r5, r6, r7, reduceCtorEq, Tryd.f5, hb_3, hb_4]
      obtain rfl := Option.some.inj h
      refine endT_of ?_ ⟨rfl, rfl⟩
      exact (wn [0] [])
    · obtain ⟨v_5, hv_5, h⟩ := bS h
      have f1 := (fAt GOp.ok hv_5 (n := body_1.length) (by simp))
      try simp only [↓DN, UP, r1, r2, r3, r4, r5, r6, r7, reduceCtorEq, Tryd.f5, hb_3, hb_4, f1]
      obtain rfl := Option.some.inj h
      refine endT_of ?_ ⟨rfl, rfl⟩
      exact (wn [0] [])
  · try simp only [↓DN, UP, r1, r2, r3, r4, r5, r6, r7, reduceCtorEq, Tryd.f5, hb_3]
    obtain rfl := Option.some.inj h
    refine endT_of ?_ ⟨rfl, rfl⟩
    exact (wn [0] [])
theorem c_strings_FieldsFunc_unicode_IsSpace {s_1 : Bs} {r : (List Bs)} (h : g_strings_FieldsFunc_unicode_IsSpace s_1 = some r) : Ans Tryd.prog 24 [.one (.str s_1), .one (.fn 25 [])] [] fun v h1 => v = .pv (.one (.arr 0 0 r.length)) ∧ h1 = [.live ⟨1, r.length, r.flatMap eS⟩] := by
  refine ansK (P := fun _ => Tryd.prog) TrydT_eq (fn := Tryd.f24) Tryd.func24 rfl ⟨by kernel_rfl, rfl, rfl, by kernel_rfl⟩ (by simp) (Weak.refl _ _) ?_
  rw [g_strings_FieldsFunc_unicode_IsSpace] at h
  exact nomatch h
theorem c_strings_Fields {s_1 : Bs} {r : (List Bs)} (h : g_strings_Fields s_1 = some r) : Ans Tryd.prog 23 [.one (.str s_1)] [] fun v h1 => v = .pv (.one (.arr 0 0 r.length)) ∧ h1 = [.live ⟨1, r.length, r.flatMap eS⟩] := by
  refine ansK (P := fun _ => Tryd.prog) TrydT_eq (fn := Tryd.f23) Tryd.func23 rfl ⟨by kernel_rfl, rfl, rfl, by kernel_rfl⟩ (by simp) (Weak.refl _ _) ?_
  rw [g_strings_Fields] at h
  try simp only [↓DN, UP, r1, r2, r3, r4, r5, r6, r7, reduceCtorEq, Tryd.f23]
  obtain ⟨y_4, hy_5, h⟩ := bS h
  refine seqK TrydT_eq (fun p : Int × Int => ⟨[(0, .pv (.one (.str s_1))), (3, .pv (.one (.int .i64 p.1))), (5, .pv (.one (.int .u8 p.2)))], []⟩) (fun v => y_4 = v) (by rfl) ?_ ?_
  · try simp only [↓DN, UP, r1, r2, r3, r4, r5, r6, r7, reduceCtorEq, Tryd.f23]
    obtain ⟨y_12, hy_13, hy_5⟩ := bS hy_5
    refine loopK TrydT_eq (fun p : Int × Int × Int × Int => ⟨[(0, .pv (.one (.str s_1))), (3, .pv (.one (.int .i64 p.1))), (4, .pv (.one (.int .i64 p.2.1))), (5, .pv (.one (.int .u8 p.2.2.1))), (6, .pv (.one (.int .i64 p.2.2.2)))], []⟩) (fun k p => g_strings_Fields_l0 s_1 k p.1 p.2.1 p.2.2.1 p.2.2.2 = some y_12) (by kernel_rfl) bigK (0, 1, 0, 0) (wn [0, 3, 4, 5, 6] []) hy_13 (fun _ h => nomatch (show none = some _ from h)) ?_
    rintro k_14 ⟨n_6, wasSpace_7, setBits_8, i_9⟩ hk_15
    rw [g_strings_Fields_l0] at hk_15
    try dsimp only at hk_15
    try simp only [↓DN, UP, r1, r2, r3, r4, r5, r6, r7, reduceCtorEq, Tryd.f23]
    refine seqN TrydT_eq rfl ?_
    try simp only [↓DN, UP, r1, r2, r3, r4, r5, r6, r7, reduceCtorEq, Tryd.f23]
    refine stIf hk_15 (fun hb_16 hk_15 => ?_) (fun hb_16 hk_15 => ?_)
    · try simp only [↓DN, UP, r1, r2, r3, r4, r5, r6, r7, reduceCtorEq, Tryd.f23]
      refine seqN TrydT_eq rfl ?_
      obtain ⟨v_17, hv_17, hk_15⟩ := bS hk_15
      obtain ⟨v_18, hv_18, hk_15⟩ := bS hk_15
      have f1 := (fAt (eI_ok .u8) hv_18 (n := 256) (by rfl))
      try simp only [↓DN, UP, r1, r2, r3, r4, r5, r6, r7, reduceCtorEq, Tryd.f23, hv_17, ev_g, glob_0, f1]
      exact ⟨(IntKind.wrap .i64 (n_6 + (andI .i64 wasSpace_7 (notI .i64 (IntKind.wrap .i64 v_18)))), IntKind.wrap .i64 v_18, orI .u8 setBits_8 v_17, IntKind.wrap .i64 (i_9 + 1)), hk_15, (wn [0, 3, 4, 5, 6] [])⟩
    · obtain rfl := Option.some.inj hk_15
      try dsimp only at hy_5
      try simp only [↓DN, UP, r1, r2, r3, r4, r5, r6, r7, reduceCtorEq, Tryd.f23]
      obtain rfl := Option.some.inj hy_5
      exact cutT_mk (n_6, setBits_8) rfl (wn [0, 3, 5] [])
  · rintro ⟨n_2, setBits_3⟩ hp
    replace hp := hp.symm; subst hp
    try dsimp only at h
    try simp only [↓DN, UP, r1, r2, r3, r4, r5, r6, r7, reduceCtorEq, Tryd.f23]
    refine seqN TrydT_eq rfl ?_
    try simp only [↓DN, UP, r1, r2, r3, r4, r5, r6, r7, reduceCtorEq, Tryd.f23]
    refine stIf h (fun hb_19 h => ?_) (fun hb_19 h => ?_)
    · obtain ⟨y_20, hy_20, h⟩ := bS h
      try simp only [↓DN, UP, r1, r2, r3, r4, r5, r6, r7, reduceCtorEq, Tryd.f23]
      refine cG [] (c_strings_FieldsFunc_unicode_IsSpace hy_20) (hK := fun rd b => ?_)
      try simp only [↓DN, UP, r1, r2, r3, r4, r5, r6, r7, reduceCtorEq, Tryd.f23]
      obtain rfl := Option.some.inj h
      refine endT_of ?_ ⟨rfl, rfl⟩
      exact (wn [0] [0])
    · obtain ⟨v_21, hv_21, h⟩ := bS h
      have f2 := (fMk hv_21)
      have f3 := (fMkC (e := eS) (ns := [.str []]) hv_21 rfl)
      try simp only [↓DN, UP, r1, r2, r3, r4, r5, r6, r7, reduceCtorEq, Tryd.f23, f2, f3]
      obtain ⟨y_24, hy_25, h⟩ := bS h
      refine seqK TrydT_eq (fun p : Int => ⟨[(0, .pv (.one (.str s_1))), (9, .pv (.one (.arr 0 0 v_21.length))), (10, .pv (.one (.int .i64 0))), (12, .pv (.one (.int .i64 p)))], [.live ⟨1, v_21.length, v_21.flatMap eS⟩]⟩) (fun v => y_24 = v) (by rfl) ?_ ?_
      · try simp only [↓DN, UP, r1, r2, r3, r4, r5, r6, r7, reduceCtorEq, Tryd.f23, f2, f3]
        refine loopK TrydT_eq (fun p : Int => ⟨[(0, .pv (.one (.str s_1))), (9, .pv (.one (.arr 0 0 v_21.length))), (10, .pv (.one (.int .i64 0))), (12, .pv (.one (.int .i64 p)))], [.live ⟨1, v_21.length, v_21.flatMap eS⟩]⟩) (fun k p => g_strings_Fields_l1 s_1 k p = some y_24) (by kernel_rfl) bigK 0 (wn [0, 9, 10, 12] [0]) hy_25 (fun _ h => nomatch (show none = some _ from h)) ?_
        rintro k_26 i_22 hk_27
        rw [g_strings_Fields_l1] at hk_27
        try dsimp only at hk_27
        try simp only [↓DN, UP, r1, r2, r3, r4, r5, r6, r7, reduceCtorEq, Tryd.f23]
        refine seqN TrydT_eq rfl ?_
        try simp only [↓DN, UP, r1, r2, r3, r4, r5, r6, r7, reduceCtorEq, Tryd.f23]
        obtain ⟨y_29, hy_30, hk_27⟩ := bS hk_27
        refine seqK TrydT_eq (fun p : Bool => ⟨[(0, .pv (.one (.str s_1))), (9, .pv (.one (.arr 0 0 v_21.length))), (10, .pv (.one (.int .i64 0))), (12, .pv (.one (.int .i64 i_22))), (53, .pv (.one (.bool p)))], [.live ⟨1, v_21.length, v_21.flatMap eS⟩]⟩) (fun v => y_29 = v) (by rfl) ?_ ?_
        · try simp only [↓DN, UP, r1, r2, r3, r4, r5, r6, r7, reduceCtorEq, Tryd.f23]
          refine stIf hy_30 (fun hb_31 hy_30 => ?_) (fun hb_31 hy_30 => ?_)
          · obtain ⟨v_32, hv_32, hy_30⟩ := bS hy_30
            obtain ⟨v_33, hv_33, hy_30⟩ := bS hy_30
            have f4 := (fAt (eI_ok .u8) hv_33 (n := 256) (by rfl))
            try simp only [↓DN, UP, r1, r2, r3, r4, r5, r6, r7, reduceCtorEq, Tryd.f23, hb_31, hv_32, ev_g, glob_0, f4]
            obtain rfl := Option.some.inj hy_30
            exact cutT_mk (v_33 != 0) rfl (wn [0, 9, 10, 12, 53] [0])
          · try simp only [↓DN, UP, r1, r2, r3, r4, r5, r6, r7, reduceCtorEq, Tryd.f23, hb_31]
            obtain rfl := Option.some.inj hy_30
            exact cutT_mk false rfl (wn [0, 9, 10, 12, 53] [0])
        · rintro v_28 hp
          replace hp := hp.symm; subst hp
          try dsimp only at hk_27
          try simp only [↓DN, UP, r1, r2, r3, r4, r5, r6, r7, reduceCtorEq, Tryd.f23]
          refine stIf hk_27 (fun hb_34 hk_27 => ?_) (fun hb_34 hk_27 => ?_)
          · try simp only [↓DN, UP, r1, r2, r3, r4, r5, r6, r7, reduceCtorEq, Tryd.f23]
            exact ⟨IntKind.wrap .i64 (i_22 + 1), hk_27, (wn [0, 9, 10, 12] [0])⟩
          · try simp only [↓DN, UP, r1, r2, r3, r4, r5, r6, r7, reduceCtorEq, Tryd.f23]
            obtain rfl := Option.some.inj hk_27
            exact cutT_mk i_22 rfl (wn [0, 9, 10, 12] [0])
      · rintro i_23 hp
        replace hp := hp.symm; subst hp
        try dsimp only at h
        try simp only [↓DN, UP, r1, r2, r3, r4, r5, r6, r7, reduceCtorEq, Tryd.f23]
        obtain ⟨y_42, hy_43, h⟩ := bS h
        refine seqK TrydT_eq (fun p : (List Bs) × Int × Int => ⟨[(0, .pv (.one (.str s_1))), (9, .pv (.one (.arr 0 0 p.1.length))), (10, .pv (.one (.int .i64 p.2.1))), (11, .pv (.one (.int .i64 p.2.2)))], [.live ⟨1, p.1.length, p.1.flatMap eS⟩]⟩) (fun v => y_42 = v) (by rfl) ?_ ?_
        · try simp only [↓DN, UP, r1, r2, r3, r4, r5, r6, r7, reduceCtorEq, Tryd.f23]
          refine loopK TrydT_eq (fun p : (List Bs) × Int × Int × Int => ⟨[(0, .pv (.one (.str s_1))), (9, .pv (.one (.arr 0 0 p.1.length))), (10, .pv (.one (.int .i64 p.2.1))), (11, .pv (.one (.int .i64 p.2.2.1))), (12, .pv (.one (.int .i64 p.2.2.2)))], [.live ⟨1, p.1.length, p.1.flatMap eS⟩]⟩) (fun k p => g_strings_Fields_l2 s_1 k p.1 p.2.1 p.2.2.1 p.2.2.2 = some y_42) (by kernel_rfl) bigK (v_21, 0, i_23, i_23) (wn [0, 9, 10, 11, 12] [0]) hy_43 (fun _ h => nomatch (show none = some _ from h)) ?_
          rintro k_44 ⟨a_35, na_36, fieldStart_37, i_38⟩ hk_45
          rw [g_strings_Fields_l2] at hk_45
          try dsimp only at hk_45
          try simp only [↓DN, UP, r1, r2, r3, r4, r5, r6, r7, reduceCtorEq, Tryd.f23]
          refine seqN TrydT_eq rfl ?_
          try simp only [↓DN, UP, r1, r2, r3, r4, r5, r6, r7, reduceCtorEq, Tryd.f23]
          refine stIf hk_45 (fun hb_46 hk_45 => ?_) (fun hb_46 hk_45 => ?_)
          · try simp only [↓DN, UP, r1, r2, r3, r4, r5, r6, r7, reduceCtorEq, Tryd.f23]
            refine seqN TrydT_eq rfl ?_
            obtain ⟨v_47, hv_47, hk_45⟩ := bS hk_45
            obtain ⟨v_48, hv_48, hk_45⟩ := bS hk_45
            have f5 := (fAt (eI_ok .u8) hv_48 (n := 256) (by rfl))
            try simp only [↓DN, UP, r1, r2, r3, r4, r5, r6, r7, reduceCtorEq, Tryd.f23, hv_47, ev_g, glob_0, f5]
            refine stIf hk_45 (fun hb_49 hk_45 => ?_) (fun hb_49 hk_45 => ?_)
            · try simp only [↓DN, UP, r1, r2, r3, r4, r5, r6, r7, reduceCtorEq, Tryd.f23, hv_47, ev_g, glob_0, f5]
              exact ⟨(a_35, na_36, fieldStart_37, IntKind.wrap .i64 (i_38 + 1)), hk_45, (wn [0, 9, 10, 11, 12] [0])⟩
            · obtain ⟨v_50, hv_50, hk_45⟩ := bS hk_45
              obtain ⟨v_51, hv_51, hk_45⟩ := bS hk_45
              have f6 := (fPtr hv_51 (k := 1) (n := a_35.length) (by simp))
              have f7 := (fPut0 eS_ok hv_51 (ns := [.str v_50]) (y := v_50) rfl)
              try simp only [↓DN, UP, r1, r2, r3, r4, r5, r6, r7, reduceCtorEq, Tryd.f23, hv_47, ev_g, glob_0, f5, hv_50, f6, f7]
              obtain ⟨y_54, hy_55, hk_45⟩ := bS hk_45
              refine seqK TrydT_eq (fun p : Int => ⟨[(0, .pv (.one (.str s_1))), (9, .pv (.one (.arr 0 0 ((a_35.set na_36.toNat v_50).length)))), (10, .pv (.one (.int .i64 (IntKind.wrap .i64 (na_36 + 1))))), (12, .pv (.one (.int .i64 p)))], [.live ⟨1, (a_35.set na_36.toNat v_50).length, (a_35.set na_36.toNat v_50).flatMap eS⟩]⟩) (fun v => y_54 = v) (by rfl) ?_ ?_
              · try simp only [↓DN, UP, r1, r2, r3, r4, r5, r6, r7, reduceCtorEq, Tryd.f23, hv_47, ev_g, glob_0, f5, hv_50, f6, f7]
                refine loopK TrydT_eq (fun p : Int => ⟨[(0, .pv (.one (.str s_1))), (9, .pv (.one (.arr 0 0 a_35.length))), (10, .pv (.one (.int .i64 (IntKind.wrap .i64 (na_36 + 1))))), (12, .pv (.one (.int .i64 p)))], [.live ⟨1, a_35.length, (a_35.set na_36.toNat v_50).flatMap eS⟩]⟩) (fun k p => g_strings_Fields_l3 s_1 k p = some y_54) (by kernel_rfl) bigK (IntKind.wrap .i64 (i_38 + 1)) (weak_norm (ks := [0, 9, 10, 12]) (π := [0]) (fuel := 9) (by simp only [WL, r1, r2, r3, r4, r5, r6, r7, reduceCtorEq, fWin eS_ok (n := a_35.length) (xs := a_35.set na_36.toNat v_50) (by simp)])) hy_55 (fun _ h => nomatch (show none = some _ from h)) ?_
                rintro k_56 i_52 hk_57
                rw [g_strings_Fields_l3] at hk_57
                try dsimp only at hk_57
                try simp only [↓DN, UP, r1, r2, r3, r4, r5, r6, r7, reduceCtorEq, Tryd.f23]
                refine seqN TrydT_eq rfl ?_
                try simp only [↓DN, UP, r1, r2, r3, r4, r5, r6, r7, reduceCtorEq, Tryd.f23]
                obtain ⟨y_59, hy_60, hk_57⟩ := bS hk_57
                refine seqK TrydT_eq (fun p : Bool => ⟨[(0, .pv (.one (.str s_1))), (9, .pv (.one (.arr 0 0 ((a_35.set na_36.toNat v_50).length)))), (10, .pv (.one (.int .i64 (IntKind.wrap .i64 (na_36 + 1))))), (12, .pv (.one (.int .i64 i_52))), (91, .pv (.one (.bool p)))], [.live ⟨1, (a_35.set na_36.toNat v_50).length, (a_35.set na_36.toNat v_50).flatMap eS⟩]⟩) (fun v => y_59 = v) (by rfl) ?_ ?_
                · try simp only [↓DN, UP, r1, r2, r3, r4, r5, r6, r7, reduceCtorEq, Tryd.f23]
                  refine stIf hy_60 (fun hb_61 hy_60 => ?_) (fun hb_61 hy_60 => ?_)
                  · obtain ⟨v_62, hv_62, hy_60⟩ := bS hy_60
                    obtain ⟨v_63, hv_63, hy_60⟩ := bS hy_60
                    have f8 := (fAt (eI_ok .u8) hv_63 (n := 256) (by rfl))
                    try simp only [↓DN, UP, r1, r2, r3, r4, r5, r6, r7, reduceCtorEq, Tryd.f23, hb_61, hv_62, ev_g, glob_0, f8]
                    obtain rfl := Option.some.inj hy_60
                    exact cutT_mk (v_63 != 0) rfl (weak_norm (ks := [0, 9, 10, 12, 91]) (π := [0]) (fuel := 9) (by simp only [WL, r1, r2, r3, r4, r5, r6, r7, reduceCtorEq, fWin eS_ok (n := a_35.length) (xs := a_35.set na_36.toNat v_50) (by simp)]))
                  · try simp only [↓DN, UP, r1, r2, r3, r4, r5, r6, r7, reduceCtorEq, Tryd.f23, hb_61]
                    obtain rfl := Option.some.inj hy_60
                    exact cutT_mk false rfl (weak_norm (ks := [0, 9, 10, 12, 91]) (π := [0]) (fuel := 9) (by simp only [WL, r1, r2, r3, r4, r5, r6, r7, reduceCtorEq, fWin eS_ok (n := a_35.length) (xs := a_35.set na_36.toNat v_50) (by simp)]))
                · rintro v_58 hp
                  replace hp := hp.symm; subst hp
                  try dsimp only at hk_57
                  try simp only [↓DN, UP, r1, r2, r3, r4, r5, r6, r7, reduceCtorEq, Tryd.f23]
                  refine stIf hk_57 (fun hb_64 hk_57 => ?_) (fun hb_64 hk_57 => ?_)
                  · try simp only [↓DN, UP, r1, r2, r3, r4, r5, r6, r7, reduceCtorEq, Tryd.f23]
                    exact ⟨IntKind.wrap .i64 (i_52 + 1), hk_57, (wn [0, 9, 10, 12] [0])⟩
                  · try simp only [↓DN, UP, r1, r2, r3, r4, r5, r6, r7, reduceCtorEq, Tryd.f23]
                    obtain rfl := Option.some.inj hk_57
                    exact cutT_mk i_52 rfl (wn [0, 9, 10, 12] [0])
              · rintro i_53 hp
                replace hp := hp.symm; subst hp
                try dsimp only at hk_45
                try simp only [↓DN, UP, r1, r2, r3, r4, r5, r6, r7, reduceCtorEq, Tryd.f23]
                exact ⟨(a_35.set na_36.toNat v_50, IntKind.wrap .i64 (na_36 + 1), i_53, i_53), hk_45, (wn [0, 9, 10, 11, 12] [0])⟩
          · try simp only [↓DN, UP, r1, r2, r3, r4, r5, r6, r7, reduceCtorEq, Tryd.f23]
            obtain rfl := Option.some.inj hk_45
            exact cutT_mk (a_35, na_36, fieldStart_37) rfl (wn [0, 9, 10, 11] [0])
        · rintro ⟨a_39, na_40, fieldStart_41⟩ hp
          replace hp := hp.symm; subst hp
          try dsimp only at h
          try simp only [↓DN, UP, r1, r2, r3, r4, r5, r6, r7, reduceCtorEq, Tryd.f23]
          obtain ⟨y_66, hy_67, h⟩ := bS h
          refine seqK TrydT_eq (fun p : (List Bs) => ⟨[(9, .pv (.one (.arr 0 0 p.length)))], [.live ⟨1, p.length, p.flatMap eS⟩]⟩) (fun v => y_66 = v) (by rfl) ?_ ?_
          · try simp only [↓DN, UP, r1, r2, r3, r4, r5, r6, r7, reduceCtorEq, Tryd.f23]
            refine stIf hy_67 (fun hb_68 hy_67 => ?_) (fun hb_68 hy_67 => ?_)
            · obtain ⟨v_69, hv_69, hy_67⟩ := bS hy_67
              obtain ⟨v_70, hv_70, hy_67⟩ := bS hy_67
              have f9 := (fPtr hv_70 (k := 1) (n := a_39.length) (by simp))
              have f10 := (fPut0 eS_ok hv_70 (ns := [.str v_69]) (y := v_69) rfl)
              try simp only [↓DN, UP, r1, r2, r3, r4, r5, r6, r7, reduceCtorEq, Tryd.f23, hv_69, f9, f10]
              obtain rfl := Option.some.inj hy_67
              exact cutT_mk (a_39.set na_40.toNat v_69) rfl (weak_norm (ks := [9]) (π := [0]) (fuel := 9) (by simp only [WL, r1, r2, r3, r4, r5, r6, r7, reduceCtorEq, fWin eS_ok (n := a_39.length) (xs := a_39.set na_40.toNat v_69) (by simp)]))
            · try simp only [↓DN, UP, r1, r2, r3, r4, r5, r6, r7, reduceCtorEq, Tryd.f23]
              obtain rfl := Option.some.inj hy_67
              exact cutT_mk a_39 rfl (wn [9] [0])
          · rintro a_65 hp
            replace hp := hp.symm; subst hp
            try dsimp only at h
            try simp only [↓DN, UP, r1, r2, r3, r4, r5, r6, r7, reduceCtorEq, Tryd.f23]
            obtain rfl := Option.some.inj h
            refine endT_of ?_ ⟨rfl, rfl⟩
            exact (wn [0] [0])
theorem c_impl_prims {r : (List Bs)} (h : g_impl_prims = some r) : Ans Tryd.prog 22 [] [] fun v h1 => v = .pv (.one (.arr 0 0 r.length)) ∧ h1 = [.live ⟨1, r.length, r.flatMap eS⟩] := by
  refine ansK (P := fun _ => Tryd.prog) TrydT_eq (fn := Tryd.f22) Tryd.func22 rfl ⟨by kernel_rfl, rfl, rfl, by kernel_rfl⟩ (by simp) (Weak.refl _ _) ?_
  rw [g_impl_prims] at h
  obtain ⟨y_1, hy_1, h⟩ := bS h
  try simp only [↓DN, UP, r1, r2, r3, r4, r5, r6, r7, reduceCtorEq, Tryd.f22]
  refine cG [] (c_strings_Fields hy_1) (hl := by rfl) (hK := fun rd b => ?_)
  try simp only [↓DN, UP, r1, r2, r3, r4, r5, r6, r7, reduceCtorEq, Tryd.f22]
  obtain rfl := Option.some.inj h
  refine endT_of ?_ ⟨rfl, rfl⟩
  exact (wn [0] [0])
theorem c_impl_within {n_1 : Int} {low_2 : Int} {high_3 : Int} {r : Bool} (h : g_impl_within n_1 low_2 high_3 = some r) : Ans Tryd.prog 21 [.one (.int .i64 n_1), .one (.int .i64 low_2), .one (.int .i64 high_3)] [] fun v h1 => v = .pv (.one (.bool r)) ∧ h1 = [] := by
  refine ansK (P := fun _ => Tryd.prog) TrydT_eq (fn := Tryd.f21) Tryd.func21 rfl ⟨by kernel_rfl, rfl, rfl, by kernel_rfl⟩ (by simp) (Weak.refl _ _) ?_
  rw [g_impl_within] at h
  try simp only [↓DN, UP, r1, r2, r3, r4, r5, r6, r7, reduceCtorEq, Tryd.f21]
  refine seqN TrydT_eq rfl ?_
  try simp only [↓DN, UP, r1, r2, r3, r4, r5, r6, r7, reduceCtorEq, Tryd.f21]
  refine stIf h (fun hb_4 h => ?_) (fun hb_4 h => ?_)
  · try simp only [↓DN, UP, r1, r2, r3, r4, r5, r6, r7, reduceCtorEq, Tryd.f21, hb_4]
    obtain rfl := Option.some.inj h
    refine endT_of ?_ ⟨rfl, rfl⟩
    exact (wn [0] [])
  · try simp only [↓DN, UP, r1, r2, r3, r4, r5, r6, r7, reduceCtorEq, Tryd.f21, hb_4]
    obtain rfl := Option.some.inj h
    refine endT_of ?_ ⟨rfl, rfl⟩
    exact (wn [0] [])
theorem c_impl_PrimName {k_1 : Int} {r : Bs} (h : g_impl_PrimName k_1 = some r) : Ans Tryd.prog 20 [.one (.int .i64 k_1)] [] fun v h1 => v = .pv (.one (.str r)) ∧ h1 = [] := by
  refine ansK (P := fun _ => Tryd.prog) TrydT_eq (fn := Tryd.f20) Tryd.func20 rfl ⟨by kernel_rfl, rfl, rfl, by kernel_rfl⟩ (by simp) (Weak.refl _ _) ?_
  rw [g_impl_PrimName] at h
  try simp only [↓DN, UP, r1, r2, r3, r4, r5, r6, r7, reduceCtorEq, Tryd.f20]
  refine seqN TrydT_eq rfl ?_
  obtain ⟨y_2, hy_2, h⟩ := bS h
  try simp only [↓DN, UP, r1, r2, r3, r4, r5, r6, r7, reduceCtorEq, Tryd.f20]
  refine cG [] (c_impl_prims hy_2) (hK := fun rd b => ?_)
  obtain ⟨y_3, hy_3, h⟩ := bS h
  try simp only [↓DN, UP, r1, r2, r3, r4, r5, r6, r7, reduceCtorEq, Tryd.f20]
  refine cG [] (c_impl_within hy_3) (hK := fun rd b => ?_)
  try simp only [↓DN, UP, r1, r2, r3, r4, r5, r6, r7, reduceCtorEq, Tryd.f20]
  refine stIf h (fun hb_4 h => ?_) (fun hb_4 h => ?_)
  · obtain ⟨v_5, hv_5, h⟩ := bS h
    have f1 := (fPtr hv_5 (k := 1) (n := y_2.length) (by simp))
    have f2 := (fGet0 eS_ok hv_5 (m := 1) (by decide) (by decide))
    try simp only [↓DN, UP, r1, r2, r3, r4, r5, r6, r7, reduceCtorEq, Tryd.f20, f1, f2]
    obtain rfl := Option.some.inj h
    refine endT_of ?_ ⟨rfl, rfl⟩
    exact (wn [0] [])
  · try simp only [↓DN, UP, r1, r2, r3, r4, r5, r6, r7, reduceCtorEq, Tryd.f20]
    obtain rfl := Option.some.inj h
    refine endT_of ?_ ⟨rfl, rfl⟩
    exact (wn [0] [])
theorem c_impl_opOk {o_1 : GOp} {r : Bool} (h : g_impl_opOk o_1 = some r) : Ans Tryd.prog 18 [.agg [.int .i64 o_1.Kind, .int .i32 o_1.N]] [] fun v h1 => v = .pv (.one (.bool r)) ∧ h1 = [] := by
  refine ansK (P := fun _ => Tryd.prog) TrydT_eq (fn := Tryd.f18) Tryd.func18 rfl ⟨by kernel_rfl, rfl, rfl, by kernel_rfl⟩ (by simp) (Weak.refl _ _) ?_
  rw [g_impl_opOk] at h
  try simp only [↓DN, UP, r1, r2, r3, r4, r5, r6, r7, reduceCtorEq, Tryd.f18]
  refine seqN TrydT_eq rfl ?_
  try simp only [↓DN, UP, r1, r2, r3, r4, r5, r6, r7, reduceCtorEq, Tryd.f18]
  refine stIf h (fun hb_2 h => ?_) (fun hb_2 h => ?_)
  · try simp only [↓DN, UP, r1, r2, r3, r4, r5, r6, r7, reduceCtorEq, Tryd.f18]
    obtain rfl := Option.some.inj h
    refine endT_of ?_ ⟨rfl, rfl⟩
    exact (wn [0] [])
  · try simp only [↓DN, UP, r1, r2, r3, r4, r5, r6, r7, reduceCtorEq, Tryd.f18]
    refine stIf h (fun hb_3 h => ?_) (fun hb_3 h => ?_)
    · obtain ⟨y_4, hy_4, h⟩ := bS h
      try simp only [↓DN, UP, r1, r2, r3, r4, r5, r6, r7, reduceCtorEq, Tryd.f18]
      refine cG [] (c_impl_PrimName hy_4) (hK := fun rd b => ?_)
      try simp only [↓DN, UP, r1, r2, r3, r4, r5, r6, r7, reduceCtorEq, Tryd.f18]
      obtain rfl := Option.some.inj h
      refine endT_of ?_ ⟨rfl, rfl⟩
      exact (wn [0] [])
    · try simp only [↓DN, UP, r1, r2, r3, r4, r5, r6, r7, reduceCtorEq, Tryd.f18]
      refine stIf h (fun hb_5 h => ?_) (fun hb_5 h => ?_)
      · obtain ⟨y_6, hy_6, h⟩ := bS h
        try simp only [↓DN, UP, r1, r2, r3, r4, r5, r6, r7, reduceCtorEq, Tryd.f18]
        refine cG [] (c_impl_within hy_6) (hK := fun rd b => ?_)
        try simp only [↓DN, UP, r1, r2, r3, r4, r5, r6, r7, reduceCtorEq, Tryd.f18]
        obtain rfl := Option.some.inj h
        refine endT_of ?_ ⟨rfl, rfl⟩
        exact (wn [0] [])
      · try simp only [↓DN, UP, r1, r2, r3, r4, r5, r6, r7, reduceCtorEq, Tryd.f18]
        refine seqN TrydT_eq rfl ?_
        obtain ⟨y_7, hy_7, h⟩ := bS h
        try simp only [↓DN, UP, r1, r2, r3, r4, r5, r6, r7, reduceCtorEq, Tryd.f18]
        refine cG [] (c_impl_within hy_7) (hK := fun rd b => ?_)
        try simp only [↓DN, UP, r1, r2, r3, r4, r5, r6, r7, reduceCtorEq, Tryd.f18]
        refine stIf h (fun hb_8 h => ?_) (fun hb_8 h => ?_)
        · try simp only [↓DN, UP, r1, r2, r3, r4, r5, r6, r7, reduceCtorEq, Tryd.f18, hb_8]
          obtain rfl := Option.some.inj h
          refine endT_of ?_ ⟨rfl, rfl⟩
          exact (wn [0] [])
        · try simp only [↓DN, UP, r1, r2, r3, r4, r5, r6, r7, reduceCtorEq, Tryd.f18, hb_8]
          obtain rfl := Option.some.inj h
          refine endT_of ?_ ⟨rfl, rfl⟩
          exact (wn [0] [])
theorem c_impl_openIn {body_1 : List GOp} {r : (List Int) × Bool} (h : g_impl_openIn body_1 = some r) : Ans Tryd.prog 15 [.one (.imm 2 body_1.length (body_1.flatMap GOp.cs))] [] fun v h1 => v = .tup [.one (.arr 0 0 r.1.length), .one (.bool r.2)] ∧ h1 = [.live ⟨1, r.1.length, r.1.flatMap (eI .i64)⟩] := by
  refine ansK (P := fun _ => Tryd.prog) TrydT_eq (fn := Tryd.f15) Tryd.func15 rfl ⟨by kernel_rfl, rfl, rfl, by kernel_rfl⟩ (by simp) (Weak.refl _ _) ?_
  rw [g_impl_openIn] at h
  have f1 := (show bldN 0 = 0 from rfl)
  have f2 := (show bldC [] = ([] : List Int).flatMap (eI .i64) from rfl)
  try simp only [↓DN, UP, r1, r2, r3, r4, r5, r6, r7, reduceCtorEq, Tryd.f15, f1, f2]
  obtain ⟨y_3, hy_4, h⟩ := bS h
  refine seqK TrydT_eq (fun p : (List Int) => ⟨[(0, .pv (.one (.imm 2 body_1.length (body_1.flatMap GOp.cs)))), (4, .pv (.one (.arr 0 0 p.length)))], [.live ⟨1, p.length, p.flatMap (eI .i64)⟩]⟩) (fun v => y_3 = .inl v) (by rfl) ?_ ?_
  · try simp only [↓DN, UP, r1, r2, r3, r4, r5, r6, r7, reduceCtorEq, Tryd.f15, f1, f2]
    obtain ⟨y_8, hy_9, hy_4⟩ := bS hy_4
    refine loopK TrydT_eq (fun p : (List Int) × Int => ⟨[(0, .pv (.one (.imm 2 body_1.length (body_1.flatMap GOp.cs)))), (4, .pv (.one (.arr 0 0 p.1.length))), (9, .pv (.one (.imm 2 body_1.length (body_1.flatMap GOp.cs)))), (10, .pv (.one (.int .i64 (body_1.length : Int)))), (11, .pv (.one (.int .i64 p.2)))], [.live ⟨1, p.1.length, p.1.flatMap (eI .i64)⟩]⟩) (fun k p => g_impl_openIn_l0 body_1 k p.1 p.2 = some y_8) (by kernel_rfl) bigK (([] : List Int), 0) (weak_norm (ks := [0, 4, 9, 10, 11]) (π := [0]) (fuel := 9) (by simp only [WL, r1, r2, r3, r4, r5, r6, r7, reduceCtorEq, fWin (eI_ok .i64) (n := 0) (xs := ([] : List Int)) (by simp)])) hy_9 (fun _ h => nomatch (show none = some _ from h)) ?_
    rintro k_10 ⟨vopen_5, v_6⟩ hk_11
    rw [g_impl_openIn_l0] at hk_11
    try dsimp only at hk_11
    try simp only [↓DN, UP, r1, r2, r3, r4, r5, r6, r7, reduceCtorEq, Tryd.f15]
    refine seqN TrydT_eq rfl ?_
    try simp only [↓DN, UP, r1, r2, r3, r4, r5, r6, r7, reduceCtorEq, Tryd.f15]
    refine stIf hk_11 (fun hb_12 hk_11 => ?_) (fun hb_12 hk_11 => ?_)
    · try simp only [↓DN, UP, r1, r2, r3, r4, r5, r6, r7, reduceCtorEq, Tryd.f15]
      obtain ⟨y_14, hy_15, hk_11⟩ := bS hk_11
      refine seqK TrydT_eq (fun p : (List Int) => ⟨[(0, .pv (.one (.imm 2 body_1.length (body_1.flatMap GOp.cs)))), (4, .pv (.one (.arr 0 0 p.length))), (9, .pv (.one (.imm 2 body_1.length (body_1.flatMap GOp.cs)))), (10, .pv (.one (.int .i64 (body_1.length : Int)))), (11, .pv (.one (.int .i64 v_6)))], [.live ⟨1, p.length, p.flatMap (eI .i64)⟩]⟩) (fun v => y_14 = .inl v) (by rfl) ?_ ?_
      · obtain ⟨v_16, hv_16, hy_15⟩ := bS hy_15
        obtain ⟨y_17, hy_17, hy_15⟩ := bS hy_15
        have f3 := (fAt GOp.ok hv_16 (n := body_1.length) (by simp))
        try simp only [↓DN, UP, r1, r2, r3, r4, r5, r6, r7, reduceCtorEq, Tryd.f15, f3]
        refine cG [] (c_impl_opOk hy_17) (hK := fun rd b => ?_)
        try simp only [↓DN, UP, r1, r2, r3, r4, r5, r6, r7, reduceCtorEq, Tryd.f15, f3]
        refine stIf hy_15 (fun hb_18 hy_15 => ?_) (fun hb_18 hy_15 => ?_)
        · obtain rfl := Option.some.inj hy_15
          try dsimp only at hk_11
          obtain rfl := Option.some.inj hk_11
          try dsimp only at hy_4
          obtain rfl := Option.some.inj hy_4
          try dsimp only at h
          try simp only [↓DN, UP, r1, r2, r3, r4, r5, r6, r7, reduceCtorEq, Tryd.f15, f3]
          obtain rfl := Option.some.inj h
          refine endT_of ?_ ⟨rfl, rfl⟩
          exact ((weak_norm (ks := [0]) (π := []) (fuel := 9) (s' := ⟨[(0, .tup [.one (.emp), .one (.bool false)])], []⟩) (by simp only [WL, r1, r2, r3, r4, r5, r6, r7, reduceCtorEq])).trans (weak_le (by simp only [LEb, r1, r2, r3, r4, r5, r6, r7, reduceCtorEq, TL]) (by simp only [LEb, r1, r2, r3, r4, r5, r6, r7, reduceCtorEq, TL])))
        · try simp only [↓DN, UP, r1, r2, r3, r4, r5, r6, r7, reduceCtorEq, Tryd.f15, f3]
          obtain ⟨y_20, hy_21, hy_15⟩ := bS hy_15
          refine seqK TrydT_eq (fun p : Bool => ⟨[(0, .pv (.one (.imm 2 body_1.length (body_1.flatMap GOp.cs)))), (4, .pv (.one (.arr 0 0 vopen_5.length))), (6, .pv (.one (.ptr 1 0))), (7, .pv (.one (.int .i64 (IntKind.wrap .i64 ((vopen_5.length : Int) - 1))))), (9, .pv (.one (.imm 2 body_1.length (body_1.flatMap GOp.cs)))), (10, .pv (.one (.int .i64 (body_1.length : Int)))), (11, .pv (.one (.int .i64 v_6))), (22, .pv (.one (.bool p)))], [.live ⟨1, vopen_5.length, vopen_5.flatMap (eI .i64)⟩, .live ⟨1, 2, [.int .i64 v_16.Kind, .int .i32 v_16.N]⟩]⟩) (fun v => y_20 = v) (by rfl) ?_ ?_
          · try simp only [↓DN, UP, r1, r2, r3, r4, r5, r6, r7, reduceCtorEq, Tryd.f15, f3]
            refine stIf hy_21 (fun hb_22 hy_21 => ?_) (fun hb_22 hy_21 => ?_)
            · try simp only [↓DN, UP, r1, r2, r3, r4, r5, r6, r7, reduceCtorEq, Tryd.f15, f3, hb_22]
              obtain rfl := Option.some.inj hy_21
              exact cutT_mk true rfl (wn [0, 4, 6, 7, 9, 10, 11, 22] [0, 1])
            · try simp only [↓DN, UP, r1, r2, r3, r4, r5, r6, r7, reduceCtorEq, Tryd.f15, f3, hb_22]
              refine stIf hy_21 (fun hb_23 hy_21 => ?_) (fun hb_23 hy_21 => ?_)
              · try simp only [↓DN, UP, r1, r2, r3, r4, r5, r6, r7, reduceCtorEq, Tryd.f15, f3, hb_22, hb_23]
                obtain rfl := Option.some.inj hy_21
                exact cutT_mk true rfl (wn [0, 4, 6, 7, 9, 10, 11, 22] [0, 1])
              · try simp only [↓DN, UP, r1, r2, r3, r4, r5, r6, r7, reduceCtorEq, Tryd.f15, f3, hb_22, hb_23]
                obtain rfl := Option.some.inj hy_21
                exact cutT_mk (v_16.Kind == 6) rfl (wn [0, 4, 6, 7, 9, 10, 11, 22] [0, 1])
          · rintro v_19 hp
            replace hp := hp.symm; subst hp
            try dsimp only at hy_15
            try simp only [↓DN, UP, r1, r2, r3, r4, r5, r6, r7, reduceCtorEq, Tryd.f15]
            refine stIf hy_15 (fun hb_24 hy_15 => ?_) (fun hb_24 hy_15 => ?_)
            · obtain ⟨v_25, hv_25, hy_15⟩ := bS hy_15
              have f4 := (show bldN 1 = 1 from rfl)
              have f5 := (show bldC [.int .i64 v_16.Kind] = [v_16.Kind].flatMap (eI .i64) from rfl)
              have f6 := (fWin (eI_ok .i64) (n := 1) (xs := [v_16.Kind]) (by simp))
              have f7 := (fApp hv_25 (n := vopen_5.length) (by simp) (m := 1) (by simp [bsOf]))
              have f8 := (fWin (eI_ok .i64) (n := vopen_5.length) (xs := vopen_5) (by simp))
              have f9 := (fCat (e := (eI .i64)) (ns := [v_16.Kind].flatMap (eI .i64)) hv_25 rfl)
              try simp only [↓DN, UP, r1, r2, r3, r4, r5, r6, r7, reduceCtorEq, Tryd.f15, f4, f5, f6, f7, f8, f9]
              obtain rfl := Option.some.inj hy_15
              exact cutT_mk v_25 rfl (wn [0, 4, 9, 10, 11] [3])
            · try simp only [↓DN, UP, r1, r2, r3, r4, r5, r6, r7, reduceCtorEq, Tryd.f15]
              obtain ⟨y_27, hy_28, hy_15⟩ := bS hy_15
              refine seqK TrydT_eq (fun p : Bool => ⟨[(0, .pv (.one (.imm 2 body_1.length (body_1.flatMap GOp.cs)))), (4, .pv (.one (.arr 0 0 vopen_5.length))), (6, .pv (.one (.ptr 1 0))), (7, .pv (.one (.int .i64 (IntKind.wrap .i64 ((vopen_5.length : Int) - 1))))), (9, .pv (.one (.imm 2 body_1.length (body_1.flatMap GOp.cs)))), (10, .pv (.one (.int .i64 (body_1.length : Int)))), (11, .pv (.one (.int .i64 v_6))), (41, .pv (.one (.bool p)))], [.live ⟨1, vopen_5.length, vopen_5.flatMap (eI .i64)⟩, .live ⟨1, 2, [.int .i64 v_16.Kind, .int .i32 v_16.N]⟩]⟩) (fun v => y_27 = v) (by rfl) ?_ ?_
              · try simp only [↓DN, UP, r1, r2, r3, r4, r5, r6, r7, reduceCtorEq, Tryd.f15]
                refine stIf hy_28 (fun hb_29 hy_28 => ?_) (fun hb_29 hy_28 => ?_)
                · try simp only [↓DN, UP, r1, r2, r3, r4, r5, r6, r7, reduceCtorEq, Tryd.f15, hb_29]
                  obtain rfl := Option.some.inj hy_28
                  exact cutT_mk true rfl (wn [0, 4, 6, 7, 9, 10, 11, 41] [0, 1])
                · try simp only [↓DN, UP, r1, r2, r3, r4, r5, r6, r7, reduceCtorEq, Tryd.f15, hb_29]
                  obtain rfl := Option.some.inj hy_28
                  exact cutT_mk (v_16.Kind == 7) rfl (wn [0, 4, 6, 7, 9, 10, 11, 41] [0, 1])
              · rintro v_26 hp
                replace hp := hp.symm; subst hp
                try dsimp only at hy_15
                try simp only [↓DN, UP, r1, r2, r3, r4, r5, r6, r7, reduceCtorEq, Tryd.f15]
                refine stIf hy_15 (fun hb_30 hy_15 => ?_) (fun hb_30 hy_15 => ?_)
                · try simp only [↓DN, UP, r1, r2, r3, r4, r5, r6, r7, reduceCtorEq, Tryd.f15]
                  refine seqN TrydT_eq rfl ?_
                  try simp only [↓DN, UP, r1, r2, r3, r4, r5, r6, r7, reduceCtorEq, Tryd.f15]
                  obtain ⟨y_32, hy_33, hy_15⟩ := bS hy_15
                  refine seqK TrydT_eq (fun p : Bool => ⟨[(0, .pv (.one (.imm 2 body_1.length (body_1.flatMap GOp.cs)))), (4, .pv (.one (.arr 0 0 vopen_5.length))), (7, .pv (.one (.int .i64 (IntKind.wrap .i64 ((vopen_5.length : Int) - 1))))), (9, .pv (.one (.imm 2 body_1.length (body_1.flatMap GOp.cs)))), (10, .pv (.one (.int .i64 (body_1.length : Int)))), (11, .pv (.one (.int .i64 v_6))), (62, .pv (.one (.bool p)))], [.live ⟨1, vopen_5.length, vopen_5.flatMap (eI .i64)⟩]⟩) (fun v => y_32 = v) (by rfl) ?_ ?_
                  · try simp only [↓DN, UP, r1, r2, r3, r4, r5, r6, r7, reduceCtorEq, Tryd.f15]
                    refine stIf hy_33 (fun hb_34 hy_33 => ?_) (fun hb_34 hy_33 => ?_)
                    · try simp only [↓DN, UP, r1, r2, r3, r4, r5, r6, r7, reduceCtorEq, Tryd.f15, hb_34]
                      refine ⟨rfl, ?_⟩
                      try simp only [↓DN, UP, r1, r2, r3, r4, r5, r6, r7, reduceCtorEq, Tryd.f15, hb_34]
                      obtain rfl := Option.some.inj hy_33
                      exact cutT_mk true rfl (wn [0, 4, 7, 9, 10, 11, 62] [0])
                    · obtain ⟨v_35, hv_35, hy_33⟩ := bS hy_33
                      have f10 := (fPtr hv_35 (k := 1) (n := vopen_5.length) (by simp))
                      have f11 := (fGet0 (eI_ok .i64) hv_35 (m := 1) (by decide) (by decide))
                      try simp only [↓DN, UP, r1, r2, r3, r4, r5, r6, r7, reduceCtorEq, Tryd.f15, hb_34, f10, f11]
                      refine ⟨rfl, ?_⟩
                      try simp only [↓DN, UP, r1, r2, r3, r4, r5, r6, r7, reduceCtorEq, Tryd.f15, hb_34, f10, f11]
                      obtain rfl := Option.some.inj hy_33
                      exact cutT_mk ((v_35 == 6) != (v_16.Kind == 7)) rfl (wn [0, 4, 7, 9, 10, 11, 62] [0])
                  · rintro v_31 hp
                    replace hp := hp.symm; subst hp
                    try dsimp only at hy_15
                    try simp only [↓DN, UP, r1, r2, r3, r4, r5, r6, r7, reduceCtorEq, Tryd.f15]
                    refine stIf hy_15 (fun hb_36 hy_15 => ?_) (fun hb_36 hy_15 => ?_)
                    · obtain rfl := Option.some.inj hy_15
                      try dsimp only at hk_11
                      obtain rfl := Option.some.inj hk_11
                      try dsimp only at hy_4
                      obtain rfl := Option.some.inj hy_4
                      try dsimp only at h
                      try simp only [↓DN, UP, r1, r2, r3, r4, r5, r6, r7, reduceCtorEq, Tryd.f15]
                      obtain rfl := Option.some.inj h
                      refine endT_of ?_ ⟨rfl, rfl⟩
                      exact ((weak_norm (ks := [0]) (π := []) (fuel := 9) (s' := ⟨[(0, .tup [.one (.emp), .one (.bool false)])], []⟩) (by simp only [WL, r1, r2, r3, r4, r5, r6, r7, reduceCtorEq])).trans (weak_le (by simp only [LEb, r1, r2, r3, r4, r5, r6, r7, reduceCtorEq, TL]) (by simp only [LEb, r1, r2, r3, r4, r5, r6, r7, reduceCtorEq, TL])))
                    · obtain ⟨v_37, hv_37, hy_15⟩ := bS hy_15
                      have f12 := (fSubN hv_37 (n := vopen_5.length) (by simp))
                      try simp only [↓DN, UP, r1, r2, r3, r4, r5, r6, r7, reduceCtorEq, Tryd.f15, f12]
                      obtain rfl := Option.some.inj hy_15
                      exact cutT_mk v_37 rfl ((weak_trim 0 0 v_37.length (b := ⟨_, _, _⟩) rfl (fLeW hv_37 (by simp) (by simp)) (by decide)).trans (weak_norm (ks := [0, 4, 9, 10, 11]) (π := [0]) (fuel := 9) (by simp only [trS, trE, trH, trHS, trSV, trP, trC, ML, MB, and_self, r1, r2, r3, r4, r5, r6, r7, reduceCtorEq, TL, TT, fTrim0 (eI_ok .i64) hv_37 (lo := 0) (by simp), fTr (eI_ok .i64)])))
                · try simp only [↓DN, UP, r1, r2, r3, r4, r5, r6, r7, reduceCtorEq, Tryd.f15]
                  obtain rfl := Option.some.inj hy_15
                  exact cutT_mk vopen_5 rfl (wn [0, 4, 9, 10, 11] [0])
      · rintro vopen_13 hp
        replace hp := hp.symm; subst hp
        try dsimp only at hk_11
        try simp only [↓DN, UP, r1, r2, r3, r4, r5, r6, r7, reduceCtorEq, Tryd.f15]
        exact ⟨(vopen_13, IntKind.wrap .i64 (v_6 + 1)), hk_11, (wn [0, 4, 9, 10, 11] [0])⟩
    · obtain rfl := Option.some.inj hk_11
      try dsimp only at hy_4
      try simp only [↓DN, UP, r1, r2, r3, r4, r5, r6, r7, reduceCtorEq, Tryd.f15]
      obtain rfl := Option.some.inj hy_4
      exact cutT_mk vopen_5 rfl (wn [0, 4] [0])
  · rintro vopen_2 hp
    replace hp := hp.symm; subst hp
    try dsimp only at h
    try simp only [↓DN, UP, r1, r2, r3, r4, r5, r6, r7, reduceCtorEq, Tryd.f15]
    obtain rfl := Option.some.inj h
    refine endT_of ?_ ⟨rfl, rfl⟩
    exact (wn [0] [0])
theorem c_impl_ShapeOk {body_1 : List GOp} {r : Bool} (h : g_impl_ShapeOk body_1 = some r) : Ans Tryd.prog 11 [.one (.imm 2 body_1.length (body_1.flatMap GOp.cs))] [] fun v h1 => v = .pv (.one (.bool r)) ∧ h1 = [] := by
  refine ansK (P := fun _ => Tryd.prog) TrydT_eq (fn := Tryd.f11) Tryd.func11 rfl ⟨by kernel_rfl, rfl, rfl, by kernel_rfl⟩ (by simp) (Weak.refl _ _) ?_
  rw [g_impl_ShapeOk] at h
  obtain ⟨y_2, hy_2, h⟩ := bS h
  try simp only [↓DN, UP, r1, r2, r3, r4, r5, r6, r7, reduceCtorEq, Tryd.f11]
  refine cG [] (c_impl_openIn hy_2) (hK := fun rd b => ?_)
  try simp only [↓DN, UP, r1, r2, r3, r4, r5, r6, r7, reduceCtorEq, Tryd.f11]
  refine seqN TrydT_eq rfl ?_
  try simp only [↓DN, UP, r1, r2, r3, r4, r5, r6, r7, reduceCtorEq, Tryd.f11]
  refine stIf h (fun hb_3 h => ?_) (fun hb_3 h => ?_)
  · try simp only [↓DN, UP, r1, r2, r3, r4, r5, r6, r7, reduceCtorEq, Tryd.f11, hb_3]
    obtain rfl := Option.some.inj h
    refine endT_of ?_ ⟨rfl, rfl⟩
    exact (wn [0] [])
  · try simp only [↓DN, UP, r1, r2, r3, r4, r5, r6, r7, reduceCtorEq, Tryd.f11, hb_3]
    obtain rfl := Option.some.inj h
    refine endT_of ?_ ⟨rfl, rfl⟩
    exact (wn [0] [])
theorem c_impl_Falls {body_1 : List GOp} {r : Bool} (h : g_impl_Falls body_1 = some r) : Ans Tryd.prog 7 [.one (.imm 2 body_1.length (body_1.flatMap GOp.cs))] [] fun v h1 => v = .pv (.one (.bool r)) ∧ h1 = [] := by
  refine ansK (P := fun _ => Tryd.prog) TrydT_eq (fn := Tryd.f7) Tryd.func7 rfl ⟨by kernel_rfl, rfl, rfl, by kernel_rfl⟩ (by simp) (Weak.refl _ _) ?_
  rw [g_impl_Falls] at h
  try simp only [↓DN, UP, r1, r2, r3, r4, r5, r6, r7, reduceCtorEq, Tryd.f7]
  refine seqN TrydT_eq rfl ?_
  obtain ⟨y_2, hy_2, h⟩ := bS h
  try simp only [↓DN, UP, r1, r2, r3, r4, r5, r6, r7, reduceCtorEq, Tryd.f7]
  refine cG [] (c_impl_ShapeOk hy_2) (hK := fun rd b => ?_)
  try simp only [↓DN, UP, r1, r2, r3, r4, r5, r6, r7, reduceCtorEq, Tryd.f7]
  refine stIf h (fun hb_3 h => ?_) (fun hb_3 h => ?_)
  · try simp only [↓DN, UP, r1, r2, r3, r4, r5, r6, r7, reduceCtorEq, Tryd.f7, hb_3]
    refine stIf h (fun hb_4 h => ?_) (fun hb_4 h => ?_)
    · try simp only [↓DN, UP, r1, r2, r3, r4, r5, r6, r7, reduceCtorEq, Tryd.f7, hb_3, hb_4]
      obtain rfl := Option.some.inj h
      refine endT_of ?_ ⟨rfl, rfl⟩
      exact (wn [0] [])
    · obtain ⟨v_5, hv_5, h⟩ := bS h
      have f1 := (fAt GOp.ok hv_5 (n := body_1.length) (by simp))
      try simp only [↓DN, UP, r1, r2, r3, r4, r5, r6, r7, reduceCtorEq, Tryd.f7, hb_3, hb_4, f1]
      obtain rfl := Option.some.inj h
      refine endT_of ?_ ⟨rfl, rfl⟩
      exact (wn [0] [])
  · try simp only [↓DN, UP, r1, r2, r3, r4, r5, r6, r7, reduceCtorEq, Tryd.f7, hb_3]
    obtain rfl := Option.some.inj h
    refine endT_of ?_ ⟨rfl, rfl⟩
    exact (wn [0] [])
theorem c_laws_eqOp {a_1 : GOp} {b_2 : GOp} {r : Bool} (h : g_laws_eqOp a_1 b_2 = some r) : Ans Tryd.prog 12 [.agg [.int .i64 a_1.Kind, .int .i32 a_1.N], .agg [.int .i64 b_2.Kind, .int .i32 b_2.N]] [] fun v h1 => v = .pv (.one (.bool r)) ∧ h1 = [] := by
  refine ansK (P := fun _ => Tryd.prog) TrydT_eq (fn := Tryd.f12) Tryd.func12 rfl ⟨by kernel_rfl, rfl, rfl, by kernel_rfl⟩ (by simp) (Weak.refl _ _) ?_
  rw [g_laws_eqOp] at h
  try simp only [↓DN, UP, r1, r2, r3, r4, r5, r6, r7, reduceCtorEq, Tryd.f12]
  refine seqN TrydT_eq rfl ?_
  try simp only [↓DN, UP, r1, r2, r3, r4, r5, r6, r7, reduceCtorEq, Tryd.f12]
  refine stIf h (fun hb_3 h => ?_) (fun hb_3 h => ?_)
  · try simp only [↓DN, UP, r1, r2, r3, r4, r5, r6, r7, reduceCtorEq, Tryd.f12]
    obtain rfl := Option.some.inj h
    refine endT_of ?_ ⟨rfl, rfl⟩
    exact (wn [0] [])
  · try simp only [↓DN, UP, r1, r2, r3, r4, r5, r6, r7, reduceCtorEq, Tryd.f12]
    refine seqN TrydT_eq rfl ?_
    try simp only [↓DN, UP, r1, r2, r3, r4, r5, r6, r7, reduceCtorEq, Tryd.f12]
    refine stIf h (fun hb_4 h => ?_) (fun hb_4 h => ?_)
    · try simp only [↓DN, UP, r1, r2, r3, r4, r5, r6, r7, reduceCtorEq, Tryd.f12]
      obtain rfl := Option.some.inj h
      refine endT_of ?_ ⟨rfl, rfl⟩
      exact (wn [0] [])
    · try simp only [↓DN, UP, r1, r2, r3, r4, r5, r6, r7, reduceCtorEq, Tryd.f12]
      obtain rfl := Option.some.inj h
      refine endT_of ?_ ⟨rfl, rfl⟩
      exact (wn [0] [])
theorem c_laws_eqOpS {a_1 : List GOp} {b_2 : List GOp} {r : Bool} (h : g_laws_eqOpS a_1 b_2 = some r) : Ans Tryd.prog 8 [.one (.imm 2 a_1.length (a_1.flatMap GOp.cs)), .one (.imm 2 b_2.length (b_2.flatMap GOp.cs))] [] fun v h1 => v = .pv (.one (.bool r)) ∧ h1 = [] := by
  refine ansK (P := fun _ => Tryd.prog) TrydT_eq (fn := Tryd.f8) Tryd.func8 rfl ⟨by kernel_rfl, rfl, rfl, by kernel_rfl⟩ (by simp) (Weak.refl _ _) ?_
  rw [g_laws_eqOpS] at h
  try simp only [↓DN, UP, r1, r2, r3, r4, r5, r6, r7, reduceCtorEq, Tryd.f8]
  refine seqN TrydT_eq rfl ?_
  try simp only [↓DN, UP, r1, r2, r3, r4, r5, r6, r7, reduceCtorEq, Tryd.f8]
  refine stIf h (fun hb_3 h => ?_) (fun hb_3 h => ?_)
  · try simp only [↓DN, UP, r1, r2, r3, r4, r5, r6, r7, reduceCtorEq, Tryd.f8]
    obtain rfl := Option.some.inj h
    refine endT_of ?_ ⟨rfl, rfl⟩
    exact (wn [0] [])
  · try simp only [↓DN, UP, r1, r2, r3, r4, r5, r6, r7, reduceCtorEq, Tryd.f8]
    obtain ⟨y_4, hy_5, h⟩ := bS h
    refine seqK TrydT_eq (fun p : Unit => ⟨[], []⟩) (fun v => y_4 = .inl v) (by rfl) ?_ ?_
    · try simp only [↓DN, UP, r1, r2, r3, r4, r5, r6, r7, reduceCtorEq, Tryd.f8]
      obtain ⟨y_7, hy_8, hy_5⟩ := bS hy_5
      refine loopK TrydT_eq (fun p : Int => ⟨[(0, .pv (.one (.imm 2 a_1.length (a_1.flatMap GOp.cs)))), (1, .pv (.one (.imm 2 b_2.length (b_2.flatMap GOp.cs)))), (5, .pv (.one (.int .i64 p)))], []⟩) (fun k p => g_laws_eqOpS_l0 a_1 b_2 k p = some y_7) (by kernel_rfl) bigK 0 (wn [0, 1, 5] []) hy_8 (fun _ h => nomatch (show none = some _ from h)) ?_
      rintro k_9 i_6 hk_10
      rw [g_laws_eqOpS_l0] at hk_10
      try dsimp only at hk_10
      try simp only [↓DN, UP, r1, r2, r3, r4, r5, r6, r7, reduceCtorEq, Tryd.f8]
      refine seqN TrydT_eq rfl ?_
      try simp only [↓DN, UP, r1, r2, r3, r4, r5, r6, r7, reduceCtorEq, Tryd.f8]
      refine stIf hk_10 (fun hb_11 hk_10 => ?_) (fun hb_11 hk_10 => ?_)
      · try simp only [↓DN, UP, r1, r2, r3, r4, r5, r6, r7, reduceCtorEq, Tryd.f8]
        refine seqN TrydT_eq rfl ?_
        obtain ⟨v_12, hv_12, hk_10⟩ := bS hk_10
        obtain ⟨v_13, hv_13, hk_10⟩ := bS hk_10
        obtain ⟨y_14, hy_14, hk_10⟩ := bS hk_10
        have f1 := (fAt GOp.ok hv_12 (n := a_1.length) (by simp))
        have f2 := (fAt GOp.ok hv_13 (n := b_2.length) (by simp))
        try simp only [↓DN, UP, r1, r2, r3, r4, r5, r6, r7, reduceCtorEq, Tryd.f8, f1, f2]
        refine callE [] (rd1 := []) (rd2 := []) 9 rfl (by simp only [WL, r1, r2, r3, r4, r5, r6, r7, reduceCtorEq]) (by simp only [WL, r1, r2, r3, r4, r5, r6, r7, reduceCtorEq]) rfl (c_laws_eqOp hy_14) (by simp only [WL, r1, r2, r3, r4, r5, r6, r7, reduceCtorEq]) ?_
        try simp only [↓DN, UP, r1, r2, r3, r4, r5, r6, r7, reduceCtorEq, Tryd.f8, f1, f2]
        refine ⟨rfl, ?_⟩
        try simp only [↓DN, UP, r1, r2, r3, r4, r5, r6, r7, reduceCtorEq, Tryd.f8, f1, f2]
        refine stIf hk_10 (fun hb_15 hk_10 => ?_) (fun hb_15 hk_10 => ?_)
        · obtain rfl := Option.some.inj hk_10
          try dsimp only at hy_5
          obtain rfl := Option.some.inj hy_5
          try dsimp only at h
          try simp only [↓DN, UP, r1, r2, r3, r4, r5, r6, r7, reduceCtorEq, Tryd.f8, f1, f2]
          obtain rfl := Option.some.inj h
          refine endT_of ?_ ⟨rfl, rfl⟩
          exact (wn [0] [])
        · try simp only [↓DN, UP, r1, r2, r3, r4, r5, r6, r7, reduceCtorEq, Tryd.f8, f1, f2]
          exact ⟨IntKind.wrap .i64 (i_6 + 1), hk_10, (wn [0, 1, 5] [])⟩
      · obtain rfl := Option.some.inj hk_10
        try dsimp only at hy_5
        try simp only [↓DN, UP, r1, r2, r3, r4, r5, r6, r7, reduceCtorEq, Tryd.f8]
        obtain rfl := Option.some.inj hy_5
        exact cutT_mk () (by trivial) (wn [] [])
    · rintro _ hp
      replace hp := hp.symm; subst hp
      try dsimp only at h
      try simp only [↓DN, UP, r1, r2, r3, r4, r5, r6, r7, reduceCtorEq, Tryd.f8]
      obtain rfl := Option.some.inj h
      refine endT_of ?_ ⟨rfl, rfl⟩
      exact (wn [0] [])
theorem c_laws_FnExactFalls {aBody_1 : List GOp} {r : Bool} (h : g_laws_FnExactFalls aBody_1 = some r) : Ans Tryd.prog 3 [.one (.imm 2 aBody_1.length (aBody_1.flatMap GOp.cs))] [] fun v h1 => v = .pv (.one (.bool r)) ∧ h1 = [] := by
  refine ansK (P := fun _ => Tryd.prog) TrydT_eq (fn := Tryd.f3) Tryd.func3 rfl ⟨by kernel_rfl, rfl, rfl, by kernel_rfl⟩ (by simp) (Weak.refl _ _) ?_
  rw [g_laws_FnExactFalls] at h
  obtain ⟨y_2, hy_2, h⟩ := bS h
  try simp only [↓DN, UP, r1, r2, r3, r4, r5, r6, r7, reduceCtorEq, Tryd.f3]
  refine cG [] (c_laws_szOpS hy_2) (hK := fun rd b => ?_)
  try simp only [↓DN, UP, r1, r2, r3, r4, r5, r6, r7, reduceCtorEq, Tryd.f3]
  refine seqN TrydT_eq rfl ?_
  try simp only [↓DN, UP, r1, r2, r3, r4, r5, r6, r7, reduceCtorEq, Tryd.f3]
  refine stIf h (fun hb_3 h => ?_) (fun hb_3 h => ?_)
  · try simp only [↓DN, UP, r1, r2, r3, r4, r5, r6, r7, reduceCtorEq, Tryd.f3]
    obtain rfl := Option.some.inj h
    refine endT_of ?_ ⟨rfl, rfl⟩
    exact (wn [0] [])
  · obtain ⟨y_4, hy_4, h⟩ := bS h
    try simp only [↓DN, UP, r1, r2, r3, r4, r5, r6, r7, reduceCtorEq, Tryd.f3]
    refine cG [] (c_laws_toOpS hy_4) (hK := fun rd b => ?_)
    obtain ⟨y_5, hy_5, h⟩ := bS h
    try simp only [↓DN, UP, r1, r2, r3, r4, r5, r6, r7, reduceCtorEq, Tryd.f3]
    refine cG [] (c_spec_Falls hy_5) (hK := fun rd b => ?_)
    obtain ⟨y_6, hy_6, h⟩ := bS h
    try simp only [↓DN, UP, r1, r2, r3, r4, r5, r6, r7, reduceCtorEq, Tryd.f3]
    refine cG [] (c_laws_toOpS hy_6) (hK := fun rd b => ?_)
    obtain ⟨y_7, hy_7, h⟩ := bS h
    try simp only [↓DN, UP, r1, r2, r3, r4, r5, r6, r7, reduceCtorEq, Tryd.f3]
    refine cG [] (c_impl_Falls hy_7) (hK := fun rd b => ?_)
    try simp only [↓DN, UP, r1, r2, r3, r4, r5, r6, r7, reduceCtorEq, Tryd.f3]
    refine seqN TrydT_eq rfl ?_
    try simp only [↓DN, UP, r1, r2, r3, r4, r5, r6, r7, reduceCtorEq, Tryd.f3]
    refine stIf h (fun hb_8 h => ?_) (fun hb_8 h => ?_)
    · try simp only [↓DN, UP, r1, r2, r3, r4, r5, r6, r7, reduceCtorEq, Tryd.f3]
      obtain rfl := Option.some.inj h
      refine endT_of ?_ ⟨rfl, rfl⟩
      exact (wn [0] [])
    · try simp only [↓DN, UP, r1, r2, r3, r4, r5, r6, r7, reduceCtorEq, Tryd.f3]
      refine seqN TrydT_eq rfl ?_
      obtain ⟨y_9, hy_9, h⟩ := bS h
      try simp only [↓DN, UP, r1, r2, r3, r4, r5, r6, r7, reduceCtorEq, Tryd.f3]
      refine cG [] (c_laws_toOpS hy_9) (hK := fun rd b => ?_)
      obtain ⟨y_10, hy_10, h⟩ := bS h
      try simp only [↓DN, UP, r1, r2, r3, r4, r5, r6, r7, reduceCtorEq, Tryd.f3]
      refine cG [] (c_laws_eqOpS hy_10) (hK := fun rd b => ?_)
      try simp only [↓DN, UP, r1, r2, r3, r4, r5, r6, r7, reduceCtorEq, Tryd.f3]
      refine stIf h (fun hb_11 h => ?_) (fun hb_11 h => ?_)
      · try simp only [↓DN, UP, r1, r2, r3, r4, r5, r6, r7, reduceCtorEq, Tryd.f3]
        obtain rfl := Option.some.inj h
        refine endT_of ?_ ⟨rfl, rfl⟩
        exact (wn [0] [])
      · try simp only [↓DN, UP, r1, r2, r3, r4, r5, r6, r7, reduceCtorEq, Tryd.f3]
        obtain rfl := Option.some.inj h
        refine endT_of ?_ ⟨rfl, rfl⟩
        exact (wn [0] [])
end Go.Proofs.YtniciinhflolnaaDoor
