import Derived.Test.YthhoellakpnjpaaGD
namespace Go.Proofs.Ythhoellakpnjpaa
open Go Go.Fm
open Nat renaming reduceEqDiff → r1, reduceLT → r2, reduceLeDiff → r3, reduceAdd → r4, reduceMul → r5, reduceSub → r6
open Int renaming reduceToNat → r7
set_option maxRecDepth 100000
set_option linter.unusedVariables false
set_option linter.unusedSimpArgs false
theorem c_laws_toUint32S {a_1 : List Int} {r : (List Int)} (h : g_laws_toUint32S a_1 = some r) : Ans Try.prog 29 [.one (.imm 1 a_1.length (a_1.flatMap (eI .u32)))] [] fun v h1 => v = .pv (.one (.arr 0 0 r.length)) ∧ h1 = [.live ⟨1, r.length, r.flatMap (eI .u32)⟩] := by
  refine ansK (P := fun _ => Try.prog) TryT_eq (fn := Try.f29) Try.func29 rfl ⟨by kernel_rfl, rfl, rfl, by kernel_rfl⟩ (by simp) (Weak.refl _ _) ?_
  rw [g_laws_toUint32S] at h
  obtain ⟨v_2, hv_2, h⟩ := bS h
  have f1 := (fMk hv_2)
  have f2 := (fMkC (e := (eI .u32)) (ns := [.int .u32 0]) hv_2 rfl)
  try simp only [↓DN, UP, r1, r2, r3, r4, r5, r6, r7, reduceCtorEq, Try.f29, f1, f2]
  obtain ⟨y_4, hy_5, h⟩ := bS h
  refine seqK TryT_eq (fun p : (List Int) => ⟨[(3, .pv (.one (.arr 0 0 p.length)))], [.live ⟨1, p.length, p.flatMap (eI .u32)⟩]⟩) (fun v => y_4 = v) (by rfl) ?_ ?_
  · try simp only [↓DN, UP, r1, r2, r3, r4, r5, r6, r7, reduceCtorEq, Try.f29, f1, f2]
    obtain ⟨y_9, hy_10, hy_5⟩ := bS hy_5
    refine loopK TryT_eq (fun p : (List Int) × Int => ⟨[(0, .pv (.one (.imm 1 a_1.length (a_1.flatMap (eI .u32))))), (3, .pv (.one (.arr 0 0 p.1.length))), (4, .pv (.one (.int .i64 p.2)))], [.live ⟨1, p.1.length, p.1.flatMap (eI .u32)⟩]⟩) (fun k p => g_laws_toUint32S_l0 a_1 k p.1 p.2 = some y_9) (by kernel_rfl) bigK (v_2, 0) (wn [0, 3, 4] [0]) hy_10 (fun _ h => nomatch (show none = some _ from h)) ?_
    rintro k_11 ⟨out_6, i_7⟩ hk_12
    rw [g_laws_toUint32S_l0] at hk_12
    try dsimp only at hk_12
    try simp only [↓DN, UP, r1, r2, r3, r4, r5, r6, r7, reduceCtorEq, Try.f29]
    refine seqN TryT_eq rfl ?_
    try simp only [↓DN, UP, r1, r2, r3, r4, r5, r6, r7, reduceCtorEq, Try.f29]
    refine stIf hk_12 (fun hb_13 hk_12 => ?_) (fun hb_13 hk_12 => ?_)
    · try simp only [↓DN, UP, r1, r2, r3, r4, r5, r6, r7, reduceCtorEq, Try.f29]
      refine seqN TryT_eq rfl ?_
      obtain ⟨v_14, hv_14, hk_12⟩ := bS hk_12
      obtain ⟨v_15, hv_15, hk_12⟩ := bS hk_12
      have f3 := (fAt (eI_ok .u32) hv_14 (n := a_1.length) (by simp))
      have f4 := (fPtr hv_15 (k := 1) (n := out_6.length) (by simp))
      have f5 := (fPut0 (eI_ok .u32) hv_15 (ns := [.int .u32 v_14]) (y := v_14) rfl)
      try simp only [↓DN, UP, r1, r2, r3, r4, r5, r6, r7, reduceCtorEq, Try.f29, f3, f4, f5]
      exact ⟨(out_6.set i_7.toNat v_14, IntKind.wrap .i64 (i_7 + 1)), hk_12, (weak_norm (ks := [0, 3, 4]) (π := [0]) (fuel := 9) (by simp only [WL, r1, r2, r3, r4, r5, r6, r7, reduceCtorEq, fWin (eI_ok .u32) (n := out_6.length) (xs := out_6.set i_7.toNat v_14) (by simp)]))⟩
    · obtain rfl := Option.some.inj hk_12
      try dsimp only at hy_5
      try simp only [↓DN, UP, r1, r2, r3, r4, r5, r6, r7, reduceCtorEq, Try.f29]
      obtain rfl := Option.some.inj hy_5
      exact cutT_mk out_6 rfl (wn [3] [0])
  · rintro out_3 hp
    replace hp := hp.symm; subst hp
    try dsimp only at h
    try simp only [↓DN, UP, r1, r2, r3, r4, r5, r6, r7, reduceCtorEq, Try.f29]
    obtain rfl := Option.some.inj h
    refine endT_of ?_ ⟨rfl, rfl⟩
    exact (wn [0] [0])
theorem c_spec_l04Tag {kind_1 : Int} {r : Int} (h : g_spec_l04Tag kind_1 = some r) : Ans Try.prog 95 [.one (.int .i64 kind_1)] [] fun v h1 => v = .pv (.one (.int .u32 r)) ∧ h1 = [] := by
  refine ansK (P := fun _ => Try.prog) TryT_eq (fn := Try.f95) Try.func95 rfl ⟨by kernel_rfl, rfl, rfl, by kernel_rfl⟩ (by simp) (Weak.refl _ _) ?_
  rw [g_spec_l04Tag] at h
  try simp only [↓DN, UP, r1, r2, r3, r4, r5, r6, r7, reduceCtorEq, Try.f95]
  refine seqN TryT_eq rfl ?_
  try simp only [↓DN, UP, r1, r2, r3, r4, r5, r6, r7, reduceCtorEq, Try.f95]
  refine stIf h (fun hb_2 h => ?_) (fun hb_2 h => ?_)
  · try simp only [↓DN, UP, r1, r2, r3, r4, r5, r6, r7, reduceCtorEq, Try.f95]
    obtain rfl := Option.some.inj h
    refine endT_of ?_ ⟨rfl, rfl⟩
    exact (wn [0] [])
  · try simp only [↓DN, UP, r1, r2, r3, r4, r5, r6, r7, reduceCtorEq, Try.f95]
    refine stIf h (fun hb_3 h => ?_) (fun hb_3 h => ?_)
    · try simp only [↓DN, UP, r1, r2, r3, r4, r5, r6, r7, reduceCtorEq, Try.f95]
      obtain rfl := Option.some.inj h
      refine endT_of ?_ ⟨rfl, rfl⟩
      exact (wn [0] [])
    · try simp only [↓DN, UP, r1, r2, r3, r4, r5, r6, r7, reduceCtorEq, Try.f95]
      refine stIf h (fun hb_4 h => ?_) (fun hb_4 h => ?_)
      · try simp only [↓DN, UP, r1, r2, r3, r4, r5, r6, r7, reduceCtorEq, Try.f95]
        obtain rfl := Option.some.inj h
        refine endT_of ?_ ⟨rfl, rfl⟩
        exact (wn [0] [])
      · try simp only [↓DN, UP, r1, r2, r3, r4, r5, r6, r7, reduceCtorEq, Try.f95]
        refine stIf h (fun hb_5 h => ?_) (fun hb_5 h => ?_)
        · try simp only [↓DN, UP, r1, r2, r3, r4, r5, r6, r7, reduceCtorEq, Try.f95]
          obtain rfl := Option.some.inj h
          refine endT_of ?_ ⟨rfl, rfl⟩
          exact (wn [0] [])
        · try simp only [↓DN, UP, r1, r2, r3, r4, r5, r6, r7, reduceCtorEq, Try.f95]
          refine stIf h (fun hb_6 h => ?_) (fun hb_6 h => ?_)
          · try simp only [↓DN, UP, r1, r2, r3, r4, r5, r6, r7, reduceCtorEq, Try.f95]
            obtain rfl := Option.some.inj h
            refine endT_of ?_ ⟨rfl, rfl⟩
            exact (wn [0] [])
          · try simp only [↓DN, UP, r1, r2, r3, r4, r5, r6, r7, reduceCtorEq, Try.f95]
            refine stIf h (fun hb_7 h => ?_) (fun hb_7 h => ?_)
            · try simp only [↓DN, UP, r1, r2, r3, r4, r5, r6, r7, reduceCtorEq, Try.f95]
              obtain rfl := Option.some.inj h
              refine endT_of ?_ ⟨rfl, rfl⟩
              exact (wn [0] [])
            · try simp only [↓DN, UP, r1, r2, r3, r4, r5, r6, r7, reduceCtorEq, Try.f95]
              obtain rfl := Option.some.inj h
              refine endT_of ?_ ⟨rfl, rfl⟩
              exact (wn [0] [])
theorem c_spec_l04Kind {tag_1 : Int} {r : Int} (h : g_spec_l04Kind tag_1 = some r) : Ans Try.prog 104 [.one (.int .u32 tag_1)] [] fun v h1 => v = .pv (.one (.int .i64 r)) ∧ h1 = [] := by
  refine ansK (P := fun _ => Try.prog) TryT_eq (fn := Try.f104) Try.func104 rfl ⟨by kernel_rfl, rfl, rfl, by kernel_rfl⟩ (by simp) (Weak.refl _ _) ?_
  rw [g_spec_l04Kind] at h
  try simp only [↓DN, UP, r1, r2, r3, r4, r5, r6, r7, reduceCtorEq, Try.f104]
  obtain ⟨y_3, hy_4, h⟩ := bS h
  refine seqK TryT_eq (fun p : Unit => ⟨[], []⟩) (fun v => y_3 = .inl v) (by rfl) ?_ ?_
  · try simp only [↓DN, UP, r1, r2, r3, r4, r5, r6, r7, reduceCtorEq, Try.f104]
    obtain ⟨y_7, hy_8, hy_4⟩ := bS hy_4
    refine loopK TryT_eq (fun p : Int => ⟨[(0, .pv (.one (.int .u32 tag_1))), (3, .pv (.one (.int .i64 p)))], []⟩) (fun k p => g_spec_l04Kind_l0 tag_1 k p = some y_7) (by kernel_rfl) bigK 1 (wn [0, 3] []) hy_8 (fun _ h => nomatch (show none = some _ from h)) ?_
    rintro k_9 k_5 hk_10
    rw [g_spec_l04Kind_l0] at hk_10
    try dsimp only at hk_10
    try simp only [↓DN, UP, r1, r2, r3, r4, r5, r6, r7, reduceCtorEq, Try.f104]
    refine seqN TryT_eq rfl ?_
    try simp only [↓DN, UP, r1, r2, r3, r4, r5, r6, r7, reduceCtorEq, Try.f104]
    refine stIf hk_10 (fun hb_11 hk_10 => ?_) (fun hb_11 hk_10 => ?_)
    · try simp only [↓DN, UP, r1, r2, r3, r4, r5, r6, r7, reduceCtorEq, Try.f104]
      refine seqN TryT_eq rfl ?_
      obtain ⟨y_12, hy_12, hk_10⟩ := bS hk_10
      try simp only [↓DN, UP, r1, r2, r3, r4, r5, r6, r7, reduceCtorEq, Try.f104]
      refine cG [] (c_spec_l04Tag hy_12) (hK := fun rd b => ?_)
      try simp only [↓DN, UP, r1, r2, r3, r4, r5, r6, r7, reduceCtorEq, Try.f104]
      refine stIf hk_10 (fun hb_13 hk_10 => ?_) (fun hb_13 hk_10 => ?_)
      · obtain rfl := Option.some.inj hk_10
        try dsimp only at hy_4
        obtain rfl := Option.some.inj hy_4
        try dsimp only at h
        try simp only [↓DN, UP, r1, r2, r3, r4, r5, r6, r7, reduceCtorEq, Try.f104]
        obtain rfl := Option.some.inj h
        refine endT_of ?_ ⟨rfl, rfl⟩
        exact (wn [0] [])
      · try simp only [↓DN, UP, r1, r2, r3, r4, r5, r6, r7, reduceCtorEq, Try.f104]
        exact ⟨IntKind.wrap .i64 (k_5 + 1), hk_10, (wn [0, 3] [])⟩
    · obtain rfl := Option.some.inj hk_10
      try dsimp only at hy_4
      try simp only [↓DN, UP, r1, r2, r3, r4, r5, r6, r7, reduceCtorEq, Try.f104]
      obtain rfl := Option.some.inj hy_4
      exact cutT_mk () (by trivial) (wn [] [])
  · rintro _ hp
    replace hp := hp.symm; subst hp
    try dsimp only at h
    try simp only [↓DN, UP, r1, r2, r3, r4, r5, r6, r7, reduceCtorEq, Try.f104]
    obtain rfl := Option.some.inj h
    refine endT_of ?_ ⟨rfl, rfl⟩
    exact (wn [0] [])
theorem c_spec_l01In {x_1 : Int} {a_2 : Int} {b_3 : Int} {r : Bool} (h : g_spec_l01In x_1 a_2 b_3 = some r) : Ans Try.prog 72 [.one (.int .i64 x_1), .one (.int .i64 a_2), .one (.int .i64 b_3)] [] fun v h1 => v = .pv (.one (.bool r)) ∧ h1 = [] := by
  refine ansK (P := fun _ => Try.prog) TryT_eq (fn := Try.f72) Try.func72 rfl ⟨by kernel_rfl, rfl, rfl, by kernel_rfl⟩ (by simp) (Weak.refl _ _) ?_
  rw [g_spec_l01In] at h
  try simp only [↓DN, UP, r1, r2, r3, r4, r5, r6, r7, reduceCtorEq, Try.f72]
  refine seqN TryT_eq rfl ?_
  try simp only [↓DN, UP, r1, r2, r3, r4, r5, r6, r7, reduceCtorEq, Try.f72]
  refine stIf h (fun hb_4 h => ?_) (fun hb_4 h => ?_)
  · try simp only [↓DN, UP, r1, r2, r3, r4, r5, r6, r7, reduceCtorEq, Try.f72, hb_4]
    obtain rfl := Option.some.inj h
    refine endT_of ?_ ⟨rfl, rfl⟩
    exact (wn [0] [])
  · try simp only [↓DN, UP, r1, r2, r3, r4, r5, r6, r7, reduceCtorEq, Try.f72, hb_4]
    obtain rfl := Option.some.inj h
    refine endT_of ?_ ⟨rfl, rfl⟩
    exact (wn [0] [])
theorem c_spec_WidthOf {k_1 : Int} {r : Int} (h : g_spec_WidthOf k_1 = some r) : Ans Try.prog 144 [.one (.int .i64 k_1)] [] fun v h1 => v = .pv (.one (.int .i64 r)) ∧ h1 = [] := by
  refine ansK (P := fun _ => Try.prog) TryT_eq (fn := Try.f144) Try.func144 rfl ⟨by kernel_rfl, rfl, rfl, by kernel_rfl⟩ (by simp) (Weak.refl _ _) ?_
  rw [g_spec_WidthOf] at h
  try simp only [↓DN, UP, r1, r2, r3, r4, r5, r6, r7, reduceCtorEq, Try.f144]
  refine seqN TryT_eq rfl ?_
  obtain ⟨y_2, hy_2, h⟩ := bS h
  try simp only [↓DN, UP, r1, r2, r3, r4, r5, r6, r7, reduceCtorEq, Try.f144]
  refine cG [] (c_spec_l01In hy_2) (hK := fun rd b => ?_)
  try simp only [↓DN, UP, r1, r2, r3, r4, r5, r6, r7, reduceCtorEq, Try.f144]
  refine stIf h (fun hb_3 h => ?_) (fun hb_3 h => ?_)
  · try simp only [↓DN, UP, r1, r2, r3, r4, r5, r6, r7, reduceCtorEq, Try.f144]
    obtain rfl := Option.some.inj h
    refine endT_of ?_ ⟨rfl, rfl⟩
    exact (wn [0] [])
  · obtain ⟨y_4, hy_4, h⟩ := bS h
    try simp only [↓DN, UP, r1, r2, r3, r4, r5, r6, r7, reduceCtorEq, Try.f144]
    refine cG [] (c_spec_l01In hy_4) (hK := fun rd b => ?_)
    try simp only [↓DN, UP, r1, r2, r3, r4, r5, r6, r7, reduceCtorEq, Try.f144]
    refine stIf h (fun hb_5 h => ?_) (fun hb_5 h => ?_)
    · try simp only [↓DN, UP, r1, r2, r3, r4, r5, r6, r7, reduceCtorEq, Try.f144]
      obtain rfl := Option.some.inj h
      refine endT_of ?_ ⟨rfl, rfl⟩
      exact (wn [0] [])
    · obtain ⟨y_6, hy_6, h⟩ := bS h
      try simp only [↓DN, UP, r1, r2, r3, r4, r5, r6, r7, reduceCtorEq, Try.f144]
      refine cG [] (c_spec_l01In hy_6) (hK := fun rd b => ?_)
      try simp only [↓DN, UP, r1, r2, r3, r4, r5, r6, r7, reduceCtorEq, Try.f144]
      refine stIf h (fun hb_7 h => ?_) (fun hb_7 h => ?_)
      · try simp only [↓DN, UP, r1, r2, r3, r4, r5, r6, r7, reduceCtorEq, Try.f144]
        obtain rfl := Option.some.inj h
        refine endT_of ?_ ⟨rfl, rfl⟩
        exact (wn [0] [])
      · try simp only [↓DN, UP, r1, r2, r3, r4, r5, r6, r7, reduceCtorEq, Try.f144]
        obtain rfl := Option.some.inj h
        refine endT_of ?_ ⟨rfl, rfl⟩
        exact (wn [0] [])
theorem c_spec_BitsOf {k_1 : Int} {r : Int} (h : g_spec_BitsOf k_1 = some r) : Ans Try.prog 145 [.one (.int .i64 k_1)] [] fun v h1 => v = .pv (.one (.int .u32 r)) ∧ h1 = [] := by
  refine ansK (P := fun _ => Try.prog) TryT_eq (fn := Try.f145) Try.func145 rfl ⟨by kernel_rfl, rfl, rfl, by kernel_rfl⟩ (by simp) (Weak.refl _ _) ?_
  rw [g_spec_BitsOf] at h
  try simp only [↓DN, UP, r1, r2, r3, r4, r5, r6, r7, reduceCtorEq, Try.f145]
  refine seqN TryT_eq rfl ?_
  obtain ⟨y_2, hy_2, h⟩ := bS h
  try simp only [↓DN, UP, r1, r2, r3, r4, r5, r6, r7, reduceCtorEq, Try.f145]
  refine cG [] (c_spec_WidthOf hy_2) (hK := fun rd b => ?_)
  try simp only [↓DN, UP, r1, r2, r3, r4, r5, r6, r7, reduceCtorEq, Try.f145]
  refine stIf h (fun hb_3 h => ?_) (fun hb_3 h => ?_)
  · try simp only [↓DN, UP, r1, r2, r3, r4, r5, r6, r7, reduceCtorEq, Try.f145]
    obtain rfl := Option.some.inj h
    refine endT_of ?_ ⟨rfl, rfl⟩
    exact (wn [0] [])
  · try simp only [↓DN, UP, r1, r2, r3, r4, r5, r6, r7, reduceCtorEq, Try.f145]
    refine stIf h (fun hb_4 h => ?_) (fun hb_4 h => ?_)
    · try simp only [↓DN, UP, r1, r2, r3, r4, r5, r6, r7, reduceCtorEq, Try.f145]
      obtain rfl := Option.some.inj h
      refine endT_of ?_ ⟨rfl, rfl⟩
      exact (wn [0] [])
    · try simp only [↓DN, UP, r1, r2, r3, r4, r5, r6, r7, reduceCtorEq, Try.f145]
      refine stIf h (fun hb_5 h => ?_) (fun hb_5 h => ?_)
      · try simp only [↓DN, UP, r1, r2, r3, r4, r5, r6, r7, reduceCtorEq, Try.f145]
        obtain rfl := Option.some.inj h
        refine endT_of ?_ ⟨rfl, rfl⟩
        exact (wn [0] [])
      · try simp only [↓DN, UP, r1, r2, r3, r4, r5, r6, r7, reduceCtorEq, Try.f145]
        obtain rfl := Option.some.inj h
        refine endT_of ?_ ⟨rfl, rfl⟩
        exact (wn [0] [])
theorem c_spec_Decode {bits_1 : Int} {n_2 : Int} {r : Int × Int} (h : g_spec_Decode bits_1 n_2 = some r) : Ans Try.prog 125 [.one (.int .u32 bits_1), .one (.int .i64 n_2)] [] fun v h1 => v = .tup [.one (.int .i64 r.1), .one (.int .i64 r.2)] ∧ h1 = [] := by
  refine ansK (P := fun _ => Try.prog) TryT_eq (fn := Try.f125) Try.func125 rfl ⟨by kernel_rfl, rfl, rfl, by kernel_rfl⟩ (by simp) (Weak.refl _ _) ?_
  rw [g_spec_Decode] at h
  try simp only [↓DN, UP, r1, r2, r3, r4, r5, r6, r7, reduceCtorEq, Try.f125]
  refine seqN TryT_eq rfl ?_
  obtain ⟨y_3, hy_3, h⟩ := bS h
  try simp only [↓DN, UP, r1, r2, r3, r4, r5, r6, r7, reduceCtorEq, Try.f125]
  refine cG [] (c_spec_l01In hy_3) (hK := fun rd b => ?_)
  try simp only [↓DN, UP, r1, r2, r3, r4, r5, r6, r7, reduceCtorEq, Try.f125]
  refine stIf h (fun hb_4 h => ?_) (fun hb_4 h => ?_)
  · try simp only [↓DN, UP, r1, r2, r3, r4, r5, r6, r7, reduceCtorEq, Try.f125]
    obtain rfl := Option.some.inj h
    refine endT_of ?_ ⟨rfl, rfl⟩
    exact (wn [0] [])
  · try simp only [↓DN, UP, r1, r2, r3, r4, r5, r6, r7, reduceCtorEq, Try.f125]
    obtain ⟨y_7, hy_8, h⟩ := bS h
    refine seqK TryT_eq (fun p : Unit => ⟨[], []⟩) (fun v => y_7 = .inl v) (by rfl) ?_ ?_
    · try simp only [↓DN, UP, r1, r2, r3, r4, r5, r6, r7, reduceCtorEq, Try.f125]
      obtain ⟨y_12, hy_13, hy_8⟩ := bS hy_8
      refine loopK TryT_eq (fun p : Int => ⟨[(0, .pv (.one (.int .u32 bits_1))), (1, .pv (.one (.int .i64 n_2))), (6, .pv (.one (.int .i64 p)))], []⟩) (fun k p => g_spec_Decode_l0 bits_1 n_2 k p = some y_12) (by kernel_rfl) bigK 0 (wn [0, 1, 6] []) hy_13 (fun _ h => nomatch (show none = some _ from h)) ?_
      rintro k_14 k_9 hk_15
      rw [g_spec_Decode_l0] at hk_15
      try dsimp only at hk_15
      try simp only [↓DN, UP, r1, r2, r3, r4, r5, r6, r7, reduceCtorEq, Try.f125]
      refine seqN TryT_eq rfl ?_
      try simp only [↓DN, UP, r1, r2, r3, r4, r5, r6, r7, reduceCtorEq, Try.f125]
      refine stIf hk_15 (fun hb_16 hk_15 => ?_) (fun hb_16 hk_15 => ?_)
      · try simp only [↓DN, UP, r1, r2, r3, r4, r5, r6, r7, reduceCtorEq, Try.f125]
        obtain ⟨y_18, hy_19, hk_15⟩ := bS hk_15
        refine seqK TryT_eq (fun p : Unit => ⟨[(0, .pv (.one (.int .u32 bits_1))), (1, .pv (.one (.int .i64 n_2))), (6, .pv (.one (.int .i64 k_9)))], []⟩) (fun v => y_18 = .inl v) (by rfl) ?_ ?_
        · obtain ⟨y_20, hy_20, hy_19⟩ := bS hy_19
          try simp only [↓DN, UP, r1, r2, r3, r4, r5, r6, r7, reduceCtorEq, Try.f125]
          refine cG [] (c_spec_WidthOf hy_20) (hK := fun rd b => ?_)
          try simp only [↓DN, UP, r1, r2, r3, r4, r5, r6, r7, reduceCtorEq, Try.f125]
          refine seqN TryT_eq rfl ?_
          try simp only [↓DN, UP, r1, r2, r3, r4, r5, r6, r7, reduceCtorEq, Try.f125]
          refine stIf hy_19 (fun hb_21 hy_19 => ?_) (fun hb_21 hy_19 => ?_)
          · try simp only [↓DN, UP, r1, r2, r3, r4, r5, r6, r7, reduceCtorEq, Try.f125]
            obtain rfl := Option.some.inj hy_19
            exact cutT_mk () (by trivial) (wn [0, 1, 6] [])
          · obtain ⟨v_22, hv_22, hy_19⟩ := bS hy_19
            obtain ⟨v_23, hv_23, hy_19⟩ := bS hy_19
            obtain ⟨y_24, hy_24, hy_19⟩ := bS hy_19
            try simp only [↓DN, UP, r1, r2, r3, r4, r5, r6, r7, reduceCtorEq, Try.f125, hv_22, hv_23]
            refine cG [] (c_spec_BitsOf hy_24) (hK := fun rd b => ?_)
            try simp only [↓DN, UP, r1, r2, r3, r4, r5, r6, r7, reduceCtorEq, Try.f125, hv_22, hv_23]
            refine stIf hy_19 (fun hb_25 hy_19 => ?_) (fun hb_25 hy_19 => ?_)
            · obtain rfl := Option.some.inj hy_19
              try dsimp only at hk_15
              obtain rfl := Option.some.inj hk_15
              try dsimp only at hy_8
              obtain rfl := Option.some.inj hy_8
              try dsimp only at h
              try simp only [↓DN, UP, r1, r2, r3, r4, r5, r6, r7, reduceCtorEq, Try.f125, hv_22, hv_23]
              obtain rfl := Option.some.inj h
              refine endT_of ?_ ⟨rfl, rfl⟩
              exact (wn [0] [])
            · try simp only [↓DN, UP, r1, r2, r3, r4, r5, r6, r7, reduceCtorEq, Try.f125, hv_22, hv_23]
              obtain rfl := Option.some.inj hy_19
              exact cutT_mk () (by trivial) (wn [0, 1, 6] [])
        · rintro _ hp
          replace hp := hp.symm; subst hp
          try dsimp only at hk_15
          try simp only [↓DN, UP, r1, r2, r3, r4, r5, r6, r7, reduceCtorEq, Try.f125]
          exact ⟨IntKind.wrap .i64 (k_9 + 1), hk_15, (wn [0, 1, 6] [])⟩
      · obtain rfl := Option.some.inj hk_15
        try dsimp only at hy_8
        try simp only [↓DN, UP, r1, r2, r3, r4, r5, r6, r7, reduceCtorEq, Try.f125]
        obtain rfl := Option.some.inj hy_8
        exact cutT_mk () (by trivial) (wn [] [])
    · rintro _ hp
      replace hp := hp.symm; subst hp
      try dsimp only at h
      try simp only [↓DN, UP, r1, r2, r3, r4, r5, r6, r7, reduceCtorEq, Try.f125]
      obtain rfl := Option.some.inj h
      refine endT_of ?_ ⟨rfl, rfl⟩
      exact (wn [0] [])
theorem c_spec_l02All {r : Bs} (h : g_spec_l02All = some r) : Ans Try.prog 100 [] [] fun v h1 => v = .pv (.one (.str r)) ∧ h1 = [] := by
  refine ansK (P := fun _ => Try.prog) TryT_eq (fn := Try.f100) Try.func100 rfl ⟨by kernel_rfl, rfl, rfl, by kernel_rfl⟩ (by simp) (Weak.refl _ _) ?_
  rw [g_spec_l02All] at h
  try simp only [↓DN, UP, r1, r2, r3, r4, r5, r6, r7, reduceCtorEq, Try.f100]
  obtain rfl := Option.some.inj h
  refine endT_of ?_ ⟨rfl, rfl⟩
  exact (wn [0] [])
theorem c_spec_LetterAt {k_1 : Int} {r : Int} (h : g_spec_LetterAt k_1 = some r) : Ans Try.prog 126 [.one (.int .i64 k_1)] [] fun v h1 => v = .pv (.one (.int .u8 r)) ∧ h1 = [] := by
  refine ansK (P := fun _ => Try.prog) TryT_eq (fn := Try.f126) Try.func126 rfl ⟨by kernel_rfl, rfl, rfl, by kernel_rfl⟩ (by simp) (Weak.refl _ _) ?_
  rw [g_spec_LetterAt] at h
  try simp only [↓DN, UP, r1, r2, r3, r4, r5, r6, r7, reduceCtorEq, Try.f126]
  refine seqN TryT_eq rfl ?_
  obtain ⟨y_2, hy_2, h⟩ := bS h
  try simp only [↓DN, UP, r1, r2, r3, r4, r5, r6, r7, reduceCtorEq, Try.f126]
  refine cG [] (c_spec_l01In hy_2) (hK := fun rd b => ?_)
  try simp only [↓DN, UP, r1, r2, r3, r4, r5, r6, r7, reduceCtorEq, Try.f126]
  refine stIf h (fun hb_3 h => ?_) (fun hb_3 h => ?_)
  · try simp only [↓DN, UP, r1, r2, r3, r4, r5, r6, r7, reduceCtorEq, Try.f126]
    obtain rfl := Option.some.inj h
    refine endT_of ?_ ⟨rfl, rfl⟩
    exact (wn [0] [])
  · obtain ⟨y_4, hy_4, h⟩ := bS h
    try simp only [↓DN, UP, r1, r2, r3, r4, r5, r6, r7, reduceCtorEq, Try.f126]
    refine cG [] (c_spec_l02All hy_4) (hK := fun rd b => ?_)
    obtain ⟨v_5, hv_5, h⟩ := bS h
    try simp only [↓DN, UP, r1, r2, r3, r4, r5, r6, r7, reduceCtorEq, Try.f126, hv_5]
    obtain rfl := Option.some.inj h
    refine endT_of ?_ ⟨rfl, rfl⟩
    exact (wn [0] [])
theorem c_spec_UnpackOne {f_1 : Int} {r : Bs} (h : g_spec_UnpackOne f_1 = some r) : Ans Try.prog 108 [.one (.int .u32 f_1)] [] fun v h1 => v = .pv (.one (.str r)) ∧ h1 = [] := by
  refine ansK (P := fun _ => Try.prog) TryT_eq (fn := Try.f108) Try.func108 rfl ⟨by kernel_rfl, rfl, rfl, by kernel_rfl⟩ (by simp) (Weak.refl _ _) ?_
  rw [g_spec_UnpackOne] at h
  try simp only [↓DN, UP, r1, r2, r3, r4, r5, r6, r7, reduceCtorEq, Try.f108]
  refine seqN TryT_eq rfl ?_
  try simp only [↓DN, UP, r1, r2, r3, r4, r5, r6, r7, reduceCtorEq, Try.f108]
  refine stIf h (fun hb_2 h => ?_) (fun hb_2 h => ?_)
  · try simp only [↓DN, UP, r1, r2, r3, r4, r5, r6, r7, reduceCtorEq, Try.f108]
    obtain rfl := Option.some.inj h
    refine endT_of ?_ ⟨rfl, rfl⟩
    exact (wn [0] [])
  · have f1 := (show bldN 0 = 0 from rfl)
    have f2 := (show bldC [] = ([] : List Int).flatMap (eI .u8) from rfl)
    try simp only [↓DN, UP, r1, r2, r3, r4, r5, r6, r7, reduceCtorEq, Try.f108, f1, f2]
    obtain ⟨y_6, hy_7, h⟩ := bS h
    refine seqK TryT_eq (fun p : (List Int) => ⟨[(3, .pv (.one (.arr 0 0 p.length)))], [.live ⟨1, p.length, p.flatMap (eI .u8)⟩]⟩) (fun v => y_6 = v) (by rfl) ?_ ?_
    · try simp only [↓DN, UP, r1, r2, r3, r4, r5, r6, r7, reduceCtorEq, Try.f108, f1, f2]
      refine loopK TryT_eq (fun p : (List Int) × Int => ⟨[(0, .pv (.one (.int .u32 f_1))), (3, .pv (.one (.arr 0 0 p.1.length))), (4, .pv (.one (.int .i64 p.2)))], [.live ⟨1, p.1.length, p.1.flatMap (eI .u8)⟩]⟩) (fun k p => g_spec_UnpackOne_l0 f_1 k p.1 p.2 = some y_6) (by kernel_rfl) bigK (([] : List Int), 28) (weak_norm (ks := [0, 3, 4]) (π := [0]) (fuel := 9) (by simp only [WL, r1, r2, r3, r4, r5, r6, r7, reduceCtorEq, fWin (eI_ok .u8) (n := 0) (xs := ([] : List Int)) (by simp)])) hy_7 (fun _ h => nomatch (show none = some _ from h)) ?_
      rintro k_8 ⟨out_3, left_4⟩ hk_9
      rw [g_spec_UnpackOne_l0] at hk_9
      try dsimp only at hk_9
      try simp only [↓DN, UP, r1, r2, r3, r4, r5, r6, r7, reduceCtorEq, Try.f108]
      refine seqN TryT_eq rfl ?_
      try simp only [↓DN, UP, r1, r2, r3, r4, r5, r6, r7, reduceCtorEq, Try.f108]
      obtain ⟨y_11, hy_12, hk_9⟩ := bS hk_9
      refine seqK TryT_eq (fun p : Bool => ⟨[(0, .pv (.one (.int .u32 f_1))), (3, .pv (.one (.arr 0 0 out_3.length))), (4, .pv (.one (.int .i64 left_4))), (22, .pv (.one (.bool p)))], [.live ⟨1, out_3.length, out_3.flatMap (eI .u8)⟩]⟩) (fun v => y_11 = v) (by rfl) ?_ ?_
      · try simp only [↓DN, UP, r1, r2, r3, r4, r5, r6, r7, reduceCtorEq, Try.f108]
        refine stIf hy_12 (fun hb_13 hy_12 => ?_) (fun hb_13 hy_12 => ?_)
        · obtain ⟨v_14, hv_14, hy_12⟩ := bS hy_12
          try simp only [↓DN, UP, r1, r2, r3, r4, r5, r6, r7, reduceCtorEq, Try.f108, hb_13, hv_14]
          obtain rfl := Option.some.inj hy_12
          exact cutT_mk ((andI .i64 (IntKind.wrap .i64 f_1) (IntKind.wrap .i64 (v_14 - 1))) != 0) rfl (wn [0, 3, 4, 22] [0])
        · try simp only [↓DN, UP, r1, r2, r3, r4, r5, r6, r7, reduceCtorEq, Try.f108, hb_13]
          obtain rfl := Option.some.inj hy_12
          exact cutT_mk false rfl (wn [0, 3, 4, 22] [0])
      · rintro v_10 hp
        replace hp := hp.symm; subst hp
        try dsimp only at hk_9
        try simp only [↓DN, UP, r1, r2, r3, r4, r5, r6, r7, reduceCtorEq, Try.f108]
        refine stIf hk_9 (fun hb_15 hk_9 => ?_) (fun hb_15 hk_9 => ?_)
        · obtain ⟨y_16, hy_16, hk_9⟩ := bS hk_9
          try simp only [↓DN, UP, r1, r2, r3, r4, r5, r6, r7, reduceCtorEq, Try.f108]
          refine cG [] (c_spec_Decode hy_16) (hK := fun rd b => ?_)
          try simp only [↓DN, UP, r1, r2, r3, r4, r5, r6, r7, reduceCtorEq, Try.f108]
          refine seqN TryT_eq rfl ?_
          try simp only [↓DN, UP, r1, r2, r3, r4, r5, r6, r7, reduceCtorEq, Try.f108]
          refine stIf hk_9 (fun hb_17 hk_9 => ?_) (fun hb_17 hk_9 => ?_)
          · try simp only [↓DN, UP, r1, r2, r3, r4, r5, r6, r7, reduceCtorEq, Try.f108]
            obtain rfl := Option.some.inj hk_9
            exact cutT_mk out_3 rfl (wn [3] [0])
          · obtain ⟨y_18, hy_18, hk_9⟩ := bS hk_9
            try simp only [↓DN, UP, r1, r2, r3, r4, r5, r6, r7, reduceCtorEq, Try.f108]
            refine cG [] (c_spec_LetterAt hy_18) (hK := fun rd b => ?_)
            obtain ⟨v_19, hv_19, hk_9⟩ := bS hk_9
            have f3 := (show bldN 1 = 1 from rfl)
            have f4 := (show bldC [.int .u8 y_18] = [y_18].flatMap (eI .u8) from rfl)
            have f5 := (fWin (eI_ok .u8) (n := 1) (xs := [y_18]) (by simp))
            have f6 := (fApp hv_19 (n := out_3.length) (by simp) (m := 1) (by simp [bsOf]))
            have f7 := (fWin (eI_ok .u8) (n := out_3.length) (xs := out_3) (by simp))
            have f8 := (fCat (e := (eI .u8)) (ns := [y_18].flatMap (eI .u8)) hv_19 rfl)
            try simp only [↓DN, UP, r1, r2, r3, r4, r5, r6, r7, reduceCtorEq, Try.f108, f3, f4, f5, f6, f7, f8]
            exact ⟨(v_19, IntKind.wrap .i64 (left_4 - y_16.2)), hk_9, (wn [0, 3, 4] [2])⟩
        · try simp only [↓DN, UP, r1, r2, r3, r4, r5, r6, r7, reduceCtorEq, Try.f108]
          obtain rfl := Option.some.inj hk_9
          exact cutT_mk out_3 rfl (wn [3] [0])
    · rintro out_5 hp
      replace hp := hp.symm; subst hp
      try dsimp only at h
      have f9 := (fWin (eI_ok .u8) (n := out_5.length) (xs := out_5) (by simp))
      try simp only [↓DN, UP, r1, r2, r3, r4, r5, r6, r7, reduceCtorEq, Try.f108, f9]
      obtain rfl := Option.some.inj h
      refine endT_of ?_ ⟨rfl, rfl⟩
      exact (wn [0] [])
theorem c_spec_LetterOf {b_1 : Int} {r : Int} (h : g_spec_LetterOf b_1 = some r) : Ans Try.prog 73 [.one (.int .u8 b_1)] [] fun v h1 => v = .pv (.one (.int .i64 r)) ∧ h1 = [] := by
  refine ansK (P := fun _ => Try.prog) TryT_eq (fn := Try.f73) Try.func73 rfl ⟨by kernel_rfl, rfl, rfl, by kernel_rfl⟩ (by simp) (Weak.refl _ _) ?_
  rw [g_spec_LetterOf] at h
  obtain ⟨y_2, hy_2, h⟩ := bS h
  try simp only [↓DN, UP, r1, r2, r3, r4, r5, r6, r7, reduceCtorEq, Try.f73]
  refine cG [] (c_spec_l02All hy_2) (hK := fun rd b => ?_)
  try simp only [↓DN, UP, r1, r2, r3, r4, r5, r6, r7, reduceCtorEq, Try.f73]
  obtain ⟨y_4, hy_5, h⟩ := bS h
  refine seqK TryT_eq (fun p : Unit => ⟨[], []⟩) (fun v => y_4 = .inl v) (by rfl) ?_ ?_
  · try simp only [↓DN, UP, r1, r2, r3, r4, r5, r6, r7, reduceCtorEq, Try.f73]
    obtain ⟨y_8, hy_9, hy_5⟩ := bS hy_5
    refine loopK TryT_eq (fun p : Int => ⟨[(0, .pv (.one (.int .u8 b_1))), (3, .pv (.one (.str y_2))), (4, .pv (.one (.int .i64 p)))], []⟩) (fun k p => g_spec_LetterOf_l0 b_1 y_2 k p = some y_8) (by kernel_rfl) bigK 0 (wn [0, 3, 4] []) hy_9 (fun _ h => nomatch (show none = some _ from h)) ?_
    rintro k_10 i_6 hk_11
    rw [g_spec_LetterOf_l0] at hk_11
    try dsimp only at hk_11
    try simp only [↓DN, UP, r1, r2, r3, r4, r5, r6, r7, reduceCtorEq, Try.f73]
    refine seqN TryT_eq rfl ?_
    try simp only [↓DN, UP, r1, r2, r3, r4, r5, r6, r7, reduceCtorEq, Try.f73]
    refine stIf hk_11 (fun hb_12 hk_11 => ?_) (fun hb_12 hk_11 => ?_)
    · try simp only [↓DN, UP, r1, r2, r3, r4, r5, r6, r7, reduceCtorEq, Try.f73]
      refine seqN TryT_eq rfl ?_
      obtain ⟨v_13, hv_13, hk_11⟩ := bS hk_11
      try simp only [↓DN, UP, r1, r2, r3, r4, r5, r6, r7, reduceCtorEq, Try.f73, hv_13]
      refine stIf hk_11 (fun hb_14 hk_11 => ?_) (fun hb_14 hk_11 => ?_)
      · obtain rfl := Option.some.inj hk_11
        try dsimp only at hy_5
        obtain rfl := Option.some.inj hy_5
        try dsimp only at h
        try simp only [↓DN, UP, r1, r2, r3, r4, r5, r6, r7, reduceCtorEq, Try.f73, hv_13]
        obtain rfl := Option.some.inj h
        refine endT_of ?_ ⟨rfl, rfl⟩
        exact (wn [0] [])
      · try simp only [↓DN, UP, r1, r2, r3, r4, r5, r6, r7, reduceCtorEq, Try.f73, hv_13]
        exact ⟨IntKind.wrap .i64 (i_6 + 1), hk_11, (wn [0, 3, 4] [])⟩
    · obtain rfl := Option.some.inj hk_11
      try dsimp only at hy_5
      try simp only [↓DN, UP, r1, r2, r3, r4, r5, r6, r7, reduceCtorEq, Try.f73]
      obtain rfl := Option.some.inj hy_5
      exact cutT_mk () (by trivial) (wn [] [])
  · rintro _ hp
    replace hp := hp.symm; subst hp
    try dsimp only at h
    try simp only [↓DN, UP, r1, r2, r3, r4, r5, r6, r7, reduceCtorEq, Try.f73]
    obtain rfl := Option.some.inj h
    refine endT_of ?_ ⟨rfl, rfl⟩
    exact (wn [0] [])
theorem c_spec_NameOk {s_1 : Bs} {r : Bool} (h : g_spec_NameOk s_1 = some r) : Ans Try.prog 49 [.one (.str s_1)] [] fun v h1 => v = .pv (.one (.bool r)) ∧ h1 = [] := by
  refine ansK (P := fun _ => Try.prog) TryT_eq (fn := Try.f49) Try.func49 rfl ⟨by kernel_rfl, rfl, rfl, by kernel_rfl⟩ (by simp) (Weak.refl _ _) ?_
  rw [g_spec_NameOk] at h
  try simp only [↓DN, UP, r1, r2, r3, r4, r5, r6, r7, reduceCtorEq, Try.f49]
  refine seqN TryT_eq rfl ?_
  obtain ⟨y_2, hy_2, h⟩ := bS h
  try simp only [↓DN, UP, r1, r2, r3, r4, r5, r6, r7, reduceCtorEq, Try.f49]
  refine cG [] (c_spec_l01In hy_2) (hK := fun rd b => ?_)
  try simp only [↓DN, UP, r1, r2, r3, r4, r5, r6, r7, reduceCtorEq, Try.f49]
  refine stIf h (fun hb_3 h => ?_) (fun hb_3 h => ?_)
  · try simp only [↓DN, UP, r1, r2, r3, r4, r5, r6, r7, reduceCtorEq, Try.f49]
    obtain rfl := Option.some.inj h
    refine endT_of ?_ ⟨rfl, rfl⟩
    exact (wn [0] [])
  · try simp only [↓DN, UP, r1, r2, r3, r4, r5, r6, r7, reduceCtorEq, Try.f49]
    obtain ⟨y_4, hy_5, h⟩ := bS h
    refine seqK TryT_eq (fun p : Unit => ⟨[], []⟩) (fun v => y_4 = .inl v) (by rfl) ?_ ?_
    · try simp only [↓DN, UP, r1, r2, r3, r4, r5, r6, r7, reduceCtorEq, Try.f49]
      obtain ⟨y_7, hy_8, hy_5⟩ := bS hy_5
      refine loopK TryT_eq (fun p : Int => ⟨[(0, .pv (.one (.str s_1))), (3, .pv (.one (.int .i64 p)))], []⟩) (fun k p => g_spec_NameOk_l0 s_1 k p = some y_7) (by kernel_rfl) bigK 0 (wn [0, 3] []) hy_8 (fun _ h => nomatch (show none = some _ from h)) ?_
      rintro k_9 i_6 hk_10
      rw [g_spec_NameOk_l0] at hk_10
      try dsimp only at hk_10
      try simp only [↓DN, UP, r1, r2, r3, r4, r5, r6, r7, reduceCtorEq, Try.f49]
      refine seqN TryT_eq rfl ?_
      try simp only [↓DN, UP, r1, r2, r3, r4, r5, r6, r7, reduceCtorEq, Try.f49]
      refine stIf hk_10 (fun hb_11 hk_10 => ?_) (fun hb_11 hk_10 => ?_)
      · try simp only [↓DN, UP, r1, r2, r3, r4, r5, r6, r7, reduceCtorEq, Try.f49]
        refine seqN TryT_eq rfl ?_
        obtain ⟨v_12, hv_12, hk_10⟩ := bS hk_10
        obtain ⟨y_13, hy_13, hk_10⟩ := bS hk_10
        try simp only [↓DN, UP, r1, r2, r3, r4, r5, r6, r7, reduceCtorEq, Try.f49, hv_12]
        refine cG [] (c_spec_LetterOf hy_13) (hK := fun rd b => ?_)
        try simp only [↓DN, UP, r1, r2, r3, r4, r5, r6, r7, reduceCtorEq, Try.f49, hv_12]
        refine stIf hk_10 (fun hb_14 hk_10 => ?_) (fun hb_14 hk_10 => ?_)
        · obtain rfl := Option.some.inj hk_10
          try dsimp only at hy_5
          obtain rfl := Option.some.inj hy_5
          try dsimp only at h
          try simp only [↓DN, UP, r1, r2, r3, r4, r5, r6, r7, reduceCtorEq, Try.f49, hv_12]
          obtain rfl := Option.some.inj h
          refine endT_of ?_ ⟨rfl, rfl⟩
          exact (wn [0] [])
        · try simp only [↓DN, UP, r1, r2, r3, r4, r5, r6, r7, reduceCtorEq, Try.f49, hv_12]
          exact ⟨IntKind.wrap .i64 (i_6 + 1), hk_10, (wn [0, 3] [])⟩
      · obtain rfl := Option.some.inj hk_10
        try dsimp only at hy_5
        try simp only [↓DN, UP, r1, r2, r3, r4, r5, r6, r7, reduceCtorEq, Try.f49]
        obtain rfl := Option.some.inj hy_5
        exact cutT_mk () (by trivial) (wn [] [])
    · rintro _ hp
      replace hp := hp.symm; subst hp
      try dsimp only at h
      try simp only [↓DN, UP, r1, r2, r3, r4, r5, r6, r7, reduceCtorEq, Try.f49]
      obtain rfl := Option.some.inj h
      refine endT_of ?_ ⟨rfl, rfl⟩
      exact (wn [0] [])
theorem c_spec_l03One {s_1 : Bs} {r : Int × Int} (h : g_spec_l03One s_1 = some r) : Ans Try.prog 138 [.one (.str s_1)] [] fun v h1 => v = .tup [.one (.int .u32 r.1), .one (.int .i64 r.2)] ∧ h1 = [] := by
  refine ansK (P := fun _ => Try.prog) TryT_eq (fn := Try.f138) Try.func138 rfl ⟨by kernel_rfl, rfl, rfl, by kernel_rfl⟩ (by simp) (Weak.refl _ _) ?_
  rw [g_spec_l03One] at h
  try simp only [↓DN, UP, r1, r2, r3, r4, r5, r6, r7, reduceCtorEq, Try.f138]
  obtain ⟨y_7, hy_8, h⟩ := bS h
  refine seqK TryT_eq (fun p : Int × Int => ⟨[(4, .pv (.one (.int .i64 p.1))), (6, .pv (.one (.int .i64 p.2)))], []⟩) (fun v => y_7 = v) (by rfl) ?_ ?_
  · try simp only [↓DN, UP, r1, r2, r3, r4, r5, r6, r7, reduceCtorEq, Try.f138]
    refine loopK TryT_eq (fun p : Int × Int × Int => ⟨[(0, .pv (.one (.str s_1))), (4, .pv (.one (.int .i64 p.1))), (5, .pv (.one (.int .i64 p.2.1))), (6, .pv (.one (.int .i64 p.2.2)))], []⟩) (fun k p => g_spec_l03One_l0 s_1 k p.1 p.2.1 p.2.2 = some y_7) (by kernel_rfl) bigK (0, 28, 0) (wn [0, 4, 5, 6] []) hy_8 (fun _ h => nomatch (show none = some _ from h)) ?_
    rintro k_9 ⟨f_2, left_3, n_4⟩ hk_10
    rw [g_spec_l03One_l0] at hk_10
    try dsimp only at hk_10
    try simp only [↓DN, UP, r1, r2, r3, r4, r5, r6, r7, reduceCtorEq, Try.f138]
    refine seqN TryT_eq rfl ?_
    try simp only [↓DN, UP, r1, r2, r3, r4, r5, r6, r7, reduceCtorEq, Try.f138]
    refine stIf hk_10 (fun hb_11 hk_10 => ?_) (fun hb_11 hk_10 => ?_)
    · obtain ⟨v_12, hv_12, hk_10⟩ := bS hk_10
      obtain ⟨y_13, hy_13, hk_10⟩ := bS hk_10
      try simp only [↓DN, UP, r1, r2, r3, r4, r5, r6, r7, reduceCtorEq, Try.f138, hv_12]
      refine cG [] (c_spec_LetterOf hy_13) (hK := fun rd b => ?_)
      obtain ⟨y_14, hy_14, hk_10⟩ := bS hk_10
      try simp only [↓DN, UP, r1, r2, r3, r4, r5, r6, r7, reduceCtorEq, Try.f138, hv_12]
      refine cG [] (c_spec_WidthOf hy_14) (hK := fun rd b => ?_)
      try simp only [↓DN, UP, r1, r2, r3, r4, r5, r6, r7, reduceCtorEq, Try.f138, hv_12]
      refine seqN TryT_eq rfl ?_
      try simp only [↓DN, UP, r1, r2, r3, r4, r5, r6, r7, reduceCtorEq, Try.f138, hv_12]
      refine stIf hk_10 (fun hb_15 hk_10 => ?_) (fun hb_15 hk_10 => ?_)
      · try simp only [↓DN, UP, r1, r2, r3, r4, r5, r6, r7, reduceCtorEq, Try.f138, hv_12]
        obtain rfl := Option.some.inj hk_10
        exact cutT_mk (f_2, n_4) rfl (wn [4, 6] [])
      · obtain ⟨y_16, hy_16, hk_10⟩ := bS hk_10
        try simp only [↓DN, UP, r1, r2, r3, r4, r5, r6, r7, reduceCtorEq, Try.f138, hv_12]
        refine cG [] (c_spec_BitsOf hy_16) (hK := fun rd b => ?_)
        obtain ⟨v_17, hv_17, hk_10⟩ := bS hk_10
        try simp only [↓DN, UP, r1, r2, r3, r4, r5, r6, r7, reduceCtorEq, Try.f138, hv_12, hv_17]
        exact ⟨(IntKind.wrap .i64 (f_2 + v_17), IntKind.wrap .i64 (left_3 - y_14), IntKind.wrap .i64 (n_4 + 1)), hk_10, (wn [0, 4, 5, 6] [])⟩
    · try simp only [↓DN, UP, r1, r2, r3, r4, r5, r6, r7, reduceCtorEq, Try.f138]
      obtain rfl := Option.some.inj hk_10
      exact cutT_mk (f_2, n_4) rfl (wn [4, 6] [])
  · rintro ⟨f_5, n_6⟩ hp
    replace hp := hp.symm; subst hp
    try dsimp only at h
    try simp only [↓DN, UP, r1, r2, r3, r4, r5, r6, r7, reduceCtorEq, Try.f138]
    obtain rfl := Option.some.inj h
    refine endT_of ?_ ⟨rfl, rfl⟩
    exact (wn [0] [])
theorem c_spec_Pack {s_1 : Bs} {r : (List Int)} (h : g_spec_Pack s_1 = some r) : Ans Try.prog 119 [.one (.str s_1)] [] fun v h1 => v = .pv (.one (.arr 0 0 r.length)) ∧ h1 = [.live ⟨1, r.length, r.flatMap (eI .u32)⟩] := by
  refine ansK (P := fun _ => Try.prog) TryT_eq (fn := Try.f119) Try.func119 rfl ⟨by kernel_rfl, rfl, rfl, by kernel_rfl⟩ (by simp) (Weak.refl _ _) ?_
  rw [g_spec_Pack] at h
  have f1 := (show bldN 0 = 0 from rfl)
  have f2 := (show bldC [] = ([] : List Int).flatMap (eI .u32) from rfl)
  try simp only [↓DN, UP, r1, r2, r3, r4, r5, r6, r7, reduceCtorEq, Try.f119, f1, f2]
  refine seqN TryT_eq rfl ?_
  obtain ⟨y_2, hy_2, h⟩ := bS h
  try simp only [↓DN, UP, r1, r2, r3, r4, r5, r6, r7, reduceCtorEq, Try.f119, f1, f2]
  refine cG [] (c_spec_NameOk hy_2) (hK := fun rd b => ?_)
  try simp only [↓DN, UP, r1, r2, r3, r4, r5, r6, r7, reduceCtorEq, Try.f119, f1, f2]
  refine stIf h (fun hb_3 h => ?_) (fun hb_3 h => ?_)
  · try simp only [↓DN, UP, r1, r2, r3, r4, r5, r6, r7, reduceCtorEq, Try.f119, f1, f2]
    obtain rfl := Option.some.inj h
    refine endT_of ?_ ⟨rfl, rfl⟩
    exact (weak_norm (ks := [0]) (π := [0]) (fuel := 9) (by simp only [WL, r1, r2, r3, r4, r5, r6, r7, reduceCtorEq, fWin (eI_ok .u32) (n := 0) (xs := ([] : List Int)) (by simp)]))
  · try simp only [↓DN, UP, r1, r2, r3, r4, r5, r6, r7, reduceCtorEq, Try.f119, f1, f2]
    obtain ⟨y_7, hy_8, h⟩ := bS h
    refine seqK TryT_eq (fun p : (List Int) => ⟨[(3, .pv (.one (.arr 0 0 p.length)))], [.live ⟨1, p.length, p.flatMap (eI .u32)⟩]⟩) (fun v => y_7 = v) (by rfl) ?_ ?_
    · try simp only [↓DN, UP, r1, r2, r3, r4, r5, r6, r7, reduceCtorEq, Try.f119, f1, f2]
      refine loopK TryT_eq (fun p : Bs × (List Int) => ⟨[(0, .pv (.one (.str p.1))), (3, .pv (.one (.arr 0 0 p.2.length)))], [.live ⟨1, p.2.length, p.2.flatMap (eI .u32)⟩]⟩) (fun k p => g_spec_Pack_l0 k p.1 p.2 = some y_7) (by kernel_rfl) bigK (s_1, ([] : List Int)) (weak_norm (ks := [0, 3]) (π := [0]) (fuel := 9) (by simp only [WL, r1, r2, r3, r4, r5, r6, r7, reduceCtorEq, fWin (eI_ok .u32) (n := 0) (xs := ([] : List Int)) (by simp)])) hy_8 (fun _ h => nomatch (show none = some _ from h)) ?_
      rintro k_9 ⟨s_4, out_5⟩ hk_10
      rw [g_spec_Pack_l0] at hk_10
      try dsimp only at hk_10
      try simp only [↓DN, UP, r1, r2, r3, r4, r5, r6, r7, reduceCtorEq, Try.f119]
      refine seqN TryT_eq rfl ?_
      try simp only [↓DN, UP, r1, r2, r3, r4, r5, r6, r7, reduceCtorEq, Try.f119]
      refine stIf hk_10 (fun hb_11 hk_10 => ?_) (fun hb_11 hk_10 => ?_)
      · obtain ⟨y_12, hy_12, hk_10⟩ := bS hk_10
        try simp only [↓DN, UP, r1, r2, r3, r4, r5, r6, r7, reduceCtorEq, Try.f119]
        refine cG [] (c_spec_l03One hy_12) (hK := fun rd b => ?_)
        obtain ⟨v_13, hv_13, hk_10⟩ := bS hk_10
        obtain ⟨v_14, hv_14, hk_10⟩ := bS hk_10
        have f3 := (show bldN 1 = 1 from rfl)
        have f4 := (show bldC [.int .u32 y_12.1] = [y_12.1].flatMap (eI .u32) from rfl)
        have f5 := (fWin (eI_ok .u32) (n := 1) (xs := [y_12.1]) (by simp))
        have f6 := (fApp hv_13 (n := out_5.length) (by simp) (m := 1) (by simp [bsOf]))
        have f7 := (fWin (eI_ok .u32) (n := out_5.length) (xs := out_5) (by simp))
        have f8 := (fCat (e := (eI .u32)) (ns := [y_12.1].flatMap (eI .u32)) hv_13 rfl)
        try simp only [↓DN, UP, r1, r2, r3, r4, r5, r6, r7, reduceCtorEq, Try.f119, f3, f4, f5, f6, f7, f8, hv_14]
        exact ⟨(v_14, v_13), hk_10, (wn [0, 3] [2])⟩
      · try simp only [↓DN, UP, r1, r2, r3, r4, r5, r6, r7, reduceCtorEq, Try.f119]
        obtain rfl := Option.some.inj hk_10
        exact cutT_mk out_5 rfl (wn [3] [0])
    · rintro out_6 hp
      replace hp := hp.symm; subst hp
      try dsimp only at h
      try simp only [↓DN, UP, r1, r2, r3, r4, r5, r6, r7, reduceCtorEq, Try.f119]
      obtain rfl := Option.some.inj h
      refine endT_of ?_ ⟨rfl, rfl⟩
      exact (wn [0] [0])
theorem c_spec_l03Same {a_1 : List Int} {b_2 : List Int} {r : Bool} (h : g_spec_l03Same a_1 b_2 = some r) : Ans Try.prog 143 [.one (.imm 1 a_1.length (a_1.flatMap (eI .u32))), .one (.imm 1 b_2.length (b_2.flatMap (eI .u32)))] [] fun v h1 => v = .pv (.one (.bool r)) ∧ h1 = [] := by
  refine ansK (P := fun _ => Try.prog) TryT_eq (fn := Try.f143) Try.func143 rfl ⟨by kernel_rfl, rfl, rfl, by kernel_rfl⟩ (by simp) (Weak.refl _ _) ?_
  rw [g_spec_l03Same] at h
  try simp only [↓DN, UP, r1, r2, r3, r4, r5, r6, r7, reduceCtorEq, Try.f143]
  refine seqN TryT_eq rfl ?_
  try simp only [↓DN, UP, r1, r2, r3, r4, r5, r6, r7, reduceCtorEq, Try.f143]
  refine stIf h (fun hb_3 h => ?_) (fun hb_3 h => ?_)
  · try simp only [↓DN, UP, r1, r2, r3, r4, r5, r6, r7, reduceCtorEq, Try.f143]
    obtain rfl := Option.some.inj h
    refine endT_of ?_ ⟨rfl, rfl⟩
    exact (wn [0] [])
  · try simp only [↓DN, UP, r1, r2, r3, r4, r5, r6, r7, reduceCtorEq, Try.f143]
    obtain ⟨y_4, hy_5, h⟩ := bS h
    refine seqK TryT_eq (fun p : Unit => ⟨[], []⟩) (fun v => y_4 = .inl v) (by rfl) ?_ ?_
    · try simp only [↓DN, UP, r1, r2, r3, r4, r5, r6, r7, reduceCtorEq, Try.f143]
      obtain ⟨y_7, hy_8, hy_5⟩ := bS hy_5
      refine loopK TryT_eq (fun p : Int => ⟨[(0, .pv (.one (.imm 1 a_1.length (a_1.flatMap (eI .u32))))), (1, .pv (.one (.imm 1 b_2.length (b_2.flatMap (eI .u32))))), (5, .pv (.one (.int .i64 p)))], []⟩) (fun k p => g_spec_l03Same_l0 a_1 b_2 k p = some y_7) (by kernel_rfl) bigK 0 (wn [0, 1, 5] []) hy_8 (fun _ h => nomatch (show none = some _ from h)) ?_
      rintro k_9 i_6 hk_10
      rw [g_spec_l03Same_l0] at hk_10
      try dsimp only at hk_10
      try simp only [↓DN, UP, r1, r2, r3, r4, r5, r6, r7, reduceCtorEq, Try.f143]
      refine seqN TryT_eq rfl ?_
      try simp only [↓DN, UP, r1, r2, r3, r4, r5, r6, r7, reduceCtorEq, Try.f143]
      refine stIf hk_10 (fun hb_11 hk_10 => ?_) (fun hb_11 hk_10 => ?_)
      · try simp only [↓DN, UP, r1, r2, r3, r4, r5, r6, r7, reduceCtorEq, Try.f143]
        refine seqN TryT_eq rfl ?_
        obtain ⟨v_12, hv_12, hk_10⟩ := bS hk_10
        obtain ⟨v_13, hv_13, hk_10⟩ := bS hk_10
        have f1 := (fAt (eI_ok .u32) hv_12 (n := a_1.length) (by simp))
        have f2 := (fAt (eI_ok .u32) hv_13 (n := b_2.length) (by simp))
        try simp only [↓DN, UP, r1, r2, r3, r4, r5, r6, r7, reduceCtorEq, Try.f143, f1, f2]
        refine ⟨rfl, ?_⟩
        try simp only [↓DN, UP, r1, r2, r3, r4, r5, r6, r7, reduceCtorEq, Try.f143, f1, f2]
        refine stIf hk_10 (fun hb_14 hk_10 => ?_) (fun hb_14 hk_10 => ?_)
        · obtain rfl := Option.some.inj hk_10
          try dsimp only at hy_5
          obtain rfl := Option.some.inj hy_5
          try dsimp only at h
          try simp only [↓DN, UP, r1, r2, r3, r4, r5, r6, r7, reduceCtorEq, Try.f143, f1, f2]
          obtain rfl := Option.some.inj h
          refine endT_of ?_ ⟨rfl, rfl⟩
          exact (wn [0] [])
        · try simp only [↓DN, UP, r1, r2, r3, r4, r5, r6, r7, reduceCtorEq, Try.f143, f1, f2]
          exact ⟨IntKind.wrap .i64 (i_6 + 1), hk_10, (wn [0, 1, 5] [])⟩
      · obtain rfl := Option.some.inj hk_10
        try dsimp only at hy_5
        try simp only [↓DN, UP, r1, r2, r3, r4, r5, r6, r7, reduceCtorEq, Try.f143]
        obtain rfl := Option.some.inj hy_5
        exact cutT_mk () (by trivial) (wn [] [])
    · rintro _ hp
      replace hp := hp.symm; subst hp
      try dsimp only at h
      try simp only [↓DN, UP, r1, r2, r3, r4, r5, r6, r7, reduceCtorEq, Try.f143]
      obtain rfl := Option.some.inj h
      refine endT_of ?_ ⟨rfl, rfl⟩
      exact (wn [0] [])
theorem c_spec_Unpack {list_1 : List Int} {r : Bs × Bool} (h : g_spec_Unpack list_1 = some r) : Ans Try.prog 124 [.one (.imm 1 list_1.length (list_1.flatMap (eI .u32)))] [] fun v h1 => v = .tup [.one (.str r.1), .one (.bool r.2)] ∧ h1 = [] := by
  refine ansK (P := fun _ => Try.prog) TryT_eq (fn := Try.f124) Try.func124 rfl ⟨by kernel_rfl, rfl, rfl, by kernel_rfl⟩ (by simp) (Weak.refl _ _) ?_
  rw [g_spec_Unpack] at h
  try simp only [↓DN, UP, r1, r2, r3, r4, r5, r6, r7, reduceCtorEq, Try.f124]
  refine seqN TryT_eq rfl ?_
  try simp only [↓DN, UP, r1, r2, r3, r4, r5, r6, r7, reduceCtorEq, Try.f124]
  refine stIf h (fun hb_2 h => ?_) (fun hb_2 h => ?_)
  · try simp only [↓DN, UP, r1, r2, r3, r4, r5, r6, r7, reduceCtorEq, Try.f124]
    obtain rfl := Option.some.inj h
    refine endT_of ?_ ⟨rfl, rfl⟩
    exact (wn [0] [])
  · try simp only [↓DN, UP, r1, r2, r3, r4, r5, r6, r7, reduceCtorEq, Try.f124]
    obtain ⟨y_4, hy_5, h⟩ := bS h
    refine seqK TryT_eq (fun p : Bs => ⟨[(0, .pv (.one (.imm 1 list_1.length (list_1.flatMap (eI .u32))))), (4, .pv (.one (.str p)))], []⟩) (fun v => y_4 = v) (by rfl) ?_ ?_
    · try simp only [↓DN, UP, r1, r2, r3, r4, r5, r6, r7, reduceCtorEq, Try.f124]
      obtain ⟨y_9, hy_10, hy_5⟩ := bS hy_5
      refine loopK TryT_eq (fun p : Bs × Int => ⟨[(0, .pv (.one (.imm 1 list_1.length (list_1.flatMap (eI .u32))))), (4, .pv (.one (.str p.1))), (5, .pv (.one (.int .i64 p.2)))], []⟩) (fun k p => g_spec_Unpack_l0 list_1 k p.1 p.2 = some y_9) (by kernel_rfl) bigK ([], 0) (wn [0, 4, 5] []) hy_10 (fun _ h => nomatch (show none = some _ from h)) ?_
      rintro k_11 ⟨s_6, i_7⟩ hk_12
      rw [g_spec_Unpack_l0] at hk_12
      try dsimp only at hk_12
      try simp only [↓DN, UP, r1, r2, r3, r4, r5, r6, r7, reduceCtorEq, Try.f124]
      refine seqN TryT_eq rfl ?_
      try simp only [↓DN, UP, r1, r2, r3, r4, r5, r6, r7, reduceCtorEq, Try.f124]
      refine stIf hk_12 (fun hb_13 hk_12 => ?_) (fun hb_13 hk_12 => ?_)
      · try simp only [↓DN, UP, r1, r2, r3, r4, r5, r6, r7, reduceCtorEq, Try.f124]
        refine seqN TryT_eq rfl ?_
        obtain ⟨v_14, hv_14, hk_12⟩ := bS hk_12
        obtain ⟨y_15, hy_15, hk_12⟩ := bS hk_12
        have f1 := (fAt (eI_ok .u32) hv_14 (n := list_1.length) (by simp))
        try simp only [↓DN, UP, r1, r2, r3, r4, r5, r6, r7, reduceCtorEq, Try.f124, f1]
        refine cG [] (c_spec_UnpackOne hy_15) (hK := fun rd b => ?_)
        obtain ⟨v_16, hv_16, hk_12⟩ := bS hk_12
        try simp only [↓DN, UP, r1, r2, r3, r4, r5, r6, r7, reduceCtorEq, Try.f124, f1, hv_16]
        exact ⟨(v_16, IntKind.wrap .i64 (i_7 + 1)), hk_12, (wn [0, 4, 5] [])⟩
      · obtain rfl := Option.some.inj hk_12
        try dsimp only at hy_5
        try simp only [↓DN, UP, r1, r2, r3, r4, r5, r6, r7, reduceCtorEq, Try.f124]
        obtain rfl := Option.some.inj hy_5
        exact cutT_mk s_6 rfl (wn [0, 4] [])
    · rintro s_3 hp
      replace hp := hp.symm; subst hp
      try dsimp only at h
      try simp only [↓DN, UP, r1, r2, r3, r4, r5, r6, r7, reduceCtorEq, Try.f124]
      refine seqN TryT_eq rfl ?_
      try simp only [↓DN, UP, r1, r2, r3, r4, r5, r6, r7, reduceCtorEq, Try.f124]
      obtain ⟨y_18, hy_19, h⟩ := bS h
      refine seqK TryT_eq (fun p : Bool => ⟨[(4, .pv (.one (.str s_3))), (31, .pv (.one (.bool p)))], []⟩) (fun v => y_18 = v) (by rfl) ?_ ?_
      · obtain ⟨y_20, hy_20, hy_19⟩ := bS hy_19
        try simp only [↓DN, UP, r1, r2, r3, r4, r5, r6, r7, reduceCtorEq, Try.f124]
        refine cG [] (c_spec_NameOk hy_20) (hK := fun rd b => ?_)
        try simp only [↓DN, UP, r1, r2, r3, r4, r5, r6, r7, reduceCtorEq, Try.f124]
        refine stIf hy_19 (fun hb_21 hy_19 => ?_) (fun hb_21 hy_19 => ?_)
        · try simp only [↓DN, UP, r1, r2, r3, r4, r5, r6, r7, reduceCtorEq, Try.f124, hb_21]
          obtain rfl := Option.some.inj hy_19
          exact cutT_mk true rfl (wn [4, 31] [])
        · obtain ⟨y_22, hy_22, hy_19⟩ := bS hy_19
          try simp only [↓DN, UP, r1, r2, r3, r4, r5, r6, r7, reduceCtorEq, Try.f124, hb_21]
          refine cG [] (c_spec_Pack hy_22) (hK := fun rd b => ?_)
          obtain ⟨y_23, hy_23, hy_19⟩ := bS hy_19
          try simp only [↓DN, UP, r1, r2, r3, r4, r5, r6, r7, reduceCtorEq, Try.f124, hb_21]
          refine cG [] (c_spec_l03Same hy_23) (hK := fun rd b => ?_)
          try simp only [↓DN, UP, r1, r2, r3, r4, r5, r6, r7, reduceCtorEq, Try.f124, hb_21]
          obtain rfl := Option.some.inj hy_19
          exact cutT_mk (!y_23) rfl (wn [4, 31] [])
      · rintro v_17 hp
        replace hp := hp.symm; subst hp
        try dsimp only at h
        try simp only [↓DN, UP, r1, r2, r3, r4, r5, r6, r7, reduceCtorEq, Try.f124]
        refine stIf h (fun hb_24 h => ?_) (fun hb_24 h => ?_)
        · try simp only [↓DN, UP, r1, r2, r3, r4, r5, r6, r7, reduceCtorEq, Try.f124]
          obtain rfl := Option.some.inj h
          refine endT_of ?_ ⟨rfl, rfl⟩
          exact (wn [0] [])
        · try simp only [↓DN, UP, r1, r2, r3, r4, r5, r6, r7, reduceCtorEq, Try.f124]
          obtain rfl := Option.some.inj h
          refine endT_of ?_ ⟨rfl, rfl⟩
          exact (wn [0] [])
theorem c_spec_l04Name {cells_1 : List Int} {i_2 : Int} {kind_3 : Int} {r : GItem × Int} (h : g_spec_l04Name cells_1 i_2 kind_3 = some r) : Ans Try.prog 105 [.one (.imm 1 cells_1.length (cells_1.flatMap (eI .u32))), .one (.int .i64 i_2), .one (.int .i64 kind_3)] [] fun v h1 => v = .tup [.agg [.int .i64 r.1.Kind, .str r.1.Name, .int .i32 r.1.N, .bool r.1.Hex, .int .u32 r.1.Raw], .one (.int .i64 r.2)] ∧ h1 = [] := by
  refine ansK (P := fun _ => Try.prog) TryT_eq (fn := Try.f105) Try.func105 rfl ⟨by kernel_rfl, rfl, rfl, by kernel_rfl⟩ (by simp) (Weak.refl _ _) ?_
  rw [g_spec_l04Name] at h
  obtain ⟨v_4, hv_4, h⟩ := bS h
  have f1 := (fAt (eI_ok .u32) hv_4 (n := cells_1.length) (by simp))
  have f2 := (quoI_ne (k := .u32) (a := v_4) (b := 16) (by decide))
  have f3 := (show bldN 1 = 1 from rfl)
  have f4 := (show bldC [.int .u32 (IntKind.wrap .u32 (Int.tdiv v_4 16))] = [IntKind.wrap .u32 (Int.tdiv v_4 16)].flatMap (eI .u32) from rfl)
  try simp only [↓DN, UP, r1, r2, r3, r4, r5, r6, r7, reduceCtorEq, Try.f105, f1, f2, f3, f4]
  obtain ⟨y_6, hy_7, h⟩ := bS h
  refine seqK TryT_eq (fun p : (List Int) => ⟨[(2, .pv (.one (.int .i64 kind_3))), (6, .pv (.one (.ptr 0 0))), (8, .pv (.one (.arr 1 0 p.length)))], [.live ⟨1, 5, [.int .i64 0, .str [], .int .i32 0, .bool false, .int .u32 0]⟩, .live ⟨1, p.length, p.flatMap (eI .u32)⟩]⟩) (fun v => y_6 = v) (by rfl) ?_ ?_
  · try simp only [↓DN, UP, r1, r2, r3, r4, r5, r6, r7, reduceCtorEq, Try.f105, f1, f2, f3, f4]
    obtain ⟨y_11, hy_12, hy_7⟩ := bS hy_7
    refine loopK TryT_eq (fun p : (List Int) × Int => ⟨[(0, .pv (.one (.imm 1 cells_1.length (cells_1.flatMap (eI .u32))))), (2, .pv (.one (.int .i64 kind_3))), (6, .pv (.one (.ptr 0 0))), (8, .pv (.one (.arr 1 0 p.1.length))), (9, .pv (.one (.int .i64 p.2)))], [.live ⟨1, 5, [.int .i64 0, .str [], .int .i32 0, .bool false, .int .u32 0]⟩, .live ⟨1, p.1.length, p.1.flatMap (eI .u32)⟩]⟩) (fun k p => g_spec_l04Name_l0 cells_1 k p.1 p.2 = some y_11) (by kernel_rfl) bigK ([IntKind.wrap .u32 (Int.tdiv v_4 16)], IntKind.wrap .i64 (i_2 + 1)) (weak_norm (ks := [0, 2, 6, 8, 9]) (π := [0, 1]) (fuel := 9) (by simp only [WL, r1, r2, r3, r4, r5, r6, r7, reduceCtorEq, fWin (eI_ok .u32) (n := 1) (xs := [IntKind.wrap .u32 (Int.tdiv v_4 16)]) (by simp)])) hy_12 (fun _ h => nomatch (show none = some _ from h)) ?_
    rintro k_13 ⟨fields_8, k_9⟩ hk_14
    rw [g_spec_l04Name_l0] at hk_14
    try dsimp only at hk_14
    try simp only [↓DN, UP, r1, r2, r3, r4, r5, r6, r7, reduceCtorEq, Try.f105]
    refine seqN TryT_eq rfl ?_
    try simp only [↓DN, UP, r1, r2, r3, r4, r5, r6, r7, reduceCtorEq, Try.f105]
    obtain ⟨y_16, hy_17, hk_14⟩ := bS hk_14
    refine seqK TryT_eq (fun p : Bool => ⟨[(0, .pv (.one (.imm 1 cells_1.length (cells_1.flatMap (eI .u32))))), (2, .pv (.one (.int .i64 kind_3))), (6, .pv (.one (.ptr 0 0))), (8, .pv (.one (.arr 1 0 fields_8.length))), (9, .pv (.one (.int .i64 k_9))), (38, .pv (.one (.bool p)))], [.live ⟨1, 5, [.int .i64 0, .str [], .int .i32 0, .bool false, .int .u32 0]⟩, .live ⟨1, fields_8.length, fields_8.flatMap (eI .u32)⟩]⟩) (fun v => y_16 = v) (by rfl) ?_ ?_
    · try simp only [↓DN, UP, r1, r2, r3, r4, r5, r6, r7, reduceCtorEq, Try.f105]
      refine stIf hy_17 (fun hb_18 hy_17 => ?_) (fun hb_18 hy_17 => ?_)
      · obtain ⟨v_19, hv_19, hy_17⟩ := bS hy_17
        have f5 := (fAt (eI_ok .u32) hv_19 (n := cells_1.length) (by simp))
        have f6 := (remI_ne (k := .u32) (a := v_19) (b := 16) (by decide))
        try simp only [↓DN, UP, r1, r2, r3, r4, r5, r6, r7, reduceCtorEq, Try.f105, hb_18, f5, f6]
        refine stIf hy_17 (fun hb_20 hy_17 => ?_) (fun hb_20 hy_17 => ?_)
        · try simp only [↓DN, UP, r1, r2, r3, r4, r5, r6, r7, reduceCtorEq, Try.f105, hb_18, f5, f6, hb_20]
          obtain rfl := Option.some.inj hy_17
          exact cutT_mk (v_19 != 0) rfl (wn [0, 2, 6, 8, 9, 38] [0, 1])
        · try simp only [↓DN, UP, r1, r2, r3, r4, r5, r6, r7, reduceCtorEq, Try.f105, hb_18, f5, f6, hb_20]
          obtain rfl := Option.some.inj hy_17
          exact cutT_mk false rfl (wn [0, 2, 6, 8, 9, 38] [0, 1])
      · try simp only [↓DN, UP, r1, r2, r3, r4, r5, r6, r7, reduceCtorEq, Try.f105, hb_18]
        obtain rfl := Option.some.inj hy_17
        exact cutT_mk false rfl (wn [0, 2, 6, 8, 9, 38] [0, 1])
    · rintro v_15 hp
      replace hp := hp.symm; subst hp
      try dsimp only at hk_14
      try simp only [↓DN, UP, r1, r2, r3, r4, r5, r6, r7, reduceCtorEq, Try.f105]
      refine stIf hk_14 (fun hb_21 hk_14 => ?_) (fun hb_21 hk_14 => ?_)
      · try simp only [↓DN, UP, r1, r2, r3, r4, r5, r6, r7, reduceCtorEq, Try.f105]
        refine seqN TryT_eq rfl ?_
        obtain ⟨v_22, hv_22, hk_14⟩ := bS hk_14
        obtain ⟨v_23, hv_23, hk_14⟩ := bS hk_14
        have f7 := (fAt (eI_ok .u32) hv_22 (n := cells_1.length) (by simp))
        have f8 := (quoI_ne (k := .u32) (a := v_22) (b := 16) (by decide))
        have f9 := (show bldN 1 = 1 from rfl)
        have f10 := (show bldC [.int .u32 (IntKind.wrap .u32 (Int.tdiv v_22 16))] = [IntKind.wrap .u32 (Int.tdiv v_22 16)].flatMap (eI .u32) from rfl)
        have f11 := (fWin (eI_ok .u32) (n := 1) (xs := [IntKind.wrap .u32 (Int.tdiv v_22 16)]) (by simp))
        have f12 := (fApp hv_23 (n := fields_8.length) (by simp) (m := 1) (by simp [bsOf]))
        have f13 := (fWin (eI_ok .u32) (n := fields_8.length) (xs := fields_8) (by simp))
        have f14 := (fCat (e := (eI .u32)) (ns := [IntKind.wrap .u32 (Int.tdiv v_22 16)].flatMap (eI .u32)) hv_23 rfl)
        try simp only [↓DN, UP, r1, r2, r3, r4, r5, r6, r7, reduceCtorEq, Try.f105, f7, f8, f9, f10, f11, f12, f13, f14]
        exact ⟨(v_23, IntKind.wrap .i64 (k_9 + 1)), hk_14, (wn [0, 2, 6, 8, 9] [0, 3])⟩
      · obtain rfl := Option.some.inj hk_14
        try dsimp only at hy_7
        try simp only [↓DN, UP, r1, r2, r3, r4, r5, r6, r7, reduceCtorEq, Try.f105]
        obtain rfl := Option.some.inj hy_7
        exact cutT_mk fields_8 rfl (wn [2, 6, 8] [0, 1])
  · rintro fields_5 hp
    replace hp := hp.symm; subst hp
    try dsimp only at h
    obtain ⟨y_24, hy_24, h⟩ := bS h
    try simp only [↓DN, UP, r1, r2, r3, r4, r5, r6, r7, reduceCtorEq, Try.f105]
    refine cG [] (c_spec_Unpack hy_24) (hK := fun rd b => ?_)
    try simp only [↓DN, UP, r1, r2, r3, r4, r5, r6, r7, reduceCtorEq, Try.f105]
    refine seqN TryT_eq rfl ?_
    try simp only [↓DN, UP, r1, r2, r3, r4, r5, r6, r7, reduceCtorEq, Try.f105]
    refine stIf h (fun hb_25 h => ?_) (fun hb_25 h => ?_)
    · try simp only [↓DN, UP, r1, r2, r3, r4, r5, r6, r7, reduceCtorEq, Try.f105]
      obtain rfl := Option.some.inj h
      refine endT_of ?_ ⟨rfl, rfl⟩
      exact (wn [0] [])
    · try simp only [↓DN, UP, r1, r2, r3, r4, r5, r6, r7, reduceCtorEq, Try.f105]
      obtain rfl := Option.some.inj h
      refine endT_of ?_ ⟨rfl, rfl⟩
      exact (wn [0] [])
theorem c_spec_l04Num {n_1 : Int} {hex_2 : Bool} {short_3 : Int} {long_4 : Int} {r : (List Int)} (h : g_spec_l04Num n_1 hex_2 short_3 long_4 = some r) : Ans Try.prog 93 [.one (.int .i32 n_1), .one (.bool hex_2), .one (.int .u32 short_3), .one (.int .u32 long_4)] [] fun v h1 => v = .pv (.one (.arr 0 0 r.length)) ∧ h1 = [.live ⟨1, r.length, r.flatMap (eI .u32)⟩] := by
  refine ansK (P := fun _ => Try.prog) TryT_eq (fn := Try.f93) Try.func93 rfl ⟨by kernel_rfl, rfl, rfl, by kernel_rfl⟩ (by simp) (Weak.refl _ _) ?_
  rw [g_spec_l04Num] at h
  try simp only [↓DN, UP, r1, r2, r3, r4, r5, r6, r7, reduceCtorEq, Try.f93]
  obtain ⟨y_6, hy_7, h⟩ := bS h
  refine seqK TryT_eq (fun p : Int => ⟨[(0, .pv (.one (.int .i32 n_1))), (2, .pv (.one (.int .u32 short_3))), (3, .pv (.one (.int .u32 long_4))), (9, .pv (.one (.int .u32 p)))], []⟩) (fun v => y_6 = v) (by rfl) ?_ ?_
  · try simp only [↓DN, UP, r1, r2, r3, r4, r5, r6, r7, reduceCtorEq, Try.f93]
    refine stIf hy_7 (fun hb_8 hy_7 => ?_) (fun hb_8 hy_7 => ?_)
    · try simp only [↓DN, UP, r1, r2, r3, r4, r5, r6, r7, reduceCtorEq, Try.f93]
      obtain rfl := Option.some.inj hy_7
      exact cutT_mk 16 rfl (wn [0, 2, 3, 9] [])
    · try simp only [↓DN, UP, r1, r2, r3, r4, r5, r6, r7, reduceCtorEq, Try.f93]
      obtain rfl := Option.some.inj hy_7
      exact cutT_mk 0 rfl (wn [0, 2, 3, 9] [])
  · rintro bit_5 hp
    replace hp := hp.symm; subst hp
    try dsimp only at h
    try simp only [↓DN, UP, r1, r2, r3, r4, r5, r6, r7, reduceCtorEq, Try.f93]
    refine seqN TryT_eq rfl ?_
    try simp only [↓DN, UP, r1, r2, r3, r4, r5, r6, r7, reduceCtorEq, Try.f93]
    obtain ⟨y_10, hy_11, h⟩ := bS h
    refine seqK TryT_eq (fun p : Bool => ⟨[(0, .pv (.one (.int .i32 n_1))), (2, .pv (.one (.int .u32 short_3))), (3, .pv (.one (.int .u32 long_4))), (9, .pv (.one (.int .u32 bit_5))), (16, .pv (.one (.bool p)))], []⟩) (fun v => y_10 = v) (by rfl) ?_ ?_
    · try simp only [↓DN, UP, r1, r2, r3, r4, r5, r6, r7, reduceCtorEq, Try.f93]
      refine stIf hy_11 (fun hb_12 hy_11 => ?_) (fun hb_12 hy_11 => ?_)
      · try simp only [↓DN, UP, r1, r2, r3, r4, r5, r6, r7, reduceCtorEq, Try.f93, hb_12]
        obtain rfl := Option.some.inj hy_11
        exact cutT_mk (decide (n_1 ≤ 67108863)) rfl (wn [0, 2, 3, 9, 16] [])
      · try simp only [↓DN, UP, r1, r2, r3, r4, r5, r6, r7, reduceCtorEq, Try.f93, hb_12]
        obtain rfl := Option.some.inj hy_11
        exact cutT_mk false rfl (wn [0, 2, 3, 9, 16] [])
    · rintro v_9 hp
      replace hp := hp.symm; subst hp
      try dsimp only at h
      try simp only [↓DN, UP, r1, r2, r3, r4, r5, r6, r7, reduceCtorEq, Try.f93]
      refine stIf h (fun hb_13 h => ?_) (fun hb_13 h => ?_)
      · have f1 := (show bldN 1 = 1 from rfl)
        have f2 := (show bldC [.int .u32 (IntKind.wrap .u32 ((IntKind.wrap .u32 ((IntKind.wrap .u32 ((IntKind.wrap .u32 n_1) * 32)) + bit_5)) + short_3))] = [IntKind.wrap .u32 ((IntKind.wrap .u32 ((IntKind.wrap .u32 ((IntKind.wrap .u32 n_1) * 32)) + bit_5)) + short_3)].flatMap (eI .u32) from rfl)
        try simp only [↓DN, UP, r1, r2, r3, r4, r5, r6, r7, reduceCtorEq, Try.f93, f1, f2]
        obtain rfl := Option.some.inj h
        refine endT_of ?_ ⟨rfl, rfl⟩
        exact (weak_norm (ks := [0]) (π := [0]) (fuel := 9) (by simp only [WL, r1, r2, r3, r4, r5, r6, r7, reduceCtorEq, fWin (eI_ok .u32) (n := 1) (xs := [IntKind.wrap .u32 ((IntKind.wrap .u32 ((IntKind.wrap .u32 ((IntKind.wrap .u32 n_1) * 32)) + bit_5)) + short_3)]) (by simp)]))
      · have f3 := (show bldN 2 = 2 from rfl)
        have f4 := (show bldC [.int .u32 (IntKind.wrap .u32 (bit_5 + long_4)), .int .u32 (IntKind.wrap .u32 n_1)] = [IntKind.wrap .u32 (bit_5 + long_4), IntKind.wrap .u32 n_1].flatMap (eI .u32) from rfl)
        try simp only [↓DN, UP, r1, r2, r3, r4, r5, r6, r7, reduceCtorEq, Try.f93, f3, f4]
        obtain rfl := Option.some.inj h
        refine endT_of ?_ ⟨rfl, rfl⟩
        exact (weak_norm (ks := [0]) (π := [0]) (fuel := 9) (by simp only [WL, r1, r2, r3, r4, r5, r6, r7, reduceCtorEq, fWin (eI_ok .u32) (n := 2) (xs := [IntKind.wrap .u32 (bit_5 + long_4), IntKind.wrap .u32 n_1]) (by simp)]))
theorem c_spec_l04Word {tag_1 : Int} {name_2 : Bs} {r : (List Int)} (h : g_spec_l04Word tag_1 name_2 = some r) : Ans Try.prog 94 [.one (.int .u32 tag_1), .one (.str name_2)] [] fun v h1 => v = .pv (.one (.arr 0 0 r.length)) ∧ h1 = [.live ⟨1, r.length, r.flatMap (eI .u32)⟩] := by
  refine ansK (P := fun _ => Try.prog) TryT_eq (fn := Try.f94) Try.func94 rfl ⟨by kernel_rfl, rfl, rfl, by kernel_rfl⟩ (by simp) (Weak.refl _ _) ?_
  rw [g_spec_l04Word] at h
  obtain ⟨y_3, hy_3, h⟩ := bS h
  try simp only [↓DN, UP, r1, r2, r3, r4, r5, r6, r7, reduceCtorEq, Try.f94]
  refine cG [] (c_spec_Pack hy_3) (hK := fun rd b => ?_)
  try simp only [↓DN, UP, r1, r2, r3, r4, r5, r6, r7, reduceCtorEq, Try.f94]
  obtain ⟨y_5, hy_6, h⟩ := bS h
  refine seqK TryT_eq (fun p : (List Int) => ⟨[(5, .pv (.one (.arr 0 0 p.length)))], [.live ⟨1, p.length, p.flatMap (eI .u32)⟩]⟩) (fun v => y_5 = v) (by rfl) ?_ ?_
  · try simp only [↓DN, UP, r1, r2, r3, r4, r5, r6, r7, reduceCtorEq, Try.f94]
    obtain ⟨y_10, hy_11, hy_6⟩ := bS hy_6
    refine loopK TryT_eq (fun p : (List Int) × Int => ⟨[(0, .pv (.one (.int .u32 tag_1))), (5, .pv (.one (.arr 0 0 p.1.length))), (6, .pv (.one (.int .i64 p.2)))], [.live ⟨1, p.1.length, p.1.flatMap (eI .u32)⟩]⟩) (fun k p => g_spec_l04Word_l0 tag_1 k p.1 p.2 = some y_10) (by kernel_rfl) bigK (y_3, 0) (wn [0, 5, 6] [0]) hy_11 (fun _ h => nomatch (show none = some _ from h)) ?_
    rintro k_12 ⟨out_7, i_8⟩ hk_13
    rw [g_spec_l04Word_l0] at hk_13
    try dsimp only at hk_13
    try simp only [↓DN, UP, r1, r2, r3, r4, r5, r6, r7, reduceCtorEq, Try.f94]
    refine seqN TryT_eq rfl ?_
    try simp only [↓DN, UP, r1, r2, r3, r4, r5, r6, r7, reduceCtorEq, Try.f94]
    refine stIf hk_13 (fun hb_14 hk_13 => ?_) (fun hb_14 hk_13 => ?_)
    · try simp only [↓DN, UP, r1, r2, r3, r4, r5, r6, r7, reduceCtorEq, Try.f94]
      obtain ⟨y_16, hy_17, hk_13⟩ := bS hk_13
      refine seqK TryT_eq (fun p : (List Int) => ⟨[(0, .pv (.one (.int .u32 tag_1))), (5, .pv (.one (.arr 0 0 p.length))), (6, .pv (.one (.int .i64 i_8)))], [.live ⟨1, p.length, p.flatMap (eI .u32)⟩]⟩) (fun v => y_16 = v) (by rfl) ?_ ?_
      · obtain ⟨v_18, hv_18, hy_17⟩ := bS hy_17
        have f1 := (fPtr hv_18 (k := 1) (n := out_7.length) (by simp))
        have f2 := (fGet0 (eI_ok .u32) hv_18 (m := 1) (by decide) (by decide))
        have f3 := (fPut0 (eI_ok .u32) hv_18 (ns := [.int .u32 (IntKind.wrap .u32 (v_18 * 16))]) (y := IntKind.wrap .u32 (v_18 * 16)) rfl)
        try simp only [↓DN, UP, r1, r2, r3, r4, r5, r6, r7, reduceCtorEq, Try.f94, f1, f2, f3]
        refine stIf hy_17 (fun hb_19 hy_17 => ?_) (fun hb_19 hy_17 => ?_)
        · obtain ⟨v_20, hv_20, hy_17⟩ := bS hy_17
          have f4 := (fPtr hv_20 (k := 1) (n := out_7.length) (by simp))
          have f5 := (fGet0 (eI_ok .u32) hv_20 (m := 1) (by decide) (by decide))
          have f6 := (fPut0 (eI_ok .u32) hv_20 (ns := [.int .u32 (IntKind.wrap .u32 (v_20 + tag_1))]) (y := IntKind.wrap .u32 (v_20 + tag_1)) rfl)
          try simp only [↓DN, UP, r1, r2, r3, r4, r5, r6, r7, reduceCtorEq, Try.f94, f1, f2, f3, f4, f5, f6]
          obtain rfl := Option.some.inj hy_17
          exact cutT_mk ((out_7.set i_8.toNat (IntKind.wrap .u32 (v_18 * 16))).set i_8.toNat (IntKind.wrap .u32 (v_20 + tag_1))) rfl (weak_norm (ks := [0, 5, 6]) (π := [0]) (fuel := 9) (by simp only [WL, r1, r2, r3, r4, r5, r6, r7, reduceCtorEq, fWin (eI_ok .u32) (n := out_7.length) (xs := (out_7.set i_8.toNat (IntKind.wrap .u32 (v_18 * 16))).set i_8.toNat (IntKind.wrap .u32 (v_20 + tag_1))) (by simp)]))
        · try simp only [↓DN, UP, r1, r2, r3, r4, r5, r6, r7, reduceCtorEq, Try.f94, f1, f2, f3]
          obtain rfl := Option.some.inj hy_17
          exact cutT_mk (out_7.set i_8.toNat (IntKind.wrap .u32 (v_18 * 16))) rfl (weak_norm (ks := [0, 5, 6]) (π := [0]) (fuel := 9) (by simp only [WL, r1, r2, r3, r4, r5, r6, r7, reduceCtorEq, fWin (eI_ok .u32) (n := out_7.length) (xs := out_7.set i_8.toNat (IntKind.wrap .u32 (v_18 * 16))) (by simp)]))
      · rintro out_15 hp
        replace hp := hp.symm; subst hp
        try dsimp only at hk_13
        try simp only [↓DN, UP, r1, r2, r3, r4, r5, r6, r7, reduceCtorEq, Try.f94]
        exact ⟨(out_15, IntKind.wrap .i64 (i_8 + 1)), hk_13, (wn [0, 5, 6] [0])⟩
    · obtain rfl := Option.some.inj hk_13
      try dsimp only at hy_6
      try simp only [↓DN, UP, r1, r2, r3, r4, r5, r6, r7, reduceCtorEq, Try.f94]
      obtain rfl := Option.some.inj hy_6
      exact cutT_mk out_7 rfl (wn [5] [0])
  · rintro out_4 hp
    replace hp := hp.symm; subst hp
    try dsimp only at h
    try simp only [↓DN, UP, r1, r2, r3, r4, r5, r6, r7, reduceCtorEq, Try.f94]
    obtain rfl := Option.some.inj h
    refine endT_of ?_ ⟨rfl, rfl⟩
    exact (wn [0] [0])
theorem c_spec_CellsOf {it_1 : GItem} {r : (List Int)} (h : g_spec_CellsOf it_1 = some r) : Ans Try.prog 68 [.agg [.int .i64 it_1.Kind, .str it_1.Name, .int .i32 it_1.N, .bool it_1.Hex, .int .u32 it_1.Raw]] [] fun v h1 => v = .pv (.one (.arr 0 0 r.length)) ∧ h1 = [.live ⟨1, r.length, r.flatMap (eI .u32)⟩] := by
  refine ansK (P := fun _ => Try.prog) TryT_eq (fn := Try.f68) Try.func68 rfl ⟨by kernel_rfl, rfl, rfl, by kernel_rfl⟩ (by simp) (Weak.refl _ _) ?_
  rw [g_spec_CellsOf] at h
  try simp only [↓DN, UP, r1, r2, r3, r4, r5, r6, r7, reduceCtorEq, Try.f68]
  obtain ⟨y_3, hy_4, h⟩ := bS h
  refine seqK TryT_eq (fun p : Bool => ⟨[(1, .pv (.one (.ptr 0 0))), (3, .pv (.one (.bool p)))], [.live ⟨1, 5, [.int .i64 it_1.Kind, .str it_1.Name, .int .i32 it_1.N, .bool it_1.Hex, .int .u32 it_1.Raw]⟩]⟩) (fun v => y_3 = v) (by rfl) ?_ ?_
  · try simp only [↓DN, UP, r1, r2, r3, r4, r5, r6, r7, reduceCtorEq, Try.f68]
    refine stIf hy_4 (fun hb_5 hy_4 => ?_) (fun hb_5 hy_4 => ?_)
    · try simp only [↓DN, UP, r1, r2, r3, r4, r5, r6, r7, reduceCtorEq, Try.f68, hb_5]
      refine stIf hy_4 (fun hb_6 hy_4 => ?_) (fun hb_6 hy_4 => ?_)
      · try simp only [↓DN, UP, r1, r2, r3, r4, r5, r6, r7, reduceCtorEq, Try.f68, hb_5, hb_6]
        obtain rfl := Option.some.inj hy_4
        exact cutT_mk (it_1.Raw == 0) rfl (wn [1, 3] [0])
      · try simp only [↓DN, UP, r1, r2, r3, r4, r5, r6, r7, reduceCtorEq, Try.f68, hb_5, hb_6]
        obtain rfl := Option.some.inj hy_4
        exact cutT_mk false rfl (wn [1, 3] [0])
    · try simp only [↓DN, UP, r1, r2, r3, r4, r5, r6, r7, reduceCtorEq, Try.f68, hb_5]
      obtain rfl := Option.some.inj hy_4
      exact cutT_mk false rfl (wn [1, 3] [0])
  · rintro plain_2 hp
    replace hp := hp.symm; subst hp
    try dsimp only at h
    try simp only [↓DN, UP, r1, r2, r3, r4, r5, r6, r7, reduceCtorEq, Try.f68]
    obtain ⟨y_8, hy_9, h⟩ := bS h
    refine seqK TryT_eq (fun p : Unit => ⟨[], []⟩) (fun v => y_8 = .inl v) (by rfl) ?_ ?_
    · try simp only [↓DN, UP, r1, r2, r3, r4, r5, r6, r7, reduceCtorEq, Try.f68]
      refine stIf hy_9 (fun hb_10 hy_9 => ?_) (fun hb_10 hy_9 => ?_)
      · try simp only [↓DN, UP, r1, r2, r3, r4, r5, r6, r7, reduceCtorEq, Try.f68]
        obtain ⟨y_12, hy_13, hy_9⟩ := bS hy_9
        refine seqK TryT_eq (fun p : Bool => ⟨[(1, .pv (.one (.ptr 0 0))), (47, .pv (.one (.bool p)))], [.live ⟨1, 5, [.int .i64 it_1.Kind, .str it_1.Name, .int .i32 it_1.N, .bool it_1.Hex, .int .u32 it_1.Raw]⟩]⟩) (fun v => y_12 = v) (by rfl) ?_ ?_
        · try simp only [↓DN, UP, r1, r2, r3, r4, r5, r6, r7, reduceCtorEq, Try.f68]
          refine stIf hy_13 (fun hb_14 hy_13 => ?_) (fun hb_14 hy_13 => ?_)
          · try simp only [↓DN, UP, r1, r2, r3, r4, r5, r6, r7, reduceCtorEq, Try.f68, hb_14]
            refine stIf hy_13 (fun hb_15 hy_13 => ?_) (fun hb_15 hy_13 => ?_)
            · try simp only [↓DN, UP, r1, r2, r3, r4, r5, r6, r7, reduceCtorEq, Try.f68, hb_14, hb_15]
              obtain rfl := Option.some.inj hy_13
              exact cutT_mk (!it_1.Hex) rfl (wn [1, 47] [0])
            · try simp only [↓DN, UP, r1, r2, r3, r4, r5, r6, r7, reduceCtorEq, Try.f68, hb_14, hb_15]
              obtain rfl := Option.some.inj hy_13
              exact cutT_mk false rfl (wn [1, 47] [0])
          · try simp only [↓DN, UP, r1, r2, r3, r4, r5, r6, r7, reduceCtorEq, Try.f68, hb_14]
            obtain rfl := Option.some.inj hy_13
            exact cutT_mk false rfl (wn [1, 47] [0])
        · rintro v_11 hp
          replace hp := hp.symm; subst hp
          try dsimp only at hy_9
          try simp only [↓DN, UP, r1, r2, r3, r4, r5, r6, r7, reduceCtorEq, Try.f68]
          refine stIf hy_9 (fun hb_16 hy_9 => ?_) (fun hb_16 hy_9 => ?_)
          · obtain rfl := Option.some.inj hy_9
            try dsimp only at h
            have f1 := (show bldN 1 = 1 from rfl)
            have f2 := (show bldC [.int .u32 it_1.Raw] = [it_1.Raw].flatMap (eI .u32) from rfl)
            try simp only [↓DN, UP, r1, r2, r3, r4, r5, r6, r7, reduceCtorEq, Try.f68, f1, f2]
            obtain rfl := Option.some.inj h
            refine endT_of ?_ ⟨rfl, rfl⟩
            exact (weak_norm (ks := [0]) (π := [1]) (fuel := 9) (by simp only [WL, r1, r2, r3, r4, r5, r6, r7, reduceCtorEq, fWin (eI_ok .u32) (n := 1) (xs := [it_1.Raw]) (by simp)]))
          · try simp only [↓DN, UP, r1, r2, r3, r4, r5, r6, r7, reduceCtorEq, Try.f68]
            obtain rfl := Option.some.inj hy_9
            exact cutT_mk () (by trivial) (wn [] [])
      · try simp only [↓DN, UP, r1, r2, r3, r4, r5, r6, r7, reduceCtorEq, Try.f68]
        refine stIf hy_9 (fun hb_17 hy_9 => ?_) (fun hb_17 hy_9 => ?_)
        · try simp only [↓DN, UP, r1, r2, r3, r4, r5, r6, r7, reduceCtorEq, Try.f68]
          obtain ⟨y_19, hy_20, hy_9⟩ := bS hy_9
          refine seqK TryT_eq (fun p : Bool => ⟨[(1, .pv (.one (.ptr 0 0))), (60, .pv (.one (.bool p)))], [.live ⟨1, 5, [.int .i64 it_1.Kind, .str it_1.Name, .int .i32 it_1.N, .bool it_1.Hex, .int .u32 it_1.Raw]⟩]⟩) (fun v => y_19 = v) (by rfl) ?_ ?_
          · try simp only [↓DN, UP, r1, r2, r3, r4, r5, r6, r7, reduceCtorEq, Try.f68]
            refine stIf hy_20 (fun hb_21 hy_20 => ?_) (fun hb_21 hy_20 => ?_)
            · try simp only [↓DN, UP, r1, r2, r3, r4, r5, r6, r7, reduceCtorEq, Try.f68, hb_21]
              obtain rfl := Option.some.inj hy_20
              exact cutT_mk (it_1.Raw == 0) rfl (wn [1, 60] [0])
            · try simp only [↓DN, UP, r1, r2, r3, r4, r5, r6, r7, reduceCtorEq, Try.f68, hb_21]
              obtain rfl := Option.some.inj hy_20
              exact cutT_mk false rfl (wn [1, 60] [0])
          · rintro v_18 hp
            replace hp := hp.symm; subst hp
            try dsimp only at hy_9
            try simp only [↓DN, UP, r1, r2, r3, r4, r5, r6, r7, reduceCtorEq, Try.f68]
            refine stIf hy_9 (fun hb_22 hy_9 => ?_) (fun hb_22 hy_9 => ?_)
            · obtain ⟨y_23, hy_23, hy_9⟩ := bS hy_9
              try simp only [↓DN, UP, r1, r2, r3, r4, r5, r6, r7, reduceCtorEq, Try.f68]
              refine cG [] (c_spec_l04Num hy_23) (hK := fun rd b => ?_)
              obtain rfl := Option.some.inj hy_9
              try dsimp only at h
              try simp only [↓DN, UP, r1, r2, r3, r4, r5, r6, r7, reduceCtorEq, Try.f68]
              obtain rfl := Option.some.inj h
              refine endT_of ?_ ⟨rfl, rfl⟩
              exact (wn [0] [1])
            · try simp only [↓DN, UP, r1, r2, r3, r4, r5, r6, r7, reduceCtorEq, Try.f68]
              obtain rfl := Option.some.inj hy_9
              exact cutT_mk () (by trivial) (wn [] [])
        · try simp only [↓DN, UP, r1, r2, r3, r4, r5, r6, r7, reduceCtorEq, Try.f68]
          refine stIf hy_9 (fun hb_24 hy_9 => ?_) (fun hb_24 hy_9 => ?_)
          · try simp only [↓DN, UP, r1, r2, r3, r4, r5, r6, r7, reduceCtorEq, Try.f68]
            obtain ⟨y_26, hy_27, hy_9⟩ := bS hy_9
            refine seqK TryT_eq (fun p : Bool => ⟨[(1, .pv (.one (.ptr 0 0))), (75, .pv (.one (.bool p)))], [.live ⟨1, 5, [.int .i64 it_1.Kind, .str it_1.Name, .int .i32 it_1.N, .bool it_1.Hex, .int .u32 it_1.Raw]⟩]⟩) (fun v => y_26 = v) (by rfl) ?_ ?_
            · try simp only [↓DN, UP, r1, r2, r3, r4, r5, r6, r7, reduceCtorEq, Try.f68]
              refine stIf hy_27 (fun hb_28 hy_27 => ?_) (fun hb_28 hy_27 => ?_)
              · try simp only [↓DN, UP, r1, r2, r3, r4, r5, r6, r7, reduceCtorEq, Try.f68, hb_28]
                obtain rfl := Option.some.inj hy_27
                exact cutT_mk (it_1.Raw == 0) rfl (wn [1, 75] [0])
              · try simp only [↓DN, UP, r1, r2, r3, r4, r5, r6, r7, reduceCtorEq, Try.f68, hb_28]
                obtain rfl := Option.some.inj hy_27
                exact cutT_mk false rfl (wn [1, 75] [0])
            · rintro v_25 hp
              replace hp := hp.symm; subst hp
              try dsimp only at hy_9
              try simp only [↓DN, UP, r1, r2, r3, r4, r5, r6, r7, reduceCtorEq, Try.f68]
              refine stIf hy_9 (fun hb_29 hy_9 => ?_) (fun hb_29 hy_9 => ?_)
              · obtain ⟨y_30, hy_30, hy_9⟩ := bS hy_9
                try simp only [↓DN, UP, r1, r2, r3, r4, r5, r6, r7, reduceCtorEq, Try.f68]
                refine cG [] (c_spec_l04Num hy_30) (hK := fun rd b => ?_)
                obtain rfl := Option.some.inj hy_9
                try dsimp only at h
                try simp only [↓DN, UP, r1, r2, r3, r4, r5, r6, r7, reduceCtorEq, Try.f68]
                obtain rfl := Option.some.inj h
                refine endT_of ?_ ⟨rfl, rfl⟩
                exact (wn [0] [1])
              · try simp only [↓DN, UP, r1, r2, r3, r4, r5, r6, r7, reduceCtorEq, Try.f68]
                obtain rfl := Option.some.inj hy_9
                exact cutT_mk () (by trivial) (wn [] [])
          · try simp only [↓DN, UP, r1, r2, r3, r4, r5, r6, r7, reduceCtorEq, Try.f68]
            refine stIf hy_9 (fun hb_31 hy_9 => ?_) (fun hb_31 hy_9 => ?_)
            · obtain ⟨y_32, hy_32, hy_9⟩ := bS hy_9
              try simp only [↓DN, UP, r1, r2, r3, r4, r5, r6, r7, reduceCtorEq, Try.f68]
              refine cG [] (c_spec_l04Word hy_32) (hK := fun rd b => ?_)
              try simp only [↓DN, UP, r1, r2, r3, r4, r5, r6, r7, reduceCtorEq, Try.f68]
              obtain ⟨y_34, hy_35, hy_9⟩ := bS hy_9
              refine seqK TryT_eq (fun p : Bool => ⟨[(1, .pv (.one (.ptr 0 0))), (4, .pv (.one (.arr 1 0 y_32.length))), (98, .pv (.one (.bool p)))], [.live ⟨1, 5, [.int .i64 it_1.Kind, .str it_1.Name, .int .i32 it_1.N, .bool it_1.Hex, .int .u32 it_1.Raw]⟩, .live ⟨1, y_32.length, y_32.flatMap (eI .u32)⟩]⟩) (fun v => y_34 = v) (by rfl) ?_ ?_
              · try simp only [↓DN, UP, r1, r2, r3, r4, r5, r6, r7, reduceCtorEq, Try.f68]
                refine stIf hy_35 (fun hb_36 hy_35 => ?_) (fun hb_36 hy_35 => ?_)
                · try simp only [↓DN, UP, r1, r2, r3, r4, r5, r6, r7, reduceCtorEq, Try.f68, hb_36]
                  refine stIf hy_35 (fun hb_37 hy_35 => ?_) (fun hb_37 hy_35 => ?_)
                  · try simp only [↓DN, UP, r1, r2, r3, r4, r5, r6, r7, reduceCtorEq, Try.f68, hb_36, hb_37]
                    obtain rfl := Option.some.inj hy_35
                    exact cutT_mk (it_1.Raw == 0) rfl (wn [1, 4, 98] [0, 1])
                  · try simp only [↓DN, UP, r1, r2, r3, r4, r5, r6, r7, reduceCtorEq, Try.f68, hb_36, hb_37]
                    obtain rfl := Option.some.inj hy_35
                    exact cutT_mk false rfl (wn [1, 4, 98] [0, 1])
                · try simp only [↓DN, UP, r1, r2, r3, r4, r5, r6, r7, reduceCtorEq, Try.f68, hb_36]
                  obtain rfl := Option.some.inj hy_35
                  exact cutT_mk false rfl (wn [1, 4, 98] [0, 1])
              · rintro v_33 hp
                replace hp := hp.symm; subst hp
                try dsimp only at hy_9
                try simp only [↓DN, UP, r1, r2, r3, r4, r5, r6, r7, reduceCtorEq, Try.f68]
                refine stIf hy_9 (fun hb_38 hy_9 => ?_) (fun hb_38 hy_9 => ?_)
                · obtain ⟨v_39, hv_39, hy_9⟩ := bS hy_9
                  obtain rfl := Option.some.inj hy_9
                  try dsimp only at h
                  have f3 := (show bldN 1 = 1 from rfl)
                  have f4 := (show bldC [.int .u32 (IntKind.wrap .u32 it_1.N)] = [IntKind.wrap .u32 it_1.N].flatMap (eI .u32) from rfl)
                  have f5 := (fWin (eI_ok .u32) (n := 1) (xs := [IntKind.wrap .u32 it_1.N]) (by simp))
                  have f6 := (fApp hv_39 (n := y_32.length) (by simp) (m := 1) (by simp [bsOf]))
                  have f7 := (fWin (eI_ok .u32) (n := y_32.length) (xs := y_32) (by simp))
                  have f8 := (fCat (e := (eI .u32)) (ns := [IntKind.wrap .u32 it_1.N].flatMap (eI .u32)) hv_39 rfl)
                  try simp only [↓DN, UP, r1, r2, r3, r4, r5, r6, r7, reduceCtorEq, Try.f68, f3, f4, f5, f6, f7, f8]
                  obtain rfl := Option.some.inj h
                  refine endT_of ?_ ⟨rfl, rfl⟩
                  exact (wn [0] [3])
                · try simp only [↓DN, UP, r1, r2, r3, r4, r5, r6, r7, reduceCtorEq, Try.f68]
                  obtain rfl := Option.some.inj hy_9
                  exact cutT_mk () (by trivial) (wn [] [])
            · obtain ⟨y_40, hy_40, hy_9⟩ := bS hy_9
              try simp only [↓DN, UP, r1, r2, r3, r4, r5, r6, r7, reduceCtorEq, Try.f68]
              refine cG [] (c_spec_l04Tag hy_40) (hK := fun rd b => ?_)
              try simp only [↓DN, UP, r1, r2, r3, r4, r5, r6, r7, reduceCtorEq, Try.f68]
              obtain ⟨y_42, hy_43, hy_9⟩ := bS hy_9
              refine seqK TryT_eq (fun p : Bool => ⟨[(1, .pv (.one (.ptr 0 0))), (5, .pv (.one (.int .u32 y_40))), (28, .pv (.one (.bool p)))], [.live ⟨1, 5, [.int .i64 it_1.Kind, .str it_1.Name, .int .i32 it_1.N, .bool it_1.Hex, .int .u32 it_1.Raw]⟩]⟩) (fun v => y_42 = v) (by rfl) ?_ ?_
              · try simp only [↓DN, UP, r1, r2, r3, r4, r5, r6, r7, reduceCtorEq, Try.f68]
                refine stIf hy_43 (fun hb_44 hy_43 => ?_) (fun hb_44 hy_43 => ?_)
                · try simp only [↓DN, UP, r1, r2, r3, r4, r5, r6, r7, reduceCtorEq, Try.f68, hb_44]
                  obtain rfl := Option.some.inj hy_43
                  exact cutT_mk plain_2 rfl (wn [1, 5, 28] [0])
                · try simp only [↓DN, UP, r1, r2, r3, r4, r5, r6, r7, reduceCtorEq, Try.f68, hb_44]
                  obtain rfl := Option.some.inj hy_43
                  exact cutT_mk false rfl (wn [1, 5, 28] [0])
              · rintro v_41 hp
                replace hp := hp.symm; subst hp
                try dsimp only at hy_9
                try simp only [↓DN, UP, r1, r2, r3, r4, r5, r6, r7, reduceCtorEq, Try.f68]
                refine stIf hy_9 (fun hb_45 hy_9 => ?_) (fun hb_45 hy_9 => ?_)
                · obtain ⟨y_46, hy_46, hy_9⟩ := bS hy_9
                  try simp only [↓DN, UP, r1, r2, r3, r4, r5, r6, r7, reduceCtorEq, Try.f68]
                  refine cG [] (c_spec_l04Word hy_46) (hK := fun rd b => ?_)
                  obtain rfl := Option.some.inj hy_9
                  try dsimp only at h
                  try simp only [↓DN, UP, r1, r2, r3, r4, r5, r6, r7, reduceCtorEq, Try.f68]
                  obtain rfl := Option.some.inj h
                  refine endT_of ?_ ⟨rfl, rfl⟩
                  exact (wn [0] [1])
                · try simp only [↓DN, UP, r1, r2, r3, r4, r5, r6, r7, reduceCtorEq, Try.f68]
                  obtain rfl := Option.some.inj hy_9
                  exact cutT_mk () (by trivial) (wn [] [])
    · rintro _ hp
      replace hp := hp.symm; subst hp
      try dsimp only at h
      have f9 := (show bldN 0 = 0 from rfl)
      have f10 := (show bldC [] = ([] : List Int).flatMap (eI .u32) from rfl)
      try simp only [↓DN, UP, r1, r2, r3, r4, r5, r6, r7, reduceCtorEq, Try.f68, f9, f10]
      obtain rfl := Option.some.inj h
      refine endT_of ?_ ⟨rfl, rfl⟩
      exact (weak_norm (ks := [0]) (π := [0]) (fuel := 9) (by simp only [WL, r1, r2, r3, r4, r5, r6, r7, reduceCtorEq, fWin (eI_ok .u32) (n := 0) (xs := ([] : List Int)) (by simp)]))
theorem c_spec_l04Number {cells_1 : List Int} {i_2 : Int} {r : GItem × Int} (h : g_spec_l04Number cells_1 i_2 = some r) : Ans Try.prog 106 [.one (.imm 1 cells_1.length (cells_1.flatMap (eI .u32))), .one (.int .i64 i_2)] [] fun v h1 => v = .tup [.agg [.int .i64 r.1.Kind, .str r.1.Name, .int .i32 r.1.N, .bool r.1.Hex, .int .u32 r.1.Raw], .one (.int .i64 r.2)] ∧ h1 = [] := by
  refine ansK (P := fun _ => Try.prog) TryT_eq (fn := Try.f106) Try.func106 rfl ⟨by kernel_rfl, rfl, rfl, by kernel_rfl⟩ (by simp) (Weak.refl _ _) ?_
  rw [g_spec_l04Number] at h
  obtain ⟨v_3, hv_3, h⟩ := bS h
  have f1 := (fAt (eI_ok .u32) hv_3 (n := cells_1.length) (by simp))
  have f2 := (remI_ne (k := .u32) (a := v_3) (b := 16) (by decide))
  try simp only [↓DN, UP, r1, r2, r3, r4, r5, r6, r7, reduceCtorEq, Try.f106, f1, f2]
  obtain ⟨y_5, hy_6, h⟩ := bS h
  refine seqK TryT_eq (fun p : GItem => ⟨[(0, .pv (.one (.imm 1 cells_1.length (cells_1.flatMap (eI .u32))))), (1, .pv (.one (.int .i64 i_2))), (4, .pv (.one (.ptr 0 0))), (6, .pv (.one (.int .u32 v_3))), (7, .pv (.one (.int .u32 (Int.tmod v_3 16)))), (8, .pv (.one (.ptr 1 0)))], [.live ⟨1, 5, [.int .i64 0, .str [], .int .i32 0, .bool false, .int .u32 0]⟩, .live ⟨1, 5, [.int .i64 p.Kind, .str p.Name, .int .i32 p.N, .bool p.Hex, .int .u32 p.Raw]⟩]⟩) (fun v => y_5 = v) (by rfl) ?_ ?_
  · try simp only [↓DN, UP, r1, r2, r3, r4, r5, r6, r7, reduceCtorEq, Try.f106, f1, f2]
    obtain ⟨y_8, hy_9, hy_6⟩ := bS hy_6
    refine seqK TryT_eq (fun p : Bool => ⟨[(0, .pv (.one (.imm 1 cells_1.length (cells_1.flatMap (eI .u32))))), (1, .pv (.one (.int .i64 i_2))), (4, .pv (.one (.ptr 0 0))), (6, .pv (.one (.int .u32 v_3))), (7, .pv (.one (.int .u32 (Int.tmod v_3 16)))), (8, .pv (.one (.ptr 1 0))), (24, .pv (.one (.bool p)))], [.live ⟨1, 5, [.int .i64 0, .str [], .int .i32 0, .bool false, .int .u32 0]⟩, .live ⟨1, 5, [.int .i64 7, .str [], .int .i32 0, .bool ((andI .u32 v_3 16) != 0), .int .u32 0]⟩]⟩) (fun v => y_8 = v) (by rfl) ?_ ?_
    · try simp only [↓DN, UP, r1, r2, r3, r4, r5, r6, r7, reduceCtorEq, Try.f106, f1, f2]
      refine stIf hy_9 (fun hb_10 hy_9 => ?_) (fun hb_10 hy_9 => ?_)
      · try simp only [↓DN, UP, r1, r2, r3, r4, r5, r6, r7, reduceCtorEq, Try.f106, f1, f2, hb_10]
        obtain rfl := Option.some.inj hy_9
        exact cutT_mk true rfl (wn [0, 1, 4, 6, 7, 8, 24] [0, 1])
      · try simp only [↓DN, UP, r1, r2, r3, r4, r5, r6, r7, reduceCtorEq, Try.f106, f1, f2, hb_10]
        obtain rfl := Option.some.inj hy_9
        exact cutT_mk ((Int.tmod v_3 16) == 5) rfl (wn [0, 1, 4, 6, 7, 8, 24] [0, 1])
    · rintro v_7 hp
      replace hp := hp.symm; subst hp
      try dsimp only at hy_6
      try simp only [↓DN, UP, r1, r2, r3, r4, r5, r6, r7, reduceCtorEq, Try.f106]
      refine stIf hy_6 (fun hb_11 hy_6 => ?_) (fun hb_11 hy_6 => ?_)
      · try simp only [↓DN, UP, r1, r2, r3, r4, r5, r6, r7, reduceCtorEq, Try.f106]
        obtain rfl := Option.some.inj hy_6
        exact cutT_mk (⟨8, [], 0, ((andI .u32 v_3 16) != 0), 0⟩ : GItem) rfl (wn [0, 1, 4, 6, 7, 8] [0, 1])
      · try simp only [↓DN, UP, r1, r2, r3, r4, r5, r6, r7, reduceCtorEq, Try.f106]
        obtain rfl := Option.some.inj hy_6
        exact cutT_mk (⟨7, [], 0, ((andI .u32 v_3 16) != 0), 0⟩ : GItem) rfl (wn [0, 1, 4, 6, 7, 8] [0, 1])
  · rintro it_4 hp
    replace hp := hp.symm; subst hp
    try dsimp only at h
    try simp only [↓DN, UP, r1, r2, r3, r4, r5, r6, r7, reduceCtorEq, Try.f106]
    refine seqN TryT_eq rfl ?_
    try simp only [↓DN, UP, r1, r2, r3, r4, r5, r6, r7, reduceCtorEq, Try.f106]
    obtain ⟨y_13, hy_14, h⟩ := bS h
    refine seqK TryT_eq (fun p : Bool => ⟨[(0, .pv (.one (.imm 1 cells_1.length (cells_1.flatMap (eI .u32))))), (1, .pv (.one (.int .i64 i_2))), (4, .pv (.one (.ptr 0 0))), (6, .pv (.one (.int .u32 v_3))), (8, .pv (.one (.ptr 1 0))), (31, .pv (.one (.bool p)))], [.live ⟨1, 5, [.int .i64 0, .str [], .int .i32 0, .bool false, .int .u32 0]⟩, .live ⟨1, 5, [.int .i64 it_4.Kind, .str it_4.Name, .int .i32 it_4.N, .bool it_4.Hex, .int .u32 it_4.Raw]⟩]⟩) (fun v => y_13 = v) (by rfl) ?_ ?_
    · try simp only [↓DN, UP, r1, r2, r3, r4, r5, r6, r7, reduceCtorEq, Try.f106]
      refine stIf hy_14 (fun hb_15 hy_14 => ?_) (fun hb_15 hy_14 => ?_)
      · try simp only [↓DN, UP, r1, r2, r3, r4, r5, r6, r7, reduceCtorEq, Try.f106, hb_15]
        obtain rfl := Option.some.inj hy_14
        exact cutT_mk true rfl (wn [0, 1, 4, 6, 8, 31] [0, 1])
      · try simp only [↓DN, UP, r1, r2, r3, r4, r5, r6, r7, reduceCtorEq, Try.f106, hb_15]
        obtain rfl := Option.some.inj hy_14
        exact cutT_mk ((Int.tmod v_3 16) == 6) rfl (wn [0, 1, 4, 6, 8, 31] [0, 1])
    · rintro v_12 hp
      replace hp := hp.symm; subst hp
      try dsimp only at h
      try simp only [↓DN, UP, r1, r2, r3, r4, r5, r6, r7, reduceCtorEq, Try.f106]
      refine stIf h (fun hb_16 h => ?_) (fun hb_16 h => ?_)
      · have f3 := (shrI_lit (k := .i32) (a := IntKind.wrap .i32 v_3) (b := 5) (m := 32) (by decide) (by decide))
        try simp only [↓DN, UP, r1, r2, r3, r4, r5, r6, r7, reduceCtorEq, Try.f106, f3]
        obtain rfl := Option.some.inj h
        refine endT_of ?_ ⟨rfl, rfl⟩
        exact (wn [0] [])
      · try simp only [↓DN, UP, r1, r2, r3, r4, r5, r6, r7, reduceCtorEq, Try.f106]
        refine seqN TryT_eq rfl ?_
        try simp only [↓DN, UP, r1, r2, r3, r4, r5, r6, r7, reduceCtorEq, Try.f106]
        obtain ⟨y_18, hy_19, h⟩ := bS h
        refine seqK TryT_eq (fun p : Bool => ⟨[(0, .pv (.one (.imm 1 cells_1.length (cells_1.flatMap (eI .u32))))), (1, .pv (.one (.int .i64 i_2))), (4, .pv (.one (.ptr 0 0))), (8, .pv (.one (.ptr 1 0))), (46, .pv (.one (.bool p)))], [.live ⟨1, 5, [.int .i64 0, .str [], .int .i32 0, .bool false, .int .u32 0]⟩, .live ⟨1, 5, [.int .i64 it_4.Kind, .str it_4.Name, .int .i32 it_4.N, .bool it_4.Hex, .int .u32 it_4.Raw]⟩]⟩) (fun v => y_18 = v) (by rfl) ?_ ?_
        · try simp only [↓DN, UP, r1, r2, r3, r4, r5, r6, r7, reduceCtorEq, Try.f106]
          refine stIf hy_19 (fun hb_20 hy_19 => ?_) (fun hb_20 hy_19 => ?_)
          · try simp only [↓DN, UP, r1, r2, r3, r4, r5, r6, r7, reduceCtorEq, Try.f106, hb_20]
            obtain rfl := Option.some.inj hy_19
            exact cutT_mk true rfl (wn [0, 1, 4, 8, 46] [0, 1])
          · have f4 := (quoI_ne (k := .u32) (a := v_3) (b := 32) (by decide))
            try simp only [↓DN, UP, r1, r2, r3, r4, r5, r6, r7, reduceCtorEq, Try.f106, hb_20, f4]
            obtain rfl := Option.some.inj hy_19
            exact cutT_mk ((IntKind.wrap .u32 (Int.tdiv v_3 32)) != 0) rfl (wn [0, 1, 4, 8, 46] [0, 1])
        · rintro v_17 hp
          replace hp := hp.symm; subst hp
          try dsimp only at h
          try simp only [↓DN, UP, r1, r2, r3, r4, r5, r6, r7, reduceCtorEq, Try.f106]
          refine stIf h (fun hb_21 h => ?_) (fun hb_21 h => ?_)
          · try simp only [↓DN, UP, r1, r2, r3, r4, r5, r6, r7, reduceCtorEq, Try.f106]
            obtain rfl := Option.some.inj h
            refine endT_of ?_ ⟨rfl, rfl⟩
            exact (wn [0] [])
          · obtain ⟨v_22, hv_22, h⟩ := bS h
            obtain ⟨y_23, hy_23, h⟩ := bS h
            have f5 := (fAt (eI_ok .u32) hv_22 (n := cells_1.length) (by simp))
            try simp only [↓DN, UP, r1, r2, r3, r4, r5, r6, r7, reduceCtorEq, Try.f106, f5]
            refine callE [] (rd1 := []) (rd2 := []) 9 rfl (by simp only [WL, r1, r2, r3, r4, r5, r6, r7, reduceCtorEq]) (by simp only [WL, r1, r2, r3, r4, r5, r6, r7, reduceCtorEq]) rfl (c_spec_CellsOf hy_23) (by simp only [WL, r1, r2, r3, r4, r5, r6, r7, reduceCtorEq]) ?_
            have f6 := (quoI_ne (k := .i64) (a := (y_23.length : Int)) (b := 2) (by decide))
            try simp only [↓DN, UP, r1, r2, r3, r4, r5, r6, r7, reduceCtorEq, Try.f106, f5, f6]
            refine ⟨rfl, ?_⟩
            try simp only [↓DN, UP, r1, r2, r3, r4, r5, r6, r7, reduceCtorEq, Try.f106, f5, f6]
            obtain rfl := Option.some.inj h
            refine endT_of ?_ ⟨rfl, rfl⟩
            exact (wn [0] [])
theorem c_spec_FieldOk {f_1 : Int} {r : Bool} (h : g_spec_FieldOk f_1 = some r) : Ans Try.prog 107 [.one (.int .u32 f_1)] [] fun v h1 => v = .pv (.one (.bool r)) ∧ h1 = [] := by
  refine ansK (P := fun _ => Try.prog) TryT_eq (fn := Try.f107) Try.func107 rfl ⟨by kernel_rfl, rfl, rfl, by kernel_rfl⟩ (by simp) (Weak.refl _ _) ?_
  rw [g_spec_FieldOk] at h
  obtain ⟨y_2, hy_2, h⟩ := bS h
  try simp only [↓DN, UP, r1, r2, r3, r4, r5, r6, r7, reduceCtorEq, Try.f107]
  refine cG [] (c_spec_UnpackOne hy_2) (hK := fun rd b => ?_)
  obtain ⟨y_3, hy_3, h⟩ := bS h
  try simp only [↓DN, UP, r1, r2, r3, r4, r5, r6, r7, reduceCtorEq, Try.f107]
  refine cG [] (c_spec_Pack hy_3) (hK := fun rd b => ?_)
  try simp only [↓DN, UP, r1, r2, r3, r4, r5, r6, r7, reduceCtorEq, Try.f107]
  refine seqN TryT_eq rfl ?_
  try simp only [↓DN, UP, r1, r2, r3, r4, r5, r6, r7, reduceCtorEq, Try.f107]
  refine stIf h (fun hb_4 h => ?_) (fun hb_4 h => ?_)
  · obtain ⟨v_5, hv_5, h⟩ := bS h
    have f1 := (fPtrL hv_5 (k := 1) (n := y_3.length) (by simp) (c := 0) rfl)
    have f2 := (fGetL0 (eI_ok .u32) hv_5 rfl (m := 1) (by decide) (by decide))
    try simp only [↓DN, UP, r1, r2, r3, r4, r5, r6, r7, reduceCtorEq, Try.f107, hb_4, f1, f2]
    obtain rfl := Option.some.inj h
    refine endT_of ?_ ⟨rfl, rfl⟩
    exact (wn [0] [])
  · try simp only [↓DN, UP, r1, r2, r3, r4, r5, r6, r7, reduceCtorEq, Try.f107, hb_4]
    obtain rfl := Option.some.inj h
    refine endT_of ?_ ⟨rfl, rfl⟩
    exact (wn [0] [])
theorem c_spec_l04Item {cells_1 : List Int} {i_2 : Int} {r : GItem × Int} (h : g_spec_l04Item cells_1 i_2 = some r) : Ans Try.prog 83 [.one (.imm 1 cells_1.length (cells_1.flatMap (eI .u32))), .one (.int .i64 i_2)] [] fun v h1 => v = .tup [.agg [.int .i64 r.1.Kind, .str r.1.Name, .int .i32 r.1.N, .bool r.1.Hex, .int .u32 r.1.Raw], .one (.int .i64 r.2)] ∧ h1 = [] := by
  refine ansK (P := fun _ => Try.prog) TryT_eq (fn := Try.f83) Try.func83 rfl ⟨by kernel_rfl, rfl, rfl, by kernel_rfl⟩ (by simp) (Weak.refl _ _) ?_
  rw [g_spec_l04Item] at h
  obtain ⟨v_3, hv_3, h⟩ := bS h
  have f1 := (fAt (eI_ok .u32) hv_3 (n := cells_1.length) (by simp))
  have f2 := (remI_ne (k := .u32) (a := v_3) (b := 16) (by decide))
  try simp only [↓DN, UP, r1, r2, r3, r4, r5, r6, r7, reduceCtorEq, Try.f83, f1, f2]
  obtain ⟨y_6, hy_7, h⟩ := bS h
  refine seqK TryT_eq (fun p : GItem × Int => ⟨[(0, .pv (.one (.imm 1 cells_1.length (cells_1.flatMap (eI .u32))))), (1, .pv (.one (.int .i64 i_2))), (4, .pv (.one (.ptr 0 0))), (6, .pv (.one (.ptr 1 0))), (7, .pv (.one (.int .i64 p.2)))], [.live ⟨1, 5, [.int .i64 0, .str [], .int .i32 0, .bool false, .int .u32 0]⟩, .live ⟨1, 5, [.int .i64 p.1.Kind, .str p.1.Name, .int .i32 p.1.N, .bool p.1.Hex, .int .u32 p.1.Raw]⟩]⟩) (fun v => y_6 = v) (by rfl) ?_ ?_
  · obtain ⟨y_8, hy_8, hy_7⟩ := bS hy_7
    try simp only [↓DN, UP, r1, r2, r3, r4, r5, r6, r7, reduceCtorEq, Try.f83, f1, f2]
    refine cG [] (c_spec_l04Kind hy_8) (hK := fun rd b => ?_)
    try simp only [↓DN, UP, r1, r2, r3, r4, r5, r6, r7, reduceCtorEq, Try.f83, f1, f2]
    refine stIf hy_7 (fun hb_9 hy_7 => ?_) (fun hb_9 hy_7 => ?_)
    · obtain ⟨y_10, hy_10, hy_7⟩ := bS hy_7
      try simp only [↓DN, UP, r1, r2, r3, r4, r5, r6, r7, reduceCtorEq, Try.f83, f1, f2]
      refine cG [] (c_spec_l04Kind hy_10) (hK := fun rd b => ?_)
      obtain ⟨y_11, hy_11, hy_7⟩ := bS hy_7
      try simp only [↓DN, UP, r1, r2, r3, r4, r5, r6, r7, reduceCtorEq, Try.f83, f1, f2]
      refine cG [] (c_spec_l04Name hy_11) (hK := fun rd b => ?_)
      try simp only [↓DN, UP, r1, r2, r3, r4, r5, r6, r7, reduceCtorEq, Try.f83, f1, f2]
      obtain rfl := Option.some.inj hy_7
      exact cutT_mk (y_11.1, y_11.2) rfl (wn [0, 1, 4, 6, 7] [0, 1])
    · try simp only [↓DN, UP, r1, r2, r3, r4, r5, r6, r7, reduceCtorEq, Try.f83, f1, f2]
      obtain ⟨y_13, hy_14, hy_7⟩ := bS hy_7
      refine seqK TryT_eq (fun p : Bool => ⟨[(0, .pv (.one (.imm 1 cells_1.length (cells_1.flatMap (eI .u32))))), (1, .pv (.one (.int .i64 i_2))), (4, .pv (.one (.ptr 0 0))), (6, .pv (.one (.ptr 1 0))), (7, .pv (.one (.int .i64 0))), (8, .pv (.one (.int .u32 (Int.tmod v_3 16)))), (27, .pv (.one (.bool p)))], [.live ⟨1, 5, [.int .i64 0, .str [], .int .i32 0, .bool false, .int .u32 0]⟩, .live ⟨1, 5, [.int .i64 0, .str [], .int .i32 0, .bool false, .int .u32 0]⟩]⟩) (fun v => y_13 = v) (by rfl) ?_ ?_
      · try simp only [↓DN, UP, r1, r2, r3, r4, r5, r6, r7, reduceCtorEq, Try.f83, f1, f2]
        refine stIf hy_14 (fun hb_15 hy_14 => ?_) (fun hb_15 hy_14 => ?_)
        · try simp only [↓DN, UP, r1, r2, r3, r4, r5, r6, r7, reduceCtorEq, Try.f83, f1, f2, hb_15]
          obtain rfl := Option.some.inj hy_14
          exact cutT_mk true rfl (wn [0, 1, 4, 6, 7, 8, 27] [0, 1])
        · try simp only [↓DN, UP, r1, r2, r3, r4, r5, r6, r7, reduceCtorEq, Try.f83, f1, f2, hb_15]
          refine stIf hy_14 (fun hb_16 hy_14 => ?_) (fun hb_16 hy_14 => ?_)
          · try simp only [↓DN, UP, r1, r2, r3, r4, r5, r6, r7, reduceCtorEq, Try.f83, f1, f2, hb_15, hb_16]
            obtain rfl := Option.some.inj hy_14
            exact cutT_mk true rfl (wn [0, 1, 4, 6, 7, 8, 27] [0, 1])
          · try simp only [↓DN, UP, r1, r2, r3, r4, r5, r6, r7, reduceCtorEq, Try.f83, f1, f2, hb_15, hb_16]
            refine stIf hy_14 (fun hb_17 hy_14 => ?_) (fun hb_17 hy_14 => ?_)
            · try simp only [↓DN, UP, r1, r2, r3, r4, r5, r6, r7, reduceCtorEq, Try.f83, f1, f2, hb_15, hb_16, hb_17]
              obtain rfl := Option.some.inj hy_14
              exact cutT_mk true rfl (wn [0, 1, 4, 6, 7, 8, 27] [0, 1])
            · try simp only [↓DN, UP, r1, r2, r3, r4, r5, r6, r7, reduceCtorEq, Try.f83, f1, f2, hb_15, hb_16, hb_17]
              obtain rfl := Option.some.inj hy_14
              exact cutT_mk ((Int.tmod v_3 16) == 5) rfl (wn [0, 1, 4, 6, 7, 8, 27] [0, 1])
      · rintro v_12 hp
        replace hp := hp.symm; subst hp
        try dsimp only at hy_7
        try simp only [↓DN, UP, r1, r2, r3, r4, r5, r6, r7, reduceCtorEq, Try.f83]
        refine stIf hy_7 (fun hb_18 hy_7 => ?_) (fun hb_18 hy_7 => ?_)
        · obtain ⟨y_19, hy_19, hy_7⟩ := bS hy_7
          try simp only [↓DN, UP, r1, r2, r3, r4, r5, r6, r7, reduceCtorEq, Try.f83]
          refine cG [] (c_spec_l04Number hy_19) (hK := fun rd b => ?_)
          try simp only [↓DN, UP, r1, r2, r3, r4, r5, r6, r7, reduceCtorEq, Try.f83]
          obtain rfl := Option.some.inj hy_7
          exact cutT_mk (y_19.1, y_19.2) rfl (wn [0, 1, 4, 6, 7] [0, 1])
        · try simp only [↓DN, UP, r1, r2, r3, r4, r5, r6, r7, reduceCtorEq, Try.f83]
          obtain ⟨y_21, hy_22, hy_7⟩ := bS hy_7
          refine seqK TryT_eq (fun p : Bool => ⟨[(0, .pv (.one (.imm 1 cells_1.length (cells_1.flatMap (eI .u32))))), (1, .pv (.one (.int .i64 i_2))), (4, .pv (.one (.ptr 0 0))), (6, .pv (.one (.ptr 1 0))), (7, .pv (.one (.int .i64 0))), (48, .pv (.one (.bool p)))], [.live ⟨1, 5, [.int .i64 0, .str [], .int .i32 0, .bool false, .int .u32 0]⟩, .live ⟨1, 5, [.int .i64 0, .str [], .int .i32 0, .bool false, .int .u32 0]⟩]⟩) (fun v => y_21 = v) (by rfl) ?_ ?_
          · try simp only [↓DN, UP, r1, r2, r3, r4, r5, r6, r7, reduceCtorEq, Try.f83]
            refine stIf hy_22 (fun hb_23 hy_22 => ?_) (fun hb_23 hy_22 => ?_)
            · try simp only [↓DN, UP, r1, r2, r3, r4, r5, r6, r7, reduceCtorEq, Try.f83, hb_23]
              refine stIf hy_22 (fun hb_24 hy_22 => ?_) (fun hb_24 hy_22 => ?_)
              · obtain ⟨y_25, hy_25, hy_22⟩ := bS hy_22
                have f3 := (fAt (eI_ok .u32) hv_3 (n := cells_1.length) (by simp))
                have f4 := (quoI_ne (k := .u32) (a := v_3) (b := 16) (by decide))
                try simp only [↓DN, UP, r1, r2, r3, r4, r5, r6, r7, reduceCtorEq, Try.f83, hb_23, hb_24, f3, f4]
                refine cG [] (c_spec_FieldOk hy_25) (hK := fun rd b => ?_)
                try simp only [↓DN, UP, r1, r2, r3, r4, r5, r6, r7, reduceCtorEq, Try.f83, hb_23, hb_24, f3, f4]
                obtain rfl := Option.some.inj hy_22
                exact cutT_mk y_25 rfl (wn [0, 1, 4, 6, 7, 48] [0, 1])
              · try simp only [↓DN, UP, r1, r2, r3, r4, r5, r6, r7, reduceCtorEq, Try.f83, hb_23, hb_24]
                obtain rfl := Option.some.inj hy_22
                exact cutT_mk false rfl (wn [0, 1, 4, 6, 7, 48] [0, 1])
            · try simp only [↓DN, UP, r1, r2, r3, r4, r5, r6, r7, reduceCtorEq, Try.f83, hb_23]
              obtain rfl := Option.some.inj hy_22
              exact cutT_mk false rfl (wn [0, 1, 4, 6, 7, 48] [0, 1])
          · rintro v_20 hp
            replace hp := hp.symm; subst hp
            try dsimp only at hy_7
            try simp only [↓DN, UP, r1, r2, r3, r4, r5, r6, r7, reduceCtorEq, Try.f83]
            refine stIf hy_7 (fun hb_26 hy_7 => ?_) (fun hb_26 hy_7 => ?_)
            · obtain ⟨y_27, hy_27, hy_7⟩ := bS hy_7
              have f5 := (fAt (eI_ok .u32) hv_3 (n := cells_1.length) (by simp))
              have f6 := (quoI_ne (k := .u32) (a := v_3) (b := 16) (by decide))
              try simp only [↓DN, UP, r1, r2, r3, r4, r5, r6, r7, reduceCtorEq, Try.f83, f5, f6]
              refine callE [] (rd1 := []) (rd2 := []) 9 rfl (by simp only [WL, r1, r2, r3, r4, r5, r6, r7, reduceCtorEq]) (by simp only [WL, r1, r2, r3, r4, r5, r6, r7, reduceCtorEq]) rfl (c_spec_UnpackOne hy_27) (by simp only [WL, r1, r2, r3, r4, r5, r6, r7, reduceCtorEq]) ?_
              obtain ⟨v_28, hv_28, hy_7⟩ := bS hy_7
              have f7 := (fAt (eI_ok .u32) hv_28 (n := cells_1.length) (by simp))
              try simp only [↓DN, UP, r1, r2, r3, r4, r5, r6, r7, reduceCtorEq, Try.f83, f5, f6, f7]
              refine ⟨rfl, ?_⟩
              try simp only [↓DN, UP, r1, r2, r3, r4, r5, r6, r7, reduceCtorEq, Try.f83, f5, f6, f7]
              obtain rfl := Option.some.inj hy_7
              exact cutT_mk ((⟨9, y_27, IntKind.wrap .i32 v_28, false, 0⟩ : GItem), 2) rfl (wn [0, 1, 4, 6, 7] [0, 1])
            · try simp only [↓DN, UP, r1, r2, r3, r4, r5, r6, r7, reduceCtorEq, Try.f83]
              obtain rfl := Option.some.inj hy_7
              exact cutT_mk ((⟨0, [], 0, false, 0⟩ : GItem), 0) rfl (wn [0, 1, 4, 6, 7] [0, 1])
  · rintro ⟨it_4, n_5⟩ hp
    replace hp := hp.symm; subst hp
    try dsimp only at h
    try simp only [↓DN, UP, r1, r2, r3, r4, r5, r6, r7, reduceCtorEq, Try.f83]
    refine seqN TryT_eq rfl ?_
    try simp only [↓DN, UP, r1, r2, r3, r4, r5, r6, r7, reduceCtorEq, Try.f83]
    refine stIf h (fun hb_29 h => ?_) (fun hb_29 h => ?_)
    · have f8 := (fAt (eI_ok .u32) hv_3 (n := cells_1.length) (by simp))
      try simp only [↓DN, UP, r1, r2, r3, r4, r5, r6, r7, reduceCtorEq, Try.f83, f8]
      obtain rfl := Option.some.inj h
      refine endT_of ?_ ⟨rfl, rfl⟩
      exact (wn [0] [])
    · try simp only [↓DN, UP, r1, r2, r3, r4, r5, r6, r7, reduceCtorEq, Try.f83]
      obtain rfl := Option.some.inj h
      refine endT_of ?_ ⟨rfl, rfl⟩
      exact (wn [0] [])
theorem c_spec_ParseCells {cells_1 : List Int} {r : (List GItem)} (h : g_spec_ParseCells cells_1 = some r) : Ans Try.prog 58 [.one (.imm 1 cells_1.length (cells_1.flatMap (eI .u32)))] [] fun v h1 => v = .pv (.one (.arr 0 0 r.length)) ∧ h1 = [.live ⟨5, r.length, r.flatMap GItem.cs⟩] := by
  refine ansK (P := fun _ => Try.prog) TryT_eq (fn := Try.f58) Try.func58 rfl ⟨by kernel_rfl, rfl, rfl, by kernel_rfl⟩ (by simp) (Weak.refl _ _) ?_
  rw [g_spec_ParseCells] at h
  have f1 := (show bldN 0 = 0 from rfl)
  have f2 := (show bldC [] = ([] : List GItem).flatMap GItem.cs from rfl)
  try simp only [↓DN, UP, r1, r2, r3, r4, r5, r6, r7, reduceCtorEq, Try.f58, f1, f2]
  refine seqN TryT_eq rfl ?_
  try simp only [↓DN, UP, r1, r2, r3, r4, r5, r6, r7, reduceCtorEq, Try.f58, f1, f2]
  refine stIf h (fun hb_2 h => ?_) (fun hb_2 h => ?_)
  · try simp only [↓DN, UP, r1, r2, r3, r4, r5, r6, r7, reduceCtorEq, Try.f58, f1, f2]
    obtain rfl := Option.some.inj h
    refine endT_of ?_ ⟨rfl, rfl⟩
    exact (weak_norm (ks := [0]) (π := [0]) (fuel := 9) (by simp only [WL, r1, r2, r3, r4, r5, r6, r7, reduceCtorEq, fWin GItem.ok (n := 0) (xs := ([] : List GItem)) (by simp)]))
  · try simp only [↓DN, UP, r1, r2, r3, r4, r5, r6, r7, reduceCtorEq, Try.f58, f1, f2]
    obtain ⟨y_4, hy_5, h⟩ := bS h
    refine seqK TryT_eq (fun p : (List GItem) => ⟨[(3, .pv (.one (.arr 0 0 p.length)))], [.live ⟨5, p.length, p.flatMap GItem.cs⟩]⟩) (fun v => y_4 = v) (by rfl) ?_ ?_
    · try simp only [↓DN, UP, r1, r2, r3, r4, r5, r6, r7, reduceCtorEq, Try.f58, f1, f2]
      obtain ⟨y_9, hy_10, hy_5⟩ := bS hy_5
      refine loopK TryT_eq (fun p : (List GItem) × Int => ⟨[(0, .pv (.one (.imm 1 cells_1.length (cells_1.flatMap (eI .u32))))), (3, .pv (.one (.arr 0 0 p.1.length))), (4, .pv (.one (.int .i64 p.2)))], [.live ⟨5, p.1.length, p.1.flatMap GItem.cs⟩]⟩) (fun k p => g_spec_ParseCells_l0 cells_1 k p.1 p.2 = some y_9) (by kernel_rfl) bigK (([] : List GItem), 0) (weak_norm (ks := [0, 3, 4]) (π := [0]) (fuel := 9) (by simp only [WL, r1, r2, r3, r4, r5, r6, r7, reduceCtorEq, fWin GItem.ok (n := 0) (xs := ([] : List GItem)) (by simp)])) hy_10 (fun _ h => nomatch (show none = some _ from h)) ?_
      rintro k_11 ⟨out_6, i_7⟩ hk_12
      rw [g_spec_ParseCells_l0] at hk_12
      try dsimp only at hk_12
      try simp only [↓DN, UP, r1, r2, r3, r4, r5, r6, r7, reduceCtorEq, Try.f58]
      refine seqN TryT_eq rfl ?_
      try simp only [↓DN, UP, r1, r2, r3, r4, r5, r6, r7, reduceCtorEq, Try.f58]
      refine stIf hk_12 (fun hb_13 hk_12 => ?_) (fun hb_13 hk_12 => ?_)
      · obtain ⟨y_14, hy_14, hk_12⟩ := bS hk_12
        try simp only [↓DN, UP, r1, r2, r3, r4, r5, r6, r7, reduceCtorEq, Try.f58]
        refine cG [] (c_spec_l04Item hy_14) (hK := fun rd b => ?_)
        obtain ⟨v_15, hv_15, hk_12⟩ := bS hk_12
        have f3 := (show bldN 1 = 1 from rfl)
        have f4 := (show bldC [.int .i64 y_14.1.Kind, .str y_14.1.Name, .int .i32 y_14.1.N, .bool y_14.1.Hex, .int .u32 y_14.1.Raw] = [y_14.1].flatMap GItem.cs from rfl)
        have f5 := (fWin GItem.ok (n := 1) (xs := [y_14.1]) (by simp))
        have f6 := (fApp hv_15 (n := out_6.length) (by simp) (m := 1) (by simp [bsOf]))
        have f7 := (fWin GItem.ok (n := out_6.length) (xs := out_6) (by simp))
        have f8 := (fCat (e := GItem.cs) (ns := [y_14.1].flatMap GItem.cs) hv_15 rfl)
        try simp only [↓DN, UP, r1, r2, r3, r4, r5, r6, r7, reduceCtorEq, Try.f58, f3, f4, f5, f6, f7, f8]
        exact ⟨(v_15, IntKind.wrap .i64 (i_7 + y_14.2)), hk_12, (wn [0, 3, 4] [3])⟩
      · obtain rfl := Option.some.inj hk_12
        try dsimp only at hy_5
        try simp only [↓DN, UP, r1, r2, r3, r4, r5, r6, r7, reduceCtorEq, Try.f58]
        obtain rfl := Option.some.inj hy_5
        exact cutT_mk out_6 rfl (wn [3] [0])
    · rintro out_3 hp
      replace hp := hp.symm; subst hp
      try dsimp only at h
      try simp only [↓DN, UP, r1, r2, r3, r4, r5, r6, r7, reduceCtorEq, Try.f58]
      obtain ⟨y_18, hy_19, h⟩ := bS h
      refine seqK TryT_eq (fun p : (List GItem) => ⟨[(3, .pv (.one (.arr 0 0 p.length)))], [.live ⟨5, p.length, p.flatMap GItem.cs⟩]⟩) (fun v => y_18 = v) (by rfl) ?_ ?_
      · try simp only [↓DN, UP, r1, r2, r3, r4, r5, r6, r7, reduceCtorEq, Try.f58]
        refine loopK TryT_eq (fun p : (List GItem) => ⟨[(3, .pv (.one (.arr 0 0 p.length)))], [.live ⟨5, p.length, p.flatMap GItem.cs⟩]⟩) (fun k p => g_spec_ParseCells_l1 k p = some y_18) (by kernel_rfl) bigK out_3 (wn [3] [0]) hy_19 (fun _ h => nomatch (show none = some _ from h)) ?_
        rintro k_20 out_16 hk_21
        rw [g_spec_ParseCells_l1] at hk_21
        try dsimp only at hk_21
        try simp only [↓DN, UP, r1, r2, r3, r4, r5, r6, r7, reduceCtorEq, Try.f58]
        refine seqN TryT_eq rfl ?_
        try simp only [↓DN, UP, r1, r2, r3, r4, r5, r6, r7, reduceCtorEq, Try.f58]
        obtain ⟨y_23, hy_24, hk_21⟩ := bS hk_21
        refine seqK TryT_eq (fun p : Bool => ⟨[(3, .pv (.one (.arr 0 0 out_16.length))), (41, .pv (.one (.bool p)))], [.live ⟨5, out_16.length, out_16.flatMap GItem.cs⟩]⟩) (fun v => y_23 = v) (by rfl) ?_ ?_
        · try simp only [↓DN, UP, r1, r2, r3, r4, r5, r6, r7, reduceCtorEq, Try.f58]
          refine stIf hy_24 (fun hb_25 hy_24 => ?_) (fun hb_25 hy_24 => ?_)
          · obtain ⟨v_26, hv_26, hy_24⟩ := bS hy_24
            have f9 := (fPtr hv_26 (k := 5) (n := out_16.length) (by simp))
            have f10 := (fGet0 GItem.ok hv_26 (m := 5) (by decide) (by decide))
            try simp only [↓DN, UP, r1, r2, r3, r4, r5, r6, r7, reduceCtorEq, Try.f58, hb_25, f9, f10]
            obtain rfl := Option.some.inj hy_24
            exact cutT_mk ((v_26.Kind : Int) == 0 && ((v_26.Name : Bs) == [] && ((v_26.N : Int) == 0 && ((v_26.Hex : Bool) == false && ((v_26.Raw : Int) == 0 && true))))) rfl (wn [3, 41] [0])
          · try simp only [↓DN, UP, r1, r2, r3, r4, r5, r6, r7, reduceCtorEq, Try.f58, hb_25]
            obtain rfl := Option.some.inj hy_24
            exact cutT_mk false rfl (wn [3, 41] [0])
        · rintro v_22 hp
          replace hp := hp.symm; subst hp
          try dsimp only at hk_21
          try simp only [↓DN, UP, r1, r2, r3, r4, r5, r6, r7, reduceCtorEq, Try.f58]
          refine stIf hk_21 (fun hb_27 hk_21 => ?_) (fun hb_27 hk_21 => ?_)
          · obtain ⟨v_28, hv_28, hk_21⟩ := bS hk_21
            have f11 := (fSubN hv_28 (n := out_16.length) (by simp))
            try simp only [↓DN, UP, r1, r2, r3, r4, r5, r6, r7, reduceCtorEq, Try.f58, f11]
            exact ⟨v_28, hk_21, ((weak_trim 0 0 v_28.length (b := ⟨_, _, _⟩) rfl (fLeW hv_28 (by simp) (by simp)) (by decide)).trans (weak_norm (ks := [3]) (π := [0]) (fuel := 9) (by simp only [trS, trE, trH, trHS, trSV, trP, trC, ML, MB, and_self, r1, r2, r3, r4, r5, r6, r7, reduceCtorEq, TL, TT, fTrim0 GItem.ok hv_28 (lo := 0) (by simp), fTr GItem.ok])))⟩
          · try simp only [↓DN, UP, r1, r2, r3, r4, r5, r6, r7, reduceCtorEq, Try.f58]
            obtain rfl := Option.some.inj hk_21
            exact cutT_mk out_16 rfl (wn [3] [0])
      · rintro out_17 hp
        replace hp := hp.symm; subst hp
        try dsimp only at h
        try simp only [↓DN, UP, r1, r2, r3, r4, r5, r6, r7, reduceCtorEq, Try.f58]
        obtain rfl := Option.some.inj h
        refine endT_of ?_ ⟨rfl, rfl⟩
        exact (wn [0] [0])
theorem c_spec_l22Plain {list_1 : List GItem} {r : Bool} (h : g_spec_l22Plain list_1 = some r) : Ans Try.prog 59 [.one (.imm 5 list_1.length (list_1.flatMap GItem.cs))] [] fun v h1 => v = .pv (.one (.bool r)) ∧ h1 = [] := by
  refine ansK (P := fun _ => Try.prog) TryT_eq (fn := Try.f59) Try.func59 rfl ⟨by kernel_rfl, rfl, rfl, by kernel_rfl⟩ (by simp) (Weak.refl _ _) ?_
  rw [g_spec_l22Plain] at h
  try simp only [↓DN, UP, r1, r2, r3, r4, r5, r6, r7, reduceCtorEq, Try.f59]
  obtain ⟨y_2, hy_3, h⟩ := bS h
  refine seqK TryT_eq (fun p : Unit => ⟨[], []⟩) (fun v => y_2 = .inl v) (by rfl) ?_ ?_
  · try simp only [↓DN, UP, r1, r2, r3, r4, r5, r6, r7, reduceCtorEq, Try.f59]
    obtain ⟨y_5, hy_6, hy_3⟩ := bS hy_3
    refine loopK TryT_eq (fun p : Int => ⟨[(0, .pv (.one (.imm 5 list_1.length (list_1.flatMap GItem.cs)))), (3, .pv (.one (.int .i64 p)))], []⟩) (fun k p => g_spec_l22Plain_l0 list_1 k p = some y_5) (by kernel_rfl) bigK 0 (wn [0, 3] []) hy_6 (fun _ h => nomatch (show none = some _ from h)) ?_
    rintro k_7 i_4 hk_8
    rw [g_spec_l22Plain_l0] at hk_8
    try dsimp only at hk_8
    try simp only [↓DN, UP, r1, r2, r3, r4, r5, r6, r7, reduceCtorEq, Try.f59]
    refine seqN TryT_eq rfl ?_
    try simp only [↓DN, UP, r1, r2, r3, r4, r5, r6, r7, reduceCtorEq, Try.f59]
    refine stIf hk_8 (fun hb_9 hk_8 => ?_) (fun hb_9 hk_8 => ?_)
    · try simp only [↓DN, UP, r1, r2, r3, r4, r5, r6, r7, reduceCtorEq, Try.f59]
      refine seqN TryT_eq rfl ?_
      obtain ⟨v_10, hv_10, hk_8⟩ := bS hk_8
      have f1 := (fAt GItem.ok hv_10 (n := list_1.length) (by simp))
      try simp only [↓DN, UP, r1, r2, r3, r4, r5, r6, r7, reduceCtorEq, Try.f59, f1]
      refine stIf hk_8 (fun hb_11 hk_8 => ?_) (fun hb_11 hk_8 => ?_)
      · obtain rfl := Option.some.inj hk_8
        try dsimp only at hy_3
        obtain rfl := Option.some.inj hy_3
        try dsimp only at h
        try simp only [↓DN, UP, r1, r2, r3, r4, r5, r6, r7, reduceCtorEq, Try.f59, f1]
        obtain rfl := Option.some.inj h
        refine endT_of ?_ ⟨rfl, rfl⟩
        exact (wn [0] [])
      · try simp only [↓DN, UP, r1, r2, r3, r4, r5, r6, r7, reduceCtorEq, Try.f59, f1]
        exact ⟨IntKind.wrap .i64 (i_4 + 1), hk_8, (wn [0, 3] [])⟩
    · obtain rfl := Option.some.inj hk_8
      try dsimp only at hy_3
      try simp only [↓DN, UP, r1, r2, r3, r4, r5, r6, r7, reduceCtorEq, Try.f59]
      obtain rfl := Option.some.inj hy_3
      exact cutT_mk () (by trivial) (wn [] [])
  · rintro _ hp
    replace hp := hp.symm; subst hp
    try dsimp only at h
    try simp only [↓DN, UP, r1, r2, r3, r4, r5, r6, r7, reduceCtorEq, Try.f59]
    obtain rfl := Option.some.inj h
    refine endT_of ?_ ⟨rfl, rfl⟩
    exact (wn [0] [])
theorem c_spec_l14Max {a_1 : Int} {b_2 : Int} {r : Int} (h : g_spec_l14Max a_1 b_2 = some r) : Ans Try.prog 84 [.one (.int .i64 a_1), .one (.int .i64 b_2)] [] fun v h1 => v = .pv (.one (.int .i64 r)) ∧ h1 = [] := by
  refine ansK (P := fun _ => Try.prog) TryT_eq (fn := Try.f84) Try.func84 rfl ⟨by kernel_rfl, rfl, rfl, by kernel_rfl⟩ (by simp) (Weak.refl _ _) ?_
  rw [g_spec_l14Max] at h
  try simp only [↓DN, UP, r1, r2, r3, r4, r5, r6, r7, reduceCtorEq, Try.f84]
  refine seqN TryT_eq rfl ?_
  try simp only [↓DN, UP, r1, r2, r3, r4, r5, r6, r7, reduceCtorEq, Try.f84]
  refine stIf h (fun hb_3 h => ?_) (fun hb_3 h => ?_)
  · try simp only [↓DN, UP, r1, r2, r3, r4, r5, r6, r7, reduceCtorEq, Try.f84]
    obtain rfl := Option.some.inj h
    refine endT_of ?_ ⟨rfl, rfl⟩
    exact (wn [0] [])
  · try simp only [↓DN, UP, r1, r2, r3, r4, r5, r6, r7, reduceCtorEq, Try.f84]
    obtain rfl := Option.some.inj h
    refine endT_of ?_ ⟨rfl, rfl⟩
    exact (wn [0] [])
theorem c_spec_l22Table {a : List GItem} {b : List GItem} {r : List (List Int)} (h : g_spec_l22Table a b = some r) : Ans Try.prog 60 [.one (.imm 5 a.length (a.flatMap GItem.cs)), .one (.imm 5 b.length (b.flatMap GItem.cs))] [] fun v h1 => v = .pv (.one (.imm 1 r.length (r.flatMap (eL (eI .i64) 1)))) ∧ h1 = [] := by
  refine ansK (P := fun _ => Try.prog) TryT_eq (fn := Try.f60) Try.func60 rfl ⟨by kernel_rfl, rfl, rfl, by kernel_rfl⟩ (by simp) (Weak.refl _ _) ?_
  rw [g_spec_l22Table] at h
  obtain ⟨rows, hrows, h⟩ := bS h
  have f1 := (show bldN 0 = 0 from rfl)
  have f2 := (show bldC [] = [] from rfl)
  simp only [↓DN, UP, r1, r2, r3, r4, r5, r6, r7, reduceCtorEq, Try.f60, f1, f2]
  refine seqK TryT_eq (fun p : List HS × Nat × List Nat => ⟨[(0, .pv (.one (.imm 5 a.length (a.flatMap GItem.cs)))), (1, .pv (.one (.imm 5 b.length (b.flatMap GItem.cs)))), (5, .pv (.one (.arr p.2.1 0 p.2.2.length)))], p.1⟩) (fun p => TabInv p.1 p.2.1 p.2.2 rows (IntKind.wrap .i64 ((b.length : Int) + 1)).toNat) (by rfl) ?_ ?_
  · simp only [↓DN, UP, r1, r2, r3, r4, r5, r6, r7, reduceCtorEq, Try.f60]
    refine loopK TryT_eq (fun p : List HS × Nat × List Nat × List (List Int) × Int => ⟨[(0, .pv (.one (.imm 5 a.length (a.flatMap GItem.cs)))), (1, .pv (.one (.imm 5 b.length (b.flatMap GItem.cs)))), (5, .pv (.one (.arr p.2.1 0 p.2.2.1.length))), (6, .pv (.one (.int .i64 p.2.2.2.2)))], p.1⟩)
      (fun k p => TabInv p.1 p.2.1 p.2.2.1 p.2.2.2.1 (IntKind.wrap .i64 ((b.length : Int) + 1)).toNat ∧ g_spec_l22Table_l0 a b k p.2.2.2.1 p.2.2.2.2 = some rows) (by kernel_rfl) bigK ([.live ⟨1, 0, []⟩], 0, [], [], 0) (wn [0, 1, 5, 6] [0]) ⟨tab_nil _, hrows⟩ (fun p hp => nomatch (show none = some _ from hp.2)) ?_
    rintro k ⟨H, o, ids, rs, i⟩ ⟨I, hk⟩
    rw [g_spec_l22Table_l0] at hk
    dsimp only at I hk ⊢
    refine seqN TryT_eq rfl ?_
    simp only [↓DN, UP, r1, r2, r3, r4, r5, r6, r7, reduceCtorEq, Try.f60]
    refine stIf hk (fun hb hk => ?_) (fun hb hk => ?_)
    · simp only [↓DN, UP, r1, r2, r3, r4, r5, r6, r7, reduceCtorEq, Try.f60]
      obtain ⟨z, hz, hk⟩ := bS hk
      obtain ⟨rs', hrs', hk⟩ := bS hk
      have hlo := I.lto
      have hzl := mk_len hz
      have g1 := fMk hz
      have g2 := fMkC (e := eI .i64) (ns := [.int .i64 0]) hz rfl
      rw [hzl] at g1 g2
      have g3 : (o = H.length) = False := eq_false (by omega)
      have g4 : (o = H.length + 1) = False := eq_false (by omega)
      have g5 : (H.length = H.length + 1) = False := eq_false (by omega)
      have g6 : (H.length + 1 = H.length) = False := eq_false (by omega)
      have g7 := fApp hrs' (n := ids.length) I.len.symm (m := 1) rfl
      have g8 := I.ho
      refine seqN TryT_eq rfl ?_
      simp only [↓DN, UP, r1, r2, r3, r4, r5, r6, r7, reduceCtorEq, Try.f60, g1, g2, g3, g4, g5, g6, g7, g8, bldC_id, bldN_id, setH_end, hOf_setH, winId, winOne]
      obtain ⟨e1, e2⟩ := appSome hrs'
      subst e1
      have hlen : (rs ++ [z]).length = ids.length + 1 := by rw [List.length_append, I.len]; rfl
      rw [hlen]
      refine ⟨(_, H.length + 2, ids ++ [H.length], rs ++ [z], IntKind.wrap .i64 (i + 1)), ⟨TabInv.app I hzl (by rw [← hlen]; exact e2) (by simp only [setH_len]; omega) (by intro j; simp only [hOf_setH]; rfl), hk⟩, weak_sub (by simp [lk])⟩
    · simp only [↓DN, UP, r1, r2, r3, r4, r5, r6, r7, reduceCtorEq, Try.f60]
      cases hk
      exact cutT_mk (H, o, ids) I (weak_sub (by simp [lk]))
  · rintro ⟨H, o, ids⟩ I
    dsimp only at I ⊢
    refine seqK TryT_eq (fun p : List HS => ⟨[(0, .pv (.one (.imm 5 a.length (a.flatMap GItem.cs)))), (1, .pv (.one (.imm 5 b.length (b.flatMap GItem.cs)))), (5, .pv (.one (.arr o 0 ids.length)))], p⟩) (fun p => TabInv p o ids r (IntKind.wrap .i64 ((b.length : Int) + 1)).toNat) (by rfl) ?_ ?_
    · simp only [↓DN, UP, r1, r2, r3, r4, r5, r6, r7, reduceCtorEq, Try.f60]
      refine loopK TryT_eq (fun p : List HS × List (List Int) × Int => ⟨[(0, .pv (.one (.imm 5 a.length (a.flatMap GItem.cs)))), (1, .pv (.one (.imm 5 b.length (b.flatMap GItem.cs)))), (5, .pv (.one (.arr o 0 ids.length))), (7, .pv (.one (.int .i64 p.2.2)))], p.1⟩)
        (fun k p => TabInv p.1 o ids p.2.1 (IntKind.wrap .i64 ((b.length : Int) + 1)).toNat ∧ g_spec_l22Table_l1 a b k p.2.1 p.2.2 = some r) (by kernel_rfl) bigK (H, rows, IntKind.wrap .i64 ((a.length : Int) - 1)) (weak_sub (by simp [lk])) ⟨I, h⟩ (fun p hp => nomatch (show none = some _ from hp.2)) ?_
      rintro k ⟨H, rs, i⟩ ⟨I, hk⟩
      rw [g_spec_l22Table_l1] at hk
      dsimp only at I hk ⊢
      refine seqN TryT_eq rfl ?_
      simp only [↓DN, UP, r1, r2, r3, r4, r5, r6, r7, reduceCtorEq, Try.f60]
      refine stIf hk (fun hb hk => ?_) (fun hb hk => ?_)
      · simp only [↓DN, UP, r1, r2, r3, r4, r5, r6, r7, reduceCtorEq, Try.f60]
        obtain ⟨rs2, hrs2, hk⟩ := bS hk
        refine seqK TryT_eq (fun p : List HS => ⟨[(0, .pv (.one (.imm 5 a.length (a.flatMap GItem.cs)))), (1, .pv (.one (.imm 5 b.length (b.flatMap GItem.cs)))), (5, .pv (.one (.arr o 0 ids.length))), (7, .pv (.one (.int .i64 i)))], p⟩) (fun p => TabInv p o ids rs2 (IntKind.wrap .i64 ((b.length : Int) + 1)).toNat) (by rfl) ?_ ?_
        · simp only [↓DN, UP, r1, r2, r3, r4, r5, r6, r7, reduceCtorEq, Try.f60]
          refine loopK TryT_eq (fun p : List HS × List (List Int) × Int => ⟨[(0, .pv (.one (.imm 5 a.length (a.flatMap GItem.cs)))), (1, .pv (.one (.imm 5 b.length (b.flatMap GItem.cs)))), (5, .pv (.one (.arr o 0 ids.length))), (7, .pv (.one (.int .i64 i))), (8, .pv (.one (.int .i64 p.2.2)))], p.1⟩)
            (fun k p => TabInv p.1 o ids p.2.1 (IntKind.wrap .i64 ((b.length : Int) + 1)).toNat ∧ g_spec_l22Table_l2 a b i k p.2.1 p.2.2 = some rs2) (by kernel_rfl) bigK (H, rs, IntKind.wrap .i64 ((b.length : Int) - 1)) (weak_sub (by simp [lk])) ⟨I, hrs2⟩ (fun p hp => nomatch (show none = some _ from hp.2)) ?_
          clear hrs2 hk I
          rintro k ⟨H, rs, k1⟩ ⟨I, hk⟩
          rw [g_spec_l22Table_l2] at hk
          dsimp only at I hk ⊢
          refine seqN TryT_eq rfl ?_
          simp only [↓DN, UP, r1, r2, r3, r4, r5, r6, r7, reduceCtorEq, Try.f60]
          refine stIf hk (fun hb hk => ?_) (fun hb hk => ?_)
          · simp only [↓DN, UP, r1, r2, r3, r4, r5, r6, r7, reduceCtorEq, Try.f60]
            obtain ⟨rs3, hrs3, hk⟩ := bS hk
            refine seqK TryT_eq (fun p : List HS => ⟨[(0, .pv (.one (.imm 5 a.length (a.flatMap GItem.cs)))), (1, .pv (.one (.imm 5 b.length (b.flatMap GItem.cs)))), (5, .pv (.one (.arr o 0 ids.length))), (7, .pv (.one (.int .i64 i))), (8, .pv (.one (.int .i64 k1)))], p⟩) (fun p => TabInv p o ids rs3 (IntKind.wrap .i64 ((b.length : Int) + 1)).toNat) (by rfl) ?_ ?_
            · rw [g_spec_l22Table_s] at hrs3
              obtain ⟨ra, hrw, hrs3⟩ := bS hrs3
              obtain ⟨rx, hrx, hrs3⟩ := bS hrs3
              obtain ⟨x, hx, hrs3⟩ := bS hrs3
              obtain ⟨y, hy, hrs3⟩ := bS hrs3
              obtain ⟨z, hz, hrs3⟩ := bS hrs3
              obtain ⟨w, hw, hrs3⟩ := bS hrs3
              obtain ⟨p, hp, hrs3⟩ := bS hrs3
              obtain ⟨q, hq, hrs3⟩ := bS hrs3
              obtain ⟨id0, e1, e2, e3, e4, e5⟩ := I.get hrw
              obtain ⟨id1, d1, d2, d3, d4, d5⟩ := I.get hrx
              have hlo := I.ho
              have l0 := (I.row _ _ _ e1 e2).2
              have l1 := (I.row _ _ _ d1 d2).2
              have g1 := row_get hx l1
              have g2 := row_get hy l0
              have g3 := row_get hw l0
              simp only [↓DN, UP, r1, r2, r3, r4, r5, r6, r7, reduceCtorEq, Try.f60, hlo, e3, e4, e5, d3, d4, d5, g1.1, g1.2, g2.1, g2.2, g3.1, g3.2]
              refine callE [] (rd1 := []) (rd2 := []) 9 rfl rfl rfl rfl (c_spec_l14Max hz) rfl ?_
              have u1 := row_put hw z
              simp only [↓DN, UP, r1, r2, r3, r4, r5, r6, r7, reduceCtorEq, Try.f60, hlo, e3, e4, e5, d3, d4, d5, g1.1, g1.2, g2.1, g2.2, g3.1, g3.2, u1]
              refine ⟨draw_flat (by kernel_rfl), ?_⟩
              have I1 := I.set e1 e2 (r' := ra.set k1.toNat z) (by rw [List.length_set])
              have q1 := fAt GItem.ok hp (n := a.length) (by simp)
              have q2 := fAt GItem.ok hq (n := b.length) (by simp)
              generalize setH H id0 _ = H1 at I1 ⊢
              try simp only [↓DN, UP, r1, r2, r3, r4, r5, r6, r7, reduceCtorEq, Try.f60, q1, q2]
              refine ⟨rfl, ?_⟩
              refine stIf hrs3 (fun hb hrs3 => ?_) (fun hb hrs3 => ?_)
              · obtain ⟨v, hv, hrs3⟩ := bS hrs3
                obtain ⟨v2, hv2, hrs3⟩ := bS hrs3
                obtain rfl := Option.some.inj hrs3
                have hne := I.ne hrw
                have c0 := I1.ho
                obtain ⟨c1, c2⟩ := I1.row _ _ (ra.set k1.toNat z) e1 (by rw [List.getElem?_set_self (List.getElem?_eq_some_iff.1 e2).1])
                obtain ⟨c3, c4⟩ := I1.row _ _ rx d1 (by rw [List.getElem?_set_ne (Ne.symm hne)]; exact d2)
                have g4 := row_get hv c4
                have g5 := row_get hv2 c2
                have u2 := row_put hv2 (IntKind.wrap .i64 (v + 1))
                try simp only [↓DN, UP, r1, r2, r3, r4, r5, r6, r7, reduceCtorEq, Try.f60, c0, c1, c3, e4, e5, d4, d5, g4.1, g4.2, g5.1, g5.2, u2]
                refine ⟨draw_flat (by kernel_rfl), ?_⟩
                try simp only [↓DN, UP, r1, r2, r3, r4, r5, r6, r7, reduceCtorEq, Try.f60]
                have I2 := I1.set (r' := (ra.set k1.toNat z).set k1.toNat (IntKind.wrap .i64 (v + 1))) e1 (by rw [List.getElem?_set_self (List.getElem?_eq_some_iff.1 e2).1]) (by rw [List.length_set])
                rw [show ∀ Y, (rs.set i.toNat (ra.set k1.toNat z)).set i.toNat Y = rs.set i.toNat Y from fun Y => List.set_set _] at I2
                exact cutT_mk _ I2 (weak_sub (by simp [lk]))
              · obtain rfl := Option.some.inj hrs3
                try simp only [↓DN, UP, r1, r2, r3, r4, r5, r6, r7, reduceCtorEq, Try.f60]
                exact cutT_mk H1 I1 (weak_sub (by simp [lk]))
            · intro H I
              simp only [↓DN, UP, r1, r2, r3, r4, r5, r6, r7, reduceCtorEq, Try.f60]
              exact ⟨(H, rs3, IntKind.wrap .i64 (k1 - 1)), ⟨I, hk⟩, weak_sub (by simp [lk])⟩
          · simp only [↓DN, UP, r1, r2, r3, r4, r5, r6, r7, reduceCtorEq, Try.f60]
            cases hk
            exact cutT_mk H I (weak_sub (by simp [lk]))
        · intro H I
          simp only [↓DN, UP, r1, r2, r3, r4, r5, r6, r7, reduceCtorEq, Try.f60]
          exact ⟨(H, rs2, IntKind.wrap .i64 (i - 1)), ⟨I, hk⟩, weak_sub (by simp [lk])⟩
      · simp only [↓DN, UP, r1, r2, r3, r4, r5, r6, r7, reduceCtorEq, Try.f60]
        cases hk
        exact cutT_mk H I (weak_sub (by simp [lk]))
    · intro H I
      simp only [↓DN, UP, r1, r2, r3, r4, r5, r6, r7, reduceCtorEq, Try.f60]
      exact endT_of I.shut ⟨rfl, rfl⟩
theorem c_spec_Plan {a_1 : List Int} {b_2 : List Int} {r : (List GKey) × Bool} (h : g_spec_Plan a_1 b_2 = some r) : Ans Try.prog 28 [.one (.imm 1 a_1.length (a_1.flatMap (eI .u32))), .one (.imm 1 b_2.length (b_2.flatMap (eI .u32)))] [] fun v h1 => v = .tup [.one (.arr 0 0 r.1.length), .one (.bool r.2)] ∧ h1 = [.live ⟨6, r.1.length, r.1.flatMap GKey.cs⟩] := by
  refine ansK (P := fun _ => Try.prog) TryT_eq (fn := Try.f28) Try.func28 rfl ⟨by kernel_rfl, rfl, rfl, by kernel_rfl⟩ (by simp) (Weak.refl _ _) ?_
  rw [g_spec_Plan] at h
  obtain ⟨y_3, hy_3, h⟩ := bS h
  try simp only [↓DN, UP, r1, r2, r3, r4, r5, r6, r7, reduceCtorEq, Try.f28]
  refine cG [] (c_spec_ParseCells hy_3) (hK := fun rd b => ?_)
  obtain ⟨y_4, hy_4, h⟩ := bS h
  try simp only [↓DN, UP, r1, r2, r3, r4, r5, r6, r7, reduceCtorEq, Try.f28]
  refine cG [] (c_spec_ParseCells hy_4) (hK := fun rd b => ?_)
  try simp only [↓DN, UP, r1, r2, r3, r4, r5, r6, r7, reduceCtorEq, Try.f28]
  refine seqN TryT_eq rfl ?_
  try simp only [↓DN, UP, r1, r2, r3, r4, r5, r6, r7, reduceCtorEq, Try.f28]
  obtain ⟨y_6, hy_7, h⟩ := bS h
  refine seqK TryT_eq (fun p : Bool => ⟨[(6, .pv (.one (.imm 5 y_3.length (y_3.flatMap GItem.cs)))), (7, .pv (.one (.imm 5 y_4.length (y_4.flatMap GItem.cs)))), (35, .pv (.one (.bool p)))], []⟩) (fun v => y_6 = v) (by rfl) ?_ ?_
  · try simp only [↓DN, UP, r1, r2, r3, r4, r5, r6, r7, reduceCtorEq, Try.f28]
    refine stIf hy_7 (fun hb_8 hy_7 => ?_) (fun hb_8 hy_7 => ?_)
    · try simp only [↓DN, UP, r1, r2, r3, r4, r5, r6, r7, reduceCtorEq, Try.f28, hb_8]
      obtain rfl := Option.some.inj hy_7
      exact cutT_mk true rfl (wn [6, 7, 35] [])
    · try simp only [↓DN, UP, r1, r2, r3, r4, r5, r6, r7, reduceCtorEq, Try.f28, hb_8]
      refine stIf hy_7 (fun hb_9 hy_7 => ?_) (fun hb_9 hy_7 => ?_)
      · try simp only [↓DN, UP, r1, r2, r3, r4, r5, r6, r7, reduceCtorEq, Try.f28, hb_8, hb_9]
        obtain rfl := Option.some.inj hy_7
        exact cutT_mk true rfl (wn [6, 7, 35] [])
      · obtain ⟨y_10, hy_10, hy_7⟩ := bS hy_7
        try simp only [↓DN, UP, r1, r2, r3, r4, r5, r6, r7, reduceCtorEq, Try.f28, hb_8, hb_9]
        refine cG [] (c_spec_l22Plain hy_10) (hK := fun rd b => ?_)
        try simp only [↓DN, UP, r1, r2, r3, r4, r5, r6, r7, reduceCtorEq, Try.f28, hb_8, hb_9]
        refine stIf hy_7 (fun hb_11 hy_7 => ?_) (fun hb_11 hy_7 => ?_)
        · try simp only [↓DN, UP, r1, r2, r3, r4, r5, r6, r7, reduceCtorEq, Try.f28, hb_8, hb_9, hb_11]
          obtain rfl := Option.some.inj hy_7
          exact cutT_mk true rfl (wn [6, 7, 35] [])
        · obtain ⟨y_12, hy_12, hy_7⟩ := bS hy_7
          try simp only [↓DN, UP, r1, r2, r3, r4, r5, r6, r7, reduceCtorEq, Try.f28, hb_8, hb_9, hb_11]
          refine cG [] (c_spec_l22Plain hy_12) (hK := fun rd b => ?_)
          try simp only [↓DN, UP, r1, r2, r3, r4, r5, r6, r7, reduceCtorEq, Try.f28, hb_8, hb_9, hb_11]
          obtain rfl := Option.some.inj hy_7
          exact cutT_mk (!y_12) rfl (wn [6, 7, 35] [])
  · rintro v_5 hp
    replace hp := hp.symm; subst hp
    try dsimp only at h
    try simp only [↓DN, UP, r1, r2, r3, r4, r5, r6, r7, reduceCtorEq, Try.f28]
    refine stIf h (fun hb_13 h => ?_) (fun hb_13 h => ?_)
    · have f1 := (show bldN 0 = 0 from rfl)
      have f2 := (show bldC [] = ([] : List GKey).flatMap GKey.cs from rfl)
      try simp only [↓DN, UP, r1, r2, r3, r4, r5, r6, r7, reduceCtorEq, Try.f28, f1, f2]
      obtain rfl := Option.some.inj h
      refine endT_of ?_ ⟨rfl, rfl⟩
      exact (weak_norm (ks := [0]) (π := [0]) (fuel := 9) (by simp only [WL, r1, r2, r3, r4, r5, r6, r7, reduceCtorEq, fWin GKey.ok (n := 0) (xs := ([] : List GKey)) (by simp)]))
    · obtain ⟨y_14, hy_14, h⟩ := bS h
      try simp only [↓DN, UP, r1, r2, r3, r4, r5, r6, r7, reduceCtorEq, Try.f28]
      refine callE [] 9 rfl rfl rfl rfl (c_spec_l22Table hy_14) rfl ?_
      have f3 := (show bldN 0 = 0 from rfl)
      have f4 := (show bldC [] = ([] : List GKey).flatMap GKey.cs from rfl)
      try simp only [↓DN, UP, r1, r2, r3, r4, r5, r6, r7, reduceCtorEq, Try.f28, f3, f4]
      obtain ⟨y_23, hy_24, h⟩ := bS h
      refine seqK TryT_eq (fun p : (List GKey) × (List GKey) × Int => ⟨[(9, .pv (.one (.arr 0 0 p.1.length))), (10, .pv (.one (.arr 1 0 p.2.1.length))), (11, .pv (.one (.int .i64 p.2.2)))], [.live ⟨6, p.1.length, p.1.flatMap GKey.cs⟩, .live ⟨6, p.2.1.length, p.2.1.flatMap GKey.cs⟩]⟩) (fun v => y_23 = v) (by rfl) ?_ ?_
      · try simp only [↓DN, UP, r1, r2, r3, r4, r5, r6, r7, reduceCtorEq, Try.f28, f3, f4]
        refine loopK TryT_eq (fun p : (List GKey) × (List GKey) × Int × Int × Int => ⟨[(6, .pv (.one (.imm 5 y_3.length (y_3.flatMap GItem.cs)))), (7, .pv (.one (.imm 5 y_4.length (y_4.flatMap GItem.cs)))), (8, .pv (.one (.imm 1 y_14.length (y_14.flatMap (eL (eI .i64) 1))))), (9, .pv (.one (.arr 0 0 p.1.length))), (10, .pv (.one (.arr 1 0 p.2.1.length))), (11, .pv (.one (.int .i64 p.2.2.1))), (12, .pv (.one (.int .i64 p.2.2.2.1))), (13, .pv (.one (.int .i64 p.2.2.2.2)))], [.live ⟨6, p.1.length, p.1.flatMap GKey.cs⟩, .live ⟨6, p.2.1.length, p.2.1.flatMap GKey.cs⟩]⟩) (fun k p => g_spec_Plan_l0 y_3 y_4 y_14 k p.1 p.2.1 p.2.2.1 p.2.2.2.1 p.2.2.2.2 = some y_23) (by kernel_rfl) bigK (([] : List GKey), ([] : List GKey), 0, 0, 0) (weak_norm (ks := [6, 7, 8, 9, 10, 11, 12, 13]) (π := [0, 1]) (fuel := 9) (by simp only [WL, r1, r2, r3, r4, r5, r6, r7, reduceCtorEq, fWin GKey.ok (n := 0) (xs := ([] : List GKey)) (by simp), fWin GKey.ok (n := 0) (xs := ([] : List GKey)) (by simp)])) hy_24 (fun _ h => nomatch (show none = some _ from h)) ?_
        rintro k_25 ⟨first_15, second_16, cuts_17, i_18, k_19⟩ hk_26
        rw [g_spec_Plan_l0] at hk_26
        try dsimp only at hk_26
        try simp only [↓DN, UP, r1, r2, r3, r4, r5, r6, r7, reduceCtorEq, Try.f28]
        refine seqN TryT_eq rfl ?_
        try simp only [↓DN, UP, r1, r2, r3, r4, r5, r6, r7, reduceCtorEq, Try.f28]
        obtain ⟨y_28, hy_29, hk_26⟩ := bS hk_26
        refine seqK TryT_eq (fun p : Bool => ⟨[(6, .pv (.one (.imm 5 y_3.length (y_3.flatMap GItem.cs)))), (7, .pv (.one (.imm 5 y_4.length (y_4.flatMap GItem.cs)))), (8, .pv (.one (.imm 1 y_14.length (y_14.flatMap (eL (eI .i64) 1))))), (9, .pv (.one (.arr 0 0 first_15.length))), (10, .pv (.one (.arr 1 0 second_16.length))), (11, .pv (.one (.int .i64 cuts_17))), (12, .pv (.one (.int .i64 i_18))), (13, .pv (.one (.int .i64 k_19))), (51, .pv (.one (.bool p)))], [.live ⟨6, first_15.length, first_15.flatMap GKey.cs⟩, .live ⟨6, second_16.length, second_16.flatMap GKey.cs⟩]⟩) (fun v => y_28 = v) (by rfl) ?_ ?_
        · try simp only [↓DN, UP, r1, r2, r3, r4, r5, r6, r7, reduceCtorEq, Try.f28]
          refine stIf hy_29 (fun hb_30 hy_29 => ?_) (fun hb_30 hy_29 => ?_)
          · try simp only [↓DN, UP, r1, r2, r3, r4, r5, r6, r7, reduceCtorEq, Try.f28, hb_30]
            obtain rfl := Option.some.inj hy_29
            exact cutT_mk true rfl (wn [6, 7, 8, 9, 10, 11, 12, 13, 51] [0, 1])
          · try simp only [↓DN, UP, r1, r2, r3, r4, r5, r6, r7, reduceCtorEq, Try.f28, hb_30]
            obtain rfl := Option.some.inj hy_29
            exact cutT_mk (decide (k_19 < (y_4.length : Int))) rfl (wn [6, 7, 8, 9, 10, 11, 12, 13, 51] [0, 1])
        · rintro v_27 hp
          replace hp := hp.symm; subst hp
          try dsimp only at hk_26
          try simp only [↓DN, UP, r1, r2, r3, r4, r5, r6, r7, reduceCtorEq, Try.f28]
          refine stIf hk_26 (fun hb_31 hk_26 => ?_) (fun hb_31 hk_26 => ?_)
          · try simp only [↓DN, UP, r1, r2, r3, r4, r5, r6, r7, reduceCtorEq, Try.f28]
            obtain ⟨y_33, hy_34, hk_26⟩ := bS hk_26
            refine seqK TryT_eq (fun p : Bool => ⟨[(6, .pv (.one (.imm 5 y_3.length (y_3.flatMap GItem.cs)))), (7, .pv (.one (.imm 5 y_4.length (y_4.flatMap GItem.cs)))), (8, .pv (.one (.imm 1 y_14.length (y_14.flatMap (eL (eI .i64) 1))))), (9, .pv (.one (.arr 0 0 first_15.length))), (10, .pv (.one (.arr 1 0 second_16.length))), (11, .pv (.one (.int .i64 cuts_17))), (12, .pv (.one (.int .i64 i_18))), (13, .pv (.one (.int .i64 k_19))), (62, .pv (.one (.bool p)))], [.live ⟨6, first_15.length, first_15.flatMap GKey.cs⟩, .live ⟨6, second_16.length, second_16.flatMap GKey.cs⟩]⟩) (fun v => y_33 = v) (by rfl) ?_ ?_
            · try simp only [↓DN, UP, r1, r2, r3, r4, r5, r6, r7, reduceCtorEq, Try.f28]
              refine stIf hy_34 (fun hb_35 hy_34 => ?_) (fun hb_35 hy_34 => ?_)
              · try simp only [↓DN, UP, r1, r2, r3, r4, r5, r6, r7, reduceCtorEq, Try.f28, hb_35]
                refine stIf hy_34 (fun hb_36 hy_34 => ?_) (fun hb_36 hy_34 => ?_)
                · obtain ⟨v_37, hv_37, hy_34⟩ := bS hy_34
                  obtain ⟨v_38, hv_38, hy_34⟩ := bS hy_34
                  have f5 := (fAt GItem.ok hv_37 (n := y_3.length) (by simp))
                  have f6 := (fAt GItem.ok hv_38 (n := y_4.length) (by simp))
                  try simp only [↓DN, UP, r1, r2, r3, r4, r5, r6, r7, reduceCtorEq, Try.f28, hb_35, hb_36, f5, f6]
                  refine ⟨rfl, ?_⟩
                  try simp only [↓DN, UP, r1, r2, r3, r4, r5, r6, r7, reduceCtorEq, Try.f28, hb_35, hb_36, f5, f6]
                  obtain rfl := Option.some.inj hy_34
                  exact cutT_mk ((v_37.Kind : Int) == v_38.Kind && ((v_37.Name : Bs) == v_38.Name && ((v_37.N : Int) == v_38.N && ((v_37.Hex : Bool) == v_38.Hex && ((v_37.Raw : Int) == v_38.Raw && true))))) rfl (wn [6, 7, 8, 9, 10, 11, 12, 13, 62] [0, 1])
                · try simp only [↓DN, UP, r1, r2, r3, r4, r5, r6, r7, reduceCtorEq, Try.f28, hb_35, hb_36]
                  refine ⟨rfl, ?_⟩
                  try simp only [↓DN, UP, r1, r2, r3, r4, r5, r6, r7, reduceCtorEq, Try.f28, hb_35, hb_36]
                  obtain rfl := Option.some.inj hy_34
                  exact cutT_mk false rfl (wn [6, 7, 8, 9, 10, 11, 12, 13, 62] [0, 1])
              · try simp only [↓DN, UP, r1, r2, r3, r4, r5, r6, r7, reduceCtorEq, Try.f28, hb_35]
                refine ⟨rfl, ?_⟩
                try simp only [↓DN, UP, r1, r2, r3, r4, r5, r6, r7, reduceCtorEq, Try.f28, hb_35]
                obtain rfl := Option.some.inj hy_34
                exact cutT_mk false rfl (wn [6, 7, 8, 9, 10, 11, 12, 13, 62] [0, 1])
            · rintro v_32 hp
              replace hp := hp.symm; subst hp
              try dsimp only at hk_26
              try simp only [↓DN, UP, r1, r2, r3, r4, r5, r6, r7, reduceCtorEq, Try.f28]
              refine stIf hk_26 (fun hb_39 hk_26 => ?_) (fun hb_39 hk_26 => ?_)
              · obtain ⟨v_40, hv_40, hk_26⟩ := bS hk_26
                obtain ⟨v_41, hv_41, hk_26⟩ := bS hk_26
                have f7 := (show bldN 1 = 1 from rfl)
                have f8 := (show bldC [.int .i64 1, .int .i64 0, .str [], .int .i32 0, .bool false, .int .u32 0] = [(⟨1, (⟨0, [], 0, false, 0⟩ : GItem)⟩ : GKey)].flatMap GKey.cs from rfl)
                have f9 := (fWin GKey.ok (n := 1) (xs := [(⟨1, (⟨0, [], 0, false, 0⟩ : GItem)⟩ : GKey)]) (by simp))
                have f10 := (fApp hv_40 (n := first_15.length) (by simp) (m := 1) (by simp [bsOf]))
                have f11 := (fWin GKey.ok (n := first_15.length) (xs := first_15) (by simp))
                have f12 := (fCat (e := GKey.cs) (ns := [(⟨1, (⟨0, [], 0, false, 0⟩ : GItem)⟩ : GKey)].flatMap GKey.cs) hv_40 rfl)
                have f13 := (fApp hv_41 (n := second_16.length) (by simp) (m := 1) (by simp [bsOf]))
                have f14 := (fWin GKey.ok (n := second_16.length) (xs := second_16) (by simp))
                have f15 := (fCat (e := GKey.cs) (ns := [(⟨1, (⟨0, [], 0, false, 0⟩ : GItem)⟩ : GKey)].flatMap GKey.cs) hv_41 rfl)
                try simp only [↓DN, UP, r1, r2, r3, r4, r5, r6, r7, reduceCtorEq, Try.f28, f7, f8, f9, f10, f11, f12, f13, f14, f15]
                exact ⟨(v_40, v_41, cuts_17, IntKind.wrap .i64 (i_18 + 1), IntKind.wrap .i64 (k_19 + 1)), hk_26, (wn [6, 7, 8, 9, 10, 11, 12, 13] [3, 5])⟩
              · try simp only [↓DN, UP, r1, r2, r3, r4, r5, r6, r7, reduceCtorEq, Try.f28]
                obtain ⟨y_43, hy_44, hk_26⟩ := bS hk_26
                refine seqK TryT_eq (fun p : Bool => ⟨[(6, .pv (.one (.imm 5 y_3.length (y_3.flatMap GItem.cs)))), (7, .pv (.one (.imm 5 y_4.length (y_4.flatMap GItem.cs)))), (8, .pv (.one (.imm 1 y_14.length (y_14.flatMap (eL (eI .i64) 1))))), (9, .pv (.one (.arr 0 0 first_15.length))), (10, .pv (.one (.arr 1 0 second_16.length))), (11, .pv (.one (.int .i64 cuts_17))), (12, .pv (.one (.int .i64 i_18))), (13, .pv (.one (.int .i64 k_19))), (96, .pv (.one (.bool p)))], [.live ⟨6, first_15.length, first_15.flatMap GKey.cs⟩, .live ⟨6, second_16.length, second_16.flatMap GKey.cs⟩]⟩) (fun v => y_43 = v) (by rfl) ?_ ?_
                · try simp only [↓DN, UP, r1, r2, r3, r4, r5, r6, r7, reduceCtorEq, Try.f28]
                  refine stIf hy_44 (fun hb_45 hy_44 => ?_) (fun hb_45 hy_44 => ?_)
                  · try simp only [↓DN, UP, r1, r2, r3, r4, r5, r6, r7, reduceCtorEq, Try.f28, hb_45]
                    refine stIf hy_44 (fun hb_46 hy_44 => ?_) (fun hb_46 hy_44 => ?_)
                    · try simp only [↓DN, UP, r1, r2, r3, r4, r5, r6, r7, reduceCtorEq, Try.f28, hb_45, hb_46]
                      refine ⟨rfl, ?_⟩
                      try simp only [↓DN, UP, r1, r2, r3, r4, r5, r6, r7, reduceCtorEq, Try.f28, hb_45, hb_46]
                      obtain rfl := Option.some.inj hy_44
                      exact cutT_mk true rfl (wn [6, 7, 8, 9, 10, 11, 12, 13, 96] [0, 1])
                    · obtain ⟨v_47, hv_47, hy_44⟩ := bS hy_44
                      obtain ⟨v_48, hv_48, hy_44⟩ := bS hy_44
                      obtain ⟨v_49, hv_49, hy_44⟩ := bS hy_44
                      obtain ⟨v_50, hv_50, hy_44⟩ := bS hy_44
                      have f16 := (fAt (eL_ok (eI .i64) 1) hv_47 (n := y_14.length) (by simp))
                      have f17 := (fAt (eI_ok .i64) hv_48 (n := v_47.length) (by simp))
                      have f18 := (fAt (eL_ok (eI .i64) 1) hv_49 (n := y_14.length) (by simp))
                      have f19 := (fAt (eI_ok .i64) hv_50 (n := v_49.length) (by simp))
                      try simp only [↓DN, UP, r1, r2, r3, r4, r5, r6, r7, reduceCtorEq, Try.f28, hb_45, hb_46, f16, f17, f18, f19]
                      refine ⟨rfl, ?_⟩
                      try simp only [↓DN, UP, r1, r2, r3, r4, r5, r6, r7, reduceCtorEq, Try.f28, hb_45, hb_46, f16, f17, f18, f19]
                      obtain rfl := Option.some.inj hy_44
                      exact cutT_mk (decide (v_48 ≥ v_50)) rfl (wn [6, 7, 8, 9, 10, 11, 12, 13, 96] [0, 1])
                  · try simp only [↓DN, UP, r1, r2, r3, r4, r5, r6, r7, reduceCtorEq, Try.f28, hb_45]
                    refine ⟨rfl, ?_⟩
                    try simp only [↓DN, UP, r1, r2, r3, r4, r5, r6, r7, reduceCtorEq, Try.f28, hb_45]
                    obtain rfl := Option.some.inj hy_44
                    exact cutT_mk false rfl (wn [6, 7, 8, 9, 10, 11, 12, 13, 96] [0, 1])
                · rintro v_42 hp
                  replace hp := hp.symm; subst hp
                  try dsimp only at hk_26
                  try simp only [↓DN, UP, r1, r2, r3, r4, r5, r6, r7, reduceCtorEq, Try.f28]
                  refine stIf hk_26 (fun hb_51 hk_26 => ?_) (fun hb_51 hk_26 => ?_)
                  · obtain ⟨v_52, hv_52, hk_26⟩ := bS hk_26
                    have f20 := (show bldN 2 = 2 from rfl)
                    have f21 := (show bldC [.int .i64 1, .int .i64 0, .str [], .int .i32 0, .bool false, .int .u32 0, .int .i64 5, .int .i64 0, .str [], .int .i32 0, .bool false, .int .u32 0] = [(⟨1, (⟨0, [], 0, false, 0⟩ : GItem)⟩ : GKey), (⟨5, (⟨0, [], 0, false, 0⟩ : GItem)⟩ : GKey)].flatMap GKey.cs from rfl)
                    have f22 := (fWin GKey.ok (n := 2) (xs := [(⟨1, (⟨0, [], 0, false, 0⟩ : GItem)⟩ : GKey), (⟨5, (⟨0, [], 0, false, 0⟩ : GItem)⟩ : GKey)]) (by simp))
                    have f23 := (fApp hv_52 (n := first_15.length) (by simp) (m := 2) (by simp [bsOf]))
                    have f24 := (fWin GKey.ok (n := first_15.length) (xs := first_15) (by simp))
                    have f25 := (fCat (e := GKey.cs) (ns := [(⟨1, (⟨0, [], 0, false, 0⟩ : GItem)⟩ : GKey), (⟨5, (⟨0, [], 0, false, 0⟩ : GItem)⟩ : GKey)].flatMap GKey.cs) hv_52 rfl)
                    try simp only [↓DN, UP, r1, r2, r3, r4, r5, r6, r7, reduceCtorEq, Try.f28, f20, f21, f22, f23, f24, f25]
                    exact ⟨(v_52, second_16, IntKind.wrap .i64 (cuts_17 + 1), IntKind.wrap .i64 (i_18 + 1), k_19), hk_26, (wn [6, 7, 8, 9, 10, 11, 12, 13] [3, 1])⟩
                  · obtain ⟨v_53, hv_53, hk_26⟩ := bS hk_26
                    obtain ⟨v_54, hv_54, hk_26⟩ := bS hk_26
                    have f26 := (fAt GItem.ok hv_53 (n := y_4.length) (by simp))
                    have f27 := (show bldN 1 = 1 from rfl)
                    have f28 := (show bldC [.int .i64 4, .int .i64 v_53.Kind, .str v_53.Name, .int .i32 v_53.N, .bool v_53.Hex, .int .u32 v_53.Raw] = [(⟨4, v_53⟩ : GKey)].flatMap GKey.cs from rfl)
                    have f29 := (fWin GKey.ok (n := 1) (xs := [(⟨4, v_53⟩ : GKey)]) (by simp))
                    have f30 := (fApp hv_54 (n := second_16.length) (by simp) (m := 1) (by simp [bsOf]))
                    have f31 := (fWin GKey.ok (n := second_16.length) (xs := second_16) (by simp))
                    have f32 := (fCat (e := GKey.cs) (ns := [(⟨4, v_53⟩ : GKey)].flatMap GKey.cs) hv_54 rfl)
                    try simp only [↓DN, UP, r1, r2, r3, r4, r5, r6, r7, reduceCtorEq, Try.f28, f26, f27, f28, f29, f30, f31, f32]
                    exact ⟨(first_15, v_54, cuts_17, i_18, IntKind.wrap .i64 (k_19 + 1)), hk_26, (wn [6, 7, 8, 9, 10, 11, 12, 13] [0, 3])⟩
          · try simp only [↓DN, UP, r1, r2, r3, r4, r5, r6, r7, reduceCtorEq, Try.f28]
            obtain rfl := Option.some.inj hk_26
            exact cutT_mk (first_15, second_16, cuts_17) rfl (wn [9, 10, 11] [0, 1])
      · rintro ⟨first_20, second_21, cuts_22⟩ hp
        replace hp := hp.symm; subst hp
        try dsimp only at h
        try simp only [↓DN, UP, r1, r2, r3, r4, r5, r6, r7, reduceCtorEq, Try.f28]
        refine seqN TryT_eq rfl ?_
        try simp only [↓DN, UP, r1, r2, r3, r4, r5, r6, r7, reduceCtorEq, Try.f28]
        refine stIf h (fun hb_55 h => ?_) (fun hb_55 h => ?_)
        · have f33 := (show bldN 0 = 0 from rfl)
          have f34 := (show bldC [] = ([] : List GKey).flatMap GKey.cs from rfl)
          try simp only [↓DN, UP, r1, r2, r3, r4, r5, r6, r7, reduceCtorEq, Try.f28, f33, f34]
          obtain rfl := Option.some.inj h
          refine endT_of ?_ ⟨rfl, rfl⟩
          exact (weak_norm (ks := [0]) (π := [2]) (fuel := 9) (by simp only [WL, r1, r2, r3, r4, r5, r6, r7, reduceCtorEq, fWin GKey.ok (n := 0) (xs := ([] : List GKey)) (by simp)]))
        · obtain ⟨v_56, hv_56, h⟩ := bS h
          obtain ⟨v_57, hv_57, h⟩ := bS h
          have f35 := (show bldN 1 = 1 from rfl)
          have f36 := (show bldC [.int .i64 2, .int .i64 0, .str [], .int .i32 0, .bool false, .int .u32 0] = [(⟨2, (⟨0, [], 0, false, 0⟩ : GItem)⟩ : GKey)].flatMap GKey.cs from rfl)
          have f37 := (fWin GKey.ok (n := 1) (xs := [(⟨2, (⟨0, [], 0, false, 0⟩ : GItem)⟩ : GKey)]) (by simp))
          have f38 := (fApp hv_56 (n := first_20.length) (by simp) (m := 1) (by simp [bsOf]))
          have f39 := (fWin GKey.ok (n := first_20.length) (xs := first_20) (by simp))
          have f40 := (fCat (e := GKey.cs) (ns := [(⟨2, (⟨0, [], 0, false, 0⟩ : GItem)⟩ : GKey)].flatMap GKey.cs) hv_56 rfl)
          have f41 := (fWin GKey.ok (n := second_21.length) (xs := second_21) (by simp))
          have f42 := (fApp hv_57 (n := v_56.length) (by simp) (m := second_21.length) (by simp [bsOf]))
          have f43 := (fWin GKey.ok (n := v_56.length) (xs := v_56) (by simp))
          have f44 := (fCat (e := GKey.cs) (ns := second_21.flatMap GKey.cs) hv_57 rfl)
          try simp only [↓DN, UP, r1, r2, r3, r4, r5, r6, r7, reduceCtorEq, Try.f28, f35, f36, f37, f38, f39, f40, f41, f42, f43, f44]
          obtain rfl := Option.some.inj h
          refine endT_of ?_ ⟨rfl, rfl⟩
          exact (wn [0] [4])
theorem c_impl_within {n_1 : Int} {low_2 : Int} {high_3 : Int} {r : Bool} (h : g_impl_within n_1 low_2 high_3 = some r) : Ans Try.prog 78 [.one (.int .i64 n_1), .one (.int .i64 low_2), .one (.int .i64 high_3)] [] fun v h1 => v = .pv (.one (.bool r)) ∧ h1 = [] := by
  refine ansK (P := fun _ => Try.prog) TryT_eq (fn := Try.f78) Try.func78 rfl ⟨by kernel_rfl, rfl, rfl, by kernel_rfl⟩ (by simp) (Weak.refl _ _) ?_
  rw [g_impl_within] at h
  try simp only [↓DN, UP, r1, r2, r3, r4, r5, r6, r7, reduceCtorEq, Try.f78]
  refine seqN TryT_eq rfl ?_
  try simp only [↓DN, UP, r1, r2, r3, r4, r5, r6, r7, reduceCtorEq, Try.f78]
  refine stIf h (fun hb_4 h => ?_) (fun hb_4 h => ?_)
  · try simp only [↓DN, UP, r1, r2, r3, r4, r5, r6, r7, reduceCtorEq, Try.f78, hb_4]
    obtain rfl := Option.some.inj h
    refine endT_of ?_ ⟨rfl, rfl⟩
    exact (wn [0] [])
  · try simp only [↓DN, UP, r1, r2, r3, r4, r5, r6, r7, reduceCtorEq, Try.f78, hb_4]
    obtain rfl := Option.some.inj h
    refine endT_of ?_ ⟨rfl, rfl⟩
    exact (wn [0] [])
theorem c_impl_WidthOf {k_1 : Int} {r : Int} (h : g_impl_WidthOf k_1 = some r) : Ans Try.prog 139 [.one (.int .i64 k_1)] [] fun v h1 => v = .pv (.one (.int .i64 r)) ∧ h1 = [] := by
  refine ansK (P := fun _ => Try.prog) TryT_eq (fn := Try.f139) Try.func139 rfl ⟨by kernel_rfl, rfl, rfl, by kernel_rfl⟩ (by simp) (Weak.refl _ _) ?_
  rw [g_impl_WidthOf] at h
  try simp only [↓DN, UP, r1, r2, r3, r4, r5, r6, r7, reduceCtorEq, Try.f139]
  refine seqN TryT_eq rfl ?_
  obtain ⟨y_2, hy_2, h⟩ := bS h
  try simp only [↓DN, UP, r1, r2, r3, r4, r5, r6, r7, reduceCtorEq, Try.f139]
  refine cG [] (c_impl_within hy_2) (hK := fun rd b => ?_)
  try simp only [↓DN, UP, r1, r2, r3, r4, r5, r6, r7, reduceCtorEq, Try.f139]
  refine stIf h (fun hb_3 h => ?_) (fun hb_3 h => ?_)
  · try simp only [↓DN, UP, r1, r2, r3, r4, r5, r6, r7, reduceCtorEq, Try.f139]
    obtain rfl := Option.some.inj h
    refine endT_of ?_ ⟨rfl, rfl⟩
    exact (wn [0] [])
  · obtain ⟨y_4, hy_4, h⟩ := bS h
    try simp only [↓DN, UP, r1, r2, r3, r4, r5, r6, r7, reduceCtorEq, Try.f139]
    refine cG [] (c_impl_within hy_4) (hK := fun rd b => ?_)
    try simp only [↓DN, UP, r1, r2, r3, r4, r5, r6, r7, reduceCtorEq, Try.f139]
    refine stIf h (fun hb_5 h => ?_) (fun hb_5 h => ?_)
    · try simp only [↓DN, UP, r1, r2, r3, r4, r5, r6, r7, reduceCtorEq, Try.f139]
      obtain rfl := Option.some.inj h
      refine endT_of ?_ ⟨rfl, rfl⟩
      exact (wn [0] [])
    · obtain ⟨y_6, hy_6, h⟩ := bS h
      try simp only [↓DN, UP, r1, r2, r3, r4, r5, r6, r7, reduceCtorEq, Try.f139]
      refine cG [] (c_impl_within hy_6) (hK := fun rd b => ?_)
      try simp only [↓DN, UP, r1, r2, r3, r4, r5, r6, r7, reduceCtorEq, Try.f139]
      refine stIf h (fun hb_7 h => ?_) (fun hb_7 h => ?_)
      · try simp only [↓DN, UP, r1, r2, r3, r4, r5, r6, r7, reduceCtorEq, Try.f139]
        obtain rfl := Option.some.inj h
        refine endT_of ?_ ⟨rfl, rfl⟩
        exact (wn [0] [])
      · try simp only [↓DN, UP, r1, r2, r3, r4, r5, r6, r7, reduceCtorEq, Try.f139]
        obtain rfl := Option.some.inj h
        refine endT_of ?_ ⟨rfl, rfl⟩
        exact (wn [0] [])
theorem c_impl_BitsOf {k_1 : Int} {r : Int} (h : g_impl_BitsOf k_1 = some r) : Ans Try.prog 140 [.one (.int .i64 k_1)] [] fun v h1 => v = .pv (.one (.int .u32 r)) ∧ h1 = [] := by
  refine ansK (P := fun _ => Try.prog) TryT_eq (fn := Try.f140) Try.func140 rfl ⟨by kernel_rfl, rfl, rfl, by kernel_rfl⟩ (by simp) (Weak.refl _ _) ?_
  rw [g_impl_BitsOf] at h
  try simp only [↓DN, UP, r1, r2, r3, r4, r5, r6, r7, reduceCtorEq, Try.f140]
  refine seqN TryT_eq rfl ?_
  obtain ⟨y_2, hy_2, h⟩ := bS h
  try simp only [↓DN, UP, r1, r2, r3, r4, r5, r6, r7, reduceCtorEq, Try.f140]
  refine cG [] (c_impl_WidthOf hy_2) (hK := fun rd b => ?_)
  try simp only [↓DN, UP, r1, r2, r3, r4, r5, r6, r7, reduceCtorEq, Try.f140]
  refine stIf h (fun hb_3 h => ?_) (fun hb_3 h => ?_)
  · try simp only [↓DN, UP, r1, r2, r3, r4, r5, r6, r7, reduceCtorEq, Try.f140]
    obtain rfl := Option.some.inj h
    refine endT_of ?_ ⟨rfl, rfl⟩
    exact (wn [0] [])
  · try simp only [↓DN, UP, r1, r2, r3, r4, r5, r6, r7, reduceCtorEq, Try.f140]
    refine stIf h (fun hb_4 h => ?_) (fun hb_4 h => ?_)
    · try simp only [↓DN, UP, r1, r2, r3, r4, r5, r6, r7, reduceCtorEq, Try.f140]
      obtain rfl := Option.some.inj h
      refine endT_of ?_ ⟨rfl, rfl⟩
      exact (wn [0] [])
    · try simp only [↓DN, UP, r1, r2, r3, r4, r5, r6, r7, reduceCtorEq, Try.f140]
      refine stIf h (fun hb_5 h => ?_) (fun hb_5 h => ?_)
      · try simp only [↓DN, UP, r1, r2, r3, r4, r5, r6, r7, reduceCtorEq, Try.f140]
        obtain rfl := Option.some.inj h
        refine endT_of ?_ ⟨rfl, rfl⟩
        exact (wn [0] [])
      · try simp only [↓DN, UP, r1, r2, r3, r4, r5, r6, r7, reduceCtorEq, Try.f140]
        obtain rfl := Option.some.inj h
        refine endT_of ?_ ⟨rfl, rfl⟩
        exact (wn [0] [])
theorem c_impl_Decode {bits_1 : Int} {n_2 : Int} {r : Int × Int} (h : g_impl_Decode bits_1 n_2 = some r) : Ans Try.prog 127 [.one (.int .u32 bits_1), .one (.int .i64 n_2)] [] fun v h1 => v = .tup [.one (.int .i64 r.1), .one (.int .i64 r.2)] ∧ h1 = [] := by
  refine ansK (P := fun _ => Try.prog) TryT_eq (fn := Try.f127) Try.func127 rfl ⟨by kernel_rfl, rfl, rfl, by kernel_rfl⟩ (by simp) (Weak.refl _ _) ?_
  rw [g_impl_Decode] at h
  try simp only [↓DN, UP, r1, r2, r3, r4, r5, r6, r7, reduceCtorEq, Try.f127]
  refine seqN TryT_eq rfl ?_
  obtain ⟨y_3, hy_3, h⟩ := bS h
  try simp only [↓DN, UP, r1, r2, r3, r4, r5, r6, r7, reduceCtorEq, Try.f127]
  refine cG [] (c_impl_within hy_3) (hK := fun rd b => ?_)
  try simp only [↓DN, UP, r1, r2, r3, r4, r5, r6, r7, reduceCtorEq, Try.f127]
  refine stIf h (fun hb_4 h => ?_) (fun hb_4 h => ?_)
  · try simp only [↓DN, UP, r1, r2, r3, r4, r5, r6, r7, reduceCtorEq, Try.f127]
    obtain rfl := Option.some.inj h
    refine endT_of ?_ ⟨rfl, rfl⟩
    exact (wn [0] [])
  · try simp only [↓DN, UP, r1, r2, r3, r4, r5, r6, r7, reduceCtorEq, Try.f127]
    obtain ⟨y_7, hy_8, h⟩ := bS h
    refine seqK TryT_eq (fun p : Unit => ⟨[], []⟩) (fun v => y_7 = .inl v) (by rfl) ?_ ?_
    · try simp only [↓DN, UP, r1, r2, r3, r4, r5, r6, r7, reduceCtorEq, Try.f127]
      obtain ⟨y_12, hy_13, hy_8⟩ := bS hy_8
      refine loopK TryT_eq (fun p : Int => ⟨[(0, .pv (.one (.int .u32 bits_1))), (1, .pv (.one (.int .i64 n_2))), (11, .pv (.one (.int .i64 p)))], []⟩) (fun k p => g_impl_Decode_l0 bits_1 n_2 k p = some y_12) (by kernel_rfl) bigK 0 (wn [0, 1, 11] []) hy_13 (fun _ h => nomatch (show none = some _ from h)) ?_
      rintro k_14 v_9 hk_15
      rw [g_impl_Decode_l0] at hk_15
      try dsimp only at hk_15
      try simp only [↓DN, UP, r1, r2, r3, r4, r5, r6, r7, reduceCtorEq, Try.f127]
      refine seqN TryT_eq rfl ?_
      try simp only [↓DN, UP, r1, r2, r3, r4, r5, r6, r7, reduceCtorEq, Try.f127]
      refine stIf hk_15 (fun hb_16 hk_15 => ?_) (fun hb_16 hk_15 => ?_)
      · try simp only [↓DN, UP, r1, r2, r3, r4, r5, r6, r7, reduceCtorEq, Try.f127]
        refine seqN TryT_eq rfl ?_
        obtain ⟨y_17, hy_17, hk_15⟩ := bS hk_15
        try simp only [↓DN, UP, r1, r2, r3, r4, r5, r6, r7, reduceCtorEq, Try.f127]
        refine cG [] (c_impl_WidthOf hy_17) (hK := fun rd b => ?_)
        try simp only [↓DN, UP, r1, r2, r3, r4, r5, r6, r7, reduceCtorEq, Try.f127]
        obtain ⟨y_19, hy_20, hk_15⟩ := bS hk_15
        refine seqK TryT_eq (fun p : Bool => ⟨[(0, .pv (.one (.int .u32 bits_1))), (1, .pv (.one (.int .i64 n_2))), (6, .pv (.one (.int .i64 v_9))), (7, .pv (.one (.int .i64 y_17))), (11, .pv (.one (.int .i64 v_9))), (32, .pv (.one (.bool p)))], []⟩) (fun v => y_19 = v) (by rfl) ?_ ?_
        · try simp only [↓DN, UP, r1, r2, r3, r4, r5, r6, r7, reduceCtorEq, Try.f127]
          refine stIf hy_20 (fun hb_21 hy_20 => ?_) (fun hb_21 hy_20 => ?_)
          · obtain ⟨v_22, hv_22, hy_20⟩ := bS hy_20
            obtain ⟨v_23, hv_23, hy_20⟩ := bS hy_20
            obtain ⟨y_24, hy_24, hy_20⟩ := bS hy_20
            try simp only [↓DN, UP, r1, r2, r3, r4, r5, r6, r7, reduceCtorEq, Try.f127, hb_21, hv_22, hv_23]
            refine callE [] (rd1 := []) (rd2 := []) 9 rfl (by simp only [WL, r1, r2, r3, r4, r5, r6, r7, reduceCtorEq]) (by simp only [WL, r1, r2, r3, r4, r5, r6, r7, reduceCtorEq]) rfl (c_impl_BitsOf hy_24) (by simp only [WL, r1, r2, r3, r4, r5, r6, r7, reduceCtorEq]) ?_
            try simp only [↓DN, UP, r1, r2, r3, r4, r5, r6, r7, reduceCtorEq, Try.f127, hb_21, hv_22, hv_23]
            refine ⟨rfl, ?_⟩
            try simp only [↓DN, UP, r1, r2, r3, r4, r5, r6, r7, reduceCtorEq, Try.f127, hb_21, hv_22, hv_23]
            obtain rfl := Option.some.inj hy_20
            exact cutT_mk ((andI .u32 v_22 (IntKind.wrap .u32 (v_23 - 1))) == y_24) rfl (wn [0, 1, 6, 7, 11, 32] [])
          · try simp only [↓DN, UP, r1, r2, r3, r4, r5, r6, r7, reduceCtorEq, Try.f127, hb_21]
            refine ⟨rfl, ?_⟩
            try simp only [↓DN, UP, r1, r2, r3, r4, r5, r6, r7, reduceCtorEq, Try.f127, hb_21]
            obtain rfl := Option.some.inj hy_20
            exact cutT_mk false rfl (wn [0, 1, 6, 7, 11, 32] [])
        · rintro v_18 hp
          replace hp := hp.symm; subst hp
          try dsimp only at hk_15
          try simp only [↓DN, UP, r1, r2, r3, r4, r5, r6, r7, reduceCtorEq, Try.f127]
          refine stIf hk_15 (fun hb_25 hk_15 => ?_) (fun hb_25 hk_15 => ?_)
          · obtain rfl := Option.some.inj hk_15
            try dsimp only at hy_8
            obtain rfl := Option.some.inj hy_8
            try dsimp only at h
            try simp only [↓DN, UP, r1, r2, r3, r4, r5, r6, r7, reduceCtorEq, Try.f127]
            obtain rfl := Option.some.inj h
            refine endT_of ?_ ⟨rfl, rfl⟩
            exact (wn [0] [])
          · try simp only [↓DN, UP, r1, r2, r3, r4, r5, r6, r7, reduceCtorEq, Try.f127]
            exact ⟨IntKind.wrap .i64 (v_9 + 1), hk_15, (wn [0, 1, 11] [])⟩
      · obtain rfl := Option.some.inj hk_15
        try dsimp only at hy_8
        try simp only [↓DN, UP, r1, r2, r3, r4, r5, r6, r7, reduceCtorEq, Try.f127]
        obtain rfl := Option.some.inj hy_8
        exact cutT_mk () (by trivial) (wn [] [])
    · rintro _ hp
      replace hp := hp.symm; subst hp
      try dsimp only at h
      try simp only [↓DN, UP, r1, r2, r3, r4, r5, r6, r7, reduceCtorEq, Try.f127]
      obtain rfl := Option.some.inj h
      refine endT_of ?_ ⟨rfl, rfl⟩
      exact (wn [0] [])
theorem c_impl_letters {r : Bs} (h : g_impl_letters = some r) : Ans Try.prog 102 [] [] fun v h1 => v = .pv (.one (.str r)) ∧ h1 = [] := by
  refine ansK (P := fun _ => Try.prog) TryT_eq (fn := Try.f102) Try.func102 rfl ⟨by kernel_rfl, rfl, rfl, by kernel_rfl⟩ (by simp) (Weak.refl _ _) ?_
  rw [g_impl_letters] at h
  try simp only [↓DN, UP, r1, r2, r3, r4, r5, r6, r7, reduceCtorEq, Try.f102]
  obtain rfl := Option.some.inj h
  refine endT_of ?_ ⟨rfl, rfl⟩
  exact (wn [0] [])
theorem c_impl_LetterAt {k_1 : Int} {r : Int} (h : g_impl_LetterAt k_1 = some r) : Ans Try.prog 128 [.one (.int .i64 k_1)] [] fun v h1 => v = .pv (.one (.int .u8 r)) ∧ h1 = [] := by
  refine ansK (P := fun _ => Try.prog) TryT_eq (fn := Try.f128) Try.func128 rfl ⟨by kernel_rfl, rfl, rfl, by kernel_rfl⟩ (by simp) (Weak.refl _ _) ?_
  rw [g_impl_LetterAt] at h
  try simp only [↓DN, UP, r1, r2, r3, r4, r5, r6, r7, reduceCtorEq, Try.f128]
  refine seqN TryT_eq rfl ?_
  obtain ⟨y_2, hy_2, h⟩ := bS h
  try simp only [↓DN, UP, r1, r2, r3, r4, r5, r6, r7, reduceCtorEq, Try.f128]
  refine cG [] (c_impl_within hy_2) (hK := fun rd b => ?_)
  try simp only [↓DN, UP, r1, r2, r3, r4, r5, r6, r7, reduceCtorEq, Try.f128]
  refine stIf h (fun hb_3 h => ?_) (fun hb_3 h => ?_)
  · try simp only [↓DN, UP, r1, r2, r3, r4, r5, r6, r7, reduceCtorEq, Try.f128]
    obtain rfl := Option.some.inj h
    refine endT_of ?_ ⟨rfl, rfl⟩
    exact (wn [0] [])
  · obtain ⟨y_4, hy_4, h⟩ := bS h
    try simp only [↓DN, UP, r1, r2, r3, r4, r5, r6, r7, reduceCtorEq, Try.f128]
    refine cG [] (c_impl_letters hy_4) (hK := fun rd b => ?_)
    obtain ⟨v_5, hv_5, h⟩ := bS h
    try simp only [↓DN, UP, r1, r2, r3, r4, r5, r6, r7, reduceCtorEq, Try.f128, hv_5]
    obtain rfl := Option.some.inj h
    refine endT_of ?_ ⟨rfl, rfl⟩
    exact (wn [0] [])
theorem c_impl_UnpackOne {f_1 : Int} {r : Bs} (h : g_impl_UnpackOne f_1 = some r) : Ans Try.prog 113 [.one (.int .u32 f_1)] [] fun v h1 => v = .pv (.one (.str r)) ∧ h1 = [] := by
  refine ansK (P := fun _ => Try.prog) TryT_eq (fn := Try.f113) Try.func113 rfl ⟨by kernel_rfl, rfl, rfl, by kernel_rfl⟩ (by simp) (Weak.refl _ _) ?_
  rw [g_impl_UnpackOne] at h
  try simp only [↓DN, UP, r1, r2, r3, r4, r5, r6, r7, reduceCtorEq, Try.f113]
  refine seqN TryT_eq rfl ?_
  try simp only [↓DN, UP, r1, r2, r3, r4, r5, r6, r7, reduceCtorEq, Try.f113]
  refine stIf h (fun hb_2 h => ?_) (fun hb_2 h => ?_)
  · try simp only [↓DN, UP, r1, r2, r3, r4, r5, r6, r7, reduceCtorEq, Try.f113]
    obtain rfl := Option.some.inj h
    refine endT_of ?_ ⟨rfl, rfl⟩
    exact (wn [0] [])
  · have f1 := (show bldN 0 = 0 from rfl)
    have f2 := (show bldC [] = ([] : List Int).flatMap (eI .u8) from rfl)
    try simp only [↓DN, UP, r1, r2, r3, r4, r5, r6, r7, reduceCtorEq, Try.f113, f1, f2]
    obtain ⟨y_6, hy_7, h⟩ := bS h
    refine seqK TryT_eq (fun p : (List Int) => ⟨[(3, .pv (.one (.arr 0 0 p.length)))], [.live ⟨1, p.length, p.flatMap (eI .u8)⟩]⟩) (fun v => y_6 = v) (by rfl) ?_ ?_
    · try simp only [↓DN, UP, r1, r2, r3, r4, r5, r6, r7, reduceCtorEq, Try.f113, f1, f2]
      refine loopK TryT_eq (fun p : (List Int) × Int => ⟨[(0, .pv (.one (.int .u32 f_1))), (3, .pv (.one (.arr 0 0 p.1.length))), (4, .pv (.one (.int .i64 p.2)))], [.live ⟨1, p.1.length, p.1.flatMap (eI .u8)⟩]⟩) (fun k p => g_impl_UnpackOne_l0 f_1 k p.1 p.2 = some y_6) (by kernel_rfl) bigK (([] : List Int), 28) (weak_norm (ks := [0, 3, 4]) (π := [0]) (fuel := 9) (by simp only [WL, r1, r2, r3, r4, r5, r6, r7, reduceCtorEq, fWin (eI_ok .u8) (n := 0) (xs := ([] : List Int)) (by simp)])) hy_7 (fun _ h => nomatch (show none = some _ from h)) ?_
      rintro k_8 ⟨out_3, left_4⟩ hk_9
      rw [g_impl_UnpackOne_l0] at hk_9
      try dsimp only at hk_9
      try simp only [↓DN, UP, r1, r2, r3, r4, r5, r6, r7, reduceCtorEq, Try.f113]
      refine seqN TryT_eq rfl ?_
      obtain ⟨v_10, hv_10, hk_9⟩ := bS hk_9
      try simp only [↓DN, UP, r1, r2, r3, r4, r5, r6, r7, reduceCtorEq, Try.f113, hv_10]
      refine stIf hk_9 (fun hb_11 hk_9 => ?_) (fun hb_11 hk_9 => ?_)
      · obtain ⟨y_12, hy_12, hk_9⟩ := bS hk_9
        try simp only [↓DN, UP, r1, r2, r3, r4, r5, r6, r7, reduceCtorEq, Try.f113, hv_10]
        refine cG [] (c_impl_Decode hy_12) (hK := fun rd b => ?_)
        try simp only [↓DN, UP, r1, r2, r3, r4, r5, r6, r7, reduceCtorEq, Try.f113, hv_10]
        refine seqN TryT_eq rfl ?_
        try simp only [↓DN, UP, r1, r2, r3, r4, r5, r6, r7, reduceCtorEq, Try.f113, hv_10]
        refine stIf hk_9 (fun hb_13 hk_9 => ?_) (fun hb_13 hk_9 => ?_)
        · try simp only [↓DN, UP, r1, r2, r3, r4, r5, r6, r7, reduceCtorEq, Try.f113, hv_10]
          obtain rfl := Option.some.inj hk_9
          exact cutT_mk out_3 rfl (wn [3] [0])
        · obtain ⟨y_14, hy_14, hk_9⟩ := bS hk_9
          try simp only [↓DN, UP, r1, r2, r3, r4, r5, r6, r7, reduceCtorEq, Try.f113, hv_10]
          refine cG [] (c_impl_LetterAt hy_14) (hK := fun rd b => ?_)
          obtain ⟨v_15, hv_15, hk_9⟩ := bS hk_9
          have f3 := (show bldN 1 = 1 from rfl)
          have f4 := (show bldC [.int .u8 y_14] = [y_14].flatMap (eI .u8) from rfl)
          have f5 := (fWin (eI_ok .u8) (n := 1) (xs := [y_14]) (by simp))
          have f6 := (fApp hv_15 (n := out_3.length) (by simp) (m := 1) (by simp [bsOf]))
          have f7 := (fWin (eI_ok .u8) (n := out_3.length) (xs := out_3) (by simp))
          have f8 := (fCat (e := (eI .u8)) (ns := [y_14].flatMap (eI .u8)) hv_15 rfl)
          try simp only [↓DN, UP, r1, r2, r3, r4, r5, r6, r7, reduceCtorEq, Try.f113, hv_10, f3, f4, f5, f6, f7, f8]
          exact ⟨(v_15, IntKind.wrap .i64 (left_4 - y_12.2)), hk_9, (wn [0, 3, 4] [2])⟩
      · try simp only [↓DN, UP, r1, r2, r3, r4, r5, r6, r7, reduceCtorEq, Try.f113, hv_10]
        obtain rfl := Option.some.inj hk_9
        exact cutT_mk out_3 rfl (wn [3] [0])
    · rintro out_5 hp
      replace hp := hp.symm; subst hp
      try dsimp only at h
      have f9 := (fWin (eI_ok .u8) (n := out_5.length) (xs := out_5) (by simp))
      try simp only [↓DN, UP, r1, r2, r3, r4, r5, r6, r7, reduceCtorEq, Try.f113, f9]
      obtain rfl := Option.some.inj h
      refine endT_of ?_ ⟨rfl, rfl⟩
      exact (wn [0] [])
theorem c_ibytealg_IndexByteString {a_1 : Bs} {a_2 : Int} {r : Int} (h : g_ibytealg_IndexByteString a_1 a_2 = some r) : Ans Try.prog 141 [.one (.str a_1), .one (.int .u8 a_2)] [] fun v h1 => v = .pv (.one (.int .i64 r)) ∧ h1 = [] := by
  exact ext_indexByte (fn := Try.f141) Try.func141 (by kernel_rfl) (by kernel_rfl) (by kernel_rfl) (by kernel_rfl) h
theorem c_istringslite_IndexByte {s_1 : Bs} {c_2 : Int} {r : Int} (h : g_istringslite_IndexByte s_1 c_2 = some r) : Ans Try.prog 121 [.one (.str s_1), .one (.int .u8 c_2)] [] fun v h1 => v = .pv (.one (.int .i64 r)) ∧ h1 = [] := by
  refine ansK (P := fun _ => Try.prog) TryT_eq (fn := Try.f121) Try.func121 rfl ⟨by kernel_rfl, rfl, rfl, by kernel_rfl⟩ (by simp) (Weak.refl _ _) ?_
  rw [g_istringslite_IndexByte] at h
  obtain ⟨y_3, hy_3, h⟩ := bS h
  try simp only [↓DN, UP, r1, r2, r3, r4, r5, r6, r7, reduceCtorEq, Try.f121]
  refine cG [] (c_ibytealg_IndexByteString hy_3) (hK := fun rd b => ?_)
  try simp only [↓DN, UP, r1, r2, r3, r4, r5, r6, r7, reduceCtorEq, Try.f121]
  obtain rfl := Option.some.inj h
  refine endT_of ?_ ⟨rfl, rfl⟩
  exact (wn [0] [])
theorem c_strings_IndexByte {s_1 : Bs} {c_2 : Int} {r : Int} (h : g_strings_IndexByte s_1 c_2 = some r) : Ans Try.prog 101 [.one (.str s_1), .one (.int .u8 c_2)] [] fun v h1 => v = .pv (.one (.int .i64 r)) ∧ h1 = [] := by
  refine ansK (P := fun _ => Try.prog) TryT_eq (fn := Try.f101) Try.func101 rfl ⟨by kernel_rfl, rfl, rfl, by kernel_rfl⟩ (by simp) (Weak.refl _ _) ?_
  rw [g_strings_IndexByte] at h
  obtain ⟨y_3, hy_3, h⟩ := bS h
  try simp only [↓DN, UP, r1, r2, r3, r4, r5, r6, r7, reduceCtorEq, Try.f101]
  refine cG [] (c_istringslite_IndexByte hy_3) (hK := fun rd b => ?_)
  try simp only [↓DN, UP, r1, r2, r3, r4, r5, r6, r7, reduceCtorEq, Try.f101]
  obtain rfl := Option.some.inj h
  refine endT_of ?_ ⟨rfl, rfl⟩
  exact (wn [0] [])
theorem c_impl_LetterOf {b_1 : Int} {r : Int} (h : g_impl_LetterOf b_1 = some r) : Ans Try.prog 77 [.one (.int .u8 b_1)] [] fun v h1 => v = .pv (.one (.int .i64 r)) ∧ h1 = [] := by
  refine ansK (P := fun _ => Try.prog) TryT_eq (fn := Try.f77) Try.func77 rfl ⟨by kernel_rfl, rfl, rfl, by kernel_rfl⟩ (by simp) (Weak.refl _ _) ?_
  rw [g_impl_LetterOf] at h
  obtain ⟨y_2, hy_2, h⟩ := bS h
  try simp only [↓DN, UP, r1, r2, r3, r4, r5, r6, r7, reduceCtorEq, Try.f77]
  refine cG [] (c_impl_letters hy_2) (hK := fun rd b => ?_)
  obtain ⟨y_3, hy_3, h⟩ := bS h
  try simp only [↓DN, UP, r1, r2, r3, r4, r5, r6, r7, reduceCtorEq, Try.f77]
  refine cG [] (c_strings_IndexByte hy_3) (hK := fun rd b => ?_)
  try simp only [↓DN, UP, r1, r2, r3, r4, r5, r6, r7, reduceCtorEq, Try.f77]
  obtain rfl := Option.some.inj h
  refine endT_of ?_ ⟨rfl, rfl⟩
  exact (wn [0] [])
theorem c_impl_NameOk {s_1 : Bs} {r : Bool} (h : g_impl_NameOk s_1 = some r) : Ans Try.prog 52 [.one (.str s_1)] [] fun v h1 => v = .pv (.one (.bool r)) ∧ h1 = [] := by
  refine ansK (P := fun _ => Try.prog) TryT_eq (fn := Try.f52) Try.func52 rfl ⟨by kernel_rfl, rfl, rfl, by kernel_rfl⟩ (by simp) (Weak.refl _ _) ?_
  rw [g_impl_NameOk] at h
  try simp only [↓DN, UP, r1, r2, r3, r4, r5, r6, r7, reduceCtorEq, Try.f52]
  obtain ⟨y_2, hy_3, h⟩ := bS h
  refine seqK TryT_eq (fun p : Unit => ⟨[(0, .pv (.one (.str s_1)))], []⟩) (fun v => y_2 = .inl v) (by rfl) ?_ ?_
  · try simp only [↓DN, UP, r1, r2, r3, r4, r5, r6, r7, reduceCtorEq, Try.f52]
    obtain ⟨y_5, hy_6, hy_3⟩ := bS hy_3
    refine loopK TryT_eq (fun p : Int => ⟨[(0, .pv (.one (.str s_1))), (5, .pv (.one (.int .i64 (s_1.length : Int)))), (6, .pv (.one (.int .i64 p)))], []⟩) (fun k p => g_impl_NameOk_l0 s_1 k p = some y_5) (by kernel_rfl) bigK 0 (wn [0, 5, 6] []) hy_6 (fun _ h => nomatch (show none = some _ from h)) ?_
    rintro k_7 v_4 hk_8
    rw [g_impl_NameOk_l0] at hk_8
    try dsimp only at hk_8
    try simp only [↓DN, UP, r1, r2, r3, r4, r5, r6, r7, reduceCtorEq, Try.f52]
    refine seqN TryT_eq rfl ?_
    try simp only [↓DN, UP, r1, r2, r3, r4, r5, r6, r7, reduceCtorEq, Try.f52]
    refine stIf hk_8 (fun hb_9 hk_8 => ?_) (fun hb_9 hk_8 => ?_)
    · try simp only [↓DN, UP, r1, r2, r3, r4, r5, r6, r7, reduceCtorEq, Try.f52]
      refine seqN TryT_eq rfl ?_
      obtain ⟨v_10, hv_10, hk_8⟩ := bS hk_8
      obtain ⟨y_11, hy_11, hk_8⟩ := bS hk_8
      try simp only [↓DN, UP, r1, r2, r3, r4, r5, r6, r7, reduceCtorEq, Try.f52, hv_10]
      refine cG [] (c_impl_LetterOf hy_11) (hK := fun rd b => ?_)
      try simp only [↓DN, UP, r1, r2, r3, r4, r5, r6, r7, reduceCtorEq, Try.f52, hv_10]
      refine stIf hk_8 (fun hb_12 hk_8 => ?_) (fun hb_12 hk_8 => ?_)
      · obtain rfl := Option.some.inj hk_8
        try dsimp only at hy_3
        obtain rfl := Option.some.inj hy_3
        try dsimp only at h
        try simp only [↓DN, UP, r1, r2, r3, r4, r5, r6, r7, reduceCtorEq, Try.f52, hv_10]
        obtain rfl := Option.some.inj h
        refine endT_of ?_ ⟨rfl, rfl⟩
        exact (wn [0] [])
      · try simp only [↓DN, UP, r1, r2, r3, r4, r5, r6, r7, reduceCtorEq, Try.f52, hv_10]
        exact ⟨IntKind.wrap .i64 (v_4 + 1), hk_8, (wn [0, 5, 6] [])⟩
    · obtain rfl := Option.some.inj hk_8
      try dsimp only at hy_3
      try simp only [↓DN, UP, r1, r2, r3, r4, r5, r6, r7, reduceCtorEq, Try.f52]
      obtain rfl := Option.some.inj hy_3
      exact cutT_mk () (by trivial) (wn [0] [])
  · rintro _ hp
    replace hp := hp.symm; subst hp
    try dsimp only at h
    obtain ⟨y_13, hy_13, h⟩ := bS h
    try simp only [↓DN, UP, r1, r2, r3, r4, r5, r6, r7, reduceCtorEq, Try.f52]
    refine cG [] (c_impl_within hy_13) (hK := fun rd b => ?_)
    try simp only [↓DN, UP, r1, r2, r3, r4, r5, r6, r7, reduceCtorEq, Try.f52]
    obtain rfl := Option.some.inj h
    refine endT_of ?_ ⟨rfl, rfl⟩
    exact (wn [0] [])
theorem c_impl_PackOne {s_1 : Bs} {r : Int × Int} (h : g_impl_PackOne s_1 = some r) : Ans Try.prog 120 [.one (.str s_1)] [] fun v h1 => v = .tup [.one (.int .u32 r.1), .one (.int .i64 r.2)] ∧ h1 = [] := by
  refine ansK (P := fun _ => Try.prog) TryT_eq (fn := Try.f120) Try.func120 rfl ⟨by kernel_rfl, rfl, rfl, by kernel_rfl⟩ (by simp) (Weak.refl _ _) ?_
  rw [g_impl_PackOne] at h
  try simp only [↓DN, UP, r1, r2, r3, r4, r5, r6, r7, reduceCtorEq, Try.f120]
  refine seqN TryT_eq rfl ?_
  obtain ⟨y_2, hy_2, h⟩ := bS h
  try simp only [↓DN, UP, r1, r2, r3, r4, r5, r6, r7, reduceCtorEq, Try.f120]
  refine cG [] (c_impl_NameOk hy_2) (hK := fun rd b => ?_)
  try simp only [↓DN, UP, r1, r2, r3, r4, r5, r6, r7, reduceCtorEq, Try.f120]
  refine stIf h (fun hb_3 h => ?_) (fun hb_3 h => ?_)
  · try simp only [↓DN, UP, r1, r2, r3, r4, r5, r6, r7, reduceCtorEq, Try.f120]
    obtain rfl := Option.some.inj h
    refine endT_of ?_ ⟨rfl, rfl⟩
    exact (wn [0] [])
  · try simp only [↓DN, UP, r1, r2, r3, r4, r5, r6, r7, reduceCtorEq, Try.f120]
    obtain ⟨y_6, hy_7, h⟩ := bS h
    refine seqK TryT_eq (fun p : Int × Int => ⟨[(4, .pv (.one (.int .u32 p.1))), (6, .pv (.one (.int .i64 p.2)))], []⟩) (fun v => y_6 = v) (by rfl) ?_ ?_
    · try simp only [↓DN, UP, r1, r2, r3, r4, r5, r6, r7, reduceCtorEq, Try.f120]
      obtain ⟨y_14, hy_15, hy_7⟩ := bS hy_7
      refine loopK TryT_eq (fun p : Int × Int × Int × Int => ⟨[(0, .pv (.one (.str s_1))), (4, .pv (.one (.int .u32 p.1))), (5, .pv (.one (.int .i64 p.2.1))), (6, .pv (.one (.int .i64 p.2.2.1))), (13, .pv (.one (.int .i64 (s_1.length : Int)))), (14, .pv (.one (.int .i64 p.2.2.2)))], []⟩) (fun k p => g_impl_PackOne_l0 s_1 k p.1 p.2.1 p.2.2.1 p.2.2.2 = some y_14) (by kernel_rfl) bigK (0, 28, 0, 0) (wn [0, 4, 5, 6, 13, 14] []) hy_15 (fun _ h => nomatch (show none = some _ from h)) ?_
      rintro k_16 ⟨field_8, left_9, many_10, v_11⟩ hk_17
      rw [g_impl_PackOne_l0] at hk_17
      try dsimp only at hk_17
      try simp only [↓DN, UP, r1, r2, r3, r4, r5, r6, r7, reduceCtorEq, Try.f120]
      refine seqN TryT_eq rfl ?_
      try simp only [↓DN, UP, r1, r2, r3, r4, r5, r6, r7, reduceCtorEq, Try.f120]
      refine stIf hk_17 (fun hb_18 hk_17 => ?_) (fun hb_18 hk_17 => ?_)
      · try simp only [↓DN, UP, r1, r2, r3, r4, r5, r6, r7, reduceCtorEq, Try.f120]
        refine seqN TryT_eq rfl ?_
        obtain ⟨v_19, hv_19, hk_17⟩ := bS hk_17
        obtain ⟨y_20, hy_20, hk_17⟩ := bS hk_17
        try simp only [↓DN, UP, r1, r2, r3, r4, r5, r6, r7, reduceCtorEq, Try.f120, hv_19]
        refine cG [] (c_impl_LetterOf hy_20) (hK := fun rd b => ?_)
        try simp only [↓DN, UP, r1, r2, r3, r4, r5, r6, r7, reduceCtorEq, Try.f120, hv_19]
        refine seqN TryT_eq rfl ?_
        obtain ⟨y_21, hy_21, hk_17⟩ := bS hk_17
        try simp only [↓DN, UP, r1, r2, r3, r4, r5, r6, r7, reduceCtorEq, Try.f120, hv_19]
        refine cG [] (c_impl_WidthOf hy_21) (hK := fun rd b => ?_)
        try simp only [↓DN, UP, r1, r2, r3, r4, r5, r6, r7, reduceCtorEq, Try.f120, hv_19]
        refine stIf hk_17 (fun hb_22 hk_17 => ?_) (fun hb_22 hk_17 => ?_)
        · obtain rfl := Option.some.inj hk_17
          try dsimp only at hy_7
          try simp only [↓DN, UP, r1, r2, r3, r4, r5, r6, r7, reduceCtorEq, Try.f120, hv_19]
          obtain rfl := Option.some.inj hy_7
          exact cutT_mk (field_8, many_10) rfl (wn [4, 6] [])
        · obtain ⟨y_23, hy_23, hk_17⟩ := bS hk_17
          try simp only [↓DN, UP, r1, r2, r3, r4, r5, r6, r7, reduceCtorEq, Try.f120, hv_19]
          refine cG [] (c_impl_WidthOf hy_23) (hK := fun rd b => ?_)
          obtain ⟨y_24, hy_24, hk_17⟩ := bS hk_17
          try simp only [↓DN, UP, r1, r2, r3, r4, r5, r6, r7, reduceCtorEq, Try.f120, hv_19]
          refine cG [] (c_impl_BitsOf hy_24) (hK := fun rd b => ?_)
          obtain ⟨v_25, hv_25, hk_17⟩ := bS hk_17
          try simp only [↓DN, UP, r1, r2, r3, r4, r5, r6, r7, reduceCtorEq, Try.f120, hv_19, hv_25]
          exact ⟨(orI .u32 field_8 v_25, IntKind.wrap .i64 (left_9 - y_23), IntKind.wrap .i64 (many_10 + 1), IntKind.wrap .i64 (v_11 + 1)), hk_17, (wn [0, 4, 5, 6, 13, 14] [])⟩
      · obtain rfl := Option.some.inj hk_17
        try dsimp only at hy_7
        try simp only [↓DN, UP, r1, r2, r3, r4, r5, r6, r7, reduceCtorEq, Try.f120]
        obtain rfl := Option.some.inj hy_7
        exact cutT_mk (field_8, many_10) rfl (wn [4, 6] [])
    · rintro ⟨field_4, many_5⟩ hp
      replace hp := hp.symm; subst hp
      try dsimp only at h
      try simp only [↓DN, UP, r1, r2, r3, r4, r5, r6, r7, reduceCtorEq, Try.f120]
      obtain rfl := Option.some.inj h
      refine endT_of ?_ ⟨rfl, rfl⟩
      exact (wn [0] [])
theorem c_impl_Pack {s_1 : Bs} {r : (List Int)} (h : g_impl_Pack s_1 = some r) : Ans Try.prog 97 [.one (.str s_1)] [] fun v h1 => v = .pv (.one (.arr 0 0 r.length)) ∧ h1 = [.live ⟨1, r.length, r.flatMap (eI .u32)⟩] := by
  refine ansK (P := fun _ => Try.prog) TryT_eq (fn := Try.f97) Try.func97 rfl ⟨by kernel_rfl, rfl, rfl, by kernel_rfl⟩ (by simp) (Weak.refl _ _) ?_
  rw [g_impl_Pack] at h
  have f1 := (show bldN 0 = 0 from rfl)
  have f2 := (show bldC [] = ([] : List Int).flatMap (eI .u32) from rfl)
  try simp only [↓DN, UP, r1, r2, r3, r4, r5, r6, r7, reduceCtorEq, Try.f97, f1, f2]
  obtain ⟨y_5, hy_6, h⟩ := bS h
  refine seqK TryT_eq (fun p : (List Int) => ⟨[(3, .pv (.one (.arr 0 0 p.length)))], [.live ⟨1, p.length, p.flatMap (eI .u32)⟩]⟩) (fun v => y_5 = v) (by rfl) ?_ ?_
  · try simp only [↓DN, UP, r1, r2, r3, r4, r5, r6, r7, reduceCtorEq, Try.f97, f1, f2]
    refine loopK TryT_eq (fun p : Bs × (List Int) => ⟨[(0, .pv (.one (.str p.1))), (3, .pv (.one (.arr 0 0 p.2.length)))], [.live ⟨1, p.2.length, p.2.flatMap (eI .u32)⟩]⟩) (fun k p => g_impl_Pack_l0 k p.1 p.2 = some y_5) (by kernel_rfl) bigK (s_1, ([] : List Int)) (weak_norm (ks := [0, 3]) (π := [0]) (fuel := 9) (by simp only [WL, r1, r2, r3, r4, r5, r6, r7, reduceCtorEq, fWin (eI_ok .u32) (n := 0) (xs := ([] : List Int)) (by simp)])) hy_6 (fun _ h => nomatch (show none = some _ from h)) ?_
    rintro k_7 ⟨s_2, out_3⟩ hk_8
    rw [g_impl_Pack_l0] at hk_8
    try dsimp only at hk_8
    try simp only [↓DN, UP, r1, r2, r3, r4, r5, r6, r7, reduceCtorEq, Try.f97]
    refine seqN TryT_eq rfl ?_
    obtain ⟨y_9, hy_9, hk_8⟩ := bS hk_8
    try simp only [↓DN, UP, r1, r2, r3, r4, r5, r6, r7, reduceCtorEq, Try.f97]
    refine cG [] (c_impl_NameOk hy_9) (hK := fun rd b => ?_)
    try simp only [↓DN, UP, r1, r2, r3, r4, r5, r6, r7, reduceCtorEq, Try.f97]
    refine stIf hk_8 (fun hb_10 hk_8 => ?_) (fun hb_10 hk_8 => ?_)
    · obtain ⟨y_11, hy_11, hk_8⟩ := bS hk_8
      try simp only [↓DN, UP, r1, r2, r3, r4, r5, r6, r7, reduceCtorEq, Try.f97]
      refine cG [] (c_impl_PackOne hy_11) (hK := fun rd b => ?_)
      obtain ⟨v_12, hv_12, hk_8⟩ := bS hk_8
      obtain ⟨v_13, hv_13, hk_8⟩ := bS hk_8
      have f3 := (show bldN 1 = 1 from rfl)
      have f4 := (show bldC [.int .u32 y_11.1] = [y_11.1].flatMap (eI .u32) from rfl)
      have f5 := (fWin (eI_ok .u32) (n := 1) (xs := [y_11.1]) (by simp))
      have f6 := (fApp hv_12 (n := out_3.length) (by simp) (m := 1) (by simp [bsOf]))
      have f7 := (fWin (eI_ok .u32) (n := out_3.length) (xs := out_3) (by simp))
      have f8 := (fCat (e := (eI .u32)) (ns := [y_11.1].flatMap (eI .u32)) hv_12 rfl)
      try simp only [↓DN, UP, r1, r2, r3, r4, r5, r6, r7, reduceCtorEq, Try.f97, f3, f4, f5, f6, f7, f8, hv_13]
      exact ⟨(v_13, v_12), hk_8, (wn [0, 3] [2])⟩
    · try simp only [↓DN, UP, r1, r2, r3, r4, r5, r6, r7, reduceCtorEq, Try.f97]
      obtain rfl := Option.some.inj hk_8
      exact cutT_mk out_3 rfl (wn [3] [0])
  · rintro out_4 hp
    replace hp := hp.symm; subst hp
    try dsimp only at h
    try simp only [↓DN, UP, r1, r2, r3, r4, r5, r6, r7, reduceCtorEq, Try.f97]
    obtain rfl := Option.some.inj h
    refine endT_of ?_ ⟨rfl, rfl⟩
    exact (wn [0] [0])
theorem c_slices_Equal_uint32 {s1_1 : List Int} {s2_2 : List Int} {r : Bool} (h : g_slices_Equal_uint32 s1_1 s2_2 = some r) : Ans Try.prog 111 [.one (.imm 1 s1_1.length (s1_1.flatMap (eI .u32))), .one (.imm 1 s2_2.length (s2_2.flatMap (eI .u32)))] [] fun v h1 => v = .pv (.one (.bool r)) ∧ h1 = [] := by
  refine ansK (P := fun _ => Try.prog) TryT_eq (fn := Try.f111) Try.func111 rfl ⟨by kernel_rfl, rfl, rfl, by kernel_rfl⟩ (by simp) (Weak.refl _ _) ?_
  rw [g_slices_Equal_uint32] at h
  try simp only [↓DN, UP, r1, r2, r3, r4, r5, r6, r7, reduceCtorEq, Try.f111]
  refine seqN TryT_eq rfl ?_
  try simp only [↓DN, UP, r1, r2, r3, r4, r5, r6, r7, reduceCtorEq, Try.f111]
  refine stIf h (fun hb_3 h => ?_) (fun hb_3 h => ?_)
  · try simp only [↓DN, UP, r1, r2, r3, r4, r5, r6, r7, reduceCtorEq, Try.f111]
    obtain rfl := Option.some.inj h
    refine endT_of ?_ ⟨rfl, rfl⟩
    exact (wn [0] [])
  · try simp only [↓DN, UP, r1, r2, r3, r4, r5, r6, r7, reduceCtorEq, Try.f111]
    obtain ⟨y_4, hy_5, h⟩ := bS h
    refine seqK TryT_eq (fun p : Unit => ⟨[], []⟩) (fun v => y_4 = .inl v) (by rfl) ?_ ?_
    · try simp only [↓DN, UP, r1, r2, r3, r4, r5, r6, r7, reduceCtorEq, Try.f111]
      obtain ⟨y_7, hy_8, hy_5⟩ := bS hy_5
      refine loopK TryT_eq (fun p : Int => ⟨[(0, .pv (.one (.imm 1 s1_1.length (s1_1.flatMap (eI .u32))))), (1, .pv (.one (.imm 1 s2_2.length (s2_2.flatMap (eI .u32))))), (12, .pv (.one (.int .i64 (s1_1.length : Int)))), (13, .pv (.one (.int .i64 p)))], []⟩) (fun k p => g_slices_Equal_uint32_l0 s1_1 s2_2 k p = some y_7) (by kernel_rfl) bigK 0 (wn [0, 1, 12, 13] []) hy_8 (fun _ h => nomatch (show none = some _ from h)) ?_
      rintro k_9 v_6 hk_10
      rw [g_slices_Equal_uint32_l0] at hk_10
      try dsimp only at hk_10
      try simp only [↓DN, UP, r1, r2, r3, r4, r5, r6, r7, reduceCtorEq, Try.f111]
      refine seqN TryT_eq rfl ?_
      try simp only [↓DN, UP, r1, r2, r3, r4, r5, r6, r7, reduceCtorEq, Try.f111]
      refine stIf hk_10 (fun hb_11 hk_10 => ?_) (fun hb_11 hk_10 => ?_)
      · try simp only [↓DN, UP, r1, r2, r3, r4, r5, r6, r7, reduceCtorEq, Try.f111]
        refine seqN TryT_eq rfl ?_
        obtain ⟨v_12, hv_12, hk_10⟩ := bS hk_10
        obtain ⟨v_13, hv_13, hk_10⟩ := bS hk_10
        have f1 := (fAt (eI_ok .u32) hv_12 (n := s1_1.length) (by simp))
        have f2 := (fAt (eI_ok .u32) hv_13 (n := s2_2.length) (by simp))
        try simp only [↓DN, UP, r1, r2, r3, r4, r5, r6, r7, reduceCtorEq, Try.f111, f1, f2]
        refine ⟨rfl, ?_⟩
        try simp only [↓DN, UP, r1, r2, r3, r4, r5, r6, r7, reduceCtorEq, Try.f111, f1, f2]
        refine stIf hk_10 (fun hb_14 hk_10 => ?_) (fun hb_14 hk_10 => ?_)
        · obtain rfl := Option.some.inj hk_10
          try dsimp only at hy_5
          obtain rfl := Option.some.inj hy_5
          try dsimp only at h
          try simp only [↓DN, UP, r1, r2, r3, r4, r5, r6, r7, reduceCtorEq, Try.f111, f1, f2]
          obtain rfl := Option.some.inj h
          refine endT_of ?_ ⟨rfl, rfl⟩
          exact (wn [0] [])
        · try simp only [↓DN, UP, r1, r2, r3, r4, r5, r6, r7, reduceCtorEq, Try.f111, f1, f2]
          exact ⟨IntKind.wrap .i64 (v_6 + 1), hk_10, (wn [0, 1, 12, 13] [])⟩
      · obtain rfl := Option.some.inj hk_10
        try dsimp only at hy_5
        try simp only [↓DN, UP, r1, r2, r3, r4, r5, r6, r7, reduceCtorEq, Try.f111]
        obtain rfl := Option.some.inj hy_5
        exact cutT_mk () (by trivial) (wn [] [])
    · rintro _ hp
      replace hp := hp.symm; subst hp
      try dsimp only at h
      try simp only [↓DN, UP, r1, r2, r3, r4, r5, r6, r7, reduceCtorEq, Try.f111]
      obtain rfl := Option.some.inj h
      refine endT_of ?_ ⟨rfl, rfl⟩
      exact (wn [0] [])
theorem c_impl_Unpack {list_1 : List Int} {r : Bs × Bool} (h : g_impl_Unpack list_1 = some r) : Ans Try.prog 109 [.one (.imm 1 list_1.length (list_1.flatMap (eI .u32)))] [] fun v h1 => v = .tup [.one (.str r.1), .one (.bool r.2)] ∧ h1 = [] := by
  refine ansK (P := fun _ => Try.prog) TryT_eq (fn := Try.f109) Try.func109 rfl ⟨by kernel_rfl, rfl, rfl, by kernel_rfl⟩ (by simp) (Weak.refl _ _) ?_
  rw [g_impl_Unpack] at h
  try simp only [↓DN, UP, r1, r2, r3, r4, r5, r6, r7, reduceCtorEq, Try.f109]
  refine seqN TryT_eq rfl ?_
  try simp only [↓DN, UP, r1, r2, r3, r4, r5, r6, r7, reduceCtorEq, Try.f109]
  refine stIf h (fun hb_2 h => ?_) (fun hb_2 h => ?_)
  · try simp only [↓DN, UP, r1, r2, r3, r4, r5, r6, r7, reduceCtorEq, Try.f109]
    obtain rfl := Option.some.inj h
    refine endT_of ?_ ⟨rfl, rfl⟩
    exact (wn [0] [])
  · try simp only [↓DN, UP, r1, r2, r3, r4, r5, r6, r7, reduceCtorEq, Try.f109]
    obtain ⟨y_4, hy_5, h⟩ := bS h
    refine seqK TryT_eq (fun p : Bs => ⟨[(0, .pv (.one (.imm 1 list_1.length (list_1.flatMap (eI .u32))))), (4, .pv (.one (.str p)))], []⟩) (fun v => y_4 = v) (by rfl) ?_ ?_
    · try simp only [↓DN, UP, r1, r2, r3, r4, r5, r6, r7, reduceCtorEq, Try.f109]
      obtain ⟨y_9, hy_10, hy_5⟩ := bS hy_5
      refine loopK TryT_eq (fun p : Bs × Int => ⟨[(0, .pv (.one (.imm 1 list_1.length (list_1.flatMap (eI .u32))))), (4, .pv (.one (.str p.1))), (10, .pv (.one (.imm 1 list_1.length (list_1.flatMap (eI .u32))))), (11, .pv (.one (.int .i64 (list_1.length : Int)))), (12, .pv (.one (.int .i64 p.2)))], []⟩) (fun k p => g_impl_Unpack_l0 list_1 k p.1 p.2 = some y_9) (by kernel_rfl) bigK ([], 0) (wn [0, 4, 10, 11, 12] []) hy_10 (fun _ h => nomatch (show none = some _ from h)) ?_
      rintro k_11 ⟨name_6, v_7⟩ hk_12
      rw [g_impl_Unpack_l0] at hk_12
      try dsimp only at hk_12
      try simp only [↓DN, UP, r1, r2, r3, r4, r5, r6, r7, reduceCtorEq, Try.f109]
      refine seqN TryT_eq rfl ?_
      try simp only [↓DN, UP, r1, r2, r3, r4, r5, r6, r7, reduceCtorEq, Try.f109]
      refine stIf hk_12 (fun hb_13 hk_12 => ?_) (fun hb_13 hk_12 => ?_)
      · try simp only [↓DN, UP, r1, r2, r3, r4, r5, r6, r7, reduceCtorEq, Try.f109]
        refine seqN TryT_eq rfl ?_
        obtain ⟨v_14, hv_14, hk_12⟩ := bS hk_12
        obtain ⟨y_15, hy_15, hk_12⟩ := bS hk_12
        have f1 := (fAt (eI_ok .u32) hv_14 (n := list_1.length) (by simp))
        try simp only [↓DN, UP, r1, r2, r3, r4, r5, r6, r7, reduceCtorEq, Try.f109, f1]
        refine cG [] (c_impl_UnpackOne hy_15) (hK := fun rd b => ?_)
        obtain ⟨v_16, hv_16, hk_12⟩ := bS hk_12
        try simp only [↓DN, UP, r1, r2, r3, r4, r5, r6, r7, reduceCtorEq, Try.f109, f1, hv_16]
        exact ⟨(v_16, IntKind.wrap .i64 (v_7 + 1)), hk_12, (wn [0, 4, 10, 11, 12] [])⟩
      · obtain rfl := Option.some.inj hk_12
        try dsimp only at hy_5
        try simp only [↓DN, UP, r1, r2, r3, r4, r5, r6, r7, reduceCtorEq, Try.f109]
        obtain rfl := Option.some.inj hy_5
        exact cutT_mk name_6 rfl (wn [0, 4] [])
    · rintro name_3 hp
      replace hp := hp.symm; subst hp
      try dsimp only at h
      try simp only [↓DN, UP, r1, r2, r3, r4, r5, r6, r7, reduceCtorEq, Try.f109]
      refine seqN TryT_eq rfl ?_
      try simp only [↓DN, UP, r1, r2, r3, r4, r5, r6, r7, reduceCtorEq, Try.f109]
      obtain ⟨y_18, hy_19, h⟩ := bS h
      refine seqK TryT_eq (fun p : Bool => ⟨[(4, .pv (.one (.str name_3))), (30, .pv (.one (.bool p)))], []⟩) (fun v => y_18 = v) (by rfl) ?_ ?_
      · obtain ⟨y_20, hy_20, hy_19⟩ := bS hy_19
        try simp only [↓DN, UP, r1, r2, r3, r4, r5, r6, r7, reduceCtorEq, Try.f109]
        refine cG [] (c_impl_NameOk hy_20) (hK := fun rd b => ?_)
        try simp only [↓DN, UP, r1, r2, r3, r4, r5, r6, r7, reduceCtorEq, Try.f109]
        refine stIf hy_19 (fun hb_21 hy_19 => ?_) (fun hb_21 hy_19 => ?_)
        · try simp only [↓DN, UP, r1, r2, r3, r4, r5, r6, r7, reduceCtorEq, Try.f109, hb_21]
          obtain rfl := Option.some.inj hy_19
          exact cutT_mk true rfl (wn [4, 30] [])
        · obtain ⟨y_22, hy_22, hy_19⟩ := bS hy_19
          try simp only [↓DN, UP, r1, r2, r3, r4, r5, r6, r7, reduceCtorEq, Try.f109, hb_21]
          refine cG [] (c_impl_Pack hy_22) (hK := fun rd b => ?_)
          obtain ⟨y_23, hy_23, hy_19⟩ := bS hy_19
          try simp only [↓DN, UP, r1, r2, r3, r4, r5, r6, r7, reduceCtorEq, Try.f109, hb_21]
          refine cG [] (c_slices_Equal_uint32 hy_23) (hK := fun rd b => ?_)
          try simp only [↓DN, UP, r1, r2, r3, r4, r5, r6, r7, reduceCtorEq, Try.f109, hb_21]
          obtain rfl := Option.some.inj hy_19
          exact cutT_mk (!y_23) rfl (wn [4, 30] [])
      · rintro v_17 hp
        replace hp := hp.symm; subst hp
        try dsimp only at h
        try simp only [↓DN, UP, r1, r2, r3, r4, r5, r6, r7, reduceCtorEq, Try.f109]
        refine stIf h (fun hb_24 h => ?_) (fun hb_24 h => ?_)
        · try simp only [↓DN, UP, r1, r2, r3, r4, r5, r6, r7, reduceCtorEq, Try.f109]
          obtain rfl := Option.some.inj h
          refine endT_of ?_ ⟨rfl, rfl⟩
          exact (wn [0] [])
        · try simp only [↓DN, UP, r1, r2, r3, r4, r5, r6, r7, reduceCtorEq, Try.f109]
          obtain rfl := Option.some.inj h
          refine endT_of ?_ ⟨rfl, rfl⟩
          exact (wn [0] [])
theorem c_impl_nameTag {kind_1 : Int} {r : Int} (h : g_impl_nameTag kind_1 = some r) : Ans Try.prog 96 [.one (.int .i64 kind_1)] [] fun v h1 => v = .pv (.one (.int .u32 r)) ∧ h1 = [] := by
  refine ansK (P := fun _ => Try.prog) TryT_eq (fn := Try.f96) Try.func96 rfl ⟨by kernel_rfl, rfl, rfl, by kernel_rfl⟩ (by simp) (Weak.refl _ _) ?_
  rw [g_impl_nameTag] at h
  try simp only [↓DN, UP, r1, r2, r3, r4, r5, r6, r7, reduceCtorEq, Try.f96]
  refine seqN TryT_eq rfl ?_
  try simp only [↓DN, UP, r1, r2, r3, r4, r5, r6, r7, reduceCtorEq, Try.f96]
  refine stIf h (fun hb_2 h => ?_) (fun hb_2 h => ?_)
  · try simp only [↓DN, UP, r1, r2, r3, r4, r5, r6, r7, reduceCtorEq, Try.f96]
    obtain rfl := Option.some.inj h
    refine endT_of ?_ ⟨rfl, rfl⟩
    exact (wn [0] [])
  · try simp only [↓DN, UP, r1, r2, r3, r4, r5, r6, r7, reduceCtorEq, Try.f96]
    refine stIf h (fun hb_3 h => ?_) (fun hb_3 h => ?_)
    · try simp only [↓DN, UP, r1, r2, r3, r4, r5, r6, r7, reduceCtorEq, Try.f96]
      obtain rfl := Option.some.inj h
      refine endT_of ?_ ⟨rfl, rfl⟩
      exact (wn [0] [])
    · try simp only [↓DN, UP, r1, r2, r3, r4, r5, r6, r7, reduceCtorEq, Try.f96]
      refine stIf h (fun hb_4 h => ?_) (fun hb_4 h => ?_)
      · try simp only [↓DN, UP, r1, r2, r3, r4, r5, r6, r7, reduceCtorEq, Try.f96]
        obtain rfl := Option.some.inj h
        refine endT_of ?_ ⟨rfl, rfl⟩
        exact (wn [0] [])
      · try simp only [↓DN, UP, r1, r2, r3, r4, r5, r6, r7, reduceCtorEq, Try.f96]
        refine stIf h (fun hb_5 h => ?_) (fun hb_5 h => ?_)
        · try simp only [↓DN, UP, r1, r2, r3, r4, r5, r6, r7, reduceCtorEq, Try.f96]
          obtain rfl := Option.some.inj h
          refine endT_of ?_ ⟨rfl, rfl⟩
          exact (wn [0] [])
        · try simp only [↓DN, UP, r1, r2, r3, r4, r5, r6, r7, reduceCtorEq, Try.f96]
          refine stIf h (fun hb_6 h => ?_) (fun hb_6 h => ?_)
          · try simp only [↓DN, UP, r1, r2, r3, r4, r5, r6, r7, reduceCtorEq, Try.f96]
            obtain rfl := Option.some.inj h
            refine endT_of ?_ ⟨rfl, rfl⟩
            exact (wn [0] [])
          · try simp only [↓DN, UP, r1, r2, r3, r4, r5, r6, r7, reduceCtorEq, Try.f96]
            refine stIf h (fun hb_7 h => ?_) (fun hb_7 h => ?_)
            · try simp only [↓DN, UP, r1, r2, r3, r4, r5, r6, r7, reduceCtorEq, Try.f96]
              obtain rfl := Option.some.inj h
              refine endT_of ?_ ⟨rfl, rfl⟩
              exact (wn [0] [])
            · try simp only [↓DN, UP, r1, r2, r3, r4, r5, r6, r7, reduceCtorEq, Try.f96]
              obtain rfl := Option.some.inj h
              refine endT_of ?_ ⟨rfl, rfl⟩
              exact (wn [0] [])
theorem c_impl_nameKind {tag_1 : Int} {r : Int} (h : g_impl_nameKind tag_1 = some r) : Ans Try.prog 110 [.one (.int .u32 tag_1)] [] fun v h1 => v = .pv (.one (.int .i64 r)) ∧ h1 = [] := by
  refine ansK (P := fun _ => Try.prog) TryT_eq (fn := Try.f110) Try.func110 rfl ⟨by kernel_rfl, rfl, rfl, by kernel_rfl⟩ (by simp) (Weak.refl _ _) ?_
  rw [g_impl_nameKind] at h
  try simp only [↓DN, UP, r1, r2, r3, r4, r5, r6, r7, reduceCtorEq, Try.f110]
  obtain ⟨y_3, hy_4, h⟩ := bS h
  refine seqK TryT_eq (fun p : Unit => ⟨[], []⟩) (fun v => y_3 = .inl v) (by rfl) ?_ ?_
  · try simp only [↓DN, UP, r1, r2, r3, r4, r5, r6, r7, reduceCtorEq, Try.f110]
    obtain ⟨y_7, hy_8, hy_4⟩ := bS hy_4
    refine loopK TryT_eq (fun p : Int => ⟨[(0, .pv (.one (.int .u32 tag_1))), (3, .pv (.one (.int .i64 p)))], []⟩) (fun k p => g_impl_nameKind_l0 tag_1 k p = some y_7) (by kernel_rfl) bigK 1 (wn [0, 3] []) hy_8 (fun _ h => nomatch (show none = some _ from h)) ?_
    rintro k_9 kind_5 hk_10
    rw [g_impl_nameKind_l0] at hk_10
    try dsimp only at hk_10
    try simp only [↓DN, UP, r1, r2, r3, r4, r5, r6, r7, reduceCtorEq, Try.f110]
    refine seqN TryT_eq rfl ?_
    try simp only [↓DN, UP, r1, r2, r3, r4, r5, r6, r7, reduceCtorEq, Try.f110]
    refine stIf hk_10 (fun hb_11 hk_10 => ?_) (fun hb_11 hk_10 => ?_)
    · try simp only [↓DN, UP, r1, r2, r3, r4, r5, r6, r7, reduceCtorEq, Try.f110]
      refine seqN TryT_eq rfl ?_
      obtain ⟨y_12, hy_12, hk_10⟩ := bS hk_10
      try simp only [↓DN, UP, r1, r2, r3, r4, r5, r6, r7, reduceCtorEq, Try.f110]
      refine cG [] (c_impl_nameTag hy_12) (hK := fun rd b => ?_)
      try simp only [↓DN, UP, r1, r2, r3, r4, r5, r6, r7, reduceCtorEq, Try.f110]
      refine stIf hk_10 (fun hb_13 hk_10 => ?_) (fun hb_13 hk_10 => ?_)
      · obtain rfl := Option.some.inj hk_10
        try dsimp only at hy_4
        obtain rfl := Option.some.inj hy_4
        try dsimp only at h
        try simp only [↓DN, UP, r1, r2, r3, r4, r5, r6, r7, reduceCtorEq, Try.f110]
        obtain rfl := Option.some.inj h
        refine endT_of ?_ ⟨rfl, rfl⟩
        exact (wn [0] [])
      · try simp only [↓DN, UP, r1, r2, r3, r4, r5, r6, r7, reduceCtorEq, Try.f110]
        exact ⟨IntKind.wrap .i64 (kind_5 + 1), hk_10, (wn [0, 3] [])⟩
    · obtain rfl := Option.some.inj hk_10
      try dsimp only at hy_4
      try simp only [↓DN, UP, r1, r2, r3, r4, r5, r6, r7, reduceCtorEq, Try.f110]
      obtain rfl := Option.some.inj hy_4
      exact cutT_mk () (by trivial) (wn [] [])
  · rintro _ hp
    replace hp := hp.symm; subst hp
    try dsimp only at h
    try simp only [↓DN, UP, r1, r2, r3, r4, r5, r6, r7, reduceCtorEq, Try.f110]
    obtain rfl := Option.some.inj h
    refine endT_of ?_ ⟨rfl, rfl⟩
    exact (wn [0] [])
theorem c_impl_numberCells {n_1 : Int} {hex_2 : Bool} {short_3 : Int} {long_4 : Int} {r : (List Int)} (h : g_impl_numberCells n_1 hex_2 short_3 long_4 = some r) : Ans Try.prog 98 [.one (.int .i32 n_1), .one (.bool hex_2), .one (.int .u32 short_3), .one (.int .u32 long_4)] [] fun v h1 => v = .pv (.one (.arr 0 0 r.length)) ∧ h1 = [.live ⟨1, r.length, r.flatMap (eI .u32)⟩] := by
  refine ansK (P := fun _ => Try.prog) TryT_eq (fn := Try.f98) Try.func98 rfl ⟨by kernel_rfl, rfl, rfl, by kernel_rfl⟩ (by simp) (Weak.refl _ _) ?_
  rw [g_impl_numberCells] at h
  try simp only [↓DN, UP, r1, r2, r3, r4, r5, r6, r7, reduceCtorEq, Try.f98]
  obtain ⟨y_6, hy_7, h⟩ := bS h
  refine seqK TryT_eq (fun p : Int => ⟨[(0, .pv (.one (.int .i32 n_1))), (2, .pv (.one (.int .u32 short_3))), (3, .pv (.one (.int .u32 long_4))), (9, .pv (.one (.int .u32 p)))], []⟩) (fun v => y_6 = v) (by rfl) ?_ ?_
  · try simp only [↓DN, UP, r1, r2, r3, r4, r5, r6, r7, reduceCtorEq, Try.f98]
    refine stIf hy_7 (fun hb_8 hy_7 => ?_) (fun hb_8 hy_7 => ?_)
    · try simp only [↓DN, UP, r1, r2, r3, r4, r5, r6, r7, reduceCtorEq, Try.f98]
      obtain rfl := Option.some.inj hy_7
      exact cutT_mk 16 rfl (wn [0, 2, 3, 9] [])
    · try simp only [↓DN, UP, r1, r2, r3, r4, r5, r6, r7, reduceCtorEq, Try.f98]
      obtain rfl := Option.some.inj hy_7
      exact cutT_mk 0 rfl (wn [0, 2, 3, 9] [])
  · rintro bit_5 hp
    replace hp := hp.symm; subst hp
    try dsimp only at h
    try simp only [↓DN, UP, r1, r2, r3, r4, r5, r6, r7, reduceCtorEq, Try.f98]
    refine seqN TryT_eq rfl ?_
    try simp only [↓DN, UP, r1, r2, r3, r4, r5, r6, r7, reduceCtorEq, Try.f98]
    obtain ⟨y_10, hy_11, h⟩ := bS h
    refine seqK TryT_eq (fun p : Bool => ⟨[(0, .pv (.one (.int .i32 n_1))), (2, .pv (.one (.int .u32 short_3))), (3, .pv (.one (.int .u32 long_4))), (9, .pv (.one (.int .u32 bit_5))), (16, .pv (.one (.bool p)))], []⟩) (fun v => y_10 = v) (by rfl) ?_ ?_
    · try simp only [↓DN, UP, r1, r2, r3, r4, r5, r6, r7, reduceCtorEq, Try.f98]
      refine stIf hy_11 (fun hb_12 hy_11 => ?_) (fun hb_12 hy_11 => ?_)
      · try simp only [↓DN, UP, r1, r2, r3, r4, r5, r6, r7, reduceCtorEq, Try.f98, hb_12]
        obtain rfl := Option.some.inj hy_11
        exact cutT_mk (decide (n_1 ≤ 67108863)) rfl (wn [0, 2, 3, 9, 16] [])
      · try simp only [↓DN, UP, r1, r2, r3, r4, r5, r6, r7, reduceCtorEq, Try.f98, hb_12]
        obtain rfl := Option.some.inj hy_11
        exact cutT_mk false rfl (wn [0, 2, 3, 9, 16] [])
    · rintro v_9 hp
      replace hp := hp.symm; subst hp
      try dsimp only at h
      try simp only [↓DN, UP, r1, r2, r3, r4, r5, r6, r7, reduceCtorEq, Try.f98]
      refine stIf h (fun hb_13 h => ?_) (fun hb_13 h => ?_)
      · have f1 := (shlI_lit (k := .u32) (a := IntKind.wrap .u32 n_1) (b := 5) (m := 32) (by decide) (by decide))
        have f2 := (show bldN 1 = 1 from rfl)
        have f3 := (show bldC [.int .u32 (orI .u32 (orI .u32 (IntKind.wrap .u32 ((IntKind.wrap .u32 n_1) * 32)) bit_5) short_3)] = [orI .u32 (orI .u32 (IntKind.wrap .u32 ((IntKind.wrap .u32 n_1) * 32)) bit_5) short_3].flatMap (eI .u32) from rfl)
        try simp only [↓DN, UP, r1, r2, r3, r4, r5, r6, r7, reduceCtorEq, Try.f98, f1, f2, f3]
        obtain rfl := Option.some.inj h
        refine endT_of ?_ ⟨rfl, rfl⟩
        exact (weak_norm (ks := [0]) (π := [0]) (fuel := 9) (by simp only [WL, r1, r2, r3, r4, r5, r6, r7, reduceCtorEq, fWin (eI_ok .u32) (n := 1) (xs := [orI .u32 (orI .u32 (IntKind.wrap .u32 ((IntKind.wrap .u32 n_1) * 32)) bit_5) short_3]) (by simp)]))
      · have f4 := (show bldN 2 = 2 from rfl)
        have f5 := (show bldC [.int .u32 (orI .u32 bit_5 long_4), .int .u32 (IntKind.wrap .u32 n_1)] = [orI .u32 bit_5 long_4, IntKind.wrap .u32 n_1].flatMap (eI .u32) from rfl)
        try simp only [↓DN, UP, r1, r2, r3, r4, r5, r6, r7, reduceCtorEq, Try.f98, f4, f5]
        obtain rfl := Option.some.inj h
        refine endT_of ?_ ⟨rfl, rfl⟩
        exact (weak_norm (ks := [0]) (π := [0]) (fuel := 9) (by simp only [WL, r1, r2, r3, r4, r5, r6, r7, reduceCtorEq, fWin (eI_ok .u32) (n := 2) (xs := [orI .u32 bit_5 long_4, IntKind.wrap .u32 n_1]) (by simp)]))
theorem c_impl_CellsOf {it_1 : GItem} {r : (List Int)} (h : g_impl_CellsOf it_1 = some r) : Ans Try.prog 69 [.agg [.int .i64 it_1.Kind, .str it_1.Name, .int .i32 it_1.N, .bool it_1.Hex, .int .u32 it_1.Raw]] [] fun v h1 => v = .pv (.one (.arr 0 0 r.length)) ∧ h1 = [.live ⟨1, r.length, r.flatMap (eI .u32)⟩] := by
  refine ansK (P := fun _ => Try.prog) TryT_eq (fn := Try.f69) Try.func69 rfl ⟨by kernel_rfl, rfl, rfl, by kernel_rfl⟩ (by simp) (Weak.refl _ _) ?_
  rw [g_impl_CellsOf] at h
  obtain ⟨y_2, hy_2, h⟩ := bS h
  try simp only [↓DN, UP, r1, r2, r3, r4, r5, r6, r7, reduceCtorEq, Try.f69]
  refine cG [] (c_impl_nameTag hy_2) (hK := fun rd b => ?_)
  try simp only [↓DN, UP, r1, r2, r3, r4, r5, r6, r7, reduceCtorEq, Try.f69]
  obtain ⟨y_4, hy_5, h⟩ := bS h
  refine seqK TryT_eq (fun p : Unit => ⟨[], []⟩) (fun v => y_4 = .inl v) (by rfl) ?_ ?_
  · try simp only [↓DN, UP, r1, r2, r3, r4, r5, r6, r7, reduceCtorEq, Try.f69]
    obtain ⟨y_7, hy_8, hy_5⟩ := bS hy_5
    refine seqK TryT_eq (fun p : Bool => ⟨[(1, .pv (.one (.ptr 0 0))), (3, .pv (.one (.int .u32 y_2))), (11, .pv (.one (.bool p)))], [.live ⟨1, 5, [.int .i64 it_1.Kind, .str it_1.Name, .int .i32 it_1.N, .bool it_1.Hex, .int .u32 it_1.Raw]⟩]⟩) (fun v => y_7 = v) (by rfl) ?_ ?_
    · try simp only [↓DN, UP, r1, r2, r3, r4, r5, r6, r7, reduceCtorEq, Try.f69]
      refine stIf hy_8 (fun hb_9 hy_8 => ?_) (fun hb_9 hy_8 => ?_)
      · try simp only [↓DN, UP, r1, r2, r3, r4, r5, r6, r7, reduceCtorEq, Try.f69, hb_9]
        obtain rfl := Option.some.inj hy_8
        exact cutT_mk ((it_1.Kind : Int) == it_1.Kind && ((it_1.Name : Bs) == it_1.Name && ((it_1.N : Int) == 0 && ((it_1.Hex : Bool) == false && ((it_1.Raw : Int) == 0 && true))))) rfl (wn [1, 3, 11] [0])
      · try simp only [↓DN, UP, r1, r2, r3, r4, r5, r6, r7, reduceCtorEq, Try.f69, hb_9]
        obtain rfl := Option.some.inj hy_8
        exact cutT_mk false rfl (wn [1, 3, 11] [0])
    · rintro v_6 hp
      replace hp := hp.symm; subst hp
      try dsimp only at hy_5
      try simp only [↓DN, UP, r1, r2, r3, r4, r5, r6, r7, reduceCtorEq, Try.f69]
      refine stIf hy_5 (fun hb_10 hy_5 => ?_) (fun hb_10 hy_5 => ?_)
      · have f1 := (show bldN 0 = 0 from rfl)
        have f2 := (show bldC [] = ([] : List Int).flatMap (eI .u32) from rfl)
        try simp only [↓DN, UP, r1, r2, r3, r4, r5, r6, r7, reduceCtorEq, Try.f69, f1, f2]
        obtain ⟨y_12, hy_13, hy_5⟩ := bS hy_5
        refine seqK TryT_eq (fun p : (List Int) => ⟨[(4, .pv (.one (.arr 0 0 p.length)))], [.live ⟨1, p.length, p.flatMap (eI .u32)⟩]⟩) (fun v => y_12 = v) (by rfl) ?_ ?_
        · obtain ⟨y_14, hy_14, hy_13⟩ := bS hy_13
          try simp only [↓DN, UP, r1, r2, r3, r4, r5, r6, r7, reduceCtorEq, Try.f69, f1, f2]
          refine cG [] (c_impl_Pack hy_14) (hK := fun rd b => ?_)
          try simp only [↓DN, UP, r1, r2, r3, r4, r5, r6, r7, reduceCtorEq, Try.f69, f1, f2]
          obtain ⟨y_19, hy_20, hy_13⟩ := bS hy_13
          refine loopK TryT_eq (fun p : Int × (List Int) × Int => ⟨[(3, .pv (.one (.int .u32 p.1))), (4, .pv (.one (.arr 0 0 p.2.1.length))), (26, .pv (.one (.arr 1 0 y_14.length))), (27, .pv (.one (.int .i64 (y_14.length : Int)))), (28, .pv (.one (.int .i64 p.2.2)))], [.live ⟨1, p.2.1.length, p.2.1.flatMap (eI .u32)⟩, .live ⟨1, y_14.length, y_14.flatMap (eI .u32)⟩]⟩) (fun k p => g_impl_CellsOf_l0 y_14 k p.1 p.2.1 p.2.2 = some y_19) (by kernel_rfl) bigK (y_2, ([] : List Int), 0) (weak_norm (ks := [3, 4, 26, 27, 28]) (π := [1, 2]) (fuel := 9) (by simp only [WL, r1, r2, r3, r4, r5, r6, r7, reduceCtorEq, fWin (eI_ok .u32) (n := 0) (xs := ([] : List Int)) (by simp)])) hy_20 (fun _ h => nomatch (show none = some _ from h)) ?_
          rintro k_21 ⟨tag_15, out_16, v_17⟩ hk_22
          rw [g_impl_CellsOf_l0] at hk_22
          try dsimp only at hk_22
          try simp only [↓DN, UP, r1, r2, r3, r4, r5, r6, r7, reduceCtorEq, Try.f69]
          refine seqN TryT_eq rfl ?_
          try simp only [↓DN, UP, r1, r2, r3, r4, r5, r6, r7, reduceCtorEq, Try.f69]
          refine stIf hk_22 (fun hb_23 hk_22 => ?_) (fun hb_23 hk_22 => ?_)
          · try simp only [↓DN, UP, r1, r2, r3, r4, r5, r6, r7, reduceCtorEq, Try.f69]
            refine seqN TryT_eq rfl ?_
            obtain ⟨v_24, hv_24, hk_22⟩ := bS hk_22
            obtain ⟨v_25, hv_25, hk_22⟩ := bS hk_22
            have f3 := (fPtr hv_24 (k := 1) (n := y_14.length) (by simp))
            have f4 := (fGet0 (eI_ok .u32) hv_24 (m := 1) (by decide) (by decide))
            have f5 := (shlI_lit (k := .u32) (a := v_24) (b := 4) (m := 16) (by decide) (by decide))
            have f6 := (show bldN 1 = 1 from rfl)
            have f7 := (show bldC [.int .u32 (orI .u32 (IntKind.wrap .u32 (v_24 * 16)) tag_15)] = [orI .u32 (IntKind.wrap .u32 (v_24 * 16)) tag_15].flatMap (eI .u32) from rfl)
            have f8 := (fWin (eI_ok .u32) (n := 1) (xs := [orI .u32 (IntKind.wrap .u32 (v_24 * 16)) tag_15]) (by simp))
            have f9 := (fApp hv_25 (n := out_16.length) (by simp) (m := 1) (by simp [bsOf]))
            have f10 := (fWin (eI_ok .u32) (n := out_16.length) (xs := out_16) (by simp))
            have f11 := (fCat (e := (eI .u32)) (ns := [orI .u32 (IntKind.wrap .u32 (v_24 * 16)) tag_15].flatMap (eI .u32)) hv_25 rfl)
            try simp only [↓DN, UP, r1, r2, r3, r4, r5, r6, r7, reduceCtorEq, Try.f69, f3, f4, f5, f6, f7, f8, f9, f10, f11]
            exact ⟨(0, v_25, IntKind.wrap .i64 (v_17 + 1)), hk_22, (wn [3, 4, 26, 27, 28] [3, 1])⟩
          · obtain rfl := Option.some.inj hk_22
            try dsimp only at hy_13
            try simp only [↓DN, UP, r1, r2, r3, r4, r5, r6, r7, reduceCtorEq, Try.f69]
            obtain rfl := Option.some.inj hy_13
            exact cutT_mk out_16 rfl (wn [4] [0])
        · rintro out_11 hp
          replace hp := hp.symm; subst hp
          try dsimp only at hy_5
          obtain rfl := Option.some.inj hy_5
          try dsimp only at h
          try simp only [↓DN, UP, r1, r2, r3, r4, r5, r6, r7, reduceCtorEq, Try.f69]
          obtain rfl := Option.some.inj h
          refine endT_of ?_ ⟨rfl, rfl⟩
          exact (wn [0] [0])
      · try simp only [↓DN, UP, r1, r2, r3, r4, r5, r6, r7, reduceCtorEq, Try.f69]
        refine stIf hy_5 (fun hb_26 hy_5 => ?_) (fun hb_26 hy_5 => ?_)
        · obtain ⟨y_27, hy_27, hy_5⟩ := bS hy_5
          try simp only [↓DN, UP, r1, r2, r3, r4, r5, r6, r7, reduceCtorEq, Try.f69]
          refine cG [] (c_impl_numberCells hy_27) (hK := fun rd b => ?_)
          obtain rfl := Option.some.inj hy_5
          try dsimp only at h
          try simp only [↓DN, UP, r1, r2, r3, r4, r5, r6, r7, reduceCtorEq, Try.f69]
          obtain rfl := Option.some.inj h
          refine endT_of ?_ ⟨rfl, rfl⟩
          exact (wn [0] [1])
        · try simp only [↓DN, UP, r1, r2, r3, r4, r5, r6, r7, reduceCtorEq, Try.f69]
          refine stIf hy_5 (fun hb_28 hy_5 => ?_) (fun hb_28 hy_5 => ?_)
          · obtain ⟨y_29, hy_29, hy_5⟩ := bS hy_5
            try simp only [↓DN, UP, r1, r2, r3, r4, r5, r6, r7, reduceCtorEq, Try.f69]
            refine cG [] (c_impl_numberCells hy_29) (hK := fun rd b => ?_)
            obtain rfl := Option.some.inj hy_5
            try dsimp only at h
            try simp only [↓DN, UP, r1, r2, r3, r4, r5, r6, r7, reduceCtorEq, Try.f69]
            obtain rfl := Option.some.inj h
            refine endT_of ?_ ⟨rfl, rfl⟩
            exact (wn [0] [1])
          · try simp only [↓DN, UP, r1, r2, r3, r4, r5, r6, r7, reduceCtorEq, Try.f69]
            refine stIf hy_5 (fun hb_30 hy_5 => ?_) (fun hb_30 hy_5 => ?_)
            · obtain ⟨y_31, hy_31, hy_5⟩ := bS hy_5
              try simp only [↓DN, UP, r1, r2, r3, r4, r5, r6, r7, reduceCtorEq, Try.f69]
              refine cG [] (c_impl_Pack hy_31) (hK := fun rd b => ?_)
              try simp only [↓DN, UP, r1, r2, r3, r4, r5, r6, r7, reduceCtorEq, Try.f69]
              refine stIf hy_5 (fun hb_32 hy_5 => ?_) (fun hb_32 hy_5 => ?_)
              · obtain ⟨v_33, hv_33, hy_5⟩ := bS hy_5
                have f12 := (fPtrL hv_33 (k := 1) (n := y_31.length) (by simp) (c := 0) rfl)
                have f13 := (fGetL0 (eI_ok .u32) hv_33 rfl (m := 1) (by decide) (by decide))
                have f14 := (shlI_lit (k := .u32) (a := v_33) (b := 4) (m := 16) (by decide) (by decide))
                have f15 := (show bldN 2 = 2 from rfl)
                have f16 := (show bldC [.int .u32 (orI .u32 (IntKind.wrap .u32 (v_33 * 16)) 12), .int .u32 (IntKind.wrap .u32 it_1.N)] = [orI .u32 (IntKind.wrap .u32 (v_33 * 16)) 12, IntKind.wrap .u32 it_1.N].flatMap (eI .u32) from rfl)
                try simp only [↓DN, UP, r1, r2, r3, r4, r5, r6, r7, reduceCtorEq, Try.f69, f12, f13, f14, f15, f16]
                refine ⟨rfl, ?_⟩
                obtain rfl := Option.some.inj hy_5
                try dsimp only at h
                try simp only [↓DN, UP, r1, r2, r3, r4, r5, r6, r7, reduceCtorEq, Try.f69, f12, f13, f14, f15, f16]
                obtain rfl := Option.some.inj h
                refine endT_of ?_ ⟨rfl, rfl⟩
                exact (weak_norm (ks := [0]) (π := [2]) (fuel := 9) (by simp only [WL, r1, r2, r3, r4, r5, r6, r7, reduceCtorEq, fWin (eI_ok .u32) (n := 2) (xs := [orI .u32 (IntKind.wrap .u32 (v_33 * 16)) 12, IntKind.wrap .u32 it_1.N]) (by simp)]))
              · try simp only [↓DN, UP, r1, r2, r3, r4, r5, r6, r7, reduceCtorEq, Try.f69]
                obtain rfl := Option.some.inj hy_5
                exact cutT_mk () (by trivial) (wn [] [])
            · try simp only [↓DN, UP, r1, r2, r3, r4, r5, r6, r7, reduceCtorEq, Try.f69]
              refine stIf hy_5 (fun hb_34 hy_5 => ?_) (fun hb_34 hy_5 => ?_)
              · obtain rfl := Option.some.inj hy_5
                try dsimp only at h
                have f17 := (show bldN 1 = 1 from rfl)
                have f18 := (show bldC [.int .u32 it_1.Raw] = [it_1.Raw].flatMap (eI .u32) from rfl)
                try simp only [↓DN, UP, r1, r2, r3, r4, r5, r6, r7, reduceCtorEq, Try.f69, f17, f18]
                obtain rfl := Option.some.inj h
                refine endT_of ?_ ⟨rfl, rfl⟩
                exact (weak_norm (ks := [0]) (π := [1]) (fuel := 9) (by simp only [WL, r1, r2, r3, r4, r5, r6, r7, reduceCtorEq, fWin (eI_ok .u32) (n := 1) (xs := [it_1.Raw]) (by simp)]))
              · try simp only [↓DN, UP, r1, r2, r3, r4, r5, r6, r7, reduceCtorEq, Try.f69]
                obtain rfl := Option.some.inj hy_5
                exact cutT_mk () (by trivial) (wn [] [])
  · rintro _ hp
    replace hp := hp.symm; subst hp
    try dsimp only at h
    try simp only [↓DN, UP, r1, r2, r3, r4, r5, r6, r7, reduceCtorEq, Try.f69]
    obtain rfl := Option.some.inj h
    refine endT_of ?_ ⟨rfl, rfl⟩
    exact ((weak_norm (ks := [0]) (π := []) (fuel := 9) (s' := ⟨[(0, .pv (.one (.emp)))], []⟩) (by simp only [WL, r1, r2, r3, r4, r5, r6, r7, reduceCtorEq])).trans (weak_le (by simp only [LEb, r1, r2, r3, r4, r5, r6, r7, reduceCtorEq, TL]) (by simp only [LEb, r1, r2, r3, r4, r5, r6, r7, reduceCtorEq, TL])))
theorem c_impl_FieldOk {f_1 : Int} {r : Bool} (h : g_impl_FieldOk f_1 = some r) : Ans Try.prog 112 [.one (.int .u32 f_1)] [] fun v h1 => v = .pv (.one (.bool r)) ∧ h1 = [] := by
  refine ansK (P := fun _ => Try.prog) TryT_eq (fn := Try.f112) Try.func112 rfl ⟨by kernel_rfl, rfl, rfl, by kernel_rfl⟩ (by simp) (Weak.refl _ _) ?_
  rw [g_impl_FieldOk] at h
  obtain ⟨y_2, hy_2, h⟩ := bS h
  try simp only [↓DN, UP, r1, r2, r3, r4, r5, r6, r7, reduceCtorEq, Try.f112]
  refine cG [] (c_impl_UnpackOne hy_2) (hK := fun rd b => ?_)
  obtain ⟨y_3, hy_3, h⟩ := bS h
  try simp only [↓DN, UP, r1, r2, r3, r4, r5, r6, r7, reduceCtorEq, Try.f112]
  refine cG [] (c_impl_Pack hy_3) (hK := fun rd b => ?_)
  obtain ⟨y_4, hy_4, h⟩ := bS h
  have f1 := (show bldN 1 = 1 from rfl)
  have f2 := (show bldC [.int .u32 f_1] = [f_1].flatMap (eI .u32) from rfl)
  try simp only [↓DN, UP, r1, r2, r3, r4, r5, r6, r7, reduceCtorEq, Try.f112, f1, f2]
  refine callG [] 9 rfl (by simp only [WL, r1, r2, r3, r4, r5, r6, r7, reduceCtorEq, fWin (eI_ok .u32) (n := 1) (xs := [f_1]) (by simp)]) (by simp only [WL, r1, r2, r3, r4, r5, r6, r7, reduceCtorEq, fWin (eI_ok .u32) (n := 1) (xs := [f_1]) (by simp)]) rfl (c_slices_Equal_uint32 hy_4) (by simp only [WL, r1, r2, r3, r4, r5, r6, r7, reduceCtorEq]) ?_
  intro rd b
  try simp only [↓DN, UP, r1, r2, r3, r4, r5, r6, r7, reduceCtorEq, Try.f112, f1, f2]
  obtain rfl := Option.some.inj h
  refine endT_of ?_ ⟨rfl, rfl⟩
  exact (wn [0] [])
theorem c_impl_parseOne {cells_1 : List Int} {r : GItem} (h : g_impl_parseOne cells_1 = some r) : Ans Try.prog 85 [.one (.imm 1 cells_1.length (cells_1.flatMap (eI .u32)))] [] fun v h1 => v = .pv (.agg [.int .i64 r.Kind, .str r.Name, .int .i32 r.N, .bool r.Hex, .int .u32 r.Raw]) ∧ h1 = [] := by
  refine ansK (P := fun _ => Try.prog) TryT_eq (fn := Try.f85) Try.func85 rfl ⟨by kernel_rfl, rfl, rfl, by kernel_rfl⟩ (by simp) (Weak.refl _ _) ?_
  rw [g_impl_parseOne] at h
  obtain ⟨v_2, hv_2, h⟩ := bS h
  have f1 := (fAt (eI_ok .u32) hv_2 (n := cells_1.length) (by simp))
  try simp only [↓DN, UP, r1, r2, r3, r4, r5, r6, r7, reduceCtorEq, Try.f85, f1]
  refine ⟨rfl, ?_⟩
  try simp only [↓DN, UP, r1, r2, r3, r4, r5, r6, r7, reduceCtorEq, Try.f85, f1]
  obtain ⟨y_4, hy_5, h⟩ := bS h
  refine seqK TryT_eq (fun p : GItem => ⟨[(2, .pv (.one (.ptr 0 0))), (5, .pv (.one (.ptr 1 0)))], [.live ⟨1, 5, [.int .i64 0, .str [], .int .i32 0, .bool false, .int .u32 0]⟩, .live ⟨1, 5, [.int .i64 p.Kind, .str p.Name, .int .i32 p.N, .bool p.Hex, .int .u32 p.Raw]⟩]⟩) (fun v => y_4 = v) (by rfl) ?_ ?_
  · try simp only [↓DN, UP, r1, r2, r3, r4, r5, r6, r7, reduceCtorEq, Try.f85, f1]
    obtain ⟨y_7, hy_8, hy_5⟩ := bS hy_5
    refine seqK TryT_eq (fun p : Bool => ⟨[(0, .pv (.one (.imm 1 cells_1.length (cells_1.flatMap (eI .u32))))), (2, .pv (.one (.ptr 0 0))), (3, .pv (.one (.int .u32 v_2))), (4, .pv (.one (.int .u32 (andI .u32 v_2 15)))), (5, .pv (.one (.ptr 1 0))), (21, .pv (.one (.int .u32 (andI .u32 v_2 15)))), (22, .pv (.one (.bool p)))], [.live ⟨1, 5, [.int .i64 0, .str [], .int .i32 0, .bool false, .int .u32 0]⟩, .live ⟨1, 5, [.int .i64 0, .str [], .int .i32 0, .bool false, .int .u32 v_2]⟩]⟩) (fun v => y_7 = v) (by rfl) ?_ ?_
    · try simp only [↓DN, UP, r1, r2, r3, r4, r5, r6, r7, reduceCtorEq, Try.f85, f1]
      refine stIf hy_8 (fun hb_9 hy_8 => ?_) (fun hb_9 hy_8 => ?_)
      · try simp only [↓DN, UP, r1, r2, r3, r4, r5, r6, r7, reduceCtorEq, Try.f85, f1]
        obtain rfl := Option.some.inj hy_8
        exact cutT_mk ((andI .u32 v_2 15) == 1) rfl (wn [0, 2, 3, 4, 5, 21, 22] [0, 1])
      · try simp only [↓DN, UP, r1, r2, r3, r4, r5, r6, r7, reduceCtorEq, Try.f85, f1]
        refine stIf hy_8 (fun hb_10 hy_8 => ?_) (fun hb_10 hy_8 => ?_)
        · try simp only [↓DN, UP, r1, r2, r3, r4, r5, r6, r7, reduceCtorEq, Try.f85, f1]
          obtain rfl := Option.some.inj hy_8
          exact cutT_mk ((andI .u32 v_2 15) == 3) rfl (wn [0, 2, 3, 4, 5, 21, 22] [0, 1])
        · try simp only [↓DN, UP, r1, r2, r3, r4, r5, r6, r7, reduceCtorEq, Try.f85, f1]
          refine stIf hy_8 (fun hb_11 hy_8 => ?_) (fun hb_11 hy_8 => ?_)
          · try simp only [↓DN, UP, r1, r2, r3, r4, r5, r6, r7, reduceCtorEq, Try.f85, f1]
            obtain rfl := Option.some.inj hy_8
            exact cutT_mk ((andI .u32 v_2 15) == 4) rfl (wn [0, 2, 3, 4, 5, 21, 22] [0, 1])
          · try simp only [↓DN, UP, r1, r2, r3, r4, r5, r6, r7, reduceCtorEq, Try.f85, f1]
            refine stIf hy_8 (fun hb_12 hy_8 => ?_) (fun hb_12 hy_8 => ?_)
            · try simp only [↓DN, UP, r1, r2, r3, r4, r5, r6, r7, reduceCtorEq, Try.f85, f1]
              obtain rfl := Option.some.inj hy_8
              exact cutT_mk ((andI .u32 v_2 15) == 9) rfl (wn [0, 2, 3, 4, 5, 21, 22] [0, 1])
            · try simp only [↓DN, UP, r1, r2, r3, r4, r5, r6, r7, reduceCtorEq, Try.f85, f1]
              refine stIf hy_8 (fun hb_13 hy_8 => ?_) (fun hb_13 hy_8 => ?_)
              · try simp only [↓DN, UP, r1, r2, r3, r4, r5, r6, r7, reduceCtorEq, Try.f85, f1]
                obtain rfl := Option.some.inj hy_8
                exact cutT_mk ((andI .u32 v_2 15) == 10) rfl (wn [0, 2, 3, 4, 5, 21, 22] [0, 1])
              · try simp only [↓DN, UP, r1, r2, r3, r4, r5, r6, r7, reduceCtorEq, Try.f85, f1]
                obtain rfl := Option.some.inj hy_8
                exact cutT_mk ((andI .u32 v_2 15) == 11) rfl (wn [0, 2, 3, 4, 5, 21, 22] [0, 1])
    · rintro v_6 hp
      replace hp := hp.symm; subst hp
      try dsimp only at hy_5
      try simp only [↓DN, UP, r1, r2, r3, r4, r5, r6, r7, reduceCtorEq, Try.f85]
      refine stIf hy_5 (fun hb_14 hy_5 => ?_) (fun hb_14 hy_5 => ?_)
      · have f2 := (shrI_lit (k := .u32) (a := v_2) (b := 4) (m := 16) (by decide) (by decide))
        have f3 := (show bldN 1 = 1 from rfl)
        have f4 := (show bldC [.int .u32 (v_2 / 16)] = [v_2 / 16].flatMap (eI .u32) from rfl)
        try simp only [↓DN, UP, r1, r2, r3, r4, r5, r6, r7, reduceCtorEq, Try.f85, f2, f3, f4]
        obtain ⟨y_16, hy_17, hy_5⟩ := bS hy_5
        refine seqK TryT_eq (fun p : (List Int) => ⟨[(2, .pv (.one (.ptr 0 0))), (4, .pv (.one (.int .u32 (andI .u32 v_2 15)))), (5, .pv (.one (.ptr 1 0))), (6, .pv (.one (.arr 2 0 p.length)))], [.live ⟨1, 5, [.int .i64 0, .str [], .int .i32 0, .bool false, .int .u32 0]⟩, .live ⟨1, 5, [.int .i64 0, .str [], .int .i32 0, .bool false, .int .u32 v_2]⟩, .live ⟨1, p.length, p.flatMap (eI .u32)⟩]⟩) (fun v => y_16 = v) (by rfl) ?_ ?_
        · obtain ⟨v_18, hv_18, hy_17⟩ := bS hy_17
          have f5 := (fSubC (eI_ok .u32) hv_18 (n := cells_1.length) (by simp))
          try simp only [↓DN, UP, r1, r2, r3, r4, r5, r6, r7, reduceCtorEq, Try.f85, f2, f3, f4, f5]
          obtain ⟨y_22, hy_23, hy_17⟩ := bS hy_17
          refine loopK TryT_eq (fun p : (List Int) × Int => ⟨[(2, .pv (.one (.ptr 0 0))), (4, .pv (.one (.int .u32 (andI .u32 v_2 15)))), (5, .pv (.one (.ptr 1 0))), (6, .pv (.one (.arr 2 0 p.1.length))), (33, .pv (.one (.imm 1 v_18.length (v_18.flatMap (eI .u32))))), (34, .pv (.one (.int .i64 (v_18.length : Int)))), (35, .pv (.one (.int .i64 p.2)))], [.live ⟨1, 5, [.int .i64 0, .str [], .int .i32 0, .bool false, .int .u32 0]⟩, .live ⟨1, 5, [.int .i64 0, .str [], .int .i32 0, .bool false, .int .u32 v_2]⟩, .live ⟨1, p.1.length, p.1.flatMap (eI .u32)⟩]⟩) (fun k p => g_impl_parseOne_l0 v_18 k p.1 p.2 = some y_22) (by kernel_rfl) bigK ([v_2 / 16], 0) (weak_norm (ks := [2, 4, 5, 6, 33, 34, 35]) (π := [0, 1, 2]) (fuel := 9) (by simp only [WL, r1, r2, r3, r4, r5, r6, r7, reduceCtorEq, fWin (eI_ok .u32) (n := 1) (xs := [v_2 / 16]) (by simp)])) hy_23 (fun _ h => nomatch (show none = some _ from h)) ?_
          rintro k_24 ⟨fields_19, v_20⟩ hk_25
          rw [g_impl_parseOne_l0] at hk_25
          try dsimp only at hk_25
          try simp only [↓DN, UP, r1, r2, r3, r4, r5, r6, r7, reduceCtorEq, Try.f85]
          refine seqN TryT_eq rfl ?_
          try simp only [↓DN, UP, r1, r2, r3, r4, r5, r6, r7, reduceCtorEq, Try.f85]
          refine stIf hk_25 (fun hb_26 hk_25 => ?_) (fun hb_26 hk_25 => ?_)
          · try simp only [↓DN, UP, r1, r2, r3, r4, r5, r6, r7, reduceCtorEq, Try.f85]
            refine seqN TryT_eq rfl ?_
            obtain ⟨v_27, hv_27, hk_25⟩ := bS hk_25
            have f6 := (fAt (eI_ok .u32) hv_27 (n := v_18.length) (by simp))
            try simp only [↓DN, UP, r1, r2, r3, r4, r5, r6, r7, reduceCtorEq, Try.f85, f6]
            refine seqN TryT_eq rfl ?_
            try simp only [↓DN, UP, r1, r2, r3, r4, r5, r6, r7, reduceCtorEq, Try.f85, f6]
            obtain ⟨y_29, hy_30, hk_25⟩ := bS hk_25
            refine seqK TryT_eq (fun p : Bool => ⟨[(2, .pv (.one (.ptr 0 0))), (4, .pv (.one (.int .u32 (andI .u32 v_2 15)))), (5, .pv (.one (.ptr 1 0))), (6, .pv (.one (.arr 2 0 fields_19.length))), (8, .pv (.one (.int .u32 v_27))), (33, .pv (.one (.imm 1 v_18.length (v_18.flatMap (eI .u32))))), (34, .pv (.one (.int .i64 (v_18.length : Int)))), (35, .pv (.one (.int .i64 v_20))), (45, .pv (.one (.bool p)))], [.live ⟨1, 5, [.int .i64 0, .str [], .int .i32 0, .bool false, .int .u32 0]⟩, .live ⟨1, 5, [.int .i64 0, .str [], .int .i32 0, .bool false, .int .u32 v_2]⟩, .live ⟨1, fields_19.length, fields_19.flatMap (eI .u32)⟩]⟩) (fun v => y_29 = v) (by rfl) ?_ ?_
            · try simp only [↓DN, UP, r1, r2, r3, r4, r5, r6, r7, reduceCtorEq, Try.f85, f6]
              refine stIf hy_30 (fun hb_31 hy_30 => ?_) (fun hb_31 hy_30 => ?_)
              · try simp only [↓DN, UP, r1, r2, r3, r4, r5, r6, r7, reduceCtorEq, Try.f85, f6, hb_31]
                obtain rfl := Option.some.inj hy_30
                exact cutT_mk true rfl (wn [2, 4, 5, 6, 8, 33, 34, 35, 45] [0, 1, 2])
              · try simp only [↓DN, UP, r1, r2, r3, r4, r5, r6, r7, reduceCtorEq, Try.f85, f6, hb_31]
                obtain rfl := Option.some.inj hy_30
                exact cutT_mk ((andI .u32 v_27 15) != 0) rfl (wn [2, 4, 5, 6, 8, 33, 34, 35, 45] [0, 1, 2])
            · rintro v_28 hp
              replace hp := hp.symm; subst hp
              try dsimp only at hk_25
              try simp only [↓DN, UP, r1, r2, r3, r4, r5, r6, r7, reduceCtorEq, Try.f85]
              refine stIf hk_25 (fun hb_32 hk_25 => ?_) (fun hb_32 hk_25 => ?_)
              · obtain rfl := Option.some.inj hk_25
                try dsimp only at hy_17
                try simp only [↓DN, UP, r1, r2, r3, r4, r5, r6, r7, reduceCtorEq, Try.f85]
                obtain rfl := Option.some.inj hy_17
                exact cutT_mk fields_19 rfl (wn [2, 4, 5, 6] [0, 1, 2])
              · obtain ⟨v_33, hv_33, hk_25⟩ := bS hk_25
                have f7 := (shrI_lit (k := .u32) (a := v_27) (b := 4) (m := 16) (by decide) (by decide))
                have f8 := (show bldN 1 = 1 from rfl)
                have f9 := (show bldC [.int .u32 (v_27 / 16)] = [v_27 / 16].flatMap (eI .u32) from rfl)
                have f10 := (fWin (eI_ok .u32) (n := 1) (xs := [v_27 / 16]) (by simp))
                have f11 := (fApp hv_33 (n := fields_19.length) (by simp) (m := 1) (by simp [bsOf]))
                have f12 := (fWin (eI_ok .u32) (n := fields_19.length) (xs := fields_19) (by simp))
                have f13 := (fCat (e := (eI .u32)) (ns := [v_27 / 16].flatMap (eI .u32)) hv_33 rfl)
                try simp only [↓DN, UP, r1, r2, r3, r4, r5, r6, r7, reduceCtorEq, Try.f85, f7, f8, f9, f10, f11, f12, f13]
                exact ⟨(v_33, IntKind.wrap .i64 (v_20 + 1)), hk_25, (wn [2, 4, 5, 6, 33, 34, 35] [0, 1, 4])⟩
          · obtain rfl := Option.some.inj hk_25
            try dsimp only at hy_17
            try simp only [↓DN, UP, r1, r2, r3, r4, r5, r6, r7, reduceCtorEq, Try.f85]
            obtain rfl := Option.some.inj hy_17
            exact cutT_mk fields_19 rfl (wn [2, 4, 5, 6] [0, 1, 2])
        · rintro fields_15 hp
          replace hp := hp.symm; subst hp
          try dsimp only at hy_5
          obtain ⟨y_34, hy_34, hy_5⟩ := bS hy_5
          try simp only [↓DN, UP, r1, r2, r3, r4, r5, r6, r7, reduceCtorEq, Try.f85]
          refine cG [] (c_impl_Unpack hy_34) (hK := fun rd b => ?_)
          try simp only [↓DN, UP, r1, r2, r3, r4, r5, r6, r7, reduceCtorEq, Try.f85]
          refine stIf hy_5 (fun hb_35 hy_5 => ?_) (fun hb_35 hy_5 => ?_)
          · obtain ⟨y_36, hy_36, hy_5⟩ := bS hy_5
            try simp only [↓DN, UP, r1, r2, r3, r4, r5, r6, r7, reduceCtorEq, Try.f85]
            refine cG [] (c_impl_nameKind hy_36) (hK := fun rd b => ?_)
            try simp only [↓DN, UP, r1, r2, r3, r4, r5, r6, r7, reduceCtorEq, Try.f85]
            obtain rfl := Option.some.inj hy_5
            exact cutT_mk (⟨y_36, y_34.1, 0, false, 0⟩ : GItem) rfl (wn [2, 5] [0, 1])
          · try simp only [↓DN, UP, r1, r2, r3, r4, r5, r6, r7, reduceCtorEq, Try.f85]
            obtain rfl := Option.some.inj hy_5
            exact cutT_mk (⟨0, [], 0, false, v_2⟩ : GItem) rfl (wn [2, 5] [0, 1])
      · try simp only [↓DN, UP, r1, r2, r3, r4, r5, r6, r7, reduceCtorEq, Try.f85]
        refine stIf hy_5 (fun hb_37 hy_5 => ?_) (fun hb_37 hy_5 => ?_)
        · have f14 := (shrI_lit (k := .i32) (a := IntKind.wrap .i32 v_2) (b := 5) (m := 32) (by decide) (by decide))
          try simp only [↓DN, UP, r1, r2, r3, r4, r5, r6, r7, reduceCtorEq, Try.f85, f14]
          obtain rfl := Option.some.inj hy_5
          exact cutT_mk (⟨7, [], (IntKind.wrap .i32 v_2) / 32, ((andI .u32 v_2 16) != 0), 0⟩ : GItem) rfl (wn [2, 5] [0, 1])
        · try simp only [↓DN, UP, r1, r2, r3, r4, r5, r6, r7, reduceCtorEq, Try.f85]
          refine stIf hy_5 (fun hb_38 hy_5 => ?_) (fun hb_38 hy_5 => ?_)
          · have f15 := (shrI_lit (k := .i32) (a := IntKind.wrap .i32 v_2) (b := 5) (m := 32) (by decide) (by decide))
            try simp only [↓DN, UP, r1, r2, r3, r4, r5, r6, r7, reduceCtorEq, Try.f85, f15]
            obtain rfl := Option.some.inj hy_5
            exact cutT_mk (⟨8, [], (IntKind.wrap .i32 v_2) / 32, ((andI .u32 v_2 16) != 0), 0⟩ : GItem) rfl (wn [2, 5] [0, 1])
          · try simp only [↓DN, UP, r1, r2, r3, r4, r5, r6, r7, reduceCtorEq, Try.f85]
            obtain ⟨y_40, hy_41, hy_5⟩ := bS hy_5
            refine seqK TryT_eq (fun p : Bool => ⟨[(0, .pv (.one (.imm 1 cells_1.length (cells_1.flatMap (eI .u32))))), (2, .pv (.one (.ptr 0 0))), (3, .pv (.one (.int .u32 v_2))), (4, .pv (.one (.int .u32 (andI .u32 v_2 15)))), (5, .pv (.one (.ptr 1 0))), (21, .pv (.one (.int .u32 (andI .u32 v_2 15)))), (80, .pv (.one (.bool p)))], [.live ⟨1, 5, [.int .i64 0, .str [], .int .i32 0, .bool false, .int .u32 0]⟩, .live ⟨1, 5, [.int .i64 0, .str [], .int .i32 0, .bool false, .int .u32 v_2]⟩]⟩) (fun v => y_40 = v) (by rfl) ?_ ?_
            · try simp only [↓DN, UP, r1, r2, r3, r4, r5, r6, r7, reduceCtorEq, Try.f85]
              refine stIf hy_41 (fun hb_42 hy_41 => ?_) (fun hb_42 hy_41 => ?_)
              · try simp only [↓DN, UP, r1, r2, r3, r4, r5, r6, r7, reduceCtorEq, Try.f85]
                obtain rfl := Option.some.inj hy_41
                exact cutT_mk ((andI .u32 v_2 15) == 2) rfl (wn [0, 2, 3, 4, 5, 21, 80] [0, 1])
              · try simp only [↓DN, UP, r1, r2, r3, r4, r5, r6, r7, reduceCtorEq, Try.f85]
                obtain rfl := Option.some.inj hy_41
                exact cutT_mk ((andI .u32 v_2 15) == 5) rfl (wn [0, 2, 3, 4, 5, 21, 80] [0, 1])
            · rintro v_39 hp
              replace hp := hp.symm; subst hp
              try dsimp only at hy_5
              try simp only [↓DN, UP, r1, r2, r3, r4, r5, r6, r7, reduceCtorEq, Try.f85]
              refine stIf hy_5 (fun hb_43 hy_5 => ?_) (fun hb_43 hy_5 => ?_)
              · try simp only [↓DN, UP, r1, r2, r3, r4, r5, r6, r7, reduceCtorEq, Try.f85]
                refine seqN TryT_eq rfl ?_
                try simp only [↓DN, UP, r1, r2, r3, r4, r5, r6, r7, reduceCtorEq, Try.f85]
                refine stIf hy_5 (fun hb_44 hy_5 => ?_) (fun hb_44 hy_5 => ?_)
                · try simp only [↓DN, UP, r1, r2, r3, r4, r5, r6, r7, reduceCtorEq, Try.f85]
                  obtain rfl := Option.some.inj hy_5
                  exact cutT_mk (⟨0, [], 0, false, v_2⟩ : GItem) rfl (wn [2, 5] [0, 1])
                · obtain ⟨v_45, hv_45, hy_5⟩ := bS hy_5
                  have f16 := (fAt (eI_ok .u32) hv_45 (n := cells_1.length) (by simp))
                  try simp only [↓DN, UP, r1, r2, r3, r4, r5, r6, r7, reduceCtorEq, Try.f85, f16]
                  obtain ⟨y_47, hy_48, hy_5⟩ := bS hy_5
                  refine seqK TryT_eq (fun p : GItem => ⟨[(0, .pv (.one (.imm 1 cells_1.length (cells_1.flatMap (eI .u32))))), (2, .pv (.one (.ptr 0 0))), (5, .pv (.one (.ptr 1 0))), (11, .pv (.one (.ptr 2 0)))], [.live ⟨1, 5, [.int .i64 0, .str [], .int .i32 0, .bool false, .int .u32 0]⟩, .live ⟨1, 5, [.int .i64 0, .str [], .int .i32 0, .bool false, .int .u32 v_2]⟩, .live ⟨1, 5, [.int .i64 p.Kind, .str p.Name, .int .i32 p.N, .bool p.Hex, .int .u32 p.Raw]⟩]⟩) (fun v => y_47 = v) (by rfl) ?_ ?_
                  · try simp only [↓DN, UP, r1, r2, r3, r4, r5, r6, r7, reduceCtorEq, Try.f85, f16]
                    refine stIf hy_48 (fun hb_49 hy_48 => ?_) (fun hb_49 hy_48 => ?_)
                    · try simp only [↓DN, UP, r1, r2, r3, r4, r5, r6, r7, reduceCtorEq, Try.f85, f16]
                      obtain rfl := Option.some.inj hy_48
                      exact cutT_mk (⟨8, [], IntKind.wrap .i32 v_45, ((andI .u32 v_2 16) != 0), 0⟩ : GItem) rfl (wn [0, 2, 5, 11] [0, 1, 2])
                    · try simp only [↓DN, UP, r1, r2, r3, r4, r5, r6, r7, reduceCtorEq, Try.f85, f16]
                      obtain rfl := Option.some.inj hy_48
                      exact cutT_mk (⟨7, [], IntKind.wrap .i32 v_45, ((andI .u32 v_2 16) != 0), 0⟩ : GItem) rfl (wn [0, 2, 5, 11] [0, 1, 2])
                  · rintro long_46 hp
                    replace hp := hp.symm; subst hp
                    try dsimp only at hy_5
                    obtain ⟨y_50, hy_50, hy_5⟩ := bS hy_5
                    try simp only [↓DN, UP, r1, r2, r3, r4, r5, r6, r7, reduceCtorEq, Try.f85]
                    refine callE [] (rd1 := []) (rd2 := []) 9 rfl (by simp only [WL, r1, r2, r3, r4, r5, r6, r7, reduceCtorEq]) (by simp only [WL, r1, r2, r3, r4, r5, r6, r7, reduceCtorEq]) rfl (c_impl_CellsOf hy_50) (by simp only [WL, r1, r2, r3, r4, r5, r6, r7, reduceCtorEq]) ?_
                    obtain ⟨v_51, hv_51, hy_5⟩ := bS hy_5
                    obtain ⟨y_52, hy_52, hy_5⟩ := bS hy_5
                    have f17 := (fSubC (eI_ok .u32) hv_51 (n := cells_1.length) (by simp))
                    try simp only [↓DN, UP, r1, r2, r3, r4, r5, r6, r7, reduceCtorEq, Try.f85, f17]
                    refine callE [] (rd1 := [3]) (rd2 := []) 9 rfl (by simp only [WL, r1, r2, r3, r4, r5, r6, r7, reduceCtorEq]) (by simp only [WL, r1, r2, r3, r4, r5, r6, r7, reduceCtorEq]) rfl (c_slices_Equal_uint32 hy_52) (by simp only [WL, r1, r2, r3, r4, r5, r6, r7, reduceCtorEq]) ?_
                    try simp only [↓DN, UP, r1, r2, r3, r4, r5, r6, r7, reduceCtorEq, Try.f85, f17]
                    refine ⟨rfl, ?_⟩
                    try simp only [↓DN, UP, r1, r2, r3, r4, r5, r6, r7, reduceCtorEq, Try.f85, f17]
                    refine stIf hy_5 (fun hb_53 hy_5 => ?_) (fun hb_53 hy_5 => ?_)
                    · try simp only [↓DN, UP, r1, r2, r3, r4, r5, r6, r7, reduceCtorEq, Try.f85, f17]
                      obtain rfl := Option.some.inj hy_5
                      exact cutT_mk long_46 rfl (wn [2, 5] [0, 1])
                    · try simp only [↓DN, UP, r1, r2, r3, r4, r5, r6, r7, reduceCtorEq, Try.f85, f17]
                      obtain rfl := Option.some.inj hy_5
                      exact cutT_mk (⟨0, [], 0, false, v_2⟩ : GItem) rfl (wn [2, 5] [0, 1])
              · try simp only [↓DN, UP, r1, r2, r3, r4, r5, r6, r7, reduceCtorEq, Try.f85]
                refine stIf hy_5 (fun hb_54 hy_5 => ?_) (fun hb_54 hy_5 => ?_)
                · try simp only [↓DN, UP, r1, r2, r3, r4, r5, r6, r7, reduceCtorEq, Try.f85]
                  obtain ⟨y_56, hy_57, hy_5⟩ := bS hy_5
                  refine seqK TryT_eq (fun p : Bool => ⟨[(0, .pv (.one (.imm 1 cells_1.length (cells_1.flatMap (eI .u32))))), (2, .pv (.one (.ptr 0 0))), (3, .pv (.one (.int .u32 v_2))), (5, .pv (.one (.ptr 1 0))), (112, .pv (.one (.bool p)))], [.live ⟨1, 5, [.int .i64 0, .str [], .int .i32 0, .bool false, .int .u32 0]⟩, .live ⟨1, 5, [.int .i64 0, .str [], .int .i32 0, .bool false, .int .u32 v_2]⟩]⟩) (fun v => y_56 = v) (by rfl) ?_ ?_
                  · try simp only [↓DN, UP, r1, r2, r3, r4, r5, r6, r7, reduceCtorEq, Try.f85]
                    refine stIf hy_57 (fun hb_58 hy_57 => ?_) (fun hb_58 hy_57 => ?_)
                    · obtain ⟨y_59, hy_59, hy_57⟩ := bS hy_57
                      have f18 := (shrI_lit (k := .u32) (a := v_2) (b := 4) (m := 16) (by decide) (by decide))
                      try simp only [↓DN, UP, r1, r2, r3, r4, r5, r6, r7, reduceCtorEq, Try.f85, hb_58, f18]
                      refine cG [] (c_impl_FieldOk hy_59) (hK := fun rd b => ?_)
                      try simp only [↓DN, UP, r1, r2, r3, r4, r5, r6, r7, reduceCtorEq, Try.f85, hb_58, f18]
                      obtain rfl := Option.some.inj hy_57
                      exact cutT_mk y_59 rfl (wn [0, 2, 3, 5, 112] [0, 1])
                    · try simp only [↓DN, UP, r1, r2, r3, r4, r5, r6, r7, reduceCtorEq, Try.f85, hb_58]
                      obtain rfl := Option.some.inj hy_57
                      exact cutT_mk false rfl (wn [0, 2, 3, 5, 112] [0, 1])
                  · rintro v_55 hp
                    replace hp := hp.symm; subst hp
                    try dsimp only at hy_5
                    try simp only [↓DN, UP, r1, r2, r3, r4, r5, r6, r7, reduceCtorEq, Try.f85]
                    refine stIf hy_5 (fun hb_60 hy_5 => ?_) (fun hb_60 hy_5 => ?_)
                    · obtain ⟨y_61, hy_61, hy_5⟩ := bS hy_5
                      have f19 := (shrI_lit (k := .u32) (a := v_2) (b := 4) (m := 16) (by decide) (by decide))
                      try simp only [↓DN, UP, r1, r2, r3, r4, r5, r6, r7, reduceCtorEq, Try.f85, f19]
                      refine callE [] (rd1 := []) (rd2 := []) 9 rfl (by simp only [WL, r1, r2, r3, r4, r5, r6, r7, reduceCtorEq]) (by simp only [WL, r1, r2, r3, r4, r5, r6, r7, reduceCtorEq]) rfl (c_impl_UnpackOne hy_61) (by simp only [WL, r1, r2, r3, r4, r5, r6, r7, reduceCtorEq]) ?_
                      obtain ⟨v_62, hv_62, hy_5⟩ := bS hy_5
                      have f20 := (fAt (eI_ok .u32) hv_62 (n := cells_1.length) (by simp))
                      try simp only [↓DN, UP, r1, r2, r3, r4, r5, r6, r7, reduceCtorEq, Try.f85, f19, f20]
                      refine ⟨rfl, ?_⟩
                      try simp only [↓DN, UP, r1, r2, r3, r4, r5, r6, r7, reduceCtorEq, Try.f85, f19, f20]
                      obtain rfl := Option.some.inj hy_5
                      exact cutT_mk (⟨9, y_61, IntKind.wrap .i32 v_62, false, 0⟩ : GItem) rfl (wn [2, 5] [0, 1])
                    · try simp only [↓DN, UP, r1, r2, r3, r4, r5, r6, r7, reduceCtorEq, Try.f85]
                      obtain rfl := Option.some.inj hy_5
                      exact cutT_mk (⟨0, [], 0, false, v_2⟩ : GItem) rfl (wn [2, 5] [0, 1])
                · try simp only [↓DN, UP, r1, r2, r3, r4, r5, r6, r7, reduceCtorEq, Try.f85]
                  obtain rfl := Option.some.inj hy_5
                  exact cutT_mk (⟨0, [], 0, false, v_2⟩ : GItem) rfl (wn [2, 5] [0, 1])
  · rintro it_3 hp
    replace hp := hp.symm; subst hp
    try dsimp only at h
    try simp only [↓DN, UP, r1, r2, r3, r4, r5, r6, r7, reduceCtorEq, Try.f85]
    obtain rfl := Option.some.inj h
    refine endT_of ?_ ⟨rfl, rfl⟩
    exact (wn [0] [])
theorem c_impl_ParseCells {cells_1 : List Int} {r : (List GItem)} (h : g_impl_ParseCells cells_1 = some r) : Ans Try.prog 61 [.one (.imm 1 cells_1.length (cells_1.flatMap (eI .u32)))] [] fun v h1 => v = .pv (.one (.arr 0 0 r.length)) ∧ h1 = [.live ⟨5, r.length, r.flatMap GItem.cs⟩] := by
  refine ansK (P := fun _ => Try.prog) TryT_eq (fn := Try.f61) Try.func61 rfl ⟨by kernel_rfl, rfl, rfl, by kernel_rfl⟩ (by simp) (Weak.refl _ _) ?_
  rw [g_impl_ParseCells] at h
  try simp only [↓DN, UP, r1, r2, r3, r4, r5, r6, r7, reduceCtorEq, Try.f61]
  refine seqN TryT_eq rfl ?_
  try simp only [↓DN, UP, r1, r2, r3, r4, r5, r6, r7, reduceCtorEq, Try.f61]
  refine stIf h (fun hb_2 h => ?_) (fun hb_2 h => ?_)
  · try simp only [↓DN, UP, r1, r2, r3, r4, r5, r6, r7, reduceCtorEq, Try.f61]
    obtain rfl := Option.some.inj h
    refine endT_of ?_ ⟨rfl, rfl⟩
    exact ((weak_norm (ks := [0]) (π := []) (fuel := 9) (s' := ⟨[(0, .pv (.one (.emp)))], []⟩) (by simp only [WL, r1, r2, r3, r4, r5, r6, r7, reduceCtorEq])).trans (weak_le (by simp only [LEb, r1, r2, r3, r4, r5, r6, r7, reduceCtorEq, TL]) (by simp only [LEb, r1, r2, r3, r4, r5, r6, r7, reduceCtorEq, TL])))
  · have f1 := (show bldN 0 = 0 from rfl)
    have f2 := (show bldC [] = ([] : List GItem).flatMap GItem.cs from rfl)
    try simp only [↓DN, UP, r1, r2, r3, r4, r5, r6, r7, reduceCtorEq, Try.f61, f1, f2]
    obtain ⟨y_6, hy_7, h⟩ := bS h
    refine seqK TryT_eq (fun p : (List GItem) => ⟨[(3, .pv (.one (.arr 0 0 p.length)))], [.live ⟨5, p.length, p.flatMap GItem.cs⟩]⟩) (fun v => y_6 = v) (by rfl) ?_ ?_
    · try simp only [↓DN, UP, r1, r2, r3, r4, r5, r6, r7, reduceCtorEq, Try.f61, f1, f2]
      refine loopK TryT_eq (fun p : (List Int) × (List GItem) => ⟨[(0, .pv (.one (.imm 1 p.1.length (p.1.flatMap (eI .u32))))), (3, .pv (.one (.arr 0 0 p.2.length)))], [.live ⟨5, p.2.length, p.2.flatMap GItem.cs⟩]⟩) (fun k p => g_impl_ParseCells_l0 k p.1 p.2 = some y_6) (by kernel_rfl) bigK (cells_1, ([] : List GItem)) (weak_norm (ks := [0, 3]) (π := [0]) (fuel := 9) (by simp only [WL, r1, r2, r3, r4, r5, r6, r7, reduceCtorEq, fWin GItem.ok (n := 0) (xs := ([] : List GItem)) (by simp)])) hy_7 (fun _ h => nomatch (show none = some _ from h)) ?_
      rintro k_8 ⟨cells_3, out_4⟩ hk_9
      rw [g_impl_ParseCells_l0] at hk_9
      try dsimp only at hk_9
      try simp only [↓DN, UP, r1, r2, r3, r4, r5, r6, r7, reduceCtorEq, Try.f61]
      refine seqN TryT_eq rfl ?_
      try simp only [↓DN, UP, r1, r2, r3, r4, r5, r6, r7, reduceCtorEq, Try.f61]
      refine stIf hk_9 (fun hb_10 hk_9 => ?_) (fun hb_10 hk_9 => ?_)
      · obtain ⟨y_11, hy_11, hk_9⟩ := bS hk_9
        try simp only [↓DN, UP, r1, r2, r3, r4, r5, r6, r7, reduceCtorEq, Try.f61]
        refine cG [] (c_impl_parseOne hy_11) (hK := fun rd b => ?_)
        obtain ⟨v_12, hv_12, hk_9⟩ := bS hk_9
        obtain ⟨y_13, hy_13, hk_9⟩ := bS hk_9
        have f3 := (show bldN 1 = 1 from rfl)
        have f4 := (show bldC [.int .i64 y_11.Kind, .str y_11.Name, .int .i32 y_11.N, .bool y_11.Hex, .int .u32 y_11.Raw] = [y_11].flatMap GItem.cs from rfl)
        have f5 := (fWin GItem.ok (n := 1) (xs := [y_11]) (by simp))
        have f6 := (fApp hv_12 (n := out_4.length) (by simp) (m := 1) (by simp [bsOf]))
        have f7 := (fWin GItem.ok (n := out_4.length) (xs := out_4) (by simp))
        have f8 := (fCat (e := GItem.cs) (ns := [y_11].flatMap GItem.cs) hv_12 rfl)
        try simp only [↓DN, UP, r1, r2, r3, r4, r5, r6, r7, reduceCtorEq, Try.f61, f3, f4, f5, f6, f7, f8]
        refine cG [] (c_impl_CellsOf hy_13) (hK := fun rd b => ?_)
        obtain ⟨v_14, hv_14, hk_9⟩ := bS hk_9
        have f9 := (fSubC (eI_ok .u32) hv_14 (n := cells_3.length) (by simp))
        try simp only [↓DN, UP, r1, r2, r3, r4, r5, r6, r7, reduceCtorEq, Try.f61, f3, f4, f5, f6, f7, f8, f9]
        exact ⟨(v_14, v_12), hk_9, (wn [0, 3] [3])⟩
      · try simp only [↓DN, UP, r1, r2, r3, r4, r5, r6, r7, reduceCtorEq, Try.f61]
        obtain rfl := Option.some.inj hk_9
        exact cutT_mk out_4 rfl (wn [3] [0])
    · rintro out_5 hp
      replace hp := hp.symm; subst hp
      try dsimp only at h
      try simp only [↓DN, UP, r1, r2, r3, r4, r5, r6, r7, reduceCtorEq, Try.f61]
      obtain ⟨y_16, hy_17, h⟩ := bS h
      refine seqK TryT_eq (fun p : (List GItem) => ⟨[(3, .pv (.one (.arr 0 0 p.length)))], [.live ⟨5, p.length, p.flatMap GItem.cs⟩]⟩) (fun v => y_16 = v) (by rfl) ?_ ?_
      · try simp only [↓DN, UP, r1, r2, r3, r4, r5, r6, r7, reduceCtorEq, Try.f61]
        obtain ⟨y_21, hy_22, hy_17⟩ := bS hy_17
        refine loopK TryT_eq (fun p : (List GItem) × Int => ⟨[(3, .pv (.one (.arr 0 0 p.1.length))), (5, .pv (.one (.int .i64 p.2)))], [.live ⟨5, p.1.length, p.1.flatMap GItem.cs⟩]⟩) (fun k p => g_impl_ParseCells_l1 k p.1 p.2 = some y_21) (by kernel_rfl) bigK (out_5, IntKind.wrap .i64 ((out_5.length : Int) - 1)) (wn [3, 5] [0]) hy_22 (fun _ h => nomatch (show none = some _ from h)) ?_
        rintro k_23 ⟨out_18, n_19⟩ hk_24
        rw [g_impl_ParseCells_l1] at hk_24
        try dsimp only at hk_24
        try simp only [↓DN, UP, r1, r2, r3, r4, r5, r6, r7, reduceCtorEq, Try.f61]
        refine seqN TryT_eq rfl ?_
        try simp only [↓DN, UP, r1, r2, r3, r4, r5, r6, r7, reduceCtorEq, Try.f61]
        obtain ⟨y_26, hy_27, hk_24⟩ := bS hk_24
        refine seqK TryT_eq (fun p : Bool => ⟨[(3, .pv (.one (.arr 0 0 out_18.length))), (5, .pv (.one (.int .i64 n_19))), (36, .pv (.one (.bool p)))], [.live ⟨5, out_18.length, out_18.flatMap GItem.cs⟩]⟩) (fun v => y_26 = v) (by rfl) ?_ ?_
        · try simp only [↓DN, UP, r1, r2, r3, r4, r5, r6, r7, reduceCtorEq, Try.f61]
          refine stIf hy_27 (fun hb_28 hy_27 => ?_) (fun hb_28 hy_27 => ?_)
          · obtain ⟨v_29, hv_29, hy_27⟩ := bS hy_27
            have f10 := (fPtr hv_29 (k := 5) (n := out_18.length) (by simp))
            have f11 := (fGet0 GItem.ok hv_29 (m := 5) (by decide) (by decide))
            try simp only [↓DN, UP, r1, r2, r3, r4, r5, r6, r7, reduceCtorEq, Try.f61, hb_28, f10, f11]
            obtain rfl := Option.some.inj hy_27
            exact cutT_mk ((v_29.Kind : Int) == 0 && ((v_29.Name : Bs) == [] && ((v_29.N : Int) == 0 && ((v_29.Hex : Bool) == false && ((v_29.Raw : Int) == 0 && true))))) rfl (wn [3, 5, 36] [0])
          · try simp only [↓DN, UP, r1, r2, r3, r4, r5, r6, r7, reduceCtorEq, Try.f61, hb_28]
            obtain rfl := Option.some.inj hy_27
            exact cutT_mk false rfl (wn [3, 5, 36] [0])
        · rintro v_25 hp
          replace hp := hp.symm; subst hp
          try dsimp only at hk_24
          try simp only [↓DN, UP, r1, r2, r3, r4, r5, r6, r7, reduceCtorEq, Try.f61]
          refine stIf hk_24 (fun hb_30 hk_24 => ?_) (fun hb_30 hk_24 => ?_)
          · try simp only [↓DN, UP, r1, r2, r3, r4, r5, r6, r7, reduceCtorEq, Try.f61]
            refine seqN TryT_eq rfl ?_
            obtain ⟨v_31, hv_31, hk_24⟩ := bS hk_24
            have f12 := (fSubN hv_31 (n := out_18.length) (by simp))
            try simp only [↓DN, UP, r1, r2, r3, r4, r5, r6, r7, reduceCtorEq, Try.f61, f12]
            exact ⟨(v_31, IntKind.wrap .i64 (n_19 - 1)), hk_24, ((weak_trim 0 0 v_31.length (b := ⟨_, _, _⟩) rfl (fLeW hv_31 (by simp) (by simp)) (by decide)).trans (weak_norm (ks := [3, 5]) (π := [0]) (fuel := 9) (by simp only [trS, trE, trH, trHS, trSV, trP, trC, ML, MB, and_self, r1, r2, r3, r4, r5, r6, r7, reduceCtorEq, TL, TT, fTrim0 GItem.ok hv_31 (lo := 0) (by simp), fTr GItem.ok])))⟩
          · obtain rfl := Option.some.inj hk_24
            try dsimp only at hy_17
            try simp only [↓DN, UP, r1, r2, r3, r4, r5, r6, r7, reduceCtorEq, Try.f61]
            obtain rfl := Option.some.inj hy_17
            exact cutT_mk out_18 rfl (wn [3] [0])
      · rintro out_15 hp
        replace hp := hp.symm; subst hp
        try dsimp only at h
        try simp only [↓DN, UP, r1, r2, r3, r4, r5, r6, r7, reduceCtorEq, Try.f61]
        obtain rfl := Option.some.inj h
        refine endT_of ?_ ⟨rfl, rfl⟩
        exact (wn [0] [0])
theorem c_impl_hasRawc1 {it_1 : GItem} {r : Bool} (h : g_impl_hasRawc1 it_1 = some r) : Ans Try.prog 87 [.agg [.int .i64 it_1.Kind, .str it_1.Name, .int .i32 it_1.N, .bool it_1.Hex, .int .u32 it_1.Raw]] [] fun v h1 => v = .pv (.one (.bool r)) ∧ h1 = [] := by
  refine ansK (P := fun _ => Try.prog) TryT_eq (fn := Try.f87) Try.func87 rfl ⟨by kernel_rfl, rfl, rfl, by kernel_rfl⟩ (by simp) (Weak.refl _ _) ?_
  rw [g_impl_hasRawc1] at h
  try simp only [↓DN, UP, r1, r2, r3, r4, r5, r6, r7, reduceCtorEq, Try.f87]
  obtain rfl := Option.some.inj h
  refine endT_of ?_ ⟨rfl, rfl⟩
  exact (wn [0] [])
theorem c_slices_IndexFunc_Item_impl_hasRawc1 {s_1 : List GItem} {r : Int} (h : g_slices_IndexFunc_Item_impl_hasRawc1 s_1 = some r) : Ans Try.prog 114 [.one (.imm 5 s_1.length (s_1.flatMap GItem.cs)), .one (.fn 87 [])] [] fun v h1 => v = .pv (.one (.int .i64 r)) ∧ h1 = [] := by
  refine ansK (P := fun _ => Try.prog) TryT_eq (fn := Try.f114) Try.func114 rfl ⟨by kernel_rfl, rfl, rfl, by kernel_rfl⟩ (by simp) (Weak.refl _ _) ?_
  rw [g_slices_IndexFunc_Item_impl_hasRawc1] at h
  try simp only [↓DN, UP, r1, r2, r3, r4, r5, r6, r7, reduceCtorEq, Try.f114]
  obtain ⟨y_3, hy_4, h⟩ := bS h
  refine seqK TryT_eq (fun p : Unit => ⟨[], []⟩) (fun v => y_3 = .inl v) (by rfl) ?_ ?_
  · try simp only [↓DN, UP, r1, r2, r3, r4, r5, r6, r7, reduceCtorEq, Try.f114]
    obtain ⟨y_7, hy_8, hy_4⟩ := bS hy_4
    refine loopK TryT_eq (fun p : Int => ⟨[(0, .pv (.one (.imm 5 s_1.length (s_1.flatMap GItem.cs)))), (1, .pv (.one (.fn 87 []))), (7, .pv (.one (.int .i64 (s_1.length : Int)))), (8, .pv (.one (.int .i64 p)))], []⟩) (fun k p => g_slices_IndexFunc_Item_impl_hasRawc1_l0 s_1 k p = some y_7) (by kernel_rfl) bigK 0 (wn [0, 1, 7, 8] []) hy_8 (fun _ h => nomatch (show none = some _ from h)) ?_
    rintro k_9 v_5 hk_10
    rw [g_slices_IndexFunc_Item_impl_hasRawc1_l0] at hk_10
    try dsimp only at hk_10
    try simp only [↓DN, UP, r1, r2, r3, r4, r5, r6, r7, reduceCtorEq, Try.f114]
    refine seqN TryT_eq rfl ?_
    try simp only [↓DN, UP, r1, r2, r3, r4, r5, r6, r7, reduceCtorEq, Try.f114]
    refine stIf hk_10 (fun hb_11 hk_10 => ?_) (fun hb_11 hk_10 => ?_)
    · try simp only [↓DN, UP, r1, r2, r3, r4, r5, r6, r7, reduceCtorEq, Try.f114]
      refine seqN TryT_eq rfl ?_
      obtain ⟨v_12, hv_12, hk_10⟩ := bS hk_10
      obtain ⟨y_13, hy_13, hk_10⟩ := bS hk_10
      have f1 := (fAt GItem.ok hv_12 (n := s_1.length) (by simp))
      try simp only [↓DN, UP, r1, r2, r3, r4, r5, r6, r7, reduceCtorEq, Try.f114, f1]
      refine cG [] (c_impl_hasRawc1 hy_13) (hK := fun rd b => ?_)
      try simp only [↓DN, UP, r1, r2, r3, r4, r5, r6, r7, reduceCtorEq, Try.f114, f1]
      refine stIf hk_10 (fun hb_14 hk_10 => ?_) (fun hb_14 hk_10 => ?_)
      · obtain rfl := Option.some.inj hk_10
        try dsimp only at hy_4
        obtain rfl := Option.some.inj hy_4
        try dsimp only at h
        try simp only [↓DN, UP, r1, r2, r3, r4, r5, r6, r7, reduceCtorEq, Try.f114, f1]
        obtain rfl := Option.some.inj h
        refine endT_of ?_ ⟨rfl, rfl⟩
        exact (wn [0] [])
      · try simp only [↓DN, UP, r1, r2, r3, r4, r5, r6, r7, reduceCtorEq, Try.f114, f1]
        exact ⟨IntKind.wrap .i64 (v_5 + 1), hk_10, (wn [0, 1, 7, 8] [])⟩
    · obtain rfl := Option.some.inj hk_10
      try dsimp only at hy_4
      try simp only [↓DN, UP, r1, r2, r3, r4, r5, r6, r7, reduceCtorEq, Try.f114]
      obtain rfl := Option.some.inj hy_4
      exact cutT_mk () (by trivial) (wn [] [])
  · rintro _ hp
    replace hp := hp.symm; subst hp
    try dsimp only at h
    try simp only [↓DN, UP, r1, r2, r3, r4, r5, r6, r7, reduceCtorEq, Try.f114]
    obtain rfl := Option.some.inj h
    refine endT_of ?_ ⟨rfl, rfl⟩
    exact (wn [0] [])
theorem c_slices_ContainsFunc_Item_impl_hasRawc1 {s_1 : List GItem} {r : Bool} (h : g_slices_ContainsFunc_Item_impl_hasRawc1 s_1 = some r) : Ans Try.prog 86 [.one (.imm 5 s_1.length (s_1.flatMap GItem.cs)), .one (.fn 87 [])] [] fun v h1 => v = .pv (.one (.bool r)) ∧ h1 = [] := by
  refine ansK (P := fun _ => Try.prog) TryT_eq (fn := Try.f86) Try.func86 rfl ⟨by kernel_rfl, rfl, rfl, by kernel_rfl⟩ (by simp) (Weak.refl _ _) ?_
  rw [g_slices_ContainsFunc_Item_impl_hasRawc1] at h
  obtain ⟨y_2, hy_2, h⟩ := bS h
  try simp only [↓DN, UP, r1, r2, r3, r4, r5, r6, r7, reduceCtorEq, Try.f86]
  refine cG [] (c_slices_IndexFunc_Item_impl_hasRawc1 hy_2) (hK := fun rd b => ?_)
  try simp only [↓DN, UP, r1, r2, r3, r4, r5, r6, r7, reduceCtorEq, Try.f86]
  obtain rfl := Option.some.inj h
  refine endT_of ?_ ⟨rfl, rfl⟩
  exact (wn [0] [])
theorem c_impl_hasRaw {list_1 : List GItem} {r : Bool} (h : g_impl_hasRaw list_1 = some r) : Ans Try.prog 62 [.one (.imm 5 list_1.length (list_1.flatMap GItem.cs))] [] fun v h1 => v = .pv (.one (.bool r)) ∧ h1 = [] := by
  refine ansK (P := fun _ => Try.prog) TryT_eq (fn := Try.f62) Try.func62 rfl ⟨by kernel_rfl, rfl, rfl, by kernel_rfl⟩ (by simp) (Weak.refl _ _) ?_
  rw [g_impl_hasRaw] at h
  obtain ⟨y_2, hy_2, h⟩ := bS h
  try simp only [↓DN, UP, r1, r2, r3, r4, r5, r6, r7, reduceCtorEq, Try.f62]
  refine cG [] (c_slices_ContainsFunc_Item_impl_hasRawc1 hy_2) (hK := fun rd b => ?_)
  try simp only [↓DN, UP, r1, r2, r3, r4, r5, r6, r7, reduceCtorEq, Try.f62]
  obtain rfl := Option.some.inj h
  refine endT_of ?_ ⟨rfl, rfl⟩
  exact (wn [0] [])
end Go.Proofs.Ythhoellakpnjpaa
