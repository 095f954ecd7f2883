import Derived.Test.YtigaffddnidkpaaGD
namespace Go.Proofs.Ytigaffddnidkpaa
open Go Go.Fm
open Nat renaming reduceEqDiff → r1, reduceLT → r2, reduceLeDiff → r3, reduceAdd → r4, reduceMul → r5, reduceSub → r6
open Int renaming reduceToNat → r7
set_option maxRecDepth 100000
set_option linter.unusedVariables false
set_option linter.unusedSimpArgs false
theorem c_laws_szItem {a_1 : GItem} {left_2 : Int} {r : Int} (h : g_laws_szItem a_1 left_2 = some r) : Ans Try.prog 12 [.agg [.int .i64 a_1.Kind, .str a_1.Name, .int .i32 a_1.N, .bool a_1.Hex, .int .u32 a_1.Raw], .one (.int .i64 left_2)] [] fun v h1 => v = .pv (.one (.int .i64 r)) ∧ h1 = [] := by
  refine ansK (P := fun _ => Try.prog) TryT_eq (fn := Try.f12) Try.func12 rfl ⟨by kernel_rfl, rfl, rfl, by kernel_rfl⟩ (by simp) (Weak.refl _ _) ?_
  rw [g_laws_szItem] at h
  try simp only [↓DN, UP, r1, r2, r3, r4, r5, r6, r7, reduceCtorEq, Try.f12]
  refine seqN TryT_eq rfl ?_
  try simp only [↓DN, UP, r1, r2, r3, r4, r5, r6, r7, reduceCtorEq, Try.f12]
  refine stIf h (fun hb_3 h => ?_) (fun hb_3 h => ?_)
  · try simp only [↓DN, UP, r1, r2, r3, r4, r5, r6, r7, reduceCtorEq, Try.f12]
    obtain rfl := Option.some.inj h
    refine endT_of ?_ ⟨rfl, rfl⟩
    exact (wn [0] [])
  · try simp only [↓DN, UP, r1, r2, r3, r4, r5, r6, r7, reduceCtorEq, Try.f12]
    obtain rfl := Option.some.inj h
    refine endT_of ?_ ⟨rfl, rfl⟩
    exact (wn [0] [])
theorem c_laws_szItemS {a_1 : List GItem} {left_2 : Int} {r : Int} (h : g_laws_szItemS a_1 left_2 = some r) : Ans Try.prog 5 [.one (.imm 5 a_1.length (a_1.flatMap GItem.cs)), .one (.int .i64 left_2)] [] fun v h1 => v = .pv (.one (.int .i64 r)) ∧ h1 = [] := by
  refine ansK (P := fun _ => Try.prog) TryT_eq (fn := Try.f5) Try.func5 rfl ⟨by kernel_rfl, rfl, rfl, by kernel_rfl⟩ (by simp) (Weak.refl _ _) ?_
  rw [g_laws_szItemS] at h
  try simp only [↓DN, UP, r1, r2, r3, r4, r5, r6, r7, reduceCtorEq, Try.f5]
  refine seqN TryT_eq rfl ?_
  try simp only [↓DN, UP, r1, r2, r3, r4, r5, r6, r7, reduceCtorEq, Try.f5]
  refine stIf h (fun hb_3 h => ?_) (fun hb_3 h => ?_)
  · try simp only [↓DN, UP, r1, r2, r3, r4, r5, r6, r7, reduceCtorEq, Try.f5]
    obtain rfl := Option.some.inj h
    refine endT_of ?_ ⟨rfl, rfl⟩
    exact (wn [0] [])
  · try simp only [↓DN, UP, r1, r2, r3, r4, r5, r6, r7, reduceCtorEq, Try.f5]
    obtain ⟨y_5, hy_6, h⟩ := bS h
    refine seqK TryT_eq (fun p : Int => ⟨[(1, .pv (.one (.int .i64 p)))], []⟩) (fun v => y_5 = .inl v) (by rfl) ?_ ?_
    · try simp only [↓DN, UP, r1, r2, r3, r4, r5, r6, r7, reduceCtorEq, Try.f5]
      obtain ⟨y_10, hy_11, hy_6⟩ := bS hy_6
      refine loopK TryT_eq (fun p : Int × Int => ⟨[(0, .pv (.one (.imm 5 a_1.length (a_1.flatMap GItem.cs)))), (1, .pv (.one (.int .i64 p.1))), (5, .pv (.one (.int .i64 p.2)))], []⟩) (fun k p => g_laws_szItemS_l0 a_1 k p.1 p.2 = some y_10) (by kernel_rfl) bigK (IntKind.wrap .i64 (left_2 - (a_1.length : Int)), 0) (wn [0, 1, 5] []) hy_11 (fun _ h => nomatch (show none = some _ from h)) ?_
      rintro k_12 ⟨left_7, i_8⟩ hk_13
      rw [g_laws_szItemS_l0] at hk_13
      try dsimp only at hk_13
      try simp only [↓DN, UP, r1, r2, r3, r4, r5, r6, r7, reduceCtorEq, Try.f5]
      refine seqN TryT_eq rfl ?_
      try simp only [↓DN, UP, r1, r2, r3, r4, r5, r6, r7, reduceCtorEq, Try.f5]
      refine stIf hk_13 (fun hb_14 hk_13 => ?_) (fun hb_14 hk_13 => ?_)
      · try simp only [↓DN, UP, r1, r2, r3, r4, r5, r6, r7, reduceCtorEq, Try.f5]
        refine seqN TryT_eq rfl ?_
        obtain ⟨v_15, hv_15, hk_13⟩ := bS hk_13
        obtain ⟨y_16, hy_16, hk_13⟩ := bS hk_13
        have f1 := (fAt GItem.ok hv_15 (n := a_1.length) (by simp))
        try simp only [↓DN, UP, r1, r2, r3, r4, r5, r6, r7, reduceCtorEq, Try.f5, f1]
        refine cG [] (c_laws_szItem hy_16) (hK := fun rd b => ?_)
        try simp only [↓DN, UP, r1, r2, r3, r4, r5, r6, r7, reduceCtorEq, Try.f5, f1]
        refine stIf hk_13 (fun hb_17 hk_13 => ?_) (fun hb_17 hk_13 => ?_)
        · obtain rfl := Option.some.inj hk_13
          try dsimp only at hy_6
          obtain rfl := Option.some.inj hy_6
          try dsimp only at h
          try simp only [↓DN, UP, r1, r2, r3, r4, r5, r6, r7, reduceCtorEq, Try.f5, f1]
          obtain rfl := Option.some.inj h
          refine endT_of ?_ ⟨rfl, rfl⟩
          exact (wn [0] [])
        · try simp only [↓DN, UP, r1, r2, r3, r4, r5, r6, r7, reduceCtorEq, Try.f5, f1]
          exact ⟨(y_16, IntKind.wrap .i64 (i_8 + 1)), hk_13, (wn [0, 1, 5] [])⟩
      · obtain rfl := Option.some.inj hk_13
        try dsimp only at hy_6
        try simp only [↓DN, UP, r1, r2, r3, r4, r5, r6, r7, reduceCtorEq, Try.f5]
        obtain rfl := Option.some.inj hy_6
        exact cutT_mk left_7 rfl (wn [1] [])
    · rintro left_4 hp
      replace hp := hp.symm; subst hp
      try dsimp only at h
      try simp only [↓DN, UP, r1, r2, r3, r4, r5, r6, r7, reduceCtorEq, Try.f5]
      obtain rfl := Option.some.inj h
      refine endT_of ?_ ⟨rfl, rfl⟩
      exact (wn [0] [])
theorem c_laws_toItem {a_1 : GItem} {r : GItem} (h : g_laws_toItem a_1 = some r) : Ans Try.prog 14 [.agg [.int .i64 a_1.Kind, .str a_1.Name, .int .i32 a_1.N, .bool a_1.Hex, .int .u32 a_1.Raw]] [] fun v h1 => v = .pv (.agg [.int .i64 r.Kind, .str r.Name, .int .i32 r.N, .bool r.Hex, .int .u32 r.Raw]) ∧ h1 = [] := by
  refine ansK (P := fun _ => Try.prog) TryT_eq (fn := Try.f14) Try.func14 rfl ⟨by kernel_rfl, rfl, rfl, by kernel_rfl⟩ (by simp) (Weak.refl _ _) ?_
  rw [g_laws_toItem] at h
  try simp only [↓DN, UP, r1, r2, r3, r4, r5, r6, r7, reduceCtorEq, Try.f14]
  obtain rfl := Option.some.inj h
  refine endT_of ?_ ⟨rfl, rfl⟩
  exact (wn [0] [])
theorem c_laws_toItemS {a_1 : List GItem} {r : (List GItem)} (h : g_laws_toItemS a_1 = some r) : Ans Try.prog 7 [.one (.imm 5 a_1.length (a_1.flatMap GItem.cs))] [] fun v h1 => v = .pv (.one (.arr 0 0 r.length)) ∧ h1 = [.live ⟨5, r.length, r.flatMap GItem.cs⟩] := by
  refine ansK (P := fun _ => Try.prog) TryT_eq (fn := Try.f7) Try.func7 rfl ⟨by kernel_rfl, rfl, rfl, by kernel_rfl⟩ (by simp) (Weak.refl _ _) ?_
  rw [g_laws_toItemS] at h
  obtain ⟨v_2, hv_2, h⟩ := bS h
  have f1 := (fMk hv_2)
  have f2 := (fMkC (e := GItem.cs) (ns := [.int .i64 0, .str [], .int .i32 0, .bool false, .int .u32 0]) hv_2 rfl)
  try simp only [↓DN, UP, r1, r2, r3, r4, r5, r6, r7, reduceCtorEq, Try.f7, f1, f2]
  obtain ⟨y_4, hy_5, h⟩ := bS h
  refine seqK TryT_eq (fun p : (List GItem) => ⟨[(3, .pv (.one (.arr 0 0 p.length)))], [.live ⟨5, p.length, p.flatMap GItem.cs⟩]⟩) (fun v => y_4 = v) (by rfl) ?_ ?_
  · try simp only [↓DN, UP, r1, r2, r3, r4, r5, r6, r7, reduceCtorEq, Try.f7, f1, f2]
    obtain ⟨y_9, hy_10, hy_5⟩ := bS hy_5
    refine loopK TryT_eq (fun p : (List GItem) × Int => ⟨[(0, .pv (.one (.imm 5 a_1.length (a_1.flatMap GItem.cs)))), (3, .pv (.one (.arr 0 0 p.1.length))), (4, .pv (.one (.int .i64 p.2)))], [.live ⟨5, p.1.length, p.1.flatMap GItem.cs⟩]⟩) (fun k p => g_laws_toItemS_l0 a_1 k p.1 p.2 = some y_9) (by kernel_rfl) bigK (v_2, 0) (wn [0, 3, 4] [0]) hy_10 (fun _ h => nomatch (show none = some _ from h)) ?_
    rintro k_11 ⟨out_6, i_7⟩ hk_12
    rw [g_laws_toItemS_l0] at hk_12
    try dsimp only at hk_12
    try simp only [↓DN, UP, r1, r2, r3, r4, r5, r6, r7, reduceCtorEq, Try.f7]
    refine seqN TryT_eq rfl ?_
    try simp only [↓DN, UP, r1, r2, r3, r4, r5, r6, r7, reduceCtorEq, Try.f7]
    refine stIf hk_12 (fun hb_13 hk_12 => ?_) (fun hb_13 hk_12 => ?_)
    · try simp only [↓DN, UP, r1, r2, r3, r4, r5, r6, r7, reduceCtorEq, Try.f7]
      refine seqN TryT_eq rfl ?_
      obtain ⟨v_14, hv_14, hk_12⟩ := bS hk_12
      obtain ⟨y_15, hy_15, hk_12⟩ := bS hk_12
      have f3 := (fAt GItem.ok hv_14 (n := a_1.length) (by simp))
      try simp only [↓DN, UP, r1, r2, r3, r4, r5, r6, r7, reduceCtorEq, Try.f7, f3]
      refine cG [] (c_laws_toItem hy_15) (hK := fun rd b => ?_)
      obtain ⟨v_16, hv_16, hk_12⟩ := bS hk_12
      have f4 := (fPtr hv_16 (k := 5) (n := out_6.length) (by simp))
      have f5 := (fPut0 GItem.ok hv_16 (ns := [.int .i64 y_15.Kind, .str y_15.Name, .int .i32 y_15.N, .bool y_15.Hex, .int .u32 y_15.Raw]) (y := y_15) rfl)
      try simp only [↓DN, UP, r1, r2, r3, r4, r5, r6, r7, reduceCtorEq, Try.f7, f3, f4, f5]
      exact ⟨(out_6.set i_7.toNat y_15, IntKind.wrap .i64 (i_7 + 1)), hk_12, (weak_norm (ks := [0, 3, 4]) (π := [0]) (fuel := 9) (by simp only [WL, r1, r2, r3, r4, r5, r6, r7, reduceCtorEq, fWin GItem.ok (n := out_6.length) (xs := out_6.set i_7.toNat y_15) (by simp)]))⟩
    · obtain rfl := Option.some.inj hk_12
      try dsimp only at hy_5
      try simp only [↓DN, UP, r1, r2, r3, r4, r5, r6, r7, reduceCtorEq, Try.f7]
      obtain rfl := Option.some.inj hy_5
      exact cutT_mk out_6 rfl (wn [3] [0])
  · rintro out_3 hp
    replace hp := hp.symm; subst hp
    try dsimp only at h
    try simp only [↓DN, UP, r1, r2, r3, r4, r5, r6, r7, reduceCtorEq, Try.f7]
    obtain rfl := Option.some.inj h
    refine endT_of ?_ ⟨rfl, rfl⟩
    exact (wn [0] [0])
theorem c_spec_l14Max {a_1 : Int} {b_2 : Int} {r : Int} (h : g_spec_l14Max a_1 b_2 = some r) : Ans Try.prog 22 [.one (.int .i64 a_1), .one (.int .i64 b_2)] [] fun v h1 => v = .pv (.one (.int .i64 r)) ∧ h1 = [] := by
  refine ansK (P := fun _ => Try.prog) TryT_eq (fn := Try.f22) Try.func22 rfl ⟨by kernel_rfl, rfl, rfl, by kernel_rfl⟩ (by simp) (Weak.refl _ _) ?_
  rw [g_spec_l14Max] at h
  try simp only [↓DN, UP, r1, r2, r3, r4, r5, r6, r7, reduceCtorEq, Try.f22]
  refine seqN TryT_eq rfl ?_
  try simp only [↓DN, UP, r1, r2, r3, r4, r5, r6, r7, reduceCtorEq, Try.f22]
  refine stIf h (fun hb_3 h => ?_) (fun hb_3 h => ?_)
  · try simp only [↓DN, UP, r1, r2, r3, r4, r5, r6, r7, reduceCtorEq, Try.f22]
    obtain rfl := Option.some.inj h
    refine endT_of ?_ ⟨rfl, rfl⟩
    exact (wn [0] [])
  · try simp only [↓DN, UP, r1, r2, r3, r4, r5, r6, r7, reduceCtorEq, Try.f22]
    obtain rfl := Option.some.inj h
    refine endT_of ?_ ⟨rfl, rfl⟩
    exact (wn [0] [])
theorem c_spec_l22Table {a : List GItem} {b : List GItem} {r : List (List Int)} (h : g_spec_l22Table a b = some r) : Ans Try.prog 13 [.one (.imm 5 a.length (a.flatMap GItem.cs)), .one (.imm 5 b.length (b.flatMap GItem.cs))] [] fun v h1 => v = .pv (.one (.imm 1 r.length (r.flatMap (eL (eI .i64) 1)))) ∧ h1 = [] := by
  refine ansK (P := fun _ => Try.prog) TryT_eq (fn := Try.f13) Try.func13 rfl ⟨by kernel_rfl, rfl, rfl, by kernel_rfl⟩ (by simp) (Weak.refl _ _) ?_
  rw [g_spec_l22Table] at h
  obtain ⟨rows, hrows, h⟩ := bS h
  have f1 := (show bldN 0 = 0 from rfl)
  have f2 := (show bldC [] = [] from rfl)
  simp only [↓DN, UP, r1, r2, r3, r4, r5, r6, r7, reduceCtorEq, Try.f13, f1, f2]
  refine seqK TryT_eq (fun p : List HS × Nat × List Nat => ⟨[(0, .pv (.one (.imm 5 a.length (a.flatMap GItem.cs)))), (1, .pv (.one (.imm 5 b.length (b.flatMap GItem.cs)))), (5, .pv (.one (.arr p.2.1 0 p.2.2.length)))], p.1⟩) (fun p => TabInv p.1 p.2.1 p.2.2 rows (IntKind.wrap .i64 ((b.length : Int) + 1)).toNat) (by rfl) ?_ ?_
  · simp only [↓DN, UP, r1, r2, r3, r4, r5, r6, r7, reduceCtorEq, Try.f13]
    refine loopK TryT_eq (fun p : List HS × Nat × List Nat × List (List Int) × Int => ⟨[(0, .pv (.one (.imm 5 a.length (a.flatMap GItem.cs)))), (1, .pv (.one (.imm 5 b.length (b.flatMap GItem.cs)))), (5, .pv (.one (.arr p.2.1 0 p.2.2.1.length))), (6, .pv (.one (.int .i64 p.2.2.2.2)))], p.1⟩)
      (fun k p => TabInv p.1 p.2.1 p.2.2.1 p.2.2.2.1 (IntKind.wrap .i64 ((b.length : Int) + 1)).toNat ∧ g_spec_l22Table_l0 a b k p.2.2.2.1 p.2.2.2.2 = some rows) (by kernel_rfl) bigK ([.live ⟨1, 0, []⟩], 0, [], [], 0) (wn [0, 1, 5, 6] [0]) ⟨tab_nil _, hrows⟩ (fun p hp => nomatch (show none = some _ from hp.2)) ?_
    rintro k ⟨H, o, ids, rs, i⟩ ⟨I, hk⟩
    rw [g_spec_l22Table_l0] at hk
    dsimp only at I hk ⊢
    refine seqN TryT_eq rfl ?_
    simp only [↓DN, UP, r1, r2, r3, r4, r5, r6, r7, reduceCtorEq, Try.f13]
    refine stIf hk (fun hb hk => ?_) (fun hb hk => ?_)
    · simp only [↓DN, UP, r1, r2, r3, r4, r5, r6, r7, reduceCtorEq, Try.f13]
      obtain ⟨z, hz, hk⟩ := bS hk
      obtain ⟨rs', hrs', hk⟩ := bS hk
      have hlo := I.lto
      have hzl := mk_len hz
      have g1 := fMk hz
      have g2 := fMkC (e := eI .i64) (ns := [.int .i64 0]) hz rfl
      rw [hzl] at g1 g2
      have g3 : (o = H.length) = False := eq_false (by omega)
      have g4 : (o = H.length + 1) = False := eq_false (by omega)
      have g5 : (H.length = H.length + 1) = False := eq_false (by omega)
      have g6 : (H.length + 1 = H.length) = False := eq_false (by omega)
      have g7 := fApp hrs' (n := ids.length) I.len.symm (m := 1) rfl
      have g8 := I.ho
      refine seqN TryT_eq rfl ?_
      simp only [↓DN, UP, r1, r2, r3, r4, r5, r6, r7, reduceCtorEq, Try.f13, g1, g2, g3, g4, g5, g6, g7, g8, bldC_id, bldN_id, setH_end, hOf_setH, winId, winOne]
      obtain ⟨e1, e2⟩ := appSome hrs'
      subst e1
      have hlen : (rs ++ [z]).length = ids.length + 1 := by rw [List.length_append, I.len]; rfl
      rw [hlen]
      refine ⟨(_, H.length + 2, ids ++ [H.length], rs ++ [z], IntKind.wrap .i64 (i + 1)), ⟨TabInv.app I hzl (by rw [← hlen]; exact e2) (by simp only [setH_len]; omega) (by intro j; simp only [hOf_setH]; rfl), hk⟩, weak_sub (by simp [lk])⟩
    · simp only [↓DN, UP, r1, r2, r3, r4, r5, r6, r7, reduceCtorEq, Try.f13]
      cases hk
      exact cutT_mk (H, o, ids) I (weak_sub (by simp [lk]))
  · rintro ⟨H, o, ids⟩ I
    dsimp only at I ⊢
    refine seqK TryT_eq (fun p : List HS => ⟨[(0, .pv (.one (.imm 5 a.length (a.flatMap GItem.cs)))), (1, .pv (.one (.imm 5 b.length (b.flatMap GItem.cs)))), (5, .pv (.one (.arr o 0 ids.length)))], p⟩) (fun p => TabInv p o ids r (IntKind.wrap .i64 ((b.length : Int) + 1)).toNat) (by rfl) ?_ ?_
    · simp only [↓DN, UP, r1, r2, r3, r4, r5, r6, r7, reduceCtorEq, Try.f13]
      refine loopK TryT_eq (fun p : List HS × List (List Int) × Int => ⟨[(0, .pv (.one (.imm 5 a.length (a.flatMap GItem.cs)))), (1, .pv (.one (.imm 5 b.length (b.flatMap GItem.cs)))), (5, .pv (.one (.arr o 0 ids.length))), (7, .pv (.one (.int .i64 p.2.2)))], p.1⟩)
        (fun k p => TabInv p.1 o ids p.2.1 (IntKind.wrap .i64 ((b.length : Int) + 1)).toNat ∧ g_spec_l22Table_l1 a b k p.2.1 p.2.2 = some r) (by kernel_rfl) bigK (H, rows, IntKind.wrap .i64 ((a.length : Int) - 1)) (weak_sub (by simp [lk])) ⟨I, h⟩ (fun p hp => nomatch (show none = some _ from hp.2)) ?_
      rintro k ⟨H, rs, i⟩ ⟨I, hk⟩
      rw [g_spec_l22Table_l1] at hk
      dsimp only at I hk ⊢
      refine seqN TryT_eq rfl ?_
      simp only [↓DN, UP, r1, r2, r3, r4, r5, r6, r7, reduceCtorEq, Try.f13]
      refine stIf hk (fun hb hk => ?_) (fun hb hk => ?_)
      · simp only [↓DN, UP, r1, r2, r3, r4, r5, r6, r7, reduceCtorEq, Try.f13]
        obtain ⟨rs2, hrs2, hk⟩ := bS hk
        refine seqK TryT_eq (fun p : List HS => ⟨[(0, .pv (.one (.imm 5 a.length (a.flatMap GItem.cs)))), (1, .pv (.one (.imm 5 b.length (b.flatMap GItem.cs)))), (5, .pv (.one (.arr o 0 ids.length))), (7, .pv (.one (.int .i64 i)))], p⟩) (fun p => TabInv p o ids rs2 (IntKind.wrap .i64 ((b.length : Int) + 1)).toNat) (by rfl) ?_ ?_
        · simp only [↓DN, UP, r1, r2, r3, r4, r5, r6, r7, reduceCtorEq, Try.f13]
          refine loopK TryT_eq (fun p : List HS × List (List Int) × Int => ⟨[(0, .pv (.one (.imm 5 a.length (a.flatMap GItem.cs)))), (1, .pv (.one (.imm 5 b.length (b.flatMap GItem.cs)))), (5, .pv (.one (.arr o 0 ids.length))), (7, .pv (.one (.int .i64 i))), (8, .pv (.one (.int .i64 p.2.2)))], p.1⟩)
            (fun k p => TabInv p.1 o ids p.2.1 (IntKind.wrap .i64 ((b.length : Int) + 1)).toNat ∧ g_spec_l22Table_l2 a b i k p.2.1 p.2.2 = some rs2) (by kernel_rfl) bigK (H, rs, IntKind.wrap .i64 ((b.length : Int) - 1)) (weak_sub (by simp [lk])) ⟨I, hrs2⟩ (fun p hp => nomatch (show none = some _ from hp.2)) ?_
          clear hrs2 hk I
          rintro k ⟨H, rs, k1⟩ ⟨I, hk⟩
          rw [g_spec_l22Table_l2] at hk
          dsimp only at I hk ⊢
          refine seqN TryT_eq rfl ?_
          simp only [↓DN, UP, r1, r2, r3, r4, r5, r6, r7, reduceCtorEq, Try.f13]
          refine stIf hk (fun hb hk => ?_) (fun hb hk => ?_)
          · simp only [↓DN, UP, r1, r2, r3, r4, r5, r6, r7, reduceCtorEq, Try.f13]
            obtain ⟨rs3, hrs3, hk⟩ := bS hk
            refine seqK TryT_eq (fun p : List HS => ⟨[(0, .pv (.one (.imm 5 a.length (a.flatMap GItem.cs)))), (1, .pv (.one (.imm 5 b.length (b.flatMap GItem.cs)))), (5, .pv (.one (.arr o 0 ids.length))), (7, .pv (.one (.int .i64 i))), (8, .pv (.one (.int .i64 k1)))], p⟩) (fun p => TabInv p o ids rs3 (IntKind.wrap .i64 ((b.length : Int) + 1)).toNat) (by rfl) ?_ ?_
            · rw [g_spec_l22Table_s] at hrs3
              obtain ⟨ra, hrw, hrs3⟩ := bS hrs3
              obtain ⟨rx, hrx, hrs3⟩ := bS hrs3
              obtain ⟨x, hx, hrs3⟩ := bS hrs3
              obtain ⟨y, hy, hrs3⟩ := bS hrs3
              obtain ⟨z, hz, hrs3⟩ := bS hrs3
              obtain ⟨w, hw, hrs3⟩ := bS hrs3
              obtain ⟨p, hp, hrs3⟩ := bS hrs3
              obtain ⟨q, hq, hrs3⟩ := bS hrs3
              obtain ⟨id0, e1, e2, e3, e4, e5⟩ := I.get hrw
              obtain ⟨id1, d1, d2, d3, d4, d5⟩ := I.get hrx
              have hlo := I.ho
              have l0 := (I.row _ _ _ e1 e2).2
              have l1 := (I.row _ _ _ d1 d2).2
              have g1 := row_get hx l1
              have g2 := row_get hy l0
              have g3 := row_get hw l0
              simp only [↓DN, UP, r1, r2, r3, r4, r5, r6, r7, reduceCtorEq, Try.f13, hlo, e3, e4, e5, d3, d4, d5, g1.1, g1.2, g2.1, g2.2, g3.1, g3.2]
              refine callE [] (rd1 := []) (rd2 := []) 9 rfl rfl rfl rfl (c_spec_l14Max hz) rfl ?_
              have u1 := row_put hw z
              simp only [↓DN, UP, r1, r2, r3, r4, r5, r6, r7, reduceCtorEq, Try.f13, hlo, e3, e4, e5, d3, d4, d5, g1.1, g1.2, g2.1, g2.2, g3.1, g3.2, u1]
              refine ⟨draw_flat (by kernel_rfl), ?_⟩
              have I1 := I.set e1 e2 (r' := ra.set k1.toNat z) (by rw [List.length_set])
              have q1 := fAt GItem.ok hp (n := a.length) (by simp)
              have q2 := fAt GItem.ok hq (n := b.length) (by simp)
              generalize setH H id0 _ = H1 at I1 ⊢
              try simp only [↓DN, UP, r1, r2, r3, r4, r5, r6, r7, reduceCtorEq, Try.f13, q1, q2]
              refine ⟨rfl, ?_⟩
              refine stIf hrs3 (fun hb hrs3 => ?_) (fun hb hrs3 => ?_)
              · obtain ⟨v, hv, hrs3⟩ := bS hrs3
                obtain ⟨v2, hv2, hrs3⟩ := bS hrs3
                obtain rfl := Option.some.inj hrs3
                have hne := I.ne hrw
                have c0 := I1.ho
                obtain ⟨c1, c2⟩ := I1.row _ _ (ra.set k1.toNat z) e1 (by rw [List.getElem?_set_self (List.getElem?_eq_some_iff.1 e2).1])
                obtain ⟨c3, c4⟩ := I1.row _ _ rx d1 (by rw [List.getElem?_set_ne (Ne.symm hne)]; exact d2)
                have g4 := row_get hv c4
                have g5 := row_get hv2 c2
                have u2 := row_put hv2 (IntKind.wrap .i64 (v + 1))
                try simp only [↓DN, UP, r1, r2, r3, r4, r5, r6, r7, reduceCtorEq, Try.f13, c0, c1, c3, e4, e5, d4, d5, g4.1, g4.2, g5.1, g5.2, u2]
                refine ⟨draw_flat (by kernel_rfl), ?_⟩
                try simp only [↓DN, UP, r1, r2, r3, r4, r5, r6, r7, reduceCtorEq, Try.f13]
                have I2 := I1.set (r' := (ra.set k1.toNat z).set k1.toNat (IntKind.wrap .i64 (v + 1))) e1 (by rw [List.getElem?_set_self (List.getElem?_eq_some_iff.1 e2).1]) (by rw [List.length_set])
                rw [show ∀ Y, (rs.set i.toNat (ra.set k1.toNat z)).set i.toNat Y = rs.set i.toNat Y from fun Y => List.set_set _] at I2
                exact cutT_mk _ I2 (weak_sub (by simp [lk]))
              · obtain rfl := Option.some.inj hrs3
                try simp only [↓DN, UP, r1, r2, r3, r4, r5, r6, r7, reduceCtorEq, Try.f13]
                exact cutT_mk H1 I1 (weak_sub (by simp [lk]))
            · intro H I
              simp only [↓DN, UP, r1, r2, r3, r4, r5, r6, r7, reduceCtorEq, Try.f13]
              exact ⟨(H, rs3, IntKind.wrap .i64 (k1 - 1)), ⟨I, hk⟩, weak_sub (by simp [lk])⟩
          · simp only [↓DN, UP, r1, r2, r3, r4, r5, r6, r7, reduceCtorEq, Try.f13]
            cases hk
            exact cutT_mk H I (weak_sub (by simp [lk]))
        · intro H I
          simp only [↓DN, UP, r1, r2, r3, r4, r5, r6, r7, reduceCtorEq, Try.f13]
          exact ⟨(H, rs2, IntKind.wrap .i64 (i - 1)), ⟨I, hk⟩, weak_sub (by simp [lk])⟩
      · simp only [↓DN, UP, r1, r2, r3, r4, r5, r6, r7, reduceCtorEq, Try.f13]
        cases hk
        exact cutT_mk H I (weak_sub (by simp [lk]))
    · intro H I
      simp only [↓DN, UP, r1, r2, r3, r4, r5, r6, r7, reduceCtorEq, Try.f13]
      exact endT_of I.shut ⟨rfl, rfl⟩
theorem c_spec_Common {a_1 : List GItem} {b_2 : List GItem} {r : Int} (h : g_spec_Common a_1 b_2 = some r) : Ans Try.prog 6 [.one (.imm 5 a_1.length (a_1.flatMap GItem.cs)), .one (.imm 5 b_2.length (b_2.flatMap GItem.cs))] [] fun v h1 => v = .pv (.one (.int .i64 r)) ∧ h1 = [] := by
  refine ansK (P := fun _ => Try.prog) TryT_eq (fn := Try.f6) Try.func6 rfl ⟨by kernel_rfl, rfl, rfl, by kernel_rfl⟩ (by simp) (Weak.refl _ _) ?_
  rw [g_spec_Common] at h
  try simp only [↓DN, UP, r1, r2, r3, r4, r5, r6, r7, reduceCtorEq, Try.f6]
  refine seqN TryT_eq rfl ?_
  try simp only [↓DN, UP, r1, r2, r3, r4, r5, r6, r7, reduceCtorEq, Try.f6]
  obtain ⟨y_4, hy_5, h⟩ := bS h
  refine seqK TryT_eq (fun p : Bool => ⟨[(0, .pv (.one (.imm 5 a_1.length (a_1.flatMap GItem.cs)))), (1, .pv (.one (.imm 5 b_2.length (b_2.flatMap GItem.cs)))), (12, .pv (.one (.bool p)))], []⟩) (fun v => y_4 = v) (by rfl) ?_ ?_
  · try simp only [↓DN, UP, r1, r2, r3, r4, r5, r6, r7, reduceCtorEq, Try.f6]
    refine stIf hy_5 (fun hb_6 hy_5 => ?_) (fun hb_6 hy_5 => ?_)
    · try simp only [↓DN, UP, r1, r2, r3, r4, r5, r6, r7, reduceCtorEq, Try.f6, hb_6]
      obtain rfl := Option.some.inj hy_5
      exact cutT_mk true rfl (wn [0, 1, 12] [])
    · try simp only [↓DN, UP, r1, r2, r3, r4, r5, r6, r7, reduceCtorEq, Try.f6, hb_6]
      obtain rfl := Option.some.inj hy_5
      exact cutT_mk (decide ((b_2.length : Int) > 64)) rfl (wn [0, 1, 12] [])
  · rintro v_3 hp
    replace hp := hp.symm; subst hp
    try dsimp only at h
    try simp only [↓DN, UP, r1, r2, r3, r4, r5, r6, r7, reduceCtorEq, Try.f6]
    refine stIf h (fun hb_7 h => ?_) (fun hb_7 h => ?_)
    · try simp only [↓DN, UP, r1, r2, r3, r4, r5, r6, r7, reduceCtorEq, Try.f6]
      obtain rfl := Option.some.inj h
      refine endT_of ?_ ⟨rfl, rfl⟩
      exact (wn [0] [])
    · obtain ⟨y_8, hy_8, h⟩ := bS h
      try simp only [↓DN, UP, r1, r2, r3, r4, r5, r6, r7, reduceCtorEq, Try.f6]
      refine callE [] 9 rfl rfl rfl rfl (c_spec_l22Table hy_8) rfl ?_
      obtain ⟨v_9, hv_9, h⟩ := bS h
      obtain ⟨v_10, hv_10, h⟩ := bS h
      have f1 := (fAt (eL_ok (eI .i64) 1) hv_9 (n := y_8.length) (by simp))
      have f2 := (fAt (eI_ok .i64) hv_10 (n := v_9.length) (by simp))
      try simp only [↓DN, UP, r1, r2, r3, r4, r5, r6, r7, reduceCtorEq, Try.f6, f1, f2]
      obtain rfl := Option.some.inj h
      refine endT_of ?_ ⟨rfl, rfl⟩
      exact (wn [0] [])
theorem c_impl_common {a_1 : List GItem} {b_2 : List GItem} {r : Int} (h : g_impl_common a_1 b_2 = some r) : Ans Try.prog 15 [.one (.imm 5 a_1.length (a_1.flatMap GItem.cs)), .one (.imm 5 b_2.length (b_2.flatMap GItem.cs))] [] fun v h1 => v = .pv (.one (.int .i64 r)) ∧ h1 = [] := by
  refine ansK (P := fun _ => Try.prog) TryT_eq (fn := Try.f15) Try.func15 rfl ⟨by kernel_rfl, rfl, rfl, by kernel_rfl⟩ (by simp) (Weak.refl _ _) ?_
  rw [g_impl_common] at h
  obtain ⟨v_3, hv_3, h⟩ := bS h
  have f1 := (fMk hv_3)
  have f2 := (fMkC (e := (eI .i64)) (ns := [.int .i64 0]) hv_3 rfl)
  try simp only [↓DN, UP, r1, r2, r3, r4, r5, r6, r7, reduceCtorEq, Try.f15, f1, f2]
  obtain ⟨y_5, hy_6, h⟩ := bS h
  refine seqK TryT_eq (fun p : (List Int) => ⟨[(1, .pv (.one (.imm 5 b_2.length (b_2.flatMap GItem.cs)))), (5, .pv (.one (.arr 0 0 p.length)))], [.live ⟨1, p.length, p.flatMap (eI .i64)⟩]⟩) (fun v => y_5 = v) (by rfl) ?_ ?_
  · try simp only [↓DN, UP, r1, r2, r3, r4, r5, r6, r7, reduceCtorEq, Try.f15, f1, f2]
    obtain ⟨y_10, hy_11, hy_6⟩ := bS hy_6
    refine loopK TryT_eq (fun p : (List Int) × Int => ⟨[(1, .pv (.one (.imm 5 b_2.length (b_2.flatMap GItem.cs)))), (5, .pv (.one (.arr 0 0 p.1.length))), (15, .pv (.one (.imm 5 a_1.length (a_1.flatMap GItem.cs)))), (16, .pv (.one (.int .i64 (a_1.length : Int)))), (17, .pv (.one (.int .i64 p.2)))], [.live ⟨1, p.1.length, p.1.flatMap (eI .i64)⟩]⟩) (fun k p => g_impl_common_l0 a_1 b_2 v_3 k p.1 p.2 = some y_10) (by kernel_rfl) bigK (v_3, 0) (wn [1, 5, 15, 16, 17] [0]) hy_11 (fun _ h => nomatch (show none = some _ from h)) ?_
    rintro k_12 ⟨row_7, v_8⟩ hk_13
    rw [g_impl_common_l0] at hk_13
    try dsimp only at hk_13
    try simp only [↓DN, UP, r1, r2, r3, r4, r5, r6, r7, reduceCtorEq, Try.f15]
    refine seqN TryT_eq rfl ?_
    try simp only [↓DN, UP, r1, r2, r3, r4, r5, r6, r7, reduceCtorEq, Try.f15]
    refine stIf hk_13 (fun hb_14 hk_13 => ?_) (fun hb_14 hk_13 => ?_)
    · try simp only [↓DN, UP, r1, r2, r3, r4, r5, r6, r7, reduceCtorEq, Try.f15]
      obtain ⟨y_16, hy_17, hk_13⟩ := bS hk_13
      refine seqK TryT_eq (fun p : (List Int) => ⟨[(1, .pv (.one (.imm 5 b_2.length (b_2.flatMap GItem.cs)))), (5, .pv (.one (.arr 0 0 p.length))), (15, .pv (.one (.imm 5 a_1.length (a_1.flatMap GItem.cs)))), (16, .pv (.one (.int .i64 (a_1.length : Int)))), (17, .pv (.one (.int .i64 v_8)))], [.live ⟨1, p.length, p.flatMap (eI .i64)⟩]⟩) (fun v => y_16 = v) (by rfl) ?_ ?_
      · obtain ⟨v_18, hv_18, hy_17⟩ := bS hy_17
        have f3 := (fAt GItem.ok hv_18 (n := a_1.length) (by simp))
        have f4 := (fMk hv_3)
        have f5 := (fMkC (e := (eI .i64)) (ns := [.int .i64 0]) hv_3 rfl)
        try simp only [↓DN, UP, r1, r2, r3, r4, r5, r6, r7, reduceCtorEq, Try.f15, f3, f4, f5]
        obtain ⟨y_20, hy_21, hy_17⟩ := bS hy_17
        refine seqK TryT_eq (fun p : (List Int) => ⟨[(1, .pv (.one (.imm 5 b_2.length (b_2.flatMap GItem.cs)))), (8, .pv (.one (.arr 0 0 p.length))), (15, .pv (.one (.imm 5 a_1.length (a_1.flatMap GItem.cs)))), (16, .pv (.one (.int .i64 (a_1.length : Int)))), (17, .pv (.one (.int .i64 v_8)))], [.live ⟨1, p.length, p.flatMap (eI .i64)⟩]⟩) (fun v => y_20 = v) (by rfl) ?_ ?_
        · try simp only [↓DN, UP, r1, r2, r3, r4, r5, r6, r7, reduceCtorEq, Try.f15, f3, f4, f5]
          obtain ⟨y_25, hy_26, hy_21⟩ := bS hy_21
          refine loopK TryT_eq (fun p : (List Int) × Int => ⟨[(1, .pv (.one (.imm 5 b_2.length (b_2.flatMap GItem.cs)))), (5, .pv (.one (.arr 0 0 row_7.length))), (7, .pv (.one (.ptr 1 0))), (8, .pv (.one (.arr 2 0 p.1.length))), (15, .pv (.one (.imm 5 a_1.length (a_1.flatMap GItem.cs)))), (16, .pv (.one (.int .i64 (a_1.length : Int)))), (17, .pv (.one (.int .i64 v_8))), (25, .pv (.one (.imm 5 b_2.length (b_2.flatMap GItem.cs)))), (26, .pv (.one (.int .i64 (b_2.length : Int)))), (27, .pv (.one (.int .i64 p.2)))], [.live ⟨1, row_7.length, row_7.flatMap (eI .i64)⟩, .live ⟨1, 5, [.int .i64 v_18.Kind, .str v_18.Name, .int .i32 v_18.N, .bool v_18.Hex, .int .u32 v_18.Raw]⟩, .live ⟨1, p.1.length, p.1.flatMap (eI .i64)⟩]⟩) (fun k p => g_impl_common_l1 b_2 row_7 v_18 k p.1 p.2 = some y_25) (by kernel_rfl) bigK (v_3, 0) (wn [1, 5, 7, 8, 15, 16, 17, 25, 26, 27] [0, 1, 2]) hy_26 (fun _ h => nomatch (show none = some _ from h)) ?_
          rintro k_27 ⟨next_22, v_23⟩ hk_28
          rw [g_impl_common_l1] at hk_28
          try dsimp only at hk_28
          try simp only [↓DN, UP, r1, r2, r3, r4, r5, r6, r7, reduceCtorEq, Try.f15]
          refine seqN TryT_eq rfl ?_
          try simp only [↓DN, UP, r1, r2, r3, r4, r5, r6, r7, reduceCtorEq, Try.f15]
          refine stIf hk_28 (fun hb_29 hk_28 => ?_) (fun hb_29 hk_28 => ?_)
          · try simp only [↓DN, UP, r1, r2, r3, r4, r5, r6, r7, reduceCtorEq, Try.f15]
            obtain ⟨y_31, hy_32, hk_28⟩ := bS hk_28
            refine seqK TryT_eq (fun p : (List Int) => ⟨[(1, .pv (.one (.imm 5 b_2.length (b_2.flatMap GItem.cs)))), (5, .pv (.one (.arr 0 0 row_7.length))), (7, .pv (.one (.ptr 1 0))), (8, .pv (.one (.arr 2 0 p.length))), (15, .pv (.one (.imm 5 a_1.length (a_1.flatMap GItem.cs)))), (16, .pv (.one (.int .i64 (a_1.length : Int)))), (17, .pv (.one (.int .i64 v_8))), (25, .pv (.one (.imm 5 b_2.length (b_2.flatMap GItem.cs)))), (26, .pv (.one (.int .i64 (b_2.length : Int)))), (27, .pv (.one (.int .i64 v_23)))], [.live ⟨1, row_7.length, row_7.flatMap (eI .i64)⟩, .live ⟨1, 5, [.int .i64 v_18.Kind, .str v_18.Name, .int .i32 v_18.N, .bool v_18.Hex, .int .u32 v_18.Raw]⟩, .live ⟨1, p.length, p.flatMap (eI .i64)⟩]⟩) (fun v => y_31 = v) (by rfl) ?_ ?_
            · obtain ⟨v_33, hv_33, hy_32⟩ := bS hy_32
              obtain ⟨v_34, hv_34, hy_32⟩ := bS hy_32
              obtain ⟨v_35, hv_35, hy_32⟩ := bS hy_32
              obtain ⟨v_36, hv_36, hy_32⟩ := bS hy_32
              have f6 := (fAt GItem.ok hv_33 (n := b_2.length) (by simp))
              have f7 := (fPtr hv_34 (k := 1) (n := next_22.length) (by simp))
              have f8 := (fGet0 (eI_ok .i64) hv_34 (m := 1) (by decide) (by decide))
              have f9 := (fPtr hv_35 (k := 1) (n := row_7.length) (by simp))
              have f10 := (fGet0 (eI_ok .i64) hv_35 (m := 1) (by decide) (by decide))
              have f11 := (fPtr hv_36 (k := 1) (n := next_22.length) (by simp))
              have f12 := (fPut0 (eI_ok .i64) hv_36 (ns := [.int .i64 (maxI v_34 v_35)]) (y := maxI v_34 v_35) rfl)
              try simp only [↓DN, UP, r1, r2, r3, r4, r5, r6, r7, reduceCtorEq, Try.f15, f6, f7, f8, f9, f10, f11, f12]
              refine ⟨rfl, ?_⟩
              try simp only [↓DN, UP, r1, r2, r3, r4, r5, r6, r7, reduceCtorEq, Try.f15, f6, f7, f8, f9, f10, f11, f12]
              refine stIf hy_32 (fun hb_37 hy_32 => ?_) (fun hb_37 hy_32 => ?_)
              · obtain ⟨v_38, hv_38, hy_32⟩ := bS hy_32
                obtain ⟨v_39, hv_39, hy_32⟩ := bS hy_32
                have f13 := (fPtr hv_38 (k := 1) (n := row_7.length) (by simp))
                have f14 := (fGet0 (eI_ok .i64) hv_38 (m := 1) (by decide) (by decide))
                have f15 := (fPtr hv_39 (k := 1) (n := next_22.length) (by simp))
                have f16 := (fPut0 (eI_ok .i64) hv_39 (ns := [.int .i64 (IntKind.wrap .i64 (v_38 + 1))]) (y := IntKind.wrap .i64 (v_38 + 1)) rfl)
                try simp only [↓DN, UP, r1, r2, r3, r4, r5, r6, r7, reduceCtorEq, Try.f15, f6, f7, f8, f9, f10, f11, f12, f13, f14, f15, f16]
                obtain rfl := Option.some.inj hy_32
                exact cutT_mk ((next_22.set (IntKind.wrap .i64 (v_23 + 1)).toNat (maxI v_34 v_35)).set (IntKind.wrap .i64 (v_23 + 1)).toNat (IntKind.wrap .i64 (v_38 + 1))) rfl (weak_norm (ks := [1, 5, 7, 8, 15, 16, 17, 25, 26, 27]) (π := [0, 1, 2]) (fuel := 9) (by simp only [WL, r1, r2, r3, r4, r5, r6, r7, reduceCtorEq, fWin (eI_ok .i64) (n := next_22.length) (xs := (next_22.set (IntKind.wrap .i64 (v_23 + 1)).toNat (maxI v_34 v_35)).set (IntKind.wrap .i64 (v_23 + 1)).toNat (IntKind.wrap .i64 (v_38 + 1))) (by simp)]))
              · try simp only [↓DN, UP, r1, r2, r3, r4, r5, r6, r7, reduceCtorEq, Try.f15, f6, f7, f8, f9, f10, f11, f12]
                obtain rfl := Option.some.inj hy_32
                exact cutT_mk (next_22.set (IntKind.wrap .i64 (v_23 + 1)).toNat (maxI v_34 v_35)) rfl (weak_norm (ks := [1, 5, 7, 8, 15, 16, 17, 25, 26, 27]) (π := [0, 1, 2]) (fuel := 9) (by simp only [WL, r1, r2, r3, r4, r5, r6, r7, reduceCtorEq, fWin (eI_ok .i64) (n := next_22.length) (xs := next_22.set (IntKind.wrap .i64 (v_23 + 1)).toNat (maxI v_34 v_35)) (by simp)]))
            · rintro next_30 hp
              replace hp := hp.symm; subst hp
              try dsimp only at hk_28
              try simp only [↓DN, UP, r1, r2, r3, r4, r5, r6, r7, reduceCtorEq, Try.f15]
              exact ⟨(next_30, IntKind.wrap .i64 (v_23 + 1)), hk_28, (wn [1, 5, 7, 8, 15, 16, 17, 25, 26, 27] [0, 1, 2])⟩
          · obtain rfl := Option.some.inj hk_28
            try dsimp only at hy_21
            try simp only [↓DN, UP, r1, r2, r3, r4, r5, r6, r7, reduceCtorEq, Try.f15]
            obtain rfl := Option.some.inj hy_21
            exact cutT_mk next_22 rfl (wn [1, 8, 15, 16, 17] [2])
        · rintro next_19 hp
          replace hp := hp.symm; subst hp
          try dsimp only at hy_17
          try simp only [↓DN, UP, r1, r2, r3, r4, r5, r6, r7, reduceCtorEq, Try.f15]
          obtain rfl := Option.some.inj hy_17
          exact cutT_mk next_19 rfl (wn [1, 5, 15, 16, 17] [0])
      · rintro row_15 hp
        replace hp := hp.symm; subst hp
        try dsimp only at hk_13
        try simp only [↓DN, UP, r1, r2, r3, r4, r5, r6, r7, reduceCtorEq, Try.f15]
        exact ⟨(row_15, IntKind.wrap .i64 (v_8 + 1)), hk_13, (wn [1, 5, 15, 16, 17] [0])⟩
    · obtain rfl := Option.some.inj hk_13
      try dsimp only at hy_6
      try simp only [↓DN, UP, r1, r2, r3, r4, r5, r6, r7, reduceCtorEq, Try.f15]
      obtain rfl := Option.some.inj hy_6
      exact cutT_mk row_7 rfl (wn [1, 5] [0])
  · rintro row_4 hp
    replace hp := hp.symm; subst hp
    try dsimp only at h
    obtain ⟨v_40, hv_40, h⟩ := bS h
    have f17 := (fPtr hv_40 (k := 1) (n := row_4.length) (by simp))
    have f18 := (fGet0 (eI_ok .i64) hv_40 (m := 1) (by decide) (by decide))
    try simp only [↓DN, UP, r1, r2, r3, r4, r5, r6, r7, reduceCtorEq, Try.f15, f17, f18]
    obtain rfl := Option.some.inj h
    refine endT_of ?_ ⟨rfl, rfl⟩
    exact (wn [0] [])
theorem c_impl_Common {a_1 : List GItem} {b_2 : List GItem} {r : Int} (h : g_impl_Common a_1 b_2 = some r) : Ans Try.prog 8 [.one (.imm 5 a_1.length (a_1.flatMap GItem.cs)), .one (.imm 5 b_2.length (b_2.flatMap GItem.cs))] [] fun v h1 => v = .pv (.one (.int .i64 r)) ∧ h1 = [] := by
  refine ansK (P := fun _ => Try.prog) TryT_eq (fn := Try.f8) Try.func8 rfl ⟨by kernel_rfl, rfl, rfl, by kernel_rfl⟩ (by simp) (Weak.refl _ _) ?_
  rw [g_impl_Common] at h
  try simp only [↓DN, UP, r1, r2, r3, r4, r5, r6, r7, reduceCtorEq, Try.f8]
  refine seqN TryT_eq rfl ?_
  try simp only [↓DN, UP, r1, r2, r3, r4, r5, r6, r7, reduceCtorEq, Try.f8]
  obtain ⟨y_4, hy_5, h⟩ := bS h
  refine seqK TryT_eq (fun p : Bool => ⟨[(0, .pv (.one (.imm 5 a_1.length (a_1.flatMap GItem.cs)))), (1, .pv (.one (.imm 5 b_2.length (b_2.flatMap GItem.cs)))), (12, .pv (.one (.bool p)))], []⟩) (fun v => y_4 = v) (by rfl) ?_ ?_
  · try simp only [↓DN, UP, r1, r2, r3, r4, r5, r6, r7, reduceCtorEq, Try.f8]
    refine stIf hy_5 (fun hb_6 hy_5 => ?_) (fun hb_6 hy_5 => ?_)
    · try simp only [↓DN, UP, r1, r2, r3, r4, r5, r6, r7, reduceCtorEq, Try.f8, hb_6]
      obtain rfl := Option.some.inj hy_5
      exact cutT_mk true rfl (wn [0, 1, 12] [])
    · try simp only [↓DN, UP, r1, r2, r3, r4, r5, r6, r7, reduceCtorEq, Try.f8, hb_6]
      obtain rfl := Option.some.inj hy_5
      exact cutT_mk (decide ((b_2.length : Int) > 64)) rfl (wn [0, 1, 12] [])
  · rintro v_3 hp
    replace hp := hp.symm; subst hp
    try dsimp only at h
    try simp only [↓DN, UP, r1, r2, r3, r4, r5, r6, r7, reduceCtorEq, Try.f8]
    refine stIf h (fun hb_7 h => ?_) (fun hb_7 h => ?_)
    · try simp only [↓DN, UP, r1, r2, r3, r4, r5, r6, r7, reduceCtorEq, Try.f8]
      obtain rfl := Option.some.inj h
      refine endT_of ?_ ⟨rfl, rfl⟩
      exact (wn [0] [])
    · obtain ⟨y_8, hy_8, h⟩ := bS h
      try simp only [↓DN, UP, r1, r2, r3, r4, r5, r6, r7, reduceCtorEq, Try.f8]
      refine cG [] (c_impl_common hy_8) (hK := fun rd b => ?_)
      try simp only [↓DN, UP, r1, r2, r3, r4, r5, r6, r7, reduceCtorEq, Try.f8]
      obtain rfl := Option.some.inj h
      refine endT_of ?_ ⟨rfl, rfl⟩
      exact (wn [0] [])
theorem c_laws_eqItem {a_1 : GItem} {b_2 : GItem} {r : Bool} (h : g_laws_eqItem a_1 b_2 = some r) : Ans Try.prog 16 [.agg [.int .i64 a_1.Kind, .str a_1.Name, .int .i32 a_1.N, .bool a_1.Hex, .int .u32 a_1.Raw], .agg [.int .i64 b_2.Kind, .str b_2.Name, .int .i32 b_2.N, .bool b_2.Hex, .int .u32 b_2.Raw]] [] fun v h1 => v = .pv (.one (.bool r)) ∧ h1 = [] := by
  refine ansK (P := fun _ => Try.prog) TryT_eq (fn := Try.f16) Try.func16 rfl ⟨by kernel_rfl, rfl, rfl, by kernel_rfl⟩ (by simp) (Weak.refl _ _) ?_
  rw [g_laws_eqItem] at h
  try simp only [↓DN, UP, r1, r2, r3, r4, r5, r6, r7, reduceCtorEq, Try.f16]
  refine seqN TryT_eq rfl ?_
  try simp only [↓DN, UP, r1, r2, r3, r4, r5, r6, r7, reduceCtorEq, Try.f16]
  refine stIf h (fun hb_3 h => ?_) (fun hb_3 h => ?_)
  · try simp only [↓DN, UP, r1, r2, r3, r4, r5, r6, r7, reduceCtorEq, Try.f16]
    obtain rfl := Option.some.inj h
    refine endT_of ?_ ⟨rfl, rfl⟩
    exact (wn [0] [])
  · try simp only [↓DN, UP, r1, r2, r3, r4, r5, r6, r7, reduceCtorEq, Try.f16]
    refine seqN TryT_eq rfl ?_
    try simp only [↓DN, UP, r1, r2, r3, r4, r5, r6, r7, reduceCtorEq, Try.f16]
    refine stIf h (fun hb_4 h => ?_) (fun hb_4 h => ?_)
    · try simp only [↓DN, UP, r1, r2, r3, r4, r5, r6, r7, reduceCtorEq, Try.f16]
      obtain rfl := Option.some.inj h
      refine endT_of ?_ ⟨rfl, rfl⟩
      exact (wn [0] [])
    · try simp only [↓DN, UP, r1, r2, r3, r4, r5, r6, r7, reduceCtorEq, Try.f16]
      refine seqN TryT_eq rfl ?_
      try simp only [↓DN, UP, r1, r2, r3, r4, r5, r6, r7, reduceCtorEq, Try.f16]
      refine stIf h (fun hb_5 h => ?_) (fun hb_5 h => ?_)
      · try simp only [↓DN, UP, r1, r2, r3, r4, r5, r6, r7, reduceCtorEq, Try.f16]
        obtain rfl := Option.some.inj h
        refine endT_of ?_ ⟨rfl, rfl⟩
        exact (wn [0] [])
      · try simp only [↓DN, UP, r1, r2, r3, r4, r5, r6, r7, reduceCtorEq, Try.f16]
        refine seqN TryT_eq rfl ?_
        try simp only [↓DN, UP, r1, r2, r3, r4, r5, r6, r7, reduceCtorEq, Try.f16]
        refine stIf h (fun hb_6 h => ?_) (fun hb_6 h => ?_)
        · try simp only [↓DN, UP, r1, r2, r3, r4, r5, r6, r7, reduceCtorEq, Try.f16]
          obtain rfl := Option.some.inj h
          refine endT_of ?_ ⟨rfl, rfl⟩
          exact (wn [0] [])
        · try simp only [↓DN, UP, r1, r2, r3, r4, r5, r6, r7, reduceCtorEq, Try.f16]
          refine seqN TryT_eq rfl ?_
          try simp only [↓DN, UP, r1, r2, r3, r4, r5, r6, r7, reduceCtorEq, Try.f16]
          refine stIf h (fun hb_7 h => ?_) (fun hb_7 h => ?_)
          · try simp only [↓DN, UP, r1, r2, r3, r4, r5, r6, r7, reduceCtorEq, Try.f16]
            obtain rfl := Option.some.inj h
            refine endT_of ?_ ⟨rfl, rfl⟩
            exact (wn [0] [])
          · try simp only [↓DN, UP, r1, r2, r3, r4, r5, r6, r7, reduceCtorEq, Try.f16]
            obtain rfl := Option.some.inj h
            refine endT_of ?_ ⟨rfl, rfl⟩
            exact (wn [0] [])
theorem c_laws_eqItemS {a_1 : List GItem} {b_2 : List GItem} {r : Bool} (h : g_laws_eqItemS a_1 b_2 = some r) : Ans Try.prog 9 [.one (.imm 5 a_1.length (a_1.flatMap GItem.cs)), .one (.imm 5 b_2.length (b_2.flatMap GItem.cs))] [] fun v h1 => v = .pv (.one (.bool r)) ∧ h1 = [] := by
  refine ansK (P := fun _ => Try.prog) TryT_eq (fn := Try.f9) Try.func9 rfl ⟨by kernel_rfl, rfl, rfl, by kernel_rfl⟩ (by simp) (Weak.refl _ _) ?_
  rw [g_laws_eqItemS] at h
  try simp only [↓DN, UP, r1, r2, r3, r4, r5, r6, r7, reduceCtorEq, Try.f9]
  refine seqN TryT_eq rfl ?_
  try simp only [↓DN, UP, r1, r2, r3, r4, r5, r6, r7, reduceCtorEq, Try.f9]
  refine stIf h (fun hb_3 h => ?_) (fun hb_3 h => ?_)
  · try simp only [↓DN, UP, r1, r2, r3, r4, r5, r6, r7, reduceCtorEq, Try.f9]
    obtain rfl := Option.some.inj h
    refine endT_of ?_ ⟨rfl, rfl⟩
    exact (wn [0] [])
  · try simp only [↓DN, UP, r1, r2, r3, r4, r5, r6, r7, reduceCtorEq, Try.f9]
    obtain ⟨y_4, hy_5, h⟩ := bS h
    refine seqK TryT_eq (fun p : Unit => ⟨[], []⟩) (fun v => y_4 = .inl v) (by rfl) ?_ ?_
    · try simp only [↓DN, UP, r1, r2, r3, r4, r5, r6, r7, reduceCtorEq, Try.f9]
      obtain ⟨y_7, hy_8, hy_5⟩ := bS hy_5
      refine loopK TryT_eq (fun p : Int => ⟨[(0, .pv (.one (.imm 5 a_1.length (a_1.flatMap GItem.cs)))), (1, .pv (.one (.imm 5 b_2.length (b_2.flatMap GItem.cs)))), (5, .pv (.one (.int .i64 p)))], []⟩) (fun k p => g_laws_eqItemS_l0 a_1 b_2 k p = some y_7) (by kernel_rfl) bigK 0 (wn [0, 1, 5] []) hy_8 (fun _ h => nomatch (show none = some _ from h)) ?_
      rintro k_9 i_6 hk_10
      rw [g_laws_eqItemS_l0] at hk_10
      try dsimp only at hk_10
      try simp only [↓DN, UP, r1, r2, r3, r4, r5, r6, r7, reduceCtorEq, Try.f9]
      refine seqN TryT_eq rfl ?_
      try simp only [↓DN, UP, r1, r2, r3, r4, r5, r6, r7, reduceCtorEq, Try.f9]
      refine stIf hk_10 (fun hb_11 hk_10 => ?_) (fun hb_11 hk_10 => ?_)
      · try simp only [↓DN, UP, r1, r2, r3, r4, r5, r6, r7, reduceCtorEq, Try.f9]
        refine seqN TryT_eq rfl ?_
        obtain ⟨v_12, hv_12, hk_10⟩ := bS hk_10
        obtain ⟨v_13, hv_13, hk_10⟩ := bS hk_10
        obtain ⟨y_14, hy_14, hk_10⟩ := bS hk_10
        have f1 := (fAt GItem.ok hv_12 (n := a_1.length) (by simp))
        have f2 := (fAt GItem.ok hv_13 (n := b_2.length) (by simp))
        try simp only [↓DN, UP, r1, r2, r3, r4, r5, r6, r7, reduceCtorEq, Try.f9, f1, f2]
        refine callE [] (rd1 := []) (rd2 := []) 9 rfl (by simp only [WL, r1, r2, r3, r4, r5, r6, r7, reduceCtorEq]) (by simp only [WL, r1, r2, r3, r4, r5, r6, r7, reduceCtorEq]) rfl (c_laws_eqItem hy_14) (by simp only [WL, r1, r2, r3, r4, r5, r6, r7, reduceCtorEq]) ?_
        try simp only [↓DN, UP, r1, r2, r3, r4, r5, r6, r7, reduceCtorEq, Try.f9, f1, f2]
        refine ⟨rfl, ?_⟩
        try simp only [↓DN, UP, r1, r2, r3, r4, r5, r6, r7, reduceCtorEq, Try.f9, f1, f2]
        refine stIf hk_10 (fun hb_15 hk_10 => ?_) (fun hb_15 hk_10 => ?_)
        · obtain rfl := Option.some.inj hk_10
          try dsimp only at hy_5
          obtain rfl := Option.some.inj hy_5
          try dsimp only at h
          try simp only [↓DN, UP, r1, r2, r3, r4, r5, r6, r7, reduceCtorEq, Try.f9, f1, f2]
          obtain rfl := Option.some.inj h
          refine endT_of ?_ ⟨rfl, rfl⟩
          exact (wn [0] [])
        · try simp only [↓DN, UP, r1, r2, r3, r4, r5, r6, r7, reduceCtorEq, Try.f9, f1, f2]
          exact ⟨IntKind.wrap .i64 (i_6 + 1), hk_10, (wn [0, 1, 5] [])⟩
      · obtain rfl := Option.some.inj hk_10
        try dsimp only at hy_5
        try simp only [↓DN, UP, r1, r2, r3, r4, r5, r6, r7, reduceCtorEq, Try.f9]
        obtain rfl := Option.some.inj hy_5
        exact cutT_mk () (by trivial) (wn [] [])
    · rintro _ hp
      replace hp := hp.symm; subst hp
      try dsimp only at h
      try simp only [↓DN, UP, r1, r2, r3, r4, r5, r6, r7, reduceCtorEq, Try.f9]
      obtain rfl := Option.some.inj h
      refine endT_of ?_ ⟨rfl, rfl⟩
      exact (wn [0] [])
theorem c_laws_FnExactCommon {aA_1 : List GItem} {aB_2 : List GItem} {r : Bool} (h : g_laws_FnExactCommon aA_1 aB_2 = some r) : Ans Try.prog 3 [.one (.imm 5 aA_1.length (aA_1.flatMap GItem.cs)), .one (.imm 5 aB_2.length (aB_2.flatMap GItem.cs))] [] fun v h1 => v = .pv (.one (.bool r)) ∧ h1 = [] := by
  refine ansK (P := fun _ => Try.prog) TryT_eq (fn := Try.f3) Try.func3 rfl ⟨by kernel_rfl, rfl, rfl, by kernel_rfl⟩ (by simp) (Weak.refl _ _) ?_
  rw [g_laws_FnExactCommon] at h
  obtain ⟨y_3, hy_3, h⟩ := bS h
  try simp only [↓DN, UP, r1, r2, r3, r4, r5, r6, r7, reduceCtorEq, Try.f3]
  refine cG [] (c_laws_szItemS hy_3) (hK := fun rd b => ?_)
  try simp only [↓DN, UP, r1, r2, r3, r4, r5, r6, r7, reduceCtorEq, Try.f3]
  refine seqN TryT_eq rfl ?_
  try simp only [↓DN, UP, r1, r2, r3, r4, r5, r6, r7, reduceCtorEq, Try.f3]
  refine stIf h (fun hb_4 h => ?_) (fun hb_4 h => ?_)
  · try simp only [↓DN, UP, r1, r2, r3, r4, r5, r6, r7, reduceCtorEq, Try.f3]
    obtain rfl := Option.some.inj h
    refine endT_of ?_ ⟨rfl, rfl⟩
    exact (wn [0] [])
  · obtain ⟨y_5, hy_5, h⟩ := bS h
    try simp only [↓DN, UP, r1, r2, r3, r4, r5, r6, r7, reduceCtorEq, Try.f3]
    refine cG [] (c_laws_szItemS hy_5) (hK := fun rd b => ?_)
    try simp only [↓DN, UP, r1, r2, r3, r4, r5, r6, r7, reduceCtorEq, Try.f3]
    refine seqN TryT_eq rfl ?_
    try simp only [↓DN, UP, r1, r2, r3, r4, r5, r6, r7, reduceCtorEq, Try.f3]
    refine stIf h (fun hb_6 h => ?_) (fun hb_6 h => ?_)
    · try simp only [↓DN, UP, r1, r2, r3, r4, r5, r6, r7, reduceCtorEq, Try.f3]
      obtain rfl := Option.some.inj h
      refine endT_of ?_ ⟨rfl, rfl⟩
      exact (wn [0] [])
    · obtain ⟨y_7, hy_7, h⟩ := bS h
      try simp only [↓DN, UP, r1, r2, r3, r4, r5, r6, r7, reduceCtorEq, Try.f3]
      refine cG [] (c_laws_toItemS hy_7) (hK := fun rd b => ?_)
      obtain ⟨y_8, hy_8, h⟩ := bS h
      try simp only [↓DN, UP, r1, r2, r3, r4, r5, r6, r7, reduceCtorEq, Try.f3]
      refine cG [] (c_laws_toItemS hy_8) (hK := fun rd b => ?_)
      obtain ⟨y_9, hy_9, h⟩ := bS h
      try simp only [↓DN, UP, r1, r2, r3, r4, r5, r6, r7, reduceCtorEq, Try.f3]
      refine cG [] (c_spec_Common hy_9) (hK := fun rd b => ?_)
      obtain ⟨y_10, hy_10, h⟩ := bS h
      try simp only [↓DN, UP, r1, r2, r3, r4, r5, r6, r7, reduceCtorEq, Try.f3]
      refine cG [] (c_laws_toItemS hy_10) (hK := fun rd b => ?_)
      obtain ⟨y_11, hy_11, h⟩ := bS h
      try simp only [↓DN, UP, r1, r2, r3, r4, r5, r6, r7, reduceCtorEq, Try.f3]
      refine cG [] (c_laws_toItemS hy_11) (hK := fun rd b => ?_)
      obtain ⟨y_12, hy_12, h⟩ := bS h
      try simp only [↓DN, UP, r1, r2, r3, r4, r5, r6, r7, reduceCtorEq, Try.f3]
      refine cG [] (c_impl_Common hy_12) (hK := fun rd b => ?_)
      try simp only [↓DN, UP, r1, r2, r3, r4, r5, r6, r7, reduceCtorEq, Try.f3]
      refine seqN TryT_eq rfl ?_
      try simp only [↓DN, UP, r1, r2, r3, r4, r5, r6, r7, reduceCtorEq, Try.f3]
      refine stIf h (fun hb_13 h => ?_) (fun hb_13 h => ?_)
      · try simp only [↓DN, UP, r1, r2, r3, r4, r5, r6, r7, reduceCtorEq, Try.f3]
        obtain rfl := Option.some.inj h
        refine endT_of ?_ ⟨rfl, rfl⟩
        exact (wn [0] [])
      · try simp only [↓DN, UP, r1, r2, r3, r4, r5, r6, r7, reduceCtorEq, Try.f3]
        refine seqN TryT_eq rfl ?_
        obtain ⟨y_14, hy_14, h⟩ := bS h
        try simp only [↓DN, UP, r1, r2, r3, r4, r5, r6, r7, reduceCtorEq, Try.f3]
        refine cG [] (c_laws_toItemS hy_14) (hK := fun rd b => ?_)
        obtain ⟨y_15, hy_15, h⟩ := bS h
        try simp only [↓DN, UP, r1, r2, r3, r4, r5, r6, r7, reduceCtorEq, Try.f3]
        refine cG [] (c_laws_eqItemS hy_15) (hK := fun rd b => ?_)
        try simp only [↓DN, UP, r1, r2, r3, r4, r5, r6, r7, reduceCtorEq, Try.f3]
        refine stIf h (fun hb_16 h => ?_) (fun hb_16 h => ?_)
        · try simp only [↓DN, UP, r1, r2, r3, r4, r5, r6, r7, reduceCtorEq, Try.f3]
          obtain rfl := Option.some.inj h
          refine endT_of ?_ ⟨rfl, rfl⟩
          exact (wn [0] [])
        · try simp only [↓DN, UP, r1, r2, r3, r4, r5, r6, r7, reduceCtorEq, Try.f3]
          refine seqN TryT_eq rfl ?_
          obtain ⟨y_17, hy_17, h⟩ := bS h
          try simp only [↓DN, UP, r1, r2, r3, r4, r5, r6, r7, reduceCtorEq, Try.f3]
          refine cG [] (c_laws_toItemS hy_17) (hK := fun rd b => ?_)
          obtain ⟨y_18, hy_18, h⟩ := bS h
          try simp only [↓DN, UP, r1, r2, r3, r4, r5, r6, r7, reduceCtorEq, Try.f3]
          refine cG [] (c_laws_eqItemS hy_18) (hK := fun rd b => ?_)
          try simp only [↓DN, UP, r1, r2, r3, r4, r5, r6, r7, reduceCtorEq, Try.f3]
          refine stIf h (fun hb_19 h => ?_) (fun hb_19 h => ?_)
          · try simp only [↓DN, UP, r1, r2, r3, r4, r5, r6, r7, reduceCtorEq, Try.f3]
            obtain rfl := Option.some.inj h
            refine endT_of ?_ ⟨rfl, rfl⟩
            exact (wn [0] [])
          · try simp only [↓DN, UP, r1, r2, r3, r4, r5, r6, r7, reduceCtorEq, Try.f3]
            obtain rfl := Option.some.inj h
            refine endT_of ?_ ⟨rfl, rfl⟩
            exact (wn [0] [])
end Go.Proofs.Ytigaffddnidkpaa
