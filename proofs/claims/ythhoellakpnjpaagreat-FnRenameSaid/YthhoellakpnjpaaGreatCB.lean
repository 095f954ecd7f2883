import Derived.Test.YthhoellakpnjpaaGreatCA
namespace Go.Proofs.YthhoellakpnjpaaGreat
open Go Go.Fm
open Nat renaming reduceEqDiff → r1, reduceLT → r2, reduceLeDiff → r3, reduceAdd → r4, reduceMul → r5, reduceSub → r6
open Int renaming reduceToNat → r7
set_option maxRecDepth 100000
set_option linter.unusedVariables false
set_option linter.unusedSimpArgs false
theorem c_impl_numberCells {n_1 : Int} {hex_2 : Bool} {short_3 : Int} {long_4 : Int} {r : (List Int)} (h : g_impl_numberCells n_1 hex_2 short_3 long_4 = some r) : Ans Tryz.prog 62 [.one (.int .i32 n_1), .one (.bool hex_2), .one (.int .u32 short_3), .one (.int .u32 long_4)] [] fun v h1 => v = .pv (.one (.arr 0 0 r.length)) ∧ h1 = [.live ⟨1, r.length, r.flatMap (eI .u32)⟩] := by
  refine ansK (P := fun _ => Tryz.prog) TryzT_eq (fn := Tryz.f62) Tryz.func62 rfl ⟨by kernel_rfl, rfl, rfl, by kernel_rfl⟩ (by simp) (Weak.refl _ _) ?_
  rw [g_impl_numberCells] at h
  try simp only [↓DN, UP, r1, r2, r3, r4, r5, r6, r7, reduceCtorEq, Tryz.f62]
  obtain ⟨y_6, hy_7, h⟩ := bS h
  refine seqK TryzT_eq (fun p : Int => ⟨[(0, .pv (.one (.int .i32 n_1))), (2, .pv (.one (.int .u32 short_3))), (3, .pv (.one (.int .u32 long_4))), (9, .pv (.one (.int .u32 p)))], []⟩) (fun v => y_6 = v) (by rfl) ?_ ?_
  · try simp only [↓DN, UP, r1, r2, r3, r4, r5, r6, r7, reduceCtorEq, Tryz.f62]
    refine stIf hy_7 (fun hb_8 hy_7 => ?_) (fun hb_8 hy_7 => ?_)
    · try simp only [↓DN, UP, r1, r2, r3, r4, r5, r6, r7, reduceCtorEq, Tryz.f62]
      obtain rfl := Option.some.inj hy_7
      exact cutT_mk 16 rfl (wn [0, 2, 3, 9] [])
    · try simp only [↓DN, UP, r1, r2, r3, r4, r5, r6, r7, reduceCtorEq, Tryz.f62]
      obtain rfl := Option.some.inj hy_7
      exact cutT_mk 0 rfl (wn [0, 2, 3, 9] [])
  · rintro bit_5 hp
    replace hp := hp.symm; subst hp
    try dsimp only at h
    try simp only [↓DN, UP, r1, r2, r3, r4, r5, r6, r7, reduceCtorEq, Tryz.f62]
    refine seqN TryzT_eq rfl ?_
    try simp only [↓DN, UP, r1, r2, r3, r4, r5, r6, r7, reduceCtorEq, Tryz.f62]
    obtain ⟨y_10, hy_11, h⟩ := bS h
    refine seqK TryzT_eq (fun p : Bool => ⟨[(0, .pv (.one (.int .i32 n_1))), (2, .pv (.one (.int .u32 short_3))), (3, .pv (.one (.int .u32 long_4))), (9, .pv (.one (.int .u32 bit_5))), (16, .pv (.one (.bool p)))], []⟩) (fun v => y_10 = v) (by rfl) ?_ ?_
    · try simp only [↓DN, UP, r1, r2, r3, r4, r5, r6, r7, reduceCtorEq, Tryz.f62]
      refine stIf hy_11 (fun hb_12 hy_11 => ?_) (fun hb_12 hy_11 => ?_)
      · try simp only [↓DN, UP, r1, r2, r3, r4, r5, r6, r7, reduceCtorEq, Tryz.f62, hb_12]
        obtain rfl := Option.some.inj hy_11
        exact cutT_mk (decide (n_1 ≤ 67108863)) rfl (wn [0, 2, 3, 9, 16] [])
      · try simp only [↓DN, UP, r1, r2, r3, r4, r5, r6, r7, reduceCtorEq, Tryz.f62, hb_12]
        obtain rfl := Option.some.inj hy_11
        exact cutT_mk false rfl (wn [0, 2, 3, 9, 16] [])
    · rintro v_9 hp
      replace hp := hp.symm; subst hp
      try dsimp only at h
      try simp only [↓DN, UP, r1, r2, r3, r4, r5, r6, r7, reduceCtorEq, Tryz.f62]
      refine stIf h (fun hb_13 h => ?_) (fun hb_13 h => ?_)
      · have f1 := (shlI_lit (k := .u32) (a := IntKind.wrap .u32 n_1) (b := 5) (m := 32) (by decide) (by decide))
        have f2 := (show bldN 1 = 1 from rfl)
        have f3 := (show bldC [.int .u32 (orI .u32 (orI .u32 (IntKind.wrap .u32 ((IntKind.wrap .u32 n_1) * 32)) bit_5) short_3)] = [orI .u32 (orI .u32 (IntKind.wrap .u32 ((IntKind.wrap .u32 n_1) * 32)) bit_5) short_3].flatMap (eI .u32) from rfl)
        try simp only [↓DN, UP, r1, r2, r3, r4, r5, r6, r7, reduceCtorEq, Tryz.f62, f1, f2, f3]
        obtain rfl := Option.some.inj h
        refine endT_of ?_ ⟨rfl, rfl⟩
        exact (weak_norm (ks := [0]) (π := [0]) (fuel := 9) (by simp only [WL, r1, r2, r3, r4, r5, r6, r7, reduceCtorEq, fWin (eI_ok .u32) (n := 1) (xs := [orI .u32 (orI .u32 (IntKind.wrap .u32 ((IntKind.wrap .u32 n_1) * 32)) bit_5) short_3]) (by simp)]))
      · have f4 := (show bldN 2 = 2 from rfl)
        have f5 := (show bldC [.int .u32 (orI .u32 bit_5 long_4), .int .u32 (IntKind.wrap .u32 n_1)] = [orI .u32 bit_5 long_4, IntKind.wrap .u32 n_1].flatMap (eI .u32) from rfl)
        try simp only [↓DN, UP, r1, r2, r3, r4, r5, r6, r7, reduceCtorEq, Tryz.f62, f4, f5]
        obtain rfl := Option.some.inj h
        refine endT_of ?_ ⟨rfl, rfl⟩
        exact (weak_norm (ks := [0]) (π := [0]) (fuel := 9) (by simp only [WL, r1, r2, r3, r4, r5, r6, r7, reduceCtorEq, fWin (eI_ok .u32) (n := 2) (xs := [orI .u32 bit_5 long_4, IntKind.wrap .u32 n_1]) (by simp)]))
theorem c_impl_CellsOf {it_1 : GItem} {r : (List Int)} (h : g_impl_CellsOf it_1 = some r) : Ans Tryz.prog 47 [.agg [.int .i64 it_1.Kind, .str it_1.Name, .int .i32 it_1.N, .bool it_1.Hex, .int .u32 it_1.Raw]] [] fun v h1 => v = .pv (.one (.arr 0 0 r.length)) ∧ h1 = [.live ⟨1, r.length, r.flatMap (eI .u32)⟩] := by
  refine ansK (P := fun _ => Tryz.prog) TryzT_eq (fn := Tryz.f47) Tryz.func47 rfl ⟨by kernel_rfl, rfl, rfl, by kernel_rfl⟩ (by simp) (Weak.refl _ _) ?_
  rw [g_impl_CellsOf] at h
  obtain ⟨y_2, hy_2, h⟩ := bS h
  try simp only [↓DN, UP, r1, r2, r3, r4, r5, r6, r7, reduceCtorEq, Tryz.f47]
  refine cG [] (c_impl_nameTag hy_2) (hK := fun rd b => ?_)
  try simp only [↓DN, UP, r1, r2, r3, r4, r5, r6, r7, reduceCtorEq, Tryz.f47]
  obtain ⟨y_4, hy_5, h⟩ := bS h
  refine seqK TryzT_eq (fun p : Unit => ⟨[], []⟩) (fun v => y_4 = .inl v) (by rfl) ?_ ?_
  · try simp only [↓DN, UP, r1, r2, r3, r4, r5, r6, r7, reduceCtorEq, Tryz.f47]
    obtain ⟨y_7, hy_8, hy_5⟩ := bS hy_5
    refine seqK TryzT_eq (fun p : Bool => ⟨[(1, .pv (.one (.ptr 0 0))), (3, .pv (.one (.int .u32 y_2))), (11, .pv (.one (.bool p)))], [.live ⟨1, 5, [.int .i64 it_1.Kind, .str it_1.Name, .int .i32 it_1.N, .bool it_1.Hex, .int .u32 it_1.Raw]⟩]⟩) (fun v => y_7 = v) (by rfl) ?_ ?_
    · try simp only [↓DN, UP, r1, r2, r3, r4, r5, r6, r7, reduceCtorEq, Tryz.f47]
      refine stIf hy_8 (fun hb_9 hy_8 => ?_) (fun hb_9 hy_8 => ?_)
      · try simp only [↓DN, UP, r1, r2, r3, r4, r5, r6, r7, reduceCtorEq, Tryz.f47, hb_9]
        obtain rfl := Option.some.inj hy_8
        exact cutT_mk ((it_1.Kind : Int) == it_1.Kind && ((it_1.Name : Bs) == it_1.Name && ((it_1.N : Int) == 0 && ((it_1.Hex : Bool) == false && ((it_1.Raw : Int) == 0 && true))))) rfl (wn [1, 3, 11] [0])
      · try simp only [↓DN, UP, r1, r2, r3, r4, r5, r6, r7, reduceCtorEq, Tryz.f47, hb_9]
        obtain rfl := Option.some.inj hy_8
        exact cutT_mk false rfl (wn [1, 3, 11] [0])
    · rintro v_6 hp
      replace hp := hp.symm; subst hp
      try dsimp only at hy_5
      try simp only [↓DN, UP, r1, r2, r3, r4, r5, r6, r7, reduceCtorEq, Tryz.f47]
      refine stIf hy_5 (fun hb_10 hy_5 => ?_) (fun hb_10 hy_5 => ?_)
      · have f1 := (show bldN 0 = 0 from rfl)
        have f2 := (show bldC [] = ([] : List Int).flatMap (eI .u32) from rfl)
        try simp only [↓DN, UP, r1, r2, r3, r4, r5, r6, r7, reduceCtorEq, Tryz.f47, f1, f2]
        obtain ⟨y_12, hy_13, hy_5⟩ := bS hy_5
        refine seqK TryzT_eq (fun p : (List Int) => ⟨[(4, .pv (.one (.arr 0 0 p.length)))], [.live ⟨1, p.length, p.flatMap (eI .u32)⟩]⟩) (fun v => y_12 = v) (by rfl) ?_ ?_
        · obtain ⟨y_14, hy_14, hy_13⟩ := bS hy_13
          try simp only [↓DN, UP, r1, r2, r3, r4, r5, r6, r7, reduceCtorEq, Tryz.f47, f1, f2]
          refine cG [] (c_impl_Pack hy_14) (hK := fun rd b => ?_)
          try simp only [↓DN, UP, r1, r2, r3, r4, r5, r6, r7, reduceCtorEq, Tryz.f47, f1, f2]
          obtain ⟨y_19, hy_20, hy_13⟩ := bS hy_13
          refine loopK TryzT_eq (fun p : Int × (List Int) × Int => ⟨[(3, .pv (.one (.int .u32 p.1))), (4, .pv (.one (.arr 0 0 p.2.1.length))), (26, .pv (.one (.arr 1 0 y_14.length))), (27, .pv (.one (.int .i64 (y_14.length : Int)))), (28, .pv (.one (.int .i64 p.2.2)))], [.live ⟨1, p.2.1.length, p.2.1.flatMap (eI .u32)⟩, .live ⟨1, y_14.length, y_14.flatMap (eI .u32)⟩]⟩) (fun k p => g_impl_CellsOf_l0 y_14 k p.1 p.2.1 p.2.2 = some y_19) (by kernel_rfl) bigK (y_2, ([] : List Int), 0) (weak_norm (ks := [3, 4, 26, 27, 28]) (π := [1, 2]) (fuel := 9) (by simp only [WL, r1, r2, r3, r4, r5, r6, r7, reduceCtorEq, fWin (eI_ok .u32) (n := 0) (xs := ([] : List Int)) (by simp)])) hy_20 (fun _ h => nomatch (show none = some _ from h)) ?_
          rintro k_21 ⟨tag_15, out_16, v_17⟩ hk_22
          rw [g_impl_CellsOf_l0] at hk_22
          try dsimp only at hk_22
          try simp only [↓DN, UP, r1, r2, r3, r4, r5, r6, r7, reduceCtorEq, Tryz.f47]
          refine seqN TryzT_eq rfl ?_
          try simp only [↓DN, UP, r1, r2, r3, r4, r5, r6, r7, reduceCtorEq, Tryz.f47]
          refine stIf hk_22 (fun hb_23 hk_22 => ?_) (fun hb_23 hk_22 => ?_)
          · try simp only [↓DN, UP, r1, r2, r3, r4, r5, r6, r7, reduceCtorEq, Tryz.f47]
            refine seqN TryzT_eq rfl ?_
            obtain ⟨v_24, hv_24, hk_22⟩ := bS hk_22
            obtain ⟨v_25, hv_25, hk_22⟩ := bS hk_22
            have f3 := (fPtr hv_24 (k := 1) (n := y_14.length) (by simp))
            have f4 := (fGet0 (eI_ok .u32) hv_24 (m := 1) (by decide) (by decide))
            have f5 := (shlI_lit (k := .u32) (a := v_24) (b := 4) (m := 16) (by decide) (by decide))
            have f6 := (show bldN 1 = 1 from rfl)
            have f7 := (show bldC [.int .u32 (orI .u32 (IntKind.wrap .u32 (v_24 * 16)) tag_15)] = [orI .u32 (IntKind.wrap .u32 (v_24 * 16)) tag_15].flatMap (eI .u32) from rfl)
            have f8 := (fWin (eI_ok .u32) (n := 1) (xs := [orI .u32 (IntKind.wrap .u32 (v_24 * 16)) tag_15]) (by simp))
            have f9 := (fApp hv_25 (n := out_16.length) (by simp) (m := 1) (by simp [bsOf]))
            have f10 := (fWin (eI_ok .u32) (n := out_16.length) (xs := out_16) (by simp))
            have f11 := (fCat (e := (eI .u32)) (ns := [orI .u32 (IntKind.wrap .u32 (v_24 * 16)) tag_15].flatMap (eI .u32)) hv_25 rfl)
            try simp only [↓DN, UP, r1, r2, r3, r4, r5, r6, r7, reduceCtorEq, Tryz.f47, f3, f4, f5, f6, f7, f8, f9, f10, f11]
            exact ⟨(0, v_25, IntKind.wrap .i64 (v_17 + 1)), hk_22, (wn [3, 4, 26, 27, 28] [3, 1])⟩
          · obtain rfl := Option.some.inj hk_22
            try dsimp only at hy_13
            try simp only [↓DN, UP, r1, r2, r3, r4, r5, r6, r7, reduceCtorEq, Tryz.f47]
            obtain rfl := Option.some.inj hy_13
            exact cutT_mk out_16 rfl (wn [4] [0])
        · rintro out_11 hp
          replace hp := hp.symm; subst hp
          try dsimp only at hy_5
          obtain rfl := Option.some.inj hy_5
          try dsimp only at h
          try simp only [↓DN, UP, r1, r2, r3, r4, r5, r6, r7, reduceCtorEq, Tryz.f47]
          obtain rfl := Option.some.inj h
          refine endT_of ?_ ⟨rfl, rfl⟩
          exact (wn [0] [0])
      · try simp only [↓DN, UP, r1, r2, r3, r4, r5, r6, r7, reduceCtorEq, Tryz.f47]
        refine stIf hy_5 (fun hb_26 hy_5 => ?_) (fun hb_26 hy_5 => ?_)
        · obtain ⟨y_27, hy_27, hy_5⟩ := bS hy_5
          try simp only [↓DN, UP, r1, r2, r3, r4, r5, r6, r7, reduceCtorEq, Tryz.f47]
          refine cG [] (c_impl_numberCells hy_27) (hK := fun rd b => ?_)
          obtain rfl := Option.some.inj hy_5
          try dsimp only at h
          try simp only [↓DN, UP, r1, r2, r3, r4, r5, r6, r7, reduceCtorEq, Tryz.f47]
          obtain rfl := Option.some.inj h
          refine endT_of ?_ ⟨rfl, rfl⟩
          exact (wn [0] [1])
        · try simp only [↓DN, UP, r1, r2, r3, r4, r5, r6, r7, reduceCtorEq, Tryz.f47]
          refine stIf hy_5 (fun hb_28 hy_5 => ?_) (fun hb_28 hy_5 => ?_)
          · obtain ⟨y_29, hy_29, hy_5⟩ := bS hy_5
            try simp only [↓DN, UP, r1, r2, r3, r4, r5, r6, r7, reduceCtorEq, Tryz.f47]
            refine cG [] (c_impl_numberCells hy_29) (hK := fun rd b => ?_)
            obtain rfl := Option.some.inj hy_5
            try dsimp only at h
            try simp only [↓DN, UP, r1, r2, r3, r4, r5, r6, r7, reduceCtorEq, Tryz.f47]
            obtain rfl := Option.some.inj h
            refine endT_of ?_ ⟨rfl, rfl⟩
            exact (wn [0] [1])
          · try simp only [↓DN, UP, r1, r2, r3, r4, r5, r6, r7, reduceCtorEq, Tryz.f47]
            refine stIf hy_5 (fun hb_30 hy_5 => ?_) (fun hb_30 hy_5 => ?_)
            · obtain ⟨y_31, hy_31, hy_5⟩ := bS hy_5
              try simp only [↓DN, UP, r1, r2, r3, r4, r5, r6, r7, reduceCtorEq, Tryz.f47]
              refine cG [] (c_impl_Pack hy_31) (hK := fun rd b => ?_)
              try simp only [↓DN, UP, r1, r2, r3, r4, r5, r6, r7, reduceCtorEq, Tryz.f47]
              refine stIf hy_5 (fun hb_32 hy_5 => ?_) (fun hb_32 hy_5 => ?_)
              · obtain ⟨v_33, hv_33, hy_5⟩ := bS hy_5
                have f12 := (fPtrL hv_33 (k := 1) (n := y_31.length) (by simp) (c := 0) rfl)
                have f13 := (fGetL0 (eI_ok .u32) hv_33 rfl (m := 1) (by decide) (by decide))
                have f14 := (shlI_lit (k := .u32) (a := v_33) (b := 4) (m := 16) (by decide) (by decide))
                have f15 := (show bldN 2 = 2 from rfl)
                have f16 := (show bldC [.int .u32 (orI .u32 (IntKind.wrap .u32 (v_33 * 16)) 12), .int .u32 (IntKind.wrap .u32 it_1.N)] = [orI .u32 (IntKind.wrap .u32 (v_33 * 16)) 12, IntKind.wrap .u32 it_1.N].flatMap (eI .u32) from rfl)
                try simp only [↓DN, UP, r1, r2, r3, r4, r5, r6, r7, reduceCtorEq, Tryz.f47, f12, f13, f14, f15, f16]
                refine ⟨rfl, ?_⟩
                obtain rfl := Option.some.inj hy_5
                try dsimp only at h
                try simp only [↓DN, UP, r1, r2, r3, r4, r5, r6, r7, reduceCtorEq, Tryz.f47, f12, f13, f14, f15, f16]
                obtain rfl := Option.some.inj h
                refine endT_of ?_ ⟨rfl, rfl⟩
                exact (weak_norm (ks := [0]) (π := [2]) (fuel := 9) (by simp only [WL, r1, r2, r3, r4, r5, r6, r7, reduceCtorEq, fWin (eI_ok .u32) (n := 2) (xs := [orI .u32 (IntKind.wrap .u32 (v_33 * 16)) 12, IntKind.wrap .u32 it_1.N]) (by simp)]))
              · try simp only [↓DN, UP, r1, r2, r3, r4, r5, r6, r7, reduceCtorEq, Tryz.f47]
                obtain rfl := Option.some.inj hy_5
                exact cutT_mk () (by trivial) (wn [] [])
            · try simp only [↓DN, UP, r1, r2, r3, r4, r5, r6, r7, reduceCtorEq, Tryz.f47]
              refine stIf hy_5 (fun hb_34 hy_5 => ?_) (fun hb_34 hy_5 => ?_)
              · obtain rfl := Option.some.inj hy_5
                try dsimp only at h
                have f17 := (show bldN 1 = 1 from rfl)
                have f18 := (show bldC [.int .u32 it_1.Raw] = [it_1.Raw].flatMap (eI .u32) from rfl)
                try simp only [↓DN, UP, r1, r2, r3, r4, r5, r6, r7, reduceCtorEq, Tryz.f47, f17, f18]
                obtain rfl := Option.some.inj h
                refine endT_of ?_ ⟨rfl, rfl⟩
                exact (weak_norm (ks := [0]) (π := [1]) (fuel := 9) (by simp only [WL, r1, r2, r3, r4, r5, r6, r7, reduceCtorEq, fWin (eI_ok .u32) (n := 1) (xs := [it_1.Raw]) (by simp)]))
              · try simp only [↓DN, UP, r1, r2, r3, r4, r5, r6, r7, reduceCtorEq, Tryz.f47]
                obtain rfl := Option.some.inj hy_5
                exact cutT_mk () (by trivial) (wn [] [])
  · rintro _ hp
    replace hp := hp.symm; subst hp
    try dsimp only at h
    try simp only [↓DN, UP, r1, r2, r3, r4, r5, r6, r7, reduceCtorEq, Tryz.f47]
    obtain rfl := Option.some.inj h
    refine endT_of ?_ ⟨rfl, rfl⟩
    exact ((weak_norm (ks := [0]) (π := []) (fuel := 9) (s' := ⟨[(0, .pv (.one (.emp)))], []⟩) (by simp only [WL, r1, r2, r3, r4, r5, r6, r7, reduceCtorEq])).trans (weak_le (by simp only [LEb, r1, r2, r3, r4, r5, r6, r7, reduceCtorEq, TL]) (by simp only [LEb, r1, r2, r3, r4, r5, r6, r7, reduceCtorEq, TL])))
theorem c_impl_FieldOk {f_1 : Int} {r : Bool} (h : g_impl_FieldOk f_1 = some r) : Ans Tryz.prog 76 [.one (.int .u32 f_1)] [] fun v h1 => v = .pv (.one (.bool r)) ∧ h1 = [] := by
  refine ansK (P := fun _ => Tryz.prog) TryzT_eq (fn := Tryz.f76) Tryz.func76 rfl ⟨by kernel_rfl, rfl, rfl, by kernel_rfl⟩ (by simp) (Weak.refl _ _) ?_
  rw [g_impl_FieldOk] at h
  obtain ⟨y_2, hy_2, h⟩ := bS h
  try simp only [↓DN, UP, r1, r2, r3, r4, r5, r6, r7, reduceCtorEq, Tryz.f76]
  refine cG [] (c_impl_UnpackOne hy_2) (hK := fun rd b => ?_)
  obtain ⟨y_3, hy_3, h⟩ := bS h
  try simp only [↓DN, UP, r1, r2, r3, r4, r5, r6, r7, reduceCtorEq, Tryz.f76]
  refine cG [] (c_impl_Pack hy_3) (hK := fun rd b => ?_)
  obtain ⟨y_4, hy_4, h⟩ := bS h
  have f1 := (show bldN 1 = 1 from rfl)
  have f2 := (show bldC [.int .u32 f_1] = [f_1].flatMap (eI .u32) from rfl)
  try simp only [↓DN, UP, r1, r2, r3, r4, r5, r6, r7, reduceCtorEq, Tryz.f76, f1, f2]
  refine callG [] 9 rfl (by simp only [WL, r1, r2, r3, r4, r5, r6, r7, reduceCtorEq, fWin (eI_ok .u32) (n := 1) (xs := [f_1]) (by simp)]) (by simp only [WL, r1, r2, r3, r4, r5, r6, r7, reduceCtorEq, fWin (eI_ok .u32) (n := 1) (xs := [f_1]) (by simp)]) rfl (c_slices_Equal_uint32 hy_4) (by simp only [WL, r1, r2, r3, r4, r5, r6, r7, reduceCtorEq]) ?_
  intro rd b
  try simp only [↓DN, UP, r1, r2, r3, r4, r5, r6, r7, reduceCtorEq, Tryz.f76, f1, f2]
  obtain rfl := Option.some.inj h
  refine endT_of ?_ ⟨rfl, rfl⟩
  exact (wn [0] [])
theorem c_impl_parseOne {cells_1 : List Int} {r : GItem} (h : g_impl_parseOne cells_1 = some r) : Ans Tryz.prog 56 [.one (.imm 1 cells_1.length (cells_1.flatMap (eI .u32)))] [] fun v h1 => v = .pv (.agg [.int .i64 r.Kind, .str r.Name, .int .i32 r.N, .bool r.Hex, .int .u32 r.Raw]) ∧ h1 = [] := by
  refine ansK (P := fun _ => Tryz.prog) TryzT_eq (fn := Tryz.f56) Tryz.func56 rfl ⟨by kernel_rfl, rfl, rfl, by kernel_rfl⟩ (by simp) (Weak.refl _ _) ?_
  rw [g_impl_parseOne] at h
  obtain ⟨v_2, hv_2, h⟩ := bS h
  have f1 := (fAt (eI_ok .u32) hv_2 (n := cells_1.length) (by simp))
  try simp only [↓DN, UP, r1, r2, r3, r4, r5, r6, r7, reduceCtorEq, Tryz.f56, f1]
  refine ⟨rfl, ?_⟩
  try simp only [↓DN, UP, r1, r2, r3, r4, r5, r6, r7, reduceCtorEq, Tryz.f56, f1]
  obtain ⟨y_4, hy_5, h⟩ := bS h
  refine seqK TryzT_eq (fun p : GItem => ⟨[(2, .pv (.one (.ptr 0 0))), (5, .pv (.one (.ptr 1 0)))], [.live ⟨1, 5, [.int .i64 0, .str [], .int .i32 0, .bool false, .int .u32 0]⟩, .live ⟨1, 5, [.int .i64 p.Kind, .str p.Name, .int .i32 p.N, .bool p.Hex, .int .u32 p.Raw]⟩]⟩) (fun v => y_4 = v) (by rfl) ?_ ?_
  · try simp only [↓DN, UP, r1, r2, r3, r4, r5, r6, r7, reduceCtorEq, Tryz.f56, f1]
    obtain ⟨y_7, hy_8, hy_5⟩ := bS hy_5
    refine seqK TryzT_eq (fun p : Bool => ⟨[(0, .pv (.one (.imm 1 cells_1.length (cells_1.flatMap (eI .u32))))), (2, .pv (.one (.ptr 0 0))), (3, .pv (.one (.int .u32 v_2))), (4, .pv (.one (.int .u32 (andI .u32 v_2 15)))), (5, .pv (.one (.ptr 1 0))), (21, .pv (.one (.int .u32 (andI .u32 v_2 15)))), (22, .pv (.one (.bool p)))], [.live ⟨1, 5, [.int .i64 0, .str [], .int .i32 0, .bool false, .int .u32 0]⟩, .live ⟨1, 5, [.int .i64 0, .str [], .int .i32 0, .bool false, .int .u32 v_2]⟩]⟩) (fun v => y_7 = v) (by rfl) ?_ ?_
    · try simp only [↓DN, UP, r1, r2, r3, r4, r5, r6, r7, reduceCtorEq, Tryz.f56, f1]
      refine stIf hy_8 (fun hb_9 hy_8 => ?_) (fun hb_9 hy_8 => ?_)
      · try simp only [↓DN, UP, r1, r2, r3, r4, r5, r6, r7, reduceCtorEq, Tryz.f56, f1]
        obtain rfl := Option.some.inj hy_8
        exact cutT_mk ((andI .u32 v_2 15) == 1) rfl (wn [0, 2, 3, 4, 5, 21, 22] [0, 1])
      · try simp only [↓DN, UP, r1, r2, r3, r4, r5, r6, r7, reduceCtorEq, Tryz.f56, f1]
        refine stIf hy_8 (fun hb_10 hy_8 => ?_) (fun hb_10 hy_8 => ?_)
        · try simp only [↓DN, UP, r1, r2, r3, r4, r5, r6, r7, reduceCtorEq, Tryz.f56, f1]
          obtain rfl := Option.some.inj hy_8
          exact cutT_mk ((andI .u32 v_2 15) == 3) rfl (wn [0, 2, 3, 4, 5, 21, 22] [0, 1])
        · try simp only [↓DN, UP, r1, r2, r3, r4, r5, r6, r7, reduceCtorEq, Tryz.f56, f1]
          refine stIf hy_8 (fun hb_11 hy_8 => ?_) (fun hb_11 hy_8 => ?_)
          · try simp only [↓DN, UP, r1, r2, r3, r4, r5, r6, r7, reduceCtorEq, Tryz.f56, f1]
            obtain rfl := Option.some.inj hy_8
            exact cutT_mk ((andI .u32 v_2 15) == 4) rfl (wn [0, 2, 3, 4, 5, 21, 22] [0, 1])
          · try simp only [↓DN, UP, r1, r2, r3, r4, r5, r6, r7, reduceCtorEq, Tryz.f56, f1]
            refine stIf hy_8 (fun hb_12 hy_8 => ?_) (fun hb_12 hy_8 => ?_)
            · try simp only [↓DN, UP, r1, r2, r3, r4, r5, r6, r7, reduceCtorEq, Tryz.f56, f1]
              obtain rfl := Option.some.inj hy_8
              exact cutT_mk ((andI .u32 v_2 15) == 9) rfl (wn [0, 2, 3, 4, 5, 21, 22] [0, 1])
            · try simp only [↓DN, UP, r1, r2, r3, r4, r5, r6, r7, reduceCtorEq, Tryz.f56, f1]
              refine stIf hy_8 (fun hb_13 hy_8 => ?_) (fun hb_13 hy_8 => ?_)
              · try simp only [↓DN, UP, r1, r2, r3, r4, r5, r6, r7, reduceCtorEq, Tryz.f56, f1]
                obtain rfl := Option.some.inj hy_8
                exact cutT_mk ((andI .u32 v_2 15) == 10) rfl (wn [0, 2, 3, 4, 5, 21, 22] [0, 1])
              · try simp only [↓DN, UP, r1, r2, r3, r4, r5, r6, r7, reduceCtorEq, Tryz.f56, f1]
                obtain rfl := Option.some.inj hy_8
                exact cutT_mk ((andI .u32 v_2 15) == 11) rfl (wn [0, 2, 3, 4, 5, 21, 22] [0, 1])
    · rintro v_6 hp
      replace hp := hp.symm; subst hp
      try dsimp only at hy_5
      try simp only [↓DN, UP, r1, r2, r3, r4, r5, r6, r7, reduceCtorEq, Tryz.f56]
      refine stIf hy_5 (fun hb_14 hy_5 => ?_) (fun hb_14 hy_5 => ?_)
      · have f2 := (shrI_lit (k := .u32) (a := v_2) (b := 4) (m := 16) (by decide) (by decide))
        have f3 := (show bldN 1 = 1 from rfl)
        have f4 := (show bldC [.int .u32 (v_2 / 16)] = [v_2 / 16].flatMap (eI .u32) from rfl)
        try simp only [↓DN, UP, r1, r2, r3, r4, r5, r6, r7, reduceCtorEq, Tryz.f56, f2, f3, f4]
        obtain ⟨y_16, hy_17, hy_5⟩ := bS hy_5
        refine seqK TryzT_eq (fun p : (List Int) => ⟨[(2, .pv (.one (.ptr 0 0))), (4, .pv (.one (.int .u32 (andI .u32 v_2 15)))), (5, .pv (.one (.ptr 1 0))), (6, .pv (.one (.arr 2 0 p.length)))], [.live ⟨1, 5, [.int .i64 0, .str [], .int .i32 0, .bool false, .int .u32 0]⟩, .live ⟨1, 5, [.int .i64 0, .str [], .int .i32 0, .bool false, .int .u32 v_2]⟩, .live ⟨1, p.length, p.flatMap (eI .u32)⟩]⟩) (fun v => y_16 = v) (by rfl) ?_ ?_
        · obtain ⟨v_18, hv_18, hy_17⟩ := bS hy_17
          have f5 := (fSubC (eI_ok .u32) hv_18 (n := cells_1.length) (by simp))
          try simp only [↓DN, UP, r1, r2, r3, r4, r5, r6, r7, reduceCtorEq, Tryz.f56, f2, f3, f4, f5]
          obtain ⟨y_22, hy_23, hy_17⟩ := bS hy_17
          refine loopK TryzT_eq (fun p : (List Int) × Int => ⟨[(2, .pv (.one (.ptr 0 0))), (4, .pv (.one (.int .u32 (andI .u32 v_2 15)))), (5, .pv (.one (.ptr 1 0))), (6, .pv (.one (.arr 2 0 p.1.length))), (33, .pv (.one (.imm 1 v_18.length (v_18.flatMap (eI .u32))))), (34, .pv (.one (.int .i64 (v_18.length : Int)))), (35, .pv (.one (.int .i64 p.2)))], [.live ⟨1, 5, [.int .i64 0, .str [], .int .i32 0, .bool false, .int .u32 0]⟩, .live ⟨1, 5, [.int .i64 0, .str [], .int .i32 0, .bool false, .int .u32 v_2]⟩, .live ⟨1, p.1.length, p.1.flatMap (eI .u32)⟩]⟩) (fun k p => g_impl_parseOne_l0 v_18 k p.1 p.2 = some y_22) (by kernel_rfl) bigK ([v_2 / 16], 0) (weak_norm (ks := [2, 4, 5, 6, 33, 34, 35]) (π := [0, 1, 2]) (fuel := 9) (by simp only [WL, r1, r2, r3, r4, r5, r6, r7, reduceCtorEq, fWin (eI_ok .u32) (n := 1) (xs := [v_2 / 16]) (by simp)])) hy_23 (fun _ h => nomatch (show none = some _ from h)) ?_
          rintro k_24 ⟨fields_19, v_20⟩ hk_25
          rw [g_impl_parseOne_l0] at hk_25
          try dsimp only at hk_25
          try simp only [↓DN, UP, r1, r2, r3, r4, r5, r6, r7, reduceCtorEq, Tryz.f56]
          refine seqN TryzT_eq rfl ?_
          try simp only [↓DN, UP, r1, r2, r3, r4, r5, r6, r7, reduceCtorEq, Tryz.f56]
          refine stIf hk_25 (fun hb_26 hk_25 => ?_) (fun hb_26 hk_25 => ?_)
          · try simp only [↓DN, UP, r1, r2, r3, r4, r5, r6, r7, reduceCtorEq, Tryz.f56]
            refine seqN TryzT_eq rfl ?_
            obtain ⟨v_27, hv_27, hk_25⟩ := bS hk_25
            have f6 := (fAt (eI_ok .u32) hv_27 (n := v_18.length) (by simp))
            try simp only [↓DN, UP, r1, r2, r3, r4, r5, r6, r7, reduceCtorEq, Tryz.f56, f6]
            refine seqN TryzT_eq rfl ?_
            try simp only [↓DN, UP, r1, r2, r3, r4, r5, r6, r7, reduceCtorEq, Tryz.f56, f6]
            obtain ⟨y_29, hy_30, hk_25⟩ := bS hk_25
            refine seqK TryzT_eq (fun p : Bool => ⟨[(2, .pv (.one (.ptr 0 0))), (4, .pv (.one (.int .u32 (andI .u32 v_2 15)))), (5, .pv (.one (.ptr 1 0))), (6, .pv (.one (.arr 2 0 fields_19.length))), (8, .pv (.one (.int .u32 v_27))), (33, .pv (.one (.imm 1 v_18.length (v_18.flatMap (eI .u32))))), (34, .pv (.one (.int .i64 (v_18.length : Int)))), (35, .pv (.one (.int .i64 v_20))), (45, .pv (.one (.bool p)))], [.live ⟨1, 5, [.int .i64 0, .str [], .int .i32 0, .bool false, .int .u32 0]⟩, .live ⟨1, 5, [.int .i64 0, .str [], .int .i32 0, .bool false, .int .u32 v_2]⟩, .live ⟨1, fields_19.length, fields_19.flatMap (eI .u32)⟩]⟩) (fun v => y_29 = v) (by rfl) ?_ ?_
            · try simp only [↓DN, UP, r1, r2, r3, r4, r5, r6, r7, reduceCtorEq, Tryz.f56, f6]
              refine stIf hy_30 (fun hb_31 hy_30 => ?_) (fun hb_31 hy_30 => ?_)
              · try simp only [↓DN, UP, r1, r2, r3, r4, r5, r6, r7, reduceCtorEq, Tryz.f56, f6, hb_31]
                obtain rfl := Option.some.inj hy_30
                exact cutT_mk true rfl (wn [2, 4, 5, 6, 8, 33, 34, 35, 45] [0, 1, 2])
              · try simp only [↓DN, UP, r1, r2, r3, r4, r5, r6, r7, reduceCtorEq, Tryz.f56, f6, hb_31]
                obtain rfl := Option.some.inj hy_30
                exact cutT_mk ((andI .u32 v_27 15) != 0) rfl (wn [2, 4, 5, 6, 8, 33, 34, 35, 45] [0, 1, 2])
            · rintro v_28 hp
              replace hp := hp.symm; subst hp
              try dsimp only at hk_25
              try simp only [↓DN, UP, r1, r2, r3, r4, r5, r6, r7, reduceCtorEq, Tryz.f56]
              refine stIf hk_25 (fun hb_32 hk_25 => ?_) (fun hb_32 hk_25 => ?_)
              · obtain rfl := Option.some.inj hk_25
                try dsimp only at hy_17
                try simp only [↓DN, UP, r1, r2, r3, r4, r5, r6, r7, reduceCtorEq, Tryz.f56]
                obtain rfl := Option.some.inj hy_17
                exact cutT_mk fields_19 rfl (wn [2, 4, 5, 6] [0, 1, 2])
              · obtain ⟨v_33, hv_33, hk_25⟩ := bS hk_25
                have f7 := (shrI_lit (k := .u32) (a := v_27) (b := 4) (m := 16) (by decide) (by decide))
                have f8 := (show bldN 1 = 1 from rfl)
                have f9 := (show bldC [.int .u32 (v_27 / 16)] = [v_27 / 16].flatMap (eI .u32) from rfl)
                have f10 := (fWin (eI_ok .u32) (n := 1) (xs := [v_27 / 16]) (by simp))
                have f11 := (fApp hv_33 (n := fields_19.length) (by simp) (m := 1) (by simp [bsOf]))
                have f12 := (fWin (eI_ok .u32) (n := fields_19.length) (xs := fields_19) (by simp))
                have f13 := (fCat (e := (eI .u32)) (ns := [v_27 / 16].flatMap (eI .u32)) hv_33 rfl)
                try simp only [↓DN, UP, r1, r2, r3, r4, r5, r6, r7, reduceCtorEq, Tryz.f56, f7, f8, f9, f10, f11, f12, f13]
                exact ⟨(v_33, IntKind.wrap .i64 (v_20 + 1)), hk_25, (wn [2, 4, 5, 6, 33, 34, 35] [0, 1, 4])⟩
          · obtain rfl := Option.some.inj hk_25
            try dsimp only at hy_17
            try simp only [↓DN, UP, r1, r2, r3, r4, r5, r6, r7, reduceCtorEq, Tryz.f56]
            obtain rfl := Option.some.inj hy_17
            exact cutT_mk fields_19 rfl (wn [2, 4, 5, 6] [0, 1, 2])
        · rintro fields_15 hp
          replace hp := hp.symm; subst hp
          try dsimp only at hy_5
          obtain ⟨y_34, hy_34, hy_5⟩ := bS hy_5
          try simp only [↓DN, UP, r1, r2, r3, r4, r5, r6, r7, reduceCtorEq, Tryz.f56]
          refine cG [] (c_impl_Unpack hy_34) (hK := fun rd b => ?_)
          try simp only [↓DN, UP, r1, r2, r3, r4, r5, r6, r7, reduceCtorEq, Tryz.f56]
          refine stIf hy_5 (fun hb_35 hy_5 => ?_) (fun hb_35 hy_5 => ?_)
          · obtain ⟨y_36, hy_36, hy_5⟩ := bS hy_5
            try simp only [↓DN, UP, r1, r2, r3, r4, r5, r6, r7, reduceCtorEq, Tryz.f56]
            refine cG [] (c_impl_nameKind hy_36) (hK := fun rd b => ?_)
            try simp only [↓DN, UP, r1, r2, r3, r4, r5, r6, r7, reduceCtorEq, Tryz.f56]
            obtain rfl := Option.some.inj hy_5
            exact cutT_mk (⟨y_36, y_34.1, 0, false, 0⟩ : GItem) rfl (wn [2, 5] [0, 1])
          · try simp only [↓DN, UP, r1, r2, r3, r4, r5, r6, r7, reduceCtorEq, Tryz.f56]
            obtain rfl := Option.some.inj hy_5
            exact cutT_mk (⟨0, [], 0, false, v_2⟩ : GItem) rfl (wn [2, 5] [0, 1])
      · try simp only [↓DN, UP, r1, r2, r3, r4, r5, r6, r7, reduceCtorEq, Tryz.f56]
        refine stIf hy_5 (fun hb_37 hy_5 => ?_) (fun hb_37 hy_5 => ?_)
        · have f14 := (shrI_lit (k := .i32) (a := IntKind.wrap .i32 v_2) (b := 5) (m := 32) (by decide) (by decide))
          try simp only [↓DN, UP, r1, r2, r3, r4, r5, r6, r7, reduceCtorEq, Tryz.f56, f14]
          obtain rfl := Option.some.inj hy_5
          exact cutT_mk (⟨7, [], (IntKind.wrap .i32 v_2) / 32, ((andI .u32 v_2 16) != 0), 0⟩ : GItem) rfl (wn [2, 5] [0, 1])
        · try simp only [↓DN, UP, r1, r2, r3, r4, r5, r6, r7, reduceCtorEq, Tryz.f56]
          refine stIf hy_5 (fun hb_38 hy_5 => ?_) (fun hb_38 hy_5 => ?_)
          · have f15 := (shrI_lit (k := .i32) (a := IntKind.wrap .i32 v_2) (b := 5) (m := 32) (by decide) (by decide))
            try simp only [↓DN, UP, r1, r2, r3, r4, r5, r6, r7, reduceCtorEq, Tryz.f56, f15]
            obtain rfl := Option.some.inj hy_5
            exact cutT_mk (⟨8, [], (IntKind.wrap .i32 v_2) / 32, ((andI .u32 v_2 16) != 0), 0⟩ : GItem) rfl (wn [2, 5] [0, 1])
          · try simp only [↓DN, UP, r1, r2, r3, r4, r5, r6, r7, reduceCtorEq, Tryz.f56]
            obtain ⟨y_40, hy_41, hy_5⟩ := bS hy_5
            refine seqK TryzT_eq (fun p : Bool => ⟨[(0, .pv (.one (.imm 1 cells_1.length (cells_1.flatMap (eI .u32))))), (2, .pv (.one (.ptr 0 0))), (3, .pv (.one (.int .u32 v_2))), (4, .pv (.one (.int .u32 (andI .u32 v_2 15)))), (5, .pv (.one (.ptr 1 0))), (21, .pv (.one (.int .u32 (andI .u32 v_2 15)))), (80, .pv (.one (.bool p)))], [.live ⟨1, 5, [.int .i64 0, .str [], .int .i32 0, .bool false, .int .u32 0]⟩, .live ⟨1, 5, [.int .i64 0, .str [], .int .i32 0, .bool false, .int .u32 v_2]⟩]⟩) (fun v => y_40 = v) (by rfl) ?_ ?_
            · try simp only [↓DN, UP, r1, r2, r3, r4, r5, r6, r7, reduceCtorEq, Tryz.f56]
              refine stIf hy_41 (fun hb_42 hy_41 => ?_) (fun hb_42 hy_41 => ?_)
              · try simp only [↓DN, UP, r1, r2, r3, r4, r5, r6, r7, reduceCtorEq, Tryz.f56]
                obtain rfl := Option.some.inj hy_41
                exact cutT_mk ((andI .u32 v_2 15) == 2) rfl (wn [0, 2, 3, 4, 5, 21, 80] [0, 1])
              · try simp only [↓DN, UP, r1, r2, r3, r4, r5, r6, r7, reduceCtorEq, Tryz.f56]
                obtain rfl := Option.some.inj hy_41
                exact cutT_mk ((andI .u32 v_2 15) == 5) rfl (wn [0, 2, 3, 4, 5, 21, 80] [0, 1])
            · rintro v_39 hp
              replace hp := hp.symm; subst hp
              try dsimp only at hy_5
              try simp only [↓DN, UP, r1, r2, r3, r4, r5, r6, r7, reduceCtorEq, Tryz.f56]
              refine stIf hy_5 (fun hb_43 hy_5 => ?_) (fun hb_43 hy_5 => ?_)
              · try simp only [↓DN, UP, r1, r2, r3, r4, r5, r6, r7, reduceCtorEq, Tryz.f56]
                refine seqN TryzT_eq rfl ?_
                try simp only [↓DN, UP, r1, r2, r3, r4, r5, r6, r7, reduceCtorEq, Tryz.f56]
                refine stIf hy_5 (fun hb_44 hy_5 => ?_) (fun hb_44 hy_5 => ?_)
                · try simp only [↓DN, UP, r1, r2, r3, r4, r5, r6, r7, reduceCtorEq, Tryz.f56]
                  obtain rfl := Option.some.inj hy_5
                  exact cutT_mk (⟨0, [], 0, false, v_2⟩ : GItem) rfl (wn [2, 5] [0, 1])
                · obtain ⟨v_45, hv_45, hy_5⟩ := bS hy_5
                  have f16 := (fAt (eI_ok .u32) hv_45 (n := cells_1.length) (by simp))
                  try simp only [↓DN, UP, r1, r2, r3, r4, r5, r6, r7, reduceCtorEq, Tryz.f56, f16]
                  obtain ⟨y_47, hy_48, hy_5⟩ := bS hy_5
                  refine seqK TryzT_eq (fun p : GItem => ⟨[(0, .pv (.one (.imm 1 cells_1.length (cells_1.flatMap (eI .u32))))), (2, .pv (.one (.ptr 0 0))), (5, .pv (.one (.ptr 1 0))), (11, .pv (.one (.ptr 2 0)))], [.live ⟨1, 5, [.int .i64 0, .str [], .int .i32 0, .bool false, .int .u32 0]⟩, .live ⟨1, 5, [.int .i64 0, .str [], .int .i32 0, .bool false, .int .u32 v_2]⟩, .live ⟨1, 5, [.int .i64 p.Kind, .str p.Name, .int .i32 p.N, .bool p.Hex, .int .u32 p.Raw]⟩]⟩) (fun v => y_47 = v) (by rfl) ?_ ?_
                  · try simp only [↓DN, UP, r1, r2, r3, r4, r5, r6, r7, reduceCtorEq, Tryz.f56, f16]
                    refine stIf hy_48 (fun hb_49 hy_48 => ?_) (fun hb_49 hy_48 => ?_)
                    · try simp only [↓DN, UP, r1, r2, r3, r4, r5, r6, r7, reduceCtorEq, Tryz.f56, f16]
                      obtain rfl := Option.some.inj hy_48
                      exact cutT_mk (⟨8, [], IntKind.wrap .i32 v_45, ((andI .u32 v_2 16) != 0), 0⟩ : GItem) rfl (wn [0, 2, 5, 11] [0, 1, 2])
                    · try simp only [↓DN, UP, r1, r2, r3, r4, r5, r6, r7, reduceCtorEq, Tryz.f56, f16]
                      obtain rfl := Option.some.inj hy_48
                      exact cutT_mk (⟨7, [], IntKind.wrap .i32 v_45, ((andI .u32 v_2 16) != 0), 0⟩ : GItem) rfl (wn [0, 2, 5, 11] [0, 1, 2])
                  · rintro long_46 hp
                    replace hp := hp.symm; subst hp
                    try dsimp only at hy_5
                    obtain ⟨y_50, hy_50, hy_5⟩ := bS hy_5
                    try simp only [↓DN, UP, r1, r2, r3, r4, r5, r6, r7, reduceCtorEq, Tryz.f56]
                    refine callE [] (rd1 := []) (rd2 := []) 9 rfl (by simp only [WL, r1, r2, r3, r4, r5, r6, r7, reduceCtorEq]) (by simp only [WL, r1, r2, r3, r4, r5, r6, r7, reduceCtorEq]) rfl (c_impl_CellsOf hy_50) (by simp only [WL, r1, r2, r3, r4, r5, r6, r7, reduceCtorEq]) ?_
                    obtain ⟨v_51, hv_51, hy_5⟩ := bS hy_5
                    obtain ⟨y_52, hy_52, hy_5⟩ := bS hy_5
                    have f17 := (fSubC (eI_ok .u32) hv_51 (n := cells_1.length) (by simp))
                    try simp only [↓DN, UP, r1, r2, r3, r4, r5, r6, r7, reduceCtorEq, Tryz.f56, f17]
                    refine callE [] (rd1 := [3]) (rd2 := []) 9 rfl (by simp only [WL, r1, r2, r3, r4, r5, r6, r7, reduceCtorEq]) (by simp only [WL, r1, r2, r3, r4, r5, r6, r7, reduceCtorEq]) rfl (c_slices_Equal_uint32 hy_52) (by simp only [WL, r1, r2, r3, r4, r5, r6, r7, reduceCtorEq]) ?_
                    try simp only [↓DN, UP, r1, r2, r3, r4, r5, r6, r7, reduceCtorEq, Tryz.f56, f17]
                    refine ⟨rfl, ?_⟩
                    try simp only [↓DN, UP, r1, r2, r3, r4, r5, r6, r7, reduceCtorEq, Tryz.f56, f17]
                    refine stIf hy_5 (fun hb_53 hy_5 => ?_) (fun hb_53 hy_5 => ?_)
                    · try simp only [↓DN, UP, r1, r2, r3, r4, r5, r6, r7, reduceCtorEq, Tryz.f56, f17]
                      obtain rfl := Option.some.inj hy_5
                      exact cutT_mk long_46 rfl (wn [2, 5] [0, 1])
                    · try simp only [↓DN, UP, r1, r2, r3, r4, r5, r6, r7, reduceCtorEq, Tryz.f56, f17]
                      obtain rfl := Option.some.inj hy_5
                      exact cutT_mk (⟨0, [], 0, false, v_2⟩ : GItem) rfl (wn [2, 5] [0, 1])
              · try simp only [↓DN, UP, r1, r2, r3, r4, r5, r6, r7, reduceCtorEq, Tryz.f56]
                refine stIf hy_5 (fun hb_54 hy_5 => ?_) (fun hb_54 hy_5 => ?_)
                · try simp only [↓DN, UP, r1, r2, r3, r4, r5, r6, r7, reduceCtorEq, Tryz.f56]
                  obtain ⟨y_56, hy_57, hy_5⟩ := bS hy_5
                  refine seqK TryzT_eq (fun p : Bool => ⟨[(0, .pv (.one (.imm 1 cells_1.length (cells_1.flatMap (eI .u32))))), (2, .pv (.one (.ptr 0 0))), (3, .pv (.one (.int .u32 v_2))), (5, .pv (.one (.ptr 1 0))), (112, .pv (.one (.bool p)))], [.live ⟨1, 5, [.int .i64 0, .str [], .int .i32 0, .bool false, .int .u32 0]⟩, .live ⟨1, 5, [.int .i64 0, .str [], .int .i32 0, .bool false, .int .u32 v_2]⟩]⟩) (fun v => y_56 = v) (by rfl) ?_ ?_
                  · try simp only [↓DN, UP, r1, r2, r3, r4, r5, r6, r7, reduceCtorEq, Tryz.f56]
                    refine stIf hy_57 (fun hb_58 hy_57 => ?_) (fun hb_58 hy_57 => ?_)
                    · obtain ⟨y_59, hy_59, hy_57⟩ := bS hy_57
                      have f18 := (shrI_lit (k := .u32) (a := v_2) (b := 4) (m := 16) (by decide) (by decide))
                      try simp only [↓DN, UP, r1, r2, r3, r4, r5, r6, r7, reduceCtorEq, Tryz.f56, hb_58, f18]
                      refine cG [] (c_impl_FieldOk hy_59) (hK := fun rd b => ?_)
                      try simp only [↓DN, UP, r1, r2, r3, r4, r5, r6, r7, reduceCtorEq, Tryz.f56, hb_58, f18]
                      obtain rfl := Option.some.inj hy_57
                      exact cutT_mk y_59 rfl (wn [0, 2, 3, 5, 112] [0, 1])
                    · try simp only [↓DN, UP, r1, r2, r3, r4, r5, r6, r7, reduceCtorEq, Tryz.f56, hb_58]
                      obtain rfl := Option.some.inj hy_57
                      exact cutT_mk false rfl (wn [0, 2, 3, 5, 112] [0, 1])
                  · rintro v_55 hp
                    replace hp := hp.symm; subst hp
                    try dsimp only at hy_5
                    try simp only [↓DN, UP, r1, r2, r3, r4, r5, r6, r7, reduceCtorEq, Tryz.f56]
                    refine stIf hy_5 (fun hb_60 hy_5 => ?_) (fun hb_60 hy_5 => ?_)
                    · obtain ⟨y_61, hy_61, hy_5⟩ := bS hy_5
                      have f19 := (shrI_lit (k := .u32) (a := v_2) (b := 4) (m := 16) (by decide) (by decide))
                      try simp only [↓DN, UP, r1, r2, r3, r4, r5, r6, r7, reduceCtorEq, Tryz.f56, f19]
                      refine callE [] (rd1 := []) (rd2 := []) 9 rfl (by simp only [WL, r1, r2, r3, r4, r5, r6, r7, reduceCtorEq]) (by simp only [WL, r1, r2, r3, r4, r5, r6, r7, reduceCtorEq]) rfl (c_impl_UnpackOne hy_61) (by simp only [WL, r1, r2, r3, r4, r5, r6, r7, reduceCtorEq]) ?_
                      obtain ⟨v_62, hv_62, hy_5⟩ := bS hy_5
                      have f20 := (fAt (eI_ok .u32) hv_62 (n := cells_1.length) (by simp))
                      try simp only [↓DN, UP, r1, r2, r3, r4, r5, r6, r7, reduceCtorEq, Tryz.f56, f19, f20]
                      refine ⟨rfl, ?_⟩
                      try simp only [↓DN, UP, r1, r2, r3, r4, r5, r6, r7, reduceCtorEq, Tryz.f56, f19, f20]
                      obtain rfl := Option.some.inj hy_5
                      exact cutT_mk (⟨9, y_61, IntKind.wrap .i32 v_62, false, 0⟩ : GItem) rfl (wn [2, 5] [0, 1])
                    · try simp only [↓DN, UP, r1, r2, r3, r4, r5, r6, r7, reduceCtorEq, Tryz.f56]
                      obtain rfl := Option.some.inj hy_5
                      exact cutT_mk (⟨0, [], 0, false, v_2⟩ : GItem) rfl (wn [2, 5] [0, 1])
                · try simp only [↓DN, UP, r1, r2, r3, r4, r5, r6, r7, reduceCtorEq, Tryz.f56]
                  obtain rfl := Option.some.inj hy_5
                  exact cutT_mk (⟨0, [], 0, false, v_2⟩ : GItem) rfl (wn [2, 5] [0, 1])
  · rintro it_3 hp
    replace hp := hp.symm; subst hp
    try dsimp only at h
    try simp only [↓DN, UP, r1, r2, r3, r4, r5, r6, r7, reduceCtorEq, Tryz.f56]
    obtain rfl := Option.some.inj h
    refine endT_of ?_ ⟨rfl, rfl⟩
    exact (wn [0] [])
theorem c_impl_ParseCells {cells_1 : List Int} {r : (List GItem)} (h : g_impl_ParseCells cells_1 = some r) : Ans Tryz.prog 38 [.one (.imm 1 cells_1.length (cells_1.flatMap (eI .u32)))] [] fun v h1 => v = .pv (.one (.arr 0 0 r.length)) ∧ h1 = [.live ⟨5, r.length, r.flatMap GItem.cs⟩] := by
  refine ansK (P := fun _ => Tryz.prog) TryzT_eq (fn := Tryz.f38) Tryz.func38 rfl ⟨by kernel_rfl, rfl, rfl, by kernel_rfl⟩ (by simp) (Weak.refl _ _) ?_
  rw [g_impl_ParseCells] at h
  try simp only [↓DN, UP, r1, r2, r3, r4, r5, r6, r7, reduceCtorEq, Tryz.f38]
  refine seqN TryzT_eq rfl ?_
  try simp only [↓DN, UP, r1, r2, r3, r4, r5, r6, r7, reduceCtorEq, Tryz.f38]
  refine stIf h (fun hb_2 h => ?_) (fun hb_2 h => ?_)
  · try simp only [↓DN, UP, r1, r2, r3, r4, r5, r6, r7, reduceCtorEq, Tryz.f38]
    obtain rfl := Option.some.inj h
    refine endT_of ?_ ⟨rfl, rfl⟩
    exact ((weak_norm (ks := [0]) (π := []) (fuel := 9) (s' := ⟨[(0, .pv (.one (.emp)))], []⟩) (by simp only [WL, r1, r2, r3, r4, r5, r6, r7, reduceCtorEq])).trans (weak_le (by simp only [LEb, r1, r2, r3, r4, r5, r6, r7, reduceCtorEq, TL]) (by simp only [LEb, r1, r2, r3, r4, r5, r6, r7, reduceCtorEq, TL])))
  · have f1 := (show bldN 0 = 0 from rfl)
    have f2 := (show bldC [] = ([] : List GItem).flatMap GItem.cs from rfl)
    try simp only [↓DN, UP, r1, r2, r3, r4, r5, r6, r7, reduceCtorEq, Tryz.f38, f1, f2]
    obtain ⟨y_6, hy_7, h⟩ := bS h
    refine seqK TryzT_eq (fun p : (List GItem) => ⟨[(3, .pv (.one (.arr 0 0 p.length)))], [.live ⟨5, p.length, p.flatMap GItem.cs⟩]⟩) (fun v => y_6 = v) (by rfl) ?_ ?_
    · try simp only [↓DN, UP, r1, r2, r3, r4, r5, r6, r7, reduceCtorEq, Tryz.f38, f1, f2]
      refine loopK TryzT_eq (fun p : (List Int) × (List GItem) => ⟨[(0, .pv (.one (.imm 1 p.1.length (p.1.flatMap (eI .u32))))), (3, .pv (.one (.arr 0 0 p.2.length)))], [.live ⟨5, p.2.length, p.2.flatMap GItem.cs⟩]⟩) (fun k p => g_impl_ParseCells_l0 k p.1 p.2 = some y_6) (by kernel_rfl) bigK (cells_1, ([] : List GItem)) (weak_norm (ks := [0, 3]) (π := [0]) (fuel := 9) (by simp only [WL, r1, r2, r3, r4, r5, r6, r7, reduceCtorEq, fWin GItem.ok (n := 0) (xs := ([] : List GItem)) (by simp)])) hy_7 (fun _ h => nomatch (show none = some _ from h)) ?_
      rintro k_8 ⟨cells_3, out_4⟩ hk_9
      rw [g_impl_ParseCells_l0] at hk_9
      try dsimp only at hk_9
      try simp only [↓DN, UP, r1, r2, r3, r4, r5, r6, r7, reduceCtorEq, Tryz.f38]
      refine seqN TryzT_eq rfl ?_
      try simp only [↓DN, UP, r1, r2, r3, r4, r5, r6, r7, reduceCtorEq, Tryz.f38]
      refine stIf hk_9 (fun hb_10 hk_9 => ?_) (fun hb_10 hk_9 => ?_)
      · obtain ⟨y_11, hy_11, hk_9⟩ := bS hk_9
        try simp only [↓DN, UP, r1, r2, r3, r4, r5, r6, r7, reduceCtorEq, Tryz.f38]
        refine cG [] (c_impl_parseOne hy_11) (hK := fun rd b => ?_)
        obtain ⟨v_12, hv_12, hk_9⟩ := bS hk_9
        obtain ⟨y_13, hy_13, hk_9⟩ := bS hk_9
        have f3 := (show bldN 1 = 1 from rfl)
        have f4 := (show bldC [.int .i64 y_11.Kind, .str y_11.Name, .int .i32 y_11.N, .bool y_11.Hex, .int .u32 y_11.Raw] = [y_11].flatMap GItem.cs from rfl)
        have f5 := (fWin GItem.ok (n := 1) (xs := [y_11]) (by simp))
        have f6 := (fApp hv_12 (n := out_4.length) (by simp) (m := 1) (by simp [bsOf]))
        have f7 := (fWin GItem.ok (n := out_4.length) (xs := out_4) (by simp))
        have f8 := (fCat (e := GItem.cs) (ns := [y_11].flatMap GItem.cs) hv_12 rfl)
        try simp only [↓DN, UP, r1, r2, r3, r4, r5, r6, r7, reduceCtorEq, Tryz.f38, f3, f4, f5, f6, f7, f8]
        refine cG [] (c_impl_CellsOf hy_13) (hK := fun rd b => ?_)
        obtain ⟨v_14, hv_14, hk_9⟩ := bS hk_9
        have f9 := (fSubC (eI_ok .u32) hv_14 (n := cells_3.length) (by simp))
        try simp only [↓DN, UP, r1, r2, r3, r4, r5, r6, r7, reduceCtorEq, Tryz.f38, f3, f4, f5, f6, f7, f8, f9]
        exact ⟨(v_14, v_12), hk_9, (wn [0, 3] [3])⟩
      · try simp only [↓DN, UP, r1, r2, r3, r4, r5, r6, r7, reduceCtorEq, Tryz.f38]
        obtain rfl := Option.some.inj hk_9
        exact cutT_mk out_4 rfl (wn [3] [0])
    · rintro out_5 hp
      replace hp := hp.symm; subst hp
      try dsimp only at h
      try simp only [↓DN, UP, r1, r2, r3, r4, r5, r6, r7, reduceCtorEq, Tryz.f38]
      obtain ⟨y_16, hy_17, h⟩ := bS h
      refine seqK TryzT_eq (fun p : (List GItem) => ⟨[(3, .pv (.one (.arr 0 0 p.length)))], [.live ⟨5, p.length, p.flatMap GItem.cs⟩]⟩) (fun v => y_16 = v) (by rfl) ?_ ?_
      · try simp only [↓DN, UP, r1, r2, r3, r4, r5, r6, r7, reduceCtorEq, Tryz.f38]
        obtain ⟨y_21, hy_22, hy_17⟩ := bS hy_17
        refine loopK TryzT_eq (fun p : (List GItem) × Int => ⟨[(3, .pv (.one (.arr 0 0 p.1.length))), (5, .pv (.one (.int .i64 p.2)))], [.live ⟨5, p.1.length, p.1.flatMap GItem.cs⟩]⟩) (fun k p => g_impl_ParseCells_l1 k p.1 p.2 = some y_21) (by kernel_rfl) bigK (out_5, IntKind.wrap .i64 ((out_5.length : Int) - 1)) (wn [3, 5] [0]) hy_22 (fun _ h => nomatch (show none = some _ from h)) ?_
        rintro k_23 ⟨out_18, n_19⟩ hk_24
        rw [g_impl_ParseCells_l1] at hk_24
        try dsimp only at hk_24
        try simp only [↓DN, UP, r1, r2, r3, r4, r5, r6, r7, reduceCtorEq, Tryz.f38]
        refine seqN TryzT_eq rfl ?_
        try simp only [↓DN, UP, r1, r2, r3, r4, r5, r6, r7, reduceCtorEq, Tryz.f38]
        obtain ⟨y_26, hy_27, hk_24⟩ := bS hk_24
        refine seqK TryzT_eq (fun p : Bool => ⟨[(3, .pv (.one (.arr 0 0 out_18.length))), (5, .pv (.one (.int .i64 n_19))), (36, .pv (.one (.bool p)))], [.live ⟨5, out_18.length, out_18.flatMap GItem.cs⟩]⟩) (fun v => y_26 = v) (by rfl) ?_ ?_
        · try simp only [↓DN, UP, r1, r2, r3, r4, r5, r6, r7, reduceCtorEq, Tryz.f38]
          refine stIf hy_27 (fun hb_28 hy_27 => ?_) (fun hb_28 hy_27 => ?_)
          · obtain ⟨v_29, hv_29, hy_27⟩ := bS hy_27
            have f10 := (fPtr hv_29 (k := 5) (n := out_18.length) (by simp))
            have f11 := (fGet0 GItem.ok hv_29 (m := 5) (by decide) (by decide))
            try simp only [↓DN, UP, r1, r2, r3, r4, r5, r6, r7, reduceCtorEq, Tryz.f38, hb_28, f10, f11]
            obtain rfl := Option.some.inj hy_27
            exact cutT_mk ((v_29.Kind : Int) == 0 && ((v_29.Name : Bs) == [] && ((v_29.N : Int) == 0 && ((v_29.Hex : Bool) == false && ((v_29.Raw : Int) == 0 && true))))) rfl (wn [3, 5, 36] [0])
          · try simp only [↓DN, UP, r1, r2, r3, r4, r5, r6, r7, reduceCtorEq, Tryz.f38, hb_28]
            obtain rfl := Option.some.inj hy_27
            exact cutT_mk false rfl (wn [3, 5, 36] [0])
        · rintro v_25 hp
          replace hp := hp.symm; subst hp
          try dsimp only at hk_24
          try simp only [↓DN, UP, r1, r2, r3, r4, r5, r6, r7, reduceCtorEq, Tryz.f38]
          refine stIf hk_24 (fun hb_30 hk_24 => ?_) (fun hb_30 hk_24 => ?_)
          · try simp only [↓DN, UP, r1, r2, r3, r4, r5, r6, r7, reduceCtorEq, Tryz.f38]
            refine seqN TryzT_eq rfl ?_
            obtain ⟨v_31, hv_31, hk_24⟩ := bS hk_24
            have f12 := (fSubN hv_31 (n := out_18.length) (by simp))
            try simp only [↓DN, UP, r1, r2, r3, r4, r5, r6, r7, reduceCtorEq, Tryz.f38, f12]
            exact ⟨(v_31, IntKind.wrap .i64 (n_19 - 1)), hk_24, ((weak_trim 0 0 v_31.length (b := ⟨_, _, _⟩) rfl (fLeW hv_31 (by simp) (by simp)) (by decide)).trans (weak_norm (ks := [3, 5]) (π := [0]) (fuel := 9) (by simp only [trS, trE, trH, trHS, trSV, trP, trC, ML, MB, and_self, r1, r2, r3, r4, r5, r6, r7, reduceCtorEq, TL, TT, fTrim0 GItem.ok hv_31 (lo := 0) (by simp)])))⟩
          · obtain rfl := Option.some.inj hk_24
            try dsimp only at hy_17
            try simp only [↓DN, UP, r1, r2, r3, r4, r5, r6, r7, reduceCtorEq, Tryz.f38]
            obtain rfl := Option.some.inj hy_17
            exact cutT_mk out_18 rfl (wn [3] [0])
      · rintro out_15 hp
        replace hp := hp.symm; subst hp
        try dsimp only at h
        try simp only [↓DN, UP, r1, r2, r3, r4, r5, r6, r7, reduceCtorEq, Tryz.f38]
        obtain rfl := Option.some.inj h
        refine endT_of ?_ ⟨rfl, rfl⟩
        exact (wn [0] [0])
theorem c_impl_ItemsOf {s_1 : GStore} {b_2 : Int} {r : (List GItem) × Bool} (h : g_impl_ItemsOf s_1 b_2 = some r) : Ans Tryz.prog 20 [.agg [.imm 1 s_1.Cells.length (s_1.Cells.flatMap (eI .u32))], .one (.int .i64 b_2)] [] fun v h1 => v = .tup [.one (.arr 0 0 r.1.length), .one (.bool r.2)] ∧ h1 = [.live ⟨5, r.1.length, r.1.flatMap GItem.cs⟩] := by
  refine ansK (P := fun _ => Tryz.prog) TryzT_eq (fn := Tryz.f20) Tryz.func20 rfl ⟨by kernel_rfl, rfl, rfl, by kernel_rfl⟩ (by simp) (Weak.refl _ _) ?_
  rw [g_impl_ItemsOf] at h
  obtain ⟨y_3, hy_3, h⟩ := bS h
  try simp only [↓DN, UP, r1, r2, r3, r4, r5, r6, r7, reduceCtorEq, Tryz.f20]
  refine cG [] (c_impl_BlockOf hy_3) (hK := fun rd b => ?_)
  obtain ⟨y_4, hy_4, h⟩ := bS h
  try simp only [↓DN, UP, r1, r2, r3, r4, r5, r6, r7, reduceCtorEq, Tryz.f20]
  refine cG [] (c_impl_ParseCells hy_4) (hK := fun rd b => ?_)
  try simp only [↓DN, UP, r1, r2, r3, r4, r5, r6, r7, reduceCtorEq, Tryz.f20]
  obtain rfl := Option.some.inj h
  refine endT_of ?_ ⟨rfl, rfl⟩
  exact (wn [0] [2])
theorem c_impl_uses {it_1 : GItem} {name_2 : Bs} {r : Bool} (h : g_impl_uses it_1 name_2 = some r) : Ans Tryz.prog 21 [.agg [.int .i64 it_1.Kind, .str it_1.Name, .int .i32 it_1.N, .bool it_1.Hex, .int .u32 it_1.Raw], .one (.str name_2)] [] fun v h1 => v = .pv (.one (.bool r)) ∧ h1 = [] := by
  refine ansK (P := fun _ => Tryz.prog) TryzT_eq (fn := Tryz.f21) Tryz.func21 rfl ⟨by kernel_rfl, rfl, rfl, by kernel_rfl⟩ (by simp) (Weak.refl _ _) ?_
  rw [g_impl_uses] at h
  try simp only [↓DN, UP, r1, r2, r3, r4, r5, r6, r7, reduceCtorEq, Tryz.f21]
  refine seqN TryzT_eq rfl ?_
  try simp only [↓DN, UP, r1, r2, r3, r4, r5, r6, r7, reduceCtorEq, Tryz.f21]
  refine stIf h (fun hb_3 h => ?_) (fun hb_3 h => ?_)
  · try simp only [↓DN, UP, r1, r2, r3, r4, r5, r6, r7, reduceCtorEq, Tryz.f21, hb_3]
    obtain rfl := Option.some.inj h
    refine endT_of ?_ ⟨rfl, rfl⟩
    exact (wn [0] [])
  · try simp only [↓DN, UP, r1, r2, r3, r4, r5, r6, r7, reduceCtorEq, Tryz.f21, hb_3]
    refine stIf h (fun hb_4 h => ?_) (fun hb_4 h => ?_)
    · try simp only [↓DN, UP, r1, r2, r3, r4, r5, r6, r7, reduceCtorEq, Tryz.f21, hb_3, hb_4]
      obtain rfl := Option.some.inj h
      refine endT_of ?_ ⟨rfl, rfl⟩
      exact (wn [0] [])
    · try simp only [↓DN, UP, r1, r2, r3, r4, r5, r6, r7, reduceCtorEq, Tryz.f21, hb_3, hb_4]
      refine stIf h (fun hb_5 h => ?_) (fun hb_5 h => ?_)
      · try simp only [↓DN, UP, r1, r2, r3, r4, r5, r6, r7, reduceCtorEq, Tryz.f21, hb_3, hb_4, hb_5]
        obtain rfl := Option.some.inj h
        refine endT_of ?_ ⟨rfl, rfl⟩
        exact (wn [0] [])
      · try simp only [↓DN, UP, r1, r2, r3, r4, r5, r6, r7, reduceCtorEq, Tryz.f21, hb_3, hb_4, hb_5]
        refine stIf h (fun hb_6 h => ?_) (fun hb_6 h => ?_)
        · try simp only [↓DN, UP, r1, r2, r3, r4, r5, r6, r7, reduceCtorEq, Tryz.f21, hb_3, hb_4, hb_5, hb_6]
          obtain rfl := Option.some.inj h
          refine endT_of ?_ ⟨rfl, rfl⟩
          exact (wn [0] [])
        · try simp only [↓DN, UP, r1, r2, r3, r4, r5, r6, r7, reduceCtorEq, Tryz.f21, hb_3, hb_4, hb_5, hb_6]
          obtain rfl := Option.some.inj h
          refine endT_of ?_ ⟨rfl, rfl⟩
          exact (wn [0] [])
theorem c_impl_Unparse {list_1 : List GItem} {r : (List Int) × Bool} (h : g_impl_Unparse list_1 = some r) : Ans Tryz.prog 39 [.one (.imm 5 list_1.length (list_1.flatMap GItem.cs))] [] fun v h1 => v = .tup [.one (.arr 0 0 r.1.length), .one (.bool r.2)] ∧ h1 = [.live ⟨1, r.1.length, r.1.flatMap (eI .u32)⟩] := by
  refine ansK (P := fun _ => Tryz.prog) TryzT_eq (fn := Tryz.f39) Tryz.func39 rfl ⟨by kernel_rfl, rfl, rfl, by kernel_rfl⟩ (by simp) (Weak.refl _ _) ?_
  rw [g_impl_Unparse] at h
  have f1 := (show bldN 0 = 0 from rfl)
  have f2 := (show bldC [] = ([] : List Int).flatMap (eI .u32) from rfl)
  try simp only [↓DN, UP, r1, r2, r3, r4, r5, r6, r7, reduceCtorEq, Tryz.f39, f1, f2]
  obtain ⟨y_3, hy_4, h⟩ := bS h
  refine seqK TryzT_eq (fun p : (List Int) => ⟨[(4, .pv (.one (.arr 0 0 p.length)))], [.live ⟨1, p.length, p.flatMap (eI .u32)⟩]⟩) (fun v => y_3 = .inl v) (by rfl) ?_ ?_
  · try simp only [↓DN, UP, r1, r2, r3, r4, r5, r6, r7, reduceCtorEq, Tryz.f39, f1, f2]
    obtain ⟨y_8, hy_9, hy_4⟩ := bS hy_4
    refine loopK TryzT_eq (fun p : (List Int) × Int => ⟨[(4, .pv (.one (.arr 0 0 p.1.length))), (9, .pv (.one (.imm 5 list_1.length (list_1.flatMap GItem.cs)))), (10, .pv (.one (.int .i64 (list_1.length : Int)))), (11, .pv (.one (.int .i64 p.2)))], [.live ⟨1, p.1.length, p.1.flatMap (eI .u32)⟩]⟩) (fun k p => g_impl_Unparse_l0 list_1 k p.1 p.2 = some y_8) (by kernel_rfl) bigK (([] : List Int), 0) (weak_norm (ks := [4, 9, 10, 11]) (π := [0]) (fuel := 9) (by simp only [WL, r1, r2, r3, r4, r5, r6, r7, reduceCtorEq, fWin (eI_ok .u32) (n := 0) (xs := ([] : List Int)) (by simp)])) hy_9 (fun _ h => nomatch (show none = some _ from h)) ?_
    rintro k_10 ⟨out_5, v_6⟩ hk_11
    rw [g_impl_Unparse_l0] at hk_11
    try dsimp only at hk_11
    try simp only [↓DN, UP, r1, r2, r3, r4, r5, r6, r7, reduceCtorEq, Tryz.f39]
    refine seqN TryzT_eq rfl ?_
    try simp only [↓DN, UP, r1, r2, r3, r4, r5, r6, r7, reduceCtorEq, Tryz.f39]
    refine stIf hk_11 (fun hb_12 hk_11 => ?_) (fun hb_12 hk_11 => ?_)
    · try simp only [↓DN, UP, r1, r2, r3, r4, r5, r6, r7, reduceCtorEq, Tryz.f39]
      refine seqN TryzT_eq rfl ?_
      obtain ⟨v_13, hv_13, hk_11⟩ := bS hk_11
      obtain ⟨y_14, hy_14, hk_11⟩ := bS hk_11
      have f3 := (fAt GItem.ok hv_13 (n := list_1.length) (by simp))
      try simp only [↓DN, UP, r1, r2, r3, r4, r5, r6, r7, reduceCtorEq, Tryz.f39, f3]
      refine cG [] (c_impl_CellsOf hy_14) (hK := fun rd b => ?_)
      obtain ⟨v_15, hv_15, hk_11⟩ := bS hk_11
      have f4 := (fWin (eI_ok .u32) (n := y_14.length) (xs := y_14) (by simp))
      have f5 := (fApp hv_15 (n := out_5.length) (by simp) (m := y_14.length) (by simp [bsOf]))
      have f6 := (fWin (eI_ok .u32) (n := out_5.length) (xs := out_5) (by simp))
      have f7 := (fCat (e := (eI .u32)) (ns := y_14.flatMap (eI .u32)) hv_15 rfl)
      try simp only [↓DN, UP, r1, r2, r3, r4, r5, r6, r7, reduceCtorEq, Tryz.f39, f3, f4, f5, f6, f7]
      obtain ⟨y_17, hy_18, hk_11⟩ := bS hk_11
      refine seqK TryzT_eq (fun p : Bool => ⟨[(4, .pv (.one (.arr 0 0 v_15.length))), (9, .pv (.one (.imm 5 list_1.length (list_1.flatMap GItem.cs)))), (10, .pv (.one (.int .i64 (list_1.length : Int)))), (11, .pv (.one (.int .i64 v_6))), (27, .pv (.one (.bool p)))], [.live ⟨1, v_15.length, v_15.flatMap (eI .u32)⟩]⟩) (fun v => y_17 = v) (by rfl) ?_ ?_
      · try simp only [↓DN, UP, r1, r2, r3, r4, r5, r6, r7, reduceCtorEq, Tryz.f39, f3, f4, f5, f6, f7]
        refine stIf hy_18 (fun hb_19 hy_18 => ?_) (fun hb_19 hy_18 => ?_)
        · try simp only [↓DN, UP, r1, r2, r3, r4, r5, r6, r7, reduceCtorEq, Tryz.f39, f3, f4, f5, f6, f7, hb_19]
          obtain rfl := Option.some.inj hy_18
          exact cutT_mk true rfl (wn [4, 9, 10, 11, 27] [3])
        · try simp only [↓DN, UP, r1, r2, r3, r4, r5, r6, r7, reduceCtorEq, Tryz.f39, f3, f4, f5, f6, f7, hb_19]
          obtain rfl := Option.some.inj hy_18
          exact cutT_mk (decide ((v_15.length : Int) > 64)) rfl (wn [4, 9, 10, 11, 27] [3])
      · rintro v_16 hp
        replace hp := hp.symm; subst hp
        try dsimp only at hk_11
        try simp only [↓DN, UP, r1, r2, r3, r4, r5, r6, r7, reduceCtorEq, Tryz.f39]
        refine stIf hk_11 (fun hb_20 hk_11 => ?_) (fun hb_20 hk_11 => ?_)
        · obtain rfl := Option.some.inj hk_11
          try dsimp only at hy_4
          obtain rfl := Option.some.inj hy_4
          try dsimp only at h
          try simp only [↓DN, UP, r1, r2, r3, r4, r5, r6, r7, reduceCtorEq, Tryz.f39]
          obtain rfl := Option.some.inj h
          refine endT_of ?_ ⟨rfl, rfl⟩
          exact ((weak_norm (ks := [0]) (π := []) (fuel := 9) (s' := ⟨[(0, .tup [.one (.emp), .one (.bool false)])], []⟩) (by simp only [WL, r1, r2, r3, r4, r5, r6, r7, reduceCtorEq])).trans (weak_le (by simp only [LEb, r1, r2, r3, r4, r5, r6, r7, reduceCtorEq, TL]) (by simp only [LEb, r1, r2, r3, r4, r5, r6, r7, reduceCtorEq, TL])))
        · try simp only [↓DN, UP, r1, r2, r3, r4, r5, r6, r7, reduceCtorEq, Tryz.f39]
          exact ⟨(v_15, IntKind.wrap .i64 (v_6 + 1)), hk_11, (wn [4, 9, 10, 11] [0])⟩
    · obtain rfl := Option.some.inj hk_11
      try dsimp only at hy_4
      try simp only [↓DN, UP, r1, r2, r3, r4, r5, r6, r7, reduceCtorEq, Tryz.f39]
      obtain rfl := Option.some.inj hy_4
      exact cutT_mk out_5 rfl (wn [4] [0])
  · rintro out_2 hp
    replace hp := hp.symm; subst hp
    try dsimp only at h
    try simp only [↓DN, UP, r1, r2, r3, r4, r5, r6, r7, reduceCtorEq, Tryz.f39]
    obtain rfl := Option.some.inj h
    refine endT_of ?_ ⟨rfl, rfl⟩
    exact (wn [0] [0])
theorem c_slices_Equal_Item {s1_1 : List GItem} {s2_2 : List GItem} {r : Bool} (h : g_slices_Equal_Item s1_1 s2_2 = some r) : Ans Tryz.prog 40 [.one (.imm 5 s1_1.length (s1_1.flatMap GItem.cs)), .one (.imm 5 s2_2.length (s2_2.flatMap GItem.cs))] [] fun v h1 => v = .pv (.one (.bool r)) ∧ h1 = [] := by
  refine ansK (P := fun _ => Tryz.prog) TryzT_eq (fn := Tryz.f40) Tryz.func40 rfl ⟨by kernel_rfl, rfl, rfl, by kernel_rfl⟩ (by simp) (Weak.refl _ _) ?_
  rw [g_slices_Equal_Item] at h
  try simp only [↓DN, UP, r1, r2, r3, r4, r5, r6, r7, reduceCtorEq, Tryz.f40]
  refine seqN TryzT_eq rfl ?_
  try simp only [↓DN, UP, r1, r2, r3, r4, r5, r6, r7, reduceCtorEq, Tryz.f40]
  refine stIf h (fun hb_3 h => ?_) (fun hb_3 h => ?_)
  · try simp only [↓DN, UP, r1, r2, r3, r4, r5, r6, r7, reduceCtorEq, Tryz.f40]
    obtain rfl := Option.some.inj h
    refine endT_of ?_ ⟨rfl, rfl⟩
    exact (wn [0] [])
  · try simp only [↓DN, UP, r1, r2, r3, r4, r5, r6, r7, reduceCtorEq, Tryz.f40]
    obtain ⟨y_4, hy_5, h⟩ := bS h
    refine seqK TryzT_eq (fun p : Unit => ⟨[], []⟩) (fun v => y_4 = .inl v) (by rfl) ?_ ?_
    · try simp only [↓DN, UP, r1, r2, r3, r4, r5, r6, r7, reduceCtorEq, Tryz.f40]
      obtain ⟨y_7, hy_8, hy_5⟩ := bS hy_5
      refine loopK TryzT_eq (fun p : Int => ⟨[(0, .pv (.one (.imm 5 s1_1.length (s1_1.flatMap GItem.cs)))), (1, .pv (.one (.imm 5 s2_2.length (s2_2.flatMap GItem.cs)))), (12, .pv (.one (.int .i64 (s1_1.length : Int)))), (13, .pv (.one (.int .i64 p)))], []⟩) (fun k p => g_slices_Equal_Item_l0 s1_1 s2_2 k p = some y_7) (by kernel_rfl) bigK 0 (wn [0, 1, 12, 13] []) hy_8 (fun _ h => nomatch (show none = some _ from h)) ?_
      rintro k_9 v_6 hk_10
      rw [g_slices_Equal_Item_l0] at hk_10
      try dsimp only at hk_10
      try simp only [↓DN, UP, r1, r2, r3, r4, r5, r6, r7, reduceCtorEq, Tryz.f40]
      refine seqN TryzT_eq rfl ?_
      try simp only [↓DN, UP, r1, r2, r3, r4, r5, r6, r7, reduceCtorEq, Tryz.f40]
      refine stIf hk_10 (fun hb_11 hk_10 => ?_) (fun hb_11 hk_10 => ?_)
      · try simp only [↓DN, UP, r1, r2, r3, r4, r5, r6, r7, reduceCtorEq, Tryz.f40]
        refine seqN TryzT_eq rfl ?_
        obtain ⟨v_12, hv_12, hk_10⟩ := bS hk_10
        obtain ⟨v_13, hv_13, hk_10⟩ := bS hk_10
        have f1 := (fAt GItem.ok hv_12 (n := s1_1.length) (by simp))
        have f2 := (fAt GItem.ok hv_13 (n := s2_2.length) (by simp))
        try simp only [↓DN, UP, r1, r2, r3, r4, r5, r6, r7, reduceCtorEq, Tryz.f40, f1, f2]
        refine ⟨rfl, ?_⟩
        try simp only [↓DN, UP, r1, r2, r3, r4, r5, r6, r7, reduceCtorEq, Tryz.f40, f1, f2]
        refine stIf hk_10 (fun hb_14 hk_10 => ?_) (fun hb_14 hk_10 => ?_)
        · obtain rfl := Option.some.inj hk_10
          try dsimp only at hy_5
          obtain rfl := Option.some.inj hy_5
          try dsimp only at h
          try simp only [↓DN, UP, r1, r2, r3, r4, r5, r6, r7, reduceCtorEq, Tryz.f40, f1, f2]
          obtain rfl := Option.some.inj h
          refine endT_of ?_ ⟨rfl, rfl⟩
          exact (wn [0] [])
        · try simp only [↓DN, UP, r1, r2, r3, r4, r5, r6, r7, reduceCtorEq, Tryz.f40, f1, f2]
          exact ⟨IntKind.wrap .i64 (v_6 + 1), hk_10, (wn [0, 1, 12, 13] [])⟩
      · obtain rfl := Option.some.inj hk_10
        try dsimp only at hy_5
        try simp only [↓DN, UP, r1, r2, r3, r4, r5, r6, r7, reduceCtorEq, Tryz.f40]
        obtain rfl := Option.some.inj hy_5
        exact cutT_mk () (by trivial) (wn [] [])
    · rintro _ hp
      replace hp := hp.symm; subst hp
      try dsimp only at h
      try simp only [↓DN, UP, r1, r2, r3, r4, r5, r6, r7, reduceCtorEq, Tryz.f40]
      obtain rfl := Option.some.inj h
      refine endT_of ?_ ⟨rfl, rfl⟩
      exact (wn [0] [])
theorem c_impl_ListOk {list_1 : List GItem} {r : Bool} (h : g_impl_ListOk list_1 = some r) : Ans Tryz.prog 22 [.one (.imm 5 list_1.length (list_1.flatMap GItem.cs))] [] fun v h1 => v = .pv (.one (.bool r)) ∧ h1 = [] := by
  refine ansK (P := fun _ => Tryz.prog) TryzT_eq (fn := Tryz.f22) Tryz.func22 rfl ⟨by kernel_rfl, rfl, rfl, by kernel_rfl⟩ (by simp) (Weak.refl _ _) ?_
  rw [g_impl_ListOk] at h
  obtain ⟨y_2, hy_2, h⟩ := bS h
  try simp only [↓DN, UP, r1, r2, r3, r4, r5, r6, r7, reduceCtorEq, Tryz.f22]
  refine cG [] (c_impl_Unparse hy_2) (hK := fun rd b => ?_)
  try simp only [↓DN, UP, r1, r2, r3, r4, r5, r6, r7, reduceCtorEq, Tryz.f22]
  refine seqN TryzT_eq rfl ?_
  try simp only [↓DN, UP, r1, r2, r3, r4, r5, r6, r7, reduceCtorEq, Tryz.f22]
  refine stIf h (fun hb_3 h => ?_) (fun hb_3 h => ?_)
  · obtain ⟨y_4, hy_4, h⟩ := bS h
    try simp only [↓DN, UP, r1, r2, r3, r4, r5, r6, r7, reduceCtorEq, Tryz.f22, hb_3]
    refine cG [] (c_impl_ParseCells hy_4) (hK := fun rd b => ?_)
    obtain ⟨y_5, hy_5, h⟩ := bS h
    try simp only [↓DN, UP, r1, r2, r3, r4, r5, r6, r7, reduceCtorEq, Tryz.f22, hb_3]
    refine cG [] (c_slices_Equal_Item hy_5) (hK := fun rd b => ?_)
    try simp only [↓DN, UP, r1, r2, r3, r4, r5, r6, r7, reduceCtorEq, Tryz.f22, hb_3]
    obtain rfl := Option.some.inj h
    refine endT_of ?_ ⟨rfl, rfl⟩
    exact (wn [0] [])
  · try simp only [↓DN, UP, r1, r2, r3, r4, r5, r6, r7, reduceCtorEq, Tryz.f22, hb_3]
    obtain rfl := Option.some.inj h
    refine endT_of ?_ ⟨rfl, rfl⟩
    exact (wn [0] [])
theorem c_impl_PutBlock {s_1 : GStore} {b_2 : Int} {cells_3 : List Int} {r : GStore × Bool} (h : g_impl_PutBlock s_1 b_2 cells_3 = some r) : Ans Tryz.prog 41 [.agg [.imm 1 s_1.Cells.length (s_1.Cells.flatMap (eI .u32))], .one (.int .i64 b_2), .one (.imm 1 cells_3.length (cells_3.flatMap (eI .u32)))] [] fun v h1 => v = .tup [.agg [.arr 0 0 r.1.Cells.length], .one (.bool r.2)] ∧ h1 = [.live ⟨1, r.1.Cells.length, r.1.Cells.flatMap (eI .u32)⟩] := by
  refine ansK (P := fun _ => Tryz.prog) TryzT_eq (fn := Tryz.f41) Tryz.func41 rfl ⟨by kernel_rfl, rfl, rfl, by kernel_rfl⟩ (by simp) (Weak.refl _ _) ?_
  rw [g_impl_PutBlock] at h
  try simp only [↓DN, UP, r1, r2, r3, r4, r5, r6, r7, reduceCtorEq, Tryz.f41]
  refine seqN TryzT_eq rfl ?_
  try simp only [↓DN, UP, r1, r2, r3, r4, r5, r6, r7, reduceCtorEq, Tryz.f41]
  obtain ⟨y_5, hy_6, h⟩ := bS h
  refine seqK TryzT_eq (fun p : Bool => ⟨[(1, .pv (.one (.int .i64 b_2))), (2, .pv (.one (.imm 1 cells_3.length (cells_3.flatMap (eI .u32))))), (3, .pv (.one (.ptr 0 0))), (6, .pv (.one (.ptr 1 0))), (19, .pv (.one (.bool p)))], [.live ⟨1, 1, [.imm 1 s_1.Cells.length (s_1.Cells.flatMap (eI .u32))]⟩, .live ⟨1, 1, [.emp]⟩]⟩) (fun v => y_5 = v) (by rfl) ?_ ?_
  · obtain ⟨y_7, hy_7, hy_6⟩ := bS hy_6
    have f1 := (show bldN 1 = 1 from rfl)
    have f2 := (show bldC [.int .i64 b_2] = [b_2].flatMap (eI .i64) from rfl)
    try simp only [↓DN, UP, r1, r2, r3, r4, r5, r6, r7, reduceCtorEq, Tryz.f41, f1, f2]
    refine callG [] 9 rfl (by simp only [WL, r1, r2, r3, r4, r5, r6, r7, reduceCtorEq, fWin (eI_ok .i64) (n := 1) (xs := [b_2]) (by simp)]) (by simp only [WL, r1, r2, r3, r4, r5, r6, r7, reduceCtorEq, fWin (eI_ok .i64) (n := 1) (xs := [b_2]) (by simp)]) rfl (c_impl_hasBlocks hy_7) (by simp only [WL, r1, r2, r3, r4, r5, r6, r7, reduceCtorEq]) ?_
    intro rd b
    try simp only [↓DN, UP, r1, r2, r3, r4, r5, r6, r7, reduceCtorEq, Tryz.f41, f1, f2]
    refine stIf hy_6 (fun hb_8 hy_6 => ?_) (fun hb_8 hy_6 => ?_)
    · try simp only [↓DN, UP, r1, r2, r3, r4, r5, r6, r7, reduceCtorEq, Tryz.f41, f1, f2, hb_8]
      obtain rfl := Option.some.inj hy_6
      exact cutT_mk true rfl (wn [1, 2, 3, 6, 19] [0, 1])
    · try simp only [↓DN, UP, r1, r2, r3, r4, r5, r6, r7, reduceCtorEq, Tryz.f41, f1, f2, hb_8]
      obtain rfl := Option.some.inj hy_6
      exact cutT_mk (decide ((cells_3.length : Int) > 64)) rfl (wn [1, 2, 3, 6, 19] [0, 1])
  · rintro v_4 hp
    replace hp := hp.symm; subst hp
    try dsimp only at h
    try simp only [↓DN, UP, r1, r2, r3, r4, r5, r6, r7, reduceCtorEq, Tryz.f41]
    refine stIf h (fun hb_9 h => ?_) (fun hb_9 h => ?_)
    · try simp only [↓DN, UP, r1, r2, r3, r4, r5, r6, r7, reduceCtorEq, Tryz.f41]
      obtain rfl := Option.some.inj h
      refine endT_of ?_ ⟨rfl, rfl⟩
      exact ((weak_norm (ks := [0]) (π := []) (fuel := 9) (s' := ⟨[(0, .tup [.agg [.emp], .one (.bool false)])], []⟩) (by simp only [WL, r1, r2, r3, r4, r5, r6, r7, reduceCtorEq])).trans (weak_le (by simp only [LEb, r1, r2, r3, r4, r5, r6, r7, reduceCtorEq, TL]) (by simp only [LEb, r1, r2, r3, r4, r5, r6, r7, reduceCtorEq, TL])))
    · obtain ⟨y_10, hy_10, h⟩ := bS h
      try simp only [↓DN, UP, r1, r2, r3, r4, r5, r6, r7, reduceCtorEq, Tryz.f41]
      refine cG [] (c_slices_Clone_uint32 hy_10) (hK := fun rd b => ?_)
      obtain ⟨v_11, hv_11, h⟩ := bS h
      have f3 := (fSubN hv_11 (n := y_10.length) (by simp))
      have f4 := (show (IntKind.wrap .i64 (b_2 * 64)).toNat + v_11.length ≤ y_10.length from by simpa using fLeW hv_11 (lo := (IntKind.wrap .i64 (b_2 * 64)).toNat) (n := y_10.length) (by simp) (by simp))
      have f5 := (fClear (eI_ok .u32) (a := (IntKind.wrap .i64 (b_2 * 64)).toNat) (n := v_11.length) (xs := y_10) (by simpa using fLeW hv_11 (lo := (IntKind.wrap .i64 (b_2 * 64)).toNat) (n := (y_10).length) (by simp) (by simp)) (0 : Int) (zc := [.int .u32 0]) rfl)
      have f6 := (show (IntKind.wrap .i64 (b_2 * 64)).toNat + v_11.length ≤ y_10.length from by simpa using fLeW (subPut hv_11 (by simp)) (lo := (IntKind.wrap .i64 (b_2 * 64)).toNat) (n := y_10.length) (by simp) (by simp))
      have f7 := (fCopy (eI_ok .u32) (a := (IntKind.wrap .i64 (b_2 * 64)).toNat) (n := v_11.length) (xs := putL y_10 ((IntKind.wrap .i64 (b_2 * 64)).toNat) (List.replicate v_11.length (0 : Int))) (ys := cells_3) (by simpa using fLeW (subPut hv_11 (by simp)) (lo := (IntKind.wrap .i64 (b_2 * 64)).toNat) (n := (putL y_10 ((IntKind.wrap .i64 (b_2 * 64)).toNat) (List.replicate v_11.length (0 : Int))).length) (by simp) (by simp)) (m := cells_3.length) rfl)
      try simp only [↓DN, UP, r1, r2, r3, r4, r5, r6, r7, reduceCtorEq, Tryz.f41, f3, f4, f5, f6, f7]
      obtain rfl := Option.some.inj h
      refine endT_of ?_ ⟨rfl, rfl⟩
      exact (weak_norm (ks := [0]) (π := [2]) (fuel := 9) (by simp only [WL, r1, r2, r3, r4, r5, r6, r7, reduceCtorEq, fWin (eI_ok .u32) (n := y_10.length) (xs := putL (putL y_10 ((IntKind.wrap .i64 (b_2 * 64)).toNat) (List.replicate v_11.length (0 : Int))) ((IntKind.wrap .i64 (b_2 * 64)).toNat) (cells_3.take v_11.length)) (by simp), fWin (eI_ok .u32) (n := y_10.length) (xs := putL (putL y_10 ((IntKind.wrap .i64 (b_2 * 64)).toNat) (List.replicate v_11.length (0 : Int))) ((IntKind.wrap .i64 (b_2 * 64)).toNat) (cells_3.take v_11.length)) (by simp), fWin (eI_ok .u32) (n := y_10.length) (xs := putL (putL y_10 ((IntKind.wrap .i64 (b_2 * 64)).toNat) (List.replicate v_11.length (0 : Int))) ((IntKind.wrap .i64 (b_2 * 64)).toNat) (cells_3.take v_11.length)) (by simp)]))
theorem c_impl_PutItems {s_1 : GStore} {b_2 : Int} {list_3 : List GItem} {r : GStore × Bool} (h : g_impl_PutItems s_1 b_2 list_3 = some r) : Ans Tryz.prog 23 [.agg [.imm 1 s_1.Cells.length (s_1.Cells.flatMap (eI .u32))], .one (.int .i64 b_2), .one (.imm 5 list_3.length (list_3.flatMap GItem.cs))] [] fun v h1 => v = .tup [.agg [.arr 0 0 r.1.Cells.length], .one (.bool r.2)] ∧ h1 = [.live ⟨1, r.1.Cells.length, r.1.Cells.flatMap (eI .u32)⟩] := by
  refine ansK (P := fun _ => Tryz.prog) TryzT_eq (fn := Tryz.f23) Tryz.func23 rfl ⟨by kernel_rfl, rfl, rfl, by kernel_rfl⟩ (by simp) (Weak.refl _ _) ?_
  rw [g_impl_PutItems] at h
  obtain ⟨y_4, hy_4, h⟩ := bS h
  try simp only [↓DN, UP, r1, r2, r3, r4, r5, r6, r7, reduceCtorEq, Tryz.f23]
  refine cG [] (c_impl_Unparse hy_4) (hK := fun rd b => ?_)
  try simp only [↓DN, UP, r1, r2, r3, r4, r5, r6, r7, reduceCtorEq, Tryz.f23]
  refine seqN TryzT_eq rfl ?_
  try simp only [↓DN, UP, r1, r2, r3, r4, r5, r6, r7, reduceCtorEq, Tryz.f23]
  refine stIf h (fun hb_5 h => ?_) (fun hb_5 h => ?_)
  · try simp only [↓DN, UP, r1, r2, r3, r4, r5, r6, r7, reduceCtorEq, Tryz.f23]
    obtain rfl := Option.some.inj h
    refine endT_of ?_ ⟨rfl, rfl⟩
    exact ((weak_norm (ks := [0]) (π := []) (fuel := 9) (s' := ⟨[(0, .tup [.agg [.emp], .one (.bool false)])], []⟩) (by simp only [WL, r1, r2, r3, r4, r5, r6, r7, reduceCtorEq])).trans (weak_le (by simp only [LEb, r1, r2, r3, r4, r5, r6, r7, reduceCtorEq, TL]) (by simp only [LEb, r1, r2, r3, r4, r5, r6, r7, reduceCtorEq, TL])))
  · obtain ⟨y_6, hy_6, h⟩ := bS h
    try simp only [↓DN, UP, r1, r2, r3, r4, r5, r6, r7, reduceCtorEq, Tryz.f23]
    refine cG [] (c_impl_PutBlock hy_6) (hK := fun rd b => ?_)
    try simp only [↓DN, UP, r1, r2, r3, r4, r5, r6, r7, reduceCtorEq, Tryz.f23]
    obtain rfl := Option.some.inj h
    refine endT_of ?_ ⟨rfl, rfl⟩
    exact (wn [0] [3])
theorem c_impl_Rename {s_1 : GStore} {vfrom_2 : Bs} {to_3 : Bs} {r : GStore × Bool} (h : g_impl_Rename s_1 vfrom_2 to_3 = some r) : Ans Tryz.prog 6 [.agg [.imm 1 s_1.Cells.length (s_1.Cells.flatMap (eI .u32))], .one (.str vfrom_2), .one (.str to_3)] [] fun v h1 => v = .tup [.agg [.arr 0 0 r.1.Cells.length], .one (.bool r.2)] ∧ h1 = [.live ⟨1, r.1.Cells.length, r.1.Cells.flatMap (eI .u32)⟩] := by
  refine ansK (P := fun _ => Tryz.prog) TryzT_eq (fn := Tryz.f6) Tryz.func6 rfl ⟨by kernel_rfl, rfl, rfl, by kernel_rfl⟩ (by simp) (Weak.refl _ _) ?_
  rw [g_impl_Rename] at h
  try simp only [↓DN, UP, r1, r2, r3, r4, r5, r6, r7, reduceCtorEq, Tryz.f6]
  refine seqN TryzT_eq rfl ?_
  try simp only [↓DN, UP, r1, r2, r3, r4, r5, r6, r7, reduceCtorEq, Tryz.f6]
  obtain ⟨y_5, hy_6, h⟩ := bS h
  refine seqK TryzT_eq (fun p : Bool => ⟨[(1, .pv (.one (.str vfrom_2))), (2, .pv (.one (.str to_3))), (3, .pv (.one (.ptr 0 0))), (6, .pv (.one (.ptr 1 0))), (22, .pv (.one (.bool p)))], [.live ⟨1, 1, [.imm 1 s_1.Cells.length (s_1.Cells.flatMap (eI .u32))]⟩, .live ⟨1, 1, [.emp]⟩]⟩) (fun v => y_5 = v) (by rfl) ?_ ?_
  · obtain ⟨y_7, hy_7, hy_6⟩ := bS hy_6
    try simp only [↓DN, UP, r1, r2, r3, r4, r5, r6, r7, reduceCtorEq, Tryz.f6]
    refine cG [] (c_impl_StoreOk hy_7) (hK := fun rd b => ?_)
    try simp only [↓DN, UP, r1, r2, r3, r4, r5, r6, r7, reduceCtorEq, Tryz.f6]
    refine stIf hy_6 (fun hb_8 hy_6 => ?_) (fun hb_8 hy_6 => ?_)
    · try simp only [↓DN, UP, r1, r2, r3, r4, r5, r6, r7, reduceCtorEq, Tryz.f6, hb_8]
      obtain rfl := Option.some.inj hy_6
      exact cutT_mk true rfl (wn [1, 2, 3, 6, 22] [0, 1])
    · obtain ⟨y_9, hy_9, hy_6⟩ := bS hy_6
      try simp only [↓DN, UP, r1, r2, r3, r4, r5, r6, r7, reduceCtorEq, Tryz.f6, hb_8]
      refine cG [] (c_impl_NameOk hy_9) (hK := fun rd b => ?_)
      try simp only [↓DN, UP, r1, r2, r3, r4, r5, r6, r7, reduceCtorEq, Tryz.f6, hb_8]
      obtain rfl := Option.some.inj hy_6
      exact cutT_mk (!y_9) rfl (wn [1, 2, 3, 6, 22] [0, 1])
  · rintro v_4 hp
    replace hp := hp.symm; subst hp
    try dsimp only at h
    try simp only [↓DN, UP, r1, r2, r3, r4, r5, r6, r7, reduceCtorEq, Tryz.f6]
    refine stIf h (fun hb_10 h => ?_) (fun hb_10 h => ?_)
    · try simp only [↓DN, UP, r1, r2, r3, r4, r5, r6, r7, reduceCtorEq, Tryz.f6]
      obtain rfl := Option.some.inj h
      refine endT_of ?_ ⟨rfl, rfl⟩
      exact ((weak_norm (ks := [0]) (π := []) (fuel := 9) (s' := ⟨[(0, .tup [.agg [.emp], .one (.bool false)])], []⟩) (by simp only [WL, r1, r2, r3, r4, r5, r6, r7, reduceCtorEq])).trans (weak_le (by simp only [LEb, r1, r2, r3, r4, r5, r6, r7, reduceCtorEq, TL]) (by simp only [LEb, r1, r2, r3, r4, r5, r6, r7, reduceCtorEq, TL])))
    · obtain ⟨y_11, hy_11, h⟩ := bS h
      try simp only [↓DN, UP, r1, r2, r3, r4, r5, r6, r7, reduceCtorEq, Tryz.f6]
      refine cG [] (c_slices_Clone_uint32 hy_11) (hK := fun rd b => ?_)
      try simp only [↓DN, UP, r1, r2, r3, r4, r5, r6, r7, reduceCtorEq, Tryz.f6]
      obtain ⟨y_13, hy_14, h⟩ := bS h
      refine seqK TryzT_eq (fun p : (List Int) => ⟨[(6, .pv (.one (.ptr 0 0))), (8, .pv (.one (.ptr 1 0)))], [.live ⟨1, 1, [.emp]⟩, .live ⟨1, 1, [.arr 2 0 p.length]⟩, .live ⟨1, p.length, p.flatMap (eI .u32)⟩]⟩) (fun v => y_13 = .inl v) (by rfl) ?_ ?_
      · have f1 := (quoI_ne (k := .i64) (a := (s_1.Cells.length : Int)) (b := 64) (by decide))
        try simp only [↓DN, UP, r1, r2, r3, r4, r5, r6, r7, reduceCtorEq, Tryz.f6, f1]
        obtain ⟨y_18, hy_19, hy_14⟩ := bS hy_14
        refine loopK TryzT_eq (fun p : GStore × Int => ⟨[(1, .pv (.one (.str vfrom_2))), (2, .pv (.one (.str to_3))), (3, .pv (.one (.ptr 0 0))), (6, .pv (.one (.ptr 1 0))), (8, .pv (.one (.ptr 2 0))), (31, .pv (.one (.int .i64 (IntKind.wrap .i64 (Int.tdiv (s_1.Cells.length : Int) 64))))), (32, .pv (.one (.int .i64 p.2)))], [.live ⟨1, 1, [.imm 1 s_1.Cells.length (s_1.Cells.flatMap (eI .u32))]⟩, .live ⟨1, 1, [.emp]⟩, .live ⟨1, 1, [.arr 3 0 p.1.Cells.length]⟩, .live ⟨1, p.1.Cells.length, p.1.Cells.flatMap (eI .u32)⟩]⟩) (fun k p => g_impl_Rename_l0 s_1 vfrom_2 to_3 k p.1 p.2 = some y_18) (by kernel_rfl) bigK ((⟨y_11⟩ : GStore), 0) (wn [1, 2, 3, 6, 8, 31, 32] [0, 1, 3, 2]) hy_19 (fun _ h => nomatch (show none = some _ from h)) ?_
        rintro k_20 ⟨out_15, v_16⟩ hk_21
        rw [g_impl_Rename_l0] at hk_21
        try dsimp only at hk_21
        try simp only [↓DN, UP, r1, r2, r3, r4, r5, r6, r7, reduceCtorEq, Tryz.f6]
        refine seqN TryzT_eq rfl ?_
        try simp only [↓DN, UP, r1, r2, r3, r4, r5, r6, r7, reduceCtorEq, Tryz.f6]
        refine stIf hk_21 (fun hb_22 hk_21 => ?_) (fun hb_22 hk_21 => ?_)
        · try simp only [↓DN, UP, r1, r2, r3, r4, r5, r6, r7, reduceCtorEq, Tryz.f6]
          obtain ⟨y_24, hy_25, hk_21⟩ := bS hk_21
          refine seqK TryzT_eq (fun p : (List Int) => ⟨[(1, .pv (.one (.str vfrom_2))), (2, .pv (.one (.str to_3))), (3, .pv (.one (.ptr 0 0))), (6, .pv (.one (.ptr 1 0))), (8, .pv (.one (.ptr 2 0))), (31, .pv (.one (.int .i64 (IntKind.wrap .i64 (Int.tdiv (s_1.Cells.length : Int) 64))))), (32, .pv (.one (.int .i64 v_16)))], [.live ⟨1, 1, [.imm 1 s_1.Cells.length (s_1.Cells.flatMap (eI .u32))]⟩, .live ⟨1, 1, [.emp]⟩, .live ⟨1, 1, [.arr 3 0 p.length]⟩, .live ⟨1, p.length, p.flatMap (eI .u32)⟩]⟩) (fun v => y_24 = .inl v) (by rfl) ?_ ?_
          · obtain ⟨y_26, hy_26, hy_25⟩ := bS hy_25
            try simp only [↓DN, UP, r1, r2, r3, r4, r5, r6, r7, reduceCtorEq, Tryz.f6]
            refine cG [] (c_impl_ItemsOf hy_26) (hK := fun rd b => ?_)
            try simp only [↓DN, UP, r1, r2, r3, r4, r5, r6, r7, reduceCtorEq, Tryz.f6]
            obtain ⟨y_29, hy_30, hy_25⟩ := bS hy_25
            refine seqK TryzT_eq (fun p : (List GItem) × Bool => ⟨[(1, .pv (.one (.str vfrom_2))), (2, .pv (.one (.str to_3))), (3, .pv (.one (.ptr 0 0))), (6, .pv (.one (.ptr 1 0))), (8, .pv (.one (.ptr 2 0))), (9, .pv (.one (.int .i64 v_16))), (10, .pv (.one (.arr 4 0 p.1.length))), (12, .pv (.one (.bool p.2))), (31, .pv (.one (.int .i64 (IntKind.wrap .i64 (Int.tdiv (s_1.Cells.length : Int) 64))))), (32, .pv (.one (.int .i64 v_16)))], [.live ⟨1, 1, [.imm 1 s_1.Cells.length (s_1.Cells.flatMap (eI .u32))]⟩, .live ⟨1, 1, [.emp]⟩, .live ⟨1, 1, [.arr 3 0 out_15.Cells.length]⟩, .live ⟨1, out_15.Cells.length, out_15.Cells.flatMap (eI .u32)⟩, .live ⟨5, p.1.length, p.1.flatMap GItem.cs⟩]⟩) (fun v => y_29 = v) (by rfl) ?_ ?_
            · try simp only [↓DN, UP, r1, r2, r3, r4, r5, r6, r7, reduceCtorEq, Tryz.f6]
              obtain ⟨y_36, hy_37, hy_30⟩ := bS hy_30
              refine loopK TryzT_eq (fun p : (List GItem) × Bool × Int => ⟨[(1, .pv (.one (.str vfrom_2))), (2, .pv (.one (.str to_3))), (3, .pv (.one (.ptr 0 0))), (6, .pv (.one (.ptr 1 0))), (8, .pv (.one (.ptr 2 0))), (9, .pv (.one (.int .i64 v_16))), (10, .pv (.one (.arr 4 0 p.1.length))), (12, .pv (.one (.bool p.2.1))), (31, .pv (.one (.int .i64 (IntKind.wrap .i64 (Int.tdiv (s_1.Cells.length : Int) 64))))), (32, .pv (.one (.int .i64 v_16))), (41, .pv (.one (.arr 4 0 p.1.length))), (42, .pv (.one (.int .i64 (y_26.1.length : Int)))), (43, .pv (.one (.int .i64 p.2.2)))], [.live ⟨1, 1, [.imm 1 s_1.Cells.length (s_1.Cells.flatMap (eI .u32))]⟩, .live ⟨1, 1, [.emp]⟩, .live ⟨1, 1, [.arr 3 0 out_15.Cells.length]⟩, .live ⟨1, out_15.Cells.length, out_15.Cells.flatMap (eI .u32)⟩, .live ⟨5, p.1.length, p.1.flatMap GItem.cs⟩]⟩) (fun k p => g_impl_Rename_l1 vfrom_2 to_3 y_26 k p.1 p.2.1 p.2.2 = some y_36) (by kernel_rfl) bigK (y_26.1, false, 0) (wn [1, 2, 3, 6, 8, 9, 10, 12, 31, 32, 41, 42, 43] [0, 1, 2, 3, 4]) hy_37 (fun _ h => nomatch (show none = some _ from h)) ?_
              rintro k_38 ⟨items_31, changed_32, v_33⟩ hk_39
              rw [g_impl_Rename_l1] at hk_39
              try dsimp only at hk_39
              try simp only [↓DN, UP, r1, r2, r3, r4, r5, r6, r7, reduceCtorEq, Tryz.f6]
              refine seqN TryzT_eq rfl ?_
              try simp only [↓DN, UP, r1, r2, r3, r4, r5, r6, r7, reduceCtorEq, Tryz.f6]
              refine stIf hk_39 (fun hb_40 hk_39 => ?_) (fun hb_40 hk_39 => ?_)
              · try simp only [↓DN, UP, r1, r2, r3, r4, r5, r6, r7, reduceCtorEq, Tryz.f6]
                obtain ⟨y_43, hy_44, hk_39⟩ := bS hk_39
                refine seqK TryzT_eq (fun p : (List GItem) × Bool => ⟨[(1, .pv (.one (.str vfrom_2))), (2, .pv (.one (.str to_3))), (3, .pv (.one (.ptr 0 0))), (6, .pv (.one (.ptr 1 0))), (8, .pv (.one (.ptr 2 0))), (9, .pv (.one (.int .i64 v_16))), (10, .pv (.one (.arr 4 0 p.1.length))), (12, .pv (.one (.bool p.2))), (31, .pv (.one (.int .i64 (IntKind.wrap .i64 (Int.tdiv (s_1.Cells.length : Int) 64))))), (32, .pv (.one (.int .i64 v_16))), (41, .pv (.one (.arr 4 0 p.1.length))), (42, .pv (.one (.int .i64 (y_26.1.length : Int)))), (43, .pv (.one (.int .i64 v_33)))], [.live ⟨1, 1, [.imm 1 s_1.Cells.length (s_1.Cells.flatMap (eI .u32))]⟩, .live ⟨1, 1, [.emp]⟩, .live ⟨1, 1, [.arr 3 0 out_15.Cells.length]⟩, .live ⟨1, out_15.Cells.length, out_15.Cells.flatMap (eI .u32)⟩, .live ⟨5, p.1.length, p.1.flatMap GItem.cs⟩]⟩) (fun v => y_43 = v) (by rfl) ?_ ?_
                · obtain ⟨v_45, hv_45, hy_44⟩ := bS hy_44
                  obtain ⟨y_46, hy_46, hy_44⟩ := bS hy_44
                  have f2 := (fPtr hv_45 (k := 5) (n := items_31.length) (by simp))
                  have f3 := (fGet0 GItem.ok hv_45 (m := 5) (by decide) (by decide))
                  try simp only [↓DN, UP, r1, r2, r3, r4, r5, r6, r7, reduceCtorEq, Tryz.f6, f2, f3]
                  refine cG [] (c_impl_uses hy_46) (hK := fun rd b => ?_)
                  try simp only [↓DN, UP, r1, r2, r3, r4, r5, r6, r7, reduceCtorEq, Tryz.f6, f2, f3]
                  refine stIf hy_44 (fun hb_47 hy_44 => ?_) (fun hb_47 hy_44 => ?_)
                  · have f4 := (fPut GItem.ok hv_45 (q := 1) (ns := [.str to_3]) (y := (⟨v_45.Kind, to_3, v_45.N, v_45.Hex, v_45.Raw⟩ : GItem)) rfl)
                    try simp only [↓DN, UP, r1, r2, r3, r4, r5, r6, r7, reduceCtorEq, Tryz.f6, f2, f3, f4]
                    obtain rfl := Option.some.inj hy_44
                    exact cutT_mk (items_31.set v_33.toNat (⟨v_45.Kind, to_3, v_45.N, v_45.Hex, v_45.Raw⟩ : GItem), true) rfl (weak_norm (ks := [1, 2, 3, 6, 8, 9, 10, 12, 31, 32, 41, 42, 43]) (π := [0, 1, 2, 3, 4]) (fuel := 9) (by simp only [WL, r1, r2, r3, r4, r5, r6, r7, reduceCtorEq, fWin GItem.ok (n := items_31.length) (xs := items_31.set v_33.toNat (⟨v_45.Kind, to_3, v_45.N, v_45.Hex, v_45.Raw⟩ : GItem)) (by simp), fWin GItem.ok (n := items_31.length) (xs := items_31.set v_33.toNat (⟨v_45.Kind, to_3, v_45.N, v_45.Hex, v_45.Raw⟩ : GItem)) (by simp)]))
                  · try simp only [↓DN, UP, r1, r2, r3, r4, r5, r6, r7, reduceCtorEq, Tryz.f6, f2, f3]
                    obtain rfl := Option.some.inj hy_44
                    exact cutT_mk (items_31, changed_32) rfl (wn [1, 2, 3, 6, 8, 9, 10, 12, 31, 32, 41, 42, 43] [0, 1, 2, 3, 4])
                · rintro ⟨items_41, changed_42⟩ hp
                  replace hp := hp.symm; subst hp
                  try dsimp only at hk_39
                  try simp only [↓DN, UP, r1, r2, r3, r4, r5, r6, r7, reduceCtorEq, Tryz.f6]
                  exact ⟨(items_41, changed_42, IntKind.wrap .i64 (v_33 + 1)), hk_39, (wn [1, 2, 3, 6, 8, 9, 10, 12, 31, 32, 41, 42, 43] [0, 1, 2, 3, 4])⟩
              · obtain rfl := Option.some.inj hk_39
                try dsimp only at hy_30
                try simp only [↓DN, UP, r1, r2, r3, r4, r5, r6, r7, reduceCtorEq, Tryz.f6]
                obtain rfl := Option.some.inj hy_30
                exact cutT_mk (items_31, changed_32) rfl (wn [1, 2, 3, 6, 8, 9, 10, 12, 31, 32] [0, 1, 2, 3, 4])
            · rintro ⟨items_27, changed_28⟩ hp
              replace hp := hp.symm; subst hp
              try dsimp only at hy_25
              try simp only [↓DN, UP, r1, r2, r3, r4, r5, r6, r7, reduceCtorEq, Tryz.f6]
              refine seqN TryzT_eq rfl ?_
              try simp only [↓DN, UP, r1, r2, r3, r4, r5, r6, r7, reduceCtorEq, Tryz.f6]
              refine stIf hy_25 (fun hb_48 hy_25 => ?_) (fun hb_48 hy_25 => ?_)
              · try simp only [↓DN, UP, r1, r2, r3, r4, r5, r6, r7, reduceCtorEq, Tryz.f6]
                obtain rfl := Option.some.inj hy_25
                exact cutT_mk out_15.Cells rfl (wn [1, 2, 3, 6, 8, 31, 32] [0, 1, 2, 3])
              · try simp only [↓DN, UP, r1, r2, r3, r4, r5, r6, r7, reduceCtorEq, Tryz.f6]
                refine seqN TryzT_eq rfl ?_
                obtain ⟨y_49, hy_49, hy_25⟩ := bS hy_25
                try simp only [↓DN, UP, r1, r2, r3, r4, r5, r6, r7, reduceCtorEq, Tryz.f6]
                refine cG [] (c_impl_ListOk hy_49) (hK := fun rd b => ?_)
                try simp only [↓DN, UP, r1, r2, r3, r4, r5, r6, r7, reduceCtorEq, Tryz.f6]
                refine stIf hy_25 (fun hb_50 hy_25 => ?_) (fun hb_50 hy_25 => ?_)
                · obtain rfl := Option.some.inj hy_25
                  try dsimp only at hk_21
                  obtain rfl := Option.some.inj hk_21
                  try dsimp only at hy_14
                  obtain rfl := Option.some.inj hy_14
                  try dsimp only at h
                  try simp only [↓DN, UP, r1, r2, r3, r4, r5, r6, r7, reduceCtorEq, Tryz.f6]
                  obtain rfl := Option.some.inj h
                  refine endT_of ?_ ⟨rfl, rfl⟩
                  exact ((weak_norm (ks := [0]) (π := []) (fuel := 9) (s' := ⟨[(0, .tup [.agg [.emp], .one (.bool false)])], []⟩) (by simp only [WL, r1, r2, r3, r4, r5, r6, r7, reduceCtorEq])).trans (weak_le (by simp only [LEb, r1, r2, r3, r4, r5, r6, r7, reduceCtorEq, TL]) (by simp only [LEb, r1, r2, r3, r4, r5, r6, r7, reduceCtorEq, TL])))
                · obtain ⟨y_51, hy_51, hy_25⟩ := bS hy_25
                  try simp only [↓DN, UP, r1, r2, r3, r4, r5, r6, r7, reduceCtorEq, Tryz.f6]
                  refine cG [] (c_impl_PutItems hy_51) (hK := fun rd b => ?_)
                  try simp only [↓DN, UP, r1, r2, r3, r4, r5, r6, r7, reduceCtorEq, Tryz.f6]
                  obtain rfl := Option.some.inj hy_25
                  exact cutT_mk y_51.1.Cells rfl (wn [1, 2, 3, 6, 8, 31, 32] [0, 1, 2, 5])
          · rintro out_23 hp
            replace hp := hp.symm; subst hp
            try dsimp only at hk_21
            try simp only [↓DN, UP, r1, r2, r3, r4, r5, r6, r7, reduceCtorEq, Tryz.f6]
            exact ⟨((⟨out_23⟩ : GStore), IntKind.wrap .i64 (v_16 + 1)), hk_21, (wn [1, 2, 3, 6, 8, 31, 32] [0, 1, 2, 3])⟩
        · obtain rfl := Option.some.inj hk_21
          try dsimp only at hy_14
          try simp only [↓DN, UP, r1, r2, r3, r4, r5, r6, r7, reduceCtorEq, Tryz.f6]
          obtain rfl := Option.some.inj hy_14
          exact cutT_mk out_15.Cells rfl (wn [6, 8] [1, 2, 3])
      · rintro out_12 hp
        replace hp := hp.symm; subst hp
        try dsimp only at h
        try simp only [↓DN, UP, r1, r2, r3, r4, r5, r6, r7, reduceCtorEq, Tryz.f6]
        obtain rfl := Option.some.inj h
        refine endT_of ?_ ⟨rfl, rfl⟩
        exact (wn [0] [2])
theorem c_spec_BlockOf {s_1 : GStore} {b_2 : Int} {r : (List Int) × Bool} (h : g_spec_BlockOf s_1 b_2 = some r) : Ans Tryz.prog 42 [.agg [.imm 1 s_1.Cells.length (s_1.Cells.flatMap (eI .u32))], .one (.int .i64 b_2)] [] fun v h1 => v = .tup [.one (.arr 0 0 r.1.length), .one (.bool r.2)] ∧ h1 = [.live ⟨1, r.1.length, r.1.flatMap (eI .u32)⟩] := by
  refine ansK (P := fun _ => Tryz.prog) TryzT_eq (fn := Tryz.f42) Tryz.func42 rfl ⟨by kernel_rfl, rfl, rfl, by kernel_rfl⟩ (by simp) (Weak.refl _ _) ?_
  rw [g_spec_BlockOf] at h
  try simp only [↓DN, UP, r1, r2, r3, r4, r5, r6, r7, reduceCtorEq, Tryz.f42]
  refine seqN TryzT_eq rfl ?_
  obtain ⟨y_3, hy_3, h⟩ := bS h
  try simp only [↓DN, UP, r1, r2, r3, r4, r5, r6, r7, reduceCtorEq, Tryz.f42]
  refine cG [] (c_spec_l05Has hy_3) (hK := fun rd b => ?_)
  try simp only [↓DN, UP, r1, r2, r3, r4, r5, r6, r7, reduceCtorEq, Tryz.f42]
  refine stIf h (fun hb_4 h => ?_) (fun hb_4 h => ?_)
  · have f1 := (show bldN 0 = 0 from rfl)
    have f2 := (show bldC [] = ([] : List Int).flatMap (eI .u32) from rfl)
    try simp only [↓DN, UP, r1, r2, r3, r4, r5, r6, r7, reduceCtorEq, Tryz.f42, f1, f2]
    obtain rfl := Option.some.inj h
    refine endT_of ?_ ⟨rfl, rfl⟩
    exact (weak_norm (ks := [0]) (π := [1]) (fuel := 9) (by simp only [WL, r1, r2, r3, r4, r5, r6, r7, reduceCtorEq, fWin (eI_ok .u32) (n := 0) (xs := ([] : List Int)) (by simp)]))
  · obtain ⟨v_5, hv_5, h⟩ := bS h
    obtain ⟨v_6, hv_6, h⟩ := bS h
    have f3 := (show bldN 0 = 0 from rfl)
    have f4 := (show bldC [] = ([] : List Int).flatMap (eI .u32) from rfl)
    have f5 := (fSubC (eI_ok .u32) hv_5 (n := s_1.Cells.length) (by simp))
    have f6 := (fApp hv_6 (n := 0) (by simp) (m := v_5.length) (by simp [bsOf]))
    have f7 := (fWin (eI_ok .u32) (n := 0) (xs := ([] : List Int)) (by simp))
    have f8 := (fCat (e := (eI .u32)) (ns := v_5.flatMap (eI .u32)) hv_6 rfl)
    try simp only [↓DN, UP, r1, r2, r3, r4, r5, r6, r7, reduceCtorEq, Tryz.f42, f3, f4, f5, f6, f7, f8]
    obtain rfl := Option.some.inj h
    refine endT_of ?_ ⟨rfl, rfl⟩
    exact (wn [0] [2])
theorem c_spec_l04Kind {tag_1 : Int} {r : Int} (h : g_spec_l04Kind tag_1 = some r) : Ans Tryz.prog 78 [.one (.int .u32 tag_1)] [] fun v h1 => v = .pv (.one (.int .i64 r)) ∧ h1 = [] := by
  refine ansK (P := fun _ => Tryz.prog) TryzT_eq (fn := Tryz.f78) Tryz.func78 rfl ⟨by kernel_rfl, rfl, rfl, by kernel_rfl⟩ (by simp) (Weak.refl _ _) ?_
  rw [g_spec_l04Kind] at h
  try simp only [↓DN, UP, r1, r2, r3, r4, r5, r6, r7, reduceCtorEq, Tryz.f78]
  obtain ⟨y_3, hy_4, h⟩ := bS h
  refine seqK TryzT_eq (fun p : Unit => ⟨[], []⟩) (fun v => y_3 = .inl v) (by rfl) ?_ ?_
  · try simp only [↓DN, UP, r1, r2, r3, r4, r5, r6, r7, reduceCtorEq, Tryz.f78]
    obtain ⟨y_7, hy_8, hy_4⟩ := bS hy_4
    refine loopK TryzT_eq (fun p : Int => ⟨[(0, .pv (.one (.int .u32 tag_1))), (3, .pv (.one (.int .i64 p)))], []⟩) (fun k p => g_spec_l04Kind_l0 tag_1 k p = some y_7) (by kernel_rfl) bigK 1 (wn [0, 3] []) hy_8 (fun _ h => nomatch (show none = some _ from h)) ?_
    rintro k_9 k_5 hk_10
    rw [g_spec_l04Kind_l0] at hk_10
    try dsimp only at hk_10
    try simp only [↓DN, UP, r1, r2, r3, r4, r5, r6, r7, reduceCtorEq, Tryz.f78]
    refine seqN TryzT_eq rfl ?_
    try simp only [↓DN, UP, r1, r2, r3, r4, r5, r6, r7, reduceCtorEq, Tryz.f78]
    refine stIf hk_10 (fun hb_11 hk_10 => ?_) (fun hb_11 hk_10 => ?_)
    · try simp only [↓DN, UP, r1, r2, r3, r4, r5, r6, r7, reduceCtorEq, Tryz.f78]
      refine seqN TryzT_eq rfl ?_
      obtain ⟨y_12, hy_12, hk_10⟩ := bS hk_10
      try simp only [↓DN, UP, r1, r2, r3, r4, r5, r6, r7, reduceCtorEq, Tryz.f78]
      refine cG [] (c_spec_l04Tag hy_12) (hK := fun rd b => ?_)
      try simp only [↓DN, UP, r1, r2, r3, r4, r5, r6, r7, reduceCtorEq, Tryz.f78]
      refine stIf hk_10 (fun hb_13 hk_10 => ?_) (fun hb_13 hk_10 => ?_)
      · obtain rfl := Option.some.inj hk_10
        try dsimp only at hy_4
        obtain rfl := Option.some.inj hy_4
        try dsimp only at h
        try simp only [↓DN, UP, r1, r2, r3, r4, r5, r6, r7, reduceCtorEq, Tryz.f78]
        obtain rfl := Option.some.inj h
        refine endT_of ?_ ⟨rfl, rfl⟩
        exact (wn [0] [])
      · try simp only [↓DN, UP, r1, r2, r3, r4, r5, r6, r7, reduceCtorEq, Tryz.f78]
        exact ⟨IntKind.wrap .i64 (k_5 + 1), hk_10, (wn [0, 3] [])⟩
    · obtain rfl := Option.some.inj hk_10
      try dsimp only at hy_4
      try simp only [↓DN, UP, r1, r2, r3, r4, r5, r6, r7, reduceCtorEq, Tryz.f78]
      obtain rfl := Option.some.inj hy_4
      exact cutT_mk () (by trivial) (wn [] [])
  · rintro _ hp
    replace hp := hp.symm; subst hp
    try dsimp only at h
    try simp only [↓DN, UP, r1, r2, r3, r4, r5, r6, r7, reduceCtorEq, Tryz.f78]
    obtain rfl := Option.some.inj h
    refine endT_of ?_ ⟨rfl, rfl⟩
    exact (wn [0] [])
theorem c_spec_Decode {bits_1 : Int} {n_2 : Int} {r : Int × Int} (h : g_spec_Decode bits_1 n_2 = some r) : Ans Tryz.prog 97 [.one (.int .u32 bits_1), .one (.int .i64 n_2)] [] fun v h1 => v = .tup [.one (.int .i64 r.1), .one (.int .i64 r.2)] ∧ h1 = [] := by
  refine ansK (P := fun _ => Tryz.prog) TryzT_eq (fn := Tryz.f97) Tryz.func97 rfl ⟨by kernel_rfl, rfl, rfl, by kernel_rfl⟩ (by simp) (Weak.refl _ _) ?_
  rw [g_spec_Decode] at h
  try simp only [↓DN, UP, r1, r2, r3, r4, r5, r6, r7, reduceCtorEq, Tryz.f97]
  refine seqN TryzT_eq rfl ?_
  obtain ⟨y_3, hy_3, h⟩ := bS h
  try simp only [↓DN, UP, r1, r2, r3, r4, r5, r6, r7, reduceCtorEq, Tryz.f97]
  refine cG [] (c_spec_l01In hy_3) (hK := fun rd b => ?_)
  try simp only [↓DN, UP, r1, r2, r3, r4, r5, r6, r7, reduceCtorEq, Tryz.f97]
  refine stIf h (fun hb_4 h => ?_) (fun hb_4 h => ?_)
  · try simp only [↓DN, UP, r1, r2, r3, r4, r5, r6, r7, reduceCtorEq, Tryz.f97]
    obtain rfl := Option.some.inj h
    refine endT_of ?_ ⟨rfl, rfl⟩
    exact (wn [0] [])
  · try simp only [↓DN, UP, r1, r2, r3, r4, r5, r6, r7, reduceCtorEq, Tryz.f97]
    obtain ⟨y_7, hy_8, h⟩ := bS h
    refine seqK TryzT_eq (fun p : Unit => ⟨[], []⟩) (fun v => y_7 = .inl v) (by rfl) ?_ ?_
    · try simp only [↓DN, UP, r1, r2, r3, r4, r5, r6, r7, reduceCtorEq, Tryz.f97]
      obtain ⟨y_12, hy_13, hy_8⟩ := bS hy_8
      refine loopK TryzT_eq (fun p : Int => ⟨[(0, .pv (.one (.int .u32 bits_1))), (1, .pv (.one (.int .i64 n_2))), (6, .pv (.one (.int .i64 p)))], []⟩) (fun k p => g_spec_Decode_l0 bits_1 n_2 k p = some y_12) (by kernel_rfl) bigK 0 (wn [0, 1, 6] []) hy_13 (fun _ h => nomatch (show none = some _ from h)) ?_
      rintro k_14 k_9 hk_15
      rw [g_spec_Decode_l0] at hk_15
      try dsimp only at hk_15
      try simp only [↓DN, UP, r1, r2, r3, r4, r5, r6, r7, reduceCtorEq, Tryz.f97]
      refine seqN TryzT_eq rfl ?_
      try simp only [↓DN, UP, r1, r2, r3, r4, r5, r6, r7, reduceCtorEq, Tryz.f97]
      refine stIf hk_15 (fun hb_16 hk_15 => ?_) (fun hb_16 hk_15 => ?_)
      · try simp only [↓DN, UP, r1, r2, r3, r4, r5, r6, r7, reduceCtorEq, Tryz.f97]
        obtain ⟨y_18, hy_19, hk_15⟩ := bS hk_15
        refine seqK TryzT_eq (fun p : Unit => ⟨[(0, .pv (.one (.int .u32 bits_1))), (1, .pv (.one (.int .i64 n_2))), (6, .pv (.one (.int .i64 k_9)))], []⟩) (fun v => y_18 = .inl v) (by rfl) ?_ ?_
        · obtain ⟨y_20, hy_20, hy_19⟩ := bS hy_19
          try simp only [↓DN, UP, r1, r2, r3, r4, r5, r6, r7, reduceCtorEq, Tryz.f97]
          refine cG [] (c_spec_WidthOf hy_20) (hK := fun rd b => ?_)
          try simp only [↓DN, UP, r1, r2, r3, r4, r5, r6, r7, reduceCtorEq, Tryz.f97]
          refine seqN TryzT_eq rfl ?_
          try simp only [↓DN, UP, r1, r2, r3, r4, r5, r6, r7, reduceCtorEq, Tryz.f97]
          refine stIf hy_19 (fun hb_21 hy_19 => ?_) (fun hb_21 hy_19 => ?_)
          · try simp only [↓DN, UP, r1, r2, r3, r4, r5, r6, r7, reduceCtorEq, Tryz.f97]
            obtain rfl := Option.some.inj hy_19
            exact cutT_mk () (by trivial) (wn [0, 1, 6] [])
          · obtain ⟨v_22, hv_22, hy_19⟩ := bS hy_19
            obtain ⟨v_23, hv_23, hy_19⟩ := bS hy_19
            obtain ⟨y_24, hy_24, hy_19⟩ := bS hy_19
            try simp only [↓DN, UP, r1, r2, r3, r4, r5, r6, r7, reduceCtorEq, Tryz.f97, hv_22, hv_23]
            refine cG [] (c_spec_BitsOf hy_24) (hK := fun rd b => ?_)
            try simp only [↓DN, UP, r1, r2, r3, r4, r5, r6, r7, reduceCtorEq, Tryz.f97, hv_22, hv_23]
            refine stIf hy_19 (fun hb_25 hy_19 => ?_) (fun hb_25 hy_19 => ?_)
            · obtain rfl := Option.some.inj hy_19
              try dsimp only at hk_15
              obtain rfl := Option.some.inj hk_15
              try dsimp only at hy_8
              obtain rfl := Option.some.inj hy_8
              try dsimp only at h
              try simp only [↓DN, UP, r1, r2, r3, r4, r5, r6, r7, reduceCtorEq, Tryz.f97, hv_22, hv_23]
              obtain rfl := Option.some.inj h
              refine endT_of ?_ ⟨rfl, rfl⟩
              exact (wn [0] [])
            · try simp only [↓DN, UP, r1, r2, r3, r4, r5, r6, r7, reduceCtorEq, Tryz.f97, hv_22, hv_23]
              obtain rfl := Option.some.inj hy_19
              exact cutT_mk () (by trivial) (wn [0, 1, 6] [])
        · rintro _ hp
          replace hp := hp.symm; subst hp
          try dsimp only at hk_15
          try simp only [↓DN, UP, r1, r2, r3, r4, r5, r6, r7, reduceCtorEq, Tryz.f97]
          exact ⟨IntKind.wrap .i64 (k_9 + 1), hk_15, (wn [0, 1, 6] [])⟩
      · obtain rfl := Option.some.inj hk_15
        try dsimp only at hy_8
        try simp only [↓DN, UP, r1, r2, r3, r4, r5, r6, r7, reduceCtorEq, Tryz.f97]
        obtain rfl := Option.some.inj hy_8
        exact cutT_mk () (by trivial) (wn [] [])
    · rintro _ hp
      replace hp := hp.symm; subst hp
      try dsimp only at h
      try simp only [↓DN, UP, r1, r2, r3, r4, r5, r6, r7, reduceCtorEq, Tryz.f97]
      obtain rfl := Option.some.inj h
      refine endT_of ?_ ⟨rfl, rfl⟩
      exact (wn [0] [])
theorem c_spec_UnpackOne {f_1 : Int} {r : Bs} (h : g_spec_UnpackOne f_1 = some r) : Ans Tryz.prog 82 [.one (.int .u32 f_1)] [] fun v h1 => v = .pv (.one (.str r)) ∧ h1 = [] := by
  refine ansK (P := fun _ => Tryz.prog) TryzT_eq (fn := Tryz.f82) Tryz.func82 rfl ⟨by kernel_rfl, rfl, rfl, by kernel_rfl⟩ (by simp) (Weak.refl _ _) ?_
  rw [g_spec_UnpackOne] at h
  try simp only [↓DN, UP, r1, r2, r3, r4, r5, r6, r7, reduceCtorEq, Tryz.f82]
  refine seqN TryzT_eq rfl ?_
  try simp only [↓DN, UP, r1, r2, r3, r4, r5, r6, r7, reduceCtorEq, Tryz.f82]
  refine stIf h (fun hb_2 h => ?_) (fun hb_2 h => ?_)
  · try simp only [↓DN, UP, r1, r2, r3, r4, r5, r6, r7, reduceCtorEq, Tryz.f82]
    obtain rfl := Option.some.inj h
    refine endT_of ?_ ⟨rfl, rfl⟩
    exact (wn [0] [])
  · have f1 := (show bldN 0 = 0 from rfl)
    have f2 := (show bldC [] = ([] : List Int).flatMap (eI .u8) from rfl)
    try simp only [↓DN, UP, r1, r2, r3, r4, r5, r6, r7, reduceCtorEq, Tryz.f82, f1, f2]
    obtain ⟨y_6, hy_7, h⟩ := bS h
    refine seqK TryzT_eq (fun p : (List Int) => ⟨[(3, .pv (.one (.arr 0 0 p.length)))], [.live ⟨1, p.length, p.flatMap (eI .u8)⟩]⟩) (fun v => y_6 = v) (by rfl) ?_ ?_
    · try simp only [↓DN, UP, r1, r2, r3, r4, r5, r6, r7, reduceCtorEq, Tryz.f82, f1, f2]
      refine loopK TryzT_eq (fun p : (List Int) × Int => ⟨[(0, .pv (.one (.int .u32 f_1))), (3, .pv (.one (.arr 0 0 p.1.length))), (4, .pv (.one (.int .i64 p.2)))], [.live ⟨1, p.1.length, p.1.flatMap (eI .u8)⟩]⟩) (fun k p => g_spec_UnpackOne_l0 f_1 k p.1 p.2 = some y_6) (by kernel_rfl) bigK (([] : List Int), 28) (weak_norm (ks := [0, 3, 4]) (π := [0]) (fuel := 9) (by simp only [WL, r1, r2, r3, r4, r5, r6, r7, reduceCtorEq, fWin (eI_ok .u8) (n := 0) (xs := ([] : List Int)) (by simp)])) hy_7 (fun _ h => nomatch (show none = some _ from h)) ?_
      rintro k_8 ⟨out_3, left_4⟩ hk_9
      rw [g_spec_UnpackOne_l0] at hk_9
      try dsimp only at hk_9
      try simp only [↓DN, UP, r1, r2, r3, r4, r5, r6, r7, reduceCtorEq, Tryz.f82]
      refine seqN TryzT_eq rfl ?_
      try simp only [↓DN, UP, r1, r2, r3, r4, r5, r6, r7, reduceCtorEq, Tryz.f82]
      obtain ⟨y_11, hy_12, hk_9⟩ := bS hk_9
      refine seqK TryzT_eq (fun p : Bool => ⟨[(0, .pv (.one (.int .u32 f_1))), (3, .pv (.one (.arr 0 0 out_3.length))), (4, .pv (.one (.int .i64 left_4))), (22, .pv (.one (.bool p)))], [.live ⟨1, out_3.length, out_3.flatMap (eI .u8)⟩]⟩) (fun v => y_11 = v) (by rfl) ?_ ?_
      · try simp only [↓DN, UP, r1, r2, r3, r4, r5, r6, r7, reduceCtorEq, Tryz.f82]
        refine stIf hy_12 (fun hb_13 hy_12 => ?_) (fun hb_13 hy_12 => ?_)
        · obtain ⟨v_14, hv_14, hy_12⟩ := bS hy_12
          try simp only [↓DN, UP, r1, r2, r3, r4, r5, r6, r7, reduceCtorEq, Tryz.f82, hb_13, hv_14]
          obtain rfl := Option.some.inj hy_12
          exact cutT_mk ((andI .i64 (IntKind.wrap .i64 f_1) (IntKind.wrap .i64 (v_14 - 1))) != 0) rfl (wn [0, 3, 4, 22] [0])
        · try simp only [↓DN, UP, r1, r2, r3, r4, r5, r6, r7, reduceCtorEq, Tryz.f82, hb_13]
          obtain rfl := Option.some.inj hy_12
          exact cutT_mk false rfl (wn [0, 3, 4, 22] [0])
      · rintro v_10 hp
        replace hp := hp.symm; subst hp
        try dsimp only at hk_9
        try simp only [↓DN, UP, r1, r2, r3, r4, r5, r6, r7, reduceCtorEq, Tryz.f82]
        refine stIf hk_9 (fun hb_15 hk_9 => ?_) (fun hb_15 hk_9 => ?_)
        · obtain ⟨y_16, hy_16, hk_9⟩ := bS hk_9
          try simp only [↓DN, UP, r1, r2, r3, r4, r5, r6, r7, reduceCtorEq, Tryz.f82]
          refine cG [] (c_spec_Decode hy_16) (hK := fun rd b => ?_)
          try simp only [↓DN, UP, r1, r2, r3, r4, r5, r6, r7, reduceCtorEq, Tryz.f82]
          refine seqN TryzT_eq rfl ?_
          try simp only [↓DN, UP, r1, r2, r3, r4, r5, r6, r7, reduceCtorEq, Tryz.f82]
          refine stIf hk_9 (fun hb_17 hk_9 => ?_) (fun hb_17 hk_9 => ?_)
          · try simp only [↓DN, UP, r1, r2, r3, r4, r5, r6, r7, reduceCtorEq, Tryz.f82]
            obtain rfl := Option.some.inj hk_9
            exact cutT_mk out_3 rfl (wn [3] [0])
          · obtain ⟨y_18, hy_18, hk_9⟩ := bS hk_9
            try simp only [↓DN, UP, r1, r2, r3, r4, r5, r6, r7, reduceCtorEq, Tryz.f82]
            refine cG [] (c_spec_LetterAt hy_18) (hK := fun rd b => ?_)
            obtain ⟨v_19, hv_19, hk_9⟩ := bS hk_9
            have f3 := (show bldN 1 = 1 from rfl)
            have f4 := (show bldC [.int .u8 y_18] = [y_18].flatMap (eI .u8) from rfl)
            have f5 := (fWin (eI_ok .u8) (n := 1) (xs := [y_18]) (by simp))
            have f6 := (fApp hv_19 (n := out_3.length) (by simp) (m := 1) (by simp [bsOf]))
            have f7 := (fWin (eI_ok .u8) (n := out_3.length) (xs := out_3) (by simp))
            have f8 := (fCat (e := (eI .u8)) (ns := [y_18].flatMap (eI .u8)) hv_19 rfl)
            try simp only [↓DN, UP, r1, r2, r3, r4, r5, r6, r7, reduceCtorEq, Tryz.f82, f3, f4, f5, f6, f7, f8]
            exact ⟨(v_19, IntKind.wrap .i64 (left_4 - y_16.2)), hk_9, (wn [0, 3, 4] [2])⟩
        · try simp only [↓DN, UP, r1, r2, r3, r4, r5, r6, r7, reduceCtorEq, Tryz.f82]
          obtain rfl := Option.some.inj hk_9
          exact cutT_mk out_3 rfl (wn [3] [0])
    · rintro out_5 hp
      replace hp := hp.symm; subst hp
      try dsimp only at h
      have f9 := (fWin (eI_ok .u8) (n := out_5.length) (xs := out_5) (by simp))
      try simp only [↓DN, UP, r1, r2, r3, r4, r5, r6, r7, reduceCtorEq, Tryz.f82, f9]
      obtain rfl := Option.some.inj h
      refine endT_of ?_ ⟨rfl, rfl⟩
      exact (wn [0] [])
theorem c_spec_l03Same {a_1 : List Int} {b_2 : List Int} {r : Bool} (h : g_spec_l03Same a_1 b_2 = some r) : Ans Tryz.prog 103 [.one (.imm 1 a_1.length (a_1.flatMap (eI .u32))), .one (.imm 1 b_2.length (b_2.flatMap (eI .u32)))] [] fun v h1 => v = .pv (.one (.bool r)) ∧ h1 = [] := by
  refine ansK (P := fun _ => Tryz.prog) TryzT_eq (fn := Tryz.f103) Tryz.func103 rfl ⟨by kernel_rfl, rfl, rfl, by kernel_rfl⟩ (by simp) (Weak.refl _ _) ?_
  rw [g_spec_l03Same] at h
  try simp only [↓DN, UP, r1, r2, r3, r4, r5, r6, r7, reduceCtorEq, Tryz.f103]
  refine seqN TryzT_eq rfl ?_
  try simp only [↓DN, UP, r1, r2, r3, r4, r5, r6, r7, reduceCtorEq, Tryz.f103]
  refine stIf h (fun hb_3 h => ?_) (fun hb_3 h => ?_)
  · try simp only [↓DN, UP, r1, r2, r3, r4, r5, r6, r7, reduceCtorEq, Tryz.f103]
    obtain rfl := Option.some.inj h
    refine endT_of ?_ ⟨rfl, rfl⟩
    exact (wn [0] [])
  · try simp only [↓DN, UP, r1, r2, r3, r4, r5, r6, r7, reduceCtorEq, Tryz.f103]
    obtain ⟨y_4, hy_5, h⟩ := bS h
    refine seqK TryzT_eq (fun p : Unit => ⟨[], []⟩) (fun v => y_4 = .inl v) (by rfl) ?_ ?_
    · try simp only [↓DN, UP, r1, r2, r3, r4, r5, r6, r7, reduceCtorEq, Tryz.f103]
      obtain ⟨y_7, hy_8, hy_5⟩ := bS hy_5
      refine loopK TryzT_eq (fun p : Int => ⟨[(0, .pv (.one (.imm 1 a_1.length (a_1.flatMap (eI .u32))))), (1, .pv (.one (.imm 1 b_2.length (b_2.flatMap (eI .u32))))), (5, .pv (.one (.int .i64 p)))], []⟩) (fun k p => g_spec_l03Same_l0 a_1 b_2 k p = some y_7) (by kernel_rfl) bigK 0 (wn [0, 1, 5] []) hy_8 (fun _ h => nomatch (show none = some _ from h)) ?_
      rintro k_9 i_6 hk_10
      rw [g_spec_l03Same_l0] at hk_10
      try dsimp only at hk_10
      try simp only [↓DN, UP, r1, r2, r3, r4, r5, r6, r7, reduceCtorEq, Tryz.f103]
      refine seqN TryzT_eq rfl ?_
      try simp only [↓DN, UP, r1, r2, r3, r4, r5, r6, r7, reduceCtorEq, Tryz.f103]
      refine stIf hk_10 (fun hb_11 hk_10 => ?_) (fun hb_11 hk_10 => ?_)
      · try simp only [↓DN, UP, r1, r2, r3, r4, r5, r6, r7, reduceCtorEq, Tryz.f103]
        refine seqN TryzT_eq rfl ?_
        obtain ⟨v_12, hv_12, hk_10⟩ := bS hk_10
        obtain ⟨v_13, hv_13, hk_10⟩ := bS hk_10
        have f1 := (fAt (eI_ok .u32) hv_12 (n := a_1.length) (by simp))
        have f2 := (fAt (eI_ok .u32) hv_13 (n := b_2.length) (by simp))
        try simp only [↓DN, UP, r1, r2, r3, r4, r5, r6, r7, reduceCtorEq, Tryz.f103, f1, f2]
        refine ⟨rfl, ?_⟩
        try simp only [↓DN, UP, r1, r2, r3, r4, r5, r6, r7, reduceCtorEq, Tryz.f103, f1, f2]
        refine stIf hk_10 (fun hb_14 hk_10 => ?_) (fun hb_14 hk_10 => ?_)
        · obtain rfl := Option.some.inj hk_10
          try dsimp only at hy_5
          obtain rfl := Option.some.inj hy_5
          try dsimp only at h
          try simp only [↓DN, UP, r1, r2, r3, r4, r5, r6, r7, reduceCtorEq, Tryz.f103, f1, f2]
          obtain rfl := Option.some.inj h
          refine endT_of ?_ ⟨rfl, rfl⟩
          exact (wn [0] [])
        · try simp only [↓DN, UP, r1, r2, r3, r4, r5, r6, r7, reduceCtorEq, Tryz.f103, f1, f2]
          exact ⟨IntKind.wrap .i64 (i_6 + 1), hk_10, (wn [0, 1, 5] [])⟩
      · obtain rfl := Option.some.inj hk_10
        try dsimp only at hy_5
        try simp only [↓DN, UP, r1, r2, r3, r4, r5, r6, r7, reduceCtorEq, Tryz.f103]
        obtain rfl := Option.some.inj hy_5
        exact cutT_mk () (by trivial) (wn [] [])
    · rintro _ hp
      replace hp := hp.symm; subst hp
      try dsimp only at h
      try simp only [↓DN, UP, r1, r2, r3, r4, r5, r6, r7, reduceCtorEq, Tryz.f103]
      obtain rfl := Option.some.inj h
      refine endT_of ?_ ⟨rfl, rfl⟩
      exact (wn [0] [])
theorem c_spec_Unpack {list_1 : List Int} {r : Bs × Bool} (h : g_spec_Unpack list_1 = some r) : Ans Tryz.prog 95 [.one (.imm 1 list_1.length (list_1.flatMap (eI .u32)))] [] fun v h1 => v = .tup [.one (.str r.1), .one (.bool r.2)] ∧ h1 = [] := by
  refine ansK (P := fun _ => Tryz.prog) TryzT_eq (fn := Tryz.f95) Tryz.func95 rfl ⟨by kernel_rfl, rfl, rfl, by kernel_rfl⟩ (by simp) (Weak.refl _ _) ?_
  rw [g_spec_Unpack] at h
  try simp only [↓DN, UP, r1, r2, r3, r4, r5, r6, r7, reduceCtorEq, Tryz.f95]
  refine seqN TryzT_eq rfl ?_
  try simp only [↓DN, UP, r1, r2, r3, r4, r5, r6, r7, reduceCtorEq, Tryz.f95]
  refine stIf h (fun hb_2 h => ?_) (fun hb_2 h => ?_)
  · try simp only [↓DN, UP, r1, r2, r3, r4, r5, r6, r7, reduceCtorEq, Tryz.f95]
    obtain rfl := Option.some.inj h
    refine endT_of ?_ ⟨rfl, rfl⟩
    exact (wn [0] [])
  · try simp only [↓DN, UP, r1, r2, r3, r4, r5, r6, r7, reduceCtorEq, Tryz.f95]
    obtain ⟨y_4, hy_5, h⟩ := bS h
    refine seqK TryzT_eq (fun p : Bs => ⟨[(0, .pv (.one (.imm 1 list_1.length (list_1.flatMap (eI .u32))))), (4, .pv (.one (.str p)))], []⟩) (fun v => y_4 = v) (by rfl) ?_ ?_
    · try simp only [↓DN, UP, r1, r2, r3, r4, r5, r6, r7, reduceCtorEq, Tryz.f95]
      obtain ⟨y_9, hy_10, hy_5⟩ := bS hy_5
      refine loopK TryzT_eq (fun p : Bs × Int => ⟨[(0, .pv (.one (.imm 1 list_1.length (list_1.flatMap (eI .u32))))), (4, .pv (.one (.str p.1))), (5, .pv (.one (.int .i64 p.2)))], []⟩) (fun k p => g_spec_Unpack_l0 list_1 k p.1 p.2 = some y_9) (by kernel_rfl) bigK ([], 0) (wn [0, 4, 5] []) hy_10 (fun _ h => nomatch (show none = some _ from h)) ?_
      rintro k_11 ⟨s_6, i_7⟩ hk_12
      rw [g_spec_Unpack_l0] at hk_12
      try dsimp only at hk_12
      try simp only [↓DN, UP, r1, r2, r3, r4, r5, r6, r7, reduceCtorEq, Tryz.f95]
      refine seqN TryzT_eq rfl ?_
      try simp only [↓DN, UP, r1, r2, r3, r4, r5, r6, r7, reduceCtorEq, Tryz.f95]
      refine stIf hk_12 (fun hb_13 hk_12 => ?_) (fun hb_13 hk_12 => ?_)
      · try simp only [↓DN, UP, r1, r2, r3, r4, r5, r6, r7, reduceCtorEq, Tryz.f95]
        refine seqN TryzT_eq rfl ?_
        obtain ⟨v_14, hv_14, hk_12⟩ := bS hk_12
        obtain ⟨y_15, hy_15, hk_12⟩ := bS hk_12
        have f1 := (fAt (eI_ok .u32) hv_14 (n := list_1.length) (by simp))
        try simp only [↓DN, UP, r1, r2, r3, r4, r5, r6, r7, reduceCtorEq, Tryz.f95, f1]
        refine cG [] (c_spec_UnpackOne hy_15) (hK := fun rd b => ?_)
        obtain ⟨v_16, hv_16, hk_12⟩ := bS hk_12
        try simp only [↓DN, UP, r1, r2, r3, r4, r5, r6, r7, reduceCtorEq, Tryz.f95, f1, hv_16]
        exact ⟨(v_16, IntKind.wrap .i64 (i_7 + 1)), hk_12, (wn [0, 4, 5] [])⟩
      · obtain rfl := Option.some.inj hk_12
        try dsimp only at hy_5
        try simp only [↓DN, UP, r1, r2, r3, r4, r5, r6, r7, reduceCtorEq, Tryz.f95]
        obtain rfl := Option.some.inj hy_5
        exact cutT_mk s_6 rfl (wn [0, 4] [])
    · rintro s_3 hp
      replace hp := hp.symm; subst hp
      try dsimp only at h
      try simp only [↓DN, UP, r1, r2, r3, r4, r5, r6, r7, reduceCtorEq, Tryz.f95]
      refine seqN TryzT_eq rfl ?_
      try simp only [↓DN, UP, r1, r2, r3, r4, r5, r6, r7, reduceCtorEq, Tryz.f95]
      obtain ⟨y_18, hy_19, h⟩ := bS h
      refine seqK TryzT_eq (fun p : Bool => ⟨[(4, .pv (.one (.str s_3))), (31, .pv (.one (.bool p)))], []⟩) (fun v => y_18 = v) (by rfl) ?_ ?_
      · obtain ⟨y_20, hy_20, hy_19⟩ := bS hy_19
        try simp only [↓DN, UP, r1, r2, r3, r4, r5, r6, r7, reduceCtorEq, Tryz.f95]
        refine cG [] (c_spec_NameOk hy_20) (hK := fun rd b => ?_)
        try simp only [↓DN, UP, r1, r2, r3, r4, r5, r6, r7, reduceCtorEq, Tryz.f95]
        refine stIf hy_19 (fun hb_21 hy_19 => ?_) (fun hb_21 hy_19 => ?_)
        · try simp only [↓DN, UP, r1, r2, r3, r4, r5, r6, r7, reduceCtorEq, Tryz.f95, hb_21]
          obtain rfl := Option.some.inj hy_19
          exact cutT_mk true rfl (wn [4, 31] [])
        · obtain ⟨y_22, hy_22, hy_19⟩ := bS hy_19
          try simp only [↓DN, UP, r1, r2, r3, r4, r5, r6, r7, reduceCtorEq, Tryz.f95, hb_21]
          refine cG [] (c_spec_Pack hy_22) (hK := fun rd b => ?_)
          obtain ⟨y_23, hy_23, hy_19⟩ := bS hy_19
          try simp only [↓DN, UP, r1, r2, r3, r4, r5, r6, r7, reduceCtorEq, Tryz.f95, hb_21]
          refine cG [] (c_spec_l03Same hy_23) (hK := fun rd b => ?_)
          try simp only [↓DN, UP, r1, r2, r3, r4, r5, r6, r7, reduceCtorEq, Tryz.f95, hb_21]
          obtain rfl := Option.some.inj hy_19
          exact cutT_mk (!y_23) rfl (wn [4, 31] [])
      · rintro v_17 hp
        replace hp := hp.symm; subst hp
        try dsimp only at h
        try simp only [↓DN, UP, r1, r2, r3, r4, r5, r6, r7, reduceCtorEq, Tryz.f95]
        refine stIf h (fun hb_24 h => ?_) (fun hb_24 h => ?_)
        · try simp only [↓DN, UP, r1, r2, r3, r4, r5, r6, r7, reduceCtorEq, Tryz.f95]
          obtain rfl := Option.some.inj h
          refine endT_of ?_ ⟨rfl, rfl⟩
          exact (wn [0] [])
        · try simp only [↓DN, UP, r1, r2, r3, r4, r5, r6, r7, reduceCtorEq, Tryz.f95]
          obtain rfl := Option.some.inj h
          refine endT_of ?_ ⟨rfl, rfl⟩
          exact (wn [0] [])
theorem c_spec_l04Name {cells_1 : List Int} {i_2 : Int} {kind_3 : Int} {r : GItem × Int} (h : g_spec_l04Name cells_1 i_2 kind_3 = some r) : Ans Tryz.prog 79 [.one (.imm 1 cells_1.length (cells_1.flatMap (eI .u32))), .one (.int .i64 i_2), .one (.int .i64 kind_3)] [] fun v h1 => v = .tup [.agg [.int .i64 r.1.Kind, .str r.1.Name, .int .i32 r.1.N, .bool r.1.Hex, .int .u32 r.1.Raw], .one (.int .i64 r.2)] ∧ h1 = [] := by
  refine ansK (P := fun _ => Tryz.prog) TryzT_eq (fn := Tryz.f79) Tryz.func79 rfl ⟨by kernel_rfl, rfl, rfl, by kernel_rfl⟩ (by simp) (Weak.refl _ _) ?_
  rw [g_spec_l04Name] at h
  obtain ⟨v_4, hv_4, h⟩ := bS h
  have f1 := (fAt (eI_ok .u32) hv_4 (n := cells_1.length) (by simp))
  have f2 := (quoI_ne (k := .u32) (a := v_4) (b := 16) (by decide))
  have f3 := (show bldN 1 = 1 from rfl)
  have f4 := (show bldC [.int .u32 (IntKind.wrap .u32 (Int.tdiv v_4 16))] = [IntKind.wrap .u32 (Int.tdiv v_4 16)].flatMap (eI .u32) from rfl)
  try simp only [↓DN, UP, r1, r2, r3, r4, r5, r6, r7, reduceCtorEq, Tryz.f79, f1, f2, f3, f4]
  obtain ⟨y_6, hy_7, h⟩ := bS h
  refine seqK TryzT_eq (fun p : (List Int) => ⟨[(2, .pv (.one (.int .i64 kind_3))), (6, .pv (.one (.ptr 0 0))), (8, .pv (.one (.arr 1 0 p.length)))], [.live ⟨1, 5, [.int .i64 0, .str [], .int .i32 0, .bool false, .int .u32 0]⟩, .live ⟨1, p.length, p.flatMap (eI .u32)⟩]⟩) (fun v => y_6 = v) (by rfl) ?_ ?_
  · try simp only [↓DN, UP, r1, r2, r3, r4, r5, r6, r7, reduceCtorEq, Tryz.f79, f1, f2, f3, f4]
    obtain ⟨y_11, hy_12, hy_7⟩ := bS hy_7
    refine loopK TryzT_eq (fun p : (List Int) × Int => ⟨[(0, .pv (.one (.imm 1 cells_1.length (cells_1.flatMap (eI .u32))))), (2, .pv (.one (.int .i64 kind_3))), (6, .pv (.one (.ptr 0 0))), (8, .pv (.one (.arr 1 0 p.1.length))), (9, .pv (.one (.int .i64 p.2)))], [.live ⟨1, 5, [.int .i64 0, .str [], .int .i32 0, .bool false, .int .u32 0]⟩, .live ⟨1, p.1.length, p.1.flatMap (eI .u32)⟩]⟩) (fun k p => g_spec_l04Name_l0 cells_1 k p.1 p.2 = some y_11) (by kernel_rfl) bigK ([IntKind.wrap .u32 (Int.tdiv v_4 16)], IntKind.wrap .i64 (i_2 + 1)) (weak_norm (ks := [0, 2, 6, 8, 9]) (π := [0, 1]) (fuel := 9) (by simp only [WL, r1, r2, r3, r4, r5, r6, r7, reduceCtorEq, fWin (eI_ok .u32) (n := 1) (xs := [IntKind.wrap .u32 (Int.tdiv v_4 16)]) (by simp)])) hy_12 (fun _ h => nomatch (show none = some _ from h)) ?_
    rintro k_13 ⟨fields_8, k_9⟩ hk_14
    rw [g_spec_l04Name_l0] at hk_14
    try dsimp only at hk_14
    try simp only [↓DN, UP, r1, r2, r3, r4, r5, r6, r7, reduceCtorEq, Tryz.f79]
    refine seqN TryzT_eq rfl ?_
    try simp only [↓DN, UP, r1, r2, r3, r4, r5, r6, r7, reduceCtorEq, Tryz.f79]
    obtain ⟨y_16, hy_17, hk_14⟩ := bS hk_14
    refine seqK TryzT_eq (fun p : Bool => ⟨[(0, .pv (.one (.imm 1 cells_1.length (cells_1.flatMap (eI .u32))))), (2, .pv (.one (.int .i64 kind_3))), (6, .pv (.one (.ptr 0 0))), (8, .pv (.one (.arr 1 0 fields_8.length))), (9, .pv (.one (.int .i64 k_9))), (38, .pv (.one (.bool p)))], [.live ⟨1, 5, [.int .i64 0, .str [], .int .i32 0, .bool false, .int .u32 0]⟩, .live ⟨1, fields_8.length, fields_8.flatMap (eI .u32)⟩]⟩) (fun v => y_16 = v) (by rfl) ?_ ?_
    · try simp only [↓DN, UP, r1, r2, r3, r4, r5, r6, r7, reduceCtorEq, Tryz.f79]
      refine stIf hy_17 (fun hb_18 hy_17 => ?_) (fun hb_18 hy_17 => ?_)
      · obtain ⟨v_19, hv_19, hy_17⟩ := bS hy_17
        have f5 := (fAt (eI_ok .u32) hv_19 (n := cells_1.length) (by simp))
        have f6 := (remI_ne (k := .u32) (a := v_19) (b := 16) (by decide))
        try simp only [↓DN, UP, r1, r2, r3, r4, r5, r6, r7, reduceCtorEq, Tryz.f79, hb_18, f5, f6]
        refine stIf hy_17 (fun hb_20 hy_17 => ?_) (fun hb_20 hy_17 => ?_)
        · try simp only [↓DN, UP, r1, r2, r3, r4, r5, r6, r7, reduceCtorEq, Tryz.f79, hb_18, f5, f6, hb_20]
          obtain rfl := Option.some.inj hy_17
          exact cutT_mk (v_19 != 0) rfl (wn [0, 2, 6, 8, 9, 38] [0, 1])
        · try simp only [↓DN, UP, r1, r2, r3, r4, r5, r6, r7, reduceCtorEq, Tryz.f79, hb_18, f5, f6, hb_20]
          obtain rfl := Option.some.inj hy_17
          exact cutT_mk false rfl (wn [0, 2, 6, 8, 9, 38] [0, 1])
      · try simp only [↓DN, UP, r1, r2, r3, r4, r5, r6, r7, reduceCtorEq, Tryz.f79, hb_18]
        obtain rfl := Option.some.inj hy_17
        exact cutT_mk false rfl (wn [0, 2, 6, 8, 9, 38] [0, 1])
    · rintro v_15 hp
      replace hp := hp.symm; subst hp
      try dsimp only at hk_14
      try simp only [↓DN, UP, r1, r2, r3, r4, r5, r6, r7, reduceCtorEq, Tryz.f79]
      refine stIf hk_14 (fun hb_21 hk_14 => ?_) (fun hb_21 hk_14 => ?_)
      · try simp only [↓DN, UP, r1, r2, r3, r4, r5, r6, r7, reduceCtorEq, Tryz.f79]
        refine seqN TryzT_eq rfl ?_
        obtain ⟨v_22, hv_22, hk_14⟩ := bS hk_14
        obtain ⟨v_23, hv_23, hk_14⟩ := bS hk_14
        have f7 := (fAt (eI_ok .u32) hv_22 (n := cells_1.length) (by simp))
        have f8 := (quoI_ne (k := .u32) (a := v_22) (b := 16) (by decide))
        have f9 := (show bldN 1 = 1 from rfl)
        have f10 := (show bldC [.int .u32 (IntKind.wrap .u32 (Int.tdiv v_22 16))] = [IntKind.wrap .u32 (Int.tdiv v_22 16)].flatMap (eI .u32) from rfl)
        have f11 := (fWin (eI_ok .u32) (n := 1) (xs := [IntKind.wrap .u32 (Int.tdiv v_22 16)]) (by simp))
        have f12 := (fApp hv_23 (n := fields_8.length) (by simp) (m := 1) (by simp [bsOf]))
        have f13 := (fWin (eI_ok .u32) (n := fields_8.length) (xs := fields_8) (by simp))
        have f14 := (fCat (e := (eI .u32)) (ns := [IntKind.wrap .u32 (Int.tdiv v_22 16)].flatMap (eI .u32)) hv_23 rfl)
        try simp only [↓DN, UP, r1, r2, r3, r4, r5, r6, r7, reduceCtorEq, Tryz.f79, f7, f8, f9, f10, f11, f12, f13, f14]
        exact ⟨(v_23, IntKind.wrap .i64 (k_9 + 1)), hk_14, (wn [0, 2, 6, 8, 9] [0, 3])⟩
      · obtain rfl := Option.some.inj hk_14
        try dsimp only at hy_7
        try simp only [↓DN, UP, r1, r2, r3, r4, r5, r6, r7, reduceCtorEq, Tryz.f79]
        obtain rfl := Option.some.inj hy_7
        exact cutT_mk fields_8 rfl (wn [2, 6, 8] [0, 1])
  · rintro fields_5 hp
    replace hp := hp.symm; subst hp
    try dsimp only at h
    obtain ⟨y_24, hy_24, h⟩ := bS h
    try simp only [↓DN, UP, r1, r2, r3, r4, r5, r6, r7, reduceCtorEq, Tryz.f79]
    refine cG [] (c_spec_Unpack hy_24) (hK := fun rd b => ?_)
    try simp only [↓DN, UP, r1, r2, r3, r4, r5, r6, r7, reduceCtorEq, Tryz.f79]
    refine seqN TryzT_eq rfl ?_
    try simp only [↓DN, UP, r1, r2, r3, r4, r5, r6, r7, reduceCtorEq, Tryz.f79]
    refine stIf h (fun hb_25 h => ?_) (fun hb_25 h => ?_)
    · try simp only [↓DN, UP, r1, r2, r3, r4, r5, r6, r7, reduceCtorEq, Tryz.f79]
      obtain rfl := Option.some.inj h
      refine endT_of ?_ ⟨rfl, rfl⟩
      exact (wn [0] [])
    · try simp only [↓DN, UP, r1, r2, r3, r4, r5, r6, r7, reduceCtorEq, Tryz.f79]
      obtain rfl := Option.some.inj h
      refine endT_of ?_ ⟨rfl, rfl⟩
      exact (wn [0] [])
theorem c_spec_l04Number {cells_1 : List Int} {i_2 : Int} {r : GItem × Int} (h : g_spec_l04Number cells_1 i_2 = some r) : Ans Tryz.prog 80 [.one (.imm 1 cells_1.length (cells_1.flatMap (eI .u32))), .one (.int .i64 i_2)] [] fun v h1 => v = .tup [.agg [.int .i64 r.1.Kind, .str r.1.Name, .int .i32 r.1.N, .bool r.1.Hex, .int .u32 r.1.Raw], .one (.int .i64 r.2)] ∧ h1 = [] := by
  refine ansK (P := fun _ => Tryz.prog) TryzT_eq (fn := Tryz.f80) Tryz.func80 rfl ⟨by kernel_rfl, rfl, rfl, by kernel_rfl⟩ (by simp) (Weak.refl _ _) ?_
  rw [g_spec_l04Number] at h
  obtain ⟨v_3, hv_3, h⟩ := bS h
  have f1 := (fAt (eI_ok .u32) hv_3 (n := cells_1.length) (by simp))
  have f2 := (remI_ne (k := .u32) (a := v_3) (b := 16) (by decide))
  try simp only [↓DN, UP, r1, r2, r3, r4, r5, r6, r7, reduceCtorEq, Tryz.f80, f1, f2]
  obtain ⟨y_5, hy_6, h⟩ := bS h
  refine seqK TryzT_eq (fun p : GItem => ⟨[(0, .pv (.one (.imm 1 cells_1.length (cells_1.flatMap (eI .u32))))), (1, .pv (.one (.int .i64 i_2))), (4, .pv (.one (.ptr 0 0))), (6, .pv (.one (.int .u32 v_3))), (7, .pv (.one (.int .u32 (Int.tmod v_3 16)))), (8, .pv (.one (.ptr 1 0)))], [.live ⟨1, 5, [.int .i64 0, .str [], .int .i32 0, .bool false, .int .u32 0]⟩, .live ⟨1, 5, [.int .i64 p.Kind, .str p.Name, .int .i32 p.N, .bool p.Hex, .int .u32 p.Raw]⟩]⟩) (fun v => y_5 = v) (by rfl) ?_ ?_
  · try simp only [↓DN, UP, r1, r2, r3, r4, r5, r6, r7, reduceCtorEq, Tryz.f80, f1, f2]
    obtain ⟨y_8, hy_9, hy_6⟩ := bS hy_6
    refine seqK TryzT_eq (fun p : Bool => ⟨[(0, .pv (.one (.imm 1 cells_1.length (cells_1.flatMap (eI .u32))))), (1, .pv (.one (.int .i64 i_2))), (4, .pv (.one (.ptr 0 0))), (6, .pv (.one (.int .u32 v_3))), (7, .pv (.one (.int .u32 (Int.tmod v_3 16)))), (8, .pv (.one (.ptr 1 0))), (24, .pv (.one (.bool p)))], [.live ⟨1, 5, [.int .i64 0, .str [], .int .i32 0, .bool false, .int .u32 0]⟩, .live ⟨1, 5, [.int .i64 7, .str [], .int .i32 0, .bool ((andI .u32 v_3 16) != 0), .int .u32 0]⟩]⟩) (fun v => y_8 = v) (by rfl) ?_ ?_
    · try simp only [↓DN, UP, r1, r2, r3, r4, r5, r6, r7, reduceCtorEq, Tryz.f80, f1, f2]
      refine stIf hy_9 (fun hb_10 hy_9 => ?_) (fun hb_10 hy_9 => ?_)
      · try simp only [↓DN, UP, r1, r2, r3, r4, r5, r6, r7, reduceCtorEq, Tryz.f80, f1, f2, hb_10]
        obtain rfl := Option.some.inj hy_9
        exact cutT_mk true rfl (wn [0, 1, 4, 6, 7, 8, 24] [0, 1])
      · try simp only [↓DN, UP, r1, r2, r3, r4, r5, r6, r7, reduceCtorEq, Tryz.f80, f1, f2, hb_10]
        obtain rfl := Option.some.inj hy_9
        exact cutT_mk ((Int.tmod v_3 16) == 5) rfl (wn [0, 1, 4, 6, 7, 8, 24] [0, 1])
    · rintro v_7 hp
      replace hp := hp.symm; subst hp
      try dsimp only at hy_6
      try simp only [↓DN, UP, r1, r2, r3, r4, r5, r6, r7, reduceCtorEq, Tryz.f80]
      refine stIf hy_6 (fun hb_11 hy_6 => ?_) (fun hb_11 hy_6 => ?_)
      · try simp only [↓DN, UP, r1, r2, r3, r4, r5, r6, r7, reduceCtorEq, Tryz.f80]
        obtain rfl := Option.some.inj hy_6
        exact cutT_mk (⟨8, [], 0, ((andI .u32 v_3 16) != 0), 0⟩ : GItem) rfl (wn [0, 1, 4, 6, 7, 8] [0, 1])
      · try simp only [↓DN, UP, r1, r2, r3, r4, r5, r6, r7, reduceCtorEq, Tryz.f80]
        obtain rfl := Option.some.inj hy_6
        exact cutT_mk (⟨7, [], 0, ((andI .u32 v_3 16) != 0), 0⟩ : GItem) rfl (wn [0, 1, 4, 6, 7, 8] [0, 1])
  · rintro it_4 hp
    replace hp := hp.symm; subst hp
    try dsimp only at h
    try simp only [↓DN, UP, r1, r2, r3, r4, r5, r6, r7, reduceCtorEq, Tryz.f80]
    refine seqN TryzT_eq rfl ?_
    try simp only [↓DN, UP, r1, r2, r3, r4, r5, r6, r7, reduceCtorEq, Tryz.f80]
    obtain ⟨y_13, hy_14, h⟩ := bS h
    refine seqK TryzT_eq (fun p : Bool => ⟨[(0, .pv (.one (.imm 1 cells_1.length (cells_1.flatMap (eI .u32))))), (1, .pv (.one (.int .i64 i_2))), (4, .pv (.one (.ptr 0 0))), (6, .pv (.one (.int .u32 v_3))), (8, .pv (.one (.ptr 1 0))), (31, .pv (.one (.bool p)))], [.live ⟨1, 5, [.int .i64 0, .str [], .int .i32 0, .bool false, .int .u32 0]⟩, .live ⟨1, 5, [.int .i64 it_4.Kind, .str it_4.Name, .int .i32 it_4.N, .bool it_4.Hex, .int .u32 it_4.Raw]⟩]⟩) (fun v => y_13 = v) (by rfl) ?_ ?_
    · try simp only [↓DN, UP, r1, r2, r3, r4, r5, r6, r7, reduceCtorEq, Tryz.f80]
      refine stIf hy_14 (fun hb_15 hy_14 => ?_) (fun hb_15 hy_14 => ?_)
      · try simp only [↓DN, UP, r1, r2, r3, r4, r5, r6, r7, reduceCtorEq, Tryz.f80, hb_15]
        obtain rfl := Option.some.inj hy_14
        exact cutT_mk true rfl (wn [0, 1, 4, 6, 8, 31] [0, 1])
      · try simp only [↓DN, UP, r1, r2, r3, r4, r5, r6, r7, reduceCtorEq, Tryz.f80, hb_15]
        obtain rfl := Option.some.inj hy_14
        exact cutT_mk ((Int.tmod v_3 16) == 6) rfl (wn [0, 1, 4, 6, 8, 31] [0, 1])
    · rintro v_12 hp
      replace hp := hp.symm; subst hp
      try dsimp only at h
      try simp only [↓DN, UP, r1, r2, r3, r4, r5, r6, r7, reduceCtorEq, Tryz.f80]
      refine stIf h (fun hb_16 h => ?_) (fun hb_16 h => ?_)
      · have f3 := (shrI_lit (k := .i32) (a := IntKind.wrap .i32 v_3) (b := 5) (m := 32) (by decide) (by decide))
        try simp only [↓DN, UP, r1, r2, r3, r4, r5, r6, r7, reduceCtorEq, Tryz.f80, f3]
        obtain rfl := Option.some.inj h
        refine endT_of ?_ ⟨rfl, rfl⟩
        exact (wn [0] [])
      · try simp only [↓DN, UP, r1, r2, r3, r4, r5, r6, r7, reduceCtorEq, Tryz.f80]
        refine seqN TryzT_eq rfl ?_
        try simp only [↓DN, UP, r1, r2, r3, r4, r5, r6, r7, reduceCtorEq, Tryz.f80]
        obtain ⟨y_18, hy_19, h⟩ := bS h
        refine seqK TryzT_eq (fun p : Bool => ⟨[(0, .pv (.one (.imm 1 cells_1.length (cells_1.flatMap (eI .u32))))), (1, .pv (.one (.int .i64 i_2))), (4, .pv (.one (.ptr 0 0))), (8, .pv (.one (.ptr 1 0))), (46, .pv (.one (.bool p)))], [.live ⟨1, 5, [.int .i64 0, .str [], .int .i32 0, .bool false, .int .u32 0]⟩, .live ⟨1, 5, [.int .i64 it_4.Kind, .str it_4.Name, .int .i32 it_4.N, .bool it_4.Hex, .int .u32 it_4.Raw]⟩]⟩) (fun v => y_18 = v) (by rfl) ?_ ?_
        · try simp only [↓DN, UP, r1, r2, r3, r4, r5, r6, r7, reduceCtorEq, Tryz.f80]
          refine stIf hy_19 (fun hb_20 hy_19 => ?_) (fun hb_20 hy_19 => ?_)
          · try simp only [↓DN, UP, r1, r2, r3, r4, r5, r6, r7, reduceCtorEq, Tryz.f80, hb_20]
            obtain rfl := Option.some.inj hy_19
            exact cutT_mk true rfl (wn [0, 1, 4, 8, 46] [0, 1])
          · have f4 := (quoI_ne (k := .u32) (a := v_3) (b := 32) (by decide))
            try simp only [↓DN, UP, r1, r2, r3, r4, r5, r6, r7, reduceCtorEq, Tryz.f80, hb_20, f4]
            obtain rfl := Option.some.inj hy_19
            exact cutT_mk ((IntKind.wrap .u32 (Int.tdiv v_3 32)) != 0) rfl (wn [0, 1, 4, 8, 46] [0, 1])
        · rintro v_17 hp
          replace hp := hp.symm; subst hp
          try dsimp only at h
          try simp only [↓DN, UP, r1, r2, r3, r4, r5, r6, r7, reduceCtorEq, Tryz.f80]
          refine stIf h (fun hb_21 h => ?_) (fun hb_21 h => ?_)
          · try simp only [↓DN, UP, r1, r2, r3, r4, r5, r6, r7, reduceCtorEq, Tryz.f80]
            obtain rfl := Option.some.inj h
            refine endT_of ?_ ⟨rfl, rfl⟩
            exact (wn [0] [])
          · obtain ⟨v_22, hv_22, h⟩ := bS h
            obtain ⟨y_23, hy_23, h⟩ := bS h
            have f5 := (fAt (eI_ok .u32) hv_22 (n := cells_1.length) (by simp))
            try simp only [↓DN, UP, r1, r2, r3, r4, r5, r6, r7, reduceCtorEq, Tryz.f80, f5]
            refine callE [] (rd1 := []) (rd2 := []) 9 rfl (by simp only [WL, r1, r2, r3, r4, r5, r6, r7, reduceCtorEq]) (by simp only [WL, r1, r2, r3, r4, r5, r6, r7, reduceCtorEq]) rfl (c_spec_CellsOf hy_23) (by simp only [WL, r1, r2, r3, r4, r5, r6, r7, reduceCtorEq]) ?_
            have f6 := (quoI_ne (k := .i64) (a := (y_23.length : Int)) (b := 2) (by decide))
            try simp only [↓DN, UP, r1, r2, r3, r4, r5, r6, r7, reduceCtorEq, Tryz.f80, f5, f6]
            refine ⟨rfl, ?_⟩
            try simp only [↓DN, UP, r1, r2, r3, r4, r5, r6, r7, reduceCtorEq, Tryz.f80, f5, f6]
            obtain rfl := Option.some.inj h
            refine endT_of ?_ ⟨rfl, rfl⟩
            exact (wn [0] [])
theorem c_spec_FieldOk {f_1 : Int} {r : Bool} (h : g_spec_FieldOk f_1 = some r) : Ans Tryz.prog 81 [.one (.int .u32 f_1)] [] fun v h1 => v = .pv (.one (.bool r)) ∧ h1 = [] := by
  refine ansK (P := fun _ => Tryz.prog) TryzT_eq (fn := Tryz.f81) Tryz.func81 rfl ⟨by kernel_rfl, rfl, rfl, by kernel_rfl⟩ (by simp) (Weak.refl _ _) ?_
  rw [g_spec_FieldOk] at h
  obtain ⟨y_2, hy_2, h⟩ := bS h
  try simp only [↓DN, UP, r1, r2, r3, r4, r5, r6, r7, reduceCtorEq, Tryz.f81]
  refine cG [] (c_spec_UnpackOne hy_2) (hK := fun rd b => ?_)
  obtain ⟨y_3, hy_3, h⟩ := bS h
  try simp only [↓DN, UP, r1, r2, r3, r4, r5, r6, r7, reduceCtorEq, Tryz.f81]
  refine cG [] (c_spec_Pack hy_3) (hK := fun rd b => ?_)
  try simp only [↓DN, UP, r1, r2, r3, r4, r5, r6, r7, reduceCtorEq, Tryz.f81]
  refine seqN TryzT_eq rfl ?_
  try simp only [↓DN, UP, r1, r2, r3, r4, r5, r6, r7, reduceCtorEq, Tryz.f81]
  refine stIf h (fun hb_4 h => ?_) (fun hb_4 h => ?_)
  · obtain ⟨v_5, hv_5, h⟩ := bS h
    have f1 := (fPtrL hv_5 (k := 1) (n := y_3.length) (by simp) (c := 0) rfl)
    have f2 := (fGetL0 (eI_ok .u32) hv_5 rfl (m := 1) (by decide) (by decide))
    try simp only [↓DN, UP, r1, r2, r3, r4, r5, r6, r7, reduceCtorEq, Tryz.f81, hb_4, f1, f2]
    obtain rfl := Option.some.inj h
    refine endT_of ?_ ⟨rfl, rfl⟩
    exact (wn [0] [])
  · try simp only [↓DN, UP, r1, r2, r3, r4, r5, r6, r7, reduceCtorEq, Tryz.f81, hb_4]
    obtain rfl := Option.some.inj h
    refine endT_of ?_ ⟨rfl, rfl⟩
    exact (wn [0] [])
theorem c_spec_l04Item {cells_1 : List Int} {i_2 : Int} {r : GItem × Int} (h : g_spec_l04Item cells_1 i_2 = some r) : Ans Tryz.prog 58 [.one (.imm 1 cells_1.length (cells_1.flatMap (eI .u32))), .one (.int .i64 i_2)] [] fun v h1 => v = .tup [.agg [.int .i64 r.1.Kind, .str r.1.Name, .int .i32 r.1.N, .bool r.1.Hex, .int .u32 r.1.Raw], .one (.int .i64 r.2)] ∧ h1 = [] := by
  refine ansK (P := fun _ => Tryz.prog) TryzT_eq (fn := Tryz.f58) Tryz.func58 rfl ⟨by kernel_rfl, rfl, rfl, by kernel_rfl⟩ (by simp) (Weak.refl _ _) ?_
  rw [g_spec_l04Item] at h
  obtain ⟨v_3, hv_3, h⟩ := bS h
  have f1 := (fAt (eI_ok .u32) hv_3 (n := cells_1.length) (by simp))
  have f2 := (remI_ne (k := .u32) (a := v_3) (b := 16) (by decide))
  try simp only [↓DN, UP, r1, r2, r3, r4, r5, r6, r7, reduceCtorEq, Tryz.f58, f1, f2]
  obtain ⟨y_6, hy_7, h⟩ := bS h
  refine seqK TryzT_eq (fun p : GItem × Int => ⟨[(0, .pv (.one (.imm 1 cells_1.length (cells_1.flatMap (eI .u32))))), (1, .pv (.one (.int .i64 i_2))), (4, .pv (.one (.ptr 0 0))), (6, .pv (.one (.ptr 1 0))), (7, .pv (.one (.int .i64 p.2)))], [.live ⟨1, 5, [.int .i64 0, .str [], .int .i32 0, .bool false, .int .u32 0]⟩, .live ⟨1, 5, [.int .i64 p.1.Kind, .str p.1.Name, .int .i32 p.1.N, .bool p.1.Hex, .int .u32 p.1.Raw]⟩]⟩) (fun v => y_6 = v) (by rfl) ?_ ?_
  · obtain ⟨y_8, hy_8, hy_7⟩ := bS hy_7
    try simp only [↓DN, UP, r1, r2, r3, r4, r5, r6, r7, reduceCtorEq, Tryz.f58, f1, f2]
    refine cG [] (c_spec_l04Kind hy_8) (hK := fun rd b => ?_)
    try simp only [↓DN, UP, r1, r2, r3, r4, r5, r6, r7, reduceCtorEq, Tryz.f58, f1, f2]
    refine stIf hy_7 (fun hb_9 hy_7 => ?_) (fun hb_9 hy_7 => ?_)
    · obtain ⟨y_10, hy_10, hy_7⟩ := bS hy_7
      try simp only [↓DN, UP, r1, r2, r3, r4, r5, r6, r7, reduceCtorEq, Tryz.f58, f1, f2]
      refine cG [] (c_spec_l04Kind hy_10) (hK := fun rd b => ?_)
      obtain ⟨y_11, hy_11, hy_7⟩ := bS hy_7
      try simp only [↓DN, UP, r1, r2, r3, r4, r5, r6, r7, reduceCtorEq, Tryz.f58, f1, f2]
      refine cG [] (c_spec_l04Name hy_11) (hK := fun rd b => ?_)
      try simp only [↓DN, UP, r1, r2, r3, r4, r5, r6, r7, reduceCtorEq, Tryz.f58, f1, f2]
      obtain rfl := Option.some.inj hy_7
      exact cutT_mk (y_11.1, y_11.2) rfl (wn [0, 1, 4, 6, 7] [0, 1])
    · try simp only [↓DN, UP, r1, r2, r3, r4, r5, r6, r7, reduceCtorEq, Tryz.f58, f1, f2]
      obtain ⟨y_13, hy_14, hy_7⟩ := bS hy_7
      refine seqK TryzT_eq (fun p : Bool => ⟨[(0, .pv (.one (.imm 1 cells_1.length (cells_1.flatMap (eI .u32))))), (1, .pv (.one (.int .i64 i_2))), (4, .pv (.one (.ptr 0 0))), (6, .pv (.one (.ptr 1 0))), (7, .pv (.one (.int .i64 0))), (8, .pv (.one (.int .u32 (Int.tmod v_3 16)))), (27, .pv (.one (.bool p)))], [.live ⟨1, 5, [.int .i64 0, .str [], .int .i32 0, .bool false, .int .u32 0]⟩, .live ⟨1, 5, [.int .i64 0, .str [], .int .i32 0, .bool false, .int .u32 0]⟩]⟩) (fun v => y_13 = v) (by rfl) ?_ ?_
      · try simp only [↓DN, UP, r1, r2, r3, r4, r5, r6, r7, reduceCtorEq, Tryz.f58, f1, f2]
        refine stIf hy_14 (fun hb_15 hy_14 => ?_) (fun hb_15 hy_14 => ?_)
        · try simp only [↓DN, UP, r1, r2, r3, r4, r5, r6, r7, reduceCtorEq, Tryz.f58, f1, f2, hb_15]
          obtain rfl := Option.some.inj hy_14
          exact cutT_mk true rfl (wn [0, 1, 4, 6, 7, 8, 27] [0, 1])
        · try simp only [↓DN, UP, r1, r2, r3, r4, r5, r6, r7, reduceCtorEq, Tryz.f58, f1, f2, hb_15]
          refine stIf hy_14 (fun hb_16 hy_14 => ?_) (fun hb_16 hy_14 => ?_)
          · try simp only [↓DN, UP, r1, r2, r3, r4, r5, r6, r7, reduceCtorEq, Tryz.f58, f1, f2, hb_15, hb_16]
            obtain rfl := Option.some.inj hy_14
            exact cutT_mk true rfl (wn [0, 1, 4, 6, 7, 8, 27] [0, 1])
          · try simp only [↓DN, UP, r1, r2, r3, r4, r5, r6, r7, reduceCtorEq, Tryz.f58, f1, f2, hb_15, hb_16]
            refine stIf hy_14 (fun hb_17 hy_14 => ?_) (fun hb_17 hy_14 => ?_)
            · try simp only [↓DN, UP, r1, r2, r3, r4, r5, r6, r7, reduceCtorEq, Tryz.f58, f1, f2, hb_15, hb_16, hb_17]
              obtain rfl := Option.some.inj hy_14
              exact cutT_mk true rfl (wn [0, 1, 4, 6, 7, 8, 27] [0, 1])
            · try simp only [↓DN, UP, r1, r2, r3, r4, r5, r6, r7, reduceCtorEq, Tryz.f58, f1, f2, hb_15, hb_16, hb_17]
              obtain rfl := Option.some.inj hy_14
              exact cutT_mk ((Int.tmod v_3 16) == 5) rfl (wn [0, 1, 4, 6, 7, 8, 27] [0, 1])
      · rintro v_12 hp
        replace hp := hp.symm; subst hp
        try dsimp only at hy_7
        try simp only [↓DN, UP, r1, r2, r3, r4, r5, r6, r7, reduceCtorEq, Tryz.f58]
        refine stIf hy_7 (fun hb_18 hy_7 => ?_) (fun hb_18 hy_7 => ?_)
        · obtain ⟨y_19, hy_19, hy_7⟩ := bS hy_7
          try simp only [↓DN, UP, r1, r2, r3, r4, r5, r6, r7, reduceCtorEq, Tryz.f58]
          refine cG [] (c_spec_l04Number hy_19) (hK := fun rd b => ?_)
          try simp only [↓DN, UP, r1, r2, r3, r4, r5, r6, r7, reduceCtorEq, Tryz.f58]
          obtain rfl := Option.some.inj hy_7
          exact cutT_mk (y_19.1, y_19.2) rfl (wn [0, 1, 4, 6, 7] [0, 1])
        · try simp only [↓DN, UP, r1, r2, r3, r4, r5, r6, r7, reduceCtorEq, Tryz.f58]
          obtain ⟨y_21, hy_22, hy_7⟩ := bS hy_7
          refine seqK TryzT_eq (fun p : Bool => ⟨[(0, .pv (.one (.imm 1 cells_1.length (cells_1.flatMap (eI .u32))))), (1, .pv (.one (.int .i64 i_2))), (4, .pv (.one (.ptr 0 0))), (6, .pv (.one (.ptr 1 0))), (7, .pv (.one (.int .i64 0))), (48, .pv (.one (.bool p)))], [.live ⟨1, 5, [.int .i64 0, .str [], .int .i32 0, .bool false, .int .u32 0]⟩, .live ⟨1, 5, [.int .i64 0, .str [], .int .i32 0, .bool false, .int .u32 0]⟩]⟩) (fun v => y_21 = v) (by rfl) ?_ ?_
          · try simp only [↓DN, UP, r1, r2, r3, r4, r5, r6, r7, reduceCtorEq, Tryz.f58]
            refine stIf hy_22 (fun hb_23 hy_22 => ?_) (fun hb_23 hy_22 => ?_)
            · try simp only [↓DN, UP, r1, r2, r3, r4, r5, r6, r7, reduceCtorEq, Tryz.f58, hb_23]
              refine stIf hy_22 (fun hb_24 hy_22 => ?_) (fun hb_24 hy_22 => ?_)
              · obtain ⟨y_25, hy_25, hy_22⟩ := bS hy_22
                have f3 := (fAt (eI_ok .u32) hv_3 (n := cells_1.length) (by simp))
                have f4 := (quoI_ne (k := .u32) (a := v_3) (b := 16) (by decide))
                try simp only [↓DN, UP, r1, r2, r3, r4, r5, r6, r7, reduceCtorEq, Tryz.f58, hb_23, hb_24, f3, f4]
                refine cG [] (c_spec_FieldOk hy_25) (hK := fun rd b => ?_)
                try simp only [↓DN, UP, r1, r2, r3, r4, r5, r6, r7, reduceCtorEq, Tryz.f58, hb_23, hb_24, f3, f4]
                obtain rfl := Option.some.inj hy_22
                exact cutT_mk y_25 rfl (wn [0, 1, 4, 6, 7, 48] [0, 1])
              · try simp only [↓DN, UP, r1, r2, r3, r4, r5, r6, r7, reduceCtorEq, Tryz.f58, hb_23, hb_24]
                obtain rfl := Option.some.inj hy_22
                exact cutT_mk false rfl (wn [0, 1, 4, 6, 7, 48] [0, 1])
            · try simp only [↓DN, UP, r1, r2, r3, r4, r5, r6, r7, reduceCtorEq, Tryz.f58, hb_23]
              obtain rfl := Option.some.inj hy_22
              exact cutT_mk false rfl (wn [0, 1, 4, 6, 7, 48] [0, 1])
          · rintro v_20 hp
            replace hp := hp.symm; subst hp
            try dsimp only at hy_7
            try simp only [↓DN, UP, r1, r2, r3, r4, r5, r6, r7, reduceCtorEq, Tryz.f58]
            refine stIf hy_7 (fun hb_26 hy_7 => ?_) (fun hb_26 hy_7 => ?_)
            · obtain ⟨y_27, hy_27, hy_7⟩ := bS hy_7
              have f5 := (fAt (eI_ok .u32) hv_3 (n := cells_1.length) (by simp))
              have f6 := (quoI_ne (k := .u32) (a := v_3) (b := 16) (by decide))
              try simp only [↓DN, UP, r1, r2, r3, r4, r5, r6, r7, reduceCtorEq, Tryz.f58, f5, f6]
              refine callE [] (rd1 := []) (rd2 := []) 9 rfl (by simp only [WL, r1, r2, r3, r4, r5, r6, r7, reduceCtorEq]) (by simp only [WL, r1, r2, r3, r4, r5, r6, r7, reduceCtorEq]) rfl (c_spec_UnpackOne hy_27) (by simp only [WL, r1, r2, r3, r4, r5, r6, r7, reduceCtorEq]) ?_
              obtain ⟨v_28, hv_28, hy_7⟩ := bS hy_7
              have f7 := (fAt (eI_ok .u32) hv_28 (n := cells_1.length) (by simp))
              try simp only [↓DN, UP, r1, r2, r3, r4, r5, r6, r7, reduceCtorEq, Tryz.f58, f5, f6, f7]
              refine ⟨rfl, ?_⟩
              try simp only [↓DN, UP, r1, r2, r3, r4, r5, r6, r7, reduceCtorEq, Tryz.f58, f5, f6, f7]
              obtain rfl := Option.some.inj hy_7
              exact cutT_mk ((⟨9, y_27, IntKind.wrap .i32 v_28, false, 0⟩ : GItem), 2) rfl (wn [0, 1, 4, 6, 7] [0, 1])
            · try simp only [↓DN, UP, r1, r2, r3, r4, r5, r6, r7, reduceCtorEq, Tryz.f58]
              obtain rfl := Option.some.inj hy_7
              exact cutT_mk ((⟨0, [], 0, false, 0⟩ : GItem), 0) rfl (wn [0, 1, 4, 6, 7] [0, 1])
  · rintro ⟨it_4, n_5⟩ hp
    replace hp := hp.symm; subst hp
    try dsimp only at h
    try simp only [↓DN, UP, r1, r2, r3, r4, r5, r6, r7, reduceCtorEq, Tryz.f58]
    refine seqN TryzT_eq rfl ?_
    try simp only [↓DN, UP, r1, r2, r3, r4, r5, r6, r7, reduceCtorEq, Tryz.f58]
    refine stIf h (fun hb_29 h => ?_) (fun hb_29 h => ?_)
    · have f8 := (fAt (eI_ok .u32) hv_3 (n := cells_1.length) (by simp))
      try simp only [↓DN, UP, r1, r2, r3, r4, r5, r6, r7, reduceCtorEq, Tryz.f58, f8]
      obtain rfl := Option.some.inj h
      refine endT_of ?_ ⟨rfl, rfl⟩
      exact (wn [0] [])
    · try simp only [↓DN, UP, r1, r2, r3, r4, r5, r6, r7, reduceCtorEq, Tryz.f58]
      obtain rfl := Option.some.inj h
      refine endT_of ?_ ⟨rfl, rfl⟩
      exact (wn [0] [])
theorem c_spec_ParseCells {cells_1 : List Int} {r : (List GItem)} (h : g_spec_ParseCells cells_1 = some r) : Ans Tryz.prog 43 [.one (.imm 1 cells_1.length (cells_1.flatMap (eI .u32)))] [] fun v h1 => v = .pv (.one (.arr 0 0 r.length)) ∧ h1 = [.live ⟨5, r.length, r.flatMap GItem.cs⟩] := by
  refine ansK (P := fun _ => Tryz.prog) TryzT_eq (fn := Tryz.f43) Tryz.func43 rfl ⟨by kernel_rfl, rfl, rfl, by kernel_rfl⟩ (by simp) (Weak.refl _ _) ?_
  rw [g_spec_ParseCells] at h
  have f1 := (show bldN 0 = 0 from rfl)
  have f2 := (show bldC [] = ([] : List GItem).flatMap GItem.cs from rfl)
  try simp only [↓DN, UP, r1, r2, r3, r4, r5, r6, r7, reduceCtorEq, Tryz.f43, f1, f2]
  refine seqN TryzT_eq rfl ?_
  try simp only [↓DN, UP, r1, r2, r3, r4, r5, r6, r7, reduceCtorEq, Tryz.f43, f1, f2]
  refine stIf h (fun hb_2 h => ?_) (fun hb_2 h => ?_)
  · try simp only [↓DN, UP, r1, r2, r3, r4, r5, r6, r7, reduceCtorEq, Tryz.f43, f1, f2]
    obtain rfl := Option.some.inj h
    refine endT_of ?_ ⟨rfl, rfl⟩
    exact (weak_norm (ks := [0]) (π := [0]) (fuel := 9) (by simp only [WL, r1, r2, r3, r4, r5, r6, r7, reduceCtorEq, fWin GItem.ok (n := 0) (xs := ([] : List GItem)) (by simp)]))
  · try simp only [↓DN, UP, r1, r2, r3, r4, r5, r6, r7, reduceCtorEq, Tryz.f43, f1, f2]
    obtain ⟨y_4, hy_5, h⟩ := bS h
    refine seqK TryzT_eq (fun p : (List GItem) => ⟨[(3, .pv (.one (.arr 0 0 p.length)))], [.live ⟨5, p.length, p.flatMap GItem.cs⟩]⟩) (fun v => y_4 = v) (by rfl) ?_ ?_
    · try simp only [↓DN, UP, r1, r2, r3, r4, r5, r6, r7, reduceCtorEq, Tryz.f43, f1, f2]
      obtain ⟨y_9, hy_10, hy_5⟩ := bS hy_5
      refine loopK TryzT_eq (fun p : (List GItem) × Int => ⟨[(0, .pv (.one (.imm 1 cells_1.length (cells_1.flatMap (eI .u32))))), (3, .pv (.one (.arr 0 0 p.1.length))), (4, .pv (.one (.int .i64 p.2)))], [.live ⟨5, p.1.length, p.1.flatMap GItem.cs⟩]⟩) (fun k p => g_spec_ParseCells_l0 cells_1 k p.1 p.2 = some y_9) (by kernel_rfl) bigK (([] : List GItem), 0) (weak_norm (ks := [0, 3, 4]) (π := [0]) (fuel := 9) (by simp only [WL, r1, r2, r3, r4, r5, r6, r7, reduceCtorEq, fWin GItem.ok (n := 0) (xs := ([] : List GItem)) (by simp)])) hy_10 (fun _ h => nomatch (show none = some _ from h)) ?_
      rintro k_11 ⟨out_6, i_7⟩ hk_12
      rw [g_spec_ParseCells_l0] at hk_12
      try dsimp only at hk_12
      try simp only [↓DN, UP, r1, r2, r3, r4, r5, r6, r7, reduceCtorEq, Tryz.f43]
      refine seqN TryzT_eq rfl ?_
      try simp only [↓DN, UP, r1, r2, r3, r4, r5, r6, r7, reduceCtorEq, Tryz.f43]
      refine stIf hk_12 (fun hb_13 hk_12 => ?_) (fun hb_13 hk_12 => ?_)
      · obtain ⟨y_14, hy_14, hk_12⟩ := bS hk_12
        try simp only [↓DN, UP, r1, r2, r3, r4, r5, r6, r7, reduceCtorEq, Tryz.f43]
        refine cG [] (c_spec_l04Item hy_14) (hK := fun rd b => ?_)
        obtain ⟨v_15, hv_15, hk_12⟩ := bS hk_12
        have f3 := (show bldN 1 = 1 from rfl)
        have f4 := (show bldC [.int .i64 y_14.1.Kind, .str y_14.1.Name, .int .i32 y_14.1.N, .bool y_14.1.Hex, .int .u32 y_14.1.Raw] = [y_14.1].flatMap GItem.cs from rfl)
        have f5 := (fWin GItem.ok (n := 1) (xs := [y_14.1]) (by simp))
        have f6 := (fApp hv_15 (n := out_6.length) (by simp) (m := 1) (by simp [bsOf]))
        have f7 := (fWin GItem.ok (n := out_6.length) (xs := out_6) (by simp))
        have f8 := (fCat (e := GItem.cs) (ns := [y_14.1].flatMap GItem.cs) hv_15 rfl)
        try simp only [↓DN, UP, r1, r2, r3, r4, r5, r6, r7, reduceCtorEq, Tryz.f43, f3, f4, f5, f6, f7, f8]
        exact ⟨(v_15, IntKind.wrap .i64 (i_7 + y_14.2)), hk_12, (wn [0, 3, 4] [3])⟩
      · obtain rfl := Option.some.inj hk_12
        try dsimp only at hy_5
        try simp only [↓DN, UP, r1, r2, r3, r4, r5, r6, r7, reduceCtorEq, Tryz.f43]
        obtain rfl := Option.some.inj hy_5
        exact cutT_mk out_6 rfl (wn [3] [0])
    · rintro out_3 hp
      replace hp := hp.symm; subst hp
      try dsimp only at h
      try simp only [↓DN, UP, r1, r2, r3, r4, r5, r6, r7, reduceCtorEq, Tryz.f43]
      obtain ⟨y_18, hy_19, h⟩ := bS h
      refine seqK TryzT_eq (fun p : (List GItem) => ⟨[(3, .pv (.one (.arr 0 0 p.length)))], [.live ⟨5, p.length, p.flatMap GItem.cs⟩]⟩) (fun v => y_18 = v) (by rfl) ?_ ?_
      · try simp only [↓DN, UP, r1, r2, r3, r4, r5, r6, r7, reduceCtorEq, Tryz.f43]
        refine loopK TryzT_eq (fun p : (List GItem) => ⟨[(3, .pv (.one (.arr 0 0 p.length)))], [.live ⟨5, p.length, p.flatMap GItem.cs⟩]⟩) (fun k p => g_spec_ParseCells_l1 k p = some y_18) (by kernel_rfl) bigK out_3 (wn [3] [0]) hy_19 (fun _ h => nomatch (show none = some _ from h)) ?_
        rintro k_20 out_16 hk_21
        rw [g_spec_ParseCells_l1] at hk_21
        try dsimp only at hk_21
        try simp only [↓DN, UP, r1, r2, r3, r4, r5, r6, r7, reduceCtorEq, Tryz.f43]
        refine seqN TryzT_eq rfl ?_
        try simp only [↓DN, UP, r1, r2, r3, r4, r5, r6, r7, reduceCtorEq, Tryz.f43]
        obtain ⟨y_23, hy_24, hk_21⟩ := bS hk_21
        refine seqK TryzT_eq (fun p : Bool => ⟨[(3, .pv (.one (.arr 0 0 out_16.length))), (41, .pv (.one (.bool p)))], [.live ⟨5, out_16.length, out_16.flatMap GItem.cs⟩]⟩) (fun v => y_23 = v) (by rfl) ?_ ?_
        · try simp only [↓DN, UP, r1, r2, r3, r4, r5, r6, r7, reduceCtorEq, Tryz.f43]
          refine stIf hy_24 (fun hb_25 hy_24 => ?_) (fun hb_25 hy_24 => ?_)
          · obtain ⟨v_26, hv_26, hy_24⟩ := bS hy_24
            have f9 := (fPtr hv_26 (k := 5) (n := out_16.length) (by simp))
            have f10 := (fGet0 GItem.ok hv_26 (m := 5) (by decide) (by decide))
            try simp only [↓DN, UP, r1, r2, r3, r4, r5, r6, r7, reduceCtorEq, Tryz.f43, hb_25, f9, f10]
            obtain rfl := Option.some.inj hy_24
            exact cutT_mk ((v_26.Kind : Int) == 0 && ((v_26.Name : Bs) == [] && ((v_26.N : Int) == 0 && ((v_26.Hex : Bool) == false && ((v_26.Raw : Int) == 0 && true))))) rfl (wn [3, 41] [0])
          · try simp only [↓DN, UP, r1, r2, r3, r4, r5, r6, r7, reduceCtorEq, Tryz.f43, hb_25]
            obtain rfl := Option.some.inj hy_24
            exact cutT_mk false rfl (wn [3, 41] [0])
        · rintro v_22 hp
          replace hp := hp.symm; subst hp
          try dsimp only at hk_21
          try simp only [↓DN, UP, r1, r2, r3, r4, r5, r6, r7, reduceCtorEq, Tryz.f43]
          refine stIf hk_21 (fun hb_27 hk_21 => ?_) (fun hb_27 hk_21 => ?_)
          · obtain ⟨v_28, hv_28, hk_21⟩ := bS hk_21
            have f11 := (fSubN hv_28 (n := out_16.length) (by simp))
            try simp only [↓DN, UP, r1, r2, r3, r4, r5, r6, r7, reduceCtorEq, Tryz.f43, f11]
            exact ⟨v_28, hk_21, ((weak_trim 0 0 v_28.length (b := ⟨_, _, _⟩) rfl (fLeW hv_28 (by simp) (by simp)) (by decide)).trans (weak_norm (ks := [3]) (π := [0]) (fuel := 9) (by simp only [trS, trE, trH, trHS, trSV, trP, trC, ML, MB, and_self, r1, r2, r3, r4, r5, r6, r7, reduceCtorEq, TL, TT, fTrim0 GItem.ok hv_28 (lo := 0) (by simp)])))⟩
          · try simp only [↓DN, UP, r1, r2, r3, r4, r5, r6, r7, reduceCtorEq, Tryz.f43]
            obtain rfl := Option.some.inj hk_21
            exact cutT_mk out_16 rfl (wn [3] [0])
      · rintro out_17 hp
        replace hp := hp.symm; subst hp
        try dsimp only at h
        try simp only [↓DN, UP, r1, r2, r3, r4, r5, r6, r7, reduceCtorEq, Tryz.f43]
        obtain rfl := Option.some.inj h
        refine endT_of ?_ ⟨rfl, rfl⟩
        exact (wn [0] [0])
theorem c_spec_ItemsOf {s_1 : GStore} {b_2 : Int} {r : (List GItem) × Bool} (h : g_spec_ItemsOf s_1 b_2 = some r) : Ans Tryz.prog 25 [.agg [.imm 1 s_1.Cells.length (s_1.Cells.flatMap (eI .u32))], .one (.int .i64 b_2)] [] fun v h1 => v = .tup [.one (.arr 0 0 r.1.length), .one (.bool r.2)] ∧ h1 = [.live ⟨5, r.1.length, r.1.flatMap GItem.cs⟩] := by
  refine ansK (P := fun _ => Tryz.prog) TryzT_eq (fn := Tryz.f25) Tryz.func25 rfl ⟨by kernel_rfl, rfl, rfl, by kernel_rfl⟩ (by simp) (Weak.refl _ _) ?_
  rw [g_spec_ItemsOf] at h
  obtain ⟨y_3, hy_3, h⟩ := bS h
  try simp only [↓DN, UP, r1, r2, r3, r4, r5, r6, r7, reduceCtorEq, Tryz.f25]
  refine cG [] (c_spec_BlockOf hy_3) (hK := fun rd b => ?_)
  try simp only [↓DN, UP, r1, r2, r3, r4, r5, r6, r7, reduceCtorEq, Tryz.f25]
  refine seqN TryzT_eq rfl ?_
  try simp only [↓DN, UP, r1, r2, r3, r4, r5, r6, r7, reduceCtorEq, Tryz.f25]
  refine stIf h (fun hb_4 h => ?_) (fun hb_4 h => ?_)
  · have f1 := (show bldN 0 = 0 from rfl)
    have f2 := (show bldC [] = ([] : List GItem).flatMap GItem.cs from rfl)
    try simp only [↓DN, UP, r1, r2, r3, r4, r5, r6, r7, reduceCtorEq, Tryz.f25, f1, f2]
    obtain rfl := Option.some.inj h
    refine endT_of ?_ ⟨rfl, rfl⟩
    exact (weak_norm (ks := [0]) (π := [2]) (fuel := 9) (by simp only [WL, r1, r2, r3, r4, r5, r6, r7, reduceCtorEq, fWin GItem.ok (n := 0) (xs := ([] : List GItem)) (by simp)]))
  · obtain ⟨y_5, hy_5, h⟩ := bS h
    try simp only [↓DN, UP, r1, r2, r3, r4, r5, r6, r7, reduceCtorEq, Tryz.f25]
    refine cG [] (c_spec_ParseCells hy_5) (hK := fun rd b => ?_)
    try simp only [↓DN, UP, r1, r2, r3, r4, r5, r6, r7, reduceCtorEq, Tryz.f25]
    obtain rfl := Option.some.inj h
    refine endT_of ?_ ⟨rfl, rfl⟩
    exact (wn [0] [2])
theorem c_spec_l17Is {it_1 : GItem} {r : Bool} (h : g_spec_l17Is it_1 = some r) : Ans Tryz.prog 26 [.agg [.int .i64 it_1.Kind, .str it_1.Name, .int .i32 it_1.N, .bool it_1.Hex, .int .u32 it_1.Raw]] [] fun v h1 => v = .pv (.one (.bool r)) ∧ h1 = [] := by
  refine ansK (P := fun _ => Tryz.prog) TryzT_eq (fn := Tryz.f26) Tryz.func26 rfl ⟨by kernel_rfl, rfl, rfl, by kernel_rfl⟩ (by simp) (Weak.refl _ _) ?_
  rw [g_spec_l17Is] at h
  try simp only [↓DN, UP, r1, r2, r3, r4, r5, r6, r7, reduceCtorEq, Tryz.f26]
  refine seqN TryzT_eq rfl ?_
  try simp only [↓DN, UP, r1, r2, r3, r4, r5, r6, r7, reduceCtorEq, Tryz.f26]
  refine stIf h (fun hb_2 h => ?_) (fun hb_2 h => ?_)
  · try simp only [↓DN, UP, r1, r2, r3, r4, r5, r6, r7, reduceCtorEq, Tryz.f26, hb_2]
    obtain rfl := Option.some.inj h
    refine endT_of ?_ ⟨rfl, rfl⟩
    exact (wn [0] [])
  · try simp only [↓DN, UP, r1, r2, r3, r4, r5, r6, r7, reduceCtorEq, Tryz.f26, hb_2]
    refine stIf h (fun hb_3 h => ?_) (fun hb_3 h => ?_)
    · try simp only [↓DN, UP, r1, r2, r3, r4, r5, r6, r7, reduceCtorEq, Tryz.f26, hb_2, hb_3]
      obtain rfl := Option.some.inj h
      refine endT_of ?_ ⟨rfl, rfl⟩
      exact (wn [0] [])
    · try simp only [↓DN, UP, r1, r2, r3, r4, r5, r6, r7, reduceCtorEq, Tryz.f26, hb_2, hb_3]
      refine stIf h (fun hb_4 h => ?_) (fun hb_4 h => ?_)
      · try simp only [↓DN, UP, r1, r2, r3, r4, r5, r6, r7, reduceCtorEq, Tryz.f26, hb_2, hb_3, hb_4]
        obtain rfl := Option.some.inj h
        refine endT_of ?_ ⟨rfl, rfl⟩
        exact (wn [0] [])
      · try simp only [↓DN, UP, r1, r2, r3, r4, r5, r6, r7, reduceCtorEq, Tryz.f26, hb_2, hb_3, hb_4]
        obtain rfl := Option.some.inj h
        refine endT_of ?_ ⟨rfl, rfl⟩
        exact (wn [0] [])
theorem c_spec_l04Same {a_1 : List GItem} {b_2 : List GItem} {r : Bool} (h : g_spec_l04Same a_1 b_2 = some r) : Ans Tryz.prog 46 [.one (.imm 5 a_1.length (a_1.flatMap GItem.cs)), .one (.imm 5 b_2.length (b_2.flatMap GItem.cs))] [] fun v h1 => v = .pv (.one (.bool r)) ∧ h1 = [] := by
  refine ansK (P := fun _ => Tryz.prog) TryzT_eq (fn := Tryz.f46) Tryz.func46 rfl ⟨by kernel_rfl, rfl, rfl, by kernel_rfl⟩ (by simp) (Weak.refl _ _) ?_
  rw [g_spec_l04Same] at h
  try simp only [↓DN, UP, r1, r2, r3, r4, r5, r6, r7, reduceCtorEq, Tryz.f46]
  refine seqN TryzT_eq rfl ?_
  try simp only [↓DN, UP, r1, r2, r3, r4, r5, r6, r7, reduceCtorEq, Tryz.f46]
  refine stIf h (fun hb_3 h => ?_) (fun hb_3 h => ?_)
  · try simp only [↓DN, UP, r1, r2, r3, r4, r5, r6, r7, reduceCtorEq, Tryz.f46]
    obtain rfl := Option.some.inj h
    refine endT_of ?_ ⟨rfl, rfl⟩
    exact (wn [0] [])
  · try simp only [↓DN, UP, r1, r2, r3, r4, r5, r6, r7, reduceCtorEq, Tryz.f46]
    obtain ⟨y_4, hy_5, h⟩ := bS h
    refine seqK TryzT_eq (fun p : Unit => ⟨[], []⟩) (fun v => y_4 = .inl v) (by rfl) ?_ ?_
    · try simp only [↓DN, UP, r1, r2, r3, r4, r5, r6, r7, reduceCtorEq, Tryz.f46]
      obtain ⟨y_7, hy_8, hy_5⟩ := bS hy_5
      refine loopK TryzT_eq (fun p : Int => ⟨[(0, .pv (.one (.imm 5 a_1.length (a_1.flatMap GItem.cs)))), (1, .pv (.one (.imm 5 b_2.length (b_2.flatMap GItem.cs)))), (5, .pv (.one (.int .i64 p)))], []⟩) (fun k p => g_spec_l04Same_l0 a_1 b_2 k p = some y_7) (by kernel_rfl) bigK 0 (wn [0, 1, 5] []) hy_8 (fun _ h => nomatch (show none = some _ from h)) ?_
      rintro k_9 i_6 hk_10
      rw [g_spec_l04Same_l0] at hk_10
      try dsimp only at hk_10
      try simp only [↓DN, UP, r1, r2, r3, r4, r5, r6, r7, reduceCtorEq, Tryz.f46]
      refine seqN TryzT_eq rfl ?_
      try simp only [↓DN, UP, r1, r2, r3, r4, r5, r6, r7, reduceCtorEq, Tryz.f46]
      refine stIf hk_10 (fun hb_11 hk_10 => ?_) (fun hb_11 hk_10 => ?_)
      · try simp only [↓DN, UP, r1, r2, r3, r4, r5, r6, r7, reduceCtorEq, Tryz.f46]
        refine seqN TryzT_eq rfl ?_
        obtain ⟨v_12, hv_12, hk_10⟩ := bS hk_10
        obtain ⟨v_13, hv_13, hk_10⟩ := bS hk_10
        have f1 := (fAt GItem.ok hv_12 (n := a_1.length) (by simp))
        have f2 := (fAt GItem.ok hv_13 (n := b_2.length) (by simp))
        try simp only [↓DN, UP, r1, r2, r3, r4, r5, r6, r7, reduceCtorEq, Tryz.f46, f1, f2]
        refine ⟨rfl, ?_⟩
        try simp only [↓DN, UP, r1, r2, r3, r4, r5, r6, r7, reduceCtorEq, Tryz.f46, f1, f2]
        refine stIf hk_10 (fun hb_14 hk_10 => ?_) (fun hb_14 hk_10 => ?_)
        · obtain rfl := Option.some.inj hk_10
          try dsimp only at hy_5
          obtain rfl := Option.some.inj hy_5
          try dsimp only at h
          try simp only [↓DN, UP, r1, r2, r3, r4, r5, r6, r7, reduceCtorEq, Tryz.f46, f1, f2]
          obtain rfl := Option.some.inj h
          refine endT_of ?_ ⟨rfl, rfl⟩
          exact (wn [0] [])
        · try simp only [↓DN, UP, r1, r2, r3, r4, r5, r6, r7, reduceCtorEq, Tryz.f46, f1, f2]
          exact ⟨IntKind.wrap .i64 (i_6 + 1), hk_10, (wn [0, 1, 5] [])⟩
      · obtain rfl := Option.some.inj hk_10
        try dsimp only at hy_5
        try simp only [↓DN, UP, r1, r2, r3, r4, r5, r6, r7, reduceCtorEq, Tryz.f46]
        obtain rfl := Option.some.inj hy_5
        exact cutT_mk () (by trivial) (wn [] [])
    · rintro _ hp
      replace hp := hp.symm; subst hp
      try dsimp only at h
      try simp only [↓DN, UP, r1, r2, r3, r4, r5, r6, r7, reduceCtorEq, Tryz.f46]
      obtain rfl := Option.some.inj h
      refine endT_of ?_ ⟨rfl, rfl⟩
      exact (wn [0] [])
theorem c_spec_ListOk {list_1 : List GItem} {r : Bool} (h : g_spec_ListOk list_1 = some r) : Ans Tryz.prog 28 [.one (.imm 5 list_1.length (list_1.flatMap GItem.cs))] [] fun v h1 => v = .pv (.one (.bool r)) ∧ h1 = [] := by
  refine ansK (P := fun _ => Tryz.prog) TryzT_eq (fn := Tryz.f28) Tryz.func28 rfl ⟨by kernel_rfl, rfl, rfl, by kernel_rfl⟩ (by simp) (Weak.refl _ _) ?_
  rw [g_spec_ListOk] at h
  obtain ⟨y_2, hy_2, h⟩ := bS h
  try simp only [↓DN, UP, r1, r2, r3, r4, r5, r6, r7, reduceCtorEq, Tryz.f28]
  refine cG [] (c_spec_Unparse hy_2) (hK := fun rd b => ?_)
  try simp only [↓DN, UP, r1, r2, r3, r4, r5, r6, r7, reduceCtorEq, Tryz.f28]
  refine seqN TryzT_eq rfl ?_
  try simp only [↓DN, UP, r1, r2, r3, r4, r5, r6, r7, reduceCtorEq, Tryz.f28]
  refine stIf h (fun hb_3 h => ?_) (fun hb_3 h => ?_)
  · obtain ⟨y_4, hy_4, h⟩ := bS h
    try simp only [↓DN, UP, r1, r2, r3, r4, r5, r6, r7, reduceCtorEq, Tryz.f28, hb_3]
    refine cG [] (c_spec_ParseCells hy_4) (hK := fun rd b => ?_)
    obtain ⟨y_5, hy_5, h⟩ := bS h
    try simp only [↓DN, UP, r1, r2, r3, r4, r5, r6, r7, reduceCtorEq, Tryz.f28, hb_3]
    refine cG [] (c_spec_l04Same hy_5) (hK := fun rd b => ?_)
    try simp only [↓DN, UP, r1, r2, r3, r4, r5, r6, r7, reduceCtorEq, Tryz.f28, hb_3]
    obtain rfl := Option.some.inj h
    refine endT_of ?_ ⟨rfl, rfl⟩
    exact (wn [0] [])
  · try simp only [↓DN, UP, r1, r2, r3, r4, r5, r6, r7, reduceCtorEq, Tryz.f28, hb_3]
    obtain rfl := Option.some.inj h
    refine endT_of ?_ ⟨rfl, rfl⟩
    exact (wn [0] [])
theorem c_spec_Rename {s_1 : GStore} {vfrom_2 : Bs} {to_3 : Bs} {r : GStore × Bool} (h : g_spec_Rename s_1 vfrom_2 to_3 = some r) : Ans Tryz.prog 7 [.agg [.imm 1 s_1.Cells.length (s_1.Cells.flatMap (eI .u32))], .one (.str vfrom_2), .one (.str to_3)] [] fun v h1 => v = .tup [.agg [.arr 0 0 r.1.Cells.length], .one (.bool r.2)] ∧ h1 = [.live ⟨1, r.1.Cells.length, r.1.Cells.flatMap (eI .u32)⟩] := by
  refine ansK (P := fun _ => Tryz.prog) TryzT_eq (fn := Tryz.f7) Tryz.func7 rfl ⟨by kernel_rfl, rfl, rfl, by kernel_rfl⟩ (by simp) (Weak.refl _ _) ?_
  rw [g_spec_Rename] at h
  try simp only [↓DN, UP, r1, r2, r3, r4, r5, r6, r7, reduceCtorEq, Tryz.f7]
  refine seqN TryzT_eq rfl ?_
  try simp only [↓DN, UP, r1, r2, r3, r4, r5, r6, r7, reduceCtorEq, Tryz.f7]
  obtain ⟨y_5, hy_6, h⟩ := bS h
  refine seqK TryzT_eq (fun p : Bool => ⟨[(1, .pv (.one (.str vfrom_2))), (2, .pv (.one (.str to_3))), (3, .pv (.one (.ptr 0 0))), (6, .pv (.one (.ptr 1 0))), (23, .pv (.one (.bool p)))], [.live ⟨1, 1, [.imm 1 s_1.Cells.length (s_1.Cells.flatMap (eI .u32))]⟩, .live ⟨1, 1, [.emp]⟩]⟩) (fun v => y_5 = v) (by rfl) ?_ ?_
  · obtain ⟨y_7, hy_7, hy_6⟩ := bS hy_6
    try simp only [↓DN, UP, r1, r2, r3, r4, r5, r6, r7, reduceCtorEq, Tryz.f7]
    refine cG [] (c_spec_StoreOk hy_7) (hK := fun rd b => ?_)
    try simp only [↓DN, UP, r1, r2, r3, r4, r5, r6, r7, reduceCtorEq, Tryz.f7]
    refine stIf hy_6 (fun hb_8 hy_6 => ?_) (fun hb_8 hy_6 => ?_)
    · try simp only [↓DN, UP, r1, r2, r3, r4, r5, r6, r7, reduceCtorEq, Tryz.f7, hb_8]
      obtain rfl := Option.some.inj hy_6
      exact cutT_mk true rfl (wn [1, 2, 3, 6, 23] [0, 1])
    · obtain ⟨y_9, hy_9, hy_6⟩ := bS hy_6
      try simp only [↓DN, UP, r1, r2, r3, r4, r5, r6, r7, reduceCtorEq, Tryz.f7, hb_8]
      refine cG [] (c_spec_NameOk hy_9) (hK := fun rd b => ?_)
      try simp only [↓DN, UP, r1, r2, r3, r4, r5, r6, r7, reduceCtorEq, Tryz.f7, hb_8]
      obtain rfl := Option.some.inj hy_6
      exact cutT_mk (!y_9) rfl (wn [1, 2, 3, 6, 23] [0, 1])
  · rintro v_4 hp
    replace hp := hp.symm; subst hp
    try dsimp only at h
    try simp only [↓DN, UP, r1, r2, r3, r4, r5, r6, r7, reduceCtorEq, Tryz.f7]
    refine stIf h (fun hb_10 h => ?_) (fun hb_10 h => ?_)
    · try simp only [↓DN, UP, r1, r2, r3, r4, r5, r6, r7, reduceCtorEq, Tryz.f7]
      obtain rfl := Option.some.inj h
      refine endT_of ?_ ⟨rfl, rfl⟩
      exact ((weak_norm (ks := [0]) (π := []) (fuel := 9) (s' := ⟨[(0, .tup [.agg [.emp], .one (.bool false)])], []⟩) (by simp only [WL, r1, r2, r3, r4, r5, r6, r7, reduceCtorEq])).trans (weak_le (by simp only [LEb, r1, r2, r3, r4, r5, r6, r7, reduceCtorEq, TL]) (by simp only [LEb, r1, r2, r3, r4, r5, r6, r7, reduceCtorEq, TL])))
    · obtain ⟨v_11, hv_11, h⟩ := bS h
      have f1 := (show bldN 0 = 0 from rfl)
      have f2 := (show bldC [] = ([] : List Int).flatMap (eI .u32) from rfl)
      have f3 := (fApp hv_11 (n := 0) (by simp) (m := s_1.Cells.length) (by simp [bsOf]))
      have f4 := (fWin (eI_ok .u32) (n := 0) (xs := ([] : List Int)) (by simp))
      have f5 := (fCat (e := (eI .u32)) (ns := s_1.Cells.flatMap (eI .u32)) hv_11 rfl)
      try simp only [↓DN, UP, r1, r2, r3, r4, r5, r6, r7, reduceCtorEq, Tryz.f7, f1, f2, f3, f4, f5]
      obtain ⟨y_13, hy_14, h⟩ := bS h
      refine seqK TryzT_eq (fun p : (List Int) => ⟨[(6, .pv (.one (.ptr 0 0))), (8, .pv (.one (.ptr 1 0)))], [.live ⟨1, 1, [.emp]⟩, .live ⟨1, 1, [.arr 2 0 p.length]⟩, .live ⟨1, p.length, p.flatMap (eI .u32)⟩]⟩) (fun v => y_13 = .inl v) (by rfl) ?_ ?_
      · try simp only [↓DN, UP, r1, r2, r3, r4, r5, r6, r7, reduceCtorEq, Tryz.f7, f1, f2, f3, f4, f5]
        obtain ⟨y_18, hy_19, hy_14⟩ := bS hy_14
        refine loopK TryzT_eq (fun p : GStore × Int => ⟨[(1, .pv (.one (.str vfrom_2))), (2, .pv (.one (.str to_3))), (3, .pv (.one (.ptr 0 0))), (6, .pv (.one (.ptr 1 0))), (8, .pv (.one (.ptr 2 0))), (9, .pv (.one (.int .i64 p.2)))], [.live ⟨1, 1, [.imm 1 s_1.Cells.length (s_1.Cells.flatMap (eI .u32))]⟩, .live ⟨1, 1, [.emp]⟩, .live ⟨1, 1, [.arr 3 0 p.1.Cells.length]⟩, .live ⟨1, p.1.Cells.length, p.1.Cells.flatMap (eI .u32)⟩]⟩) (fun k p => g_spec_Rename_l0 s_1 vfrom_2 to_3 k p.1 p.2 = some y_18) (by kernel_rfl) bigK ((⟨v_11⟩ : GStore), 0) (wn [1, 2, 3, 6, 8, 9] [0, 1, 4, 3]) hy_19 (fun _ h => nomatch (show none = some _ from h)) ?_
        rintro k_20 ⟨out_15, b_16⟩ hk_21
        rw [g_spec_Rename_l0] at hk_21
        try dsimp only at hk_21
        try simp only [↓DN, UP, r1, r2, r3, r4, r5, r6, r7, reduceCtorEq, Tryz.f7]
        refine seqN TryzT_eq rfl ?_
        have f6 := (quoI_ne (k := .i64) (a := (s_1.Cells.length : Int)) (b := 64) (by decide))
        try simp only [↓DN, UP, r1, r2, r3, r4, r5, r6, r7, reduceCtorEq, Tryz.f7, f6]
        refine stIf hk_21 (fun hb_22 hk_21 => ?_) (fun hb_22 hk_21 => ?_)
        · try simp only [↓DN, UP, r1, r2, r3, r4, r5, r6, r7, reduceCtorEq, Tryz.f7, f6]
          obtain ⟨y_24, hy_25, hk_21⟩ := bS hk_21
          refine seqK TryzT_eq (fun p : (List Int) => ⟨[(1, .pv (.one (.str vfrom_2))), (2, .pv (.one (.str to_3))), (3, .pv (.one (.ptr 0 0))), (6, .pv (.one (.ptr 1 0))), (8, .pv (.one (.ptr 2 0))), (9, .pv (.one (.int .i64 b_16)))], [.live ⟨1, 1, [.imm 1 s_1.Cells.length (s_1.Cells.flatMap (eI .u32))]⟩, .live ⟨1, 1, [.emp]⟩, .live ⟨1, 1, [.arr 3 0 p.length]⟩, .live ⟨1, p.length, p.flatMap (eI .u32)⟩]⟩) (fun v => y_24 = .inl v) (by rfl) ?_ ?_
          · obtain ⟨y_26, hy_26, hy_25⟩ := bS hy_25
            try simp only [↓DN, UP, r1, r2, r3, r4, r5, r6, r7, reduceCtorEq, Tryz.f7, f6]
            refine cG [] (c_spec_ItemsOf hy_26) (hK := fun rd b => ?_)
            try simp only [↓DN, UP, r1, r2, r3, r4, r5, r6, r7, reduceCtorEq, Tryz.f7, f6]
            obtain ⟨y_29, hy_30, hy_25⟩ := bS hy_25
            refine seqK TryzT_eq (fun p : (List GItem) × Bool => ⟨[(1, .pv (.one (.str vfrom_2))), (2, .pv (.one (.str to_3))), (3, .pv (.one (.ptr 0 0))), (6, .pv (.one (.ptr 1 0))), (8, .pv (.one (.ptr 2 0))), (9, .pv (.one (.int .i64 b_16))), (10, .pv (.one (.arr 4 0 p.1.length))), (12, .pv (.one (.bool p.2)))], [.live ⟨1, 1, [.imm 1 s_1.Cells.length (s_1.Cells.flatMap (eI .u32))]⟩, .live ⟨1, 1, [.emp]⟩, .live ⟨1, 1, [.arr 3 0 out_15.Cells.length]⟩, .live ⟨1, out_15.Cells.length, out_15.Cells.flatMap (eI .u32)⟩, .live ⟨5, p.1.length, p.1.flatMap GItem.cs⟩]⟩) (fun v => y_29 = v) (by rfl) ?_ ?_
            · try simp only [↓DN, UP, r1, r2, r3, r4, r5, r6, r7, reduceCtorEq, Tryz.f7, f6]
              obtain ⟨y_36, hy_37, hy_30⟩ := bS hy_30
              refine loopK TryzT_eq (fun p : (List GItem) × Bool × Int => ⟨[(1, .pv (.one (.str vfrom_2))), (2, .pv (.one (.str to_3))), (3, .pv (.one (.ptr 0 0))), (6, .pv (.one (.ptr 1 0))), (8, .pv (.one (.ptr 2 0))), (9, .pv (.one (.int .i64 b_16))), (10, .pv (.one (.arr 4 0 p.1.length))), (12, .pv (.one (.bool p.2.1))), (13, .pv (.one (.int .i64 p.2.2)))], [.live ⟨1, 1, [.imm 1 s_1.Cells.length (s_1.Cells.flatMap (eI .u32))]⟩, .live ⟨1, 1, [.emp]⟩, .live ⟨1, 1, [.arr 3 0 out_15.Cells.length]⟩, .live ⟨1, out_15.Cells.length, out_15.Cells.flatMap (eI .u32)⟩, .live ⟨5, p.1.length, p.1.flatMap GItem.cs⟩]⟩) (fun k p => g_spec_Rename_l1 vfrom_2 to_3 k p.1 p.2.1 p.2.2 = some y_36) (by kernel_rfl) bigK (y_26.1, false, 0) (wn [1, 2, 3, 6, 8, 9, 10, 12, 13] [0, 1, 2, 3, 4]) hy_37 (fun _ h => nomatch (show none = some _ from h)) ?_
              rintro k_38 ⟨list_31, vsome_32, i_33⟩ hk_39
              rw [g_spec_Rename_l1] at hk_39
              try dsimp only at hk_39
              try simp only [↓DN, UP, r1, r2, r3, r4, r5, r6, r7, reduceCtorEq, Tryz.f7]
              refine seqN TryzT_eq rfl ?_
              try simp only [↓DN, UP, r1, r2, r3, r4, r5, r6, r7, reduceCtorEq, Tryz.f7]
              refine stIf hk_39 (fun hb_40 hk_39 => ?_) (fun hb_40 hk_39 => ?_)
              · try simp only [↓DN, UP, r1, r2, r3, r4, r5, r6, r7, reduceCtorEq, Tryz.f7]
                obtain ⟨y_43, hy_44, hk_39⟩ := bS hk_39
                refine seqK TryzT_eq (fun p : (List GItem) × Bool => ⟨[(1, .pv (.one (.str vfrom_2))), (2, .pv (.one (.str to_3))), (3, .pv (.one (.ptr 0 0))), (6, .pv (.one (.ptr 1 0))), (8, .pv (.one (.ptr 2 0))), (9, .pv (.one (.int .i64 b_16))), (10, .pv (.one (.arr 4 0 p.1.length))), (12, .pv (.one (.bool p.2))), (13, .pv (.one (.int .i64 i_33)))], [.live ⟨1, 1, [.imm 1 s_1.Cells.length (s_1.Cells.flatMap (eI .u32))]⟩, .live ⟨1, 1, [.emp]⟩, .live ⟨1, 1, [.arr 3 0 out_15.Cells.length]⟩, .live ⟨1, out_15.Cells.length, out_15.Cells.flatMap (eI .u32)⟩, .live ⟨5, p.1.length, p.1.flatMap GItem.cs⟩]⟩) (fun v => y_43 = v) (by rfl) ?_ ?_
                · try simp only [↓DN, UP, r1, r2, r3, r4, r5, r6, r7, reduceCtorEq, Tryz.f7]
                  obtain ⟨y_46, hy_47, hy_44⟩ := bS hy_44
                  refine seqK TryzT_eq (fun p : Bool => ⟨[(1, .pv (.one (.str vfrom_2))), (2, .pv (.one (.str to_3))), (3, .pv (.one (.ptr 0 0))), (6, .pv (.one (.ptr 1 0))), (8, .pv (.one (.ptr 2 0))), (9, .pv (.one (.int .i64 b_16))), (10, .pv (.one (.arr 4 0 list_31.length))), (12, .pv (.one (.bool vsome_32))), (13, .pv (.one (.int .i64 i_33))), (63, .pv (.one (.bool p)))], [.live ⟨1, 1, [.imm 1 s_1.Cells.length (s_1.Cells.flatMap (eI .u32))]⟩, .live ⟨1, 1, [.emp]⟩, .live ⟨1, 1, [.arr 3 0 out_15.Cells.length]⟩, .live ⟨1, out_15.Cells.length, out_15.Cells.flatMap (eI .u32)⟩, .live ⟨5, list_31.length, list_31.flatMap GItem.cs⟩]⟩) (fun v => y_46 = v) (by rfl) ?_ ?_
                  · obtain ⟨v_48, hv_48, hy_47⟩ := bS hy_47
                    obtain ⟨y_49, hy_49, hy_47⟩ := bS hy_47
                    have f7 := (fPtr hv_48 (k := 5) (n := list_31.length) (by simp))
                    have f8 := (fGet0 GItem.ok hv_48 (m := 5) (by decide) (by decide))
                    try simp only [↓DN, UP, r1, r2, r3, r4, r5, r6, r7, reduceCtorEq, Tryz.f7, f7, f8]
                    refine cG [] (c_spec_l17Is hy_49) (hK := fun rd b => ?_)
                    try simp only [↓DN, UP, r1, r2, r3, r4, r5, r6, r7, reduceCtorEq, Tryz.f7, f7, f8]
                    refine stIf hy_47 (fun hb_50 hy_47 => ?_) (fun hb_50 hy_47 => ?_)
                    · have f9 := (fGet GItem.ok hv_48 (q := 1) (m := 1) (by decide) (by decide))
                      try simp only [↓DN, UP, r1, r2, r3, r4, r5, r6, r7, reduceCtorEq, Tryz.f7, f7, f8, hb_50, f9]
                      obtain rfl := Option.some.inj hy_47
                      exact cutT_mk (v_48.Name == vfrom_2) rfl (wn [1, 2, 3, 6, 8, 9, 10, 12, 13, 63] [0, 1, 2, 3, 4])
                    · try simp only [↓DN, UP, r1, r2, r3, r4, r5, r6, r7, reduceCtorEq, Tryz.f7, f7, f8, hb_50]
                      obtain rfl := Option.some.inj hy_47
                      exact cutT_mk false rfl (wn [1, 2, 3, 6, 8, 9, 10, 12, 13, 63] [0, 1, 2, 3, 4])
                  · rintro v_45 hp
                    replace hp := hp.symm; subst hp
                    try dsimp only at hy_44
                    try simp only [↓DN, UP, r1, r2, r3, r4, r5, r6, r7, reduceCtorEq, Tryz.f7]
                    refine stIf hy_44 (fun hb_51 hy_44 => ?_) (fun hb_51 hy_44 => ?_)
                    · obtain ⟨v_52, hv_52, hy_44⟩ := bS hy_44
                      have f10 := (fPtr hv_52 (k := 5) (n := list_31.length) (by simp))
                      have f11 := (fPut GItem.ok hv_52 (q := 1) (ns := [.str to_3]) (y := (⟨v_52.Kind, to_3, v_52.N, v_52.Hex, v_52.Raw⟩ : GItem)) rfl)
                      try simp only [↓DN, UP, r1, r2, r3, r4, r5, r6, r7, reduceCtorEq, Tryz.f7, f10, f11]
                      obtain rfl := Option.some.inj hy_44
                      exact cutT_mk (list_31.set i_33.toNat (⟨v_52.Kind, to_3, v_52.N, v_52.Hex, v_52.Raw⟩ : GItem), true) rfl (weak_norm (ks := [1, 2, 3, 6, 8, 9, 10, 12, 13]) (π := [0, 1, 2, 3, 4]) (fuel := 9) (by simp only [WL, r1, r2, r3, r4, r5, r6, r7, reduceCtorEq, fWin GItem.ok (n := list_31.length) (xs := list_31.set i_33.toNat (⟨v_52.Kind, to_3, v_52.N, v_52.Hex, v_52.Raw⟩ : GItem)) (by simp)]))
                    · try simp only [↓DN, UP, r1, r2, r3, r4, r5, r6, r7, reduceCtorEq, Tryz.f7]
                      obtain rfl := Option.some.inj hy_44
                      exact cutT_mk (list_31, vsome_32) rfl (wn [1, 2, 3, 6, 8, 9, 10, 12, 13] [0, 1, 2, 3, 4])
                · rintro ⟨list_41, vsome_42⟩ hp
                  replace hp := hp.symm; subst hp
                  try dsimp only at hk_39
                  try simp only [↓DN, UP, r1, r2, r3, r4, r5, r6, r7, reduceCtorEq, Tryz.f7]
                  exact ⟨(list_41, vsome_42, IntKind.wrap .i64 (i_33 + 1)), hk_39, (wn [1, 2, 3, 6, 8, 9, 10, 12, 13] [0, 1, 2, 3, 4])⟩
              · obtain rfl := Option.some.inj hk_39
                try dsimp only at hy_30
                try simp only [↓DN, UP, r1, r2, r3, r4, r5, r6, r7, reduceCtorEq, Tryz.f7]
                obtain rfl := Option.some.inj hy_30
                exact cutT_mk (list_31, vsome_32) rfl (wn [1, 2, 3, 6, 8, 9, 10, 12] [0, 1, 2, 3, 4])
            · rintro ⟨list_27, vsome_28⟩ hp
              replace hp := hp.symm; subst hp
              try dsimp only at hy_25
              try simp only [↓DN, UP, r1, r2, r3, r4, r5, r6, r7, reduceCtorEq, Tryz.f7]
              refine seqN TryzT_eq rfl ?_
              try simp only [↓DN, UP, r1, r2, r3, r4, r5, r6, r7, reduceCtorEq, Tryz.f7]
              refine stIf hy_25 (fun hb_53 hy_25 => ?_) (fun hb_53 hy_25 => ?_)
              · try simp only [↓DN, UP, r1, r2, r3, r4, r5, r6, r7, reduceCtorEq, Tryz.f7]
                obtain rfl := Option.some.inj hy_25
                exact cutT_mk out_15.Cells rfl (wn [1, 2, 3, 6, 8, 9] [0, 1, 2, 3])
              · obtain ⟨y_54, hy_54, hy_25⟩ := bS hy_25
                try simp only [↓DN, UP, r1, r2, r3, r4, r5, r6, r7, reduceCtorEq, Tryz.f7]
                refine cG [] (c_spec_PutItems hy_54) (hK := fun rd b => ?_)
                try simp only [↓DN, UP, r1, r2, r3, r4, r5, r6, r7, reduceCtorEq, Tryz.f7]
                refine seqN TryzT_eq rfl ?_
                try simp only [↓DN, UP, r1, r2, r3, r4, r5, r6, r7, reduceCtorEq, Tryz.f7]
                obtain ⟨y_56, hy_57, hy_25⟩ := bS hy_25
                refine seqK TryzT_eq (fun p : Bool => ⟨[(1, .pv (.one (.str vfrom_2))), (2, .pv (.one (.str to_3))), (3, .pv (.one (.ptr 0 0))), (6, .pv (.one (.ptr 1 0))), (8, .pv (.one (.ptr 2 0))), (9, .pv (.one (.int .i64 b_16))), (14, .pv (.one (.ptr 4 0))), (84, .pv (.one (.bool p)))], [.live ⟨1, 1, [.imm 1 s_1.Cells.length (s_1.Cells.flatMap (eI .u32))]⟩, .live ⟨1, 1, [.emp]⟩, .live ⟨1, 1, [.arr 3 0 out_15.Cells.length]⟩, .live ⟨1, out_15.Cells.length, out_15.Cells.flatMap (eI .u32)⟩, .live ⟨1, 1, [.arr 5 0 y_54.1.Cells.length]⟩, .live ⟨1, y_54.1.Cells.length, y_54.1.Cells.flatMap (eI .u32)⟩]⟩) (fun v => y_56 = v) (by rfl) ?_ ?_
                · try simp only [↓DN, UP, r1, r2, r3, r4, r5, r6, r7, reduceCtorEq, Tryz.f7]
                  refine stIf hy_57 (fun hb_58 hy_57 => ?_) (fun hb_58 hy_57 => ?_)
                  · try simp only [↓DN, UP, r1, r2, r3, r4, r5, r6, r7, reduceCtorEq, Tryz.f7, hb_58]
                    obtain rfl := Option.some.inj hy_57
                    exact cutT_mk true rfl (wn [1, 2, 3, 6, 8, 9, 14, 84] [0, 1, 2, 3, 6, 5])
                  · obtain ⟨y_59, hy_59, hy_57⟩ := bS hy_57
                    try simp only [↓DN, UP, r1, r2, r3, r4, r5, r6, r7, reduceCtorEq, Tryz.f7, hb_58]
                    refine cG [] (c_spec_ListOk hy_59) (hK := fun rd b => ?_)
                    try simp only [↓DN, UP, r1, r2, r3, r4, r5, r6, r7, reduceCtorEq, Tryz.f7, hb_58]
                    obtain rfl := Option.some.inj hy_57
                    exact cutT_mk (!y_59) rfl (wn [1, 2, 3, 6, 8, 9, 14, 84] [0, 1, 2, 3, 6, 5])
                · rintro v_55 hp
                  replace hp := hp.symm; subst hp
                  try dsimp only at hy_25
                  try simp only [↓DN, UP, r1, r2, r3, r4, r5, r6, r7, reduceCtorEq, Tryz.f7]
                  refine stIf hy_25 (fun hb_60 hy_25 => ?_) (fun hb_60 hy_25 => ?_)
                  · obtain rfl := Option.some.inj hy_25
                    try dsimp only at hk_21
                    obtain rfl := Option.some.inj hk_21
                    try dsimp only at hy_14
                    obtain rfl := Option.some.inj hy_14
                    try dsimp only at h
                    try simp only [↓DN, UP, r1, r2, r3, r4, r5, r6, r7, reduceCtorEq, Tryz.f7]
                    obtain rfl := Option.some.inj h
                    refine endT_of ?_ ⟨rfl, rfl⟩
                    exact ((weak_norm (ks := [0]) (π := []) (fuel := 9) (s' := ⟨[(0, .tup [.agg [.emp], .one (.bool false)])], []⟩) (by simp only [WL, r1, r2, r3, r4, r5, r6, r7, reduceCtorEq])).trans (weak_le (by simp only [LEb, r1, r2, r3, r4, r5, r6, r7, reduceCtorEq, TL]) (by simp only [LEb, r1, r2, r3, r4, r5, r6, r7, reduceCtorEq, TL])))
                  · try simp only [↓DN, UP, r1, r2, r3, r4, r5, r6, r7, reduceCtorEq, Tryz.f7]
                    obtain rfl := Option.some.inj hy_25
                    exact cutT_mk y_54.1.Cells rfl (wn [1, 2, 3, 6, 8, 9] [0, 1, 2, 5])
          · rintro out_23 hp
            replace hp := hp.symm; subst hp
            try dsimp only at hk_21
            try simp only [↓DN, UP, r1, r2, r3, r4, r5, r6, r7, reduceCtorEq, Tryz.f7]
            exact ⟨((⟨out_23⟩ : GStore), IntKind.wrap .i64 (b_16 + 1)), hk_21, (wn [1, 2, 3, 6, 8, 9] [0, 1, 2, 3])⟩
        · obtain rfl := Option.some.inj hk_21
          try dsimp only at hy_14
          try simp only [↓DN, UP, r1, r2, r3, r4, r5, r6, r7, reduceCtorEq, Tryz.f7, f6]
          obtain rfl := Option.some.inj hy_14
          exact cutT_mk out_15.Cells rfl (wn [6, 8] [1, 2, 3])
      · rintro out_12 hp
        replace hp := hp.symm; subst hp
        try dsimp only at h
        try simp only [↓DN, UP, r1, r2, r3, r4, r5, r6, r7, reduceCtorEq, Tryz.f7]
        obtain rfl := Option.some.inj h
        refine endT_of ?_ ⟨rfl, rfl⟩
        exact (wn [0] [2])
theorem c_impl_allPlaced {s_1 : GStore} {r : (List GPlaced)} (h : g_impl_allPlaced s_1 = some r) : Ans Tryz.prog 29 [.agg [.imm 1 s_1.Cells.length (s_1.Cells.flatMap (eI .u32))]] [] fun v h1 => v = .pv (.one (.arr 0 0 r.length)) ∧ h1 = [.live ⟨6, r.length, r.flatMap GPlaced.cs⟩] := by
  refine ansK (P := fun _ => Tryz.prog) TryzT_eq (fn := Tryz.f29) Tryz.func29 rfl ⟨by kernel_rfl, rfl, rfl, by kernel_rfl⟩ (by simp) (Weak.refl _ _) ?_
  rw [g_impl_allPlaced] at h
  have f1 := (show bldN 0 = 0 from rfl)
  have f2 := (show bldC [] = ([] : List GPlaced).flatMap GPlaced.cs from rfl)
  try simp only [↓DN, UP, r1, r2, r3, r4, r5, r6, r7, reduceCtorEq, Tryz.f29, f1, f2]
  obtain ⟨y_3, hy_4, h⟩ := bS h
  refine seqK TryzT_eq (fun p : (List GPlaced) => ⟨[(3, .pv (.one (.arr 0 0 p.length)))], [.live ⟨6, p.length, p.flatMap GPlaced.cs⟩]⟩) (fun v => y_3 = v) (by rfl) ?_ ?_
  · have f3 := (quoI_ne (k := .i64) (a := (s_1.Cells.length : Int)) (b := 64) (by decide))
    try simp only [↓DN, UP, r1, r2, r3, r4, r5, r6, r7, reduceCtorEq, Tryz.f29, f1, f2, f3]
    obtain ⟨y_8, hy_9, hy_4⟩ := bS hy_4
    refine loopK TryzT_eq (fun p : (List GPlaced) × Int => ⟨[(1, .pv (.one (.ptr 0 0))), (3, .pv (.one (.arr 1 0 p.1.length))), (14, .pv (.one (.int .i64 (IntKind.wrap .i64 (Int.tdiv (s_1.Cells.length : Int) 64))))), (15, .pv (.one (.int .i64 p.2)))], [.live ⟨1, 1, [.imm 1 s_1.Cells.length (s_1.Cells.flatMap (eI .u32))]⟩, .live ⟨6, p.1.length, p.1.flatMap GPlaced.cs⟩]⟩) (fun k p => g_impl_allPlaced_l0 s_1 k p.1 p.2 = some y_8) (by kernel_rfl) bigK (([] : List GPlaced), 0) (weak_norm (ks := [1, 3, 14, 15]) (π := [0, 1]) (fuel := 9) (by simp only [WL, r1, r2, r3, r4, r5, r6, r7, reduceCtorEq, fWin GPlaced.ok (n := 0) (xs := ([] : List GPlaced)) (by simp)])) hy_9 (fun _ h => nomatch (show none = some _ from h)) ?_
    rintro k_10 ⟨out_5, v_6⟩ hk_11
    rw [g_impl_allPlaced_l0] at hk_11
    try dsimp only at hk_11
    try simp only [↓DN, UP, r1, r2, r3, r4, r5, r6, r7, reduceCtorEq, Tryz.f29]
    refine seqN TryzT_eq rfl ?_
    try simp only [↓DN, UP, r1, r2, r3, r4, r5, r6, r7, reduceCtorEq, Tryz.f29]
    refine stIf hk_11 (fun hb_12 hk_11 => ?_) (fun hb_12 hk_11 => ?_)
    · try simp only [↓DN, UP, r1, r2, r3, r4, r5, r6, r7, reduceCtorEq, Tryz.f29]
      obtain ⟨y_14, hy_15, hk_11⟩ := bS hk_11
      refine seqK TryzT_eq (fun p : (List GPlaced) => ⟨[(1, .pv (.one (.ptr 0 0))), (3, .pv (.one (.arr 1 0 p.length))), (14, .pv (.one (.int .i64 (IntKind.wrap .i64 (Int.tdiv (s_1.Cells.length : Int) 64))))), (15, .pv (.one (.int .i64 v_6)))], [.live ⟨1, 1, [.imm 1 s_1.Cells.length (s_1.Cells.flatMap (eI .u32))]⟩, .live ⟨6, p.length, p.flatMap GPlaced.cs⟩]⟩) (fun v => y_14 = v) (by rfl) ?_ ?_
      · obtain ⟨y_16, hy_16, hy_15⟩ := bS hy_15
        try simp only [↓DN, UP, r1, r2, r3, r4, r5, r6, r7, reduceCtorEq, Tryz.f29]
        refine cG [] (c_impl_ItemsOf hy_16) (hK := fun rd b => ?_)
        try simp only [↓DN, UP, r1, r2, r3, r4, r5, r6, r7, reduceCtorEq, Tryz.f29]
        obtain ⟨y_21, hy_22, hy_15⟩ := bS hy_15
        refine loopK TryzT_eq (fun p : (List GPlaced) × Int × Int => ⟨[(1, .pv (.one (.ptr 0 0))), (3, .pv (.one (.arr 1 0 p.1.length))), (7, .pv (.one (.int .i64 p.2.1))), (14, .pv (.one (.int .i64 (IntKind.wrap .i64 (Int.tdiv (s_1.Cells.length : Int) 64))))), (15, .pv (.one (.int .i64 v_6))), (26, .pv (.one (.arr 2 0 y_16.1.length))), (27, .pv (.one (.int .i64 (y_16.1.length : Int)))), (28, .pv (.one (.int .i64 p.2.2)))], [.live ⟨1, 1, [.imm 1 s_1.Cells.length (s_1.Cells.flatMap (eI .u32))]⟩, .live ⟨6, p.1.length, p.1.flatMap GPlaced.cs⟩, .live ⟨5, y_16.1.length, y_16.1.flatMap GItem.cs⟩]⟩) (fun k p => g_impl_allPlaced_l1 y_16 k p.1 p.2.1 p.2.2 = some y_21) (by kernel_rfl) bigK (out_5, IntKind.wrap .i64 (v_6 * 64), 0) (wn [1, 3, 7, 14, 15, 26, 27, 28] [0, 1, 2]) hy_22 (fun _ h => nomatch (show none = some _ from h)) ?_
        rintro k_23 ⟨out_17, vat_18, v_19⟩ hk_24
        rw [g_impl_allPlaced_l1] at hk_24
        try dsimp only at hk_24
        try simp only [↓DN, UP, r1, r2, r3, r4, r5, r6, r7, reduceCtorEq, Tryz.f29]
        refine seqN TryzT_eq rfl ?_
        try simp only [↓DN, UP, r1, r2, r3, r4, r5, r6, r7, reduceCtorEq, Tryz.f29]
        refine stIf hk_24 (fun hb_25 hk_24 => ?_) (fun hb_25 hk_24 => ?_)
        · try simp only [↓DN, UP, r1, r2, r3, r4, r5, r6, r7, reduceCtorEq, Tryz.f29]
          refine seqN TryzT_eq rfl ?_
          obtain ⟨v_26, hv_26, hk_24⟩ := bS hk_24
          obtain ⟨v_27, hv_27, hk_24⟩ := bS hk_24
          obtain ⟨y_28, hy_28, hk_24⟩ := bS hk_24
          have f4 := (fPtr hv_26 (k := 5) (n := y_16.1.length) (by simp))
          have f5 := (fGet0 GItem.ok hv_26 (m := 5) (by decide) (by decide))
          have f6 := (show bldN 1 = 1 from rfl)
          have f7 := (show bldC [.int .i64 v_26.Kind, .str v_26.Name, .int .i32 v_26.N, .bool v_26.Hex, .int .u32 v_26.Raw, .int .i64 vat_18] = [(⟨v_26, vat_18⟩ : GPlaced)].flatMap GPlaced.cs from rfl)
          have f8 := (fWin GPlaced.ok (n := 1) (xs := [(⟨v_26, vat_18⟩ : GPlaced)]) (by simp))
          have f9 := (fApp hv_27 (n := out_17.length) (by simp) (m := 1) (by simp [bsOf]))
          have f10 := (fWin GPlaced.ok (n := out_17.length) (xs := out_17) (by simp))
          have f11 := (fCat (e := GPlaced.cs) (ns := [(⟨v_26, vat_18⟩ : GPlaced)].flatMap GPlaced.cs) hv_27 rfl)
          try simp only [↓DN, UP, r1, r2, r3, r4, r5, r6, r7, reduceCtorEq, Tryz.f29, f4, f5, f6, f7, f8, f9, f10, f11]
          refine cG [] (c_impl_CellsOf hy_28) (hK := fun rd b => ?_)
          try simp only [↓DN, UP, r1, r2, r3, r4, r5, r6, r7, reduceCtorEq, Tryz.f29, f4, f5, f6, f7, f8, f9, f10, f11]
          exact ⟨(v_27, IntKind.wrap .i64 (vat_18 + (y_28.length : Int)), IntKind.wrap .i64 (v_19 + 1)), hk_24, (wn [1, 3, 7, 14, 15, 26, 27, 28] [0, 5, 2])⟩
        · obtain rfl := Option.some.inj hk_24
          try dsimp only at hy_15
          try simp only [↓DN, UP, r1, r2, r3, r4, r5, r6, r7, reduceCtorEq, Tryz.f29]
          obtain rfl := Option.some.inj hy_15
          exact cutT_mk out_17 rfl (wn [1, 3, 14, 15] [0, 1])
      · rintro out_13 hp
        replace hp := hp.symm; subst hp
        try dsimp only at hk_11
        try simp only [↓DN, UP, r1, r2, r3, r4, r5, r6, r7, reduceCtorEq, Tryz.f29]
        exact ⟨(out_13, IntKind.wrap .i64 (v_6 + 1)), hk_11, (wn [1, 3, 14, 15] [0, 1])⟩
    · obtain rfl := Option.some.inj hk_11
      try dsimp only at hy_4
      try simp only [↓DN, UP, r1, r2, r3, r4, r5, r6, r7, reduceCtorEq, Tryz.f29]
      obtain rfl := Option.some.inj hy_4
      exact cutT_mk out_5 rfl (wn [3] [1])
  · rintro out_2 hp
    replace hp := hp.symm; subst hp
    try dsimp only at h
    try simp only [↓DN, UP, r1, r2, r3, r4, r5, r6, r7, reduceCtorEq, Tryz.f29]
    obtain rfl := Option.some.inj h
    refine endT_of ?_ ⟨rfl, rfl⟩
    exact (wn [0] [0])
theorem c_impl_Uses {s_1 : GStore} {name_2 : Bs} {r : (List Int)} (h : g_impl_Uses s_1 name_2 = some r) : Ans Tryz.prog 8 [.agg [.imm 1 s_1.Cells.length (s_1.Cells.flatMap (eI .u32))], .one (.str name_2)] [] fun v h1 => v = .pv (.one (.arr 0 0 r.length)) ∧ h1 = [.live ⟨1, r.length, r.flatMap (eI .i64)⟩] := by
  refine ansK (P := fun _ => Tryz.prog) TryzT_eq (fn := Tryz.f8) Tryz.func8 rfl ⟨by kernel_rfl, rfl, rfl, by kernel_rfl⟩ (by simp) (Weak.refl _ _) ?_
  rw [g_impl_Uses] at h
  try simp only [↓DN, UP, r1, r2, r3, r4, r5, r6, r7, reduceCtorEq, Tryz.f8]
  refine seqN TryzT_eq rfl ?_
  obtain ⟨y_3, hy_3, h⟩ := bS h
  try simp only [↓DN, UP, r1, r2, r3, r4, r5, r6, r7, reduceCtorEq, Tryz.f8]
  refine cG [] (c_impl_StoreOk hy_3) (hK := fun rd b => ?_)
  try simp only [↓DN, UP, r1, r2, r3, r4, r5, r6, r7, reduceCtorEq, Tryz.f8]
  refine stIf h (fun hb_4 h => ?_) (fun hb_4 h => ?_)
  · try simp only [↓DN, UP, r1, r2, r3, r4, r5, r6, r7, reduceCtorEq, Tryz.f8]
    obtain rfl := Option.some.inj h
    refine endT_of ?_ ⟨rfl, rfl⟩
    exact ((weak_norm (ks := [0]) (π := []) (fuel := 9) (s' := ⟨[(0, .pv (.one (.emp)))], []⟩) (by simp only [WL, r1, r2, r3, r4, r5, r6, r7, reduceCtorEq])).trans (weak_le (by simp only [LEb, r1, r2, r3, r4, r5, r6, r7, reduceCtorEq, TL]) (by simp only [LEb, r1, r2, r3, r4, r5, r6, r7, reduceCtorEq, TL])))
  · have f1 := (show bldN 0 = 0 from rfl)
    have f2 := (show bldC [] = ([] : List Int).flatMap (eI .i64) from rfl)
    try simp only [↓DN, UP, r1, r2, r3, r4, r5, r6, r7, reduceCtorEq, Tryz.f8, f1, f2]
    obtain ⟨y_6, hy_7, h⟩ := bS h
    refine seqK TryzT_eq (fun p : (List Int) => ⟨[(5, .pv (.one (.arr 0 0 p.length)))], [.live ⟨1, p.length, p.flatMap (eI .i64)⟩]⟩) (fun v => y_6 = v) (by rfl) ?_ ?_
    · obtain ⟨y_8, hy_8, hy_7⟩ := bS hy_7
      try simp only [↓DN, UP, r1, r2, r3, r4, r5, r6, r7, reduceCtorEq, Tryz.f8, f1, f2]
      refine cG [] (c_impl_allPlaced hy_8) (hK := fun rd b => ?_)
      try simp only [↓DN, UP, r1, r2, r3, r4, r5, r6, r7, reduceCtorEq, Tryz.f8, f1, f2]
      obtain ⟨y_12, hy_13, hy_7⟩ := bS hy_7
      refine loopK TryzT_eq (fun p : (List Int) × Int => ⟨[(1, .pv (.one (.str name_2))), (5, .pv (.one (.arr 0 0 p.1.length))), (13, .pv (.one (.arr 1 0 y_8.length))), (14, .pv (.one (.int .i64 (y_8.length : Int)))), (15, .pv (.one (.int .i64 p.2)))], [.live ⟨1, p.1.length, p.1.flatMap (eI .i64)⟩, .live ⟨6, y_8.length, y_8.flatMap GPlaced.cs⟩]⟩) (fun k p => g_impl_Uses_l0 name_2 y_8 k p.1 p.2 = some y_12) (by kernel_rfl) bigK (([] : List Int), 0) (weak_norm (ks := [1, 5, 13, 14, 15]) (π := [1, 2]) (fuel := 9) (by simp only [WL, r1, r2, r3, r4, r5, r6, r7, reduceCtorEq, fWin (eI_ok .i64) (n := 0) (xs := ([] : List Int)) (by simp)])) hy_13 (fun _ h => nomatch (show none = some _ from h)) ?_
      rintro k_14 ⟨out_9, v_10⟩ hk_15
      rw [g_impl_Uses_l0] at hk_15
      try dsimp only at hk_15
      try simp only [↓DN, UP, r1, r2, r3, r4, r5, r6, r7, reduceCtorEq, Tryz.f8]
      refine seqN TryzT_eq rfl ?_
      try simp only [↓DN, UP, r1, r2, r3, r4, r5, r6, r7, reduceCtorEq, Tryz.f8]
      refine stIf hk_15 (fun hb_16 hk_15 => ?_) (fun hb_16 hk_15 => ?_)
      · try simp only [↓DN, UP, r1, r2, r3, r4, r5, r6, r7, reduceCtorEq, Tryz.f8]
        obtain ⟨y_18, hy_19, hk_15⟩ := bS hk_15
        refine seqK TryzT_eq (fun p : (List Int) => ⟨[(1, .pv (.one (.str name_2))), (5, .pv (.one (.arr 0 0 p.length))), (13, .pv (.one (.arr 1 0 y_8.length))), (14, .pv (.one (.int .i64 (y_8.length : Int)))), (15, .pv (.one (.int .i64 v_10)))], [.live ⟨1, p.length, p.flatMap (eI .i64)⟩, .live ⟨6, y_8.length, y_8.flatMap GPlaced.cs⟩]⟩) (fun v => y_18 = v) (by rfl) ?_ ?_
        · obtain ⟨v_20, hv_20, hy_19⟩ := bS hy_19
          obtain ⟨y_21, hy_21, hy_19⟩ := bS hy_19
          have f3 := (fPtr hv_20 (k := 6) (n := y_8.length) (by simp))
          have f4 := (fGet0 GPlaced.ok hv_20 (m := 6) (by decide) (by decide))
          try simp only [↓DN, UP, r1, r2, r3, r4, r5, r6, r7, reduceCtorEq, Tryz.f8, f3, f4]
          refine cG [] (c_impl_uses hy_21) (hK := fun rd b => ?_)
          try simp only [↓DN, UP, r1, r2, r3, r4, r5, r6, r7, reduceCtorEq, Tryz.f8, f3, f4]
          refine stIf hy_19 (fun hb_22 hy_19 => ?_) (fun hb_22 hy_19 => ?_)
          · obtain ⟨v_23, hv_23, hy_19⟩ := bS hy_19
            have f5 := (show bldN 1 = 1 from rfl)
            have f6 := (show bldC [.int .i64 v_20.place] = [v_20.place].flatMap (eI .i64) from rfl)
            have f7 := (fWin (eI_ok .i64) (n := 1) (xs := [v_20.place]) (by simp))
            have f8 := (fApp hv_23 (n := out_9.length) (by simp) (m := 1) (by simp [bsOf]))
            have f9 := (fWin (eI_ok .i64) (n := out_9.length) (xs := out_9) (by simp))
            have f10 := (fCat (e := (eI .i64)) (ns := [v_20.place].flatMap (eI .i64)) hv_23 rfl)
            try simp only [↓DN, UP, r1, r2, r3, r4, r5, r6, r7, reduceCtorEq, Tryz.f8, f3, f4, f5, f6, f7, f8, f9, f10]
            obtain rfl := Option.some.inj hy_19
            exact cutT_mk v_23 rfl (wn [1, 5, 13, 14, 15] [4, 1])
          · try simp only [↓DN, UP, r1, r2, r3, r4, r5, r6, r7, reduceCtorEq, Tryz.f8, f3, f4]
            obtain rfl := Option.some.inj hy_19
            exact cutT_mk out_9 rfl (wn [1, 5, 13, 14, 15] [0, 1])
        · rintro out_17 hp
          replace hp := hp.symm; subst hp
          try dsimp only at hk_15
          try simp only [↓DN, UP, r1, r2, r3, r4, r5, r6, r7, reduceCtorEq, Tryz.f8]
          exact ⟨(out_17, IntKind.wrap .i64 (v_10 + 1)), hk_15, (wn [1, 5, 13, 14, 15] [0, 1])⟩
      · obtain rfl := Option.some.inj hk_15
        try dsimp only at hy_7
        try simp only [↓DN, UP, r1, r2, r3, r4, r5, r6, r7, reduceCtorEq, Tryz.f8]
        obtain rfl := Option.some.inj hy_7
        exact cutT_mk out_9 rfl (wn [5] [0])
    · rintro out_5 hp
      replace hp := hp.symm; subst hp
      try dsimp only at h
      try simp only [↓DN, UP, r1, r2, r3, r4, r5, r6, r7, reduceCtorEq, Tryz.f8]
      obtain rfl := Option.some.inj h
      refine endT_of ?_ ⟨rfl, rfl⟩
      exact (wn [0] [0])
theorem c_impl_Defines {s_1 : GStore} {name_2 : Bs} {r : (List Int)} (h : g_impl_Defines s_1 name_2 = some r) : Ans Tryz.prog 9 [.agg [.imm 1 s_1.Cells.length (s_1.Cells.flatMap (eI .u32))], .one (.str name_2)] [] fun v h1 => v = .pv (.one (.arr 0 0 r.length)) ∧ h1 = [.live ⟨1, r.length, r.flatMap (eI .i64)⟩] := by
  refine ansK (P := fun _ => Tryz.prog) TryzT_eq (fn := Tryz.f9) Tryz.func9 rfl ⟨by kernel_rfl, rfl, rfl, by kernel_rfl⟩ (by simp) (Weak.refl _ _) ?_
  rw [g_impl_Defines] at h
  try simp only [↓DN, UP, r1, r2, r3, r4, r5, r6, r7, reduceCtorEq, Tryz.f9]
  refine seqN TryzT_eq rfl ?_
  obtain ⟨y_3, hy_3, h⟩ := bS h
  try simp only [↓DN, UP, r1, r2, r3, r4, r5, r6, r7, reduceCtorEq, Tryz.f9]
  refine cG [] (c_impl_StoreOk hy_3) (hK := fun rd b => ?_)
  try simp only [↓DN, UP, r1, r2, r3, r4, r5, r6, r7, reduceCtorEq, Tryz.f9]
  refine stIf h (fun hb_4 h => ?_) (fun hb_4 h => ?_)
  · try simp only [↓DN, UP, r1, r2, r3, r4, r5, r6, r7, reduceCtorEq, Tryz.f9]
    obtain rfl := Option.some.inj h
    refine endT_of ?_ ⟨rfl, rfl⟩
    exact ((weak_norm (ks := [0]) (π := []) (fuel := 9) (s' := ⟨[(0, .pv (.one (.emp)))], []⟩) (by simp only [WL, r1, r2, r3, r4, r5, r6, r7, reduceCtorEq])).trans (weak_le (by simp only [LEb, r1, r2, r3, r4, r5, r6, r7, reduceCtorEq, TL]) (by simp only [LEb, r1, r2, r3, r4, r5, r6, r7, reduceCtorEq, TL])))
  · have f1 := (show bldN 0 = 0 from rfl)
    have f2 := (show bldC [] = ([] : List Int).flatMap (eI .i64) from rfl)
    try simp only [↓DN, UP, r1, r2, r3, r4, r5, r6, r7, reduceCtorEq, Tryz.f9, f1, f2]
    obtain ⟨y_6, hy_7, h⟩ := bS h
    refine seqK TryzT_eq (fun p : (List Int) => ⟨[(5, .pv (.one (.arr 0 0 p.length)))], [.live ⟨1, p.length, p.flatMap (eI .i64)⟩]⟩) (fun v => y_6 = v) (by rfl) ?_ ?_
    · obtain ⟨y_8, hy_8, hy_7⟩ := bS hy_7
      try simp only [↓DN, UP, r1, r2, r3, r4, r5, r6, r7, reduceCtorEq, Tryz.f9, f1, f2]
      refine cG [] (c_impl_allPlaced hy_8) (hK := fun rd b => ?_)
      try simp only [↓DN, UP, r1, r2, r3, r4, r5, r6, r7, reduceCtorEq, Tryz.f9, f1, f2]
      obtain ⟨y_12, hy_13, hy_7⟩ := bS hy_7
      refine loopK TryzT_eq (fun p : (List Int) × Int => ⟨[(1, .pv (.one (.str name_2))), (5, .pv (.one (.arr 0 0 p.1.length))), (13, .pv (.one (.arr 1 0 y_8.length))), (14, .pv (.one (.int .i64 (y_8.length : Int)))), (15, .pv (.one (.int .i64 p.2)))], [.live ⟨1, p.1.length, p.1.flatMap (eI .i64)⟩, .live ⟨6, y_8.length, y_8.flatMap GPlaced.cs⟩]⟩) (fun k p => g_impl_Defines_l0 name_2 y_8 k p.1 p.2 = some y_12) (by kernel_rfl) bigK (([] : List Int), 0) (weak_norm (ks := [1, 5, 13, 14, 15]) (π := [1, 2]) (fuel := 9) (by simp only [WL, r1, r2, r3, r4, r5, r6, r7, reduceCtorEq, fWin (eI_ok .i64) (n := 0) (xs := ([] : List Int)) (by simp)])) hy_13 (fun _ h => nomatch (show none = some _ from h)) ?_
      rintro k_14 ⟨out_9, v_10⟩ hk_15
      rw [g_impl_Defines_l0] at hk_15
      try dsimp only at hk_15
      try simp only [↓DN, UP, r1, r2, r3, r4, r5, r6, r7, reduceCtorEq, Tryz.f9]
      refine seqN TryzT_eq rfl ?_
      try simp only [↓DN, UP, r1, r2, r3, r4, r5, r6, r7, reduceCtorEq, Tryz.f9]
      refine stIf hk_15 (fun hb_16 hk_15 => ?_) (fun hb_16 hk_15 => ?_)
      · try simp only [↓DN, UP, r1, r2, r3, r4, r5, r6, r7, reduceCtorEq, Tryz.f9]
        obtain ⟨y_18, hy_19, hk_15⟩ := bS hk_15
        refine seqK TryzT_eq (fun p : (List Int) => ⟨[(1, .pv (.one (.str name_2))), (5, .pv (.one (.arr 0 0 p.length))), (13, .pv (.one (.arr 1 0 y_8.length))), (14, .pv (.one (.int .i64 (y_8.length : Int)))), (15, .pv (.one (.int .i64 v_10)))], [.live ⟨1, p.length, p.flatMap (eI .i64)⟩, .live ⟨6, y_8.length, y_8.flatMap GPlaced.cs⟩]⟩) (fun v => y_18 = v) (by rfl) ?_ ?_
        · obtain ⟨v_20, hv_20, hy_19⟩ := bS hy_19
          have f3 := (fPtr hv_20 (k := 6) (n := y_8.length) (by simp))
          have f4 := (fGet0 GPlaced.ok hv_20 (m := 6) (by decide) (by decide))
          try simp only [↓DN, UP, r1, r2, r3, r4, r5, r6, r7, reduceCtorEq, Tryz.f9, f3, f4]
          obtain ⟨y_22, hy_23, hy_19⟩ := bS hy_19
          refine seqK TryzT_eq (fun p : Bool => ⟨[(1, .pv (.one (.str name_2))), (5, .pv (.one (.arr 0 0 out_9.length))), (7, .pv (.one (.ptr 1 0))), (13, .pv (.one (.arr 2 0 y_8.length))), (14, .pv (.one (.int .i64 (y_8.length : Int)))), (15, .pv (.one (.int .i64 v_10))), (34, .pv (.one (.bool p)))], [.live ⟨1, out_9.length, out_9.flatMap (eI .i64)⟩, .live ⟨1, 6, [.int .i64 v_20.item.Kind, .str v_20.item.Name, .int .i32 v_20.item.N, .bool v_20.item.Hex, .int .u32 v_20.item.Raw, .int .i64 v_20.place]⟩, .live ⟨6, y_8.length, y_8.flatMap GPlaced.cs⟩]⟩) (fun v => y_22 = v) (by rfl) ?_ ?_
          · obtain ⟨y_24, hy_24, hy_23⟩ := bS hy_23
            try simp only [↓DN, UP, r1, r2, r3, r4, r5, r6, r7, reduceCtorEq, Tryz.f9, f3, f4]
            refine cG [] (c_impl_uses hy_24) (hK := fun rd b => ?_)
            try simp only [↓DN, UP, r1, r2, r3, r4, r5, r6, r7, reduceCtorEq, Tryz.f9, f3, f4]
            refine stIf hy_23 (fun hb_25 hy_23 => ?_) (fun hb_25 hy_23 => ?_)
            · try simp only [↓DN, UP, r1, r2, r3, r4, r5, r6, r7, reduceCtorEq, Tryz.f9, f3, f4, hb_25]
              refine stIf hy_23 (fun hb_26 hy_23 => ?_) (fun hb_26 hy_23 => ?_)
              · try simp only [↓DN, UP, r1, r2, r3, r4, r5, r6, r7, reduceCtorEq, Tryz.f9, f3, f4, hb_25, hb_26]
                obtain rfl := Option.some.inj hy_23
                exact cutT_mk true rfl (wn [1, 5, 7, 13, 14, 15, 34] [0, 2, 1])
              · try simp only [↓DN, UP, r1, r2, r3, r4, r5, r6, r7, reduceCtorEq, Tryz.f9, f3, f4, hb_25, hb_26]
                obtain rfl := Option.some.inj hy_23
                exact cutT_mk (v_20.item.Kind == 9) rfl (wn [1, 5, 7, 13, 14, 15, 34] [0, 2, 1])
            · try simp only [↓DN, UP, r1, r2, r3, r4, r5, r6, r7, reduceCtorEq, Tryz.f9, f3, f4, hb_25]
              obtain rfl := Option.some.inj hy_23
              exact cutT_mk false rfl (wn [1, 5, 7, 13, 14, 15, 34] [0, 2, 1])
          · rintro v_21 hp
            replace hp := hp.symm; subst hp
            try dsimp only at hy_19
            try simp only [↓DN, UP, r1, r2, r3, r4, r5, r6, r7, reduceCtorEq, Tryz.f9]
            refine stIf hy_19 (fun hb_27 hy_19 => ?_) (fun hb_27 hy_19 => ?_)
            · obtain ⟨v_28, hv_28, hy_19⟩ := bS hy_19
              have f5 := (show bldN 1 = 1 from rfl)
              have f6 := (show bldC [.int .i64 v_20.place] = [v_20.place].flatMap (eI .i64) from rfl)
              have f7 := (fWin (eI_ok .i64) (n := 1) (xs := [v_20.place]) (by simp))
              have f8 := (fApp hv_28 (n := out_9.length) (by simp) (m := 1) (by simp [bsOf]))
              have f9 := (fWin (eI_ok .i64) (n := out_9.length) (xs := out_9) (by simp))
              have f10 := (fCat (e := (eI .i64)) (ns := [v_20.place].flatMap (eI .i64)) hv_28 rfl)
              try simp only [↓DN, UP, r1, r2, r3, r4, r5, r6, r7, reduceCtorEq, Tryz.f9, f5, f6, f7, f8, f9, f10]
              obtain rfl := Option.some.inj hy_19
              exact cutT_mk v_28 rfl (wn [1, 5, 13, 14, 15] [4, 2])
            · try simp only [↓DN, UP, r1, r2, r3, r4, r5, r6, r7, reduceCtorEq, Tryz.f9]
              obtain rfl := Option.some.inj hy_19
              exact cutT_mk out_9 rfl (wn [1, 5, 13, 14, 15] [0, 2])
        · rintro out_17 hp
          replace hp := hp.symm; subst hp
          try dsimp only at hk_15
          try simp only [↓DN, UP, r1, r2, r3, r4, r5, r6, r7, reduceCtorEq, Tryz.f9]
          exact ⟨(out_17, IntKind.wrap .i64 (v_10 + 1)), hk_15, (wn [1, 5, 13, 14, 15] [0, 1])⟩
      · obtain rfl := Option.some.inj hk_15
        try dsimp only at hy_7
        try simp only [↓DN, UP, r1, r2, r3, r4, r5, r6, r7, reduceCtorEq, Tryz.f9]
        obtain rfl := Option.some.inj hy_7
        exact cutT_mk out_9 rfl (wn [5] [0])
    · rintro out_5 hp
      replace hp := hp.symm; subst hp
      try dsimp only at h
      try simp only [↓DN, UP, r1, r2, r3, r4, r5, r6, r7, reduceCtorEq, Tryz.f9]
      obtain rfl := Option.some.inj h
      refine endT_of ?_ ⟨rfl, rfl⟩
      exact (wn [0] [0])
theorem c_laws_sameCells {a_1 : List Int} {b_2 : List Int} {r : Bool} (h : g_laws_sameCells a_1 b_2 = some r) : Ans Tryz.prog 11 [.one (.imm 1 a_1.length (a_1.flatMap (eI .u32))), .one (.imm 1 b_2.length (b_2.flatMap (eI .u32)))] [] fun v h1 => v = .pv (.one (.bool r)) ∧ h1 = [] := by
  refine ansK (P := fun _ => Tryz.prog) TryzT_eq (fn := Tryz.f11) Tryz.func11 rfl ⟨by kernel_rfl, rfl, rfl, by kernel_rfl⟩ (by simp) (Weak.refl _ _) ?_
  rw [g_laws_sameCells] at h
  try simp only [↓DN, UP, r1, r2, r3, r4, r5, r6, r7, reduceCtorEq, Tryz.f11]
  refine seqN TryzT_eq rfl ?_
  try simp only [↓DN, UP, r1, r2, r3, r4, r5, r6, r7, reduceCtorEq, Tryz.f11]
  refine stIf h (fun hb_3 h => ?_) (fun hb_3 h => ?_)
  · try simp only [↓DN, UP, r1, r2, r3, r4, r5, r6, r7, reduceCtorEq, Tryz.f11]
    obtain rfl := Option.some.inj h
    refine endT_of ?_ ⟨rfl, rfl⟩
    exact (wn [0] [])
  · try simp only [↓DN, UP, r1, r2, r3, r4, r5, r6, r7, reduceCtorEq, Tryz.f11]
    obtain ⟨y_4, hy_5, h⟩ := bS h
    refine seqK TryzT_eq (fun p : Unit => ⟨[], []⟩) (fun v => y_4 = .inl v) (by rfl) ?_ ?_
    · try simp only [↓DN, UP, r1, r2, r3, r4, r5, r6, r7, reduceCtorEq, Tryz.f11]
      obtain ⟨y_7, hy_8, hy_5⟩ := bS hy_5
      refine loopK TryzT_eq (fun p : Int => ⟨[(0, .pv (.one (.imm 1 a_1.length (a_1.flatMap (eI .u32))))), (1, .pv (.one (.imm 1 b_2.length (b_2.flatMap (eI .u32))))), (5, .pv (.one (.int .i64 p)))], []⟩) (fun k p => g_laws_sameCells_l0 a_1 b_2 k p = some y_7) (by kernel_rfl) bigK 0 (wn [0, 1, 5] []) hy_8 (fun _ h => nomatch (show none = some _ from h)) ?_
      rintro k_9 i_6 hk_10
      rw [g_laws_sameCells_l0] at hk_10
      try dsimp only at hk_10
      try simp only [↓DN, UP, r1, r2, r3, r4, r5, r6, r7, reduceCtorEq, Tryz.f11]
      refine seqN TryzT_eq rfl ?_
      try simp only [↓DN, UP, r1, r2, r3, r4, r5, r6, r7, reduceCtorEq, Tryz.f11]
      refine stIf hk_10 (fun hb_11 hk_10 => ?_) (fun hb_11 hk_10 => ?_)
      · try simp only [↓DN, UP, r1, r2, r3, r4, r5, r6, r7, reduceCtorEq, Tryz.f11]
        refine seqN TryzT_eq rfl ?_
        obtain ⟨v_12, hv_12, hk_10⟩ := bS hk_10
        obtain ⟨v_13, hv_13, hk_10⟩ := bS hk_10
        have f1 := (fAt (eI_ok .u32) hv_12 (n := a_1.length) (by simp))
        have f2 := (fAt (eI_ok .u32) hv_13 (n := b_2.length) (by simp))
        try simp only [↓DN, UP, r1, r2, r3, r4, r5, r6, r7, reduceCtorEq, Tryz.f11, f1, f2]
        refine ⟨rfl, ?_⟩
        try simp only [↓DN, UP, r1, r2, r3, r4, r5, r6, r7, reduceCtorEq, Tryz.f11, f1, f2]
        refine stIf hk_10 (fun hb_14 hk_10 => ?_) (fun hb_14 hk_10 => ?_)
        · obtain rfl := Option.some.inj hk_10
          try dsimp only at hy_5
          obtain rfl := Option.some.inj hy_5
          try dsimp only at h
          try simp only [↓DN, UP, r1, r2, r3, r4, r5, r6, r7, reduceCtorEq, Tryz.f11, f1, f2]
          obtain rfl := Option.some.inj h
          refine endT_of ?_ ⟨rfl, rfl⟩
          exact (wn [0] [])
        · try simp only [↓DN, UP, r1, r2, r3, r4, r5, r6, r7, reduceCtorEq, Tryz.f11, f1, f2]
          exact ⟨IntKind.wrap .i64 (i_6 + 1), hk_10, (wn [0, 1, 5] [])⟩
      · obtain rfl := Option.some.inj hk_10
        try dsimp only at hy_5
        try simp only [↓DN, UP, r1, r2, r3, r4, r5, r6, r7, reduceCtorEq, Tryz.f11]
        obtain rfl := Option.some.inj hy_5
        exact cutT_mk () (by trivial) (wn [] [])
    · rintro _ hp
      replace hp := hp.symm; subst hp
      try dsimp only at h
      try simp only [↓DN, UP, r1, r2, r3, r4, r5, r6, r7, reduceCtorEq, Tryz.f11]
      obtain rfl := Option.some.inj h
      refine endT_of ?_ ⟨rfl, rfl⟩
      exact (wn [0] [])
theorem c_laws_FnRename {code_1 : List Int} {r : Bool} (h : g_laws_FnRename code_1 = some r) : Ans Tryz.prog 3 [.one (.imm 1 code_1.length (code_1.flatMap (eI .u8)))] [] fun v h1 => v = .pv (.one (.bool r)) ∧ h1 = [] := by
  refine ansK (P := fun _ => Tryz.prog) TryzT_eq (fn := Tryz.f3) Tryz.func3 rfl ⟨by kernel_rfl, rfl, rfl, by kernel_rfl⟩ (by simp) (Weak.refl _ _) ?_
  rw [g_laws_FnRename] at h
  try simp only [↓DN, UP, r1, r2, r3, r4, r5, r6, r7, reduceCtorEq, Tryz.f3]
  refine seqN TryzT_eq rfl ?_
  obtain ⟨y_2, hy_2, h⟩ := bS h
  try simp only [↓DN, UP, r1, r2, r3, r4, r5, r6, r7, reduceCtorEq, Tryz.f3]
  refine cG [] (c_laws_big hy_2) (hK := fun rd b => ?_)
  try simp only [↓DN, UP, r1, r2, r3, r4, r5, r6, r7, reduceCtorEq, Tryz.f3]
  refine stIf h (fun hb_3 h => ?_) (fun hb_3 h => ?_)
  · try simp only [↓DN, UP, r1, r2, r3, r4, r5, r6, r7, reduceCtorEq, Tryz.f3]
    obtain rfl := Option.some.inj h
    refine endT_of ?_ ⟨rfl, rfl⟩
    exact (wn [0] [])
  · obtain ⟨y_4, hy_4, h⟩ := bS h
    try simp only [↓DN, UP, r1, r2, r3, r4, r5, r6, r7, reduceCtorEq, Tryz.f3]
    refine cG [] (c_spec_DrawRename hy_4) (hK := fun rd b => ?_)
    obtain ⟨y_5, hy_5, h⟩ := bS h
    try simp only [↓DN, UP, r1, r2, r3, r4, r5, r6, r7, reduceCtorEq, Tryz.f3]
    refine cG [] (c_impl_Rename hy_5) (hK := fun rd b => ?_)
    obtain ⟨y_6, hy_6, h⟩ := bS h
    try simp only [↓DN, UP, r1, r2, r3, r4, r5, r6, r7, reduceCtorEq, Tryz.f3]
    refine cG [] (c_spec_Rename hy_6) (hK := fun rd b => ?_)
    try simp only [↓DN, UP, r1, r2, r3, r4, r5, r6, r7, reduceCtorEq, Tryz.f3]
    refine seqN TryzT_eq rfl ?_
    try simp only [↓DN, UP, r1, r2, r3, r4, r5, r6, r7, reduceCtorEq, Tryz.f3]
    refine stIf h (fun hb_7 h => ?_) (fun hb_7 h => ?_)
    · try simp only [↓DN, UP, r1, r2, r3, r4, r5, r6, r7, reduceCtorEq, Tryz.f3]
      obtain rfl := Option.some.inj h
      refine endT_of ?_ ⟨rfl, rfl⟩
      exact (wn [0] [])
    · try simp only [↓DN, UP, r1, r2, r3, r4, r5, r6, r7, reduceCtorEq, Tryz.f3]
      refine seqN TryzT_eq rfl ?_
      try simp only [↓DN, UP, r1, r2, r3, r4, r5, r6, r7, reduceCtorEq, Tryz.f3]
      refine stIf h (fun hb_8 h => ?_) (fun hb_8 h => ?_)
      · try simp only [↓DN, UP, r1, r2, r3, r4, r5, r6, r7, reduceCtorEq, Tryz.f3]
        obtain rfl := Option.some.inj h
        refine endT_of ?_ ⟨rfl, rfl⟩
        exact (wn [0] [])
      · try simp only [↓DN, UP, r1, r2, r3, r4, r5, r6, r7, reduceCtorEq, Tryz.f3]
        refine seqN TryzT_eq rfl ?_
        try simp only [↓DN, UP, r1, r2, r3, r4, r5, r6, r7, reduceCtorEq, Tryz.f3]
        obtain ⟨y_10, hy_11, h⟩ := bS h
        refine seqK TryzT_eq (fun p : Bool => ⟨[(3, .pv (.one (.ptr 0 0))), (4, .pv (.one (.str y_4.2.1))), (5, .pv (.one (.str y_4.2.2))), (6, .pv (.one (.ptr 2 0))), (59, .pv (.one (.bool p)))], [.live ⟨1, 1, [.arr 1 0 y_4.1.Cells.length]⟩, .live ⟨1, y_4.1.Cells.length, y_4.1.Cells.flatMap (eI .u32)⟩, .live ⟨1, 1, [.arr 3 0 y_5.1.Cells.length]⟩, .live ⟨1, y_5.1.Cells.length, y_5.1.Cells.flatMap (eI .u32)⟩]⟩) (fun v => y_10 = v) (by rfl) ?_ ?_
        · try simp only [↓DN, UP, r1, r2, r3, r4, r5, r6, r7, reduceCtorEq, Tryz.f3]
          refine stIf hy_11 (fun hb_12 hy_11 => ?_) (fun hb_12 hy_11 => ?_)
          · obtain ⟨y_13, hy_13, hy_11⟩ := bS hy_11
            try simp only [↓DN, UP, r1, r2, r3, r4, r5, r6, r7, reduceCtorEq, Tryz.f3, hb_12]
            refine cG [] (c_impl_Uses hy_13) (hK := fun rd b => ?_)
            try simp only [↓DN, UP, r1, r2, r3, r4, r5, r6, r7, reduceCtorEq, Tryz.f3, hb_12]
            refine stIf hy_11 (fun hb_14 hy_11 => ?_) (fun hb_14 hy_11 => ?_)
            · try simp only [↓DN, UP, r1, r2, r3, r4, r5, r6, r7, reduceCtorEq, Tryz.f3, hb_12, hb_14]
              obtain rfl := Option.some.inj hy_11
              exact cutT_mk true rfl (wn [3, 4, 5, 6, 59] [1, 0, 3, 2])
            · obtain ⟨y_15, hy_15, hy_11⟩ := bS hy_11
              try simp only [↓DN, UP, r1, r2, r3, r4, r5, r6, r7, reduceCtorEq, Tryz.f3, hb_12, hb_14]
              refine cG [] (c_impl_Uses hy_15) (hK := fun rd b => ?_)
              try simp only [↓DN, UP, r1, r2, r3, r4, r5, r6, r7, reduceCtorEq, Tryz.f3, hb_12, hb_14]
              obtain rfl := Option.some.inj hy_11
              exact cutT_mk (decide ((y_15.length : Int) > 0)) rfl (wn [3, 4, 5, 6, 59] [1, 0, 3, 2])
          · obtain ⟨y_16, hy_16, hy_11⟩ := bS hy_11
            try simp only [↓DN, UP, r1, r2, r3, r4, r5, r6, r7, reduceCtorEq, Tryz.f3, hb_12]
            refine cG [] (c_impl_Uses hy_16) (hK := fun rd b => ?_)
            try simp only [↓DN, UP, r1, r2, r3, r4, r5, r6, r7, reduceCtorEq, Tryz.f3, hb_12]
            obtain rfl := Option.some.inj hy_11
            exact cutT_mk (decide ((y_16.length : Int) > 0)) rfl (wn [3, 4, 5, 6, 59] [1, 0, 3, 2])
        · rintro v_9 hp
          replace hp := hp.symm; subst hp
          try dsimp only at h
          try simp only [↓DN, UP, r1, r2, r3, r4, r5, r6, r7, reduceCtorEq, Tryz.f3]
          refine stIf h (fun hb_17 h => ?_) (fun hb_17 h => ?_)
          · try simp only [↓DN, UP, r1, r2, r3, r4, r5, r6, r7, reduceCtorEq, Tryz.f3]
            refine seqN TryzT_eq rfl ?_
            try simp only [↓DN, UP, r1, r2, r3, r4, r5, r6, r7, reduceCtorEq, Tryz.f3]
            refine stIf h (fun hb_18 h => ?_) (fun hb_18 h => ?_)
            · try simp only [↓DN, UP, r1, r2, r3, r4, r5, r6, r7, reduceCtorEq, Tryz.f3, hb_18]
              obtain rfl := Option.some.inj h
              refine endT_of ?_ ⟨rfl, rfl⟩
              exact (wn [0] [])
            · obtain ⟨y_19, hy_19, h⟩ := bS h
              try simp only [↓DN, UP, r1, r2, r3, r4, r5, r6, r7, reduceCtorEq, Tryz.f3, hb_18]
              refine cG [] (c_impl_Uses hy_19) (hK := fun rd b => ?_)
              try simp only [↓DN, UP, r1, r2, r3, r4, r5, r6, r7, reduceCtorEq, Tryz.f3, hb_18]
              obtain rfl := Option.some.inj h
              refine endT_of ?_ ⟨rfl, rfl⟩
              exact (wn [0] [])
          · try simp only [↓DN, UP, r1, r2, r3, r4, r5, r6, r7, reduceCtorEq, Tryz.f3]
            refine seqN TryzT_eq rfl ?_
            try simp only [↓DN, UP, r1, r2, r3, r4, r5, r6, r7, reduceCtorEq, Tryz.f3]
            obtain ⟨y_21, hy_22, h⟩ := bS h
            refine seqK TryzT_eq (fun p : Bool => ⟨[(3, .pv (.one (.ptr 0 0))), (4, .pv (.one (.str y_4.2.1))), (5, .pv (.one (.str y_4.2.2))), (6, .pv (.one (.ptr 2 0))), (89, .pv (.one (.bool p)))], [.live ⟨1, 1, [.arr 1 0 y_4.1.Cells.length]⟩, .live ⟨1, y_4.1.Cells.length, y_4.1.Cells.flatMap (eI .u32)⟩, .live ⟨1, 1, [.arr 3 0 y_5.1.Cells.length]⟩, .live ⟨1, y_5.1.Cells.length, y_5.1.Cells.flatMap (eI .u32)⟩]⟩) (fun v => y_21 = v) (by rfl) ?_ ?_
            · obtain ⟨y_23, hy_23, hy_22⟩ := bS hy_22
              try simp only [↓DN, UP, r1, r2, r3, r4, r5, r6, r7, reduceCtorEq, Tryz.f3]
              refine callE [] (rd1 := [3]) (rd2 := []) 9 rfl (by simp only [WL, r1, r2, r3, r4, r5, r6, r7, reduceCtorEq]) (by simp only [WL, r1, r2, r3, r4, r5, r6, r7, reduceCtorEq]) rfl (c_impl_Uses hy_23) (by simp only [WL, r1, r2, r3, r4, r5, r6, r7, reduceCtorEq]) ?_
              obtain ⟨y_24, hy_24, hy_22⟩ := bS hy_22
              try simp only [↓DN, UP, r1, r2, r3, r4, r5, r6, r7, reduceCtorEq, Tryz.f3]
              refine callE [] (rd1 := [1]) (rd2 := []) 9 rfl (by simp only [WL, r1, r2, r3, r4, r5, r6, r7, reduceCtorEq]) (by simp only [WL, r1, r2, r3, r4, r5, r6, r7, reduceCtorEq]) rfl (c_impl_Uses hy_24) (by simp only [WL, r1, r2, r3, r4, r5, r6, r7, reduceCtorEq]) ?_
              try simp only [↓DN, UP, r1, r2, r3, r4, r5, r6, r7, reduceCtorEq, Tryz.f3]
              refine stIf hy_22 (fun hb_25 hy_22 => ?_) (fun hb_25 hy_22 => ?_)
              · try simp only [↓DN, UP, r1, r2, r3, r4, r5, r6, r7, reduceCtorEq, Tryz.f3, hb_25]
                refine ⟨rfl, ?_⟩
                try simp only [↓DN, UP, r1, r2, r3, r4, r5, r6, r7, reduceCtorEq, Tryz.f3, hb_25]
                obtain rfl := Option.some.inj hy_22
                exact cutT_mk true rfl (wn [3, 4, 5, 6, 89] [0, 1, 2, 3])
              · obtain ⟨y_26, hy_26, hy_22⟩ := bS hy_22
                try simp only [↓DN, UP, r1, r2, r3, r4, r5, r6, r7, reduceCtorEq, Tryz.f3, hb_25]
                refine callE [] (rd1 := [3]) (rd2 := []) 9 rfl (by simp only [WL, r1, r2, r3, r4, r5, r6, r7, reduceCtorEq]) (by simp only [WL, r1, r2, r3, r4, r5, r6, r7, reduceCtorEq]) rfl (c_impl_Defines hy_26) (by simp only [WL, r1, r2, r3, r4, r5, r6, r7, reduceCtorEq]) ?_
                obtain ⟨y_27, hy_27, hy_22⟩ := bS hy_22
                try simp only [↓DN, UP, r1, r2, r3, r4, r5, r6, r7, reduceCtorEq, Tryz.f3, hb_25]
                refine callE [] (rd1 := [1]) (rd2 := []) 9 rfl (by simp only [WL, r1, r2, r3, r4, r5, r6, r7, reduceCtorEq]) (by simp only [WL, r1, r2, r3, r4, r5, r6, r7, reduceCtorEq]) rfl (c_impl_Defines hy_27) (by simp only [WL, r1, r2, r3, r4, r5, r6, r7, reduceCtorEq]) ?_
                try simp only [↓DN, UP, r1, r2, r3, r4, r5, r6, r7, reduceCtorEq, Tryz.f3, hb_25]
                refine ⟨rfl, ?_⟩
                try simp only [↓DN, UP, r1, r2, r3, r4, r5, r6, r7, reduceCtorEq, Tryz.f3, hb_25]
                obtain rfl := Option.some.inj hy_22
                exact cutT_mk ((y_26.length : Int) != (y_27.length : Int)) rfl (wn [3, 4, 5, 6, 89] [0, 1, 2, 3])
            · rintro v_20 hp
              replace hp := hp.symm; subst hp
              try dsimp only at h
              try simp only [↓DN, UP, r1, r2, r3, r4, r5, r6, r7, reduceCtorEq, Tryz.f3]
              refine stIf h (fun hb_28 h => ?_) (fun hb_28 h => ?_)
              · try simp only [↓DN, UP, r1, r2, r3, r4, r5, r6, r7, reduceCtorEq, Tryz.f3]
                obtain rfl := Option.some.inj h
                refine endT_of ?_ ⟨rfl, rfl⟩
                exact (wn [0] [])
              · obtain ⟨y_29, hy_29, h⟩ := bS h
                try simp only [↓DN, UP, r1, r2, r3, r4, r5, r6, r7, reduceCtorEq, Tryz.f3]
                refine cG [] (c_impl_Rename hy_29) (hK := fun rd b => ?_)
                try simp only [↓DN, UP, r1, r2, r3, r4, r5, r6, r7, reduceCtorEq, Tryz.f3]
                refine seqN TryzT_eq rfl ?_
                obtain ⟨y_30, hy_30, h⟩ := bS h
                try simp only [↓DN, UP, r1, r2, r3, r4, r5, r6, r7, reduceCtorEq, Tryz.f3]
                refine cG [] (c_spec_NameOk hy_30) (hK := fun rd b => ?_)
                try simp only [↓DN, UP, r1, r2, r3, r4, r5, r6, r7, reduceCtorEq, Tryz.f3]
                refine stIf h (fun hb_31 h => ?_) (fun hb_31 h => ?_)
                · try simp only [↓DN, UP, r1, r2, r3, r4, r5, r6, r7, reduceCtorEq, Tryz.f3, hb_31]
                  obtain rfl := Option.some.inj h
                  refine endT_of ?_ ⟨rfl, rfl⟩
                  exact (wn [0] [])
                · try simp only [↓DN, UP, r1, r2, r3, r4, r5, r6, r7, reduceCtorEq, Tryz.f3, hb_31]
                  refine stIf h (fun hb_32 h => ?_) (fun hb_32 h => ?_)
                  · obtain ⟨y_33, hy_33, h⟩ := bS h
                    try simp only [↓DN, UP, r1, r2, r3, r4, r5, r6, r7, reduceCtorEq, Tryz.f3, hb_31, hb_32]
                    refine cG [] (c_laws_sameCells hy_33) (hK := fun rd b => ?_)
                    try simp only [↓DN, UP, r1, r2, r3, r4, r5, r6, r7, reduceCtorEq, Tryz.f3, hb_31, hb_32]
                    obtain rfl := Option.some.inj h
                    refine endT_of ?_ ⟨rfl, rfl⟩
                    exact (wn [0] [])
                  · try simp only [↓DN, UP, r1, r2, r3, r4, r5, r6, r7, reduceCtorEq, Tryz.f3, hb_31, hb_32]
                    obtain rfl := Option.some.inj h
                    refine endT_of ?_ ⟨rfl, rfl⟩
                    exact (wn [0] [])
end Go.Proofs.YthhoellakpnjpaaGreat
