import Derived.Test.YthhoellakpnjpaaCA
namespace Go.Proofs.Ythhoellakpnjpaa
open Go Go.Fm
open Nat renaming reduceEqDiff → r1, reduceLT → r2, reduceLeDiff → r3, reduceAdd → r4, reduceMul → r5, reduceSub → r6
open Int renaming reduceToNat → r7
set_option maxRecDepth 100000
set_option linter.unusedVariables false
set_option linter.unusedSimpArgs false
theorem c_impl_parseOne {cells_1 : List Int} {r : GItem} (h : g_impl_parseOne cells_1 = some r) : Ans Try.prog 85 [.one (.imm 1 cells_1.length (cells_1.flatMap (eI .u32)))] [] fun v h1 => v = .pv (.agg [.int .i64 r.Kind, .str r.Name, .int .i32 r.N, .bool r.Hex, .int .u32 r.Raw]) ∧ h1 = [] := by
  refine ansK (P := fun _ => Try.prog) TryT_eq (fn := Try.f85) Try.func85 rfl ⟨by kernel_rfl, rfl, rfl, by kernel_rfl⟩ (by simp) (Weak.refl _ _) ?_
  rw [g_impl_parseOne] at h
  obtain ⟨v_2, hv_2, h⟩ := bS h
  have f1 := (fAt (eI_ok .u32) hv_2 (n := cells_1.length) (by simp))
  try simp only [↓DN, UP, r1, r2, r3, r4, r5, r6, r7, reduceCtorEq, Try.f85, f1]
  refine ⟨rfl, ?_⟩
  try simp only [↓DN, UP, r1, r2, r3, r4, r5, r6, r7, reduceCtorEq, Try.f85, f1]
  obtain ⟨y_4, hy_5, h⟩ := bS h
  refine seqK TryT_eq (fun p : GItem => ⟨[(2, .pv (.one (.ptr 0 0))), (5, .pv (.one (.ptr 1 0)))], [.live ⟨1, 5, [.int .i64 0, .str [], .int .i32 0, .bool false, .int .u32 0]⟩, .live ⟨1, 5, [.int .i64 p.Kind, .str p.Name, .int .i32 p.N, .bool p.Hex, .int .u32 p.Raw]⟩]⟩) (fun v => y_4 = v) (by rfl) ?_ ?_
  · try simp only [↓DN, UP, r1, r2, r3, r4, r5, r6, r7, reduceCtorEq, Try.f85, f1]
    obtain ⟨y_7, hy_8, hy_5⟩ := bS hy_5
    refine seqK TryT_eq (fun p : Bool => ⟨[(0, .pv (.one (.imm 1 cells_1.length (cells_1.flatMap (eI .u32))))), (2, .pv (.one (.ptr 0 0))), (3, .pv (.one (.int .u32 v_2))), (4, .pv (.one (.int .u32 (andI .u32 v_2 15)))), (5, .pv (.one (.ptr 1 0))), (21, .pv (.one (.int .u32 (andI .u32 v_2 15)))), (22, .pv (.one (.bool p)))], [.live ⟨1, 5, [.int .i64 0, .str [], .int .i32 0, .bool false, .int .u32 0]⟩, .live ⟨1, 5, [.int .i64 0, .str [], .int .i32 0, .bool false, .int .u32 v_2]⟩]⟩) (fun v => y_7 = v) (by rfl) ?_ ?_
    · try simp only [↓DN, UP, r1, r2, r3, r4, r5, r6, r7, reduceCtorEq, Try.f85, f1]
      refine stIf hy_8 (fun hb_9 hy_8 => ?_) (fun hb_9 hy_8 => ?_)
      · try simp only [↓DN, UP, r1, r2, r3, r4, r5, r6, r7, reduceCtorEq, Try.f85, f1]
        obtain rfl := Option.some.inj hy_8
        exact cutT_mk ((andI .u32 v_2 15) == 1) rfl (wn [0, 2, 3, 4, 5, 21, 22] [0, 1])
      · try simp only [↓DN, UP, r1, r2, r3, r4, r5, r6, r7, reduceCtorEq, Try.f85, f1]
        refine stIf hy_8 (fun hb_10 hy_8 => ?_) (fun hb_10 hy_8 => ?_)
        · try simp only [↓DN, UP, r1, r2, r3, r4, r5, r6, r7, reduceCtorEq, Try.f85, f1]
          obtain rfl := Option.some.inj hy_8
          exact cutT_mk ((andI .u32 v_2 15) == 3) rfl (wn [0, 2, 3, 4, 5, 21, 22] [0, 1])
        · try simp only [↓DN, UP, r1, r2, r3, r4, r5, r6, r7, reduceCtorEq, Try.f85, f1]
          refine stIf hy_8 (fun hb_11 hy_8 => ?_) (fun hb_11 hy_8 => ?_)
          · try simp only [↓DN, UP, r1, r2, r3, r4, r5, r6, r7, reduceCtorEq, Try.f85, f1]
            obtain rfl := Option.some.inj hy_8
            exact cutT_mk ((andI .u32 v_2 15) == 4) rfl (wn [0, 2, 3, 4, 5, 21, 22] [0, 1])
          · try simp only [↓DN, UP, r1, r2, r3, r4, r5, r6, r7, reduceCtorEq, Try.f85, f1]
            refine stIf hy_8 (fun hb_12 hy_8 => ?_) (fun hb_12 hy_8 => ?_)
            · try simp only [↓DN, UP, r1, r2, r3, r4, r5, r6, r7, reduceCtorEq, Try.f85, f1]
              obtain rfl := Option.some.inj hy_8
              exact cutT_mk ((andI .u32 v_2 15) == 9) rfl (wn [0, 2, 3, 4, 5, 21, 22] [0, 1])
            · try simp only [↓DN, UP, r1, r2, r3, r4, r5, r6, r7, reduceCtorEq, Try.f85, f1]
              refine stIf hy_8 (fun hb_13 hy_8 => ?_) (fun hb_13 hy_8 => ?_)
              · try simp only [↓DN, UP, r1, r2, r3, r4, r5, r6, r7, reduceCtorEq, Try.f85, f1]
                obtain rfl := Option.some.inj hy_8
                exact cutT_mk ((andI .u32 v_2 15) == 10) rfl (wn [0, 2, 3, 4, 5, 21, 22] [0, 1])
              · try simp only [↓DN, UP, r1, r2, r3, r4, r5, r6, r7, reduceCtorEq, Try.f85, f1]
                obtain rfl := Option.some.inj hy_8
                exact cutT_mk ((andI .u32 v_2 15) == 11) rfl (wn [0, 2, 3, 4, 5, 21, 22] [0, 1])
    · rintro v_6 hp
      replace hp := hp.symm; subst hp
      try dsimp only at hy_5
      try simp only [↓DN, UP, r1, r2, r3, r4, r5, r6, r7, reduceCtorEq, Try.f85]
      refine stIf hy_5 (fun hb_14 hy_5 => ?_) (fun hb_14 hy_5 => ?_)
      · have f2 := (shrI_lit (k := .u32) (a := v_2) (b := 4) (m := 16) (by decide) (by decide))
        have f3 := (show bldN 1 = 1 from rfl)
        have f4 := (show bldC [.int .u32 (v_2 / 16)] = [v_2 / 16].flatMap (eI .u32) from rfl)
        try simp only [↓DN, UP, r1, r2, r3, r4, r5, r6, r7, reduceCtorEq, Try.f85, f2, f3, f4]
        obtain ⟨y_16, hy_17, hy_5⟩ := bS hy_5
        refine seqK TryT_eq (fun p : (List Int) => ⟨[(2, .pv (.one (.ptr 0 0))), (4, .pv (.one (.int .u32 (andI .u32 v_2 15)))), (5, .pv (.one (.ptr 1 0))), (6, .pv (.one (.arr 2 0 p.length)))], [.live ⟨1, 5, [.int .i64 0, .str [], .int .i32 0, .bool false, .int .u32 0]⟩, .live ⟨1, 5, [.int .i64 0, .str [], .int .i32 0, .bool false, .int .u32 v_2]⟩, .live ⟨1, p.length, p.flatMap (eI .u32)⟩]⟩) (fun v => y_16 = v) (by rfl) ?_ ?_
        · obtain ⟨v_18, hv_18, hy_17⟩ := bS hy_17
          have f5 := (fSubC (eI_ok .u32) hv_18 (n := cells_1.length) (by simp))
          try simp only [↓DN, UP, r1, r2, r3, r4, r5, r6, r7, reduceCtorEq, Try.f85, f2, f3, f4, f5]
          obtain ⟨y_22, hy_23, hy_17⟩ := bS hy_17
          refine loopK TryT_eq (fun p : (List Int) × Int => ⟨[(2, .pv (.one (.ptr 0 0))), (4, .pv (.one (.int .u32 (andI .u32 v_2 15)))), (5, .pv (.one (.ptr 1 0))), (6, .pv (.one (.arr 2 0 p.1.length))), (33, .pv (.one (.imm 1 v_18.length (v_18.flatMap (eI .u32))))), (34, .pv (.one (.int .i64 (v_18.length : Int)))), (35, .pv (.one (.int .i64 p.2)))], [.live ⟨1, 5, [.int .i64 0, .str [], .int .i32 0, .bool false, .int .u32 0]⟩, .live ⟨1, 5, [.int .i64 0, .str [], .int .i32 0, .bool false, .int .u32 v_2]⟩, .live ⟨1, p.1.length, p.1.flatMap (eI .u32)⟩]⟩) (fun k p => g_impl_parseOne_l0 v_18 k p.1 p.2 = some y_22) (by kernel_rfl) bigK ([v_2 / 16], 0) (weak_norm (ks := [2, 4, 5, 6, 33, 34, 35]) (π := [0, 1, 2]) (fuel := 9) (by simp only [WL, r1, r2, r3, r4, r5, r6, r7, reduceCtorEq, fWin (eI_ok .u32) (n := 1) (xs := [v_2 / 16]) (by simp)])) hy_23 (fun _ h => nomatch (show none = some _ from h)) ?_
          rintro k_24 ⟨fields_19, v_20⟩ hk_25
          rw [g_impl_parseOne_l0] at hk_25
          try dsimp only at hk_25
          try simp only [↓DN, UP, r1, r2, r3, r4, r5, r6, r7, reduceCtorEq, Try.f85]
          refine seqN TryT_eq rfl ?_
          try simp only [↓DN, UP, r1, r2, r3, r4, r5, r6, r7, reduceCtorEq, Try.f85]
          refine stIf hk_25 (fun hb_26 hk_25 => ?_) (fun hb_26 hk_25 => ?_)
          · try simp only [↓DN, UP, r1, r2, r3, r4, r5, r6, r7, reduceCtorEq, Try.f85]
            refine seqN TryT_eq rfl ?_
            obtain ⟨v_27, hv_27, hk_25⟩ := bS hk_25
            have f6 := (fAt (eI_ok .u32) hv_27 (n := v_18.length) (by simp))
            try simp only [↓DN, UP, r1, r2, r3, r4, r5, r6, r7, reduceCtorEq, Try.f85, f6]
            refine seqN TryT_eq rfl ?_
            try simp only [↓DN, UP, r1, r2, r3, r4, r5, r6, r7, reduceCtorEq, Try.f85, f6]
            obtain ⟨y_29, hy_30, hk_25⟩ := bS hk_25
            refine seqK TryT_eq (fun p : Bool => ⟨[(2, .pv (.one (.ptr 0 0))), (4, .pv (.one (.int .u32 (andI .u32 v_2 15)))), (5, .pv (.one (.ptr 1 0))), (6, .pv (.one (.arr 2 0 fields_19.length))), (8, .pv (.one (.int .u32 v_27))), (33, .pv (.one (.imm 1 v_18.length (v_18.flatMap (eI .u32))))), (34, .pv (.one (.int .i64 (v_18.length : Int)))), (35, .pv (.one (.int .i64 v_20))), (45, .pv (.one (.bool p)))], [.live ⟨1, 5, [.int .i64 0, .str [], .int .i32 0, .bool false, .int .u32 0]⟩, .live ⟨1, 5, [.int .i64 0, .str [], .int .i32 0, .bool false, .int .u32 v_2]⟩, .live ⟨1, fields_19.length, fields_19.flatMap (eI .u32)⟩]⟩) (fun v => y_29 = v) (by rfl) ?_ ?_
            · try simp only [↓DN, UP, r1, r2, r3, r4, r5, r6, r7, reduceCtorEq, Try.f85, f6]
              refine stIf hy_30 (fun hb_31 hy_30 => ?_) (fun hb_31 hy_30 => ?_)
              · try simp only [↓DN, UP, r1, r2, r3, r4, r5, r6, r7, reduceCtorEq, Try.f85, f6, hb_31]
                obtain rfl := Option.some.inj hy_30
                exact cutT_mk true rfl (wn [2, 4, 5, 6, 8, 33, 34, 35, 45] [0, 1, 2])
              · try simp only [↓DN, UP, r1, r2, r3, r4, r5, r6, r7, reduceCtorEq, Try.f85, f6, hb_31]
                obtain rfl := Option.some.inj hy_30
                exact cutT_mk ((andI .u32 v_27 15) != 0) rfl (wn [2, 4, 5, 6, 8, 33, 34, 35, 45] [0, 1, 2])
            · rintro v_28 hp
              replace hp := hp.symm; subst hp
              try dsimp only at hk_25
              try simp only [↓DN, UP, r1, r2, r3, r4, r5, r6, r7, reduceCtorEq, Try.f85]
              refine stIf hk_25 (fun hb_32 hk_25 => ?_) (fun hb_32 hk_25 => ?_)
              · obtain rfl := Option.some.inj hk_25
                try dsimp only at hy_17
                try simp only [↓DN, UP, r1, r2, r3, r4, r5, r6, r7, reduceCtorEq, Try.f85]
                obtain rfl := Option.some.inj hy_17
                exact cutT_mk fields_19 rfl (wn [2, 4, 5, 6] [0, 1, 2])
              · obtain ⟨v_33, hv_33, hk_25⟩ := bS hk_25
                have f7 := (shrI_lit (k := .u32) (a := v_27) (b := 4) (m := 16) (by decide) (by decide))
                have f8 := (show bldN 1 = 1 from rfl)
                have f9 := (show bldC [.int .u32 (v_27 / 16)] = [v_27 / 16].flatMap (eI .u32) from rfl)
                have f10 := (fWin (eI_ok .u32) (n := 1) (xs := [v_27 / 16]) (by simp))
                have f11 := (fApp hv_33 (n := fields_19.length) (by simp) (m := 1) (by simp [bsOf]))
                have f12 := (fWin (eI_ok .u32) (n := fields_19.length) (xs := fields_19) (by simp))
                have f13 := (fCat (e := (eI .u32)) (ns := [v_27 / 16].flatMap (eI .u32)) hv_33 rfl)
                try simp only [↓DN, UP, r1, r2, r3, r4, r5, r6, r7, reduceCtorEq, Try.f85, f7, f8, f9, f10, f11, f12, f13]
                exact ⟨(v_33, IntKind.wrap .i64 (v_20 + 1)), hk_25, (wn [2, 4, 5, 6, 33, 34, 35] [0, 1, 4])⟩
          · obtain rfl := Option.some.inj hk_25
            try dsimp only at hy_17
            try simp only [↓DN, UP, r1, r2, r3, r4, r5, r6, r7, reduceCtorEq, Try.f85]
            obtain rfl := Option.some.inj hy_17
            exact cutT_mk fields_19 rfl (wn [2, 4, 5, 6] [0, 1, 2])
        · rintro fields_15 hp
          replace hp := hp.symm; subst hp
          try dsimp only at hy_5
          obtain ⟨y_34, hy_34, hy_5⟩ := bS hy_5
          try simp only [↓DN, UP, r1, r2, r3, r4, r5, r6, r7, reduceCtorEq, Try.f85]
          refine cG [] (c_impl_Unpack hy_34) (hK := fun rd b => ?_)
          try simp only [↓DN, UP, r1, r2, r3, r4, r5, r6, r7, reduceCtorEq, Try.f85]
          refine stIf hy_5 (fun hb_35 hy_5 => ?_) (fun hb_35 hy_5 => ?_)
          · obtain ⟨y_36, hy_36, hy_5⟩ := bS hy_5
            try simp only [↓DN, UP, r1, r2, r3, r4, r5, r6, r7, reduceCtorEq, Try.f85]
            refine cG [] (c_impl_nameKind hy_36) (hK := fun rd b => ?_)
            try simp only [↓DN, UP, r1, r2, r3, r4, r5, r6, r7, reduceCtorEq, Try.f85]
            obtain rfl := Option.some.inj hy_5
            exact cutT_mk (⟨y_36, y_34.1, 0, false, 0⟩ : GItem) rfl (wn [2, 5] [0, 1])
          · try simp only [↓DN, UP, r1, r2, r3, r4, r5, r6, r7, reduceCtorEq, Try.f85]
            obtain rfl := Option.some.inj hy_5
            exact cutT_mk (⟨0, [], 0, false, v_2⟩ : GItem) rfl (wn [2, 5] [0, 1])
      · try simp only [↓DN, UP, r1, r2, r3, r4, r5, r6, r7, reduceCtorEq, Try.f85]
        refine stIf hy_5 (fun hb_37 hy_5 => ?_) (fun hb_37 hy_5 => ?_)
        · have f14 := (shrI_lit (k := .i32) (a := IntKind.wrap .i32 v_2) (b := 5) (m := 32) (by decide) (by decide))
          try simp only [↓DN, UP, r1, r2, r3, r4, r5, r6, r7, reduceCtorEq, Try.f85, f14]
          obtain rfl := Option.some.inj hy_5
          exact cutT_mk (⟨7, [], (IntKind.wrap .i32 v_2) / 32, ((andI .u32 v_2 16) != 0), 0⟩ : GItem) rfl (wn [2, 5] [0, 1])
        · try simp only [↓DN, UP, r1, r2, r3, r4, r5, r6, r7, reduceCtorEq, Try.f85]
          refine stIf hy_5 (fun hb_38 hy_5 => ?_) (fun hb_38 hy_5 => ?_)
          · have f15 := (shrI_lit (k := .i32) (a := IntKind.wrap .i32 v_2) (b := 5) (m := 32) (by decide) (by decide))
            try simp only [↓DN, UP, r1, r2, r3, r4, r5, r6, r7, reduceCtorEq, Try.f85, f15]
            obtain rfl := Option.some.inj hy_5
            exact cutT_mk (⟨8, [], (IntKind.wrap .i32 v_2) / 32, ((andI .u32 v_2 16) != 0), 0⟩ : GItem) rfl (wn [2, 5] [0, 1])
          · try simp only [↓DN, UP, r1, r2, r3, r4, r5, r6, r7, reduceCtorEq, Try.f85]
            obtain ⟨y_40, hy_41, hy_5⟩ := bS hy_5
            refine seqK TryT_eq (fun p : Bool => ⟨[(0, .pv (.one (.imm 1 cells_1.length (cells_1.flatMap (eI .u32))))), (2, .pv (.one (.ptr 0 0))), (3, .pv (.one (.int .u32 v_2))), (4, .pv (.one (.int .u32 (andI .u32 v_2 15)))), (5, .pv (.one (.ptr 1 0))), (21, .pv (.one (.int .u32 (andI .u32 v_2 15)))), (80, .pv (.one (.bool p)))], [.live ⟨1, 5, [.int .i64 0, .str [], .int .i32 0, .bool false, .int .u32 0]⟩, .live ⟨1, 5, [.int .i64 0, .str [], .int .i32 0, .bool false, .int .u32 v_2]⟩]⟩) (fun v => y_40 = v) (by rfl) ?_ ?_
            · try simp only [↓DN, UP, r1, r2, r3, r4, r5, r6, r7, reduceCtorEq, Try.f85]
              refine stIf hy_41 (fun hb_42 hy_41 => ?_) (fun hb_42 hy_41 => ?_)
              · try simp only [↓DN, UP, r1, r2, r3, r4, r5, r6, r7, reduceCtorEq, Try.f85]
                obtain rfl := Option.some.inj hy_41
                exact cutT_mk ((andI .u32 v_2 15) == 2) rfl (wn [0, 2, 3, 4, 5, 21, 80] [0, 1])
              · try simp only [↓DN, UP, r1, r2, r3, r4, r5, r6, r7, reduceCtorEq, Try.f85]
                obtain rfl := Option.some.inj hy_41
                exact cutT_mk ((andI .u32 v_2 15) == 5) rfl (wn [0, 2, 3, 4, 5, 21, 80] [0, 1])
            · rintro v_39 hp
              replace hp := hp.symm; subst hp
              try dsimp only at hy_5
              try simp only [↓DN, UP, r1, r2, r3, r4, r5, r6, r7, reduceCtorEq, Try.f85]
              refine stIf hy_5 (fun hb_43 hy_5 => ?_) (fun hb_43 hy_5 => ?_)
              · try simp only [↓DN, UP, r1, r2, r3, r4, r5, r6, r7, reduceCtorEq, Try.f85]
                refine seqN TryT_eq rfl ?_
                try simp only [↓DN, UP, r1, r2, r3, r4, r5, r6, r7, reduceCtorEq, Try.f85]
                refine stIf hy_5 (fun hb_44 hy_5 => ?_) (fun hb_44 hy_5 => ?_)
                · try simp only [↓DN, UP, r1, r2, r3, r4, r5, r6, r7, reduceCtorEq, Try.f85]
                  obtain rfl := Option.some.inj hy_5
                  exact cutT_mk (⟨0, [], 0, false, v_2⟩ : GItem) rfl (wn [2, 5] [0, 1])
                · obtain ⟨v_45, hv_45, hy_5⟩ := bS hy_5
                  have f16 := (fAt (eI_ok .u32) hv_45 (n := cells_1.length) (by simp))
                  try simp only [↓DN, UP, r1, r2, r3, r4, r5, r6, r7, reduceCtorEq, Try.f85, f16]
                  obtain ⟨y_47, hy_48, hy_5⟩ := bS hy_5
                  refine seqK TryT_eq (fun p : GItem => ⟨[(0, .pv (.one (.imm 1 cells_1.length (cells_1.flatMap (eI .u32))))), (2, .pv (.one (.ptr 0 0))), (5, .pv (.one (.ptr 1 0))), (11, .pv (.one (.ptr 2 0)))], [.live ⟨1, 5, [.int .i64 0, .str [], .int .i32 0, .bool false, .int .u32 0]⟩, .live ⟨1, 5, [.int .i64 0, .str [], .int .i32 0, .bool false, .int .u32 v_2]⟩, .live ⟨1, 5, [.int .i64 p.Kind, .str p.Name, .int .i32 p.N, .bool p.Hex, .int .u32 p.Raw]⟩]⟩) (fun v => y_47 = v) (by rfl) ?_ ?_
                  · try simp only [↓DN, UP, r1, r2, r3, r4, r5, r6, r7, reduceCtorEq, Try.f85, f16]
                    refine stIf hy_48 (fun hb_49 hy_48 => ?_) (fun hb_49 hy_48 => ?_)
                    · try simp only [↓DN, UP, r1, r2, r3, r4, r5, r6, r7, reduceCtorEq, Try.f85, f16]
                      obtain rfl := Option.some.inj hy_48
                      exact cutT_mk (⟨8, [], IntKind.wrap .i32 v_45, ((andI .u32 v_2 16) != 0), 0⟩ : GItem) rfl (wn [0, 2, 5, 11] [0, 1, 2])
                    · try simp only [↓DN, UP, r1, r2, r3, r4, r5, r6, r7, reduceCtorEq, Try.f85, f16]
                      obtain rfl := Option.some.inj hy_48
                      exact cutT_mk (⟨7, [], IntKind.wrap .i32 v_45, ((andI .u32 v_2 16) != 0), 0⟩ : GItem) rfl (wn [0, 2, 5, 11] [0, 1, 2])
                  · rintro long_46 hp
                    replace hp := hp.symm; subst hp
                    try dsimp only at hy_5
                    obtain ⟨y_50, hy_50, hy_5⟩ := bS hy_5
                    try simp only [↓DN, UP, r1, r2, r3, r4, r5, r6, r7, reduceCtorEq, Try.f85]
                    refine callE [] (rd1 := []) (rd2 := []) 9 rfl (by simp only [WL, r1, r2, r3, r4, r5, r6, r7, reduceCtorEq]) (by simp only [WL, r1, r2, r3, r4, r5, r6, r7, reduceCtorEq]) rfl (c_impl_CellsOf hy_50) (by simp only [WL, r1, r2, r3, r4, r5, r6, r7, reduceCtorEq]) ?_
                    obtain ⟨v_51, hv_51, hy_5⟩ := bS hy_5
                    obtain ⟨y_52, hy_52, hy_5⟩ := bS hy_5
                    have f17 := (fSubC (eI_ok .u32) hv_51 (n := cells_1.length) (by simp))
                    try simp only [↓DN, UP, r1, r2, r3, r4, r5, r6, r7, reduceCtorEq, Try.f85, f17]
                    refine callE [] (rd1 := [3]) (rd2 := []) 9 rfl (by simp only [WL, r1, r2, r3, r4, r5, r6, r7, reduceCtorEq]) (by simp only [WL, r1, r2, r3, r4, r5, r6, r7, reduceCtorEq]) rfl (c_slices_Equal_uint32 hy_52) (by simp only [WL, r1, r2, r3, r4, r5, r6, r7, reduceCtorEq]) ?_
                    try simp only [↓DN, UP, r1, r2, r3, r4, r5, r6, r7, reduceCtorEq, Try.f85, f17]
                    refine ⟨rfl, ?_⟩
                    try simp only [↓DN, UP, r1, r2, r3, r4, r5, r6, r7, reduceCtorEq, Try.f85, f17]
                    refine stIf hy_5 (fun hb_53 hy_5 => ?_) (fun hb_53 hy_5 => ?_)
                    · try simp only [↓DN, UP, r1, r2, r3, r4, r5, r6, r7, reduceCtorEq, Try.f85, f17]
                      obtain rfl := Option.some.inj hy_5
                      exact cutT_mk long_46 rfl (wn [2, 5] [0, 1])
                    · try simp only [↓DN, UP, r1, r2, r3, r4, r5, r6, r7, reduceCtorEq, Try.f85, f17]
                      obtain rfl := Option.some.inj hy_5
                      exact cutT_mk (⟨0, [], 0, false, v_2⟩ : GItem) rfl (wn [2, 5] [0, 1])
              · try simp only [↓DN, UP, r1, r2, r3, r4, r5, r6, r7, reduceCtorEq, Try.f85]
                refine stIf hy_5 (fun hb_54 hy_5 => ?_) (fun hb_54 hy_5 => ?_)
                · try simp only [↓DN, UP, r1, r2, r3, r4, r5, r6, r7, reduceCtorEq, Try.f85]
                  obtain ⟨y_56, hy_57, hy_5⟩ := bS hy_5
                  refine seqK TryT_eq (fun p : Bool => ⟨[(0, .pv (.one (.imm 1 cells_1.length (cells_1.flatMap (eI .u32))))), (2, .pv (.one (.ptr 0 0))), (3, .pv (.one (.int .u32 v_2))), (5, .pv (.one (.ptr 1 0))), (112, .pv (.one (.bool p)))], [.live ⟨1, 5, [.int .i64 0, .str [], .int .i32 0, .bool false, .int .u32 0]⟩, .live ⟨1, 5, [.int .i64 0, .str [], .int .i32 0, .bool false, .int .u32 v_2]⟩]⟩) (fun v => y_56 = v) (by rfl) ?_ ?_
                  · try simp only [↓DN, UP, r1, r2, r3, r4, r5, r6, r7, reduceCtorEq, Try.f85]
                    refine stIf hy_57 (fun hb_58 hy_57 => ?_) (fun hb_58 hy_57 => ?_)
                    · obtain ⟨y_59, hy_59, hy_57⟩ := bS hy_57
                      have f18 := (shrI_lit (k := .u32) (a := v_2) (b := 4) (m := 16) (by decide) (by decide))
                      try simp only [↓DN, UP, r1, r2, r3, r4, r5, r6, r7, reduceCtorEq, Try.f85, hb_58, f18]
                      refine cG [] (c_impl_FieldOk hy_59) (hK := fun rd b => ?_)
                      try simp only [↓DN, UP, r1, r2, r3, r4, r5, r6, r7, reduceCtorEq, Try.f85, hb_58, f18]
                      obtain rfl := Option.some.inj hy_57
                      exact cutT_mk y_59 rfl (wn [0, 2, 3, 5, 112] [0, 1])
                    · try simp only [↓DN, UP, r1, r2, r3, r4, r5, r6, r7, reduceCtorEq, Try.f85, hb_58]
                      obtain rfl := Option.some.inj hy_57
                      exact cutT_mk false rfl (wn [0, 2, 3, 5, 112] [0, 1])
                  · rintro v_55 hp
                    replace hp := hp.symm; subst hp
                    try dsimp only at hy_5
                    try simp only [↓DN, UP, r1, r2, r3, r4, r5, r6, r7, reduceCtorEq, Try.f85]
                    refine stIf hy_5 (fun hb_60 hy_5 => ?_) (fun hb_60 hy_5 => ?_)
                    · obtain ⟨y_61, hy_61, hy_5⟩ := bS hy_5
                      have f19 := (shrI_lit (k := .u32) (a := v_2) (b := 4) (m := 16) (by decide) (by decide))
                      try simp only [↓DN, UP, r1, r2, r3, r4, r5, r6, r7, reduceCtorEq, Try.f85, f19]
                      refine callE [] (rd1 := []) (rd2 := []) 9 rfl (by simp only [WL, r1, r2, r3, r4, r5, r6, r7, reduceCtorEq]) (by simp only [WL, r1, r2, r3, r4, r5, r6, r7, reduceCtorEq]) rfl (c_impl_UnpackOne hy_61) (by simp only [WL, r1, r2, r3, r4, r5, r6, r7, reduceCtorEq]) ?_
                      obtain ⟨v_62, hv_62, hy_5⟩ := bS hy_5
                      have f20 := (fAt (eI_ok .u32) hv_62 (n := cells_1.length) (by simp))
                      try simp only [↓DN, UP, r1, r2, r3, r4, r5, r6, r7, reduceCtorEq, Try.f85, f19, f20]
                      refine ⟨rfl, ?_⟩
                      try simp only [↓DN, UP, r1, r2, r3, r4, r5, r6, r7, reduceCtorEq, Try.f85, f19, f20]
                      obtain rfl := Option.some.inj hy_5
                      exact cutT_mk (⟨9, y_61, IntKind.wrap .i32 v_62, false, 0⟩ : GItem) rfl (wn [2, 5] [0, 1])
                    · try simp only [↓DN, UP, r1, r2, r3, r4, r5, r6, r7, reduceCtorEq, Try.f85]
                      obtain rfl := Option.some.inj hy_5
                      exact cutT_mk (⟨0, [], 0, false, v_2⟩ : GItem) rfl (wn [2, 5] [0, 1])
                · try simp only [↓DN, UP, r1, r2, r3, r4, r5, r6, r7, reduceCtorEq, Try.f85]
                  obtain rfl := Option.some.inj hy_5
                  exact cutT_mk (⟨0, [], 0, false, v_2⟩ : GItem) rfl (wn [2, 5] [0, 1])
  · rintro it_3 hp
    replace hp := hp.symm; subst hp
    try dsimp only at h
    try simp only [↓DN, UP, r1, r2, r3, r4, r5, r6, r7, reduceCtorEq, Try.f85]
    obtain rfl := Option.some.inj h
    refine endT_of ?_ ⟨rfl, rfl⟩
    exact (wn [0] [])
theorem c_impl_ParseCells {cells_1 : List Int} {r : (List GItem)} (h : g_impl_ParseCells cells_1 = some r) : Ans Try.prog 61 [.one (.imm 1 cells_1.length (cells_1.flatMap (eI .u32)))] [] fun v h1 => v = .pv (.one (.arr 0 0 r.length)) ∧ h1 = [.live ⟨5, r.length, r.flatMap GItem.cs⟩] := by
  refine ansK (P := fun _ => Try.prog) TryT_eq (fn := Try.f61) Try.func61 rfl ⟨by kernel_rfl, rfl, rfl, by kernel_rfl⟩ (by simp) (Weak.refl _ _) ?_
  rw [g_impl_ParseCells] at h
  try simp only [↓DN, UP, r1, r2, r3, r4, r5, r6, r7, reduceCtorEq, Try.f61]
  refine seqN TryT_eq rfl ?_
  try simp only [↓DN, UP, r1, r2, r3, r4, r5, r6, r7, reduceCtorEq, Try.f61]
  refine stIf h (fun hb_2 h => ?_) (fun hb_2 h => ?_)
  · try simp only [↓DN, UP, r1, r2, r3, r4, r5, r6, r7, reduceCtorEq, Try.f61]
    obtain rfl := Option.some.inj h
    refine endT_of ?_ ⟨rfl, rfl⟩
    exact ((weak_norm (ks := [0]) (π := []) (fuel := 9) (s' := ⟨[(0, .pv (.one (.emp)))], []⟩) (by simp only [WL, r1, r2, r3, r4, r5, r6, r7, reduceCtorEq])).trans (weak_le (by simp only [LEb, r1, r2, r3, r4, r5, r6, r7, reduceCtorEq, TL]) (by simp only [LEb, r1, r2, r3, r4, r5, r6, r7, reduceCtorEq, TL])))
  · have f1 := (show bldN 0 = 0 from rfl)
    have f2 := (show bldC [] = ([] : List GItem).flatMap GItem.cs from rfl)
    try simp only [↓DN, UP, r1, r2, r3, r4, r5, r6, r7, reduceCtorEq, Try.f61, f1, f2]
    obtain ⟨y_6, hy_7, h⟩ := bS h
    refine seqK TryT_eq (fun p : (List GItem) => ⟨[(3, .pv (.one (.arr 0 0 p.length)))], [.live ⟨5, p.length, p.flatMap GItem.cs⟩]⟩) (fun v => y_6 = v) (by rfl) ?_ ?_
    · try simp only [↓DN, UP, r1, r2, r3, r4, r5, r6, r7, reduceCtorEq, Try.f61, f1, f2]
      refine loopK TryT_eq (fun p : (List Int) × (List GItem) => ⟨[(0, .pv (.one (.imm 1 p.1.length (p.1.flatMap (eI .u32))))), (3, .pv (.one (.arr 0 0 p.2.length)))], [.live ⟨5, p.2.length, p.2.flatMap GItem.cs⟩]⟩) (fun k p => g_impl_ParseCells_l0 k p.1 p.2 = some y_6) (by kernel_rfl) bigK (cells_1, ([] : List GItem)) (weak_norm (ks := [0, 3]) (π := [0]) (fuel := 9) (by simp only [WL, r1, r2, r3, r4, r5, r6, r7, reduceCtorEq, fWin GItem.ok (n := 0) (xs := ([] : List GItem)) (by simp)])) hy_7 (fun _ h => nomatch (show none = some _ from h)) ?_
      rintro k_8 ⟨cells_3, out_4⟩ hk_9
      rw [g_impl_ParseCells_l0] at hk_9
      try dsimp only at hk_9
      try simp only [↓DN, UP, r1, r2, r3, r4, r5, r6, r7, reduceCtorEq, Try.f61]
      refine seqN TryT_eq rfl ?_
      try simp only [↓DN, UP, r1, r2, r3, r4, r5, r6, r7, reduceCtorEq, Try.f61]
      refine stIf hk_9 (fun hb_10 hk_9 => ?_) (fun hb_10 hk_9 => ?_)
      · obtain ⟨y_11, hy_11, hk_9⟩ := bS hk_9
        try simp only [↓DN, UP, r1, r2, r3, r4, r5, r6, r7, reduceCtorEq, Try.f61]
        refine cG [] (c_impl_parseOne hy_11) (hK := fun rd b => ?_)
        obtain ⟨v_12, hv_12, hk_9⟩ := bS hk_9
        obtain ⟨y_13, hy_13, hk_9⟩ := bS hk_9
        have f3 := (show bldN 1 = 1 from rfl)
        have f4 := (show bldC [.int .i64 y_11.Kind, .str y_11.Name, .int .i32 y_11.N, .bool y_11.Hex, .int .u32 y_11.Raw] = [y_11].flatMap GItem.cs from rfl)
        have f5 := (fWin GItem.ok (n := 1) (xs := [y_11]) (by simp))
        have f6 := (fApp hv_12 (n := out_4.length) (by simp) (m := 1) (by simp [bsOf]))
        have f7 := (fWin GItem.ok (n := out_4.length) (xs := out_4) (by simp))
        have f8 := (fCat (e := GItem.cs) (ns := [y_11].flatMap GItem.cs) hv_12 rfl)
        try simp only [↓DN, UP, r1, r2, r3, r4, r5, r6, r7, reduceCtorEq, Try.f61, f3, f4, f5, f6, f7, f8]
        refine cG [] (c_impl_CellsOf hy_13) (hK := fun rd b => ?_)
        obtain ⟨v_14, hv_14, hk_9⟩ := bS hk_9
        have f9 := (fSubC (eI_ok .u32) hv_14 (n := cells_3.length) (by simp))
        try simp only [↓DN, UP, r1, r2, r3, r4, r5, r6, r7, reduceCtorEq, Try.f61, f3, f4, f5, f6, f7, f8, f9]
        exact ⟨(v_14, v_12), hk_9, (wn [0, 3] [3])⟩
      · try simp only [↓DN, UP, r1, r2, r3, r4, r5, r6, r7, reduceCtorEq, Try.f61]
        obtain rfl := Option.some.inj hk_9
        exact cutT_mk out_4 rfl (wn [3] [0])
    · rintro out_5 hp
      replace hp := hp.symm; subst hp
      try dsimp only at h
      try simp only [↓DN, UP, r1, r2, r3, r4, r5, r6, r7, reduceCtorEq, Try.f61]
      obtain ⟨y_16, hy_17, h⟩ := bS h
      refine seqK TryT_eq (fun p : (List GItem) => ⟨[(3, .pv (.one (.arr 0 0 p.length)))], [.live ⟨5, p.length, p.flatMap GItem.cs⟩]⟩) (fun v => y_16 = v) (by rfl) ?_ ?_
      · try simp only [↓DN, UP, r1, r2, r3, r4, r5, r6, r7, reduceCtorEq, Try.f61]
        obtain ⟨y_21, hy_22, hy_17⟩ := bS hy_17
        refine loopK TryT_eq (fun p : (List GItem) × Int => ⟨[(3, .pv (.one (.arr 0 0 p.1.length))), (5, .pv (.one (.int .i64 p.2)))], [.live ⟨5, p.1.length, p.1.flatMap GItem.cs⟩]⟩) (fun k p => g_impl_ParseCells_l1 k p.1 p.2 = some y_21) (by kernel_rfl) bigK (out_5, IntKind.wrap .i64 ((out_5.length : Int) - 1)) (wn [3, 5] [0]) hy_22 (fun _ h => nomatch (show none = some _ from h)) ?_
        rintro k_23 ⟨out_18, n_19⟩ hk_24
        rw [g_impl_ParseCells_l1] at hk_24
        try dsimp only at hk_24
        try simp only [↓DN, UP, r1, r2, r3, r4, r5, r6, r7, reduceCtorEq, Try.f61]
        refine seqN TryT_eq rfl ?_
        try simp only [↓DN, UP, r1, r2, r3, r4, r5, r6, r7, reduceCtorEq, Try.f61]
        obtain ⟨y_26, hy_27, hk_24⟩ := bS hk_24
        refine seqK TryT_eq (fun p : Bool => ⟨[(3, .pv (.one (.arr 0 0 out_18.length))), (5, .pv (.one (.int .i64 n_19))), (36, .pv (.one (.bool p)))], [.live ⟨5, out_18.length, out_18.flatMap GItem.cs⟩]⟩) (fun v => y_26 = v) (by rfl) ?_ ?_
        · try simp only [↓DN, UP, r1, r2, r3, r4, r5, r6, r7, reduceCtorEq, Try.f61]
          refine stIf hy_27 (fun hb_28 hy_27 => ?_) (fun hb_28 hy_27 => ?_)
          · obtain ⟨v_29, hv_29, hy_27⟩ := bS hy_27
            have f10 := (fPtr hv_29 (k := 5) (n := out_18.length) (by simp))
            have f11 := (fGet0 GItem.ok hv_29 (m := 5) (by decide) (by decide))
            try simp only [↓DN, UP, r1, r2, r3, r4, r5, r6, r7, reduceCtorEq, Try.f61, hb_28, f10, f11]
            obtain rfl := Option.some.inj hy_27
            exact cutT_mk ((v_29.Kind : Int) == 0 && ((v_29.Name : Bs) == [] && ((v_29.N : Int) == 0 && ((v_29.Hex : Bool) == false && ((v_29.Raw : Int) == 0 && true))))) rfl (wn [3, 5, 36] [0])
          · try simp only [↓DN, UP, r1, r2, r3, r4, r5, r6, r7, reduceCtorEq, Try.f61, hb_28]
            obtain rfl := Option.some.inj hy_27
            exact cutT_mk false rfl (wn [3, 5, 36] [0])
        · rintro v_25 hp
          replace hp := hp.symm; subst hp
          try dsimp only at hk_24
          try simp only [↓DN, UP, r1, r2, r3, r4, r5, r6, r7, reduceCtorEq, Try.f61]
          refine stIf hk_24 (fun hb_30 hk_24 => ?_) (fun hb_30 hk_24 => ?_)
          · try simp only [↓DN, UP, r1, r2, r3, r4, r5, r6, r7, reduceCtorEq, Try.f61]
            refine seqN TryT_eq rfl ?_
            obtain ⟨v_31, hv_31, hk_24⟩ := bS hk_24
            have f12 := (fSubN hv_31 (n := out_18.length) (by simp))
            try simp only [↓DN, UP, r1, r2, r3, r4, r5, r6, r7, reduceCtorEq, Try.f61, f12]
            exact ⟨(v_31, IntKind.wrap .i64 (n_19 - 1)), hk_24, ((weak_trim 0 0 v_31.length (b := ⟨_, _, _⟩) rfl (fLeW hv_31 (by simp) (by simp)) (by decide)).trans (weak_norm (ks := [3, 5]) (π := [0]) (fuel := 9) (by simp only [trS, trE, trH, trHS, trSV, trP, trC, ML, MB, and_self, r1, r2, r3, r4, r5, r6, r7, reduceCtorEq, TL, TT, fTrim0 GItem.ok hv_31 (lo := 0) (by simp)])))⟩
          · obtain rfl := Option.some.inj hk_24
            try dsimp only at hy_17
            try simp only [↓DN, UP, r1, r2, r3, r4, r5, r6, r7, reduceCtorEq, Try.f61]
            obtain rfl := Option.some.inj hy_17
            exact cutT_mk out_18 rfl (wn [3] [0])
      · rintro out_15 hp
        replace hp := hp.symm; subst hp
        try dsimp only at h
        try simp only [↓DN, UP, r1, r2, r3, r4, r5, r6, r7, reduceCtorEq, Try.f61]
        obtain rfl := Option.some.inj h
        refine endT_of ?_ ⟨rfl, rfl⟩
        exact (wn [0] [0])
theorem c_impl_ItemsOf {s_1 : GStore} {b_2 : Int} {r : (List GItem) × Bool} (h : g_impl_ItemsOf s_1 b_2 = some r) : Ans Try.prog 54 [.agg [.imm 1 s_1.Cells.length (s_1.Cells.flatMap (eI .u32))], .one (.int .i64 b_2)] [] fun v h1 => v = .tup [.one (.arr 0 0 r.1.length), .one (.bool r.2)] ∧ h1 = [.live ⟨5, r.1.length, r.1.flatMap GItem.cs⟩] := by
  refine ansK (P := fun _ => Try.prog) TryT_eq (fn := Try.f54) Try.func54 rfl ⟨by kernel_rfl, rfl, rfl, by kernel_rfl⟩ (by simp) (Weak.refl _ _) ?_
  rw [g_impl_ItemsOf] at h
  obtain ⟨y_3, hy_3, h⟩ := bS h
  try simp only [↓DN, UP, r1, r2, r3, r4, r5, r6, r7, reduceCtorEq, Try.f54]
  refine cG [] (c_impl_BlockOf hy_3) (hK := fun rd b => ?_)
  obtain ⟨y_4, hy_4, h⟩ := bS h
  try simp only [↓DN, UP, r1, r2, r3, r4, r5, r6, r7, reduceCtorEq, Try.f54]
  refine cG [] (c_impl_ParseCells hy_4) (hK := fun rd b => ?_)
  try simp only [↓DN, UP, r1, r2, r3, r4, r5, r6, r7, reduceCtorEq, Try.f54]
  obtain rfl := Option.some.inj h
  refine endT_of ?_ ⟨rfl, rfl⟩
  exact (wn [0] [2])
theorem c_impl_uses {it_1 : GItem} {name_2 : Bs} {r : Bool} (h : g_impl_uses it_1 name_2 = some r) : Ans Try.prog 43 [.agg [.int .i64 it_1.Kind, .str it_1.Name, .int .i32 it_1.N, .bool it_1.Hex, .int .u32 it_1.Raw], .one (.str name_2)] [] fun v h1 => v = .pv (.one (.bool r)) ∧ h1 = [] := by
  refine ansK (P := fun _ => Try.prog) TryT_eq (fn := Try.f43) Try.func43 rfl ⟨by kernel_rfl, rfl, rfl, by kernel_rfl⟩ (by simp) (Weak.refl _ _) ?_
  rw [g_impl_uses] at h
  try simp only [↓DN, UP, r1, r2, r3, r4, r5, r6, r7, reduceCtorEq, Try.f43]
  refine seqN TryT_eq rfl ?_
  try simp only [↓DN, UP, r1, r2, r3, r4, r5, r6, r7, reduceCtorEq, Try.f43]
  refine stIf h (fun hb_3 h => ?_) (fun hb_3 h => ?_)
  · try simp only [↓DN, UP, r1, r2, r3, r4, r5, r6, r7, reduceCtorEq, Try.f43, hb_3]
    obtain rfl := Option.some.inj h
    refine endT_of ?_ ⟨rfl, rfl⟩
    exact (wn [0] [])
  · try simp only [↓DN, UP, r1, r2, r3, r4, r5, r6, r7, reduceCtorEq, Try.f43, hb_3]
    refine stIf h (fun hb_4 h => ?_) (fun hb_4 h => ?_)
    · try simp only [↓DN, UP, r1, r2, r3, r4, r5, r6, r7, reduceCtorEq, Try.f43, hb_3, hb_4]
      obtain rfl := Option.some.inj h
      refine endT_of ?_ ⟨rfl, rfl⟩
      exact (wn [0] [])
    · try simp only [↓DN, UP, r1, r2, r3, r4, r5, r6, r7, reduceCtorEq, Try.f43, hb_3, hb_4]
      refine stIf h (fun hb_5 h => ?_) (fun hb_5 h => ?_)
      · try simp only [↓DN, UP, r1, r2, r3, r4, r5, r6, r7, reduceCtorEq, Try.f43, hb_3, hb_4, hb_5]
        obtain rfl := Option.some.inj h
        refine endT_of ?_ ⟨rfl, rfl⟩
        exact (wn [0] [])
      · try simp only [↓DN, UP, r1, r2, r3, r4, r5, r6, r7, reduceCtorEq, Try.f43, hb_3, hb_4, hb_5]
        refine stIf h (fun hb_6 h => ?_) (fun hb_6 h => ?_)
        · try simp only [↓DN, UP, r1, r2, r3, r4, r5, r6, r7, reduceCtorEq, Try.f43, hb_3, hb_4, hb_5, hb_6]
          obtain rfl := Option.some.inj h
          refine endT_of ?_ ⟨rfl, rfl⟩
          exact (wn [0] [])
        · try simp only [↓DN, UP, r1, r2, r3, r4, r5, r6, r7, reduceCtorEq, Try.f43, hb_3, hb_4, hb_5, hb_6]
          obtain rfl := Option.some.inj h
          refine endT_of ?_ ⟨rfl, rfl⟩
          exact (wn [0] [])
theorem c_impl_Unparse {list_1 : List GItem} {r : (List Int) × Bool} (h : g_impl_Unparse list_1 = some r) : Ans Try.prog 80 [.one (.imm 5 list_1.length (list_1.flatMap GItem.cs))] [] fun v h1 => v = .tup [.one (.arr 0 0 r.1.length), .one (.bool r.2)] ∧ h1 = [.live ⟨1, r.1.length, r.1.flatMap (eI .u32)⟩] := by
  refine ansK (P := fun _ => Try.prog) TryT_eq (fn := Try.f80) Try.func80 rfl ⟨by kernel_rfl, rfl, rfl, by kernel_rfl⟩ (by simp) (Weak.refl _ _) ?_
  rw [g_impl_Unparse] at h
  have f1 := (show bldN 0 = 0 from rfl)
  have f2 := (show bldC [] = ([] : List Int).flatMap (eI .u32) from rfl)
  try simp only [↓DN, UP, r1, r2, r3, r4, r5, r6, r7, reduceCtorEq, Try.f80, f1, f2]
  obtain ⟨y_3, hy_4, h⟩ := bS h
  refine seqK TryT_eq (fun p : (List Int) => ⟨[(4, .pv (.one (.arr 0 0 p.length)))], [.live ⟨1, p.length, p.flatMap (eI .u32)⟩]⟩) (fun v => y_3 = .inl v) (by rfl) ?_ ?_
  · try simp only [↓DN, UP, r1, r2, r3, r4, r5, r6, r7, reduceCtorEq, Try.f80, f1, f2]
    obtain ⟨y_8, hy_9, hy_4⟩ := bS hy_4
    refine loopK TryT_eq (fun p : (List Int) × Int => ⟨[(4, .pv (.one (.arr 0 0 p.1.length))), (9, .pv (.one (.imm 5 list_1.length (list_1.flatMap GItem.cs)))), (10, .pv (.one (.int .i64 (list_1.length : Int)))), (11, .pv (.one (.int .i64 p.2)))], [.live ⟨1, p.1.length, p.1.flatMap (eI .u32)⟩]⟩) (fun k p => g_impl_Unparse_l0 list_1 k p.1 p.2 = some y_8) (by kernel_rfl) bigK (([] : List Int), 0) (weak_norm (ks := [4, 9, 10, 11]) (π := [0]) (fuel := 9) (by simp only [WL, r1, r2, r3, r4, r5, r6, r7, reduceCtorEq, fWin (eI_ok .u32) (n := 0) (xs := ([] : List Int)) (by simp)])) hy_9 (fun _ h => nomatch (show none = some _ from h)) ?_
    rintro k_10 ⟨out_5, v_6⟩ hk_11
    rw [g_impl_Unparse_l0] at hk_11
    try dsimp only at hk_11
    try simp only [↓DN, UP, r1, r2, r3, r4, r5, r6, r7, reduceCtorEq, Try.f80]
    refine seqN TryT_eq rfl ?_
    try simp only [↓DN, UP, r1, r2, r3, r4, r5, r6, r7, reduceCtorEq, Try.f80]
    refine stIf hk_11 (fun hb_12 hk_11 => ?_) (fun hb_12 hk_11 => ?_)
    · try simp only [↓DN, UP, r1, r2, r3, r4, r5, r6, r7, reduceCtorEq, Try.f80]
      refine seqN TryT_eq rfl ?_
      obtain ⟨v_13, hv_13, hk_11⟩ := bS hk_11
      obtain ⟨y_14, hy_14, hk_11⟩ := bS hk_11
      have f3 := (fAt GItem.ok hv_13 (n := list_1.length) (by simp))
      try simp only [↓DN, UP, r1, r2, r3, r4, r5, r6, r7, reduceCtorEq, Try.f80, f3]
      refine cG [] (c_impl_CellsOf hy_14) (hK := fun rd b => ?_)
      obtain ⟨v_15, hv_15, hk_11⟩ := bS hk_11
      have f4 := (fWin (eI_ok .u32) (n := y_14.length) (xs := y_14) (by simp))
      have f5 := (fApp hv_15 (n := out_5.length) (by simp) (m := y_14.length) (by simp [bsOf]))
      have f6 := (fWin (eI_ok .u32) (n := out_5.length) (xs := out_5) (by simp))
      have f7 := (fCat (e := (eI .u32)) (ns := y_14.flatMap (eI .u32)) hv_15 rfl)
      try simp only [↓DN, UP, r1, r2, r3, r4, r5, r6, r7, reduceCtorEq, Try.f80, f3, f4, f5, f6, f7]
      obtain ⟨y_17, hy_18, hk_11⟩ := bS hk_11
      refine seqK TryT_eq (fun p : Bool => ⟨[(4, .pv (.one (.arr 0 0 v_15.length))), (9, .pv (.one (.imm 5 list_1.length (list_1.flatMap GItem.cs)))), (10, .pv (.one (.int .i64 (list_1.length : Int)))), (11, .pv (.one (.int .i64 v_6))), (27, .pv (.one (.bool p)))], [.live ⟨1, v_15.length, v_15.flatMap (eI .u32)⟩]⟩) (fun v => y_17 = v) (by rfl) ?_ ?_
      · try simp only [↓DN, UP, r1, r2, r3, r4, r5, r6, r7, reduceCtorEq, Try.f80, f3, f4, f5, f6, f7]
        refine stIf hy_18 (fun hb_19 hy_18 => ?_) (fun hb_19 hy_18 => ?_)
        · try simp only [↓DN, UP, r1, r2, r3, r4, r5, r6, r7, reduceCtorEq, Try.f80, f3, f4, f5, f6, f7, hb_19]
          obtain rfl := Option.some.inj hy_18
          exact cutT_mk true rfl (wn [4, 9, 10, 11, 27] [3])
        · try simp only [↓DN, UP, r1, r2, r3, r4, r5, r6, r7, reduceCtorEq, Try.f80, f3, f4, f5, f6, f7, hb_19]
          obtain rfl := Option.some.inj hy_18
          exact cutT_mk (decide ((v_15.length : Int) > 64)) rfl (wn [4, 9, 10, 11, 27] [3])
      · rintro v_16 hp
        replace hp := hp.symm; subst hp
        try dsimp only at hk_11
        try simp only [↓DN, UP, r1, r2, r3, r4, r5, r6, r7, reduceCtorEq, Try.f80]
        refine stIf hk_11 (fun hb_20 hk_11 => ?_) (fun hb_20 hk_11 => ?_)
        · obtain rfl := Option.some.inj hk_11
          try dsimp only at hy_4
          obtain rfl := Option.some.inj hy_4
          try dsimp only at h
          try simp only [↓DN, UP, r1, r2, r3, r4, r5, r6, r7, reduceCtorEq, Try.f80]
          obtain rfl := Option.some.inj h
          refine endT_of ?_ ⟨rfl, rfl⟩
          exact ((weak_norm (ks := [0]) (π := []) (fuel := 9) (s' := ⟨[(0, .tup [.one (.emp), .one (.bool false)])], []⟩) (by simp only [WL, r1, r2, r3, r4, r5, r6, r7, reduceCtorEq])).trans (weak_le (by simp only [LEb, r1, r2, r3, r4, r5, r6, r7, reduceCtorEq, TL]) (by simp only [LEb, r1, r2, r3, r4, r5, r6, r7, reduceCtorEq, TL])))
        · try simp only [↓DN, UP, r1, r2, r3, r4, r5, r6, r7, reduceCtorEq, Try.f80]
          exact ⟨(v_15, IntKind.wrap .i64 (v_6 + 1)), hk_11, (wn [4, 9, 10, 11] [0])⟩
    · obtain rfl := Option.some.inj hk_11
      try dsimp only at hy_4
      try simp only [↓DN, UP, r1, r2, r3, r4, r5, r6, r7, reduceCtorEq, Try.f80]
      obtain rfl := Option.some.inj hy_4
      exact cutT_mk out_5 rfl (wn [4] [0])
  · rintro out_2 hp
    replace hp := hp.symm; subst hp
    try dsimp only at h
    try simp only [↓DN, UP, r1, r2, r3, r4, r5, r6, r7, reduceCtorEq, Try.f80]
    obtain rfl := Option.some.inj h
    refine endT_of ?_ ⟨rfl, rfl⟩
    exact (wn [0] [0])
theorem c_slices_Equal_Item {s1_1 : List GItem} {s2_2 : List GItem} {r : Bool} (h : g_slices_Equal_Item s1_1 s2_2 = some r) : Ans Try.prog 81 [.one (.imm 5 s1_1.length (s1_1.flatMap GItem.cs)), .one (.imm 5 s2_2.length (s2_2.flatMap GItem.cs))] [] fun v h1 => v = .pv (.one (.bool r)) ∧ h1 = [] := by
  refine ansK (P := fun _ => Try.prog) TryT_eq (fn := Try.f81) Try.func81 rfl ⟨by kernel_rfl, rfl, rfl, by kernel_rfl⟩ (by simp) (Weak.refl _ _) ?_
  rw [g_slices_Equal_Item] at h
  try simp only [↓DN, UP, r1, r2, r3, r4, r5, r6, r7, reduceCtorEq, Try.f81]
  refine seqN TryT_eq rfl ?_
  try simp only [↓DN, UP, r1, r2, r3, r4, r5, r6, r7, reduceCtorEq, Try.f81]
  refine stIf h (fun hb_3 h => ?_) (fun hb_3 h => ?_)
  · try simp only [↓DN, UP, r1, r2, r3, r4, r5, r6, r7, reduceCtorEq, Try.f81]
    obtain rfl := Option.some.inj h
    refine endT_of ?_ ⟨rfl, rfl⟩
    exact (wn [0] [])
  · try simp only [↓DN, UP, r1, r2, r3, r4, r5, r6, r7, reduceCtorEq, Try.f81]
    obtain ⟨y_4, hy_5, h⟩ := bS h
    refine seqK TryT_eq (fun p : Unit => ⟨[], []⟩) (fun v => y_4 = .inl v) (by rfl) ?_ ?_
    · try simp only [↓DN, UP, r1, r2, r3, r4, r5, r6, r7, reduceCtorEq, Try.f81]
      obtain ⟨y_7, hy_8, hy_5⟩ := bS hy_5
      refine loopK TryT_eq (fun p : Int => ⟨[(0, .pv (.one (.imm 5 s1_1.length (s1_1.flatMap GItem.cs)))), (1, .pv (.one (.imm 5 s2_2.length (s2_2.flatMap GItem.cs)))), (12, .pv (.one (.int .i64 (s1_1.length : Int)))), (13, .pv (.one (.int .i64 p)))], []⟩) (fun k p => g_slices_Equal_Item_l0 s1_1 s2_2 k p = some y_7) (by kernel_rfl) bigK 0 (wn [0, 1, 12, 13] []) hy_8 (fun _ h => nomatch (show none = some _ from h)) ?_
      rintro k_9 v_6 hk_10
      rw [g_slices_Equal_Item_l0] at hk_10
      try dsimp only at hk_10
      try simp only [↓DN, UP, r1, r2, r3, r4, r5, r6, r7, reduceCtorEq, Try.f81]
      refine seqN TryT_eq rfl ?_
      try simp only [↓DN, UP, r1, r2, r3, r4, r5, r6, r7, reduceCtorEq, Try.f81]
      refine stIf hk_10 (fun hb_11 hk_10 => ?_) (fun hb_11 hk_10 => ?_)
      · try simp only [↓DN, UP, r1, r2, r3, r4, r5, r6, r7, reduceCtorEq, Try.f81]
        refine seqN TryT_eq rfl ?_
        obtain ⟨v_12, hv_12, hk_10⟩ := bS hk_10
        obtain ⟨v_13, hv_13, hk_10⟩ := bS hk_10
        have f1 := (fAt GItem.ok hv_12 (n := s1_1.length) (by simp))
        have f2 := (fAt GItem.ok hv_13 (n := s2_2.length) (by simp))
        try simp only [↓DN, UP, r1, r2, r3, r4, r5, r6, r7, reduceCtorEq, Try.f81, f1, f2]
        refine ⟨rfl, ?_⟩
        try simp only [↓DN, UP, r1, r2, r3, r4, r5, r6, r7, reduceCtorEq, Try.f81, f1, f2]
        refine stIf hk_10 (fun hb_14 hk_10 => ?_) (fun hb_14 hk_10 => ?_)
        · obtain rfl := Option.some.inj hk_10
          try dsimp only at hy_5
          obtain rfl := Option.some.inj hy_5
          try dsimp only at h
          try simp only [↓DN, UP, r1, r2, r3, r4, r5, r6, r7, reduceCtorEq, Try.f81, f1, f2]
          obtain rfl := Option.some.inj h
          refine endT_of ?_ ⟨rfl, rfl⟩
          exact (wn [0] [])
        · try simp only [↓DN, UP, r1, r2, r3, r4, r5, r6, r7, reduceCtorEq, Try.f81, f1, f2]
          exact ⟨IntKind.wrap .i64 (v_6 + 1), hk_10, (wn [0, 1, 12, 13] [])⟩
      · obtain rfl := Option.some.inj hk_10
        try dsimp only at hy_5
        try simp only [↓DN, UP, r1, r2, r3, r4, r5, r6, r7, reduceCtorEq, Try.f81]
        obtain rfl := Option.some.inj hy_5
        exact cutT_mk () (by trivial) (wn [] [])
    · rintro _ hp
      replace hp := hp.symm; subst hp
      try dsimp only at h
      try simp only [↓DN, UP, r1, r2, r3, r4, r5, r6, r7, reduceCtorEq, Try.f81]
      obtain rfl := Option.some.inj h
      refine endT_of ?_ ⟨rfl, rfl⟩
      exact (wn [0] [])
theorem c_impl_ListOk {list_1 : List GItem} {r : Bool} (h : g_impl_ListOk list_1 = some r) : Ans Try.prog 55 [.one (.imm 5 list_1.length (list_1.flatMap GItem.cs))] [] fun v h1 => v = .pv (.one (.bool r)) ∧ h1 = [] := by
  refine ansK (P := fun _ => Try.prog) TryT_eq (fn := Try.f55) Try.func55 rfl ⟨by kernel_rfl, rfl, rfl, by kernel_rfl⟩ (by simp) (Weak.refl _ _) ?_
  rw [g_impl_ListOk] at h
  obtain ⟨y_2, hy_2, h⟩ := bS h
  try simp only [↓DN, UP, r1, r2, r3, r4, r5, r6, r7, reduceCtorEq, Try.f55]
  refine cG [] (c_impl_Unparse hy_2) (hK := fun rd b => ?_)
  try simp only [↓DN, UP, r1, r2, r3, r4, r5, r6, r7, reduceCtorEq, Try.f55]
  refine seqN TryT_eq rfl ?_
  try simp only [↓DN, UP, r1, r2, r3, r4, r5, r6, r7, reduceCtorEq, Try.f55]
  refine stIf h (fun hb_3 h => ?_) (fun hb_3 h => ?_)
  · obtain ⟨y_4, hy_4, h⟩ := bS h
    try simp only [↓DN, UP, r1, r2, r3, r4, r5, r6, r7, reduceCtorEq, Try.f55, hb_3]
    refine cG [] (c_impl_ParseCells hy_4) (hK := fun rd b => ?_)
    obtain ⟨y_5, hy_5, h⟩ := bS h
    try simp only [↓DN, UP, r1, r2, r3, r4, r5, r6, r7, reduceCtorEq, Try.f55, hb_3]
    refine cG [] (c_slices_Equal_Item hy_5) (hK := fun rd b => ?_)
    try simp only [↓DN, UP, r1, r2, r3, r4, r5, r6, r7, reduceCtorEq, Try.f55, hb_3]
    obtain rfl := Option.some.inj h
    refine endT_of ?_ ⟨rfl, rfl⟩
    exact (wn [0] [])
  · try simp only [↓DN, UP, r1, r2, r3, r4, r5, r6, r7, reduceCtorEq, Try.f55, hb_3]
    obtain rfl := Option.some.inj h
    refine endT_of ?_ ⟨rfl, rfl⟩
    exact (wn [0] [])
theorem c_impl_PutBlock {s_1 : GStore} {b_2 : Int} {cells_3 : List Int} {r : GStore × Bool} (h : g_impl_PutBlock s_1 b_2 cells_3 = some r) : Ans Try.prog 82 [.agg [.imm 1 s_1.Cells.length (s_1.Cells.flatMap (eI .u32))], .one (.int .i64 b_2), .one (.imm 1 cells_3.length (cells_3.flatMap (eI .u32)))] [] fun v h1 => v = .tup [.agg [.arr 0 0 r.1.Cells.length], .one (.bool r.2)] ∧ h1 = [.live ⟨1, r.1.Cells.length, r.1.Cells.flatMap (eI .u32)⟩] := by
  refine ansK (P := fun _ => Try.prog) TryT_eq (fn := Try.f82) Try.func82 rfl ⟨by kernel_rfl, rfl, rfl, by kernel_rfl⟩ (by simp) (Weak.refl _ _) ?_
  rw [g_impl_PutBlock] at h
  try simp only [↓DN, UP, r1, r2, r3, r4, r5, r6, r7, reduceCtorEq, Try.f82]
  refine seqN TryT_eq rfl ?_
  try simp only [↓DN, UP, r1, r2, r3, r4, r5, r6, r7, reduceCtorEq, Try.f82]
  obtain ⟨y_5, hy_6, h⟩ := bS h
  refine seqK TryT_eq (fun p : Bool => ⟨[(1, .pv (.one (.int .i64 b_2))), (2, .pv (.one (.imm 1 cells_3.length (cells_3.flatMap (eI .u32))))), (3, .pv (.one (.ptr 0 0))), (6, .pv (.one (.ptr 1 0))), (19, .pv (.one (.bool p)))], [.live ⟨1, 1, [.imm 1 s_1.Cells.length (s_1.Cells.flatMap (eI .u32))]⟩, .live ⟨1, 1, [.emp]⟩]⟩) (fun v => y_5 = v) (by rfl) ?_ ?_
  · obtain ⟨y_7, hy_7, hy_6⟩ := bS hy_6
    have f1 := (show bldN 1 = 1 from rfl)
    have f2 := (show bldC [.int .i64 b_2] = [b_2].flatMap (eI .i64) from rfl)
    try simp only [↓DN, UP, r1, r2, r3, r4, r5, r6, r7, reduceCtorEq, Try.f82, f1, f2]
    refine callG [] 9 rfl (by simp only [WL, r1, r2, r3, r4, r5, r6, r7, reduceCtorEq, fWin (eI_ok .i64) (n := 1) (xs := [b_2]) (by simp)]) (by simp only [WL, r1, r2, r3, r4, r5, r6, r7, reduceCtorEq, fWin (eI_ok .i64) (n := 1) (xs := [b_2]) (by simp)]) rfl (c_impl_hasBlocks hy_7) (by simp only [WL, r1, r2, r3, r4, r5, r6, r7, reduceCtorEq]) ?_
    intro rd b
    try simp only [↓DN, UP, r1, r2, r3, r4, r5, r6, r7, reduceCtorEq, Try.f82, f1, f2]
    refine stIf hy_6 (fun hb_8 hy_6 => ?_) (fun hb_8 hy_6 => ?_)
    · try simp only [↓DN, UP, r1, r2, r3, r4, r5, r6, r7, reduceCtorEq, Try.f82, f1, f2, hb_8]
      obtain rfl := Option.some.inj hy_6
      exact cutT_mk true rfl (wn [1, 2, 3, 6, 19] [0, 1])
    · try simp only [↓DN, UP, r1, r2, r3, r4, r5, r6, r7, reduceCtorEq, Try.f82, f1, f2, hb_8]
      obtain rfl := Option.some.inj hy_6
      exact cutT_mk (decide ((cells_3.length : Int) > 64)) rfl (wn [1, 2, 3, 6, 19] [0, 1])
  · rintro v_4 hp
    replace hp := hp.symm; subst hp
    try dsimp only at h
    try simp only [↓DN, UP, r1, r2, r3, r4, r5, r6, r7, reduceCtorEq, Try.f82]
    refine stIf h (fun hb_9 h => ?_) (fun hb_9 h => ?_)
    · try simp only [↓DN, UP, r1, r2, r3, r4, r5, r6, r7, reduceCtorEq, Try.f82]
      obtain rfl := Option.some.inj h
      refine endT_of ?_ ⟨rfl, rfl⟩
      exact ((weak_norm (ks := [0]) (π := []) (fuel := 9) (s' := ⟨[(0, .tup [.agg [.emp], .one (.bool false)])], []⟩) (by simp only [WL, r1, r2, r3, r4, r5, r6, r7, reduceCtorEq])).trans (weak_le (by simp only [LEb, r1, r2, r3, r4, r5, r6, r7, reduceCtorEq, TL]) (by simp only [LEb, r1, r2, r3, r4, r5, r6, r7, reduceCtorEq, TL])))
    · obtain ⟨y_10, hy_10, h⟩ := bS h
      try simp only [↓DN, UP, r1, r2, r3, r4, r5, r6, r7, reduceCtorEq, Try.f82]
      refine cG [] (c_slices_Clone_uint32 hy_10) (hK := fun rd b => ?_)
      obtain ⟨v_11, hv_11, h⟩ := bS h
      have f3 := (fSubN hv_11 (n := y_10.length) (by simp))
      have f4 := (show (IntKind.wrap .i64 (b_2 * 64)).toNat + v_11.length ≤ y_10.length from by simpa using fLeW hv_11 (lo := (IntKind.wrap .i64 (b_2 * 64)).toNat) (n := y_10.length) (by simp) (by simp))
      have f5 := (fClear (eI_ok .u32) (a := (IntKind.wrap .i64 (b_2 * 64)).toNat) (n := v_11.length) (xs := y_10) (by simpa using fLeW hv_11 (lo := (IntKind.wrap .i64 (b_2 * 64)).toNat) (n := (y_10).length) (by simp) (by simp)) (0 : Int) (zc := [.int .u32 0]) rfl)
      have f6 := (show (IntKind.wrap .i64 (b_2 * 64)).toNat + v_11.length ≤ y_10.length from by simpa using fLeW (subPut hv_11 (by simp)) (lo := (IntKind.wrap .i64 (b_2 * 64)).toNat) (n := y_10.length) (by simp) (by simp))
      have f7 := (fCopy (eI_ok .u32) (a := (IntKind.wrap .i64 (b_2 * 64)).toNat) (n := v_11.length) (xs := putL y_10 ((IntKind.wrap .i64 (b_2 * 64)).toNat) (List.replicate v_11.length (0 : Int))) (ys := cells_3) (by simpa using fLeW (subPut hv_11 (by simp)) (lo := (IntKind.wrap .i64 (b_2 * 64)).toNat) (n := (putL y_10 ((IntKind.wrap .i64 (b_2 * 64)).toNat) (List.replicate v_11.length (0 : Int))).length) (by simp) (by simp)) (m := cells_3.length) rfl)
      try simp only [↓DN, UP, r1, r2, r3, r4, r5, r6, r7, reduceCtorEq, Try.f82, f3, f4, f5, f6, f7]
      obtain rfl := Option.some.inj h
      refine endT_of ?_ ⟨rfl, rfl⟩
      exact (weak_norm (ks := [0]) (π := [2]) (fuel := 9) (by simp only [WL, r1, r2, r3, r4, r5, r6, r7, reduceCtorEq, fWin (eI_ok .u32) (n := y_10.length) (xs := putL (putL y_10 ((IntKind.wrap .i64 (b_2 * 64)).toNat) (List.replicate v_11.length (0 : Int))) ((IntKind.wrap .i64 (b_2 * 64)).toNat) (cells_3.take v_11.length)) (by simp), fWin (eI_ok .u32) (n := y_10.length) (xs := putL (putL y_10 ((IntKind.wrap .i64 (b_2 * 64)).toNat) (List.replicate v_11.length (0 : Int))) ((IntKind.wrap .i64 (b_2 * 64)).toNat) (cells_3.take v_11.length)) (by simp), fWin (eI_ok .u32) (n := y_10.length) (xs := putL (putL y_10 ((IntKind.wrap .i64 (b_2 * 64)).toNat) (List.replicate v_11.length (0 : Int))) ((IntKind.wrap .i64 (b_2 * 64)).toNat) (cells_3.take v_11.length)) (by simp)]))
theorem c_impl_PutItems {s_1 : GStore} {b_2 : Int} {list_3 : List GItem} {r : GStore × Bool} (h : g_impl_PutItems s_1 b_2 list_3 = some r) : Ans Try.prog 56 [.agg [.imm 1 s_1.Cells.length (s_1.Cells.flatMap (eI .u32))], .one (.int .i64 b_2), .one (.imm 5 list_3.length (list_3.flatMap GItem.cs))] [] fun v h1 => v = .tup [.agg [.arr 0 0 r.1.Cells.length], .one (.bool r.2)] ∧ h1 = [.live ⟨1, r.1.Cells.length, r.1.Cells.flatMap (eI .u32)⟩] := by
  refine ansK (P := fun _ => Try.prog) TryT_eq (fn := Try.f56) Try.func56 rfl ⟨by kernel_rfl, rfl, rfl, by kernel_rfl⟩ (by simp) (Weak.refl _ _) ?_
  rw [g_impl_PutItems] at h
  obtain ⟨y_4, hy_4, h⟩ := bS h
  try simp only [↓DN, UP, r1, r2, r3, r4, r5, r6, r7, reduceCtorEq, Try.f56]
  refine cG [] (c_impl_Unparse hy_4) (hK := fun rd b => ?_)
  try simp only [↓DN, UP, r1, r2, r3, r4, r5, r6, r7, reduceCtorEq, Try.f56]
  refine seqN TryT_eq rfl ?_
  try simp only [↓DN, UP, r1, r2, r3, r4, r5, r6, r7, reduceCtorEq, Try.f56]
  refine stIf h (fun hb_5 h => ?_) (fun hb_5 h => ?_)
  · try simp only [↓DN, UP, r1, r2, r3, r4, r5, r6, r7, reduceCtorEq, Try.f56]
    obtain rfl := Option.some.inj h
    refine endT_of ?_ ⟨rfl, rfl⟩
    exact ((weak_norm (ks := [0]) (π := []) (fuel := 9) (s' := ⟨[(0, .tup [.agg [.emp], .one (.bool false)])], []⟩) (by simp only [WL, r1, r2, r3, r4, r5, r6, r7, reduceCtorEq])).trans (weak_le (by simp only [LEb, r1, r2, r3, r4, r5, r6, r7, reduceCtorEq, TL]) (by simp only [LEb, r1, r2, r3, r4, r5, r6, r7, reduceCtorEq, TL])))
  · obtain ⟨y_6, hy_6, h⟩ := bS h
    try simp only [↓DN, UP, r1, r2, r3, r4, r5, r6, r7, reduceCtorEq, Try.f56]
    refine cG [] (c_impl_PutBlock hy_6) (hK := fun rd b => ?_)
    try simp only [↓DN, UP, r1, r2, r3, r4, r5, r6, r7, reduceCtorEq, Try.f56]
    obtain rfl := Option.some.inj h
    refine endT_of ?_ ⟨rfl, rfl⟩
    exact (wn [0] [3])
theorem c_impl_Rename {s_1 : GStore} {vfrom_2 : Bs} {to_3 : Bs} {r : GStore × Bool} (h : g_impl_Rename s_1 vfrom_2 to_3 = some r) : Ans Try.prog 26 [.agg [.imm 1 s_1.Cells.length (s_1.Cells.flatMap (eI .u32))], .one (.str vfrom_2), .one (.str to_3)] [] fun v h1 => v = .tup [.agg [.arr 0 0 r.1.Cells.length], .one (.bool r.2)] ∧ h1 = [.live ⟨1, r.1.Cells.length, r.1.Cells.flatMap (eI .u32)⟩] := by
  refine ansK (P := fun _ => Try.prog) TryT_eq (fn := Try.f26) Try.func26 rfl ⟨by kernel_rfl, rfl, rfl, by kernel_rfl⟩ (by simp) (Weak.refl _ _) ?_
  rw [g_impl_Rename] at h
  try simp only [↓DN, UP, r1, r2, r3, r4, r5, r6, r7, reduceCtorEq, Try.f26]
  refine seqN TryT_eq rfl ?_
  try simp only [↓DN, UP, r1, r2, r3, r4, r5, r6, r7, reduceCtorEq, Try.f26]
  obtain ⟨y_5, hy_6, h⟩ := bS h
  refine seqK TryT_eq (fun p : Bool => ⟨[(1, .pv (.one (.str vfrom_2))), (2, .pv (.one (.str to_3))), (3, .pv (.one (.ptr 0 0))), (6, .pv (.one (.ptr 1 0))), (22, .pv (.one (.bool p)))], [.live ⟨1, 1, [.imm 1 s_1.Cells.length (s_1.Cells.flatMap (eI .u32))]⟩, .live ⟨1, 1, [.emp]⟩]⟩) (fun v => y_5 = v) (by rfl) ?_ ?_
  · obtain ⟨y_7, hy_7, hy_6⟩ := bS hy_6
    try simp only [↓DN, UP, r1, r2, r3, r4, r5, r6, r7, reduceCtorEq, Try.f26]
    refine cG [] (c_impl_StoreOk hy_7) (hK := fun rd b => ?_)
    try simp only [↓DN, UP, r1, r2, r3, r4, r5, r6, r7, reduceCtorEq, Try.f26]
    refine stIf hy_6 (fun hb_8 hy_6 => ?_) (fun hb_8 hy_6 => ?_)
    · try simp only [↓DN, UP, r1, r2, r3, r4, r5, r6, r7, reduceCtorEq, Try.f26, hb_8]
      obtain rfl := Option.some.inj hy_6
      exact cutT_mk true rfl (wn [1, 2, 3, 6, 22] [0, 1])
    · obtain ⟨y_9, hy_9, hy_6⟩ := bS hy_6
      try simp only [↓DN, UP, r1, r2, r3, r4, r5, r6, r7, reduceCtorEq, Try.f26, hb_8]
      refine cG [] (c_impl_NameOk hy_9) (hK := fun rd b => ?_)
      try simp only [↓DN, UP, r1, r2, r3, r4, r5, r6, r7, reduceCtorEq, Try.f26, hb_8]
      obtain rfl := Option.some.inj hy_6
      exact cutT_mk (!y_9) rfl (wn [1, 2, 3, 6, 22] [0, 1])
  · rintro v_4 hp
    replace hp := hp.symm; subst hp
    try dsimp only at h
    try simp only [↓DN, UP, r1, r2, r3, r4, r5, r6, r7, reduceCtorEq, Try.f26]
    refine stIf h (fun hb_10 h => ?_) (fun hb_10 h => ?_)
    · try simp only [↓DN, UP, r1, r2, r3, r4, r5, r6, r7, reduceCtorEq, Try.f26]
      obtain rfl := Option.some.inj h
      refine endT_of ?_ ⟨rfl, rfl⟩
      exact ((weak_norm (ks := [0]) (π := []) (fuel := 9) (s' := ⟨[(0, .tup [.agg [.emp], .one (.bool false)])], []⟩) (by simp only [WL, r1, r2, r3, r4, r5, r6, r7, reduceCtorEq])).trans (weak_le (by simp only [LEb, r1, r2, r3, r4, r5, r6, r7, reduceCtorEq, TL]) (by simp only [LEb, r1, r2, r3, r4, r5, r6, r7, reduceCtorEq, TL])))
    · obtain ⟨y_11, hy_11, h⟩ := bS h
      try simp only [↓DN, UP, r1, r2, r3, r4, r5, r6, r7, reduceCtorEq, Try.f26]
      refine cG [] (c_slices_Clone_uint32 hy_11) (hK := fun rd b => ?_)
      try simp only [↓DN, UP, r1, r2, r3, r4, r5, r6, r7, reduceCtorEq, Try.f26]
      obtain ⟨y_13, hy_14, h⟩ := bS h
      refine seqK TryT_eq (fun p : (List Int) => ⟨[(6, .pv (.one (.ptr 0 0))), (8, .pv (.one (.ptr 1 0)))], [.live ⟨1, 1, [.emp]⟩, .live ⟨1, 1, [.arr 2 0 p.length]⟩, .live ⟨1, p.length, p.flatMap (eI .u32)⟩]⟩) (fun v => y_13 = .inl v) (by rfl) ?_ ?_
      · have f1 := (quoI_ne (k := .i64) (a := (s_1.Cells.length : Int)) (b := 64) (by decide))
        try simp only [↓DN, UP, r1, r2, r3, r4, r5, r6, r7, reduceCtorEq, Try.f26, f1]
        obtain ⟨y_18, hy_19, hy_14⟩ := bS hy_14
        refine loopK TryT_eq (fun p : GStore × Int => ⟨[(1, .pv (.one (.str vfrom_2))), (2, .pv (.one (.str to_3))), (3, .pv (.one (.ptr 0 0))), (6, .pv (.one (.ptr 1 0))), (8, .pv (.one (.ptr 2 0))), (31, .pv (.one (.int .i64 (IntKind.wrap .i64 (Int.tdiv (s_1.Cells.length : Int) 64))))), (32, .pv (.one (.int .i64 p.2)))], [.live ⟨1, 1, [.imm 1 s_1.Cells.length (s_1.Cells.flatMap (eI .u32))]⟩, .live ⟨1, 1, [.emp]⟩, .live ⟨1, 1, [.arr 3 0 p.1.Cells.length]⟩, .live ⟨1, p.1.Cells.length, p.1.Cells.flatMap (eI .u32)⟩]⟩) (fun k p => g_impl_Rename_l0 s_1 vfrom_2 to_3 k p.1 p.2 = some y_18) (by kernel_rfl) bigK ((⟨y_11⟩ : GStore), 0) (wn [1, 2, 3, 6, 8, 31, 32] [0, 1, 3, 2]) hy_19 (fun _ h => nomatch (show none = some _ from h)) ?_
        rintro k_20 ⟨out_15, v_16⟩ hk_21
        rw [g_impl_Rename_l0] at hk_21
        try dsimp only at hk_21
        try simp only [↓DN, UP, r1, r2, r3, r4, r5, r6, r7, reduceCtorEq, Try.f26]
        refine seqN TryT_eq rfl ?_
        try simp only [↓DN, UP, r1, r2, r3, r4, r5, r6, r7, reduceCtorEq, Try.f26]
        refine stIf hk_21 (fun hb_22 hk_21 => ?_) (fun hb_22 hk_21 => ?_)
        · try simp only [↓DN, UP, r1, r2, r3, r4, r5, r6, r7, reduceCtorEq, Try.f26]
          obtain ⟨y_24, hy_25, hk_21⟩ := bS hk_21
          refine seqK TryT_eq (fun p : (List Int) => ⟨[(1, .pv (.one (.str vfrom_2))), (2, .pv (.one (.str to_3))), (3, .pv (.one (.ptr 0 0))), (6, .pv (.one (.ptr 1 0))), (8, .pv (.one (.ptr 2 0))), (31, .pv (.one (.int .i64 (IntKind.wrap .i64 (Int.tdiv (s_1.Cells.length : Int) 64))))), (32, .pv (.one (.int .i64 v_16)))], [.live ⟨1, 1, [.imm 1 s_1.Cells.length (s_1.Cells.flatMap (eI .u32))]⟩, .live ⟨1, 1, [.emp]⟩, .live ⟨1, 1, [.arr 3 0 p.length]⟩, .live ⟨1, p.length, p.flatMap (eI .u32)⟩]⟩) (fun v => y_24 = .inl v) (by rfl) ?_ ?_
          · obtain ⟨y_26, hy_26, hy_25⟩ := bS hy_25
            try simp only [↓DN, UP, r1, r2, r3, r4, r5, r6, r7, reduceCtorEq, Try.f26]
            refine cG [] (c_impl_ItemsOf hy_26) (hK := fun rd b => ?_)
            try simp only [↓DN, UP, r1, r2, r3, r4, r5, r6, r7, reduceCtorEq, Try.f26]
            obtain ⟨y_29, hy_30, hy_25⟩ := bS hy_25
            refine seqK TryT_eq (fun p : (List GItem) × Bool => ⟨[(1, .pv (.one (.str vfrom_2))), (2, .pv (.one (.str to_3))), (3, .pv (.one (.ptr 0 0))), (6, .pv (.one (.ptr 1 0))), (8, .pv (.one (.ptr 2 0))), (9, .pv (.one (.int .i64 v_16))), (10, .pv (.one (.arr 4 0 p.1.length))), (12, .pv (.one (.bool p.2))), (31, .pv (.one (.int .i64 (IntKind.wrap .i64 (Int.tdiv (s_1.Cells.length : Int) 64))))), (32, .pv (.one (.int .i64 v_16)))], [.live ⟨1, 1, [.imm 1 s_1.Cells.length (s_1.Cells.flatMap (eI .u32))]⟩, .live ⟨1, 1, [.emp]⟩, .live ⟨1, 1, [.arr 3 0 out_15.Cells.length]⟩, .live ⟨1, out_15.Cells.length, out_15.Cells.flatMap (eI .u32)⟩, .live ⟨5, p.1.length, p.1.flatMap GItem.cs⟩]⟩) (fun v => y_29 = v) (by rfl) ?_ ?_
            · try simp only [↓DN, UP, r1, r2, r3, r4, r5, r6, r7, reduceCtorEq, Try.f26]
              obtain ⟨y_36, hy_37, hy_30⟩ := bS hy_30
              refine loopK TryT_eq (fun p : (List GItem) × Bool × Int => ⟨[(1, .pv (.one (.str vfrom_2))), (2, .pv (.one (.str to_3))), (3, .pv (.one (.ptr 0 0))), (6, .pv (.one (.ptr 1 0))), (8, .pv (.one (.ptr 2 0))), (9, .pv (.one (.int .i64 v_16))), (10, .pv (.one (.arr 4 0 p.1.length))), (12, .pv (.one (.bool p.2.1))), (31, .pv (.one (.int .i64 (IntKind.wrap .i64 (Int.tdiv (s_1.Cells.length : Int) 64))))), (32, .pv (.one (.int .i64 v_16))), (41, .pv (.one (.arr 4 0 p.1.length))), (42, .pv (.one (.int .i64 (y_26.1.length : Int)))), (43, .pv (.one (.int .i64 p.2.2)))], [.live ⟨1, 1, [.imm 1 s_1.Cells.length (s_1.Cells.flatMap (eI .u32))]⟩, .live ⟨1, 1, [.emp]⟩, .live ⟨1, 1, [.arr 3 0 out_15.Cells.length]⟩, .live ⟨1, out_15.Cells.length, out_15.Cells.flatMap (eI .u32)⟩, .live ⟨5, p.1.length, p.1.flatMap GItem.cs⟩]⟩) (fun k p => g_impl_Rename_l1 vfrom_2 to_3 y_26 k p.1 p.2.1 p.2.2 = some y_36) (by kernel_rfl) bigK (y_26.1, false, 0) (wn [1, 2, 3, 6, 8, 9, 10, 12, 31, 32, 41, 42, 43] [0, 1, 2, 3, 4]) hy_37 (fun _ h => nomatch (show none = some _ from h)) ?_
              rintro k_38 ⟨items_31, changed_32, v_33⟩ hk_39
              rw [g_impl_Rename_l1] at hk_39
              try dsimp only at hk_39
              try simp only [↓DN, UP, r1, r2, r3, r4, r5, r6, r7, reduceCtorEq, Try.f26]
              refine seqN TryT_eq rfl ?_
              try simp only [↓DN, UP, r1, r2, r3, r4, r5, r6, r7, reduceCtorEq, Try.f26]
              refine stIf hk_39 (fun hb_40 hk_39 => ?_) (fun hb_40 hk_39 => ?_)
              · try simp only [↓DN, UP, r1, r2, r3, r4, r5, r6, r7, reduceCtorEq, Try.f26]
                obtain ⟨y_43, hy_44, hk_39⟩ := bS hk_39
                refine seqK TryT_eq (fun p : (List GItem) × Bool => ⟨[(1, .pv (.one (.str vfrom_2))), (2, .pv (.one (.str to_3))), (3, .pv (.one (.ptr 0 0))), (6, .pv (.one (.ptr 1 0))), (8, .pv (.one (.ptr 2 0))), (9, .pv (.one (.int .i64 v_16))), (10, .pv (.one (.arr 4 0 p.1.length))), (12, .pv (.one (.bool p.2))), (31, .pv (.one (.int .i64 (IntKind.wrap .i64 (Int.tdiv (s_1.Cells.length : Int) 64))))), (32, .pv (.one (.int .i64 v_16))), (41, .pv (.one (.arr 4 0 p.1.length))), (42, .pv (.one (.int .i64 (y_26.1.length : Int)))), (43, .pv (.one (.int .i64 v_33)))], [.live ⟨1, 1, [.imm 1 s_1.Cells.length (s_1.Cells.flatMap (eI .u32))]⟩, .live ⟨1, 1, [.emp]⟩, .live ⟨1, 1, [.arr 3 0 out_15.Cells.length]⟩, .live ⟨1, out_15.Cells.length, out_15.Cells.flatMap (eI .u32)⟩, .live ⟨5, p.1.length, p.1.flatMap GItem.cs⟩]⟩) (fun v => y_43 = v) (by rfl) ?_ ?_
                · obtain ⟨v_45, hv_45, hy_44⟩ := bS hy_44
                  obtain ⟨y_46, hy_46, hy_44⟩ := bS hy_44
                  have f2 := (fPtr hv_45 (k := 5) (n := items_31.length) (by simp))
                  have f3 := (fGet0 GItem.ok hv_45 (m := 5) (by decide) (by decide))
                  try simp only [↓DN, UP, r1, r2, r3, r4, r5, r6, r7, reduceCtorEq, Try.f26, f2, f3]
                  refine cG [] (c_impl_uses hy_46) (hK := fun rd b => ?_)
                  try simp only [↓DN, UP, r1, r2, r3, r4, r5, r6, r7, reduceCtorEq, Try.f26, f2, f3]
                  refine stIf hy_44 (fun hb_47 hy_44 => ?_) (fun hb_47 hy_44 => ?_)
                  · have f4 := (fPut GItem.ok hv_45 (q := 1) (ns := [.str to_3]) (y := (⟨v_45.Kind, to_3, v_45.N, v_45.Hex, v_45.Raw⟩ : GItem)) rfl)
                    try simp only [↓DN, UP, r1, r2, r3, r4, r5, r6, r7, reduceCtorEq, Try.f26, f2, f3, f4]
                    obtain rfl := Option.some.inj hy_44
                    exact cutT_mk (items_31.set v_33.toNat (⟨v_45.Kind, to_3, v_45.N, v_45.Hex, v_45.Raw⟩ : GItem), true) rfl (weak_norm (ks := [1, 2, 3, 6, 8, 9, 10, 12, 31, 32, 41, 42, 43]) (π := [0, 1, 2, 3, 4]) (fuel := 9) (by simp only [WL, r1, r2, r3, r4, r5, r6, r7, reduceCtorEq, fWin GItem.ok (n := items_31.length) (xs := items_31.set v_33.toNat (⟨v_45.Kind, to_3, v_45.N, v_45.Hex, v_45.Raw⟩ : GItem)) (by simp), fWin GItem.ok (n := items_31.length) (xs := items_31.set v_33.toNat (⟨v_45.Kind, to_3, v_45.N, v_45.Hex, v_45.Raw⟩ : GItem)) (by simp)]))
                  · try simp only [↓DN, UP, r1, r2, r3, r4, r5, r6, r7, reduceCtorEq, Try.f26, f2, f3]
                    obtain rfl := Option.some.inj hy_44
                    exact cutT_mk (items_31, changed_32) rfl (wn [1, 2, 3, 6, 8, 9, 10, 12, 31, 32, 41, 42, 43] [0, 1, 2, 3, 4])
                · rintro ⟨items_41, changed_42⟩ hp
                  replace hp := hp.symm; subst hp
                  try dsimp only at hk_39
                  try simp only [↓DN, UP, r1, r2, r3, r4, r5, r6, r7, reduceCtorEq, Try.f26]
                  exact ⟨(items_41, changed_42, IntKind.wrap .i64 (v_33 + 1)), hk_39, (wn [1, 2, 3, 6, 8, 9, 10, 12, 31, 32, 41, 42, 43] [0, 1, 2, 3, 4])⟩
              · obtain rfl := Option.some.inj hk_39
                try dsimp only at hy_30
                try simp only [↓DN, UP, r1, r2, r3, r4, r5, r6, r7, reduceCtorEq, Try.f26]
                obtain rfl := Option.some.inj hy_30
                exact cutT_mk (items_31, changed_32) rfl (wn [1, 2, 3, 6, 8, 9, 10, 12, 31, 32] [0, 1, 2, 3, 4])
            · rintro ⟨items_27, changed_28⟩ hp
              replace hp := hp.symm; subst hp
              try dsimp only at hy_25
              try simp only [↓DN, UP, r1, r2, r3, r4, r5, r6, r7, reduceCtorEq, Try.f26]
              refine seqN TryT_eq rfl ?_
              try simp only [↓DN, UP, r1, r2, r3, r4, r5, r6, r7, reduceCtorEq, Try.f26]
              refine stIf hy_25 (fun hb_48 hy_25 => ?_) (fun hb_48 hy_25 => ?_)
              · try simp only [↓DN, UP, r1, r2, r3, r4, r5, r6, r7, reduceCtorEq, Try.f26]
                obtain rfl := Option.some.inj hy_25
                exact cutT_mk out_15.Cells rfl (wn [1, 2, 3, 6, 8, 31, 32] [0, 1, 2, 3])
              · try simp only [↓DN, UP, r1, r2, r3, r4, r5, r6, r7, reduceCtorEq, Try.f26]
                refine seqN TryT_eq rfl ?_
                obtain ⟨y_49, hy_49, hy_25⟩ := bS hy_25
                try simp only [↓DN, UP, r1, r2, r3, r4, r5, r6, r7, reduceCtorEq, Try.f26]
                refine cG [] (c_impl_ListOk hy_49) (hK := fun rd b => ?_)
                try simp only [↓DN, UP, r1, r2, r3, r4, r5, r6, r7, reduceCtorEq, Try.f26]
                refine stIf hy_25 (fun hb_50 hy_25 => ?_) (fun hb_50 hy_25 => ?_)
                · obtain rfl := Option.some.inj hy_25
                  try dsimp only at hk_21
                  obtain rfl := Option.some.inj hk_21
                  try dsimp only at hy_14
                  obtain rfl := Option.some.inj hy_14
                  try dsimp only at h
                  try simp only [↓DN, UP, r1, r2, r3, r4, r5, r6, r7, reduceCtorEq, Try.f26]
                  obtain rfl := Option.some.inj h
                  refine endT_of ?_ ⟨rfl, rfl⟩
                  exact ((weak_norm (ks := [0]) (π := []) (fuel := 9) (s' := ⟨[(0, .tup [.agg [.emp], .one (.bool false)])], []⟩) (by simp only [WL, r1, r2, r3, r4, r5, r6, r7, reduceCtorEq])).trans (weak_le (by simp only [LEb, r1, r2, r3, r4, r5, r6, r7, reduceCtorEq, TL]) (by simp only [LEb, r1, r2, r3, r4, r5, r6, r7, reduceCtorEq, TL])))
                · obtain ⟨y_51, hy_51, hy_25⟩ := bS hy_25
                  try simp only [↓DN, UP, r1, r2, r3, r4, r5, r6, r7, reduceCtorEq, Try.f26]
                  refine cG [] (c_impl_PutItems hy_51) (hK := fun rd b => ?_)
                  try simp only [↓DN, UP, r1, r2, r3, r4, r5, r6, r7, reduceCtorEq, Try.f26]
                  obtain rfl := Option.some.inj hy_25
                  exact cutT_mk y_51.1.Cells rfl (wn [1, 2, 3, 6, 8, 31, 32] [0, 1, 2, 5])
          · rintro out_23 hp
            replace hp := hp.symm; subst hp
            try dsimp only at hk_21
            try simp only [↓DN, UP, r1, r2, r3, r4, r5, r6, r7, reduceCtorEq, Try.f26]
            exact ⟨((⟨out_23⟩ : GStore), IntKind.wrap .i64 (v_16 + 1)), hk_21, (wn [1, 2, 3, 6, 8, 31, 32] [0, 1, 2, 3])⟩
        · obtain rfl := Option.some.inj hk_21
          try dsimp only at hy_14
          try simp only [↓DN, UP, r1, r2, r3, r4, r5, r6, r7, reduceCtorEq, Try.f26]
          obtain rfl := Option.some.inj hy_14
          exact cutT_mk out_15.Cells rfl (wn [6, 8] [1, 2, 3])
      · rintro out_12 hp
        replace hp := hp.symm; subst hp
        try dsimp only at h
        try simp only [↓DN, UP, r1, r2, r3, r4, r5, r6, r7, reduceCtorEq, Try.f26]
        obtain rfl := Option.some.inj h
        refine endT_of ?_ ⟨rfl, rfl⟩
        exact (wn [0] [2])
theorem c_laws_eqUint32S {a_1 : List Int} {b_2 : List Int} {r : Bool} (h : g_laws_eqUint32S a_1 b_2 = some r) : Ans Try.prog 32 [.one (.imm 1 a_1.length (a_1.flatMap (eI .u32))), .one (.imm 1 b_2.length (b_2.flatMap (eI .u32)))] [] fun v h1 => v = .pv (.one (.bool r)) ∧ h1 = [] := by
  refine ansK (P := fun _ => Try.prog) TryT_eq (fn := Try.f32) Try.func32 rfl ⟨by kernel_rfl, rfl, rfl, by kernel_rfl⟩ (by simp) (Weak.refl _ _) ?_
  rw [g_laws_eqUint32S] at h
  try simp only [↓DN, UP, r1, r2, r3, r4, r5, r6, r7, reduceCtorEq, Try.f32]
  refine seqN TryT_eq rfl ?_
  try simp only [↓DN, UP, r1, r2, r3, r4, r5, r6, r7, reduceCtorEq, Try.f32]
  refine stIf h (fun hb_3 h => ?_) (fun hb_3 h => ?_)
  · try simp only [↓DN, UP, r1, r2, r3, r4, r5, r6, r7, reduceCtorEq, Try.f32]
    obtain rfl := Option.some.inj h
    refine endT_of ?_ ⟨rfl, rfl⟩
    exact (wn [0] [])
  · try simp only [↓DN, UP, r1, r2, r3, r4, r5, r6, r7, reduceCtorEq, Try.f32]
    obtain ⟨y_4, hy_5, h⟩ := bS h
    refine seqK TryT_eq (fun p : Unit => ⟨[], []⟩) (fun v => y_4 = .inl v) (by rfl) ?_ ?_
    · try simp only [↓DN, UP, r1, r2, r3, r4, r5, r6, r7, reduceCtorEq, Try.f32]
      obtain ⟨y_7, hy_8, hy_5⟩ := bS hy_5
      refine loopK TryT_eq (fun p : Int => ⟨[(0, .pv (.one (.imm 1 a_1.length (a_1.flatMap (eI .u32))))), (1, .pv (.one (.imm 1 b_2.length (b_2.flatMap (eI .u32))))), (5, .pv (.one (.int .i64 p)))], []⟩) (fun k p => g_laws_eqUint32S_l0 a_1 b_2 k p = some y_7) (by kernel_rfl) bigK 0 (wn [0, 1, 5] []) hy_8 (fun _ h => nomatch (show none = some _ from h)) ?_
      rintro k_9 i_6 hk_10
      rw [g_laws_eqUint32S_l0] at hk_10
      try dsimp only at hk_10
      try simp only [↓DN, UP, r1, r2, r3, r4, r5, r6, r7, reduceCtorEq, Try.f32]
      refine seqN TryT_eq rfl ?_
      try simp only [↓DN, UP, r1, r2, r3, r4, r5, r6, r7, reduceCtorEq, Try.f32]
      refine stIf hk_10 (fun hb_11 hk_10 => ?_) (fun hb_11 hk_10 => ?_)
      · try simp only [↓DN, UP, r1, r2, r3, r4, r5, r6, r7, reduceCtorEq, Try.f32]
        refine seqN TryT_eq rfl ?_
        obtain ⟨v_12, hv_12, hk_10⟩ := bS hk_10
        obtain ⟨v_13, hv_13, hk_10⟩ := bS hk_10
        have f1 := (fAt (eI_ok .u32) hv_12 (n := a_1.length) (by simp))
        have f2 := (fAt (eI_ok .u32) hv_13 (n := b_2.length) (by simp))
        try simp only [↓DN, UP, r1, r2, r3, r4, r5, r6, r7, reduceCtorEq, Try.f32, f1, f2]
        refine ⟨rfl, ?_⟩
        try simp only [↓DN, UP, r1, r2, r3, r4, r5, r6, r7, reduceCtorEq, Try.f32, f1, f2]
        refine stIf hk_10 (fun hb_14 hk_10 => ?_) (fun hb_14 hk_10 => ?_)
        · obtain rfl := Option.some.inj hk_10
          try dsimp only at hy_5
          obtain rfl := Option.some.inj hy_5
          try dsimp only at h
          try simp only [↓DN, UP, r1, r2, r3, r4, r5, r6, r7, reduceCtorEq, Try.f32, f1, f2]
          obtain rfl := Option.some.inj h
          refine endT_of ?_ ⟨rfl, rfl⟩
          exact (wn [0] [])
        · try simp only [↓DN, UP, r1, r2, r3, r4, r5, r6, r7, reduceCtorEq, Try.f32, f1, f2]
          exact ⟨IntKind.wrap .i64 (i_6 + 1), hk_10, (wn [0, 1, 5] [])⟩
      · obtain rfl := Option.some.inj hk_10
        try dsimp only at hy_5
        try simp only [↓DN, UP, r1, r2, r3, r4, r5, r6, r7, reduceCtorEq, Try.f32]
        obtain rfl := Option.some.inj hy_5
        exact cutT_mk () (by trivial) (wn [] [])
    · rintro _ hp
      replace hp := hp.symm; subst hp
      try dsimp only at h
      try simp only [↓DN, UP, r1, r2, r3, r4, r5, r6, r7, reduceCtorEq, Try.f32]
      obtain rfl := Option.some.inj h
      refine endT_of ?_ ⟨rfl, rfl⟩
      exact (wn [0] [])
theorem c_laws_eqStore {a_1 : GStore} {b_2 : GStore} {r : Bool} (h : g_laws_eqStore a_1 b_2 = some r) : Ans Try.prog 14 [.agg [.imm 1 a_1.Cells.length (a_1.Cells.flatMap (eI .u32))], .agg [.imm 1 b_2.Cells.length (b_2.Cells.flatMap (eI .u32))]] [] fun v h1 => v = .pv (.one (.bool r)) ∧ h1 = [] := by
  refine ansK (P := fun _ => Try.prog) TryT_eq (fn := Try.f14) Try.func14 rfl ⟨by kernel_rfl, rfl, rfl, by kernel_rfl⟩ (by simp) (Weak.refl _ _) ?_
  rw [g_laws_eqStore] at h
  try simp only [↓DN, UP, r1, r2, r3, r4, r5, r6, r7, reduceCtorEq, Try.f14]
  refine seqN TryT_eq rfl ?_
  obtain ⟨y_3, hy_3, h⟩ := bS h
  try simp only [↓DN, UP, r1, r2, r3, r4, r5, r6, r7, reduceCtorEq, Try.f14]
  refine cG [] (c_laws_eqUint32S hy_3) (hK := fun rd b => ?_)
  try simp only [↓DN, UP, r1, r2, r3, r4, r5, r6, r7, reduceCtorEq, Try.f14]
  refine stIf h (fun hb_4 h => ?_) (fun hb_4 h => ?_)
  · try simp only [↓DN, UP, r1, r2, r3, r4, r5, r6, r7, reduceCtorEq, Try.f14]
    obtain rfl := Option.some.inj h
    refine endT_of ?_ ⟨rfl, rfl⟩
    exact (wn [0] [])
  · try simp only [↓DN, UP, r1, r2, r3, r4, r5, r6, r7, reduceCtorEq, Try.f14]
    obtain rfl := Option.some.inj h
    refine endT_of ?_ ⟨rfl, rfl⟩
    exact (wn [0] [])
theorem c_laws_markUint32S {a_1 : List Int} {k_2 : Int} {r : Int × (List Int)} (h : g_laws_markUint32S a_1 k_2 = some r) : Ans Try.prog 33 [.one (.arr 0 0 a_1.length), .one (.int .i64 k_2)] [.live ⟨1, a_1.length, a_1.flatMap (eI .u32)⟩] fun v h1 => v = .pv (.one (.int .i64 r.1)) ∧ h1 = [.live ⟨1, r.2.length, r.2.flatMap (eI .u32)⟩] := by
  refine ansK (P := fun _ => Try.prog) TryT_eq (fn := Try.f33) Try.func33 rfl ⟨by kernel_rfl, rfl, rfl, by kernel_rfl⟩ (by simp) (Weak.refl _ _) ?_
  rw [g_laws_markUint32S] at h
  try simp only [↓DN, UP, r1, r2, r3, r4, r5, r6, r7, reduceCtorEq, Try.f33]
  obtain ⟨y_5, hy_6, h⟩ := bS h
  refine seqK TryT_eq (fun p : (List Int) × Int => ⟨[(1, .pv (.one (.int .i64 p.2)))], [.live ⟨1, p.1.length, p.1.flatMap (eI .u32)⟩]⟩) (fun v => y_5 = v) (by rfl) ?_ ?_
  · try simp only [↓DN, UP, r1, r2, r3, r4, r5, r6, r7, reduceCtorEq, Try.f33]
    obtain ⟨y_12, hy_13, hy_6⟩ := bS hy_6
    refine loopK TryT_eq (fun p : (List Int) × Int × Int => ⟨[(0, .pv (.one (.arr 0 0 p.1.length))), (1, .pv (.one (.int .i64 p.2.1))), (5, .pv (.one (.int .i64 p.2.2)))], [.live ⟨1, p.1.length, p.1.flatMap (eI .u32)⟩]⟩) (fun k p => g_laws_markUint32S_l0 k p.1 p.2.1 p.2.2 = some y_12) (by kernel_rfl) bigK (a_1, k_2, 0) (wn [0, 1, 5] [0]) hy_13 (fun _ h => nomatch (show none = some _ from h)) ?_
    rintro k_14 ⟨a_7, k_8, i_9⟩ hk_15
    rw [g_laws_markUint32S_l0] at hk_15
    try dsimp only at hk_15
    try simp only [↓DN, UP, r1, r2, r3, r4, r5, r6, r7, reduceCtorEq, Try.f33]
    refine seqN TryT_eq rfl ?_
    try simp only [↓DN, UP, r1, r2, r3, r4, r5, r6, r7, reduceCtorEq, Try.f33]
    refine stIf hk_15 (fun hb_16 hk_15 => ?_) (fun hb_16 hk_15 => ?_)
    · try simp only [↓DN, UP, r1, r2, r3, r4, r5, r6, r7, reduceCtorEq, Try.f33]
      refine seqN TryT_eq rfl ?_
      obtain ⟨v_17, hv_17, hk_15⟩ := bS hk_15
      have f1 := (fPtr hv_17 (k := 1) (n := a_7.length) (by simp))
      have f2 := (fPut0 (eI_ok .u32) hv_17 (ns := [.int .u32 (IntKind.wrap .u32 k_8)]) (y := IntKind.wrap .u32 k_8) rfl)
      try simp only [↓DN, UP, r1, r2, r3, r4, r5, r6, r7, reduceCtorEq, Try.f33, f1, f2]
      exact ⟨(a_7.set i_9.toNat (IntKind.wrap .u32 k_8), IntKind.wrap .i64 (k_8 + 1), IntKind.wrap .i64 (i_9 + 1)), hk_15, (weak_norm (ks := [0, 1, 5]) (π := [0]) (fuel := 9) (by simp only [WL, r1, r2, r3, r4, r5, r6, r7, reduceCtorEq, fWin (eI_ok .u32) (n := a_7.length) (xs := a_7.set i_9.toNat (IntKind.wrap .u32 k_8)) (by simp)]))⟩
    · obtain rfl := Option.some.inj hk_15
      try dsimp only at hy_6
      try simp only [↓DN, UP, r1, r2, r3, r4, r5, r6, r7, reduceCtorEq, Try.f33]
      obtain rfl := Option.some.inj hy_6
      exact cutT_mk (a_7, k_8) rfl (wn [1] [0])
  · rintro ⟨p_3, k_4⟩ hp
    replace hp := hp.symm; subst hp
    try dsimp only at h
    try simp only [↓DN, UP, r1, r2, r3, r4, r5, r6, r7, reduceCtorEq, Try.f33]
    obtain rfl := Option.some.inj h
    refine endT_of ?_ ⟨rfl, rfl⟩
    exact (wn [0] [0])
theorem c_laws_markStore {a_1 : GStore} {k_2 : Int} {r : Int × (List Int)} (h : g_laws_markStore a_1 k_2 = some r) : Ans Try.prog 15 [.agg [.arr 0 0 a_1.Cells.length], .one (.int .i64 k_2)] [.live ⟨1, a_1.Cells.length, a_1.Cells.flatMap (eI .u32)⟩] fun v h1 => v = .pv (.one (.int .i64 r.1)) ∧ h1 = [.live ⟨1, r.2.length, r.2.flatMap (eI .u32)⟩] := by
  refine ansK (P := fun _ => Try.prog) TryT_eq (fn := Try.f15) Try.func15 rfl ⟨by kernel_rfl, rfl, rfl, by kernel_rfl⟩ (by simp) (Weak.refl _ _) ?_
  rw [g_laws_markStore] at h
  obtain ⟨y_3, hy_3, h⟩ := bS h
  obtain ⟨u_4, hu_4, h⟩ := bS h
  try simp only [↓DN, UP, r1, r2, r3, r4, r5, r6, r7, reduceCtorEq, Try.f15]
  refine cG [0] (c_laws_markUint32S hy_3) (hk := (by simp only [WL, r1, r2, r3, r4, r5, r6, r7, reduceCtorEq, lenC_eq hu_4])) (hK := fun rd b => ?_)
  have f1 := (show CV.arr 0 0 a_1.Cells.length = .arr 0 0 y_3.2.length from by rw [lenC_eq hu_4])
  try simp only [↓DN, UP, r1, r2, r3, r4, r5, r6, r7, reduceCtorEq, Try.f15, f1]
  obtain rfl := Option.some.inj h
  refine endT_of ?_ ⟨rfl, rfl⟩
  exact (wn [0] [0])
theorem c_laws_heldUint32S {a_1 : List Int} {k_2 : Int} {r : Int} (h : g_laws_heldUint32S a_1 k_2 = some r) : Ans Try.prog 57 [.one (.imm 1 a_1.length (a_1.flatMap (eI .u32))), .one (.int .i64 k_2)] [] fun v h1 => v = .pv (.one (.int .i64 r)) ∧ h1 = [] := by
  refine ansK (P := fun _ => Try.prog) TryT_eq (fn := Try.f57) Try.func57 rfl ⟨by kernel_rfl, rfl, rfl, by kernel_rfl⟩ (by simp) (Weak.refl _ _) ?_
  rw [g_laws_heldUint32S] at h
  try simp only [↓DN, UP, r1, r2, r3, r4, r5, r6, r7, reduceCtorEq, Try.f57]
  obtain ⟨y_4, hy_5, h⟩ := bS h
  refine seqK TryT_eq (fun p : Int => ⟨[(1, .pv (.one (.int .i64 p)))], []⟩) (fun v => y_4 = .inl v) (by rfl) ?_ ?_
  · try simp only [↓DN, UP, r1, r2, r3, r4, r5, r6, r7, reduceCtorEq, Try.f57]
    obtain ⟨y_9, hy_10, hy_5⟩ := bS hy_5
    refine loopK TryT_eq (fun p : Int × Int => ⟨[(0, .pv (.one (.imm 1 a_1.length (a_1.flatMap (eI .u32))))), (1, .pv (.one (.int .i64 p.1))), (5, .pv (.one (.int .i64 p.2)))], []⟩) (fun k p => g_laws_heldUint32S_l0 a_1 k p.1 p.2 = some y_9) (by kernel_rfl) bigK (k_2, 0) (wn [0, 1, 5] []) hy_10 (fun _ h => nomatch (show none = some _ from h)) ?_
    rintro k_11 ⟨k_6, i_7⟩ hk_12
    rw [g_laws_heldUint32S_l0] at hk_12
    try dsimp only at hk_12
    try simp only [↓DN, UP, r1, r2, r3, r4, r5, r6, r7, reduceCtorEq, Try.f57]
    refine seqN TryT_eq rfl ?_
    try simp only [↓DN, UP, r1, r2, r3, r4, r5, r6, r7, reduceCtorEq, Try.f57]
    refine stIf hk_12 (fun hb_13 hk_12 => ?_) (fun hb_13 hk_12 => ?_)
    · try simp only [↓DN, UP, r1, r2, r3, r4, r5, r6, r7, reduceCtorEq, Try.f57]
      refine seqN TryT_eq rfl ?_
      try simp only [↓DN, UP, r1, r2, r3, r4, r5, r6, r7, reduceCtorEq, Try.f57]
      refine seqN TryT_eq rfl ?_
      obtain ⟨v_14, hv_14, hk_12⟩ := bS hk_12
      have f1 := (fAt (eI_ok .u32) hv_14 (n := a_1.length) (by simp))
      try simp only [↓DN, UP, r1, r2, r3, r4, r5, r6, r7, reduceCtorEq, Try.f57, f1]
      refine stIf hk_12 (fun hb_15 hk_12 => ?_) (fun hb_15 hk_12 => ?_)
      · obtain rfl := Option.some.inj hk_12
        try dsimp only at hy_5
        obtain rfl := Option.some.inj hy_5
        try dsimp only at h
        try simp only [↓DN, UP, r1, r2, r3, r4, r5, r6, r7, reduceCtorEq, Try.f57, f1]
        obtain rfl := Option.some.inj h
        refine endT_of ?_ ⟨rfl, rfl⟩
        exact (wn [0] [])
      · try simp only [↓DN, UP, r1, r2, r3, r4, r5, r6, r7, reduceCtorEq, Try.f57, f1]
        exact ⟨(IntKind.wrap .i64 (k_6 + 1), IntKind.wrap .i64 (i_7 + 1)), hk_12, (wn [0, 1, 5] [])⟩
    · obtain rfl := Option.some.inj hk_12
      try dsimp only at hy_5
      try simp only [↓DN, UP, r1, r2, r3, r4, r5, r6, r7, reduceCtorEq, Try.f57]
      obtain rfl := Option.some.inj hy_5
      exact cutT_mk k_6 rfl (wn [1] [])
  · rintro k_3 hp
    replace hp := hp.symm; subst hp
    try dsimp only at h
    try simp only [↓DN, UP, r1, r2, r3, r4, r5, r6, r7, reduceCtorEq, Try.f57]
    obtain rfl := Option.some.inj h
    refine endT_of ?_ ⟨rfl, rfl⟩
    exact (wn [0] [])
theorem c_laws_heldStore {a_1 : GStore} {k_2 : Int} {r : Int} (h : g_laws_heldStore a_1 k_2 = some r) : Ans Try.prog 27 [.agg [.imm 1 a_1.Cells.length (a_1.Cells.flatMap (eI .u32))], .one (.int .i64 k_2)] [] fun v h1 => v = .pv (.one (.int .i64 r)) ∧ h1 = [] := by
  refine ansK (P := fun _ => Try.prog) TryT_eq (fn := Try.f27) Try.func27 rfl ⟨by kernel_rfl, rfl, rfl, by kernel_rfl⟩ (by simp) (Weak.refl _ _) ?_
  rw [g_laws_heldStore] at h
  obtain ⟨y_3, hy_3, h⟩ := bS h
  try simp only [↓DN, UP, r1, r2, r3, r4, r5, r6, r7, reduceCtorEq, Try.f27]
  refine cG [] (c_laws_heldUint32S hy_3) (hK := fun rd b => ?_)
  try simp only [↓DN, UP, r1, r2, r3, r4, r5, r6, r7, reduceCtorEq, Try.f27]
  refine seqN TryT_eq rfl ?_
  try simp only [↓DN, UP, r1, r2, r3, r4, r5, r6, r7, reduceCtorEq, Try.f27]
  refine stIf h (fun hb_4 h => ?_) (fun hb_4 h => ?_)
  · try simp only [↓DN, UP, r1, r2, r3, r4, r5, r6, r7, reduceCtorEq, Try.f27]
    obtain rfl := Option.some.inj h
    refine endT_of ?_ ⟨rfl, rfl⟩
    exact (wn [0] [])
  · try simp only [↓DN, UP, r1, r2, r3, r4, r5, r6, r7, reduceCtorEq, Try.f27]
    obtain rfl := Option.some.inj h
    refine endT_of ?_ ⟨rfl, rfl⟩
    exact (wn [0] [])
theorem c_laws_FnExactRename {aS_1 : GStore} {aFrom_2 : Bs} {aTo_3 : Bs} {r : Bool} (h : g_laws_FnExactRename aS_1 aFrom_2 aTo_3 = some r) : Ans Try.prog 6 [.agg [.imm 1 aS_1.Cells.length (aS_1.Cells.flatMap (eI .u32))], .one (.str aFrom_2), .one (.str aTo_3)] [] fun v h1 => v = .pv (.one (.bool r)) ∧ h1 = [] := by
  refine ansK (P := fun _ => Try.prog) TryT_eq (fn := Try.f6) Try.func6 rfl ⟨by kernel_rfl, rfl, rfl, by kernel_rfl⟩ (by simp) (Weak.refl _ _) ?_
  rw [g_laws_FnExactRename] at h
  try simp only [↓DN, UP, r1, r2, r3, r4, r5, r6, r7, reduceCtorEq, Try.f6]
  refine seqN TryT_eq rfl ?_
  try simp only [↓DN, UP, r1, r2, r3, r4, r5, r6, r7, reduceCtorEq, Try.f6]
  refine stIf h (fun hb_4 h => ?_) (fun hb_4 h => ?_)
  · try simp only [↓DN, UP, r1, r2, r3, r4, r5, r6, r7, reduceCtorEq, Try.f6]
    obtain rfl := Option.some.inj h
    refine endT_of ?_ ⟨rfl, rfl⟩
    exact (wn [0] [])
  · try simp only [↓DN, UP, r1, r2, r3, r4, r5, r6, r7, reduceCtorEq, Try.f6]
    refine seqN TryT_eq rfl ?_
    try simp only [↓DN, UP, r1, r2, r3, r4, r5, r6, r7, reduceCtorEq, Try.f6]
    refine stIf h (fun hb_5 h => ?_) (fun hb_5 h => ?_)
    · try simp only [↓DN, UP, r1, r2, r3, r4, r5, r6, r7, reduceCtorEq, Try.f6]
      obtain rfl := Option.some.inj h
      refine endT_of ?_ ⟨rfl, rfl⟩
      exact (wn [0] [])
    · obtain ⟨y_6, hy_6, h⟩ := bS h
      try simp only [↓DN, UP, r1, r2, r3, r4, r5, r6, r7, reduceCtorEq, Try.f6]
      refine cG [] (c_laws_szStore hy_6) (hK := fun rd b => ?_)
      try simp only [↓DN, UP, r1, r2, r3, r4, r5, r6, r7, reduceCtorEq, Try.f6]
      refine seqN TryT_eq rfl ?_
      try simp only [↓DN, UP, r1, r2, r3, r4, r5, r6, r7, reduceCtorEq, Try.f6]
      refine stIf h (fun hb_7 h => ?_) (fun hb_7 h => ?_)
      · try simp only [↓DN, UP, r1, r2, r3, r4, r5, r6, r7, reduceCtorEq, Try.f6]
        obtain rfl := Option.some.inj h
        refine endT_of ?_ ⟨rfl, rfl⟩
        exact (wn [0] [])
      · obtain ⟨y_8, hy_8, h⟩ := bS h
        try simp only [↓DN, UP, r1, r2, r3, r4, r5, r6, r7, reduceCtorEq, Try.f6]
        refine cG [] (c_laws_toStore hy_8) (hK := fun rd b => ?_)
        obtain ⟨y_9, hy_9, h⟩ := bS h
        try simp only [↓DN, UP, r1, r2, r3, r4, r5, r6, r7, reduceCtorEq, Try.f6]
        refine cG [] (c_spec_Rename hy_9) (hK := fun rd b => ?_)
        obtain ⟨y_10, hy_10, h⟩ := bS h
        try simp only [↓DN, UP, r1, r2, r3, r4, r5, r6, r7, reduceCtorEq, Try.f6]
        refine cG [] (c_laws_toStore hy_10) (hK := fun rd b => ?_)
        obtain ⟨y_11, hy_11, h⟩ := bS h
        try simp only [↓DN, UP, r1, r2, r3, r4, r5, r6, r7, reduceCtorEq, Try.f6]
        refine cG [] (c_impl_Rename hy_11) (hK := fun rd b => ?_)
        try simp only [↓DN, UP, r1, r2, r3, r4, r5, r6, r7, reduceCtorEq, Try.f6]
        refine seqN TryT_eq rfl ?_
        try simp only [↓DN, UP, r1, r2, r3, r4, r5, r6, r7, reduceCtorEq, Try.f6]
        obtain ⟨y_13, hy_14, h⟩ := bS h
        refine seqK TryT_eq (fun p : Bool => ⟨[(1, .pv (.one (.str aFrom_2))), (2, .pv (.one (.str aTo_3))), (3, .pv (.one (.ptr 0 0))), (8, .pv (.one (.ptr 1 0))), (9, .pv (.one (.bool y_9.2))), (10, .pv (.one (.ptr 3 0))), (11, .pv (.one (.ptr 5 0))), (12, .pv (.one (.bool y_11.2))), (54, .pv (.one (.bool p)))], [.live ⟨1, 1, [.imm 1 aS_1.Cells.length (aS_1.Cells.flatMap (eI .u32))]⟩, .live ⟨1, 1, [.arr 2 0 y_9.1.Cells.length]⟩, .live ⟨1, y_9.1.Cells.length, y_9.1.Cells.flatMap (eI .u32)⟩, .live ⟨1, 1, [.arr 4 0 y_10.Cells.length]⟩, .live ⟨1, y_10.Cells.length, y_10.Cells.flatMap (eI .u32)⟩, .live ⟨1, 1, [.arr 6 0 y_11.1.Cells.length]⟩, .live ⟨1, y_11.1.Cells.length, y_11.1.Cells.flatMap (eI .u32)⟩]⟩) (fun v => y_13 = v) (by rfl) ?_ ?_
        · obtain ⟨y_15, hy_15, hy_14⟩ := bS hy_14
          try simp only [↓DN, UP, r1, r2, r3, r4, r5, r6, r7, reduceCtorEq, Try.f6]
          refine cG [] (c_laws_eqStore hy_15) (hK := fun rd b => ?_)
          try simp only [↓DN, UP, r1, r2, r3, r4, r5, r6, r7, reduceCtorEq, Try.f6]
          refine stIf hy_14 (fun hb_16 hy_14 => ?_) (fun hb_16 hy_14 => ?_)
          · try simp only [↓DN, UP, r1, r2, r3, r4, r5, r6, r7, reduceCtorEq, Try.f6, hb_16]
            obtain rfl := Option.some.inj hy_14
            exact cutT_mk true rfl (wn [1, 2, 3, 8, 9, 10, 11, 12, 54] [0, 3, 2, 5, 4, 7, 6])
          · try simp only [↓DN, UP, r1, r2, r3, r4, r5, r6, r7, reduceCtorEq, Try.f6, hb_16]
            obtain rfl := Option.some.inj hy_14
            exact cutT_mk (y_11.2 != y_9.2) rfl (wn [1, 2, 3, 8, 9, 10, 11, 12, 54] [0, 3, 2, 5, 4, 7, 6])
        · rintro v_12 hp
          replace hp := hp.symm; subst hp
          try dsimp only at h
          try simp only [↓DN, UP, r1, r2, r3, r4, r5, r6, r7, reduceCtorEq, Try.f6]
          refine stIf h (fun hb_17 h => ?_) (fun hb_17 h => ?_)
          · try simp only [↓DN, UP, r1, r2, r3, r4, r5, r6, r7, reduceCtorEq, Try.f6]
            obtain rfl := Option.some.inj h
            refine endT_of ?_ ⟨rfl, rfl⟩
            exact (wn [0] [])
          · try simp only [↓DN, UP, r1, r2, r3, r4, r5, r6, r7, reduceCtorEq, Try.f6]
            refine seqN TryT_eq rfl ?_
            obtain ⟨y_18, hy_18, h⟩ := bS h
            try simp only [↓DN, UP, r1, r2, r3, r4, r5, r6, r7, reduceCtorEq, Try.f6]
            refine callE [] (rd1 := []) (rd2 := []) 9 rfl (by simp only [WL, r1, r2, r3, r4, r5, r6, r7, reduceCtorEq]) (by simp only [WL, r1, r2, r3, r4, r5, r6, r7, reduceCtorEq]) rfl (c_laws_toStore hy_18) (by simp only [WL, r1, r2, r3, r4, r5, r6, r7, reduceCtorEq]) ?_
            obtain ⟨y_19, hy_19, h⟩ := bS h
            try simp only [↓DN, UP, r1, r2, r3, r4, r5, r6, r7, reduceCtorEq, Try.f6]
            refine callE [] (rd1 := [4, 7]) (rd2 := []) 9 rfl (by simp only [WL, r1, r2, r3, r4, r5, r6, r7, reduceCtorEq]) (by simp only [WL, r1, r2, r3, r4, r5, r6, r7, reduceCtorEq]) rfl (c_laws_eqStore hy_19) (by simp only [WL, r1, r2, r3, r4, r5, r6, r7, reduceCtorEq]) ?_
            try simp only [↓DN, UP, r1, r2, r3, r4, r5, r6, r7, reduceCtorEq, Try.f6]
            refine ⟨rfl, ?_⟩
            try simp only [↓DN, UP, r1, r2, r3, r4, r5, r6, r7, reduceCtorEq, Try.f6]
            refine stIf h (fun hb_20 h => ?_) (fun hb_20 h => ?_)
            · try simp only [↓DN, UP, r1, r2, r3, r4, r5, r6, r7, reduceCtorEq, Try.f6]
              obtain rfl := Option.some.inj h
              refine endT_of ?_ ⟨rfl, rfl⟩
              exact (wn [0] [])
            · obtain ⟨y_21, hy_21, h⟩ := bS h
              obtain ⟨u_22, hu_22, h⟩ := bS h
              try simp only [↓DN, UP, r1, r2, r3, r4, r5, r6, r7, reduceCtorEq, Try.f6]
              refine cG [4] (c_laws_markStore hy_21) (hk := (by simp only [WL, r1, r2, r3, r4, r5, r6, r7, reduceCtorEq, lenC_eq hu_22])) (hK := fun rd b => ?_)
              have f1 := (show CV.arr 4 0 y_10.Cells.length = .arr 4 0 y_21.2.length from by rw [lenC_eq hu_22])
              try simp only [↓DN, UP, r1, r2, r3, r4, r5, r6, r7, reduceCtorEq, Try.f6, f1]
              refine seqN TryT_eq rfl ?_
              try simp only [↓DN, UP, r1, r2, r3, r4, r5, r6, r7, reduceCtorEq, Try.f6, f1]
              obtain ⟨y_24, hy_25, h⟩ := bS h
              refine seqK TryT_eq (fun p : Bool => ⟨[(1, .pv (.one (.str aFrom_2))), (2, .pv (.one (.str aTo_3))), (3, .pv (.one (.ptr 0 0))), (8, .pv (.one (.ptr 1 0))), (9, .pv (.one (.bool y_9.2))), (11, .pv (.one (.ptr 3 0))), (75, .pv (.one (.bool p)))], [.live ⟨1, 1, [.imm 1 aS_1.Cells.length (aS_1.Cells.flatMap (eI .u32))]⟩, .live ⟨1, 1, [.arr 2 0 y_9.1.Cells.length]⟩, .live ⟨1, y_9.1.Cells.length, y_9.1.Cells.flatMap (eI .u32)⟩, .live ⟨1, 1, [.arr 4 0 y_11.1.Cells.length]⟩, .live ⟨1, y_11.1.Cells.length, y_11.1.Cells.flatMap (eI .u32)⟩]⟩) (fun v => y_24 = v) (by rfl) ?_ ?_
              · try simp only [↓DN, UP, r1, r2, r3, r4, r5, r6, r7, reduceCtorEq, Try.f6, f1]
                refine stIf hy_25 (fun hb_26 hy_25 => ?_) (fun hb_26 hy_25 => ?_)
                · try simp only [↓DN, UP, r1, r2, r3, r4, r5, r6, r7, reduceCtorEq, Try.f6, f1, hb_26]
                  obtain rfl := Option.some.inj hy_25
                  exact cutT_mk true rfl (wn [1, 2, 3, 8, 9, 11, 75] [0, 1, 2, 5, 6])
                · obtain ⟨y_27, hy_27, hy_25⟩ := bS hy_25
                  try simp only [↓DN, UP, r1, r2, r3, r4, r5, r6, r7, reduceCtorEq, Try.f6, f1, hb_26]
                  refine cG [] (c_laws_eqStore hy_27) (hK := fun rd b => ?_)
                  try simp only [↓DN, UP, r1, r2, r3, r4, r5, r6, r7, reduceCtorEq, Try.f6, f1, hb_26]
                  refine stIf hy_25 (fun hb_28 hy_25 => ?_) (fun hb_28 hy_25 => ?_)
                  · try simp only [↓DN, UP, r1, r2, r3, r4, r5, r6, r7, reduceCtorEq, Try.f6, f1, hb_26, hb_28]
                    obtain rfl := Option.some.inj hy_25
                    exact cutT_mk true rfl (wn [1, 2, 3, 8, 9, 11, 75] [0, 1, 2, 5, 6])
                  · try simp only [↓DN, UP, r1, r2, r3, r4, r5, r6, r7, reduceCtorEq, Try.f6, f1, hb_26, hb_28]
                    obtain rfl := Option.some.inj hy_25
                    exact cutT_mk (y_11.2 != y_9.2) rfl (wn [1, 2, 3, 8, 9, 11, 75] [0, 1, 2, 5, 6])
              · rintro v_23 hp
                replace hp := hp.symm; subst hp
                try dsimp only at h
                try simp only [↓DN, UP, r1, r2, r3, r4, r5, r6, r7, reduceCtorEq, Try.f6]
                refine stIf h (fun hb_29 h => ?_) (fun hb_29 h => ?_)
                · try simp only [↓DN, UP, r1, r2, r3, r4, r5, r6, r7, reduceCtorEq, Try.f6]
                  obtain rfl := Option.some.inj h
                  refine endT_of ?_ ⟨rfl, rfl⟩
                  exact (wn [0] [])
                · obtain ⟨y_30, hy_30, h⟩ := bS h
                  obtain ⟨u_31, hu_31, h⟩ := bS h
                  try simp only [↓DN, UP, r1, r2, r3, r4, r5, r6, r7, reduceCtorEq, Try.f6]
                  refine cG [4] (c_laws_markStore hy_30) (hk := (by simp only [WL, r1, r2, r3, r4, r5, r6, r7, reduceCtorEq, lenC_eq hu_31])) (hK := fun rd b => ?_)
                  obtain ⟨y_32, hy_32, h⟩ := bS h
                  have f2 := (show CV.arr 4 0 y_11.1.Cells.length = .arr 4 0 y_30.2.length from by rw [lenC_eq hu_31])
                  try simp only [↓DN, UP, r1, r2, r3, r4, r5, r6, r7, reduceCtorEq, Try.f6, f2]
                  refine cG [] (c_laws_heldStore hy_32) (hK := fun rd b => ?_)
                  try simp only [↓DN, UP, r1, r2, r3, r4, r5, r6, r7, reduceCtorEq, Try.f6, f2]
                  refine seqN TryT_eq rfl ?_
                  try simp only [↓DN, UP, r1, r2, r3, r4, r5, r6, r7, reduceCtorEq, Try.f6, f2]
                  refine stIf h (fun hb_33 h => ?_) (fun hb_33 h => ?_)
                  · try simp only [↓DN, UP, r1, r2, r3, r4, r5, r6, r7, reduceCtorEq, Try.f6, f2]
                    obtain rfl := Option.some.inj h
                    refine endT_of ?_ ⟨rfl, rfl⟩
                    exact (wn [0] [])
                  · try simp only [↓DN, UP, r1, r2, r3, r4, r5, r6, r7, reduceCtorEq, Try.f6, f2]
                    refine seqN TryT_eq rfl ?_
                    try simp only [↓DN, UP, r1, r2, r3, r4, r5, r6, r7, reduceCtorEq, Try.f6, f2]
                    refine stIf h (fun hb_34 h => ?_) (fun hb_34 h => ?_)
                    · try simp only [↓DN, UP, r1, r2, r3, r4, r5, r6, r7, reduceCtorEq, Try.f6, f2]
                      obtain rfl := Option.some.inj h
                      refine endT_of ?_ ⟨rfl, rfl⟩
                      exact (wn [0] [])
                    · obtain ⟨y_35, hy_35, h⟩ := bS h
                      try simp only [↓DN, UP, r1, r2, r3, r4, r5, r6, r7, reduceCtorEq, Try.f6, f2]
                      refine cG [] (c_laws_toStore hy_35) (hK := fun rd b => ?_)
                      obtain ⟨y_36, hy_36, h⟩ := bS h
                      try simp only [↓DN, UP, r1, r2, r3, r4, r5, r6, r7, reduceCtorEq, Try.f6, f2]
                      refine cG [] (c_impl_Rename hy_36) (hK := fun rd b => ?_)
                      try simp only [↓DN, UP, r1, r2, r3, r4, r5, r6, r7, reduceCtorEq, Try.f6, f2]
                      refine seqN TryT_eq rfl ?_
                      try simp only [↓DN, UP, r1, r2, r3, r4, r5, r6, r7, reduceCtorEq, Try.f6, f2]
                      obtain ⟨y_38, hy_39, h⟩ := bS h
                      refine seqK TryT_eq (fun p : Bool => ⟨[(11, .pv (.one (.ptr 0 0))), (14, .pv (.one (.int .i64 y_30.1))), (103, .pv (.one (.bool p)))], [.live ⟨1, 1, [.arr 1 0 y_30.2.length]⟩, .live ⟨1, y_30.2.length, y_30.2.flatMap (eI .u32)⟩]⟩) (fun v => y_38 = v) (by rfl) ?_ ?_
                      · obtain ⟨y_40, hy_40, hy_39⟩ := bS hy_39
                        try simp only [↓DN, UP, r1, r2, r3, r4, r5, r6, r7, reduceCtorEq, Try.f6, f2]
                        refine cG [] (c_laws_eqStore hy_40) (hK := fun rd b => ?_)
                        try simp only [↓DN, UP, r1, r2, r3, r4, r5, r6, r7, reduceCtorEq, Try.f6, f2]
                        refine stIf hy_39 (fun hb_41 hy_39 => ?_) (fun hb_41 hy_39 => ?_)
                        · try simp only [↓DN, UP, r1, r2, r3, r4, r5, r6, r7, reduceCtorEq, Try.f6, f2, hb_41]
                          obtain rfl := Option.some.inj hy_39
                          exact cutT_mk true rfl (wn [11, 14, 103] [3, 4])
                        · try simp only [↓DN, UP, r1, r2, r3, r4, r5, r6, r7, reduceCtorEq, Try.f6, f2, hb_41]
                          obtain rfl := Option.some.inj hy_39
                          exact cutT_mk (y_36.2 != y_9.2) rfl (wn [11, 14, 103] [3, 4])
                      · rintro v_37 hp
                        replace hp := hp.symm; subst hp
                        try dsimp only at h
                        try simp only [↓DN, UP, r1, r2, r3, r4, r5, r6, r7, reduceCtorEq, Try.f6]
                        refine stIf h (fun hb_42 h => ?_) (fun hb_42 h => ?_)
                        · try simp only [↓DN, UP, r1, r2, r3, r4, r5, r6, r7, reduceCtorEq, Try.f6]
                          obtain rfl := Option.some.inj h
                          refine endT_of ?_ ⟨rfl, rfl⟩
                          exact (wn [0] [])
                        · obtain ⟨y_43, hy_43, h⟩ := bS h
                          try simp only [↓DN, UP, r1, r2, r3, r4, r5, r6, r7, reduceCtorEq, Try.f6]
                          refine cG [] (c_laws_heldStore hy_43) (hK := fun rd b => ?_)
                          try simp only [↓DN, UP, r1, r2, r3, r4, r5, r6, r7, reduceCtorEq, Try.f6]
                          refine seqN TryT_eq rfl ?_
                          try simp only [↓DN, UP, r1, r2, r3, r4, r5, r6, r7, reduceCtorEq, Try.f6]
                          refine stIf h (fun hb_44 h => ?_) (fun hb_44 h => ?_)
                          · try simp only [↓DN, UP, r1, r2, r3, r4, r5, r6, r7, reduceCtorEq, Try.f6]
                            obtain rfl := Option.some.inj h
                            refine endT_of ?_ ⟨rfl, rfl⟩
                            exact (wn [0] [])
                          · try simp only [↓DN, UP, r1, r2, r3, r4, r5, r6, r7, reduceCtorEq, Try.f6]
                            refine seqN TryT_eq rfl ?_
                            try simp only [↓DN, UP, r1, r2, r3, r4, r5, r6, r7, reduceCtorEq, Try.f6]
                            refine stIf h (fun hb_45 h => ?_) (fun hb_45 h => ?_)
                            · try simp only [↓DN, UP, r1, r2, r3, r4, r5, r6, r7, reduceCtorEq, Try.f6]
                              obtain rfl := Option.some.inj h
                              refine endT_of ?_ ⟨rfl, rfl⟩
                              exact (wn [0] [])
                            · try simp only [↓DN, UP, r1, r2, r3, r4, r5, r6, r7, reduceCtorEq, Try.f6]
                              obtain rfl := Option.some.inj h
                              refine endT_of ?_ ⟨rfl, rfl⟩
                              exact (wn [0] [])
end Go.Proofs.Ythhoellakpnjpaa
