import Derived.Test.YthhoellakpnjpaaCA
namespace Go.Proofs.Ythhoellakpnjpaa
open Go Go.Fm
open Nat renaming reduceEqDiff → r1, reduceLT → r2, reduceLeDiff → r3, reduceAdd → r4, reduceMul → r5, reduceSub → r6
open Int renaming reduceToNat → r7
set_option maxRecDepth 100000
set_option linter.unusedVariables false
set_option linter.unusedSimpArgs false
theorem c_impl_common {a_1 : List GItem} {b_2 : List GItem} {r : Int} (h : g_impl_common a_1 b_2 = some r) : Ans Try.prog 63 [.one (.imm 5 a_1.length (a_1.flatMap GItem.cs)), .one (.imm 5 b_2.length (b_2.flatMap GItem.cs))] [] fun v h1 => v = .pv (.one (.int .i64 r)) ∧ h1 = [] := by
  refine ansK (P := fun _ => Try.prog) TryT_eq (fn := Try.f63) Try.func63 rfl ⟨by kernel_rfl, rfl, rfl, by kernel_rfl⟩ (by simp) (Weak.refl _ _) ?_
  rw [g_impl_common] at h
  obtain ⟨v_3, hv_3, h⟩ := bS h
  have f1 := (fMk hv_3)
  have f2 := (fMkC (e := (eI .i64)) (ns := [.int .i64 0]) hv_3 rfl)
  try simp only [↓DN, UP, r1, r2, r3, r4, r5, r6, r7, reduceCtorEq, Try.f63, f1, f2]
  obtain ⟨y_5, hy_6, h⟩ := bS h
  refine seqK TryT_eq (fun p : (List Int) => ⟨[(1, .pv (.one (.imm 5 b_2.length (b_2.flatMap GItem.cs)))), (5, .pv (.one (.arr 0 0 p.length)))], [.live ⟨1, p.length, p.flatMap (eI .i64)⟩]⟩) (fun v => y_5 = v) (by rfl) ?_ ?_
  · try simp only [↓DN, UP, r1, r2, r3, r4, r5, r6, r7, reduceCtorEq, Try.f63, f1, f2]
    obtain ⟨y_10, hy_11, hy_6⟩ := bS hy_6
    refine loopK TryT_eq (fun p : (List Int) × Int => ⟨[(1, .pv (.one (.imm 5 b_2.length (b_2.flatMap GItem.cs)))), (5, .pv (.one (.arr 0 0 p.1.length))), (15, .pv (.one (.imm 5 a_1.length (a_1.flatMap GItem.cs)))), (16, .pv (.one (.int .i64 (a_1.length : Int)))), (17, .pv (.one (.int .i64 p.2)))], [.live ⟨1, p.1.length, p.1.flatMap (eI .i64)⟩]⟩) (fun k p => g_impl_common_l0 a_1 b_2 v_3 k p.1 p.2 = some y_10) (by kernel_rfl) bigK (v_3, 0) (wn [1, 5, 15, 16, 17] [0]) hy_11 (fun _ h => nomatch (show none = some _ from h)) ?_
    rintro k_12 ⟨row_7, v_8⟩ hk_13
    rw [g_impl_common_l0] at hk_13
    try dsimp only at hk_13
    try simp only [↓DN, UP, r1, r2, r3, r4, r5, r6, r7, reduceCtorEq, Try.f63]
    refine seqN TryT_eq rfl ?_
    try simp only [↓DN, UP, r1, r2, r3, r4, r5, r6, r7, reduceCtorEq, Try.f63]
    refine stIf hk_13 (fun hb_14 hk_13 => ?_) (fun hb_14 hk_13 => ?_)
    · try simp only [↓DN, UP, r1, r2, r3, r4, r5, r6, r7, reduceCtorEq, Try.f63]
      obtain ⟨y_16, hy_17, hk_13⟩ := bS hk_13
      refine seqK TryT_eq (fun p : (List Int) => ⟨[(1, .pv (.one (.imm 5 b_2.length (b_2.flatMap GItem.cs)))), (5, .pv (.one (.arr 0 0 p.length))), (15, .pv (.one (.imm 5 a_1.length (a_1.flatMap GItem.cs)))), (16, .pv (.one (.int .i64 (a_1.length : Int)))), (17, .pv (.one (.int .i64 v_8)))], [.live ⟨1, p.length, p.flatMap (eI .i64)⟩]⟩) (fun v => y_16 = v) (by rfl) ?_ ?_
      · obtain ⟨v_18, hv_18, hy_17⟩ := bS hy_17
        have f3 := (fAt GItem.ok hv_18 (n := a_1.length) (by simp))
        have f4 := (fMk hv_3)
        have f5 := (fMkC (e := (eI .i64)) (ns := [.int .i64 0]) hv_3 rfl)
        try simp only [↓DN, UP, r1, r2, r3, r4, r5, r6, r7, reduceCtorEq, Try.f63, f3, f4, f5]
        obtain ⟨y_20, hy_21, hy_17⟩ := bS hy_17
        refine seqK TryT_eq (fun p : (List Int) => ⟨[(1, .pv (.one (.imm 5 b_2.length (b_2.flatMap GItem.cs)))), (8, .pv (.one (.arr 0 0 p.length))), (15, .pv (.one (.imm 5 a_1.length (a_1.flatMap GItem.cs)))), (16, .pv (.one (.int .i64 (a_1.length : Int)))), (17, .pv (.one (.int .i64 v_8)))], [.live ⟨1, p.length, p.flatMap (eI .i64)⟩]⟩) (fun v => y_20 = v) (by rfl) ?_ ?_
        · try simp only [↓DN, UP, r1, r2, r3, r4, r5, r6, r7, reduceCtorEq, Try.f63, f3, f4, f5]
          obtain ⟨y_25, hy_26, hy_21⟩ := bS hy_21
          refine loopK TryT_eq (fun p : (List Int) × Int => ⟨[(1, .pv (.one (.imm 5 b_2.length (b_2.flatMap GItem.cs)))), (5, .pv (.one (.arr 0 0 row_7.length))), (7, .pv (.one (.ptr 1 0))), (8, .pv (.one (.arr 2 0 p.1.length))), (15, .pv (.one (.imm 5 a_1.length (a_1.flatMap GItem.cs)))), (16, .pv (.one (.int .i64 (a_1.length : Int)))), (17, .pv (.one (.int .i64 v_8))), (25, .pv (.one (.imm 5 b_2.length (b_2.flatMap GItem.cs)))), (26, .pv (.one (.int .i64 (b_2.length : Int)))), (27, .pv (.one (.int .i64 p.2)))], [.live ⟨1, row_7.length, row_7.flatMap (eI .i64)⟩, .live ⟨1, 5, [.int .i64 v_18.Kind, .str v_18.Name, .int .i32 v_18.N, .bool v_18.Hex, .int .u32 v_18.Raw]⟩, .live ⟨1, p.1.length, p.1.flatMap (eI .i64)⟩]⟩) (fun k p => g_impl_common_l1 b_2 row_7 v_18 k p.1 p.2 = some y_25) (by kernel_rfl) bigK (v_3, 0) (wn [1, 5, 7, 8, 15, 16, 17, 25, 26, 27] [0, 1, 2]) hy_26 (fun _ h => nomatch (show none = some _ from h)) ?_
          rintro k_27 ⟨next_22, v_23⟩ hk_28
          rw [g_impl_common_l1] at hk_28
          try dsimp only at hk_28
          try simp only [↓DN, UP, r1, r2, r3, r4, r5, r6, r7, reduceCtorEq, Try.f63]
          refine seqN TryT_eq rfl ?_
          try simp only [↓DN, UP, r1, r2, r3, r4, r5, r6, r7, reduceCtorEq, Try.f63]
          refine stIf hk_28 (fun hb_29 hk_28 => ?_) (fun hb_29 hk_28 => ?_)
          · try simp only [↓DN, UP, r1, r2, r3, r4, r5, r6, r7, reduceCtorEq, Try.f63]
            obtain ⟨y_31, hy_32, hk_28⟩ := bS hk_28
            refine seqK TryT_eq (fun p : (List Int) => ⟨[(1, .pv (.one (.imm 5 b_2.length (b_2.flatMap GItem.cs)))), (5, .pv (.one (.arr 0 0 row_7.length))), (7, .pv (.one (.ptr 1 0))), (8, .pv (.one (.arr 2 0 p.length))), (15, .pv (.one (.imm 5 a_1.length (a_1.flatMap GItem.cs)))), (16, .pv (.one (.int .i64 (a_1.length : Int)))), (17, .pv (.one (.int .i64 v_8))), (25, .pv (.one (.imm 5 b_2.length (b_2.flatMap GItem.cs)))), (26, .pv (.one (.int .i64 (b_2.length : Int)))), (27, .pv (.one (.int .i64 v_23)))], [.live ⟨1, row_7.length, row_7.flatMap (eI .i64)⟩, .live ⟨1, 5, [.int .i64 v_18.Kind, .str v_18.Name, .int .i32 v_18.N, .bool v_18.Hex, .int .u32 v_18.Raw]⟩, .live ⟨1, p.length, p.flatMap (eI .i64)⟩]⟩) (fun v => y_31 = v) (by rfl) ?_ ?_
            · obtain ⟨v_33, hv_33, hy_32⟩ := bS hy_32
              obtain ⟨v_34, hv_34, hy_32⟩ := bS hy_32
              obtain ⟨v_35, hv_35, hy_32⟩ := bS hy_32
              obtain ⟨v_36, hv_36, hy_32⟩ := bS hy_32
              have f6 := (fAt GItem.ok hv_33 (n := b_2.length) (by simp))
              have f7 := (fPtr hv_34 (k := 1) (n := next_22.length) (by simp))
              have f8 := (fGet0 (eI_ok .i64) hv_34 (m := 1) (by decide) (by decide))
              have f9 := (fPtr hv_35 (k := 1) (n := row_7.length) (by simp))
              have f10 := (fGet0 (eI_ok .i64) hv_35 (m := 1) (by decide) (by decide))
              have f11 := (fPtr hv_36 (k := 1) (n := next_22.length) (by simp))
              have f12 := (fPut0 (eI_ok .i64) hv_36 (ns := [.int .i64 (maxI v_34 v_35)]) (y := maxI v_34 v_35) rfl)
              try simp only [↓DN, UP, r1, r2, r3, r4, r5, r6, r7, reduceCtorEq, Try.f63, f6, f7, f8, f9, f10, f11, f12]
              refine ⟨rfl, ?_⟩
              try simp only [↓DN, UP, r1, r2, r3, r4, r5, r6, r7, reduceCtorEq, Try.f63, f6, f7, f8, f9, f10, f11, f12]
              refine stIf hy_32 (fun hb_37 hy_32 => ?_) (fun hb_37 hy_32 => ?_)
              · obtain ⟨v_38, hv_38, hy_32⟩ := bS hy_32
                obtain ⟨v_39, hv_39, hy_32⟩ := bS hy_32
                have f13 := (fPtr hv_38 (k := 1) (n := row_7.length) (by simp))
                have f14 := (fGet0 (eI_ok .i64) hv_38 (m := 1) (by decide) (by decide))
                have f15 := (fPtr hv_39 (k := 1) (n := next_22.length) (by simp))
                have f16 := (fPut0 (eI_ok .i64) hv_39 (ns := [.int .i64 (IntKind.wrap .i64 (v_38 + 1))]) (y := IntKind.wrap .i64 (v_38 + 1)) rfl)
                try simp only [↓DN, UP, r1, r2, r3, r4, r5, r6, r7, reduceCtorEq, Try.f63, f6, f7, f8, f9, f10, f11, f12, f13, f14, f15, f16]
                obtain rfl := Option.some.inj hy_32
                exact cutT_mk ((next_22.set (IntKind.wrap .i64 (v_23 + 1)).toNat (maxI v_34 v_35)).set (IntKind.wrap .i64 (v_23 + 1)).toNat (IntKind.wrap .i64 (v_38 + 1))) rfl (weak_norm (ks := [1, 5, 7, 8, 15, 16, 17, 25, 26, 27]) (π := [0, 1, 2]) (fuel := 9) (by simp only [WL, r1, r2, r3, r4, r5, r6, r7, reduceCtorEq, fWin (eI_ok .i64) (n := next_22.length) (xs := (next_22.set (IntKind.wrap .i64 (v_23 + 1)).toNat (maxI v_34 v_35)).set (IntKind.wrap .i64 (v_23 + 1)).toNat (IntKind.wrap .i64 (v_38 + 1))) (by simp)]))
              · try simp only [↓DN, UP, r1, r2, r3, r4, r5, r6, r7, reduceCtorEq, Try.f63, f6, f7, f8, f9, f10, f11, f12]
                obtain rfl := Option.some.inj hy_32
                exact cutT_mk (next_22.set (IntKind.wrap .i64 (v_23 + 1)).toNat (maxI v_34 v_35)) rfl (weak_norm (ks := [1, 5, 7, 8, 15, 16, 17, 25, 26, 27]) (π := [0, 1, 2]) (fuel := 9) (by simp only [WL, r1, r2, r3, r4, r5, r6, r7, reduceCtorEq, fWin (eI_ok .i64) (n := next_22.length) (xs := next_22.set (IntKind.wrap .i64 (v_23 + 1)).toNat (maxI v_34 v_35)) (by simp)]))
            · rintro next_30 hp
              replace hp := hp.symm; subst hp
              try dsimp only at hk_28
              try simp only [↓DN, UP, r1, r2, r3, r4, r5, r6, r7, reduceCtorEq, Try.f63]
              exact ⟨(next_30, IntKind.wrap .i64 (v_23 + 1)), hk_28, (wn [1, 5, 7, 8, 15, 16, 17, 25, 26, 27] [0, 1, 2])⟩
          · obtain rfl := Option.some.inj hk_28
            try dsimp only at hy_21
            try simp only [↓DN, UP, r1, r2, r3, r4, r5, r6, r7, reduceCtorEq, Try.f63]
            obtain rfl := Option.some.inj hy_21
            exact cutT_mk next_22 rfl (wn [1, 8, 15, 16, 17] [2])
        · rintro next_19 hp
          replace hp := hp.symm; subst hp
          try dsimp only at hy_17
          try simp only [↓DN, UP, r1, r2, r3, r4, r5, r6, r7, reduceCtorEq, Try.f63]
          obtain rfl := Option.some.inj hy_17
          exact cutT_mk next_19 rfl (wn [1, 5, 15, 16, 17] [0])
      · rintro row_15 hp
        replace hp := hp.symm; subst hp
        try dsimp only at hk_13
        try simp only [↓DN, UP, r1, r2, r3, r4, r5, r6, r7, reduceCtorEq, Try.f63]
        exact ⟨(row_15, IntKind.wrap .i64 (v_8 + 1)), hk_13, (wn [1, 5, 15, 16, 17] [0])⟩
    · obtain rfl := Option.some.inj hk_13
      try dsimp only at hy_6
      try simp only [↓DN, UP, r1, r2, r3, r4, r5, r6, r7, reduceCtorEq, Try.f63]
      obtain rfl := Option.some.inj hy_6
      exact cutT_mk row_7 rfl (wn [1, 5] [0])
  · rintro row_4 hp
    replace hp := hp.symm; subst hp
    try dsimp only at h
    obtain ⟨v_40, hv_40, h⟩ := bS h
    have f17 := (fPtr hv_40 (k := 1) (n := row_4.length) (by simp))
    have f18 := (fGet0 (eI_ok .i64) hv_40 (m := 1) (by decide) (by decide))
    try simp only [↓DN, UP, r1, r2, r3, r4, r5, r6, r7, reduceCtorEq, Try.f63, f17, f18]
    obtain rfl := Option.some.inj h
    refine endT_of ?_ ⟨rfl, rfl⟩
    exact (wn [0] [])
theorem c_slices_Grow_Key_emp {n_1 : Int} {r : (List GKey)} (h : g_slices_Grow_Key_emp n_1 = some r) : Ans Try.prog 88 [.one (.emp), .one (.int .i64 n_1)] [] fun v h1 => v = .pv (.one (.arr 0 0 r.length)) ∧ h1 = [.live ⟨6, r.length, r.flatMap GKey.cs⟩] := by
  refine ansK (P := fun _ => Try.prog) TryT_eq (fn := Try.f88) Try.func88 rfl ⟨by kernel_rfl, rfl, rfl, by kernel_rfl⟩ (by simp) (Weak.refl _ _) ?_
  rw [g_slices_Grow_Key_emp] at h
  try simp only [↓DN, UP, r1, r2, r3, r4, r5, r6, r7, reduceCtorEq, Try.f88]
  obtain ⟨y_2, hy_3, h⟩ := bS h
  refine seqK TryT_eq (fun p : Unit => ⟨[(0, .pv (.one (.emp))), (1, .pv (.one (.int .i64 n_1)))], []⟩) (fun v => y_2 = v) (by rfl) ?_ ?_
  · try simp only [↓DN, UP, r1, r2, r3, r4, r5, r6, r7, reduceCtorEq, Try.f88]
    refine stIf hy_3 (fun hb_4 hy_3 => ?_) (fun hb_4 hy_3 => ?_)
    · exact nomatch hy_3
    · try simp only [↓DN, UP, r1, r2, r3, r4, r5, r6, r7, reduceCtorEq, Try.f88]
      obtain rfl := Option.some.inj hy_3
      exact cutT_mk () (by trivial) (wn [0, 1] [])
  · rintro _ hp
    replace hp := hp.symm; subst hp
    try dsimp only at h
    try simp only [↓DN, UP, r1, r2, r3, r4, r5, r6, r7, reduceCtorEq, Try.f88]
    obtain ⟨y_6, hy_7, h⟩ := bS h
    refine seqK TryT_eq (fun p : (List GKey) => ⟨[(0, .pv (.one (.arr 0 0 p.length)))], [.live ⟨6, p.length, p.flatMap GKey.cs⟩]⟩) (fun v => y_6 = v) (by rfl) ?_ ?_
    · try simp only [↓DN, UP, r1, r2, r3, r4, r5, r6, r7, reduceCtorEq, Try.f88]
      refine stIf hy_7 (fun hb_8 hy_7 => ?_) (fun hb_8 hy_7 => ?_)
      · obtain ⟨v_9, hv_9, hy_7⟩ := bS hy_7
        obtain ⟨v_10, hv_10, hy_7⟩ := bS hy_7
        have f1 := (fMk hv_9)
        have f2 := (fMkC (e := GKey.cs) (ns := [.int .i64 0, .int .i64 0, .str [], .int .i32 0, .bool false, .int .u32 0]) hv_9 rfl)
        have f3 := (fSubN hv_10 (n := v_9.length) (by simp))
        try simp only [↓DN, UP, r1, r2, r3, r4, r5, r6, r7, reduceCtorEq, Try.f88, f1, f2, f3]
        obtain rfl := Option.some.inj hy_7
        exact cutT_mk v_10 rfl ((weak_trim 0 0 v_10.length (b := ⟨_, _, _⟩) rfl (fLeW hv_10 (by simp) (by simp)) (by decide)).trans (weak_norm (ks := [0]) (π := [0]) (fuel := 9) (by simp only [trS, trE, trH, trHS, trSV, trP, trC, ML, MB, and_self, r1, r2, r3, r4, r5, r6, r7, reduceCtorEq, TL, TT, fTrim0 GKey.ok hv_10 (lo := 0) (by simp), fTr GKey.ok])))
      · try simp only [↓DN, UP, r1, r2, r3, r4, r5, r6, r7, reduceCtorEq, Try.f88]
        obtain rfl := Option.some.inj hy_7
        exact cutT_mk [] rfl ((weak_norm (ks := [0]) (π := []) (fuel := 9) (s' := ⟨[(0, .pv (.one (.emp)))], []⟩) (by simp only [WL, r1, r2, r3, r4, r5, r6, r7, reduceCtorEq])).trans (weak_le (by simp only [LEb, r1, r2, r3, r4, r5, r6, r7, reduceCtorEq, TL]) (by simp only [LEb, r1, r2, r3, r4, r5, r6, r7, reduceCtorEq, TL])))
    · rintro s_5 hp
      replace hp := hp.symm; subst hp
      try dsimp only at h
      try simp only [↓DN, UP, r1, r2, r3, r4, r5, r6, r7, reduceCtorEq, Try.f88]
      obtain rfl := Option.some.inj h
      refine endT_of ?_ ⟨rfl, rfl⟩
      exact (wn [0] [0])
theorem c_slices_Concat_Key {slices_1 : List (List GKey)} {r : (List GKey)} (h : g_slices_Concat_Key slices_1 = some r) : Ans Try.prog 64 [.one (.imm 1 slices_1.length (slices_1.flatMap (eL GKey.cs 6)))] [] fun v h1 => v = .pv (.one (.arr 0 0 r.length)) ∧ h1 = [.live ⟨6, r.length, r.flatMap GKey.cs⟩] := by
  refine ansK (P := fun _ => Try.prog) TryT_eq (fn := Try.f64) Try.func64 rfl ⟨by kernel_rfl, rfl, rfl, by kernel_rfl⟩ (by simp) (Weak.refl _ _) ?_
  rw [g_slices_Concat_Key] at h
  try simp only [↓DN, UP, r1, r2, r3, r4, r5, r6, r7, reduceCtorEq, Try.f64]
  obtain ⟨y_3, hy_4, h⟩ := bS h
  refine seqK TryT_eq (fun p : Int => ⟨[(0, .pv (.one (.imm 1 slices_1.length (slices_1.flatMap (eL GKey.cs 6))))), (3, .pv (.one (.int .i64 p)))], []⟩) (fun v => y_3 = v) (by rfl) ?_ ?_
  · try simp only [↓DN, UP, r1, r2, r3, r4, r5, r6, r7, reduceCtorEq, Try.f64]
    obtain ⟨y_8, hy_9, hy_4⟩ := bS hy_4
    refine loopK TryT_eq (fun p : Int × Int => ⟨[(0, .pv (.one (.imm 1 slices_1.length (slices_1.flatMap (eL GKey.cs 6))))), (3, .pv (.one (.int .i64 p.1))), (9, .pv (.one (.imm 1 slices_1.length (slices_1.flatMap (eL GKey.cs 6))))), (10, .pv (.one (.int .i64 (slices_1.length : Int)))), (11, .pv (.one (.int .i64 p.2)))], []⟩) (fun k p => g_slices_Concat_Key_l0 slices_1 k p.1 p.2 = some y_8) (by kernel_rfl) bigK (0, 0) (wn [0, 3, 9, 10, 11] []) hy_9 (fun _ h => nomatch (show none = some _ from h)) ?_
    rintro k_10 ⟨size_5, v_6⟩ hk_11
    rw [g_slices_Concat_Key_l0] at hk_11
    try dsimp only at hk_11
    try simp only [↓DN, UP, r1, r2, r3, r4, r5, r6, r7, reduceCtorEq, Try.f64]
    refine seqN TryT_eq rfl ?_
    try simp only [↓DN, UP, r1, r2, r3, r4, r5, r6, r7, reduceCtorEq, Try.f64]
    refine stIf hk_11 (fun hb_12 hk_11 => ?_) (fun hb_12 hk_11 => ?_)
    · try simp only [↓DN, UP, r1, r2, r3, r4, r5, r6, r7, reduceCtorEq, Try.f64]
      obtain ⟨y_14, hy_15, hk_11⟩ := bS hk_11
      refine seqK TryT_eq (fun p : Int => ⟨[(0, .pv (.one (.imm 1 slices_1.length (slices_1.flatMap (eL GKey.cs 6))))), (3, .pv (.one (.int .i64 p))), (9, .pv (.one (.imm 1 slices_1.length (slices_1.flatMap (eL GKey.cs 6))))), (10, .pv (.one (.int .i64 (slices_1.length : Int)))), (11, .pv (.one (.int .i64 v_6)))], []⟩) (fun v => y_14 = v) (by rfl) ?_ ?_
      · obtain ⟨v_16, hv_16, hy_15⟩ := bS hy_15
        have f1 := (fAt (eL_ok GKey.cs 6) hv_16 (n := slices_1.length) (by simp))
        try simp only [↓DN, UP, r1, r2, r3, r4, r5, r6, r7, reduceCtorEq, Try.f64, f1]
        refine stIf hy_15 (fun hb_17 hy_15 => ?_) (fun hb_17 hy_15 => ?_)
        · exact nomatch hy_15
        · try simp only [↓DN, UP, r1, r2, r3, r4, r5, r6, r7, reduceCtorEq, Try.f64, f1]
          obtain rfl := Option.some.inj hy_15
          exact cutT_mk (IntKind.wrap .i64 (size_5 + (v_16.length : Int))) rfl (wn [0, 3, 9, 10, 11] [])
      · rintro size_13 hp
        replace hp := hp.symm; subst hp
        try dsimp only at hk_11
        try simp only [↓DN, UP, r1, r2, r3, r4, r5, r6, r7, reduceCtorEq, Try.f64]
        exact ⟨(size_13, IntKind.wrap .i64 (v_6 + 1)), hk_11, (wn [0, 3, 9, 10, 11] [])⟩
    · obtain rfl := Option.some.inj hk_11
      try dsimp only at hy_4
      try simp only [↓DN, UP, r1, r2, r3, r4, r5, r6, r7, reduceCtorEq, Try.f64]
      obtain rfl := Option.some.inj hy_4
      exact cutT_mk size_5 rfl (wn [0, 3] [])
  · rintro size_2 hp
    replace hp := hp.symm; subst hp
    try dsimp only at h
    obtain ⟨y_18, hy_18, h⟩ := bS h
    try simp only [↓DN, UP, r1, r2, r3, r4, r5, r6, r7, reduceCtorEq, Try.f64]
    refine cG [] (c_slices_Grow_Key_emp hy_18) (hK := fun rd b => ?_)
    try simp only [↓DN, UP, r1, r2, r3, r4, r5, r6, r7, reduceCtorEq, Try.f64]
    obtain ⟨y_20, hy_21, h⟩ := bS h
    refine seqK TryT_eq (fun p : (List GKey) => ⟨[(6, .pv (.one (.arr 0 0 p.length)))], [.live ⟨6, p.length, p.flatMap GKey.cs⟩]⟩) (fun v => y_20 = v) (by rfl) ?_ ?_
    · try simp only [↓DN, UP, r1, r2, r3, r4, r5, r6, r7, reduceCtorEq, Try.f64]
      obtain ⟨y_25, hy_26, hy_21⟩ := bS hy_21
      refine loopK TryT_eq (fun p : (List GKey) × Int => ⟨[(6, .pv (.one (.arr 0 0 p.1.length))), (25, .pv (.one (.imm 1 slices_1.length (slices_1.flatMap (eL GKey.cs 6))))), (26, .pv (.one (.int .i64 (slices_1.length : Int)))), (27, .pv (.one (.int .i64 p.2)))], [.live ⟨6, p.1.length, p.1.flatMap GKey.cs⟩]⟩) (fun k p => g_slices_Concat_Key_l1 slices_1 k p.1 p.2 = some y_25) (by kernel_rfl) bigK (y_18, 0) (wn [6, 25, 26, 27] [0]) hy_26 (fun _ h => nomatch (show none = some _ from h)) ?_
      rintro k_27 ⟨newslice_22, v_23⟩ hk_28
      rw [g_slices_Concat_Key_l1] at hk_28
      try dsimp only at hk_28
      try simp only [↓DN, UP, r1, r2, r3, r4, r5, r6, r7, reduceCtorEq, Try.f64]
      refine seqN TryT_eq rfl ?_
      try simp only [↓DN, UP, r1, r2, r3, r4, r5, r6, r7, reduceCtorEq, Try.f64]
      refine stIf hk_28 (fun hb_29 hk_28 => ?_) (fun hb_29 hk_28 => ?_)
      · try simp only [↓DN, UP, r1, r2, r3, r4, r5, r6, r7, reduceCtorEq, Try.f64]
        refine seqN TryT_eq rfl ?_
        obtain ⟨v_30, hv_30, hk_28⟩ := bS hk_28
        obtain ⟨v_31, hv_31, hk_28⟩ := bS hk_28
        have f2 := (fAt (eL_ok GKey.cs 6) hv_30 (n := slices_1.length) (by simp))
        have f3 := (fApp hv_31 (n := newslice_22.length) (by simp) (m := v_30.length) (by simp [bsOf]))
        have f4 := (fWin GKey.ok (n := newslice_22.length) (xs := newslice_22) (by simp))
        have f5 := (fCat (e := GKey.cs) (ns := v_30.flatMap GKey.cs) hv_31 rfl)
        try simp only [↓DN, UP, r1, r2, r3, r4, r5, r6, r7, reduceCtorEq, Try.f64, f2, f3, f4, f5]
        exact ⟨(v_31, IntKind.wrap .i64 (v_23 + 1)), hk_28, (wn [6, 25, 26, 27] [1])⟩
      · obtain rfl := Option.some.inj hk_28
        try dsimp only at hy_21
        try simp only [↓DN, UP, r1, r2, r3, r4, r5, r6, r7, reduceCtorEq, Try.f64]
        obtain rfl := Option.some.inj hy_21
        exact cutT_mk newslice_22 rfl (wn [6] [0])
    · rintro newslice_19 hp
      replace hp := hp.symm; subst hp
      try dsimp only at h
      try simp only [↓DN, UP, r1, r2, r3, r4, r5, r6, r7, reduceCtorEq, Try.f64]
      obtain rfl := Option.some.inj h
      refine endT_of ?_ ⟨rfl, rfl⟩
      exact (wn [0] [0])
theorem c_impl_Plan {a_1 : List Int} {b_2 : List Int} {r : (List GKey) × Bool} (h : g_impl_Plan a_1 b_2 = some r) : Ans Try.prog 30 [.one (.imm 1 a_1.length (a_1.flatMap (eI .u32))), .one (.imm 1 b_2.length (b_2.flatMap (eI .u32)))] [] fun v h1 => v = .tup [.one (.arr 0 0 r.1.length), .one (.bool r.2)] ∧ h1 = [.live ⟨6, r.1.length, r.1.flatMap GKey.cs⟩] := by
  refine ansK (P := fun _ => Try.prog) TryT_eq (fn := Try.f30) Try.func30 rfl ⟨by kernel_rfl, rfl, rfl, by kernel_rfl⟩ (by simp) (Weak.refl _ _) ?_
  rw [g_impl_Plan] at h
  try simp only [↓DN, UP, r1, r2, r3, r4, r5, r6, r7, reduceCtorEq, Try.f30]
  refine seqN TryT_eq rfl ?_
  try simp only [↓DN, UP, r1, r2, r3, r4, r5, r6, r7, reduceCtorEq, Try.f30]
  obtain ⟨y_4, hy_5, h⟩ := bS h
  refine seqK TryT_eq (fun p : Bool => ⟨[(0, .pv (.one (.imm 1 a_1.length (a_1.flatMap (eI .u32))))), (1, .pv (.one (.imm 1 b_2.length (b_2.flatMap (eI .u32))))), (18, .pv (.one (.bool p)))], []⟩) (fun v => y_4 = v) (by rfl) ?_ ?_
  · try simp only [↓DN, UP, r1, r2, r3, r4, r5, r6, r7, reduceCtorEq, Try.f30]
    refine stIf hy_5 (fun hb_6 hy_5 => ?_) (fun hb_6 hy_5 => ?_)
    · try simp only [↓DN, UP, r1, r2, r3, r4, r5, r6, r7, reduceCtorEq, Try.f30, hb_6]
      obtain rfl := Option.some.inj hy_5
      exact cutT_mk true rfl (wn [0, 1, 18] [])
    · try simp only [↓DN, UP, r1, r2, r3, r4, r5, r6, r7, reduceCtorEq, Try.f30, hb_6]
      obtain rfl := Option.some.inj hy_5
      exact cutT_mk (decide ((b_2.length : Int) > 64)) rfl (wn [0, 1, 18] [])
  · rintro v_3 hp
    replace hp := hp.symm; subst hp
    try dsimp only at h
    try simp only [↓DN, UP, r1, r2, r3, r4, r5, r6, r7, reduceCtorEq, Try.f30]
    refine stIf h (fun hb_7 h => ?_) (fun hb_7 h => ?_)
    · try simp only [↓DN, UP, r1, r2, r3, r4, r5, r6, r7, reduceCtorEq, Try.f30]
      obtain rfl := Option.some.inj h
      refine endT_of ?_ ⟨rfl, rfl⟩
      exact ((weak_norm (ks := [0]) (π := []) (fuel := 9) (s' := ⟨[(0, .tup [.one (.emp), .one (.bool false)])], []⟩) (by simp only [WL, r1, r2, r3, r4, r5, r6, r7, reduceCtorEq])).trans (weak_le (by simp only [LEb, r1, r2, r3, r4, r5, r6, r7, reduceCtorEq, TL]) (by simp only [LEb, r1, r2, r3, r4, r5, r6, r7, reduceCtorEq, TL])))
    · obtain ⟨y_8, hy_8, h⟩ := bS h
      try simp only [↓DN, UP, r1, r2, r3, r4, r5, r6, r7, reduceCtorEq, Try.f30]
      refine cG [] (c_impl_ParseCells hy_8) (hK := fun rd b => ?_)
      obtain ⟨y_9, hy_9, h⟩ := bS h
      try simp only [↓DN, UP, r1, r2, r3, r4, r5, r6, r7, reduceCtorEq, Try.f30]
      refine cG [] (c_impl_ParseCells hy_9) (hK := fun rd b => ?_)
      try simp only [↓DN, UP, r1, r2, r3, r4, r5, r6, r7, reduceCtorEq, Try.f30]
      refine seqN TryT_eq rfl ?_
      try simp only [↓DN, UP, r1, r2, r3, r4, r5, r6, r7, reduceCtorEq, Try.f30]
      obtain ⟨y_11, hy_12, h⟩ := bS h
      refine seqK TryT_eq (fun p : Bool => ⟨[(6, .pv (.one (.arr 0 0 y_8.length))), (7, .pv (.one (.arr 1 0 y_9.length))), (28, .pv (.one (.bool p)))], [.live ⟨5, y_8.length, y_8.flatMap GItem.cs⟩, .live ⟨5, y_9.length, y_9.flatMap GItem.cs⟩]⟩) (fun v => y_11 = v) (by rfl) ?_ ?_
      · obtain ⟨y_13, hy_13, hy_12⟩ := bS hy_12
        try simp only [↓DN, UP, r1, r2, r3, r4, r5, r6, r7, reduceCtorEq, Try.f30]
        refine cG [] (c_impl_hasRaw hy_13) (hK := fun rd b => ?_)
        try simp only [↓DN, UP, r1, r2, r3, r4, r5, r6, r7, reduceCtorEq, Try.f30]
        refine stIf hy_12 (fun hb_14 hy_12 => ?_) (fun hb_14 hy_12 => ?_)
        · try simp only [↓DN, UP, r1, r2, r3, r4, r5, r6, r7, reduceCtorEq, Try.f30, hb_14]
          obtain rfl := Option.some.inj hy_12
          exact cutT_mk true rfl (wn [6, 7, 28] [0, 1])
        · obtain ⟨y_15, hy_15, hy_12⟩ := bS hy_12
          try simp only [↓DN, UP, r1, r2, r3, r4, r5, r6, r7, reduceCtorEq, Try.f30, hb_14]
          refine cG [] (c_impl_hasRaw hy_15) (hK := fun rd b => ?_)
          try simp only [↓DN, UP, r1, r2, r3, r4, r5, r6, r7, reduceCtorEq, Try.f30, hb_14]
          obtain rfl := Option.some.inj hy_12
          exact cutT_mk y_15 rfl (wn [6, 7, 28] [0, 1])
      · rintro v_10 hp
        replace hp := hp.symm; subst hp
        try dsimp only at h
        try simp only [↓DN, UP, r1, r2, r3, r4, r5, r6, r7, reduceCtorEq, Try.f30]
        refine stIf h (fun hb_16 h => ?_) (fun hb_16 h => ?_)
        · try simp only [↓DN, UP, r1, r2, r3, r4, r5, r6, r7, reduceCtorEq, Try.f30]
          obtain rfl := Option.some.inj h
          refine endT_of ?_ ⟨rfl, rfl⟩
          exact ((weak_norm (ks := [0]) (π := []) (fuel := 9) (s' := ⟨[(0, .tup [.one (.emp), .one (.bool false)])], []⟩) (by simp only [WL, r1, r2, r3, r4, r5, r6, r7, reduceCtorEq])).trans (weak_le (by simp only [LEb, r1, r2, r3, r4, r5, r6, r7, reduceCtorEq, TL]) (by simp only [LEb, r1, r2, r3, r4, r5, r6, r7, reduceCtorEq, TL])))
        · have f1 := (show bldN 0 = 0 from rfl)
          have f2 := (show bldC [] = ([] : List GKey).flatMap GKey.cs from rfl)
          try simp only [↓DN, UP, r1, r2, r3, r4, r5, r6, r7, reduceCtorEq, Try.f30, f1, f2]
          obtain ⟨y_25, hy_26, h⟩ := bS h
          refine seqK TryT_eq (fun p : (List GKey) × (List GKey) × Int => ⟨[(8, .pv (.one (.imm 6 p.1.length (p.1.flatMap GKey.cs)))), (9, .pv (.one (.imm 6 p.2.1.length (p.2.1.flatMap GKey.cs)))), (10, .pv (.one (.int .i64 p.2.2)))], []⟩) (fun v => y_25 = v) (by rfl) ?_ ?_
          · try simp only [↓DN, UP, r1, r2, r3, r4, r5, r6, r7, reduceCtorEq, Try.f30, f1, f2]
            refine loopK TryT_eq (fun p : (List GItem) × (List GItem) × (List GKey) × (List GKey) × Int => ⟨[(6, .pv (.one (.arr 0 0 p.1.length))), (7, .pv (.one (.arr 1 0 p.2.1.length))), (8, .pv (.one (.arr 2 0 p.2.2.1.length))), (9, .pv (.one (.arr 3 0 p.2.2.2.1.length))), (10, .pv (.one (.int .i64 p.2.2.2.2)))], [.live ⟨5, p.1.length, p.1.flatMap GItem.cs⟩, .live ⟨5, p.2.1.length, p.2.1.flatMap GItem.cs⟩, .live ⟨6, p.2.2.1.length, p.2.2.1.flatMap GKey.cs⟩, .live ⟨6, p.2.2.2.1.length, p.2.2.2.1.flatMap GKey.cs⟩]⟩) (fun k p => g_impl_Plan_l0 k p.1 p.2.1 p.2.2.1 p.2.2.2.1 p.2.2.2.2 = some y_25) (by kernel_rfl) bigK (y_8, y_9, ([] : List GKey), ([] : List GKey), 0) (weak_norm (ks := [6, 7, 8, 9, 10]) (π := [0, 1, 2, 3]) (fuel := 9) (by simp only [WL, r1, r2, r3, r4, r5, r6, r7, reduceCtorEq, fWin GKey.ok (n := 0) (xs := ([] : List GKey)) (by simp), fWin GKey.ok (n := 0) (xs := ([] : List GKey)) (by simp)])) hy_26 (fun _ h => nomatch (show none = some _ from h)) ?_
            rintro k_27 ⟨vfrom_17, to_18, first_19, second_20, cuts_21⟩ hk_28
            rw [g_impl_Plan_l0] at hk_28
            try dsimp only at hk_28
            try simp only [↓DN, UP, r1, r2, r3, r4, r5, r6, r7, reduceCtorEq, Try.f30]
            refine seqN TryT_eq rfl ?_
            try simp only [↓DN, UP, r1, r2, r3, r4, r5, r6, r7, reduceCtorEq, Try.f30]
            refine stIf hk_28 (fun hb_29 hk_28 => ?_) (fun hb_29 hk_28 => ?_)
            · try simp only [↓DN, UP, r1, r2, r3, r4, r5, r6, r7, reduceCtorEq, Try.f30]
              obtain ⟨y_31, hy_32, hk_28⟩ := bS hk_28
              refine seqK TryT_eq (fun p : Bool => ⟨[(6, .pv (.one (.arr 0 0 vfrom_17.length))), (7, .pv (.one (.arr 1 0 to_18.length))), (8, .pv (.one (.arr 2 0 first_19.length))), (9, .pv (.one (.arr 3 0 second_20.length))), (10, .pv (.one (.int .i64 cuts_21))), (46, .pv (.one (.bool p)))], [.live ⟨5, vfrom_17.length, vfrom_17.flatMap GItem.cs⟩, .live ⟨5, to_18.length, to_18.flatMap GItem.cs⟩, .live ⟨6, first_19.length, first_19.flatMap GKey.cs⟩, .live ⟨6, second_20.length, second_20.flatMap GKey.cs⟩]⟩) (fun v => y_31 = v) (by rfl) ?_ ?_
              · try simp only [↓DN, UP, r1, r2, r3, r4, r5, r6, r7, reduceCtorEq, Try.f30]
                refine stIf hy_32 (fun hb_33 hy_32 => ?_) (fun hb_33 hy_32 => ?_)
                · try simp only [↓DN, UP, r1, r2, r3, r4, r5, r6, r7, reduceCtorEq, Try.f30, hb_33]
                  refine stIf hy_32 (fun hb_34 hy_32 => ?_) (fun hb_34 hy_32 => ?_)
                  · obtain ⟨v_35, hv_35, hy_32⟩ := bS hy_32
                    obtain ⟨v_36, hv_36, hy_32⟩ := bS hy_32
                    have f3 := (fPtrL hv_35 (k := 5) (n := vfrom_17.length) (by simp) (c := 0) rfl)
                    have f4 := (fGetL0 GItem.ok hv_35 rfl (m := 5) (by decide) (by decide))
                    have f5 := (fPtrL hv_36 (k := 5) (n := to_18.length) (by simp) (c := 0) rfl)
                    have f6 := (fGetL0 GItem.ok hv_36 rfl (m := 5) (by decide) (by decide))
                    try simp only [↓DN, UP, r1, r2, r3, r4, r5, r6, r7, reduceCtorEq, Try.f30, hb_33, hb_34, f3, f4, f5, f6]
                    refine ⟨rfl, ?_⟩
                    try simp only [↓DN, UP, r1, r2, r3, r4, r5, r6, r7, reduceCtorEq, Try.f30, hb_33, hb_34, f3, f4, f5, f6]
                    obtain rfl := Option.some.inj hy_32
                    exact cutT_mk ((v_35.Kind : Int) == v_36.Kind && ((v_35.Name : Bs) == v_36.Name && ((v_35.N : Int) == v_36.N && ((v_35.Hex : Bool) == v_36.Hex && ((v_35.Raw : Int) == v_36.Raw && true))))) rfl (wn [6, 7, 8, 9, 10, 46] [0, 1, 2, 3])
                  · try simp only [↓DN, UP, r1, r2, r3, r4, r5, r6, r7, reduceCtorEq, Try.f30, hb_33, hb_34]
                    refine ⟨rfl, ?_⟩
                    try simp only [↓DN, UP, r1, r2, r3, r4, r5, r6, r7, reduceCtorEq, Try.f30, hb_33, hb_34]
                    obtain rfl := Option.some.inj hy_32
                    exact cutT_mk false rfl (wn [6, 7, 8, 9, 10, 46] [0, 1, 2, 3])
                · try simp only [↓DN, UP, r1, r2, r3, r4, r5, r6, r7, reduceCtorEq, Try.f30, hb_33]
                  refine ⟨rfl, ?_⟩
                  try simp only [↓DN, UP, r1, r2, r3, r4, r5, r6, r7, reduceCtorEq, Try.f30, hb_33]
                  obtain rfl := Option.some.inj hy_32
                  exact cutT_mk false rfl (wn [6, 7, 8, 9, 10, 46] [0, 1, 2, 3])
              · rintro v_30 hp
                replace hp := hp.symm; subst hp
                try dsimp only at hk_28
                try simp only [↓DN, UP, r1, r2, r3, r4, r5, r6, r7, reduceCtorEq, Try.f30]
                refine stIf hk_28 (fun hb_37 hk_28 => ?_) (fun hb_37 hk_28 => ?_)
                · obtain ⟨v_38, hv_38, hk_28⟩ := bS hk_28
                  obtain ⟨v_39, hv_39, hk_28⟩ := bS hk_28
                  obtain ⟨v_40, hv_40, hk_28⟩ := bS hk_28
                  obtain ⟨v_41, hv_41, hk_28⟩ := bS hk_28
                  have f7 := (show bldN 1 = 1 from rfl)
                  have f8 := (show bldC [.int .i64 1, .int .i64 0, .str [], .int .i32 0, .bool false, .int .u32 0] = [(⟨1, (⟨0, [], 0, false, 0⟩ : GItem)⟩ : GKey)].flatMap GKey.cs from rfl)
                  have f9 := (fWin GKey.ok (n := 1) (xs := [(⟨1, (⟨0, [], 0, false, 0⟩ : GItem)⟩ : GKey)]) (by simp))
                  have f10 := (fApp hv_38 (n := first_19.length) (by simp) (m := 1) (by simp [bsOf]))
                  have f11 := (fWin GKey.ok (n := first_19.length) (xs := first_19) (by simp))
                  have f12 := (fCat (e := GKey.cs) (ns := [(⟨1, (⟨0, [], 0, false, 0⟩ : GItem)⟩ : GKey)].flatMap GKey.cs) hv_38 rfl)
                  have f13 := (fApp hv_39 (n := second_20.length) (by simp) (m := 1) (by simp [bsOf]))
                  have f14 := (fWin GKey.ok (n := second_20.length) (xs := second_20) (by simp))
                  have f15 := (fCat (e := GKey.cs) (ns := [(⟨1, (⟨0, [], 0, false, 0⟩ : GItem)⟩ : GKey)].flatMap GKey.cs) hv_39 rfl)
                  have f16 := (fSubN hv_40 (n := vfrom_17.length) (by simp))
                  have f17 := (fSubN hv_41 (n := to_18.length) (by simp))
                  try simp only [↓DN, UP, r1, r2, r3, r4, r5, r6, r7, reduceCtorEq, Try.f30, f7, f8, f9, f10, f11, f12, f13, f14, f15, f16, f17]
                  refine ⟨rfl, ?_⟩
                  try simp only [↓DN, UP, r1, r2, r3, r4, r5, r6, r7, reduceCtorEq, Try.f30, f7, f8, f9, f10, f11, f12, f13, f14, f15, f16, f17]
                  exact ⟨(v_40, v_41, v_38, v_39, cuts_21), hk_28, ((weak_trim 0 1 v_40.length (b := ⟨_, _, _⟩) rfl (fLeW hv_40 (by simp) (by simp)) (by decide)).trans ((weak_trim 1 1 v_41.length (b := ⟨_, _, _⟩) rfl (fLeW hv_41 (by simp) (by simp)) (by decide)).trans (weak_norm (ks := [6, 7, 8, 9, 10]) (π := [0, 1, 5, 7]) (fuel := 9) (by simp only [trS, trE, trH, trHS, trSV, trP, trC, ML, MB, and_self, r1, r2, r3, r4, r5, r6, r7, reduceCtorEq, TL, TT, fTrim GItem.ok hv_40 (lo := 1) (by simp), fTrim GItem.ok hv_41 (lo := 1) (by simp), fTr GItem.ok, fTr GKey.ok]))))⟩
                · try simp only [↓DN, UP, r1, r2, r3, r4, r5, r6, r7, reduceCtorEq, Try.f30]
                  obtain ⟨y_43, hy_44, hk_28⟩ := bS hk_28
                  refine seqK TryT_eq (fun p : Bool => ⟨[(6, .pv (.one (.arr 0 0 vfrom_17.length))), (7, .pv (.one (.arr 1 0 to_18.length))), (8, .pv (.one (.arr 2 0 first_19.length))), (9, .pv (.one (.arr 3 0 second_20.length))), (10, .pv (.one (.int .i64 cuts_21))), (76, .pv (.one (.bool p)))], [.live ⟨5, vfrom_17.length, vfrom_17.flatMap GItem.cs⟩, .live ⟨5, to_18.length, to_18.flatMap GItem.cs⟩, .live ⟨6, first_19.length, first_19.flatMap GKey.cs⟩, .live ⟨6, second_20.length, second_20.flatMap GKey.cs⟩]⟩) (fun v => y_43 = v) (by rfl) ?_ ?_
                  · try simp only [↓DN, UP, r1, r2, r3, r4, r5, r6, r7, reduceCtorEq, Try.f30]
                    refine stIf hy_44 (fun hb_45 hy_44 => ?_) (fun hb_45 hy_44 => ?_)
                    · try simp only [↓DN, UP, r1, r2, r3, r4, r5, r6, r7, reduceCtorEq, Try.f30, hb_45]
                      refine stIf hy_44 (fun hb_46 hy_44 => ?_) (fun hb_46 hy_44 => ?_)
                      · try simp only [↓DN, UP, r1, r2, r3, r4, r5, r6, r7, reduceCtorEq, Try.f30, hb_45, hb_46]
                        refine ⟨rfl, ?_⟩
                        try simp only [↓DN, UP, r1, r2, r3, r4, r5, r6, r7, reduceCtorEq, Try.f30, hb_45, hb_46]
                        obtain rfl := Option.some.inj hy_44
                        exact cutT_mk true rfl (wn [6, 7, 8, 9, 10, 76] [0, 1, 2, 3])
                      · obtain ⟨v_47, hv_47, hy_44⟩ := bS hy_44
                        obtain ⟨y_48, hy_48, hy_44⟩ := bS hy_44
                        have f18 := (fSubN hv_47 (n := vfrom_17.length) (by simp))
                        try simp only [↓DN, UP, r1, r2, r3, r4, r5, r6, r7, reduceCtorEq, Try.f30, hb_45, hb_46, f18]
                        refine callE [] (rd1 := [0, 1]) (rd2 := []) 9 rfl (by simp only [WL, r1, r2, r3, r4, r5, r6, r7, reduceCtorEq, fWinW GItem.ok hv_47 (lo := 1) (by simp)]) (by simp only [WL, r1, r2, r3, r4, r5, r6, r7, reduceCtorEq, fWinW GItem.ok hv_47 (lo := 1) (by simp)]) rfl (c_impl_common hy_48) (by simp only [WL, r1, r2, r3, r4, r5, r6, r7, reduceCtorEq]) ?_
                        obtain ⟨v_49, hv_49, hy_44⟩ := bS hy_44
                        obtain ⟨y_50, hy_50, hy_44⟩ := bS hy_44
                        have f19 := (fSubN hv_49 (n := to_18.length) (by simp))
                        try simp only [↓DN, UP, r1, r2, r3, r4, r5, r6, r7, reduceCtorEq, Try.f30, hb_45, hb_46, f18, f19]
                        refine callE [] (rd1 := [0, 1]) (rd2 := []) 9 rfl (by simp only [WL, r1, r2, r3, r4, r5, r6, r7, reduceCtorEq, fWinW GItem.ok hv_49 (lo := 1) (by simp)]) (by simp only [WL, r1, r2, r3, r4, r5, r6, r7, reduceCtorEq, fWinW GItem.ok hv_49 (lo := 1) (by simp)]) rfl (c_impl_common hy_50) (by simp only [WL, r1, r2, r3, r4, r5, r6, r7, reduceCtorEq]) ?_
                        try simp only [↓DN, UP, r1, r2, r3, r4, r5, r6, r7, reduceCtorEq, Try.f30, hb_45, hb_46, f18, f19]
                        refine ⟨rfl, ?_⟩
                        try simp only [↓DN, UP, r1, r2, r3, r4, r5, r6, r7, reduceCtorEq, Try.f30, hb_45, hb_46, f18, f19]
                        obtain rfl := Option.some.inj hy_44
                        exact cutT_mk (decide (y_48 ≥ y_50)) rfl (wn [6, 7, 8, 9, 10, 76] [0, 1, 2, 3])
                    · try simp only [↓DN, UP, r1, r2, r3, r4, r5, r6, r7, reduceCtorEq, Try.f30, hb_45]
                      refine ⟨rfl, ?_⟩
                      try simp only [↓DN, UP, r1, r2, r3, r4, r5, r6, r7, reduceCtorEq, Try.f30, hb_45]
                      obtain rfl := Option.some.inj hy_44
                      exact cutT_mk false rfl (wn [6, 7, 8, 9, 10, 76] [0, 1, 2, 3])
                  · rintro v_42 hp
                    replace hp := hp.symm; subst hp
                    try dsimp only at hk_28
                    try simp only [↓DN, UP, r1, r2, r3, r4, r5, r6, r7, reduceCtorEq, Try.f30]
                    refine stIf hk_28 (fun hb_51 hk_28 => ?_) (fun hb_51 hk_28 => ?_)
                    · obtain ⟨v_52, hv_52, hk_28⟩ := bS hk_28
                      obtain ⟨v_53, hv_53, hk_28⟩ := bS hk_28
                      have f20 := (show bldN 2 = 2 from rfl)
                      have f21 := (show bldC [.int .i64 1, .int .i64 0, .str [], .int .i32 0, .bool false, .int .u32 0, .int .i64 5, .int .i64 0, .str [], .int .i32 0, .bool false, .int .u32 0] = [(⟨1, (⟨0, [], 0, false, 0⟩ : GItem)⟩ : GKey), (⟨5, (⟨0, [], 0, false, 0⟩ : GItem)⟩ : GKey)].flatMap GKey.cs from rfl)
                      have f22 := (fWin GKey.ok (n := 2) (xs := [(⟨1, (⟨0, [], 0, false, 0⟩ : GItem)⟩ : GKey), (⟨5, (⟨0, [], 0, false, 0⟩ : GItem)⟩ : GKey)]) (by simp))
                      have f23 := (fApp hv_52 (n := first_19.length) (by simp) (m := 2) (by simp [bsOf]))
                      have f24 := (fWin GKey.ok (n := first_19.length) (xs := first_19) (by simp))
                      have f25 := (fCat (e := GKey.cs) (ns := [(⟨1, (⟨0, [], 0, false, 0⟩ : GItem)⟩ : GKey), (⟨5, (⟨0, [], 0, false, 0⟩ : GItem)⟩ : GKey)].flatMap GKey.cs) hv_52 rfl)
                      have f26 := (fSubN hv_53 (n := vfrom_17.length) (by simp))
                      try simp only [↓DN, UP, r1, r2, r3, r4, r5, r6, r7, reduceCtorEq, Try.f30, f20, f21, f22, f23, f24, f25, f26]
                      exact ⟨(v_53, to_18, v_52, second_20, IntKind.wrap .i64 (cuts_21 + 1)), hk_28, ((weak_trim 0 1 v_53.length (b := ⟨_, _, _⟩) rfl (fLeW hv_53 (by simp) (by simp)) (by decide)).trans (weak_norm (ks := [6, 7, 8, 9, 10]) (π := [0, 1, 5, 3]) (fuel := 9) (by simp only [trS, trE, trH, trHS, trSV, trP, trC, ML, MB, and_self, r1, r2, r3, r4, r5, r6, r7, reduceCtorEq, TL, TT, fTrim GItem.ok hv_53 (lo := 1) (by simp), fTr GItem.ok, fTr GKey.ok])))⟩
                    · obtain ⟨v_54, hv_54, hk_28⟩ := bS hk_28
                      obtain ⟨v_55, hv_55, hk_28⟩ := bS hk_28
                      obtain ⟨v_56, hv_56, hk_28⟩ := bS hk_28
                      have f27 := (fPtrL hv_54 (k := 5) (n := to_18.length) (by simp) (c := 0) rfl)
                      have f28 := (fGetL0 GItem.ok hv_54 rfl (m := 5) (by decide) (by decide))
                      have f29 := (show bldN 1 = 1 from rfl)
                      have f30 := (show bldC [.int .i64 4, .int .i64 v_54.Kind, .str v_54.Name, .int .i32 v_54.N, .bool v_54.Hex, .int .u32 v_54.Raw] = [(⟨4, v_54⟩ : GKey)].flatMap GKey.cs from rfl)
                      have f31 := (fWin GKey.ok (n := 1) (xs := [(⟨4, v_54⟩ : GKey)]) (by simp))
                      have f32 := (fApp hv_55 (n := second_20.length) (by simp) (m := 1) (by simp [bsOf]))
                      have f33 := (fWin GKey.ok (n := second_20.length) (xs := second_20) (by simp))
                      have f34 := (fCat (e := GKey.cs) (ns := [(⟨4, v_54⟩ : GKey)].flatMap GKey.cs) hv_55 rfl)
                      have f35 := (fSubN hv_56 (n := to_18.length) (by simp))
                      try simp only [↓DN, UP, r1, r2, r3, r4, r5, r6, r7, reduceCtorEq, Try.f30, f27, f28, f29, f30, f31, f32, f33, f34, f35]
                      exact ⟨(vfrom_17, v_56, first_19, v_55, cuts_21), hk_28, ((weak_trim 1 1 v_56.length (b := ⟨_, _, _⟩) rfl (fLeW hv_56 (by simp) (by simp)) (by decide)).trans (weak_norm (ks := [6, 7, 8, 9, 10]) (π := [0, 1, 2, 5]) (fuel := 9) (by simp only [trS, trE, trH, trHS, trSV, trP, trC, ML, MB, and_self, r1, r2, r3, r4, r5, r6, r7, reduceCtorEq, TL, TT, fTrim GItem.ok hv_56 (lo := 1) (by simp), fTr GItem.ok, fTr GKey.ok])))⟩
            · try simp only [↓DN, UP, r1, r2, r3, r4, r5, r6, r7, reduceCtorEq, Try.f30]
              obtain rfl := Option.some.inj hk_28
              exact cutT_mk (first_19, second_20, cuts_21) rfl (wn [8, 9, 10] [])
          · rintro ⟨first_22, second_23, cuts_24⟩ hp
            replace hp := hp.symm; subst hp
            try dsimp only at h
            try simp only [↓DN, UP, r1, r2, r3, r4, r5, r6, r7, reduceCtorEq, Try.f30]
            refine seqN TryT_eq rfl ?_
            try simp only [↓DN, UP, r1, r2, r3, r4, r5, r6, r7, reduceCtorEq, Try.f30]
            refine stIf h (fun hb_57 h => ?_) (fun hb_57 h => ?_)
            · try simp only [↓DN, UP, r1, r2, r3, r4, r5, r6, r7, reduceCtorEq, Try.f30]
              obtain rfl := Option.some.inj h
              refine endT_of ?_ ⟨rfl, rfl⟩
              exact ((weak_norm (ks := [0]) (π := []) (fuel := 9) (s' := ⟨[(0, .tup [.one (.emp), .one (.bool false)])], []⟩) (by simp only [WL, r1, r2, r3, r4, r5, r6, r7, reduceCtorEq])).trans (weak_le (by simp only [LEb, r1, r2, r3, r4, r5, r6, r7, reduceCtorEq, TL]) (by simp only [LEb, r1, r2, r3, r4, r5, r6, r7, reduceCtorEq, TL])))
            · obtain ⟨y_58, hy_58, h⟩ := bS h
              have f36 := (show bldN 1 = 1 from rfl)
              have f37 := (show bldC [.int .i64 2, .int .i64 0, .str [], .int .i32 0, .bool false, .int .u32 0] = [(⟨2, (⟨0, [], 0, false, 0⟩ : GItem)⟩ : GKey)].flatMap GKey.cs from rfl)
              have f38 := (show bldN 3 = 3 from rfl)
              have f39 := (show bldC [.imm 6 first_22.length (first_22.flatMap GKey.cs), .arr 0 0 1, .imm 6 second_23.length (second_23.flatMap GKey.cs)] = [.imm 6 first_22.length (first_22.flatMap GKey.cs), .arr 0 0 1, .imm 6 second_23.length (second_23.flatMap GKey.cs)] from rfl)
              try simp only [↓DN, UP, r1, r2, r3, r4, r5, r6, r7, reduceCtorEq, Try.f30, f36, f37, f38, f39]
              refine callG [] 9 rfl (by simp only [WL, r1, r2, r3, r4, r5, r6, r7, reduceCtorEq, (show winC 0 3 1 [.imm 6 first_22.length (first_22.flatMap GKey.cs), .arr 0 0 1, .imm 6 second_23.length (second_23.flatMap GKey.cs)] = [.imm 6 first_22.length (first_22.flatMap GKey.cs), .arr 0 0 1, .imm 6 second_23.length (second_23.flatMap GKey.cs)] from rfl), (show List.flatMap (eL GKey.cs 6) [first_22, [(⟨2, (⟨0, [], 0, false, 0⟩ : GItem)⟩ : GKey)], second_23] = [.imm 6 first_22.length (first_22.flatMap GKey.cs), .imm 6 1 ([(⟨2, (⟨0, [], 0, false, 0⟩ : GItem)⟩ : GKey)].flatMap GKey.cs), .imm 6 second_23.length (second_23.flatMap GKey.cs)] from rfl), fWin GKey.ok (n := 1) (xs := [(⟨2, (⟨0, [], 0, false, 0⟩ : GItem)⟩ : GKey)]) (by simp)]) (by simp only [WL, r1, r2, r3, r4, r5, r6, r7, reduceCtorEq, (show winC 0 3 1 [.imm 6 first_22.length (first_22.flatMap GKey.cs), .arr 0 0 1, .imm 6 second_23.length (second_23.flatMap GKey.cs)] = [.imm 6 first_22.length (first_22.flatMap GKey.cs), .arr 0 0 1, .imm 6 second_23.length (second_23.flatMap GKey.cs)] from rfl), (show List.flatMap (eL GKey.cs 6) [first_22, [(⟨2, (⟨0, [], 0, false, 0⟩ : GItem)⟩ : GKey)], second_23] = [.imm 6 first_22.length (first_22.flatMap GKey.cs), .imm 6 1 ([(⟨2, (⟨0, [], 0, false, 0⟩ : GItem)⟩ : GKey)].flatMap GKey.cs), .imm 6 second_23.length (second_23.flatMap GKey.cs)] from rfl), fWin GKey.ok (n := 1) (xs := [(⟨2, (⟨0, [], 0, false, 0⟩ : GItem)⟩ : GKey)]) (by simp)]) rfl (c_slices_Concat_Key hy_58) (by simp only [WL, r1, r2, r3, r4, r5, r6, r7, reduceCtorEq]) ?_
              intro rd b
              try simp only [↓DN, UP, r1, r2, r3, r4, r5, r6, r7, reduceCtorEq, Try.f30, f36, f37, f38, f39]
              obtain rfl := Option.some.inj h
              refine endT_of ?_ ⟨rfl, rfl⟩
              exact (wn [0] [2])
theorem c_laws_eqItem {a_1 : GItem} {b_2 : GItem} {r : Bool} (h : g_laws_eqItem a_1 b_2 = some r) : Ans Try.prog 89 [.agg [.int .i64 a_1.Kind, .str a_1.Name, .int .i32 a_1.N, .bool a_1.Hex, .int .u32 a_1.Raw], .agg [.int .i64 b_2.Kind, .str b_2.Name, .int .i32 b_2.N, .bool b_2.Hex, .int .u32 b_2.Raw]] [] fun v h1 => v = .pv (.one (.bool r)) ∧ h1 = [] := by
  refine ansK (P := fun _ => Try.prog) TryT_eq (fn := Try.f89) Try.func89 rfl ⟨by kernel_rfl, rfl, rfl, by kernel_rfl⟩ (by simp) (Weak.refl _ _) ?_
  rw [g_laws_eqItem] at h
  try simp only [↓DN, UP, r1, r2, r3, r4, r5, r6, r7, reduceCtorEq, Try.f89]
  refine seqN TryT_eq rfl ?_
  try simp only [↓DN, UP, r1, r2, r3, r4, r5, r6, r7, reduceCtorEq, Try.f89]
  refine stIf h (fun hb_3 h => ?_) (fun hb_3 h => ?_)
  · try simp only [↓DN, UP, r1, r2, r3, r4, r5, r6, r7, reduceCtorEq, Try.f89]
    obtain rfl := Option.some.inj h
    refine endT_of ?_ ⟨rfl, rfl⟩
    exact (wn [0] [])
  · try simp only [↓DN, UP, r1, r2, r3, r4, r5, r6, r7, reduceCtorEq, Try.f89]
    refine seqN TryT_eq rfl ?_
    try simp only [↓DN, UP, r1, r2, r3, r4, r5, r6, r7, reduceCtorEq, Try.f89]
    refine stIf h (fun hb_4 h => ?_) (fun hb_4 h => ?_)
    · try simp only [↓DN, UP, r1, r2, r3, r4, r5, r6, r7, reduceCtorEq, Try.f89]
      obtain rfl := Option.some.inj h
      refine endT_of ?_ ⟨rfl, rfl⟩
      exact (wn [0] [])
    · try simp only [↓DN, UP, r1, r2, r3, r4, r5, r6, r7, reduceCtorEq, Try.f89]
      refine seqN TryT_eq rfl ?_
      try simp only [↓DN, UP, r1, r2, r3, r4, r5, r6, r7, reduceCtorEq, Try.f89]
      refine stIf h (fun hb_5 h => ?_) (fun hb_5 h => ?_)
      · try simp only [↓DN, UP, r1, r2, r3, r4, r5, r6, r7, reduceCtorEq, Try.f89]
        obtain rfl := Option.some.inj h
        refine endT_of ?_ ⟨rfl, rfl⟩
        exact (wn [0] [])
      · try simp only [↓DN, UP, r1, r2, r3, r4, r5, r6, r7, reduceCtorEq, Try.f89]
        refine seqN TryT_eq rfl ?_
        try simp only [↓DN, UP, r1, r2, r3, r4, r5, r6, r7, reduceCtorEq, Try.f89]
        refine stIf h (fun hb_6 h => ?_) (fun hb_6 h => ?_)
        · try simp only [↓DN, UP, r1, r2, r3, r4, r5, r6, r7, reduceCtorEq, Try.f89]
          obtain rfl := Option.some.inj h
          refine endT_of ?_ ⟨rfl, rfl⟩
          exact (wn [0] [])
        · try simp only [↓DN, UP, r1, r2, r3, r4, r5, r6, r7, reduceCtorEq, Try.f89]
          refine seqN TryT_eq rfl ?_
          try simp only [↓DN, UP, r1, r2, r3, r4, r5, r6, r7, reduceCtorEq, Try.f89]
          refine stIf h (fun hb_7 h => ?_) (fun hb_7 h => ?_)
          · try simp only [↓DN, UP, r1, r2, r3, r4, r5, r6, r7, reduceCtorEq, Try.f89]
            obtain rfl := Option.some.inj h
            refine endT_of ?_ ⟨rfl, rfl⟩
            exact (wn [0] [])
          · try simp only [↓DN, UP, r1, r2, r3, r4, r5, r6, r7, reduceCtorEq, Try.f89]
            obtain rfl := Option.some.inj h
            refine endT_of ?_ ⟨rfl, rfl⟩
            exact (wn [0] [])
theorem c_laws_eqKey {a_1 : GKey} {b_2 : GKey} {r : Bool} (h : g_laws_eqKey a_1 b_2 = some r) : Ans Try.prog 65 [.agg [.int .i64 a_1.Op, .int .i64 a_1.Item.Kind, .str a_1.Item.Name, .int .i32 a_1.Item.N, .bool a_1.Item.Hex, .int .u32 a_1.Item.Raw], .agg [.int .i64 b_2.Op, .int .i64 b_2.Item.Kind, .str b_2.Item.Name, .int .i32 b_2.Item.N, .bool b_2.Item.Hex, .int .u32 b_2.Item.Raw]] [] fun v h1 => v = .pv (.one (.bool r)) ∧ h1 = [] := by
  refine ansK (P := fun _ => Try.prog) TryT_eq (fn := Try.f65) Try.func65 rfl ⟨by kernel_rfl, rfl, rfl, by kernel_rfl⟩ (by simp) (Weak.refl _ _) ?_
  rw [g_laws_eqKey] at h
  try simp only [↓DN, UP, r1, r2, r3, r4, r5, r6, r7, reduceCtorEq, Try.f65]
  refine seqN TryT_eq rfl ?_
  try simp only [↓DN, UP, r1, r2, r3, r4, r5, r6, r7, reduceCtorEq, Try.f65]
  refine stIf h (fun hb_3 h => ?_) (fun hb_3 h => ?_)
  · try simp only [↓DN, UP, r1, r2, r3, r4, r5, r6, r7, reduceCtorEq, Try.f65]
    obtain rfl := Option.some.inj h
    refine endT_of ?_ ⟨rfl, rfl⟩
    exact (wn [0] [])
  · try simp only [↓DN, UP, r1, r2, r3, r4, r5, r6, r7, reduceCtorEq, Try.f65]
    refine seqN TryT_eq rfl ?_
    obtain ⟨y_4, hy_4, h⟩ := bS h
    try simp only [↓DN, UP, r1, r2, r3, r4, r5, r6, r7, reduceCtorEq, Try.f65]
    refine cG [] (c_laws_eqItem hy_4) (hK := fun rd b => ?_)
    try simp only [↓DN, UP, r1, r2, r3, r4, r5, r6, r7, reduceCtorEq, Try.f65]
    refine stIf h (fun hb_5 h => ?_) (fun hb_5 h => ?_)
    · try simp only [↓DN, UP, r1, r2, r3, r4, r5, r6, r7, reduceCtorEq, Try.f65]
      obtain rfl := Option.some.inj h
      refine endT_of ?_ ⟨rfl, rfl⟩
      exact (wn [0] [])
    · try simp only [↓DN, UP, r1, r2, r3, r4, r5, r6, r7, reduceCtorEq, Try.f65]
      obtain rfl := Option.some.inj h
      refine endT_of ?_ ⟨rfl, rfl⟩
      exact (wn [0] [])
theorem c_laws_eqKeyS {a_1 : List GKey} {b_2 : List GKey} {r : Bool} (h : g_laws_eqKeyS a_1 b_2 = some r) : Ans Try.prog 31 [.one (.imm 6 a_1.length (a_1.flatMap GKey.cs)), .one (.imm 6 b_2.length (b_2.flatMap GKey.cs))] [] fun v h1 => v = .pv (.one (.bool r)) ∧ h1 = [] := by
  refine ansK (P := fun _ => Try.prog) TryT_eq (fn := Try.f31) Try.func31 rfl ⟨by kernel_rfl, rfl, rfl, by kernel_rfl⟩ (by simp) (Weak.refl _ _) ?_
  rw [g_laws_eqKeyS] at h
  try simp only [↓DN, UP, r1, r2, r3, r4, r5, r6, r7, reduceCtorEq, Try.f31]
  refine seqN TryT_eq rfl ?_
  try simp only [↓DN, UP, r1, r2, r3, r4, r5, r6, r7, reduceCtorEq, Try.f31]
  refine stIf h (fun hb_3 h => ?_) (fun hb_3 h => ?_)
  · try simp only [↓DN, UP, r1, r2, r3, r4, r5, r6, r7, reduceCtorEq, Try.f31]
    obtain rfl := Option.some.inj h
    refine endT_of ?_ ⟨rfl, rfl⟩
    exact (wn [0] [])
  · try simp only [↓DN, UP, r1, r2, r3, r4, r5, r6, r7, reduceCtorEq, Try.f31]
    obtain ⟨y_4, hy_5, h⟩ := bS h
    refine seqK TryT_eq (fun p : Unit => ⟨[], []⟩) (fun v => y_4 = .inl v) (by rfl) ?_ ?_
    · try simp only [↓DN, UP, r1, r2, r3, r4, r5, r6, r7, reduceCtorEq, Try.f31]
      obtain ⟨y_7, hy_8, hy_5⟩ := bS hy_5
      refine loopK TryT_eq (fun p : Int => ⟨[(0, .pv (.one (.imm 6 a_1.length (a_1.flatMap GKey.cs)))), (1, .pv (.one (.imm 6 b_2.length (b_2.flatMap GKey.cs)))), (5, .pv (.one (.int .i64 p)))], []⟩) (fun k p => g_laws_eqKeyS_l0 a_1 b_2 k p = some y_7) (by kernel_rfl) bigK 0 (wn [0, 1, 5] []) hy_8 (fun _ h => nomatch (show none = some _ from h)) ?_
      rintro k_9 i_6 hk_10
      rw [g_laws_eqKeyS_l0] at hk_10
      try dsimp only at hk_10
      try simp only [↓DN, UP, r1, r2, r3, r4, r5, r6, r7, reduceCtorEq, Try.f31]
      refine seqN TryT_eq rfl ?_
      try simp only [↓DN, UP, r1, r2, r3, r4, r5, r6, r7, reduceCtorEq, Try.f31]
      refine stIf hk_10 (fun hb_11 hk_10 => ?_) (fun hb_11 hk_10 => ?_)
      · try simp only [↓DN, UP, r1, r2, r3, r4, r5, r6, r7, reduceCtorEq, Try.f31]
        refine seqN TryT_eq rfl ?_
        obtain ⟨v_12, hv_12, hk_10⟩ := bS hk_10
        obtain ⟨v_13, hv_13, hk_10⟩ := bS hk_10
        obtain ⟨y_14, hy_14, hk_10⟩ := bS hk_10
        have f1 := (fAt GKey.ok hv_12 (n := a_1.length) (by simp))
        have f2 := (fAt GKey.ok hv_13 (n := b_2.length) (by simp))
        try simp only [↓DN, UP, r1, r2, r3, r4, r5, r6, r7, reduceCtorEq, Try.f31, f1, f2]
        refine callE [] (rd1 := []) (rd2 := []) 9 rfl (by simp only [WL, r1, r2, r3, r4, r5, r6, r7, reduceCtorEq]) (by simp only [WL, r1, r2, r3, r4, r5, r6, r7, reduceCtorEq]) rfl (c_laws_eqKey hy_14) (by simp only [WL, r1, r2, r3, r4, r5, r6, r7, reduceCtorEq]) ?_
        try simp only [↓DN, UP, r1, r2, r3, r4, r5, r6, r7, reduceCtorEq, Try.f31, f1, f2]
        refine ⟨rfl, ?_⟩
        try simp only [↓DN, UP, r1, r2, r3, r4, r5, r6, r7, reduceCtorEq, Try.f31, f1, f2]
        refine stIf hk_10 (fun hb_15 hk_10 => ?_) (fun hb_15 hk_10 => ?_)
        · obtain rfl := Option.some.inj hk_10
          try dsimp only at hy_5
          obtain rfl := Option.some.inj hy_5
          try dsimp only at h
          try simp only [↓DN, UP, r1, r2, r3, r4, r5, r6, r7, reduceCtorEq, Try.f31, f1, f2]
          obtain rfl := Option.some.inj h
          refine endT_of ?_ ⟨rfl, rfl⟩
          exact (wn [0] [])
        · try simp only [↓DN, UP, r1, r2, r3, r4, r5, r6, r7, reduceCtorEq, Try.f31, f1, f2]
          exact ⟨IntKind.wrap .i64 (i_6 + 1), hk_10, (wn [0, 1, 5] [])⟩
      · obtain rfl := Option.some.inj hk_10
        try dsimp only at hy_5
        try simp only [↓DN, UP, r1, r2, r3, r4, r5, r6, r7, reduceCtorEq, Try.f31]
        obtain rfl := Option.some.inj hy_5
        exact cutT_mk () (by trivial) (wn [] [])
    · rintro _ hp
      replace hp := hp.symm; subst hp
      try dsimp only at h
      try simp only [↓DN, UP, r1, r2, r3, r4, r5, r6, r7, reduceCtorEq, Try.f31]
      obtain rfl := Option.some.inj h
      refine endT_of ?_ ⟨rfl, rfl⟩
      exact (wn [0] [])
theorem c_laws_eqUint32S {a_1 : List Int} {b_2 : List Int} {r : Bool} (h : g_laws_eqUint32S a_1 b_2 = some r) : Ans Try.prog 32 [.one (.imm 1 a_1.length (a_1.flatMap (eI .u32))), .one (.imm 1 b_2.length (b_2.flatMap (eI .u32)))] [] fun v h1 => v = .pv (.one (.bool r)) ∧ h1 = [] := by
  refine ansK (P := fun _ => Try.prog) TryT_eq (fn := Try.f32) Try.func32 rfl ⟨by kernel_rfl, rfl, rfl, by kernel_rfl⟩ (by simp) (Weak.refl _ _) ?_
  rw [g_laws_eqUint32S] at h
  try simp only [↓DN, UP, r1, r2, r3, r4, r5, r6, r7, reduceCtorEq, Try.f32]
  refine seqN TryT_eq rfl ?_
  try simp only [↓DN, UP, r1, r2, r3, r4, r5, r6, r7, reduceCtorEq, Try.f32]
  refine stIf h (fun hb_3 h => ?_) (fun hb_3 h => ?_)
  · try simp only [↓DN, UP, r1, r2, r3, r4, r5, r6, r7, reduceCtorEq, Try.f32]
    obtain rfl := Option.some.inj h
    refine endT_of ?_ ⟨rfl, rfl⟩
    exact (wn [0] [])
  · try simp only [↓DN, UP, r1, r2, r3, r4, r5, r6, r7, reduceCtorEq, Try.f32]
    obtain ⟨y_4, hy_5, h⟩ := bS h
    refine seqK TryT_eq (fun p : Unit => ⟨[], []⟩) (fun v => y_4 = .inl v) (by rfl) ?_ ?_
    · try simp only [↓DN, UP, r1, r2, r3, r4, r5, r6, r7, reduceCtorEq, Try.f32]
      obtain ⟨y_7, hy_8, hy_5⟩ := bS hy_5
      refine loopK TryT_eq (fun p : Int => ⟨[(0, .pv (.one (.imm 1 a_1.length (a_1.flatMap (eI .u32))))), (1, .pv (.one (.imm 1 b_2.length (b_2.flatMap (eI .u32))))), (5, .pv (.one (.int .i64 p)))], []⟩) (fun k p => g_laws_eqUint32S_l0 a_1 b_2 k p = some y_7) (by kernel_rfl) bigK 0 (wn [0, 1, 5] []) hy_8 (fun _ h => nomatch (show none = some _ from h)) ?_
      rintro k_9 i_6 hk_10
      rw [g_laws_eqUint32S_l0] at hk_10
      try dsimp only at hk_10
      try simp only [↓DN, UP, r1, r2, r3, r4, r5, r6, r7, reduceCtorEq, Try.f32]
      refine seqN TryT_eq rfl ?_
      try simp only [↓DN, UP, r1, r2, r3, r4, r5, r6, r7, reduceCtorEq, Try.f32]
      refine stIf hk_10 (fun hb_11 hk_10 => ?_) (fun hb_11 hk_10 => ?_)
      · try simp only [↓DN, UP, r1, r2, r3, r4, r5, r6, r7, reduceCtorEq, Try.f32]
        refine seqN TryT_eq rfl ?_
        obtain ⟨v_12, hv_12, hk_10⟩ := bS hk_10
        obtain ⟨v_13, hv_13, hk_10⟩ := bS hk_10
        have f1 := (fAt (eI_ok .u32) hv_12 (n := a_1.length) (by simp))
        have f2 := (fAt (eI_ok .u32) hv_13 (n := b_2.length) (by simp))
        try simp only [↓DN, UP, r1, r2, r3, r4, r5, r6, r7, reduceCtorEq, Try.f32, f1, f2]
        refine ⟨rfl, ?_⟩
        try simp only [↓DN, UP, r1, r2, r3, r4, r5, r6, r7, reduceCtorEq, Try.f32, f1, f2]
        refine stIf hk_10 (fun hb_14 hk_10 => ?_) (fun hb_14 hk_10 => ?_)
        · obtain rfl := Option.some.inj hk_10
          try dsimp only at hy_5
          obtain rfl := Option.some.inj hy_5
          try dsimp only at h
          try simp only [↓DN, UP, r1, r2, r3, r4, r5, r6, r7, reduceCtorEq, Try.f32, f1, f2]
          obtain rfl := Option.some.inj h
          refine endT_of ?_ ⟨rfl, rfl⟩
          exact (wn [0] [])
        · try simp only [↓DN, UP, r1, r2, r3, r4, r5, r6, r7, reduceCtorEq, Try.f32, f1, f2]
          exact ⟨IntKind.wrap .i64 (i_6 + 1), hk_10, (wn [0, 1, 5] [])⟩
      · obtain rfl := Option.some.inj hk_10
        try dsimp only at hy_5
        try simp only [↓DN, UP, r1, r2, r3, r4, r5, r6, r7, reduceCtorEq, Try.f32]
        obtain rfl := Option.some.inj hy_5
        exact cutT_mk () (by trivial) (wn [] [])
    · rintro _ hp
      replace hp := hp.symm; subst hp
      try dsimp only at h
      try simp only [↓DN, UP, r1, r2, r3, r4, r5, r6, r7, reduceCtorEq, Try.f32]
      obtain rfl := Option.some.inj h
      refine endT_of ?_ ⟨rfl, rfl⟩
      exact (wn [0] [])
theorem c_laws_markUint32S {a_1 : List Int} {k_2 : Int} {r : Int × (List Int)} (h : g_laws_markUint32S a_1 k_2 = some r) : Ans Try.prog 33 [.one (.arr 0 0 a_1.length), .one (.int .i64 k_2)] [.live ⟨1, a_1.length, a_1.flatMap (eI .u32)⟩] fun v h1 => v = .pv (.one (.int .i64 r.1)) ∧ h1 = [.live ⟨1, r.2.length, r.2.flatMap (eI .u32)⟩] := by
  refine ansK (P := fun _ => Try.prog) TryT_eq (fn := Try.f33) Try.func33 rfl ⟨by kernel_rfl, rfl, rfl, by kernel_rfl⟩ (by simp) (Weak.refl _ _) ?_
  rw [g_laws_markUint32S] at h
  try simp only [↓DN, UP, r1, r2, r3, r4, r5, r6, r7, reduceCtorEq, Try.f33]
  obtain ⟨y_5, hy_6, h⟩ := bS h
  refine seqK TryT_eq (fun p : (List Int) × Int => ⟨[(1, .pv (.one (.int .i64 p.2)))], [.live ⟨1, p.1.length, p.1.flatMap (eI .u32)⟩]⟩) (fun v => y_5 = v) (by rfl) ?_ ?_
  · try simp only [↓DN, UP, r1, r2, r3, r4, r5, r6, r7, reduceCtorEq, Try.f33]
    obtain ⟨y_12, hy_13, hy_6⟩ := bS hy_6
    refine loopK TryT_eq (fun p : (List Int) × Int × Int => ⟨[(0, .pv (.one (.arr 0 0 p.1.length))), (1, .pv (.one (.int .i64 p.2.1))), (5, .pv (.one (.int .i64 p.2.2)))], [.live ⟨1, p.1.length, p.1.flatMap (eI .u32)⟩]⟩) (fun k p => g_laws_markUint32S_l0 k p.1 p.2.1 p.2.2 = some y_12) (by kernel_rfl) bigK (a_1, k_2, 0) (wn [0, 1, 5] [0]) hy_13 (fun _ h => nomatch (show none = some _ from h)) ?_
    rintro k_14 ⟨a_7, k_8, i_9⟩ hk_15
    rw [g_laws_markUint32S_l0] at hk_15
    try dsimp only at hk_15
    try simp only [↓DN, UP, r1, r2, r3, r4, r5, r6, r7, reduceCtorEq, Try.f33]
    refine seqN TryT_eq rfl ?_
    try simp only [↓DN, UP, r1, r2, r3, r4, r5, r6, r7, reduceCtorEq, Try.f33]
    refine stIf hk_15 (fun hb_16 hk_15 => ?_) (fun hb_16 hk_15 => ?_)
    · try simp only [↓DN, UP, r1, r2, r3, r4, r5, r6, r7, reduceCtorEq, Try.f33]
      refine seqN TryT_eq rfl ?_
      obtain ⟨v_17, hv_17, hk_15⟩ := bS hk_15
      have f1 := (fPtr hv_17 (k := 1) (n := a_7.length) (by simp))
      have f2 := (fPut0 (eI_ok .u32) hv_17 (ns := [.int .u32 (IntKind.wrap .u32 k_8)]) (y := IntKind.wrap .u32 k_8) rfl)
      try simp only [↓DN, UP, r1, r2, r3, r4, r5, r6, r7, reduceCtorEq, Try.f33, f1, f2]
      exact ⟨(a_7.set i_9.toNat (IntKind.wrap .u32 k_8), IntKind.wrap .i64 (k_8 + 1), IntKind.wrap .i64 (i_9 + 1)), hk_15, (weak_norm (ks := [0, 1, 5]) (π := [0]) (fuel := 9) (by simp only [WL, r1, r2, r3, r4, r5, r6, r7, reduceCtorEq, fWin (eI_ok .u32) (n := a_7.length) (xs := a_7.set i_9.toNat (IntKind.wrap .u32 k_8)) (by simp)]))⟩
    · obtain rfl := Option.some.inj hk_15
      try dsimp only at hy_6
      try simp only [↓DN, UP, r1, r2, r3, r4, r5, r6, r7, reduceCtorEq, Try.f33]
      obtain rfl := Option.some.inj hy_6
      exact cutT_mk (a_7, k_8) rfl (wn [1] [0])
  · rintro ⟨p_3, k_4⟩ hp
    replace hp := hp.symm; subst hp
    try dsimp only at h
    try simp only [↓DN, UP, r1, r2, r3, r4, r5, r6, r7, reduceCtorEq, Try.f33]
    obtain rfl := Option.some.inj h
    refine endT_of ?_ ⟨rfl, rfl⟩
    exact (wn [0] [0])
theorem c_laws_markText {k_1 : Int} {r : Bs} (h : g_laws_markText k_1 = some r) : Ans Try.prog 48 [.one (.int .i64 k_1)] [] fun v h1 => v = .pv (.one (.str r)) ∧ h1 = [] := by
  refine ansK (P := fun _ => Try.prog) TryT_eq (fn := Try.f48) Try.func48 rfl ⟨by kernel_rfl, rfl, rfl, by kernel_rfl⟩ (by simp) (Weak.refl _ _) ?_
  rw [g_laws_markText] at h
  try simp only [↓DN, UP, r1, r2, r3, r4, r5, r6, r7, reduceCtorEq, Try.f48]
  refine seqN TryT_eq rfl ?_
  try simp only [↓DN, UP, r1, r2, r3, r4, r5, r6, r7, reduceCtorEq, Try.f48]
  refine stIf h (fun hb_2 h => ?_) (fun hb_2 h => ?_)
  · try simp only [↓DN, UP, r1, r2, r3, r4, r5, r6, r7, reduceCtorEq, Try.f48]
    obtain rfl := Option.some.inj h
    refine endT_of ?_ ⟨rfl, rfl⟩
    exact (wn [0] [])
  · try simp only [↓DN, UP, r1, r2, r3, r4, r5, r6, r7, reduceCtorEq, Try.f48]
    obtain ⟨y_6, hy_7, h⟩ := bS h
    refine seqK TryT_eq (fun p : Bs => ⟨[(3, .pv (.one (.str p)))], []⟩) (fun v => y_6 = v) (by rfl) ?_ ?_
    · try simp only [↓DN, UP, r1, r2, r3, r4, r5, r6, r7, reduceCtorEq, Try.f48]
      refine loopK TryT_eq (fun p : Int × Bs => ⟨[(0, .pv (.one (.int .i64 p.1))), (3, .pv (.one (.str p.2)))], []⟩) (fun k p => g_laws_markText_l0 k p.1 p.2 = some y_6) (by kernel_rfl) bigK (k_1, []) (wn [0, 3] []) hy_7 (fun _ h => nomatch (show none = some _ from h)) ?_
      rintro k_8 ⟨k_3, out_4⟩ hk_9
      rw [g_laws_markText_l0] at hk_9
      try dsimp only at hk_9
      try simp only [↓DN, UP, r1, r2, r3, r4, r5, r6, r7, reduceCtorEq, Try.f48]
      refine seqN TryT_eq rfl ?_
      try simp only [↓DN, UP, r1, r2, r3, r4, r5, r6, r7, reduceCtorEq, Try.f48]
      refine stIf hk_9 (fun hb_10 hk_9 => ?_) (fun hb_10 hk_9 => ?_)
      · obtain ⟨v_11, hv_11, hk_9⟩ := bS hk_9
        have f1 := (remI_ne (k := .i64) (a := k_3) (b := 10) (by decide))
        have f2 := (show bldN 1 = 1 from rfl)
        have f3 := (show bldC [.int .u8 (IntKind.wrap .u8 (IntKind.wrap .i64 (48 + (Int.tmod k_3 10))))] = [IntKind.wrap .u8 (IntKind.wrap .i64 (48 + (Int.tmod k_3 10)))].flatMap (eI .u8) from rfl)
        have f4 := (fWin (eI_ok .u8) (n := 1) (xs := [IntKind.wrap .u8 (IntKind.wrap .i64 (48 + (Int.tmod k_3 10)))]) (by simp))
        have f5 := (quoI_ne (k := .i64) (a := k_3) (b := 10) (by decide))
        try simp only [↓DN, UP, r1, r2, r3, r4, r5, r6, r7, reduceCtorEq, Try.f48, f1, f2, f3, f4, hv_11, f5]
        exact ⟨(IntKind.wrap .i64 (Int.tdiv k_3 10), v_11), hk_9, (wn [0, 3] [])⟩
      · try simp only [↓DN, UP, r1, r2, r3, r4, r5, r6, r7, reduceCtorEq, Try.f48]
        obtain rfl := Option.some.inj hk_9
        exact cutT_mk out_4 rfl (wn [3] [])
    · rintro out_5 hp
      replace hp := hp.symm; subst hp
      try dsimp only at h
      obtain ⟨v_12, hv_12, h⟩ := bS h
      try simp only [↓DN, UP, r1, r2, r3, r4, r5, r6, r7, reduceCtorEq, Try.f48, hv_12]
      obtain rfl := Option.some.inj h
      refine endT_of ?_ ⟨rfl, rfl⟩
      exact (wn [0] [])
theorem c_laws_markKeyS {a_1 : List GKey} {k_2 : Int} {r : Int × (List GKey)} (h : g_laws_markKeyS a_1 k_2 = some r) : Ans Try.prog 34 [.one (.arr 0 0 a_1.length), .one (.int .i64 k_2)] [.live ⟨6, a_1.length, a_1.flatMap GKey.cs⟩] fun v h1 => v = .pv (.one (.int .i64 r.1)) ∧ h1 = [.live ⟨6, r.2.length, r.2.flatMap GKey.cs⟩] := by
  refine ansK (P := fun _ => Try.prog) TryT_eq (fn := Try.f34) Try.func34 rfl ⟨by kernel_rfl, rfl, rfl, by kernel_rfl⟩ (by simp) (Weak.refl _ _) ?_
  rw [g_laws_markKeyS] at h
  try simp only [↓DN, UP, r1, r2, r3, r4, r5, r6, r7, reduceCtorEq, Try.f34]
  obtain ⟨y_5, hy_6, h⟩ := bS h
  refine seqK TryT_eq (fun p : (List GKey) × Int => ⟨[(1, .pv (.one (.int .i64 p.2)))], [.live ⟨6, p.1.length, p.1.flatMap GKey.cs⟩]⟩) (fun v => y_5 = v) (by rfl) ?_ ?_
  · try simp only [↓DN, UP, r1, r2, r3, r4, r5, r6, r7, reduceCtorEq, Try.f34]
    obtain ⟨y_12, hy_13, hy_6⟩ := bS hy_6
    refine loopK TryT_eq (fun p : (List GKey) × Int × Int => ⟨[(0, .pv (.one (.arr 0 0 p.1.length))), (1, .pv (.one (.int .i64 p.2.1))), (5, .pv (.one (.int .i64 p.2.2)))], [.live ⟨6, p.1.length, p.1.flatMap GKey.cs⟩]⟩) (fun k p => g_laws_markKeyS_l0 k p.1 p.2.1 p.2.2 = some y_12) (by kernel_rfl) bigK (a_1, k_2, 0) (wn [0, 1, 5] [0]) hy_13 (fun _ h => nomatch (show none = some _ from h)) ?_
    rintro k_14 ⟨a_7, k_8, i_9⟩ hk_15
    rw [g_laws_markKeyS_l0] at hk_15
    try dsimp only at hk_15
    try simp only [↓DN, UP, r1, r2, r3, r4, r5, r6, r7, reduceCtorEq, Try.f34]
    refine seqN TryT_eq rfl ?_
    try simp only [↓DN, UP, r1, r2, r3, r4, r5, r6, r7, reduceCtorEq, Try.f34]
    refine stIf hk_15 (fun hb_16 hk_15 => ?_) (fun hb_16 hk_15 => ?_)
    · try simp only [↓DN, UP, r1, r2, r3, r4, r5, r6, r7, reduceCtorEq, Try.f34]
      refine seqN TryT_eq rfl ?_
      obtain ⟨v_17, hv_17, hk_15⟩ := bS hk_15
      obtain ⟨v_18, hv_18, hk_15⟩ := bS hk_15
      obtain ⟨y_19, hy_19, hk_15⟩ := bS hk_15
      have f1 := (fPtr hv_17 (k := 6) (n := a_7.length) (by simp))
      have f2 := (fPut0 GKey.ok hv_17 (ns := [.int .i64 k_8]) (y := (⟨k_8, v_17.Item⟩ : GKey)) rfl)
      have f3 := (fPtr hv_18 (k := 6) (n := a_7.length) (by simp))
      have f4 := (fPut GKey.ok hv_18 (q := 1) (ns := [.int .i64 (IntKind.wrap .i64 (k_8 + 1))]) (y := (⟨v_18.Op, (⟨IntKind.wrap .i64 (k_8 + 1), v_18.Item.Name, v_18.Item.N, v_18.Item.Hex, v_18.Item.Raw⟩ : GItem)⟩ : GKey)) rfl)
      try simp only [↓DN, UP, r1, r2, r3, r4, r5, r6, r7, reduceCtorEq, Try.f34, f1, f2, f3, f4]
      refine cG [] (c_laws_markText hy_19) (hK := fun rd b => ?_)
      obtain ⟨v_20, hv_20, hk_15⟩ := bS hk_15
      obtain ⟨v_21, hv_21, hk_15⟩ := bS hk_15
      obtain ⟨v_22, hv_22, hk_15⟩ := bS hk_15
      obtain ⟨v_23, hv_23, hk_15⟩ := bS hk_15
      have f5 := (fPtr hv_20 (k := 6) (n := a_7.length) (by simp))
      have f6 := (Nat.add_assoc (i_9.toNat * 6) 1 1)
      have f7 := (fPut GKey.ok hv_20 (q := 2) (ns := [.str y_19]) (y := (⟨v_20.Op, (⟨v_20.Item.Kind, y_19, v_20.Item.N, v_20.Item.Hex, v_20.Item.Raw⟩ : GItem)⟩ : GKey)) rfl)
      have f8 := (fPtr hv_21 (k := 6) (n := a_7.length) (by simp))
      have f9 := (Nat.add_assoc (i_9.toNat * 6) 1 2)
      have f10 := (fPut GKey.ok hv_21 (q := 3) (ns := [.int .i32 (IntKind.wrap .i32 (IntKind.wrap .i64 ((IntKind.wrap .i64 ((IntKind.wrap .i64 (k_8 + 1)) + 1)) + 1)))]) (y := (⟨v_21.Op, (⟨v_21.Item.Kind, v_21.Item.Name, IntKind.wrap .i32 (IntKind.wrap .i64 ((IntKind.wrap .i64 ((IntKind.wrap .i64 (k_8 + 1)) + 1)) + 1)), v_21.Item.Hex, v_21.Item.Raw⟩ : GItem)⟩ : GKey)) rfl)
      have f11 := (remI_ne (k := .i64) (a := IntKind.wrap .i64 ((IntKind.wrap .i64 ((IntKind.wrap .i64 ((IntKind.wrap .i64 (k_8 + 1)) + 1)) + 1)) + 1)) (b := 3) (by decide))
      have f12 := (fPtr hv_22 (k := 6) (n := a_7.length) (by simp))
      have f13 := (Nat.add_assoc (i_9.toNat * 6) 1 3)
      have f14 := (fPut GKey.ok hv_22 (q := 4) (ns := [.bool ((Int.tmod (IntKind.wrap .i64 ((IntKind.wrap .i64 ((IntKind.wrap .i64 ((IntKind.wrap .i64 (k_8 + 1)) + 1)) + 1)) + 1)) 3) == 0)]) (y := (⟨v_22.Op, (⟨v_22.Item.Kind, v_22.Item.Name, v_22.Item.N, ((Int.tmod (IntKind.wrap .i64 ((IntKind.wrap .i64 ((IntKind.wrap .i64 ((IntKind.wrap .i64 (k_8 + 1)) + 1)) + 1)) + 1)) 3) == 0), v_22.Item.Raw⟩ : GItem)⟩ : GKey)) rfl)
      have f15 := (fPtr hv_23 (k := 6) (n := a_7.length) (by simp))
      have f16 := (Nat.add_assoc (i_9.toNat * 6) 1 4)
      have f17 := (fPut GKey.ok hv_23 (q := 5) (ns := [.int .u32 (IntKind.wrap .u32 (IntKind.wrap .i64 ((IntKind.wrap .i64 ((IntKind.wrap .i64 ((IntKind.wrap .i64 ((IntKind.wrap .i64 (k_8 + 1)) + 1)) + 1)) + 1)) + 1)))]) (y := (⟨v_23.Op, (⟨v_23.Item.Kind, v_23.Item.Name, v_23.Item.N, v_23.Item.Hex, IntKind.wrap .u32 (IntKind.wrap .i64 ((IntKind.wrap .i64 ((IntKind.wrap .i64 ((IntKind.wrap .i64 ((IntKind.wrap .i64 (k_8 + 1)) + 1)) + 1)) + 1)) + 1))⟩ : GItem)⟩ : GKey)) rfl)
      try simp only [↓DN, UP, r1, r2, r3, r4, r5, r6, r7, reduceCtorEq, Try.f34, f1, f2, f3, f4, f5, f6, f7, f8, f9, f10, f11, f12, f13, f14, f15, f16, f17]
      exact ⟨((((((a_7.set i_9.toNat (⟨k_8, v_17.Item⟩ : GKey)).set i_9.toNat (⟨v_18.Op, (⟨IntKind.wrap .i64 (k_8 + 1), v_18.Item.Name, v_18.Item.N, v_18.Item.Hex, v_18.Item.Raw⟩ : GItem)⟩ : GKey)).set i_9.toNat (⟨v_20.Op, (⟨v_20.Item.Kind, y_19, v_20.Item.N, v_20.Item.Hex, v_20.Item.Raw⟩ : GItem)⟩ : GKey)).set i_9.toNat (⟨v_21.Op, (⟨v_21.Item.Kind, v_21.Item.Name, IntKind.wrap .i32 (IntKind.wrap .i64 ((IntKind.wrap .i64 ((IntKind.wrap .i64 (k_8 + 1)) + 1)) + 1)), v_21.Item.Hex, v_21.Item.Raw⟩ : GItem)⟩ : GKey)).set i_9.toNat (⟨v_22.Op, (⟨v_22.Item.Kind, v_22.Item.Name, v_22.Item.N, ((Int.tmod (IntKind.wrap .i64 ((IntKind.wrap .i64 ((IntKind.wrap .i64 ((IntKind.wrap .i64 (k_8 + 1)) + 1)) + 1)) + 1)) 3) == 0), v_22.Item.Raw⟩ : GItem)⟩ : GKey)).set i_9.toNat (⟨v_23.Op, (⟨v_23.Item.Kind, v_23.Item.Name, v_23.Item.N, v_23.Item.Hex, IntKind.wrap .u32 (IntKind.wrap .i64 ((IntKind.wrap .i64 ((IntKind.wrap .i64 ((IntKind.wrap .i64 ((IntKind.wrap .i64 (k_8 + 1)) + 1)) + 1)) + 1)) + 1))⟩ : GItem)⟩ : GKey), IntKind.wrap .i64 ((IntKind.wrap .i64 ((IntKind.wrap .i64 ((IntKind.wrap .i64 ((IntKind.wrap .i64 ((IntKind.wrap .i64 (k_8 + 1)) + 1)) + 1)) + 1)) + 1)) + 1), IntKind.wrap .i64 (i_9 + 1)), hk_15, (weak_norm (ks := [0, 1, 5]) (π := [0]) (fuel := 9) (by simp only [WL, r1, r2, r3, r4, r5, r6, r7, reduceCtorEq, fWin GKey.ok (n := a_7.length) (xs := (((((a_7.set i_9.toNat (⟨k_8, v_17.Item⟩ : GKey)).set i_9.toNat (⟨v_18.Op, (⟨IntKind.wrap .i64 (k_8 + 1), v_18.Item.Name, v_18.Item.N, v_18.Item.Hex, v_18.Item.Raw⟩ : GItem)⟩ : GKey)).set i_9.toNat (⟨v_20.Op, (⟨v_20.Item.Kind, y_19, v_20.Item.N, v_20.Item.Hex, v_20.Item.Raw⟩ : GItem)⟩ : GKey)).set i_9.toNat (⟨v_21.Op, (⟨v_21.Item.Kind, v_21.Item.Name, IntKind.wrap .i32 (IntKind.wrap .i64 ((IntKind.wrap .i64 ((IntKind.wrap .i64 (k_8 + 1)) + 1)) + 1)), v_21.Item.Hex, v_21.Item.Raw⟩ : GItem)⟩ : GKey)).set i_9.toNat (⟨v_22.Op, (⟨v_22.Item.Kind, v_22.Item.Name, v_22.Item.N, ((Int.tmod (IntKind.wrap .i64 ((IntKind.wrap .i64 ((IntKind.wrap .i64 ((IntKind.wrap .i64 (k_8 + 1)) + 1)) + 1)) + 1)) 3) == 0), v_22.Item.Raw⟩ : GItem)⟩ : GKey)).set i_9.toNat (⟨v_23.Op, (⟨v_23.Item.Kind, v_23.Item.Name, v_23.Item.N, v_23.Item.Hex, IntKind.wrap .u32 (IntKind.wrap .i64 ((IntKind.wrap .i64 ((IntKind.wrap .i64 ((IntKind.wrap .i64 ((IntKind.wrap .i64 (k_8 + 1)) + 1)) + 1)) + 1)) + 1))⟩ : GItem)⟩ : GKey)) (by simp)]))⟩
    · obtain rfl := Option.some.inj hk_15
      try dsimp only at hy_6
      try simp only [↓DN, UP, r1, r2, r3, r4, r5, r6, r7, reduceCtorEq, Try.f34]
      obtain rfl := Option.some.inj hy_6
      exact cutT_mk (a_7, k_8) rfl (wn [1] [0])
  · rintro ⟨p_3, k_4⟩ hp
    replace hp := hp.symm; subst hp
    try dsimp only at h
    try simp only [↓DN, UP, r1, r2, r3, r4, r5, r6, r7, reduceCtorEq, Try.f34]
    obtain rfl := Option.some.inj h
    refine endT_of ?_ ⟨rfl, rfl⟩
    exact (wn [0] [0])
theorem c_laws_heldKeyS {a_1 : List GKey} {k_2 : Int} {r : Int} (h : g_laws_heldKeyS a_1 k_2 = some r) : Ans Try.prog 35 [.one (.imm 6 a_1.length (a_1.flatMap GKey.cs)), .one (.int .i64 k_2)] [] fun v h1 => v = .pv (.one (.int .i64 r)) ∧ h1 = [] := by
  refine ansK (P := fun _ => Try.prog) TryT_eq (fn := Try.f35) Try.func35 rfl ⟨by kernel_rfl, rfl, rfl, by kernel_rfl⟩ (by simp) (Weak.refl _ _) ?_
  rw [g_laws_heldKeyS] at h
  try simp only [↓DN, UP, r1, r2, r3, r4, r5, r6, r7, reduceCtorEq, Try.f35]
  obtain ⟨y_4, hy_5, h⟩ := bS h
  refine seqK TryT_eq (fun p : Int => ⟨[(1, .pv (.one (.int .i64 p)))], []⟩) (fun v => y_4 = .inl v) (by rfl) ?_ ?_
  · try simp only [↓DN, UP, r1, r2, r3, r4, r5, r6, r7, reduceCtorEq, Try.f35]
    obtain ⟨y_9, hy_10, hy_5⟩ := bS hy_5
    refine loopK TryT_eq (fun p : Int × Int => ⟨[(0, .pv (.one (.imm 6 a_1.length (a_1.flatMap GKey.cs)))), (1, .pv (.one (.int .i64 p.1))), (5, .pv (.one (.int .i64 p.2)))], []⟩) (fun k p => g_laws_heldKeyS_l0 a_1 k p.1 p.2 = some y_9) (by kernel_rfl) bigK (k_2, 0) (wn [0, 1, 5] []) hy_10 (fun _ h => nomatch (show none = some _ from h)) ?_
    rintro k_11 ⟨k_6, i_7⟩ hk_12
    rw [g_laws_heldKeyS_l0] at hk_12
    try dsimp only at hk_12
    try simp only [↓DN, UP, r1, r2, r3, r4, r5, r6, r7, reduceCtorEq, Try.f35]
    refine seqN TryT_eq rfl ?_
    try simp only [↓DN, UP, r1, r2, r3, r4, r5, r6, r7, reduceCtorEq, Try.f35]
    refine stIf hk_12 (fun hb_13 hk_12 => ?_) (fun hb_13 hk_12 => ?_)
    · try simp only [↓DN, UP, r1, r2, r3, r4, r5, r6, r7, reduceCtorEq, Try.f35]
      refine seqN TryT_eq rfl ?_
      try simp only [↓DN, UP, r1, r2, r3, r4, r5, r6, r7, reduceCtorEq, Try.f35]
      refine seqN TryT_eq rfl ?_
      obtain ⟨v_14, hv_14, hk_12⟩ := bS hk_12
      have f1 := (fAt GKey.ok hv_14 (n := a_1.length) (by simp))
      try simp only [↓DN, UP, r1, r2, r3, r4, r5, r6, r7, reduceCtorEq, Try.f35, f1]
      refine stIf hk_12 (fun hb_15 hk_12 => ?_) (fun hb_15 hk_12 => ?_)
      · obtain rfl := Option.some.inj hk_12
        try dsimp only at hy_5
        obtain rfl := Option.some.inj hy_5
        try dsimp only at h
        try simp only [↓DN, UP, r1, r2, r3, r4, r5, r6, r7, reduceCtorEq, Try.f35, f1]
        obtain rfl := Option.some.inj h
        refine endT_of ?_ ⟨rfl, rfl⟩
        exact (wn [0] [])
      · try simp only [↓DN, UP, r1, r2, r3, r4, r5, r6, r7, reduceCtorEq, Try.f35, f1]
        refine seqN TryT_eq rfl ?_
        try simp only [↓DN, UP, r1, r2, r3, r4, r5, r6, r7, reduceCtorEq, Try.f35, f1]
        refine stIf hk_12 (fun hb_16 hk_12 => ?_) (fun hb_16 hk_12 => ?_)
        · obtain rfl := Option.some.inj hk_12
          try dsimp only at hy_5
          obtain rfl := Option.some.inj hy_5
          try dsimp only at h
          try simp only [↓DN, UP, r1, r2, r3, r4, r5, r6, r7, reduceCtorEq, Try.f35, f1]
          obtain rfl := Option.some.inj h
          refine endT_of ?_ ⟨rfl, rfl⟩
          exact (wn [0] [])
        · try simp only [↓DN, UP, r1, r2, r3, r4, r5, r6, r7, reduceCtorEq, Try.f35, f1]
          refine seqN TryT_eq rfl ?_
          obtain ⟨y_17, hy_17, hk_12⟩ := bS hk_12
          try simp only [↓DN, UP, r1, r2, r3, r4, r5, r6, r7, reduceCtorEq, Try.f35, f1]
          refine callE [] (rd1 := []) (rd2 := []) 9 rfl (by simp only [WL, r1, r2, r3, r4, r5, r6, r7, reduceCtorEq]) (by simp only [WL, r1, r2, r3, r4, r5, r6, r7, reduceCtorEq]) rfl (c_laws_markText hy_17) (by simp only [WL, r1, r2, r3, r4, r5, r6, r7, reduceCtorEq]) ?_
          try simp only [↓DN, UP, r1, r2, r3, r4, r5, r6, r7, reduceCtorEq, Try.f35, f1]
          refine ⟨rfl, ?_⟩
          try simp only [↓DN, UP, r1, r2, r3, r4, r5, r6, r7, reduceCtorEq, Try.f35, f1]
          refine stIf hk_12 (fun hb_18 hk_12 => ?_) (fun hb_18 hk_12 => ?_)
          · obtain rfl := Option.some.inj hk_12
            try dsimp only at hy_5
            obtain rfl := Option.some.inj hy_5
            try dsimp only at h
            try simp only [↓DN, UP, r1, r2, r3, r4, r5, r6, r7, reduceCtorEq, Try.f35, f1]
            obtain rfl := Option.some.inj h
            refine endT_of ?_ ⟨rfl, rfl⟩
            exact (wn [0] [])
          · try simp only [↓DN, UP, r1, r2, r3, r4, r5, r6, r7, reduceCtorEq, Try.f35, f1]
            refine seqN TryT_eq rfl ?_
            try simp only [↓DN, UP, r1, r2, r3, r4, r5, r6, r7, reduceCtorEq, Try.f35, f1]
            refine stIf hk_12 (fun hb_19 hk_12 => ?_) (fun hb_19 hk_12 => ?_)
            · obtain rfl := Option.some.inj hk_12
              try dsimp only at hy_5
              obtain rfl := Option.some.inj hy_5
              try dsimp only at h
              try simp only [↓DN, UP, r1, r2, r3, r4, r5, r6, r7, reduceCtorEq, Try.f35, f1]
              obtain rfl := Option.some.inj h
              refine endT_of ?_ ⟨rfl, rfl⟩
              exact (wn [0] [])
            · try simp only [↓DN, UP, r1, r2, r3, r4, r5, r6, r7, reduceCtorEq, Try.f35, f1]
              refine seqN TryT_eq rfl ?_
              have f2 := (remI_ne (k := .i64) (a := IntKind.wrap .i64 ((IntKind.wrap .i64 ((IntKind.wrap .i64 ((IntKind.wrap .i64 (k_6 + 1)) + 1)) + 1)) + 1)) (b := 3) (by decide))
              try simp only [↓DN, UP, r1, r2, r3, r4, r5, r6, r7, reduceCtorEq, Try.f35, f1, f2]
              refine stIf hk_12 (fun hb_20 hk_12 => ?_) (fun hb_20 hk_12 => ?_)
              · obtain rfl := Option.some.inj hk_12
                try dsimp only at hy_5
                obtain rfl := Option.some.inj hy_5
                try dsimp only at h
                try simp only [↓DN, UP, r1, r2, r3, r4, r5, r6, r7, reduceCtorEq, Try.f35, f1, f2]
                obtain rfl := Option.some.inj h
                refine endT_of ?_ ⟨rfl, rfl⟩
                exact (wn [0] [])
              · try simp only [↓DN, UP, r1, r2, r3, r4, r5, r6, r7, reduceCtorEq, Try.f35, f1, f2]
                refine seqN TryT_eq rfl ?_
                try simp only [↓DN, UP, r1, r2, r3, r4, r5, r6, r7, reduceCtorEq, Try.f35, f1, f2]
                refine stIf hk_12 (fun hb_21 hk_12 => ?_) (fun hb_21 hk_12 => ?_)
                · obtain rfl := Option.some.inj hk_12
                  try dsimp only at hy_5
                  obtain rfl := Option.some.inj hy_5
                  try dsimp only at h
                  try simp only [↓DN, UP, r1, r2, r3, r4, r5, r6, r7, reduceCtorEq, Try.f35, f1, f2]
                  obtain rfl := Option.some.inj h
                  refine endT_of ?_ ⟨rfl, rfl⟩
                  exact (wn [0] [])
                · try simp only [↓DN, UP, r1, r2, r3, r4, r5, r6, r7, reduceCtorEq, Try.f35, f1, f2]
                  exact ⟨(IntKind.wrap .i64 ((IntKind.wrap .i64 ((IntKind.wrap .i64 ((IntKind.wrap .i64 ((IntKind.wrap .i64 ((IntKind.wrap .i64 (k_6 + 1)) + 1)) + 1)) + 1)) + 1)) + 1), IntKind.wrap .i64 (i_7 + 1)), hk_12, (wn [0, 1, 5] [])⟩
    · obtain rfl := Option.some.inj hk_12
      try dsimp only at hy_5
      try simp only [↓DN, UP, r1, r2, r3, r4, r5, r6, r7, reduceCtorEq, Try.f35]
      obtain rfl := Option.some.inj hy_5
      exact cutT_mk k_6 rfl (wn [1] [])
  · rintro k_3 hp
    replace hp := hp.symm; subst hp
    try dsimp only at h
    try simp only [↓DN, UP, r1, r2, r3, r4, r5, r6, r7, reduceCtorEq, Try.f35]
    obtain rfl := Option.some.inj h
    refine endT_of ?_ ⟨rfl, rfl⟩
    exact (wn [0] [])
theorem c_laws_FnExactPlan {aA_1 : List Int} {aB_2 : List Int} {r : Bool} (h : g_laws_FnExactPlan aA_1 aB_2 = some r) : Ans Try.prog 7 [.one (.imm 1 aA_1.length (aA_1.flatMap (eI .u32))), .one (.imm 1 aB_2.length (aB_2.flatMap (eI .u32)))] [] fun v h1 => v = .pv (.one (.bool r)) ∧ h1 = [] := by
  refine ansK (P := fun _ => Try.prog) TryT_eq (fn := Try.f7) Try.func7 rfl ⟨by kernel_rfl, rfl, rfl, by kernel_rfl⟩ (by simp) (Weak.refl _ _) ?_
  rw [g_laws_FnExactPlan] at h
  try simp only [↓DN, UP, r1, r2, r3, r4, r5, r6, r7, reduceCtorEq, Try.f7]
  refine seqN TryT_eq rfl ?_
  try simp only [↓DN, UP, r1, r2, r3, r4, r5, r6, r7, reduceCtorEq, Try.f7]
  refine stIf h (fun hb_3 h => ?_) (fun hb_3 h => ?_)
  · try simp only [↓DN, UP, r1, r2, r3, r4, r5, r6, r7, reduceCtorEq, Try.f7]
    obtain rfl := Option.some.inj h
    refine endT_of ?_ ⟨rfl, rfl⟩
    exact (wn [0] [])
  · try simp only [↓DN, UP, r1, r2, r3, r4, r5, r6, r7, reduceCtorEq, Try.f7]
    refine seqN TryT_eq rfl ?_
    try simp only [↓DN, UP, r1, r2, r3, r4, r5, r6, r7, reduceCtorEq, Try.f7]
    refine stIf h (fun hb_4 h => ?_) (fun hb_4 h => ?_)
    · try simp only [↓DN, UP, r1, r2, r3, r4, r5, r6, r7, reduceCtorEq, Try.f7]
      obtain rfl := Option.some.inj h
      refine endT_of ?_ ⟨rfl, rfl⟩
      exact (wn [0] [])
    · obtain ⟨y_5, hy_5, h⟩ := bS h
      try simp only [↓DN, UP, r1, r2, r3, r4, r5, r6, r7, reduceCtorEq, Try.f7]
      refine cG [] (c_laws_toUint32S hy_5) (hK := fun rd b => ?_)
      obtain ⟨y_6, hy_6, h⟩ := bS h
      try simp only [↓DN, UP, r1, r2, r3, r4, r5, r6, r7, reduceCtorEq, Try.f7]
      refine cG [] (c_laws_toUint32S hy_6) (hK := fun rd b => ?_)
      obtain ⟨y_7, hy_7, h⟩ := bS h
      try simp only [↓DN, UP, r1, r2, r3, r4, r5, r6, r7, reduceCtorEq, Try.f7]
      refine cG [] (c_spec_Plan hy_7) (hK := fun rd b => ?_)
      obtain ⟨y_8, hy_8, h⟩ := bS h
      try simp only [↓DN, UP, r1, r2, r3, r4, r5, r6, r7, reduceCtorEq, Try.f7]
      refine cG [] (c_laws_toUint32S hy_8) (hK := fun rd b => ?_)
      obtain ⟨y_9, hy_9, h⟩ := bS h
      try simp only [↓DN, UP, r1, r2, r3, r4, r5, r6, r7, reduceCtorEq, Try.f7]
      refine cG [] (c_laws_toUint32S hy_9) (hK := fun rd b => ?_)
      obtain ⟨y_10, hy_10, h⟩ := bS h
      try simp only [↓DN, UP, r1, r2, r3, r4, r5, r6, r7, reduceCtorEq, Try.f7]
      refine cG [] (c_impl_Plan hy_10) (hK := fun rd b => ?_)
      try simp only [↓DN, UP, r1, r2, r3, r4, r5, r6, r7, reduceCtorEq, Try.f7]
      refine seqN TryT_eq rfl ?_
      try simp only [↓DN, UP, r1, r2, r3, r4, r5, r6, r7, reduceCtorEq, Try.f7]
      obtain ⟨y_12, hy_13, h⟩ := bS h
      refine seqK TryT_eq (fun p : Bool => ⟨[(0, .pv (.one (.imm 1 aA_1.length (aA_1.flatMap (eI .u32))))), (1, .pv (.one (.imm 1 aB_2.length (aB_2.flatMap (eI .u32))))), (5, .pv (.one (.arr 0 0 y_7.1.length))), (6, .pv (.one (.bool y_7.2))), (7, .pv (.one (.arr 1 0 y_8.length))), (8, .pv (.one (.arr 2 0 y_9.length))), (9, .pv (.one (.arr 3 0 y_10.1.length))), (10, .pv (.one (.bool y_10.2))), (48, .pv (.one (.bool p)))], [.live ⟨6, y_7.1.length, y_7.1.flatMap GKey.cs⟩, .live ⟨1, y_8.length, y_8.flatMap (eI .u32)⟩, .live ⟨1, y_9.length, y_9.flatMap (eI .u32)⟩, .live ⟨6, y_10.1.length, y_10.1.flatMap GKey.cs⟩]⟩) (fun v => y_12 = v) (by rfl) ?_ ?_
      · obtain ⟨y_14, hy_14, hy_13⟩ := bS hy_13
        try simp only [↓DN, UP, r1, r2, r3, r4, r5, r6, r7, reduceCtorEq, Try.f7]
        refine cG [] (c_laws_eqKeyS hy_14) (hK := fun rd b => ?_)
        try simp only [↓DN, UP, r1, r2, r3, r4, r5, r6, r7, reduceCtorEq, Try.f7]
        refine stIf hy_13 (fun hb_15 hy_13 => ?_) (fun hb_15 hy_13 => ?_)
        · try simp only [↓DN, UP, r1, r2, r3, r4, r5, r6, r7, reduceCtorEq, Try.f7, hb_15]
          obtain rfl := Option.some.inj hy_13
          exact cutT_mk true rfl (wn [0, 1, 5, 6, 7, 8, 9, 10, 48] [2, 3, 4, 5])
        · try simp only [↓DN, UP, r1, r2, r3, r4, r5, r6, r7, reduceCtorEq, Try.f7, hb_15]
          obtain rfl := Option.some.inj hy_13
          exact cutT_mk (y_10.2 != y_7.2) rfl (wn [0, 1, 5, 6, 7, 8, 9, 10, 48] [2, 3, 4, 5])
      · rintro v_11 hp
        replace hp := hp.symm; subst hp
        try dsimp only at h
        try simp only [↓DN, UP, r1, r2, r3, r4, r5, r6, r7, reduceCtorEq, Try.f7]
        refine stIf h (fun hb_16 h => ?_) (fun hb_16 h => ?_)
        · try simp only [↓DN, UP, r1, r2, r3, r4, r5, r6, r7, reduceCtorEq, Try.f7]
          obtain rfl := Option.some.inj h
          refine endT_of ?_ ⟨rfl, rfl⟩
          exact (wn [0] [])
        · try simp only [↓DN, UP, r1, r2, r3, r4, r5, r6, r7, reduceCtorEq, Try.f7]
          refine seqN TryT_eq rfl ?_
          obtain ⟨y_17, hy_17, h⟩ := bS h
          try simp only [↓DN, UP, r1, r2, r3, r4, r5, r6, r7, reduceCtorEq, Try.f7]
          refine cG [] (c_laws_toUint32S hy_17) (hK := fun rd b => ?_)
          obtain ⟨y_18, hy_18, h⟩ := bS h
          try simp only [↓DN, UP, r1, r2, r3, r4, r5, r6, r7, reduceCtorEq, Try.f7]
          refine cG [] (c_laws_eqUint32S hy_18) (hK := fun rd b => ?_)
          try simp only [↓DN, UP, r1, r2, r3, r4, r5, r6, r7, reduceCtorEq, Try.f7]
          refine stIf h (fun hb_19 h => ?_) (fun hb_19 h => ?_)
          · try simp only [↓DN, UP, r1, r2, r3, r4, r5, r6, r7, reduceCtorEq, Try.f7]
            obtain rfl := Option.some.inj h
            refine endT_of ?_ ⟨rfl, rfl⟩
            exact (wn [0] [])
          · try simp only [↓DN, UP, r1, r2, r3, r4, r5, r6, r7, reduceCtorEq, Try.f7]
            refine seqN TryT_eq rfl ?_
            obtain ⟨y_20, hy_20, h⟩ := bS h
            try simp only [↓DN, UP, r1, r2, r3, r4, r5, r6, r7, reduceCtorEq, Try.f7]
            refine cG [] (c_laws_toUint32S hy_20) (hK := fun rd b => ?_)
            obtain ⟨y_21, hy_21, h⟩ := bS h
            try simp only [↓DN, UP, r1, r2, r3, r4, r5, r6, r7, reduceCtorEq, Try.f7]
            refine cG [] (c_laws_eqUint32S hy_21) (hK := fun rd b => ?_)
            try simp only [↓DN, UP, r1, r2, r3, r4, r5, r6, r7, reduceCtorEq, Try.f7]
            refine stIf h (fun hb_22 h => ?_) (fun hb_22 h => ?_)
            · try simp only [↓DN, UP, r1, r2, r3, r4, r5, r6, r7, reduceCtorEq, Try.f7]
              obtain rfl := Option.some.inj h
              refine endT_of ?_ ⟨rfl, rfl⟩
              exact (wn [0] [])
            · obtain ⟨y_23, hy_23, h⟩ := bS h
              obtain ⟨u_24, hu_24, h⟩ := bS h
              try simp only [↓DN, UP, r1, r2, r3, r4, r5, r6, r7, reduceCtorEq, Try.f7]
              refine cG [1] (c_laws_markUint32S hy_23) (hk := (by simp only [WL, r1, r2, r3, r4, r5, r6, r7, reduceCtorEq, lenC_eq hu_24])) (hK := fun rd b => ?_)
              obtain ⟨y_25, hy_25, h⟩ := bS h
              obtain ⟨u_26, hu_26, h⟩ := bS h
              have f1 := (show CV.arr 1 0 y_8.length = .arr 1 0 y_23.2.length from by rw [lenC_eq hu_24])
              try simp only [↓DN, UP, r1, r2, r3, r4, r5, r6, r7, reduceCtorEq, Try.f7, f1]
              refine cG [2] (c_laws_markUint32S hy_25) (hk := (by simp only [WL, r1, r2, r3, r4, r5, r6, r7, reduceCtorEq, lenC_eq hu_26])) (hK := fun rd b => ?_)
              have f2 := (show CV.arr 2 0 y_9.length = .arr 2 0 y_25.2.length from by rw [lenC_eq hu_26])
              try simp only [↓DN, UP, r1, r2, r3, r4, r5, r6, r7, reduceCtorEq, Try.f7, f1, f2]
              refine seqN TryT_eq rfl ?_
              try simp only [↓DN, UP, r1, r2, r3, r4, r5, r6, r7, reduceCtorEq, Try.f7, f1, f2]
              obtain ⟨y_28, hy_29, h⟩ := bS h
              refine seqK TryT_eq (fun p : Bool => ⟨[(0, .pv (.one (.imm 1 aA_1.length (aA_1.flatMap (eI .u32))))), (1, .pv (.one (.imm 1 aB_2.length (aB_2.flatMap (eI .u32))))), (5, .pv (.one (.arr 0 0 y_7.1.length))), (6, .pv (.one (.bool y_7.2))), (9, .pv (.one (.arr 1 0 y_10.1.length))), (77, .pv (.one (.bool p)))], [.live ⟨6, y_7.1.length, y_7.1.flatMap GKey.cs⟩, .live ⟨6, y_10.1.length, y_10.1.flatMap GKey.cs⟩]⟩) (fun v => y_28 = v) (by rfl) ?_ ?_
              · try simp only [↓DN, UP, r1, r2, r3, r4, r5, r6, r7, reduceCtorEq, Try.f7, f1, f2]
                refine stIf hy_29 (fun hb_30 hy_29 => ?_) (fun hb_30 hy_29 => ?_)
                · try simp only [↓DN, UP, r1, r2, r3, r4, r5, r6, r7, reduceCtorEq, Try.f7, f1, f2, hb_30]
                  obtain rfl := Option.some.inj hy_29
                  exact cutT_mk true rfl (wn [0, 1, 5, 6, 9, 77] [0, 3])
                · obtain ⟨y_31, hy_31, hy_29⟩ := bS hy_29
                  try simp only [↓DN, UP, r1, r2, r3, r4, r5, r6, r7, reduceCtorEq, Try.f7, f1, f2, hb_30]
                  refine cG [] (c_laws_eqKeyS hy_31) (hK := fun rd b => ?_)
                  try simp only [↓DN, UP, r1, r2, r3, r4, r5, r6, r7, reduceCtorEq, Try.f7, f1, f2, hb_30]
                  refine stIf hy_29 (fun hb_32 hy_29 => ?_) (fun hb_32 hy_29 => ?_)
                  · try simp only [↓DN, UP, r1, r2, r3, r4, r5, r6, r7, reduceCtorEq, Try.f7, f1, f2, hb_30, hb_32]
                    obtain rfl := Option.some.inj hy_29
                    exact cutT_mk true rfl (wn [0, 1, 5, 6, 9, 77] [0, 3])
                  · try simp only [↓DN, UP, r1, r2, r3, r4, r5, r6, r7, reduceCtorEq, Try.f7, f1, f2, hb_30, hb_32]
                    obtain rfl := Option.some.inj hy_29
                    exact cutT_mk (y_10.2 != y_7.2) rfl (wn [0, 1, 5, 6, 9, 77] [0, 3])
              · rintro v_27 hp
                replace hp := hp.symm; subst hp
                try dsimp only at h
                try simp only [↓DN, UP, r1, r2, r3, r4, r5, r6, r7, reduceCtorEq, Try.f7]
                refine stIf h (fun hb_33 h => ?_) (fun hb_33 h => ?_)
                · try simp only [↓DN, UP, r1, r2, r3, r4, r5, r6, r7, reduceCtorEq, Try.f7]
                  obtain rfl := Option.some.inj h
                  refine endT_of ?_ ⟨rfl, rfl⟩
                  exact (wn [0] [])
                · obtain ⟨y_34, hy_34, h⟩ := bS h
                  obtain ⟨u_35, hu_35, h⟩ := bS h
                  try simp only [↓DN, UP, r1, r2, r3, r4, r5, r6, r7, reduceCtorEq, Try.f7]
                  refine cG [1] (c_laws_markKeyS hy_34) (hk := (by simp only [WL, r1, r2, r3, r4, r5, r6, r7, reduceCtorEq, lenC_eq hu_35])) (hK := fun rd b => ?_)
                  obtain ⟨y_36, hy_36, h⟩ := bS h
                  have f3 := (show CV.arr 1 0 y_10.1.length = .arr 1 0 y_34.2.length from by rw [lenC_eq hu_35])
                  try simp only [↓DN, UP, r1, r2, r3, r4, r5, r6, r7, reduceCtorEq, Try.f7, f3]
                  refine cG [] (c_laws_heldKeyS hy_36) (hK := fun rd b => ?_)
                  try simp only [↓DN, UP, r1, r2, r3, r4, r5, r6, r7, reduceCtorEq, Try.f7, f3]
                  refine seqN TryT_eq rfl ?_
                  try simp only [↓DN, UP, r1, r2, r3, r4, r5, r6, r7, reduceCtorEq, Try.f7, f3]
                  refine stIf h (fun hb_37 h => ?_) (fun hb_37 h => ?_)
                  · try simp only [↓DN, UP, r1, r2, r3, r4, r5, r6, r7, reduceCtorEq, Try.f7, f3]
                    obtain rfl := Option.some.inj h
                    refine endT_of ?_ ⟨rfl, rfl⟩
                    exact (wn [0] [])
                  · try simp only [↓DN, UP, r1, r2, r3, r4, r5, r6, r7, reduceCtorEq, Try.f7, f3]
                    refine seqN TryT_eq rfl ?_
                    try simp only [↓DN, UP, r1, r2, r3, r4, r5, r6, r7, reduceCtorEq, Try.f7, f3]
                    refine stIf h (fun hb_38 h => ?_) (fun hb_38 h => ?_)
                    · try simp only [↓DN, UP, r1, r2, r3, r4, r5, r6, r7, reduceCtorEq, Try.f7, f3]
                      obtain rfl := Option.some.inj h
                      refine endT_of ?_ ⟨rfl, rfl⟩
                      exact (wn [0] [])
                    · obtain ⟨y_39, hy_39, h⟩ := bS h
                      try simp only [↓DN, UP, r1, r2, r3, r4, r5, r6, r7, reduceCtorEq, Try.f7, f3]
                      refine cG [] (c_laws_toUint32S hy_39) (hK := fun rd b => ?_)
                      obtain ⟨y_40, hy_40, h⟩ := bS h
                      try simp only [↓DN, UP, r1, r2, r3, r4, r5, r6, r7, reduceCtorEq, Try.f7, f3]
                      refine cG [] (c_laws_toUint32S hy_40) (hK := fun rd b => ?_)
                      obtain ⟨y_41, hy_41, h⟩ := bS h
                      try simp only [↓DN, UP, r1, r2, r3, r4, r5, r6, r7, reduceCtorEq, Try.f7, f3]
                      refine cG [] (c_impl_Plan hy_41) (hK := fun rd b => ?_)
                      try simp only [↓DN, UP, r1, r2, r3, r4, r5, r6, r7, reduceCtorEq, Try.f7, f3]
                      refine seqN TryT_eq rfl ?_
                      try simp only [↓DN, UP, r1, r2, r3, r4, r5, r6, r7, reduceCtorEq, Try.f7, f3]
                      obtain ⟨y_43, hy_44, h⟩ := bS h
                      refine seqK TryT_eq (fun p : Bool => ⟨[(9, .pv (.one (.arr 0 0 y_34.2.length))), (12, .pv (.one (.int .i64 y_34.1))), (105, .pv (.one (.bool p)))], [.live ⟨6, y_34.2.length, y_34.2.flatMap GKey.cs⟩]⟩) (fun v => y_43 = v) (by rfl) ?_ ?_
                      · obtain ⟨y_45, hy_45, hy_44⟩ := bS hy_44
                        try simp only [↓DN, UP, r1, r2, r3, r4, r5, r6, r7, reduceCtorEq, Try.f7, f3]
                        refine cG [] (c_laws_eqKeyS hy_45) (hK := fun rd b => ?_)
                        try simp only [↓DN, UP, r1, r2, r3, r4, r5, r6, r7, reduceCtorEq, Try.f7, f3]
                        refine stIf hy_44 (fun hb_46 hy_44 => ?_) (fun hb_46 hy_44 => ?_)
                        · try simp only [↓DN, UP, r1, r2, r3, r4, r5, r6, r7, reduceCtorEq, Try.f7, f3, hb_46]
                          obtain rfl := Option.some.inj hy_44
                          exact cutT_mk true rfl (wn [9, 12, 105] [1])
                        · try simp only [↓DN, UP, r1, r2, r3, r4, r5, r6, r7, reduceCtorEq, Try.f7, f3, hb_46]
                          obtain rfl := Option.some.inj hy_44
                          exact cutT_mk (y_41.2 != y_7.2) rfl (wn [9, 12, 105] [1])
                      · rintro v_42 hp
                        replace hp := hp.symm; subst hp
                        try dsimp only at h
                        try simp only [↓DN, UP, r1, r2, r3, r4, r5, r6, r7, reduceCtorEq, Try.f7]
                        refine stIf h (fun hb_47 h => ?_) (fun hb_47 h => ?_)
                        · try simp only [↓DN, UP, r1, r2, r3, r4, r5, r6, r7, reduceCtorEq, Try.f7]
                          obtain rfl := Option.some.inj h
                          refine endT_of ?_ ⟨rfl, rfl⟩
                          exact (wn [0] [])
                        · obtain ⟨y_48, hy_48, h⟩ := bS h
                          try simp only [↓DN, UP, r1, r2, r3, r4, r5, r6, r7, reduceCtorEq, Try.f7]
                          refine cG [] (c_laws_heldKeyS hy_48) (hK := fun rd b => ?_)
                          try simp only [↓DN, UP, r1, r2, r3, r4, r5, r6, r7, reduceCtorEq, Try.f7]
                          refine seqN TryT_eq rfl ?_
                          try simp only [↓DN, UP, r1, r2, r3, r4, r5, r6, r7, reduceCtorEq, Try.f7]
                          refine stIf h (fun hb_49 h => ?_) (fun hb_49 h => ?_)
                          · try simp only [↓DN, UP, r1, r2, r3, r4, r5, r6, r7, reduceCtorEq, Try.f7]
                            obtain rfl := Option.some.inj h
                            refine endT_of ?_ ⟨rfl, rfl⟩
                            exact (wn [0] [])
                          · try simp only [↓DN, UP, r1, r2, r3, r4, r5, r6, r7, reduceCtorEq, Try.f7]
                            refine seqN TryT_eq rfl ?_
                            try simp only [↓DN, UP, r1, r2, r3, r4, r5, r6, r7, reduceCtorEq, Try.f7]
                            refine stIf h (fun hb_50 h => ?_) (fun hb_50 h => ?_)
                            · try simp only [↓DN, UP, r1, r2, r3, r4, r5, r6, r7, reduceCtorEq, Try.f7]
                              obtain rfl := Option.some.inj h
                              refine endT_of ?_ ⟨rfl, rfl⟩
                              exact (wn [0] [])
                            · try simp only [↓DN, UP, r1, r2, r3, r4, r5, r6, r7, reduceCtorEq, Try.f7]
                              obtain rfl := Option.some.inj h
                              refine endT_of ?_ ⟨rfl, rfl⟩
                              exact (wn [0] [])
end Go.Proofs.Ythhoellakpnjpaa
