import Derived.Test.YthhoellakpnjpaaCA
namespace Go.Proofs.Ythhoellakpnjpaa
open Go Go.Fm
open Nat renaming reduceEqDiff → r1, reduceLT → r2, reduceLeDiff → r3, reduceAdd → r4, reduceMul → r5, reduceSub → r6
open Int renaming reduceToNat → r7
set_option maxRecDepth 100000
set_option linter.unusedVariables false
set_option linter.unusedSimpArgs false
theorem c_impl_allPlaced {s_1 : GStore} {r : (List GPlaced)} (h : g_impl_allPlaced s_1 = some r) : Ans Try.prog 42 [.agg [.imm 1 s_1.Cells.length (s_1.Cells.flatMap (eI .u32))]] [] fun v h1 => v = .pv (.one (.arr 0 0 r.length)) ∧ h1 = [.live ⟨6, r.length, r.flatMap GPlaced.cs⟩] := by
  refine ansK (P := fun _ => Try.prog) TryT_eq (fn := Try.f42) Try.func42 rfl ⟨by kernel_rfl, rfl, rfl, by kernel_rfl⟩ (by simp) (Weak.refl _ _) ?_
  rw [g_impl_allPlaced] at h
  have f1 := (show bldN 0 = 0 from rfl)
  have f2 := (show bldC [] = ([] : List GPlaced).flatMap GPlaced.cs from rfl)
  try simp only [↓DN, UP, r1, r2, r3, r4, r5, r6, r7, reduceCtorEq, Try.f42, f1, f2]
  obtain ⟨y_3, hy_4, h⟩ := bS h
  refine seqK TryT_eq (fun p : (List GPlaced) => ⟨[(3, .pv (.one (.arr 0 0 p.length)))], [.live ⟨6, p.length, p.flatMap GPlaced.cs⟩]⟩) (fun v => y_3 = v) (by rfl) ?_ ?_
  · have f3 := (quoI_ne (k := .i64) (a := (s_1.Cells.length : Int)) (b := 64) (by decide))
    try simp only [↓DN, UP, r1, r2, r3, r4, r5, r6, r7, reduceCtorEq, Try.f42, f1, f2, f3]
    obtain ⟨y_8, hy_9, hy_4⟩ := bS hy_4
    refine loopK TryT_eq (fun p : (List GPlaced) × Int => ⟨[(1, .pv (.one (.ptr 0 0))), (3, .pv (.one (.arr 1 0 p.1.length))), (14, .pv (.one (.int .i64 (IntKind.wrap .i64 (Int.tdiv (s_1.Cells.length : Int) 64))))), (15, .pv (.one (.int .i64 p.2)))], [.live ⟨1, 1, [.imm 1 s_1.Cells.length (s_1.Cells.flatMap (eI .u32))]⟩, .live ⟨6, p.1.length, p.1.flatMap GPlaced.cs⟩]⟩) (fun k p => g_impl_allPlaced_l0 s_1 k p.1 p.2 = some y_8) (by kernel_rfl) bigK (([] : List GPlaced), 0) (weak_norm (ks := [1, 3, 14, 15]) (π := [0, 1]) (fuel := 9) (by simp only [WL, r1, r2, r3, r4, r5, r6, r7, reduceCtorEq, fWin GPlaced.ok (n := 0) (xs := ([] : List GPlaced)) (by simp)])) hy_9 (fun _ h => nomatch (show none = some _ from h)) ?_
    rintro k_10 ⟨out_5, v_6⟩ hk_11
    rw [g_impl_allPlaced_l0] at hk_11
    try dsimp only at hk_11
    try simp only [↓DN, UP, r1, r2, r3, r4, r5, r6, r7, reduceCtorEq, Try.f42]
    refine seqN TryT_eq rfl ?_
    try simp only [↓DN, UP, r1, r2, r3, r4, r5, r6, r7, reduceCtorEq, Try.f42]
    refine stIf hk_11 (fun hb_12 hk_11 => ?_) (fun hb_12 hk_11 => ?_)
    · try simp only [↓DN, UP, r1, r2, r3, r4, r5, r6, r7, reduceCtorEq, Try.f42]
      obtain ⟨y_14, hy_15, hk_11⟩ := bS hk_11
      refine seqK TryT_eq (fun p : (List GPlaced) => ⟨[(1, .pv (.one (.ptr 0 0))), (3, .pv (.one (.arr 1 0 p.length))), (14, .pv (.one (.int .i64 (IntKind.wrap .i64 (Int.tdiv (s_1.Cells.length : Int) 64))))), (15, .pv (.one (.int .i64 v_6)))], [.live ⟨1, 1, [.imm 1 s_1.Cells.length (s_1.Cells.flatMap (eI .u32))]⟩, .live ⟨6, p.length, p.flatMap GPlaced.cs⟩]⟩) (fun v => y_14 = v) (by rfl) ?_ ?_
      · obtain ⟨y_16, hy_16, hy_15⟩ := bS hy_15
        try simp only [↓DN, UP, r1, r2, r3, r4, r5, r6, r7, reduceCtorEq, Try.f42]
        refine cG [] (c_impl_ItemsOf hy_16) (hK := fun rd b => ?_)
        try simp only [↓DN, UP, r1, r2, r3, r4, r5, r6, r7, reduceCtorEq, Try.f42]
        obtain ⟨y_21, hy_22, hy_15⟩ := bS hy_15
        refine loopK TryT_eq (fun p : (List GPlaced) × Int × Int => ⟨[(1, .pv (.one (.ptr 0 0))), (3, .pv (.one (.arr 1 0 p.1.length))), (7, .pv (.one (.int .i64 p.2.1))), (14, .pv (.one (.int .i64 (IntKind.wrap .i64 (Int.tdiv (s_1.Cells.length : Int) 64))))), (15, .pv (.one (.int .i64 v_6))), (26, .pv (.one (.arr 2 0 y_16.1.length))), (27, .pv (.one (.int .i64 (y_16.1.length : Int)))), (28, .pv (.one (.int .i64 p.2.2)))], [.live ⟨1, 1, [.imm 1 s_1.Cells.length (s_1.Cells.flatMap (eI .u32))]⟩, .live ⟨6, p.1.length, p.1.flatMap GPlaced.cs⟩, .live ⟨5, y_16.1.length, y_16.1.flatMap GItem.cs⟩]⟩) (fun k p => g_impl_allPlaced_l1 y_16 k p.1 p.2.1 p.2.2 = some y_21) (by kernel_rfl) bigK (out_5, IntKind.wrap .i64 (v_6 * 64), 0) (wn [1, 3, 7, 14, 15, 26, 27, 28] [0, 1, 2]) hy_22 (fun _ h => nomatch (show none = some _ from h)) ?_
        rintro k_23 ⟨out_17, vat_18, v_19⟩ hk_24
        rw [g_impl_allPlaced_l1] at hk_24
        try dsimp only at hk_24
        try simp only [↓DN, UP, r1, r2, r3, r4, r5, r6, r7, reduceCtorEq, Try.f42]
        refine seqN TryT_eq rfl ?_
        try simp only [↓DN, UP, r1, r2, r3, r4, r5, r6, r7, reduceCtorEq, Try.f42]
        refine stIf hk_24 (fun hb_25 hk_24 => ?_) (fun hb_25 hk_24 => ?_)
        · try simp only [↓DN, UP, r1, r2, r3, r4, r5, r6, r7, reduceCtorEq, Try.f42]
          refine seqN TryT_eq rfl ?_
          obtain ⟨v_26, hv_26, hk_24⟩ := bS hk_24
          obtain ⟨v_27, hv_27, hk_24⟩ := bS hk_24
          obtain ⟨y_28, hy_28, hk_24⟩ := bS hk_24
          have f4 := (fPtr hv_26 (k := 5) (n := y_16.1.length) (by simp))
          have f5 := (fGet0 GItem.ok hv_26 (m := 5) (by decide) (by decide))
          have f6 := (show bldN 1 = 1 from rfl)
          have f7 := (show bldC [.int .i64 v_26.Kind, .str v_26.Name, .int .i32 v_26.N, .bool v_26.Hex, .int .u32 v_26.Raw, .int .i64 vat_18] = [(⟨v_26, vat_18⟩ : GPlaced)].flatMap GPlaced.cs from rfl)
          have f8 := (fWin GPlaced.ok (n := 1) (xs := [(⟨v_26, vat_18⟩ : GPlaced)]) (by simp))
          have f9 := (fApp hv_27 (n := out_17.length) (by simp) (m := 1) (by simp [bsOf]))
          have f10 := (fWin GPlaced.ok (n := out_17.length) (xs := out_17) (by simp))
          have f11 := (fCat (e := GPlaced.cs) (ns := [(⟨v_26, vat_18⟩ : GPlaced)].flatMap GPlaced.cs) hv_27 rfl)
          try simp only [↓DN, UP, r1, r2, r3, r4, r5, r6, r7, reduceCtorEq, Try.f42, f4, f5, f6, f7, f8, f9, f10, f11]
          refine cG [] (c_impl_CellsOf hy_28) (hK := fun rd b => ?_)
          try simp only [↓DN, UP, r1, r2, r3, r4, r5, r6, r7, reduceCtorEq, Try.f42, f4, f5, f6, f7, f8, f9, f10, f11]
          exact ⟨(v_27, IntKind.wrap .i64 (vat_18 + (y_28.length : Int)), IntKind.wrap .i64 (v_19 + 1)), hk_24, (wn [1, 3, 7, 14, 15, 26, 27, 28] [0, 5, 2])⟩
        · obtain rfl := Option.some.inj hk_24
          try dsimp only at hy_15
          try simp only [↓DN, UP, r1, r2, r3, r4, r5, r6, r7, reduceCtorEq, Try.f42]
          obtain rfl := Option.some.inj hy_15
          exact cutT_mk out_17 rfl (wn [1, 3, 14, 15] [0, 1])
      · rintro out_13 hp
        replace hp := hp.symm; subst hp
        try dsimp only at hk_11
        try simp only [↓DN, UP, r1, r2, r3, r4, r5, r6, r7, reduceCtorEq, Try.f42]
        exact ⟨(out_13, IntKind.wrap .i64 (v_6 + 1)), hk_11, (wn [1, 3, 14, 15] [0, 1])⟩
    · obtain rfl := Option.some.inj hk_11
      try dsimp only at hy_4
      try simp only [↓DN, UP, r1, r2, r3, r4, r5, r6, r7, reduceCtorEq, Try.f42]
      obtain rfl := Option.some.inj hy_4
      exact cutT_mk out_5 rfl (wn [3] [1])
  · rintro out_2 hp
    replace hp := hp.symm; subst hp
    try dsimp only at h
    try simp only [↓DN, UP, r1, r2, r3, r4, r5, r6, r7, reduceCtorEq, Try.f42]
    obtain rfl := Option.some.inj h
    refine endT_of ?_ ⟨rfl, rfl⟩
    exact (wn [0] [0])
theorem c_impl_uses {it_1 : GItem} {name_2 : Bs} {r : Bool} (h : g_impl_uses it_1 name_2 = some r) : Ans Try.prog 43 [.agg [.int .i64 it_1.Kind, .str it_1.Name, .int .i32 it_1.N, .bool it_1.Hex, .int .u32 it_1.Raw], .one (.str name_2)] [] fun v h1 => v = .pv (.one (.bool r)) ∧ h1 = [] := by
  refine ansK (P := fun _ => Try.prog) TryT_eq (fn := Try.f43) Try.func43 rfl ⟨by kernel_rfl, rfl, rfl, by kernel_rfl⟩ (by simp) (Weak.refl _ _) ?_
  rw [g_impl_uses] at h
  try simp only [↓DN, UP, r1, r2, r3, r4, r5, r6, r7, reduceCtorEq, Try.f43]
  refine seqN TryT_eq rfl ?_
  try simp only [↓DN, UP, r1, r2, r3, r4, r5, r6, r7, reduceCtorEq, Try.f43]
  refine stIf h (fun hb_3 h => ?_) (fun hb_3 h => ?_)
  · try simp only [↓DN, UP, r1, r2, r3, r4, r5, r6, r7, reduceCtorEq, Try.f43, hb_3]
    obtain rfl := Option.some.inj h
    refine endT_of ?_ ⟨rfl, rfl⟩
    exact (wn [0] [])
  · try simp only [↓DN, UP, r1, r2, r3, r4, r5, r6, r7, reduceCtorEq, Try.f43, hb_3]
    refine stIf h (fun hb_4 h => ?_) (fun hb_4 h => ?_)
    · try simp only [↓DN, UP, r1, r2, r3, r4, r5, r6, r7, reduceCtorEq, Try.f43, hb_3, hb_4]
      obtain rfl := Option.some.inj h
      refine endT_of ?_ ⟨rfl, rfl⟩
      exact (wn [0] [])
    · try simp only [↓DN, UP, r1, r2, r3, r4, r5, r6, r7, reduceCtorEq, Try.f43, hb_3, hb_4]
      refine stIf h (fun hb_5 h => ?_) (fun hb_5 h => ?_)
      · try simp only [↓DN, UP, r1, r2, r3, r4, r5, r6, r7, reduceCtorEq, Try.f43, hb_3, hb_4, hb_5]
        obtain rfl := Option.some.inj h
        refine endT_of ?_ ⟨rfl, rfl⟩
        exact (wn [0] [])
      · try simp only [↓DN, UP, r1, r2, r3, r4, r5, r6, r7, reduceCtorEq, Try.f43, hb_3, hb_4, hb_5]
        refine stIf h (fun hb_6 h => ?_) (fun hb_6 h => ?_)
        · try simp only [↓DN, UP, r1, r2, r3, r4, r5, r6, r7, reduceCtorEq, Try.f43, hb_3, hb_4, hb_5, hb_6]
          obtain rfl := Option.some.inj h
          refine endT_of ?_ ⟨rfl, rfl⟩
          exact (wn [0] [])
        · try simp only [↓DN, UP, r1, r2, r3, r4, r5, r6, r7, reduceCtorEq, Try.f43, hb_3, hb_4, hb_5, hb_6]
          obtain rfl := Option.some.inj h
          refine endT_of ?_ ⟨rfl, rfl⟩
          exact (wn [0] [])
theorem c_impl_Defines {s_1 : GStore} {name_2 : Bs} {r : (List Int)} (h : g_impl_Defines s_1 name_2 = some r) : Ans Try.prog 12 [.agg [.imm 1 s_1.Cells.length (s_1.Cells.flatMap (eI .u32))], .one (.str name_2)] [] fun v h1 => v = .pv (.one (.arr 0 0 r.length)) ∧ h1 = [.live ⟨1, r.length, r.flatMap (eI .i64)⟩] := by
  refine ansK (P := fun _ => Try.prog) TryT_eq (fn := Try.f12) Try.func12 rfl ⟨by kernel_rfl, rfl, rfl, by kernel_rfl⟩ (by simp) (Weak.refl _ _) ?_
  rw [g_impl_Defines] at h
  try simp only [↓DN, UP, r1, r2, r3, r4, r5, r6, r7, reduceCtorEq, Try.f12]
  refine seqN TryT_eq rfl ?_
  obtain ⟨y_3, hy_3, h⟩ := bS h
  try simp only [↓DN, UP, r1, r2, r3, r4, r5, r6, r7, reduceCtorEq, Try.f12]
  refine cG [] (c_impl_StoreOk hy_3) (hK := fun rd b => ?_)
  try simp only [↓DN, UP, r1, r2, r3, r4, r5, r6, r7, reduceCtorEq, Try.f12]
  refine stIf h (fun hb_4 h => ?_) (fun hb_4 h => ?_)
  · try simp only [↓DN, UP, r1, r2, r3, r4, r5, r6, r7, reduceCtorEq, Try.f12]
    obtain rfl := Option.some.inj h
    refine endT_of ?_ ⟨rfl, rfl⟩
    exact ((weak_norm (ks := [0]) (π := []) (fuel := 9) (s' := ⟨[(0, .pv (.one (.emp)))], []⟩) (by simp only [WL, r1, r2, r3, r4, r5, r6, r7, reduceCtorEq])).trans (weak_le (by simp only [LEb, r1, r2, r3, r4, r5, r6, r7, reduceCtorEq, TL]) (by simp only [LEb, r1, r2, r3, r4, r5, r6, r7, reduceCtorEq, TL])))
  · have f1 := (show bldN 0 = 0 from rfl)
    have f2 := (show bldC [] = ([] : List Int).flatMap (eI .i64) from rfl)
    try simp only [↓DN, UP, r1, r2, r3, r4, r5, r6, r7, reduceCtorEq, Try.f12, f1, f2]
    obtain ⟨y_6, hy_7, h⟩ := bS h
    refine seqK TryT_eq (fun p : (List Int) => ⟨[(5, .pv (.one (.arr 0 0 p.length)))], [.live ⟨1, p.length, p.flatMap (eI .i64)⟩]⟩) (fun v => y_6 = v) (by rfl) ?_ ?_
    · obtain ⟨y_8, hy_8, hy_7⟩ := bS hy_7
      try simp only [↓DN, UP, r1, r2, r3, r4, r5, r6, r7, reduceCtorEq, Try.f12, f1, f2]
      refine cG [] (c_impl_allPlaced hy_8) (hK := fun rd b => ?_)
      try simp only [↓DN, UP, r1, r2, r3, r4, r5, r6, r7, reduceCtorEq, Try.f12, f1, f2]
      obtain ⟨y_12, hy_13, hy_7⟩ := bS hy_7
      refine loopK TryT_eq (fun p : (List Int) × Int => ⟨[(1, .pv (.one (.str name_2))), (5, .pv (.one (.arr 0 0 p.1.length))), (13, .pv (.one (.arr 1 0 y_8.length))), (14, .pv (.one (.int .i64 (y_8.length : Int)))), (15, .pv (.one (.int .i64 p.2)))], [.live ⟨1, p.1.length, p.1.flatMap (eI .i64)⟩, .live ⟨6, y_8.length, y_8.flatMap GPlaced.cs⟩]⟩) (fun k p => g_impl_Defines_l0 name_2 y_8 k p.1 p.2 = some y_12) (by kernel_rfl) bigK (([] : List Int), 0) (weak_norm (ks := [1, 5, 13, 14, 15]) (π := [1, 2]) (fuel := 9) (by simp only [WL, r1, r2, r3, r4, r5, r6, r7, reduceCtorEq, fWin (eI_ok .i64) (n := 0) (xs := ([] : List Int)) (by simp)])) hy_13 (fun _ h => nomatch (show none = some _ from h)) ?_
      rintro k_14 ⟨out_9, v_10⟩ hk_15
      rw [g_impl_Defines_l0] at hk_15
      try dsimp only at hk_15
      try simp only [↓DN, UP, r1, r2, r3, r4, r5, r6, r7, reduceCtorEq, Try.f12]
      refine seqN TryT_eq rfl ?_
      try simp only [↓DN, UP, r1, r2, r3, r4, r5, r6, r7, reduceCtorEq, Try.f12]
      refine stIf hk_15 (fun hb_16 hk_15 => ?_) (fun hb_16 hk_15 => ?_)
      · try simp only [↓DN, UP, r1, r2, r3, r4, r5, r6, r7, reduceCtorEq, Try.f12]
        obtain ⟨y_18, hy_19, hk_15⟩ := bS hk_15
        refine seqK TryT_eq (fun p : (List Int) => ⟨[(1, .pv (.one (.str name_2))), (5, .pv (.one (.arr 0 0 p.length))), (13, .pv (.one (.arr 1 0 y_8.length))), (14, .pv (.one (.int .i64 (y_8.length : Int)))), (15, .pv (.one (.int .i64 v_10)))], [.live ⟨1, p.length, p.flatMap (eI .i64)⟩, .live ⟨6, y_8.length, y_8.flatMap GPlaced.cs⟩]⟩) (fun v => y_18 = v) (by rfl) ?_ ?_
        · obtain ⟨v_20, hv_20, hy_19⟩ := bS hy_19
          have f3 := (fPtr hv_20 (k := 6) (n := y_8.length) (by simp))
          have f4 := (fGet0 GPlaced.ok hv_20 (m := 6) (by decide) (by decide))
          try simp only [↓DN, UP, r1, r2, r3, r4, r5, r6, r7, reduceCtorEq, Try.f12, f3, f4]
          obtain ⟨y_22, hy_23, hy_19⟩ := bS hy_19
          refine seqK TryT_eq (fun p : Bool => ⟨[(1, .pv (.one (.str name_2))), (5, .pv (.one (.arr 0 0 out_9.length))), (7, .pv (.one (.ptr 1 0))), (13, .pv (.one (.arr 2 0 y_8.length))), (14, .pv (.one (.int .i64 (y_8.length : Int)))), (15, .pv (.one (.int .i64 v_10))), (34, .pv (.one (.bool p)))], [.live ⟨1, out_9.length, out_9.flatMap (eI .i64)⟩, .live ⟨1, 6, [.int .i64 v_20.item.Kind, .str v_20.item.Name, .int .i32 v_20.item.N, .bool v_20.item.Hex, .int .u32 v_20.item.Raw, .int .i64 v_20.place]⟩, .live ⟨6, y_8.length, y_8.flatMap GPlaced.cs⟩]⟩) (fun v => y_22 = v) (by rfl) ?_ ?_
          · obtain ⟨y_24, hy_24, hy_23⟩ := bS hy_23
            try simp only [↓DN, UP, r1, r2, r3, r4, r5, r6, r7, reduceCtorEq, Try.f12, f3, f4]
            refine cG [] (c_impl_uses hy_24) (hK := fun rd b => ?_)
            try simp only [↓DN, UP, r1, r2, r3, r4, r5, r6, r7, reduceCtorEq, Try.f12, f3, f4]
            refine stIf hy_23 (fun hb_25 hy_23 => ?_) (fun hb_25 hy_23 => ?_)
            · try simp only [↓DN, UP, r1, r2, r3, r4, r5, r6, r7, reduceCtorEq, Try.f12, f3, f4, hb_25]
              refine stIf hy_23 (fun hb_26 hy_23 => ?_) (fun hb_26 hy_23 => ?_)
              · try simp only [↓DN, UP, r1, r2, r3, r4, r5, r6, r7, reduceCtorEq, Try.f12, f3, f4, hb_25, hb_26]
                obtain rfl := Option.some.inj hy_23
                exact cutT_mk true rfl (wn [1, 5, 7, 13, 14, 15, 34] [0, 2, 1])
              · try simp only [↓DN, UP, r1, r2, r3, r4, r5, r6, r7, reduceCtorEq, Try.f12, f3, f4, hb_25, hb_26]
                obtain rfl := Option.some.inj hy_23
                exact cutT_mk (v_20.item.Kind == 9) rfl (wn [1, 5, 7, 13, 14, 15, 34] [0, 2, 1])
            · try simp only [↓DN, UP, r1, r2, r3, r4, r5, r6, r7, reduceCtorEq, Try.f12, f3, f4, hb_25]
              obtain rfl := Option.some.inj hy_23
              exact cutT_mk false rfl (wn [1, 5, 7, 13, 14, 15, 34] [0, 2, 1])
          · rintro v_21 hp
            replace hp := hp.symm; subst hp
            try dsimp only at hy_19
            try simp only [↓DN, UP, r1, r2, r3, r4, r5, r6, r7, reduceCtorEq, Try.f12]
            refine stIf hy_19 (fun hb_27 hy_19 => ?_) (fun hb_27 hy_19 => ?_)
            · obtain ⟨v_28, hv_28, hy_19⟩ := bS hy_19
              have f5 := (show bldN 1 = 1 from rfl)
              have f6 := (show bldC [.int .i64 v_20.place] = [v_20.place].flatMap (eI .i64) from rfl)
              have f7 := (fWin (eI_ok .i64) (n := 1) (xs := [v_20.place]) (by simp))
              have f8 := (fApp hv_28 (n := out_9.length) (by simp) (m := 1) (by simp [bsOf]))
              have f9 := (fWin (eI_ok .i64) (n := out_9.length) (xs := out_9) (by simp))
              have f10 := (fCat (e := (eI .i64)) (ns := [v_20.place].flatMap (eI .i64)) hv_28 rfl)
              try simp only [↓DN, UP, r1, r2, r3, r4, r5, r6, r7, reduceCtorEq, Try.f12, f5, f6, f7, f8, f9, f10]
              obtain rfl := Option.some.inj hy_19
              exact cutT_mk v_28 rfl (wn [1, 5, 13, 14, 15] [4, 2])
            · try simp only [↓DN, UP, r1, r2, r3, r4, r5, r6, r7, reduceCtorEq, Try.f12]
              obtain rfl := Option.some.inj hy_19
              exact cutT_mk out_9 rfl (wn [1, 5, 13, 14, 15] [0, 2])
        · rintro out_17 hp
          replace hp := hp.symm; subst hp
          try dsimp only at hk_15
          try simp only [↓DN, UP, r1, r2, r3, r4, r5, r6, r7, reduceCtorEq, Try.f12]
          exact ⟨(out_17, IntKind.wrap .i64 (v_10 + 1)), hk_15, (wn [1, 5, 13, 14, 15] [0, 1])⟩
      · obtain rfl := Option.some.inj hk_15
        try dsimp only at hy_7
        try simp only [↓DN, UP, r1, r2, r3, r4, r5, r6, r7, reduceCtorEq, Try.f12]
        obtain rfl := Option.some.inj hy_7
        exact cutT_mk out_9 rfl (wn [5] [0])
    · rintro out_5 hp
      replace hp := hp.symm; subst hp
      try dsimp only at h
      try simp only [↓DN, UP, r1, r2, r3, r4, r5, r6, r7, reduceCtorEq, Try.f12]
      obtain rfl := Option.some.inj h
      refine endT_of ?_ ⟨rfl, rfl⟩
      exact (wn [0] [0])
theorem c_laws_eqIntS {a_1 : List Int} {b_2 : List Int} {r : Bool} (h : g_laws_eqIntS a_1 b_2 = some r) : Ans Try.prog 13 [.one (.imm 1 a_1.length (a_1.flatMap (eI .i64))), .one (.imm 1 b_2.length (b_2.flatMap (eI .i64)))] [] fun v h1 => v = .pv (.one (.bool r)) ∧ h1 = [] := by
  refine ansK (P := fun _ => Try.prog) TryT_eq (fn := Try.f13) Try.func13 rfl ⟨by kernel_rfl, rfl, rfl, by kernel_rfl⟩ (by simp) (Weak.refl _ _) ?_
  rw [g_laws_eqIntS] at h
  try simp only [↓DN, UP, r1, r2, r3, r4, r5, r6, r7, reduceCtorEq, Try.f13]
  refine seqN TryT_eq rfl ?_
  try simp only [↓DN, UP, r1, r2, r3, r4, r5, r6, r7, reduceCtorEq, Try.f13]
  refine stIf h (fun hb_3 h => ?_) (fun hb_3 h => ?_)
  · try simp only [↓DN, UP, r1, r2, r3, r4, r5, r6, r7, reduceCtorEq, Try.f13]
    obtain rfl := Option.some.inj h
    refine endT_of ?_ ⟨rfl, rfl⟩
    exact (wn [0] [])
  · try simp only [↓DN, UP, r1, r2, r3, r4, r5, r6, r7, reduceCtorEq, Try.f13]
    obtain ⟨y_4, hy_5, h⟩ := bS h
    refine seqK TryT_eq (fun p : Unit => ⟨[], []⟩) (fun v => y_4 = .inl v) (by rfl) ?_ ?_
    · try simp only [↓DN, UP, r1, r2, r3, r4, r5, r6, r7, reduceCtorEq, Try.f13]
      obtain ⟨y_7, hy_8, hy_5⟩ := bS hy_5
      refine loopK TryT_eq (fun p : Int => ⟨[(0, .pv (.one (.imm 1 a_1.length (a_1.flatMap (eI .i64))))), (1, .pv (.one (.imm 1 b_2.length (b_2.flatMap (eI .i64))))), (5, .pv (.one (.int .i64 p)))], []⟩) (fun k p => g_laws_eqIntS_l0 a_1 b_2 k p = some y_7) (by kernel_rfl) bigK 0 (wn [0, 1, 5] []) hy_8 (fun _ h => nomatch (show none = some _ from h)) ?_
      rintro k_9 i_6 hk_10
      rw [g_laws_eqIntS_l0] at hk_10
      try dsimp only at hk_10
      try simp only [↓DN, UP, r1, r2, r3, r4, r5, r6, r7, reduceCtorEq, Try.f13]
      refine seqN TryT_eq rfl ?_
      try simp only [↓DN, UP, r1, r2, r3, r4, r5, r6, r7, reduceCtorEq, Try.f13]
      refine stIf hk_10 (fun hb_11 hk_10 => ?_) (fun hb_11 hk_10 => ?_)
      · try simp only [↓DN, UP, r1, r2, r3, r4, r5, r6, r7, reduceCtorEq, Try.f13]
        refine seqN TryT_eq rfl ?_
        obtain ⟨v_12, hv_12, hk_10⟩ := bS hk_10
        obtain ⟨v_13, hv_13, hk_10⟩ := bS hk_10
        have f1 := (fAt (eI_ok .i64) hv_12 (n := a_1.length) (by simp))
        have f2 := (fAt (eI_ok .i64) hv_13 (n := b_2.length) (by simp))
        try simp only [↓DN, UP, r1, r2, r3, r4, r5, r6, r7, reduceCtorEq, Try.f13, f1, f2]
        refine ⟨rfl, ?_⟩
        try simp only [↓DN, UP, r1, r2, r3, r4, r5, r6, r7, reduceCtorEq, Try.f13, f1, f2]
        refine stIf hk_10 (fun hb_14 hk_10 => ?_) (fun hb_14 hk_10 => ?_)
        · obtain rfl := Option.some.inj hk_10
          try dsimp only at hy_5
          obtain rfl := Option.some.inj hy_5
          try dsimp only at h
          try simp only [↓DN, UP, r1, r2, r3, r4, r5, r6, r7, reduceCtorEq, Try.f13, f1, f2]
          obtain rfl := Option.some.inj h
          refine endT_of ?_ ⟨rfl, rfl⟩
          exact (wn [0] [])
        · try simp only [↓DN, UP, r1, r2, r3, r4, r5, r6, r7, reduceCtorEq, Try.f13, f1, f2]
          exact ⟨IntKind.wrap .i64 (i_6 + 1), hk_10, (wn [0, 1, 5] [])⟩
      · obtain rfl := Option.some.inj hk_10
        try dsimp only at hy_5
        try simp only [↓DN, UP, r1, r2, r3, r4, r5, r6, r7, reduceCtorEq, Try.f13]
        obtain rfl := Option.some.inj hy_5
        exact cutT_mk () (by trivial) (wn [] [])
    · rintro _ hp
      replace hp := hp.symm; subst hp
      try dsimp only at h
      try simp only [↓DN, UP, r1, r2, r3, r4, r5, r6, r7, reduceCtorEq, Try.f13]
      obtain rfl := Option.some.inj h
      refine endT_of ?_ ⟨rfl, rfl⟩
      exact (wn [0] [])
theorem c_laws_eqUint32S {a_1 : List Int} {b_2 : List Int} {r : Bool} (h : g_laws_eqUint32S a_1 b_2 = some r) : Ans Try.prog 32 [.one (.imm 1 a_1.length (a_1.flatMap (eI .u32))), .one (.imm 1 b_2.length (b_2.flatMap (eI .u32)))] [] fun v h1 => v = .pv (.one (.bool r)) ∧ h1 = [] := by
  refine ansK (P := fun _ => Try.prog) TryT_eq (fn := Try.f32) Try.func32 rfl ⟨by kernel_rfl, rfl, rfl, by kernel_rfl⟩ (by simp) (Weak.refl _ _) ?_
  rw [g_laws_eqUint32S] at h
  try simp only [↓DN, UP, r1, r2, r3, r4, r5, r6, r7, reduceCtorEq, Try.f32]
  refine seqN TryT_eq rfl ?_
  try simp only [↓DN, UP, r1, r2, r3, r4, r5, r6, r7, reduceCtorEq, Try.f32]
  refine stIf h (fun hb_3 h => ?_) (fun hb_3 h => ?_)
  · try simp only [↓DN, UP, r1, r2, r3, r4, r5, r6, r7, reduceCtorEq, Try.f32]
    obtain rfl := Option.some.inj h
    refine endT_of ?_ ⟨rfl, rfl⟩
    exact (wn [0] [])
  · try simp only [↓DN, UP, r1, r2, r3, r4, r5, r6, r7, reduceCtorEq, Try.f32]
    obtain ⟨y_4, hy_5, h⟩ := bS h
    refine seqK TryT_eq (fun p : Unit => ⟨[], []⟩) (fun v => y_4 = .inl v) (by rfl) ?_ ?_
    · try simp only [↓DN, UP, r1, r2, r3, r4, r5, r6, r7, reduceCtorEq, Try.f32]
      obtain ⟨y_7, hy_8, hy_5⟩ := bS hy_5
      refine loopK TryT_eq (fun p : Int => ⟨[(0, .pv (.one (.imm 1 a_1.length (a_1.flatMap (eI .u32))))), (1, .pv (.one (.imm 1 b_2.length (b_2.flatMap (eI .u32))))), (5, .pv (.one (.int .i64 p)))], []⟩) (fun k p => g_laws_eqUint32S_l0 a_1 b_2 k p = some y_7) (by kernel_rfl) bigK 0 (wn [0, 1, 5] []) hy_8 (fun _ h => nomatch (show none = some _ from h)) ?_
      rintro k_9 i_6 hk_10
      rw [g_laws_eqUint32S_l0] at hk_10
      try dsimp only at hk_10
      try simp only [↓DN, UP, r1, r2, r3, r4, r5, r6, r7, reduceCtorEq, Try.f32]
      refine seqN TryT_eq rfl ?_
      try simp only [↓DN, UP, r1, r2, r3, r4, r5, r6, r7, reduceCtorEq, Try.f32]
      refine stIf hk_10 (fun hb_11 hk_10 => ?_) (fun hb_11 hk_10 => ?_)
      · try simp only [↓DN, UP, r1, r2, r3, r4, r5, r6, r7, reduceCtorEq, Try.f32]
        refine seqN TryT_eq rfl ?_
        obtain ⟨v_12, hv_12, hk_10⟩ := bS hk_10
        obtain ⟨v_13, hv_13, hk_10⟩ := bS hk_10
        have f1 := (fAt (eI_ok .u32) hv_12 (n := a_1.length) (by simp))
        have f2 := (fAt (eI_ok .u32) hv_13 (n := b_2.length) (by simp))
        try simp only [↓DN, UP, r1, r2, r3, r4, r5, r6, r7, reduceCtorEq, Try.f32, f1, f2]
        refine ⟨rfl, ?_⟩
        try simp only [↓DN, UP, r1, r2, r3, r4, r5, r6, r7, reduceCtorEq, Try.f32, f1, f2]
        refine stIf hk_10 (fun hb_14 hk_10 => ?_) (fun hb_14 hk_10 => ?_)
        · obtain rfl := Option.some.inj hk_10
          try dsimp only at hy_5
          obtain rfl := Option.some.inj hy_5
          try dsimp only at h
          try simp only [↓DN, UP, r1, r2, r3, r4, r5, r6, r7, reduceCtorEq, Try.f32, f1, f2]
          obtain rfl := Option.some.inj h
          refine endT_of ?_ ⟨rfl, rfl⟩
          exact (wn [0] [])
        · try simp only [↓DN, UP, r1, r2, r3, r4, r5, r6, r7, reduceCtorEq, Try.f32, f1, f2]
          exact ⟨IntKind.wrap .i64 (i_6 + 1), hk_10, (wn [0, 1, 5] [])⟩
      · obtain rfl := Option.some.inj hk_10
        try dsimp only at hy_5
        try simp only [↓DN, UP, r1, r2, r3, r4, r5, r6, r7, reduceCtorEq, Try.f32]
        obtain rfl := Option.some.inj hy_5
        exact cutT_mk () (by trivial) (wn [] [])
    · rintro _ hp
      replace hp := hp.symm; subst hp
      try dsimp only at h
      try simp only [↓DN, UP, r1, r2, r3, r4, r5, r6, r7, reduceCtorEq, Try.f32]
      obtain rfl := Option.some.inj h
      refine endT_of ?_ ⟨rfl, rfl⟩
      exact (wn [0] [])
theorem c_laws_eqStore {a_1 : GStore} {b_2 : GStore} {r : Bool} (h : g_laws_eqStore a_1 b_2 = some r) : Ans Try.prog 14 [.agg [.imm 1 a_1.Cells.length (a_1.Cells.flatMap (eI .u32))], .agg [.imm 1 b_2.Cells.length (b_2.Cells.flatMap (eI .u32))]] [] fun v h1 => v = .pv (.one (.bool r)) ∧ h1 = [] := by
  refine ansK (P := fun _ => Try.prog) TryT_eq (fn := Try.f14) Try.func14 rfl ⟨by kernel_rfl, rfl, rfl, by kernel_rfl⟩ (by simp) (Weak.refl _ _) ?_
  rw [g_laws_eqStore] at h
  try simp only [↓DN, UP, r1, r2, r3, r4, r5, r6, r7, reduceCtorEq, Try.f14]
  refine seqN TryT_eq rfl ?_
  obtain ⟨y_3, hy_3, h⟩ := bS h
  try simp only [↓DN, UP, r1, r2, r3, r4, r5, r6, r7, reduceCtorEq, Try.f14]
  refine cG [] (c_laws_eqUint32S hy_3) (hK := fun rd b => ?_)
  try simp only [↓DN, UP, r1, r2, r3, r4, r5, r6, r7, reduceCtorEq, Try.f14]
  refine stIf h (fun hb_4 h => ?_) (fun hb_4 h => ?_)
  · try simp only [↓DN, UP, r1, r2, r3, r4, r5, r6, r7, reduceCtorEq, Try.f14]
    obtain rfl := Option.some.inj h
    refine endT_of ?_ ⟨rfl, rfl⟩
    exact (wn [0] [])
  · try simp only [↓DN, UP, r1, r2, r3, r4, r5, r6, r7, reduceCtorEq, Try.f14]
    obtain rfl := Option.some.inj h
    refine endT_of ?_ ⟨rfl, rfl⟩
    exact (wn [0] [])
theorem c_laws_markUint32S {a_1 : List Int} {k_2 : Int} {r : Int × (List Int)} (h : g_laws_markUint32S a_1 k_2 = some r) : Ans Try.prog 33 [.one (.arr 0 0 a_1.length), .one (.int .i64 k_2)] [.live ⟨1, a_1.length, a_1.flatMap (eI .u32)⟩] fun v h1 => v = .pv (.one (.int .i64 r.1)) ∧ h1 = [.live ⟨1, r.2.length, r.2.flatMap (eI .u32)⟩] := by
  refine ansK (P := fun _ => Try.prog) TryT_eq (fn := Try.f33) Try.func33 rfl ⟨by kernel_rfl, rfl, rfl, by kernel_rfl⟩ (by simp) (Weak.refl _ _) ?_
  rw [g_laws_markUint32S] at h
  try simp only [↓DN, UP, r1, r2, r3, r4, r5, r6, r7, reduceCtorEq, Try.f33]
  obtain ⟨y_5, hy_6, h⟩ := bS h
  refine seqK TryT_eq (fun p : (List Int) × Int => ⟨[(1, .pv (.one (.int .i64 p.2)))], [.live ⟨1, p.1.length, p.1.flatMap (eI .u32)⟩]⟩) (fun v => y_5 = v) (by rfl) ?_ ?_
  · try simp only [↓DN, UP, r1, r2, r3, r4, r5, r6, r7, reduceCtorEq, Try.f33]
    obtain ⟨y_12, hy_13, hy_6⟩ := bS hy_6
    refine loopK TryT_eq (fun p : (List Int) × Int × Int => ⟨[(0, .pv (.one (.arr 0 0 p.1.length))), (1, .pv (.one (.int .i64 p.2.1))), (5, .pv (.one (.int .i64 p.2.2)))], [.live ⟨1, p.1.length, p.1.flatMap (eI .u32)⟩]⟩) (fun k p => g_laws_markUint32S_l0 k p.1 p.2.1 p.2.2 = some y_12) (by kernel_rfl) bigK (a_1, k_2, 0) (wn [0, 1, 5] [0]) hy_13 (fun _ h => nomatch (show none = some _ from h)) ?_
    rintro k_14 ⟨a_7, k_8, i_9⟩ hk_15
    rw [g_laws_markUint32S_l0] at hk_15
    try dsimp only at hk_15
    try simp only [↓DN, UP, r1, r2, r3, r4, r5, r6, r7, reduceCtorEq, Try.f33]
    refine seqN TryT_eq rfl ?_
    try simp only [↓DN, UP, r1, r2, r3, r4, r5, r6, r7, reduceCtorEq, Try.f33]
    refine stIf hk_15 (fun hb_16 hk_15 => ?_) (fun hb_16 hk_15 => ?_)
    · try simp only [↓DN, UP, r1, r2, r3, r4, r5, r6, r7, reduceCtorEq, Try.f33]
      refine seqN TryT_eq rfl ?_
      obtain ⟨v_17, hv_17, hk_15⟩ := bS hk_15
      have f1 := (fPtr hv_17 (k := 1) (n := a_7.length) (by simp))
      have f2 := (fPut0 (eI_ok .u32) hv_17 (ns := [.int .u32 (IntKind.wrap .u32 k_8)]) (y := IntKind.wrap .u32 k_8) rfl)
      try simp only [↓DN, UP, r1, r2, r3, r4, r5, r6, r7, reduceCtorEq, Try.f33, f1, f2]
      exact ⟨(a_7.set i_9.toNat (IntKind.wrap .u32 k_8), IntKind.wrap .i64 (k_8 + 1), IntKind.wrap .i64 (i_9 + 1)), hk_15, (weak_norm (ks := [0, 1, 5]) (π := [0]) (fuel := 9) (by simp only [WL, r1, r2, r3, r4, r5, r6, r7, reduceCtorEq, fWin (eI_ok .u32) (n := a_7.length) (xs := a_7.set i_9.toNat (IntKind.wrap .u32 k_8)) (by simp)]))⟩
    · obtain rfl := Option.some.inj hk_15
      try dsimp only at hy_6
      try simp only [↓DN, UP, r1, r2, r3, r4, r5, r6, r7, reduceCtorEq, Try.f33]
      obtain rfl := Option.some.inj hy_6
      exact cutT_mk (a_7, k_8) rfl (wn [1] [0])
  · rintro ⟨p_3, k_4⟩ hp
    replace hp := hp.symm; subst hp
    try dsimp only at h
    try simp only [↓DN, UP, r1, r2, r3, r4, r5, r6, r7, reduceCtorEq, Try.f33]
    obtain rfl := Option.some.inj h
    refine endT_of ?_ ⟨rfl, rfl⟩
    exact (wn [0] [0])
theorem c_laws_markStore {a_1 : GStore} {k_2 : Int} {r : Int × (List Int)} (h : g_laws_markStore a_1 k_2 = some r) : Ans Try.prog 15 [.agg [.arr 0 0 a_1.Cells.length], .one (.int .i64 k_2)] [.live ⟨1, a_1.Cells.length, a_1.Cells.flatMap (eI .u32)⟩] fun v h1 => v = .pv (.one (.int .i64 r.1)) ∧ h1 = [.live ⟨1, r.2.length, r.2.flatMap (eI .u32)⟩] := by
  refine ansK (P := fun _ => Try.prog) TryT_eq (fn := Try.f15) Try.func15 rfl ⟨by kernel_rfl, rfl, rfl, by kernel_rfl⟩ (by simp) (Weak.refl _ _) ?_
  rw [g_laws_markStore] at h
  obtain ⟨y_3, hy_3, h⟩ := bS h
  obtain ⟨u_4, hu_4, h⟩ := bS h
  try simp only [↓DN, UP, r1, r2, r3, r4, r5, r6, r7, reduceCtorEq, Try.f15]
  refine cG [0] (c_laws_markUint32S hy_3) (hk := (by simp only [WL, r1, r2, r3, r4, r5, r6, r7, reduceCtorEq, lenC_eq hu_4])) (hK := fun rd b => ?_)
  have f1 := (show CV.arr 0 0 a_1.Cells.length = .arr 0 0 y_3.2.length from by rw [lenC_eq hu_4])
  try simp only [↓DN, UP, r1, r2, r3, r4, r5, r6, r7, reduceCtorEq, Try.f15, f1]
  obtain rfl := Option.some.inj h
  refine endT_of ?_ ⟨rfl, rfl⟩
  exact (wn [0] [0])
theorem c_laws_markIntS {a_1 : List Int} {k_2 : Int} {r : Int × (List Int)} (h : g_laws_markIntS a_1 k_2 = some r) : Ans Try.prog 16 [.one (.arr 0 0 a_1.length), .one (.int .i64 k_2)] [.live ⟨1, a_1.length, a_1.flatMap (eI .i64)⟩] fun v h1 => v = .pv (.one (.int .i64 r.1)) ∧ h1 = [.live ⟨1, r.2.length, r.2.flatMap (eI .i64)⟩] := by
  refine ansK (P := fun _ => Try.prog) TryT_eq (fn := Try.f16) Try.func16 rfl ⟨by kernel_rfl, rfl, rfl, by kernel_rfl⟩ (by simp) (Weak.refl _ _) ?_
  rw [g_laws_markIntS] at h
  try simp only [↓DN, UP, r1, r2, r3, r4, r5, r6, r7, reduceCtorEq, Try.f16]
  obtain ⟨y_5, hy_6, h⟩ := bS h
  refine seqK TryT_eq (fun p : (List Int) × Int => ⟨[(1, .pv (.one (.int .i64 p.2)))], [.live ⟨1, p.1.length, p.1.flatMap (eI .i64)⟩]⟩) (fun v => y_5 = v) (by rfl) ?_ ?_
  · try simp only [↓DN, UP, r1, r2, r3, r4, r5, r6, r7, reduceCtorEq, Try.f16]
    obtain ⟨y_12, hy_13, hy_6⟩ := bS hy_6
    refine loopK TryT_eq (fun p : (List Int) × Int × Int => ⟨[(0, .pv (.one (.arr 0 0 p.1.length))), (1, .pv (.one (.int .i64 p.2.1))), (5, .pv (.one (.int .i64 p.2.2)))], [.live ⟨1, p.1.length, p.1.flatMap (eI .i64)⟩]⟩) (fun k p => g_laws_markIntS_l0 k p.1 p.2.1 p.2.2 = some y_12) (by kernel_rfl) bigK (a_1, k_2, 0) (wn [0, 1, 5] [0]) hy_13 (fun _ h => nomatch (show none = some _ from h)) ?_
    rintro k_14 ⟨a_7, k_8, i_9⟩ hk_15
    rw [g_laws_markIntS_l0] at hk_15
    try dsimp only at hk_15
    try simp only [↓DN, UP, r1, r2, r3, r4, r5, r6, r7, reduceCtorEq, Try.f16]
    refine seqN TryT_eq rfl ?_
    try simp only [↓DN, UP, r1, r2, r3, r4, r5, r6, r7, reduceCtorEq, Try.f16]
    refine stIf hk_15 (fun hb_16 hk_15 => ?_) (fun hb_16 hk_15 => ?_)
    · try simp only [↓DN, UP, r1, r2, r3, r4, r5, r6, r7, reduceCtorEq, Try.f16]
      refine seqN TryT_eq rfl ?_
      obtain ⟨v_17, hv_17, hk_15⟩ := bS hk_15
      have f1 := (fPtr hv_17 (k := 1) (n := a_7.length) (by simp))
      have f2 := (fPut0 (eI_ok .i64) hv_17 (ns := [.int .i64 k_8]) (y := k_8) rfl)
      try simp only [↓DN, UP, r1, r2, r3, r4, r5, r6, r7, reduceCtorEq, Try.f16, f1, f2]
      exact ⟨(a_7.set i_9.toNat k_8, IntKind.wrap .i64 (k_8 + 1), IntKind.wrap .i64 (i_9 + 1)), hk_15, (weak_norm (ks := [0, 1, 5]) (π := [0]) (fuel := 9) (by simp only [WL, r1, r2, r3, r4, r5, r6, r7, reduceCtorEq, fWin (eI_ok .i64) (n := a_7.length) (xs := a_7.set i_9.toNat k_8) (by simp)]))⟩
    · obtain rfl := Option.some.inj hk_15
      try dsimp only at hy_6
      try simp only [↓DN, UP, r1, r2, r3, r4, r5, r6, r7, reduceCtorEq, Try.f16]
      obtain rfl := Option.some.inj hy_6
      exact cutT_mk (a_7, k_8) rfl (wn [1] [0])
  · rintro ⟨p_3, k_4⟩ hp
    replace hp := hp.symm; subst hp
    try dsimp only at h
    try simp only [↓DN, UP, r1, r2, r3, r4, r5, r6, r7, reduceCtorEq, Try.f16]
    obtain rfl := Option.some.inj h
    refine endT_of ?_ ⟨rfl, rfl⟩
    exact (wn [0] [0])
theorem c_laws_heldIntS {a_1 : List Int} {k_2 : Int} {r : Int} (h : g_laws_heldIntS a_1 k_2 = some r) : Ans Try.prog 17 [.one (.imm 1 a_1.length (a_1.flatMap (eI .i64))), .one (.int .i64 k_2)] [] fun v h1 => v = .pv (.one (.int .i64 r)) ∧ h1 = [] := by
  refine ansK (P := fun _ => Try.prog) TryT_eq (fn := Try.f17) Try.func17 rfl ⟨by kernel_rfl, rfl, rfl, by kernel_rfl⟩ (by simp) (Weak.refl _ _) ?_
  rw [g_laws_heldIntS] at h
  try simp only [↓DN, UP, r1, r2, r3, r4, r5, r6, r7, reduceCtorEq, Try.f17]
  obtain ⟨y_4, hy_5, h⟩ := bS h
  refine seqK TryT_eq (fun p : Int => ⟨[(1, .pv (.one (.int .i64 p)))], []⟩) (fun v => y_4 = .inl v) (by rfl) ?_ ?_
  · try simp only [↓DN, UP, r1, r2, r3, r4, r5, r6, r7, reduceCtorEq, Try.f17]
    obtain ⟨y_9, hy_10, hy_5⟩ := bS hy_5
    refine loopK TryT_eq (fun p : Int × Int => ⟨[(0, .pv (.one (.imm 1 a_1.length (a_1.flatMap (eI .i64))))), (1, .pv (.one (.int .i64 p.1))), (5, .pv (.one (.int .i64 p.2)))], []⟩) (fun k p => g_laws_heldIntS_l0 a_1 k p.1 p.2 = some y_9) (by kernel_rfl) bigK (k_2, 0) (wn [0, 1, 5] []) hy_10 (fun _ h => nomatch (show none = some _ from h)) ?_
    rintro k_11 ⟨k_6, i_7⟩ hk_12
    rw [g_laws_heldIntS_l0] at hk_12
    try dsimp only at hk_12
    try simp only [↓DN, UP, r1, r2, r3, r4, r5, r6, r7, reduceCtorEq, Try.f17]
    refine seqN TryT_eq rfl ?_
    try simp only [↓DN, UP, r1, r2, r3, r4, r5, r6, r7, reduceCtorEq, Try.f17]
    refine stIf hk_12 (fun hb_13 hk_12 => ?_) (fun hb_13 hk_12 => ?_)
    · try simp only [↓DN, UP, r1, r2, r3, r4, r5, r6, r7, reduceCtorEq, Try.f17]
      refine seqN TryT_eq rfl ?_
      try simp only [↓DN, UP, r1, r2, r3, r4, r5, r6, r7, reduceCtorEq, Try.f17]
      refine seqN TryT_eq rfl ?_
      obtain ⟨v_14, hv_14, hk_12⟩ := bS hk_12
      have f1 := (fAt (eI_ok .i64) hv_14 (n := a_1.length) (by simp))
      try simp only [↓DN, UP, r1, r2, r3, r4, r5, r6, r7, reduceCtorEq, Try.f17, f1]
      refine stIf hk_12 (fun hb_15 hk_12 => ?_) (fun hb_15 hk_12 => ?_)
      · obtain rfl := Option.some.inj hk_12
        try dsimp only at hy_5
        obtain rfl := Option.some.inj hy_5
        try dsimp only at h
        try simp only [↓DN, UP, r1, r2, r3, r4, r5, r6, r7, reduceCtorEq, Try.f17, f1]
        obtain rfl := Option.some.inj h
        refine endT_of ?_ ⟨rfl, rfl⟩
        exact (wn [0] [])
      · try simp only [↓DN, UP, r1, r2, r3, r4, r5, r6, r7, reduceCtorEq, Try.f17, f1]
        exact ⟨(IntKind.wrap .i64 (k_6 + 1), IntKind.wrap .i64 (i_7 + 1)), hk_12, (wn [0, 1, 5] [])⟩
    · obtain rfl := Option.some.inj hk_12
      try dsimp only at hy_5
      try simp only [↓DN, UP, r1, r2, r3, r4, r5, r6, r7, reduceCtorEq, Try.f17]
      obtain rfl := Option.some.inj hy_5
      exact cutT_mk k_6 rfl (wn [1] [])
  · rintro k_3 hp
    replace hp := hp.symm; subst hp
    try dsimp only at h
    try simp only [↓DN, UP, r1, r2, r3, r4, r5, r6, r7, reduceCtorEq, Try.f17]
    obtain rfl := Option.some.inj h
    refine endT_of ?_ ⟨rfl, rfl⟩
    exact (wn [0] [])
theorem c_laws_FnExactDefines {aS_1 : GStore} {aName_2 : Bs} {r : Bool} (h : g_laws_FnExactDefines aS_1 aName_2 = some r) : Ans Try.prog 3 [.agg [.imm 1 aS_1.Cells.length (aS_1.Cells.flatMap (eI .u32))], .one (.str aName_2)] [] fun v h1 => v = .pv (.one (.bool r)) ∧ h1 = [] := by
  refine ansK (P := fun _ => Try.prog) TryT_eq (fn := Try.f3) Try.func3 rfl ⟨by kernel_rfl, rfl, rfl, by kernel_rfl⟩ (by simp) (Weak.refl _ _) ?_
  rw [g_laws_FnExactDefines] at h
  try simp only [↓DN, UP, r1, r2, r3, r4, r5, r6, r7, reduceCtorEq, Try.f3]
  refine seqN TryT_eq rfl ?_
  try simp only [↓DN, UP, r1, r2, r3, r4, r5, r6, r7, reduceCtorEq, Try.f3]
  refine stIf h (fun hb_3 h => ?_) (fun hb_3 h => ?_)
  · try simp only [↓DN, UP, r1, r2, r3, r4, r5, r6, r7, reduceCtorEq, Try.f3]
    obtain rfl := Option.some.inj h
    refine endT_of ?_ ⟨rfl, rfl⟩
    exact (wn [0] [])
  · obtain ⟨y_4, hy_4, h⟩ := bS h
    try simp only [↓DN, UP, r1, r2, r3, r4, r5, r6, r7, reduceCtorEq, Try.f3]
    refine cG [] (c_laws_szStore hy_4) (hK := fun rd b => ?_)
    try simp only [↓DN, UP, r1, r2, r3, r4, r5, r6, r7, reduceCtorEq, Try.f3]
    refine seqN TryT_eq rfl ?_
    try simp only [↓DN, UP, r1, r2, r3, r4, r5, r6, r7, reduceCtorEq, Try.f3]
    refine stIf h (fun hb_5 h => ?_) (fun hb_5 h => ?_)
    · try simp only [↓DN, UP, r1, r2, r3, r4, r5, r6, r7, reduceCtorEq, Try.f3]
      obtain rfl := Option.some.inj h
      refine endT_of ?_ ⟨rfl, rfl⟩
      exact (wn [0] [])
    · obtain ⟨y_6, hy_6, h⟩ := bS h
      try simp only [↓DN, UP, r1, r2, r3, r4, r5, r6, r7, reduceCtorEq, Try.f3]
      refine cG [] (c_laws_toStore hy_6) (hK := fun rd b => ?_)
      obtain ⟨y_7, hy_7, h⟩ := bS h
      try simp only [↓DN, UP, r1, r2, r3, r4, r5, r6, r7, reduceCtorEq, Try.f3]
      refine cG [] (c_spec_Defines hy_7) (hK := fun rd b => ?_)
      obtain ⟨y_8, hy_8, h⟩ := bS h
      try simp only [↓DN, UP, r1, r2, r3, r4, r5, r6, r7, reduceCtorEq, Try.f3]
      refine cG [] (c_laws_toStore hy_8) (hK := fun rd b => ?_)
      obtain ⟨y_9, hy_9, h⟩ := bS h
      try simp only [↓DN, UP, r1, r2, r3, r4, r5, r6, r7, reduceCtorEq, Try.f3]
      refine cG [] (c_impl_Defines hy_9) (hK := fun rd b => ?_)
      try simp only [↓DN, UP, r1, r2, r3, r4, r5, r6, r7, reduceCtorEq, Try.f3]
      refine seqN TryT_eq rfl ?_
      obtain ⟨y_10, hy_10, h⟩ := bS h
      try simp only [↓DN, UP, r1, r2, r3, r4, r5, r6, r7, reduceCtorEq, Try.f3]
      refine cG [] (c_laws_eqIntS hy_10) (hK := fun rd b => ?_)
      try simp only [↓DN, UP, r1, r2, r3, r4, r5, r6, r7, reduceCtorEq, Try.f3]
      refine stIf h (fun hb_11 h => ?_) (fun hb_11 h => ?_)
      · try simp only [↓DN, UP, r1, r2, r3, r4, r5, r6, r7, reduceCtorEq, Try.f3]
        obtain rfl := Option.some.inj h
        refine endT_of ?_ ⟨rfl, rfl⟩
        exact (wn [0] [])
      · try simp only [↓DN, UP, r1, r2, r3, r4, r5, r6, r7, reduceCtorEq, Try.f3]
        refine seqN TryT_eq rfl ?_
        obtain ⟨y_12, hy_12, h⟩ := bS h
        try simp only [↓DN, UP, r1, r2, r3, r4, r5, r6, r7, reduceCtorEq, Try.f3]
        refine callE [] (rd1 := []) (rd2 := []) 9 rfl (by simp only [WL, r1, r2, r3, r4, r5, r6, r7, reduceCtorEq]) (by simp only [WL, r1, r2, r3, r4, r5, r6, r7, reduceCtorEq]) rfl (c_laws_toStore hy_12) (by simp only [WL, r1, r2, r3, r4, r5, r6, r7, reduceCtorEq]) ?_
        obtain ⟨y_13, hy_13, h⟩ := bS h
        try simp only [↓DN, UP, r1, r2, r3, r4, r5, r6, r7, reduceCtorEq, Try.f3]
        refine callE [] (rd1 := [3, 6]) (rd2 := []) 9 rfl (by simp only [WL, r1, r2, r3, r4, r5, r6, r7, reduceCtorEq]) (by simp only [WL, r1, r2, r3, r4, r5, r6, r7, reduceCtorEq]) rfl (c_laws_eqStore hy_13) (by simp only [WL, r1, r2, r3, r4, r5, r6, r7, reduceCtorEq]) ?_
        try simp only [↓DN, UP, r1, r2, r3, r4, r5, r6, r7, reduceCtorEq, Try.f3]
        refine ⟨rfl, ?_⟩
        try simp only [↓DN, UP, r1, r2, r3, r4, r5, r6, r7, reduceCtorEq, Try.f3]
        refine stIf h (fun hb_14 h => ?_) (fun hb_14 h => ?_)
        · try simp only [↓DN, UP, r1, r2, r3, r4, r5, r6, r7, reduceCtorEq, Try.f3]
          obtain rfl := Option.some.inj h
          refine endT_of ?_ ⟨rfl, rfl⟩
          exact (wn [0] [])
        · obtain ⟨y_15, hy_15, h⟩ := bS h
          obtain ⟨u_16, hu_16, h⟩ := bS h
          try simp only [↓DN, UP, r1, r2, r3, r4, r5, r6, r7, reduceCtorEq, Try.f3]
          refine cG [3] (c_laws_markStore hy_15) (hk := (by simp only [WL, r1, r2, r3, r4, r5, r6, r7, reduceCtorEq, lenC_eq hu_16])) (hK := fun rd b => ?_)
          have f1 := (show CV.arr 3 0 y_8.Cells.length = .arr 3 0 y_15.2.length from by rw [lenC_eq hu_16])
          try simp only [↓DN, UP, r1, r2, r3, r4, r5, r6, r7, reduceCtorEq, Try.f3, f1]
          refine seqN TryT_eq rfl ?_
          try simp only [↓DN, UP, r1, r2, r3, r4, r5, r6, r7, reduceCtorEq, Try.f3, f1]
          obtain ⟨y_18, hy_19, h⟩ := bS h
          refine seqK TryT_eq (fun p : Bool => ⟨[(1, .pv (.one (.str aName_2))), (2, .pv (.one (.ptr 0 0))), (6, .pv (.one (.arr 1 0 y_7.length))), (8, .pv (.one (.arr 2 0 y_9.length))), (49, .pv (.one (.bool p)))], [.live ⟨1, 1, [.imm 1 aS_1.Cells.length (aS_1.Cells.flatMap (eI .u32))]⟩, .live ⟨1, y_7.length, y_7.flatMap (eI .i64)⟩, .live ⟨1, y_9.length, y_9.flatMap (eI .i64)⟩]⟩) (fun v => y_18 = v) (by rfl) ?_ ?_
          · try simp only [↓DN, UP, r1, r2, r3, r4, r5, r6, r7, reduceCtorEq, Try.f3, f1]
            refine stIf hy_19 (fun hb_20 hy_19 => ?_) (fun hb_20 hy_19 => ?_)
            · try simp only [↓DN, UP, r1, r2, r3, r4, r5, r6, r7, reduceCtorEq, Try.f3, f1, hb_20]
              obtain rfl := Option.some.inj hy_19
              exact cutT_mk true rfl (wn [1, 2, 6, 8, 49] [0, 2, 5])
            · obtain ⟨y_21, hy_21, hy_19⟩ := bS hy_19
              try simp only [↓DN, UP, r1, r2, r3, r4, r5, r6, r7, reduceCtorEq, Try.f3, f1, hb_20]
              refine cG [] (c_laws_eqIntS hy_21) (hK := fun rd b => ?_)
              try simp only [↓DN, UP, r1, r2, r3, r4, r5, r6, r7, reduceCtorEq, Try.f3, f1, hb_20]
              obtain rfl := Option.some.inj hy_19
              exact cutT_mk (!y_21) rfl (wn [1, 2, 6, 8, 49] [0, 2, 5])
          · rintro v_17 hp
            replace hp := hp.symm; subst hp
            try dsimp only at h
            try simp only [↓DN, UP, r1, r2, r3, r4, r5, r6, r7, reduceCtorEq, Try.f3]
            refine stIf h (fun hb_22 h => ?_) (fun hb_22 h => ?_)
            · try simp only [↓DN, UP, r1, r2, r3, r4, r5, r6, r7, reduceCtorEq, Try.f3]
              obtain rfl := Option.some.inj h
              refine endT_of ?_ ⟨rfl, rfl⟩
              exact (wn [0] [])
            · obtain ⟨y_23, hy_23, h⟩ := bS h
              obtain ⟨u_24, hu_24, h⟩ := bS h
              try simp only [↓DN, UP, r1, r2, r3, r4, r5, r6, r7, reduceCtorEq, Try.f3]
              refine cG [2] (c_laws_markIntS hy_23) (hk := (by simp only [WL, r1, r2, r3, r4, r5, r6, r7, reduceCtorEq, lenC_eq hu_24])) (hK := fun rd b => ?_)
              obtain ⟨y_25, hy_25, h⟩ := bS h
              have f2 := (show CV.arr 2 0 y_9.length = .arr 2 0 y_23.2.length from by rw [lenC_eq hu_24])
              try simp only [↓DN, UP, r1, r2, r3, r4, r5, r6, r7, reduceCtorEq, Try.f3, f2]
              refine cG [] (c_laws_heldIntS hy_25) (hK := fun rd b => ?_)
              try simp only [↓DN, UP, r1, r2, r3, r4, r5, r6, r7, reduceCtorEq, Try.f3, f2]
              refine seqN TryT_eq rfl ?_
              try simp only [↓DN, UP, r1, r2, r3, r4, r5, r6, r7, reduceCtorEq, Try.f3, f2]
              refine stIf h (fun hb_26 h => ?_) (fun hb_26 h => ?_)
              · try simp only [↓DN, UP, r1, r2, r3, r4, r5, r6, r7, reduceCtorEq, Try.f3, f2]
                obtain rfl := Option.some.inj h
                refine endT_of ?_ ⟨rfl, rfl⟩
                exact (wn [0] [])
              · try simp only [↓DN, UP, r1, r2, r3, r4, r5, r6, r7, reduceCtorEq, Try.f3, f2]
                refine seqN TryT_eq rfl ?_
                try simp only [↓DN, UP, r1, r2, r3, r4, r5, r6, r7, reduceCtorEq, Try.f3, f2]
                refine stIf h (fun hb_27 h => ?_) (fun hb_27 h => ?_)
                · try simp only [↓DN, UP, r1, r2, r3, r4, r5, r6, r7, reduceCtorEq, Try.f3, f2]
                  obtain rfl := Option.some.inj h
                  refine endT_of ?_ ⟨rfl, rfl⟩
                  exact (wn [0] [])
                · obtain ⟨y_28, hy_28, h⟩ := bS h
                  try simp only [↓DN, UP, r1, r2, r3, r4, r5, r6, r7, reduceCtorEq, Try.f3, f2]
                  refine cG [] (c_laws_toStore hy_28) (hK := fun rd b => ?_)
                  obtain ⟨y_29, hy_29, h⟩ := bS h
                  try simp only [↓DN, UP, r1, r2, r3, r4, r5, r6, r7, reduceCtorEq, Try.f3, f2]
                  refine cG [] (c_impl_Defines hy_29) (hK := fun rd b => ?_)
                  try simp only [↓DN, UP, r1, r2, r3, r4, r5, r6, r7, reduceCtorEq, Try.f3, f2]
                  refine seqN TryT_eq rfl ?_
                  obtain ⟨y_30, hy_30, h⟩ := bS h
                  try simp only [↓DN, UP, r1, r2, r3, r4, r5, r6, r7, reduceCtorEq, Try.f3, f2]
                  refine cG [] (c_laws_eqIntS hy_30) (hK := fun rd b => ?_)
                  try simp only [↓DN, UP, r1, r2, r3, r4, r5, r6, r7, reduceCtorEq, Try.f3, f2]
                  refine stIf h (fun hb_31 h => ?_) (fun hb_31 h => ?_)
                  · try simp only [↓DN, UP, r1, r2, r3, r4, r5, r6, r7, reduceCtorEq, Try.f3, f2]
                    obtain rfl := Option.some.inj h
                    refine endT_of ?_ ⟨rfl, rfl⟩
                    exact (wn [0] [])
                  · obtain ⟨y_32, hy_32, h⟩ := bS h
                    try simp only [↓DN, UP, r1, r2, r3, r4, r5, r6, r7, reduceCtorEq, Try.f3, f2]
                    refine cG [] (c_laws_heldIntS hy_32) (hK := fun rd b => ?_)
                    try simp only [↓DN, UP, r1, r2, r3, r4, r5, r6, r7, reduceCtorEq, Try.f3, f2]
                    refine seqN TryT_eq rfl ?_
                    try simp only [↓DN, UP, r1, r2, r3, r4, r5, r6, r7, reduceCtorEq, Try.f3, f2]
                    refine stIf h (fun hb_33 h => ?_) (fun hb_33 h => ?_)
                    · try simp only [↓DN, UP, r1, r2, r3, r4, r5, r6, r7, reduceCtorEq, Try.f3, f2]
                      obtain rfl := Option.some.inj h
                      refine endT_of ?_ ⟨rfl, rfl⟩
                      exact (wn [0] [])
                    · try simp only [↓DN, UP, r1, r2, r3, r4, r5, r6, r7, reduceCtorEq, Try.f3, f2]
                      refine seqN TryT_eq rfl ?_
                      try simp only [↓DN, UP, r1, r2, r3, r4, r5, r6, r7, reduceCtorEq, Try.f3, f2]
                      refine stIf h (fun hb_34 h => ?_) (fun hb_34 h => ?_)
                      · try simp only [↓DN, UP, r1, r2, r3, r4, r5, r6, r7, reduceCtorEq, Try.f3, f2]
                        obtain rfl := Option.some.inj h
                        refine endT_of ?_ ⟨rfl, rfl⟩
                        exact (wn [0] [])
                      · try simp only [↓DN, UP, r1, r2, r3, r4, r5, r6, r7, reduceCtorEq, Try.f3, f2]
                        obtain rfl := Option.some.inj h
                        refine endT_of ?_ ⟨rfl, rfl⟩
                        exact (wn [0] [])
theorem c_spec_Uses {s_1 : GStore} {name_2 : Bs} {r : (List Int)} (h : g_spec_Uses s_1 name_2 = some r) : Ans Try.prog 18 [.agg [.imm 1 s_1.Cells.length (s_1.Cells.flatMap (eI .u32))], .one (.str name_2)] [] fun v h1 => v = .pv (.one (.arr 0 0 r.length)) ∧ h1 = [.live ⟨1, r.length, r.flatMap (eI .i64)⟩] := by
  refine ansK (P := fun _ => Try.prog) TryT_eq (fn := Try.f18) Try.func18 rfl ⟨by kernel_rfl, rfl, rfl, by kernel_rfl⟩ (by simp) (Weak.refl _ _) ?_
  rw [g_spec_Uses] at h
  obtain ⟨y_3, hy_3, h⟩ := bS h
  try simp only [↓DN, UP, r1, r2, r3, r4, r5, r6, r7, reduceCtorEq, Try.f18]
  refine cG [] (c_spec_l17Places hy_3) (hK := fun rd b => ?_)
  try simp only [↓DN, UP, r1, r2, r3, r4, r5, r6, r7, reduceCtorEq, Try.f18]
  obtain rfl := Option.some.inj h
  refine endT_of ?_ ⟨rfl, rfl⟩
  exact (wn [0] [1])
theorem c_impl_Uses {s_1 : GStore} {name_2 : Bs} {r : (List Int)} (h : g_impl_Uses s_1 name_2 = some r) : Ans Try.prog 19 [.agg [.imm 1 s_1.Cells.length (s_1.Cells.flatMap (eI .u32))], .one (.str name_2)] [] fun v h1 => v = .pv (.one (.arr 0 0 r.length)) ∧ h1 = [.live ⟨1, r.length, r.flatMap (eI .i64)⟩] := by
  refine ansK (P := fun _ => Try.prog) TryT_eq (fn := Try.f19) Try.func19 rfl ⟨by kernel_rfl, rfl, rfl, by kernel_rfl⟩ (by simp) (Weak.refl _ _) ?_
  rw [g_impl_Uses] at h
  try simp only [↓DN, UP, r1, r2, r3, r4, r5, r6, r7, reduceCtorEq, Try.f19]
  refine seqN TryT_eq rfl ?_
  obtain ⟨y_3, hy_3, h⟩ := bS h
  try simp only [↓DN, UP, r1, r2, r3, r4, r5, r6, r7, reduceCtorEq, Try.f19]
  refine cG [] (c_impl_StoreOk hy_3) (hK := fun rd b => ?_)
  try simp only [↓DN, UP, r1, r2, r3, r4, r5, r6, r7, reduceCtorEq, Try.f19]
  refine stIf h (fun hb_4 h => ?_) (fun hb_4 h => ?_)
  · try simp only [↓DN, UP, r1, r2, r3, r4, r5, r6, r7, reduceCtorEq, Try.f19]
    obtain rfl := Option.some.inj h
    refine endT_of ?_ ⟨rfl, rfl⟩
    exact ((weak_norm (ks := [0]) (π := []) (fuel := 9) (s' := ⟨[(0, .pv (.one (.emp)))], []⟩) (by simp only [WL, r1, r2, r3, r4, r5, r6, r7, reduceCtorEq])).trans (weak_le (by simp only [LEb, r1, r2, r3, r4, r5, r6, r7, reduceCtorEq, TL]) (by simp only [LEb, r1, r2, r3, r4, r5, r6, r7, reduceCtorEq, TL])))
  · have f1 := (show bldN 0 = 0 from rfl)
    have f2 := (show bldC [] = ([] : List Int).flatMap (eI .i64) from rfl)
    try simp only [↓DN, UP, r1, r2, r3, r4, r5, r6, r7, reduceCtorEq, Try.f19, f1, f2]
    obtain ⟨y_6, hy_7, h⟩ := bS h
    refine seqK TryT_eq (fun p : (List Int) => ⟨[(5, .pv (.one (.arr 0 0 p.length)))], [.live ⟨1, p.length, p.flatMap (eI .i64)⟩]⟩) (fun v => y_6 = v) (by rfl) ?_ ?_
    · obtain ⟨y_8, hy_8, hy_7⟩ := bS hy_7
      try simp only [↓DN, UP, r1, r2, r3, r4, r5, r6, r7, reduceCtorEq, Try.f19, f1, f2]
      refine cG [] (c_impl_allPlaced hy_8) (hK := fun rd b => ?_)
      try simp only [↓DN, UP, r1, r2, r3, r4, r5, r6, r7, reduceCtorEq, Try.f19, f1, f2]
      obtain ⟨y_12, hy_13, hy_7⟩ := bS hy_7
      refine loopK TryT_eq (fun p : (List Int) × Int => ⟨[(1, .pv (.one (.str name_2))), (5, .pv (.one (.arr 0 0 p.1.length))), (13, .pv (.one (.arr 1 0 y_8.length))), (14, .pv (.one (.int .i64 (y_8.length : Int)))), (15, .pv (.one (.int .i64 p.2)))], [.live ⟨1, p.1.length, p.1.flatMap (eI .i64)⟩, .live ⟨6, y_8.length, y_8.flatMap GPlaced.cs⟩]⟩) (fun k p => g_impl_Uses_l0 name_2 y_8 k p.1 p.2 = some y_12) (by kernel_rfl) bigK (([] : List Int), 0) (weak_norm (ks := [1, 5, 13, 14, 15]) (π := [1, 2]) (fuel := 9) (by simp only [WL, r1, r2, r3, r4, r5, r6, r7, reduceCtorEq, fWin (eI_ok .i64) (n := 0) (xs := ([] : List Int)) (by simp)])) hy_13 (fun _ h => nomatch (show none = some _ from h)) ?_
      rintro k_14 ⟨out_9, v_10⟩ hk_15
      rw [g_impl_Uses_l0] at hk_15
      try dsimp only at hk_15
      try simp only [↓DN, UP, r1, r2, r3, r4, r5, r6, r7, reduceCtorEq, Try.f19]
      refine seqN TryT_eq rfl ?_
      try simp only [↓DN, UP, r1, r2, r3, r4, r5, r6, r7, reduceCtorEq, Try.f19]
      refine stIf hk_15 (fun hb_16 hk_15 => ?_) (fun hb_16 hk_15 => ?_)
      · try simp only [↓DN, UP, r1, r2, r3, r4, r5, r6, r7, reduceCtorEq, Try.f19]
        obtain ⟨y_18, hy_19, hk_15⟩ := bS hk_15
        refine seqK TryT_eq (fun p : (List Int) => ⟨[(1, .pv (.one (.str name_2))), (5, .pv (.one (.arr 0 0 p.length))), (13, .pv (.one (.arr 1 0 y_8.length))), (14, .pv (.one (.int .i64 (y_8.length : Int)))), (15, .pv (.one (.int .i64 v_10)))], [.live ⟨1, p.length, p.flatMap (eI .i64)⟩, .live ⟨6, y_8.length, y_8.flatMap GPlaced.cs⟩]⟩) (fun v => y_18 = v) (by rfl) ?_ ?_
        · obtain ⟨v_20, hv_20, hy_19⟩ := bS hy_19
          obtain ⟨y_21, hy_21, hy_19⟩ := bS hy_19
          have f3 := (fPtr hv_20 (k := 6) (n := y_8.length) (by simp))
          have f4 := (fGet0 GPlaced.ok hv_20 (m := 6) (by decide) (by decide))
          try simp only [↓DN, UP, r1, r2, r3, r4, r5, r6, r7, reduceCtorEq, Try.f19, f3, f4]
          refine cG [] (c_impl_uses hy_21) (hK := fun rd b => ?_)
          try simp only [↓DN, UP, r1, r2, r3, r4, r5, r6, r7, reduceCtorEq, Try.f19, f3, f4]
          refine stIf hy_19 (fun hb_22 hy_19 => ?_) (fun hb_22 hy_19 => ?_)
          · obtain ⟨v_23, hv_23, hy_19⟩ := bS hy_19
            have f5 := (show bldN 1 = 1 from rfl)
            have f6 := (show bldC [.int .i64 v_20.place] = [v_20.place].flatMap (eI .i64) from rfl)
            have f7 := (fWin (eI_ok .i64) (n := 1) (xs := [v_20.place]) (by simp))
            have f8 := (fApp hv_23 (n := out_9.length) (by simp) (m := 1) (by simp [bsOf]))
            have f9 := (fWin (eI_ok .i64) (n := out_9.length) (xs := out_9) (by simp))
            have f10 := (fCat (e := (eI .i64)) (ns := [v_20.place].flatMap (eI .i64)) hv_23 rfl)
            try simp only [↓DN, UP, r1, r2, r3, r4, r5, r6, r7, reduceCtorEq, Try.f19, f3, f4, f5, f6, f7, f8, f9, f10]
            obtain rfl := Option.some.inj hy_19
            exact cutT_mk v_23 rfl (wn [1, 5, 13, 14, 15] [4, 1])
          · try simp only [↓DN, UP, r1, r2, r3, r4, r5, r6, r7, reduceCtorEq, Try.f19, f3, f4]
            obtain rfl := Option.some.inj hy_19
            exact cutT_mk out_9 rfl (wn [1, 5, 13, 14, 15] [0, 1])
        · rintro out_17 hp
          replace hp := hp.symm; subst hp
          try dsimp only at hk_15
          try simp only [↓DN, UP, r1, r2, r3, r4, r5, r6, r7, reduceCtorEq, Try.f19]
          exact ⟨(out_17, IntKind.wrap .i64 (v_10 + 1)), hk_15, (wn [1, 5, 13, 14, 15] [0, 1])⟩
      · obtain rfl := Option.some.inj hk_15
        try dsimp only at hy_7
        try simp only [↓DN, UP, r1, r2, r3, r4, r5, r6, r7, reduceCtorEq, Try.f19]
        obtain rfl := Option.some.inj hy_7
        exact cutT_mk out_9 rfl (wn [5] [0])
    · rintro out_5 hp
      replace hp := hp.symm; subst hp
      try dsimp only at h
      try simp only [↓DN, UP, r1, r2, r3, r4, r5, r6, r7, reduceCtorEq, Try.f19]
      obtain rfl := Option.some.inj h
      refine endT_of ?_ ⟨rfl, rfl⟩
      exact (wn [0] [0])
theorem c_laws_FnExactUses {aS_1 : GStore} {aName_2 : Bs} {r : Bool} (h : g_laws_FnExactUses aS_1 aName_2 = some r) : Ans Try.prog 4 [.agg [.imm 1 aS_1.Cells.length (aS_1.Cells.flatMap (eI .u32))], .one (.str aName_2)] [] fun v h1 => v = .pv (.one (.bool r)) ∧ h1 = [] := by
  refine ansK (P := fun _ => Try.prog) TryT_eq (fn := Try.f4) Try.func4 rfl ⟨by kernel_rfl, rfl, rfl, by kernel_rfl⟩ (by simp) (Weak.refl _ _) ?_
  rw [g_laws_FnExactUses] at h
  try simp only [↓DN, UP, r1, r2, r3, r4, r5, r6, r7, reduceCtorEq, Try.f4]
  refine seqN TryT_eq rfl ?_
  try simp only [↓DN, UP, r1, r2, r3, r4, r5, r6, r7, reduceCtorEq, Try.f4]
  refine stIf h (fun hb_3 h => ?_) (fun hb_3 h => ?_)
  · try simp only [↓DN, UP, r1, r2, r3, r4, r5, r6, r7, reduceCtorEq, Try.f4]
    obtain rfl := Option.some.inj h
    refine endT_of ?_ ⟨rfl, rfl⟩
    exact (wn [0] [])
  · obtain ⟨y_4, hy_4, h⟩ := bS h
    try simp only [↓DN, UP, r1, r2, r3, r4, r5, r6, r7, reduceCtorEq, Try.f4]
    refine cG [] (c_laws_szStore hy_4) (hK := fun rd b => ?_)
    try simp only [↓DN, UP, r1, r2, r3, r4, r5, r6, r7, reduceCtorEq, Try.f4]
    refine seqN TryT_eq rfl ?_
    try simp only [↓DN, UP, r1, r2, r3, r4, r5, r6, r7, reduceCtorEq, Try.f4]
    refine stIf h (fun hb_5 h => ?_) (fun hb_5 h => ?_)
    · try simp only [↓DN, UP, r1, r2, r3, r4, r5, r6, r7, reduceCtorEq, Try.f4]
      obtain rfl := Option.some.inj h
      refine endT_of ?_ ⟨rfl, rfl⟩
      exact (wn [0] [])
    · obtain ⟨y_6, hy_6, h⟩ := bS h
      try simp only [↓DN, UP, r1, r2, r3, r4, r5, r6, r7, reduceCtorEq, Try.f4]
      refine cG [] (c_laws_toStore hy_6) (hK := fun rd b => ?_)
      obtain ⟨y_7, hy_7, h⟩ := bS h
      try simp only [↓DN, UP, r1, r2, r3, r4, r5, r6, r7, reduceCtorEq, Try.f4]
      refine cG [] (c_spec_Uses hy_7) (hK := fun rd b => ?_)
      obtain ⟨y_8, hy_8, h⟩ := bS h
      try simp only [↓DN, UP, r1, r2, r3, r4, r5, r6, r7, reduceCtorEq, Try.f4]
      refine cG [] (c_laws_toStore hy_8) (hK := fun rd b => ?_)
      obtain ⟨y_9, hy_9, h⟩ := bS h
      try simp only [↓DN, UP, r1, r2, r3, r4, r5, r6, r7, reduceCtorEq, Try.f4]
      refine cG [] (c_impl_Uses hy_9) (hK := fun rd b => ?_)
      try simp only [↓DN, UP, r1, r2, r3, r4, r5, r6, r7, reduceCtorEq, Try.f4]
      refine seqN TryT_eq rfl ?_
      obtain ⟨y_10, hy_10, h⟩ := bS h
      try simp only [↓DN, UP, r1, r2, r3, r4, r5, r6, r7, reduceCtorEq, Try.f4]
      refine cG [] (c_laws_eqIntS hy_10) (hK := fun rd b => ?_)
      try simp only [↓DN, UP, r1, r2, r3, r4, r5, r6, r7, reduceCtorEq, Try.f4]
      refine stIf h (fun hb_11 h => ?_) (fun hb_11 h => ?_)
      · try simp only [↓DN, UP, r1, r2, r3, r4, r5, r6, r7, reduceCtorEq, Try.f4]
        obtain rfl := Option.some.inj h
        refine endT_of ?_ ⟨rfl, rfl⟩
        exact (wn [0] [])
      · try simp only [↓DN, UP, r1, r2, r3, r4, r5, r6, r7, reduceCtorEq, Try.f4]
        refine seqN TryT_eq rfl ?_
        obtain ⟨y_12, hy_12, h⟩ := bS h
        try simp only [↓DN, UP, r1, r2, r3, r4, r5, r6, r7, reduceCtorEq, Try.f4]
        refine callE [] (rd1 := []) (rd2 := []) 9 rfl (by simp only [WL, r1, r2, r3, r4, r5, r6, r7, reduceCtorEq]) (by simp only [WL, r1, r2, r3, r4, r5, r6, r7, reduceCtorEq]) rfl (c_laws_toStore hy_12) (by simp only [WL, r1, r2, r3, r4, r5, r6, r7, reduceCtorEq]) ?_
        obtain ⟨y_13, hy_13, h⟩ := bS h
        try simp only [↓DN, UP, r1, r2, r3, r4, r5, r6, r7, reduceCtorEq, Try.f4]
        refine callE [] (rd1 := [3, 6]) (rd2 := []) 9 rfl (by simp only [WL, r1, r2, r3, r4, r5, r6, r7, reduceCtorEq]) (by simp only [WL, r1, r2, r3, r4, r5, r6, r7, reduceCtorEq]) rfl (c_laws_eqStore hy_13) (by simp only [WL, r1, r2, r3, r4, r5, r6, r7, reduceCtorEq]) ?_
        try simp only [↓DN, UP, r1, r2, r3, r4, r5, r6, r7, reduceCtorEq, Try.f4]
        refine ⟨rfl, ?_⟩
        try simp only [↓DN, UP, r1, r2, r3, r4, r5, r6, r7, reduceCtorEq, Try.f4]
        refine stIf h (fun hb_14 h => ?_) (fun hb_14 h => ?_)
        · try simp only [↓DN, UP, r1, r2, r3, r4, r5, r6, r7, reduceCtorEq, Try.f4]
          obtain rfl := Option.some.inj h
          refine endT_of ?_ ⟨rfl, rfl⟩
          exact (wn [0] [])
        · obtain ⟨y_15, hy_15, h⟩ := bS h
          obtain ⟨u_16, hu_16, h⟩ := bS h
          try simp only [↓DN, UP, r1, r2, r3, r4, r5, r6, r7, reduceCtorEq, Try.f4]
          refine cG [3] (c_laws_markStore hy_15) (hk := (by simp only [WL, r1, r2, r3, r4, r5, r6, r7, reduceCtorEq, lenC_eq hu_16])) (hK := fun rd b => ?_)
          have f1 := (show CV.arr 3 0 y_8.Cells.length = .arr 3 0 y_15.2.length from by rw [lenC_eq hu_16])
          try simp only [↓DN, UP, r1, r2, r3, r4, r5, r6, r7, reduceCtorEq, Try.f4, f1]
          refine seqN TryT_eq rfl ?_
          try simp only [↓DN, UP, r1, r2, r3, r4, r5, r6, r7, reduceCtorEq, Try.f4, f1]
          obtain ⟨y_18, hy_19, h⟩ := bS h
          refine seqK TryT_eq (fun p : Bool => ⟨[(1, .pv (.one (.str aName_2))), (2, .pv (.one (.ptr 0 0))), (6, .pv (.one (.arr 1 0 y_7.length))), (8, .pv (.one (.arr 2 0 y_9.length))), (49, .pv (.one (.bool p)))], [.live ⟨1, 1, [.imm 1 aS_1.Cells.length (aS_1.Cells.flatMap (eI .u32))]⟩, .live ⟨1, y_7.length, y_7.flatMap (eI .i64)⟩, .live ⟨1, y_9.length, y_9.flatMap (eI .i64)⟩]⟩) (fun v => y_18 = v) (by rfl) ?_ ?_
          · try simp only [↓DN, UP, r1, r2, r3, r4, r5, r6, r7, reduceCtorEq, Try.f4, f1]
            refine stIf hy_19 (fun hb_20 hy_19 => ?_) (fun hb_20 hy_19 => ?_)
            · try simp only [↓DN, UP, r1, r2, r3, r4, r5, r6, r7, reduceCtorEq, Try.f4, f1, hb_20]
              obtain rfl := Option.some.inj hy_19
              exact cutT_mk true rfl (wn [1, 2, 6, 8, 49] [0, 2, 5])
            · obtain ⟨y_21, hy_21, hy_19⟩ := bS hy_19
              try simp only [↓DN, UP, r1, r2, r3, r4, r5, r6, r7, reduceCtorEq, Try.f4, f1, hb_20]
              refine cG [] (c_laws_eqIntS hy_21) (hK := fun rd b => ?_)
              try simp only [↓DN, UP, r1, r2, r3, r4, r5, r6, r7, reduceCtorEq, Try.f4, f1, hb_20]
              obtain rfl := Option.some.inj hy_19
              exact cutT_mk (!y_21) rfl (wn [1, 2, 6, 8, 49] [0, 2, 5])
          · rintro v_17 hp
            replace hp := hp.symm; subst hp
            try dsimp only at h
            try simp only [↓DN, UP, r1, r2, r3, r4, r5, r6, r7, reduceCtorEq, Try.f4]
            refine stIf h (fun hb_22 h => ?_) (fun hb_22 h => ?_)
            · try simp only [↓DN, UP, r1, r2, r3, r4, r5, r6, r7, reduceCtorEq, Try.f4]
              obtain rfl := Option.some.inj h
              refine endT_of ?_ ⟨rfl, rfl⟩
              exact (wn [0] [])
            · obtain ⟨y_23, hy_23, h⟩ := bS h
              obtain ⟨u_24, hu_24, h⟩ := bS h
              try simp only [↓DN, UP, r1, r2, r3, r4, r5, r6, r7, reduceCtorEq, Try.f4]
              refine cG [2] (c_laws_markIntS hy_23) (hk := (by simp only [WL, r1, r2, r3, r4, r5, r6, r7, reduceCtorEq, lenC_eq hu_24])) (hK := fun rd b => ?_)
              obtain ⟨y_25, hy_25, h⟩ := bS h
              have f2 := (show CV.arr 2 0 y_9.length = .arr 2 0 y_23.2.length from by rw [lenC_eq hu_24])
              try simp only [↓DN, UP, r1, r2, r3, r4, r5, r6, r7, reduceCtorEq, Try.f4, f2]
              refine cG [] (c_laws_heldIntS hy_25) (hK := fun rd b => ?_)
              try simp only [↓DN, UP, r1, r2, r3, r4, r5, r6, r7, reduceCtorEq, Try.f4, f2]
              refine seqN TryT_eq rfl ?_
              try simp only [↓DN, UP, r1, r2, r3, r4, r5, r6, r7, reduceCtorEq, Try.f4, f2]
              refine stIf h (fun hb_26 h => ?_) (fun hb_26 h => ?_)
              · try simp only [↓DN, UP, r1, r2, r3, r4, r5, r6, r7, reduceCtorEq, Try.f4, f2]
                obtain rfl := Option.some.inj h
                refine endT_of ?_ ⟨rfl, rfl⟩
                exact (wn [0] [])
              · try simp only [↓DN, UP, r1, r2, r3, r4, r5, r6, r7, reduceCtorEq, Try.f4, f2]
                refine seqN TryT_eq rfl ?_
                try simp only [↓DN, UP, r1, r2, r3, r4, r5, r6, r7, reduceCtorEq, Try.f4, f2]
                refine stIf h (fun hb_27 h => ?_) (fun hb_27 h => ?_)
                · try simp only [↓DN, UP, r1, r2, r3, r4, r5, r6, r7, reduceCtorEq, Try.f4, f2]
                  obtain rfl := Option.some.inj h
                  refine endT_of ?_ ⟨rfl, rfl⟩
                  exact (wn [0] [])
                · obtain ⟨y_28, hy_28, h⟩ := bS h
                  try simp only [↓DN, UP, r1, r2, r3, r4, r5, r6, r7, reduceCtorEq, Try.f4, f2]
                  refine cG [] (c_laws_toStore hy_28) (hK := fun rd b => ?_)
                  obtain ⟨y_29, hy_29, h⟩ := bS h
                  try simp only [↓DN, UP, r1, r2, r3, r4, r5, r6, r7, reduceCtorEq, Try.f4, f2]
                  refine cG [] (c_impl_Uses hy_29) (hK := fun rd b => ?_)
                  try simp only [↓DN, UP, r1, r2, r3, r4, r5, r6, r7, reduceCtorEq, Try.f4, f2]
                  refine seqN TryT_eq rfl ?_
                  obtain ⟨y_30, hy_30, h⟩ := bS h
                  try simp only [↓DN, UP, r1, r2, r3, r4, r5, r6, r7, reduceCtorEq, Try.f4, f2]
                  refine cG [] (c_laws_eqIntS hy_30) (hK := fun rd b => ?_)
                  try simp only [↓DN, UP, r1, r2, r3, r4, r5, r6, r7, reduceCtorEq, Try.f4, f2]
                  refine stIf h (fun hb_31 h => ?_) (fun hb_31 h => ?_)
                  · try simp only [↓DN, UP, r1, r2, r3, r4, r5, r6, r7, reduceCtorEq, Try.f4, f2]
                    obtain rfl := Option.some.inj h
                    refine endT_of ?_ ⟨rfl, rfl⟩
                    exact (wn [0] [])
                  · obtain ⟨y_32, hy_32, h⟩ := bS h
                    try simp only [↓DN, UP, r1, r2, r3, r4, r5, r6, r7, reduceCtorEq, Try.f4, f2]
                    refine cG [] (c_laws_heldIntS hy_32) (hK := fun rd b => ?_)
                    try simp only [↓DN, UP, r1, r2, r3, r4, r5, r6, r7, reduceCtorEq, Try.f4, f2]
                    refine seqN TryT_eq rfl ?_
                    try simp only [↓DN, UP, r1, r2, r3, r4, r5, r6, r7, reduceCtorEq, Try.f4, f2]
                    refine stIf h (fun hb_33 h => ?_) (fun hb_33 h => ?_)
                    · try simp only [↓DN, UP, r1, r2, r3, r4, r5, r6, r7, reduceCtorEq, Try.f4, f2]
                      obtain rfl := Option.some.inj h
                      refine endT_of ?_ ⟨rfl, rfl⟩
                      exact (wn [0] [])
                    · try simp only [↓DN, UP, r1, r2, r3, r4, r5, r6, r7, reduceCtorEq, Try.f4, f2]
                      refine seqN TryT_eq rfl ?_
                      try simp only [↓DN, UP, r1, r2, r3, r4, r5, r6, r7, reduceCtorEq, Try.f4, f2]
                      refine stIf h (fun hb_34 h => ?_) (fun hb_34 h => ?_)
                      · try simp only [↓DN, UP, r1, r2, r3, r4, r5, r6, r7, reduceCtorEq, Try.f4, f2]
                        obtain rfl := Option.some.inj h
                        refine endT_of ?_ ⟨rfl, rfl⟩
                        exact (wn [0] [])
                      · try simp only [↓DN, UP, r1, r2, r3, r4, r5, r6, r7, reduceCtorEq, Try.f4, f2]
                        obtain rfl := Option.some.inj h
                        refine endT_of ?_ ⟨rfl, rfl⟩
                        exact (wn [0] [])
theorem c_spec_Names {s_1 : GStore} {r : (List Bs)} (h : g_spec_Names s_1 = some r) : Ans Try.prog 20 [.agg [.imm 1 s_1.Cells.length (s_1.Cells.flatMap (eI .u32))]] [] fun v h1 => v = .pv (.one (.arr 0 0 r.length)) ∧ h1 = [.live ⟨1, r.length, r.flatMap eS⟩] := by
  refine ansK (P := fun _ => Try.prog) TryT_eq (fn := Try.f20) Try.func20 rfl ⟨by kernel_rfl, rfl, rfl, by kernel_rfl⟩ (by simp) (Weak.refl _ _) ?_
  rw [g_spec_Names] at h
  have f1 := (show bldN 0 = 0 from rfl)
  have f2 := (show bldC [] = ([] : List Bs).flatMap eS from rfl)
  try simp only [↓DN, UP, r1, r2, r3, r4, r5, r6, r7, reduceCtorEq, Try.f20, f1, f2]
  refine seqN TryT_eq rfl ?_
  obtain ⟨y_2, hy_2, h⟩ := bS h
  try simp only [↓DN, UP, r1, r2, r3, r4, r5, r6, r7, reduceCtorEq, Try.f20, f1, f2]
  refine cG [] (c_spec_StoreOk hy_2) (hK := fun rd b => ?_)
  try simp only [↓DN, UP, r1, r2, r3, r4, r5, r6, r7, reduceCtorEq, Try.f20, f1, f2]
  refine stIf h (fun hb_3 h => ?_) (fun hb_3 h => ?_)
  · try simp only [↓DN, UP, r1, r2, r3, r4, r5, r6, r7, reduceCtorEq, Try.f20, f1, f2]
    obtain rfl := Option.some.inj h
    refine endT_of ?_ ⟨rfl, rfl⟩
    exact (weak_norm (ks := [0]) (π := [1]) (fuel := 9) (by simp only [WL, r1, r2, r3, r4, r5, r6, r7, reduceCtorEq, fWin eS_ok (n := 0) (xs := ([] : List Bs)) (by simp)]))
  · try simp only [↓DN, UP, r1, r2, r3, r4, r5, r6, r7, reduceCtorEq, Try.f20, f1, f2]
    obtain ⟨y_5, hy_6, h⟩ := bS h
    refine seqK TryT_eq (fun p : (List Bs) => ⟨[(3, .pv (.one (.arr 0 0 p.length)))], [.live ⟨1, p.length, p.flatMap eS⟩]⟩) (fun v => y_5 = v) (by rfl) ?_ ?_
    · try simp only [↓DN, UP, r1, r2, r3, r4, r5, r6, r7, reduceCtorEq, Try.f20, f1, f2]
      obtain ⟨y_10, hy_11, hy_6⟩ := bS hy_6
      refine loopK TryT_eq (fun p : (List Bs) × Int => ⟨[(1, .pv (.one (.ptr 0 0))), (3, .pv (.one (.arr 1 0 p.1.length))), (4, .pv (.one (.int .i64 p.2)))], [.live ⟨1, 1, [.imm 1 s_1.Cells.length (s_1.Cells.flatMap (eI .u32))]⟩, .live ⟨1, p.1.length, p.1.flatMap eS⟩]⟩) (fun k p => g_spec_Names_l0 s_1 k p.1 p.2 = some y_10) (by kernel_rfl) bigK (([] : List Bs), 0) (weak_norm (ks := [1, 3, 4]) (π := [0, 1]) (fuel := 9) (by simp only [WL, r1, r2, r3, r4, r5, r6, r7, reduceCtorEq, fWin eS_ok (n := 0) (xs := ([] : List Bs)) (by simp)])) hy_11 (fun _ h => nomatch (show none = some _ from h)) ?_
      rintro k_12 ⟨out_7, b_8⟩ hk_13
      rw [g_spec_Names_l0] at hk_13
      try dsimp only at hk_13
      try simp only [↓DN, UP, r1, r2, r3, r4, r5, r6, r7, reduceCtorEq, Try.f20]
      refine seqN TryT_eq rfl ?_
      have f3 := (quoI_ne (k := .i64) (a := (s_1.Cells.length : Int)) (b := 64) (by decide))
      try simp only [↓DN, UP, r1, r2, r3, r4, r5, r6, r7, reduceCtorEq, Try.f20, f3]
      refine stIf hk_13 (fun hb_14 hk_13 => ?_) (fun hb_14 hk_13 => ?_)
      · try simp only [↓DN, UP, r1, r2, r3, r4, r5, r6, r7, reduceCtorEq, Try.f20, f3]
        obtain ⟨y_16, hy_17, hk_13⟩ := bS hk_13
        refine seqK TryT_eq (fun p : (List Bs) => ⟨[(1, .pv (.one (.ptr 0 0))), (3, .pv (.one (.arr 1 0 p.length))), (4, .pv (.one (.int .i64 b_8)))], [.live ⟨1, 1, [.imm 1 s_1.Cells.length (s_1.Cells.flatMap (eI .u32))]⟩, .live ⟨1, p.length, p.flatMap eS⟩]⟩) (fun v => y_16 = v) (by rfl) ?_ ?_
        · obtain ⟨y_18, hy_18, hy_17⟩ := bS hy_17
          try simp only [↓DN, UP, r1, r2, r3, r4, r5, r6, r7, reduceCtorEq, Try.f20, f3]
          refine cG [] (c_spec_ItemsOf hy_18) (hK := fun rd b => ?_)
          try simp only [↓DN, UP, r1, r2, r3, r4, r5, r6, r7, reduceCtorEq, Try.f20, f3]
          obtain ⟨y_22, hy_23, hy_17⟩ := bS hy_17
          refine loopK TryT_eq (fun p : (List Bs) × Int => ⟨[(1, .pv (.one (.ptr 0 0))), (3, .pv (.one (.arr 1 0 p.1.length))), (4, .pv (.one (.int .i64 b_8))), (5, .pv (.one (.arr 2 0 y_18.1.length))), (7, .pv (.one (.int .i64 p.2)))], [.live ⟨1, 1, [.imm 1 s_1.Cells.length (s_1.Cells.flatMap (eI .u32))]⟩, .live ⟨1, p.1.length, p.1.flatMap eS⟩, .live ⟨5, y_18.1.length, y_18.1.flatMap GItem.cs⟩]⟩) (fun k p => g_spec_Names_l1 y_18 k p.1 p.2 = some y_22) (by kernel_rfl) bigK (out_7, 0) (wn [1, 3, 4, 5, 7] [0, 1, 2]) hy_23 (fun _ h => nomatch (show none = some _ from h)) ?_
          rintro k_24 ⟨out_19, i_20⟩ hk_25
          rw [g_spec_Names_l1] at hk_25
          try dsimp only at hk_25
          try simp only [↓DN, UP, r1, r2, r3, r4, r5, r6, r7, reduceCtorEq, Try.f20]
          refine seqN TryT_eq rfl ?_
          try simp only [↓DN, UP, r1, r2, r3, r4, r5, r6, r7, reduceCtorEq, Try.f20]
          refine stIf hk_25 (fun hb_26 hk_25 => ?_) (fun hb_26 hk_25 => ?_)
          · try simp only [↓DN, UP, r1, r2, r3, r4, r5, r6, r7, reduceCtorEq, Try.f20]
            obtain ⟨y_28, hy_29, hk_25⟩ := bS hk_25
            refine seqK TryT_eq (fun p : (List Bs) => ⟨[(1, .pv (.one (.ptr 0 0))), (3, .pv (.one (.arr 1 0 p.length))), (4, .pv (.one (.int .i64 b_8))), (5, .pv (.one (.arr 2 0 y_18.1.length))), (7, .pv (.one (.int .i64 i_20)))], [.live ⟨1, 1, [.imm 1 s_1.Cells.length (s_1.Cells.flatMap (eI .u32))]⟩, .live ⟨1, p.length, p.flatMap eS⟩, .live ⟨5, y_18.1.length, y_18.1.flatMap GItem.cs⟩]⟩) (fun v => y_28 = v) (by rfl) ?_ ?_
            · obtain ⟨v_30, hv_30, hy_29⟩ := bS hy_29
              obtain ⟨y_31, hy_31, hy_29⟩ := bS hy_29
              have f4 := (fPtr hv_30 (k := 5) (n := y_18.1.length) (by simp))
              have f5 := (fGet0 GItem.ok hv_30 (m := 5) (by decide) (by decide))
              try simp only [↓DN, UP, r1, r2, r3, r4, r5, r6, r7, reduceCtorEq, Try.f20, f4, f5]
              refine cG [] (c_spec_l17Is hy_31) (hK := fun rd b => ?_)
              try simp only [↓DN, UP, r1, r2, r3, r4, r5, r6, r7, reduceCtorEq, Try.f20, f4, f5]
              obtain ⟨y_33, hy_34, hy_29⟩ := bS hy_29
              refine seqK TryT_eq (fun p : Bool => ⟨[(1, .pv (.one (.ptr 0 0))), (3, .pv (.one (.arr 1 0 out_19.length))), (4, .pv (.one (.int .i64 b_8))), (5, .pv (.one (.arr 2 0 y_18.1.length))), (7, .pv (.one (.int .i64 i_20))), (8, .pv (.one (.bool p)))], [.live ⟨1, 1, [.imm 1 s_1.Cells.length (s_1.Cells.flatMap (eI .u32))]⟩, .live ⟨1, out_19.length, out_19.flatMap eS⟩, .live ⟨5, y_18.1.length, y_18.1.flatMap GItem.cs⟩]⟩) (fun v => y_33 = v) (by rfl) ?_ ?_
              · try simp only [↓DN, UP, r1, r2, r3, r4, r5, r6, r7, reduceCtorEq, Try.f20, f4, f5]
                obtain ⟨y_38, hy_39, hy_34⟩ := bS hy_34
                refine loopK TryT_eq (fun p : Bool × Int => ⟨[(1, .pv (.one (.ptr 0 0))), (3, .pv (.one (.arr 1 0 out_19.length))), (4, .pv (.one (.int .i64 b_8))), (5, .pv (.one (.arr 2 0 y_18.1.length))), (7, .pv (.one (.int .i64 i_20))), (8, .pv (.one (.bool p.1))), (9, .pv (.one (.int .i64 p.2)))], [.live ⟨1, 1, [.imm 1 s_1.Cells.length (s_1.Cells.flatMap (eI .u32))]⟩, .live ⟨1, out_19.length, out_19.flatMap eS⟩, .live ⟨5, y_18.1.length, y_18.1.flatMap GItem.cs⟩]⟩) (fun k p => g_spec_Names_l2 out_19 v_30 k p.1 p.2 = some y_38) (by kernel_rfl) bigK ((!y_31), 0) (wn [1, 3, 4, 5, 7, 8, 9] [0, 1, 2]) hy_39 (fun _ h => nomatch (show none = some _ from h)) ?_
                rintro k_40 ⟨there_35, k_36⟩ hk_41
                rw [g_spec_Names_l2] at hk_41
                try dsimp only at hk_41
                try simp only [↓DN, UP, r1, r2, r3, r4, r5, r6, r7, reduceCtorEq, Try.f20]
                refine seqN TryT_eq rfl ?_
                try simp only [↓DN, UP, r1, r2, r3, r4, r5, r6, r7, reduceCtorEq, Try.f20]
                refine stIf hk_41 (fun hb_42 hk_41 => ?_) (fun hb_42 hk_41 => ?_)
                · try simp only [↓DN, UP, r1, r2, r3, r4, r5, r6, r7, reduceCtorEq, Try.f20]
                  refine seqN TryT_eq rfl ?_
                  try simp only [↓DN, UP, r1, r2, r3, r4, r5, r6, r7, reduceCtorEq, Try.f20]
                  refine stIf hk_41 (fun hb_43 hk_41 => ?_) (fun hb_43 hk_41 => ?_)
                  · try simp only [↓DN, UP, r1, r2, r3, r4, r5, r6, r7, reduceCtorEq, Try.f20, hb_43]
                    refine ⟨rfl, ?_⟩
                    try simp only [↓DN, UP, r1, r2, r3, r4, r5, r6, r7, reduceCtorEq, Try.f20, hb_43]
                    exact ⟨(true, IntKind.wrap .i64 (k_36 + 1)), hk_41, (wn [1, 3, 4, 5, 7, 8, 9] [0, 1, 2])⟩
                  · obtain ⟨v_44, hv_44, hk_41⟩ := bS hk_41
                    have f6 := (fPtr hv_44 (k := 1) (n := out_19.length) (by simp))
                    have f7 := (fGet0 eS_ok hv_44 (m := 1) (by decide) (by decide))
                    have f8 := (fPtr hv_30 (k := 5) (n := y_18.1.length) (by simp))
                    have f9 := (fGet GItem.ok hv_30 (q := 1) (m := 1) (by decide) (by decide))
                    try simp only [↓DN, UP, r1, r2, r3, r4, r5, r6, r7, reduceCtorEq, Try.f20, hb_43, f6, f7, f8, f9]
                    refine ⟨rfl, ?_⟩
                    try simp only [↓DN, UP, r1, r2, r3, r4, r5, r6, r7, reduceCtorEq, Try.f20, hb_43, f6, f7, f8, f9]
                    exact ⟨((v_44 == v_30.Name), IntKind.wrap .i64 (k_36 + 1)), hk_41, (wn [1, 3, 4, 5, 7, 8, 9] [0, 1, 2])⟩
                · obtain rfl := Option.some.inj hk_41
                  try dsimp only at hy_34
                  try simp only [↓DN, UP, r1, r2, r3, r4, r5, r6, r7, reduceCtorEq, Try.f20]
                  obtain rfl := Option.some.inj hy_34
                  exact cutT_mk there_35 rfl (wn [1, 3, 4, 5, 7, 8] [0, 1, 2])
              · rintro there_32 hp
                replace hp := hp.symm; subst hp
                try dsimp only at hy_29
                try simp only [↓DN, UP, r1, r2, r3, r4, r5, r6, r7, reduceCtorEq, Try.f20]
                refine stIf hy_29 (fun hb_45 hy_29 => ?_) (fun hb_45 hy_29 => ?_)
                · obtain ⟨v_46, hv_46, hy_29⟩ := bS hy_29
                  have f10 := (fPtr hv_30 (k := 5) (n := y_18.1.length) (by simp))
                  have f11 := (fGet GItem.ok hv_30 (q := 1) (m := 1) (by decide) (by decide))
                  have f12 := (show bldN 1 = 1 from rfl)
                  have f13 := (show bldC [.str v_30.Name] = [v_30.Name].flatMap eS from rfl)
                  have f14 := (fWin eS_ok (n := 1) (xs := [v_30.Name]) (by simp))
                  have f15 := (fApp hv_46 (n := out_19.length) (by simp) (m := 1) (by simp [bsOf]))
                  have f16 := (fWin eS_ok (n := out_19.length) (xs := out_19) (by simp))
                  have f17 := (fCat (e := eS) (ns := [v_30.Name].flatMap eS) hv_46 rfl)
                  try simp only [↓DN, UP, r1, r2, r3, r4, r5, r6, r7, reduceCtorEq, Try.f20, f10, f11, f12, f13, f14, f15, f16, f17]
                  obtain rfl := Option.some.inj hy_29
                  exact cutT_mk v_46 rfl (wn [1, 3, 4, 5, 7] [0, 4, 2])
                · try simp only [↓DN, UP, r1, r2, r3, r4, r5, r6, r7, reduceCtorEq, Try.f20]
                  obtain rfl := Option.some.inj hy_29
                  exact cutT_mk out_19 rfl (wn [1, 3, 4, 5, 7] [0, 1, 2])
            · rintro out_27 hp
              replace hp := hp.symm; subst hp
              try dsimp only at hk_25
              try simp only [↓DN, UP, r1, r2, r3, r4, r5, r6, r7, reduceCtorEq, Try.f20]
              exact ⟨(out_27, IntKind.wrap .i64 (i_20 + 1)), hk_25, (wn [1, 3, 4, 5, 7] [0, 1, 2])⟩
          · obtain rfl := Option.some.inj hk_25
            try dsimp only at hy_17
            try simp only [↓DN, UP, r1, r2, r3, r4, r5, r6, r7, reduceCtorEq, Try.f20]
            obtain rfl := Option.some.inj hy_17
            exact cutT_mk out_19 rfl (wn [1, 3, 4] [0, 1])
        · rintro out_15 hp
          replace hp := hp.symm; subst hp
          try dsimp only at hk_13
          try simp only [↓DN, UP, r1, r2, r3, r4, r5, r6, r7, reduceCtorEq, Try.f20]
          exact ⟨(out_15, IntKind.wrap .i64 (b_8 + 1)), hk_13, (wn [1, 3, 4] [0, 1])⟩
      · obtain rfl := Option.some.inj hk_13
        try dsimp only at hy_6
        try simp only [↓DN, UP, r1, r2, r3, r4, r5, r6, r7, reduceCtorEq, Try.f20, f3]
        obtain rfl := Option.some.inj hy_6
        exact cutT_mk out_7 rfl (wn [3] [1])
    · rintro out_4 hp
      replace hp := hp.symm; subst hp
      try dsimp only at h
      try simp only [↓DN, UP, r1, r2, r3, r4, r5, r6, r7, reduceCtorEq, Try.f20]
      obtain rfl := Option.some.inj h
      refine endT_of ?_ ⟨rfl, rfl⟩
      exact (wn [0] [0])
theorem c_slices_Index_string {s_1 : List Bs} {v_2 : Bs} {r : Int} (h : g_slices_Index_string s_1 v_2 = some r) : Ans Try.prog 71 [.one (.imm 1 s_1.length (s_1.flatMap eS)), .one (.str v_2)] [] fun v h1 => v = .pv (.one (.int .i64 r)) ∧ h1 = [] := by
  refine ansK (P := fun _ => Try.prog) TryT_eq (fn := Try.f71) Try.func71 rfl ⟨by kernel_rfl, rfl, rfl, by kernel_rfl⟩ (by simp) (Weak.refl _ _) ?_
  rw [g_slices_Index_string] at h
  try simp only [↓DN, UP, r1, r2, r3, r4, r5, r6, r7, reduceCtorEq, Try.f71]
  obtain ⟨y_4, hy_5, h⟩ := bS h
  refine seqK TryT_eq (fun p : Unit => ⟨[], []⟩) (fun v => y_4 = .inl v) (by rfl) ?_ ?_
  · try simp only [↓DN, UP, r1, r2, r3, r4, r5, r6, r7, reduceCtorEq, Try.f71]
    obtain ⟨y_8, hy_9, hy_5⟩ := bS hy_5
    refine loopK TryT_eq (fun p : Int => ⟨[(0, .pv (.one (.imm 1 s_1.length (s_1.flatMap eS)))), (1, .pv (.one (.str v_2))), (7, .pv (.one (.int .i64 (s_1.length : Int)))), (8, .pv (.one (.int .i64 p)))], []⟩) (fun k p => g_slices_Index_string_l0 s_1 v_2 k p = some y_8) (by kernel_rfl) bigK 0 (wn [0, 1, 7, 8] []) hy_9 (fun _ h => nomatch (show none = some _ from h)) ?_
    rintro k_10 v_6 hk_11
    rw [g_slices_Index_string_l0] at hk_11
    try dsimp only at hk_11
    try simp only [↓DN, UP, r1, r2, r3, r4, r5, r6, r7, reduceCtorEq, Try.f71]
    refine seqN TryT_eq rfl ?_
    try simp only [↓DN, UP, r1, r2, r3, r4, r5, r6, r7, reduceCtorEq, Try.f71]
    refine stIf hk_11 (fun hb_12 hk_11 => ?_) (fun hb_12 hk_11 => ?_)
    · try simp only [↓DN, UP, r1, r2, r3, r4, r5, r6, r7, reduceCtorEq, Try.f71]
      refine seqN TryT_eq rfl ?_
      obtain ⟨v_13, hv_13, hk_11⟩ := bS hk_11
      have f1 := (fAt eS_ok hv_13 (n := s_1.length) (by simp))
      try simp only [↓DN, UP, r1, r2, r3, r4, r5, r6, r7, reduceCtorEq, Try.f71, f1]
      refine stIf hk_11 (fun hb_14 hk_11 => ?_) (fun hb_14 hk_11 => ?_)
      · obtain rfl := Option.some.inj hk_11
        try dsimp only at hy_5
        obtain rfl := Option.some.inj hy_5
        try dsimp only at h
        try simp only [↓DN, UP, r1, r2, r3, r4, r5, r6, r7, reduceCtorEq, Try.f71, f1]
        obtain rfl := Option.some.inj h
        refine endT_of ?_ ⟨rfl, rfl⟩
        exact (wn [0] [])
      · try simp only [↓DN, UP, r1, r2, r3, r4, r5, r6, r7, reduceCtorEq, Try.f71, f1]
        exact ⟨IntKind.wrap .i64 (v_6 + 1), hk_11, (wn [0, 1, 7, 8] [])⟩
    · obtain rfl := Option.some.inj hk_11
      try dsimp only at hy_5
      try simp only [↓DN, UP, r1, r2, r3, r4, r5, r6, r7, reduceCtorEq, Try.f71]
      obtain rfl := Option.some.inj hy_5
      exact cutT_mk () (by trivial) (wn [] [])
  · rintro _ hp
    replace hp := hp.symm; subst hp
    try dsimp only at h
    try simp only [↓DN, UP, r1, r2, r3, r4, r5, r6, r7, reduceCtorEq, Try.f71]
    obtain rfl := Option.some.inj h
    refine endT_of ?_ ⟨rfl, rfl⟩
    exact (wn [0] [])
theorem c_slices_Contains_string {s_1 : List Bs} {v_2 : Bs} {r : Bool} (h : g_slices_Contains_string s_1 v_2 = some r) : Ans Try.prog 47 [.one (.imm 1 s_1.length (s_1.flatMap eS)), .one (.str v_2)] [] fun v h1 => v = .pv (.one (.bool r)) ∧ h1 = [] := by
  refine ansK (P := fun _ => Try.prog) TryT_eq (fn := Try.f47) Try.func47 rfl ⟨by kernel_rfl, rfl, rfl, by kernel_rfl⟩ (by simp) (Weak.refl _ _) ?_
  rw [g_slices_Contains_string] at h
  obtain ⟨y_3, hy_3, h⟩ := bS h
  try simp only [↓DN, UP, r1, r2, r3, r4, r5, r6, r7, reduceCtorEq, Try.f47]
  refine cG [] (c_slices_Index_string hy_3) (hK := fun rd b => ?_)
  try simp only [↓DN, UP, r1, r2, r3, r4, r5, r6, r7, reduceCtorEq, Try.f47]
  obtain rfl := Option.some.inj h
  refine endT_of ?_ ⟨rfl, rfl⟩
  exact (wn [0] [])
theorem c_impl_Names {s_1 : GStore} {r : (List Bs)} (h : g_impl_Names s_1 = some r) : Ans Try.prog 21 [.agg [.imm 1 s_1.Cells.length (s_1.Cells.flatMap (eI .u32))]] [] fun v h1 => v = .pv (.one (.arr 0 0 r.length)) ∧ h1 = [.live ⟨1, r.length, r.flatMap eS⟩] := by
  refine ansK (P := fun _ => Try.prog) TryT_eq (fn := Try.f21) Try.func21 rfl ⟨by kernel_rfl, rfl, rfl, by kernel_rfl⟩ (by simp) (Weak.refl _ _) ?_
  rw [g_impl_Names] at h
  try simp only [↓DN, UP, r1, r2, r3, r4, r5, r6, r7, reduceCtorEq, Try.f21]
  refine seqN TryT_eq rfl ?_
  obtain ⟨y_2, hy_2, h⟩ := bS h
  try simp only [↓DN, UP, r1, r2, r3, r4, r5, r6, r7, reduceCtorEq, Try.f21]
  refine cG [] (c_impl_StoreOk hy_2) (hK := fun rd b => ?_)
  try simp only [↓DN, UP, r1, r2, r3, r4, r5, r6, r7, reduceCtorEq, Try.f21]
  refine stIf h (fun hb_3 h => ?_) (fun hb_3 h => ?_)
  · try simp only [↓DN, UP, r1, r2, r3, r4, r5, r6, r7, reduceCtorEq, Try.f21]
    obtain rfl := Option.some.inj h
    refine endT_of ?_ ⟨rfl, rfl⟩
    exact ((weak_norm (ks := [0]) (π := []) (fuel := 9) (s' := ⟨[(0, .pv (.one (.emp)))], []⟩) (by simp only [WL, r1, r2, r3, r4, r5, r6, r7, reduceCtorEq])).trans (weak_le (by simp only [LEb, r1, r2, r3, r4, r5, r6, r7, reduceCtorEq, TL]) (by simp only [LEb, r1, r2, r3, r4, r5, r6, r7, reduceCtorEq, TL])))
  · have f1 := (show bldN 0 = 0 from rfl)
    have f2 := (show bldC [] = ([] : List Bs).flatMap eS from rfl)
    try simp only [↓DN, UP, r1, r2, r3, r4, r5, r6, r7, reduceCtorEq, Try.f21, f1, f2]
    obtain ⟨y_5, hy_6, h⟩ := bS h
    refine seqK TryT_eq (fun p : (List Bs) => ⟨[(3, .pv (.one (.arr 0 0 p.length)))], [.live ⟨1, p.length, p.flatMap eS⟩]⟩) (fun v => y_5 = v) (by rfl) ?_ ?_
    · obtain ⟨y_7, hy_7, hy_6⟩ := bS hy_6
      try simp only [↓DN, UP, r1, r2, r3, r4, r5, r6, r7, reduceCtorEq, Try.f21, f1, f2]
      refine cG [] (c_impl_allPlaced hy_7) (hK := fun rd b => ?_)
      try simp only [↓DN, UP, r1, r2, r3, r4, r5, r6, r7, reduceCtorEq, Try.f21, f1, f2]
      obtain ⟨y_11, hy_12, hy_6⟩ := bS hy_6
      refine loopK TryT_eq (fun p : (List Bs) × Int => ⟨[(3, .pv (.one (.arr 0 0 p.1.length))), (12, .pv (.one (.arr 1 0 y_7.length))), (13, .pv (.one (.int .i64 (y_7.length : Int)))), (14, .pv (.one (.int .i64 p.2)))], [.live ⟨1, p.1.length, p.1.flatMap eS⟩, .live ⟨6, y_7.length, y_7.flatMap GPlaced.cs⟩]⟩) (fun k p => g_impl_Names_l0 y_7 k p.1 p.2 = some y_11) (by kernel_rfl) bigK (([] : List Bs), 0) (weak_norm (ks := [3, 12, 13, 14]) (π := [1, 2]) (fuel := 9) (by simp only [WL, r1, r2, r3, r4, r5, r6, r7, reduceCtorEq, fWin eS_ok (n := 0) (xs := ([] : List Bs)) (by simp)])) hy_12 (fun _ h => nomatch (show none = some _ from h)) ?_
      rintro k_13 ⟨out_8, v_9⟩ hk_14
      rw [g_impl_Names_l0] at hk_14
      try dsimp only at hk_14
      try simp only [↓DN, UP, r1, r2, r3, r4, r5, r6, r7, reduceCtorEq, Try.f21]
      refine seqN TryT_eq rfl ?_
      try simp only [↓DN, UP, r1, r2, r3, r4, r5, r6, r7, reduceCtorEq, Try.f21]
      refine stIf hk_14 (fun hb_15 hk_14 => ?_) (fun hb_15 hk_14 => ?_)
      · try simp only [↓DN, UP, r1, r2, r3, r4, r5, r6, r7, reduceCtorEq, Try.f21]
        obtain ⟨y_17, hy_18, hk_14⟩ := bS hk_14
        refine seqK TryT_eq (fun p : (List Bs) => ⟨[(3, .pv (.one (.arr 0 0 p.length))), (12, .pv (.one (.arr 1 0 y_7.length))), (13, .pv (.one (.int .i64 (y_7.length : Int)))), (14, .pv (.one (.int .i64 v_9)))], [.live ⟨1, p.length, p.flatMap eS⟩, .live ⟨6, y_7.length, y_7.flatMap GPlaced.cs⟩]⟩) (fun v => y_17 = v) (by rfl) ?_ ?_
        · obtain ⟨v_19, hv_19, hy_18⟩ := bS hy_18
          have f3 := (fPtr hv_19 (k := 6) (n := y_7.length) (by simp))
          have f4 := (fGet0 GPlaced.ok hv_19 (m := 6) (by decide) (by decide))
          try simp only [↓DN, UP, r1, r2, r3, r4, r5, r6, r7, reduceCtorEq, Try.f21, f3, f4]
          obtain ⟨y_21, hy_22, hy_18⟩ := bS hy_18
          refine seqK TryT_eq (fun p : Bool => ⟨[(3, .pv (.one (.arr 0 0 out_8.length))), (6, .pv (.one (.str v_19.item.Name))), (12, .pv (.one (.arr 1 0 y_7.length))), (13, .pv (.one (.int .i64 (y_7.length : Int)))), (14, .pv (.one (.int .i64 v_9))), (30, .pv (.one (.bool p)))], [.live ⟨1, out_8.length, out_8.flatMap eS⟩, .live ⟨6, y_7.length, y_7.flatMap GPlaced.cs⟩]⟩) (fun v => y_21 = v) (by rfl) ?_ ?_
          · obtain ⟨y_23, hy_23, hy_22⟩ := bS hy_22
            try simp only [↓DN, UP, r1, r2, r3, r4, r5, r6, r7, reduceCtorEq, Try.f21, f3, f4]
            refine cG [] (c_impl_uses hy_23) (hK := fun rd b => ?_)
            try simp only [↓DN, UP, r1, r2, r3, r4, r5, r6, r7, reduceCtorEq, Try.f21, f3, f4]
            refine stIf hy_22 (fun hb_24 hy_22 => ?_) (fun hb_24 hy_22 => ?_)
            · obtain ⟨y_25, hy_25, hy_22⟩ := bS hy_22
              try simp only [↓DN, UP, r1, r2, r3, r4, r5, r6, r7, reduceCtorEq, Try.f21, f3, f4, hb_24]
              refine cG [] (c_slices_Contains_string hy_25) (hK := fun rd b => ?_)
              try simp only [↓DN, UP, r1, r2, r3, r4, r5, r6, r7, reduceCtorEq, Try.f21, f3, f4, hb_24]
              obtain rfl := Option.some.inj hy_22
              exact cutT_mk (!y_25) rfl (wn [3, 6, 12, 13, 14, 30] [0, 1])
            · try simp only [↓DN, UP, r1, r2, r3, r4, r5, r6, r7, reduceCtorEq, Try.f21, f3, f4, hb_24]
              obtain rfl := Option.some.inj hy_22
              exact cutT_mk false rfl (wn [3, 6, 12, 13, 14, 30] [0, 1])
          · rintro v_20 hp
            replace hp := hp.symm; subst hp
            try dsimp only at hy_18
            try simp only [↓DN, UP, r1, r2, r3, r4, r5, r6, r7, reduceCtorEq, Try.f21]
            refine stIf hy_18 (fun hb_26 hy_18 => ?_) (fun hb_26 hy_18 => ?_)
            · obtain ⟨v_27, hv_27, hy_18⟩ := bS hy_18
              have f5 := (show bldN 1 = 1 from rfl)
              have f6 := (show bldC [.str v_19.item.Name] = [v_19.item.Name].flatMap eS from rfl)
              have f7 := (fWin eS_ok (n := 1) (xs := [v_19.item.Name]) (by simp))
              have f8 := (fApp hv_27 (n := out_8.length) (by simp) (m := 1) (by simp [bsOf]))
              have f9 := (fWin eS_ok (n := out_8.length) (xs := out_8) (by simp))
              have f10 := (fCat (e := eS) (ns := [v_19.item.Name].flatMap eS) hv_27 rfl)
              try simp only [↓DN, UP, r1, r2, r3, r4, r5, r6, r7, reduceCtorEq, Try.f21, f5, f6, f7, f8, f9, f10]
              obtain rfl := Option.some.inj hy_18
              exact cutT_mk v_27 rfl (wn [3, 12, 13, 14] [3, 1])
            · try simp only [↓DN, UP, r1, r2, r3, r4, r5, r6, r7, reduceCtorEq, Try.f21]
              obtain rfl := Option.some.inj hy_18
              exact cutT_mk out_8 rfl (wn [3, 12, 13, 14] [0, 1])
        · rintro out_16 hp
          replace hp := hp.symm; subst hp
          try dsimp only at hk_14
          try simp only [↓DN, UP, r1, r2, r3, r4, r5, r6, r7, reduceCtorEq, Try.f21]
          exact ⟨(out_16, IntKind.wrap .i64 (v_9 + 1)), hk_14, (wn [3, 12, 13, 14] [0, 1])⟩
      · obtain rfl := Option.some.inj hk_14
        try dsimp only at hy_6
        try simp only [↓DN, UP, r1, r2, r3, r4, r5, r6, r7, reduceCtorEq, Try.f21]
        obtain rfl := Option.some.inj hy_6
        exact cutT_mk out_8 rfl (wn [3] [0])
    · rintro out_4 hp
      replace hp := hp.symm; subst hp
      try dsimp only at h
      try simp only [↓DN, UP, r1, r2, r3, r4, r5, r6, r7, reduceCtorEq, Try.f21]
      obtain rfl := Option.some.inj h
      refine endT_of ?_ ⟨rfl, rfl⟩
      exact (wn [0] [0])
theorem c_laws_eqStringS {a_1 : List Bs} {b_2 : List Bs} {r : Bool} (h : g_laws_eqStringS a_1 b_2 = some r) : Ans Try.prog 22 [.one (.imm 1 a_1.length (a_1.flatMap eS)), .one (.imm 1 b_2.length (b_2.flatMap eS))] [] fun v h1 => v = .pv (.one (.bool r)) ∧ h1 = [] := by
  refine ansK (P := fun _ => Try.prog) TryT_eq (fn := Try.f22) Try.func22 rfl ⟨by kernel_rfl, rfl, rfl, by kernel_rfl⟩ (by simp) (Weak.refl _ _) ?_
  rw [g_laws_eqStringS] at h
  try simp only [↓DN, UP, r1, r2, r3, r4, r5, r6, r7, reduceCtorEq, Try.f22]
  refine seqN TryT_eq rfl ?_
  try simp only [↓DN, UP, r1, r2, r3, r4, r5, r6, r7, reduceCtorEq, Try.f22]
  refine stIf h (fun hb_3 h => ?_) (fun hb_3 h => ?_)
  · try simp only [↓DN, UP, r1, r2, r3, r4, r5, r6, r7, reduceCtorEq, Try.f22]
    obtain rfl := Option.some.inj h
    refine endT_of ?_ ⟨rfl, rfl⟩
    exact (wn [0] [])
  · try simp only [↓DN, UP, r1, r2, r3, r4, r5, r6, r7, reduceCtorEq, Try.f22]
    obtain ⟨y_4, hy_5, h⟩ := bS h
    refine seqK TryT_eq (fun p : Unit => ⟨[], []⟩) (fun v => y_4 = .inl v) (by rfl) ?_ ?_
    · try simp only [↓DN, UP, r1, r2, r3, r4, r5, r6, r7, reduceCtorEq, Try.f22]
      obtain ⟨y_7, hy_8, hy_5⟩ := bS hy_5
      refine loopK TryT_eq (fun p : Int => ⟨[(0, .pv (.one (.imm 1 a_1.length (a_1.flatMap eS)))), (1, .pv (.one (.imm 1 b_2.length (b_2.flatMap eS)))), (5, .pv (.one (.int .i64 p)))], []⟩) (fun k p => g_laws_eqStringS_l0 a_1 b_2 k p = some y_7) (by kernel_rfl) bigK 0 (wn [0, 1, 5] []) hy_8 (fun _ h => nomatch (show none = some _ from h)) ?_
      rintro k_9 i_6 hk_10
      rw [g_laws_eqStringS_l0] at hk_10
      try dsimp only at hk_10
      try simp only [↓DN, UP, r1, r2, r3, r4, r5, r6, r7, reduceCtorEq, Try.f22]
      refine seqN TryT_eq rfl ?_
      try simp only [↓DN, UP, r1, r2, r3, r4, r5, r6, r7, reduceCtorEq, Try.f22]
      refine stIf hk_10 (fun hb_11 hk_10 => ?_) (fun hb_11 hk_10 => ?_)
      · try simp only [↓DN, UP, r1, r2, r3, r4, r5, r6, r7, reduceCtorEq, Try.f22]
        refine seqN TryT_eq rfl ?_
        obtain ⟨v_12, hv_12, hk_10⟩ := bS hk_10
        obtain ⟨v_13, hv_13, hk_10⟩ := bS hk_10
        have f1 := (fAt eS_ok hv_12 (n := a_1.length) (by simp))
        have f2 := (fAt eS_ok hv_13 (n := b_2.length) (by simp))
        try simp only [↓DN, UP, r1, r2, r3, r4, r5, r6, r7, reduceCtorEq, Try.f22, f1, f2]
        refine ⟨rfl, ?_⟩
        try simp only [↓DN, UP, r1, r2, r3, r4, r5, r6, r7, reduceCtorEq, Try.f22, f1, f2]
        refine stIf hk_10 (fun hb_14 hk_10 => ?_) (fun hb_14 hk_10 => ?_)
        · obtain rfl := Option.some.inj hk_10
          try dsimp only at hy_5
          obtain rfl := Option.some.inj hy_5
          try dsimp only at h
          try simp only [↓DN, UP, r1, r2, r3, r4, r5, r6, r7, reduceCtorEq, Try.f22, f1, f2]
          obtain rfl := Option.some.inj h
          refine endT_of ?_ ⟨rfl, rfl⟩
          exact (wn [0] [])
        · try simp only [↓DN, UP, r1, r2, r3, r4, r5, r6, r7, reduceCtorEq, Try.f22, f1, f2]
          exact ⟨IntKind.wrap .i64 (i_6 + 1), hk_10, (wn [0, 1, 5] [])⟩
      · obtain rfl := Option.some.inj hk_10
        try dsimp only at hy_5
        try simp only [↓DN, UP, r1, r2, r3, r4, r5, r6, r7, reduceCtorEq, Try.f22]
        obtain rfl := Option.some.inj hy_5
        exact cutT_mk () (by trivial) (wn [] [])
    · rintro _ hp
      replace hp := hp.symm; subst hp
      try dsimp only at h
      try simp only [↓DN, UP, r1, r2, r3, r4, r5, r6, r7, reduceCtorEq, Try.f22]
      obtain rfl := Option.some.inj h
      refine endT_of ?_ ⟨rfl, rfl⟩
      exact (wn [0] [])
theorem c_laws_markText {k_1 : Int} {r : Bs} (h : g_laws_markText k_1 = some r) : Ans Try.prog 48 [.one (.int .i64 k_1)] [] fun v h1 => v = .pv (.one (.str r)) ∧ h1 = [] := by
  refine ansK (P := fun _ => Try.prog) TryT_eq (fn := Try.f48) Try.func48 rfl ⟨by kernel_rfl, rfl, rfl, by kernel_rfl⟩ (by simp) (Weak.refl _ _) ?_
  rw [g_laws_markText] at h
  try simp only [↓DN, UP, r1, r2, r3, r4, r5, r6, r7, reduceCtorEq, Try.f48]
  refine seqN TryT_eq rfl ?_
  try simp only [↓DN, UP, r1, r2, r3, r4, r5, r6, r7, reduceCtorEq, Try.f48]
  refine stIf h (fun hb_2 h => ?_) (fun hb_2 h => ?_)
  · try simp only [↓DN, UP, r1, r2, r3, r4, r5, r6, r7, reduceCtorEq, Try.f48]
    obtain rfl := Option.some.inj h
    refine endT_of ?_ ⟨rfl, rfl⟩
    exact (wn [0] [])
  · try simp only [↓DN, UP, r1, r2, r3, r4, r5, r6, r7, reduceCtorEq, Try.f48]
    obtain ⟨y_6, hy_7, h⟩ := bS h
    refine seqK TryT_eq (fun p : Bs => ⟨[(3, .pv (.one (.str p)))], []⟩) (fun v => y_6 = v) (by rfl) ?_ ?_
    · try simp only [↓DN, UP, r1, r2, r3, r4, r5, r6, r7, reduceCtorEq, Try.f48]
      refine loopK TryT_eq (fun p : Int × Bs => ⟨[(0, .pv (.one (.int .i64 p.1))), (3, .pv (.one (.str p.2)))], []⟩) (fun k p => g_laws_markText_l0 k p.1 p.2 = some y_6) (by kernel_rfl) bigK (k_1, []) (wn [0, 3] []) hy_7 (fun _ h => nomatch (show none = some _ from h)) ?_
      rintro k_8 ⟨k_3, out_4⟩ hk_9
      rw [g_laws_markText_l0] at hk_9
      try dsimp only at hk_9
      try simp only [↓DN, UP, r1, r2, r3, r4, r5, r6, r7, reduceCtorEq, Try.f48]
      refine seqN TryT_eq rfl ?_
      try simp only [↓DN, UP, r1, r2, r3, r4, r5, r6, r7, reduceCtorEq, Try.f48]
      refine stIf hk_9 (fun hb_10 hk_9 => ?_) (fun hb_10 hk_9 => ?_)
      · obtain ⟨v_11, hv_11, hk_9⟩ := bS hk_9
        have f1 := (remI_ne (k := .i64) (a := k_3) (b := 10) (by decide))
        have f2 := (show bldN 1 = 1 from rfl)
        have f3 := (show bldC [.int .u8 (IntKind.wrap .u8 (IntKind.wrap .i64 (48 + (Int.tmod k_3 10))))] = [IntKind.wrap .u8 (IntKind.wrap .i64 (48 + (Int.tmod k_3 10)))].flatMap (eI .u8) from rfl)
        have f4 := (fWin (eI_ok .u8) (n := 1) (xs := [IntKind.wrap .u8 (IntKind.wrap .i64 (48 + (Int.tmod k_3 10)))]) (by simp))
        have f5 := (quoI_ne (k := .i64) (a := k_3) (b := 10) (by decide))
        try simp only [↓DN, UP, r1, r2, r3, r4, r5, r6, r7, reduceCtorEq, Try.f48, f1, f2, f3, f4, hv_11, f5]
        exact ⟨(IntKind.wrap .i64 (Int.tdiv k_3 10), v_11), hk_9, (wn [0, 3] [])⟩
      · try simp only [↓DN, UP, r1, r2, r3, r4, r5, r6, r7, reduceCtorEq, Try.f48]
        obtain rfl := Option.some.inj hk_9
        exact cutT_mk out_4 rfl (wn [3] [])
    · rintro out_5 hp
      replace hp := hp.symm; subst hp
      try dsimp only at h
      obtain ⟨v_12, hv_12, h⟩ := bS h
      try simp only [↓DN, UP, r1, r2, r3, r4, r5, r6, r7, reduceCtorEq, Try.f48, hv_12]
      obtain rfl := Option.some.inj h
      refine endT_of ?_ ⟨rfl, rfl⟩
      exact (wn [0] [])
theorem c_laws_markStringS {a_1 : List Bs} {k_2 : Int} {r : Int × (List Bs)} (h : g_laws_markStringS a_1 k_2 = some r) : Ans Try.prog 23 [.one (.arr 0 0 a_1.length), .one (.int .i64 k_2)] [.live ⟨1, a_1.length, a_1.flatMap eS⟩] fun v h1 => v = .pv (.one (.int .i64 r.1)) ∧ h1 = [.live ⟨1, r.2.length, r.2.flatMap eS⟩] := by
  refine ansK (P := fun _ => Try.prog) TryT_eq (fn := Try.f23) Try.func23 rfl ⟨by kernel_rfl, rfl, rfl, by kernel_rfl⟩ (by simp) (Weak.refl _ _) ?_
  rw [g_laws_markStringS] at h
  try simp only [↓DN, UP, r1, r2, r3, r4, r5, r6, r7, reduceCtorEq, Try.f23]
  obtain ⟨y_5, hy_6, h⟩ := bS h
  refine seqK TryT_eq (fun p : (List Bs) × Int => ⟨[(1, .pv (.one (.int .i64 p.2)))], [.live ⟨1, p.1.length, p.1.flatMap eS⟩]⟩) (fun v => y_5 = v) (by rfl) ?_ ?_
  · try simp only [↓DN, UP, r1, r2, r3, r4, r5, r6, r7, reduceCtorEq, Try.f23]
    obtain ⟨y_12, hy_13, hy_6⟩ := bS hy_6
    refine loopK TryT_eq (fun p : (List Bs) × Int × Int => ⟨[(0, .pv (.one (.arr 0 0 p.1.length))), (1, .pv (.one (.int .i64 p.2.1))), (5, .pv (.one (.int .i64 p.2.2)))], [.live ⟨1, p.1.length, p.1.flatMap eS⟩]⟩) (fun k p => g_laws_markStringS_l0 k p.1 p.2.1 p.2.2 = some y_12) (by kernel_rfl) bigK (a_1, k_2, 0) (wn [0, 1, 5] [0]) hy_13 (fun _ h => nomatch (show none = some _ from h)) ?_
    rintro k_14 ⟨a_7, k_8, i_9⟩ hk_15
    rw [g_laws_markStringS_l0] at hk_15
    try dsimp only at hk_15
    try simp only [↓DN, UP, r1, r2, r3, r4, r5, r6, r7, reduceCtorEq, Try.f23]
    refine seqN TryT_eq rfl ?_
    try simp only [↓DN, UP, r1, r2, r3, r4, r5, r6, r7, reduceCtorEq, Try.f23]
    refine stIf hk_15 (fun hb_16 hk_15 => ?_) (fun hb_16 hk_15 => ?_)
    · try simp only [↓DN, UP, r1, r2, r3, r4, r5, r6, r7, reduceCtorEq, Try.f23]
      refine seqN TryT_eq rfl ?_
      obtain ⟨y_17, hy_17, hk_15⟩ := bS hk_15
      try simp only [↓DN, UP, r1, r2, r3, r4, r5, r6, r7, reduceCtorEq, Try.f23]
      refine cG [] (c_laws_markText hy_17) (hK := fun rd b => ?_)
      obtain ⟨v_18, hv_18, hk_15⟩ := bS hk_15
      have f1 := (fPtr hv_18 (k := 1) (n := a_7.length) (by simp))
      have f2 := (fPut0 eS_ok hv_18 (ns := [.str y_17]) (y := y_17) rfl)
      try simp only [↓DN, UP, r1, r2, r3, r4, r5, r6, r7, reduceCtorEq, Try.f23, f1, f2]
      exact ⟨(a_7.set i_9.toNat y_17, IntKind.wrap .i64 (k_8 + 1), IntKind.wrap .i64 (i_9 + 1)), hk_15, (weak_norm (ks := [0, 1, 5]) (π := [0]) (fuel := 9) (by simp only [WL, r1, r2, r3, r4, r5, r6, r7, reduceCtorEq, fWin eS_ok (n := a_7.length) (xs := a_7.set i_9.toNat y_17) (by simp)]))⟩
    · obtain rfl := Option.some.inj hk_15
      try dsimp only at hy_6
      try simp only [↓DN, UP, r1, r2, r3, r4, r5, r6, r7, reduceCtorEq, Try.f23]
      obtain rfl := Option.some.inj hy_6
      exact cutT_mk (a_7, k_8) rfl (wn [1] [0])
  · rintro ⟨p_3, k_4⟩ hp
    replace hp := hp.symm; subst hp
    try dsimp only at h
    try simp only [↓DN, UP, r1, r2, r3, r4, r5, r6, r7, reduceCtorEq, Try.f23]
    obtain rfl := Option.some.inj h
    refine endT_of ?_ ⟨rfl, rfl⟩
    exact (wn [0] [0])
theorem c_laws_heldStringS {a_1 : List Bs} {k_2 : Int} {r : Int} (h : g_laws_heldStringS a_1 k_2 = some r) : Ans Try.prog 24 [.one (.imm 1 a_1.length (a_1.flatMap eS)), .one (.int .i64 k_2)] [] fun v h1 => v = .pv (.one (.int .i64 r)) ∧ h1 = [] := by
  refine ansK (P := fun _ => Try.prog) TryT_eq (fn := Try.f24) Try.func24 rfl ⟨by kernel_rfl, rfl, rfl, by kernel_rfl⟩ (by simp) (Weak.refl _ _) ?_
  rw [g_laws_heldStringS] at h
  try simp only [↓DN, UP, r1, r2, r3, r4, r5, r6, r7, reduceCtorEq, Try.f24]
  obtain ⟨y_4, hy_5, h⟩ := bS h
  refine seqK TryT_eq (fun p : Int => ⟨[(1, .pv (.one (.int .i64 p)))], []⟩) (fun v => y_4 = .inl v) (by rfl) ?_ ?_
  · try simp only [↓DN, UP, r1, r2, r3, r4, r5, r6, r7, reduceCtorEq, Try.f24]
    obtain ⟨y_9, hy_10, hy_5⟩ := bS hy_5
    refine loopK TryT_eq (fun p : Int × Int => ⟨[(0, .pv (.one (.imm 1 a_1.length (a_1.flatMap eS)))), (1, .pv (.one (.int .i64 p.1))), (5, .pv (.one (.int .i64 p.2)))], []⟩) (fun k p => g_laws_heldStringS_l0 a_1 k p.1 p.2 = some y_9) (by kernel_rfl) bigK (k_2, 0) (wn [0, 1, 5] []) hy_10 (fun _ h => nomatch (show none = some _ from h)) ?_
    rintro k_11 ⟨k_6, i_7⟩ hk_12
    rw [g_laws_heldStringS_l0] at hk_12
    try dsimp only at hk_12
    try simp only [↓DN, UP, r1, r2, r3, r4, r5, r6, r7, reduceCtorEq, Try.f24]
    refine seqN TryT_eq rfl ?_
    try simp only [↓DN, UP, r1, r2, r3, r4, r5, r6, r7, reduceCtorEq, Try.f24]
    refine stIf hk_12 (fun hb_13 hk_12 => ?_) (fun hb_13 hk_12 => ?_)
    · try simp only [↓DN, UP, r1, r2, r3, r4, r5, r6, r7, reduceCtorEq, Try.f24]
      refine seqN TryT_eq rfl ?_
      try simp only [↓DN, UP, r1, r2, r3, r4, r5, r6, r7, reduceCtorEq, Try.f24]
      refine seqN TryT_eq rfl ?_
      obtain ⟨v_14, hv_14, hk_12⟩ := bS hk_12
      obtain ⟨y_15, hy_15, hk_12⟩ := bS hk_12
      have f1 := (fAt eS_ok hv_14 (n := a_1.length) (by simp))
      try simp only [↓DN, UP, r1, r2, r3, r4, r5, r6, r7, reduceCtorEq, Try.f24, f1]
      refine callE [] (rd1 := []) (rd2 := []) 9 rfl (by simp only [WL, r1, r2, r3, r4, r5, r6, r7, reduceCtorEq]) (by simp only [WL, r1, r2, r3, r4, r5, r6, r7, reduceCtorEq]) rfl (c_laws_markText hy_15) (by simp only [WL, r1, r2, r3, r4, r5, r6, r7, reduceCtorEq]) ?_
      try simp only [↓DN, UP, r1, r2, r3, r4, r5, r6, r7, reduceCtorEq, Try.f24, f1]
      refine ⟨rfl, ?_⟩
      try simp only [↓DN, UP, r1, r2, r3, r4, r5, r6, r7, reduceCtorEq, Try.f24, f1]
      refine stIf hk_12 (fun hb_16 hk_12 => ?_) (fun hb_16 hk_12 => ?_)
      · obtain rfl := Option.some.inj hk_12
        try dsimp only at hy_5
        obtain rfl := Option.some.inj hy_5
        try dsimp only at h
        try simp only [↓DN, UP, r1, r2, r3, r4, r5, r6, r7, reduceCtorEq, Try.f24, f1]
        obtain rfl := Option.some.inj h
        refine endT_of ?_ ⟨rfl, rfl⟩
        exact (wn [0] [])
      · try simp only [↓DN, UP, r1, r2, r3, r4, r5, r6, r7, reduceCtorEq, Try.f24, f1]
        exact ⟨(IntKind.wrap .i64 (k_6 + 1), IntKind.wrap .i64 (i_7 + 1)), hk_12, (wn [0, 1, 5] [])⟩
    · obtain rfl := Option.some.inj hk_12
      try dsimp only at hy_5
      try simp only [↓DN, UP, r1, r2, r3, r4, r5, r6, r7, reduceCtorEq, Try.f24]
      obtain rfl := Option.some.inj hy_5
      exact cutT_mk k_6 rfl (wn [1] [])
  · rintro k_3 hp
    replace hp := hp.symm; subst hp
    try dsimp only at h
    try simp only [↓DN, UP, r1, r2, r3, r4, r5, r6, r7, reduceCtorEq, Try.f24]
    obtain rfl := Option.some.inj h
    refine endT_of ?_ ⟨rfl, rfl⟩
    exact (wn [0] [])
theorem c_laws_FnExactNames {aS_1 : GStore} {r : Bool} (h : g_laws_FnExactNames aS_1 = some r) : Ans Try.prog 5 [.agg [.imm 1 aS_1.Cells.length (aS_1.Cells.flatMap (eI .u32))]] [] fun v h1 => v = .pv (.one (.bool r)) ∧ h1 = [] := by
  refine ansK (P := fun _ => Try.prog) TryT_eq (fn := Try.f5) Try.func5 rfl ⟨by kernel_rfl, rfl, rfl, by kernel_rfl⟩ (by simp) (Weak.refl _ _) ?_
  rw [g_laws_FnExactNames] at h
  obtain ⟨y_2, hy_2, h⟩ := bS h
  try simp only [↓DN, UP, r1, r2, r3, r4, r5, r6, r7, reduceCtorEq, Try.f5]
  refine cG [] (c_laws_szStore hy_2) (hK := fun rd b => ?_)
  try simp only [↓DN, UP, r1, r2, r3, r4, r5, r6, r7, reduceCtorEq, Try.f5]
  refine seqN TryT_eq rfl ?_
  try simp only [↓DN, UP, r1, r2, r3, r4, r5, r6, r7, reduceCtorEq, Try.f5]
  refine stIf h (fun hb_3 h => ?_) (fun hb_3 h => ?_)
  · try simp only [↓DN, UP, r1, r2, r3, r4, r5, r6, r7, reduceCtorEq, Try.f5]
    obtain rfl := Option.some.inj h
    refine endT_of ?_ ⟨rfl, rfl⟩
    exact (wn [0] [])
  · obtain ⟨y_4, hy_4, h⟩ := bS h
    try simp only [↓DN, UP, r1, r2, r3, r4, r5, r6, r7, reduceCtorEq, Try.f5]
    refine cG [] (c_laws_toStore hy_4) (hK := fun rd b => ?_)
    obtain ⟨y_5, hy_5, h⟩ := bS h
    try simp only [↓DN, UP, r1, r2, r3, r4, r5, r6, r7, reduceCtorEq, Try.f5]
    refine cG [] (c_spec_Names hy_5) (hK := fun rd b => ?_)
    obtain ⟨y_6, hy_6, h⟩ := bS h
    try simp only [↓DN, UP, r1, r2, r3, r4, r5, r6, r7, reduceCtorEq, Try.f5]
    refine cG [] (c_laws_toStore hy_6) (hK := fun rd b => ?_)
    obtain ⟨y_7, hy_7, h⟩ := bS h
    try simp only [↓DN, UP, r1, r2, r3, r4, r5, r6, r7, reduceCtorEq, Try.f5]
    refine cG [] (c_impl_Names hy_7) (hK := fun rd b => ?_)
    try simp only [↓DN, UP, r1, r2, r3, r4, r5, r6, r7, reduceCtorEq, Try.f5]
    refine seqN TryT_eq rfl ?_
    obtain ⟨y_8, hy_8, h⟩ := bS h
    try simp only [↓DN, UP, r1, r2, r3, r4, r5, r6, r7, reduceCtorEq, Try.f5]
    refine cG [] (c_laws_eqStringS hy_8) (hK := fun rd b => ?_)
    try simp only [↓DN, UP, r1, r2, r3, r4, r5, r6, r7, reduceCtorEq, Try.f5]
    refine stIf h (fun hb_9 h => ?_) (fun hb_9 h => ?_)
    · try simp only [↓DN, UP, r1, r2, r3, r4, r5, r6, r7, reduceCtorEq, Try.f5]
      obtain rfl := Option.some.inj h
      refine endT_of ?_ ⟨rfl, rfl⟩
      exact (wn [0] [])
    · try simp only [↓DN, UP, r1, r2, r3, r4, r5, r6, r7, reduceCtorEq, Try.f5]
      refine seqN TryT_eq rfl ?_
      obtain ⟨y_10, hy_10, h⟩ := bS h
      try simp only [↓DN, UP, r1, r2, r3, r4, r5, r6, r7, reduceCtorEq, Try.f5]
      refine callE [] (rd1 := []) (rd2 := []) 9 rfl (by simp only [WL, r1, r2, r3, r4, r5, r6, r7, reduceCtorEq]) (by simp only [WL, r1, r2, r3, r4, r5, r6, r7, reduceCtorEq]) rfl (c_laws_toStore hy_10) (by simp only [WL, r1, r2, r3, r4, r5, r6, r7, reduceCtorEq]) ?_
      obtain ⟨y_11, hy_11, h⟩ := bS h
      try simp only [↓DN, UP, r1, r2, r3, r4, r5, r6, r7, reduceCtorEq, Try.f5]
      refine callE [] (rd1 := [3, 6]) (rd2 := []) 9 rfl (by simp only [WL, r1, r2, r3, r4, r5, r6, r7, reduceCtorEq]) (by simp only [WL, r1, r2, r3, r4, r5, r6, r7, reduceCtorEq]) rfl (c_laws_eqStore hy_11) (by simp only [WL, r1, r2, r3, r4, r5, r6, r7, reduceCtorEq]) ?_
      try simp only [↓DN, UP, r1, r2, r3, r4, r5, r6, r7, reduceCtorEq, Try.f5]
      refine ⟨rfl, ?_⟩
      try simp only [↓DN, UP, r1, r2, r3, r4, r5, r6, r7, reduceCtorEq, Try.f5]
      refine stIf h (fun hb_12 h => ?_) (fun hb_12 h => ?_)
      · try simp only [↓DN, UP, r1, r2, r3, r4, r5, r6, r7, reduceCtorEq, Try.f5]
        obtain rfl := Option.some.inj h
        refine endT_of ?_ ⟨rfl, rfl⟩
        exact (wn [0] [])
      · obtain ⟨y_13, hy_13, h⟩ := bS h
        obtain ⟨u_14, hu_14, h⟩ := bS h
        try simp only [↓DN, UP, r1, r2, r3, r4, r5, r6, r7, reduceCtorEq, Try.f5]
        refine cG [3] (c_laws_markStore hy_13) (hk := (by simp only [WL, r1, r2, r3, r4, r5, r6, r7, reduceCtorEq, lenC_eq hu_14])) (hK := fun rd b => ?_)
        have f1 := (show CV.arr 3 0 y_6.Cells.length = .arr 3 0 y_13.2.length from by rw [lenC_eq hu_14])
        try simp only [↓DN, UP, r1, r2, r3, r4, r5, r6, r7, reduceCtorEq, Try.f5, f1]
        refine seqN TryT_eq rfl ?_
        try simp only [↓DN, UP, r1, r2, r3, r4, r5, r6, r7, reduceCtorEq, Try.f5, f1]
        obtain ⟨y_16, hy_17, h⟩ := bS h
        refine seqK TryT_eq (fun p : Bool => ⟨[(1, .pv (.one (.ptr 0 0))), (4, .pv (.one (.arr 1 0 y_5.length))), (6, .pv (.one (.arr 2 0 y_7.length))), (42, .pv (.one (.bool p)))], [.live ⟨1, 1, [.imm 1 aS_1.Cells.length (aS_1.Cells.flatMap (eI .u32))]⟩, .live ⟨1, y_5.length, y_5.flatMap eS⟩, .live ⟨1, y_7.length, y_7.flatMap eS⟩]⟩) (fun v => y_16 = v) (by rfl) ?_ ?_
        · try simp only [↓DN, UP, r1, r2, r3, r4, r5, r6, r7, reduceCtorEq, Try.f5, f1]
          refine stIf hy_17 (fun hb_18 hy_17 => ?_) (fun hb_18 hy_17 => ?_)
          · try simp only [↓DN, UP, r1, r2, r3, r4, r5, r6, r7, reduceCtorEq, Try.f5, f1, hb_18]
            obtain rfl := Option.some.inj hy_17
            exact cutT_mk true rfl (wn [1, 4, 6, 42] [0, 2, 5])
          · obtain ⟨y_19, hy_19, hy_17⟩ := bS hy_17
            try simp only [↓DN, UP, r1, r2, r3, r4, r5, r6, r7, reduceCtorEq, Try.f5, f1, hb_18]
            refine cG [] (c_laws_eqStringS hy_19) (hK := fun rd b => ?_)
            try simp only [↓DN, UP, r1, r2, r3, r4, r5, r6, r7, reduceCtorEq, Try.f5, f1, hb_18]
            obtain rfl := Option.some.inj hy_17
            exact cutT_mk (!y_19) rfl (wn [1, 4, 6, 42] [0, 2, 5])
        · rintro v_15 hp
          replace hp := hp.symm; subst hp
          try dsimp only at h
          try simp only [↓DN, UP, r1, r2, r3, r4, r5, r6, r7, reduceCtorEq, Try.f5]
          refine stIf h (fun hb_20 h => ?_) (fun hb_20 h => ?_)
          · try simp only [↓DN, UP, r1, r2, r3, r4, r5, r6, r7, reduceCtorEq, Try.f5]
            obtain rfl := Option.some.inj h
            refine endT_of ?_ ⟨rfl, rfl⟩
            exact (wn [0] [])
          · obtain ⟨y_21, hy_21, h⟩ := bS h
            obtain ⟨u_22, hu_22, h⟩ := bS h
            try simp only [↓DN, UP, r1, r2, r3, r4, r5, r6, r7, reduceCtorEq, Try.f5]
            refine cG [2] (c_laws_markStringS hy_21) (hk := (by simp only [WL, r1, r2, r3, r4, r5, r6, r7, reduceCtorEq, lenC_eq hu_22])) (hK := fun rd b => ?_)
            obtain ⟨y_23, hy_23, h⟩ := bS h
            have f2 := (show CV.arr 2 0 y_7.length = .arr 2 0 y_21.2.length from by rw [lenC_eq hu_22])
            try simp only [↓DN, UP, r1, r2, r3, r4, r5, r6, r7, reduceCtorEq, Try.f5, f2]
            refine cG [] (c_laws_heldStringS hy_23) (hK := fun rd b => ?_)
            try simp only [↓DN, UP, r1, r2, r3, r4, r5, r6, r7, reduceCtorEq, Try.f5, f2]
            refine seqN TryT_eq rfl ?_
            try simp only [↓DN, UP, r1, r2, r3, r4, r5, r6, r7, reduceCtorEq, Try.f5, f2]
            refine stIf h (fun hb_24 h => ?_) (fun hb_24 h => ?_)
            · try simp only [↓DN, UP, r1, r2, r3, r4, r5, r6, r7, reduceCtorEq, Try.f5, f2]
              obtain rfl := Option.some.inj h
              refine endT_of ?_ ⟨rfl, rfl⟩
              exact (wn [0] [])
            · try simp only [↓DN, UP, r1, r2, r3, r4, r5, r6, r7, reduceCtorEq, Try.f5, f2]
              refine seqN TryT_eq rfl ?_
              try simp only [↓DN, UP, r1, r2, r3, r4, r5, r6, r7, reduceCtorEq, Try.f5, f2]
              refine stIf h (fun hb_25 h => ?_) (fun hb_25 h => ?_)
              · try simp only [↓DN, UP, r1, r2, r3, r4, r5, r6, r7, reduceCtorEq, Try.f5, f2]
                obtain rfl := Option.some.inj h
                refine endT_of ?_ ⟨rfl, rfl⟩
                exact (wn [0] [])
              · obtain ⟨y_26, hy_26, h⟩ := bS h
                try simp only [↓DN, UP, r1, r2, r3, r4, r5, r6, r7, reduceCtorEq, Try.f5, f2]
                refine cG [] (c_laws_toStore hy_26) (hK := fun rd b => ?_)
                obtain ⟨y_27, hy_27, h⟩ := bS h
                try simp only [↓DN, UP, r1, r2, r3, r4, r5, r6, r7, reduceCtorEq, Try.f5, f2]
                refine cG [] (c_impl_Names hy_27) (hK := fun rd b => ?_)
                try simp only [↓DN, UP, r1, r2, r3, r4, r5, r6, r7, reduceCtorEq, Try.f5, f2]
                refine seqN TryT_eq rfl ?_
                obtain ⟨y_28, hy_28, h⟩ := bS h
                try simp only [↓DN, UP, r1, r2, r3, r4, r5, r6, r7, reduceCtorEq, Try.f5, f2]
                refine cG [] (c_laws_eqStringS hy_28) (hK := fun rd b => ?_)
                try simp only [↓DN, UP, r1, r2, r3, r4, r5, r6, r7, reduceCtorEq, Try.f5, f2]
                refine stIf h (fun hb_29 h => ?_) (fun hb_29 h => ?_)
                · try simp only [↓DN, UP, r1, r2, r3, r4, r5, r6, r7, reduceCtorEq, Try.f5, f2]
                  obtain rfl := Option.some.inj h
                  refine endT_of ?_ ⟨rfl, rfl⟩
                  exact (wn [0] [])
                · obtain ⟨y_30, hy_30, h⟩ := bS h
                  try simp only [↓DN, UP, r1, r2, r3, r4, r5, r6, r7, reduceCtorEq, Try.f5, f2]
                  refine cG [] (c_laws_heldStringS hy_30) (hK := fun rd b => ?_)
                  try simp only [↓DN, UP, r1, r2, r3, r4, r5, r6, r7, reduceCtorEq, Try.f5, f2]
                  refine seqN TryT_eq rfl ?_
                  try simp only [↓DN, UP, r1, r2, r3, r4, r5, r6, r7, reduceCtorEq, Try.f5, f2]
                  refine stIf h (fun hb_31 h => ?_) (fun hb_31 h => ?_)
                  · try simp only [↓DN, UP, r1, r2, r3, r4, r5, r6, r7, reduceCtorEq, Try.f5, f2]
                    obtain rfl := Option.some.inj h
                    refine endT_of ?_ ⟨rfl, rfl⟩
                    exact (wn [0] [])
                  · try simp only [↓DN, UP, r1, r2, r3, r4, r5, r6, r7, reduceCtorEq, Try.f5, f2]
                    refine seqN TryT_eq rfl ?_
                    try simp only [↓DN, UP, r1, r2, r3, r4, r5, r6, r7, reduceCtorEq, Try.f5, f2]
                    refine stIf h (fun hb_32 h => ?_) (fun hb_32 h => ?_)
                    · try simp only [↓DN, UP, r1, r2, r3, r4, r5, r6, r7, reduceCtorEq, Try.f5, f2]
                      obtain rfl := Option.some.inj h
                      refine endT_of ?_ ⟨rfl, rfl⟩
                      exact (wn [0] [])
                    · try simp only [↓DN, UP, r1, r2, r3, r4, r5, r6, r7, reduceCtorEq, Try.f5, f2]
                      obtain rfl := Option.some.inj h
                      refine endT_of ?_ ⟨rfl, rfl⟩
                      exact (wn [0] [])
end Go.Proofs.Ythhoellakpnjpaa
