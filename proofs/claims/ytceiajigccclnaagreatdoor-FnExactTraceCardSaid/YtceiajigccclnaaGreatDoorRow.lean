/-
  Trace: the program's answer is the reference's, for all arguments
-/
import Derived.Test.YtceiajigccclnaaGreatDoorML
import Derived.Test.YtceiajigccclnaaGreatDoorCards
import Derived.Test.YtceiajigccclnaaGreatDoorTie
import Derived.ProofKit
import Derived.OpenShut
import Derived.ChangeOld
import Derived.SizedLaws
import Derived.Deep.DeepHandedRow
import Derived.Deep.DeepWitnessRef
import Derived.Deep.DeepLaidRun
import Derived.Stop.LaidErr
import Derived.Lib.LaidTab
set_option linter.all false
namespace Go.Proofs.YtceiajigccclnaaGreatDoor
open Go.ChangeShapes Go.WideShapes Go.ChangeAt Go.RowKit
open Go.Fm (eI eS eB eL typed_int typed_bool typed_str typed_sl)
theorem Tryz.own : ownKnob Tryz.prog.godebug = none := by kernel_rfl
theorem Tryz.laidOut : laidOutB Tryz.prog = true := by kernel_rfl
theorem Tryz.shape29 : Go.Fm.shapeT Tryz.prog 3 29 = some [.sl [.int .i64, .int .i64]] := by kernel_rfl
theorem Tryz.shape3 : Go.Fm.shapeT Tryz.prog 1 3 = some [.int .i64] := by kernel_rfl
theorem Tryz.shape36 : Go.Fm.shapeT Tryz.prog 4 36 = some [.sl [.int .i32], .sl [.int .i64, .int .i32], .int .i32, .sl [.int .i32], .sl [.int .u32], .sl [.int .i64], .sl [.int .u8], .sl [.int .u8], .int .i64, .int .i64] := by kernel_rfl
theorem gTab_gtPow10 : Tryz.prog.globalNamed "internal/strconv.uint64pow10" = some 0 := by kernel_rfl
set_option maxRecDepth 100000 in
theorem table_gtPow10 {W : World} (h : laidMetH Tryz.prog Rows.fnExactTraceRow.laid W) : Lib.TabIs Tryz.prog W "internal/strconv.uint64pow10" .u64 gtPow10 :=
  Lib.tabIs_of_head (rest := [("unicode.White_Space", Rows.laid_unicode_White_Space), ("strings.asciiSpace", Rows.laid_strings_asciiSpace)]) gTab_gtPow10 (show (Tryz.prog.globals[0]?).map (·.type) = some 202 by kernel_rfl) Tryz.underlying202 Tryz.underlying109 (show Tryz.prog.cellsOf 109 = 1 by kernel_rfl) (show Tryz.prog.cellsOf 202 = 20 by kernel_rfl) (laidMet.tail (laidMet.tail (show laidMet Tryz.prog [("math/bits.deBruijn32tab", Rows.laid_math_bits_deBruijn32tab), ("math/bits.deBruijn64tab", Rows.laid_math_bits_deBruijn64tab), ("internal/strconv.uint64pow10", Lib.tabData .u64 gtPow10), ("unicode.White_Space", Rows.laid_unicode_White_Space), ("strings.asciiSpace", Rows.laid_strings_asciiSpace)] W from h)))
theorem gTab_gtAscii : Tryz.prog.globalNamed "strings.asciiSpace" = some 2 := by kernel_rfl
set_option maxRecDepth 100000 in
theorem table_gtAscii {W : World} (h : laidMetH Tryz.prog Rows.fnExactTraceRow.laid W) : Lib.TabIs Tryz.prog W "strings.asciiSpace" .u8 gtAscii :=
  Lib.tabIs_of_head (rest := []) gTab_gtAscii (show (Tryz.prog.globals[2]?).map (·.type) = some 211 by kernel_rfl) Tryz.underlying211 Tryz.underlying5 (show Tryz.prog.cellsOf 5 = 1 by kernel_rfl) (show Tryz.prog.cellsOf 211 = 256 by kernel_rfl) (laidMet.tail (laidMet.tail (laidMet.tail (laidMet.tail (show laidMet Tryz.prog [("math/bits.deBruijn32tab", Rows.laid_math_bits_deBruijn32tab), ("math/bits.deBruijn64tab", Rows.laid_math_bits_deBruijn64tab), ("internal/strconv.uint64pow10", Rows.laid_internal_strconv_uint64pow10), ("unicode.White_Space", Rows.laid_unicode_White_Space), ("strings.asciiSpace", Lib.tabData .u8 gtAscii)] W from h)))))
theorem flat_map {k : IntKind} : ∀ l : List Int, l.flatMap (eI k) = l.map fun n => Go.Fm.CV.int k n
  | [] => rfl
  | a :: r => by rw [List.flatMap_cons, List.map_cons, flat_map r]; rfl
theorem tab_at {W : World} {k : IntKind} {zs : List Int} {name : String} {g : Nat} (h : Lib.TabIs Tryz.prog W name k zs) (hg : Tryz.prog.globalNamed name = some g) : Go.Fm.TabAt W (fun k => k < W.heap.size) g (zs.flatMap (eI k)) := by
  rw [flat_map]
  have hblk : ∃ x y, W.heap[g]? = some (.cells (zs.map fun z => Value.int k z).toArray x y) := by
    have h0 : W.var? Tryz.prog name = some (zs.map fun z => Value.int k z).toArray := h
    unfold World.var? at h0
    rw [hg, Option.bind_some] at h0
    split at h0
    · rename_i c x y he
      exact ⟨x, y, by rw [he]; cases h0; rfl⟩
    · cases h0
  obtain ⟨x, y, hb⟩ := hblk
  have hlt := (Array.getElem?_eq_some_iff.1 hb).1
  refine ⟨.ip g 0 _ (fun j => .int k (zs.getD j 0)) hlt (fun j hj => ?_) (fun j c hc => ?_), hlt, _, x, y, hb, by simp⟩
  · rw [Nat.zero_add]
    exact h.cell hg j (by rw [List.length_map] at hj; exact hj)
  · rw [List.getElem?_map] at hc
    obtain ⟨n, hn, rfl⟩ := Option.map_eq_some_iff.1 hc
    show Go.Fm.RI _ _ (.int k (zs.getD j 0)) _
    rw [List.getD_eq_getElem?_getD, hn]
    exact .int _ _
theorem globs {W : World} (h : laidMetH Tryz.prog Rows.fnExactTraceRow.laid W) : ∀ g cs, Go.Fm.Globs.tab g = some cs → Go.Fm.TabAt W (fun k => k < W.heap.size) g cs := fun g cs hg => by
  match g, hg with
  | 0, hg =>
    obtain rfl := Option.some.inj hg
    exact tab_at (table_gtPow10 h) gTab_gtPow10
  | 2, hg =>
    obtain rfl := Option.some.inj hg
    exact tab_at (table_gtAscii h) gTab_gtAscii
noncomputable def laidWorld (os : Os) : World :=
  let N := (World.settled Tryz.prog os).heap.size
  let w0 := World.holding Tryz.prog os ⟨#[.cells #[.int .u16 9, .int .u16 13, .int .u16 1, .int .u16 32, .int .u16 133, .int .u16 101, .int .u16 160, .int .u16 5760, .int .u16 5600, .int .u16 8192, .int .u16 8202, .int .u16 1, .int .u16 8232, .int .u16 8233, .int .u16 1, .int .u16 8239, .int .u16 8287, .int .u16 48, .int .u16 12288, .int .u16 12288, .int .u16 1] 239, .cells #[.slice (some ⟨N, 0, none⟩) 7 7, .slice none 0 0, .int .i64 2] 236], #[], []⟩
  let put (h : Array Obj) (g : Nat) (cs : Array Value) : Array Obj := h.modify g fun
    | .cells _ t frozen => .cells cs t frozen
    | o => o
  { w0 with heap := (put (put (put (put (put w0.heap 4 #[.int .u8 0, .int .u8 1, .int .u8 28, .int .u8 2, .int .u8 29, .int .u8 14, .int .u8 24, .int .u8 3, .int .u8 30, .int .u8 22, .int .u8 20, .int .u8 15, .int .u8 25, .int .u8 17, .int .u8 4, .int .u8 8, .int .u8 31, .int .u8 27, .int .u8 13, .int .u8 23, .int .u8 21, .int .u8 19, .int .u8 16, .int .u8 7, .int .u8 26, .int .u8 12, .int .u8 18, .int .u8 6, .int .u8 11, .int .u8 5, .int .u8 10, .int .u8 9]) 5 #[.int .u8 0, .int .u8 1, .int .u8 56, .int .u8 2, .int .u8 57, .int .u8 49, .int .u8 28, .int .u8 3, .int .u8 61, .int .u8 58, .int .u8 42, .int .u8 50, .int .u8 38, .int .u8 29, .int .u8 17, .int .u8 4, .int .u8 62, .int .u8 47, .int .u8 59, .int .u8 36, .int .u8 45, .int .u8 43, .int .u8 51, .int .u8 22, .int .u8 53, .int .u8 39, .int .u8 33, .int .u8 30, .int .u8 24, .int .u8 18, .int .u8 12, .int .u8 5, .int .u8 63, .int .u8 55, .int .u8 48, .int .u8 27, .int .u8 60, .int .u8 41, .int .u8 37, .int .u8 16, .int .u8 46, .int .u8 35, .int .u8 44, .int .u8 21, .int .u8 52, .int .u8 32, .int .u8 23, .int .u8 11, .int .u8 54, .int .u8 26, .int .u8 40, .int .u8 15, .int .u8 34, .int .u8 20, .int .u8 31, .int .u8 10, .int .u8 25, .int .u8 14, .int .u8 19, .int .u8 9, .int .u8 13, .int .u8 8, .int .u8 7, .int .u8 6]) 0 (gtPow10.map fun z => Value.int .u64 z).toArray) 3 #[.pointer (some ⟨N + 1, 0, none⟩)]) 2 (gtAscii.map fun z => Value.int .u8 z).toArray) }
theorem laid_met (os : Os) (args : Array Value) : laidMet Tryz.prog Rows.fnExactTraceRow.laid ((laidWorld os).forCall (fun _ _ => 0) ⟨#[], args, []⟩).memory :=
  laidMet_of_run3 10 (by kernel_rfl) (by kernel_rfl) (by kernel_rfl)
theorem witness_row (os : Os) {H : Type} (enc : TypeId × Value → H) :
    (OpenSpec.ofChange Rows.fnExactTraceSpec).preRow enc Tryz.prog Tryz.f5 Rows.fnExactTraceRow.domain false Rows.fnExactTraceRow.laid ((laidWorld os).forCall (fun _ _ => 0) ⟨#[], #[.slice none 0 0, .int .i64 0, .agg #[.slice none 0 0, .slice none 0 0, .int .i32 0, .slice none 0 0, .slice none 0 0, .slice none 0 0, .slice none 0 0, .slice none 0 0, .int .i64 0, .int .i64 0], .int .i64 0], []⟩).memory #[.slice none 0 0, .int .i64 0, .agg #[.slice none 0 0, .slice none 0 0, .int .i32 0, .slice none 0 0, .slice none 0 0, .slice none 0 0, .slice none 0 0, .slice none 0 0, .int .i64 0, .int .i64 0], .int .i64 0] := by
  have hw : (DataW.whole enc Tryz.prog ((laidWorld os).forCall (fun _ _ => 0) ⟨#[], #[.slice none 0 0, .int .i64 0, .agg #[.slice none 0 0, .slice none 0 0, .int .i32 0, .slice none 0 0, .slice none 0 0, .slice none 0 0, .slice none 0 0, .slice none 0 0, .int .i64 0, .int .i64 0], .int .i64 0], []⟩).memory Tryz.f5.params.toList Rows.fnExactTraceSpec.vars false (#[.slice none 0 0, .int .i64 0, .agg #[.slice none 0 0, .slice none 0 0, .int .i32 0, .slice none 0 0, .slice none 0 0, .slice none 0 0, .slice none 0 0, .slice none 0 0, .int .i64 0, .int .i64 0], .int .i64 0] : Array Value).toList 8).isSome = true := by kernel_rfl
  obtain ⟨⟨x1, x2, x3⟩, hx⟩ := Option.isSome_iff_exists.1 hw
  exact OpenSpec.preRow_of_cond 8 hx rfl (fun k hk => by cases hk) (by kernel_rfl) (laid_met os _)
set_option maxRecDepth 100000 in
theorem lifted (os : Os) (started : os.Started) (H : Type) (enc : TypeId × Value → H) (F : Stop.Interp) :
    ReturnsInHanded {} Tryz.checked os 5 .any ((OpenSpec.ofChange Rows.fnExactTraceSpec).preRow enc Tryz.prog Tryz.f5 Rows.fnExactTraceRow.domain false Rows.fnExactTraceRow.laid) (((OpenSpec.ofChange Rows.fnExactTraceSpec).at F).post enc Tryz.prog Tryz.f5 false true false false) := by
  refine returnsInHanded_of_row (C := Tryz.checked) (s := OpenSpec.ofChange Rows.fnExactTraceSpec) Tryz.own started (by kernel_rfl) Tryz.func5 ?_ ?_
  · obtain ⟨w, tape, i, h1, h2, h3, h4, h5, h6, _⟩ := OpenSpec.witness_stopped_atRef (enc := enc) (C := Tryz.checked) (fn := Tryz.f5) (s := OpenSpec.ofChange Rows.fnExactTraceSpec) (f := 5) false (laidWorld os) #[.slice none 0 0, .int .i64 0, .agg #[.slice none 0 0, .slice none 0 0, .int .i32 0, .slice none 0 0, .slice none 0 0, .slice none 0 0, .slice none 0 0, .slice none 0 0, .int .i64 0, .int .i64 0], .int .i64 0] rfl (by kernel_rfl) (by kernel_rfl) (by kernel_rfl) (witness_row os enc) F
    exact ⟨w, tape, i, h1, h2, h3, h4, h5, h6⟩
  intro W base args ds gs before hval0 hW hcnd _ hsz0 hL _ _
  have hval : ∀ (j : Nat) t v, Tryz.f5.params[j]? = some t → args[j]? = some v → Value.okWide Tryz.prog W .any base t v := hval0
  have hW' := hW
  obtain ⟨p, q, hA0, hV, rfl, hfz, hnd⟩ := hW
  have hA : DataW.TrodAll enc Tryz.prog W 0 (fun _ => true) true Tryz.f5.params.toList args.toList ds p := hA0
  rw [Tryz.params5] at hA hval
  obtain ⟨v0, vs0, d0, ds0, p0, q0, hargs0, rfl, rfl, h0, r0⟩ := trodAll_cons hA
  obtain ⟨v1, vs1, d1, ds1, p1, q1, hargs1, rfl, rfl, h1, r1⟩ := trodAll_cons r0
  obtain ⟨v2, vs2, d2, ds2, p2, q2, hargs2, rfl, rfl, h2, r2⟩ := trodAll_cons r1
  obtain ⟨v3, vs3, d3, ds3, p3, q3, hargs3, rfl, rfl, h3, r3⟩ := trodAll_cons r2
  obtain ⟨rfl, rfl, rfl⟩ := trodAll_nil r3
  obtain rfl : args = #[v0, v1, v2, v3] := by cases args; simp_all
  obtain ⟨rfl, rfl⟩ := trodVars_none hV
  have k0 := h0
  have lt0 : ∀ x ∈ p0, x.block < W.heap.size := by obtain ⟨m, hm⟩ := k0; exact DataW.trod_lt m _ _ _ hm
  obtain ⟨x0, g0, a0⟩ : ∃ x : List GIns, (fun xs : List GIns => xs.length ≤ maxLen ∧ ∀ x ∈ xs, (fun x : GIns => (fun n : Int => (Lit.int .i64 n).wf = true) x.Op ∧ (fun n : Int => (Lit.int .i64 n).wf = true) x.N) x) x ∧ Go.Fm.RPV W (fun k => k < W.heap.size) (fun _ => none) (Go.Fm.hOf []) v0 (.one (.imm 2 x.length (x.flatMap GIns.cs))) := by
    obtain ⟨m, hm⟩ := k0
    exact Go.Fm.arg_one (typed_sl (typed_GIns) rfl (by decide)) (fun _ => rfl) (Go.Fm.slice_of Tryz.underlying29 (hval 0 29 v0 rfl rfl)) (Go.Fm.trod_opens 3 29 _ m _ _ Tryz.shape29 hm) _ _
  have k1 := h1
  have lt1 : ∀ x ∈ p1, x.block < W.heap.size := by obtain ⟨m, hm⟩ := k1; exact DataW.trod_lt m _ _ _ hm
  obtain ⟨x1, g1, a1⟩ : ∃ x : Int, (fun n : Int => (Lit.int .i64 n).wf = true) x ∧ Go.Fm.RPV W (fun k => k < W.heap.size) (fun _ => none) (Go.Fm.hOf []) v1 (.one (.int .i64 x)) := by
    obtain ⟨m, hm⟩ := k1
    exact Go.Fm.arg_one (typed_int .i64) (fun _ => rfl) (Go.Fm.int_of Tryz.underlying3 (hval 1 3 v1 rfl rfl)) (Go.Fm.trod_opens 1 3 _ m _ _ Tryz.shape3 hm) _ _
  have k2 := h2
  have lt2 : ∀ x ∈ p2, x.block < W.heap.size := by obtain ⟨m, hm⟩ := k2; exact DataW.trod_lt m _ _ _ hm
  obtain ⟨x2, g2, a2⟩ : ∃ x : GSt, (fun x : GSt => (fun xs : List Int => xs.length ≤ maxLen ∧ ∀ x ∈ xs, (fun n : Int => (Lit.int .i32 n).wf = true) x) x.Data ∧ (fun xs : List GSlot => xs.length ≤ maxLen ∧ ∀ x ∈ xs, (fun x : GSlot => (fun n : Int => (Lit.int .i64 n).wf = true) x.Kind ∧ (fun n : Int => (Lit.int .i32 n).wf = true) x.N) x) x.Ret ∧ (fun n : Int => (Lit.int .i32 n).wf = true) x.A ∧ (fun xs : List Int => xs.length ≤ maxLen ∧ ∀ x ∈ xs, (fun n : Int => (Lit.int .i32 n).wf = true) x) x.Mem ∧ (fun xs : List Int => xs.length ≤ maxLen ∧ ∀ x ∈ xs, (fun n : Int => (Lit.int .u32 n).wf = true) x) x.Cells ∧ (fun xs : List Int => xs.length ≤ maxLen ∧ ∀ x ∈ xs, (fun n : Int => (Lit.int .i64 n).wf = true) x) x.Vars ∧ (fun xs : List Int => xs.length ≤ maxLen ∧ ∀ x ∈ xs, (fun n : Int => (Lit.int .u8 n).wf = true) x) x.Out ∧ (fun xs : List Int => xs.length ≤ maxLen ∧ ∀ x ∈ xs, (fun n : Int => (Lit.int .u8 n).wf = true) x) x.In ∧ (fun n : Int => (Lit.int .i64 n).wf = true) x.Fault ∧ (fun n : Int => (Lit.int .i64 n).wf = true) x.Fuel) x ∧ Go.Fm.RPV W (fun k => k < W.heap.size) (fun _ => none) (Go.Fm.hOf []) v2 (.agg [.imm 1 x.Data.length (x.Data.flatMap (eI .i32)), .imm 2 x.Ret.length (x.Ret.flatMap GSlot.cs), .int .i32 x.A, .imm 1 x.Mem.length (x.Mem.flatMap (eI .i32)), .imm 1 x.Cells.length (x.Cells.flatMap (eI .u32)), .imm 1 x.Vars.length (x.Vars.flatMap (eI .i64)), .imm 1 x.Out.length (x.Out.flatMap (eI .u8)), .imm 1 x.In.length (x.In.flatMap (eI .u8)), .int .i64 x.Fault, .int .i64 x.Fuel]) := by
    obtain ⟨m, hm⟩ := k2
    exact Go.Fm.arg_agg Tryz.underlying36 (hval 2 36 v2 rfl rfl) (typed_GSt) (Go.Fm.trod_opens 4 36 _ m _ _ Tryz.shape36 hm) _ _
  have k3 := h3
  have lt3 : ∀ x ∈ p3, x.block < W.heap.size := by obtain ⟨m, hm⟩ := k3; exact DataW.trod_lt m _ _ _ hm
  obtain ⟨x3, g3, a3⟩ : ∃ x : Int, (fun n : Int => (Lit.int .i64 n).wf = true) x ∧ Go.Fm.RPV W (fun k => k < W.heap.size) (fun _ => none) (Go.Fm.hOf []) v3 (.one (.int .i64 x)) := by
    obtain ⟨m, hm⟩ := k3
    exact Go.Fm.arg_one (typed_int .i64) (fun _ => rfl) (Go.Fm.int_of Tryz.underlying3 (hval 3 3 v3 rfl rfl)) (Go.Fm.trod_opens 1 3 _ m _ _ Tryz.shape3 hm) _ _
  refine (Go.Fm.Ans.calls (vs := [v0, v1, v2, v3]) (ans_FnExactTrace x0 g0 x1 g1 x2 g2 x3 g3) (by kernel_rfl) Tryz.func5 rfl (by kernel_rfl) rfl (fun i p hp => ?_) (fun r h hr => hr) (globs hL)).mono fun e W' ⟨he, bel⟩ => ?_
  · match i, hp with
    | 0, hp =>
      simp at hp
      subst hp
      exact ⟨_, rfl, a0⟩
    | 1, hp =>
      simp at hp
      subst hp
      exact ⟨_, rfl, a1⟩
    | 2, hp =>
      simp at hp
      subst hp
      exact ⟨_, rfl, a2⟩
    | 3, hp =>
      simp at hp
      subst hp
      exact ⟨_, rfl, a3⟩
  subst he
  exact ⟨_, rfl, _, _, _, [], _, [], hW', trodAll_mk1 (shut_bool Tryz.underlying4 _), (trodAll_cons_mk (Below.trod Tryz.laidOut (by kernel_rfl) (of_decide_eq_true (by kernel_rfl)) k0 bel lt0) (trodAll_cons_mk (Below.trod Tryz.laidOut (by kernel_rfl) (of_decide_eq_true (by kernel_rfl)) k1 bel lt1) (trodAll_cons_mk (Below.trod Tryz.laidOut (by kernel_rfl) (of_decide_eq_true (by kernel_rfl)) k2 bel lt2) (trodAll_cons_mk (Below.trod Tryz.laidOut (by kernel_rfl) (of_decide_eq_true (by kernel_rfl)) k3 bel lt3) trodAll_mk0)))), rfl, bel.frame _, fun h => by cases h⟩
theorem said : Rows.FnExactTraceSaid :=
  OpenClaim.holds_of_cond 5 Tryz.f5 rfl rfl rfl rfl rfl rfl rfl ⟨rfl, rfl, rfl, rfl, rfl⟩ rfl rfl rfl rfl rfl (by kernel_rfl) Tryz.func5 (by kernel_rfl)
    (of_decide_eq_true (by kernel_rfl)) (by unfold Func.isWrapper; first | (rw [if_pos (by decide +kernel)]; kernel_rfl) | (rw [if_neg (by decide +kernel)]; exact ⟨rfl, rfl⟩))
    (fun os started H enc _ F => by rw [OpenClaim.pre_eq_preRow]; exact lifted os started H enc F)
theorem plain (f : FuncId) (fn : Func) (hf : Tryz.pinned.checked.prog.funcNamed "loop.example/g00711/laws.FnExactTrace" = some f) (hfn : Tryz.pinned.checked.prog.funcs[f]? = some fn) :
    true = Tryz.pinned.checked.prog.looks [] ∧ ∀ (j : Nat) t, fn.params[j]? = some t → Tryz.pinned.checked.prog.wantsStandIn t = false := by
  obtain rfl : f = 5 := Option.some.inj ((show Tryz.prog.funcNamed "loop.example/g00711/laws.FnExactTrace" = some 5 by kernel_rfl).symm.trans hf) |>.symm
  obtain rfl : fn = Tryz.f5 := (Option.some.inj (Tryz.func5.symm.trans hfn)).symm
  refine ⟨by kernel_rfl, fun j t ht => ?_⟩
  rw [Tryz.params5] at ht
  have hm := Array.mem_of_getElem? ht
  simp only [List.mem_toArray, List.mem_cons, List.not_mem_nil, or_false] at hm
  rcases hm with rfl | rfl | rfl | rfl
  all_goals exact (show Tryz.prog.wantsStandIn _ = false by kernel_rfl)
theorem fnExactTrace_holds : Rows.FnExactTraceCardSaid :=
  Claim7.holds_tied_plain_at .later [] _ _ _ _ said (fun _ h => by cases h) (by kernel_rfl) (fun _ h => by cases h) fnExactTrace_row_tie rfl ⟨rfl, rfl⟩ (by kernel_rfl) rfl plain (by kernel_rfl)
#print axioms fnExactTrace_holds
end Go.Proofs.YtceiajigccclnaaGreatDoor
