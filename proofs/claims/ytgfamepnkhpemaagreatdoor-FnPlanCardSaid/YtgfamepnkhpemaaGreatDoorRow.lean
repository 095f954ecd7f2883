/-
  Whatever two blocks are drawn: the keys of a plan make the one of the other, with as few puts and cuts as there can be.
-/
import Derived.Test.YtgfamepnkhpemaaGreatDoorMM
import Derived.Test.YtgfamepnkhpemaaGreatDoorCards
import Derived.Test.YtgfamepnkhpemaaGreatDoorTie
import Derived.ProofKit
import Derived.OpenShut
import Derived.ChangeOld
import Derived.SizedLaws
import Derived.Deep.DeepHandedRow
import Derived.Deep.DeepWitnessRef
import Derived.Deep.DeepLaidRun
import Derived.Stop.LaidErr
import Derived.Lib.LaidTab
set_option linter.all false
namespace Go.Proofs.YtgfamepnkhpemaaGreatDoor
open Go.ChangeShapes Go.WideShapes Go.ChangeAt Go.RowKit
open Go.Fm (eI eS eB eL typed_int typed_bool typed_str typed_sl)
theorem Tryz.own : ownKnob Tryz.prog.godebug = none := by kernel_rfl
theorem Tryz.laidOut : laidOutB Tryz.prog = true := by kernel_rfl
theorem Tryz.shape29 : Go.Fm.shapeT Tryz.prog 2 29 = some [.sl [.int .u8]] := by kernel_rfl
theorem gTab_gtBruijn : Tryz.prog.globalNamed "math/bits.deBruijn64tab" = some 5 := by kernel_rfl
set_option maxRecDepth 100000 in
theorem table_gtBruijn {W : World} (h : laidMetH Tryz.prog Rows.fnPlanRow.laid W) : Lib.TabIs Tryz.prog W "math/bits.deBruijn64tab" .u8 gtBruijn :=
  Lib.tabIs_of_head (rest := [("internal/strconv.uint64pow10", Rows.laid_internal_strconv_uint64pow10)]) gTab_gtBruijn (show (Tryz.prog.globals[5]?).map (·.type) = some 198 by kernel_rfl) Tryz.underlying198 Tryz.underlying5 (show Tryz.prog.cellsOf 5 = 1 by kernel_rfl) (show Tryz.prog.cellsOf 198 = 64 by kernel_rfl) (laidMet.tail (show laidMet Tryz.prog [("math/bits.deBruijn32tab", Rows.laid_math_bits_deBruijn32tab), ("math/bits.deBruijn64tab", Lib.tabData .u8 gtBruijn), ("internal/strconv.uint64pow10", Rows.laid_internal_strconv_uint64pow10)] W from h))
theorem gTab_gtPow10 : Tryz.prog.globalNamed "internal/strconv.uint64pow10" = some 0 := by kernel_rfl
set_option maxRecDepth 100000 in
theorem table_gtPow10 {W : World} (h : laidMetH Tryz.prog Rows.fnPlanRow.laid W) : Lib.TabIs Tryz.prog W "internal/strconv.uint64pow10" .u64 gtPow10 :=
  Lib.tabIs_of_head (rest := []) gTab_gtPow10 (show (Tryz.prog.globals[0]?).map (·.type) = some 181 by kernel_rfl) Tryz.underlying181 Tryz.underlying100 (show Tryz.prog.cellsOf 100 = 1 by kernel_rfl) (show Tryz.prog.cellsOf 181 = 20 by kernel_rfl) (laidMet.tail (laidMet.tail (show laidMet Tryz.prog [("math/bits.deBruijn32tab", Rows.laid_math_bits_deBruijn32tab), ("math/bits.deBruijn64tab", Rows.laid_math_bits_deBruijn64tab), ("internal/strconv.uint64pow10", Lib.tabData .u64 gtPow10)] W from h)))
theorem flat_map {k : IntKind} : ∀ l : List Int, l.flatMap (eI k) = l.map fun n => Go.Fm.CV.int k n
  | [] => rfl
  | a :: r => by rw [List.flatMap_cons, List.map_cons, flat_map r]; rfl
theorem tab_at {W : World} {k : IntKind} {zs : List Int} {name : String} {g : Nat} (h : Lib.TabIs Tryz.prog W name k zs) (hg : Tryz.prog.globalNamed name = some g) : Go.Fm.TabAt W (fun k => k < W.heap.size) g (zs.flatMap (eI k)) := by
  rw [flat_map]
  have hblk : ∃ x y, W.heap[g]? = some (.cells (zs.map fun z => Value.int k z).toArray x y) := by
    have h0 : W.var? Tryz.prog name = some (zs.map fun z => Value.int k z).toArray := h
    unfold World.var? at h0
    rw [hg, Option.bind_some] at h0
    split at h0
    · rename_i c x y he
      exact ⟨x, y, by rw [he]; cases h0; rfl⟩
    · cases h0
  obtain ⟨x, y, hb⟩ := hblk
  have hlt := (Array.getElem?_eq_some_iff.1 hb).1
  refine ⟨.ip g 0 _ (fun j => .int k (zs.getD j 0)) hlt (fun j hj => ?_) (fun j c hc => ?_), hlt, _, x, y, hb, by simp⟩
  · rw [Nat.zero_add]
    exact h.cell hg j (by rw [List.length_map] at hj; exact hj)
  · rw [List.getElem?_map] at hc
    obtain ⟨n, hn, rfl⟩ := Option.map_eq_some_iff.1 hc
    show Go.Fm.RI _ _ (.int k (zs.getD j 0)) _
    rw [List.getD_eq_getElem?_getD, hn]
    exact .int _ _
theorem globs {W : World} (h : laidMetH Tryz.prog Rows.fnPlanRow.laid W) : ∀ g cs, Go.Fm.Globs.tab g = some cs → Go.Fm.TabAt W (fun k => k < W.heap.size) g cs := fun g cs hg => by
  match g, hg with
  | 5, hg =>
    obtain rfl := Option.some.inj hg
    exact tab_at (table_gtBruijn h) gTab_gtBruijn
  | 0, hg =>
    obtain rfl := Option.some.inj hg
    exact tab_at (table_gtPow10 h) gTab_gtPow10
noncomputable def laidWorld (os : Os) : World :=
  let N := (World.settled Tryz.prog os).heap.size
  let w0 := World.holding Tryz.prog os ⟨#[], #[], []⟩
  let put (h : Array Obj) (g : Nat) (cs : Array Value) : Array Obj := h.modify g fun
    | .cells _ t frozen => .cells cs t frozen
    | o => o
  { w0 with heap := (put (put (put w0.heap 4 #[.int .u8 0, .int .u8 1, .int .u8 28, .int .u8 2, .int .u8 29, .int .u8 14, .int .u8 24, .int .u8 3, .int .u8 30, .int .u8 22, .int .u8 20, .int .u8 15, .int .u8 25, .int .u8 17, .int .u8 4, .int .u8 8, .int .u8 31, .int .u8 27, .int .u8 13, .int .u8 23, .int .u8 21, .int .u8 19, .int .u8 16, .int .u8 7, .int .u8 26, .int .u8 12, .int .u8 18, .int .u8 6, .int .u8 11, .int .u8 5, .int .u8 10, .int .u8 9]) 5 (gtBruijn.map fun z => Value.int .u8 z).toArray) 0 (gtPow10.map fun z => Value.int .u64 z).toArray) }
theorem laid_met (os : Os) (args : Array Value) : laidMet Tryz.prog Rows.fnPlanRow.laid ((laidWorld os).forCall (fun _ _ => 0) ⟨#[], args, []⟩).memory :=
  laidMet_of_run3 10 (by kernel_rfl) (by kernel_rfl) (by kernel_rfl)
theorem witness_row (os : Os) {H : Type} (enc : TypeId × Value → H) :
    (OpenSpec.ofChange Rows.fnPlanSpec).preRow enc Tryz.prog Tryz.f5 Rows.fnPlanRow.domain false Rows.fnPlanRow.laid ((laidWorld os).forCall (fun _ _ => 0) ⟨#[], #[.slice none 0 0], []⟩).memory #[.slice none 0 0] := by
  have hw : (DataW.whole enc Tryz.prog ((laidWorld os).forCall (fun _ _ => 0) ⟨#[], #[.slice none 0 0], []⟩).memory Tryz.f5.params.toList Rows.fnPlanSpec.vars false (#[.slice none 0 0] : Array Value).toList 8).isSome = true := by kernel_rfl
  obtain ⟨⟨x1, x2, x3⟩, hx⟩ := Option.isSome_iff_exists.1 hw
  exact OpenSpec.preRow_of_cond 8 hx rfl (fun k hk => by cases hk) (by kernel_rfl) (laid_met os _)
set_option maxRecDepth 100000 in
theorem lifted (os : Os) (started : os.Started) (H : Type) (enc : TypeId × Value → H) (F : Stop.Interp) :
    ReturnsInHanded {} Tryz.checked os 5 .any ((OpenSpec.ofChange Rows.fnPlanSpec).preRow enc Tryz.prog Tryz.f5 Rows.fnPlanRow.domain false Rows.fnPlanRow.laid) (((OpenSpec.ofChange Rows.fnPlanSpec).at F).post enc Tryz.prog Tryz.f5 false true false false) := by
  refine returnsInHanded_of_row (C := Tryz.checked) (s := OpenSpec.ofChange Rows.fnPlanSpec) Tryz.own started (by kernel_rfl) Tryz.func5 ?_ ?_
  · obtain ⟨w, tape, i, h1, h2, h3, h4, h5, h6, _⟩ := OpenSpec.witness_stopped_atRef (enc := enc) (C := Tryz.checked) (fn := Tryz.f5) (s := OpenSpec.ofChange Rows.fnPlanSpec) (f := 5) false (laidWorld os) #[.slice none 0 0] rfl (by kernel_rfl) (by kernel_rfl) (by kernel_rfl) (witness_row os enc) F
    exact ⟨w, tape, i, h1, h2, h3, h4, h5, h6⟩
  intro W base args ds gs before hval0 hW hcnd _ hsz0 hL _ _
  have hval : ∀ (j : Nat) t v, Tryz.f5.params[j]? = some t → args[j]? = some v → Value.okWide Tryz.prog W .any base t v := hval0
  have hW' := hW
  obtain ⟨p, q, hA0, hV, rfl, hfz, hnd⟩ := hW
  have hA : DataW.TrodAll enc Tryz.prog W 0 (fun _ => true) true Tryz.f5.params.toList args.toList ds p := hA0
  rw [Tryz.params5] at hA hval
  obtain ⟨v0, vs0, d0, ds0, p0, q0, hargs0, rfl, rfl, h0, r0⟩ := trodAll_cons hA
  obtain ⟨rfl, rfl, rfl⟩ := trodAll_nil r0
  obtain rfl : args = #[v0] := by cases args; simp_all
  obtain ⟨rfl, rfl⟩ := trodVars_none hV
  have k0 := h0
  have lt0 : ∀ x ∈ p0, x.block < W.heap.size := by obtain ⟨m, hm⟩ := k0; exact DataW.trod_lt m _ _ _ hm
  obtain ⟨x0, g0, a0⟩ : ∃ x : List Int, (fun xs : List Int => xs.length ≤ maxLen ∧ ∀ x ∈ xs, (fun n : Int => (Lit.int .u8 n).wf = true) x) x ∧ Go.Fm.RPV W (fun k => k < W.heap.size) (fun _ => none) (Go.Fm.hOf []) v0 (.one (.imm 1 x.length (x.flatMap (eI .u8)))) := by
    obtain ⟨m, hm⟩ := k0
    exact Go.Fm.arg_one (typed_sl (typed_int .u8) rfl (by decide)) (fun _ => rfl) (Go.Fm.slice_of Tryz.underlying29 (hval 0 29 v0 rfl rfl)) (Go.Fm.trod_opens 2 29 _ m _ _ Tryz.shape29 hm) _ _
  refine (Go.Fm.Ans.calls (vs := [v0]) (ans_FnPlan x0 g0) (by kernel_rfl) Tryz.func5 rfl (by kernel_rfl) rfl (fun i p hp => ?_) (fun r h hr => hr) (globs hL)).mono fun e W' ⟨he, bel⟩ => ?_
  · match i, hp with
    | 0, hp =>
      simp at hp
      subst hp
      exact ⟨_, rfl, a0⟩
  subst he
  exact ⟨_, rfl, _, _, _, [], _, [], hW', trodAll_mk1 (shut_bool Tryz.underlying4 _), (trodAll_cons_mk (Below.trod Tryz.laidOut (by kernel_rfl) (of_decide_eq_true (by kernel_rfl)) k0 bel lt0) trodAll_mk0), rfl, bel.frame _, fun h => by cases h⟩
theorem said : Rows.FnPlanSaid :=
  OpenClaim.holds_of_cond 5 Tryz.f5 rfl rfl rfl rfl rfl rfl rfl ⟨rfl, rfl, rfl, rfl, rfl⟩ rfl rfl rfl rfl rfl (by kernel_rfl) Tryz.func5 (by kernel_rfl)
    (of_decide_eq_true (by kernel_rfl)) (by unfold Func.isWrapper; first | (rw [if_pos (by decide +kernel)]; kernel_rfl) | (rw [if_neg (by decide +kernel)]; exact ⟨rfl, rfl⟩))
    (fun os started H enc _ F => by rw [OpenClaim.pre_eq_preRow]; exact lifted os started H enc F)
theorem plain (f : FuncId) (fn : Func) (hf : Tryz.pinned.checked.prog.funcNamed "loop.example/g00711/laws.FnPlan" = some f) (hfn : Tryz.pinned.checked.prog.funcs[f]? = some fn) :
    true = Tryz.pinned.checked.prog.looks [] ∧ ∀ (j : Nat) t, fn.params[j]? = some t → Tryz.pinned.checked.prog.wantsStandIn t = false := by
  obtain rfl : f = 5 := Option.some.inj ((show Tryz.prog.funcNamed "loop.example/g00711/laws.FnPlan" = some 5 by kernel_rfl).symm.trans hf) |>.symm
  obtain rfl : fn = Tryz.f5 := (Option.some.inj (Tryz.func5.symm.trans hfn)).symm
  refine ⟨by kernel_rfl, fun j t ht => ?_⟩
  rw [Tryz.params5] at ht
  have hm := Array.mem_of_getElem? ht
  simp only [List.mem_toArray, List.mem_cons, List.not_mem_nil, or_false] at hm
  obtain rfl := hm
  all_goals exact (show Tryz.prog.wantsStandIn _ = false by kernel_rfl)
theorem fnPlan_holds : Rows.FnPlanCardSaid :=
  Claim7.holds_tied_plain_at .later [] _ _ _ _ said (fun _ h => by cases h) (by kernel_rfl) (fun _ h => by cases h) fnPlan_row_tie rfl ⟨rfl, rfl⟩ (by kernel_rfl) rfl plain (by kernel_rfl)
#print axioms fnPlan_holds
end Go.Proofs.YtgfamepnkhpemaaGreatDoor
