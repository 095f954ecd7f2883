/-
  Simpler definitions.
-/
import Derived.Test.YtnhefmibcnbehaaDoorMM
import Derived.Test.YtnhefmibcnbehaaDoorCards
import Derived.Test.YtnhefmibcnbehaaDoorTie
import Derived.ProofKit
import Derived.OpenShut
import Derived.ChangeOld
import Derived.SizedLaws
import Derived.Deep.DeepHandedRow
import Derived.Deep.DeepWitnessRef
import Derived.Deep.DeepLaidRun
import Derived.Stop.LaidErr
import Derived.Lib.LaidTab
set_option linter.all false
namespace Go.Proofs.YtnhefmibcnbehaaDoor
open Go.ChangeShapes Go.WideShapes Go.ChangeAt Go.RowKit
open Go.Fm (eI eS eB eL typed_int typed_bool typed_str typed_sl)
theorem Tryd.own : ownKnob Tryd.prog.godebug = none := by kernel_rfl
theorem Tryd.laidOut : laidOutB Tryd.prog = true := by kernel_rfl
theorem Tryd.shape22 : Go.Fm.shapeT Tryd.prog 5 22 = some [.sl [.str, .sl [.int .i64, .int .i32]]] := by kernel_rfl
theorem gTab_gtAscii : Tryd.prog.globalNamed "strings.asciiSpace" = some 0 := by kernel_rfl
set_option maxRecDepth 100000 in
theorem table_gtAscii {W : World} (h : laidMetH Tryd.prog Rows.fnExactSimpleOfRow.laid W) : Lib.TabIs Tryd.prog W "strings.asciiSpace" .u8 gtAscii :=
  Lib.tabIs_of_head (rest := []) gTab_gtAscii (show (Tryd.prog.globals[0]?).map (·.type) = some 142 by kernel_rfl) Tryd.underlying142 Tryd.underlying5 (show Tryd.prog.cellsOf 5 = 1 by kernel_rfl) (show Tryd.prog.cellsOf 142 = 256 by kernel_rfl) (laidMet.tail (show laidMet Tryd.prog [("unicode.White_Space", Rows.laid_unicode_White_Space), ("strings.asciiSpace", Lib.tabData .u8 gtAscii)] W from h))
theorem flat_map {k : IntKind} : ∀ l : List Int, l.flatMap (eI k) = l.map fun n => Go.Fm.CV.int k n
  | [] => rfl
  | a :: r => by rw [List.flatMap_cons, List.map_cons, flat_map r]; rfl
theorem tab_at {W : World} {k : IntKind} {zs : List Int} {name : String} {g : Nat} (h : Lib.TabIs Tryd.prog W name k zs) (hg : Tryd.prog.globalNamed name = some g) : Go.Fm.TabAt W (fun k => k < W.heap.size) g (zs.flatMap (eI k)) := by
  rw [flat_map]
  have hblk : ∃ x y, W.heap[g]? = some (.cells (zs.map fun z => Value.int k z).toArray x y) := by
    have h0 : W.var? Tryd.prog name = some (zs.map fun z => Value.int k z).toArray := h
    unfold World.var? at h0
    rw [hg, Option.bind_some] at h0
    split at h0
    · rename_i c x y he
      exact ⟨x, y, by rw [he]; cases h0; rfl⟩
    · cases h0
  obtain ⟨x, y, hb⟩ := hblk
  have hlt := (Array.getElem?_eq_some_iff.1 hb).1
  refine ⟨.ip g 0 _ (fun j => .int k (zs.getD j 0)) hlt (fun j hj => ?_) (fun j c hc => ?_), hlt, _, x, y, hb, by simp⟩
  · rw [Nat.zero_add]
    exact h.cell hg j (by rw [List.length_map] at hj; exact hj)
  · rw [List.getElem?_map] at hc
    obtain ⟨n, hn, rfl⟩ := Option.map_eq_some_iff.1 hc
    show Go.Fm.RI _ _ (.int k (zs.getD j 0)) _
    rw [List.getD_eq_getElem?_getD, hn]
    exact .int _ _
theorem globs {W : World} (h : laidMetH Tryd.prog Rows.fnExactSimpleOfRow.laid W) : ∀ g cs, Go.Fm.Globs.tab g = some cs → Go.Fm.TabAt W (fun k => k < W.heap.size) g cs := fun g cs hg => by
  match g, hg with
  | 0, hg =>
    obtain rfl := Option.some.inj hg
    exact tab_at (table_gtAscii h) gTab_gtAscii
noncomputable def laidWorld (os : Os) : World :=
  let N := (World.settled Tryd.prog os).heap.size
  let w0 := World.holding Tryd.prog os ⟨#[.cells #[.int .u16 9, .int .u16 13, .int .u16 1, .int .u16 32, .int .u16 133, .int .u16 101, .int .u16 160, .int .u16 5760, .int .u16 5600, .int .u16 8192, .int .u16 8202, .int .u16 1, .int .u16 8232, .int .u16 8233, .int .u16 1, .int .u16 8239, .int .u16 8287, .int .u16 48, .int .u16 12288, .int .u16 12288, .int .u16 1] 156, .cells #[.slice (some ⟨N, 0, none⟩) 7 7, .slice none 0 0, .int .i64 2] 153], #[], []⟩
  let put (h : Array Obj) (g : Nat) (cs : Array Value) : Array Obj := h.modify g fun
    | .cells _ t frozen => .cells cs t frozen
    | o => o
  { w0 with heap := (put (put w0.heap 2 #[.pointer (some ⟨N + 1, 0, none⟩)]) 0 (gtAscii.map fun z => Value.int .u8 z).toArray) }
theorem laid_met (os : Os) (args : Array Value) : laidMet Tryd.prog Rows.fnExactSimpleOfRow.laid ((laidWorld os).forCall (fun _ _ => 0) ⟨#[], args, []⟩).memory :=
  laidMet_of_run3 10 (by kernel_rfl) (by kernel_rfl) (by kernel_rfl)
theorem witness_row (os : Os) {H : Type} (enc : TypeId × Value → H) :
    (OpenSpec.ofChange Rows.fnExactSimpleOfSpec).preRow enc Tryd.prog Tryd.f5 Rows.fnExactSimpleOfRow.domain false Rows.fnExactSimpleOfRow.laid ((laidWorld os).forCall (fun _ _ => 0) ⟨#[], #[.slice none 0 0], []⟩).memory #[.slice none 0 0] := by
  have hw : (DataW.whole enc Tryd.prog ((laidWorld os).forCall (fun _ _ => 0) ⟨#[], #[.slice none 0 0], []⟩).memory Tryd.f5.params.toList Rows.fnExactSimpleOfSpec.vars false (#[.slice none 0 0] : Array Value).toList 8).isSome = true := by kernel_rfl
  obtain ⟨⟨x1, x2, x3⟩, hx⟩ := Option.isSome_iff_exists.1 hw
  exact OpenSpec.preRow_of_cond 8 hx rfl (fun k hk => by cases hk) (by kernel_rfl) (laid_met os _)
set_option maxRecDepth 100000 in
theorem lifted (os : Os) (started : os.Started) (H : Type) (enc : TypeId × Value → H) (F : Stop.Interp) :
    ReturnsInHanded {} Tryd.checked os 5 .any ((OpenSpec.ofChange Rows.fnExactSimpleOfSpec).preRow enc Tryd.prog Tryd.f5 Rows.fnExactSimpleOfRow.domain false Rows.fnExactSimpleOfRow.laid) (((OpenSpec.ofChange Rows.fnExactSimpleOfSpec).at F).post enc Tryd.prog Tryd.f5 false true false false) := by
  refine returnsInHanded_of_row (C := Tryd.checked) (s := OpenSpec.ofChange Rows.fnExactSimpleOfSpec) Tryd.own started (by kernel_rfl) Tryd.func5 ?_ ?_
  · obtain ⟨w, tape, i, h1, h2, h3, h4, h5, h6, _⟩ := OpenSpec.witness_stopped_atRef (enc := enc) (C := Tryd.checked) (fn := Tryd.f5) (s := OpenSpec.ofChange Rows.fnExactSimpleOfSpec) (f := 5) false (laidWorld os) #[.slice none 0 0] rfl (by kernel_rfl) (by kernel_rfl) (by kernel_rfl) (witness_row os enc) F
    exact ⟨w, tape, i, h1, h2, h3, h4, h5, h6⟩
  intro W base args ds gs before hval0 hW hcnd _ hsz0 hL _ _
  have hval : ∀ (j : Nat) t v, Tryd.f5.params[j]? = some t → args[j]? = some v → Value.okWide Tryd.prog W .any base t v := hval0
  have hW' := hW
  obtain ⟨p, q, hA0, hV, rfl, hfz, hnd⟩ := hW
  have hA : DataW.TrodAll enc Tryd.prog W 0 (fun _ => true) true Tryd.f5.params.toList args.toList ds p := hA0
  rw [Tryd.params5] at hA hval
  obtain ⟨v0, vs0, d0, ds0, p0, q0, hargs0, rfl, rfl, h0, r0⟩ := trodAll_cons hA
  obtain ⟨rfl, rfl, rfl⟩ := trodAll_nil r0
  obtain rfl : args = #[v0] := by cases args; simp_all
  obtain ⟨rfl, rfl⟩ := trodVars_none hV
  have k0 := h0
  have lt0 : ∀ x ∈ p0, x.block < W.heap.size := by obtain ⟨m, hm⟩ := k0; exact DataW.trod_lt m _ _ _ hm
  obtain ⟨x0, g0, a0⟩ : ∃ x : List GDef, (fun xs : List GDef => xs.length ≤ maxLen ∧ ∀ x ∈ xs, (fun x : GDef => (fun l : Bs => l.length ≤ maxLen) x.Name ∧ (fun xs : List GOp => xs.length ≤ maxLen ∧ ∀ x ∈ xs, (fun x : GOp => (fun n : Int => (Lit.int .i64 n).wf = true) x.Kind ∧ (fun n : Int => (Lit.int .i32 n).wf = true) x.N) x) x.Body) x) x ∧ Go.Fm.RPV W (fun k => k < W.heap.size) (fun _ => none) (Go.Fm.hOf []) v0 (.one (.imm 2 x.length (x.flatMap GDef.cs))) := by
    obtain ⟨m, hm⟩ := k0
    exact Go.Fm.arg_one (typed_sl (typed_GDef) rfl (by decide)) (fun _ => rfl) (Go.Fm.slice_of Tryd.underlying22 (hval 0 22 v0 rfl rfl)) (Go.Fm.trod_opens 5 22 _ m _ _ Tryd.shape22 hm) _ _
  refine (Go.Fm.Ans.calls (vs := [v0]) (ans_FnExactSimpleOf x0 g0) (by kernel_rfl) Tryd.func5 rfl (by kernel_rfl) rfl (fun i p hp => ?_) (fun r h hr => hr) (globs hL)).mono fun e W' ⟨he, bel⟩ => ?_
  · match i, hp with
    | 0, hp =>
      simp at hp
      subst hp
      exact ⟨_, rfl, a0⟩
  subst he
  exact ⟨_, rfl, _, _, _, [], _, [], hW', trodAll_mk1 (shut_bool Tryd.underlying4 _), (trodAll_cons_mk (Below.trod Tryd.laidOut (by kernel_rfl) (of_decide_eq_true (by kernel_rfl)) k0 bel lt0) trodAll_mk0), rfl, bel.frame _, fun h => by cases h⟩
theorem said : Rows.FnExactSimpleOfSaid :=
  OpenClaim.holds_of_cond 5 Tryd.f5 rfl rfl rfl rfl rfl rfl rfl ⟨rfl, rfl, rfl, rfl, rfl⟩ rfl rfl rfl rfl rfl (by kernel_rfl) Tryd.func5 (by kernel_rfl)
    (of_decide_eq_true (by kernel_rfl)) (by unfold Func.isWrapper; first | (rw [if_pos (by decide +kernel)]; kernel_rfl) | (rw [if_neg (by decide +kernel)]; exact ⟨rfl, rfl⟩))
    (fun os started H enc _ F => by rw [OpenClaim.pre_eq_preRow]; exact lifted os started H enc F)
theorem plain (f : FuncId) (fn : Func) (hf : Tryd.pinned.checked.prog.funcNamed "loop.example/g00711/laws.FnExactSimpleOf" = some f) (hfn : Tryd.pinned.checked.prog.funcs[f]? = some fn) :
    false = Tryd.pinned.checked.prog.looks [] ∧ ∀ (j : Nat) t, fn.params[j]? = some t → Tryd.pinned.checked.prog.wantsStandIn t = false := by
  obtain rfl : f = 5 := Option.some.inj ((show Tryd.prog.funcNamed "loop.example/g00711/laws.FnExactSimpleOf" = some 5 by kernel_rfl).symm.trans hf) |>.symm
  obtain rfl : fn = Tryd.f5 := (Option.some.inj (Tryd.func5.symm.trans hfn)).symm
  refine ⟨by kernel_rfl, fun j t ht => ?_⟩
  rw [Tryd.params5] at ht
  have hm := Array.mem_of_getElem? ht
  simp only [List.mem_toArray, List.mem_cons, List.not_mem_nil, or_false] at hm
  obtain rfl := hm
  all_goals exact (show Tryd.prog.wantsStandIn _ = false by kernel_rfl)
theorem fnExactSimpleOf_holds : Rows.FnExactSimpleOfCardSaid :=
  Claim7.holds_tied_plain_at .later [] _ _ _ _ said (fun _ h => by cases h) (by kernel_rfl) (fun _ h => by cases h) fnExactSimpleOf_row_tie rfl ⟨rfl, rfl⟩ (by kernel_rfl) rfl plain (by kernel_rfl)
#print axioms fnExactSimpleOf_holds
end Go.Proofs.YtnhefmibcnbehaaDoor
