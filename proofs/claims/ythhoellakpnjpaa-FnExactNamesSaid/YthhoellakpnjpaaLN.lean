/-
  The program's Names returns what the reference's returns: the statement FnExactNamesSaid.
-/
import Derived.Test.YthhoellakpnjpaaMF
import Derived.Test.YthhoellakpnjpaaAN
import Derived.Test.YthhoellakpnjpaaRows
import Derived.ProofKit
import Derived.OpenShut
import Derived.ChangeOld
import Derived.SizedLaws
namespace Go.Proofs.Ythhoellakpnjpaa
open Go.ChangeShapes Go.WideShapes Go.ChangeAt Go.RowKit
open Go.Fm (eI eS eB eL typed_int typed_bool typed_str typed_sl)
set_option linter.unusedVariables false
theorem Try.own : ownKnob Try.prog.godebug = none := by kernel_rfl
theorem Try.laidOut : laidOutB Try.prog = true := by kernel_rfl
theorem Try.shape24 : Go.Fm.shapeT Try.prog 3 24 = some [.sl [.int .u32]] := by kernel_rfl
set_option maxRecDepth 100000 in
theorem lifted (os : Os) (started : os.Started) (H : Type) (enc : TypeId × Value → H) :
    ReturnsInHanded {} Try.checked os 5 .any (Rows.fnExactNamesSpec.pre6 enc Try.prog Try.f5 Rows.fnExactNamesRow.domain false) (Rows.fnExactNamesSpec.post enc Try.prog Try.f5 false true false false) := by
  refine returnsInHanded_of_change_sized (C := Try.checked) Try.own started (by kernel_rfl) Try.func5
    (ChangeSpec.witness6 (enc := enc) (C := Try.checked) false ⟨#[], #[.agg #[.slice none 0 0]], []⟩ 8 (by kernel_rfl) (by kernel_rfl) (by kernel_rfl) (by kernel_rfl)) ?_
  intro W base args ds gs before hval0 hW hcnd hsz0 _
  have hval : ∀ (j : Nat) t v, Try.f5.params[j]? = some t → args[j]? = some v → Value.okWide Try.prog W .any base t v := hval0
  have hW' := hW
  obtain ⟨p, q, hA0, hV, rfl, hfz, hnd⟩ := hW
  have hA : DataW.TrodAll enc Try.prog W 0 (fun _ => true) true Try.f5.params.toList args.toList ds p := hA0
  rw [Try.params5] at hA hval
  obtain ⟨v0, vs0, d0, ds0, p0, q0, hargs0, rfl, rfl, h0, r0⟩ := trodAll_cons hA
  obtain ⟨rfl, rfl, rfl⟩ := trodAll_nil r0
  obtain rfl : args = #[v0] := by cases args; simp_all
  obtain ⟨rfl, rfl⟩ := trodVars_none hV
  have k0 := h0
  have lt0 : ∀ x ∈ p0, x.block < W.heap.size := by obtain ⟨m, hm⟩ := k0; exact DataW.trod_lt m _ _ _ hm
  obtain ⟨x0, g0, a0⟩ : ∃ x : GStore, (fun x : GStore => (fun xs : List Int => xs.length ≤ maxLen ∧ ∀ x ∈ xs, (fun n : Int => (Lit.int .u32 n).wf = true) x) x.Cells) x ∧ Go.Fm.RPV W (fun k => k < W.heap.size) (fun _ => none) (Go.Fm.hOf []) v0 (.agg [.imm 1 x.Cells.length (x.Cells.flatMap (eI .u32))]) := by
    obtain ⟨m, hm⟩ := k0
    exact Go.Fm.arg_agg Try.underlying24 (hval 0 24 v0 rfl rfl) (typed_GStore) (Go.Fm.trod_opens 3 24 _ m _ _ Try.shape24 hm) _ _
  refine (Go.Fm.Ans.calls (vs := [v0]) (ans_FnExactNames x0 g0) (by kernel_rfl) Try.func5 rfl (by kernel_rfl) rfl (fun i p hp => ?_) (fun r h hr => hr) (fun g cs hg => nomatch hg)).mono fun e W' ⟨he, bel⟩ => ?_
  · match i, hp with
    | 0, hp =>
      simp at hp
      subst hp
      exact ⟨_, rfl, a0⟩
  subst he
  exact ⟨_, rfl, _, _, _, [], _, [], hW', trodAll_mk1 (shut_bool Try.underlying4 _), (trodAll_cons_mk (Below.trod Try.laidOut (by kernel_rfl) (of_decide_eq_true (by kernel_rfl)) k0 bel lt0) trodAll_mk0), rfl, bel.frame _, fun h => by cases h⟩
theorem fnExactNames_holds : Rows.FnExactNamesSaid :=
  OpenClaim.holds_of_wide 5 Try.f5 rfl rfl rfl rfl rfl rfl rfl ⟨rfl, rfl, rfl, rfl, rfl⟩ rfl rfl rfl rfl rfl (by kernel_rfl) Try.func5 (by kernel_rfl)
    (of_decide_eq_true (by kernel_rfl)) (by unfold Func.isWrapper; first | (rw [if_pos (by decide +kernel)]; kernel_rfl) | (rw [if_neg (by decide +kernel)]; exact ⟨rfl, rfl⟩))
    (fun os started H enc _ => lifted os started H enc)
#print axioms fnExactNames_holds
end Go.Proofs.Ythhoellakpnjpaa
