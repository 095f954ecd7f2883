/-
  Keys that are pressed one by one are keys that are pressed at once, and what comes out is right.
-/
import Derived.Test.YtjdhhpolllkbbaaML
import Derived.Test.YtjdhhpolllkbbaaRows
import Derived.ProofKit
import Derived.OpenShut
import Derived.ChangeOld
import Derived.SizedLaws
set_option linter.all false
namespace Go.Proofs.Ytjdhhpolllkbbaa
open Go.ChangeShapes Go.WideShapes Go.ChangeAt Go.RowKit
open Go.Fm (eI eS eB eL typed_int typed_bool typed_str typed_sl)
theorem Try.own : ownKnob Try.prog.godebug = none := by kernel_rfl
theorem Try.laidOut : laidOutB Try.prog = true := by kernel_rfl
theorem Try.shape22 : Go.Fm.shapeT Try.prog 2 22 = some [.sl [.int .u8]] := by kernel_rfl
set_option maxRecDepth 100000 in
theorem lifted (os : Os) (started : os.Started) (H : Type) (enc : TypeId × Value → H) :
    ReturnsInHanded {} Try.checked os 5 .any (Rows.fnKeysSpec.pre6 enc Try.prog Try.f5 Rows.fnKeysRow.domain false) (Rows.fnKeysSpec.post enc Try.prog Try.f5 false true false false) := by
  refine returnsInHanded_of_change_sized (C := Try.checked) Try.own started (by kernel_rfl) Try.func5
    (ChangeSpec.witness6 (enc := enc) (C := Try.checked) false ⟨#[], #[.slice none 0 0], []⟩ 8 (by kernel_rfl) (by kernel_rfl) (by kernel_rfl) (by kernel_rfl)) ?_
  intro W base args ds gs before hval0 hW hcnd hsz0 _
  have hval : ∀ (j : Nat) t v, Try.f5.params[j]? = some t → args[j]? = some v → Value.okWide Try.prog W .any base t v := hval0
  have hW' := hW
  obtain ⟨p, q, hA0, hV, rfl, hfz, hnd⟩ := hW
  have hA : DataW.TrodAll enc Try.prog W 0 (fun _ => true) true Try.f5.params.toList args.toList ds p := hA0
  rw [Try.params5] at hA hval
  obtain ⟨v0, vs0, d0, ds0, p0, q0, hargs0, rfl, rfl, h0, r0⟩ := trodAll_cons hA
  obtain ⟨rfl, rfl, rfl⟩ := trodAll_nil r0
  obtain rfl : args = #[v0] := by cases args; simp_all
  obtain ⟨rfl, rfl⟩ := trodVars_none hV
  have k0 := h0
  have lt0 : ∀ x ∈ p0, x.block < W.heap.size := by obtain ⟨m, hm⟩ := k0; exact DataW.trod_lt m _ _ _ hm
  obtain ⟨x0, g0, a0⟩ : ∃ x : List Int, (fun xs : List Int => xs.length ≤ maxLen ∧ ∀ x ∈ xs, (fun n : Int => (Lit.int .u8 n).wf = true) x) x ∧ Go.Fm.RPV W (fun k => k < W.heap.size) (fun _ => none) (Go.Fm.hOf []) v0 (.one (.imm 1 x.length (x.flatMap (eI .u8)))) := by
    obtain ⟨m, hm⟩ := k0
    exact Go.Fm.arg_one (typed_sl (typed_int .u8) rfl (by decide)) (fun _ => rfl) (Go.Fm.slice_of Try.underlying22 (hval 0 22 v0 rfl rfl)) (Go.Fm.trod_opens 2 22 _ m _ _ Try.shape22 hm) _ _
  refine (Go.Fm.Ans.calls (vs := [v0]) (ans_FnKeys x0 g0) (by kernel_rfl) Try.func5 rfl (by kernel_rfl) rfl (fun i p hp => ?_) (fun r h hr => hr) (fun g cs hg => nomatch hg)).mono fun e W' ⟨he, bel⟩ => ?_
  · match i, hp with
    | 0, hp =>
      simp at hp
      subst hp
      exact ⟨_, rfl, a0⟩
  subst he
  exact ⟨_, rfl, _, _, _, [], _, [], hW', trodAll_mk1 (shut_bool Try.underlying4 _), (trodAll_cons_mk (Below.trod Try.laidOut (by kernel_rfl) (of_decide_eq_true (by kernel_rfl)) k0 bel lt0) trodAll_mk0), rfl, bel.frame _, fun h => by cases h⟩
theorem fnKeys_holds : Rows.FnKeysSaid :=
  OpenClaim.holds_of_wide 5 Try.f5 rfl rfl rfl rfl rfl rfl rfl ⟨rfl, rfl, rfl, rfl, rfl⟩ rfl rfl rfl rfl rfl (by kernel_rfl) Try.func5 (by kernel_rfl)
    (of_decide_eq_true (by kernel_rfl)) (by unfold Func.isWrapper; first | (rw [if_pos (by decide +kernel)]; kernel_rfl) | (rw [if_neg (by decide +kernel)]; exact ⟨rfl, rfl⟩))
    (fun os started H enc _ => lifted os started H enc)
#print axioms fnKeys_holds
end Go.Proofs.Ytjdhhpolllkbbaa
