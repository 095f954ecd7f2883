/-
  What is opened has the block's cells: the statement FnOpenSaid.
-/
import Derived.Test.YtkjjcpgickjidaaMF
import Derived.Test.YtkjjcpgickjidaaAO
import Derived.Test.YtkjjcpgickjidaaRows
import Derived.ProofKit
import Derived.OpenShut
import Derived.ChangeOld
import Derived.SizedLaws
namespace Go.Proofs.Ytkjjcpgickjidaa
open Go.ChangeShapes Go.WideShapes Go.ChangeAt Go.RowKit
set_option linter.unusedVariables false
theorem Try.own : ownKnob Try.prog.godebug = none := by kernel_rfl
theorem Try.laidOut : laidOutB Try.prog = true := by kernel_rfl
theorem Try.shape31 : Go.Fm.shapeT Try.prog 2 31 = some [.sl [.int .u8]] := by kernel_rfl
set_option maxRecDepth 100000 in
theorem lifted (os : Os) (started : os.Started) (H : Type) (enc : TypeId × Value → H) :
    ReturnsInHanded {} Try.checked os 6 .any (Rows.fnOpenSpec.pre6 enc Try.prog Try.f6 Rows.fnOpenRow.domain false) (Rows.fnOpenSpec.post enc Try.prog Try.f6 false true false false) := by
  refine returnsInHanded_of_change_sized (C := Try.checked) Try.own started (by kernel_rfl) Try.func6
    (ChangeSpec.witness6 (enc := enc) (C := Try.checked) false ⟨#[], #[.slice none 0 0], []⟩ 8 (by kernel_rfl) (by kernel_rfl) (by kernel_rfl) (by kernel_rfl)) ?_
  intro W base args ds gs before hval0 hW hcnd hsz0 _
  have hval : ∀ (j : Nat) t v, Try.f6.params[j]? = some t → args[j]? = some v → Value.okWide Try.prog W .any base t v := hval0
  have hW' := hW
  obtain ⟨p, q, hA0, hV, rfl, hfz, hnd⟩ := hW
  have hA : DataW.TrodAll enc Try.prog W 0 (fun _ => true) true Try.f6.params.toList args.toList ds p := hA0
  rw [Try.params6] at hA hval
  obtain ⟨v0, vs0, d0, ds0, p0, q0, hargs, rfl, rfl, h0, r0⟩ := trodAll_cons hA
  obtain ⟨rfl, rfl, rfl⟩ := trodAll_nil r0
  obtain rfl : args = #[v0] := by cases args; simp_all
  obtain ⟨rfl, rfl⟩ := trodVars_none hV
  have k0 := h0
  have lt0 : ∀ x ∈ p0, x.block < W.heap.size := by obtain ⟨m, hm⟩ := k0; exact DataW.trod_lt m _ _ _ hm
  obtain ⟨code, hlen, hcode, hRI⟩ : ∃ xs : List Int, xs.length ≤ maxLen ∧ (∀ x ∈ xs, (Lit.int .u8 x).wf = true) ∧ Go.Fm.RI W (fun k => k < W.heap.size) v0 (.imm 1 xs.length (xs.flatMap (Go.Fm.eI .u8))) := by
    obtain ⟨m, hm⟩ := k0
    rw [Go.Fm.slice_of Try.underlying31 (hval 0 31 v0 rfl rfl)] at hm
    exact Go.Fm.open_slice (Go.Fm.typed_int .u8) rfl (by decide) (Go.Fm.trod_opens 2 31 _ m _ _ Try.shape31 hm)
  refine (Go.Fm.Ans.calls (vs := [v0]) (ans_open code hlen hcode) (by kernel_rfl) Try.func6 rfl (by kernel_rfl) rfl (fun i p hp => ?_) (fun r h hr => hr) (fun g cs hg => nomatch hg)).mono fun e W' ⟨he, bel⟩ => ?_
  · match i, hp with
    | 0, hp =>
      simp at hp
      subst hp
      exact ⟨_, rfl, hRI⟩
  subst he
  exact ⟨_, rfl, _, _, _, [], _, [], hW', trodAll_mk1 (shut_bool Try.underlying4 _), (trodAll_cons_mk (Below.trod Try.laidOut (by kernel_rfl) (of_decide_eq_true (by kernel_rfl)) k0 bel lt0) trodAll_mk0), rfl, bel.frame _, fun h => by cases h⟩
theorem fnOpen_holds : Rows.FnOpenSaid :=
  OpenClaim.holds_of_wide 6 Try.f6 rfl rfl rfl rfl rfl rfl rfl ⟨rfl, rfl, rfl, rfl, rfl⟩ rfl rfl rfl rfl rfl (by kernel_rfl) Try.func6 (by kernel_rfl)
    (of_decide_eq_true (by kernel_rfl)) (by unfold Func.isWrapper; first | (rw [if_pos (by decide +kernel)]; kernel_rfl) | (rw [if_neg (by decide +kernel)]; exact ⟨rfl, rfl⟩))
    (fun os started H enc _ => lifted os started H enc)
#print axioms fnOpen_holds
end Go.Proofs.Ytkjjcpgickjidaa
