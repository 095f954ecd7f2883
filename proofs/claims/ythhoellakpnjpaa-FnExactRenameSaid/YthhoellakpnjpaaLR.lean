/-
  The program's Rename returns what the reference's returns: the statement FnExactRenameSaid.
-/
import Derived.Test.YthhoellakpnjpaaMF
import Derived.Test.YthhoellakpnjpaaAR
import Derived.Test.YthhoellakpnjpaaRows
import Derived.ProofKit
import Derived.OpenShut
import Derived.ChangeOld
import Derived.SizedLaws
namespace Go.Proofs.Ythhoellakpnjpaa
open Go.ChangeShapes Go.WideShapes Go.ChangeAt Go.RowKit
open Go.Fm (eI eS eB eL typed_int typed_bool typed_str typed_sl)
set_option linter.unusedVariables false
theorem Try.own : ownKnob Try.prog.godebug = none := by kernel_rfl
theorem Try.laidOut : laidOutB Try.prog = true := by kernel_rfl
theorem Try.shape24 : Go.Fm.shapeT Try.prog 3 24 = some [.sl [.int .u32]] := by kernel_rfl
theorem Try.shape9 : Go.Fm.shapeT Try.prog 1 9 = some [.str] := by kernel_rfl
set_option maxRecDepth 100000 in
theorem lifted (os : Os) (started : os.Started) (H : Type) (enc : TypeId × Value → H) :
    ReturnsInHanded {} Try.checked os 6 .any (Rows.fnExactRenameSpec.pre6 enc Try.prog Try.f6 Rows.fnExactRenameRow.domain false) (Rows.fnExactRenameSpec.post enc Try.prog Try.f6 false true false false) := by
  refine returnsInHanded_of_change_sized (C := Try.checked) Try.own started (by kernel_rfl) Try.func6
    (ChangeSpec.witness6 (enc := enc) (C := Try.checked) false ⟨#[], #[.agg #[.slice none 0 0], .string ⟨#[]⟩, .string ⟨#[]⟩], []⟩ 8 (by kernel_rfl) (by kernel_rfl) (by kernel_rfl) (by kernel_rfl)) ?_
  intro W base args ds gs before hval0 hW hcnd hsz0 _
  have hval : ∀ (j : Nat) t v, Try.f6.params[j]? = some t → args[j]? = some v → Value.okWide Try.prog W .any base t v := hval0
  have hW' := hW
  obtain ⟨p, q, hA0, hV, rfl, hfz, hnd⟩ := hW
  have hA : DataW.TrodAll enc Try.prog W 0 (fun _ => true) true Try.f6.params.toList args.toList ds p := hA0
  rw [Try.params6] at hA hval
  obtain ⟨v0, vs0, d0, ds0, p0, q0, hargs0, rfl, rfl, h0, r0⟩ := trodAll_cons hA
  obtain ⟨v1, vs1, d1, ds1, p1, q1, hargs1, rfl, rfl, h1, r1⟩ := trodAll_cons r0
  obtain ⟨v2, vs2, d2, ds2, p2, q2, hargs2, rfl, rfl, h2, r2⟩ := trodAll_cons r1
  obtain ⟨rfl, rfl, rfl⟩ := trodAll_nil r2
  obtain rfl : args = #[v0, v1, v2] := by cases args; simp_all
  obtain ⟨rfl, rfl⟩ := trodVars_none hV
  have k0 := h0
  have lt0 : ∀ x ∈ p0, x.block < W.heap.size := by obtain ⟨m, hm⟩ := k0; exact DataW.trod_lt m _ _ _ hm
  obtain ⟨x0, g0, a0⟩ : ∃ x : GStore, (fun x : GStore => (fun xs : List Int => xs.length ≤ maxLen ∧ ∀ x ∈ xs, (fun n : Int => (Lit.int .u32 n).wf = true) x) x.Cells) x ∧ Go.Fm.RPV W (fun k => k < W.heap.size) (fun _ => none) (Go.Fm.hOf []) v0 (.agg [.imm 1 x.Cells.length (x.Cells.flatMap (eI .u32))]) := by
    obtain ⟨m, hm⟩ := k0
    exact Go.Fm.arg_agg Try.underlying24 (hval 0 24 v0 rfl rfl) (typed_GStore) (Go.Fm.trod_opens 3 24 _ m _ _ Try.shape24 hm) _ _
  have k1 := h1
  have lt1 : ∀ x ∈ p1, x.block < W.heap.size := by obtain ⟨m, hm⟩ := k1; exact DataW.trod_lt m _ _ _ hm
  obtain ⟨x1, g1, a1⟩ : ∃ x : Bs, (fun l : Bs => l.length ≤ maxLen) x ∧ Go.Fm.RPV W (fun k => k < W.heap.size) (fun _ => none) (Go.Fm.hOf []) v1 (.one (.str x)) := by
    obtain ⟨m, hm⟩ := k1
    exact Go.Fm.arg_one (typed_str) (fun _ => rfl) (Go.Fm.str_of Try.underlying9 (hval 1 9 v1 rfl rfl)) (Go.Fm.trod_opens 1 9 _ m _ _ Try.shape9 hm) _ _
  have k2 := h2
  have lt2 : ∀ x ∈ p2, x.block < W.heap.size := by obtain ⟨m, hm⟩ := k2; exact DataW.trod_lt m _ _ _ hm
  obtain ⟨x2, g2, a2⟩ : ∃ x : Bs, (fun l : Bs => l.length ≤ maxLen) x ∧ Go.Fm.RPV W (fun k => k < W.heap.size) (fun _ => none) (Go.Fm.hOf []) v2 (.one (.str x)) := by
    obtain ⟨m, hm⟩ := k2
    exact Go.Fm.arg_one (typed_str) (fun _ => rfl) (Go.Fm.str_of Try.underlying9 (hval 2 9 v2 rfl rfl)) (Go.Fm.trod_opens 1 9 _ m _ _ Try.shape9 hm) _ _
  refine (Go.Fm.Ans.calls (vs := [v0, v1, v2]) (ans_FnExactRename x0 g0 x1 g1 x2 g2) (by kernel_rfl) Try.func6 rfl (by kernel_rfl) rfl (fun i p hp => ?_) (fun r h hr => hr) (fun g cs hg => nomatch hg)).mono fun e W' ⟨he, bel⟩ => ?_
  · match i, hp with
    | 0, hp =>
      simp at hp
      subst hp
      exact ⟨_, rfl, a0⟩
    | 1, hp =>
      simp at hp
      subst hp
      exact ⟨_, rfl, a1⟩
    | 2, hp =>
      simp at hp
      subst hp
      exact ⟨_, rfl, a2⟩
  subst he
  exact ⟨_, rfl, _, _, _, [], _, [], hW', trodAll_mk1 (shut_bool Try.underlying4 _), (trodAll_cons_mk (Below.trod Try.laidOut (by kernel_rfl) (of_decide_eq_true (by kernel_rfl)) k0 bel lt0) (trodAll_cons_mk (Below.trod Try.laidOut (by kernel_rfl) (of_decide_eq_true (by kernel_rfl)) k1 bel lt1) (trodAll_cons_mk (Below.trod Try.laidOut (by kernel_rfl) (of_decide_eq_true (by kernel_rfl)) k2 bel lt2) trodAll_mk0))), rfl, bel.frame _, fun h => by cases h⟩
theorem fnExactRename_holds : Rows.FnExactRenameSaid :=
  OpenClaim.holds_of_wide 6 Try.f6 rfl rfl rfl rfl rfl rfl rfl ⟨rfl, rfl, rfl, rfl, rfl⟩ rfl rfl rfl rfl rfl (by kernel_rfl) Try.func6 (by kernel_rfl)
    (of_decide_eq_true (by kernel_rfl)) (by unfold Func.isWrapper; first | (rw [if_pos (by decide +kernel)]; kernel_rfl) | (rw [if_neg (by decide +kernel)]; exact ⟨rfl, rfl⟩))
    (fun os started H enc _ => lifted os started H enc)
#print axioms fnExactRename_holds
end Go.Proofs.Ythhoellakpnjpaa
