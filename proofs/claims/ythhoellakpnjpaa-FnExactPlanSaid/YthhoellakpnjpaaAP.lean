import Derived.Test.YthhoellakpnjpaaMF
import Derived.Test.YthhoellakpnjpaaCB
import Derived.Test.YthhoellakpnjpaaPA
namespace Go.Proofs.Ythhoellakpnjpaa
open Go Go.Fm
set_option linter.unusedVariables false
set_option maxRecDepth 100000
theorem ans_FnExactPlan (x0 : List Int) (g0 : (fun xs : List Int => xs.length ≤ maxLen ∧ ∀ x ∈ xs, (fun n : Int => (Lit.int .u32 n).wf = true) x) x0) (x1 : List Int) (g1 : (fun xs : List Int => xs.length ≤ maxLen ∧ ∀ x ∈ xs, (fun n : Int => (Lit.int .u32 n).wf = true) x) x1) :
    Ans Try.prog 7 [.one (.imm 1 x0.length (x0.flatMap (eI .u32))), .one (.imm 1 x1.length (x1.flatMap (eI .u32)))] [] fun v _ => v = one (.bool true) := fun hm => by
  obtain ⟨r, h1, a, b, c⟩ := @c_laws_FnExactPlan x0 x1 true (law_plan (fun y hy => wfU32 (g0.2 y hy)) (fun y hy => wfU32 (g1.2 y hy))) hm
  exact ⟨r, h1, a, b⟩
end Go.Proofs.Ythhoellakpnjpaa
