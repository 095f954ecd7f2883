import Derived.Test.YtigaffddnidkpaaMF
import Derived.Test.YtigaffddnidkpaaCA
import Derived.Test.YtigaffddnidkpaaPA
namespace Go.Proofs.Ytigaffddnidkpaa
open Go Go.Fm
set_option linter.unusedVariables false
set_option maxRecDepth 100000
theorem ans_FnCommon (x0 : List Int) (g0 : (fun xs : List Int => xs.length ≤ maxLen ∧ ∀ x ∈ xs, (fun n : Int => (Lit.int .u8 n).wf = true) x) x0) :
    Ans Try.prog 4 [.one (.imm 1 x0.length (x0.flatMap (eI .u8)))] [] fun v _ => v = one (.bool true) := fun hm => by
  obtain ⟨r, h1, a, b, c⟩ := @c_laws_FnCommon x0 true (law_common g0.1) hm
  exact ⟨r, h1, a, b⟩
end Go.Proofs.Ytigaffddnidkpaa
