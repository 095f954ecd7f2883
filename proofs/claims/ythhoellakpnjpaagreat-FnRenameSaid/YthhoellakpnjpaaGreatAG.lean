import Derived.Test.YthhoellakpnjpaaGreatMF
import Derived.Test.YthhoellakpnjpaaGreatCB
import Derived.Test.YthhoellakpnjpaaGreatPA
namespace Go.Proofs.YthhoellakpnjpaaGreat
open Go Go.Fm
set_option linter.unusedVariables false
set_option maxRecDepth 100000
theorem ans_FnRename (x0 : List Int) (g0 : (fun xs : List Int => xs.length ≤ maxLen ∧ ∀ x ∈ xs, (fun n : Int => (Lit.int .u8 n).wf = true) x) x0) :
    Ans Tryz.prog 3 [.one (.imm 1 x0.length (x0.flatMap (eI .u8)))] [] fun v _ => v = one (.bool true) := fun hm => by
  obtain ⟨r, h1, a, b, c⟩ := @c_laws_FnRename x0 true (law_fnRename x0) hm
  exact ⟨r, h1, a, b⟩
end Go.Proofs.YthhoellakpnjpaaGreat
