import Derived.Test.YthhoellakpnjpaaMF
import Derived.Test.YthhoellakpnjpaaCB
import Derived.Test.YthhoellakpnjpaaPA
namespace Go.Proofs.Ythhoellakpnjpaa
open Go Go.Fm
set_option linter.unusedVariables false
set_option maxRecDepth 100000
theorem ans_FnNames (x0 : List Int) (g0 : (fun xs : List Int => xs.length ≤ maxLen ∧ ∀ x ∈ xs, (fun n : Int => (Lit.int .u8 n).wf = true) x) x0) :
    Ans Try.prog 8 [.one (.imm 1 x0.length (x0.flatMap (eI .u8)))] [] fun v _ => v = one (.bool true) := fun hm => by
  obtain ⟨r, h1, a, b, c⟩ := @c_laws_FnNames x0 true (law_fnNames x0) hm
  exact ⟨r, h1, a, b⟩
end Go.Proofs.Ythhoellakpnjpaa
