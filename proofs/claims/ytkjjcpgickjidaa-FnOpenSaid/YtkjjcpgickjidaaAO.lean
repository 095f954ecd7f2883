import Derived.Test.YtkjjcpgickjidaaCB
import Derived.Test.YtkjjcpgickjidaaPA
namespace Go.Proofs.Ytkjjcpgickjidaa
open Go Go.Fm
set_option linter.unusedVariables false
theorem ans_open (code : List Int) (hl : code.length ≤ maxLen) (h : ∀ x ∈ code, (Lit.int .u8 x).wf = true) :
    Ans Try.prog 6 [.one (.imm 1 code.length (code.flatMap (eI .u8)))] [] fun v _ => v = one (.bool true) :=
  fun hm => by
    obtain ⟨r, h1, a, b, c⟩ := c_laws_FnOpen (law_open code) hm
    exact ⟨r, h1, a, b⟩
end Go.Proofs.Ytkjjcpgickjidaa
