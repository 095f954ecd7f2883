import Derived.Test.YthhoellakpnjpaaMF
import Derived.Test.YthhoellakpnjpaaCB
import Derived.Test.YthhoellakpnjpaaPA
namespace Go.Proofs.Ythhoellakpnjpaa
open Go Go.Fm
set_option linter.unusedVariables false
set_option maxRecDepth 100000
def GStore.cs (x : GStore) : List CV := [.imm 1 x.Cells.length (x.Cells.flatMap (eI .u32))]
theorem typed_GStore : Typed [.sl [.int .u32]] GStore.cs (fun x : GStore => (fun xs : List Int => xs.length ≤ maxLen ∧ ∀ x ∈ xs, (fun n : Int => (Lit.int .u32 n).wf = true) x) x.Cells) := fun row hl h => by
  match row, hl with
  | [c0], _ =>
    obtain ⟨x0, e0, g0⟩ := (typed_sl (typed_int .u32) rfl (by decide)) [c0] rfl (one_cell (h 0 _ c0 rfl rfl))
    obtain rfl := (List.cons.inj e0).1
    exact ⟨(⟨x0⟩ : GStore), rfl, g0⟩
theorem ans_FnExactRename (x0 : GStore) (g0 : (fun x : GStore => (fun xs : List Int => xs.length ≤ maxLen ∧ ∀ x ∈ xs, (fun n : Int => (Lit.int .u32 n).wf = true) x) x.Cells) x0) (x1 : Bs) (g1 : (fun l : Bs => l.length ≤ maxLen) x1) (x2 : Bs) (g2 : (fun l : Bs => l.length ≤ maxLen) x2) :
    Ans Try.prog 6 [.agg [.imm 1 x0.Cells.length (x0.Cells.flatMap (eI .u32))], .one (.str x1), .one (.str x2)] [] fun v _ => v = one (.bool true) := fun hm => by
  obtain ⟨r, h1, a, b, c⟩ := @c_laws_FnExactRename x0 x1 x2 true (law_rename (fun y hy => wfU32 (g0.2 y hy)) g0.1) hm
  exact ⟨r, h1, a, b⟩
end Go.Proofs.Ythhoellakpnjpaa
