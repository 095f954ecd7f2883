import Derived.Test.YtniciinhflolnaaDoorMF
import Derived.Test.YtniciinhflolnaaDoorCA
import Derived.Test.YtniciinhflolnaaDoorPA
namespace Go.Proofs.YtniciinhflolnaaDoor
open Go Go.Fm
set_option linter.unusedVariables false
set_option maxRecDepth 100000
theorem typed_GOp : Typed [.int .i64, .int .i32] GOp.cs (fun x : GOp => (fun n : Int => (Lit.int .i64 n).wf = true) x.Kind ∧ (fun n : Int => (Lit.int .i32 n).wf = true) x.N) := fun row hl h => by
  match row, hl with
  | [c0, c1], _ =>
    obtain ⟨x0, e0, g0⟩ := (typed_int .i64) [c0] rfl (one_cell (h 0 _ c0 rfl rfl))
    obtain ⟨x1, e1, g1⟩ := (typed_int .i32) [c1] rfl (one_cell (h 1 _ c1 rfl rfl))
    obtain rfl := (List.cons.inj e0).1
    obtain rfl := (List.cons.inj e1).1
    exact ⟨(⟨x0, x1⟩ : GOp), rfl, ⟨g0, g1⟩⟩
theorem ans_FnExactFalls (x0 : List GOp) (g0 : (fun xs : List GOp => xs.length ≤ maxLen ∧ ∀ x ∈ xs, (fun x : GOp => (fun n : Int => (Lit.int .i64 n).wf = true) x.Kind ∧ (fun n : Int => (Lit.int .i32 n).wf = true) x.N) x) x0) :
    Ans Tryd.prog 3 [.one (.imm 2 x0.length (x0.flatMap GOp.cs))] [] fun v _ => v = one (.bool true) := fun hm => by
  obtain ⟨r, h1, a, b, c⟩ := @c_laws_FnExactFalls x0 true (law_falls g0.1) hm
  exact ⟨r, h1, a, b⟩
end Go.Proofs.YtniciinhflolnaaDoor
