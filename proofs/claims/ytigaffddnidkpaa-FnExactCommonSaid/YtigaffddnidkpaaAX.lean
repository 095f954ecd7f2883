import Derived.Test.YtigaffddnidkpaaMF
import Derived.Test.YtigaffddnidkpaaCA
import Derived.Test.YtigaffddnidkpaaPA
namespace Go.Proofs.Ytigaffddnidkpaa
open Go Go.Fm
set_option linter.unusedVariables false
set_option maxRecDepth 100000
theorem typed_GItem : Typed [.int .i64, .str, .int .i32, .bool, .int .u32] GItem.cs (fun x : GItem => (fun n : Int => (Lit.int .i64 n).wf = true) x.Kind ∧ (fun l : Bs => l.length ≤ maxLen) x.Name ∧ (fun n : Int => (Lit.int .i32 n).wf = true) x.N ∧ (fun _ : Bool => True) x.Hex ∧ (fun n : Int => (Lit.int .u32 n).wf = true) x.Raw) := fun row hl h => by
  match row, hl with
  | [c0, c1, c2, c3, c4], _ =>
    obtain ⟨x0, e0, g0⟩ := (typed_int .i64) [c0] rfl (one_cell (h 0 _ c0 rfl rfl))
    obtain ⟨x1, e1, g1⟩ := (typed_str) [c1] rfl (one_cell (h 1 _ c1 rfl rfl))
    obtain ⟨x2, e2, g2⟩ := (typed_int .i32) [c2] rfl (one_cell (h 2 _ c2 rfl rfl))
    obtain ⟨x3, e3, g3⟩ := (typed_bool) [c3] rfl (one_cell (h 3 _ c3 rfl rfl))
    obtain ⟨x4, e4, g4⟩ := (typed_int .u32) [c4] rfl (one_cell (h 4 _ c4 rfl rfl))
    obtain rfl := (List.cons.inj e0).1
    obtain rfl := (List.cons.inj e1).1
    obtain rfl := (List.cons.inj e2).1
    obtain rfl := (List.cons.inj e3).1
    obtain rfl := (List.cons.inj e4).1
    exact ⟨(⟨x0, x1, x2, x3, x4⟩ : GItem), rfl, ⟨g0, g1, g2, g3, g4⟩⟩
theorem ans_FnExactCommon (x0 : List GItem) (g0 : (fun xs : List GItem => xs.length ≤ maxLen ∧ ∀ x ∈ xs, (fun x : GItem => (fun n : Int => (Lit.int .i64 n).wf = true) x.Kind ∧ (fun l : Bs => l.length ≤ maxLen) x.Name ∧ (fun n : Int => (Lit.int .i32 n).wf = true) x.N ∧ (fun _ : Bool => True) x.Hex ∧ (fun n : Int => (Lit.int .u32 n).wf = true) x.Raw) x) x0) (x1 : List GItem) (g1 : (fun xs : List GItem => xs.length ≤ maxLen ∧ ∀ x ∈ xs, (fun x : GItem => (fun n : Int => (Lit.int .i64 n).wf = true) x.Kind ∧ (fun l : Bs => l.length ≤ maxLen) x.Name ∧ (fun n : Int => (Lit.int .i32 n).wf = true) x.N ∧ (fun _ : Bool => True) x.Hex ∧ (fun n : Int => (Lit.int .u32 n).wf = true) x.Raw) x) x1) :
    Ans Try.prog 3 [.one (.imm 5 x0.length (x0.flatMap GItem.cs)), .one (.imm 5 x1.length (x1.flatMap GItem.cs))] [] fun v _ => v = one (.bool true) := fun hm => by
  obtain ⟨r, h1, a, b, c⟩ := @c_laws_FnExactCommon x0 x1 true (law_exact g0.1 g1.1 (fun y hy => (g0.2 y hy).2.1) (fun y hy => (g1.2 y hy).2.1)) hm
  exact ⟨r, h1, a, b⟩
end Go.Proofs.Ytigaffddnidkpaa
