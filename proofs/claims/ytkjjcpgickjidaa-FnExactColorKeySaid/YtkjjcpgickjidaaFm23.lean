import Derived.Test.YtkjjcpgickjidaaFm22
import Derived.Below
/-! From what a law answers to the call at the world of a row. -/
namespace Go.Fm
set_option linter.unusedVariables false

theorem Ans.calls {P : Program} {f : FuncId} {fn : Func} {ps : List PV} {K : SV → List HS → Prop} (h : Ans P f ps [] K) (hm : P.follows .mixedOrders = true)
    (hf : P.funcs[f]? = some fn) (hb : fn.body.isSome = true) (hname : (fn.name == "runtime.NumGoroutine") = false) {W : World} {vs : List Value} (hl : vs.length = ps.length)
    (ha : ∀ (i : Nat) (p : PV), ps[i]? = some p → ∃ u : Value, vs[i]? = some u ∧ RPV W (fun k => k < W.heap.size) (fun _ => none) (hOf []) u p) (hK : ∀ r h, K r h → r = one (.bool true)) :
    Calls P f vs.toArray W fun e W' => e = .returned (.bool true) ∧ Go.RowKit.Below W.heap.size W W' := by
  obtain ⟨r, h1, hmeets, hk⟩ := h hm
  have hr := hK r h1 hk
  subst hr
  let C : Ctx := { P := P, w0 := W, Sh := fun k => k < W.heap.size, O := fun _ => False, rho0 := fun _ => none, k0 := 0, nt := 0, old := fun k hk => ⟨hk, fun h => h⟩ }
  have hs := hmeets C vs rfl rfl hl ha ⟨fun id b hb => by simp [hOf] at hb, fun id b L hb => by simp [hOf] at hb, fun id id' b b' L L' hb => by simp [hOf] at hb⟩ (fun id hid => absurd hid (Nat.not_lt_zero _))
  obtain ⟨c, hc⟩ := Option.isSome_iff_exists.1 hb
  have hcall : (callFunc f vs.toArray).run P W = .ok (.enter f vs.toArray) W := by
    have hne : ¬ fn.name = "runtime.NumGoroutine" := by simpa using hname
    simp [callFunc, Sem.run_bind, hf, hne, hc]
  unfold Serves at hs
  rw [show C.w0 = W from rfl, hcall] at hs
  refine Calls.mono hs fun e W' he => ?_
  cases e with
  | panicked ch => exact he.elim
  | outgrown => exact he.elim
  | returned v =>
    obtain ⟨ρ', Sh', _, hv, _, hfr, _⟩ := he
    obtain rfl := RSV.bool hv
    exact ⟨rfl, hfr.os, hfr.tape, hfr.output, hfr.size, fun k hk => hfr.keep k hk (fun h => h)⟩
end Go.Fm
