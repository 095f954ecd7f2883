import Derived.Test.YtkjjcpgickjidaaFm20
import Derived.Laws.StandIn
/-! Functions: from the code of a body to what the function answers. -/
namespace Go.Fm
set_option linter.unusedVariables false
open Classical

def zipE : Nat → List PV → List (Nat × SV)
  | _, [] => []
  | i, p :: r => (i, .pv p) :: zipE (i + 1) r
theorem lk_zipE : ∀ (ps : List PV) (i t : Nat), lk (zipE i ps) t = if i ≤ t then (match ps[t - i]? with | some p => .pv p | none => one .dead) else one .dead
  | [], i, t => by simp [zipE, lk]
  | p :: r, i, t => by
    simp only [zipE, lk]
    by_cases h : i = t
    · subst h; simp
    · rw [if_neg h, lk_zipE r]
      by_cases h2 : i ≤ t
      · have h3 : i + 1 ≤ t := by omega
        rw [if_pos h2, if_pos h3]
        have : t - i = (t - (i + 1)) + 1 := by omega
        rw [this, List.getElem?_cons_succ]
      · have h3 : ¬ i + 1 ≤ t := by omega
        rw [if_neg h2, if_neg h3]

/-- The function's results, each of them a slot. -/
def resL (env : List (Nat × SV)) : List ResultVar → Option (List PV)
  | [] => some []
  | .tmp t :: r => match lk env t with
    | .pv p => (resL env r).map (p :: ·)
    | _ => none
  | _ => none
def resF (env : List (Nat × SV)) (l : List ResultVar) : Option SV := match resL env l with
  | some [p] => some (.pv p)
  | some ps => some (.tup ps)
  | none => none

/-- What is left of a state at the end of a call. -/
def finS (k0 : Nat) (π : List Nat) (fuel : Nat) (r : SV) (h : List HS) : Option (SV × List HS) :=
  if (nodB π && preK k0 π 0) = true then
    match lendS (hOf h) π fuel r with
    | none => none
    | some v => match lendH (hOf h) π fuel π with
      | none => none
      | some (_, bs) => some (v, bs)
  else none

/-- A function answers, and of its answer and of the blocks this is so. -/
def Ans (P : Program) (f : FuncId) (ps : List PV) (bs : List HS) (K : SV → List HS → Prop) : Prop := P.follows .mixedOrders = true → ∃ r h1, Meets P f ps bs r h1 ∧ K r h1
theorem Ans.mono {P : Program} {f : FuncId} {ps : List PV} {bs : List HS} {K K' : SV → List HS → Prop} (h : Ans P f ps bs K) (hk : ∀ r h, K r h → K' r h) : Ans P f ps bs K' := fun hm => by
  obtain ⟨r, h1, e1, e2⟩ := h hm
  exact ⟨r, h1, e1, hk r h1 e2⟩

def getRes (tmps : Array Value) : ResultVar → Sem Value
  | .tmp t => pure (tmps.getD t undef)
  | .cell a t => do loadVar t (← asAddr (tmps.getD a undef))
theorem results_eq (fn : Func) (tmps : Array Value) : results fn tmps = (do let vs ← fn.results.mapM (getRes tmps); pure (if h : vs.size = 1 then vs[0] else .tuple vs)) := by
  unfold results
  congr 1
theorem run_resL {P : Program} {w : World} {Sh : Nat → Prop} {ρ : Rho} {h : Nat → HS} {env : List (Nat × SV)} {tmps : Array Value} (he : ∀ t, RSV w Sh ρ h (tmps.getD t undef) (lk env t)) :
    ∀ {l : List ResultVar} {ps : List PV}, resL env l = some ps → ∃ vs : List Value,
      (l.mapM (getRes tmps)).run P w = .ok vs w ∧ vs.length = ps.length ∧
      ∀ (i : Nat) (p : PV), ps[i]? = some p → ∃ u : Value, vs[i]? = some u ∧ RPV w Sh ρ h u p
  | [], ps, hl => by cases hl; exact ⟨[], by simp, rfl, fun i p hp => by simp at hp⟩
  | .tmp t :: r, ps, hl => by
    unfold resL at hl
    cases ht : lk env t with
    | tup l => rw [ht] at hl; cases hl
    | pv p =>
      rw [ht] at hl
      obtain ⟨ps', hps, rfl⟩ := Option.map_eq_some_iff.1 hl
      obtain ⟨vs, e1, e2, e3⟩ := run_resL (P := P) he hps
      have h0 := he t
      rw [ht] at h0
      refine ⟨tmps.getD t undef :: vs, ?_, by simp [e2], fun i q hq => ?_⟩
      · simp only [List.mapM_cons, getRes, Sem.run_bind, Sem.run_pure, Result.andThen_ok, e1]
      · cases i with
        | zero => simp at hq; subst hq; exact ⟨_, rfl, h0⟩
        | succ i => simpa using e3 i q (by simpa using hq)
  | .cell a t :: r, ps, hl => by cases hl

theorem ans_of {P : Unit → Program} {T : TypeId → TyI} (hT : T = tiOf (P ())) {f : FuncId} {fn : Func} {c : Code} {ps : List PV} {bs : List HS} {K : SV → List HS → Prop} (hf : (P ()).funcs[f]? = some fn) (hb : fn.body = some c)
    (hname : (fn.name == "runtime.NumGoroutine") = false) (hps : ps.length ≤ fn.ntmps) (hbs : ∀ s ∈ bs, s ≠ .no)
    (h : VC P T fn.ntmps bs.length c ⟨zipE 0 ps, bs⟩ fun e s' => (match e with | .exit _ => False | _ => True) ∧ kO (resF s'.env fn.results.toList) fun r0 => ∃ π fuel r h1, finS bs.length π fuel r0 s'.heap = some (r, h1) ∧ K r h1) :
    Ans (P ()) f ps bs K := fun hm => by
  obtain ⟨e, s', hr, he, hres⟩ := VC.w hT c h hm
  obtain ⟨r0, hr0, π, fuel, r, h1, hfin, hK⟩ := kO_elim hres
  refine ⟨r, h1, ?_, hK⟩
  intro C vs hP hk hlen hargs hheap hno
  have hcall : (callFunc f vs.toArray).run (P ()) C.w0 = .ok (.enter f vs.toArray) C.w0 := by
    have hne : ¬ fn.name = "runtime.NumGoroutine" := by simpa using hname
    simp [callFunc, Sem.run_bind, hf, hne, hb]
  unfold Serves
  rw [hcall]
  show Calls (P ()) f vs.toArray C.w0 _
  refine calls_of_wp hf hb ?_
  let C' : Ctx := { C with nt := fn.ntmps }
  let a0 : Act := { tmps := vs.toArray ++ Array.replicate (fn.ntmps - vs.toArray.size) undef, defers := [] }
  have hR0 : RelX C' (⟨zipE 0 ps, bs⟩ : S).st a0 C.w0 := by
    refine ⟨C', .refl _, C.rho0, rfl, ?_, fun t => ?_, hheap, fun id hid => ⟨?_, rfl⟩, .refl _ _⟩
    · show (vs.toArray ++ Array.replicate (fn.ntmps - vs.toArray.size) undef).size = fn.ntmps
      simp only [Array.size_append, List.size_toArray, Array.size_replicate]
      omega
    · show RSV C.w0 C.Sh C.rho0 (hOf bs) _ (lk (zipE 0 ps) t)
      rw [lk_zipE, if_pos (Nat.zero_le _), Nat.sub_zero]
      cases hp : ps[t]? with
      | none => trivial
      | some p =>
        obtain ⟨u, hu, hr⟩ := hargs t p hp
        have : a0.tmps.getD t undef = u := by
          have ht : t < vs.length := (List.getElem?_eq_some_iff.1 hu).1
          simp only [a0, Array.getD_eq_getD_getElem?]
          rw [Array.getElem?_append_left (by simpa using ht)]
          simp [hu]
        rw [this]
        exact hr
    · exact hno id (by rw [← hk]; exact hid)
  refine wp_mono (hr C' hP rfl hk a0 C.w0 hR0) fun e' a' w' ⟨hee, R'⟩ => ?_
  subst hee
  obtain ⟨C2, hreb, ρ', R2⟩ := R'
  have hfinal : a'.defers = [] ∧ ∃ v, (results fn a'.tmps).run (P ()) w' = .ok v w' ∧ ∃ (ρ' : Rho) (Sh' : Nat → Prop), HeapRel C.w0 Sh' C.O ρ' (hOf h1) w' ∧ RSV w' Sh' ρ' (hOf h1) v r ∧
      (∀ id, id < bs.length → hOf h1 id ≠ .no ∧ ρ' id = C.rho0 id) ∧ Fr C.w0 C.O w' ∧ (∀ k, C.Sh k → Sh' k) ∧
      (∀ k, Sh' k → k < w'.heap.size ∧ (C.Sh k ∨ C.w0.heap.size ≤ k ∨ C.O k)) := by
    refine ⟨R2.defers, ?_⟩
    have hv : ∃ v, (results fn a'.tmps).run (P ()) w' = .ok v w' ∧ RSV w' C2.Sh ρ' (hOf s'.heap) v r0 := by
      unfold resF at hr0
      have hmap : ∀ vs : List Value, (fn.results.toList.mapM (getRes a'.tmps)).run (P ()) w' = .ok vs w' →
          (fn.results.mapM (getRes a'.tmps)).run (P ()) w' = .ok vs.toArray w' := fun vs hvs => by
        rw [Array.mapM_eq_mapM_toList]
        rw [Sem.run_map]
        rw [hvs]
        rfl
      split at hr0
      · rename_i p hp
        cases hr0
        obtain ⟨vs, e1, e2, e3⟩ := run_resL (P := P ()) (tmps := a'.tmps) R2.env hp
        obtain ⟨u, hu, hru⟩ := e3 0 p rfl
        have hvs : vs = [u] := by
          match vs, e2, hu with
          | [x], _, hu => simp at hu; rw [hu]
        subst hvs
        refine ⟨u, ?_, hru⟩
        rw [results_eq, Sem.run_bind, hmap _ e1]
        simp
      · rename_i ps' hne hp
        cases hr0
        obtain ⟨vs, e1, e2, e3⟩ := run_resL (P := P ()) (tmps := a'.tmps) R2.env hp
        refine ⟨.tuple vs.toArray, ?_, vs, rfl, e2, e3⟩
        rw [results_eq, Sem.run_bind, hmap _ e1]
        have h1 : vs.toArray.size ≠ 1 := by
          rw [List.size_toArray, e2]
          intro h1
          match ps', h1, hne with
          | [x], _, hne => exact hne x rfl
        simp only [Result.andThen_ok, dif_neg h1, Sem.run_pure]
      · cases hr0
    obtain ⟨v, hrv, hvr⟩ := hv
    refine ⟨v, hrv, ?_⟩
    unfold finS at hfin
    split at hfin
    · rename_i hc
      simp only [Bool.and_eq_true] at hc
      split at hfin
      · cases hfin
      · rename_i v' hv'
        split at hfin
        · cases hfin
        · rename_i rd bs' hbs'
          cases hfin
          obtain ⟨Sh2, H, HR, hsh1, hsh2, hno2⟩ := shut R2 hc.1 hbs'
          refine ⟨fun j => (π[j]?).bind ρ', Sh2, ⟨HR.blk, fun id b L e1 e2 => ?_, HR.inj⟩, lendS_ok H hv' hvr, fun id hid => ?_, hreb.fr.trans R2.fr hreb.o, fun k hk => hsh1 k (hreb.sh k hk), fun k hk => ?_⟩
          · obtain ⟨g1, g2, g3⟩ := HR.own id b L e1 e2
            refine ⟨g1, g2, ?_⟩
            rcases g3 with g3 | g3
            · exact .inl (Nat.le_trans hreb.fr.size g3)
            · exact hreb.o _ g3
          · have hπ := preK_get hc.2 id hid
            simp only [Nat.zero_add] at hπ
            refine ⟨hno2 id (List.getElem?_eq_some_iff.1 hπ).1, ?_⟩
            show (π[id]?).bind ρ' = C.rho0 id
            rw [hπ]
            have hk0 : id < C2.k0 := by rw [hreb.k0]; show id < C.k0; rw [hk]; exact hid
            have := (R2.init id hk0).2
            rw [hreb.rho0] at this
            exact this
          · obtain ⟨g1, g2⟩ := hsh2 k hk
            refine ⟨g1, ?_⟩
            rcases g2 with g2 | g2 | g2
            · exact hreb.shn k g2
            · exact .inr (.inl (Nat.le_trans hreb.fr.size g2))
            · exact .inr (hreb.o _ g2)
    · cases hfin
  cases e with
  | normal => exact hfinal
  | ret => exact hfinal
  | exit id => exact he.elim

/-- A call by what is known of the function; the blocks of these numbers are handed over, all others are lent. -/
theorem callT_of {P : Unit → Program} {f : FuncId} {caps : List CV} {args : List SV} {s : S} {K : Action → Prop} {K' : SV → List HS → Prop} (π : List Nat) (fuel : Nat) {ps1 ps : List PV} {rd1 rd2 : List Nat} {bs : List HS}
    (hps : argsP args = some ps1) (hl : lendPs (lendP s.st.heap π fuel) (ps1 ++ caps.map .one) = some (rd1, ps)) (hb : lendH s.st.heap π fuel π = some (rd2, bs)) (hnd : nodB π = true)
    (hc : Ans (P ()) f ps bs K') (hK : ∀ r h1, K' r h1 → keepOk bs h1 = true ∧ K (callA π s.heap.length (rd1 ++ rd2) bs.length r h1)) : @callT P f caps args s ⟨K⟩ :=
  @callT.mk P f caps args s ⟨K⟩ <| fun hm => by
    obtain ⟨r, h1, hme, hk⟩ := hc hm
    exact callF_of π fuel hps hl hb hnd (hK r h1 hk).1 hme (hK r h1 hk).2
/-- A call of a function without a Go body. -/
theorem ans_extern {P : Program} {f : FuncId} {fn : Func} {e : Array Value → Sem Value} {ps : List PV} {r : SV} (hf : P.funcs[f]? = some fn) (hname : (fn.name == "runtime.NumGoroutine") = false)
    (hb : fn.body.isNone = true) (hn : Extern.findNext fn = none) (he : Extern.find fn = some e)
    (h : ∀ (C : Ctx) (vs : List Value), vs.length = ps.length → (∀ (i : Nat) (p : PV), ps[i]? = some p → ∃ u : Value, vs[i]? = some u ∧ RPV C.w0 C.Sh C.rho0 (hOf []) u p) →
      ∃ v, (e vs.toArray).run P C.w0 = .ok v C.w0 ∧ RSV C.w0 C.Sh C.rho0 (hOf []) v r) : Ans P f ps [] fun r' h1 => r' = r ∧ h1 = [] := fun _ =>
  ⟨r, [], fun C vs hP hk hlen hargs hheap hno => by
    obtain ⟨v, h1, h2⟩ := h C vs hlen hargs
    unfold Serves
    rw [run_callFunc_extern hf hname hb hn he, h1]
    exact ⟨C.rho0, C.Sh, hheap, h2, fun id hid => absurd hid (Nat.not_lt_zero _), .refl _ _, fun _ h => h, fun k hk => ⟨(C.old k hk).1, .inl hk⟩⟩, rfl, rfl⟩
end Go.Fm
