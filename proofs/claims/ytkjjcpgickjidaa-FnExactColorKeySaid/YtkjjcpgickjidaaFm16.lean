import Derived.Test.YtkjjcpgickjidaaFm15
/-! The rule of calls: from what a function answers to what the call does. -/
namespace Go.Fm
set_option linter.unusedVariables false
open Classical

theorem argsP_rel {w : World} {Sh : Nat → Prop} {ρ : Rho} {h : Nat → HS} : ∀ {xs : List Value} {ps : List PV}, xs.length = ps.length →
    (∀ (i : Nat) (x : Value) (p : PV), xs[i]? = some x → ps[i]? = some p → RPV w Sh ρ h x p) → ∀ (i : Nat) (p : PV), ps[i]? = some p → ∃ u : Value, xs[i]? = some u ∧ RPV w Sh ρ h u p :=
  fun hl h i p hp => by
    have hi := (List.getElem?_eq_some_iff.1 hp).1
    exact ⟨_, List.getElem?_eq_getElem (by omega), h i _ p (List.getElem?_eq_getElem (by omega)) hp⟩

theorem call_actx {P : Program} {o : Oper} {φ : St} {nid : Nat} {c : Call} {x : Operand} {f : FuncId} {caps : List CV} {ps1 ps : List PV} {π : List Nat} {fuel : Nat} {rd1 rd2 : List Nat} {bs h1 : List HS} {r : SV}
    (ho : o.op = .call c) (hc : c.callee = .value x) (hx : φ.ev x = one (.fn f caps)) (hps : argsP (c.args.toList.map φ.ev) = some ps1)
    (hl : lendPs (lendP φ.heap π fuel) (ps1 ++ caps.map .one) = some (rd1, ps)) (hb : lendH φ.heap π fuel π = some (rd2, bs)) (hnd : nodB π = true) (hk : keepOk bs h1 = true)
    (hm : Meets P f ps bs r h1) : ActX P o φ nid (callA π nid (rd1 ++ rd2) bs.length r h1) := by
  intro C hP φ' a w hag hR hd K Q hK
  obtain ⟨C1, hreb, ρ, R⟩ := hR
  have hevx : φ'.ev x = φ.ev x := hag.env x (by simp [ho, Op.operands, Call.operands, hc])
  have hevs : c.args.toList.map φ'.ev = c.args.toList.map φ.ev := List.map_congr_left fun y hy => hag.env y (by simp only [ho, Op.operands, Call.operands]; exact Array.mem_append_right _ (by simpa using hy))
  have hag1 : ∀ y ∈ rd1 ++ rd2, φ'.heap y = φ.heap y := hag.hp
  have hl' := lendPs_congr hl (g' := lendP φ'.heap π fuel) (fun c c' r e1 e2 => lendP_congr e1 (fun y hy => hag1 y (List.mem_append_left _ (e2 y hy))))
  have hb' := lendH_congr hb (h' := φ'.heap) (fun y hy => hag1 y (List.mem_append_right _ hy))
  obtain ⟨hbl, hbm, hbg⟩ := lendH_some hb'
  have hlen1 : bs.length = π.length := hbl
  -- the callee's value and the arguments
  have hfx := R.ev x
  rw [hevx, hx] at hfx
  obtain ⟨vsc, hvx, hvl, hvp⟩ := hfx
  have hpm := argsP_some hps
  have hargs : ∀ (i : Nat) (p : PV), (ps1 ++ caps.map .one)[i]? = some p → ∃ u : Value, (c.args.toList.map a.eval ++ vsc)[i]? = some u ∧ RPV w C1.Sh ρ φ'.heap u p := by
    have hl1 : ps1.length = c.args.toList.length := by
      have := congrArg List.length hpm
      simpa using this.symm
    intro i p hp
    by_cases hi : i < ps1.length
    · rw [List.getElem?_append_left hi] at hp
      rw [List.getElem?_append_left (by simpa [← hl1] using hi)]
      have hi2 : i < c.args.toList.length := by omega
      refine ⟨a.eval c.args.toList[i], by rw [List.getElem?_map, List.getElem?_eq_getElem hi2]; rfl, ?_⟩
      have h1 := R.ev c.args.toList[i]
      have h2 : φ'.ev c.args.toList[i] = .pv p := by
        have : (c.args.toList.map φ'.ev)[i]? = some (.pv p) := by rw [hevs, hpm, List.getElem?_map, hp]; rfl
        rw [List.getElem?_map, List.getElem?_eq_getElem hi2] at this
        exact Option.some.inj this
      rw [h2] at h1
      exact h1
    · have hi := Nat.le_of_not_lt hi
      rw [List.getElem?_append_right hi] at hp
      rw [List.getElem?_append_right (by simpa [← hl1] using hi)]
      rw [List.getElem?_map] at hp
      cases hci : caps[i - ps1.length]? with
      | none => rw [hci] at hp; cases hp
      | some c0 =>
        rw [hci] at hp
        cases hp
        obtain ⟨u, hu, id, off, rfl, hr⟩ := hvp _ _ hci
        refine ⟨u, by simpa [← hl1] using hu, ?_⟩
        exact hr
  -- the callee's beginning
  let F : Nat → Prop := fun id => id ∈ rd1 ++ rd2
  let Sh2 : Nat → Prop := fun k => C1.Sh k ∨ ∃ id b L, φ'.heap id = .live b ∧ id ∉ π ∧ F id ∧ ρ id = some L ∧ L.b = k
  let ρ2 : Rho := fun j => (π[j]?).bind ρ
  let O2 : Nat → Prop := fun k => ∃ id b L, id ∈ π ∧ φ'.heap id = .live b ∧ ρ id = some L ∧ L.b = k
  have hbs : ∀ j id, π[j]? = some id → ∀ l, HLe (φ'.heap id) l (hOf bs j) l := fun j id hj l => by
    rcases hbg j id hj with ⟨e1, e2⟩ | ⟨b, cs, r, e1, e2, e3, e4⟩
    · rw [e1, hOf_get e2]; trivial
    · rw [e1, hOf_get e2]; exact ⟨rfl, rfl, rfl⟩
  have hρ2 : ∀ j id, π[j]? = some id → ρ2 j = ρ id := fun j id hj => by simp only [ρ2, hj, Option.bind_some]
  have H : Lent w C1.Sh ρ φ'.heap π F Sh2 ρ2 (hOf bs) :=
    ⟨R.hp.blk, fun k hk => .inl hk, fun id b L e1 e2 e3 e4 => .inr ⟨id, b, L, e1, e2, e3, e4, rfl⟩, fun j id hj => ⟨hρ2 j id hj, fun _ => hbs j id hj _⟩⟩
  have hold : ∀ k, Sh2 k → k < w.heap.size ∧ ¬ O2 k := fun k hk => by
    rcases hk with hk | ⟨id, b, L, e1, e2, e3, e4, rfl⟩
    · exact ⟨R.sh_lt hk, fun ⟨id, b, L, e0, e1, e2, e3⟩ => (R.hp.own id b L e1 e2).2.1 (e3 ▸ hk)⟩
    · refine ⟨(R.hp.own id b L e1 e4).1, fun ⟨id', b', L', g0, g1, g2, g3⟩ => ?_⟩
      have := R.hp.inj id' id b' b L' L g1 e1 g2 e4 g3
      exact e2 (this ▸ g0)
  let C2 : Ctx := { P := C1.P, w0 := w, Sh := Sh2, O := O2, rho0 := ρ2, k0 := bs.length, nt := 0, old := hold }
  have hlive : ∀ j b', hOf bs j = .live b' → ∃ id b r, π[j]? = some id ∧ φ'.heap id = .live b ∧ b'.sz = b.sz ∧ b'.n = b.n ∧ lendAll (lendC φ'.heap π fuel) b.cs = some (r, b'.cs) ∧ ∀ y ∈ r, y ∈ rd2 := fun j b' hj => by
    have hjl := hOf_ne (l := bs) (j := j) (by rw [hj]; simp)
    have hjl' : j < π.length := by omega
    rcases hbg j _ (List.getElem?_eq_getElem hjl') with ⟨e1, e2⟩ | ⟨b, cs, r, e1, e2, e3, e4⟩
    · rw [hOf_get e2] at hj; cases hj
    · rw [hOf_get e2] at hj; cases hj; exact ⟨_, b, r, List.getElem?_eq_getElem hjl', e1, rfl, rfl, e3, e4⟩
  have hnd' := nodB_spec hnd
  have hHR : HeapRel w Sh2 O2 ρ2 (hOf bs) w := by
    refine ⟨fun j b' hj => ?_, fun j b' L hj hL => ?_, fun j j' b b' L L' hj hj' hL hL' he => ?_⟩
    · obtain ⟨id, b, r, e0, e1, e2, e3, e4, e5⟩ := hlive j b' hj
      have hB := R.hp.blk id b e1
      unfold RB at hB ⊢
      rw [hρ2 j id e0]
      obtain ⟨g1, g2⟩ := lendAll_some e4
      cases hL : ρ id with
      | none =>
        rw [hL] at hB
        simp only at hB ⊢
        rw [hB.1] at g1
        exact ⟨List.eq_nil_of_length_eq_zero g1, by rw [e3]; exact hB.2⟩
      | some L =>
        rw [hL] at hB
        simp only at hB ⊢
        refine ⟨by rw [g1, e2, e3]; exact hB.1, by rw [g1]; exact hB.2.1, hB.2.2.1, fun i c' hc' => ?_⟩
        obtain ⟨c0, r0, f1, f2, f3⟩ := g2 i c' hc'
        obtain ⟨u, hu, hr⟩ := hB.2.2.2 i c0 f1
        exact ⟨u, hu, lendC_ok H fuel c0 c' r0 u f2 (fun y hy => List.mem_append_right _ (e5 y (f3 y hy))) hr⟩
    · obtain ⟨id, b, r, e0, e1, _⟩ := hlive j b' hj
      rw [hρ2 j id e0] at hL
      obtain ⟨g1, g2, g3⟩ := R.hp.own id b L e1 hL
      have hO : O2 L.b := ⟨id, b, L, List.mem_of_getElem? e0, e1, hL, rfl⟩
      exact ⟨g1, fun h => (hold _ h).2 hO, .inr hO⟩
    · obtain ⟨id, b0, r, e0, e1, _⟩ := hlive j b hj
      obtain ⟨id', b0', r', e0', e1', _⟩ := hlive j' b' hj'
      rw [hρ2 j id e0] at hL
      rw [hρ2 j' id' e0'] at hL'
      have := R.hp.inj id id' b0 b0' L L' e1 e1' hL hL' he
      subst this
      exact hnd' j j' id e0 e0'
  have hbno : ∀ id, id < bs.length → hOf bs id ≠ .no := fun j hj => by
    rcases hbg j _ (List.getElem?_eq_getElem (by omega)) with ⟨e1, e2⟩ | ⟨b, cs, r, e1, e2, e3, e4⟩
    · rw [hOf_get e2]; simp
    · rw [hOf_get e2]; simp
  obtain ⟨hpl, hpg⟩ := lendPs_some hl'
  have hvlen : (c.args.toList.map a.eval ++ vsc).length = ps.length := by
    rw [hpl]
    have := congrArg List.length hpm
    simp only [List.length_map] at this
    simp only [List.length_append, List.length_map, this, hvl]
  have hserve := hm C2 (c.args.toList.map a.eval ++ vsc) (hreb.P.trans hP) rfl hvlen (fun i p hp => by
    obtain ⟨p0, r0, e1, e2, e3⟩ := hpg i p hp
    obtain ⟨u, hu, hr⟩ := hargs i p0 e1
    exact ⟨u, hu, lendP_ok H e2 (fun y hy => List.mem_append_left _ (e3 y hy)) hr⟩) hHR hbno
  -- the run
  have hrun : (execOp a.eval o).run P w = (callFunc f (c.args.toList.map a.eval ++ vsc).toArray).run P w := by
    have : (c.args.toList.map a.eval ++ vsc).toArray = c.args.map a.eval ++ vsc.toArray := by
      apply Array.ext'
      simp
    simp [execOp, ho, resolve, hc, hvx, Deferred.ofValue, invoke, this]
  have hfin : ∀ (v : Value) (w' : World), (∃ (ρ' : Rho) (Sh' : Nat → Prop), HeapRel w Sh' O2 ρ' (hOf h1) w' ∧ RSV w' Sh' ρ' (hOf h1) v r ∧
      (∀ id, id < bs.length → hOf h1 id ≠ .no ∧ ρ' id = ρ2 id) ∧ Fr w O2 w' ∧ (∀ k, Sh2 k → Sh' k) ∧
      (∀ k, Sh' k → k < w'.heap.size ∧ (Sh2 k ∨ w.heap.size ≤ k ∨ O2 k))) → K (a.put o.dst v) w' := by
    intro v w' ⟨ρ', Sh', g1, g2, g3, g4, g5, g6⟩
    have hkb := keepOk_get hk
    obtain ⟨C3, ρ3, hreb3, R3, hv3⟩ := merge R (π := π) (nid := nid) (Sh2 := Sh2) (O2 := O2) (Sh' := Sh') (bs := bs) (h1 := h1) (keep := allIn π (rd1 ++ rd2)) (ρ2 := ρ2) (ρ' := ρ') (w' := w') hnd' hlen1
      (fun id hid => by
        obtain ⟨j, hj⟩ := List.getElem?_of_mem hid
        rcases hbg j id hj with ⟨e1, _⟩ | ⟨b, cs, r, e1, _⟩ <;> rw [e1] <;> simp)
      (fun i hi => by
        have hg : (backHp (sig π bs.length nid) (allIn π (rd1 ++ rd2)) 0 h1)[bs.length + i]? = some (nid + i, backH (sig π bs.length nid) (allIn π (rd1 ++ rd2)) h1[bs.length + i]) := by
          rw [backHp_get, List.getElem?_eq_getElem hi]
          simp only [Option.map_some, Nat.zero_add, sig]
          rw [if_neg (by omega), Nat.add_sub_cancel_left]
        exact hag.fresh _ (List.mem_of_getElem? hg) (Nat.le_add_right _ _))
      (fun k hk => .inl hk)
      (fun hkp k hk => by
        rcases hk with hk | ⟨id, b, L, _, e2, e3, _⟩
        · exact hk
        · exact absurd (allIn_mem hkp id e3) e2)
      (fun k ⟨id, b, L, e0, e1, e2, e3⟩ => ⟨id, b, L, e0, e1, e2, e3⟩) hρ2
      (fun j id hj l => by
        have hj' : j < bs.length := by have := (List.getElem?_eq_some_iff.1 hj).1; omega
        have q1 := hbs j id hj l
        have q2 := hkb j hj' l
        cases hs : φ'.heap id with
        | no => trivial
        | dead =>
          rw [hs] at q1
          cases hs2 : hOf bs j with
          | dead => rw [hs2] at q2; exact q2
          | _ => rw [hs2] at q1; exact q1.elim
        | live b =>
          rw [hs] at q1
          cases hs2 : hOf bs j with
          | no => rw [hs2] at q1; exact q1.elim
          | dead =>
            rw [hs2] at q2
            cases hs3 : hOf h1 j with
            | dead => trivial
            | _ => rw [hs3] at q2; exact q2.elim
          | live b' =>
            rw [hs2] at q1 q2
            cases hs3 : hOf h1 j with
            | no => rw [hs3] at q2; exact q2.elim
            | dead => trivial
            | live b'' => rw [hs3] at q2; exact ⟨q2.1.trans q1.1, q2.2.1.trans q1.2.1, rfl⟩)
      g1 g3 g4 g5 g6
    refine hK _ _ ⟨C3, hreb.trans hreb3, ρ3, ?_⟩
    exact R3.put (fun t ht => by rw [(hreb.trans hreb3).nt]; exact hd t ht) (hv3 v r g2)
  unfold Oper.wp
  rw [hrun]
  unfold Serves at hserve
  generalize (callFunc f (c.args.toList.map a.eval ++ vsc).toArray).run P w = res at hserve ⊢
  cases res with
  | halt h w' => exact hserve.elim
  | ok n w' =>
    cases n <;> try exact hserve.elim
    · exact hfin _ _ hserve
    · rename_i g as
      refine Calls.mono hserve fun e w'' he => ?_
      cases e with
      | returned v => exact hfin v w'' he
      | panicked ch => exact he.elim
      | outgrown => exact he.elim

end Go.Fm
