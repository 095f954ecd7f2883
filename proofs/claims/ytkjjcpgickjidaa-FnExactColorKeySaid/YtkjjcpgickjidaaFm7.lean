import Derived.Test.YtkjjcpgickjidaaFm6
/-! Each operation of the machine is what the model's operation does: structs compared, conversions. -/
namespace Go.Fm
set_option linter.unusedVariables false
set_option linter.unusedSimpArgs false
variable {P : Program} {o : Oper} {φ : St} {nid : Nat}

section
variable {w : World} {Sh : Nat → Prop} {ρ : Rho} {h : Nat → HS}
theorem RV.int {u : Value} {k : IntKind} {n : Int} (hv : RV w Sh ρ h u (.int k n)) : u = .int k n := by cases hv; rfl
theorem RV.bool {u : Value} {b : Bool} (hv : RV w Sh ρ h u (.bool b)) : u = .bool b := by cases hv; rfl
theorem RV.str {u : Value} {l : List UInt8} (hv : RV w Sh ρ h u (.str l)) : ∃ s : ByteArray, u = .string s ∧ s.data.toList = l := by cases hv; exact ⟨_, rfl, rfl⟩
end

theorem part_run {t : TypeId} (hb : aggF P t = some false) {cs : Array Value} {off : Nat} {u : Value} (hu : cs[off]? = some u) (w : World) : (part t cs off).run P w = .ok u w := by
  simp [part, aggF_run hb, hu]

theorem eqCs_int {ks : List Nat} {a b : List CV} {r : Bool} (he : eqCs (0 :: ks) a b = some r) : ∃ k x y a' b' r', a = .int k x :: a' ∧ b = .int k y :: b' ∧ eqCs ks a' b' = some r' ∧ r = ((x == y) && r') := by
  match a, b, he with
  | .int k x :: a', .int k' y :: b', he =>
    simp only [eqCs] at he
    split at he
    · rename_i hkk
      subst hkk
      obtain ⟨r', hr', rfl⟩ := Option.map_eq_some_iff.1 he
      exact ⟨_, _, _, _, _, _, rfl, rfl, hr', rfl⟩
    · cases he
theorem eqCs_bool {ks : List Nat} {a b : List CV} {r : Bool} (he : eqCs (1 :: ks) a b = some r) : ∃ x y a' b' r', a = .bool x :: a' ∧ b = .bool y :: b' ∧ eqCs ks a' b' = some r' ∧ r = ((x == y) && r') := by
  match a, b, he with
  | .bool x :: a', .bool y :: b', he =>
    simp only [eqCs] at he
    obtain ⟨r', hr', rfl⟩ := Option.map_eq_some_iff.1 he
    exact ⟨_, _, _, _, _, rfl, rfl, hr', rfl⟩
theorem eqCs_str {ks : List Nat} {a b : List CV} {r : Bool} (he : eqCs (2 :: ks) a b = some r) : ∃ x y a' b' r', a = .str x :: a' ∧ b = .str y :: b' ∧ eqCs ks a' b' = some r' ∧ r = ((x == y) && r') := by
  match a, b, he with
  | .str x :: a', .str y :: b', he =>
    simp only [eqCs] at he
    obtain ⟨r', hr', rfl⟩ := Option.map_eq_some_iff.1 he
    exact ⟨_, _, _, _, _, rfl, rfl, hr', rfl⟩

theorem eq_loop {w : World} {Sh : Nat → Prop} {ρ : Rho} {h : Nat → HS} (d : Nat) (xs ys : Array Value) : ∀ (fs : List Field) (i : Nat) (ks : List Nat) (a b : List CV) (r : Bool),
    flatL P i fs = some ks → eqCs ks a b = some r → (∀ (j : Nat) (c : CV), a[j]? = some c → ∃ u, xs[i + j]? = some u ∧ RV w Sh ρ h u c) → (∀ (j : Nat) (c : CV), b[j]? = some c → ∃ u, ys[i + j]? = some u ∧ RV w Sh ρ h u c) →
    (forIn fs ((none, ()) : Option Bool × Unit) fun f __s =>
            if f.name ≠ "_" then do
              let x ← part f.type xs f.offset
              let y ← part f.type ys f.offset
              let e ← Op.equalIn (d + 1) f.type x y
              if (!e) = true then pure (ForInStep.done (some false, ())) else pure (ForInStep.yield (none, ()))
            else (pure (ForInStep.yield (none, ())) : Sem _)).run P w = .ok (if r then (none, ()) else (some false, ())) w
  | [], i, ks, a, b, r, hf, he, _, _ => by
    simp only [flatL, Option.some.injEq] at hf
    subst hf
    match a, b, he with
    | [], [], he => simp only [eqCs, Option.some.injEq] at he; subst he; rfl
  | f :: fs, i, ks, a, b, r, hf, he, ha, hb => by
    simp only [flatL] at hf
    split at hf
    · rename_i hn
      obtain ⟨hname, hoff⟩ := hn
      have step : ∀ (u v : Value) (e r' : Bool) (ks' : List Nat) (a' b' : List CV) (c1 c2 : CV), aggF P f.type = some false → xs[i]? = some u → ys[i]? = some v → (Op.equalIn (d + 1) f.type u v).run P w = .ok e w →
          flatL P (i + 1) fs = some ks' → eqCs ks' a' b' = some r' → a = c1 :: a' → b = c2 :: b' → r = (e && r') → 
          (forIn (f :: fs) ((none, ()) : Option Bool × Unit) fun f __s =>
            if f.name ≠ "_" then do
              let x ← part f.type xs f.offset
              let y ← part f.type ys f.offset
              let e ← Op.equalIn (d + 1) f.type x y
              if (!e) = true then pure (ForInStep.done (some false, ())) else pure (ForInStep.yield (none, ()))
            else (pure (ForInStep.yield (none, ())) : Sem _)).run P w = .ok (if r then (none, ()) else (some false, ())) w := by
        intro u v e r' ks' a' b' c1 c2 hagg hu hv hrun hfl heq ea eb er
        subst ea eb er
        have ih := eq_loop d xs ys fs (i + 1) ks' a' b' r' hfl heq (fun j c hc => by
            have := ha (j + 1) c (by simpa using hc)
            rwa [show i + (j + 1) = i + 1 + j by omega] at this) (fun j c hc => by
            have := hb (j + 1) c (by simpa using hc)
            rwa [show i + (j + 1) = i + 1 + j by omega] at this)
        rw [List.forIn_cons]
        simp only [hname, ne_eq, not_false_eq_true, if_true, Sem.run_bind, hoff, part_run hagg hu, part_run hagg hv, hrun, Result.andThen_ok, Sem.run_ite, Sem.run_pure]
        cases e with
        | true => simpa [hoff] using ih
        | false => simp
      have hagg : ∀ dsc, P.underlying f.type = some dsc → (match dsc with | .struct _ | .array _ _ => true | _ => false) = false → aggF P f.type = some false := by
        intro dsc h1 h2; simp only [aggF, h1, Option.map_some]; cases dsc <;> simp_all
      split at hf
      · rename_i kk hu
        obtain ⟨ks', hk, rfl⟩ := Option.map_eq_some_iff.1 hf
        obtain ⟨k, x, y, a', b', r', ea, eb, hr', er⟩ := eqCs_int he
        obtain ⟨u, hu1, hu2⟩ := ha 0 _ (by rw [ea]; rfl)
        obtain ⟨v, hv1, hv2⟩ := hb 0 _ (by rw [eb]; rfl)
        refine step u v (x == y) r' ks' a' b' _ _ (hagg _ hu rfl) hu1 hv1 ?_ hk hr' ea eb er
        rw [hu2.int, hv2.int]
        simp [Op.equalIn, run_underlying hu]
      · rename_i hu
        obtain ⟨ks', hk, rfl⟩ := Option.map_eq_some_iff.1 hf
        obtain ⟨x, y, a', b', r', ea, eb, hr', er⟩ := eqCs_bool he
        obtain ⟨u, hu1, hu2⟩ := ha 0 _ (by rw [ea]; rfl)
        obtain ⟨v, hv1, hv2⟩ := hb 0 _ (by rw [eb]; rfl)
        refine step u v (x == y) r' ks' a' b' _ _ (hagg _ hu rfl) hu1 hv1 ?_ hk hr' ea eb er
        rw [hu2.bool, hv2.bool]
        simp [Op.equalIn, run_underlying hu]
      · rename_i hu
        obtain ⟨ks', hk, rfl⟩ := Option.map_eq_some_iff.1 hf
        obtain ⟨x, y, a', b', r', ea, eb, hr', er⟩ := eqCs_str he
        obtain ⟨u, hu1, hu2⟩ := ha 0 _ (by rw [ea]; rfl)
        obtain ⟨v, hv1, hv2⟩ := hb 0 _ (by rw [eb]; rfl)
        refine step u v (x == y) r' ks' a' b' _ _ (hagg _ hu rfl) hu1 hv1 ?_ hk hr' ea eb er
        obtain ⟨s1, e1, l1⟩ := hu2.str
        obtain ⟨s2, e2, l2⟩ := hv2.str
        rw [e1, e2, ← l1, ← l2]
        simp only [Op.equalIn, Sem.run_bind, run_underlying hu, Result.andThen_ok, Sem.run_pure]
        congr 1
        rw [show (s1 == s2) = (s1.data == s2.data) from rfl, Bool.eq_iff_iff]
        simp
      · cases hf
    · cases hf


theorem ok_bin_agg {op : BinOp} {t yt : TypeId} {x y : Operand} {K : CV → Prop} {a b : List CV} (ho : o.op = .binOp op t x y yt)
    (hx : φ.ev x = .pv (.agg a)) (hy : φ.ev y = .pv (.agg b)) (h : kBin P op t (.pv (.agg a)) (.pv (.agg b)) K) : ∃ c, ActOk P o φ nid ⟨[], one c, []⟩ ∧ K c := by
  have key : ∀ ks r, flatF P t = some ks → eqCs ks a b = some r → ∀ (c : Bool), K (.bool c) → (op = .eql ∧ c = r ∨ op = .neq ∧ c = !r) → ∃ c, ActOk P o φ nid ⟨[], one c, []⟩ ∧ K c := by
    intro ks r hf he c hK hop
    refine ⟨.bool c, .quiet fun C φ' ac w ρ hP hag R => ?_, hK⟩
    have h1 := R.ev x
    have h2 := R.ev y
    rw [hag.env x (by simp [ho, Op.operands]), hx] at h1
    rw [hag.env y (by simp [ho, Op.operands]), hy] at h2
    obtain ⟨vs, e1, l1, p1⟩ := h1
    obtain ⟨us, e2, l2, p2⟩ := h2
    unfold flatF at hf
    split at hf
    · rename_i fs hu
      split at hf
      · rename_i hst
        have hl := eq_loop (P := P) (w := w) (Sh := C.Sh) (ρ := ρ) (h := φ'.heap) 9998 vs.toArray us.toArray fs.toList 0 ks a b r hf he (fun j c hc => by simpa using p1 j c hc) (fun j c hc => by simpa using p2 j c hc)
        have hl' : (Op.equal t (.agg vs.toArray) (.agg us.toArray)).run P w = .ok r w := by
          unfold Op.equal Op.maxDepth
          rw [show (10000 : Nat) = 9998 + 1 + 1 from rfl]
          unfold Op.equalIn
          simp only [Sem.run_bind, run_underlying hu, Result.andThen_ok, run_program, hst.1, Bool.false_eq_true, if_false]
          rw [← Array.forIn_toList, hl]
          cases r <;> rfl
        have hg : (eqGuard op t x y (.agg vs.toArray) (.agg us.toArray)).run P w = .ok () w := by
          unfold eqGuard
          rcases hop with ⟨rfl, _⟩ | ⟨rfl, _⟩ <;> simp [hst.2]
        refine ⟨.bool c, ?_, .of_RI (.bool _)⟩
        rcases hop with ⟨rfl, rfl⟩ | ⟨rfl, rfl⟩
        · simp only [execOp, ho, e1, e2, Sem.run_bind, hg, Result.andThen_ok, binOp, hl', Sem.run_pure]
        · simp only [execOp, ho, e1, e2, Sem.run_bind, hg, Result.andThen_ok, binOp, hl', Sem.run_pure]
      · cases hf
    · cases hf
  simp only [kBin] at h
  cases op <;> simp only at h <;> try exact h.elim
  · obtain ⟨ks, hk, h⟩ := kO_elim h
    obtain ⟨r, hr, h⟩ := kO_elim h
    exact key ks r hk hr r h (.inl ⟨rfl, rfl⟩)
  · obtain ⟨ks, hk, h⟩ := kO_elim h
    obtain ⟨r, hr, h⟩ := kO_elim h
    exact key ks r hk hr (!r) h (.inr ⟨rfl, rfl⟩)

theorem ok_bin {op : BinOp} {t yt : TypeId} {x y : Operand} {K : CV → Prop} (ho : o.op = .binOp op t x y yt) (h : kBin P op t (φ.ev x) (φ.ev y) K) : ∃ c, ActOk P o φ nid ⟨[], one c, []⟩ ∧ K c := by
  generalize hx : φ.ev x = sx at h
  generalize hy : φ.ev y = sy at h
  have h0 := h
  unfold kBin at h
  split at h
  · exact ok_bin_int ho hx hy h0
  · exact ok_bin_str ho hx hy h0
  · rename_i a b
    have key : ∀ c, K (.bool c) → kindF P t = .bool → (op = .eql ∧ c = (a == b) ∨ op = .neq ∧ c = (a != b)) → ∃ c, ActOk P o φ nid ⟨[], one c, []⟩ ∧ K c := by
      intro c hK hk hop
      refine ⟨.bool c, .quiet fun C φ' ac w ρ hP hag R => ?_, hK⟩
      have h1 := R.ev x
      have h2 := R.ev y
      rw [hag.env x (by simp [ho, Op.operands]), hx] at h1
      rw [hag.env y (by simp [ho, Op.operands]), hy] at h2
      refine ⟨.bool c, ?_, .of_RI (.bool _)⟩
      have he : (Op.equal t (.bool a) (.bool b)).run P w = .ok (a == b) w := by
        unfold Op.equal Op.maxDepth
        rw [show (10000 : Nat) = 9999 + 1 from rfl]
        unfold Op.equalIn
        simp [run_underlying (kindF_bool hk)]
      rcases hop with ⟨rfl, rfl⟩ | ⟨rfl, rfl⟩
      · simp only [execOp, ho, h1.bool, h2.bool, Sem.run_bind, eqGuard_at_bool, Sem.run_pure, Result.andThen_ok, binOp, he]
      · simp only [execOp, ho, h1.bool, h2.bool, Sem.run_bind, eqGuard_at_bool, Sem.run_pure, Result.andThen_ok, binOp, he, bne]
    split at h
    · exact key _ h (by assumption) (.inl ⟨rfl, rfl⟩)
    · exact key _ h (by assumption) (.inr ⟨rfl, rfl⟩)
    · exact h.elim
  · have key : ∀ c, K (.bool c) → kindF P t = .iface → (op = .eql ∧ c = false ∨ op = .neq ∧ c = true) → ∃ c, ActOk P o φ nid ⟨[], one c, []⟩ ∧ K c := by
      intro c hK hk hop
      refine ⟨.bool c, .quiet fun C φ' ac w ρ hP hag R => ?_, hK⟩
      have h1 := R.ev x
      have h2 := R.ev y
      rw [hag.env x (by simp [ho, Op.operands]), hx] at h1
      rw [hag.env y (by simp [ho, Op.operands]), hy] at h2
      obtain ⟨ms, hms⟩ := kindF_iface hk
      have h1' : RI w C.Sh (ac.eval x) .opq := h1
      have h2' : RI w C.Sh (ac.eval y) .nili := h2
      generalize hv1 : ac.eval x = v1 at h1'
      generalize hv2 : ac.eval y = v2 at h2'
      cases h1' with
      | opq tt vv =>
      cases h2' with
      | nili =>
      refine ⟨.bool c, ?_, .of_RI (.bool _)⟩
      have he : (Op.equal t (.iface tt vv) .nilIface).run P w = .ok false w := by
        unfold Op.equal Op.maxDepth
        rw [show (10000 : Nat) = 9999 + 1 from rfl]
        unfold Op.equalIn
        simp [run_underlying hms]
      rcases hop with ⟨rfl, rfl⟩ | ⟨rfl, rfl⟩
      · simp only [execOp, ho, hv1, hv2, Sem.run_bind, eqGuard_at_iface, Sem.run_pure, Result.andThen_ok, binOp, he]
      · simp only [execOp, ho, hv1, hv2, Sem.run_bind, eqGuard_at_iface, Sem.run_pure, Result.andThen_ok, binOp, he, Bool.not_false]
    split at h
    · exact key _ h (by assumption) (.inl ⟨rfl, rfl⟩)
    · exact key _ h (by assumption) (.inr ⟨rfl, rfl⟩)
    · exact h.elim
  · exact ok_bin_agg ho hx hy h0
  · exact h.elim

end Go.Fm
