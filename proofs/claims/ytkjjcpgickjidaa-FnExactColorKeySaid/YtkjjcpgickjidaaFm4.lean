import Derived.Test.YtkjjcpgickjidaaFm3
/-! Each operation of the machine is what the model's operation does: those that turn no memory. -/
namespace Go.Fm
set_option linter.unusedVariables false
set_option linter.unusedSimpArgs false

structure Agree (φ φ' : St) (o : Oper) (nid : Nat) (A : Action) : Prop where
  env : ∀ x ∈ o.op.operands, φ'.ev x = φ.ev x
  hp : ∀ id ∈ A.rd, φ'.heap id = φ.heap id
  fresh : ∀ p ∈ A.hp, nid ≤ p.1 → φ'.heap p.1 = .no

/-- The action is what the operation does, wherever what it reads is as told. -/
def ActOk (P : Program) (o : Oper) (φ : St) (nid : Nat) (A : Action) : Prop :=
  ∀ (C : Ctx), C.P = P → ∀ φ' a w, Agree φ φ' o nid A → Rel C φ' a w → (∀ d, o.dst = some d → d < C.nt) →
    ∀ (K : Act → World → Prop) (Q : Exit → Act → World → Prop), (∀ a' w', Rel C (φ'.app o.dst A) a' w' → K a' w') → o.wp P a w K Q

/-- What is to be shown of an operation: its run, and where that leads. -/
def Goes (P : Program) (o : Oper) (C : Ctx) (φ' : St) (a : Act) (w : World) (ρ : Rho) (A : Action) : Prop :=
  ∃ v w' ρ', ((execOp a.eval o).run P w = .ok (.value v) w' ∨ (execOp a.eval o).run P w = .ok .skip w' ∧ v = undef) ∧
    RelAt C ρ' { φ' with heap := heapOf φ'.heap A.hp } a w' ∧ RSV w' C.Sh ρ' (heapOf φ'.heap A.hp) v A.val

theorem ActOk.mk {P : Program} {o : Oper} {φ : St} {nid : Nat} {A : Action}
    (h : ∀ (C : Ctx) (φ' : St) (a : Act) (w : World) (ρ : Rho), C.P = P → Agree φ φ' o nid A → RelAt C ρ φ' a w → Goes P o C φ' a w ρ A) : ActOk P o φ nid A := by
  intro C hP φ' a w hag hR hd K Q hK
  obtain ⟨ρ, R⟩ := hR
  obtain ⟨v, w', ρ', hrun, R', hv⟩ := h C φ' a w ρ hP hag R
  have hr := R'.put hd hv
  unfold Oper.wp
  rcases hrun with hrun | ⟨hrun, rfl⟩
  · rw [hrun]
    exact hK _ _ ⟨ρ', hr⟩
  · rw [hrun]
    exact hK _ _ ⟨ρ', hr⟩

/-- No memory turns. -/
theorem ActOk.quiet {P : Program} {o : Oper} {φ : St} {nid : Nat} {rd : List Nat} {sv : SV}
    (h : ∀ (C : Ctx) (φ' : St) (a : Act) (w : World) (ρ : Rho), C.P = P → Agree φ φ' o nid ⟨rd, sv, []⟩ → RelAt C ρ φ' a w →
      ∃ v, (execOp a.eval o).run P w = .ok (.value v) w ∧ RSV w C.Sh ρ φ'.heap v sv) : ActOk P o φ nid ⟨rd, sv, []⟩ :=
  .mk fun C φ' a w ρ hP hag R => by
    obtain ⟨v, hrun, hv⟩ := h C φ' a w ρ hP hag R
    exact ⟨v, w, ρ, .inl hrun, R, hv⟩

theorem constCV_ok (w : World) (Sh : Nat → Prop) (ρ : Rho) (h : Nat → HS) (v : Value) (hv : v.oneCell' = true) : RV w Sh ρ h v (constCV v) := by
  unfold constCV
  split
  · exact .int _ _
  · exact .bool _
  · exact .str _
  · exact .emp _
  · exact .nilp
  · exact .nili
  · exact hv

theorem constSV_ok (w : World) (Sh : Nat → Prop) (ρ : Rho) (h : Nat → HS) (v : Value) : RSV w Sh ρ h v (constSV v) := by
  unfold constSV
  split
  · rename_i vs
    split
    · rename_i ha
      refine ⟨vs.toList, rfl, by simp, fun i c hc => ?_⟩
      rw [List.getElem?_map] at hc
      cases hu : vs.toList[i]? with
      | none => rw [hu] at hc; cases hc
      | some u =>
        rw [hu] at hc
        cases hc
        exact ⟨u, rfl, constCV_ok _ _ _ _ _ (List.all_eq_true.1 ha u (List.mem_of_getElem? hu))⟩
    · trivial
  · rename_i hn
    cases v with
    | agg vs => exact absurd rfl (hn vs)
    | tuple vs => trivial
    | _ => exact RSV.of_one (constCV_ok _ _ _ _ _ rfl)

theorem RelAt.ev {C : Ctx} {ρ : Rho} {φ : St} {a : Act} {w : World} (R : RelAt C ρ φ a w) (x : Operand) : RSV w C.Sh ρ φ.heap (a.eval x) (φ.ev x) := by
  cases x with
  | tmp t => exact R.env t
  | const v => exact constSV_ok _ _ _ _ _
  | global g => trivial
  | func f =>
    refine RSV.of_one ?_
    exact ⟨[], rfl, rfl, fun i c hc => by simp at hc⟩

section elim
variable {w : World} {Sh : Nat → Prop} {ρ : Rho} {h : Nat → HS} {v : Value}
theorem RSV.int {k : IntKind} {n : Int} (hv : RSV w Sh ρ h v (Fm.one (.int k n))) : v = .int k n := by cases hv; rfl
theorem RSV.bool {b : Bool} (hv : RSV w Sh ρ h v (Fm.one (.bool b))) : v = .bool b := by cases hv; rfl
theorem RSV.str {l : List UInt8} (hv : RSV w Sh ρ h v (Fm.one (.str l))) : ∃ s : ByteArray, v = .string s ∧ s.data.toList = l := by cases hv; exact ⟨_, rfl, rfl⟩
theorem RSV.agg {cs : List CV} (hv : RSV w Sh ρ h v (.pv (.agg cs))) : ∃ vs : List Value, v = .agg vs.toArray ∧ vs.length = cs.length ∧ ∀ (i : Nat) (c : CV), cs[i]? = some c → ∃ u : Value, vs[i]? = some u ∧ RV w Sh ρ h u c := hv
theorem SV.kI_elim {x : SV} {K : IntKind → Int → Prop} (h : x.kI K) : ∃ k n, x = Fm.one (.int k n) ∧ K k n := by
  unfold SV.kI at h; split at h
  · exact ⟨_, _, rfl, h⟩
  · exact h.elim
theorem SV.kB_elim {x : SV} {K : Bool → Prop} (h : x.kB K) : ∃ b, x = Fm.one (.bool b) ∧ K b := by
  unfold SV.kB at h; split at h
  · exact ⟨_, rfl, h⟩
  · exact h.elim
theorem SV.kS_elim {x : SV} {K : List UInt8 → Prop} (h : x.kS K) : ∃ l, x = Fm.one (.str l) ∧ K l := by
  unfold SV.kS at h; split at h
  · exact ⟨_, rfl, h⟩
  · exact h.elim
theorem SV.kA_elim {x : SV} {K : List CV → Prop} (h : x.kA K) : ∃ cs, x = .pv (.agg cs) ∧ K cs := by
  unfold SV.kA at h; split at h
  · exact ⟨_, rfl, h⟩
  · exact h.elim
theorem SV.kT_elim {x : SV} {K : List PV → Prop} (h : x.kT K) : ∃ ps, x = .tup ps ∧ K ps := by
  unfold SV.kT at h; split at h
  · exact ⟨_, rfl, h⟩
  · exact h.elim
theorem kO_elim {α : Type} {x : Option α} {K : α → Prop} (h : kO x K) : ∃ y, x = some y ∧ K y := by
  unfold kO at h; split at h
  · exact ⟨_, rfl, h⟩
  · exact h.elim
theorem kLive_elim {x : HS} {K : Blk → Prop} (h : kLive x K) : ∃ y, x = .live y ∧ K y := by
  unfold kLive at h; split at h
  · exact ⟨_, rfl, h⟩
  · exact h.elim
theorem SV.kPtr_elim {x : SV} {K : Nat → Nat → Prop} {K2 : List CV → Prop} (h : x.kPtr K K2) : (∃ id off, x = Fm.one (.ptr id off) ∧ K id off) ∨ (∃ cs, x = Fm.one (.ip cs) ∧ K2 cs) := by
  unfold SV.kPtr at h; split at h
  · exact .inl ⟨_, _, rfl, h⟩
  · exact .inr ⟨_, rfl, h⟩
  · exact h.elim
theorem SV.kSl_elim {x : SV} {K : Nat → Nat → Nat → Prop} {K2 : Nat → Nat → List CV → Prop} {K3 : Prop} (h : x.kSl K K2 K3) :
    (∃ id lo n, x = Fm.one (.arr id lo n) ∧ K id lo n) ∨ (∃ sz n cs, x = Fm.one (.imm sz n cs) ∧ K2 sz n cs) ∨ (x = Fm.one .emp ∧ K3) := by
  unfold SV.kSl at h; split at h
  · exact .inl ⟨_, _, _, rfl, h⟩
  · exact .inr (.inl ⟨_, _, _, rfl, h⟩)
  · exact .inr (.inr ⟨rfl, h⟩)
  · exact h.elim
/-- The cells of a value that may be stored, as the model has them. -/
theorem SV.kC_elim {x : SV} {K : List CV → Prop} (hx : x.kC K) : ∃ cs, K cs ∧ ∀ (w : World) (Sh : Nat → Prop) (ρ : Rho) (h : Nat → HS) (v : Value), RSV w Sh ρ h v x →
    v.cells.size = cs.length ∧ ∀ (i : Nat) (c : CV), cs[i]? = some c → ∃ u : Value, v.cells.toList[i]? = some u ∧ RV w Sh ρ h u c := by
  unfold SV.kC at hx; split at hx
  · exact hx.elim
  · rename_i c hc
    refine ⟨[c], hx, fun w Sh ρ h v hv => ?_⟩
    have hv' : RV w Sh ρ h v c := by
      cases c <;> first | exact hv | exact absurd rfl hc
    have h1 := hv'.one
    have hcs : v.cells = #[v] := by cases v <;> simp_all [Value.oneCell', Value.cells]
    rw [hcs]
    refine ⟨rfl, fun i c' hc' => ?_⟩
    cases i with
    | zero => simp at hc'; subst hc'; exact ⟨v, rfl, hv'⟩
    | succ i => simp at hc'
  · rename_i cs
    refine ⟨cs, hx, fun w Sh ρ h v hv => ?_⟩
    obtain ⟨vs, rfl, hl, hp⟩ := hv
    exact ⟨by simp [Value.cells, hl], fun i c hc => by simpa [Value.cells] using hp i c hc⟩
  · exact hx.elim
end elim

section quiet
variable {P : Program} {o : Oper} {φ : St} {nid : Nat}

theorem ok_move {x : Operand} (ho : o.op = .move x ∨ o.op = .assign x) : ActOk P o φ nid ⟨[], φ.ev x, []⟩ :=
  .quiet fun C φ' a w ρ hP hag R => by
    refine ⟨a.eval x, ?_, ?_⟩
    · rcases ho with ho | ho <;> simp [execOp, ho]
    · rw [← hag.env x (by rcases ho with ho | ho <;> simp [ho, Op.operands])]; exact R.ev x

theorem ok_pick {c x y : Operand} {b : Bool} (ho : o.op = .pick c x y) (hc : φ.ev c = one (.bool b)) : ActOk P o φ nid ⟨[], cond b (φ.ev x) (φ.ev y), []⟩ :=
  .quiet fun C φ' a w ρ hP hag R => by
    have e1 := hag.env c (by simp [ho, Op.operands])
    have e2 := hag.env x (by simp [ho, Op.operands])
    have e3 := hag.env y (by simp [ho, Op.operands])
    have hv := R.ev c
    rw [e1, hc] at hv
    refine ⟨if b then a.eval x else a.eval y, ?_, ?_⟩
    · simp [execOp, ho, hv.bool, asBool]
    · cases b
      · simpa [← e3] using R.ev y
      · simpa [← e2] using R.ev x

theorem ok_extract {x : Operand} {i : Nat} {ps : List PV} {p : PV} (ho : o.op = .extract x i) (hc : φ.ev x = .tup ps) (hp : ps[i]? = some p) : ActOk P o φ nid ⟨[], .pv p, []⟩ :=
  .quiet fun C φ' a w ρ hP hag R => by
    have hv := R.ev x
    rw [hag.env x (by simp [ho, Op.operands]), hc] at hv
    obtain ⟨vs, he, hl, hq⟩ := hv
    obtain ⟨u, hu, hr⟩ := hq i p hp
    refine ⟨u, ?_, hr⟩
    simp [execOp, ho, he, Instr.extract, hu]

theorem RSV.of_RI {w : World} {Sh : Nat → Prop} {ρ : Rho} {h : Nat → HS} {v : Value} {c : CV} (hr : RI w Sh v c) : RSV w Sh ρ h v (Fm.one c) := by
  cases hr with
  | int k n => exact RI.int k n
  | bool b => exact RI.bool b
  | str s => exact RI.str s
  | imm0 a cap sz => exact RI.imm0 a cap sz
  | imm b off n cap sz cs vals h1 h2 h3 h4 h5 => exact RI.imm b off n cap sz cs vals h1 h2 h3 h4 h5
  | ip b off cs vals h1 h2 h3 => exact RI.ip b off cs vals h1 h2 h3
  | emp a => exact RI.emp a
  | opq t v => exact RI.opq t v
  | nilp => exact RI.nilp
  | nili => exact RI.nili

theorem ok_un {u : UnOp} {t : TypeId} {x : Operand} {K : CV → Prop} (ho : o.op = .unOp u t x) (h : kUn u (φ.ev x) K) : ∃ c, ActOk P o φ nid ⟨[], one c, []⟩ ∧ K c := by
  unfold kUn at h
  split at h
  · rename_i b hb
    cases u <;> simp only at h <;> try exact h.elim
    refine ⟨_, .quiet fun C φ' a w ρ hP hag R => ?_, h⟩
    have hv := R.ev x
    rw [hag.env x (by simp [ho, Op.operands]), hb] at hv
    exact ⟨_, by simp [execOp, ho, hv.bool, Op.unary], .of_RI (.bool _)⟩
  · rename_i k n hb
    cases u <;> simp only at h <;> try exact h.elim
    · refine ⟨_, .quiet fun C φ' a w ρ hP hag R => ?_, h⟩
      have hv := R.ev x
      rw [hag.env x (by simp [ho, Op.operands]), hb] at hv
      exact ⟨_, by simp [execOp, ho, hv.int, Op.unary, Op.intArith], .of_RI (.int _ _)⟩
    · refine ⟨_, .quiet fun C φ' a w ρ hP hag R => ?_, h⟩
      have hv := R.ev x
      rw [hag.env x (by simp [ho, Op.operands]), hb] at hv
      refine ⟨.int k (k.wrap (bytesB k (if k.signed then -1 else k.max) ^^^ bytesB k n).toNat), ?_, .of_RI (.int _ _)⟩
      simp only [execOp, ho, hv.int, Op.unary, Op.intBits, Sem.run_bind, Sem.run_pure, Result.andThen_ok, bytesB]
  · exact h.elim

theorem kindF_underlying {t : TypeId} {e : TypeId} (h : kindF P t = .slice e) : P.underlying t = some (.slice e) := by
  unfold kindF at h; split at h <;> first | (cases h; done) | (rename_i h'; cases h; exact h')
theorem kindF_str {t : TypeId} (h : kindF P t = .str) : P.underlying t = some .string := by
  unfold kindF at h; split at h <;> first | (cases h; done) | assumption
theorem kindF_bool {t : TypeId} (h : kindF P t = .bool) : P.underlying t = some .bool := by
  unfold kindF at h; split at h <;> first | (cases h; done) | assumption
theorem kindF_int {t : TypeId} {k : IntKind} (h : kindF P t = .int k) : P.underlying t = some (.int k) := by
  unfold kindF at h; split at h <;> first | (cases h; done) | (rename_i h'; cases h; exact h')
theorem kindF_iface {t : TypeId} (h : kindF P t = .iface) : ∃ ms, P.underlying t = some (.interface ms) := by
  unfold kindF at h; split at h <;> first | (cases h; done) | exact ⟨_, by assumption⟩
theorem kindF_agg {t : TypeId} (h : kindF P t = .agg) : ∃ fs, P.underlying t = some (.struct fs) := by
  unfold kindF at h; split at h <;> first | (cases h; done) | exact ⟨_, by assumption⟩
theorem sizeF_run {t : TypeId} {n : Nat} (h : sizeF P t = some n) (w : World) : (sizeOf t).run P w = .ok n w := by
  unfold sizeF at h
  obtain ⟨i, hi, he⟩ := Option.map_eq_some_iff.1 h
  simp [sizeOf, typeInfo, hi, he]
theorem aggF_run {t : TypeId} {b : Bool} (h : aggF P t = some b) (w : World) : (isAgg t).run P w = .ok b w := by
  unfold aggF at h
  obtain ⟨d, hd, he⟩ := Option.map_eq_some_iff.1 h
  simp only [isAgg, Sem.run_bind, run_underlying hd, Result.andThen_ok]
  cases d <;> simp_all

theorem binI_ok {op : BinOp} {k : IntKind} {a b : Int} {K : CV → Prop} (h : binI op k a b K) (t : TypeId) (hs : op ≠ .shl ∧ op ≠ .shr) :
    ∃ c, K c ∧ ∃ v, (∀ w, (binOp op t (.int k a) (.int k b)).run P w = .ok v w) ∧ ∀ w Sh, RI w Sh v c := by
  cases op <;> simp only [binI] at h
  case add => exact ⟨_, h, .int k (k.wrap (a + b)), fun w => by simp [binOp_add, Op.intArith], fun w Sh => .int _ _⟩
  case sub => exact ⟨_, h, .int k (k.wrap (a - b)), fun w => by simp [binOp_sub, Op.intArith], fun w Sh => .int _ _⟩
  case mul => exact ⟨_, h, .int k (k.wrap (a * b)), fun w => by simp [binOp_mul, Op.intArith], fun w Sh => .int _ _⟩
  case quo => exact ⟨_, h.2, .int k (k.wrap (a.tdiv b)), fun w => by simp [binOp_quo, Op.intDiv, h.1], fun w Sh => .int _ _⟩
  case rem => exact ⟨_, h.2, .int k (a.tmod b), fun w => by simp [binOp_rem, Op.intDiv, h.1], fun w Sh => .int _ _⟩
  case and => exact ⟨_, h, .int k (k.wrap (bytesB k a &&& bytesB k b).toNat), fun w => by simp only [binOp_and, Op.intBits, Sem.run_pure, bytesB], fun w Sh => .int _ _⟩
  case or => exact ⟨_, h, .int k (k.wrap (bytesB k a ||| bytesB k b).toNat), fun w => by simp only [binOp_or, Op.intBits, Sem.run_pure, bytesB], fun w Sh => .int _ _⟩
  case xor => exact ⟨_, h, .int k (k.wrap (bytesB k a ^^^ bytesB k b).toNat), fun w => by simp only [binOp_xor, Op.intBits, Sem.run_pure, bytesB], fun w Sh => .int _ _⟩
  case eql => exact ⟨_, h, .bool (a == b), fun w => by simp [binOp_eql], fun w Sh => .bool _⟩
  case neq => exact ⟨_, h, .bool (a != b), fun w => by simp [binOp_neq], fun w Sh => .bool _⟩
  case lss => exact ⟨_, h, .bool (a < b), fun w => by simp [binOp_lss], fun w Sh => .bool _⟩
  case leq => exact ⟨_, h, .bool (a ≤ b), fun w => by simp [binOp_leq], fun w Sh => .bool _⟩
  case gtr => exact ⟨_, h, .bool (a > b), fun w => by simp [binOp_gtr], fun w Sh => .bool _⟩
  case geq => exact ⟨_, h, .bool (a ≥ b), fun w => by simp [binOp_geq], fun w Sh => .bool _⟩

theorem eqGuard_ints (op : BinOp) (t : TypeId) (x y : Operand) (k : IntKind) (a : Int) (v : Value) (w : World) : (eqGuard op t x y (.int k a) v).run P w = .ok () w := by
  rw [eqGuard_at_int]; rfl

theorem bytes_toList (s : ByteArray) : s.toList = s.data.toList := Lib.toList_data s

theorem RSV.two {w : World} {Sh : Nat → Prop} {ρ : Rho} {h : Nat → HS} {v : Value} {c : CV} (hr : RV w Sh ρ h v c) : RSV w Sh ρ h v (Fm.one c) := RSV.of_one hr

theorem ok_bin_int {op : BinOp} {t yt : TypeId} {x y : Operand} {K : CV → Prop} {k k' : IntKind} {a b : Int} (ho : o.op = .binOp op t x y yt)
    (hx : φ.ev x = one (.int k a)) (hy : φ.ev y = one (.int k' b)) (h : kBin P op t (one (.int k a)) (one (.int k' b)) K) : ∃ c, ActOk P o φ nid ⟨[], one c, []⟩ ∧ K c := by
  simp only [kBin] at h
  have key : ∀ c v, K c → (∀ w, (binOp op t (.int k a) (.int k' b)).run P w = .ok v w) → (∀ w Sh, RI w Sh v c) → ∃ c, ActOk P o φ nid ⟨[], one c, []⟩ ∧ K c := by
    intro c v hK hr hi
    refine ⟨c, .quiet fun C φ' a w ρ hP hag R => ⟨v, ?_, .of_RI (hi _ _)⟩, hK⟩
    have h1 := R.ev x
    have h2 := R.ev y
    rw [hag.env x (by simp [ho, Op.operands]), hx] at h1
    rw [hag.env y (by simp [ho, Op.operands]), hy] at h2
    simp only [execOp, ho, h1.int, h2.int, Sem.run_bind, eqGuard_ints, Result.andThen_ok, hr, Sem.run_pure]
  by_cases hs : op = .shl ∨ op = .shr
  · rcases hs with rfl | rfl
    · simp only [shI] at h
      refine key _ (.int k (k.wrap (a * 2 ^ (min b.toNat k.bits)))) h.2 (fun w => ?_) (fun w Sh => .int _ _)
      simp [binOp_shl, Op.shift, Int.not_lt.2 h.1]
    · simp only [shI] at h
      refine key _ (.int k (a.fdiv (2 ^ (min b.toNat k.bits)))) h.2 (fun w => ?_) (fun w Sh => .int _ _)
      simp [binOp_shr, Op.shift, Int.not_lt.2 h.1]
  · have hs' : op ≠ .shl ∧ op ≠ .shr := ⟨fun e => hs (.inl e), fun e => hs (.inr e)⟩
    have h2 : k = k' ∧ binI op k a b K := by
      cases op <;> first | exact h | exact absurd rfl hs'.1 | exact absurd rfl hs'.2
    obtain ⟨rfl, h3⟩ := h2
    obtain ⟨c, hK, v, hr, hi⟩ := binI_ok (P := P) h3 t hs'
    exact key c v hK hr hi

theorem ok_bin_str {op : BinOp} {t yt : TypeId} {x y : Operand} {K : CV → Prop} {a b : List UInt8} (ho : o.op = .binOp op t x y yt)
    (hx : φ.ev x = one (.str a)) (hy : φ.ev y = one (.str b)) (h : kBin P op t (one (.str a)) (one (.str b)) K) : ∃ c, ActOk P o φ nid ⟨[], one c, []⟩ ∧ K c := by
  simp only [kBin] at h
  have key : ∀ c, K c → (∀ s1 s2 : ByteArray, s1.data.toList = a → s2.data.toList = b → ∃ v, (∀ w, (binOp op t (.string s1) (.string s2)).run P w = .ok v w) ∧ (∀ w Sh, RI w Sh v c)) → ∃ c, ActOk P o φ nid ⟨[], one c, []⟩ ∧ K c := by
    intro c hK hr
    refine ⟨c, .quiet fun C φ' ac w ρ hP hag R => ?_, hK⟩
    have h1 := R.ev x
    have h2 := R.ev y
    rw [hag.env x (by simp [ho, Op.operands]), hx] at h1
    rw [hag.env y (by simp [ho, Op.operands]), hy] at h2
    obtain ⟨s1, e1, l1⟩ := h1.str
    obtain ⟨s2, e2, l2⟩ := h2.str
    obtain ⟨v, hv, hi⟩ := hr s1 s2 l1 l2
    refine ⟨v, ?_, .of_RI (hi _ _)⟩
    simp only [execOp, ho, e1, e2, Sem.run_bind, eqGuard_at_string, Sem.run_pure, Result.andThen_ok, hv]
  cases op <;> simp only at h <;> try exact h.elim
  case add =>
    refine key _ h.2 fun s1 s2 l1 l2 => ⟨.string (s1 ++ s2), fun w => ?_, fun w Sh => ?_⟩
    · have e1 : s1.size = a.length := by rw [← l1, Array.length_toList]; rfl
      have e2 : s2.size = b.length := by rw [← l2, Array.length_toList]; rfl
      have h62 : a.length + b.length < 2 ^ 62 := h.1
      simp only [binOp, Op.stringOp, e1, e2, IntKind.max_i64]
      rw [if_neg (by omega)]
      rfl
    · have := RI.str (w := w) (Sh := Sh) (s1 ++ s2)
      rw [ByteArray.data_append, Array.toList_append, l1, l2] at this
      exact this
  case eql =>
    refine key _ h fun s1 s2 l1 l2 => ⟨.bool (a == b), fun w => ?_, fun w Sh => .bool _⟩
    simp only [binOp, Op.stringOp, bytes_toList, l1, l2, Sem.run_pure]
  case neq =>
    refine key _ h fun s1 s2 l1 l2 => ⟨.bool (a != b), fun w => ?_, fun w Sh => .bool _⟩
    simp only [binOp, Op.stringOp, bytes_toList, l1, l2, Sem.run_pure, bne]

theorem ok_field {t : TypeId} {x : Operand} {f : Nat} {q : Nat × TypeId} {size : Nat} {b : Bool} {cs : List CV} (ho : o.op = .field t x f) (hq : foffF P t f = some q)
    (hs : sizeF P q.2 = some size) (hb : aggF P q.2 = some b) (hx : φ.ev x = .pv (.agg cs)) (hl : q.1 + size ≤ cs.length) (h1 : b = false → size = 1) :
    ActOk P o φ nid ⟨[], .pv (pvOf b ((cs.drop q.1).take size)), []⟩ :=
  .quiet fun C φ' a w ρ hP hag R => by
    have hv := R.ev x
    rw [hag.env x (by simp [ho, Op.operands]), hx] at hv
    obtain ⟨vs, he, hvl, hp⟩ := hv
    unfold foffF at hq
    split at hq
    · rename_i fs hu
      obtain ⟨fd, hf, rfl⟩ := Option.map_eq_some_iff.1 hq
      cases b with
      | true =>
        refine ⟨.agg (vs.toArray.extract fd.offset (fd.offset + size)), ?_, ?_⟩
        · simp only [execOp, ho, he, Instr.field, Sem.run_bind, run_underlying hu, Result.andThen_ok, hf, asAgg, part, aggF_run hb, sizeF_run hs, if_true, Sem.run_pure]
        · refine ⟨(vs.drop fd.offset).take size, by simp, by simp; omega, fun i c hc => ?_⟩
          simp only [List.getElem?_take, List.getElem?_drop] at hc ⊢
          split at hc
          · rename_i hi
            rw [if_pos hi]
            exact hp _ c hc
          · cases hc
      | false =>
        have hsz := h1 rfl
        subst hsz
        have hlt : fd.offset < cs.length := by simp only at hl; omega
        obtain ⟨u, hu', hr⟩ := hp fd.offset cs[fd.offset] (List.getElem?_eq_getElem hlt)
        refine ⟨u, ?_, ?_⟩
        · have : vs.toArray[fd.offset]? = some u := by simpa using hu'
          simp only [execOp, ho, he, Instr.field, Sem.run_bind, run_underlying hu, Result.andThen_ok, hf, asAgg, part, aggF_run hb, Bool.false_eq_true, if_false, this, Sem.run_pure]
        · have : (cs.drop fd.offset).take 1 = [cs[fd.offset]] := by
            rw [List.drop_eq_getElem_cons hlt]; rfl
          simp only [this, pvOf, Bool.false_eq_true, if_false, List.headD_cons]
          exact RSV.of_one hr
    · cases hq

end quiet
end Go.Fm
