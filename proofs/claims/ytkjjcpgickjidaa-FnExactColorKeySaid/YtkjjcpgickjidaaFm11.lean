import Derived.Test.YtkjjcpgickjidaaFm10
/-! Each operation of the machine is what the model's operation does: the builtins, conversions; and all together. -/
namespace Go.Fm
set_option linter.unusedVariables false
set_option linter.unusedSimpArgs false
variable {P : Program} {o : Oper} {φ : St} {nid : Nat}

theorem bin_append {ats : List TypeId} {xs : List SV} {K : Action → Prop} (h : builtinF P .append ats xs φ nid K) : ∃ t t2 r x y e, ats = t :: t2 :: r ∧ xs = [x, y] ∧ kindF P t = .slice e ∧ ((∃ e, kindF P t2 = .slice e) ∨ kindF P t2 = .str) ∧
    kO (sizeF P e) fun size => kO (bytesF P e) fun by_ => kO (zeroF P e) fun z => by_ ≤ 1024 ∧ z.length = size ∧ φ.cells size y fun rd m ns =>
        (match x with
        | .pv (.one (.arr id lo n)) => kLive (φ.heap id) fun b => b.sz = size ∧ lo + n ≤ b.n ∧ n + m ≤ maxN ∧
            K ⟨id :: rd, one (.arr nid 0 (n + m)), [(id, .dead), (nid, .live ⟨size, n + m, (b.cs.drop (lo * size)).take (n * size) ++ ns⟩)]⟩
        | .pv (.one .emp) => m ≤ maxN ∧ K ⟨rd, one (.arr nid 0 m), [(nid, .live ⟨size, m, ns⟩)]⟩
        | _ => False) := by
  unfold builtinF at h
  split at h <;> first | exact h.elim | contradiction | skip
  split at h
  · exact ⟨_, _, _, _, _, _, rfl, rfl, by assumption, .inl ⟨_, by assumption⟩, h⟩
  · exact ⟨_, _, _, _, _, _, rfl, rfl, by assumption, .inr (by assumption), h⟩
  · exact h.elim

theorem ok_append {c : Call} {K : Action → Prop} (ho : o.op = .call c) (hc : c.callee = .builtin .append) (h : builtinF P .append c.argTypes.toList (c.args.toList.map φ.ev) φ nid K) :
    ∃ A, ActOk P o φ nid A ∧ K A := by
  replace h := bin_append h
  obtain ⟨t, t2, r, sx, sy, e, hat, hxs, ht, ht2, g0⟩ := h
  obtain ⟨x, y, hl, hx, hy⟩ := map_two hxs
  obtain ⟨ha0, ha1⟩ := types_two hat
  obtain ⟨size, hs, g1⟩ := kO_elim g0
  obtain ⟨by_, hb, g2⟩ := kO_elim g1
  obtain ⟨z, hz, g3⟩ := kO_elim g2
  obtain ⟨hb1, hzl, g4⟩ := g3
  obtain ⟨rd, m, ns, h, hns⟩ := cells_elim (P := P) g4

  have hmx : x ∈ o.op.operands := call_mem ho hc hl (by simp)
  have hmy : y ∈ o.op.operands := call_mem ho hc hl (by simp)
  have hrunE : ∀ (ac : Act) (w : World), (execOp ac.eval o).run P w = ((Builtin.append_ #[t, t2] o.type #[ac.eval x, ac.eval y]).run P w).andThen fun v w => .ok (.value v) w := by
    intro ac w
    rw [call_builtin_run ho hc, arr_of_list hl]
    simp only [builtin, append_ats ha0 ha1, Sem.run_bind, Sem.run_pure, List.map_toArray, List.map_cons, List.map_nil]
  split at h
  · rename_i id lo n
    obtain ⟨b, hb', hbz, hlo, hm, hK⟩ := kLive_elim h
    refine ⟨_, .mk fun C φ' ac w ρ hP hag R => ?_, hK⟩
    have h1 := R.ev x
    rw [hag.env x hmx, hx] at h1
    have h2 := R.ev y
    rw [hag.env y hmy, hy] at h2
    have hbl : φ'.heap id = .live b := (hag.hp id (by simp)).trans hb'
    have hno : φ'.heap nid = .no := hag.fresh (nid, _) (List.mem_cons_of_mem _ (List.mem_singleton.2 rfl)) (Nat.le_refl _)
    obtain ⟨hnl, hsl, hlen, vs, hvl, hvr, hf⟩ := hns C φ' ac w ρ _ (fun i hi => hag.hp i (List.mem_cons_of_mem _ hi)) R h2
    obtain ⟨v', w', ρ', hrun, R', hv'⟩ := append_arr (P := P) (nid := nid) (ty := o.type) R hno hbl hbz hlo (h1.arr hbl) ht ht2 hs hb hz hb1 hzl hm hnl hlen vs hvl hvr hf
    exact ⟨v', w', ρ', .inl (by rw [hrunE, hrun]; rfl), R', hv'⟩
  · obtain ⟨hm, hK⟩ := h
    refine ⟨_, .mk fun C φ' ac w ρ hP hag R => ?_, hK⟩
    have h1 := R.ev x
    rw [hag.env x hmx, hx] at h1
    have h2 := R.ev y
    rw [hag.env y hmy, hy] at h2
    obtain ⟨A, hA⟩ := h1.emp
    have hno : φ'.heap nid = .no := hag.fresh (nid, _) (List.mem_singleton.2 rfl) (Nat.le_refl _)
    obtain ⟨hnl, hsl, hlen, vs, hvl, hvr, hf⟩ := hns C φ' ac w ρ _ (fun i hi => hag.hp i hi) R h2
    obtain ⟨v', w', ρ', hrun, R', hv'⟩ := append_empty (P := P) (nid := nid) (ty := o.type) (A := A) R hno ht ht2 hs hb hz hb1 hzl hm hnl hlen vs hvl hvr hf
    exact ⟨v', w', ρ', .inl (by rw [hrunE, hA, hrun]; rfl), R', hv'⟩
  · exact h.elim

theorem bin_copy {ats : List TypeId} {xs : List SV} {K : Action → Prop} (h : builtinF P .copy ats xs φ nid K) : ∃ t t2 r x y e, ats = t :: t2 :: r ∧ xs = [x, y] ∧ kindF P t = .slice e ∧
    kO (sizeF P e) fun size => φ.cells size y fun rd m ns =>
        (match x with
        | .pv (.one (.arr id lo n)) => kLive (φ.heap id) fun b => b.sz = size ∧ lo + n ≤ b.n ∧
            K ⟨id :: rd, one (.int .i64 (min m n : Nat)), [(id, .live ⟨size, b.n, over b.cs (lo * size) (ns.take (min m n * size))⟩)]⟩
        | .pv (.one .emp) => K ⟨rd, one (.int .i64 0), []⟩
        | _ => False) := by
  unfold builtinF at h
  split at h <;> first | exact h.elim | contradiction | skip
  split at h
  · exact ⟨_, _, _, _, _, _, rfl, rfl, by assumption, h⟩
  · exact ⟨_, _, _, _, _, _, rfl, rfl, by assumption, h⟩
  · exact h.elim

theorem run_copy_own {ats : Array TypeId} {t e ty : TypeId} {size : Nat} (h0 : ats[0]? = some t) (ht : P.underlying t = some (.slice e)) (hs : ∀ w, (sizeOf e).run P w = .ok size w) {b o n cap m : Nat} {x : Value} {vs : List Value} (w w' : World)
    (hlen : (Builtin.lenOf x).run P w = .ok m w) (hf : (Builtin.firstCells size (Nat.min m n) x).run P w = .ok vs.toArray w) (hst : (storeCells ⟨b, o, none⟩ vs).run P w = .ok () w') :
    (Builtin.copy_ ats ty #[.slice (some ⟨b, o, none⟩) n cap, x]).run P w = .ok (.int .i64 (Nat.min m n : Nat)) w' := by
  simp [Builtin.copy_, h0, run_underlying ht, hlen, hs, hf, hst, goInt]

theorem ok_copy {c : Call} {K : Action → Prop} (ho : o.op = .call c) (hc : c.callee = .builtin .copy) (h : builtinF P .copy c.argTypes.toList (c.args.toList.map φ.ev) φ nid K) :
    ∃ A, ActOk P o φ nid A ∧ K A := by
  replace h := bin_copy h
  obtain ⟨t, t2, r, sx, sy, e, hat, hxs, ht, g0⟩ := h
  obtain ⟨x, y, hl, hx, hy⟩ := map_two hxs
  obtain ⟨ha0, ha1⟩ := types_two hat
  obtain ⟨size, hs, g1⟩ := kO_elim g0
  obtain ⟨rd, m, ns, h, hns⟩ := cells_elim (P := P) g1

  have hmx : x ∈ o.op.operands := call_mem ho hc hl (by simp)
  have hmy : y ∈ o.op.operands := call_mem ho hc hl (by simp)
  have hrunE : ∀ (ac : Act) (w : World), (execOp ac.eval o).run P w = ((Builtin.copy_ c.argTypes o.type #[ac.eval x, ac.eval y]).run P w).andThen fun v w => .ok (.value v) w := by
    intro ac w
    rw [call_builtin_run ho hc, arr_of_list hl]
    simp only [builtin, Sem.run_bind, Sem.run_pure, List.map_toArray, List.map_cons, List.map_nil]
  split at h
  · rename_i id lo n
    obtain ⟨b, hb', hbz, hlo, hK⟩ := kLive_elim h
    subst hbz
    refine ⟨_, .mk fun C φ' ac w ρ hP hag R => ?_, hK⟩
    have h1 := R.ev x
    rw [hag.env x hmx, hx] at h1
    have h2 := R.ev y
    rw [hag.env y hmy, hy] at h2
    have hbl : φ'.heap id = .live b := (hag.hp id (by simp)).trans hb'
    obtain ⟨hnl, hsl, hlen, vs, hvl, hvr, hf⟩ := hns C φ' ac w ρ _ (fun i hi => hag.hp i (List.mem_cons_of_mem _ hi)) R h2
    have hr := h1.arr hbl
    have hrb := R.hp.blk id b hbl
    unfold RB at hrb
    have hmn : min m n * b.sz ≤ m * b.sz := Nat.mul_le_mul_right _ (Nat.min_le_left _ _)
    have hmn2 : min m n * b.sz ≤ n * b.sz := Nat.mul_le_mul_right _ (Nat.min_le_right _ _)
    have hntl : (ns.take (min m n * b.sz)).length = min m n * b.sz := by rw [List.length_take]; omega
    have hvtl : (vs.take (min m n * b.sz)).length = min m n * b.sz := by rw [List.length_take]; omega
    have hvr' : ∀ (j : Nat) (c : CV), (ns.take (min m n * b.sz))[j]? = some c → ∃ u : Value, (vs.take (min m n * b.sz))[j]? = some u ∧ RV w C.Sh ρ φ'.heap u c := fun j c hc => by
      rw [List.getElem?_take] at hc
      split at hc
      · rename_i hj
        obtain ⟨u, hu, hr⟩ := hvr j c hc
        exact ⟨u, by rw [List.getElem?_take, if_pos hj]; exact hu, hr⟩
      · cases hc
    have none_case : n = 0 → (∃ a, ac.eval x = .slice a 0 0) → Goes P o C φ' ac w ρ ⟨id :: rd, one (.int .i64 (min m n : Nat)), [(id, .live ⟨b.sz, b.n, over b.cs (lo * b.sz) (ns.take (min m n * b.sz))⟩)]⟩ := by
      intro hn0 ⟨a, ha⟩
      subst hn0
      have hov : over b.cs (lo * b.sz) (ns.take (min m 0 * b.sz)) = b.cs := by simp [over]
      have hsame : { φ' with heap := heapOf φ'.heap [(id, HS.live ⟨b.sz, b.n, over b.cs (lo * b.sz) (ns.take (min m 0 * b.sz))⟩)] } = φ' := by
        rw [hov]
        have : heapOf φ'.heap [(id, HS.live ⟨b.sz, b.n, b.cs⟩)] = φ'.heap := by
          funext i
          show upd φ'.heap id _ i = _
          by_cases e : i = id
          · subst e; rw [upd_same]; exact hbl.symm
          · rw [upd_ne _ _ e]
        rw [this]
      refine ⟨.int .i64 0, w, ρ, .inl ?_, by rw [hsame]; exact R, .of_RI (by simpa using RI.int .i64 0)⟩
      rw [hrunE, ha]
      cases a <;> simp [Builtin.copy_, ha0, run_underlying (kindF_underlying ht), hlen, sizeF_run hs, hf 0 w (Nat.zero_le _) rfl, goInt, storeCells]
    cases hL : ρ id with
    | none => rw [hL] at hr; exact none_case hr.1 hr.2
    | some L =>
      rw [hL] at hr hrb
      obtain ⟨q1, q2, q3, q4⟩ := hrb
      rcases hr with ⟨cap, he, h1', h2', h3'⟩ | ⟨hn0, ha⟩
      · have hm1 : lo * b.sz + n * b.sz ≤ b.cs.length := by rw [q1, ← Nat.add_mul]; exact Nat.mul_le_mul_right _ hlo
        have hst := setCells_run (P := P) (w := w) (b := L.b) (o := L.o + lo * b.sz) (n := 0) (vs := vs.take (min m n * b.sz)) (fun j hj => by rw [Nat.add_assoc]; exact (q3 _ (by omega)).1)
          (fun j hj => by rw [Nat.add_assoc]; exact (q3 _ (by omega)).2) (one_of_rel (by omega) hvr')
        refine ⟨.int .i64 (min m n : Nat), _, ρ, .inl ?_, R.store id b L hbl hL (lo * b.sz) (vs.take (min m n * b.sz)) (ns.take (min m n * b.sz)) (by omega) (by omega) hvr', .of_RI (.int _ _)⟩
        rw [hrunE, he, run_copy_own (P := P) ha0 (kindF_underlying ht) (sizeF_run hs) w _ (hlen w) (hf (min m n) w (Nat.min_le_left _ _) rfl) hst]
        rfl
      · exact none_case hn0 ha
  · refine ⟨_, .quiet fun C φ' ac w ρ hP hag R => ?_, h⟩
    have h1 := R.ev x
    rw [hag.env x hmx, hx] at h1
    have h2 := R.ev y
    rw [hag.env y hmy, hy] at h2
    obtain ⟨A, hA⟩ := h1.emp
    obtain ⟨hnl, hsl, hlen, vs, hvl, hvr, hf⟩ := hns C φ' ac w ρ _ (fun i hi => hag.hp i hi) R h2
    refine ⟨.int .i64 0, ?_, .of_RI (.int _ _)⟩
    rw [hrunE, hA]
    cases A <;> simp [Builtin.copy_, ha0, run_underlying (kindF_underlying ht), hlen, sizeF_run hs, hf 0 w (Nat.zero_le _) rfl, goInt, storeCells]
  · exact h.elim


theorem ok_clear {c : Call} {K : Action → Prop} (ho : o.op = .call c) (hc : c.callee = .builtin .clear) (h : builtinF P .clear c.argTypes.toList (c.args.toList.map φ.ev) φ nid K) :
    ∃ A, ActOk P o φ nid A ∧ K A := by
  have h' : ∃ t x e, c.argTypes.toList = [t] ∧ c.args.toList.map φ.ev = [x] ∧ kindF P t = .slice e ∧ kO (sizeF P e) fun size => kO (zeroF P e) fun z =>
        (match x with
        | .pv (.one (.arr id lo n)) => kLive (φ.heap id) fun b => b.sz = size ∧ z.length = size ∧ lo + n ≤ b.n ∧
            K ⟨[id], .tup [], [(id, .live ⟨size, b.n, over b.cs (lo * size) (List.replicate n z).flatten⟩)]⟩
        | .pv (.one .emp) => K ⟨[], .tup [], []⟩
        | _ => False) := by
    unfold builtinF at h
    split at h <;> first | exact h.elim | contradiction | skip
    split at h
    · exact ⟨_, _, _, by assumption, by assumption, by assumption, h⟩
    · exact h.elim
  clear h
  obtain ⟨t, sx, e, hat, hxs, ht, g0⟩ := h'
  obtain ⟨x, hl, hx⟩ := map_one hxs
  obtain ⟨size, hs, g1⟩ := kO_elim g0
  obtain ⟨z, hz, h⟩ := kO_elim g1

  have hmx : x ∈ o.op.operands := call_mem ho hc hl (by simp)
  have hrunE : ∀ (ac : Act) (w : World), (execOp ac.eval o).run P w = ((Builtin.clear_ #[t] o.type #[ac.eval x]).run P w).andThen fun v w => .ok (.value v) w := by
    intro ac w
    rw [call_builtin_run ho hc, arr_of_list hl, arr_of_list hat]
    simp only [builtin, Sem.run_bind, Sem.run_pure, List.map_toArray, List.map_cons, List.map_nil]
  have htup : ∀ (w : World) (Sh : Nat → Prop) (ρ : Rho) (h : Nat → HS), RSV w Sh ρ h (.tuple #[]) (.tup []) := fun w Sh ρ h => ⟨[], rfl, rfl, fun i p hp => by simp at hp⟩
  split at h
  · rename_i id lo n
    obtain ⟨b, hb', hbz, hzl, hlo, hK⟩ := kLive_elim h
    subst hbz
    refine ⟨_, .mk fun C φ' ac w ρ hP hag R => ?_, hK⟩
    have h1 := R.ev x
    rw [hag.env x hmx, hx] at h1
    have hbl : φ'.heap id = .live b := (hag.hp id (by simp)).trans hb'
    have hr := h1.arr hbl
    have hrb := R.hp.blk id b hbl
    unfold RB at hrb
    obtain ⟨zv, hzr, hzs, hzrel⟩ := zeroF_run hz
    have none_case : n = 0 → (∃ a cap, ac.eval x = .slice a 0 cap) → Goes P o C φ' ac w ρ ⟨[id], .tup [], [(id, .live ⟨b.sz, b.n, over b.cs (lo * b.sz) (List.replicate n z).flatten⟩)]⟩ := by
      intro hn0 ⟨a, cap, ha⟩
      subst hn0
      have hov : over b.cs (lo * b.sz) (List.replicate 0 z).flatten = b.cs := by simp [over]
      have hsame : { φ' with heap := heapOf φ'.heap [(id, HS.live ⟨b.sz, b.n, over b.cs (lo * b.sz) (List.replicate 0 z).flatten⟩)] } = φ' := by
        rw [hov]
        have : heapOf φ'.heap [(id, HS.live ⟨b.sz, b.n, b.cs⟩)] = φ'.heap := by
          funext i
          show upd φ'.heap id _ i = _
          by_cases e : i = id
          · subst e; rw [upd_same]; exact hbl.symm
          · rw [upd_ne _ _ e]
        rw [this]
      refine ⟨.tuple #[], w, ρ, .inl ?_, by rw [hsame]; exact R, htup _ _ _ _⟩
      rw [hrunE, ha]
      cases a <;> simp [Builtin.clear_, run_underlying (kindF_underlying ht)]
    by_cases hn0 : n = 0
    · subst hn0
      cases hL : ρ id with
      | none => rw [hL] at hr; obtain ⟨_, a, ha⟩ := hr; exact none_case rfl ⟨a, 0, ha⟩
      | some L =>
        rw [hL] at hr
        rcases hr with ⟨cap, he, _⟩ | ⟨_, a, ha⟩
        · exact none_case rfl ⟨_, _, he⟩
        · exact none_case rfl ⟨a, 0, ha⟩
    · cases hL : ρ id with
      | none => rw [hL] at hr; exact absurd hr.1 hn0
      | some L =>
        rw [hL] at hr hrb
        obtain ⟨q1, q2, q3, q4⟩ := hrb
        rcases hr with ⟨cap, he, h1', h2', h3'⟩ | ⟨hn, _⟩
        · have hm1 : lo * b.sz + n * b.sz ≤ b.cs.length := by rw [q1, ← Nat.add_mul]; exact Nat.mul_le_mul_right _ hlo
          have hzc : (Builtin.zeroCells zv.cells n).toList.length = n * b.sz := by rw [Array.length_toList, size_zeroCells, hzs, hzl]
          have hvr' : ∀ (j : Nat) (c : CV), ((List.replicate n z).flatten)[j]? = some c → ∃ u : Value, (Builtin.zeroCells zv.cells n).toList[j]? = some u ∧ RV w C.Sh ρ φ'.heap u c := fun j c hc => by
            have hj : j < n * b.sz := by have := (List.getElem?_eq_some_iff.1 hc).1; rwa [rep_len, hzl] at this
            rw [rep_get z n j (by rw [hzl]; exact hj)] at hc
            obtain ⟨u, hu, hr⟩ := hzrel w C.Sh ρ φ'.heap _ c hc
            refine ⟨u, ?_, hr⟩
            have hsz0 : 0 < zv.cells.size := by rw [hzs, hzl]; exact Nat.pos_of_ne_zero (fun e => by rw [e] at hj; simp at hj)
            have hlt : j % zv.cells.size < zv.cells.size := Nat.mod_lt _ hsz0
            have hu' : zv.cells[j % zv.cells.size]? = some u := by rw [hzs]; simpa using hu
            rw [Array.getElem?_eq_getElem hlt] at hu'
            cases hu'
            have hj2 : j < n * zv.cells.size := by rw [hzs, hzl]; exact hj
            simp only [Builtin.zeroCells, Array.getElem?_toList, Array.getElem?_map]
            rw [Array.getElem?_range, if_pos hj2, Option.map_some, getElem!_pos zv.cells (j % zv.cells.size) hlt]
          have hst := setCells_run (P := P) (w := w) (b := L.b) (o := L.o + lo * b.sz) (n := 0) (vs := (Builtin.zeroCells zv.cells n).toList) (fun j hj => by rw [Nat.add_assoc]; exact (q3 _ (by omega)).1)
            (fun j hj => by rw [Nat.add_assoc]; exact (q3 _ (by omega)).2) (one_of_rel (by rw [hzc, rep_len, hzl]) hvr')
          refine ⟨.tuple #[], _, ρ, .inl ?_, R.store id b L hbl hL (lo * b.sz) _ _ (by rw [hzc, rep_len, hzl]) (by rw [rep_len, hzl]; omega) hvr', htup _ _ _ _⟩
          rw [hrunE, he]
          obtain ⟨n', rfl⟩ : ∃ n', n = n' + 1 := ⟨n - 1, by omega⟩
          simp only [Builtin.clear_, Sem.run_bind, run_underlying (kindF_underlying ht), Result.andThen_ok, List.getElem?_toArray, List.getElem?_cons_zero, hzr, hst, Sem.run_pure]
        · exact absurd hn hn0
  · refine ⟨_, .quiet fun C φ' ac w ρ hP hag R => ?_, h⟩
    have h1 := R.ev x
    rw [hag.env x hmx, hx] at h1
    obtain ⟨A, hA⟩ := h1.emp
    refine ⟨.tuple #[], ?_, htup _ _ _ _⟩
    rw [hrunE, hA]
    cases A <;> simp [Builtin.clear_, run_underlying (kindF_underlying ht)]
  · exact h.elim


theorem underlying_some {t : TypeId} {k : TK} (h : kindF P t = k) (hk : k ≠ .other) : (P.underlying t).isSome = true := by
  unfold kindF at h
  cases hu : P.underlying t with
  | none => rw [hu] at h; exact absurd h.symm hk
  | some d => rfl

theorem isU8_underlying {e : TypeId} (h : isU8 P e = true) : P.underlying e = some (.int .u8) := by
  unfold isU8 at h
  split at h
  · rename_i hk; exact kindF_int hk
  · cases h

theorem bytesCs_get : ∀ {cs : List CV} {l : List UInt8}, bytesCs cs = some l → l.length = cs.length ∧ ∀ (j : Nat) (c : CV), cs[j]? = some c → ∃ n, c = .int .u8 n ∧ l[j]? = some (UInt8.ofNat n.toNat)
  | [], l, h => by simp only [bytesCs, Option.some.injEq] at h; subst h; exact ⟨rfl, fun j c hc => by simp at hc⟩
  | c :: r, l, h => by
    unfold bytesCs at h
    split at h
    · rename_i heq; cases heq
    · rename_i n r' heq
      cases heq
      obtain ⟨l', hl', rfl⟩ := Option.map_eq_some_iff.1 h
      obtain ⟨h1, h2⟩ := bytesCs_get hl'
      refine ⟨by simp [h1], fun j c hc => ?_⟩
      cases j with
      | zero => simp at hc; subst hc; exact ⟨n, rfl, rfl⟩
      | succ j => simp at hc; simpa using h2 j c hc
    · cases h

theorem bytes_loop (f : Value → ByteArray → Sem (ForInStep ByteArray)) (hf : ∀ n s, f (.int .u8 n) s = pure (ForInStep.yield (s.push (UInt8.ofNat n.toNat)))) :
    ∀ (vs : List Value) (l : List UInt8) (s : ByteArray) (w : World), vs.length = l.length → (∀ (j : Nat) (v : Value), vs[j]? = some v → ∃ n, v = .int .u8 n ∧ l[j]? = some (UInt8.ofNat n.toNat)) →
    (forIn vs s f).run P w = Result.ok (⟨s.data ++ l.toArray⟩ : ByteArray) w
  | [], l, s, w, hl, _ => by
    have : l = [] := List.eq_nil_of_length_eq_zero (by simpa using hl.symm)
    subst this
    simp
  | v :: vs, l, s, w, hl, h => by
    obtain ⟨n, rfl, hn⟩ := h 0 v rfl
    match l, hl, hn, h with
    | b :: l, hl, hn, h =>
      simp only [List.getElem?_cons_zero, Option.some.injEq] at hn
      subst hn
      have ih := bytes_loop f hf vs l (s.push (UInt8.ofNat n.toNat)) w (by simpa using hl) (fun j v hv => by have := h (j + 1) v (by simpa using hv); simpa using this)
      rw [List.forIn_cons, hf]
      simp only [Sem.run_bind, Sem.run_pure, Result.andThen_ok, ih]
      congr 2
      apply Array.ext'
      simp [ByteArray.push]

theorem bytesToString_run {A : Option Addr} {n cap : Nat} {vs : List Value} {l : List UInt8} (w : World) (hf : (Builtin.firstCells 1 n (.slice A n cap)).run P w = .ok vs.toArray w) (hl : vs.length = l.length)
    (h : ∀ (j : Nat) (v : Value), vs[j]? = some v → ∃ n, v = .int .u8 n ∧ l[j]? = some (UInt8.ofNat n.toNat)) :
    ∃ s : ByteArray, (Conv.bytesToString (.slice A n cap)).run P w = .ok (.string s) w ∧ s.data.toList = l := by
  cases A with
  | none =>
    simp only [Builtin.firstCells, Sem.run_pure] at hf
    have hv : vs = [] := by
      have h0 : (#[] : Array Value) = vs.toArray := by injection hf
      have h1 := congrArg Array.size h0
      exact List.eq_nil_of_length_eq_zero (by simpa using h1.symm)
    subst hv
    have : l = [] := List.eq_nil_of_length_eq_zero (by simpa using hl.symm)
    subst this
    exact ⟨.empty, rfl, rfl⟩
  | some a =>
    refine ⟨⟨l.toArray⟩, ?_, by simp⟩
    simp only [Builtin.firstCells, Nat.mul_one] at hf
    simp only [Conv.bytesToString, Sem.run_bind, hf, Result.andThen_ok]
    rw [List.forIn_toArray, bytes_loop (P := P) _ (fun _ _ => rfl) vs l ByteArray.empty w hl h]
    simp only [Result.andThen_ok, Sem.run_pure]
    congr 3
    apply Array.ext'
    simp

theorem ok_convert {s d : TypeId} {x : Operand} {K : Action → Prop} (ho : o.op = .convert s d x) (h : act P o φ nid K) : ∃ A, ActOk P o φ nid A ∧ K A := by
  unfold act at h
  rw [ho] at h
  simp only at h
  split at h
  · rename_i ks kd hs hd
    obtain ⟨k0, n, hx, hK⟩ := SV.kI_elim h
    refine ⟨_, .quiet fun C φ' ac w ρ hP hag R => ?_, hK⟩
    have h1 := R.ev x
    rw [hag.env x (by simp [ho, Op.operands]), hx] at h1
    refine ⟨.int kd (kd.wrap n), ?_, .of_RI (.int _ _)⟩
    obtain ⟨ds, hds⟩ := Option.isSome_iff_exists.1 (underlying_some hs (by simp))
    simp [execOp, ho, h1.int, convert, run_underlying hds, run_underlying (kindF_int hd), Conv.intToInt]
  · rename_i hs hd
    obtain ⟨l, hx, hK⟩ := SV.kS_elim h
    refine ⟨_, .quiet fun C φ' ac w ρ hP hag R => ?_, hK⟩
    have h1 := R.ev x
    rw [hag.env x (by simp [ho, Op.operands]), hx] at h1
    obtain ⟨st, he, hst⟩ := h1.str
    refine ⟨.string st, ?_, by rw [← he]; exact h1⟩
    simp [execOp, ho, he, convert, run_underlying (kindF_str hs), run_underlying (kindF_str hd)]
  · rename_i e hs hd
    obtain ⟨hu, h'⟩ := h
    obtain ⟨l, hx, hm, hK⟩ := SV.kS_elim h'
    refine ⟨_, .mk fun C φ' ac w ρ hP hag R => ?_, hK⟩
    have h1 := R.ev x
    rw [hag.env x (by simp [ho, Op.operands]), hx] at h1
    obtain ⟨st, he, hst⟩ := h1.str
    have hno : φ'.heap nid = .no := hag.fresh _ (List.mem_singleton.2 rfl) (Nat.le_refl _)
    have hsz : st.size = l.length := by rw [← hst, Array.length_toList]; rfl
    have hcap := grownCap_ge w st.size 0 e
    let elems : List Value := l.map fun b => .int .u8 b.toNat
    let rest : List Value := List.replicate (grownCap w st.size 0 e - st.size) (.int .u8 0)
    have htot : (elems ++ rest).length = grownCap w st.size 0 e := by simp [elems, rest]; omega
    let w1 : World := w.drew.alloc (.cells (elems ++ rest).toArray e)
    refine ⟨.slice (some ⟨w.heap.size, 0, none⟩) st.size (grownCap w st.size 0 e), w1.freeze ⟨w.heap.size, (elems ++ rest).length, none⟩ 1, upd ρ nid (some ⟨w.heap.size, 0, (elems ++ rest).length⟩), .inl ?_, ?_, ?_⟩
    · have helem : (l.map fun b : UInt8 => Value.int .u8 b.toNat).toArray = st.data.map (fun b => Value.int .u8 b.toNat) := by
        apply Array.ext'
        simp [← hst]
      have hrow : (st.data.map (fun b => Value.int .u8 b.toNat)) ++ Array.replicate (grownCap w st.size 0 e - st.size) (.int .u8 0) = (elems ++ rest).toArray := by
        rw [← helem]
        apply Array.ext'
        simp [elems, rest]
      simp only [execOp, ho, he, convert, Sem.run_bind, run_underlying (kindF_str hs), run_underlying (kindF_underlying hd), Result.andThen_ok, run_underlying (isU8_underlying hu), Conv.stringToBytes, run_choose, Question.forced, Bool.false_eq_true, if_false, newRow, run_newObj, Sem.run_pure, markStringish, run_shape]
      have hg : (Question.appendCap st.size 0 e).cut (w.tape w.drawn (Question.appendCap st.size 0 e)) = grownCap w st.size 0 e := rfl
      rw [hg, hrow]
      have hw1 : ({ heap := w.heap.push (Obj.cells (elems ++ rest).toArray e), tape := w.tape, drawn := w.drawn + 1, os := w.os, output := w.output } : World) = w1 := rfl
      rw [hw1]
      have hsp : w1.shape? w.heap.size = some (e, (elems ++ rest).length) := by
        have : w1.heap[w.heap.size]? = some (.cells (elems ++ rest).toArray e) := by
          show (w.drew.heap.push _)[w.drew.heap.size]? = _
          rw [Array.getElem?_push_size]
        simp only [World.shape?, this, List.size_toArray]
      simp only [hsp, run_freeze, Result.andThen_ok]
    · refine new_room (R.drew) (w := w.drew) hno e elems rest (l.map fun b => .int .u8 b.toNat) 1 l.length (by simp [elems]) (by simp) (fun j c hc => ?_) ((elems ++ rest).length, (elems ++ rest).length + 1) (.inl (Nat.le_refl _)) _ ?_ (fun k hk => ?_) ?_ rfl rfl rfl
      · rw [List.getElem?_map] at hc
        simp only [elems, List.getElem?_map]
        cases hl : l[j]? with
        | none => rw [hl] at hc; cases hc
        | some b => rw [hl] at hc; cases hc; exact ⟨_, rfl, .of_RI (.int _ _)⟩
      · show (w1.freeze ⟨w.heap.size, (elems ++ rest).length, none⟩ 1).heap[w.heap.size]? = _
        simp only [World.freeze, Nat.one_ne_zero, if_false, Array.getElem?_modify, if_true]
        have : w1.heap[w.heap.size]? = some (.cells (elems ++ rest).toArray e) := by
          show (w.drew.heap.push _)[w.drew.heap.size]? = _
          rw [Array.getElem?_push_size]
        rw [this]
        simp
      · show (w1.freeze ⟨w.heap.size, (elems ++ rest).length, none⟩ 1).heap[k]? = _
        simp only [World.freeze, Nat.one_ne_zero, if_false, Array.getElem?_modify]
        rw [if_neg (by simp only [World.size_drew] at hk; omega)]
        exact Go.RowKit.Below.heap_alloc _ _ _ hk
      · show _ < (w1.freeze ⟨w.heap.size, (elems ++ rest).length, none⟩ 1).heap.size
        simp [World.freeze, w1]
    · rw [← hsz]
      exact arr_new rfl hcap (by simp only [htot]; omega) (by rw [hsz]; exact Nat.le_refl _)
  · rename_i e hs hd
    obtain ⟨hu, hnot, h'⟩ := h
    have h'' := h'
    obtain ⟨rd, n, cs, h2, hns⟩ := cells_elim (P := P) h'
    obtain ⟨l, hl, hK⟩ := kO_elim h2
    refine ⟨_, .quiet fun C φ' ac w ρ hP hag R => ?_, hK⟩
    have h1 := R.ev x
    rw [hag.env x (by simp [ho, Op.operands])] at h1
    obtain ⟨hnl, hsl, hlen, vs, hvl, hvr, hf⟩ := hns C φ' ac w ρ _ (fun i hi => hag.hp i hi) R h1
    obtain ⟨hl1, hl2⟩ := bytesCs_get hl
    have hA : ∃ A cap, ac.eval x = .slice A n cap := by
      obtain ⟨A, n', cap, he⟩ := hsl hnot
      have := hlen w
      rw [he] at this
      simp only [Builtin.lenOf, Sem.run_pure] at this
      cases this
      exact ⟨A, cap, he⟩
    obtain ⟨A, cap, he⟩ := hA
    obtain ⟨st, hrun, hst⟩ := bytesToString_run (P := P) (A := A) (n := n) (cap := cap) (vs := vs) (l := l) w (by rw [← he, hf n w (Nat.le_refl _) rfl, List.take_of_length_le (by omega)]) (by omega)
      (fun j v hv => by
        have hj : j < cs.length := by have := (List.getElem?_eq_some_iff.1 hv).1; omega
        obtain ⟨m, hm, hlj⟩ := hl2 j cs[j] (List.getElem?_eq_getElem hj)
        obtain ⟨u, hu', hr⟩ := hvr j cs[j] (List.getElem?_eq_getElem hj)
        rw [hv] at hu'
        cases hu'
        rw [hm] at hr
        exact ⟨m, hr.int, hlj⟩)
    refine ⟨.string st, ?_, .of_RI (by rw [← hst]; exact .str st)⟩
    simp only [execOp, ho, he, convert, Sem.run_bind, run_underlying (kindF_underlying hs), run_underlying (kindF_str hd), Result.andThen_ok, run_underlying (isU8_underlying hu), hrun, Sem.run_pure]
  · exact h.elim

end Go.Fm
