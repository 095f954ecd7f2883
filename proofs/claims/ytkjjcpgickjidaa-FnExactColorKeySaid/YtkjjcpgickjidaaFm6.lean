import Derived.Test.YtkjjcpgickjidaaFm5
/-! Each operation of the machine is what the model's operation does: slices, texts, comparisons, conversions. -/
namespace Go.Fm
set_option linter.unusedVariables false
set_option linter.unusedSimpArgs false
variable {P : Program} {o : Oper} {φ : St} {nid : Nat}

/-- A bound of a slice expression: what it is in the model. -/
theorem bd_elim {x : Option Operand} {d : Nat} {K : Int → Prop} (h : φ.bd x d K) : ∃ i : Int, K i ∧ ((x = none ∧ i = d) ∨ ∃ y k, x = some y ∧ φ.ev y = one (.int k i)) := by
  unfold St.bd at h
  split at h
  · exact ⟨d, h, .inl ⟨rfl, rfl⟩⟩
  · rename_i y
    obtain ⟨k, n, hy, hK⟩ := SV.kI_elim h
    exact ⟨n, hK, .inr ⟨y, k, rfl, hy⟩⟩

theorem sliceBound_run {k : IntKind} {i : Int} {y : Nat} {code : BoundsCode} (h : 0 ≤ i ∧ i ≤ y) (w : World) : (Instr.sliceBound (.int k i) y code).run P w = .ok i.toNat w := by
  simp [Instr.sliceBound, asIntOf, h]

theorem bounds_run {isS : Bool} {len cap : Nat} {lo hi : Option Operand} {a b : Int} {ac : Act} {w : World}
    (ha : (lo = none ∧ a = 0) ∨ ∃ y k, lo = some y ∧ ac.eval y = .int k a) (hb : (hi = none ∧ b = len) ∨ ∃ y k, hi = some y ∧ ac.eval y = .int k b)
    (h0 : 0 ≤ a) (hab : a ≤ b) (hbn : b ≤ cap) :
    (Instr.sliceBounds isS len cap (lo.map ac.eval) (hi.map ac.eval) none).run P w = .ok (a.toNat, b.toNat, cap) w := by
  unfold Instr.sliceBounds
  have s1 : ∀ (k : IntKind) (code : BoundsCode), (Instr.sliceBound (.int k b) cap code).run P w = .ok b.toNat w := fun k code => sliceBound_run ⟨by omega, hbn⟩ w
  have s2 : ∀ (k : IntKind) (code : BoundsCode), (Instr.sliceBound (.int k a) b.toNat code).run P w = .ok a.toNat w := fun k code => sliceBound_run ⟨h0, by omega⟩ w
  rcases ha with ⟨rfl, rfl⟩ | ⟨y, k, rfl, hy⟩
  · rcases hb with ⟨rfl, rfl⟩ | ⟨y2, k2, rfl, hy2⟩
    · simp
    · simp [hy2, s1]
  · rcases hb with ⟨rfl, rfl⟩ | ⟨y2, k2, rfl, hy2⟩
    · simp only [Int.toNat_natCast] at s2
      simp [hy, s2]
    · simp [hy, hy2, s1, s2]

theorem bd_ok {C : Ctx} {φ' : St} {ac : Act} {w : World} {ρ : Rho} (R : RelAt C ρ φ' ac w) {x : Option Operand} {d : Nat} {i : Int}
    (hag : ∀ y, x = some y → φ'.ev y = φ.ev y) (h : (x = none ∧ i = d) ∨ ∃ y k, x = some y ∧ φ.ev y = one (.int k i)) :
    (x = none ∧ i = d) ∨ ∃ y k, x = some y ∧ ac.eval y = .int k i := by
  rcases h with h | ⟨y, k, h1, h2⟩
  · exact .inl h
  · refine .inr ⟨y, k, h1, ?_⟩
    have hv := R.ev y
    rw [hag y h1, h2] at hv
    exact hv.int

theorem ok_slice_str {t : TypeId} {x : Operand} {lo hi : Option Operand} {l : List UInt8} {a b : Int} (ho : o.op = .slice t x lo hi none) (ht : kindF P t = .str)
    (hx : φ.ev x = one (.str l)) (ha : (lo = none ∧ a = (0 : Nat)) ∨ ∃ y k, lo = some y ∧ φ.ev y = one (.int k a)) (hb : (hi = none ∧ b = l.length) ∨ ∃ y k, hi = some y ∧ φ.ev y = one (.int k b))
    (h : 0 ≤ a ∧ a ≤ b ∧ b ≤ l.length) : ActOk P o φ nid ⟨[], one (.str ((l.drop a.toNat).take (b.toNat - a.toNat))), []⟩ :=
  .quiet fun C φ' ac w ρ hP hag R => by
    have hv := R.ev x
    rw [hag.env x (by simp [ho, Op.operands]), hx] at hv
    obtain ⟨s, he, hs⟩ := hv.str
    have hsz : s.size = l.length := by rw [← hs, Array.length_toList]; rfl
    have ha' := bd_ok R (fun y hy => hag.env y (by simp [ho, Op.operands, hy])) ha
    have hb' := bd_ok R (fun y hy => hag.env y (by simp [ho, Op.operands, hy])) hb
    refine ⟨.string (s.extract a.toNat b.toNat), ?_, ?_⟩
    · have hr := bounds_run (P := P) (isS := false) (len := s.size) (cap := s.size) (w := w) (by simpa using ha') (by rw [hsz]; exact hb') h.1 h.2.1 (by rw [hsz]; exact h.2.2)
      simp only [execOp, ho, he, Instr.sliceAt, Instr.slice, Sem.run_bind, run_underlying (kindF_str ht), Result.andThen_ok, Option.map_none, Option.isSome_none, Bool.false_eq_true, if_false, Sem.run_pure, Sem.run_ite]
      rw [hr]
      rfl
    · have := RI.str (w := w) (Sh := C.Sh) (s.extract a.toNat b.toNat)
      rw [ByteArray.data_extract, Array.toList_extract, hs] at this
      have e : (l.extract a.toNat b.toNat) = (l.drop a.toNat).take (b.toNat - a.toNat) := by simp [List.extract_eq_take_drop]
      rw [e] at this
      exact .of_RI this

theorem RArr.view {L : Option Loc} {sz bn lo n : Nat} {v : Value} (h : RArr L sz bn v lo n) : ∃ a cap, v = .slice a n cap ∧ n ≤ cap ∧
    (∀ (l hgh : Nat), l ≤ hgh → hgh ≤ n → ∀ a', a' = (if cap = l then a else a.map (·.add (l * sz))) → RArr L sz bn (.slice a' (hgh - l) (cap - l)) (lo + l) (hgh - l)) := by
  cases L with
  | none =>
    obtain ⟨rfl, a, rfl⟩ := h
    refine ⟨a, 0, rfl, Nat.le_refl _, fun l hgh h1 h2 a' _ => ⟨by omega, a', ?_⟩⟩
    have h3 : hgh = 0 := by omega
    have h4 : l = 0 := by omega
    simp [h3, h4]
  | some L =>
    rcases h with ⟨cap, rfl, h1, h2, h3⟩ | ⟨rfl, a, rfl⟩
    · refine ⟨_, cap, rfl, h1, fun l hgh hl hh a' ha' => ?_⟩
      by_cases e : cap = l
      · right
        refine ⟨by omega, a', ?_⟩
        rw [show hgh - l = 0 by omega, show cap - l = 0 by omega]
      · left
        rw [if_neg e] at ha'
        refine ⟨cap - l, ?_, by omega, ?_, by omega⟩
        · rw [ha']
          simp only [Option.map_some, add_lit, Nat.add_mul, Nat.add_assoc]
        · rw [show lo + l + (cap - l) = lo + cap by omega]; exact h2
    · refine ⟨a, 0, rfl, Nat.le_refl _, fun l hgh h1 h2 a' _ => .inr ⟨by omega, a', ?_⟩⟩
      rw [show hgh - l = 0 by omega, show 0 - l = 0 by omega]

theorem slice_run {t e : TypeId} {size : Nat} (ht : kindF P t = .slice e) (hs : sizeF P e = some size) {A : Option Addr} {n cap : Nat} {lo hi : Option Operand} {a b : Int} {ac : Act} {w : World} (hnc : n ≤ cap)
    (ha : (lo = none ∧ a = (0 : Nat)) ∨ ∃ y k, lo = some y ∧ ac.eval y = .int k a) (hb : (hi = none ∧ b = n) ∨ ∃ y k, hi = some y ∧ ac.eval y = .int k b) (h : 0 ≤ a ∧ a ≤ b ∧ b ≤ n) :
    (Instr.sliceAt t (.slice A n cap) (lo.map ac.eval) (hi.map ac.eval) none).run P w =
      .ok (.slice (if cap = a.toNat then A else A.map (·.add (a.toNat * size))) (b.toNat - a.toNat) (cap - a.toNat)) w := by
  have hr := bounds_run (P := P) (isS := true) (len := n) (cap := cap) (w := w) (by simpa using ha) hb h.1 h.2.1 (by omega)
  simp only [Instr.sliceAt, Instr.slice, Sem.run_bind, run_underlying (kindF_underlying ht), Result.andThen_ok, hr, sizeF_run hs, Sem.run_pure]

theorem ok_slice_arr {t e : TypeId} {x : Operand} {lo hi : Option Operand} {id l n size : Nat} {bl : Blk} {a b : Int} (ho : o.op = .slice t x lo hi none) (ht : kindF P t = .slice e) (hs : sizeF P e = some size)
    (hx : φ.ev x = one (.arr id l n)) (hb0 : φ.heap id = .live bl) (hz : bl.sz = size) (ha : (lo = none ∧ a = (0 : Nat)) ∨ ∃ y k, lo = some y ∧ φ.ev y = one (.int k a)) (hb : (hi = none ∧ b = n) ∨ ∃ y k, hi = some y ∧ φ.ev y = one (.int k b))
    (h : 0 ≤ a ∧ a ≤ b ∧ b ≤ n) : ActOk P o φ nid ⟨[id], one (.arr id (l + a.toNat) (b.toNat - a.toNat)), []⟩ :=
  .quiet fun C φ' ac w ρ hP hag R => by
    have hv := R.ev x
    rw [hag.env x (by simp [ho, Op.operands]), hx] at hv
    have hb' : φ'.heap id = .live bl := (hag.hp id (by simp)).trans hb0
    have hr := hv.arr hb'
    rw [hz] at hr
    obtain ⟨A, cap, he, hnc, hview⟩ := hr.view
    have ha2 := bd_ok R (fun y hy => hag.env y (by simp [ho, Op.operands, hy])) ha
    have hb2 := bd_ok R (fun y hy => hag.env y (by simp [ho, Op.operands, hy])) hb
    refine ⟨.slice (if cap = a.toNat then A else A.map (·.add (a.toNat * size))) (b.toNat - a.toNat) (cap - a.toNat), ?_, ?_⟩
    · simp only [execOp, ho, he, Sem.run_bind]
      rw [Option.map_none, slice_run ht hs hnc ha2 hb2 h]
      rfl
    · have h2 := hview a.toNat b.toNat (by omega) (by omega) _ rfl
      refine RSV.of_one ?_
      simp only [RV, hb']
      rw [hz]
      exact h2

theorem ok_slice_imm {t e : TypeId} {x : Operand} {lo hi : Option Operand} {sz n size : Nat} {cs : List CV} {a b : Int} (ho : o.op = .slice t x lo hi none) (ht : kindF P t = .slice e) (hs : sizeF P e = some size)
    (hx : φ.ev x = one (.imm sz n cs)) (hz : sz = size) (ha : (lo = none ∧ a = (0 : Nat)) ∨ ∃ y k, lo = some y ∧ φ.ev y = one (.int k a)) (hb : (hi = none ∧ b = n) ∨ ∃ y k, hi = some y ∧ φ.ev y = one (.int k b))
    (h : 0 ≤ a ∧ a ≤ b ∧ b ≤ n) : ActOk P o φ nid ⟨[], one (.imm sz (b.toNat - a.toNat) ((cs.drop (a.toNat * sz)).take ((b.toNat - a.toNat) * sz))), []⟩ :=
  .quiet fun C φ' ac w ρ hP hag R => by
    have hv := R.ev x
    rw [hag.env x (by simp [ho, Op.operands]), hx] at hv
    have hv := hv.imm
    have ha2 := bd_ok R (fun y hy => hag.env y (by simp [ho, Op.operands, hy])) ha
    have hb2 := bd_ok R (fun y hy => hag.env y (by simp [ho, Op.operands, hy])) hb
    subst hz
    generalize he : ac.eval x = v at hv
    cases hv with
    | imm0 A cap =>
      refine ⟨.slice (if cap = 0 then A else A.map (·.add (0 * sz))) 0 cap, ?_, ?_⟩
      · have ea : a = 0 := by omega
        have eb : b = 0 := by omega
        subst ea eb
        simp only [execOp, ho, he, Sem.run_bind]
        rw [Option.map_none, slice_run ht hs (Nat.zero_le _) ha2 hb2 h]
        rfl
      · have : ((([] : List CV).drop (a.toNat * sz)).take ((b.toNat - a.toNat) * sz)) = [] := by simp
        rw [this, show b.toNat - a.toNat = 0 by omega]
        exact .of_RI (.imm0 _ _ _)
    | imm B off _ cap _ _ vals hsh hnc hl hc hr =>
      refine ⟨.slice (if cap = a.toNat then some ⟨B, off, none⟩ else (some ⟨B, off, none⟩ : Option Addr).map (·.add (a.toNat * sz))) (b.toNat - a.toNat) (cap - a.toNat), ?_, ?_⟩
      · simp only [execOp, ho, he, Sem.run_bind]
        rw [Option.map_none, slice_run ht hs hnc ha2 hb2 h]
        rfl
      · by_cases h0 : b.toNat - a.toNat = 0
        · rw [h0]
          simp only [Nat.zero_mul, List.take_zero]
          exact .of_RI (.imm0 _ _ _)
        · rw [if_neg (by omega)]
          simp only [Option.map_some, add_lit]
          have hm : a.toNat * sz + (b.toNat - a.toNat) * sz ≤ cs.length := by
            rw [hl, ← Nat.add_mul]; exact Nat.mul_le_mul_right _ (by omega)
          refine .of_RI (.imm B _ _ _ sz _ (fun j => vals (a.toNat * sz + j)) hsh (by omega) (by simp; omega) (fun j hj => ?_) (fun j c hj => ?_))
          · simp at hj
            rw [Nat.add_assoc]
            exact hc _ (by omega)
          · rw [List.getElem?_take] at hj
            split at hj
            · rw [List.getElem?_drop] at hj; exact hr _ _ hj
            · cases hj

theorem ok_slice_emp {t e : TypeId} {x : Operand} {lo hi : Option Operand} {size : Nat} {a b : Int} (ho : o.op = .slice t x lo hi none) (ht : kindF P t = .slice e) (hs : sizeF P e = some size)
    (hx : φ.ev x = one .emp) (ha : (lo = none ∧ a = (0 : Nat)) ∨ ∃ y k, lo = some y ∧ φ.ev y = one (.int k a)) (hb : (hi = none ∧ b = (0 : Nat)) ∨ ∃ y k, hi = some y ∧ φ.ev y = one (.int k b))
    (h : a = 0 ∧ b = 0) : ActOk P o φ nid ⟨[], one .emp, []⟩ :=
  .quiet fun C φ' ac w ρ hP hag R => by
    have hv := R.ev x
    rw [hag.env x (by simp [ho, Op.operands]), hx] at hv
    obtain ⟨A, he⟩ := hv.emp
    obtain ⟨rfl, rfl⟩ := h
    have ha2 := bd_ok R (fun y hy => hag.env y (by simp [ho, Op.operands, hy])) ha
    have hb2 := bd_ok R (fun y hy => hag.env y (by simp [ho, Op.operands, hy])) hb
    refine ⟨.slice A 0 0, ?_, .of_RI (.emp _)⟩
    simp only [execOp, ho, he, Sem.run_bind]
    rw [Option.map_none, slice_run ht hs (Nat.le_refl 0) ha2 hb2 (by omega)]
    rfl

theorem capsOf_elim : ∀ {l : List Operand} {K : List CV → Prop}, capsOf φ l K → ∃ cs, K cs ∧ cs.length = l.length ∧ ∀ (i : Nat) (c : CV), cs[i]? = some c → ∃ x id off, l[i]? = some x ∧ φ.ev x = one (.ptr id off) ∧ c = CV.ptr id off
  | [], K, h => ⟨[], h, rfl, fun i c hc => by simp at hc⟩
  | x :: r, K, h => by
    simp only [capsOf] at h
    split at h
    · rename_i id off hx
      obtain ⟨cs, hK, hl, hp⟩ := capsOf_elim h
      refine ⟨_, hK, by simp [hl], fun i c hc => ?_⟩
      cases i with
      | zero => simp at hc; subst hc; exact ⟨x, id, off, rfl, hx, rfl⟩
      | succ i => simp at hc; obtain ⟨y, id', off', h1, h2, h3⟩ := hp i c hc; exact ⟨y, id', off', by simpa using h1, h2, h3⟩
    · exact h.elim

theorem ok_makeFunc {f : FuncId} {first caps : Array Operand} {K : List CV → Prop} (ho : o.op = .makeFunc (.func f) first caps) (h0 : first.size = 0) (h : capsOf φ caps.toList K) :
    ∃ cs, K cs ∧ ActOk P o φ nid ⟨[], one (.fn f cs), []⟩ := by
  obtain ⟨cs, hK, hl, hp⟩ := capsOf_elim h
  refine ⟨cs, hK, .quiet fun C φ' ac w ρ hP hag R => ?_⟩
  have hf : first = #[] := by simpa using h0
  refine ⟨.func (.func f) #[] (caps.map ac.eval), by simp [execOp, ho, Instr.makeFunc, hf], ?_⟩
  refine RSV.of_one ⟨(caps.map ac.eval).toList, by rw [Array.toArray_toList], by simp [hl], fun i c hc => ?_⟩
  obtain ⟨x, id, off, h1, h2, h3⟩ := hp i c hc
  refine ⟨ac.eval x, by simpa using ⟨x, by simpa using h1, rfl⟩, id, off, h3, ?_⟩
  have hv := R.ev x
  have hm : x ∈ caps.toList := List.mem_of_getElem? h1
  rw [hag.env x (by simp [ho, Op.operands]; exact .inr (by simpa using hm)), h2] at hv
  exact hv

theorem map_one {α β : Type} {f : α → β} {l : List α} {x : β} (h : l.map f = [x]) : ∃ a, l = [a] ∧ f a = x := List.map_eq_singleton_iff.1 h
theorem map_two {α β : Type} {f : α → β} {l : List α} {x y : β} (h : l.map f = [x, y]) : ∃ a b, l = [a, b] ∧ f a = x ∧ f b = y := by
  match l, h with
  | [a, b], h => simp at h; exact ⟨a, b, rfl, h.1, h.2⟩

theorem arr_of_list {α : Type} {a : Array α} {l : List α} (h : a.toList = l) : a = l.toArray := by rw [← h, Array.toArray_toList]

theorem call_builtin_run {c : Call} {b : Builtin} (ho : o.op = .call c) (hc : c.callee = .builtin b) (ac : Act) (w : World) :
    (execOp ac.eval o).run P w = (builtin b c.argTypes o.type (c.args.map fun | .const _ => true | _ => false) (c.args.map ac.eval)).run P w := by
  simp only [execOp, ho, resolve, hc, Sem.run_bind, Sem.run_pure, Result.andThen_ok, invoke]
  rfl

theorem ok_len {c : Call} {K : Action → Prop} (ho : o.op = .call c) (hc : c.callee = .builtin .len) (h : builtinF P .len c.argTypes.toList (c.args.toList.map φ.ev) φ nid K) :
    ∃ A, ActOk P o φ nid A ∧ K A := by
  unfold builtinF at h
  split at h <;> first | exact h.elim | contradiction | skip
  rename_i t x _ hat hxs
  obtain ⟨y, hy, hx⟩ := map_one hxs
  have hmem : y ∈ o.op.operands := by simp [ho, Op.operands, Call.operands, arr_of_list hy]
  split at h
  · rename_i ht
    obtain ⟨l, rfl, hK⟩ := SV.kS_elim h
    refine ⟨_, .quiet fun C φ' ac w ρ hP hag R => ?_, hK⟩
    have hv := R.ev y
    rw [hag.env y hmem, hx] at hv
    obtain ⟨s, he, hs⟩ := hv.str
    have hsz : s.size = l.length := by rw [← hs, Array.length_toList]; rfl
    refine ⟨.int .i64 l.length, ?_, .of_RI (.int _ _)⟩
    rw [call_builtin_run ho hc, arr_of_list hat, arr_of_list hy]
    simp [builtin, Builtin.len_, run_underlying (kindF_str ht), he, goInt, hsz]
  · rename_i e ht
    unfold St.kLen at h
    split at h
    · rename_i id lo n
      obtain ⟨b, hb, hK⟩ := kLive_elim h
      refine ⟨_, .quiet fun C φ' ac w ρ hP hag R => ?_, hK⟩
      have hv := R.ev y
      rw [hag.env y hmem, hx] at hv
      obtain ⟨A, cap, he, _⟩ := (hv.arr ((hag.hp id (by simp)).trans hb)).view
      refine ⟨.int .i64 n, ?_, .of_RI (.int _ _)⟩
      rw [call_builtin_run ho hc, arr_of_list hat, arr_of_list hy]
      simp [builtin, Builtin.len_, run_underlying (kindF_underlying ht), he, goInt]
    · rename_i sz n cs
      refine ⟨_, .quiet fun C φ' ac w ρ hP hag R => ?_, h⟩
      have hv := R.ev y
      rw [hag.env y hmem, hx] at hv
      have hv := hv.imm
      refine ⟨.int .i64 n, ?_, .of_RI (.int _ _)⟩
      rw [call_builtin_run ho hc, arr_of_list hat, arr_of_list hy]
      generalize he : ac.eval y = v at hv
      cases hv <;> simp [builtin, Builtin.len_, run_underlying (kindF_underlying ht), he, goInt]
    · refine ⟨_, .quiet fun C φ' ac w ρ hP hag R => ?_, h⟩
      have hv := R.ev y
      rw [hag.env y hmem, hx] at hv
      obtain ⟨A, he⟩ := hv.emp
      refine ⟨.int .i64 (0 : Nat), ?_, .of_RI (.int _ _)⟩
      rw [call_builtin_run ho hc, arr_of_list hat, arr_of_list hy]
      simp [builtin, Builtin.len_, run_underlying (kindF_underlying ht), he, goInt]
    · exact h.elim
  · exact h.elim

theorem ok_max {c : Call} {K : Action → Prop} (ho : o.op = .call c) (hc : c.callee = .builtin .max) (h : builtinF P .max c.argTypes.toList (c.args.toList.map φ.ev) φ nid K) :
    ∃ A, ActOk P o φ nid A ∧ K A := by
  have h' : ∃ x y, c.args.toList.map φ.ev = [x, y] ∧ x.kI fun k a => y.kI fun k' b => k = k' ∧ K ⟨[], one (.int k (if a < b then b else a)), []⟩ := by
    unfold builtinF at h
    split at h <;> first | exact h.elim | contradiction | skip
    exact ⟨_, _, by assumption, h⟩
  obtain ⟨x, y, hxs, h⟩ := h'
  obtain ⟨p, q, hl, hx, hy⟩ := map_two hxs
  obtain ⟨k, a, ex, h⟩ := SV.kI_elim h
  obtain ⟨k', b, ey, hk, hK⟩ := SV.kI_elim h
  subst hk
  rw [ex] at hx
  rw [ey] at hy
  refine ⟨_, .quiet fun C φ' ac w ρ hP hag R => ?_, hK⟩
  have h1 := R.ev p
  have h2 := R.ev q
  rw [hag.env p (by simp [ho, Op.operands, Call.operands, arr_of_list hl]), hx] at h1
  rw [hag.env q (by simp [ho, Op.operands, Call.operands, arr_of_list hl]), hy] at h2
  refine ⟨.int k (if a < b then b else a), ?_, .of_RI (.int _ _)⟩
  rw [call_builtin_run ho hc, arr_of_list hl]
  simp [builtin, Builtin.max_, Builtin.max2, h1.int, h2.int]

end Go.Fm
