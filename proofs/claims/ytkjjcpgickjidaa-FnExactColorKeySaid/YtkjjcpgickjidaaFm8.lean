import Derived.Test.YtkjjcpgickjidaaFm7
/-! Each operation of the machine is what the model's operation does: those that make or write memory. -/
namespace Go.Fm
set_option linter.unusedVariables false
set_option linter.unusedSimpArgs false
variable {P : Program} {o : Oper} {φ : St} {nid : Nat}

theorem mem_operands {x : Operand} {l : Array Operand} (h : x ∈ l) : x ∈ l := h

theorem setCells_run {w : World} {b o n : Nat} {vs : List Value} (hc : ∀ j, j < vs.length → (w.cell? ⟨b, o + j, none⟩).isSome = true) (hf : ∀ j, j < vs.length → w.frozen? ⟨b, o + j, none⟩ = false)
    (h1 : ∀ v ∈ vs, v.oneCell' = true) : (storeCells ⟨b, o, none⟩ vs).run P w = .ok () (w.setCells b o vs) := by
  have := run_storeCells_cells (P := P) b o vs 0 w (by simpa using hc) (by simpa using hf) h1
  simpa using this

theorem one_of_rel {w : World} {Sh : Nat → Prop} {ρ : Rho} {h : Nat → HS} {vs : List Value} {ns : List CV} (hl : vs.length = ns.length)
    (hr : ∀ (j : Nat) (c : CV), ns[j]? = some c → ∃ u : Value, vs[j]? = some u ∧ RV w Sh ρ h u c) : ∀ v ∈ vs, v.oneCell' = true := by
  intro v hv
  obtain ⟨j, hj, rfl⟩ := List.mem_iff_getElem.1 hv
  obtain ⟨u, hu, hr'⟩ := hr j ns[j] (List.getElem?_eq_getElem (by omega))
  rw [List.getElem?_eq_getElem hj] at hu
  cases hu
  exact hr'.one

theorem ok_store {t : TypeId} {x v : Operand} {size id off : Nat} {bl : Blk} {K : List CV → Prop} (ho : o.op = .store t x v) (hs : sizeF P t = some size) (hv : (φ.ev v).kC K)
    (hx : φ.ev x = one (.ptr id off)) (hb : φ.heap id = .live bl) : ∃ ns, K ns ∧ (ns.length = size → off + ns.length ≤ bl.cs.length → ActOk P o φ nid ⟨[id], one .dead, [(id, .live ⟨bl.sz, bl.n, over bl.cs off ns⟩)]⟩) := by
  obtain ⟨ns, hK, hns⟩ := SV.kC_elim hv
  refine ⟨ns, hK, fun hl ho' => .mk fun C φ' ac w ρ hP hag R => ?_⟩
  have h1 := R.ev x
  rw [hag.env x (by simp [ho, Op.operands]), hx] at h1
  have h2 := R.ev v
  rw [hag.env v (by simp [ho, Op.operands])] at h2
  obtain ⟨hsz, hrel⟩ := hns _ _ _ _ _ h2
  have hb' : φ'.heap id = .live bl := (hag.hp id (by simp)).trans hb
  obtain ⟨L, hL, he⟩ := h1.ptr hb'
  have hrb := R.hp.blk id bl hb'
  unfold RB at hrb
  rw [hL] at hrb
  obtain ⟨q1, q2, q3, q4⟩ := hrb
  have hll : (ac.eval v).cells.toList.length = ns.length := by rw [Array.length_toList]; exact hsz
  refine ⟨undef, w.setCells L.b (L.o + off) (ac.eval v).cells.toList, ρ, .inr ⟨?_, rfl⟩, ?_, trivial⟩
  · have hrun := setCells_run (P := P) (w := w) (b := L.b) (o := L.o + off) (n := 0) (vs := (ac.eval v).cells.toList) (fun j hj => by rw [Nat.add_assoc]; exact (q3 (off + j) (by omega)).1)
      (fun j hj => by rw [Nat.add_assoc]; exact (q3 (off + j) (by omega)).2) (one_of_rel hll hrel)
    simp only [execOp, ho, he, Instr.storeAt, Instr.sureAddr, storeVar, Sem.run_bind, Sem.run_pure, Result.andThen_ok, sizeF_run hs]
    rw [if_neg (by rw [hsz, hl]; simp), hrun]
    rfl
  · exact R.store id bl L hb' hL off _ ns hll ho' hrel

theorem live_upd {h : Nat → HS} {id : Nat} {s : HS} : heapOf h [(id, s)] = upd h id s := rfl

/-- A new block of cells that were put together. -/
theorem new_of {C : Ctx} {ρ : Rho} {φ' : St} {ac : Act} {w : World} (R : RelAt C ρ φ' ac w) {nid : Nat} (hno : φ'.heap nid = .no) (t : TypeId) (vs : List Value) (ns : List CV) (sz n : Nat)
    (hl : vs.length = ns.length) (hn : ns.length = n * sz) (hr : ∀ (j : Nat) (c : CV), ns[j]? = some c → ∃ u : Value, vs[j]? = some u ∧ RV w C.Sh ρ φ'.heap u c) :
    RelAt C (upd ρ nid (some ⟨w.heap.size, 0, vs.length⟩)) { φ' with heap := upd φ'.heap nid (.live ⟨sz, n, ns⟩) } ac (w.alloc (.cells vs.toArray t)) := by
  refine R.new nid hno ⟨sz, n, ns⟩ vs.length (fun k hk => Go.RowKit.Below.heap_alloc _ _ _ hk) (by simp) rfl rfl rfl hn (by simp [hl]) (fun j hj => ?_) (fun j c hc => ?_)
  · rw [World.cell?_alloc_new, World.frozen?_alloc_new]
    simp [hj]
  · obtain ⟨u, hu, hq⟩ := hr j c hc
    refine ⟨u, ?_, hq⟩
    rw [World.cell?_alloc_new]
    simpa using hu

theorem ptr_new {w : World} {Sh : Nat → Prop} {ρ : Rho} {h : Nat → HS} {nid : Nat} {b : Blk} {L : Loc} {v : Value} (hv : v = .pointer (some ⟨L.b, L.o, none⟩)) :
    RSV w Sh (upd ρ nid (some L)) (upd h nid (.live b)) v (one (.ptr nid 0)) := by
  show RPtr _ _ v nid 0
  unfold RPtr
  rw [upd_same]
  exact ⟨L, upd_same _ _ _, by simpa using hv⟩

theorem arr_new {w : World} {Sh : Nat → Prop} {ρ : Rho} {h : Nat → HS} {nid n cap : Nat} {b : Blk} {L : Loc} {v : Value} (hv : v = .slice (some ⟨L.b, L.o, none⟩) n cap) (h1 : n ≤ cap) (h2 : cap * b.sz ≤ L.e) (h3 : n ≤ b.n) :
    RSV w Sh (upd ρ nid (some L)) (upd h nid (.live b)) v (one (.arr nid 0 n)) := by
  refine RSV.of_one ?_
  simp only [RV, upd_same]
  left
  exact ⟨cap, by simpa using hv, h1, by simpa using h2, by simpa using h3⟩

theorem ok_box {t : TypeId} {x : Operand} {K : List CV → Prop} (ho : o.op = .box t x) (hv : (φ.ev x).kC K) : ∃ ns, K ns ∧ ActOk P o φ nid ⟨[], one (.ptr nid 0), [(nid, .live ⟨1, ns.length, ns⟩)]⟩ := by
  obtain ⟨ns, hK, hns⟩ := SV.kC_elim hv
  refine ⟨ns, hK, .mk fun C φ' ac w ρ hP hag R => ?_⟩
  have h2 := R.ev x
  rw [hag.env x (by simp [ho, Op.operands])] at h2
  obtain ⟨hsz, hrel⟩ := hns _ _ _ _ _ h2
  have hno : φ'.heap nid = .no := hag.fresh _ (List.mem_singleton.2 rfl) (Nat.le_refl _)
  refine ⟨.pointer (some ⟨w.heap.size, 0, none⟩), w.alloc (.cells (ac.eval x).cells t), upd ρ nid (some ⟨w.heap.size, 0, (ac.eval x).cells.toList.length⟩), .inl ?_, ?_, ?_⟩
  · simp only [execOp, ho, Instr.box, newVar, newRow, Sem.run_bind, run_newObj, Result.andThen_ok, Sem.run_pure, World.alloc_eq]
  · have := new_of R hno t (ac.eval x).cells.toList ns 1 ns.length (by rw [Array.length_toList]; exact hsz) (by simp) hrel
    rwa [Array.toArray_toList] at this
  · exact ptr_new rfl

theorem zeroF_run {t : TypeId} {z : List CV} (h : zeroF P t = some z) : ∃ v : Value, (∀ w, (zeroValue t).run P w = .ok v w) ∧ v.cells.size = z.length ∧
    ∀ (w : World) (Sh : Nat → Prop) (ρ : Rho) (hh : Nat → HS) (j : Nat) (c : CV), z[j]? = some c → ∃ u : Value, v.cells.toList[j]? = some u ∧ RV w Sh ρ hh u c := by
  unfold zeroF at h
  split at h
  · rename_i v hv
    split at h
    · rename_i ha
      cases h
      obtain ⟨i, hi, hz⟩ := Option.bind_eq_some_iff.1 hv
      refine ⟨v, fun w => by simp [zeroValue, typeInfo, hi, hz], by simp, fun w Sh ρ hh j c hc => ?_⟩
      rw [List.getElem?_map] at hc
      cases hu : v.cells.toList[j]? with
      | none => rw [hu] at hc; cases hc
      | some u =>
        rw [hu] at hc
        cases hc
        exact ⟨u, rfl, constCV_ok _ _ _ _ _ (List.all_eq_true.1 ha u (List.mem_of_getElem? hu))⟩
    · cases h
  · cases h

theorem zeroF_info {t : TypeId} {z : List CV} (h : zeroF P t = some z) : ∃ i v, P.info? t = some i ∧ i.zero = some v ∧ v.cells.size = z.length ∧
    ∀ (w : World) (Sh : Nat → Prop) (ρ : Rho) (hh : Nat → HS) (j : Nat) (c : CV), z[j]? = some c → ∃ u : Value, v.cells.toList[j]? = some u ∧ RV w Sh ρ hh u c := by
  have h0 := h
  unfold zeroF at h
  split at h
  · rename_i v hv
    obtain ⟨i, hi, hz⟩ := Option.bind_eq_some_iff.1 hv
    obtain ⟨v', hr, h1, h2⟩ := zeroF_run h0
    have hrun := hr default
    simp only [zeroValue, typeInfo, Sem.run_bind, run_program, Result.andThen_ok, hi, Sem.run_pure, hz] at hrun
    cases hrun
    exact ⟨i, v, hi, hz, h1, h2⟩
  · cases h

theorem ok_alloc {t : TypeId} {z : List CV} (ho : o.op = .alloc t) (hz : zeroF P t = some z) : ActOk P o φ nid ⟨[], one (.ptr nid 0), [(nid, .live ⟨1, z.length, z⟩)]⟩ :=
  .mk fun C φ' ac w ρ hP hag R => by
    obtain ⟨v, hrun, hsz, hrel⟩ := zeroF_run hz
    have hno : φ'.heap nid = .no := hag.fresh _ (List.mem_singleton.2 rfl) (Nat.le_refl _)
    refine ⟨.pointer (some ⟨w.heap.size, 0, none⟩), w.alloc (.cells v.cells t), upd ρ nid (some ⟨w.heap.size, 0, v.cells.toList.length⟩), .inl ?_, ?_, ?_⟩
    · simp only [execOp, ho, Instr.alloc, newVar, newRow, Sem.run_bind, hrun, run_newObj, Result.andThen_ok, Sem.run_pure, World.alloc_eq]
    · have := new_of R hno t v.cells.toList z 1 z.length (by rw [Array.length_toList]; exact hsz) (by simp) (hrel _ _ _ _)
      rwa [Array.toArray_toList] at this
    · exact ptr_new rfl


theorem fold_set : ∀ (us : List Value) (k off : Nat) (A : Array Value), off + k + us.length ≤ A.size →
    (us.zipIdx k).foldl (fun cs (p : Value × Nat) => cs.setIfInBounds (off + p.2) p.1) A = (A.toList.take (off + k) ++ us ++ A.toList.drop (off + k + us.length)).toArray
  | [], k, off, A, h => by simp
  | u :: r, k, off, A, h => by
    simp only [List.length_cons] at h
    rw [List.zipIdx_cons, List.foldl_cons, fold_set r (k + 1) off _ (by simp; omega)]
    have hlt : off + k < A.toList.length := by rw [Array.length_toList]; omega
    congr 1
    simp only [Array.toList_setIfInBounds]
    rw [List.set_eq_take_append_cons_drop, if_pos hlt]
    have ht : (A.toList.take (off + k)).length = off + k := by rw [List.length_take]; omega
    rw [show off + (k + 1) = off + k + 1 by omega]
    have e1 : (A.toList.take (off + k) ++ u :: A.toList.drop (off + k + 1)).take (off + k + 1) = A.toList.take (off + k) ++ [u] := by
      rw [List.take_append, ht, List.take_of_length_le (by rw [ht]; omega), show off + k + 1 - (off + k) = 1 by omega]
      simp
    have e2 : (A.toList.take (off + k) ++ u :: A.toList.drop (off + k + 1)).drop (off + k + 1 + r.length) = A.toList.drop (off + k + (r.length + 1)) := by
      rw [List.drop_append, ht, List.drop_of_length_le (by rw [ht]; omega), show off + k + 1 + r.length - (off + k) = r.length + 1 by omega, List.drop_succ_cons, List.drop_drop]
      simp
      congr 1
      omega
    rw [e1, e2]
    simp

theorem fold_setA (us : Array Value) (off : Nat) (A : Array Value) (h : off + us.size ≤ A.size) :
    us.zipIdx.foldl (fun cs (p : Value × Nat) => cs.setIfInBounds (off + p.2) p.1) A = (A.toList.take off ++ us.toList ++ A.toList.drop (off + us.size)).toArray := by
  rw [← Array.foldl_toList, Array.toList_zipIdx, fold_set us.toList 0 off A (by simpa using h)]
  simp

/-- The parts of a slice's composite, as the model fills them. -/
theorem parts_elim (size : Nat) : ∀ (l : List (Nat × Operand)) (i : Nat) (K : List CV → Prop), partsOf φ size i l K → ∃ ns, K ns ∧ ns.length = l.length * size ∧
    ∀ (w : World) (Sh : Nat → Prop) (ρ : Rho) (h : Nat → HS) (ev : Operand → Value), (∀ p ∈ l, RSV w Sh ρ h (ev p.2) (φ.ev p.2)) →
      ∀ (pre post : List Value), pre.length = i * size → post.length = l.length * size → ∃ vs : List Value, vs.length = ns.length ∧ (∀ (j : Nat) (c : CV), ns[j]? = some c → ∃ u : Value, vs[j]? = some u ∧ RV w Sh ρ h u c) ∧
        Instr.fill (fun i => some (i * size, size)) (pre ++ post).toArray (l.map fun p => (p.1, ev p.2)) = some (pre ++ vs).toArray
  | [], i, K, h => ⟨[], h, by simp, fun w Sh ρ h ev _ pre post h1 h2 => ⟨[], rfl, fun j c hc => by simp at hc, by
      have : post = [] := by simpa using h2
      simp [this, Instr.fill]⟩⟩
  | (j, x) :: r, i, K, h => by
    simp only [partsOf] at h
    obtain ⟨rfl, h⟩ := h
    obtain ⟨cs, ⟨hl, h⟩, hcs⟩ := SV.kC_elim h
    obtain ⟨ds, hK, hdl, hds⟩ := parts_elim size r (j + 1) _ h
    refine ⟨cs ++ ds, hK, by simp [hl, hdl, Nat.add_mul]; omega, fun w Sh ρ hh ev hev pre post h1 h2 => ?_⟩
    obtain ⟨hsz, hrel⟩ := hcs w Sh ρ hh (ev x) (hev (j, x) (by simp))
    have hp1 : (post.take size).length = size := by simp at h2 ⊢; rw [h2, Nat.add_mul]; omega
    obtain ⟨vs, hvl, hvr, hfill⟩ := hds w Sh ρ hh ev (fun p hp => hev p (by simp [hp])) (pre ++ (ev x).cells.toList) (post.drop size) (by simp [h1, hsz, hl, Nat.add_mul]) (by simp [h2, Nat.add_mul])
    refine ⟨(ev x).cells.toList ++ vs, by simp [hsz, hvl], fun k c hc => ?_, ?_⟩
    · by_cases hk : k < cs.length
      · rw [List.getElem?_append_left hk] at hc
        obtain ⟨u, hu, hr⟩ := hrel k c hc
        exact ⟨u, by rw [List.getElem?_append_left (by rw [Array.length_toList, hsz]; exact hk)]; exact hu, hr⟩
      · rw [List.getElem?_append_right (by omega)] at hc
        obtain ⟨u, hu, hr⟩ := hvr _ c hc
        exact ⟨u, by rw [List.getElem?_append_right (by rw [Array.length_toList, hsz]; omega), Array.length_toList, hsz]; exact hu, hr⟩
    · simp only [List.map_cons, Instr.fill]
      rw [if_neg (by simp [hsz, hl]; simp at h2; rw [h1, h2, Nat.add_mul]; omega)]
      have e : ((ev x).cells.zipIdx.foldl (fun cs (p : Value × Nat) => cs.setIfInBounds (j * size + p.2) p.1) (pre ++ post).toArray) = (pre ++ (ev x).cells.toList ++ post.drop size).toArray := by
        rw [fold_setA _ _ _ (by simp [hsz, hl]; simp at h2; rw [h1, h2, Nat.add_mul]; omega)]
        congr 1
        simp [hsz, hl, h1, List.take_append, List.drop_append]
      show Instr.fill _ ((ev x).cells.zipIdx.foldl (fun cs (p : Value × Nat) => cs.setIfInBounds (j * size + p.2) p.1) (pre ++ post).toArray) _ = _
      rw [e, hfill]
      simp


theorem zero_cells (z : Array Value) (n : Nat) (h : n = 0 ∨ z.size ≠ 0) : ((Array.range n).map (z[· % z.size]!)).size = n := by simp

theorem range_pre (f : Nat → Value) (n : Nat) : ((Array.range n).map f) = (([] : List Value) ++ (List.range n).map f).toArray := by
  apply Array.ext' ; simp

theorem ok_buildSlice {t e : TypeId} {n size : Nat} {ps : Array (Nat × Operand)} {K : List CV → Prop} (ho : o.op = .buildSlice t n ps) (ht : kindF P t = .slice e) (hs : sizeF P e = some size) (hn : n * size ≤ 4096) (h0 : size ≠ 0)
    (hps : n = ps.size) (hz : (zeroF P e).isSome = true) (h : partsOf φ size 0 ps.toList K) : ∃ cs, K cs ∧ ActOk P o φ nid ⟨[], one (.arr nid 0 n), [(nid, .live ⟨size, n, cs⟩)]⟩ := by
  obtain ⟨cs, hK, hl, hrel⟩ := parts_elim size _ _ _ h
  refine ⟨cs, hK, .mk fun C φ' ac w ρ hP hag R => ?_⟩
  have hno : φ'.heap nid = .no := hag.fresh _ (List.mem_singleton.2 rfl) (Nat.le_refl _)
  obtain ⟨z, hz⟩ := Option.isSome_iff_exists.1 hz
  obtain ⟨zv, hzr, hzs, _⟩ := zeroF_run hz
  have hll : ps.toList.length = n := by rw [Array.length_toList]; exact hps.symm
  have hev : ∀ p ∈ ps.toList, RSV w C.Sh ρ φ'.heap (ac.eval p.2) (φ.ev p.2) := by
    intro p hp
    have := R.ev p.2
    rwa [hag.env p.2 (by simp only [ho, Op.operands, List.mem_toArray, List.mem_map]; exact ⟨p, hp, rfl⟩)] at this
  have hpost : ∀ f : Nat → Value, ((List.range (n * size)).map f).length = ps.toList.length * size := fun f => by simp [hll]
  by_cases hn0 : n * size = 0
  · obtain ⟨vs, hvl, hvr, hfill⟩ := hrel w C.Sh ρ φ'.heap ac.eval hev [] ((List.range (n * size)).map ((#[] : Array Value)[· % 0]!)) (by simp) (hpost _)
    refine ⟨.slice (some ⟨w.heap.size, 0, none⟩) n n, w.alloc (.cells vs.toArray e), upd ρ nid (some ⟨w.heap.size, 0, vs.length⟩), .inl ?_, new_of R hno e vs cs size n hvl (by rw [hl, hll]) hvr, arr_new rfl (Nat.le_refl _) (by rw [hvl, hl, hll]; exact Nat.le_refl _) (Nat.le_refl _)⟩
    rw [← range_pre] at hfill
    have hfill' : Instr.fill (fun i => some (i * size, size)) ((Array.range (n * size)).map ((#[] : Array Value)[· % (#[] : Array Value).size]!)) (ps.map fun p => (p.1, ac.eval p.2)).toList = some vs.toArray := by
      simpa using hfill
    simp only [execOp, ho, Instr.buildSlice, Sem.run_bind, run_underlying (kindF_underlying ht), Result.andThen_ok, sizeF_run hs, Sem.run_ite, if_neg (show ¬ n * size > 2 ^ 24 by omega), if_pos hn0, Sem.run_pure, hfill', newRow, run_newObj, World.alloc_eq]
  · obtain ⟨vs, hvl, hvr, hfill⟩ := hrel w C.Sh ρ φ'.heap ac.eval hev [] ((List.range (n * size)).map (zv.cells[· % zv.cells.size]!)) (by simp) (hpost _)
    refine ⟨.slice (some ⟨w.heap.size, 0, none⟩) n n, w.alloc (.cells vs.toArray e), upd ρ nid (some ⟨w.heap.size, 0, vs.length⟩), .inl ?_, new_of R hno e vs cs size n hvl (by rw [hl, hll]) hvr, arr_new rfl (Nat.le_refl _) (by rw [hvl, hl, hll]; exact Nat.le_refl _) (Nat.le_refl _)⟩
    rw [← range_pre] at hfill
    have hfill' : Instr.fill (fun i => some (i * size, size)) ((Array.range (n * size)).map (zv.cells[· % zv.cells.size]!)) (ps.map fun p => (p.1, ac.eval p.2)).toList = some vs.toArray := by
      simpa using hfill
    simp only [execOp, ho, Instr.buildSlice, Sem.run_bind, run_underlying (kindF_underlying ht), Result.andThen_ok, sizeF_run hs, Sem.run_ite, if_neg (show ¬ n * size > 2 ^ 24 by omega), if_neg hn0, hzr, Sem.run_pure, hfill', newRow, run_newObj, World.alloc_eq]

theorem rep_get {α : Type} (z : List α) : ∀ (n j : Nat), j < n * z.length → (List.replicate n z).flatten[j]? = z[j % z.length]?
  | 0, j, h => by simp at h
  | n + 1, j, h => by
    rw [List.replicate_succ, List.flatten_cons]
    by_cases hj : j < z.length
    · rw [List.getElem?_append_left hj, Nat.mod_eq_of_lt hj]
    · rw [List.getElem?_append_right (by omega), rep_get z n (j - z.length) (by rw [Nat.add_mul] at h; omega)]
      rw [← Nat.mod_eq_sub_mod (by omega)]
theorem rep_len {α : Type} (z : List α) (n : Nat) : (List.replicate n z).flatten.length = n * z.length := by simp

theorem ok_makeSlice {t e : TypeId} {l c : Operand} {size by_ : Nat} {z : List CV} {n : Int} (ho : o.op = .makeSlice t l c) (ht : kindF P t = .slice e) (hs : sizeF P e = some size) (hz : zeroF P e = some z) (hb : bytesF P e = some by_)
    (hb1 : by_ ≤ 1024) (hzl : z.length = size) (hl : φ.ev l = one (.int .i64 n)) (hc : φ.ev c = one (.int .i64 n)) (h0 : 0 ≤ n) (hn : n ≤ maxN) :
    ActOk P o φ nid ⟨[], one (.arr nid 0 n.toNat), [(nid, .live ⟨size, n.toNat, (List.replicate n.toNat z).flatten⟩)]⟩ :=
  .mk fun C φ' ac w ρ hP hag R => by
    have hno : φ'.heap nid = .no := hag.fresh _ (List.mem_singleton.2 rfl) (Nat.le_refl _)
    have h1 := R.ev l
    rw [hag.env l (by simp [ho, Op.operands]), hl] at h1
    have h2 := R.ev c
    rw [hag.env c (by simp [ho, Op.operands]), hc] at h2
    obtain ⟨i, zv, hi, hzv, hzs, hzrel⟩ := zeroF_info hz
    unfold bytesF at hb
    rw [hi] at hb
    have hbe : i.bytes = by_ := by simpa using hb
    unfold sizeF at hs
    rw [hi] at hs
    have hse : i.size = size := by simpa using hs
    have hmx : maxN = 4294967296 := rfl
    have hbn : by_ * n.toNat ≤ 1024 * 4294967296 := Nat.mul_le_mul hb1 (by omega)
    have hbn' : (by_ : Int) * n ≤ 1024 * 4294967296 := by
      have : ((by_ * n.toNat : Nat) : Int) ≤ ((1024 * 4294967296 : Nat) : Int) := Int.ofNat_le.2 hbn
      rw [Int.natCast_mul, Int.toNat_of_nonneg h0] at this
      simpa using this
    let f : Nat → Value := fun j => zv.cells[j % zv.cells.size]!
    have hrow : RelAt C (upd ρ nid (some ⟨w.heap.size, 0, ((List.range (n.toNat * size)).map f).length⟩))
        { φ' with heap := upd φ'.heap nid (.live ⟨size, n.toNat, (List.replicate n.toNat z).flatten⟩) } ac (w.alloc (.cells ((List.range (n.toNat * size)).map f).toArray e)) := by
      refine new_of R hno e _ _ size n.toNat (by rw [rep_len, hzl]; simp) (by rw [rep_len, hzl]) (fun j c hc => ?_)
      have hj : j < n.toNat * size := by have := (List.getElem?_eq_some_iff.1 hc).1; rwa [rep_len, hzl] at this
      rw [rep_get z n.toNat j (by rw [hzl]; exact hj)] at hc
      obtain ⟨u, hu, hr⟩ := hzrel w C.Sh ρ φ'.heap _ c hc
      refine ⟨u, ?_, hr⟩
      rw [List.getElem?_map, List.getElem?_range hj, Option.map_some]
      have hsz0 : 0 < zv.cells.size := by rw [hzs, hzl]; exact Nat.pos_of_ne_zero (fun e => by rw [e] at hj; simp at hj)
      have hlt : j % zv.cells.size < zv.cells.size := Nat.mod_lt _ hsz0
      have hu' : zv.cells[j % zv.cells.size]? = some u := by rw [hzs]; simpa using hu
      rw [Array.getElem?_eq_getElem hlt] at hu'
      cases hu'
      simp only [f]
      rw [getElem!_pos zv.cells (j % zv.cells.size) hlt]
    have hrun := run_make (P := P) w t e i zv (kindF_underlying ht) hi hzv .i64 .i64 n n h0 (Int.le_refl _) (by rw [hbe]; omega) (by omega)
    have hmade : madeCells zv.cells (n.toNat * i.size) = ((List.range (n.toNat * size)).map f).toArray := by
      rw [hse]
      apply Array.ext'
      simp [madeCells, f]
    rw [hmade] at hrun
    refine ⟨.slice (some ⟨w.heap.size, 0, none⟩) n.toNat n.toNat, _, _, .inl ?_, hrow, arr_new rfl (Nat.le_refl _) (by simp) (Nat.le_refl _)⟩
    simp only [execOp, ho, h1.int, h2.int, Sem.run_bind, hrun, Result.andThen_ok, Sem.run_pure]

end Go.Fm
