import Derived.Test.YtkjjcpgickjidaaFm8
/-! Each operation of the machine is what the model's operation does: structs put together, append, copy, clear, bytes of texts. -/
namespace Go.Fm
set_option linter.unusedVariables false
set_option linter.unusedSimpArgs false
variable {P : Program} {o : Oper} {φ : St} {nid : Nat}

theorem run_mapM_list {α β : Type} (f : α → Sem β) (g : α → β) (w : World) : ∀ (l : List α), (∀ x ∈ l, (f x).run P w = .ok (g x) w) → (l.mapM f).run P w = .ok (l.map g) w
  | [], _ => rfl
  | x :: r, h => by
    have h1 := h x (by simp)
    have h2 := run_mapM_list f g w r (fun y hy => h y (by simp [hy]))
    rw [List.mapM_cons]
    simp only [Sem.run_bind, h1, Result.andThen_ok, h2, Sem.run_pure, List.map_cons]

theorem run_mapM {α β : Type} (f : α → Sem β) (g : α → β) (w : World) (a : Array α) (h : ∀ x ∈ a.toList, (f x).run P w = .ok (g x) w) : (a.mapM f).run P w = .ok (a.map g) w := by
  have h1 := run_mapM_list (P := P) f g w a.toList h
  rw [Array.mapM_eq_mapM_toList]
  simp only [Sem.run_map, h1, Result.andThen_ok]
  congr 1
  apply Array.ext'
  simp

/-- A struct's parts, put over its zero value. -/
theorem fill_elim {t : TypeId} {fs : Array Field} (hu : P.underlying t = some (.struct fs)) : ∀ (l : List (Nat × Operand)) (cs : List CV) (K : List CV → Prop), fillF P φ t cs l K → ∃ ns, K ns ∧ ns.length = cs.length ∧
    ∀ (w : World) (Sh : Nat → Prop) (ρ : Rho) (h : Nat → HS) (ev : Operand → Value), (∀ p ∈ l, RSV w Sh ρ h (ev p.2) (φ.ev p.2)) →
      ∀ (vs : Array Value), vs.size = cs.length → (∀ (j : Nat) (c : CV), cs[j]? = some c → ∃ u : Value, vs.toList[j]? = some u ∧ RV w Sh ρ h u c) →
        ∃ us : Array Value, us.size = ns.length ∧ (∀ (j : Nat) (c : CV), ns[j]? = some c → ∃ u : Value, us.toList[j]? = some u ∧ RV w Sh ρ h u c) ∧
        Instr.fill (fun i => (fs.map fun f => (f.offset, P.cellsOf f.type))[i]?) vs (l.map fun p => (p.1, ev p.2)) = some us
  | [], cs, K, h => ⟨cs, h, rfl, fun w Sh ρ hh ev _ vs h1 h2 => ⟨vs, h1, h2, rfl⟩⟩
  | (f, x) :: r, cs, K, h => by
    simp only [fillF] at h
    obtain ⟨q, hq, h⟩ := kO_elim h
    obtain ⟨ns, ⟨hsz, hle, h⟩, hns⟩ := SV.kC_elim h
    obtain ⟨ms, hK, hml, hms⟩ := fill_elim hu r _ _ h
    refine ⟨ms, hK, by rw [hml, over_length hle], fun w Sh ρ hh ev hev vs h1 h2 => ?_⟩
    obtain ⟨hvs, hvr⟩ := hns w Sh ρ hh (ev x) (hev (f, x) (by simp))
    unfold foffF at hq
    rw [hu] at hq
    obtain ⟨fd, hf, rfl⟩ := Option.map_eq_some_iff.1 hq
    have hcell : P.cellsOf fd.type = ns.length := by
      unfold sizeF at hsz
      simp only [Program.cellsOf, hsz, Option.getD_some]
    have hfold := fold_setA (ev x).cells fd.offset vs (by rw [hvs, h1]; exact hle)
    obtain ⟨us, hul, hur, hfill⟩ := hms w Sh ρ hh ev (fun p hp => hev p (by simp [hp])) (vs.toList.take fd.offset ++ (ev x).cells.toList ++ vs.toList.drop (fd.offset + (ev x).cells.size)).toArray
      (by rw [over_length hle]; simp [h1, hvs]; simp at hle; omega)
      (fun j c hc => by
        rw [over_get hle] at hc
        simp only
        have ht : (vs.toList.take fd.offset).length = fd.offset := by rw [List.length_take, Array.length_toList, h1]; simp at hle; omega
        have hcl : (ev x).cells.toList.length = ns.length := by rw [Array.length_toList]; exact hvs
        split at hc
        · rename_i hin
          obtain ⟨u, hu', hr⟩ := hvr _ c hc
          refine ⟨u, ?_, hr⟩
          rw [List.append_assoc, List.getElem?_append_right (by omega), ht, List.getElem?_append_left (by omega)]
          exact hu'
        · rename_i hout
          obtain ⟨u, hu', hr⟩ := h2 j c hc
          refine ⟨u, ?_, hr⟩
          simp only at hout
          by_cases hj : j < fd.offset
          · rw [List.append_assoc, List.getElem?_append_left (by omega), List.getElem?_take, if_pos hj]; exact hu'
          · rw [List.getElem?_append_right (by simp [ht, hvs]; omega), List.getElem?_drop]
            rw [show fd.offset + (ev x).cells.size + (j - (vs.toList.take fd.offset ++ (ev x).cells.toList).length) = j by simp only [List.length_append, ht, hcl]; omega]
            exact hu')
    refine ⟨us, hul, hur, ?_⟩
    simp only [List.map_cons, Instr.fill, Array.getElem?_map, hf, Option.map_some, hcell]
    rw [if_neg (by rw [hvs, h1]; simp at hle ⊢; omega)]
    show Instr.fill _ ((ev x).cells.zipIdx.foldl (fun cs (p : Value × Nat) => cs.setIfInBounds (fd.offset + p.2) p.1) vs) _ = _
    rw [hfold]
    simp only [Array.getElem?_map] at hfill
    exact hfill

theorem ok_build {t : TypeId} {ps : Array (Nat × Operand)} {z : List CV} {K : List CV → Prop} (ho : o.op = .build t ps) (ht : kindF P t = .agg) (hall : allSized P t = true) (hz : zeroF P t = some z)
    (h : fillF P φ t z ps.toList K) : ∃ cs, K cs ∧ ActOk P o φ nid ⟨[], .pv (.agg cs), []⟩ := by
  obtain ⟨fs, hu⟩ := kindF_agg ht
  obtain ⟨ns, hK, hl, hns⟩ := fill_elim hu _ _ _ h
  refine ⟨ns, hK, .quiet fun C φ' ac w ρ hP hag R => ?_⟩
  obtain ⟨zv, hzr, hzs, hzrel⟩ := zeroF_run hz
  obtain ⟨us, hul, hur, hfill⟩ := hns w C.Sh ρ φ'.heap ac.eval (fun p hp => by
    have := R.ev p.2
    rwa [hag.env p.2 (by simp only [ho, Op.operands, List.mem_toArray, List.mem_map]; exact ⟨p, hp, rfl⟩)] at this) zv.cells hzs (hzrel _ _ _ _)
  refine ⟨.agg us, ?_, ⟨us.toList, by rw [Array.toArray_toList], by rw [Array.length_toList]; exact hul, hur⟩⟩
  have hmap : (fs.mapM fun f => (do let s ← sizeOf f.type; pure (f.offset, s) : Sem (Nat × Nat))).run P w = .ok (fs.map fun f => (f.offset, P.cellsOf f.type)) w := by
    refine run_mapM _ _ w fs (fun f hf => ?_)
    unfold allSized at hall
    rw [hu] at hall
    have := List.all_eq_true.1 hall f hf
    obtain ⟨i, hi⟩ := Option.isSome_iff_exists.1 this
    simp [sizeOf, typeInfo, hi, Program.cellsOf]
  have hfill' : Instr.fill (fun i => (fs.map fun f => (f.offset, P.cellsOf f.type))[i]?) zv.cells (ps.map fun p => (p.1, ac.eval p.2)).toList = some us := by
    rw [Array.toList_map]; exact hfill
  simp only [execOp, ho, Instr.build, Sem.run_bind, hzr, Result.andThen_ok, run_underlying hu, hmap, hfill', Sem.run_pure]


/-- A slice's elements (or a text's bytes), as the model reads them. -/
theorem cells_elim {size : Nat} {x : SV} {K : List Nat → Nat → List CV → Prop} (h : φ.cells size x K) : ∃ rd m ns, K rd m ns ∧
    ∀ (C : Ctx) (φ' : St) (ac : Act) (w : World) (ρ : Rho) (v : Value), (∀ id ∈ rd, φ'.heap id = φ.heap id) → RelAt C ρ φ' ac w → RSV w C.Sh ρ φ'.heap v x →
      ns.length = m * size ∧ (notStr x = true → ∃ A k cap, v = .slice A k cap) ∧ (∀ w', (Builtin.lenOf v).run P w' = .ok m w') ∧ ∃ vs : List Value, vs.length = ns.length ∧ (∀ (j : Nat) (c : CV), ns[j]? = some c → ∃ u : Value, vs[j]? = some u ∧ RV w C.Sh ρ φ'.heap u c) ∧
        ∀ (k : Nat) (w' : World), k ≤ m → w'.heap = w.heap → (Builtin.firstCells size k v).run P w' = .ok (vs.take (k * size)).toArray w' := by
  unfold St.cells at h
  split at h
  · rename_i id lo n
    obtain ⟨b, hb, hz, hlo, hK⟩ := kLive_elim h
    subst hz
    refine ⟨_, _, _, hK, fun C φ' ac w ρ v hag R hv => ?_⟩
    · have hb' : φ'.heap id = .live b := (hag id (by simp)).trans hb
      have hr := hv.arr hb'
      have hrb := R.hp.blk id b hb'
      unfold RB at hrb
      obtain ⟨A, cap, he, hnc, _⟩ := hr.view
      have hlen : ∀ w', (Builtin.lenOf v).run P w' = .ok n w' := fun w' => by simp [he, Builtin.lenOf]
      cases hL : ρ id with
      | none =>
        rw [hL] at hr hrb
        obtain ⟨rfl, a, ha⟩ := hr
        refine ⟨by simp [hrb.1], fun _ => ⟨_, _, _, he⟩, hlen, [], by simp [hrb.1], fun j c hc => by simp [hrb.1] at hc, fun k w' hk hw => ?_⟩
        have hk0 : k = 0 := by omega
        subst hk0
        rw [ha]
        cases a <;> simp [Builtin.firstCells, loadCells, loadCellsFrom]
      | some L =>
        rw [hL] at hr hrb
        obtain ⟨q1, q2, q3, q4⟩ := hrb
        have hm1 : lo * b.sz + n * b.sz ≤ b.cs.length := by rw [q1, ← Nat.add_mul]; exact Nat.mul_le_mul_right _ hlo
        rcases hr with ⟨cap', hv', h1, h2, h3⟩ | ⟨rfl, a, ha⟩
        · have hf : ∀ j, ∃ u, j < n * b.sz → w.cell? ⟨L.b, L.o + lo * b.sz + j, none⟩ = some u ∧ ∀ c, b.cs[lo * b.sz + j]? = some c → RV w C.Sh ρ φ'.heap u c := by
            intro j
            by_cases hj : j < n * b.sz
            · obtain ⟨u, hu, hru⟩ := q4 (lo * b.sz + j) b.cs[lo * b.sz + j] (List.getElem?_eq_getElem (by omega))
              exact ⟨u, fun _ => ⟨by rw [Nat.add_assoc]; exact hu, fun c hc => by rw [List.getElem?_eq_getElem (by omega)] at hc; cases hc; exact hru⟩⟩
            · exact ⟨undef, fun h => absurd h hj⟩
          obtain ⟨f, hf⟩ := Classical.axiomOfChoice hf
          refine ⟨by simp; omega, fun _ => ⟨_, _, _, he⟩, hlen, (List.range (n * b.sz)).map f, by simp; omega, fun j c hc => ?_, fun k w' hk hw => ?_⟩
          · rw [List.getElem?_take] at hc
            split at hc
            · rename_i hj
              rw [List.getElem?_drop] at hc
              exact ⟨f j, by simp [hj], (hf j hj).2 c hc⟩
            · cases hc
          · have hkn : k * b.sz ≤ n * b.sz := Nat.mul_le_mul_right _ hk
            rw [hv']
            have htl : (((List.range (n * b.sz)).map f).take (k * b.sz)).length = k * b.sz := by rw [List.length_take, List.length_map, List.length_range]; omega
            rw [run_firstCells_some w' b.sz k _ n cap' (((List.range (n * b.sz)).map f).take (k * b.sz)) htl (fun j u hj => by
              rw [List.getElem?_take] at hj
              split at hj
              · rename_i hjk
                rw [List.getElem?_map, List.getElem?_range (by omega)] at hj
                cases hj
                rw [add_lit, World.cell?_of_block (w := w) (by rw [hw])]
                exact (hf j (by omega)).1
              · cases hj)]
        · refine ⟨by simp, fun _ => ⟨_, _, _, he⟩, hlen, [], by simp, fun j c hc => by simp at hc, fun k w' hk hw => ?_⟩
          have hk0 : k = 0 := by omega
          subst hk0
          rw [ha]
          cases a <;> simp [Builtin.firstCells, loadCells, loadCellsFrom]
  · rename_i sz n cs
    obtain ⟨hz, hK⟩ := h
    subst hz
    refine ⟨_, _, _, hK, fun C φ' ac w ρ v hag R hv => ?_⟩
    have hv := hv.imm
    cases hv with
    | imm0 a cap =>
      refine ⟨by simp, fun _ => ⟨_, _, _, rfl⟩, fun w' => by simp [Builtin.lenOf], [], rfl, fun j c hc => by simp at hc, fun k w' hk hw => ?_⟩
      have hk0 : k = 0 := by omega
      subst hk0
      cases a <;> simp [Builtin.firstCells, loadCells, loadCellsFrom]
    | imm B off _ cap _ _ vals hsh hnc hl hc hr =>
      refine ⟨hl, fun _ => ⟨_, _, _, rfl⟩, fun w' => by simp [Builtin.lenOf], (List.range cs.length).map vals, by simp, fun j c hj => ?_, fun k w' hk hw => ?_⟩
      · have hj' := (List.getElem?_eq_some_iff.1 hj).1
        exact ⟨vals j, by simp [hj'], .of_RI (hr j c hj)⟩
      · have hkn : k * sz ≤ n * sz := Nat.mul_le_mul_right _ hk
        have htl : (((List.range cs.length).map vals).take (k * sz)).length = k * sz := by rw [List.length_take, List.length_map, List.length_range]; omega
        rw [run_firstCells_some w' sz k _ n cap (((List.range cs.length).map vals).take (k * sz)) htl (fun j u hj => by
          rw [List.getElem?_take] at hj
          split at hj
          · rename_i hjk
            rw [List.getElem?_map, List.getElem?_range (by omega)] at hj
            cases hj
            rw [add_lit, World.cell?_of_block (w := w) (by rw [hw])]
            exact hc j (by omega)
          · cases hj)]
  · refine ⟨_, _, _, h, fun C φ' ac w ρ v hag R hv => ?_⟩
    obtain ⟨a, ha⟩ := hv.emp
    refine ⟨by simp, fun _ => ⟨_, _, _, ha⟩, fun w' => by simp [ha, Builtin.lenOf], [], rfl, fun j c hc => by simp at hc, fun k w' hk hw => ?_⟩
    have hk0 : k = 0 := by omega
    subst hk0
    rw [ha]
    cases a <;> simp [Builtin.firstCells, loadCells, loadCellsFrom]
  · rename_i l
    obtain ⟨hz, hK⟩ := h
    subst hz
    refine ⟨_, _, _, hK, fun C φ' ac w ρ v hag R hv => ?_⟩
    obtain ⟨s, he, hs⟩ := hv.str
    have hsz : s.size = l.length := by rw [← hs, Array.length_toList]; rfl
    refine ⟨by simp, (fun h => by cases h), fun w' => by simp [he, Builtin.lenOf, hsz], l.map fun b => Value.int .u8 b.toNat, by simp, fun j c hc => ?_, fun k w' hk hw => ?_⟩
    · rw [List.getElem?_map] at hc ⊢
      cases hl : l[j]? with
      | none => rw [hl] at hc; cases hc
      | some b => rw [hl] at hc; cases hc; exact ⟨_, rfl, .of_RI (.int _ _)⟩
    · rw [he]
      simp only [Builtin.firstCells, Sem.run_pure]
      congr 1
      apply Array.ext'
      rw [Array.toList_map]
      simp [ByteArray.data_extract, hs, List.extract_eq_take_drop]
  · exact h.elim

end Go.Fm
