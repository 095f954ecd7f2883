import Derived.Test.YtkjjcpgickjidaaFm18
/-! Drawn regions, whole. -/
namespace Go.Fm
set_option linter.unusedVariables false
open Classical

def stt (l : List Stp) (s' : S) (i : Nat) : S := match l[i]? with | some x => x.s | none => s'
theorem Seq.spec {P : Program} {nt : Nat} {all : List Oper} {os : List Oper} {s s' : S} {l : List Stp} (h : Seq P nt all os s l s') :
    l.length = os.length ∧ stt l s' 0 = s ∧ stt l s' os.length = s' ∧ ∀ i o, os[i]? = some o → ∃ x, l[i]? = some x ∧ dstOk nt o ∧ GuardIs all (lk x.s.env) o x.g ∧
      ((x.g = true ∧ ActX P o x.s.st x.s.heap.length x.A) ∨ (x.g = false ∧ x.A = skipA)) ∧ x.s = stt l s' i ∧ stt l s' (i + 1) = x.s.app o.dst x.A := by
  induction h with
  | nil s => exact ⟨rfl, rfl, rfl, fun i o ho => by simp at ho⟩
  | cons o os s s' A g l hd hg hA _ ih =>
    obtain ⟨h1, h2, h3, h4⟩ := ih
    refine ⟨by simp [h1], rfl, ?_, fun i o' ho => ?_⟩
    · simpa [stt] using h3
    · cases i with
      | zero => simp at ho; subst ho; exact ⟨_, rfl, hd, hg, hA, rfl, by simpa [stt] using h2⟩
      | succ i =>
        obtain ⟨x, e1, e2, e3, e4, e5, e6⟩ := h4 i o' (by simpa using ho)
        exact ⟨x, by simpa using e1, e2, e3, e4, by simpa [stt] using e5, by simpa [stt] using e6⟩

def wEnv (os : List Oper) (l : List Stp) (t : Nat) (i : Nat) : Option SV :=
  match os[i]?, l[i]? with
  | some o, some x => if o.dst = some t then some x.A.val else none
  | _, _ => none
def wHp (l : List Stp) (id : Nat) (i : Nat) : Option HS := match l[i]? with | some x => hpOf x.A.hp id | none => none
def phiS (os : List Oper) (l : List Stp) (s : S) (p : Nat → Bool) (n : Nat) : St := ⟨fun t => vAt (wEnv os l t) p (s.st.env t) n, fun id => vAt (wHp l id) p (s.st.heap id) n⟩

theorem St.app_eq (φ : St) (d : Option Nat) (A : Action) : φ.app d A = ⟨fun t => if d = some t then A.val else φ.env t, fun id => (hpOf A.hp id).getD (φ.heap id)⟩ := by
  have hh : heapOf φ.heap A.hp = fun id => (hpOf A.hp id).getD (φ.heap id) := funext fun id => heapOf_hpOf _ _ _
  cases d with
  | none => simp [St.app, St.put, hh]
  | some d =>
    simp only [St.app, St.put, hh]
    congr 1
    funext t
    simp only [upd, Option.some.injEq]
    by_cases h : d = t
    · simp [h]
    · simp [h, Ne.symm h]

theorem Seq.state {P : Program} {nt : Nat} {all : List Oper} {os : List Oper} {s s' : S} {l : List Stp} (h : Seq P nt all os s l s') :
    ∀ i, i ≤ os.length → (stt l s' i).st = phiS os l s (fun _ => true) i := by
  obtain ⟨h1, h2, h3, h4⟩ := h.spec
  intro i
  induction i with
  | zero => intro _; rw [h2]; rfl
  | succ i ih =>
    intro hi
    have hlt : i < os.length := by omega
    obtain ⟨x, e1, _, _, _, e5, e6⟩ := h4 i os[i] (List.getElem?_eq_getElem hlt)
    rw [e6, S.app_st, St.app_eq, e5, ih (by omega)]
    simp only [phiS, vAt, if_true]
    congr 1
    · funext t
      simp only [wEnv, List.getElem?_eq_getElem hlt, e1]
      by_cases hd : os[i].dst = some t
      · simp [hd]
      · simp [hd]
    · funext id
      simp only [wHp, e1]

theorem mem_looksAt_op {ops : Array Oper} {o : Oper} {t : Nat} (h : Operand.tmp t ∈ o.op.operands) : t ∈ o.looksAt ops := by
  unfold Oper.looksAt
  exact List.mem_append_left _ (List.mem_filterMap.2 ⟨.tmp t, by simpa using h, rfl⟩)
theorem mem_looksAt_guard {ops : Array Oper} {o : Oper} {j d : Nat} {b : Bool} (hg : o.guard = some (j, b)) (h : (ops[j]?).bind (·.dst) = some d) : d ∈ o.looksAt ops := by
  unfold Oper.looksAt
  refine List.mem_append_right _ ?_
  rw [hg]
  simp only
  rw [h]
  simp

theorem Seq.drawn {P : Program} {nt : Nat} {ops : Array Oper} {s s' : S} {l : List Stp} (h : Seq P nt ops.toList ops.toList s l s') (hok : drawOk ops.toList (feetOf l) = true)
    {C : Ctx} (hP : C.P = P) (hn : C.nt = nt) {Q : Exit → Act → World → Prop} (hQ : ∀ a' w', RelX C s'.st a' w' → Q .normal a' w') :
    ∀ (fuel : Nat) (listed : Array Bool) (a : Act) (w : World), listed.size = ops.size → unl (fun i => listed.getD i false) ops.size ≤ fuel →
      (∀ j o, ops.toList[j]? = some o → listed.getD j false = true → ∀ e ∈ o.after, Region.binds .any e = true → listed.getD e.on false = true) →
      RelX C (phiS ops.toList l s (fun i => listed.getD i false) ops.size) a w → wpAny P .any ops Q fuel listed a w := by
  obtain ⟨h1, h2, h3, h4⟩ := h.spec
  have hst := h.state
  simp only [drawOk, Bool.and_eq_true] at hok
  obtain ⟨hdown, hrows⟩ := hok
  have hlenT : ops.toList.length = ops.size := by simp
  -- all is listed where nothing is ready
  have hall : ∀ listed : Array Bool, listed.size = ops.size → Region.ready .any ops listed = [] → ∀ j, j < ops.size → listed.getD j false = true := by
    intro listed hsz hr j
    induction j using Nat.strongRecOn with
    | _ j ih =>
      intro hj
      apply Classical.byContradiction
      intro hn
      have : j ∈ Region.ready .any ops listed := by
        refine mem_ready.2 ⟨?_, ops[j], Array.getElem?_eq_getElem hj, fun e he hb => ?_⟩
        · have hjl : j < listed.size := by omega
          simp only [Array.getD_eq_getD_getElem?, Array.getElem?_eq_getElem hjl, Option.getD_some] at hn ⊢
          simpa using hn
        · have := downAll_get hdown j ops[j] (by simp [hj]) e he hb
          exact ih e.on (by omega) (by omega)
      rw [hr] at this
      cases this
  have hend : ∀ listed : Array Bool, (∀ j, j < ops.size → listed.getD j false = true) → phiS ops.toList l s (fun i => listed.getD i false) ops.size = s'.st := fun listed hl => by
    rw [← h3, hst _ (Nat.le_refl _), hlenT]
    simp only [phiS]
    congr 1
    · funext t; exact vAt_congr fun j hj _ => hl j hj
    · funext id; exact vAt_congr fun j hj _ => hl j hj
  intro fuel
  induction fuel with
  | zero =>
    intro listed a w hsz hu hcl hR
    have hl := unl_zero (Nat.le_zero.1 hu)
    refine ⟨?_, hQ a w (by rw [← hend listed hl]; exact hR)⟩
    apply List.eq_nil_iff_forall_not_mem.2
    intro j hj
    obtain ⟨e1, o, e2, _⟩ := mem_ready.1 hj
    have hjl : j < ops.size := (Array.getElem?_eq_some_iff.1 e2).1
    have := hl j hjl
    have hjl' : j < listed.size := by omega
    simp only [Array.getD_eq_getD_getElem?, Array.getElem?_eq_getElem hjl', Option.getD_some] at e1 this
    rw [this] at e1
    cases e1
  | succ fuel ih =>
    intro listed a w hsz hu hcl hR
    refine ⟨fun hr => hQ a w (by rw [← hend listed (hall listed hsz hr)]; exact hR), fun i hi => ?_⟩
    obtain ⟨e1, o, e2, e3⟩ := mem_ready.1 hi
    have hil : i < ops.size := (Array.getElem?_eq_some_iff.1 e2).1
    have hil' : i < listed.size := by omega
    have hpi : listed.getD i false = false := by
      simp only [Array.getD_eq_getD_getElem?, Array.getElem?_eq_getElem hil', Option.getD_some] at e1 ⊢
      exact e1
    have hoL : ops.toList[i]? = some o := by simpa using e2
    obtain ⟨x, g1, g2, g3, g4, g5, g6⟩ := h4 i o hoL
    -- what is in conflict with this operation stands in order to it
    have hord : ∀ j oj y, ops.toList[j]? = some oj → l[j]? = some y → j ≠ i → conf ops (if j < i then oj else o) (if j < i then o else oj) (if j < i then (y.A.rd, y.A.hp.map (·.1)) else (x.A.rd, x.A.hp.map (·.1))) (if j < i then (x.A.rd, x.A.hp.map (·.1)) else (y.A.rd, y.A.hp.map (·.1))) = true →
        (j < i → listed.getD j false = true) ∧ (i < j → listed.getD j false = false) := by
      intro j oj y hj hy hne hc
      have hfj : (feetOf l)[j]? = some (y.A.rd, y.A.hp.map (·.1)) := by simp [feetOf, hy]
      have hfi : (feetOf l)[i]? = some (x.A.rd, x.A.hp.map (·.1)) := by simp [feetOf, g1]
      have hjl : j < ops.size := by have := (List.getElem?_eq_some_iff.1 hj).1; omega
      have hml := preT_length ops.toList []
      rcases Nat.lt_or_gt_of_ne hne with hlt | hlt
      · rw [if_pos hlt, if_pos hlt, if_pos hlt, if_pos hlt] at hc
        refine ⟨fun _ => ?_, fun h => by omega⟩
        have hmi : i < (preT ops.toList []).length := by simp at hml; omega
        have hrow := rowsOk_get hrows i o _ _ hoL hfi (List.getElem?_eq_getElem hmi)
        rcases rowOk_get hrow j oj _ (by rw [List.getElem?_take, if_pos (by omega)]; exact hj) (by rw [List.getElem?_take, if_pos (by omega)]; exact hfj) with hb | hb
        · -- the closed set with this operation added
          have hcl' : ∀ k ok, ops.toList[k]? = some ok → (listed.getD k false || k == i) = true → ∀ e ∈ ok.after, Region.binds .any e = true → (listed.getD e.on false || e.on == i) = true := fun k ok hk hpk e he hbe => by
            by_cases hki : k = i
            · subst hki
              rw [hoL] at hk
              cases hk
              rw [e3 e he hbe]; rfl
            · have : listed.getD k false = true := by simpa [hki] using hpk
              rw [hcl k ok hk this e he hbe]; rfl
          have := preT_sound (p := fun k => listed.getD k false || k == i) hcl' ops.toList [] rfl (fun j m hm => by simp at hm) i _ (List.getElem?_eq_getElem hmi) (by simp) j (by simpa using hb)
          simpa [hne] using this
        · have heta : ops.toList.toArray = ops := by simp
          simp only [heta] at hb
          rw [hb] at hc; cases hc
      · have hnlt : ¬ j < i := by omega
        rw [if_neg hnlt, if_neg hnlt, if_neg hnlt, if_neg hnlt] at hc
        refine ⟨fun h => by omega, fun _ => ?_⟩
        have hmj : j < (preT ops.toList []).length := by simp at hml; omega
        have hrow := rowsOk_get hrows j oj _ _ hj hfj (List.getElem?_eq_getElem hmj)
        rcases rowOk_get hrow i o _ (by rw [List.getElem?_take, if_pos (by omega)]; exact hoL) (by rw [List.getElem?_take, if_pos (by omega)]; exact hfi) with hb | hb
        · apply Classical.byContradiction
          intro hpj
          have hpj : listed.getD j false = true := by simpa using hpj
          have := preT_sound (p := fun k => listed.getD k false) hcl ops.toList [] rfl (fun j m hm => by simp at hm) j _ (List.getElem?_eq_getElem hmj) hpj i (by simpa using hb)
          rw [hpi] at this
          cases this
        · have heta : ops.toList.toArray = ops := by simp
          simp only [heta] at hb
          rw [hb] at hc; cases hc
    have hordA : ∀ j oj y, ops.toList[j]? = some oj → l[j]? = some y → j ≠ i → (conf ops oj o (y.A.rd, y.A.hp.map (·.1)) (x.A.rd, x.A.hp.map (·.1)) = true ∧ conf ops o oj (x.A.rd, x.A.hp.map (·.1)) (y.A.rd, y.A.hp.map (·.1)) = true) →
        (j < i → listed.getD j false = true) ∧ (i < j → listed.getD j false = false) := fun j oj y hj hy hne ⟨c1, c2⟩ => by
      refine hord j oj y hj hy hne ?_
      by_cases hlt : j < i
      · simp only [if_pos hlt]; exact c1
      · simp only [if_neg hlt]; exact c2
    -- slots
    have hslot : ∀ t, (t ∈ o.looksAt ops ∨ o.dst = some t) → ∀ j, wEnv ops.toList l t j ≠ none → j ≠ i → (j < i → listed.getD j false = true) ∧ (i < j → listed.getD j false = false) := by
      intro t ht j hj hne
      unfold wEnv at hj
      split at hj
      · rename_i oj y hoj hy
        split at hj
        · rename_i hdj
          refine hordA j oj y hoj hy hne ⟨?_, ?_⟩
          · rcases ht with ht | ht
            · have : memS oj.dst (o.looksAt ops) = true := by rw [hdj]; simpa [memS] using ht
              simp [conf, this]
            · have : memS oj.dst o.dst.toList = true := by rw [hdj, ht]; simp [memS]
              simp [conf, this]
          · rcases ht with ht | ht
            · have : memS oj.dst (o.looksAt ops) = true := by rw [hdj]; simpa [memS] using ht
              simp [conf, this]
            · have : memS o.dst oj.dst.toList = true := by rw [hdj, ht]; simp [memS]
              simp [conf, this]
        · exact absurd rfl hj
      · exact absurd rfl hj
    have hblk : ∀ id, (id ∈ x.A.rd ∨ id ∈ x.A.hp.map (·.1)) → ∀ j, wHp l id j ≠ none → j ≠ i → (j < i → listed.getD j false = true) ∧ (i < j → listed.getD j false = false) := by
      intro id hid j hj hne
      unfold wHp at hj
      split at hj
      · rename_i y hy
        have hmem := hpOf_mem hj
        have hjl : j < ops.toList.length := by rw [← h1]; exact (List.getElem?_eq_some_iff.1 hy).1
        have any_of : ∀ (a b : List Nat), id ∈ a → id ∈ b → anyIn a b = true := fun a b ha hb => by
          cases hc : anyIn a b with
          | true => rfl
          | false => exact absurd hb (anyIn_spec hc id ha)
        refine hordA j _ y (List.getElem?_eq_getElem hjl) hy hne ⟨?_, ?_⟩
        · rcases hid with hid | hid
          · simp only [conf]; rw [any_of _ _ hmem hid]; simp
          · simp only [conf]; rw [any_of (List.map (·.1) y.A.hp) _ hmem hid]; simp
        · rcases hid with hid | hid
          · simp only [conf]; rw [any_of (List.map (·.1) y.A.hp) x.A.rd hmem hid]; simp
          · simp only [conf]; rw [any_of (List.map (·.1) x.A.hp) (List.map (·.1) y.A.hp) hid hmem]; simp
      · exact absurd rfl hj
    have hxs : x.s.st = phiS ops.toList l s (fun _ => true) i := by rw [g5]; exact hst i (by omega)
    have henv : ∀ t, t ∈ o.looksAt ops → (phiS ops.toList l s (fun i => listed.getD i false) ops.size).env t = x.s.st.env t := fun t ht => by
      rw [hxs]
      exact vAt_read (by omega) (fun j hj hw => (hslot t (.inl ht) j hw (by omega)).1 hj) (fun j hj hjn hw => by
        by_cases he : j = i
        · rw [he]; exact hpi
        · exact (hslot t (.inl ht) j hw he).2 (by omega))
    have hheap : ∀ id, (id ∈ x.A.rd ∨ id ∈ x.A.hp.map (·.1)) → (phiS ops.toList l s (fun i => listed.getD i false) ops.size).heap id = x.s.st.heap id := fun id hid => by
      rw [hxs]
      exact vAt_read (by omega) (fun j hj hw => (hblk id hid j hw (by omega)).1 hj) (fun j hj hjn hw => by
        by_cases he : j = i
        · rw [he]; exact hpi
        · exact (hblk id hid j hw he).2 (by omega))
    -- the next state
    let listed' := listed.setIfInBounds i true
    have hp' : ∀ j, listed'.getD j false = if j = i then true else listed.getD j false := fun j => by
      by_cases he : j = i
      · subst he
        simp [listed', hil']
      · rw [if_neg he]
        exact getD_set_ne false (Ne.symm he)
    have hnext : phiS ops.toList l s (fun i => listed'.getD i false) ops.size = (phiS ops.toList l s (fun i => listed.getD i false) ops.size).app o.dst x.A := by
      rw [St.app_eq]
      simp only [phiS]
      congr 1
      · funext t
        rw [vAt_pick hil hp' hpi (fun j hj hjn hwi hwj => by
          have hdt : o.dst = some t := by
            unfold wEnv at hwi
            rw [hoL, g1] at hwi
            simp only at hwi
            split at hwi
            · assumption
            · exact absurd rfl hwi
          exact (hslot t (.inr hdt) j hwj (by omega)).2 hj)]
        simp only [wEnv, hoL, g1]
        by_cases hd : o.dst = some t
        · simp [hd]
        · simp [hd]
      · funext id
        rw [vAt_pick hil hp' hpi (fun j hj hjn hwi hwj => by
          have hm : id ∈ x.A.hp.map (·.1) := by
            unfold wHp at hwi
            rw [g1] at hwi
            exact hpOf_mem hwi
          exact (hblk id (.inr hm) j hwj (by omega)).2 hj)]
        simp only [wHp, g1]
    have hgo : ∀ a' w', RelX C ((phiS ops.toList l s (fun i => listed.getD i false) ops.size).app o.dst x.A) a' w' → wpAny P .any ops Q fuel listed' a' w' := fun a' w' hR' => by
      refine ih listed' a' w' (by simp [listed', hsz]) ?_ ?_ (by rw [hnext]; exact hR')
      · have := unl_lt (p := fun i => listed.getD i false) (q := fun i => listed'.getD i false) (fun j hj => by
          have hj : listed.getD j false = true := hj
          show listed'.getD j false = true
          rw [hp']; split
          · rfl
          · exact hj) hpi (by show listed'.getD i false = true; rw [hp', if_pos rfl]) hil
        omega
      · intro j oj hj hpj e he hb
        rw [hp'] at hpj ⊢
        split
        · rfl
        · by_cases hji : j = i
          · subst hji
            rw [hoL] at hj
            cases hj
            exact e3 e he hb
          · rw [if_neg hji] at hpj
            exact hcl j oj hj hpj e he hb
    have hdn : ∀ d, o.dst = some d → d < C.nt := fun d hd => by rw [hn]; exact g2.lt hd
    obtain ⟨C', hC', ρ, R0⟩ := id hR
    have hw := g3.wanted R0 (ops := ops) (fun j b d hg hd => henv d (mem_looksAt_guard (ops := ops) hg (by rw [← hd]; simp))) rfl
    unfold wpOp
    rw [e2]
    simp only
    rw [hw]
    rcases g4 with ⟨hg, hA⟩ | ⟨hg, hA⟩
    · rw [hg, if_pos rfl]
      refine .inl (hA C hP _ a w ⟨fun y hy => ?_, fun id hid => hheap id (.inl hid), fun p hp hle => ?_⟩ hR hdn _ Q hgo)
      · cases y with
        | tmp t => exact henv t (mem_looksAt_op hy)
        | const v => rfl
        | global g => rfl
        | func f => rfl
      · rw [hheap p.1 (.inr (List.mem_map_of_mem hp))]
        show (x.s.heap.getD p.1 .no) = .no
        simp [List.getElem?_eq_none hle]
    · rw [hg]
      simp only [Bool.false_eq_true, if_false]
      refine hgo _ w ?_
      rw [hA]
      exact RelX.skip hR hdn

end Go.Fm
