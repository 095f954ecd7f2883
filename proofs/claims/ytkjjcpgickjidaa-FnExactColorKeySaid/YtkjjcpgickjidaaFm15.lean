import Derived.Test.YtkjjcpgickjidaaFm14
/-! The rule of calls. -/
namespace Go.Fm
set_option linter.unusedVariables false
open Classical

/-- Where a callee's block stands among the caller's. -/
def sig (π : List Nat) (k0 nid : Nat) (j : Nat) : Nat := if j < k0 then π.getD j 0 else nid + (j - k0)
def backHp (σ : Nat → Nat) (keep : Bool) : Nat → List HS → List (Nat × HS)
  | _, [] => []
  | j, s :: r => (σ j, backH σ keep s) :: backHp σ keep (j + 1) r
theorem backHp_get {σ : Nat → Nat} {keep : Bool} : ∀ (l : List HS) (j i : Nat), (backHp σ keep j l)[i]? = (l[i]?).map fun s => (σ (j + i), backH σ keep s)
  | [], j, i => by simp [backHp]
  | s :: r, j, i => by
    cases i with
    | zero => simp [backHp]
    | succ i => simp only [backHp, List.getElem?_cons_succ, backHp_get r (j + 1) i]; rw [show j + 1 + i = j + (i + 1) by omega]
def allIn (π : List Nat) : List Nat → Bool
  | [] => true
  | x :: r => (ixOf π x).isSome && allIn π r
theorem allIn_mem {π : List Nat} : ∀ {l : List Nat}, allIn π l = true → ∀ x ∈ l, x ∈ π
  | [], _, x, hx => by simp at hx
  | y :: r, h, x, hx => by
    simp only [allIn, Bool.and_eq_true] at h
    rcases List.mem_cons.1 hx with rfl | hx
    · cases hi : ixOf π x with
      | none => rw [hi] at h; simp at h
      | some j => exact List.mem_of_getElem? (ixOf_some hi)
    · exact allIn_mem h.2 x hx
def keepOk : List HS → List HS → Bool
  | [], _ => true
  | .live b :: r, .live b' :: s => b.sz == b'.sz && b.n == b'.n && keepOk r s
  | .live _ :: r, .dead :: s => keepOk r s
  | .dead :: r, .dead :: s => keepOk r s
  | _, _ => false
theorem keepOk_get : ∀ {bs h1 : List HS}, keepOk bs h1 = true → ∀ j, j < bs.length → ∀ l, HLe (hOf bs j) l (hOf h1 j) l
  | [], _, _, j, hj, _ => by simp at hj
  | .live b :: r, .live b' :: s, h, j, hj, l => by
    simp only [keepOk, Bool.and_eq_true, beq_iff_eq] at h
    cases j with
    | zero => exact ⟨h.1.1.symm, h.1.2.symm, rfl⟩
    | succ j => exact keepOk_get h.2 j (by simpa using hj) l
  | .live _ :: r, .dead :: s, h, j, hj, l => by
    cases j with
    | zero => trivial
    | succ j => exact keepOk_get (by simpa [keepOk] using h) j (by simpa using hj) l
  | .dead :: r, .dead :: s, h, j, hj, l => by
    cases j with
    | zero => trivial
    | succ j => exact keepOk_get (by simpa [keepOk] using h) j (by simpa using hj) l
  | .no :: r, _, h, j, hj, l => by simp [keepOk] at h
  | .live _ :: r, [], h, j, hj, l => by simp [keepOk] at h
  | .live _ :: r, .no :: s, h, j, hj, l => by simp [keepOk] at h
  | .dead :: r, [], h, j, hj, l => by simp [keepOk] at h
  | .dead :: r, .no :: s, h, j, hj, l => by simp [keepOk] at h
  | .dead :: r, .live _ :: s, h, j, hj, l => by simp [keepOk] at h

def callA (π : List Nat) (nid : Nat) (rd : List Nat) (k0 : Nat) (r : SV) (h1 : List HS) : Action :=
  ⟨rd, backS (sig π k0 nid) (allIn π rd) r, backHp (sig π k0 nid) (allIn π rd) 0 h1⟩
def argsP : List SV → Option (List PV)
  | [] => some []
  | .pv p :: r => (argsP r).map (p :: ·)
  | _ => none
theorem argsP_some : ∀ {l : List SV} {ps : List PV}, argsP l = some ps → l = ps.map .pv
  | [], ps, h => by cases h; rfl
  | .pv p :: r, ps, h => by
    obtain ⟨q, hq, rfl⟩ := Option.map_eq_some_iff.1 h
    rw [argsP_some hq]; rfl
  | .tup _ :: r, ps, h => by cases h
theorem hOf_ne {l : List HS} {j : Nat} (h : hOf l j ≠ .no) : j < l.length := by
  apply Classical.byContradiction
  intro hn
  exact h (by simp [hOf, List.getElem?_eq_none (Nat.le_of_not_lt hn)])
theorem hOf_get {l : List HS} {j : Nat} {s : HS} (h : l[j]? = some s) : hOf l j = s := by simp [hOf, h]

def nodB : List Nat → Bool
  | [] => true
  | x :: r => (ixOf r x).isNone && nodB r
theorem ixOf_mem : ∀ {π : List Nat} {x : Nat}, x ∈ π → (ixOf π x).isSome = true
  | y :: r, x, h => by
    unfold ixOf
    split
    · rfl
    · rename_i hne
      rcases List.mem_cons.1 h with rfl | h
      · exact absurd rfl hne
      · simpa using ixOf_mem h
theorem nodB_spec : ∀ {π : List Nat}, nodB π = true → ∀ (i j x : Nat), π[i]? = some x → π[j]? = some x → i = j
  | [], _, i, j, x, h, _ => by simp at h
  | y :: r, hn, i, j, x, h, h' => by
    simp only [nodB, Bool.and_eq_true] at hn
    have key : ∀ k, r[k]? = some y → False := fun k hk => by
      have := ixOf_mem (List.mem_of_getElem? hk)
      rw [Option.isNone_iff_eq_none] at hn
      rw [hn.1] at this
      cases this
    cases i with
    | zero =>
      cases j with
      | zero => rfl
      | succ j => simp at h h'; subst h; exact (key j h').elim
    | succ i =>
      cases j with
      | zero => simp at h h'; subst h'; exact (key i h).elim
      | succ j => rw [nodB_spec hn.2 i j x (by simpa using h) (by simpa using h')]

/-- The caller's memory behind the call. -/
theorem merge {C : Ctx} {ρ ρ2 ρ' : Rho} {φ : St} {a : Act} {w w' : World} (R : RelAt C ρ φ a w) {π : List Nat} {nid : Nat} {Sh2 O2 Sh' : Nat → Prop} {bs h1 : List HS} {keep : Bool}
    (hnd : ∀ (i j x : Nat), π[i]? = some x → π[j]? = some x → i = j) (hπ : bs.length = π.length) (hne : ∀ id ∈ π, φ.heap id ≠ .no) (hfresh : ∀ i, bs.length + i < h1.length → φ.heap (nid + i) = .no)
    (hsh : ∀ k, C.Sh k → Sh2 k) (hkeep : keep = true → ∀ k, Sh2 k → C.Sh k)
    (hO : ∀ k, O2 k → ∃ (id : Nat) (b : Blk) (L : Loc), id ∈ π ∧ φ.heap id = .live b ∧ ρ id = some L ∧ L.b = k)
    (hρ2 : ∀ j id, π[j]? = some id → ρ2 j = ρ id)
    (hle : ∀ j id, π[j]? = some id → ∀ l, HLe (φ.heap id) l (hOf h1 j) l)
    (hR : HeapRel w Sh' O2 ρ' (hOf h1) w') (hinit : ∀ j, j < bs.length → hOf h1 j ≠ .no ∧ ρ' j = ρ2 j)
    (hfr : Fr w O2 w') (hs1 : ∀ k, Sh2 k → Sh' k) (hs2 : ∀ k, Sh' k → k < w'.heap.size ∧ (Sh2 k ∨ w.heap.size ≤ k ∨ O2 k)) :
    ∃ C3 ρ3, Reb C C3 ∧ RelAt C3 ρ3 { φ with heap := heapOf φ.heap (backHp (sig π bs.length nid) keep 0 h1) } a w' ∧
      ∀ v r, RSV w' Sh' ρ' (hOf h1) v r → RSV w' C3.Sh ρ3 (heapOf φ.heap (backHp (sig π bs.length nid) keep 0 h1)) v (backS (sig π bs.length nid) keep r) := by
  have hk1 : bs.length ≤ h1.length := by
    apply Nat.le_of_not_lt
    intro hn
    exact (hinit h1.length hn).1 (by simp [hOf])
  let σ := sig π bs.length nid
  have hσ1 : ∀ j, j < bs.length → ∃ id, π[j]? = some id ∧ σ j = id := fun j hj => by
    have : j < π.length := by omega
    refine ⟨π[j], List.getElem?_eq_getElem this, ?_⟩
    simp [σ, sig, hj, List.getElem?_eq_getElem this]
  have hσ2 : ∀ j, ¬ j < bs.length → σ j = nid + (j - bs.length) := fun j hj => by simp [σ, sig, hj]
  have hσno : ∀ j, j < h1.length → ¬ j < bs.length → φ.heap (σ j) = .no := fun j hj hn => by
    rw [hσ2 j hn]
    exact hfresh _ (by omega)
  have hinj : ∀ j j', j < h1.length → j' < h1.length → σ j = σ j' → j = j' := by
    intro j j' hj hj' he
    by_cases h : j < bs.length <;> by_cases h' : j' < bs.length
    · obtain ⟨id, e1, e2⟩ := hσ1 j h
      obtain ⟨id', e1', e2'⟩ := hσ1 j' h'
      rw [← e2, he, e2'] at e1
      exact hnd j j' _ e1 e1'
    · obtain ⟨id, e1, e2⟩ := hσ1 j h
      exact absurd (by rw [← e2, he]; exact hσno j' hj' h') (hne id (List.mem_of_getElem? e1))
    · obtain ⟨id, e1, e2⟩ := hσ1 j' h'
      exact absurd (by rw [← e2, ← he]; exact hσno j hj h) (hne id (List.mem_of_getElem? e1))
    · rw [hσ2 j h, hσ2 j' h'] at he
      omega
  let h3 := heapOf φ.heap (backHp σ keep 0 h1)
  let ρ3 : Rho := fun id => if hx : ∃ j, j < h1.length ∧ σ j = id then ρ' hx.choose else ρ id
  have hρ3 : ∀ j, j < h1.length → ρ3 (σ j) = ρ' j := fun j hj => by
    have hx : ∃ j', j' < h1.length ∧ σ j' = σ j := ⟨j, hj, rfl⟩
    simp only [ρ3, dif_pos hx]
    rw [hinj _ _ hx.choose_spec.1 hj hx.choose_spec.2]
  have hh3 : ∀ j, j < h1.length → h3 (σ j) = backH σ keep (hOf h1 j) := fun j hj => by
    have hg : (backHp σ keep 0 h1)[j]? = some (σ j, backH σ keep (hOf h1 j)) := by
      rw [backHp_get, List.getElem?_eq_getElem hj]
      simp [hOf, hj]
    exact heapOf_get _ _ j _ hg (fun i q hq hne he => by
      rw [backHp_get] at hq
      cases hi : h1[i]? with
      | none => rw [hi] at hq; cases hq
      | some s =>
        rw [hi] at hq
        cases hq
        simp only [Nat.zero_add] at he
        exact hne (hinj _ _ (List.getElem?_eq_some_iff.1 hi).1 hj he))
  have hno3 : ∀ id, (¬ ∃ j, j < h1.length ∧ σ j = id) → h3 id = φ.heap id ∧ ρ3 id = ρ id := fun id hx => by
    refine ⟨heapOf_not _ _ _ (fun p hp he => ?_), by simp only [ρ3, dif_neg hx]⟩
    obtain ⟨i, hi⟩ := List.getElem?_of_mem hp
    rw [backHp_get] at hi
    cases hi' : h1[i]? with
    | none => rw [hi'] at hi; cases hi
    | some s =>
      rw [hi'] at hi
      cases hi
      exact hx ⟨i, (List.getElem?_eq_some_iff.1 hi').1, by simpa using he⟩
  let Sh3 : Nat → Prop := fun k => if keep = true then Sh' k else C.Sh k
  have hC3 : ∀ k, C.Sh k → Sh3 k := fun k hk => by
    simp only [Sh3]
    split
    · exact hs1 k (hsh k hk)
    · exact hk
  have h3C : ∀ k, Sh3 k → k < w'.heap.size ∧ (C.Sh k ∨ w.heap.size ≤ k ∨ O2 k) := fun k hk => by
    simp only [Sh3] at hk
    split at hk
    · rename_i hkp
      obtain ⟨g1, g2⟩ := hs2 k hk
      exact ⟨g1, g2.imp (hkeep hkp k) id⟩
    · exact ⟨Nat.lt_of_lt_of_le (R.sh_lt hk) hfr.size, .inl hk⟩
  have hSh' : ∀ k, Sh3 k → Sh' k := fun k hk => by
    simp only [Sh3] at hk
    split at hk
    · exact hk
    · exact hs1 k (hsh k hk)
  have hOw : ∀ k, O2 k → k < w.heap.size := fun k hk => by
    obtain ⟨id, b, L, _, e1, e2, rfl⟩ := hO k hk
    exact (R.hp.own id b L e1 e2).1
  -- a block that is not among those of the call
  have hout : ∀ id b L, (¬ ∃ j, j < h1.length ∧ σ j = id) → φ.heap id = .live b → ρ id = some L → L.b < w.heap.size ∧ ¬ O2 L.b ∧ ¬ C.Sh L.b := fun id b L hx hb hL => by
    obtain ⟨g1, g2, g3⟩ := R.hp.own id b L hb hL
    refine ⟨g1, fun ho => ?_, g2⟩
    obtain ⟨id', b', L', hm, e1, e2, e3⟩ := hO _ ho
    have := R.hp.inj id' id b' b L' L e1 hb e2 hL e3
    subst this
    obtain ⟨j, hj⟩ := List.getElem?_of_mem hm
    have hjl : j < bs.length := by have := (List.getElem?_eq_some_iff.1 hj).1; omega
    obtain ⟨id2, e4, e5⟩ := hσ1 j hjl
    rw [hj] at e4
    cases e4
    exact hx ⟨j, by omega, e5⟩
  have hlive : ∀ j b, j < h1.length → h3 (σ j) = .live b → ∃ b0, hOf h1 j = .live b0 ∧ b = ⟨b0.sz, b0.n, b0.cs.map (backC σ keep)⟩ := fun j b hj hb => by
    rw [hh3 j hj] at hb
    cases hs : hOf h1 j with
    | no => rw [hs] at hb; cases hb
    | dead => rw [hs] at hb; cases hb
    | live b0 => rw [hs] at hb; cases hb; exact ⟨b0, rfl, rfl⟩
  have hB : Back Sh' ρ' (hOf h1) σ keep Sh3 ρ3 h3 := by
    refine ⟨fun hk k h => by simp only [Sh3, hk, if_true]; exact h, fun j hj => ?_⟩
    have hjl := hOf_ne hj
    refine ⟨hρ3 j hjl, ?_⟩
    rw [hh3 j hjl]
    cases hs : hOf h1 j with
    | no => exact absurd hs hj
    | dead => trivial
    | live b0 => exact ⟨rfl, rfl, rfl⟩
  have hHLe : ∀ id, HLe (φ.heap id) (ρ id) (h3 id) (ρ3 id) := fun id => by
    by_cases hx : ∃ j, j < h1.length ∧ σ j = id
    · obtain ⟨j, hj, rfl⟩ := hx
      rw [hh3 j hj, hρ3 j hj]
      by_cases hjb : j < bs.length
      · obtain ⟨id, e1, e2⟩ := hσ1 j hjb
        rw [e2, (hinit j hjb).2, hρ2 j id e1]
        have := hle j id e1 (ρ id)
        cases hs : φ.heap id with
        | no => trivial
        | dead =>
          rw [hs] at this
          cases hs' : hOf h1 j with
          | dead => trivial
          | _ => rw [hs'] at this; exact this.elim
        | live b =>
          rw [hs] at this
          cases hs' : hOf h1 j with
          | dead => trivial
          | no => rw [hs'] at this; exact this.elim
          | live b' => rw [hs'] at this; exact this
      · rw [hσno j hj hjb]; trivial
    · rw [(hno3 id hx).1, (hno3 id hx).2]; exact HLe.refl _ _
  have hShw : ∀ k, C.Sh k → w'.heap[k]? = w.heap[k]? := fun k hk => hfr.keep k (R.sh_lt hk) (fun ho => by
    obtain ⟨id, b, L, _, e1, e2, rfl⟩ := hO k ho
    exact (R.hp.own id b L e1 e2).2.1 hk)
  let O3 : Nat → Prop := fun k => ∃ id b L, h3 id = .live b ∧ ρ3 id = some L ∧ L.b = k
  have hown : ∀ id b L, h3 id = .live b → ρ3 id = some L → L.b < w'.heap.size ∧ ¬ Sh3 L.b ∧ (C.w0.heap.size ≤ L.b ∨ C.O L.b) := fun id b L hb hL => by
    by_cases hx : ∃ j, j < h1.length ∧ σ j = id
    · obtain ⟨j, hj, rfl⟩ := hx
      obtain ⟨b0, e1, e2⟩ := hlive j b hj hb
      rw [hρ3 j hj] at hL
      obtain ⟨g1, g2, g3⟩ := hR.own j b0 L e1 hL
      refine ⟨g1, fun h => g2 (hSh' _ h), ?_⟩
      rcases g3 with g3 | g3
      · exact .inl (Nat.le_trans R.fr.size g3)
      · obtain ⟨id, b, L', _, f1, f2, f3⟩ := hO _ g3
        rw [← f3]
        exact (R.hp.own id b L' f1 f2).2.2
    · obtain ⟨e1, e2⟩ := hno3 id hx
      rw [e1] at hb
      rw [e2] at hL
      obtain ⟨g1, g2, g3⟩ := hout id b L hx hb hL
      refine ⟨Nat.lt_of_lt_of_le g1 hfr.size, fun h => ?_, (R.hp.own id b L hb hL).2.2⟩
      rcases (h3C _ h).2 with h | h | h
      · exact g3 h
      · omega
      · exact g2 h
  let C3 : Ctx := { P := C.P, w0 := w', Sh := Sh3, O := O3, rho0 := C.rho0, k0 := C.k0, nt := C.nt, old := fun k hk => ⟨(h3C k hk).1, fun ho => by
    obtain ⟨id, b, L, e1, e2, rfl⟩ := ho
    exact (hown id b L e1 e2).2.1 hk⟩ }
  refine ⟨C3, ρ3, ⟨rfl, rfl, rfl, rfl, R.fr.trans hfr (fun k hk => ?_), fun k hk => ?_, hC3, fun k hk => ?_⟩, ⟨R.defers, R.nt, fun t => ?_, ⟨?_, ?_, ?_⟩, fun id hid => ?_, .refl _ _⟩, fun v r hv => RSV.back hB hv⟩
  · obtain ⟨id, b, L, _, f1, f2, rfl⟩ := hO _ hk
    exact (R.hp.own id b L f1 f2).2.2
  · obtain ⟨id, b, L, e1, e2, rfl⟩ := hk
    exact (hown id b L e1 e2).2.2
  · rcases (h3C k hk).2 with h | h | h
    · exact .inl h
    · exact .inr (.inl (Nat.le_trans R.fr.size h))
    · obtain ⟨id, b, L, _, f1, f2, rfl⟩ := hO _ h
      exact .inr ((R.hp.own id b L f1 f2).2.2)
  · exact ((R.env t).mono hShw hHLe).incl hC3
  · intro id b hb
    by_cases hx : ∃ j, j < h1.length ∧ σ j = id
    · obtain ⟨j, hj, rfl⟩ := hx
      obtain ⟨b0, e1, rfl⟩ := hlive j b hj hb
      exact RB.back hB e1 (hR.blk j b0 e1)
    · obtain ⟨e1, e2⟩ := hno3 id hx
      have hb0 : φ.heap id = .live b := by rw [← e1]; exact hb
      have hB0 := R.hp.blk id b hb0
      show RB w' Sh3 ρ3 h3 id b
      unfold RB at hB0 ⊢
      rw [e2]
      cases hL : ρ id with
      | none => rw [hL] at hB0; exact hB0
      | some L =>
        rw [hL] at hB0
        obtain ⟨g1, g2, _⟩ := hout id b L hx hb0 hL
        have hblk : w'.heap[L.b]? = w.heap[L.b]? := hfr.keep _ g1 g2
        refine ⟨hB0.1, hB0.2.1, fun j hj => ?_, fun j c hc => ?_⟩
        · obtain ⟨f1, f2⟩ := hB0.2.2.1 j hj
          exact ⟨by rw [World.cell?_of_block (w := w) hblk]; exact f1, by simpa only [World.frozen?, hblk] using f2⟩
        · obtain ⟨u, hu, hr⟩ := hB0.2.2.2 j c hc
          exact ⟨u, by rw [World.cell?_of_block (w := w) hblk]; exact hu, (hr.mono hShw hHLe).incl hC3⟩
  · intro id b L hb hL
    obtain ⟨g1, g2, g3⟩ := hown id b L hb hL
    exact ⟨g1, g2, .inr ⟨id, b, L, hb, hL, rfl⟩⟩
  · intro id id' b b' L L' hb hb' hL hL' he
    by_cases hx : ∃ j, j < h1.length ∧ σ j = id <;> by_cases hx' : ∃ j, j < h1.length ∧ σ j = id'
    · obtain ⟨j, hj, rfl⟩ := hx
      obtain ⟨j', hj', rfl⟩ := hx'
      obtain ⟨b0, e1, _⟩ := hlive j b hj hb
      obtain ⟨b0', e1', _⟩ := hlive j' b' hj' hb'
      rw [hρ3 j hj] at hL
      rw [hρ3 j' hj'] at hL'
      rw [hR.inj j j' b0 b0' L L' e1 e1' hL hL' he]
    · obtain ⟨j, hj, rfl⟩ := hx
      obtain ⟨b0, e1, _⟩ := hlive j b hj hb
      rw [hρ3 j hj] at hL
      obtain ⟨f1, f2⟩ := hno3 id' hx'
      have f1' : h3 id' = .live b' := hb'
      rw [f1] at f1'
      have f2' : ρ3 id' = some L' := hL'
      rw [f2] at f2'
      obtain ⟨g1, g2, g3⟩ := hout id' b' L' hx' f1' f2'
      rcases (hR.own j b0 L e1 hL).2.2 with g | g
      · omega
      · exact absurd (he ▸ g) g2
    · obtain ⟨j, hj, rfl⟩ := hx'
      obtain ⟨b0, e1, _⟩ := hlive j b' hj hb'
      rw [hρ3 j hj] at hL'
      obtain ⟨f1, f2⟩ := hno3 id hx
      have f1' : h3 id = .live b := hb
      rw [f1] at f1'
      have f2' : ρ3 id = some L := hL
      rw [f2] at f2'
      obtain ⟨g1, g2, g3⟩ := hout id b L hx f1' f2'
      rcases (hR.own j b0 L' e1 hL').2.2 with g | g
      · omega
      · exact absurd (he.symm ▸ g) g2
    · obtain ⟨f1, f2⟩ := hno3 id hx
      obtain ⟨f1', f2'⟩ := hno3 id' hx'
      exact R.hp.inj id id' b b' L L' (by rw [← f1]; exact hb) (by rw [← f1']; exact hb') (by rw [← f2]; exact hL) (by rw [← f2']; exact hL') he
  · obtain ⟨g1, g2⟩ := R.init id hid
    by_cases hx : ∃ j, j < h1.length ∧ σ j = id
    · obtain ⟨j, hj, rfl⟩ := hx
      by_cases hjb : j < bs.length
      · obtain ⟨id, e1, e2⟩ := hσ1 j hjb
        refine ⟨?_, ?_⟩
        · show h3 (σ j) ≠ .no
          rw [hh3 j hj]
          have := (hinit j hjb).1
          cases hs : hOf h1 j with
          | no => exact absurd hs this
          | _ => simp [backH]
        · rw [hρ3 j hj, (hinit j hjb).2, hρ2 j id e1, ← e2, g2]
      · exact absurd (hσno j hj hjb) g1
    · obtain ⟨f1, f2⟩ := hno3 id hx
      exact ⟨by show h3 id ≠ .no; rw [f1]; exact g1, by rw [f2, g2]⟩

end Go.Fm
