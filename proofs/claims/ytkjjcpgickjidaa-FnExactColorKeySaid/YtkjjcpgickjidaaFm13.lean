import Derived.Test.YtkjjcpgickjidaaFm12
/-! Lending: what a state's values are where some of its blocks are kept under new numbers, and the others are only read. -/
namespace Go.Fm
set_option linter.unusedVariables false

def CV.ri : CV → Bool
  | .arr .. | .ptr .. | .fn .. | .dead => false
  | _ => true
theorem RV.ri {w : World} {Sh : Nat → Prop} {ρ : Rho} {h : Nat → HS} {v : Value} {c : CV} (hr : RV w Sh ρ h v c) (hc : c.ri = true) : RI w Sh v c := by
  cases c <;> simp only [CV.ri] at hc <;> first | exact hr | cases hc

def lendAll (g : CV → Option (List Nat × CV)) : List CV → Option (List Nat × List CV)
  | [] => some ([], [])
  | c :: r => match g c with
    | none => none
    | some (a, c') => match lendAll g r with
      | none => none
      | some (b, r') => some (a ++ b, c' :: r')
def riAll : List CV → Bool
  | [] => true
  | c :: r => c.ri && riAll r
def ixOf : List Nat → Nat → Option Nat
  | [], _ => none
  | i :: r, id => if i = id then some 0 else (ixOf r id).map (· + 1)
theorem ixOf_some : ∀ {π : List Nat} {id j : Nat}, ixOf π id = some j → π[j]? = some id
  | [], id, j, h => by cases h
  | i :: r, id, j, h => by
    unfold ixOf at h
    split at h
    · rename_i he; cases h; simp [he]
    · obtain ⟨k, hk, rfl⟩ := Option.map_eq_some_iff.1 h
      simpa using ixOf_some hk
theorem ixOf_none : ∀ {π : List Nat} {id : Nat}, ixOf π id = none → id ∉ π
  | [], id, _ => by simp
  | i :: r, id, h => by
    unfold ixOf at h
    split at h
    · cases h
    · rename_i hne
      have := Option.map_eq_none_iff.1 h
      have := ixOf_none this
      simp only [List.mem_cons, not_or]
      exact ⟨fun he => hne he.symm, this⟩
def capsIx (π : List Nat) : List CV → Option (List CV)
  | [] => some []
  | .ptr id off :: r => match ixOf π id with
    | some j => (capsIx π r).map (.ptr j off :: ·)
    | none => none
  | _ => none
def lend1 (h : Nat → HS) (π : List Nat) (g : Option (CV → Option (List Nat × CV))) : CV → Option (List Nat × CV)
  | .arr id lo n => match ixOf π id with
    | some j => some ([], .arr j lo n)
    | none => match h id, g with
      | .live b, some g => match lendAll g ((b.cs.drop (lo * b.sz)).take (n * b.sz)) with
        | some (rd, cs) => if riAll cs then some (id :: rd, .imm b.sz n cs) else none
        | none => none
      | _, _ => some ([id], .dead)
  | .ptr id off => match ixOf π id with
    | some j => some ([], .ptr j off)
    | none => match h id, g with
      | .live b, some g => match lendAll g (b.cs.drop off) with
        | some (rd, cs) => if riAll cs then some (id :: rd, .ip cs) else none
        | none => none
      | _, _ => some ([id], .dead)
  | .fn q caps => (capsIx π caps).map fun cs => ([], .fn q cs)
  | c => some ([], c)
def lendC (h : Nat → HS) (π : List Nat) : Nat → CV → Option (List Nat × CV)
  | 0, c => lend1 h π none c
  | f + 1, c => lend1 h π (some (lendC h π f)) c
def lendP (h : Nat → HS) (π : List Nat) (f : Nat) : PV → Option (List Nat × PV)
  | .one c => (lendC h π f c).map fun q => (q.1, .one q.2)
  | .agg cs => (lendAll (lendC h π f) cs).map fun q => (q.1, .agg q.2)
def lendPs (g : PV → Option (List Nat × PV)) : List PV → Option (List Nat × List PV)
  | [] => some ([], [])
  | c :: r => match g c with
    | none => none
    | some (a, c') => match lendPs g r with
      | none => none
      | some (b, r') => some (a ++ b, c' :: r')
def lendH (h : Nat → HS) (π : List Nat) (f : Nat) : List Nat → Option (List Nat × List HS)
  | [] => some ([], [])
  | id :: r => match h id with
    | .live b => match lendAll (lendC h π f) b.cs with
      | none => none
      | some (a, cs) => match lendH h π f r with
        | none => none
        | some (b', r') => some (id :: a ++ b', .live ⟨b.sz, b.n, cs⟩ :: r')
    | .dead => match lendH h π f r with
        | none => none
        | some (b', r') => some (id :: b', .dead :: r')
    | .no => none
def hOf (l : List HS) : Nat → HS := fun i => l.getD i .no

theorem lendAll_some {g : CV → Option (List Nat × CV)} : ∀ {cs cs' : List CV} {rd : List Nat}, lendAll g cs = some (rd, cs') → cs'.length = cs.length ∧
    ∀ (i : Nat) (c' : CV), cs'[i]? = some c' → ∃ c r, cs[i]? = some c ∧ g c = some (r, c') ∧ ∀ x ∈ r, x ∈ rd
  | [], cs', rd, h => by cases h; exact ⟨rfl, fun i c' hc => by simp at hc⟩
  | c :: r, cs', rd, h => by
    unfold lendAll at h
    cases hg : g c with
    | none => rw [hg] at h; cases h
    | some q =>
      obtain ⟨a, c1⟩ := q
      rw [hg] at h
      simp only at h
      cases hr : lendAll g r with
      | none => rw [hr] at h; cases h
      | some q2 =>
        obtain ⟨b, r'⟩ := q2
        rw [hr] at h
        cases h
        obtain ⟨h1, h2⟩ := lendAll_some hr
        refine ⟨by simp [h1], fun i c' hc => ?_⟩
        cases i with
        | zero => simp at hc; subst hc; exact ⟨c, a, rfl, hg, fun x hx => List.mem_append_left _ hx⟩
        | succ i =>
          obtain ⟨c2, r2, e1, e2, e3⟩ := h2 i c' (by simpa using hc)
          exact ⟨c2, r2, by simpa using e1, e2, fun x hx => List.mem_append_right _ (e3 x hx)⟩

theorem riAll_get : ∀ {cs : List CV}, riAll cs = true → ∀ (i : Nat) (c : CV), cs[i]? = some c → c.ri = true
  | [], _, i, c, hc => by simp at hc
  | c0 :: r, h, i, c, hc => by
    simp only [riAll, Bool.and_eq_true] at h
    cases i with
    | zero => simp at hc; subst hc; exact h.1
    | succ i => exact riAll_get h.2 i c (by simpa using hc)

theorem capsIx_some {π : List Nat} : ∀ {caps cs : List CV}, capsIx π caps = some cs → cs.length = caps.length ∧
    ∀ (i : Nat) (c : CV), cs[i]? = some c → ∃ id j off, caps[i]? = some (.ptr id off) ∧ c = .ptr j off ∧ π[j]? = some id
  | [], cs, h => by cases h; exact ⟨rfl, fun i c hc => by simp at hc⟩
  | c0 :: r, cs, h => by
    unfold capsIx at h
    split at h
    · rename_i h0; cases h0
    · rename_i id off r' h0
      cases h0
      split at h
      · rename_i j hj
        obtain ⟨cs', hcs, rfl⟩ := Option.map_eq_some_iff.1 h
        obtain ⟨h1, h2⟩ := capsIx_some hcs
        refine ⟨by simp [h1], fun i c hc => ?_⟩
        cases i with
        | zero => simp at hc; subst hc; exact ⟨id, j, off, rfl, rfl, ixOf_some hj⟩
        | succ i => simpa using h2 i c (by simpa using hc)
      · cases h
    · cases h

/-- How the new numbers stand to the old ones. -/
structure Lent (w : World) (Sh : Nat → Prop) (ρ : Rho) (h : Nat → HS) (π : List Nat) (F : Nat → Prop) (Sh' : Nat → Prop) (ρ' : Rho) (h' : Nat → HS) : Prop where
  blk : ∀ id b, h id = .live b → RB w Sh ρ h id b
  sh : ∀ k, Sh k → Sh' k
  lent : ∀ id b L, h id = .live b → id ∉ π → F id → ρ id = some L → Sh' L.b
  kept : ∀ j id, π[j]? = some id → ρ' j = ρ id ∧ (h id ≠ .no → HLe (h id) (ρ id) (h' j) (ρ id))

theorem RPtr.lend {w : World} {Sh Sh' : Nat → Prop} {ρ ρ' : Rho} {h h' : Nat → HS} {π : List Nat} {F : Nat → Prop} (H : Lent w Sh ρ h π F Sh' ρ' h') {v : Value} {id j off : Nat}
    (hj : π[j]? = some id) (hv : RPtr ρ h v id off) : RPtr ρ' h' v j off := by
  obtain ⟨h1, h2⟩ := H.kept j id hj
  have h0 := hv.one
  unfold RPtr at hv ⊢
  rw [h1]
  cases hs : h id with
  | no => rw [hs] at hv; exact hv.elim
  | dead =>
    have h2 := h2 (by rw [hs]; simp)
    rw [hs] at h2
    cases hs' : h' j with
    | no => rw [hs'] at h2; exact h2.elim
    | dead => exact h0
    | live b => rw [hs'] at h2; exact h2.elim
  | live b =>
    have h2 := h2 (by rw [hs]; simp)
    rw [hs] at h2 hv
    cases hs' : h' j with
    | no => rw [hs'] at h2; exact h2.elim
    | dead => exact h0
    | live b' => exact hv

theorem lend1_ok {w : World} {Sh Sh' : Nat → Prop} {ρ ρ' : Rho} {h h' : Nat → HS} {π : List Nat} {F : Nat → Prop} (H : Lent w Sh ρ h π F Sh' ρ' h') (g : Option (CV → Option (List Nat × CV)))
    (hg : ∀ g', g = some g' → ∀ (c c' : CV) (rd : List Nat) (v : Value), g' c = some (rd, c') → (∀ x ∈ rd, F x) → RV w Sh ρ h v c → RV w Sh' ρ' h' v c') :
    ∀ (c c' : CV) (rd : List Nat) (v : Value), lend1 h π g c = some (rd, c') → (∀ x ∈ rd, F x) → RV w Sh ρ h v c → RV w Sh' ρ' h' v c' := by
  intro c c' rd v hl hF hv
  have h0 := hv.one
  cases c with
  | arr id lo n =>
    simp only [lend1] at hl
    split at hl
    · rename_i j hj
      cases hl
      obtain ⟨h1, h2⟩ := H.kept j id (ixOf_some hj)
      simp only [RV] at hv ⊢
      rw [h1]
      cases hs : h id with
      | no => rw [hs] at hv; exact hv.elim
      | dead =>
        have h2 := h2 (by rw [hs]; simp)
        rw [hs] at h2
        cases hs' : h' j with
        | no => rw [hs'] at h2; exact h2.elim
        | dead => exact h0
        | live b => rw [hs'] at h2; exact h2.elim
      | live b =>
        have h2 := h2 (by rw [hs]; simp)
        rw [hs] at h2 hv
        cases hs' : h' j with
        | no => rw [hs'] at h2; exact h2.elim
        | dead => exact h0
        | live b' => rw [hs'] at h2; simp only at hv ⊢; rw [h2.1, h2.2.1]; exact hv
    · rename_i hj
      split at hl
      · rename_i b g' hb
        split at hl
        · rename_i rd' cs hcs
          split at hl
          · rename_i hri
            cases hl
            simp only [RV] at hv ⊢
            rw [hb] at hv
            simp only at hv
            have hB := H.blk id b hb
            obtain ⟨hlen, hget⟩ := lendAll_some hcs
            unfold RB at hB
            cases hL : ρ id with
            | none =>
              rw [hL] at hv hB
              obtain ⟨rfl, a, rfl⟩ := hv
              simp only at hB
              have : cs = [] := by
                apply List.eq_nil_of_length_eq_zero
                rw [hlen, hB.1]
                simp
              rw [this]
              exact .imm0 a 0 b.sz
            | some L =>
              rw [hL] at hv hB
              rcases hv with ⟨cap, rfl, h1, h2, h3⟩ | ⟨rfl, a, rfl⟩
              · simp only at hB
                obtain ⟨g1, g2, g3, g4⟩ := hB
                have hcl : ((b.cs.drop (lo * b.sz)).take (n * b.sz)).length = n * b.sz := by
                  rw [List.length_take, List.length_drop, g1]
                  have : lo * b.sz + n * b.sz ≤ b.n * b.sz := by rw [← Nat.add_mul]; exact Nat.mul_le_mul_right _ h3
                  omega
                have hex : ∀ j, j < cs.length → ∃ u : Value, w.cell? ⟨L.b, L.o + lo * b.sz + j, none⟩ = some u ∧ ∀ c, cs[j]? = some c → RI w Sh' u c := fun j hj => by
                  obtain ⟨c, r, e1, e2, hsub⟩ := hget j cs[j] (List.getElem?_eq_getElem hj)
                  have hj2 : j < n * b.sz := by omega
                  have e1' : b.cs[lo * b.sz + j]? = some c := by
                    rw [List.getElem?_take, if_pos hj2, List.getElem?_drop] at e1
                    exact e1
                  obtain ⟨u, hu, hr⟩ := g4 _ _ e1'
                  refine ⟨u, by rw [Nat.add_assoc]; exact hu, fun c2 hc2 => ?_⟩
                  rw [List.getElem?_eq_getElem hj] at hc2
                  cases hc2
                  exact (hg g' rfl c _ r u e2 (fun x hx => hF x (List.mem_cons_of_mem _ (hsub x hx))) hr).ri (riAll_get hri j _ (List.getElem?_eq_getElem hj))
                refine .imm L.b (L.o + lo * b.sz) n cap b.sz cs (fun j => if hj : j < cs.length then (hex j hj).choose else undef) (H.lent id b L hb (ixOf_none hj) (hF id (List.mem_cons_self ..)) hL) h1 (by rw [hlen, hcl]) (fun j hj => ?_) (fun j c hc => ?_)
                · simp only [hj, dif_pos]
                  exact (hex j hj).choose_spec.1
                · have hj : j < cs.length := (List.getElem?_eq_some_iff.1 hc).1
                  simp only [hj, dif_pos]
                  exact (hex j hj).choose_spec.2 c hc
              · have : cs = [] := by
                  apply List.eq_nil_of_length_eq_zero
                  rw [hlen]
                  simp
                rw [this]
                exact .imm0 a 0 b.sz
          · cases hl
        · cases hl
      · cases hl; exact h0
  | ptr id off =>
    simp only [lend1] at hl
    split at hl
    · rename_i j hj
      cases hl
      exact RPtr.lend H (ixOf_some hj) hv
    · rename_i hj
      split at hl
      · rename_i b g' hb
        split at hl
        · rename_i rd' cs hcs
          split at hl
          · rename_i hri
            cases hl
            simp only [RV, RPtr] at hv ⊢
            rw [hb] at hv
            obtain ⟨L, hL, rfl⟩ := hv
            have hB := H.blk id b hb
            obtain ⟨hlen, hget⟩ := lendAll_some hcs
            unfold RB at hB
            rw [hL] at hB
            obtain ⟨g1, g2, g3, g4⟩ := hB
            have hex : ∀ j, j < cs.length → ∃ u : Value, w.cell? ⟨L.b, L.o + off + j, none⟩ = some u ∧ ∀ c, cs[j]? = some c → RI w Sh' u c := fun j hj => by
              obtain ⟨c, r, e1, e2, hsub⟩ := hget j cs[j] (List.getElem?_eq_getElem hj)
              have e1' : b.cs[off + j]? = some c := by
                rw [List.getElem?_drop] at e1
                exact e1
              obtain ⟨u, hu, hr⟩ := g4 _ _ e1'
              refine ⟨u, by rw [Nat.add_assoc]; exact hu, fun c2 hc2 => ?_⟩
              rw [List.getElem?_eq_getElem hj] at hc2
              cases hc2
              exact (hg g' rfl c _ r u e2 (fun x hx => hF x (List.mem_cons_of_mem _ (hsub x hx))) hr).ri (riAll_get hri j _ (List.getElem?_eq_getElem hj))
            refine .ip L.b (L.o + off) cs (fun j => if hj : j < cs.length then (hex j hj).choose else undef) (H.lent id b L hb (ixOf_none hj) (hF id (List.mem_cons_self ..)) hL) (fun j hj => ?_) (fun j c hc => ?_)
            · simp only [hj, dif_pos]
              exact (hex j hj).choose_spec.1
            · have hj : j < cs.length := (List.getElem?_eq_some_iff.1 hc).1
              simp only [hj, dif_pos]
              exact (hex j hj).choose_spec.2 c hc
          · cases hl
        · cases hl
      · cases hl; exact h0
  | fn g caps =>
    simp only [lend1] at hl
    obtain ⟨cs, hcs, he⟩ := Option.map_eq_some_iff.1 hl
    cases he
    obtain ⟨h1, h2⟩ := capsIx_some hcs
    obtain ⟨vs, rfl, hlen, hp⟩ := hv
    refine ⟨vs, rfl, by omega, fun i c hc => ?_⟩
    obtain ⟨id, j, off, e1, e2, e3⟩ := h2 i c hc
    obtain ⟨u, hu, id', off', e4, e5⟩ := hp i _ e1
    cases e4
    exact ⟨u, hu, j, off, e2, RPtr.lend H e3 e5⟩
  | dead => cases hl; exact h0
  | _ => cases hl; exact RI.mono hv fun k hk => ⟨H.sh k hk, rfl⟩


theorem lendC_ok {w : World} {Sh Sh' : Nat → Prop} {ρ ρ' : Rho} {h h' : Nat → HS} {π : List Nat} {F : Nat → Prop} (H : Lent w Sh ρ h π F Sh' ρ' h') :
    ∀ (f : Nat) (c c' : CV) (rd : List Nat) (v : Value), lendC h π f c = some (rd, c') → (∀ x ∈ rd, F x) → RV w Sh ρ h v c → RV w Sh' ρ' h' v c' := by
  intro f
  induction f with
  | zero => exact lend1_ok H none (fun g' hg => by cases hg)
  | succ f ih => exact lend1_ok H _ (fun g' hg => by cases hg; exact ih)

theorem lendP_ok {w : World} {Sh Sh' : Nat → Prop} {ρ ρ' : Rho} {h h' : Nat → HS} {π : List Nat} {F : Nat → Prop} (H : Lent w Sh ρ h π F Sh' ρ' h')
    {f : Nat} {p p' : PV} {rd : List Nat} {v : Value} (hl : lendP h π f p = some (rd, p')) (hF : ∀ x ∈ rd, F x) (hv : RPV w Sh ρ h v p) : RPV w Sh' ρ' h' v p' := by
  cases p with
  | one c =>
    simp only [lendP] at hl
    obtain ⟨q, hq, he⟩ := Option.map_eq_some_iff.1 hl
    cases he
    by_cases hd : c = .dead
    · subst hd
      have : q.2 = .dead := by cases f <;> (simp only [lendC, lend1] at hq; cases hq; rfl)
      rw [this]
      trivial
    · refine .of_one (lendC_ok H f c q.2 q.1 v hq hF ?_)
      cases c <;> first | exact hv | exact absurd rfl hd
  | agg cs =>
    simp only [lendP] at hl
    obtain ⟨q, hq, he⟩ := Option.map_eq_some_iff.1 hl
    cases he
    obtain ⟨vs, rfl, hlen, hp⟩ := hv
    obtain ⟨h1, h2⟩ := lendAll_some (rd := q.1) (cs' := q.2) hq
    refine ⟨vs, rfl, by omega, fun i c' hc => ?_⟩
    obtain ⟨c, r, e1, e2, e3⟩ := h2 i c' hc
    obtain ⟨u, hu, hr⟩ := hp i c e1
    exact ⟨u, hu, lendC_ok H f c c' r u e2 (fun x hx => hF x (e3 x hx)) hr⟩

theorem lendPs_some {g : PV → Option (List Nat × PV)} : ∀ {cs cs' : List PV} {rd : List Nat}, lendPs g cs = some (rd, cs') → cs'.length = cs.length ∧
    ∀ (i : Nat) (c' : PV), cs'[i]? = some c' → ∃ c r, cs[i]? = some c ∧ g c = some (r, c') ∧ ∀ x ∈ r, x ∈ rd
  | [], cs', rd, h => by cases h; exact ⟨rfl, fun i c' hc => by simp at hc⟩
  | c :: r, cs', rd, h => by
    unfold lendPs at h
    cases hg : g c with
    | none => rw [hg] at h; cases h
    | some q =>
      obtain ⟨a, c1⟩ := q
      rw [hg] at h
      simp only at h
      cases hr : lendPs g r with
      | none => rw [hr] at h; cases h
      | some q2 =>
        obtain ⟨b, r'⟩ := q2
        rw [hr] at h
        cases h
        obtain ⟨h1, h2⟩ := lendPs_some hr
        refine ⟨by simp [h1], fun i c' hc => ?_⟩
        cases i with
        | zero => simp at hc; subst hc; exact ⟨c, a, rfl, hg, fun x hx => List.mem_append_left _ hx⟩
        | succ i =>
          obtain ⟨c2, r2, e1, e2, e3⟩ := h2 i c' (by simpa using hc)
          exact ⟨c2, r2, by simpa using e1, e2, fun x hx => List.mem_append_right _ (e3 x hx)⟩

theorem lendH_some {h : Nat → HS} {π : List Nat} {f : Nat} : ∀ {ids : List Nat} {bs : List HS} {rd : List Nat}, lendH h π f ids = some (rd, bs) → bs.length = ids.length ∧ (∀ id ∈ ids, id ∈ rd) ∧
    ∀ (i id : Nat), ids[i]? = some id → (h id = .dead ∧ bs[i]? = some .dead) ∨
      ∃ b cs r, h id = .live b ∧ bs[i]? = some (.live ⟨b.sz, b.n, cs⟩) ∧ lendAll (lendC h π f) b.cs = some (r, cs) ∧ ∀ x ∈ r, x ∈ rd
  | [], bs, rd, hl => by cases hl; exact ⟨rfl, (fun x hx => by simp at hx), fun i id hc => by simp at hc⟩
  | id :: r, bs, rd, hl => by
    unfold lendH at hl
    cases hid : h id with
    | no => rw [hid] at hl; cases hl
    | dead =>
      rw [hid] at hl
      simp only at hl
      cases hr : lendH h π f r with
      | none => rw [hr] at hl; cases hl
      | some q =>
        obtain ⟨b', r'⟩ := q
        rw [hr] at hl
        cases hl
        obtain ⟨h1, h2, h3⟩ := lendH_some hr
        refine ⟨by simp [h1], fun x hx => ?_, fun i id' hi => ?_⟩
        · rcases List.mem_cons.1 hx with rfl | hx
          · exact List.mem_cons_self ..
          · exact List.mem_cons_of_mem _ (h2 x hx)
        · cases i with
          | zero => simp at hi; subst hi; exact .inl ⟨hid, rfl⟩
          | succ i =>
            rcases h3 i id' (by simpa using hi) with ⟨e1, e2⟩ | ⟨b, cs, r2, e1, e2, e3, e4⟩
            · exact .inl ⟨e1, by simpa using e2⟩
            · exact .inr ⟨b, cs, r2, e1, by simpa using e2, e3, fun x hx => List.mem_cons_of_mem _ (e4 x hx)⟩
    | live b =>
      rw [hid] at hl
      simp only at hl
      cases hg : lendAll (lendC h π f) b.cs with
      | none => rw [hg] at hl; cases hl
      | some q0 =>
        obtain ⟨a, cs⟩ := q0
        rw [hg] at hl
        simp only at hl
        cases hr : lendH h π f r with
        | none => rw [hr] at hl; cases hl
        | some q =>
          obtain ⟨b', r'⟩ := q
          rw [hr] at hl
          cases hl
          obtain ⟨h1, h2, h3⟩ := lendH_some hr
          refine ⟨by simp [h1], fun x hx => ?_, fun i id' hi => ?_⟩
          · rcases List.mem_cons.1 hx with rfl | hx
            · exact List.mem_cons_self ..
            · exact List.mem_cons_of_mem _ (List.mem_append_right _ (h2 x hx))
          · cases i with
            | zero => simp at hi; subst hi; exact .inr ⟨b, cs, a, hid, rfl, hg, fun x hx => List.mem_cons_of_mem _ (List.mem_append_left _ hx)⟩
            | succ i =>
              rcases h3 i id' (by simpa using hi) with ⟨e1, e2⟩ | ⟨b, cs, r2, e1, e2, e3, e4⟩
              · exact .inl ⟨e1, by simpa using e2⟩
              · exact .inr ⟨b, cs, r2, e1, by simpa using e2, e3, fun x hx => List.mem_cons_of_mem _ (List.mem_append_right _ (e4 x hx))⟩

theorem lendAll_congr {g g' : CV → Option (List Nat × CV)} : ∀ {cs cs' : List CV} {rd : List Nat}, lendAll g cs = some (rd, cs') →
    (∀ c c' r, g c = some (r, c') → (∀ x ∈ r, x ∈ rd) → g' c = some (r, c')) → lendAll g' cs = some (rd, cs')
  | [], cs', rd, h, _ => h
  | c :: r, cs', rd, h, hc => by
    unfold lendAll at h ⊢
    cases hg : g c with
    | none => rw [hg] at h; cases h
    | some q =>
      obtain ⟨a, c1⟩ := q
      rw [hg] at h
      simp only at h
      cases hr : lendAll g r with
      | none => rw [hr] at h; cases h
      | some q2 =>
        obtain ⟨b, r'⟩ := q2
        rw [hr] at h
        cases h
        rw [hc c c1 a hg (fun x hx => List.mem_append_left _ hx)]
        simp only
        rw [lendAll_congr hr (fun c c' r e1 e2 => hc c c' r e1 (fun x hx => List.mem_append_right _ (e2 x hx)))]

theorem lend1_congr {h h' : Nat → HS} {π : List Nat} {g g' : Option (CV → Option (List Nat × CV))} {c c' : CV} {rd : List Nat} (hl : lend1 h π g c = some (rd, c')) (hh : ∀ x ∈ rd, h' x = h x)
    (hg : ∀ q, g = some q → ∃ q', g' = some q' ∧ ∀ c c' r, q c = some (r, c') → (∀ x ∈ r, x ∈ rd) → q' c = some (r, c')) (hn : g = none → g' = none) : lend1 h' π g' c = some (rd, c') := by
  cases c with
  | arr id lo n =>
    simp only [lend1] at hl ⊢
    cases hix : ixOf π id with
    | some j => rw [hix] at hl; exact hl
    | none =>
      rw [hix] at hl
      simp only at hl ⊢
      cases g with
      | none =>
        rw [hn rfl]
        have : hl = hl := rfl
        have hrd : rd = [id] ∧ c' = .dead := by cases hid : h id <;> rw [hid] at hl <;> (cases hl; exact ⟨rfl, rfl⟩)
        obtain ⟨rfl, rfl⟩ := hrd
        cases h' id <;> rfl
      | some q =>
        obtain ⟨q', rfl, hq⟩ := hg q rfl
        have hid' : h' id = h id := by
          apply hh
          cases hid : h id with
          | live b =>
            rw [hid] at hl
            simp only at hl
            split at hl
            · split at hl
              · cases hl; exact List.mem_cons_self ..
              · cases hl
            · cases hl
          | _ => rw [hid] at hl; cases hl; exact List.mem_cons_self ..
        rw [hid']
        cases hid : h id with
        | live b =>
          rw [hid] at hl
          simp only at hl ⊢
          split at hl
          · rename_i rd' cs hcs
            split at hl
            · rename_i hri
              cases hl
              rw [lendAll_congr hcs (fun c c' r e1 e2 => hq c c' r e1 (fun x hx => List.mem_cons_of_mem _ (e2 x hx)))]
              simp only [hri, if_true]
            · cases hl
          · cases hl
        | _ => rw [hid] at hl; exact hl
  | ptr id off =>
    simp only [lend1] at hl ⊢
    cases hix : ixOf π id with
    | some j => rw [hix] at hl; exact hl
    | none =>
      rw [hix] at hl
      simp only at hl ⊢
      cases g with
      | none =>
        rw [hn rfl]
        have hrd : rd = [id] ∧ c' = .dead := by cases hid : h id <;> rw [hid] at hl <;> (cases hl; exact ⟨rfl, rfl⟩)
        obtain ⟨rfl, rfl⟩ := hrd
        cases h' id <;> rfl
      | some q =>
        obtain ⟨q', rfl, hq⟩ := hg q rfl
        have hid' : h' id = h id := by
          apply hh
          cases hid : h id with
          | live b =>
            rw [hid] at hl
            simp only at hl
            split at hl
            · split at hl
              · cases hl; exact List.mem_cons_self ..
              · cases hl
            · cases hl
          | _ => rw [hid] at hl; cases hl; exact List.mem_cons_self ..
        rw [hid']
        cases hid : h id with
        | live b =>
          rw [hid] at hl
          simp only at hl ⊢
          split at hl
          · rename_i rd' cs hcs
            split at hl
            · rename_i hri
              cases hl
              rw [lendAll_congr hcs (fun c c' r e1 e2 => hq c c' r e1 (fun x hx => List.mem_cons_of_mem _ (e2 x hx)))]
              simp only [hri, if_true]
            · cases hl
          · cases hl
        | _ => rw [hid] at hl; exact hl
  | _ => exact hl

theorem lendC_congr {h h' : Nat → HS} {π : List Nat} : ∀ {f : Nat} {c c' : CV} {rd : List Nat}, lendC h π f c = some (rd, c') → (∀ x ∈ rd, h' x = h x) → lendC h' π f c = some (rd, c')
  | 0, c, c', rd, hl, hh => lend1_congr hl hh (fun q hq => by cases hq) (fun _ => rfl)
  | f + 1, c, c', rd, hl, hh => lend1_congr hl hh (fun q hq => by
      cases hq
      exact ⟨_, rfl, fun c c' r e1 e2 => lendC_congr e1 (fun x hx => hh x (e2 x hx))⟩) (fun hq => by cases hq)

theorem lendP_congr {h h' : Nat → HS} {π : List Nat} {f : Nat} {c c' : PV} {rd : List Nat} (hl : lendP h π f c = some (rd, c')) (hh : ∀ x ∈ rd, h' x = h x) : lendP h' π f c = some (rd, c') := by
  cases c with
  | one c =>
    simp only [lendP] at hl ⊢
    obtain ⟨q, hq, he⟩ := Option.map_eq_some_iff.1 hl
    cases he
    rw [lendC_congr (c' := q.2) (rd := q.1) hq hh]
    rfl
  | agg cs =>
    simp only [lendP] at hl ⊢
    obtain ⟨q, hq, he⟩ := Option.map_eq_some_iff.1 hl
    cases he
    rw [lendAll_congr (cs' := q.2) (rd := q.1) hq (fun c c' r e1 e2 => lendC_congr e1 (fun x hx => hh x (e2 x hx)))]
    rfl

theorem lendPs_congr {g g' : PV → Option (List Nat × PV)} : ∀ {cs cs' : List PV} {rd : List Nat}, lendPs g cs = some (rd, cs') →
    (∀ c c' r, g c = some (r, c') → (∀ x ∈ r, x ∈ rd) → g' c = some (r, c')) → lendPs g' cs = some (rd, cs')
  | [], cs', rd, h, _ => h
  | c :: r, cs', rd, h, hc => by
    unfold lendPs at h ⊢
    cases hg : g c with
    | none => rw [hg] at h; cases h
    | some q =>
      obtain ⟨a, c1⟩ := q
      rw [hg] at h
      simp only at h
      cases hr : lendPs g r with
      | none => rw [hr] at h; cases h
      | some q2 =>
        obtain ⟨b, r'⟩ := q2
        rw [hr] at h
        cases h
        rw [hc c c1 a hg (fun x hx => List.mem_append_left _ hx)]
        simp only
        rw [lendPs_congr hr (fun c c' r e1 e2 => hc c c' r e1 (fun x hx => List.mem_append_right _ (e2 x hx)))]

theorem lendH_congr {h h' : Nat → HS} {π : List Nat} {f : Nat} : ∀ {ids : List Nat} {bs : List HS} {rd : List Nat}, lendH h π f ids = some (rd, bs) → (∀ x ∈ rd, h' x = h x) → lendH h' π f ids = some (rd, bs)
  | [], bs, rd, hl, _ => hl
  | id :: r, bs, rd, hl, hh => by
    unfold lendH at hl ⊢
    cases hid : h id with
    | no => rw [hid] at hl; cases hl
    | dead =>
      rw [hid] at hl
      simp only at hl
      cases hr : lendH h π f r with
      | none => rw [hr] at hl; cases hl
      | some q =>
        obtain ⟨b', r'⟩ := q
        rw [hr] at hl
        cases hl
        rw [hh id (List.mem_cons_self ..), hid]
        simp only
        rw [lendH_congr hr (fun x hx => hh x (List.mem_cons_of_mem _ hx))]
    | live b =>
      rw [hid] at hl
      simp only at hl
      cases hg : lendAll (lendC h π f) b.cs with
      | none => rw [hg] at hl; cases hl
      | some q0 =>
        obtain ⟨a, cs⟩ := q0
        rw [hg] at hl
        simp only at hl
        cases hr : lendH h π f r with
        | none => rw [hr] at hl; cases hl
        | some q =>
          obtain ⟨b', r'⟩ := q
          rw [hr] at hl
          cases hl
          rw [hh id (List.mem_cons_self ..), hid]
          simp only
          rw [lendAll_congr hg (fun c c' r e1 e2 => lendC_congr e1 (fun x hx => hh x (List.mem_cons_of_mem _ (List.mem_append_left _ (e2 x hx)))))]
          simp only
          rw [lendH_congr hr (fun x hx => hh x (List.mem_cons_of_mem _ (List.mem_append_right _ hx)))]

end Go.Fm
