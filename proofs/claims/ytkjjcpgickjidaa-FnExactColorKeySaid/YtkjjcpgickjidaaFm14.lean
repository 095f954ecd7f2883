import Derived.Test.YtkjjcpgickjidaaFm13
/-! Calls: what a function answers for borrowed and handed values, and what that does to the caller's state. -/
namespace Go.Fm
set_option linter.unusedVariables false

theorem Fr.trans {w0 w1 w2 : World} {O O1 : Nat → Prop} (h1 : Fr w0 O w1) (h2 : Fr w1 O1 w2) (ho : ∀ k, O1 k → w0.heap.size ≤ k ∨ O k) : Fr w0 O w2 :=
  ⟨h2.os.trans h1.os, h2.tape.trans h1.tape, h2.output.trans h1.output, Nat.le_trans h1.size h2.size, fun k hk hn => by
    rw [h2.keep k (Nat.lt_of_lt_of_le hk h1.size) (fun h => by rcases ho k h with h | h; omega; exact hn h), h1.keep k hk hn]⟩

/-- The same call from a later place on: more memory is closed to writing. -/
structure Reb (C C' : Ctx) : Prop where
  P : C'.P = C.P
  nt : C'.nt = C.nt
  k0 : C'.k0 = C.k0
  rho0 : C'.rho0 = C.rho0
  fr : Fr C.w0 C.O C'.w0
  o : ∀ k, C'.O k → C.w0.heap.size ≤ k ∨ C.O k
  sh : ∀ k, C.Sh k → C'.Sh k
  shn : ∀ k, C'.Sh k → C.Sh k ∨ C.w0.heap.size ≤ k ∨ C.O k

theorem Reb.refl (C : Ctx) : Reb C C := ⟨rfl, rfl, rfl, rfl, .refl _ _, fun _ h => .inr h, fun _ h => h, fun _ h => .inl h⟩
theorem Reb.trans {C C1 C2 : Ctx} (h1 : Reb C C1) (h2 : Reb C1 C2) : Reb C C2 :=
  ⟨h2.P.trans h1.P, h2.nt.trans h1.nt, h2.k0.trans h1.k0, h2.rho0.trans h1.rho0, h1.fr.trans h2.fr h1.o,
   fun k hk => by rcases h2.o k hk with h | h; exact .inl (Nat.le_trans h1.fr.size h); exact h1.o k h,
   fun k hk => h2.sh k (h1.sh k hk),
   fun k hk => by
     rcases h2.shn k hk with h | h | h
     · exact h1.shn k h
     · exact .inr (.inl (Nat.le_trans h1.fr.size h))
     · exact .inr (h1.o k h)⟩

def RelX (C : Ctx) (φ : St) (a : Act) (w : World) : Prop := ∃ C', Reb C C' ∧ Rel C' φ a w

/-- As ActOk, where memory may be closed to writing on the way. -/
def ActX (P : Program) (o : Oper) (φ : St) (nid : Nat) (A : Action) : Prop :=
  ∀ (C : Ctx), C.P = P → ∀ φ' a w, Agree φ φ' o nid A → RelX C φ' a w → (∀ d, o.dst = some d → d < C.nt) →
    ∀ (K : Act → World → Prop) (Q : Exit → Act → World → Prop), (∀ a' w', RelX C (φ'.app o.dst A) a' w' → K a' w') → o.wp P a w K Q

theorem ActOk.x {P : Program} {o : Oper} {φ : St} {nid : Nat} {A : Action} (h : ActOk P o φ nid A) : ActX P o φ nid A := by
  intro C hP φ' a w hag hR hd K Q hK
  obtain ⟨C', hC, hR⟩ := hR
  exact h C' (hC.P.trans hP) φ' a w hag hR (fun d hd' => by rw [hC.nt]; exact hd d hd') K Q (fun a' w' hr => hK a' w' ⟨C', hC, hr⟩)

/-- A call of a function at a world answers so. -/
def Serves (P : Program) (f : FuncId) (vs : Array Value) (w : World) (R : Value → World → Prop) : Prop :=
  match (callFunc f vs).run P w with
  | .ok (.value v) w' => R v w'
  | .ok (.enter g as) w' => Calls P g as w' fun | .returned v, w'' => R v w'' | _, _ => False
  | _ => False

/-- What a function answers to values and blocks: it leaves these blocks, and answers so. -/
def Meets (P : Program) (f : FuncId) (ps : List PV) (bs : List HS) (r : SV) (h1 : List HS) : Prop :=
  ∀ (C : Ctx) (vs : List Value), C.P = P → C.k0 = bs.length → vs.length = ps.length →
    (∀ (i : Nat) (p : PV), ps[i]? = some p → ∃ u : Value, vs[i]? = some u ∧ RPV C.w0 C.Sh C.rho0 (hOf bs) u p) →
    HeapRel C.w0 C.Sh C.O C.rho0 (hOf bs) C.w0 → (∀ id, id < bs.length → hOf bs id ≠ .no) →
    Serves P f vs.toArray C.w0 fun v w' => ∃ (ρ' : Rho) (Sh' : Nat → Prop), HeapRel C.w0 Sh' C.O ρ' (hOf h1) w' ∧ RSV w' Sh' ρ' (hOf h1) v r ∧
      (∀ id, id < bs.length → hOf h1 id ≠ .no ∧ ρ' id = C.rho0 id) ∧ Fr C.w0 C.O w' ∧ (∀ k, C.Sh k → Sh' k) ∧
      (∀ k, Sh' k → k < w'.heap.size ∧ (C.Sh k ∨ C.w0.heap.size ≤ k ∨ C.O k))

/-- Numbers are turned back into the caller's. -/
def backC (σ : Nat → Nat) (keep : Bool) : CV → CV
  | .arr id lo n => .arr (σ id) lo n
  | .ptr id off => .ptr (σ id) off
  | .fn f caps => .fn f (caps.map fun | .ptr id off => .ptr (σ id) off | c => c)
  | .imm sz n cs => if keep then .imm sz n cs else .dead
  | .ip cs => if keep then .ip cs else .dead
  | c => c
def backP (σ : Nat → Nat) (keep : Bool) : PV → PV
  | .one c => .one (backC σ keep c)
  | .agg cs => .agg (cs.map (backC σ keep))
def backS (σ : Nat → Nat) (keep : Bool) : SV → SV
  | .pv p => .pv (backP σ keep p)
  | .tup ps => .tup (ps.map (backP σ keep))
def backH (σ : Nat → Nat) (keep : Bool) : HS → HS
  | .live b => .live ⟨b.sz, b.n, b.cs.map (backC σ keep)⟩
  | s => s

structure Back (Sh : Nat → Prop) (ρ : Rho) (h : Nat → HS) (σ : Nat → Nat) (keep : Bool) (Sh' : Nat → Prop) (ρ' : Rho) (h' : Nat → HS) : Prop where
  sh : keep = true → ∀ k, Sh k → Sh' k
  ids : ∀ j, h j ≠ .no → ρ' (σ j) = ρ j ∧ HLe (h j) (ρ j) (h' (σ j)) (ρ j)

section
variable {w : World} {Sh Sh' : Nat → Prop} {ρ ρ' : Rho} {h h' : Nat → HS} {σ : Nat → Nat} {keep : Bool}
theorem RPtr.back (H : Back Sh ρ h σ keep Sh' ρ' h') {v : Value} {id off : Nat} (hv : RPtr ρ h v id off) : RPtr ρ' h' v (σ id) off := by
  have h0 := hv.one
  have hne : h id ≠ .no := fun he => by unfold RPtr at hv; rw [he] at hv; exact hv
  obtain ⟨h1, h2⟩ := H.ids id hne
  unfold RPtr at hv ⊢
  rw [h1]
  cases hs : h id with
  | no => exact absurd hs hne
  | dead =>
    rw [hs] at h2
    cases hs' : h' (σ id) with
    | no => rw [hs'] at h2; exact h2.elim
    | dead => exact h0
    | live b => rw [hs'] at h2; exact h2.elim
  | live b =>
    rw [hs] at h2 hv
    cases hs' : h' (σ id) with
    | no => rw [hs'] at h2; exact h2.elim
    | dead => exact h0
    | live b' => exact hv

/-- Of a value that is no text, number or such, nothing is known but that it is one cell. -/
theorem RI.easy {v : Value} {c : CV} (hv : RI w Sh v c) (hc : ∀ sz n cs, c ≠ .imm sz n cs) (hc2 : ∀ cs, c ≠ .ip cs) : RI w Sh' v c := by
  cases hv with
  | imm0 a cap sz => exact absurd rfl (hc _ _ _)
  | imm => exact absurd rfl (hc _ _ _)
  | ip => exact absurd rfl (hc2 _)
  | int k n => exact .int k n
  | bool b => exact .bool b
  | str s => exact .str s
  | emp a => exact .emp a
  | opq t v => exact .opq t v
  | nilp => exact .nilp
  | nili => exact .nili

theorem RV.back (H : Back Sh ρ h σ keep Sh' ρ' h') {v : Value} {c : CV} (hv : RV w Sh ρ h v c) : RV w Sh' ρ' h' v (backC σ keep c) := by
  have h0 := hv.one
  cases c with
  | arr id lo n =>
    have hne : h id ≠ .no := fun he => by simp only [RV] at hv; rw [he] at hv; exact hv
    obtain ⟨h1, h2⟩ := H.ids id hne
    simp only [RV, backC] at hv ⊢
    rw [h1]
    cases hs : h id with
    | no => exact absurd hs hne
    | dead =>
      rw [hs] at h2
      cases hs' : h' (σ id) with
      | no => rw [hs'] at h2; exact h2.elim
      | dead => exact h0
      | live b => rw [hs'] at h2; exact h2.elim
    | live b =>
      rw [hs] at h2 hv
      cases hs' : h' (σ id) with
      | no => rw [hs'] at h2; exact h2.elim
      | dead => exact h0
      | live b' => rw [hs'] at h2; simp only at hv ⊢; rw [h2.1, h2.2.1]; exact hv
  | ptr id off => exact RPtr.back H hv
  | fn f caps =>
    obtain ⟨vs, rfl, hlen, hp⟩ := hv
    refine ⟨vs, rfl, by simpa using hlen, fun i c hc => ?_⟩
    rw [List.getElem?_map] at hc
    cases hci : caps[i]? with
    | none => rw [hci] at hc; cases hc
    | some c0 =>
      rw [hci] at hc
      obtain ⟨u, hu, id, off, rfl, hr⟩ := hp i c0 hci
      cases hc
      exact ⟨u, hu, σ id, off, rfl, RPtr.back H hr⟩
  | imm sz n cs =>
    simp only [backC]
    split
    · rename_i hk; exact RI.mono hv fun k hk' => ⟨H.sh hk k hk', rfl⟩
    · exact h0
  | ip cs =>
    simp only [backC]
    split
    · rename_i hk; exact RI.mono hv fun k hk' => ⟨H.sh hk k hk', rfl⟩
    · exact h0
  | dead => exact h0
  | _ => exact RI.easy hv (fun _ _ _ h => by cases h) (fun _ h => by cases h)

theorem RPV.back (H : Back Sh ρ h σ keep Sh' ρ' h') {v : Value} {p : PV} (hv : RPV w Sh ρ h v p) : RPV w Sh' ρ' h' v (backP σ keep p) := by
  cases p with
  | one c =>
    by_cases hd : c = .dead
    · subst hd; trivial
    · exact .of_one (RV.back H (by cases c <;> first | exact hv | exact absurd rfl hd))
  | agg cs =>
    obtain ⟨vs, rfl, hlen, hp⟩ := hv
    refine ⟨vs, rfl, by simpa using hlen, fun i c hc => ?_⟩
    rw [List.getElem?_map] at hc
    cases hci : cs[i]? with
    | none => rw [hci] at hc; cases hc
    | some c0 =>
      rw [hci] at hc
      cases hc
      obtain ⟨u, hu, hr⟩ := hp i c0 hci
      exact ⟨u, hu, RV.back H hr⟩

theorem RSV.back (H : Back Sh ρ h σ keep Sh' ρ' h') {v : Value} {p : SV} (hv : RSV w Sh ρ h v p) : RSV w Sh' ρ' h' v (backS σ keep p) := by
  cases p with
  | pv p => exact RPV.back H hv
  | tup ps =>
    obtain ⟨vs, rfl, hlen, hp⟩ := hv
    refine ⟨vs, rfl, by simpa using hlen, fun i c hc => ?_⟩
    rw [List.getElem?_map] at hc
    cases hci : ps[i]? with
    | none => rw [hci] at hc; cases hc
    | some c0 =>
      rw [hci] at hc
      cases hc
      obtain ⟨u, hu, hr⟩ := hp i c0 hci
      exact ⟨u, hu, RPV.back H hr⟩

theorem RB.back {b : Blk} (H : Back Sh ρ h σ keep Sh' ρ' h') {j : Nat} (hj : h j = .live b) (hB : RB w Sh ρ h j b) : RB w Sh' ρ' h' (σ j) ⟨b.sz, b.n, b.cs.map (backC σ keep)⟩ := by
  have h1 := (H.ids j (by rw [hj]; simp)).1
  unfold RB at hB ⊢
  rw [h1]
  cases hL : ρ j with
  | none => rw [hL] at hB; simp only at hB ⊢; rw [hB.1]; exact ⟨rfl, hB.2⟩
  | some L =>
    rw [hL] at hB
    simp only at hB ⊢
    refine ⟨by simpa using hB.1, by simpa using hB.2.1, hB.2.2.1, fun i c hc => ?_⟩
    rw [List.getElem?_map] at hc
    cases hci : b.cs[i]? with
    | none => rw [hci] at hc; cases hc
    | some c0 =>
      rw [hci] at hc
      cases hc
      obtain ⟨u, hu, hr⟩ := hB.2.2.2 i c0 hci
      exact ⟨u, hu, RV.back H hr⟩

/-- More memory may be read. -/
theorem RV.incl (hs : ∀ k, Sh k → Sh' k) {v : Value} {c : CV} (hv : RV w Sh ρ h v c) : RV w Sh' ρ h v c := by
  cases c <;> simp only [RV] at hv ⊢ <;> first | exact hv | exact RI.mono hv fun k hk => ⟨hs k hk, rfl⟩
theorem RPV.incl (hs : ∀ k, Sh k → Sh' k) {v : Value} {p : PV} (hv : RPV w Sh ρ h v p) : RPV w Sh' ρ h v p := by
  cases p with
  | one c => cases c <;> simp only [RPV] at hv ⊢ <;> exact hv.incl hs
  | agg cs =>
    obtain ⟨vs, hv, hl, hp⟩ := hv
    exact ⟨vs, hv, hl, fun i c hc => by obtain ⟨u, hu, hq⟩ := hp i c hc; exact ⟨u, hu, hq.incl hs⟩⟩
theorem RSV.incl (hs : ∀ k, Sh k → Sh' k) {v : Value} {p : SV} (hv : RSV w Sh ρ h v p) : RSV w Sh' ρ h v p := by
  cases p with
  | pv p => exact RPV.incl hs hv
  | tup ps =>
    obtain ⟨vs, hv, hl, hp⟩ := hv
    exact ⟨vs, hv, hl, fun i c hc => by obtain ⟨u, hu, hq⟩ := hp i c hc; exact ⟨u, hu, hq.incl hs⟩⟩
theorem RB.incl (hs : ∀ k, Sh k → Sh' k) {id : Nat} {b : Blk} (hB : RB w Sh ρ h id b) : RB w Sh' ρ h id b := by
  unfold RB at hB ⊢
  split
  · rename_i hn; rw [hn] at hB; exact hB
  · rename_i L hL
    rw [hL] at hB
    exact ⟨hB.1, hB.2.1, hB.2.2.1, fun j c hc => by obtain ⟨u, hu, hr⟩ := hB.2.2.2 j c hc; exact ⟨u, hu, hr.incl hs⟩⟩
end

theorem heapOf_not (l : List (Nat × HS)) : ∀ (h : Nat → HS) (id : Nat), (∀ p ∈ l, p.1 ≠ id) → heapOf h l id = h id := by
  induction l with
  | nil => intro h id _; rfl
  | cons q r ih =>
    intro h id hn
    show heapOf (upd h q.1 q.2) r id = h id
    rw [ih _ id (fun p hp => hn p (List.mem_cons_of_mem _ hp)), upd_ne _ _ (fun he => hn q (List.mem_cons_self ..) he.symm)]

theorem heapOf_get (l : List (Nat × HS)) : ∀ (h : Nat → HS) (i : Nat) (p : Nat × HS), l[i]? = some p → (∀ j q, l[j]? = some q → j ≠ i → q.1 ≠ p.1) → heapOf h l p.1 = p.2 := by
  induction l with
  | nil => intro h i p hp; simp at hp
  | cons q r ih =>
    intro h i p hp hn
    show heapOf (upd h q.1 q.2) r p.1 = p.2
    cases i with
    | zero =>
      simp at hp
      subst hp
      rw [heapOf_not r _ _ (fun x hx => ?_), upd_same]
      obtain ⟨j, hj⟩ := List.getElem?_of_mem hx
      exact hn (j + 1) x (by simpa using hj) (by omega)
    | succ i => exact ih _ i p (by simpa using hp) (fun j q hq hne => hn (j + 1) q (by simpa using hq) (by omega))

end Go.Fm
