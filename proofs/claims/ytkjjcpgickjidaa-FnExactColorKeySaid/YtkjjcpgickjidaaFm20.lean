import Derived.Test.YtkjjcpgickjidaaFm19
/-! Code: what a piece of it does to a state. -/
namespace Go.Fm
set_option linter.unusedVariables false
open Classical

/-- Some blocks are kept under new numbers, all others are closed to writing. -/
theorem shut {C : Ctx} {ρ : Rho} {φ : St} {a : Act} {w : World} (R : RelAt C ρ φ a w) {π : List Nat} {fuel : Nat} {rd : List Nat} {bs : List HS} (hnd : nodB π = true) (hb : lendH φ.heap π fuel π = some (rd, bs)) :
    ∃ Sh2 : Nat → Prop, Lent w C.Sh ρ φ.heap π (fun _ => True) Sh2 (fun j => (π[j]?).bind ρ) (hOf bs) ∧ HeapRel C.w0 Sh2 C.O (fun j => (π[j]?).bind ρ) (hOf bs) w ∧
      (∀ k, C.Sh k → Sh2 k) ∧ (∀ k, Sh2 k → k < w.heap.size ∧ (C.Sh k ∨ C.w0.heap.size ≤ k ∨ C.O k)) ∧ ∀ j, j < π.length → hOf bs j ≠ .no := by
  obtain ⟨hbl, hbm, hbg⟩ := lendH_some hb
  have hnd' := nodB_spec hnd
  let Sh2 : Nat → Prop := fun k => C.Sh k ∨ ∃ id b L, φ.heap id = .live b ∧ id ∉ π ∧ ρ id = some L ∧ L.b = k
  obtain ⟨ρ2, hρ⟩ : ∃ ρ2 : Rho, ρ2 = fun j => (π[j]?).bind ρ := ⟨_, rfl⟩
  rw [← hρ]
  have hρ2 : ∀ (j id : Nat), π[j]? = some id → ρ2 j = ρ id := fun j id hj => by rw [hρ]; show (π[j]?).bind ρ = ρ id; rw [hj]; rfl
  have hbs : ∀ j id, π[j]? = some id → ∀ l, HLe (φ.heap id) l (hOf bs j) l := fun j id hj l => by
    rcases hbg j id hj with ⟨e1, e2⟩ | ⟨b, cs, r, e1, e2, e3, e4⟩
    · rw [e1, hOf_get e2]; trivial
    · rw [e1, hOf_get e2]; exact ⟨rfl, rfl, rfl⟩
  have H : Lent w C.Sh ρ φ.heap π (fun _ => True) Sh2 ρ2 (hOf bs) :=
    ⟨R.hp.blk, fun k hk => .inl hk, fun id b L e1 e2 _ e4 => .inr ⟨id, b, L, e1, e2, e4, rfl⟩, fun j id hj => ⟨hρ2 j id hj, fun _ => hbs j id hj _⟩⟩
  have hlive : ∀ j b', hOf bs j = .live b' → ∃ id b r, π[j]? = some id ∧ φ.heap id = .live b ∧ b'.sz = b.sz ∧ b'.n = b.n ∧ lendAll (lendC φ.heap π fuel) b.cs = some (r, b'.cs) := fun j b' hj => by
    have hjl := hOf_ne (l := bs) (j := j) (by rw [hj]; simp)
    have hjl' : j < π.length := by omega
    rcases hbg j _ (List.getElem?_eq_getElem hjl') with ⟨e1, e2⟩ | ⟨b, cs, r, e1, e2, e3, e4⟩
    · rw [hOf_get e2] at hj; cases hj
    · rw [hOf_get e2] at hj; cases hj; exact ⟨_, b, r, List.getElem?_eq_getElem hjl', e1, rfl, rfl, e3⟩
  refine ⟨Sh2, H, ⟨fun j b' hj => ?_, fun j b' L hj hL => ?_, fun j j' b b' L L' hj hj' hL hL' he => ?_⟩, fun k hk => .inl hk, fun k hk => ?_, fun j hj => ?_⟩
  · obtain ⟨id, b, r, e0, e1, e2, e3, e4⟩ := hlive j b' hj
    have hB := R.hp.blk id b e1
    unfold RB at hB ⊢
    rw [hρ2 j id e0]
    obtain ⟨g1, g2⟩ := lendAll_some e4
    cases hL : ρ id with
    | none =>
      rw [hL] at hB
      simp only at hB ⊢
      rw [hB.1] at g1
      exact ⟨List.eq_nil_of_length_eq_zero g1, by rw [e3]; exact hB.2⟩
    | some L =>
      rw [hL] at hB
      simp only at hB ⊢
      refine ⟨by rw [g1, e2, e3]; exact hB.1, by rw [g1]; exact hB.2.1, hB.2.2.1, fun i c' hc' => ?_⟩
      obtain ⟨c0, r0, f1, f2, f3⟩ := g2 i c' hc'
      obtain ⟨u, hu, hr⟩ := hB.2.2.2 i c0 f1
      exact ⟨u, hu, lendC_ok H fuel c0 c' r0 u f2 (fun y hy => trivial) hr⟩
  · obtain ⟨id, b, r, e0, e1, _⟩ := hlive j b' hj
    rw [hρ2 j id e0] at hL
    obtain ⟨g1, g2, g3⟩ := R.hp.own id b L e1 hL
    refine ⟨g1, fun h => ?_, g3⟩
    rcases h with h | ⟨id', b', L', f1, f2, f3, f4⟩
    · exact g2 h
    · have := R.hp.inj id' id b' b L' L f1 e1 f3 hL f4
      subst this
      exact f2 (List.mem_of_getElem? e0)
  · obtain ⟨id, b0, r, e0, e1, _⟩ := hlive j b hj
    obtain ⟨id', b0', r', e0', e1', _⟩ := hlive j' b' hj'
    rw [hρ2 j id e0] at hL
    rw [hρ2 j' id' e0'] at hL'
    have := R.hp.inj id id' b0 b0' L L' e1 e1' hL hL' he
    subst this
    exact hnd' j j' id e0 e0'
  · rcases hk with hk | ⟨id, b, L, e1, e2, e3, rfl⟩
    · exact ⟨R.sh_lt hk, .inl hk⟩
    · obtain ⟨g1, g2, g3⟩ := R.hp.own id b L e1 e3
      exact ⟨g1, .inr g3⟩
  · rcases hbg j _ (List.getElem?_eq_getElem hj) with ⟨e1, e2⟩ | ⟨b, cs, r, e1, e2, e3, e4⟩
    · rw [hOf_get e2]; simp
    · rw [hOf_get e2]; simp

def lendS (h : Nat → HS) (π : List Nat) (fuel : Nat) : SV → Option SV
  | .pv p => (lendP h π fuel p).map fun q => .pv q.2
  | .tup ps => (lendPs (lendP h π fuel) ps).map fun q => .tup q.2
theorem lendS_ok {w : World} {Sh Sh' : Nat → Prop} {ρ ρ' : Rho} {h h' : Nat → HS} {π : List Nat} (H : Lent w Sh ρ h π (fun _ => True) Sh' ρ' h')
    {f : Nat} {p p' : SV} {v : Value} (hl : lendS h π f p = some p') (hv : RSV w Sh ρ h v p) : RSV w Sh' ρ' h' v p' := by
  cases p with
  | pv p =>
    obtain ⟨q, hq, rfl⟩ := Option.map_eq_some_iff.1 hl
    exact lendP_ok H (p' := q.2) (rd := q.1) hq (fun _ _ => trivial) hv
  | tup ps =>
    obtain ⟨q, hq, rfl⟩ := Option.map_eq_some_iff.1 hl
    obtain ⟨h1, h2⟩ := lendPs_some (cs' := q.2) (rd := q.1) hq
    obtain ⟨vs, rfl, hlen, hp⟩ := hv
    refine ⟨vs, rfl, by omega, fun i c' hc => ?_⟩
    obtain ⟨c, r, e1, e2, e3⟩ := h2 i c' hc
    obtain ⟨u, hu, hr⟩ := hp i c e1
    exact ⟨u, hu, lendP_ok H e2 (fun _ _ => trivial) hr⟩

def lendE (h : Nat → HS) (π : List Nat) (fuel : Nat) (env : List (Nat × SV)) : List Nat → Option (List (Nat × SV))
  | [] => some []
  | t :: r => match lendS h π fuel (lk env t) with
    | none => none
    | some v => match lendE h π fuel env r with
      | none => none
      | some e => some ((t, v) :: e)
def preK : Nat → List Nat → Nat → Bool
  | 0, _, _ => true
  | k + 1, i :: r, j => i == j && preK k r (j + 1)
  | _ + 1, [], _ => false
theorem preK_get : ∀ {k : Nat} {π : List Nat} {j : Nat}, preK k π j = true → ∀ i, i < k → π[i]? = some (j + i)
  | 0, _, _, _, i, hi => by omega
  | k + 1, x :: r, j, h, i, hi => by
    simp only [preK, Bool.and_eq_true, beq_iff_eq] at h
    cases i with
    | zero => simp [h.1]
    | succ i =>
      have := preK_get h.2 i (by omega)
      simp only [List.getElem?_cons_succ, this]
      congr 1
      omega
  | k + 1, [], j, h, i, hi => by cases h
/-- Some slots and blocks are kept, all else is let go of, or may only be read. -/
def normS (k0 : Nat) (ks : List Nat) (π : List Nat) (fuel : Nat) (s : S) : Option S :=
  if (nodB π && preK k0 π 0) = true then
    match lendE (hOf s.heap) π fuel s.env ks with
    | none => none
    | some e => match lendH (hOf s.heap) π fuel π with
      | none => none
      | some (_, bs) => some ⟨e, bs⟩
  else none

/-- Whatever is in the one state is in the other. -/
def Weak (k0 : Nat) (s s' : S) : Prop := ∀ (C : Ctx) (a : Act) (w : World), C.k0 = k0 → RelX C s.st a w → RelX C s'.st a w
theorem Weak.refl (k0 : Nat) (s : S) : Weak k0 s s := fun _ _ _ _ h => h
theorem Weak.trans {k0 : Nat} {s s' s'' : S} (h : Weak k0 s s') (h' : Weak k0 s' s'') : Weak k0 s s'' := fun C a w hk hr => h' C a w hk (h C a w hk hr)

theorem lendE_get {h : Nat → HS} {π : List Nat} {fuel : Nat} {env : List (Nat × SV)} : ∀ {ks : List Nat} {e : List (Nat × SV)}, lendE h π fuel env ks = some e →
    ∀ t, lendS h π fuel (lk env t) = some (lk e t) ∨ lk e t = one .dead
  | [], e, he, t => by cases he; exact .inr rfl
  | k :: r, e, he, t => by
    unfold lendE at he
    cases hv : lendS h π fuel (lk env k) with
    | none => rw [hv] at he; cases he
    | some v =>
      rw [hv] at he
      simp only at he
      cases hr : lendE h π fuel env r with
      | none => rw [hr] at he; cases he
      | some e' =>
        rw [hr] at he
        cases he
        simp only [lk]
        split
        · rename_i hk; subst hk; exact .inl hv
        · exact lendE_get hr t

theorem weak_norm {k0 : Nat} {ks π : List Nat} {fuel : Nat} {s s' : S} (h : normS k0 ks π fuel s = some s') : Weak k0 s s' := by
  intro C a w hk ⟨C1, hreb, ρ, R⟩
  unfold normS at h
  split at h
  · rename_i hc
    simp only [Bool.and_eq_true] at hc
    split at h
    · cases h
    · rename_i e he
      split at h
      · cases h
      · rename_i rd bs hb
        cases h
        obtain ⟨Sh2, H, HR, hsh1, hsh2, hno⟩ := shut R hc.1 hb
        let O3 : Nat → Prop := fun k => ∃ j b L, hOf bs j = .live b ∧ (fun j => (π[j]?).bind ρ : Rho) j = some L ∧ L.b = k
        let C3 : Ctx := { P := C1.P, w0 := w, Sh := Sh2, O := O3, rho0 := C1.rho0, k0 := C1.k0, nt := C1.nt, old := fun k hk => ⟨(hsh2 k hk).1, fun ⟨j, b, L, e1, e2, e3⟩ => (HR.own j b L e1 e2).2.1 (e3 ▸ hk)⟩ }
        refine ⟨C3, hreb.trans ⟨rfl, rfl, rfl, rfl, R.fr, fun k ⟨j, b, L, e1, e2, e3⟩ => e3 ▸ (HR.own j b L e1 e2).2.2, hsh1, fun k hk => (hsh2 k hk).2⟩, fun j => (π[j]?).bind ρ, ?_⟩
        refine ⟨R.defers, R.nt, fun t => ?_, ⟨HR.blk, fun j b L e1 e2 => ⟨(HR.own j b L e1 e2).1, (HR.own j b L e1 e2).2.1, .inr ⟨j, b, L, e1, e2, rfl⟩⟩, HR.inj⟩, fun id hid => ?_, .refl _ _⟩
        · rcases lendE_get he t with h1 | h1
          · exact lendS_ok H h1 (R.env t)
          · show RSV w Sh2 _ (hOf bs) _ (lk e t)
            rw [h1]; trivial
        · have hid' : id < k0 := by rw [← hk, ← hreb.k0]; exact hid
          have hπ := preK_get hc.2 id hid'
          simp only [Nat.zero_add] at hπ
          refine ⟨hno id (List.getElem?_eq_some_iff.1 hπ).1, ?_⟩
          show (π[id]?).bind ρ = C1.rho0 id
          rw [hπ]
          exact (R.init id hid).2
  · cases h

inductive Ex where
  | normal
  | exit (id : Nat)
  | ret
def Ex.of : Ex → Exit
  | .normal => .normal
  | .exit id => .exit id
  | .ret => .ret
def Runs (P : Program) (nt k0 : Nat) (c : Code) (s : S) (e : Ex) (s' : S) : Prop :=
  ∀ (C : Ctx), C.P = P → C.nt = nt → C.k0 = k0 → ∀ a w, RelX C s.st a w → c.wp P (fun e' a' w' => e' = e.of ∧ RelX C s'.st a' w') a w
/-- The code runs from the state to one end, of which this is so. -/
def W (P : Program) (nt k0 : Nat) (c : Code) (s : S) (Q : Ex → S → Prop) : Prop := P.follows .mixedOrders = true → ∃ e s', Runs P nt k0 c s e s' ∧ Q e s'

section
variable {P : Program} {nt k0 : Nat} {s : S} {Q Q' : Ex → S → Prop}
theorem W.mono {c : Code} (h : W P nt k0 c s Q) (hq : ∀ e s, Q e s → Q' e s) : W P nt k0 c s Q' := fun hm => by
  obtain ⟨e, s', h1, h2⟩ := h hm
  exact ⟨e, s', h1, hq e s' h2⟩
theorem W.weak {c : Code} {s' : S} (hw : Weak k0 s s') (h : W P nt k0 c s' Q) : W P nt k0 c s Q := fun hm => by
  obtain ⟨e, s2, h1, h2⟩ := h hm
  exact ⟨e, s2, fun C hP hn hk a w R => h1 C hP hn hk a w (hw C a w hk R), h2⟩
theorem W.skip (h : Q .normal s) : W P nt k0 .skip s Q := fun _ => ⟨.normal, s, fun C _ _ _ a w R => wp_skip ⟨rfl, R⟩, h⟩
theorem W.exit {id : Nat} (h : Q (.exit id) s) : W P nt k0 (.exit id) s Q := fun _ => ⟨.exit id, s, fun C _ _ _ a w R => wp_exit ⟨rfl, R⟩, h⟩
theorem W.ret (h : Q .ret s) : W P nt k0 .ret s Q := fun _ => ⟨.ret, s, fun C _ _ _ a w R => wp_ret ⟨rfl, R⟩, h⟩
def kSeq (e : Ex) (A B : Unit → Prop) : Prop := match e with | .normal => A () | .exit _ => B () | .ret => B ()
theorem W.seq {x y : Code} (h : W P nt k0 x s fun e s1 => kSeq e (fun _ => W P nt k0 y s1 Q) (fun _ => Q e s1)) : W P nt k0 (.seq x y) s Q := fun hm => by
  obtain ⟨e, s1, h1, h2⟩ := h hm
  cases e with
  | normal =>
    obtain ⟨e2, s2, h3, h4⟩ := h2 hm
    refine ⟨e2, s2, fun C hP hn hk a w R => wp_seq (wp_mono (h1 C hP hn hk a w R) fun e' a' w' ⟨he, R'⟩ => ?_), h4⟩
    subst he
    exact h3 C hP hn hk a' w' R'
  | exit id =>
    refine ⟨.exit id, s1, fun C hP hn hk a w R => wp_seq (wp_mono (h1 C hP hn hk a w R) fun e' a' w' ⟨he, R'⟩ => ?_), h2⟩
    subst he
    exact ⟨rfl, R'⟩
  | ret =>
    refine ⟨.ret, s1, fun C hP hn hk a w R => wp_seq (wp_mono (h1 C hP hn hk a w R) fun e' a' w' ⟨he, R'⟩ => ?_), h2⟩
    subst he
    exact ⟨rfl, R'⟩
theorem W.cond {c : Operand} {x y : Code} {b : Bool} (hb : s.st.ev c = one (.bool b)) (h : W P nt k0 (if b then x else y) s Q) : W P nt k0 (.cond c x y) s Q := fun hm => by
  obtain ⟨e, s1, h1, h2⟩ := h hm
  refine ⟨e, s1, fun C hP hn hk a w R => wp_cond (t := b) ?_ (h1 C hP hn hk a w R), h2⟩
  obtain ⟨C', _, ρ, R0⟩ := R
  have := R0.ev c
  rw [hb] at this
  exact this.bool
def kBlock (id : Nat) (e : Ex) (A B : Unit → Prop) : Prop := match e with | .normal => A () | .exit i => (match Nat.beq i id with | true => A () | false => B ()) | .ret => B ()
theorem W.block {id : Nat} {c : Code} (h : W P nt k0 c s fun e s1 => kBlock id e (fun _ => Q .normal s1) (fun _ => Q e s1)) : W P nt k0 (.block id c) s Q := fun hm => by
  obtain ⟨e, s1, h1, h2⟩ := h hm
  cases e with
  | normal =>
    refine ⟨.normal, s1, fun C hP hn hk a w R => wp_block (wp_mono (h1 C hP hn hk a w R) fun e' a' w' ⟨he, R'⟩ => ?_), h2⟩
    subst he
    exact ⟨rfl, R'⟩
  | exit i =>
    simp only [kBlock] at h2
    by_cases hi : i = id
    · rw [show Nat.beq i id = true from Nat.beq_eq ▸ hi] at h2
      refine ⟨.normal, s1, fun C hP hn hk a w R => wp_block (wp_mono (h1 C hP hn hk a w R) fun e' a' w' ⟨he, R'⟩ => ?_), h2⟩
      subst he
      simp only [Ex.of, Exit.inBlock, if_pos hi]
      exact ⟨trivial, R'⟩
    · rw [show Nat.beq i id = false from Bool.eq_false_iff.2 fun h => hi (Nat.eq_of_beq_eq_true h)] at h2
      refine ⟨.exit i, s1, fun C hP hn hk a w R => wp_block (wp_mono (h1 C hP hn hk a w R) fun e' a' w' ⟨he, R'⟩ => ?_), h2⟩
      subst he
      simp only [Ex.of, Exit.inBlock, if_neg hi]
      exact ⟨trivial, R'⟩
  | ret =>
    refine ⟨.ret, s1, fun C hP hn hk a w R => wp_block (wp_mono (h1 C hP hn hk a w R) fun e' a' w' ⟨he, R'⟩ => ?_), h2⟩
    subst he
    exact ⟨rfl, R'⟩
theorem W.region {P : Unit → Program} {T : TypeId → TyI} (hT : T = tiOf (P ())) {nt k0 : Nat} {s : S} {Q : Ex → S → Prop} {id : Nat} {ops : Array Oper} {draw : Bool} (h : wops P T nt ops.toList ops.toList s [] fun s' f => (match draw with | true => drawOk ops.toList f.reverse = true | false => True) ∧ Q .normal s') : W (P ()) nt k0 (.region id ops draw) s Q := fun hm => by
  obtain ⟨l, s', hs, hd, hq⟩ := wops_seq hT hm h
  refine ⟨.normal, s', fun C hP hn hk a w R => ?_, hq⟩
  cases draw with
  | false =>
    refine wp_region ?_
    have := hs.text 0 rfl C hP hn a w R (fun e' a' w' => e' = .normal ∧ RelX C s'.st a' w') (fun a' w' R' => ⟨rfl, R'⟩)
    rw [List.range_eq_range']
    simpa [Ex.of] using this
  | true =>
    refine wp_region_any hm ?_
    have hok := hd
    simp only [List.append_nil, List.reverse_reverse] at hok
    refine hs.drawn hok hP hn (fun a' w' R' => ⟨rfl, R'⟩) _ _ _ _ (by simp) ?_ (fun j o ho hp => ?_) ?_
    · suffices ∀ (p : Nat → Bool) n, unl p n ≤ n from this _ _
      intro p n
      induction n with
      | zero => exact Nat.le_refl _
      | succ n ih => simp only [unl]; split <;> omega
    · exfalso
      by_cases hj : j < ops.size
      · simp [hj] at hp
      · rw [List.getElem?_eq_none (by simpa using hj)] at ho; cases ho
    · have hdr : RelX C s.st a { w with drawn := w.drawn + 1 } := by
        obtain ⟨C', hC, ρ, R0⟩ := R
        exact ⟨C', hC, ρ, R0.drew⟩
      have hph : phiS ops.toList l s (fun i => (Array.replicate ops.size false).getD i false) ops.size = s.st := by
        have hf : ∀ j, (Array.replicate ops.size false).getD j false = false := fun j => by
          by_cases hj : j < ops.size <;> simp [hj]
        simp only [phiS]
        show St.mk _ _ = s.st
        congr 1
        · funext t; exact vAt_past (i := 0) (Nat.zero_le _) (fun j _ _ _ => hf j)
        · funext id; exact vAt_past (i := 0) (Nat.zero_le _) (fun j _ _ _ => hf j)
      rw [hph]
      exact hdr
inductive Fin (P : Program) (nt k0 : Nat) {α : Type} (st : α → S) (c : Code) : α → Ex → S → Prop where
  | stop (x : α) (e : Ex) (s' : S) (h : Runs P nt k0 c (st x) e s') (he : e ≠ .normal) : Fin P nt k0 st c x e s'
  | go (x x' : α) (e : Ex) (s1 s' : S) (h : Runs P nt k0 c (st x) .normal s1) (hw : Weak k0 s1 (st x')) (hf : Fin P nt k0 st c x' e s') : Fin P nt k0 st c x e s'
theorem Fin.run {α : Type} {st : α → S} {c : Code} {x : α} {e : Ex} {s' : S} (h : Fin P nt k0 st c x e s') : ∀ (C : Ctx), C.P = P → C.nt = nt → C.k0 = k0 → ∀ a w, RelX C (st x).st a w →
    ∀ (b : Frame) (k : List Item) (cs : List Frame), ∃ e' a' w', (e' = e.of ∧ RelX C s'.st a' w') ∧ Arrives P (lone (b.at a (.code c :: .inLoop c :: k)) cs w) b k cs e' a' w' := by
  induction h with
  | stop x e s' h he =>
    intro C hP hn hk a w R b k cs
    obtain ⟨e1, a1, w1, ⟨rfl, R1⟩, harr⟩ := h C hP hn hk a w R b (.inLoop c :: k) cs
    refine ⟨_, a1, w1, ⟨rfl, R1⟩, ?_⟩
    cases e with
    | normal => exact absurd rfl he
    | exit id => exact .pass (x := .inLoop c) rfl (fun _ _ => .inl (by simp [Ex.of])) harr
    | ret => exact .pass (x := .inLoop c) rfl (fun _ _ => .inl (by simp [Ex.of])) harr
  | go x x' e s1 s' h hw hf ih =>
    intro C hP hn hk a w R b k cs
    obtain ⟨e1, a1, w1, ⟨rfl, R1⟩, harr⟩ := h C hP hn hk a w R b (.inLoop c :: k) cs
    obtain ⟨e2, a2, w2, hq, harr2⟩ := ih C hP hn hk a1 w1 (hw C a1 w1 hk R1) b k cs
    exact ⟨e2, a2, w2, hq, .of_steps (Steps.trans harr (.one step_inLoop)) harr2⟩
theorem W.loop {α : Type} (st : α → S) (Inv : α → Prop) (μ : α → Nat) {c : Code} (x0 : α) (hw : Weak k0 s (st x0)) (h0 : Inv x0)
    (step : ∀ x, Inv x → W P nt k0 c (st x) fun e s' => kSeq e (fun _ => ∃ x', Inv x' ∧ μ x' < μ x ∧ Weak k0 s' (st x')) (fun _ => Q e s')) : W P nt k0 (.loop c) s Q := fun hm => by
  have key : ∀ n x, μ x = n → Inv x → ∃ e s', Fin P nt k0 st c x e s' ∧ Q e s' := by
    intro n
    induction n using Nat.strongRecOn with
    | _ n ih =>
      intro x hn hI
      obtain ⟨e, s1, h1, h2⟩ := step x hI hm
      cases e with
      | normal =>
        obtain ⟨x', hI', hlt, hw'⟩ := h2
        obtain ⟨e, s', hf, hq⟩ := ih (μ x') (hn ▸ hlt) x' rfl hI'
        exact ⟨e, s', .go x x' e s1 s' h1 hw' hf, hq⟩
      | exit id => exact ⟨_, s1, .stop x _ s1 h1 (by simp), h2⟩
      | ret => exact ⟨_, s1, .stop x _ s1 h1 (by simp), h2⟩
  obtain ⟨e, s', hf, hq⟩ := key _ x0 rfl h0
  refine ⟨e, s', fun C hP hn hk a w R b k cs => ?_, hq⟩
  obtain ⟨e', a', w', hq, harr⟩ := hf.run C hP hn hk a w (hw C a w hk R) b k cs
  exact ⟨e', a', w', hq, .of_steps (.one step_loop) harr⟩

class Kx where
  go : Ex → S → Prop
structure loopT (P : Unit → Program) (nt k0 : Nat) (c : Code) (s : S) [Q : Kx] : Prop where
  get : W (P ()) nt k0 (.loop c) s Q.go
structure kIf (b : Bool) [X : Kn Unit] [Y : Kn Unit] : Prop where
  t : b = true → X.go ()
  f : b = false → Y.go ()
theorem kIf_mk {b : Bool} {X Y : Unit → Prop} (h1 : b = true → X ()) (h2 : b = false → Y ()) : @kIf b ⟨X⟩ ⟨Y⟩ := @kIf.mk b ⟨X⟩ ⟨Y⟩ h1 h2
theorem kIf_t {X Y : Unit → Prop} (h : X ()) : @kIf true ⟨X⟩ ⟨Y⟩ := kIf_mk (fun _ => h) (fun h => (by cases h))
theorem kIf_f {X Y : Unit → Prop} (h : Y ()) : @kIf false ⟨X⟩ ⟨Y⟩ := kIf_mk (fun h => (by cases h)) (fun _ => h)
/-- Code read as a demand on the state; a loop stays one. -/
def VC (P : Unit → Program) (T : TypeId → TyI) (nt k0 : Nat) : Code → S → (Ex → S → Prop) → Prop
  | .skip, s, Q => Q .normal s
  | .region _ ops draw, s, Q => wops P T nt ops.toList ops.toList s [] fun s' f => (match draw with | true => drawOk ops.toList f.reverse = true | false => True) ∧ Q .normal s'
  | .seq x y, s, Q => VC P T nt k0 x s fun e s1 => kSeq e (fun _ => VC P T nt k0 y s1 Q) (fun _ => Q e s1)
  | .cond c x y, s, Q => (s.st.ev c).kB fun b => @kIf b ⟨fun _ => VC P T nt k0 x s Q⟩ ⟨fun _ => VC P T nt k0 y s Q⟩
  | .block id c, s, Q => VC P T nt k0 c s fun e s1 => kBlock id e (fun _ => Q .normal s1) (fun _ => Q e s1)
  | .exit id, s, Q => Q (.exit id) s
  | .ret, s, Q => Q .ret s
  | .loop c, s, Q => @loopT P nt k0 c s ⟨Q⟩
  | _, _, _ => False
theorem VC.w {P : Unit → Program} {T : TypeId → TyI} (hT : T = tiOf (P ())) {nt k0 : Nat} : ∀ (c : Code) {s : S} {Q : Ex → S → Prop}, VC P T nt k0 c s Q → W (P ()) nt k0 c s Q
  | .skip, s, Q, h => .skip h
  | .region _ ops draw, s, Q, h => .region hT h
  | .seq x y, s, Q, h => .seq ((VC.w hT x h).mono fun e s1 h1 => by
      cases e with
      | normal => exact VC.w hT y h1
      | exit id => exact h1
      | ret => exact h1)
  | .cond c x y, s, Q, h => by
    obtain ⟨b, hb, h⟩ := SV.kB_elim h
    obtain ⟨h1, h2⟩ := h
    refine .cond hb ?_
    cases b with
    | true => exact VC.w hT x (h1 rfl)
    | false => exact VC.w hT y (h2 rfl)
  | .block id c, s, Q, h => .block (VC.w hT c h)
  | .exit id, s, Q, h => .exit h
  | .ret, s, Q, h => .ret h
  | .loop c, s, Q, h => by obtain ⟨g⟩ := h; exact g
  | .rangeFunc .., s, Q, h => h.elim
  | .scope _, s, Q, h => h.elim
  | .label _, s, Q, h => h.elim
  | .goto _, s, Q, h => h.elim
  | .refuse _, s, Q, h => h.elim
/-- A loop by what holds at its head. -/
theorem loopT_of {P : Unit → Program} {T : TypeId → TyI} (hT : T = tiOf (P ())) {nt k0 : Nat} {s : S} {Q : Ex → S → Prop} {α : Type} (st : α → S) (Inv : α → Prop) (μ : α → Nat) {c : Code} (x0 : α) (hw : Weak k0 s (st x0)) (h0 : Inv x0)
    (step : ∀ x, Inv x → VC P T nt k0 c (st x) fun e s' => kSeq e (fun _ => ∃ x', Inv x' ∧ μ x' < μ x ∧ Weak k0 s' (st x')) (fun _ => Q e s')) : @loopT P nt k0 c s ⟨Q⟩ :=
  @loopT.mk P nt k0 c s ⟨Q⟩ <| (.loop st Inv μ x0 hw h0 fun x hx => VC.w hT c (step x hx))
end

end Go.Fm
