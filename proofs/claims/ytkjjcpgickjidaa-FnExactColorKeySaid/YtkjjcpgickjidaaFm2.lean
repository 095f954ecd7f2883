import Derived.Test.YtkjjcpgickjidaaFm1
/-! The machine's memory: new blocks, blocks that are written, blocks that go over into others. -/
namespace Go.Fm
set_option linter.unusedVariables false

theorem RelAt.sh_lt {C : Ctx} {ρ : Rho} {φ : St} {a : Act} {w : World} (R : RelAt C ρ φ a w) {k : Nat} (h : C.Sh k) : k < w.heap.size :=
  Nat.lt_of_lt_of_le (C.old k h).1 R.fr.size

/-- One block B of the model's turns (or is new); of the machine's blocks the one with number tid lies there, all others are as they were or gone. -/
theorem RelAt.at {C : Ctx} {ρ ρ' : Rho} {φ : St} {h' : Nat → HS} {a : Act} {w w' : World} (R : RelAt C ρ φ a w) (B tid : Nat)
    (hB : ¬ C.Sh B ∧ (C.w0.heap.size ≤ B ∨ C.O B) ∧ B < w'.heap.size)
    (hw : ∀ k, k < w.heap.size → k ≠ B → w'.heap[k]? = w.heap[k]?) (hsz : w.heap.size ≤ w'.heap.size)
    (hos : w'.os = w.os) (htp : w'.tape = w.tape) (hout : w'.output = w.output)
    (hle : ∀ id, HLe (φ.heap id) (ρ id) (h' id) (ρ' id)) (hinit : ∀ id, id < C.k0 → ρ' id = ρ id)
    (hoth : ∀ id b, h' id = .live b → id ≠ tid → φ.heap id = .live b ∧ ρ' id = ρ id ∧ ∀ L, ρ id = some L → L.b ≠ B)
    (htid : ∀ b, h' tid = .live b → (∃ L, ρ' tid = some L ∧ L.b = B) ∧ RB w' C.Sh ρ' h' tid b) :
    RelAt C ρ' { φ with heap := h' } a w' := by
  have hsh : ∀ k, C.Sh k → w'.heap[k]? = w.heap[k]? := fun k hk => hw k (R.sh_lt hk) (fun e => hB.1 (e ▸ hk))
  refine R.turn hsh hle ⟨?_, ?_, ?_⟩ hinit ⟨hos.trans R.fr.os, htp.trans R.fr.tape, hout.trans R.fr.output, Nat.le_trans R.fr.size hsz, ?_⟩
  · intro id b hb
    by_cases e : id = tid
    · subst e; exact (htid b hb).2
    · obtain ⟨h1, h2, h3⟩ := hoth id b hb e
      have hrb := R.hp.blk id b h1
      unfold RB at hrb ⊢
      rw [h2]
      cases hL : ρ id with
      | none => rw [hL] at hrb; exact hrb
      | some L =>
        rw [hL] at hrb
        obtain ⟨q1, q2, q3, q4⟩ := hrb
        have hne := h3 L hL
        have hlt := (R.hp.own id b L h1 hL).1
        have hc : ∀ j, w'.cell? ⟨L.b, L.o + j, none⟩ = w.cell? ⟨L.b, L.o + j, none⟩ := fun j => World.cell?_of_block (w := w) (hw L.b hlt hne)
        have hf : ∀ j, w'.frozen? ⟨L.b, L.o + j, none⟩ = w.frozen? ⟨L.b, L.o + j, none⟩ := fun j => World.frozen?_of_block (w := w) (hw L.b hlt hne)
        refine ⟨q1, q2, fun j hj => ?_, fun j c hc' => ?_⟩
        · rw [hc j, hf j]; exact q3 j hj
        · obtain ⟨u, hu, hr⟩ := q4 j c hc'
          exact ⟨u, by rw [hc j]; exact hu, hr.mono hsh hle⟩
  · intro id b L hb hL
    by_cases e : id = tid
    · subst e
      obtain ⟨⟨L', hL', hLb⟩, _⟩ := htid b hb
      rw [hL] at hL'
      cases hL'
      rw [hLb]
      exact ⟨hB.2.2, hB.1, hB.2.1⟩
    · obtain ⟨h1, h2, h3⟩ := hoth id b hb e
      rw [h2] at hL
      obtain ⟨p1, p2, p3⟩ := R.hp.own id b L h1 hL
      exact ⟨Nat.lt_of_lt_of_le p1 hsz, p2, p3⟩
  · intro id id' b b' L L' hb hb' hL hL' he
    by_cases e : id = tid
    · by_cases e' : id' = tid
      · rw [e, e']
      · subst e
        obtain ⟨⟨L1, hL1, hLb⟩, _⟩ := htid b hb
        rw [hL] at hL1; cases hL1
        obtain ⟨h1, h2, h3⟩ := hoth id' b' hb' e'
        rw [h2] at hL'
        exact absurd (he.symm.trans hLb) (h3 L' hL')
    · obtain ⟨h1, h2, h3⟩ := hoth id b hb e
      rw [h2] at hL
      by_cases e' : id' = tid
      · subst e'
        obtain ⟨⟨L1, hL1, hLb⟩, _⟩ := htid b' hb'
        rw [hL'] at hL1; cases hL1
        exact absurd (he.trans hLb) (h3 L hL)
      · obtain ⟨h1', h2', h3'⟩ := hoth id' b' hb' e'
        rw [h2'] at hL'
        exact R.hp.inj id id' b b' L L' h1 h1' hL hL' he
  · intro k hk hO
    by_cases e : k = B
    · subst e; rcases hB.2.1 with h | h
      · omega
      · exact absurd h hO
    · rw [hw k (Nat.lt_of_lt_of_le hk R.fr.size) e]; exact R.fr.keep k hk hO

theorem RelAt.k0_le {C : Ctx} {ρ : Rho} {φ : St} {a : Act} {w : World} (R : RelAt C ρ φ a w) {nid : Nat} (h : φ.heap nid = .no) : ¬ nid < C.k0 :=
  fun hlt => (R.init nid hlt).1 h

theorem hle_upd_no {h : Nat → HS} {ρ : Rho} {nid : Nat} (hno : h nid = .no) (s : HS) (l : Option Loc) : ∀ id, HLe (h id) (ρ id) (upd h nid s id) (upd ρ nid l id) := by
  intro id
  by_cases e : id = nid
  · subst e; rw [hno]; trivial
  · rw [upd_ne _ _ e, upd_ne _ _ e]; exact HLe.refl _ _

/-- A new block. -/
theorem RelAt.new {C : Ctx} {ρ : Rho} {φ : St} {a : Act} {w w' : World} (R : RelAt C ρ φ a w) (nid : Nat) (hno : φ.heap nid = .no) (blk : Blk) (E : Nat)
    (hw : ∀ k, k < w.heap.size → w'.heap[k]? = w.heap[k]?) (hsz : w.heap.size < w'.heap.size)
    (hos : w'.os = w.os) (htp : w'.tape = w.tape) (hout : w'.output = w.output)
    (hl : blk.cs.length = blk.n * blk.sz) (hE : blk.cs.length ≤ E)
    (hex : ∀ j, j < E → (w'.cell? ⟨w.heap.size, j, none⟩).isSome = true ∧ w'.frozen? ⟨w.heap.size, j, none⟩ = false)
    (hcs : ∀ j c, blk.cs[j]? = some c → ∃ u, w'.cell? ⟨w.heap.size, j, none⟩ = some u ∧ RV w C.Sh ρ φ.heap u c) :
    RelAt C (upd ρ nid (some ⟨w.heap.size, 0, E⟩)) { φ with heap := upd φ.heap nid (.live blk) } a w' := by
  have hk := R.k0_le hno
  have hle := hle_upd_no (ρ := ρ) hno (.live blk) (some ⟨w.heap.size, 0, E⟩)
  have hnsh : ¬ C.Sh w.heap.size := fun h => Nat.lt_irrefl _ (R.sh_lt h)
  refine R.at w.heap.size nid ⟨hnsh, .inl R.fr.size, hsz⟩ (fun k hk' _ => hw k hk') (Nat.le_of_lt hsz) hos htp hout hle (fun id hid => upd_ne _ _ (fun e => hk (e ▸ hid))) ?_ ?_
  · intro id b hb hne
    rw [upd_ne _ _ hne] at hb
    refine ⟨hb, upd_ne _ _ hne, fun L hL => ?_⟩
    have := (R.hp.own id b L hb hL).1
    omega
  · intro b hb
    rw [upd_same] at hb
    cases hb
    refine ⟨⟨_, upd_same _ _ _, rfl⟩, ?_⟩
    unfold RB
    rw [upd_same]
    refine ⟨hl, hE, fun j hj => ?_, fun j c hc => ?_⟩
    · simpa using hex j hj
    · obtain ⟨u, hu, hr⟩ := hcs j c hc
      exact ⟨u, by simpa using hu, hr.mono (fun k hk' => hw k (R.sh_lt hk')) hle⟩

/-- A new block that has no memory: nothing is in it. -/
theorem RelAt.newNone {C : Ctx} {ρ : Rho} {φ : St} {a : Act} {w : World} (R : RelAt C ρ φ a w) (nid : Nat) (hno : φ.heap nid = .no) (sz : Nat) :
    RelAt C (upd ρ nid none) { φ with heap := upd φ.heap nid (.live ⟨sz, 0, []⟩) } a w := by
  have hk := R.k0_le hno
  have hle := hle_upd_no (ρ := ρ) hno (.live ⟨sz, 0, []⟩) none
  refine R.turn (fun _ _ => rfl) hle ⟨?_, ?_, ?_⟩ (fun id hid => upd_ne _ _ (fun e => hk (e ▸ hid))) R.fr
  · intro id b hb
    by_cases e : id = nid
    · subst e
      rw [upd_same] at hb
      cases hb
      unfold RB
      rw [upd_same]
      exact ⟨rfl, rfl⟩
    · rw [upd_ne _ _ e] at hb
      have hrb := R.hp.blk id b hb
      unfold RB at hrb ⊢
      rw [upd_ne _ _ e]
      cases hL : ρ id with
      | none => rw [hL] at hrb; exact hrb
      | some L =>
        rw [hL] at hrb
        obtain ⟨q1, q2, q3, q4⟩ := hrb
        exact ⟨q1, q2, q3, fun j c hc => by obtain ⟨u, hu, hr⟩ := q4 j c hc; exact ⟨u, hu, hr.mono (fun _ _ => rfl) hle⟩⟩
  · intro id b L hb hL
    by_cases e : id = nid
    · subst e; rw [upd_same] at hL; cases hL
    · rw [upd_ne _ _ e] at hb hL; exact R.hp.own id b L hb hL
  · intro id id' b b' L L' hb hb' hL hL' he
    by_cases e : id = nid
    · subst e; rw [upd_same] at hL; cases hL
    · by_cases e' : id' = nid
      · subst e'; rw [upd_same] at hL'; cases hL'
      · rw [upd_ne _ _ e] at hb hL; rw [upd_ne _ _ e'] at hb' hL'
        exact R.hp.inj id id' b b' L L' hb hb' hL hL' he

theorem heap_setCells_other (b : Nat) : ∀ (vs : List Value) (o : Nat) (w : World) (k : Nat), k ≠ b → (w.setCells b o vs).heap[k]? = w.heap[k]?
  | [], _, _, _, _ => rfl
  | v :: r, o, w, k, h => by
    simp only [World.setCells]
    rw [heap_setCells_other b r (o + 1) _ k h, Go.RowKit.Below.heap_setCell _ _ _ _ h]
theorem size_setCells (b : Nat) : ∀ (vs : List Value) (o : Nat) (w : World), (w.setCells b o vs).heap.size = w.heap.size
  | [], _, _ => rfl
  | v :: r, o, w => by simp only [World.setCells]; rw [size_setCells b r]; simp
theorem rest_setCells (b : Nat) : ∀ (vs : List Value) (o : Nat) (w : World), (w.setCells b o vs).os = w.os ∧ (w.setCells b o vs).tape = w.tape ∧ (w.setCells b o vs).output = w.output
  | [], _, _ => ⟨rfl, rfl, rfl⟩
  | v :: r, o, w => by
    simp only [World.setCells]
    obtain ⟨h1, h2, h3⟩ := rest_setCells b r (o + 1) (w.setCell ⟨b, o, none⟩ v)
    exact ⟨h1, h2, h3⟩
theorem isSome_setCells (b : Nat) : ∀ (vs : List Value) (o : Nat) (w : World) (x : Addr), (w.cell? x).isSome = true → ((w.setCells b o vs).cell? x).isSome = true
  | [], _, _, _, h => h
  | v :: r, o, w, x, h => by
    simp only [World.setCells]
    refine isSome_setCells b r (o + 1) _ x ?_
    by_cases e : (⟨b, o, none⟩ : Addr) = x
    · subst e
      obtain ⟨u, hu⟩ := Option.isSome_iff_exists.1 h
      rw [World.cell?_setCell_same w _ _ hu]; rfl
    · rw [World.cell?_setCell_other _ _ _ _ e]; exact h

/-- Cells put over others, from a place on. -/
def over (cs : List CV) (off : Nat) (ns : List CV) : List CV := cs.take off ++ ns ++ cs.drop (off + ns.length)

theorem over_length {cs ns : List CV} {off : Nat} (h : off + ns.length ≤ cs.length) : (over cs off ns).length = cs.length := by
  simp [over]; omega

theorem over_get {cs ns : List CV} {off j : Nat} (h : off + ns.length ≤ cs.length) :
    (over cs off ns)[j]? = if off ≤ j ∧ j < off + ns.length then ns[j - off]? else cs[j]? := by
  unfold over
  have ht : (cs.take off).length = off := by simp; omega
  by_cases h1 : j < off
  · rw [if_neg (by omega), List.append_assoc, List.getElem?_append_left (by omega), List.getElem?_take, if_pos h1]
  · by_cases h2 : j < off + ns.length
    · rw [if_pos (by omega), List.append_assoc, List.getElem?_append_right (by omega), ht, List.getElem?_append_left (by omega)]
    · rw [if_neg (by omega), List.getElem?_append_right (by simp; omega), List.getElem?_drop]
      congr 1
      simp
      omega

/-- A live block's cells are written over. -/
theorem RelAt.store {C : Ctx} {ρ : Rho} {φ : St} {a : Act} {w : World} (R : RelAt C ρ φ a w) (id : Nat) (blk : Blk) (L : Loc) (hb : φ.heap id = .live blk) (hL : ρ id = some L)
    (off : Nat) (vs : List Value) (ns : List CV) (hl : vs.length = ns.length) (ho : off + ns.length ≤ blk.cs.length)
    (hr : ∀ (j : Nat) (c : CV), ns[j]? = some c → ∃ u : Value, vs[j]? = some u ∧ RV w C.Sh ρ φ.heap u c) :
    RelAt C ρ { φ with heap := upd φ.heap id (.live ⟨blk.sz, blk.n, over blk.cs off ns⟩) } a (w.setCells L.b (L.o + off) vs) := by
  have hrb := R.hp.blk id blk hb
  unfold RB at hrb
  rw [hL] at hrb
  obtain ⟨q1, q2, q3, q4⟩ := hrb
  obtain ⟨p1, p2, p3⟩ := R.hp.own id blk L hb hL
  have hle : ∀ i, HLe (φ.heap i) (ρ i) (upd φ.heap id (.live ⟨blk.sz, blk.n, over blk.cs off ns⟩) i) (ρ i) := by
    intro i
    by_cases e : i = id
    · subst e; rw [hb, upd_same]; exact ⟨rfl, rfl, rfl⟩
    · rw [upd_ne _ _ e]; exact HLe.refl _ _
  obtain ⟨r1, r2, r3⟩ := rest_setCells L.b vs (L.o + off) w
  have hsh : ∀ k, C.Sh k → (w.setCells L.b (L.o + off) vs).heap[k]? = w.heap[k]? := fun k hk => heap_setCells_other _ _ _ _ _ (fun e => p2 (e ▸ hk))
  refine R.at L.b id ⟨p2, p3, by rw [size_setCells]; exact p1⟩ (fun k _ hk => heap_setCells_other _ _ _ _ _ hk) (by rw [size_setCells]; exact Nat.le_refl _) r1 r2 r3 hle (fun _ _ => rfl) ?_ ?_
  · intro i b hi hne
    rw [upd_ne _ _ hne] at hi
    exact ⟨hi, rfl, fun L' hL' he => hne (R.hp.inj i id b blk L' L hi hb hL' hL he)⟩
  · intro b hi
    rw [upd_same] at hi
    cases hi
    refine ⟨⟨L, hL, rfl⟩, ?_⟩
    unfold RB
    rw [hL]
    refine ⟨by rw [over_length ho]; exact q1, by rw [over_length ho]; exact q2, fun j hj => ⟨isSome_setCells _ _ _ _ _ (q3 j hj).1, by rw [World.frozen?_setCells]; exact (q3 j hj).2⟩, fun j c hc => ?_⟩
    simp only at hc
    rw [over_get ho] at hc
    split at hc
    · rename_i hin
      obtain ⟨u, hu, hru⟩ := hr (j - off) c hc
      obtain ⟨hlt, hget⟩ := List.getElem?_eq_some_iff.1 hu
      have := World.cell?_setCells_in L.b vs (L.o + off) w (fun i hi => by rw [Nat.add_assoc]; exact (q3 (off + i) (by omega)).1) (j - off) hlt
      rw [show L.o + off + (j - off) = L.o + j by omega] at this
      exact ⟨u, by rw [this, hget], hru.mono hsh hle⟩
    · rename_i hout
      obtain ⟨u, hu, hru⟩ := q4 j c hc
      refine ⟨u, ?_, hru.mono hsh hle⟩
      rw [World.cell?_setCells_out L.b vs (L.o + off) w _ (fun _ _ => by simp only; omega)]
      exact hu

/-- A view of a block goes over into a new one, with cells put behind it in its place. -/
theorem RelAt.grow {C : Ctx} {ρ : Rho} {φ : St} {a : Act} {w : World} (R : RelAt C ρ φ a w) (id : Nat) (blk : Blk) (L : Loc) (hb : φ.heap id = .live blk) (hL : ρ id = some L)
    (nid : Nat) (hno : φ.heap nid = .no) (lo n m cap : Nat) (hlo : lo + n ≤ blk.n) (hcap : (lo + cap) * blk.sz ≤ L.e) (hnm : n + m ≤ cap)
    (vs : List Value) (ns : List CV) (hl : vs.length = ns.length) (hns : ns.length = m * blk.sz)
    (hr : ∀ (j : Nat) (c : CV), ns[j]? = some c → ∃ u : Value, vs[j]? = some u ∧ RV w C.Sh ρ φ.heap u c) :
    RelAt C (upd ρ nid (some ⟨L.b, L.o + lo * blk.sz, L.e - lo * blk.sz⟩))
      { φ with heap := upd (upd φ.heap id .dead) nid (.live ⟨blk.sz, n + m, (blk.cs.drop (lo * blk.sz)).take (n * blk.sz) ++ ns⟩) } a
      (w.setCells L.b (L.o + lo * blk.sz + n * blk.sz) vs) := by
  have hrb := R.hp.blk id blk hb
  unfold RB at hrb
  rw [hL] at hrb
  obtain ⟨q1, q2, q3, q4⟩ := hrb
  obtain ⟨p1, p2, p3⟩ := R.hp.own id blk L hb hL
  have hne : nid ≠ id := fun e => by rw [e, hb] at hno; cases hno
  have hk := R.k0_le hno
  have hle : ∀ i, HLe (φ.heap i) (ρ i) (upd (upd φ.heap id .dead) nid (.live ⟨blk.sz, n + m, (blk.cs.drop (lo * blk.sz)).take (n * blk.sz) ++ ns⟩) i) (upd ρ nid (some ⟨L.b, L.o + lo * blk.sz, L.e - lo * blk.sz⟩) i) := by
    intro i
    by_cases e : i = nid
    · subst e; rw [hno]; trivial
    · rw [upd_ne _ _ e, upd_ne _ _ e]
      by_cases e2 : i = id
      · subst e2; rw [hb, upd_same]; trivial
      · rw [upd_ne _ _ e2]; exact HLe.refl _ _
  obtain ⟨r1, r2, r3⟩ := rest_setCells L.b vs (L.o + lo * blk.sz + n * blk.sz) w
  have hsh : ∀ k, C.Sh k → (w.setCells L.b (L.o + lo * blk.sz + n * blk.sz) vs).heap[k]? = w.heap[k]? := fun k hk => heap_setCells_other _ _ _ _ _ (fun e => p2 (e ▸ hk))
  have hm1 : lo * blk.sz + n * blk.sz ≤ blk.cs.length := by rw [q1, ← Nat.add_mul]; exact Nat.mul_le_mul_right _ hlo
  have hm2 : lo * blk.sz + n * blk.sz + m * blk.sz ≤ L.e := by
    refine Nat.le_trans ?_ hcap
    rw [← Nat.add_mul, ← Nat.add_mul]
    exact Nat.mul_le_mul_right _ (by omega)
  refine R.at L.b nid ⟨p2, p3, by rw [size_setCells]; exact p1⟩ (fun k _ hk => heap_setCells_other _ _ _ _ _ hk) (by rw [size_setCells]; exact Nat.le_refl _) r1 r2 r3 hle (fun i hi => upd_ne _ _ (fun e => hk (e ▸ hi))) ?_ ?_
  · intro i b hi hni
    rw [upd_ne _ _ hni] at hi
    by_cases e : i = id
    · subst e; rw [upd_same] at hi; cases hi
    · rw [upd_ne _ _ e] at hi
      exact ⟨hi, upd_ne _ _ hni, fun L' hL' he => e (R.hp.inj i id b blk L' L hi hb hL' hL he)⟩
  · intro b hi
    rw [upd_same] at hi
    cases hi
    refine ⟨⟨_, upd_same _ _ _, rfl⟩, ?_⟩
    unfold RB
    rw [upd_same]
    have ht : ((blk.cs.drop (lo * blk.sz)).take (n * blk.sz)).length = n * blk.sz := by simp; omega
    refine ⟨by simp only [List.length_append, ht, hns, Nat.add_mul], by simp only [List.length_append, ht, hns]; omega, fun j hj => ?_, fun j c hc => ?_⟩
    · simp only at hj ⊢
      rw [show L.o + lo * blk.sz + j = L.o + (lo * blk.sz + j) by omega]
      exact ⟨isSome_setCells _ _ _ _ _ (q3 (lo * blk.sz + j) (by omega)).1, by rw [World.frozen?_setCells]; exact (q3 (lo * blk.sz + j) (by omega)).2⟩
    · simp only at hc ⊢
      by_cases hj : j < n * blk.sz
      · rw [List.getElem?_append_left (by omega), List.getElem?_take, if_pos hj, List.getElem?_drop] at hc
        obtain ⟨u, hu, hru⟩ := q4 _ c hc
        refine ⟨u, ?_, hru.mono hsh hle⟩
        rw [World.cell?_setCells_out L.b vs _ w _ (fun _ _ => by simp only; omega), Nat.add_assoc]
        exact hu
      · rw [List.getElem?_append_right (by omega), ht] at hc
        obtain ⟨u, hu, hru⟩ := hr (j - n * blk.sz) c hc
        obtain ⟨hlt, hget⟩ := List.getElem?_eq_some_iff.1 hu
        have := World.cell?_setCells_in L.b vs (L.o + lo * blk.sz + n * blk.sz) w (fun i hi => by
          rw [show L.o + lo * blk.sz + n * blk.sz + i = L.o + (lo * blk.sz + n * blk.sz + i) by omega]
          exact (q3 (lo * blk.sz + n * blk.sz + i) (by omega)).1) (j - n * blk.sz) hlt
        rw [show L.o + lo * blk.sz + n * blk.sz + (j - n * blk.sz) = L.o + lo * blk.sz + j by omega] at this
        exact ⟨u, by rw [this, hget], hru.mono hsh hle⟩

/-- A block is given up. -/
theorem RelAt.kill {C : Ctx} {ρ : Rho} {φ : St} {a : Act} {w : World} (R : RelAt C ρ φ a w) (id : Nat) (hno : φ.heap id ≠ .no) :
    RelAt C ρ { φ with heap := upd φ.heap id .dead } a w := by
  have hle : ∀ i, HLe (φ.heap i) (ρ i) (upd φ.heap id .dead i) (ρ i) := by
    intro i
    by_cases e : i = id
    · subst e
      rw [upd_same]
      cases h : φ.heap i with
      | no => exact absurd h hno
      | dead => trivial
      | live b => trivial
    · rw [upd_ne _ _ e]; exact HLe.refl _ _
  have hlv : ∀ i b, upd φ.heap id .dead i = .live b → φ.heap i = .live b := by
    intro i b h
    by_cases e : i = id
    · subst e; rw [upd_same] at h; cases h
    · rwa [upd_ne _ _ e] at h
  refine R.turn (fun _ _ => rfl) hle ⟨fun i b h => ?_, fun i b L h hL => R.hp.own i b L (hlv i b h) hL, fun i i' b b' L L' h h' => R.hp.inj i i' b b' L L' (hlv i b h) (hlv i' b' h')⟩ (fun _ _ => rfl) R.fr
  have hrb := R.hp.blk i b (hlv i b h)
  unfold RB at hrb ⊢
  cases hL : ρ i with
  | none => rw [hL] at hrb; exact hrb
  | some L =>
    rw [hL] at hrb
    obtain ⟨q1, q2, q3, q4⟩ := hrb
    exact ⟨q1, q2, q3, fun j c hc => by obtain ⟨u, hu, hr⟩ := q4 j c hc; exact ⟨u, hu, hr.mono (fun _ _ => rfl) hle⟩⟩

end Go.Fm
