import Derived.Test.YtkjjcpgickjidaaFm17
/-! Regions whose order is drawn: what is apart may stand in any order. -/
namespace Go.Fm
set_option linter.unusedVariables false
open Classical

/-- One place's value behind those of the first n writers that are picked. -/
def vAt {V : Type} (W : Nat → Option V) (p : Nat → Bool) (base : V) : Nat → V
  | 0 => base
  | n + 1 => if p n = true then (W n).getD (vAt W p base n) else vAt W p base n
theorem vAt_congr {V : Type} {W : Nat → Option V} {p q : Nat → Bool} {base : V} : ∀ {n : Nat}, (∀ j, j < n → W j ≠ none → p j = q j) → vAt W p base n = vAt W q base n
  | 0, _ => rfl
  | n + 1, h => by
    have ih := vAt_congr (n := n) (W := W) (p := p) (q := q) (base := base) (fun j hj => h j (by omega))
    simp only [vAt]
    cases hw : W n with
    | none => simp [ih]
    | some x =>
      have := h n (by omega) (by rw [hw]; simp)
      rw [this, ih]
theorem vAt_past {V : Type} {W : Nat → Option V} {p : Nat → Bool} {base : V} {i : Nat} : ∀ {n : Nat}, i ≤ n → (∀ j, i ≤ j → j < n → W j ≠ none → p j = false) → vAt W p base n = vAt W p base i
  | 0, hi, _ => by rw [Nat.le_zero.1 hi]
  | n + 1, hi, h => by
    by_cases he : i = n + 1
    · rw [he]
    · simp only [vAt]
      have ih := vAt_past (n := n) (W := W) (p := p) (base := base) (by omega : i ≤ n) (fun j h1 h2 => h j h1 (by omega))
      rw [ih]
      cases hw : W n with
      | none => simp
      | some x =>
        have := h n (by omega) (by omega) (by rw [hw]; simp)
        rw [this]
        simp
/-- What is read is as it was in the order of the text. -/
theorem vAt_read {V : Type} {W : Nat → Option V} {p : Nat → Bool} {base : V} {i n : Nat} (hi : i ≤ n) (h1 : ∀ j, j < i → W j ≠ none → p j = true) (h2 : ∀ j, i ≤ j → j < n → W j ≠ none → p j = false) :
    vAt W p base n = vAt W (fun _ => true) base i := by
  rw [vAt_past hi h2]
  exact vAt_congr fun j hj hw => h1 j hj hw
/-- One more is picked. -/
theorem vAt_pick {V : Type} {W : Nat → Option V} {p p' : Nat → Bool} {base : V} {i n : Nat} (hi : i < n) (hp' : ∀ j, p' j = if j = i then true else p j) (hpi : p i = false)
    (h2 : ∀ j, i < j → j < n → W i ≠ none → W j ≠ none → p j = false) : vAt W p' base n = (W i).getD (vAt W p base n) := by
  cases hw : W i with
  | none =>
    refine vAt_congr fun j hj hwj => ?_
    rw [hp']
    by_cases h : j = i
    · subst h; exact absurd hw hwj
    · simp [h]
  | some x =>
    rw [vAt_past (i := i + 1) hi (fun j h1 h3 hwj => by rw [hp']; simp only [show j ≠ i by omega, if_false]; exact h2 j (by omega) h3 (by rw [hw]; simp) hwj)]
    simp only [vAt]
    rw [hp' i, if_pos rfl, hw]
    simp

def hpOf : List (Nat × HS) → Nat → Option HS
  | [], _ => none
  | p :: r, id => match hpOf r id with
    | some h => some h
    | none => if p.1 = id then some p.2 else none
theorem heapOf_hpOf : ∀ (l : List (Nat × HS)) (h : Nat → HS) (id : Nat), heapOf h l id = (hpOf l id).getD (h id)
  | [], h, id => rfl
  | p :: r, h, id => by
    show heapOf (upd h p.1 p.2) r id = _
    rw [heapOf_hpOf r]
    simp only [hpOf]
    cases hr : hpOf r id with
    | some x => rfl
    | none =>
      simp only [Option.getD_none, upd]
      by_cases he : p.1 = id
      · simp [he]
      · simp [he, Ne.symm he]
theorem hpOf_mem : ∀ {l : List (Nat × HS)} {id : Nat}, hpOf l id ≠ none → id ∈ l.map (·.1)
  | [], id, h => absurd rfl h
  | p :: r, id, h => by
    simp only [hpOf] at h
    cases hr : hpOf r id with
    | some x => exact List.mem_cons_of_mem _ (hpOf_mem (by rw [hr]; simp))
    | none =>
      rw [hr] at h
      simp only at h
      split at h
      · rename_i he; rw [← he]; exact List.mem_cons_self ..
      · exact absurd rfl h
theorem mem_hpOf : ∀ {l : List (Nat × HS)} {p : Nat × HS}, p ∈ l → hpOf l p.1 ≠ none
  | q :: r, p, h => by
    simp only [hpOf]
    cases hr : hpOf r p.1 with
    | some x => simp
    | none =>
      rcases List.mem_cons.1 h with rfl | h
      · simp
      · exact absurd hr (mem_hpOf h)

/-! ### What stands ahead of what -/
def maskOf (acc : List Nat) (es : List Edge) : Nat := es.foldl (fun s e => if Region.binds .any e then s ||| 2 ^ e.on ||| acc.getD e.on 0 else s) 0
def preT : List Oper → List Nat → List Nat
  | [], acc => acc
  | o :: r, acc => preT r (acc ++ [maskOf acc o.after.toList])
def memS : Option Nat → List Nat → Bool
  | none, _ => false
  | some d, l => l.contains d
def anyIn : List Nat → List Nat → Bool
  | [], _ => false
  | x :: r, l => l.contains x || anyIn r l
def conf (ops : Array Oper) (o1 o2 : Oper) (f1 f2 : List Nat × List Nat) : Bool :=
  memS o1.dst (o2.looksAt ops) || memS o2.dst (o1.looksAt ops) || memS o1.dst o2.dst.toList || anyIn f1.2 f2.1 || anyIn f1.2 f2.2 || anyIn f2.2 f1.1
def downAll : List Oper → Nat → Bool
  | [], _ => true
  | o :: r, j => o.after.toList.all (fun e => !Region.binds .any e || Nat.blt e.on j) && downAll r (j + 1)
/-- All pairs with a given later one. -/
def rowOk (ops : Array Oper) (m : Nat) (o2 : Oper) (f2 : List Nat × List Nat) : List Oper → List (List Nat × List Nat) → Nat → Bool
  | o1 :: r, f1 :: fs, i => (Nat.testBit m i || !conf ops o1 o2 f1 f2) && rowOk ops m o2 f2 r fs (i + 1)
  | _, _, _ => true
def rowsOk (ops : Array Oper) (all : List Oper) (fa : List (List Nat × List Nat)) : List Oper → List (List Nat × List Nat) → List Nat → Nat → Bool
  | o2 :: r, f2 :: fs, m :: ms, j => rowOk ops m o2 f2 (all.take j) (fa.take j) 0 && rowsOk ops all fa r fs ms (j + 1)
  | _, _, _, _ => true
def drawOk (all : List Oper) (feet : Feet) : Bool :=
  downAll all 0 && rowsOk all.toArray all feet all feet (preT all []) 0

theorem anyIn_spec : ∀ {a b : List Nat}, anyIn a b = false → ∀ x ∈ a, x ∉ b
  | [], b, _, x, hx => by simp at hx
  | y :: r, b, h, x, hx => by
    simp only [anyIn, Bool.or_eq_false_iff] at h
    rcases List.mem_cons.1 hx with rfl | hx
    · simpa using h.1
    · exact anyIn_spec h.2 x hx
theorem memS_spec {d : Option Nat} {l : List Nat} (h : memS d l = false) : ∀ x, d = some x → x ∉ l := by
  intro x hx
  subst hx
  simpa [memS] using h
theorem downAll_get : ∀ {os : List Oper} {k : Nat}, downAll os k = true → ∀ j o, os[j]? = some o → ∀ e ∈ o.after, Region.binds .any e = true → e.on < k + j
  | [], k, _, j, o, ho => by simp at ho
  | o0 :: r, k, h, j, o, ho => by
    simp only [downAll, Bool.and_eq_true] at h
    cases j with
    | zero =>
      simp at ho
      subst ho
      intro e he hb
      have := List.all_eq_true.1 h.1 e (by simpa using he)
      rw [hb] at this
      simpa [Nat.blt_eq] using this
    | succ j =>
      intro e he hb
      have := downAll_get h.2 j o (by simpa using ho) e he hb
      omega
theorem rowOk_get {ops : Array Oper} {m : Nat} {o2 : Oper} {f2 : List Nat × List Nat} : ∀ {os : List Oper} {fs : List (List Nat × List Nat)} {k : Nat}, rowOk ops m o2 f2 os fs k = true →
    ∀ (i : Nat) (o1 : Oper) (f1 : List Nat × List Nat), os[i]? = some o1 → fs[i]? = some f1 → Nat.testBit m (k + i) = true ∨ conf ops o1 o2 f1 f2 = false
  | [], fs, k, _, i, o1, f1, ho, _ => by simp at ho
  | _ :: _, [], k, _, i, o1, f1, _, hf => by simp at hf
  | o0 :: r, f0 :: fs, k, h, i, o1, f1, ho, hf => by
    simp only [rowOk, Bool.and_eq_true, Bool.or_eq_true, Bool.not_eq_true'] at h
    cases i with
    | zero => simp at ho hf; subst ho; subst hf; exact h.1
    | succ i =>
      have := rowOk_get h.2 i o1 f1 (by simpa using ho) (by simpa using hf)
      rwa [show k + 1 + i = k + (i + 1) by omega] at this
theorem rowsOk_get {ops : Array Oper} {all : List Oper} {fa : List (List Nat × List Nat)} : ∀ {os : List Oper} {fs : List (List Nat × List Nat)} {ms : List Nat} {k : Nat}, rowsOk ops all fa os fs ms k = true →
    ∀ (j : Nat) (o2 : Oper) (f2 : List Nat × List Nat) (m : Nat), os[j]? = some o2 → fs[j]? = some f2 → ms[j]? = some m → rowOk ops m o2 f2 (all.take (k + j)) (fa.take (k + j)) 0 = true
  | [], _, _, k, _, j, o2, f2, m, ho, _, _ => by simp at ho
  | _ :: _, [], _, k, _, j, o2, f2, m, _, hf, _ => by simp at hf
  | _ :: _, _ :: _, [], k, _, j, o2, f2, m, _, _, hm => by simp at hm
  | o0 :: r, f0 :: fs, m0 :: ms, k, h, j, o2, f2, m, ho, hf, hm => by
    simp only [rowsOk, Bool.and_eq_true] at h
    cases j with
    | zero => simp at ho hf hm; subst ho; subst hf; subst hm; exact h.1
    | succ j =>
      have := rowsOk_get h.2 j o2 f2 m (by simpa using ho) (by simpa using hf) (by simpa using hm)
      rwa [show k + 1 + j = k + (j + 1) by omega] at this

theorem testBit_maskOf {acc : List Nat} {i : Nat} : ∀ (es : List Edge) (s : Nat), Nat.testBit (es.foldl (fun s e => if Region.binds .any e then s ||| 2 ^ e.on ||| acc.getD e.on 0 else s) s) i = true →
    Nat.testBit s i = true ∨ ∃ e ∈ es, Region.binds .any e = true ∧ (e.on = i ∨ Nat.testBit (acc.getD e.on 0) i = true)
  | [], s, h => .inl h
  | e :: r, s, h => by
    rw [List.foldl_cons] at h
    rcases testBit_maskOf r _ h with h | ⟨e', he, hb⟩
    · split at h
      · rename_i hb
        simp only [Nat.testBit_or, Bool.or_eq_true, Nat.testBit_two_pow, decide_eq_true_eq] at h
        rcases h with (h | h) | h
        · exact .inl h
        · exact .inr ⟨e, List.mem_cons_self .., hb, .inl h⟩
        · exact .inr ⟨e, List.mem_cons_self .., hb, .inr h⟩
      · exact .inl h
    · exact .inr ⟨e', List.mem_cons_of_mem _ he, hb⟩

/-- Each mask tells of what a closed set has with its operation. -/
theorem preT_sound {all : List Oper} {p : Nat → Bool} (hcl : ∀ j o, all[j]? = some o → p j = true → ∀ e ∈ o.after, Region.binds .any e = true → p e.on = true) :
    ∀ (os : List Oper) (acc : List Nat), all.drop acc.length = os → (∀ j m, acc[j]? = some m → p j = true → ∀ i, Nat.testBit m i = true → p i = true) →
      ∀ j m, (preT os acc)[j]? = some m → p j = true → ∀ i, Nat.testBit m i = true → p i = true
  | [], acc, _, h => h
  | o :: r, acc, hd, h => by
    have ho : all[acc.length]? = some o := by
      have : (all.drop acc.length)[0]? = some o := by rw [hd]; rfl
      simpa [List.getElem?_drop] using this
    refine preT_sound hcl r _ (by rw [List.length_append, ← List.drop_drop, hd]; rfl) (fun j m hm hpj i hi => ?_)
    by_cases hj : j < acc.length
    · rw [List.getElem?_append_left hj] at hm
      exact h j m hm hpj i hi
    · have hjl := (List.getElem?_eq_some_iff.1 hm).1
      have hje : j = acc.length := by simp at hjl; omega
      subst hje
      rw [List.getElem?_append_right (Nat.le_refl _)] at hm
      simp only [Nat.sub_self, List.getElem?_cons_zero, Option.some.injEq] at hm
      subst hm
      rcases testBit_maskOf _ _ hi with h0 | ⟨e, he, hb, h0⟩
      · simp at h0
      · have hpe := hcl _ o ho hpj e (by simpa using he) hb
        rcases h0 with h0 | h0
        · rw [← h0]; exact hpe
        · cases hg : acc[e.on]? with
          | none => simp [hg] at h0
          | some m' => exact h e.on m' hg hpe i (by simpa [hg] using h0)

theorem preT_length : ∀ (os : List Oper) (acc : List Nat), (preT os acc).length = acc.length + os.length
  | [], acc => by simp [preT]
  | o :: r, acc => by simp [preT, preT_length r]; omega

/-- How many are not listed yet. -/
def unl (p : Nat → Bool) : Nat → Nat
  | 0 => 0
  | n + 1 => unl p n + (if p n then 0 else 1)
theorem unl_zero {p : Nat → Bool} : ∀ {n : Nat}, unl p n = 0 → ∀ j, j < n → p j = true
  | 0, _, j, hj => by omega
  | n + 1, h, j, hj => by
    simp only [unl] at h
    by_cases hn : p n = true
    · by_cases he : j = n
      · rw [he]; exact hn
      · exact unl_zero (n := n) (by omega) j (by omega)
    · simp [hn] at h
theorem unl_le {p q : Nat → Bool} (h : ∀ j, p j = true → q j = true) : ∀ n, unl q n ≤ unl p n
  | 0 => Nat.le_refl _
  | n + 1 => by
    have := unl_le h n
    simp only [unl]
    by_cases hp : p n = true
    · simp [hp, h n hp]; exact this
    · by_cases hq : q n = true
      · simp [hp, hq]; omega
      · simp [hp, hq]; exact this
theorem unl_lt {p q : Nat → Bool} (h : ∀ j, p j = true → q j = true) {i : Nat} (hp : p i = false) (hq : q i = true) : ∀ {n : Nat}, i < n → unl q n < unl p n
  | 0, hi => by omega
  | n + 1, hi => by
    simp only [unl]
    by_cases he : i = n
    · subst he
      have := unl_le h i
      simp [hp, hq]; omega
    · have := unl_lt h hp hq (n := n) (by omega)
      by_cases hpn : p n = true
      · simp [hpn, h n hpn]; exact this
      · by_cases hqn : q n = true
        · simp [hpn, hqn]; omega
        · simp [hpn, hqn]; exact this

end Go.Fm
