import Derived.Test.YtigaffddnidkpaaMF
import Derived.Test.YtigaffddnidkpaaGD
/-! Plain facts of the operations. -/
namespace Go.Fm
theorem wI64 {x : Int} (h1 : -9223372036854775808 ≤ x) (h2 : x < 9223372036854775808) : IntKind.wrap .i64 x = x := by
  simp [IntKind.wrap, IntKind.bits, IntKind.signed]; omega
theorem wI32 {x : Int} (h1 : -2147483648 ≤ x) (h2 : x < 2147483648) : IntKind.wrap .i32 x = x := by
  simp [IntKind.wrap, IntKind.bits, IntKind.signed]; omega
theorem wU32 {x : Int} (h1 : 0 ≤ x) (h2 : x < 4294967296) : IntKind.wrap .u32 x = x := by
  simp [IntKind.wrap, IntKind.bits, IntKind.signed]; omega
theorem wU64 {x : Int} (h1 : 0 ≤ x) (h2 : x < 18446744073709551616) : IntKind.wrap .u64 x = x := by
  simp [IntKind.wrap, IntKind.bits, IntKind.signed]; omega
theorem wU32_bd (x : Int) : 0 ≤ IntKind.wrap .u32 x ∧ IntKind.wrap .u32 x < 4294967296 := by
  simp [IntKind.wrap, IntKind.bits, IntKind.signed]; omega
theorem wI32_bd (x : Int) : -2147483648 ≤ IntKind.wrap .i32 x ∧ IntKind.wrap .i32 x < 2147483648 := by
  simp [IntKind.wrap, IntKind.bits, IntKind.signed]; omega
theorem wI64_bd (x : Int) : -9223372036854775808 ≤ IntKind.wrap .i64 x ∧ IntKind.wrap .i64 x < 9223372036854775808 := by
  simp [IntKind.wrap, IntKind.bits, IntKind.signed]; omega
theorem getI_ex {α : Type} {xs : List α} {i : Int} (h0 : 0 ≤ i) (h1 : i < xs.length) : ∃ x, getI xs i = some x ∧ x ∈ xs ∧ xs[i.toNat]? = some x := by
  have hi : i.toNat < xs.length := by omega
  unfold getI
  rw [if_pos h0, List.getElem?_eq_getElem hi]
  exact ⟨_, rfl, List.getElem_mem hi, rfl⟩
theorem getI_nat {α : Type} {xs : List α} {i : Nat} : getI xs (i : Int) = xs[i]? := by
  unfold getI; rw [if_pos (Int.natCast_nonneg i)]; rfl
theorem idxS_ex {l : List UInt8} {i : Int} (h0 : 0 ≤ i) (h1 : i < l.length) : ∃ v, idxS l i = some v ∧ 0 ≤ v ∧ v < 256 ∧ ∃ b ∈ l, v = (b.toNat : Int) := by
  unfold idxS
  rw [if_pos ⟨h0, h1⟩]
  have hi : i.toNat < l.length := by omega
  refine ⟨_, rfl, Int.natCast_nonneg _, ?_, l[i.toNat], List.getElem_mem hi, ?_⟩
  · have := UInt8.toNat_lt (l.getD i.toNat 0); omega
  · rw [List.getD_eq_getElem?_getD, List.getElem?_eq_getElem hi]; rfl
theorem app_eq {α : Type} {xs ys : List α} (h : xs.length + ys.length ≤ 4294967296) : app xs ys = some (xs ++ ys) := by
  unfold app
  rw [if_pos (by rw [List.length_append]; exact h)]
theorem subL_eq {α : Type} {xs : List α} {a b : Int} (h0 : 0 ≤ a) (h1 : a ≤ b) (h2 : b ≤ xs.length) : subL xs a b = some ((xs.drop a.toNat).take (b.toNat - a.toNat)) := by
  unfold subL; rw [if_pos ⟨h0, h1, h2⟩]
theorem subL_drop {α : Type} {xs : List α} {a : Int} (h0 : 0 ≤ a) (h2 : a ≤ xs.length) : subL xs a xs.length = some (xs.drop a.toNat) := by
  rw [subL_eq h0 h2 (Int.le_refl _), List.take_of_length_le]
  rw [List.length_drop]; omega
theorem subL_take {α : Type} {xs : List α} {b : Int} (h0 : 0 ≤ b) (h2 : b ≤ xs.length) : subL xs 0 b = some (xs.take b.toNat) := by
  rw [subL_eq (Int.le_refl _) h0 h2]; rfl
theorem mk_eq {α : Type} {z : α} {n : Int} (h0 : 0 ≤ n) (h1 : n ≤ 4294967296) : mk z n = some (List.replicate n.toNat z) := by
  unfold mk; rw [if_pos ⟨h0, h1⟩]
theorem catS_eq {a b : List UInt8} (h : a.length + b.length < 4611686018427387904) : catS a b = some (a ++ b) := by
  unfold catS; rw [if_pos h]
theorem remI_ex {k : IntKind} {a b : Int} (h0 : 0 ≤ a) (hb : 0 < b) : remI k a b = some (a % b) ∧ 0 ≤ a % b ∧ a % b < b := by
  unfold remI
  rw [if_neg (by omega), Int.tmod_eq_emod_of_nonneg h0]
  exact ⟨rfl, Int.emod_nonneg _ (by omega), Int.emod_lt_of_pos _ hb⟩
theorem bB_toNat {k : IntKind} {a : Int} (h0 : 0 ≤ a) (h1 : a < 2 ^ k.bits) : (bytesB k a).toNat = a.toNat := by
  unfold bytesB
  rw [BitVec.toNat_ofInt, Int.emod_eq_of_lt h0]
  simpa using h1
theorem wrap_small {k : IntKind} {n : Nat} (h : n < 2 ^ (k.bits - 1)) : k.wrap n = n := by
  unfold IntKind.wrap
  have hb : 2 ^ (k.bits - 1) ≤ 2 ^ k.bits := Nat.pow_le_pow_right (by decide) (Nat.sub_le _ _)
  have h1 : (n : Int) < ((2 ^ k.bits : Nat) : Int) := Int.ofNat_lt.2 (Nat.lt_of_lt_of_le h hb)
  have h2 : (n : Int) < ((2 ^ (k.bits - 1) : Nat) : Int) := Int.ofNat_lt.2 h
  simp only [Int.natCast_pow, Int.cast_ofNat_Int] at h1 h2
  have e : (n : Int) % (2 ^ k.bits : Int) = n := Int.emod_eq_of_lt (Int.natCast_nonneg _) h1
  simp only [e]
  rw [if_neg]
  intro hc
  rw [Bool.and_eq_true, decide_eq_true_eq] at hc
  have h3 := hc.2
  omega
/-- What is masked by a small number is no greater. -/
theorem and_le {k : IntKind} {a b : Int} (h0 : 0 ≤ b) (h1 : b < 2 ^ (k.bits - 1)) : 0 ≤ andI k a b ∧ andI k a b ≤ b := by
  unfold andI
  have hb : (bytesB k b).toNat = b.toNat := bB_toNat h0 (Int.lt_of_lt_of_le h1 (by
    have : ((2 ^ (k.bits - 1) : Nat) : Int) ≤ ((2 ^ k.bits : Nat) : Int) := Int.ofNat_le.2 (Nat.pow_le_pow_right (by decide) (Nat.sub_le _ _))
    simpa only [Int.natCast_pow, Int.cast_ofNat_Int] using this))
  have hle : (bytesB k a &&& bytesB k b).toNat ≤ b.toNat := by
    rw [BitVec.toNat_and, hb]; exact Nat.and_le_right
  have hlt : (bytesB k a &&& bytesB k b).toNat < 2 ^ (k.bits - 1) := by
    refine Nat.lt_of_le_of_lt hle ?_
    have : (b.toNat : Int) < ((2 ^ (k.bits - 1) : Nat) : Int) := by rw [Int.toNat_of_nonneg h0]; simpa only [Int.natCast_pow, Int.cast_ofNat_Int] using h1
    exact Int.ofNat_lt.1 this
  rw [wrap_small hlt]
  omega
/-- It answers, and so. -/
def Tot {α : Type} (o : Option α) (Q : α → Prop) : Prop := ∃ a, o = some a ∧ Q a
section
variable {α β : Type} {Q Q' : α → Prop} {R : β → Prop}
theorem Tot.some {a : α} (h : Q a) : Tot (some a) Q := ⟨a, rfl, h⟩
theorem Tot.bind {o : Option α} {f : α → Option β} (h : Tot o Q) (hf : ∀ a, Q a → Tot (f a) R) : Tot (o.bind f) R := by
  obtain ⟨a, rfl, ha⟩ := h; exact hf a ha
theorem Tot.bindE {o : Option α} {f : α → Option β} {a : α} (h : o = .some a) (hf : Tot (f a) R) : Tot (o.bind f) R := by subst h; exact hf
theorem Tot.cond {c : Bool} {x y : Option α} (h1 : c = true → Tot x Q) (h2 : c = false → Tot y Q) : Tot (cond c x y) Q := by
  cases c with
  | true => exact h1 rfl
  | false => exact h2 rfl
theorem Tot.condD {p : Prop} [Decidable p] {x y : Option α} (h1 : p → Tot x Q) (h2 : ¬ p → Tot y Q) : Tot (_root_.cond (decide p) x y) Q :=
  .cond (fun h => h1 (of_decide_eq_true h)) (fun h => h2 (of_decide_eq_false h))
theorem Tot.mono {o : Option α} (h : Tot o Q) (hq : ∀ a, Q a → Q' a) : Tot o Q' := by obtain ⟨a, e, ha⟩ := h; exact ⟨a, e, hq a ha⟩
end
end Go.Fm

/-! Loops that copy, compare, mark and look at marks. -/
namespace Go.Fm
set_option linter.unusedVariables false
set_option linter.unusedSimpArgs false
theorem eqLoop {α : Type} [BEq α] [LawfulBEq α] [DecidableEq α] {a b : List α} (F : Nat → Int → Option (Unit ⊕ Unit))
    (hs : ∀ k i, F (k + 1) i = cond (decide (i < (a.length : Int))) ((getI a i).bind fun x => (getI b i).bind fun y => cond (x != y) (some (.inr ())) (F k (IntKind.wrap .i64 (i + 1)))) (some (.inl ())))
    (hl : a.length = b.length) (hm : a.length ≤ 16777216) : F bigK 0 = some (if a = b then .inl () else .inr ()) := by
  have key : ∀ (k n : Nat), n ≤ a.length → a.length - n < k → F k n = some (if a.drop n = b.drop n then .inl () else .inr ()) := by
    intro k
    induction k with
    | zero => intro n h0 h1; omega
    | succ k ih =>
      intro n h0 h1
      rw [hs]
      by_cases hn : n < a.length
      · have hn' : n < b.length := by omega
        rw [decide_eq_true (by omega), getI_nat, getI_nat, List.getElem?_eq_getElem hn, List.getElem?_eq_getElem hn', List.drop_eq_getElem_cons hn, List.drop_eq_getElem_cons hn']
        simp only [cond_true, Option.bind_some]
        by_cases he : a[n] = b[n]
        · have : (a[n] != b[n]) = false := by rw [he]; simp
          rw [this, cond_false, wI64 (by omega) (by omega), show ((n : Int) + 1) = ((n + 1 : Nat) : Int) by omega, ih (n + 1) (by omega) (by omega), he]
          simp only [List.cons.injEq, true_and]
        · have : (a[n] != b[n]) = true := by simpa using he
          rw [this, cond_true, if_neg (fun h => he (List.cons.inj h).1)]
      · rw [decide_eq_false (by omega), cond_false, List.drop_eq_nil_of_le (by omega), List.drop_eq_nil_of_le (by omega), if_pos rfl]
  have h := key bigK 0 (Nat.zero_le _) (by unfold bigK; omega)
  rw [Int.natCast_zero] at h
  rw [h, List.drop_zero, List.drop_zero]
/-- A whole comparison. -/
theorem eqList {α : Type} [BEq α] [LawfulBEq α] [DecidableEq α] {a b : List α} (F : Nat → Int → Option (Unit ⊕ Unit)) (f : Option Bool)
    (hf : f = cond ((a.length : Int) != (b.length : Int)) (some false) (((F bigK 0).bind fun o => match o with | .inl () => some (.inl ()) | .inr () => some (.inr ()) : Option (Unit ⊕ Unit)).bind fun o => match o with | .inl () => some true | .inr () => some false))
    (hs : ∀ k i, F (k + 1) i = cond (decide (i < (a.length : Int))) ((getI a i).bind fun x => (getI b i).bind fun y => cond (x != y) (some (.inr ())) (F k (IntKind.wrap .i64 (i + 1)))) (some (.inl ())))
    (hm : a.length ≤ 16777216) : f = some (decide (a = b)) := by
  rw [hf]
  by_cases hl : a.length = b.length
  · have : ((a.length : Int) != (b.length : Int)) = false := by rw [hl]; simp
    rw [this, cond_false, eqLoop F hs hl hm]
    by_cases he : a = b
    · rw [if_pos he, decide_eq_true he]; rfl
    · rw [if_neg he, decide_eq_false he]; rfl
  · have : ((a.length : Int) != (b.length : Int)) = true := by simp; omega
    rw [this, cond_true, decide_eq_false (fun h => hl (by rw [h]))]
theorem copyLoop {α : Type} {a : List α} (F : Nat → List α → Int → Option (List α))
    (hs : ∀ k out i, F (k + 1) out i = cond (decide (i < (a.length : Int))) ((getI a i).bind fun x => (getI out i).bind fun _ => F k (out.set i.toNat x) (IntKind.wrap .i64 (i + 1))) (some out))
    (hm : a.length ≤ 16777216) {z : List α} (hz : z.length = a.length) : F bigK z 0 = some a := by
  have key : ∀ (k n : Nat) (rest : List α), n ≤ a.length → a.length - n < k → rest.length = a.length - n → F k (a.take n ++ rest) n = some a := by
    intro k
    induction k with
    | zero => intro n rest h0 h1; omega
    | succ k ih =>
      intro n rest h0 h1 h2
      rw [hs]
      by_cases hn : n < a.length
      · cases rest with
        | nil => simp at h2; omega
        | cons x r =>
          have hl : (a.take n).length = n := by rw [List.length_take]; omega
          have hg : (a.take n ++ x :: r)[n]? = some x := by rw [List.getElem?_append_right (by omega), hl, Nat.sub_self]; rfl
          have hset : (a.take n ++ x :: r).set n a[n] = a.take (n + 1) ++ r := by
            rw [List.set_append_right _ _ (by omega), hl, Nat.sub_self, List.set_cons_zero, List.take_succ_eq_append_getElem hn, List.append_assoc]; rfl
          rw [decide_eq_true (by omega), getI_nat, getI_nat, List.getElem?_eq_getElem hn, hg]
          simp only [cond_true, Option.bind_some, Int.toNat_natCast]
          rw [hset, wI64 (by omega) (by omega), show ((n : Int) + 1) = ((n + 1 : Nat) : Int) by omega]
          exact ih (n + 1) r (by omega) (by omega) (by simp at h2; omega)
      · have : n = a.length := by omega
        subst this
        have : rest = [] := List.eq_nil_of_length_eq_zero (by omega)
        subst this
        rw [decide_eq_false (by omega), cond_false, List.take_length, List.append_nil]
  have h := key bigK 0 z (Nat.zero_le _) (by unfold bigK; omega) (by omega)
  rw [Int.natCast_zero, List.take_zero, List.nil_append] at h
  exact h
def iotaM {β : Type} (val : Int → β) : Nat → Nat → List β
  | _, 0 => []
  | k, n + 1 => val k :: iotaM val (k + 1) n
theorem iotaM_len {β : Type} (val : Int → β) : ∀ (n k : Nat), (iotaM val k n).length = n
  | 0, k => rfl
  | n + 1, k => by rw [iotaM, List.length_cons, iotaM_len val n]
theorem markLoop {β : Type} (val : Int → β) (F : Nat → List β → Int → Int → Option (List β × Int)) (N : Nat)
    (hs : ∀ (k : Nat) (a : List β) (kk n : Nat), n < a.length → a.length ≤ 16777216 → kk ≤ N → F (k + 1) a kk n = F k (a.set n (val kk)) ((kk + 1 : Nat) : Int) ((n + 1 : Nat) : Int))
    (he : ∀ (k : Nat) (a : List β) (kk n : Nat), a.length ≤ n → F (k + 1) a kk n = some (a, (kk : Int))) :
    ∀ (k : Nat) (done rest : List β) (kk : Nat), kk + rest.length ≤ N → done.length + rest.length ≤ 16777216 → rest.length < k → F k (done ++ rest) kk done.length = some (done ++ iotaM val kk rest.length, ((kk + rest.length : Nat) : Int)) := by
  intro k
  induction k with
  | zero => intro done rest kk h0 h1 h2; omega
  | succ k ih =>
    intro done rest kk h0 h1 h2
    cases rest with
    | nil => rw [he _ _ _ _ (by simp)]; simp [iotaM]
    | cons x r =>
      simp only [List.length_cons] at h0 h1 h2
      rw [hs _ _ _ _ (by simp) (by simp; omega) (by omega), List.set_append_right _ _ (Nat.le_refl _), Nat.sub_self, List.set_cons_zero]
      have := ih (done ++ [val kk]) r (kk + 1) (by omega) (by simp; omega) (by omega)
      simp only [List.append_assoc, List.singleton_append, List.length_append, List.length_singleton] at this
      rw [this]
      simp only [iotaM, List.length_cons]
      congr 3
      omega
theorem heldLoop {β : Type} (val : Int → β) {L : List β} (F : Nat → Int → Int → Option (Int ⊕ Unit)) (N : Nat)
    (hs : ∀ (k kk n : Nat) (h : n < L.length), kk ≤ N → L[n] = val kk → F (k + 1) kk n = F k ((kk + 1 : Nat) : Int) ((n + 1 : Nat) : Int))
    (he : ∀ (k kk n : Nat), L.length ≤ n → F (k + 1) kk n = some (.inl (kk : Int))) :
    ∀ (k : Nat) (done : List β) (kk m : Nat), L = done ++ iotaM val kk m → kk + m ≤ N → m < k → F k kk done.length = some (.inl ((kk + m : Nat) : Int)) := by
  intro k
  induction k with
  | zero => intro done kk m h0 h1 h2; omega
  | succ k ih =>
    intro done kk m h0 h1 h2
    cases m with
    | zero => rw [he _ _ _ (by rw [h0]; simp [iotaM])]; rfl
    | succ m =>
      have hl : done.length < L.length := by rw [h0]; simp [iotaM]
      have hg : L[done.length] = val kk := by
        have : L[done.length]? = some (val kk) := by rw [h0, List.getElem?_append_right (Nat.le_refl _), Nat.sub_self]; rfl
        rw [List.getElem?_eq_getElem hl] at this
        exact Option.some.inj this
      rw [hs _ _ _ hl (by omega) hg]
      have := ih (done ++ [val kk]) (kk + 1) m (by rw [h0, List.append_assoc]; rfl) (by omega) (by omega)
      rw [List.length_append, List.length_singleton] at this
      rw [this]
      congr 3
      omega
end Go.Fm

/-! How much two lists have in common, by plain recursion. -/
namespace Go.Fm
set_option linter.unusedVariables false
set_option linter.unusedSimpArgs false
section
variable {α : Type} [DecidableEq α]
def lcs : List α → List α → Nat
  | [], _ => 0
  | _ :: _, [] => 0
  | x :: xs, y :: ys => if x = y then lcs xs ys + 1 else max (lcs xs (y :: ys)) (lcs (x :: xs) ys)
termination_by a b => a.length + b.length
theorem lcs_nil (b : List α) : lcs [] b = 0 := by rw [lcs]
theorem lcs_nilR : ∀ a : List α, lcs a [] = 0
  | [] => by rw [lcs]
  | _ :: _ => by rw [lcs]
theorem lcs_cons (x y : α) (xs ys : List α) : lcs (x :: xs) (y :: ys) = if x = y then lcs xs ys + 1 else max (lcs xs (y :: ys)) (lcs (x :: xs) ys) := by rw [lcs]
theorem lcs_ex : ∀ (n : Nat) (a b : List α), a.length + b.length ≤ n → ∃ l : List α, l.Sublist a ∧ l.Sublist b ∧ l.length = lcs a b
  | n, [], b, _ => ⟨[], List.Sublist.refl _, List.nil_sublist _, by rw [lcs_nil]; rfl⟩
  | n, x :: xs, [], _ => ⟨[], List.nil_sublist _, List.Sublist.refl _, by rw [lcs_nilR]; rfl⟩
  | 0, x :: xs, y :: ys, h => by simp at h
  | n + 1, x :: xs, y :: ys, h => by
    simp only [List.length_cons] at h
    rw [lcs_cons]
    by_cases e : x = y
    · obtain ⟨l, h1, h2, h3⟩ := lcs_ex n xs ys (by omega)
      subst e
      exact ⟨x :: l, h1.cons_cons x, h2.cons_cons x, by rw [if_pos rfl, List.length_cons, h3]⟩
    · rw [if_neg e]
      obtain ⟨l, h1, h2, h3⟩ := lcs_ex n xs (y :: ys) (by simp only [List.length_cons]; omega)
      obtain ⟨m, g1, g2, g3⟩ := lcs_ex n (x :: xs) ys (by simp only [List.length_cons]; omega)
      by_cases hm : lcs xs (y :: ys) ≤ lcs (x :: xs) ys
      · exact ⟨m, g1, g2.cons y, by rw [g3, Nat.max_eq_right hm]⟩
      · exact ⟨l, h1.cons x, h2, by rw [h3, Nat.max_eq_left (by omega)]⟩
omit [DecidableEq α] in
theorem sub_tail {l xs : List α} {x : α} (h : l.Sublist (x :: xs)) : l.tail.Sublist xs := by
  cases h with
  | cons _ h => exact (List.tail_sublist l).trans h
  | cons_cons _ h => exact h
omit [DecidableEq α] in
theorem sub_ne {l xs ys : List α} {x y : α} (hne : x ≠ y) (h : l.Sublist (x :: xs)) (g : l.Sublist (y :: ys)) : l.Sublist xs ∨ l.Sublist ys := by
  cases h with
  | cons _ h => exact .inl h
  | cons_cons _ h =>
    cases g with
    | cons _ g => exact .inr g
    | cons_cons _ g => exact absurd rfl hne
theorem lcs_max : ∀ (n : Nat) (a b : List α), a.length + b.length ≤ n → ∀ l : List α, l.Sublist a → l.Sublist b → l.length ≤ lcs a b
  | n, [], b, _, l, h, _ => by rw [List.sublist_nil.1 h]; exact Nat.zero_le _
  | n, x :: xs, [], _, l, _, h => by rw [List.sublist_nil.1 h]; exact Nat.zero_le _
  | 0, x :: xs, y :: ys, h, _, _, _ => by simp at h
  | n + 1, x :: xs, y :: ys, h, l, h1, h2 => by
    simp only [List.length_cons] at h
    rw [lcs_cons]
    by_cases e : x = y
    · rw [if_pos e]
      have := lcs_max n xs ys (by omega) l.tail (sub_tail h1) (sub_tail h2)
      rw [List.length_tail] at this
      omega
    · rw [if_neg e]
      rcases sub_ne e h1 h2 with g | g
      · have := lcs_max n xs (y :: ys) (by simp only [List.length_cons]; omega) l g h2
        omega
      · have := lcs_max n (x :: xs) ys (by simp only [List.length_cons]; omega) l h1 g
        omega
theorem lcs_le_of {a b a' b' : List α} (h : ∀ l : List α, l.Sublist a → l.Sublist b → ∃ m : List α, m.length = l.length ∧ m.Sublist a' ∧ m.Sublist b') : lcs a b ≤ lcs a' b' := by
  obtain ⟨l, h1, h2, h3⟩ := lcs_ex _ a b (Nat.le_refl _)
  obtain ⟨m, g1, g2, g3⟩ := h l h1 h2
  rw [← h3, ← g1]
  exact lcs_max _ a' b' (Nat.le_refl _) m g2 g3
theorem lcs_comm (a b : List α) : lcs a b = lcs b a :=
  Nat.le_antisymm (lcs_le_of fun l h1 h2 => ⟨l, rfl, h2, h1⟩) (lcs_le_of fun l h1 h2 => ⟨l, rfl, h2, h1⟩)
theorem lcs_rev (a b : List α) : lcs a.reverse b.reverse = lcs a b :=
  Nat.le_antisymm (lcs_le_of fun l h1 h2 => ⟨l.reverse, List.length_reverse, by have := h1.reverse; rwa [List.reverse_reverse] at this, by have := h2.reverse; rwa [List.reverse_reverse] at this⟩)
    (lcs_le_of fun l h1 h2 => ⟨l.reverse, List.length_reverse, h1.reverse, h2.reverse⟩)
theorem lcs_leL (a b : List α) : lcs a b ≤ a.length := by
  obtain ⟨l, h1, h2, h3⟩ := lcs_ex _ a b (Nat.le_refl _)
  rw [← h3]; exact h1.length_le
theorem lcs_leR (a b : List α) : lcs a b ≤ b.length := by rw [lcs_comm]; exact lcs_leL b a
theorem lcs_self (a : List α) : lcs a a = a.length :=
  Nat.le_antisymm (lcs_leL a a) (lcs_max _ a a (Nat.le_refl _) a (List.Sublist.refl _) (List.Sublist.refl _))
end
end Go.Fm

/-! The implementation's count and the reference's table: both are lcs. -/
namespace Go.Proofs.Ytigaffddnidkpaa
open Go Go.Fm
set_option linter.unusedVariables false
set_option linter.unusedSimpArgs false
theorem itemEq (x y : GItem) : ((x.Kind : Int) == y.Kind && ((x.Name : Bs) == y.Name && ((x.N : Int) == y.N && ((x.Hex : Bool) == y.Hex && ((x.Raw : Int) == y.Raw && true))))) = decide (x = y) := by
  obtain ⟨a1, a2, a3, a4, a5⟩ := x
  obtain ⟨b1, b2, b3, b4, b5⟩ := y
  rw [Bool.eq_iff_iff]
  simp
theorem maxI_eq {a b : Nat} : maxI (a : Int) (b : Int) = ((max a b : Nat) : Int) := by
  unfold maxI
  omega
theorem getI_le {α : Type} {xs : List α} {i : Nat} {x : α} (h : xs[i]? = some x) : getI xs (i : Int) = some x := by rw [getI_nat]; exact h
theorem w1 {n : Nat} (h : n ≤ 1048576) : IntKind.wrap .i64 ((n : Int) + 1) = ((n + 1 : Nat) : Int) := by rw [wI64 (by omega) (by omega)]; omega
theorem take_rev {α : Type} {a : List α} {i : Nat} (h : i < a.length) : (a.take (i + 1)).reverse = a[i] :: (a.take i).reverse := by
  rw [List.take_succ_eq_append_getElem h, List.reverse_append]
  rfl
/-- A row of the implementation. -/
def Rw (A b : List GItem) (n : Nat) (r : List Int) : Prop := r.length = b.length + 1 ∧ ∀ k, k ≤ n → r[k]? = some ((lcs A (b.take k).reverse : Nat) : Int)
theorem in_ok {A b : List GItem} {x : GItem} {row : List Int} (hb : b.length ≤ 64) (hA : A.length ≤ 64) (hr : Rw A b b.length row) : ∀ (k n : Nat) (next : List Int), n ≤ b.length → b.length - n < k → Rw (x :: A) b n next →
    ∃ r, g_impl_common_l1 b row x k next (n : Int) = some r ∧ Rw (x :: A) b b.length r := by
  intro k
  induction k with
  | zero => intro n next h0 h1; omega
  | succ k ih =>
    intro n next h0 h1 hn
    rw [g_impl_common_l1]
    by_cases hlt : n < b.length
    · have e1 := getI_nat (xs := b) (i := n)
      rw [List.getElem?_eq_getElem hlt] at e1
      have e2 := getI_le (hn.2 n (Nat.le_refl _))
      have e3 := getI_le (hr.2 (n + 1) (by omega))
      have e4 := getI_le (hr.2 n (by omega))
      have l1 : n + 1 < next.length := by rw [hn.1]; omega
      have e5 := getI_nat (xs := next) (i := n + 1)
      rw [List.getElem?_eq_getElem l1] at e5
      have hw := w1 (n := n) (by omega)
      have hT := lcs_cons x b[n] A (b.take n).reverse
      rw [← take_rev hlt] at hT
      have hle := lcs_leL A (b.take n).reverse
      rw [decide_eq_true (by omega), cond_true, e1, hw, e2, e3, e5]
      simp only [Option.bind_some]
      rw [itemEq]
      by_cases he : x = b[n]
      · rw [decide_eq_true he, cond_true, e4]
        simp only [Option.bind_some]
        have e6 := getI_nat (xs := next.set ((n + 1 : Nat) : Int).toNat (maxI ((lcs (x :: A) (b.take n).reverse : Nat) : Int) ((lcs A (b.take (n + 1)).reverse : Nat) : Int))) (i := n + 1)
        rw [List.getElem?_eq_getElem (by rw [List.length_set]; exact l1)] at e6
        rw [e6]
        simp only [Option.bind_some]
        rw [Int.toNat_natCast, List.set_set, w1 (by omega)]
        refine ih (n + 1) _ (by omega) (by omega) ⟨by rw [List.length_set]; exact hn.1, fun j hj => ?_⟩
        by_cases hj1 : j = n + 1
        · subst hj1
          rw [List.getElem?_set_self l1, hT, if_pos he]
        · rw [List.getElem?_set_ne (fun e => hj1 e.symm)]
          exact hn.2 j (by omega)
      · rw [decide_eq_false he, cond_false]
        simp only [Option.bind_some]
        rw [Int.toNat_natCast, maxI_eq]
        refine ih (n + 1) _ (by omega) (by omega) ⟨by rw [List.length_set]; exact hn.1, fun j hj => ?_⟩
        by_cases hj1 : j = n + 1
        · subst hj1
          rw [List.getElem?_set_self l1, hT, if_neg he, Nat.max_comm]
        · rw [List.getElem?_set_ne (fun e => hj1 e.symm)]
          exact hn.2 j (by omega)
    · rw [decide_eq_false (by omega), cond_false]
      have : n = b.length := by omega
      subst this
      exact ⟨next, rfl, hn⟩
theorem zero_row {A b : List GItem} {z : List Int} (hz : z = List.replicate (b.length + 1) 0) : Rw A b 0 z := by
  subst hz
  refine ⟨List.length_replicate, fun k hk => ?_⟩
  have : k = 0 := by omega
  subst this
  rw [List.take_zero, List.reverse_nil, lcs_nilR]
  rfl
theorem zero_row0 {b : List GItem} {z : List Int} (hz : z = List.replicate (b.length + 1) 0) : Rw [] b b.length z := by
  subst hz
  refine ⟨List.length_replicate, fun k hk => ?_⟩
  rw [lcs_nil, List.getElem?_replicate, if_pos (by omega)]
  rfl
theorem out_ok {a b : List GItem} {z : List Int} (hz : z = List.replicate (b.length + 1) 0) (ha : a.length ≤ 64) (hb : b.length ≤ 64) : ∀ (k n : Nat) (row : List Int), n ≤ a.length → a.length - n < k → Rw (a.take n).reverse b b.length row →
    ∃ r, g_impl_common_l0 a b z k row (n : Int) = some r ∧ Rw a.reverse b b.length r := by
  intro k
  induction k with
  | zero => intro n next h0 h1; omega
  | succ k ih =>
    intro n row h0 h1 hn
    rw [g_impl_common_l0]
    by_cases hlt : n < a.length
    · have e1 := getI_nat (xs := a) (i := n)
      rw [List.getElem?_eq_getElem hlt] at e1
      rw [decide_eq_true (by omega), cond_true, e1]
      simp only [Option.bind_some]
      have hA : ((a.take n).reverse).length ≤ 64 := by rw [List.length_reverse, List.length_take]; omega
      obtain ⟨r, h2, h3⟩ := in_ok (x := a[n]) hb hA hn bigK 0 z (Nat.zero_le _) (by unfold bigK; omega) (zero_row hz)
      rw [Int.natCast_zero] at h2
      rw [h2]
      simp only [Option.bind_some]
      rw [w1 (by omega)]
      refine ih (n + 1) r (by omega) (by omega) ?_
      rw [take_rev hlt]
      exact h3
    · rw [decide_eq_false (by omega), cond_false]
      have : n = a.length := by omega
      subst this
      rw [List.take_length] at hn
      exact ⟨row, rfl, hn⟩
theorem common_eq {a b : List GItem} (ha : a.length ≤ 64) (hb : b.length ≤ 64) : g_impl_common a b = some ((lcs a b : Nat) : Int) := by
  unfold g_impl_common
  rw [w1 (by omega), mk_eq (by omega) (by omega)]
  simp only [Option.bind_some]
  obtain ⟨r, h2, h3⟩ := out_ok rfl ha hb bigK 0 (List.replicate (b.length + 1) 0) (Nat.zero_le _) (by unfold bigK; omega) (by rw [List.take_zero, List.reverse_nil]; exact zero_row0 rfl)
  rw [Int.natCast_zero] at h2
  rw [Int.toNat_natCast, h2]
  simp only [Option.bind_some]
  rw [getI_le (h3.2 b.length (Nat.le_refl _)), List.take_length, lcs_rev]
  rfl
/-! ### The table -/
def T (a b : List GItem) (i k : Nat) : Int := ((lcs (a.drop i) (b.drop k) : Nat) : Int)
/-- What is done is right: the rows behind i, and in row i the cells from k on. -/
def Good (a b : List GItem) (i k : Nat) (rows : List (List Int)) : Prop :=
  rows.length = a.length + 1 ∧ ∀ i', i' ≤ a.length → ∃ r, rows[i']? = some r ∧ r.length = b.length + 1 ∧ ∀ k', k' ≤ b.length → (i < i' ∨ (i' = i ∧ k ≤ k') ∨ k' = b.length) → r[k']? = some (T a b i' k')
theorem max14 {x y : Nat} : g_spec_l14Max (x : Int) (y : Int) = some ((max x y : Nat) : Int) := by
  unfold g_spec_l14Max
  by_cases h : (x : Int) > y
  · rw [decide_eq_true h, cond_true]; congr 1; omega
  · rw [decide_eq_false h, cond_false]; congr 1; omega
theorem T_le {a b : List GItem} {i k : Nat} (ha : a.length ≤ 64) : T a b i k ≤ 64 ∧ 0 ≤ T a b i k := by
  unfold T
  have := lcs_leL (a.drop i) (b.drop k)
  rw [List.length_drop] at this
  omega
theorem T_step {a b : List GItem} {i k : Nat} (hi : i < a.length) (hk : k < b.length) : lcs (a.drop i) (b.drop k) = if a[i] = b[k] then lcs (a.drop (i + 1)) (b.drop (k + 1)) + 1 else max (lcs (a.drop (i + 1)) (b.drop k)) (lcs (a.drop i) (b.drop (k + 1))) := by
  have := lcs_cons a[i] b[k] (a.drop (i + 1)) (b.drop (k + 1))
  rw [← List.drop_eq_getElem_cons hi, ← List.drop_eq_getElem_cons hk] at this
  exact this
theorem good_set {a b : List GItem} {i k : Nat} {rows : List (List Int)} {r : List Int} {v : Int} (hi : i < a.length) (hk : k < b.length) (h : Good a b i (k + 1) rows) (hr : rows[i]? = some r) (hv : v = T a b i k) : Good a b i k (rows.set i (r.set k v)) := by
  refine ⟨by rw [List.length_set]; exact h.1, fun i' hi' => ?_⟩
  obtain ⟨q, h1, h2, h3⟩ := h.2 i' hi'
  by_cases he : i' = i
  · subst he
    rw [hr] at h1
    cases h1
    refine ⟨r.set k v, List.getElem?_set_self (by rw [h.1]; omega), by rw [List.length_set]; exact h2, fun k' hk' ho => ?_⟩
    by_cases hkk : k' = k
    · subst hkk
      rw [List.getElem?_set_self (by rw [h2]; omega), hv]
    · rw [List.getElem?_set_ne (fun e => hkk e.symm)]
      exact h3 k' hk' (by omega)
  · refine ⟨q, by rw [List.getElem?_set_ne (fun e => he e.symm)]; exact h1, h2, fun k' hk' ho => h3 k' hk' (by omega)⟩
theorem step_ok {a b : List GItem} {i k : Nat} {rows : List (List Int)} (ha : a.length ≤ 64) (hb : b.length ≤ 64) (hi : i < a.length) (hk : k < b.length) (h : Good a b i (k + 1) rows) :
    ∃ rows', g_spec_l22Table_s a b rows (i : Int) (k : Int) = some rows' ∧ Good a b i k rows' := by
  obtain ⟨r, p1, p2, p3⟩ := h.2 i (by omega)
  obtain ⟨r1, q1, q2, q3⟩ := h.2 (i + 1) (by omega)
  have e1 := getI_le p1
  have e2 := getI_le q1
  have e3 := getI_le (q3 k (by omega) (by omega))
  have e4 := getI_le (p3 (k + 1) (by omega) (by omega))
  have e5 := getI_le (q3 (k + 1) (by omega) (by omega))
  have lk : k < r.length := by rw [p2]; omega
  have e6 := getI_nat (xs := r) (i := k)
  rw [List.getElem?_eq_getElem lk] at e6
  have e7 := getI_nat (xs := a) (i := i)
  rw [List.getElem?_eq_getElem hi] at e7
  have e8 := getI_nat (xs := b) (i := k)
  rw [List.getElem?_eq_getElem hk] at e8
  have hst := T_step hi hk
  unfold g_spec_l22Table_s
  rw [w1 (by omega), w1 (by omega), e1, e2]
  simp only [Option.bind_some]
  rw [e3, e4]
  simp only [Option.bind_some]
  unfold T
  rw [max14, e6, e7, e8]
  simp only [Option.bind_some]
  rw [itemEq]
  by_cases he : a[i] = b[k]
  · rw [decide_eq_true he, cond_true, e5]
    simp only [Option.bind_some]
    have e9 := getI_nat (xs := r.set (k : Int).toNat ((max (lcs (a.drop (i + 1)) (b.drop k)) (lcs (a.drop i) (b.drop (k + 1))) : Nat) : Int)) (i := k)
    rw [List.getElem?_eq_getElem (by rw [List.length_set]; exact lk)] at e9
    rw [e9]
    simp only [Option.bind_some]
    have hle := T_le (a := a) (b := b) (i := i + 1) (k := k + 1) ha
    rw [List.set_set, Int.toNat_natCast, Int.toNat_natCast]
    refine ⟨_, rfl, good_set hi hk h p1 ?_⟩
    rw [wI64 (by omega) (by omega)]
    unfold T
    rw [hst, if_pos he]
    omega
  · rw [decide_eq_false he, cond_false, Int.toNat_natCast, Int.toNat_natCast]
    refine ⟨_, rfl, good_set hi hk h p1 ?_⟩
    unfold T
    rw [hst, if_neg he]
theorem l2_ok {a b : List GItem} {i : Nat} (ha : a.length ≤ 64) (hb : b.length ≤ 64) (hi : i < a.length) : ∀ (f k : Nat) (rows : List (List Int)), k ≤ b.length → k < f → Good a b i k rows →
    ∃ rows', g_spec_l22Table_l2 a b (i : Int) f rows ((k : Int) - 1) = some rows' ∧ Good a b i 0 rows' := by
  intro f
  induction f with
  | zero => intro k rows h0 h1; omega
  | succ f ih =>
    intro k rows h0 h1 h
    rw [g_spec_l22Table_l2]
    cases k with
    | zero => exact ⟨rows, rfl, h⟩
    | succ k =>
      obtain ⟨rows1, h2, h3⟩ := step_ok ha hb hi (by omega) h
      rw [decide_eq_true (by omega), cond_true, show (((k + 1 : Nat) : Int) - 1) = (k : Int) by omega, h2]
      simp only [Option.bind_some]
      rw [wI64 (by omega) (by omega)]
      exact ih k rows1 (by omega) (by omega) h3
theorem l1_ok {a b : List GItem} (ha : a.length ≤ 64) (hb : b.length ≤ 64) : ∀ (f i : Nat) (rows : List (List Int)), i ≤ a.length → i < f → Good a b i 0 rows →
    ∃ rows', g_spec_l22Table_l1 a b f rows ((i : Int) - 1) = some rows' ∧ Good a b 0 0 rows' := by
  intro f
  induction f with
  | zero => intro k rows h0 h1; omega
  | succ f ih =>
    intro i rows h0 h1 h
    rw [g_spec_l22Table_l1]
    cases i with
    | zero => exact ⟨rows, rfl, h⟩
    | succ i =>
      have hg : Good a b i b.length rows := ⟨h.1, fun i' hi' => by
        obtain ⟨r, h1, h2, h3⟩ := h.2 i' hi'
        exact ⟨r, h1, h2, fun k' hk' ho => h3 k' hk' (by omega)⟩⟩
      obtain ⟨rows1, h2, h3⟩ := l2_ok ha hb (i := i) (by omega) bigK b.length rows (Nat.le_refl _) (by unfold bigK; omega) hg
      rw [decide_eq_true (by omega), cond_true, show (((i + 1 : Nat) : Int) - 1) = (i : Int) by omega, wI64 (x := (b.length : Int) - 1) (by omega) (by omega), h2]
      simp only [Option.bind_some]
      rw [wI64 (by omega) (by omega)]
      exact ih i rows1 (by omega) (by omega) h3
theorem l0_ok {a b : List GItem} (ha : a.length ≤ 64) (hb : b.length ≤ 64) : ∀ (f n : Nat), n ≤ a.length + 1 → a.length + 1 - n < f →
    g_spec_l22Table_l0 a b f (List.replicate n (List.replicate (b.length + 1) 0)) (n : Int) = some (List.replicate (a.length + 1) (List.replicate (b.length + 1) 0)) := by
  intro f
  induction f with
  | zero => intro n h0 h1; omega
  | succ f ih =>
    intro n h0 h1
    rw [g_spec_l22Table_l0]
    by_cases hn : n ≤ a.length
    · rw [decide_eq_true (by omega), cond_true, w1 (by omega), mk_eq (by omega) (by omega)]
      simp only [Option.bind_some]
      rw [app_eq (by rw [List.length_replicate]; simp; omega)]
      simp only [Option.bind_some]
      rw [w1 (by omega), Int.toNat_natCast, ← List.replicate_succ']
      exact ih (n + 1) (by omega) (by omega)
    · rw [decide_eq_false (by omega), cond_false]
      have : n = a.length + 1 := by omega
      rw [this]
theorem table_ok {a b : List GItem} (ha : a.length ≤ 64) (hb : b.length ≤ 64) : ∃ rows, g_spec_l22Table a b = some rows ∧ Good a b 0 0 rows := by
  unfold g_spec_l22Table
  have h0 := l0_ok ha hb bigK 0 (by omega) (by unfold bigK; omega)
  rw [List.replicate_zero, Int.natCast_zero] at h0
  rw [h0]
  simp only [Option.bind_some]
  rw [wI64 (by omega) (by omega)]
  refine l1_ok ha hb bigK a.length _ (Nat.le_refl _) (by unfold bigK; omega) ⟨List.length_replicate, fun i' hi' => ⟨List.replicate (b.length + 1) 0, by rw [List.getElem?_replicate, if_pos (by omega)], List.length_replicate, fun k' hk' ho => ?_⟩⟩
  rw [List.getElem?_replicate, if_pos (by omega)]
  unfold T
  rcases ho with ho | ho | ho
  · omega
  · rw [ho.1, List.drop_length, lcs_nil]; rfl
  · rw [ho, List.drop_length, lcs_nilR]; rfl
theorem specCommon_eq {a b : List GItem} : g_spec_Common a b = some (if 64 < a.length ∨ 64 < b.length then -1 else ((lcs a b : Nat) : Int)) := by
  unfold g_spec_Common
  by_cases ha : a.length ≤ 64
  · rw [decide_eq_false (by omega), cond_false]
    simp only [Option.bind_some]
    by_cases hb : b.length ≤ 64
    · rw [decide_eq_false (by omega), cond_false, if_neg (by omega)]
      obtain ⟨rows, h1, h2⟩ := table_ok ha hb
      obtain ⟨r, p1, p2, p3⟩ := h2.2 0 (Nat.zero_le _)
      have e1 := getI_le p1
      have e2 := getI_le (p3 0 (Nat.zero_le _) (by omega))
      rw [Int.natCast_zero] at e1 e2
      rw [h1]
      simp only [Option.bind_some]
      rw [e1]
      simp only [Option.bind_some]
      rw [e2]
      unfold T
      rfl
    · rw [decide_eq_true (by omega), cond_true, if_pos (by omega)]
  · rw [decide_eq_true (by omega), cond_true]
    simp only [Option.bind_some, cond_true]
    rw [if_pos (by omega)]
theorem implCommon_eq {a b : List GItem} : g_impl_Common a b = some (if 64 < a.length ∨ 64 < b.length then -1 else ((lcs a b : Nat) : Int)) := by
  unfold g_impl_Common
  by_cases ha : a.length ≤ 64
  · rw [decide_eq_false (by omega), cond_false]
    simp only [Option.bind_some]
    by_cases hb : b.length ≤ 64
    · rw [decide_eq_false (by omega), cond_false, if_neg (by omega), common_eq ha hb]
      rfl
    · rw [decide_eq_true (by omega), cond_true, if_pos (by omega)]
  · rw [decide_eq_true (by omega), cond_true]
    simp only [Option.bind_some, cond_true]
    rw [if_pos (by omega)]
end Go.Proofs.Ytigaffddnidkpaa

namespace Go.Proofs.Ytigaffddnidkpaa
open Go Go.Fm
set_option linter.unusedVariables false
/-- A cursor of a draw. -/
def Cok (c : GL01Cur) : Prop := 0 ≤ c.i ∧ c.b.length ≤ 1048576
theorem byte_ok {c : GL01Cur} (h : Cok c) : Tot (g_spec_l01Byte c) fun r => 0 ≤ r.1 ∧ r.1 ≤ 255 ∧ Cok r.2 := by
  unfold g_spec_l01Byte
  refine Tot.bind (Q := fun r => 0 ≤ r.2 ∧ r.2 ≤ 255 ∧ Cok r.1) (.condD (fun hi => ?_) (fun hi => ?_)) fun r hr => .some hr
  · obtain ⟨v, hv, _⟩ := getI_ex h.1 hi
    refine .bindE hv (.some ⟨(and_le (by decide) (by decide)).1, (and_le (by decide) (by decide)).2, ?_, h.2⟩)
    have := h.1
    have := h.2
    show 0 ≤ IntKind.wrap .i64 (c.i + 1)
    rw [wI64 (by omega) (by omega)]
    omega
  · exact .some ⟨(and_le (by decide) (by decide)).1, (and_le (by decide) (by decide)).2, h⟩
theorem below_ok {c : GL01Cur} (h : Cok c) {n : Int} (hn : 0 < n) : Tot (g_spec_l01Below c n) fun r => 0 ≤ r.1 ∧ r.1 < n ∧ Cok r.2 := by
  unfold g_spec_l01Below
  refine .condD (fun h0 => by omega) fun _ => .condD (fun h1 => ?_) fun h1 => ?_
  · refine .bind (byte_ok h) fun a ha => ?_
    obtain ⟨e, g1, g2⟩ := remI_ex (k := .i64) ha.1 hn
    exact .bindE e (.some ⟨g1, g2, ha.2.2⟩)
  · refine .bind (byte_ok h) fun a ha => .bind (byte_ok ha.2.2) fun b hb => .bind (byte_ok hb.2.2) fun d hd => .bind (byte_ok hd.2.2) fun x hx => ?_
    rw [wI64 (x := a.1 * 16777216) (by omega) (by omega), wI64 (x := b.1 * 65536) (by omega) (by omega), wI64 (x := d.1 * 256) (by omega) (by omega), wI64 (x := a.1 * 16777216 + b.1 * 65536) (by omega) (by omega),
      wI64 (x := a.1 * 16777216 + b.1 * 65536 + d.1 * 256) (by omega) (by omega), wI64 (x := a.1 * 16777216 + b.1 * 65536 + d.1 * 256 + x.1) (by omega) (by omega)]
    obtain ⟨e, g1, g2⟩ := remI_ex (k := .i64) (a := a.1 * 16777216 + b.1 * 65536 + d.1 * 256 + x.1) (by omega) hn
    exact .bindE e (.some ⟨g1, g2, hx.2.2⟩)
theorem once_ok {c : GL01Cur} (h : Cok c) {n : Int} (hn : 0 < n) : Tot (g_spec_l01Once c n) fun r => Cok r.2 :=
  .bind (below_ok h hn) fun a ha => .some ha.2.2
theorem pickInt_ok {c : GL01Cur} (h : Cok c) {l : List Int} (hl : 0 < l.length) : Tot (g_spec_l01PickInt c l) fun r => r.1 ∈ l ∧ Cok r.2 :=
  .bind (below_ok h (by omega)) fun a ha => by
    obtain ⟨v, hv, hm, _⟩ := getI_ex (xs := l) ha.1 ha.2.1
    exact .bindE hv (.some ⟨hm, ha.2.2⟩)
theorem pick_ok {c : GL01Cur} (h : Cok c) {l : List Bs} (hl : 0 < l.length) : Tot (g_spec_l01Pick c l) fun r => r.1 ∈ l ∧ Cok r.2 :=
  .bind (below_ok h (by omega)) fun a ha => by
    obtain ⟨v, hv, hm, _⟩ := getI_ex (xs := l) ha.1 ha.2.1
    exact .bindE hv (.some ⟨hm, ha.2.2⟩)
theorem new_ok {code : List Int} (h : code.length ≤ 1048576) : Tot (g_spec_l01New code) Cok := by
  have key : ∀ (k : Nat) (hh i : Int), 0 ≤ i → i ≤ 4000 → 4000 - i < k → Tot (g_spec_l01New_l0 code k hh i) fun _ => True := by
    intro k
    induction k with
    | zero => intro hh i h0 h1 h2; omega
    | succ k ih =>
      intro hh i h0 h1 h2
      unfold g_spec_l01New_l0
      refine .bind (Q := fun b => b = true → i < code.length ∧ i < 4000) (.condD (fun hi => .some fun hb => ⟨hi, of_decide_eq_true hb⟩) fun _ => .some fun hb => nomatch hb) fun b hb => ?_
      refine .cond (fun hc => ?_) fun _ => .some trivial
      obtain ⟨g1, g2⟩ := hb hc
      obtain ⟨v, hv, _⟩ := getI_ex h0 g1
      refine .bindE hv ?_
      rw [wI64 (x := i + 1) (by omega) (by omega)]
      exact ih _ _ (by omega) (by omega) (by omega)
  exact .bind (.bind (key bigK _ 0 (by decide) (by decide) (by decide)) fun a ha => .some (Q := fun _ => True) trivial) fun a ha => .some ⟨Int.le_refl _, h⟩
end Go.Proofs.Ytigaffddnidkpaa

namespace Go.Proofs.Ytigaffddnidkpaa
open Go Go.Fm
set_option linter.unusedVariables false
set_option linter.unusedSimpArgs false
theorem specIn_eq {x a b : Int} : g_spec_l01In x a b = some (decide (a ≤ x ∧ x ≤ b)) := by
  unfold g_spec_l01In
  by_cases h : x ≥ a
  · rw [decide_eq_true h]
    simp only [cond_true]
    congr 1
    exact decide_eq_decide.2 ⟨fun h2 => ⟨h, h2⟩, fun h2 => h2.2⟩
  · rw [decide_eq_false h]
    simp only [cond_false]
    congr 1
    exact (decide_eq_false fun h2 => h h2.1).symm
theorem int_ok {c : GL01Cur} (h : Cok c) : Tot (g_spec_l04Int c) fun r => Cok r.2 := by
  unfold g_spec_l04Int
  refine .bind (once_ok h (by decide)) fun a ha => .cond (fun _ => ?_) fun _ => ?_
  · exact .bind (below_ok ha (by decide)) fun b hb => .some hb.2.2
  · exact .bind (pickInt_ok ha (by decide)) fun b hb => .some hb.2
theorem specLetterAt_ok {k : Int} : Tot (g_spec_LetterAt k) fun v => 0 ≤ v ∧ v < 256 := by
  unfold g_spec_LetterAt
  refine .bindE specIn_eq (.cond (fun _ => .some (by decide)) fun hc => ?_)
  have hk : 0 ≤ k ∧ k ≤ 47 := by simpa using hc
  obtain ⟨v, hv, h0, h1, _⟩ := idxS_ex (l := [32, 114, 116, 111, 101, 97, 110, 105, 115, 109, 99, 121, 108, 103, 102, 119, 100, 118, 112, 98, 104, 120, 117, 113, 48, 49, 50, 51, 52, 53, 54, 55, 56, 57, 106, 45, 107, 46, 122, 47, 59, 39, 33, 43, 64, 42, 44, 63]) (i := k) hk.1 (by simp; omega)
  exact .bindE (a := _) rfl (.bindE hv (.some ⟨h0, h1⟩))
theorem name_ok {c : GL01Cur} (h : Cok c) : Tot (g_spec_l02Name c) fun r => r.1.length ≤ 10 ∧ Cok r.2 := by
  unfold g_spec_l02Name
  refine .bind (once_ok h (by decide)) fun a ha => .cond (fun _ => ?_) fun _ => ?_
  · refine .bind (pick_ok ha (by decide)) fun b hb => .some ⟨?_, hb.2⟩
    have := hb.1
    revert this
    generalize b.1 = x
    intro hx
    have : ∀ y ∈ ([[100, 117, 112], [111, 118, 101, 114], [115, 113, 117, 97, 114, 101], [97, 33], [50, 42], [103, 111], [45, 105, 102], [59], [63], [114, 114, 114, 114, 114, 114, 114], [114, 116, 111, 101, 97, 110, 105], [119, 119, 119, 119, 119, 119], [113, 113, 113, 113, 113], [120]] : List Bs), y.length ≤ 10 := by decide
    exact this x hx
  · refine .bind (below_ok ha (by decide)) fun b hb => ?_
    have key : ∀ (k : Nat) (c : GL01Cur) (out : List Int) (i : Int), Cok c → 0 ≤ i → i ≤ 9 → (out.length : Int) ≤ i → 9 - i < k → Tot (g_spec_l02Name_l0 b k c out i) fun r => Cok r.1 ∧ r.2.length ≤ 10 := by
      intro k
      induction k with
      | zero => intro c out i hc h0 h1 h2 h3; omega
      | succ k ih =>
        intro c out i hc h0 h1 h2 h3
        unfold g_spec_l02Name_l0
        rw [wI64 (x := 1 + b.1) (by omega) (by omega)]
        refine .condD (fun hi => ?_) fun _ => .some ⟨hc, by show out.length ≤ 10; omega⟩
        refine .bind (below_ok hc (by decide)) fun d hd => .bind specLetterAt_ok fun e he => .bindE (app_eq (by simp; omega)) ?_
        rw [wI64 (x := i + 1) (by omega) (by omega)]
        exact ih _ _ _ hd.2.2 (by omega) (by omega) (by simp; omega) (by omega)
    refine .bind (Q := fun r => Cok r.1 ∧ r.2.length ≤ 10) (.bind (key bigK _ _ _ hb.2.2 (by decide) (by decide) (by decide) (by decide)) fun d hd => .some hd) fun d hd => .some ⟨?_, hd.1⟩
    show (strOf d.2).length ≤ 10
    unfold strOf
    rw [List.length_map]
    exact hd.2
theorem some_ok {c : GL01Cur} (h : Cok c) : Tot (g_spec_l04Some c) fun r => r.1.Name.length ≤ 10 ∧ Cok r.2 := by
  unfold g_spec_l04Some
  refine .bind (below_ok h (by decide)) fun a ha => .cond (fun _ => ?_) fun _ => .cond (fun _ => ?_) fun _ => .cond (fun _ => ?_) fun _ => ?_
  · exact .bind (int_ok ha.2.2) fun b hb => .bind (once_ok hb (by decide)) fun d hd => .some ⟨by simp, hd⟩
  · exact .bind (int_ok ha.2.2) fun b hb => .bind (once_ok hb (by decide)) fun d hd => .some ⟨by simp, hd⟩
  · refine .bind (pick_ok ha.2.2 (by decide)) fun b hb => .bind (int_ok hb.2) fun d hd => .some ⟨?_, hd⟩
    have : ∀ y ∈ ([[120], [97, 116], [113, 113, 113, 113], [116, 101, 110]] : List Bs), y.length ≤ 10 := by decide
    exact this _ hb.1
  · exact .bind (below_ok ha.2.2 (by decide)) fun b hb => .bind (name_ok hb.2.2) fun d hd => .some hd
theorem word_ok {c : GL01Cur} (h : Cok c) : Tot (g_spec_l01Word c) fun r => Cok r.2 := by
  unfold g_spec_l01Word
  refine .bind (below_ok h (by decide)) fun a ha => .cond (fun _ => ?_) fun _ => .cond (fun _ => ?_) fun _ => ?_
  · exact .bind (pickInt_ok ha.2.2 (by decide)) fun b hb => .some hb.2
  · exact .bind (below_ok ha.2.2 (by decide)) fun b hb => .some hb.2.2
  · exact .bind (below_ok ha.2.2 (by decide)) fun b hb => .bind (below_ok hb.2.2 (by decide)) fun d hd => .some hd.2.2
theorem any_ok {c : GL01Cur} (h : Cok c) : Tot (g_spec_l04Any c) fun r => Cok r.2 := by
  unfold g_spec_l04Any
  refine .bind (some_ok h) fun a ha => .bind (Q := fun o => match o with | .inl r => Cok r.1 | .inr r => Cok r.1) ?_ fun o ho => ?_
  · exact .bind (below_ok ha.2 (by decide)) fun b hb => .cond (fun _ => .bind (word_ok hb.2.2) fun w hw => .some hw) fun _ => .cond (fun _ => .bind (below_ok hb.2.2 (by decide)) fun w hw => .some hw.2.2) fun _ =>
      .cond (fun _ => .bind (pick_ok hb.2.2 (by decide)) fun w hw => .some hw.2) fun _ => .cond (fun _ => .bind (below_ok hb.2.2 (by decide)) fun w hw => .some hw.2.2) fun _ => .some hb.2.2
  · cases o with
    | inl r => exact .some ho
    | inr r => exact .some ho
theorem list_ok {c : GL01Cur} (h : Cok c) : Tot (g_spec_l04List c 14) fun r => r.1.length ≤ 14 ∧ Cok r.2 := by
  unfold g_spec_l04List
  refine .bind (below_ok h (by decide)) fun y hy => ?_
  have key : ∀ (k : Nat) (c : GL01Cur) (out : List GItem) (i : Int), Cok c → 0 ≤ i → i ≤ 14 → (out.length : Int) ≤ i → 14 - i < k → Tot (g_spec_l04List_l0 y k c out i) fun r => Cok r.1 ∧ r.2.length ≤ 14 := by
    intro k
    induction k with
    | zero => intro c out i h0 h1 h2 h3 h4; omega
    | succ k ih =>
      intro c out i h0 h1 h2 h3 h4
      unfold g_spec_l04List_l0
      refine .condD (fun hi => ?_) fun _ => .some ⟨h0, by show out.length ≤ 14; omega⟩
      refine .bind (Q := fun r => Cok r.1 ∧ (r.2.length : Int) ≤ i + 1) ?_ fun r hr => ?_
      · refine .bind (some_ok h0) fun a ha => .bind (Q := fun r => Cok r.1) (.bind (once_ok ha.2 (by decide)) fun b hb => .cond (fun _ => .bind (any_ok hb) fun d hd => .some hd) fun _ => .some hb) fun b hb => .bindE (app_eq (by simp; omega)) (.some ⟨hb, by simp; omega⟩)
      · rw [wI64 (x := i + 1) (by omega) (by omega)]
        exact ih _ _ _ hr.1 (by omega) (by omega) (by omega) (by omega)
  refine .bind (Q := fun r => Cok r.1 ∧ r.2.length ≤ 14) (.bind (key bigK _ _ _ hy.2.2 (by decide) (by decide) (by decide) (by decide)) fun d hd => .some hd) fun d hd => .some ⟨hd.2, hd.1⟩
theorem twin_ok {c : GL01Cur} {l : List GItem} (h : Cok c) (hl : l.length ≤ 1000) : Tot (g_spec_l22Twin c l) fun r => True := by
  unfold g_spec_l22Twin
  have key : ∀ (k : Nat) (c : GL01Cur) (out : List GItem) (n : Nat), Cok c → n ≤ l.length → out.length ≤ 2 * n → l.length - n < k → Tot (g_spec_l22Twin_l0 l k c out (n : Int)) fun r => Cok r.1 ∧ r.2.length ≤ 2000 := by
    intro k
    induction k with
    | zero => intro c out i h0 h1 h2 h3; omega
    | succ k ih =>
      intro c out n h0 h1 h2 h3
      unfold g_spec_l22Twin_l0
      refine .condD (fun hi => ?_) fun _ => .some ⟨h0, by show out.length ≤ 2000; omega⟩
      obtain ⟨x, hx, _⟩ := getI_ex (xs := l) (i := (n : Int)) (by omega) hi
      refine .bind (Q := fun r => Cok r.1 ∧ r.2.length ≤ 2 * (n + 1)) ?_ fun r hr => ?_
      · refine .bind (below_ok h0 (by decide)) fun a ha => .cond (fun _ => .some ⟨ha.2.2, by show out.length ≤ _; omega⟩) fun _ => .cond (fun _ => .bind (some_ok ha.2.2) fun b hb => .bindE hx (.bindE (app_eq (by simp; omega)) (.some ⟨hb.2, by simp; omega⟩))) fun _ => .bindE hx (.bindE (app_eq (by simp; omega)) (.some ⟨ha.2.2, by simp; omega⟩))
      · rw [wI64 (x := (n : Int) + 1) (by omega) (by omega), show ((n : Int) + 1) = ((n + 1 : Nat) : Int) by omega]
        exact ih _ _ _ hr.1 (by omega) hr.2 (by omega)
  have k0 := key bigK c [] 0 h (Nat.zero_le _) (by simp) (by unfold bigK; omega)
  refine .bind (Q := fun r => Cok r.1 ∧ r.2.length ≤ 2000) (.bind k0 fun d hd => .some hd) fun d hd => .bind (some_ok hd.1) fun b hb => .bindE (app_eq (by have := hd.2; simp; omega)) (.some trivial)
theorem draw_ok {code : List Int} (h : code.length ≤ 1048576) : Tot (g_spec_DrawCommon code) fun r => True := by
  unfold g_spec_DrawCommon
  refine .bind (new_ok h) fun c hc => .bind (list_ok hc) fun l hl => ?_
  have key : ∀ (k : Nat) (c : GL01Cur) (a : List GItem), Cok c → a.length ≤ 66 → 66 - a.length < k → Tot (g_spec_DrawCommon_l0 k c a) fun r => Cok r.1 ∧ r.2.length ≤ 66 := by
    intro k
    induction k with
    | zero => intro c a h0 h1 h2; omega
    | succ k ih =>
      intro c a h0 h1 h2
      unfold g_spec_DrawCommon_l0
      refine .bind (below_ok h0 (by decide)) fun y hy => ?_
      rw [wI64 (by omega) (by omega)]
      refine .condD (fun hi => ?_) fun _ => .some ⟨hy.2.2, h1⟩
      exact .bindE (app_eq (by simp; omega)) (ih _ _ hy.2.2 (by simp; omega) (by simp; omega))
  refine .bind (Q := fun r => Cok r.1 ∧ r.2.length ≤ 66) (.bind (once_ok hl.2 (by decide)) fun b hb => .cond (fun _ => .bind (key bigK _ _ hb (by have := hl.1; show l.1.length ≤ 66; omega) (by unfold bigK; omega)) fun d hd => .some hd) fun _ => .some ⟨hb, by have := hl.1; show l.1.length ≤ 66; omega⟩) fun d hd => .bind (twin_ok hd.1 (by have := hd.2; omega)) fun t _ => .some trivial
end Go.Proofs.Ytigaffddnidkpaa

/-! The law of FnCommon. -/
namespace Go.Proofs.Ytigaffddnidkpaa
open Go Go.Fm
set_option linter.unusedVariables false
set_option linter.unusedSimpArgs false
theorem law_common {code : List Int} (hl : code.length ≤ 9223372036854775807) : g_laws_FnCommon code = some true := by
  unfold g_laws_FnCommon g_laws_big
  simp only [Option.bind_some]
  by_cases hb : (code.length : Int) > 1048576
  · rw [decide_eq_true hb, cond_true]
  · rw [decide_eq_false hb, cond_false]
    obtain ⟨r, e, _⟩ := draw_ok (code := code) (by omega)
    rw [e]
    simp only [Option.bind_some]
    rw [implCommon_eq, implCommon_eq, implCommon_eq, specCommon_eq]
    simp only [Option.bind_some]
    have e0 : ∀ x : Int, (x != x) = false := fun x => by simp
    rw [e0, cond_false]
    by_cases h : 64 < r.1.length ∨ 64 < r.2.length
    · rw [if_pos h, if_pos (h.symm : 64 < r.2.length ∨ 64 < r.1.length)]
      simp only [Option.bind_some]
      rw [e0, cond_false, decide_eq_true (by decide), cond_true]
      by_cases ha : (r.1.length : Int) > 64
      · rw [decide_eq_true ha, cond_true]
      · rw [decide_eq_false ha, cond_false, decide_eq_true (by omega)]
    · rw [if_neg h, if_neg (fun g => h g.symm), lcs_comm r.2 r.1]
      simp only [Option.bind_some]
      rw [e0, cond_false, decide_eq_false (by omega), cond_false]
      have h1 := lcs_leL r.1 r.2
      have h2 := lcs_leR r.1 r.2
      rw [decide_eq_true (by omega), cond_true, decide_eq_true (by omega), cond_true, if_neg (by omega), lcs_self]
      simp
end Go.Proofs.Ytigaffddnidkpaa

