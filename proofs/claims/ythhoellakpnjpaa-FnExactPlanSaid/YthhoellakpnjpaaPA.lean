import Derived.Test.YthhoellakpnjpaaMF
import Derived.Test.YthhoellakpnjpaaGD
/-! Plain facts of the operations. -/
namespace Go.Fm
theorem wI64 {x : Int} (h1 : -9223372036854775808 ≤ x) (h2 : x < 9223372036854775808) : IntKind.wrap .i64 x = x := by
  simp [IntKind.wrap, IntKind.bits, IntKind.signed]; omega
theorem wI32 {x : Int} (h1 : -2147483648 ≤ x) (h2 : x < 2147483648) : IntKind.wrap .i32 x = x := by
  simp [IntKind.wrap, IntKind.bits, IntKind.signed]; omega
theorem wU32 {x : Int} (h1 : 0 ≤ x) (h2 : x < 4294967296) : IntKind.wrap .u32 x = x := by
  simp [IntKind.wrap, IntKind.bits, IntKind.signed]; omega
theorem wU64 {x : Int} (h1 : 0 ≤ x) (h2 : x < 18446744073709551616) : IntKind.wrap .u64 x = x := by
  simp [IntKind.wrap, IntKind.bits, IntKind.signed]; omega
theorem wU32_bd (x : Int) : 0 ≤ IntKind.wrap .u32 x ∧ IntKind.wrap .u32 x < 4294967296 := by
  simp [IntKind.wrap, IntKind.bits, IntKind.signed]; omega
theorem wI32_bd (x : Int) : -2147483648 ≤ IntKind.wrap .i32 x ∧ IntKind.wrap .i32 x < 2147483648 := by
  simp [IntKind.wrap, IntKind.bits, IntKind.signed]; omega
theorem wI64_bd (x : Int) : -9223372036854775808 ≤ IntKind.wrap .i64 x ∧ IntKind.wrap .i64 x < 9223372036854775808 := by
  simp [IntKind.wrap, IntKind.bits, IntKind.signed]; omega
theorem getI_ex {α : Type} {xs : List α} {i : Int} (h0 : 0 ≤ i) (h1 : i < xs.length) : ∃ x, getI xs i = some x ∧ x ∈ xs ∧ xs[i.toNat]? = some x := by
  have hi : i.toNat < xs.length := by omega
  unfold getI
  rw [if_pos h0, List.getElem?_eq_getElem hi]
  exact ⟨_, rfl, List.getElem_mem hi, rfl⟩
theorem getI_nat {α : Type} {xs : List α} {i : Nat} : getI xs (i : Int) = xs[i]? := by
  unfold getI; rw [if_pos (Int.natCast_nonneg i)]; rfl
theorem idxS_ex {l : List UInt8} {i : Int} (h0 : 0 ≤ i) (h1 : i < l.length) : ∃ v, idxS l i = some v ∧ 0 ≤ v ∧ v < 256 ∧ ∃ b ∈ l, v = (b.toNat : Int) := by
  unfold idxS
  rw [if_pos ⟨h0, h1⟩]
  have hi : i.toNat < l.length := by omega
  refine ⟨_, rfl, Int.natCast_nonneg _, ?_, l[i.toNat], List.getElem_mem hi, ?_⟩
  · have := UInt8.toNat_lt (l.getD i.toNat 0); omega
  · rw [List.getD_eq_getElem?_getD, List.getElem?_eq_getElem hi]; rfl
theorem app_eq {α : Type} {xs ys : List α} (h : xs.length + ys.length ≤ 4294967296) : app xs ys = some (xs ++ ys) := by
  unfold app
  rw [if_pos (by rw [List.length_append]; exact h)]
theorem subL_eq {α : Type} {xs : List α} {a b : Int} (h0 : 0 ≤ a) (h1 : a ≤ b) (h2 : b ≤ xs.length) : subL xs a b = some ((xs.drop a.toNat).take (b.toNat - a.toNat)) := by
  unfold subL; rw [if_pos ⟨h0, h1, h2⟩]
theorem subL_drop {α : Type} {xs : List α} {a : Int} (h0 : 0 ≤ a) (h2 : a ≤ xs.length) : subL xs a xs.length = some (xs.drop a.toNat) := by
  rw [subL_eq h0 h2 (Int.le_refl _), List.take_of_length_le]
  rw [List.length_drop]; omega
theorem subL_take {α : Type} {xs : List α} {b : Int} (h0 : 0 ≤ b) (h2 : b ≤ xs.length) : subL xs 0 b = some (xs.take b.toNat) := by
  rw [subL_eq (Int.le_refl _) h0 h2]; rfl
theorem mk_eq {α : Type} {z : α} {n : Int} (h0 : 0 ≤ n) (h1 : n ≤ 4294967296) : mk z n = some (List.replicate n.toNat z) := by
  unfold mk; rw [if_pos ⟨h0, h1⟩]
theorem catS_eq {a b : List UInt8} (h : a.length + b.length < 4611686018427387904) : catS a b = some (a ++ b) := by
  unfold catS; rw [if_pos h]
theorem remI_ex {k : IntKind} {a b : Int} (h0 : 0 ≤ a) (hb : 0 < b) : remI k a b = some (a % b) ∧ 0 ≤ a % b ∧ a % b < b := by
  unfold remI
  rw [if_neg (by omega), Int.tmod_eq_emod_of_nonneg h0]
  exact ⟨rfl, Int.emod_nonneg _ (by omega), Int.emod_lt_of_pos _ hb⟩
theorem bB_toNat {k : IntKind} {a : Int} (h0 : 0 ≤ a) (h1 : a < 2 ^ k.bits) : (bytesB k a).toNat = a.toNat := by
  unfold bytesB
  rw [BitVec.toNat_ofInt, Int.emod_eq_of_lt h0]
  simpa using h1
theorem wrap_small {k : IntKind} {n : Nat} (h : n < 2 ^ (k.bits - 1)) : k.wrap n = n := by
  unfold IntKind.wrap
  have hb : 2 ^ (k.bits - 1) ≤ 2 ^ k.bits := Nat.pow_le_pow_right (by decide) (Nat.sub_le _ _)
  have h1 : (n : Int) < ((2 ^ k.bits : Nat) : Int) := Int.ofNat_lt.2 (Nat.lt_of_lt_of_le h hb)
  have h2 : (n : Int) < ((2 ^ (k.bits - 1) : Nat) : Int) := Int.ofNat_lt.2 h
  simp only [Int.natCast_pow, Int.cast_ofNat_Int] at h1 h2
  have e : (n : Int) % (2 ^ k.bits : Int) = n := Int.emod_eq_of_lt (Int.natCast_nonneg _) h1
  simp only [e]
  rw [if_neg]
  intro hc
  rw [Bool.and_eq_true, decide_eq_true_eq] at hc
  have h3 := hc.2
  omega
/-- What is masked by a small number is no greater. -/
theorem and_le {k : IntKind} {a b : Int} (h0 : 0 ≤ b) (h1 : b < 2 ^ (k.bits - 1)) : 0 ≤ andI k a b ∧ andI k a b ≤ b := by
  unfold andI
  have hb : (bytesB k b).toNat = b.toNat := bB_toNat h0 (Int.lt_of_lt_of_le h1 (by
    have : ((2 ^ (k.bits - 1) : Nat) : Int) ≤ ((2 ^ k.bits : Nat) : Int) := Int.ofNat_le.2 (Nat.pow_le_pow_right (by decide) (Nat.sub_le _ _))
    simpa only [Int.natCast_pow, Int.cast_ofNat_Int] using this))
  have hle : (bytesB k a &&& bytesB k b).toNat ≤ b.toNat := by
    rw [BitVec.toNat_and, hb]; exact Nat.and_le_right
  have hlt : (bytesB k a &&& bytesB k b).toNat < 2 ^ (k.bits - 1) := by
    refine Nat.lt_of_le_of_lt hle ?_
    have : (b.toNat : Int) < ((2 ^ (k.bits - 1) : Nat) : Int) := by rw [Int.toNat_of_nonneg h0]; simpa only [Int.natCast_pow, Int.cast_ofNat_Int] using h1
    exact Int.ofNat_lt.1 this
  rw [wrap_small hlt]
  omega
/-- It answers, and so. -/
def Tot {α : Type} (o : Option α) (Q : α → Prop) : Prop := ∃ a, o = some a ∧ Q a
section
variable {α β : Type} {Q Q' : α → Prop} {R : β → Prop}
theorem Tot.some {a : α} (h : Q a) : Tot (some a) Q := ⟨a, rfl, h⟩
theorem Tot.bind {o : Option α} {f : α → Option β} (h : Tot o Q) (hf : ∀ a, Q a → Tot (f a) R) : Tot (o.bind f) R := by
  obtain ⟨a, rfl, ha⟩ := h; exact hf a ha
theorem Tot.bindE {o : Option α} {f : α → Option β} {a : α} (h : o = .some a) (hf : Tot (f a) R) : Tot (o.bind f) R := by subst h; exact hf
theorem Tot.cond {c : Bool} {x y : Option α} (h1 : c = true → Tot x Q) (h2 : c = false → Tot y Q) : Tot (cond c x y) Q := by
  cases c with
  | true => exact h1 rfl
  | false => exact h2 rfl
theorem Tot.condD {p : Prop} [Decidable p] {x y : Option α} (h1 : p → Tot x Q) (h2 : ¬ p → Tot y Q) : Tot (_root_.cond (decide p) x y) Q :=
  .cond (fun h => h1 (of_decide_eq_true h)) (fun h => h2 (of_decide_eq_false h))
theorem Tot.mono {o : Option α} (h : Tot o Q) (hq : ∀ a, Q a → Q' a) : Tot o Q' := by obtain ⟨a, e, ha⟩ := h; exact ⟨a, e, hq a ha⟩
end
end Go.Fm

/-! Loops that copy, compare, mark and look at marks. -/
namespace Go.Fm
set_option linter.unusedVariables false
set_option linter.unusedSimpArgs false
theorem eqLoop {α : Type} [BEq α] [LawfulBEq α] [DecidableEq α] {a b : List α} (F : Nat → Int → Option (Unit ⊕ Unit))
    (hs : ∀ k i, F (k + 1) i = cond (decide (i < (a.length : Int))) ((getI a i).bind fun x => (getI b i).bind fun y => cond (x != y) (some (.inr ())) (F k (IntKind.wrap .i64 (i + 1)))) (some (.inl ())))
    (hl : a.length = b.length) (hm : a.length ≤ 16777216) : F bigK 0 = some (if a = b then .inl () else .inr ()) := by
  have key : ∀ (k n : Nat), n ≤ a.length → a.length - n < k → F k n = some (if a.drop n = b.drop n then .inl () else .inr ()) := by
    intro k
    induction k with
    | zero => intro n h0 h1; omega
    | succ k ih =>
      intro n h0 h1
      rw [hs]
      by_cases hn : n < a.length
      · have hn' : n < b.length := by omega
        rw [decide_eq_true (by omega), getI_nat, getI_nat, List.getElem?_eq_getElem hn, List.getElem?_eq_getElem hn', List.drop_eq_getElem_cons hn, List.drop_eq_getElem_cons hn']
        simp only [cond_true, Option.bind_some]
        by_cases he : a[n] = b[n]
        · have : (a[n] != b[n]) = false := by rw [he]; simp
          rw [this, cond_false, wI64 (by omega) (by omega), show ((n : Int) + 1) = ((n + 1 : Nat) : Int) by omega, ih (n + 1) (by omega) (by omega), he]
          simp only [List.cons.injEq, true_and]
        · have : (a[n] != b[n]) = true := by simpa using he
          rw [this, cond_true, if_neg (fun h => he (List.cons.inj h).1)]
      · rw [decide_eq_false (by omega), cond_false, List.drop_eq_nil_of_le (by omega), List.drop_eq_nil_of_le (by omega), if_pos rfl]
  have h := key bigK 0 (Nat.zero_le _) (by unfold bigK; omega)
  rw [Int.natCast_zero] at h
  rw [h, List.drop_zero, List.drop_zero]
/-- A whole comparison. -/
theorem eqList {α : Type} [BEq α] [LawfulBEq α] [DecidableEq α] {a b : List α} (F : Nat → Int → Option (Unit ⊕ Unit)) (f : Option Bool)
    (hf : f = cond ((a.length : Int) != (b.length : Int)) (some false) (((F bigK 0).bind fun o => match o with | .inl () => some (.inl ()) | .inr () => some (.inr ()) : Option (Unit ⊕ Unit)).bind fun o => match o with | .inl () => some true | .inr () => some false))
    (hs : ∀ k i, F (k + 1) i = cond (decide (i < (a.length : Int))) ((getI a i).bind fun x => (getI b i).bind fun y => cond (x != y) (some (.inr ())) (F k (IntKind.wrap .i64 (i + 1)))) (some (.inl ())))
    (hm : a.length ≤ 16777216) : f = some (decide (a = b)) := by
  rw [hf]
  by_cases hl : a.length = b.length
  · have : ((a.length : Int) != (b.length : Int)) = false := by rw [hl]; simp
    rw [this, cond_false, eqLoop F hs hl hm]
    by_cases he : a = b
    · rw [if_pos he, decide_eq_true he]; rfl
    · rw [if_neg he, decide_eq_false he]; rfl
  · have : ((a.length : Int) != (b.length : Int)) = true := by simp; omega
    rw [this, cond_true, decide_eq_false (fun h => hl (by rw [h]))]
theorem copyLoop {α : Type} {a : List α} (F : Nat → List α → Int → Option (List α))
    (hs : ∀ k out i, F (k + 1) out i = cond (decide (i < (a.length : Int))) ((getI a i).bind fun x => (getI out i).bind fun _ => F k (out.set i.toNat x) (IntKind.wrap .i64 (i + 1))) (some out))
    (hm : a.length ≤ 16777216) {z : List α} (hz : z.length = a.length) : F bigK z 0 = some a := by
  have key : ∀ (k n : Nat) (rest : List α), n ≤ a.length → a.length - n < k → rest.length = a.length - n → F k (a.take n ++ rest) n = some a := by
    intro k
    induction k with
    | zero => intro n rest h0 h1; omega
    | succ k ih =>
      intro n rest h0 h1 h2
      rw [hs]
      by_cases hn : n < a.length
      · cases rest with
        | nil => simp at h2; omega
        | cons x r =>
          have hl : (a.take n).length = n := by rw [List.length_take]; omega
          have hg : (a.take n ++ x :: r)[n]? = some x := by rw [List.getElem?_append_right (by omega), hl, Nat.sub_self]; rfl
          have hset : (a.take n ++ x :: r).set n a[n] = a.take (n + 1) ++ r := by
            rw [List.set_append_right _ _ (by omega), hl, Nat.sub_self, List.set_cons_zero, List.take_succ_eq_append_getElem hn, List.append_assoc]; rfl
          rw [decide_eq_true (by omega), getI_nat, getI_nat, List.getElem?_eq_getElem hn, hg]
          simp only [cond_true, Option.bind_some, Int.toNat_natCast]
          rw [hset, wI64 (by omega) (by omega), show ((n : Int) + 1) = ((n + 1 : Nat) : Int) by omega]
          exact ih (n + 1) r (by omega) (by omega) (by simp at h2; omega)
      · have : n = a.length := by omega
        subst this
        have : rest = [] := List.eq_nil_of_length_eq_zero (by omega)
        subst this
        rw [decide_eq_false (by omega), cond_false, List.take_length, List.append_nil]
  have h := key bigK 0 z (Nat.zero_le _) (by unfold bigK; omega) (by omega)
  rw [Int.natCast_zero, List.take_zero, List.nil_append] at h
  exact h
def iotaM {β : Type} (val : Int → β) : Nat → Nat → List β
  | _, 0 => []
  | k, n + 1 => val k :: iotaM val (k + 1) n
theorem iotaM_len {β : Type} (val : Int → β) : ∀ (n k : Nat), (iotaM val k n).length = n
  | 0, k => rfl
  | n + 1, k => by rw [iotaM, List.length_cons, iotaM_len val n]
theorem markLoop {β : Type} (val : Int → β) (F : Nat → List β → Int → Int → Option (List β × Int)) (N : Nat)
    (hs : ∀ (k : Nat) (a : List β) (kk n : Nat), n < a.length → a.length ≤ 16777216 → kk ≤ N → F (k + 1) a kk n = F k (a.set n (val kk)) ((kk + 1 : Nat) : Int) ((n + 1 : Nat) : Int))
    (he : ∀ (k : Nat) (a : List β) (kk n : Nat), a.length ≤ n → F (k + 1) a kk n = some (a, (kk : Int))) :
    ∀ (k : Nat) (done rest : List β) (kk : Nat), kk + rest.length ≤ N → done.length + rest.length ≤ 16777216 → rest.length < k → F k (done ++ rest) kk done.length = some (done ++ iotaM val kk rest.length, ((kk + rest.length : Nat) : Int)) := by
  intro k
  induction k with
  | zero => intro done rest kk h0 h1 h2; omega
  | succ k ih =>
    intro done rest kk h0 h1 h2
    cases rest with
    | nil => rw [he _ _ _ _ (by simp)]; simp [iotaM]
    | cons x r =>
      simp only [List.length_cons] at h0 h1 h2
      rw [hs _ _ _ _ (by simp) (by simp; omega) (by omega), List.set_append_right _ _ (Nat.le_refl _), Nat.sub_self, List.set_cons_zero]
      have := ih (done ++ [val kk]) r (kk + 1) (by omega) (by simp; omega) (by omega)
      simp only [List.append_assoc, List.singleton_append, List.length_append, List.length_singleton] at this
      rw [this]
      simp only [iotaM, List.length_cons]
      congr 3
      omega
theorem heldLoop {β : Type} (val : Int → β) {L : List β} (F : Nat → Int → Int → Option (Int ⊕ Unit)) (N : Nat)
    (hs : ∀ (k kk n : Nat) (h : n < L.length), kk ≤ N → L[n] = val kk → F (k + 1) kk n = F k ((kk + 1 : Nat) : Int) ((n + 1 : Nat) : Int))
    (he : ∀ (k kk n : Nat), L.length ≤ n → F (k + 1) kk n = some (.inl (kk : Int))) :
    ∀ (k : Nat) (done : List β) (kk m : Nat), L = done ++ iotaM val kk m → kk + m ≤ N → m < k → F k kk done.length = some (.inl ((kk + m : Nat) : Int)) := by
  intro k
  induction k with
  | zero => intro done kk m h0 h1 h2; omega
  | succ k ih =>
    intro done kk m h0 h1 h2
    cases m with
    | zero => rw [he _ _ _ (by rw [h0]; simp [iotaM])]; rfl
    | succ m =>
      have hl : done.length < L.length := by rw [h0]; simp [iotaM]
      have hg : L[done.length] = val kk := by
        have : L[done.length]? = some (val kk) := by rw [h0, List.getElem?_append_right (Nat.le_refl _), Nat.sub_self]; rfl
        rw [List.getElem?_eq_getElem hl] at this
        exact Option.some.inj this
      rw [hs _ _ _ hl (by omega) hg]
      have := ih (done ++ [val kk]) (kk + 1) m (by rw [h0, List.append_assoc]; rfl) (by omega) (by omega)
      rw [List.length_append, List.length_singleton] at this
      rw [this]
      congr 3
      omega
end Go.Fm

namespace Go.Proofs.Ythhoellakpnjpaa
open Go Go.Fm
set_option linter.unusedVariables false
set_option linter.unusedSimpArgs false
def U32 (xs : List Int) : Prop := ∀ x ∈ xs, 0 ≤ x ∧ x < 4294967296
theorem U32.app {xs ys : List Int} (h1 : U32 xs) (h2 : U32 ys) : U32 (xs ++ ys) := fun x hx => by
  rcases List.mem_append.1 hx with h | h
  · exact h1 x h
  · exact h2 x h
theorem U32.one {x : Int} (h : 0 ≤ x ∧ x < 4294967296) : U32 [x] := fun y hy => by simp at hy; subst hy; exact h
theorem U32.nil : U32 [] := fun x hx => by simp at hx
theorem U32.set {xs : List Int} {x : Int} {i : Nat} (h1 : U32 xs) (h : 0 ≤ x ∧ x < 4294967296) : U32 (xs.set i x) := fun y hy => by
  rcases List.mem_or_eq_of_mem_set hy with h2 | h2
  · exact h1 y h2
  · subst h2; exact h
theorem specIn_eq {x a b : Int} : g_spec_l01In x a b = some (decide (a ≤ x ∧ x ≤ b)) := by
  unfold g_spec_l01In
  by_cases h : x ≥ a
  · rw [decide_eq_true h]
    simp only [cond_true]
    congr 1
    exact decide_eq_decide.2 ⟨fun h2 => ⟨h, h2⟩, fun h2 => h2.2⟩
  · rw [decide_eq_false h]
    simp only [cond_false]
    congr 1
    exact (decide_eq_false fun h2 => h h2.1).symm
theorem specNum_ok {n : Int} {hex : Bool} {s l : Int} : Tot (g_spec_l04Num n hex s l) fun r => U32 r ∧ r.length ≤ 2 := by
  unfold g_spec_l04Num
  refine .bind (Q := fun _ => True) (.cond (fun _ => .some trivial) fun _ => .some trivial) fun a _ => .bind (Q := fun _ => True) (.condD (fun _ => .some trivial) fun _ => .some trivial) fun b _ => .cond (fun _ => .some ⟨.one (wU32_bd _), by simp⟩) fun _ => .some ⟨?_, by simp⟩
  exact (U32.one (wU32_bd _)).app (.one (wU32_bd _))
theorem specLetterOf_ok {b : Int} : Tot (g_spec_LetterOf b) fun r => -1 ≤ r ∧ r ≤ 47 := by
  unfold g_spec_LetterOf
  refine .bindE (a := _) rfl ?_
  have key : ∀ (k : Nat) (i : Int), 0 ≤ i → i ≤ 48 → 48 - i < k → Tot (g_spec_LetterOf_l0 b [32, 114, 116, 111, 101, 97, 110, 105, 115, 109, 99, 121, 108, 103, 102, 119, 100, 118, 112, 98, 104, 120, 117, 113, 48, 49, 50, 51, 52, 53, 54, 55, 56, 57, 106, 45, 107, 46, 122, 47, 59, 39, 33, 43, 64, 42, 44, 63] k i)
      fun r => match r with | .inl _ => True | .inr x => 0 ≤ x ∧ x ≤ 47 := by
    intro k
    induction k with
    | zero => intro i h0 h1 h2; omega
    | succ k ih =>
      intro i h0 h1 h2
      unfold g_spec_LetterOf_l0
      refine .condD (fun hi => ?_) fun _ => .some trivial
      have hi : i < 48 := by simpa using hi
      obtain ⟨v, hv, _⟩ := idxS_ex (l := [32, 114, 116, 111, 101, 97, 110, 105, 115, 109, 99, 121, 108, 103, 102, 119, 100, 118, 112, 98, 104, 120, 117, 113, 48, 49, 50, 51, 52, 53, 54, 55, 56, 57, 106, 45, 107, 46, 122, 47, 59, 39, 33, 43, 64, 42, 44, 63]) h0 (by simpa using hi)
      refine .bindE hv (.cond (fun _ => .some ⟨h0, by omega⟩) fun _ => ?_)
      rw [wI64 (x := i + 1) (by omega) (by omega)]
      exact ih _ (by omega) (by omega) (by omega)
  refine .bind (Q := fun r => match r with | .inl _ => True | .inr x => 0 ≤ x ∧ x ≤ 47) (.bind (key bigK 0 (by decide) (by decide) (by decide)) fun o ho => ?_) fun o ho => ?_
  · cases o with
    | inl _ => exact .some trivial
    | inr x => exact .some ho
  · cases o with
    | inl _ => exact .some ⟨by decide, by decide⟩
    | inr x => exact .some ⟨by have := ho.1; omega, ho.2⟩
theorem specNameOk_ok {s : Bs} (hs : s.length ≤ 1048576) : Tot (g_spec_NameOk s) fun r => r = true → 1 ≤ s.length ∧ s.length ≤ 24 := by
  unfold g_spec_NameOk
  refine .bindE specIn_eq (.cond (fun _ => .some fun h => nomatch h) fun hc => ?_)
  have hl : 1 ≤ s.length ∧ s.length ≤ 24 := by
    have : (1 : Int) ≤ s.length ∧ (s.length : Int) ≤ 24 := by simpa using hc
    omega
  have key : ∀ (k : Nat) (i : Int), 0 ≤ i → i ≤ s.length → s.length - i < k → Tot (g_spec_NameOk_l0 s k i) fun _ => True := by
    intro k
    induction k with
    | zero => intro i h0 h1 h2; omega
    | succ k ih =>
      intro i h0 h1 h2
      unfold g_spec_NameOk_l0
      refine .condD (fun hi => ?_) fun _ => .some trivial
      obtain ⟨v, hv, _⟩ := idxS_ex h0 hi
      refine .bindE hv (.bind specLetterOf_ok fun x hx => .condD (fun _ => .some trivial) fun _ => ?_)
      rw [wI64 (x := i + 1) (by omega) (by omega)]
      exact ih _ (by omega) (by omega) (by omega)
  refine .bind (Q := fun _ => True) (.bind (key bigK 0 (by decide) (by omega) (by unfold bigK; omega)) fun o ho => ?_) fun o ho => ?_
  · cases o <;> exact .some trivial
  · cases o <;> exact .some fun _ => hl
theorem specWidth_ok {k : Int} : Tot (g_spec_WidthOf k) fun w => 0 ≤ w ∧ w ≤ 7 := by
  unfold g_spec_WidthOf
  exact .bindE specIn_eq (.cond (fun _ => .some (by decide)) fun _ => .bindE specIn_eq (.cond (fun _ => .some (by decide)) fun _ => .bindE specIn_eq (.cond (fun _ => .some (by decide)) fun _ => .some (by decide))))
theorem specBits_ok {k : Int} : Tot (g_spec_BitsOf k) fun w => True := by
  unfold g_spec_BitsOf
  exact .bind specWidth_ok fun _ _ => .cond (fun _ => .some trivial) fun _ => .cond (fun _ => .some trivial) fun _ => .cond (fun _ => .some trivial) fun _ => .some trivial
theorem shl_ok {k : IntKind} {a b : Int} (h : 0 ≤ b) : Tot (shlI k a b) fun _ => True := by unfold shlI; rw [if_pos h]; exact .some trivial
theorem wU64_nn (x : Int) : 0 ≤ IntKind.wrap .u64 x := by simp [IntKind.wrap, IntKind.bits, IntKind.signed]; omega
theorem specOne_ok {s : Bs} (hs : 1 ≤ s.length ∧ s.length ≤ 24) : Tot (g_spec_l03One s) fun r => (0 ≤ r.1 ∧ r.1 < 4294967296) ∧ 1 ≤ r.2 ∧ r.2 ≤ s.length := by
  unfold g_spec_l03One
  have key : ∀ (k : Nat) (f left n : Int), 0 ≤ n → n ≤ s.length → 0 ≤ left → left ≤ 28 → (n = 0 → left = 28) → s.length - n < k → Tot (g_spec_l03One_l0 s k f left n) fun r => 1 ≤ r.2 ∧ r.2 ≤ s.length := by
    intro k
    induction k with
    | zero => intro f left n h0 h1 h2 h3 h4 h5; omega
    | succ k ih =>
      intro f left n h0 h1 h2 h3 h4 h5
      unfold g_spec_l03One_l0
      refine .condD (fun hi => ?_) fun hi => .some ⟨by omega, by omega⟩
      obtain ⟨v, hv, _⟩ := idxS_ex h0 hi
      refine .bindE hv (.bind specLetterOf_ok fun x hx => .bind specWidth_ok fun w hw => .condD (fun hc => .some ⟨?_, by omega⟩) fun hc => .bind specBits_ok fun b _ => .bind (shl_ok (wU64_nn _)) fun d _ => ?_)
      · by_cases hn : n = 0
        · have := h4 hn; omega
        · show 1 ≤ n; omega
      · rw [wI64 (x := n + 1) (by omega) (by omega), wI64 (x := left - w) (by omega) (by omega)]
        exact ih _ _ _ (by omega) (by omega) (by omega) (by omega) (by omega) (by omega)
  exact .bind (key bigK 0 28 0 (by decide) (by omega) (by decide) (by decide) (fun _ => rfl) (by unfold bigK; omega)) fun r hr => .some ⟨wU32_bd _, hr.1, hr.2⟩
theorem specPack_ok {s : Bs} (hs : s.length ≤ 1048576) : Tot (g_spec_Pack s) fun r => U32 r ∧ r.length ≤ 24 := by
  unfold g_spec_Pack
  refine .bind (specNameOk_ok hs) fun a ha => .cond (fun _ => .some ⟨.nil, by simp⟩) fun hc => ?_
  have hl := ha (by simpa using hc)
  have key : ∀ (k : Nat) (x : Bs) (out : List Int), x.length ≤ 24 → U32 out → out.length + x.length ≤ 24 → x.length < k → Tot (g_spec_Pack_l0 k x out) fun r => U32 r ∧ r.length ≤ 24 := by
    intro k
    induction k with
    | zero => intro x out h0 h1 h2 h3; omega
    | succ k ih =>
      intro x out h0 h1 h2 h3
      unfold g_spec_Pack_l0
      refine .cond (fun hx => ?_) fun _ => .some ⟨h1, by omega⟩
      have hx1 : 1 ≤ x.length := by
        have : x ≠ [] := by simpa using hx
        have := List.length_pos_iff.2 this
        omega
      refine .bind (specOne_ok ⟨hx1, h0⟩) fun r hr => .bindE (app_eq (by simp; omega)) (.bindE (subL_drop (by omega) hr.2.2) ?_)
      have hd : (x.drop r.2.toNat).length = x.length - r.2.toNat := List.length_drop
      exact ih _ _ (by omega) (h1.app (.one hr.1)) (by rw [List.length_append, hd, List.length_singleton]; omega) (by omega)
  exact .bind (key bigK s [] hl.2 .nil (by simp; omega) (by unfold bigK; omega)) fun r hr => .some hr
theorem specWord_ok {tag : Int} {s : Bs} (hs : s.length ≤ 1048576) : Tot (g_spec_l04Word tag s) fun r => U32 r ∧ r.length ≤ 24 := by
  unfold g_spec_l04Word
  refine .bind (specPack_ok hs) fun a ha => ?_
  have key : ∀ (k : Nat) (out : List Int) (i : Int), U32 out → out.length ≤ 24 → 0 ≤ i → i ≤ out.length → out.length - i < k → Tot (g_spec_l04Word_l0 tag k out i) fun r => U32 r ∧ r.length ≤ 24 := by
    intro k
    induction k with
    | zero => intro out i h0 h1 h2 h3 h4; omega
    | succ k ih =>
      intro out i h0 h1 h2 h3 h4
      unfold g_spec_l04Word_l0
      refine .condD (fun hi => ?_) fun _ => .some ⟨h0, h1⟩
      obtain ⟨v, hv, _⟩ := getI_ex h2 hi
      refine .bind (Q := fun o => U32 o ∧ o.length = out.length) (.bindE hv (.cond (fun _ => ?_) fun _ => .some ⟨h0.set (wU32_bd _), by simp⟩)) fun o ho => ?_
      · obtain ⟨u, hu, _⟩ := getI_ex (xs := out.set i.toNat (IntKind.wrap .u32 (v * 16))) h2 (by simpa using hi)
        exact .bindE hu (.some ⟨(h0.set (wU32_bd _)).set (wU32_bd _), by simp⟩)
      · rw [wI64 (x := i + 1) (by omega) (by omega)]
        exact ih _ _ ho.1 (by omega) (by omega) (by omega) (by omega)
  exact .bind (.bind (key bigK a 0 ha.1 ha.2 (by decide) (by omega) (by unfold bigK; omega)) fun r hr => .some hr) fun r hr => .some hr
end Go.Proofs.Ythhoellakpnjpaa

namespace Go.Proofs.Ythhoellakpnjpaa
open Go Go.Fm
set_option linter.unusedVariables false
set_option linter.unusedSimpArgs false
theorem andU {a b : Int} (a0 : 0 ≤ a) (a1 : a < 4294967296) (b0 : 0 ≤ b) (b1 : b < 4294967296) : andI .u32 a b = ((a.toNat &&& b.toNat : Nat) : Int) := by
  unfold andI
  rw [BitVec.toNat_and, bB_toNat (k := .u32) a0 a1, bB_toNat (k := .u32) b0 b1]
  have : a.toNat &&& b.toNat ≤ b.toNat := Nat.and_le_right
  exact wU32 (Int.natCast_nonneg _) (by omega)
theorem orU {a b : Int} (a0 : 0 ≤ a) (a1 : a < 4294967296) (b0 : 0 ≤ b) (b1 : b < 4294967296) : orI .u32 a b = ((a.toNat ||| b.toNat : Nat) : Int) := by
  unfold orI
  rw [BitVec.toNat_or, bB_toNat (k := .u32) a0 a1, bB_toNat (k := .u32) b0 b1]
  have : a.toNat ||| b.toNat < 2 ^ 32 := Nat.or_lt_two_pow (by omega) (by omega)
  exact wU32 (Int.natCast_nonneg _) (by omega)
theorem and15 {v : Int} (h0 : 0 ≤ v) (h1 : v < 4294967296) : andI .u32 v 15 = v % 16 := by
  rw [andU h0 h1 (by decide) (by decide)]
  have : v.toNat &&& 15 = v.toNat % 16 := Nat.and_two_pow_sub_one_eq_mod v.toNat 4
  show ((v.toNat &&& 15 : Nat) : Int) = _
  rw [this]; omega
theorem and16 {v : Int} (h0 : 0 ≤ v) (h1 : v < 4294967296) : (andI .u32 v 16 != 0) = decide (v / 16 % 2 = 1) := by
  rw [andU h0 h1 (by decide) (by decide)]
  show ((((v.toNat &&& 16 : Nat) : Int)) != 0) = _
  have h2 : v.toNat &&& 16 = 16 * (v.toNat / 16 % 2) := by
    have e1 : v.toNat &&& 16 = (v.toNat &&& 31) &&& 16 := by rw [Nat.and_assoc]; rfl
    have e2 : v.toNat &&& 31 = v.toNat % 32 := Nat.and_two_pow_sub_one_eq_mod v.toNat 5
    have e3 : ∀ r, r < 32 → r &&& 16 = 16 * (r / 16) := by decide
    rw [e1, e2, e3 _ (Nat.mod_lt _ (by decide))]
    omega
  rw [h2]
  by_cases h : v / 16 % 2 = 1
  · rw [decide_eq_true h]
    have : v.toNat / 16 % 2 = 1 := by omega
    rw [this]; rfl
  · rw [decide_eq_false h]
    have : v.toNat / 16 % 2 = 0 := by omega
    rw [this]; rfl
/-- Low bits laid beside high ones. -/
theorem or_low {q r : Nat} (i : Nat) (hr : r < 2 ^ i) : (2 ^ i * q) ||| r = 2 ^ i * q + r := (Nat.two_pow_add_eq_or_of_lt hr q).symm
theorem or16 {v t : Int} (h0 : 0 ≤ v) (h1 : v < 268435456) (t0 : 0 ≤ t) (t1 : t < 16) : orI .u32 (IntKind.wrap .u32 (v * 16)) t = v * 16 + t := by
  rw [wU32 (by omega) (by omega), orU (by omega) (by omega) t0 (by omega)]
  have e : (v * 16).toNat = 2 ^ 4 * v.toNat := by omega
  rw [e, or_low 4 (by omega)]
  omega
theorem within_eq {x a b : Int} : g_impl_within x a b = some (decide (a ≤ x ∧ x ≤ b)) := by
  unfold g_impl_within
  by_cases h : a ≤ x
  · rw [decide_eq_true h]
    simp only [cond_true]
    congr 1
    exact decide_eq_decide.2 ⟨fun h2 => ⟨h, h2⟩, fun h2 => h2.2⟩
  · rw [decide_eq_false h]
    simp only [cond_false]
    congr 1
    exact (decide_eq_false fun h2 => h h2.1).symm
theorem width_ok {k : Int} : Tot (g_impl_WidthOf k) fun w => 0 ≤ w ∧ w ≤ 7 ∧ (0 ≤ k → k ≤ 47 → 4 ≤ w) := by
  unfold g_impl_WidthOf
  refine .bindE within_eq (.condD (fun _ => .some (by omega)) fun h1 => .bindE within_eq (.condD (fun _ => .some (by omega)) fun h2 => .bindE within_eq (.condD (fun _ => .some (by omega)) fun h3 => .some (by omega))))
theorem bits_ok {k : Int} : Tot (g_impl_BitsOf k) fun w => True := by
  unfold g_impl_BitsOf
  exact .bind width_ok fun _ _ => .cond (fun _ => .some trivial) fun _ => .cond (fun _ => .some trivial) fun _ => .cond (fun _ => .some trivial) fun _ => .some trivial
theorem shr_ok {k : IntKind} {a b : Int} (h : 0 ≤ b) : Tot (shrI k a b) fun _ => True := by unfold shrI; rw [if_pos h]; exact .some trivial
def DC (n : Int) (o : Unit ⊕ (Int × Int)) : Prop := match o with | .inl _ => True | .inr r => r.1 ≤ 47 ∧ 4 ≤ r.2 ∧ r.2 ≤ n
theorem decode_ok {f n : Int} : Tot (g_impl_Decode f n) fun r => r.1 ≤ 47 ∧ (1 ≤ r.1 → 4 ≤ r.2 ∧ r.2 ≤ n) := by
  unfold g_impl_Decode
  refine .bindE within_eq (.cond (fun _ => .some ⟨by decide, fun h => absurd h (by decide)⟩) fun hc => ?_)
  have hn : 1 ≤ n ∧ n ≤ 32 := by simpa using hc
  have key : ∀ (k : Nat) (i : Int), 0 ≤ i → i ≤ 48 → 48 - i < k → Tot (g_impl_Decode_l0 f n k i) (DC n) := by
    intro k
    induction k with
    | zero => intro i h0 h1 h2; omega
    | succ k ih =>
      intro i h0 h1 h2
      unfold g_impl_Decode_l0
      refine .condD (fun hi => .bind width_ok fun w hw => .bind (Q := fun b => b = true → w ≤ n) (.condD (fun hc => ?_) fun _ => .some fun h => nomatch h) fun b hb => .cond (fun hb2 => .some ⟨by show i ≤ 47; omega, hw.2.2 h0 (by omega), hb hb2⟩) fun _ => ?_) fun _ => .some trivial
      · rw [wI64 (x := n - w) (by omega) (by omega)]
        exact .bind (shr_ok (by omega)) fun _ _ => .bind (shl_ok (by omega)) fun _ _ => .bind bits_ok fun _ _ => .some fun _ => hc
      · rw [wI64 (x := i + 1) (by omega) (by omega)]
        exact ih _ (by omega) (by omega) (by omega)
  refine .bind (Q := DC n) (.bind (key bigK 0 (by decide) (by decide) (by decide)) fun o ho => ?_) fun o ho => ?_
  · cases o <;> exact .some ho
  · cases o with
    | inl _ => exact .some ⟨by decide, fun h => absurd h (by decide)⟩
    | inr r => exact .some ⟨ho.1, fun _ => ho.2⟩
def Letters : Bs := [32, 114, 116, 111, 101, 97, 110, 105, 115, 109, 99, 121, 108, 103, 102, 119, 100, 118, 112, 98, 104, 120, 117, 113, 48, 49, 50, 51, 52, 53, 54, 55, 56, 57, 106, 45, 107, 46, 122, 47, 59, 39, 33, 43, 64, 42, 44, 63]
theorem letters_len : Letters.length = 48 := rfl
theorem letterAt_ok {k : Int} : Tot (g_impl_LetterAt k) fun v => 0 ≤ v ∧ v < 256 := by
  unfold g_impl_LetterAt
  refine .bindE within_eq (.cond (fun _ => .some (by decide)) fun hc => ?_)
  have hk : 0 ≤ k ∧ k ≤ 47 := by simpa using hc
  obtain ⟨v, hv, h0, h1, _⟩ := idxS_ex (l := Letters) (i := k) hk.1 (by rw [letters_len]; omega)
  exact .bindE (a := Letters) rfl (.bindE hv (.some ⟨h0, h1⟩))
theorem unpackOne_ok {f : Int} : Tot (g_impl_UnpackOne f) fun r => r.length ≤ 7 := by
  unfold g_impl_UnpackOne
  refine .condD (fun _ => .some (by simp)) fun _ => ?_
  have key : ∀ (k : Nat) (out : List Int) (left : Int), 0 ≤ left → left ≤ 28 → (out.length : Int) * 4 ≤ 28 - left → left < k → Tot (g_impl_UnpackOne_l0 f k out left) fun r => r.length ≤ 7 := by
    intro k
    induction k with
    | zero => intro out left h0 h1 h2 h3; omega
    | succ k ih =>
      intro out left h0 h1 h2 h3
      unfold g_impl_UnpackOne_l0
      refine .bind (shl_ok h0) fun s _ => .cond (fun _ => .bind decode_ok fun d hd => .condD (fun _ => .some (by omega)) fun h1 => .bind letterAt_ok fun v _ => .bindE (app_eq (by simp; omega)) ?_) fun _ => .some (by omega)
      have := hd.2 (by omega)
      rw [wI64 (x := left - d.2) (by omega) (by omega)]
      exact ih _ _ (by omega) (by omega) (by simp; omega) (by omega)
  refine .bind (key bigK [] 28 (by decide) (by decide) (by decide) (by decide)) fun r hr => .some ?_
  show (strOf r).length ≤ 7
  unfold strOf; rw [List.length_map]; exact hr
theorem idxB_bd {l : List UInt8} {c : Int} : -1 ≤ idxB l c ∧ idxB l c < l.length := by
  unfold idxB
  cases h : l.findIdx? (fun b => (b.toNat : Int) == c) with
  | none => exact ⟨by decide, by show (-1 : Int) < _; omega⟩
  | some i =>
    have := (List.findIdx?_eq_some_iff_getElem.1 h).1
    exact ⟨by show (-1 : Int) ≤ (i : Int); omega, by show (i : Int) < _; omega⟩
theorem letterOf_ok {b : Int} (h0 : 0 ≤ b) (h1 : b < 256) : Tot (g_impl_LetterOf b) fun r => -1 ≤ r ∧ r ≤ 47 := by
  unfold g_impl_LetterOf g_strings_IndexByte g_istringslite_IndexByte g_ibytealg_IndexByteString gIdxB
  refine .bindE (a := Letters) rfl (.bind (Q := fun r => -1 ≤ r ∧ r ≤ 47) (.bind (Q := fun r => -1 ≤ r ∧ r ≤ 47) ?_ fun r h => .some h) fun r h => .some h)
  refine .bind (Q := fun r => -1 ≤ r ∧ r ≤ 47) ?_ fun r h => .some h
  rw [if_pos ⟨h0, h1⟩]
  refine .some ⟨idxB_bd.1, ?_⟩
  have := (idxB_bd (l := Letters) (c := b)).2
  rw [letters_len] at this
  omega
theorem nameOk_ok {s : Bs} (hs : s.length ≤ 1048576) : Tot (g_impl_NameOk s) fun r => r = true → 1 ≤ s.length ∧ s.length ≤ 24 := by
  unfold g_impl_NameOk
  have key : ∀ (k : Nat) (i : Int), 0 ≤ i → i ≤ s.length → s.length - i < k → Tot (g_impl_NameOk_l0 s k i) fun _ => True := by
    intro k
    induction k with
    | zero => intro i h0 h1 h2; omega
    | succ k ih =>
      intro i h0 h1 h2
      unfold g_impl_NameOk_l0
      refine .condD (fun hi => ?_) fun _ => .some trivial
      obtain ⟨v, hv, v0, v1, _⟩ := idxS_ex h0 hi
      refine .bindE hv (.bind (letterOf_ok v0 v1) fun x hx => .condD (fun _ => .some trivial) fun _ => ?_)
      rw [wI64 (x := i + 1) (by omega) (by omega)]
      exact ih _ (by omega) (by omega) (by omega)
  refine .bind (Q := fun _ => True) (.bind (key bigK 0 (by decide) (by omega) (by unfold bigK; omega)) fun o ho => ?_) fun o ho => ?_
  · cases o <;> exact .some trivial
  · cases o with
    | inl _ => exact .bindE within_eq (.some fun h => by have := of_decide_eq_true h; omega)
    | inr _ => exact .some fun h => nomatch h
theorem packOne_ok {s : Bs} (hs : s.length ≤ 1048576) : Tot (g_impl_PackOne s) fun r => (0 ≤ r.1 ∧ r.1 < 4294967296) ∧ 0 ≤ r.2 ∧ r.2 ≤ s.length ∧ (g_impl_NameOk s = some true → 1 ≤ r.2) := by
  unfold g_impl_PackOne
  obtain ⟨b, hb, hl⟩ := nameOk_ok hs
  rw [hb]
  refine .bindE rfl (.cond (fun hc => .some ⟨by decide, by decide, by show (0 : Int) ≤ _; omega, fun h => by cases h; cases hc⟩) fun hc => ?_)
  have hb1 : b = true := by simpa using hc
  have hs1 := hl hb1
  have key : ∀ (k : Nat) (f left many n : Int), 0 ≤ n → n ≤ s.length → 0 ≤ left → left ≤ 28 → (n = 0 → left = 28) → many = n → (0 ≤ f ∧ f < 4294967296) → s.length - n < k →
      Tot (g_impl_PackOne_l0 s k f left many n) fun r => (0 ≤ r.1 ∧ r.1 < 4294967296) ∧ 1 ≤ r.2 ∧ r.2 ≤ s.length := by
    intro k
    induction k with
    | zero => intro f left many n h0 h1 h2 h3 h4 h5 h6 h7; omega
    | succ k ih =>
      intro f left many n h0 h1 h2 h3 h4 h5 h6 h7
      unfold g_impl_PackOne_l0
      refine .condD (fun hi => ?_) fun hi => .some ⟨h6, by show 1 ≤ many; omega, by show many ≤ _; omega⟩
      obtain ⟨v, hv, v0, v1, _⟩ := idxS_ex h0 hi
      refine .bindE hv (.bind (letterOf_ok v0 v1) fun x hx => ?_)
      obtain ⟨w, hw, hw0, hw1, _⟩ := width_ok (k := x)
      refine .bindE hw (.condD (fun hc => .some ⟨h6, ?_, by show many ≤ _; omega⟩) fun hc => .bindE hw (.bind bits_ok fun b _ => ?_))
      · show 1 ≤ many
        by_cases hn : n = 0
        · have := h4 hn; omega
        · omega
      · rw [wI64 (x := n + 1) (by omega) (by omega), wI64 (x := left - w) (by omega) (by omega), wI64 (x := many + 1) (by omega) (by omega)]
        refine .bind (shl_ok (by omega)) fun d _ => ih _ _ _ _ (by omega) (by omega) (by omega) (by omega) (by omega) (by omega) (wU32_bd _) (by omega)
  refine .bind (Q := fun r : Int × Int => (0 ≤ r.1 ∧ r.1 < 4294967296) ∧ 1 ≤ r.2 ∧ r.2 ≤ s.length) (.bind (key bigK 0 28 0 0 (by decide) (by omega) (by decide) (by decide) (fun _ => rfl) rfl (by decide) (by unfold bigK; omega)) fun r hr => .some hr) fun r hr => .some ⟨hr.1, by have := hr.2.1; show 0 ≤ r.2; omega, hr.2.2, fun _ => hr.2.1⟩
theorem pack_ok {s : Bs} (hs : s.length ≤ 1048576) : Tot (g_impl_Pack s) fun r => U32 r ∧ r.length ≤ 24 := by
  unfold g_impl_Pack
  have key : ∀ (k : Nat) (x : Bs) (out : List Int), x.length ≤ 1048576 → U32 out → (out = [] ∨ out.length + x.length ≤ 24) → x.length < k → Tot (g_impl_Pack_l0 k x out) fun r => U32 r ∧ r.length ≤ 24 := by
    intro k
    induction k with
    | zero => intro x out h0 h1 h2 h3; omega
    | succ k ih =>
      intro x out h0 h1 h2 h3
      unfold g_impl_Pack_l0
      obtain ⟨b, hb, hl⟩ := nameOk_ok h0
      have ho : out.length ≤ 24 := by
        rcases h2 with rfl | h2
        · simp
        · omega
      refine .bindE hb (.cond (fun hc => ?_) fun _ => .some ⟨h1, ho⟩)
      subst hc
      have hx := hl rfl
      have h2' : out.length + x.length ≤ 24 := by
        rcases h2 with rfl | h2
        · simpa using hx.2
        · exact h2
      refine .bind (packOne_ok h0) fun r hr => .bindE (app_eq (by simp; omega)) (.bindE (subL_drop hr.2.1 hr.2.2.1) ?_)
      have h4 := hr.2.2.2 hb
      have hd : (x.drop r.2.toNat).length = x.length - r.2.toNat := List.length_drop
      exact ih _ _ (by omega) (h1.app (.one hr.1)) (.inr (by rw [List.length_append, hd, List.length_singleton]; omega)) (by omega)
  exact .bind (key bigK s [] hs .nil (.inl rfl) (by unfold bigK; omega)) fun r hr => .some hr
end Go.Proofs.Ythhoellakpnjpaa

namespace Go.Proofs.Ythhoellakpnjpaa
open Go Go.Fm
set_option linter.unusedVariables false
set_option linter.unusedSimpArgs false
theorem eqU_l0 {a b : List Int} (hl : a.length = b.length) (hm : a.length ≤ 1048576) : ∀ (k n : Nat), n ≤ a.length → a.length - n < k →
    g_slices_Equal_uint32_l0 a b k n = some (if a.drop n = b.drop n then .inl () else .inr ()) := by
  intro k
  induction k with
  | zero => intro n h0 h1; omega
  | succ k ih =>
    intro n h0 h1
    unfold g_slices_Equal_uint32_l0
    by_cases hn : n < a.length
    · have hn' : n < b.length := by omega
      rw [decide_eq_true (by omega), getI_nat, getI_nat, List.getElem?_eq_getElem hn, List.getElem?_eq_getElem hn', List.drop_eq_getElem_cons hn, List.drop_eq_getElem_cons hn']
      simp only [cond_true, Option.bind_some]
      by_cases he : a[n] = b[n]
      · have : (a[n] != b[n]) = false := by rw [he]; simp
        rw [this, cond_false, wI64 (by omega) (by omega), show ((n : Int) + 1) = ((n + 1 : Nat) : Int) by omega, ih (n + 1) (by omega) (by omega), he]
        simp only [List.cons.injEq, true_and]
      · have : (a[n] != b[n]) = true := by simpa using he
        rw [this, cond_true, if_neg (fun h => he (List.cons.inj h).1)]
    · rw [decide_eq_false (by omega), cond_false, List.drop_eq_nil_of_le (by omega), List.drop_eq_nil_of_le (by omega), if_pos rfl]
theorem eqU {a b : List Int} (hm : a.length ≤ 1048576) : g_slices_Equal_uint32 a b = some (decide (a = b)) := by
  unfold g_slices_Equal_uint32
  by_cases hl : a.length = b.length
  · have : ((a.length : Int) != (b.length : Int)) = false := by rw [hl]; simp
    rw [this, cond_false]
    have h := eqU_l0 hl hm bigK 0 (Nat.zero_le _) (by unfold bigK; omega)
    rw [show ((0 : Nat) : Int) = 0 from rfl] at h
    rw [h]
    by_cases he : a = b
    · simp [he]
    · simp [he]
  · have : ((a.length : Int) != (b.length : Int)) = true := by simp; omega
    rw [this, cond_true, decide_eq_false (fun h => hl (by rw [h]))]
theorem unpack_ok {l : List Int} : Tot (g_impl_Unpack l) fun r => r.1.length ≤ 168 ∧ (r.2 = true → g_impl_Pack r.1 = some l) := by
  unfold g_impl_Unpack
  refine .condD (fun _ => .some ⟨by simp, fun h => nomatch h⟩) fun hl => ?_
  have hl : l.length ≤ 24 := by omega
  have key : ∀ (k : Nat) (name : Bs) (i : Int), 0 ≤ i → i ≤ l.length → (name.length : Int) ≤ 7 * i → l.length - i < k → Tot (g_impl_Unpack_l0 l k name i) fun r => r.length ≤ 168 := by
    intro k
    induction k with
    | zero => intro name i h0 h1 h2 h3; omega
    | succ k ih =>
      intro name i h0 h1 h2 h3
      unfold g_impl_Unpack_l0
      refine .condD (fun hi => ?_) fun _ => .some (by omega)
      obtain ⟨v, hv, _⟩ := getI_ex h0 hi
      refine .bindE hv (.bind unpackOne_ok fun s hs => .bindE (catS_eq (by omega)) ?_)
      rw [wI64 (x := i + 1) (by omega) (by omega)]
      exact ih _ _ (by omega) (by omega) (by rw [List.length_append]; omega) (by omega)
  refine .bind (.bind (key bigK [] 0 (by decide) (by omega) (by decide) (by unfold bigK; omega)) fun r hr => .some hr) fun name hn => ?_
  refine .bind (Q := fun b => b = false → g_impl_Pack name = some l) (.bind (nameOk_ok (by omega)) fun b _ => .cond (fun _ => .some fun h => nomatch h) fun _ => ?_) fun b hb => .cond (fun _ => .some ⟨by simp, fun h => nomatch h⟩) fun h => .some ⟨hn, fun _ => hb h⟩
  obtain ⟨p, hp, _, hpl⟩ := pack_ok (s := name) (by omega)
  refine .bindE hp (.bindE (eqU (by omega)) (.some fun h => ?_))
  have : p = l := by simpa using h
  rw [hp, this]
/-- The tags of names, and their kinds. -/
theorem nameKind_eq {t : Int} (h : t = 1 ∨ t = 3 ∨ t = 4 ∨ t = 9 ∨ t = 10 ∨ t = 11) : ∃ k, g_impl_nameKind t = some k ∧ g_impl_nameTag k = some t ∧ k ≠ 0 := by
  rcases h with rfl | rfl | rfl | rfl | rfl | rfl
  · exact ⟨1, by kernel_rfl, by kernel_rfl, by decide⟩
  · exact ⟨2, by kernel_rfl, by kernel_rfl, by decide⟩
  · exact ⟨3, by kernel_rfl, by kernel_rfl, by decide⟩
  · exact ⟨4, by kernel_rfl, by kernel_rfl, by decide⟩
  · exact ⟨5, by kernel_rfl, by kernel_rfl, by decide⟩
  · exact ⟨6, by kernel_rfl, by kernel_rfl, by decide⟩
theorem cells_raw {v : Int} : g_impl_CellsOf ⟨0, [], 0, false, v⟩ = some [v] := by
  unfold g_impl_CellsOf
  have h0 : g_impl_nameTag 0 = some 0 := by kernel_rfl
  simp [h0]
/-- A name's cells. -/
def nameCells (t : Int) : List Int → List Int
  | [] => []
  | f :: r => (orI .u32 (IntKind.wrap .u32 (f * 16)) t) :: r.map fun f => orI .u32 (IntKind.wrap .u32 (f * 16)) 0
theorem cells_l0 {fs : List Int} (hl : fs.length ≤ 24) : ∀ (k n : Nat) (t : Int) (out : List Int), n ≤ fs.length → fs.length - n < k → out.length = n → (1 ≤ n → t = 0) →
    g_impl_CellsOf_l0 fs k t out n = some (out ++ nameCells t (fs.drop n)) := by
  intro k
  induction k with
  | zero => intro n t out h0 h1 h2 h3; omega
  | succ k ih =>
    intro n t out h0 h1 h2 h3
    unfold g_impl_CellsOf_l0
    by_cases hn : n < fs.length
    · rw [decide_eq_true (by omega), getI_nat, List.getElem?_eq_getElem hn, List.drop_eq_getElem_cons hn]
      simp only [cond_true, Option.bind_some]
      rw [app_eq (by simp; omega), Option.bind_some, wI64 (by omega) (by omega), show ((n : Int) + 1) = ((n + 1 : Nat) : Int) by omega, ih (n + 1) 0 _ (by omega) (by omega) (by simp [h2]) (fun _ => rfl)]
      congr 1
      rw [List.append_assoc]
      congr 1
      simp only [nameCells, List.singleton_append]
      congr 1
      cases fs.drop (n + 1) with
      | nil => rfl
      | cons x r => rfl
    · rw [decide_eq_false (by omega), cond_false, List.drop_eq_nil_of_le (by omega)]
      simp [nameCells]
theorem cells_name {kd t : Int} {name : Bs} {fs : List Int} (ht : g_impl_nameTag kd = some t) (h0 : 0 < t) (hp : g_impl_Pack name = some fs) (hl : fs.length ≤ 24) :
    g_impl_CellsOf ⟨kd, name, 0, false, 0⟩ = some (nameCells t fs) := by
  unfold g_impl_CellsOf
  have := cells_l0 hl bigK 0 t [] (Nat.zero_le _) (by unfold bigK; omega) rfl (fun h => by omega)
  simp only [Int.natCast_zero, List.drop_zero, List.nil_append] at this
  simp [ht, hp, h0, this]
theorem cells_7 {n : Int} {hex : Bool} : g_impl_CellsOf ⟨7, [], n, hex, 0⟩ = g_impl_numberCells n hex 8 2 := by
  unfold g_impl_CellsOf
  have h0 : g_impl_nameTag 7 = some 0 := by kernel_rfl
  simp [h0]
  cases g_impl_numberCells n hex 8 2 <;> rfl
theorem cells_8 {n : Int} {hex : Bool} : g_impl_CellsOf ⟨8, [], n, hex, 0⟩ = g_impl_numberCells n hex 6 5 := by
  unfold g_impl_CellsOf
  have h0 : g_impl_nameTag 8 = some 0 := by kernel_rfl
  simp [h0]
  cases g_impl_numberCells n hex 6 5 <;> rfl
theorem cells_9 {n f : Int} {name : Bs} (hp : g_impl_Pack name = some [f]) : g_impl_CellsOf ⟨9, name, n, false, 0⟩ = some [orI .u32 (IntKind.wrap .u32 (f * 16)) 12, IntKind.wrap .u32 n] := by
  unfold g_impl_CellsOf
  have h0 : g_impl_nameTag 9 = some 0 := by kernel_rfl
  have h1 : getI [f] 0 = some f := rfl
  simp [h0, hp, h1]
theorem num_ok {n : Int} {hex : Bool} {s l : Int} : Tot (g_impl_numberCells n hex s l) fun r => U32 r ∧ r.length ≤ 2 := by
  unfold g_impl_numberCells
  refine .bind (Q := fun _ => True) (.cond (fun _ => .some trivial) fun _ => .some trivial) fun a _ => .bind (Q := fun _ => True) (.condD (fun _ => .some trivial) fun _ => .some trivial) fun b _ => .cond (fun _ => .some ⟨.one (wU32_bd _), by simp⟩) fun _ => .some ⟨?_, by simp⟩
  exact (U32.one (wU32_bd _)).app (.one (wU32_bd _))
end Go.Proofs.Ythhoellakpnjpaa

namespace Go.Proofs.Ythhoellakpnjpaa
open Go Go.Fm
set_option linter.unusedVariables false
set_option linter.unusedSimpArgs false
def runP (c : Int) : Bool := c != 0 && c % 16 == 0
theorem scan_l0 {tl : List Int} (hu : U32 tl) (hl : tl.length ≤ 64) : ∀ (k n : Nat) (fields : List Int), n ≤ tl.length → tl.length - n < k → fields.length + (tl.length - n) ≤ 65 →
    g_impl_parseOne_l0 tl k fields n = some (fields ++ ((tl.drop n).takeWhile runP).map (· / 16)) := by
  intro k
  induction k with
  | zero => intro n fields h0 h1; omega
  | succ k ih =>
    intro n fields h0 h1 h2
    unfold g_impl_parseOne_l0
    by_cases hn : n < tl.length
    · have hx := hu tl[n] (List.getElem_mem hn)
      rw [decide_eq_true (by omega), getI_nat, List.getElem?_eq_getElem hn, List.drop_eq_getElem_cons hn]
      simp only [cond_true, Option.bind_some]
      rw [and15 hx.1 hx.2]
      have hc : (cond (tl[n] == 0) (some true) (some (tl[n] % 16 != 0)) : Option Bool) = some (!runP tl[n]) := by
        have h : ∀ a b : Bool, (cond a (some true) (some (!b)) : Option Bool) = some (!(!a && b)) := by decide
        exact h _ _
      rw [hc, Option.bind_some]
      cases hr : runP tl[n] with
      | true =>
        simp only [Bool.not_true, cond_false]
        rw [app_eq (by simp; omega), Option.bind_some, wI64 (by omega) (by omega), show ((n : Int) + 1) = ((n + 1 : Nat) : Int) by omega, ih (n + 1) _ (by omega) (by omega) (by simp; omega), List.takeWhile_cons, hr]
        simp
      | false =>
        simp only [Bool.not_false, cond_true]
        rw [List.takeWhile_cons, hr]
        simp
    · rw [decide_eq_false (by omega), cond_false, List.drop_eq_nil_of_le (by omega)]
      simp
def isName (t : Int) : Bool := t == 1 || (t == 3 || (t == 4 || (t == 9 || (t == 10 || t == 11))))
theorem chain (t : Int) : (cond (t == 1) (some (t == 1)) (cond (t == 3) (some (t == 3)) (cond (t == 4) (some (t == 4)) (cond (t == 9) (some (t == 9)) (cond (t == 10) (some (t == 10)) (some (t == 11)))))) : Option Bool) = some (isName t) := by
  unfold isName
  cases t == 1 <;> cases t == 3 <;> cases t == 4 <;> cases t == 9 <;> cases t == 10 <;> rfl
theorem chain2 (t : Int) : (cond (t == 2) (some (t == 2)) (some (t == 5)) : Option Bool) = some (t == 2 || t == 5) := by cases t == 2 <;> rfl
def raw (v : Int) : GItem := ⟨0, [], 0, false, v⟩
def lng (v w : Int) : GItem := cond (v % 16 == 5) ⟨8, [], IntKind.wrap .i32 w, andI .u32 v 16 != 0, 0⟩ ⟨7, [], IntKind.wrap .i32 w, andI .u32 v 16 != 0, 0⟩
/-- An item by its first cell, the cells that go on with a name, and the next cell. -/
def pm (v : Int) (run : List Int) (nx : Option Int) : Option GItem :=
  cond (isName (v % 16)) ((g_impl_Unpack (v / 16 :: run.map (· / 16))).bind fun y => cond y.2 ((g_impl_nameKind (v % 16)).bind fun k => some ⟨k, y.1, 0, false, 0⟩) (some (raw v)))
  (cond (v % 16 == 8) (some ⟨7, [], IntKind.wrap .i32 v / 32, andI .u32 v 16 != 0, 0⟩) (cond (v % 16 == 6) (some ⟨8, [], IntKind.wrap .i32 v / 32, andI .u32 v 16 != 0, 0⟩)
  (cond (v % 16 == 2 || v % 16 == 5) (match nx with
    | none => some (raw v)
    | some w => (g_impl_CellsOf (lng v w)).bind fun y => cond (decide (y = [v, w])) (some (lng v w)) (some (raw v)))
  (cond (v % 16 == 12) (match nx with
    | none => some (raw v)
    | some w => (g_impl_FieldOk (v / 16)).bind fun b => cond b ((g_impl_UnpackOne (v / 16)).bind fun nm => some ⟨9, nm, IntKind.wrap .i32 w, false, 0⟩) (some (raw v))) (some (raw v))))))
theorem lng_cells {v w : Int} : Tot (g_impl_CellsOf (lng v w)) fun r => U32 r ∧ r.length ≤ 2 := by
  unfold lng
  cases v % 16 == 5
  · rw [cond_false, cells_7]; exact num_ok
  · rw [cond_true, cells_8]; exact num_ok
theorem parse_pm {v : Int} {tl : List Int} (hu : U32 (v :: tl)) (hl : (v :: tl).length ≤ 64) : g_impl_parseOne (v :: tl) = pm v (tl.takeWhile runP) tl.head? := by
  have hv := hu v (List.mem_cons_self ..)
  have hut : U32 tl := fun x hx => hu x (List.mem_cons_of_mem _ hx)
  have hlt : tl.length ≤ 63 := by simp at hl; omega
  have e0 : getI (v :: tl) 0 = some v := rfl
  unfold g_impl_parseOne pm
  rw [e0]
  simp only [Option.bind_some, and15 hv.1 hv.2, chain, chain2]
  cases isName (v % 16) with
  | true =>
    simp only [cond_true]
    have hs := scan_l0 hut (by omega) bigK 0 [v / 16] (Nat.zero_le _) (by unfold bigK; omega) (by simp; omega)
    simp only [Int.natCast_zero, List.drop_zero, List.singleton_append] at hs
    rw [subL_drop (by decide) (by simp; omega), Option.bind_some, show List.drop (Int.toNat 1) (v :: tl) = tl from rfl, hs]
    simp only [Option.bind_some]
    cases g_impl_Unpack (v / 16 :: List.map (· / 16) (tl.takeWhile runP)) with
    | none => rfl
    | some y =>
      simp only [Option.bind_some]
      cases y.2 with
      | true =>
        simp only [cond_true]
        cases g_impl_nameKind (v % 16) <;> rfl
      | false => rfl
  | false =>
    simp only [cond_false]
    cases v % 16 == 8 with
    | true => rfl
    | false =>
      simp only [cond_false]
      cases v % 16 == 6 with
      | true => rfl
      | false =>
        simp only [cond_false]
        cases h25 : (v % 16 == 2 || v % 16 == 5) with
        | true =>
          simp only [cond_true]
          cases tl with
          | nil => rfl
          | cons w tl =>
            have e1 : getI (v :: w :: tl) 1 = some w := rfl
            have e2 : decide ((((v :: w :: tl).length : Nat) : Int) < 2) = false := decide_eq_false (by simp; omega)
            have e3 : (cond (v % 16 == 5) (some (⟨8, [], IntKind.wrap .i32 w, andI .u32 v 16 != 0, 0⟩ : GItem)) (some ⟨7, [], IntKind.wrap .i32 w, andI .u32 v 16 != 0, 0⟩)) = some (lng v w) := by
              unfold lng; cases v % 16 == 5 <;> rfl
            obtain ⟨cs, hcs, hcu, hcl⟩ := lng_cells (v := v) (w := w)
            rw [e2, e1]
            simp only [cond_false, Option.bind_some, e3, hcs, List.head?_cons]
            rw [subL_take (by decide) (by simp; omega)]
            simp only [Option.bind_some]
            rw [eqU (by omega), show List.take (Int.toNat 2) (v :: w :: tl) = [v, w] from rfl]
            simp only [Option.bind_some]
            cases decide (cs = [v, w]) <;> rfl
        | false =>
          simp only [cond_false]
          cases v % 16 == 12 with
          | false => rfl
          | true =>
            simp only [cond_true]
            cases tl with
            | nil => rfl
            | cons w tl =>
              have e1 : getI (v :: w :: tl) 1 = some w := rfl
              have e2 : decide ((((v :: w :: tl).length : Nat) : Int) > 1) = true := decide_eq_true (by simp; omega)
              rw [e2, e1]
              simp only [cond_true, List.head?_cons, Option.bind_some]
              cases g_impl_FieldOk (v / 16) with
              | none => rfl
              | some b =>
                simp only [Option.bind_some]
                cases b with
                | false => rfl
                | true =>
                  simp only [cond_true]
                  cases g_impl_UnpackOne (v / 16) <;> rfl
end Go.Proofs.Ythhoellakpnjpaa

namespace Go.Proofs.Ythhoellakpnjpaa
open Go Go.Fm
set_option linter.unusedVariables false
set_option linter.unusedSimpArgs false
theorem runP_iff {c : Int} : runP c = true ↔ c ≠ 0 ∧ c % 16 = 0 := by unfold runP; simp
theorem nameCells_back {v : Int} {run : List Int} (hv : 0 ≤ v ∧ v < 4294967296) (hr : ∀ c ∈ run, (0 ≤ c ∧ c < 4294967296) ∧ runP c = true) :
    nameCells (v % 16) (v / 16 :: run.map (· / 16)) = v :: run := by
  show orI .u32 (IntKind.wrap .u32 (v / 16 * 16)) (v % 16) :: (run.map (· / 16)).map (fun f => orI .u32 (IntKind.wrap .u32 (f * 16)) 0) = v :: run
  rw [or16 (by omega) (by omega) (by omega) (by omega), show v / 16 * 16 + v % 16 = v by omega, List.map_map]
  congr 1
  conv => rhs; rw [← List.map_id run]
  refine List.map_congr_left fun c hc => ?_
  obtain ⟨h1, h2⟩ := hr c hc
  have h3 := runP_iff.1 h2
  show orI .u32 (IntKind.wrap .u32 (c / 16 * 16)) 0 = c
  rw [or16 (by omega) (by omega) (by decide) (by decide)]
  omega
theorem short_back {v t : Int} (hv : 0 ≤ v ∧ v < 4294967296) (ht : v % 16 = t) (l : Int) :
    g_impl_numberCells (IntKind.wrap .i32 v / 32) (andI .u32 v 16 != 0) t l = some [v] := by
  unfold g_impl_numberCells
  have hN : IntKind.wrap .i32 v = if v < 2147483648 then v else v - 4294967296 := by
    simp [IntKind.wrap, IntKind.bits, IntKind.signed]; omega
  rw [and16 hv.1 hv.2]
  have hb : (cond (decide (v / 16 % 2 = 1)) (some 16) (some 0) : Option Int) = some (v / 16 % 2 * 16) := by
    by_cases h : v / 16 % 2 = 1
    · simp [h]
    · have : v / 16 % 2 = 0 := by omega
      simp [this]
  rw [hb]
  have h1 : IntKind.wrap .i32 v / 32 ≥ -67108864 := by rw [hN]; split <;> omega
  have h2 : IntKind.wrap .i32 v / 32 ≤ 67108863 := by rw [hN]; split <;> omega
  have h3 : IntKind.wrap .u32 (IntKind.wrap .u32 (IntKind.wrap .i32 v / 32) * 32) = v / 32 * 32 := by
    rw [hN]
    simp [IntKind.wrap, IntKind.bits, IntKind.signed]
    split <;> omega
  simp only [Option.bind_some, h1, h2, decide_true, cond_true]
  rw [h3, orU (a := v / 32 * 32) (by omega) (by omega) (by omega) (by omega)]
  have e1 : (v / 32 * 32).toNat ||| (v / 16 % 2 * 16).toNat = 32 * (v.toNat / 32) + v.toNat / 16 % 2 * 16 := by
    rw [show (v / 32 * 32).toNat = 2 ^ 5 * (v.toNat / 32) by omega, show (v / 16 % 2 * 16).toNat = v.toNat / 16 % 2 * 16 by omega, or_low 5 (by omega)]
  rw [e1, orU (by omega) (by omega) (by omega) (by omega)]
  have e2 : ((32 * (v.toNat / 32) + v.toNat / 16 % 2 * 16 : Nat) : Int).toNat ||| t.toNat = v.toNat := by
    rw [Int.toNat_natCast, show 32 * (v.toNat / 32) + v.toNat / 16 % 2 * 16 = 2 ^ 4 * (v.toNat / 16) by omega, or_low 4 (by omega)]
    omega
  rw [e2, Int.toNat_of_nonneg hv.1]
theorem field_ok {f : Int} : Tot (g_impl_FieldOk f) fun b => b = true → ∃ nm, g_impl_UnpackOne f = some nm ∧ nm.length ≤ 7 ∧ g_impl_Pack nm = some [f] := by
  unfold g_impl_FieldOk
  obtain ⟨nm, hnm, hl⟩ := unpackOne_ok (f := f)
  obtain ⟨p, hp, _, hpl⟩ := pack_ok (s := nm) (by omega)
  rw [hnm]
  refine .bindE rfl (.bindE hp (.bindE (eqU (by omega)) (.some fun h => ⟨nm, rfl, hl, ?_⟩)))
  rw [hp, of_decide_eq_true h]
theorem pm_ok {v : Int} {run : List Int} {nx : Option Int} (hv : 0 ≤ v ∧ v < 4294967296) (hr : ∀ c ∈ run, (0 ≤ c ∧ c < 4294967296) ∧ runP c = true) (hn : ∀ w, nx = some w → 0 ≤ w ∧ w < 4294967296) :
    ∃ it cs, pm v run nx = some it ∧ g_impl_CellsOf it = some cs ∧ it.Name.length ≤ 168 ∧
      ((cs = v :: run ∧ ∀ nx', pm v run nx' = some it) ∨ (cs = [v] ∧ ∀ nx', nx' = nx ∨ nx' = none → pm v run nx' = some it) ∨ (∃ w, nx = some w ∧ cs = [v, w])) := by
  have hraw : g_impl_CellsOf (raw v) = some [v] := cells_raw
  have hrl : (raw v).Name.length ≤ 168 := by show ([] : Bs).length ≤ 168; simp
  cases h1 : isName (v % 16) with
  | true =>
    obtain ⟨y, hy, hyl, hyp⟩ := unpack_ok (l := v / 16 :: run.map (· / 16))
    cases h2 : y.2 with
    | false =>
      have e : ∀ nx', pm v run nx' = some (raw v) := fun nx' => by unfold pm; rw [h1, cond_true, hy, Option.bind_some, h2, cond_false]
      exact ⟨raw v, [v], e nx, hraw, hrl, .inr (.inl ⟨rfl, fun nx' _ => e nx'⟩)⟩
    | true =>
      have ht : v % 16 = 1 ∨ v % 16 = 3 ∨ v % 16 = 4 ∨ v % 16 = 9 ∨ v % 16 = 10 ∨ v % 16 = 11 := by simpa [isName] using h1
      obtain ⟨k, hk, hkt, _⟩ := nameKind_eq ht
      have e : ∀ nx', pm v run nx' = some ⟨k, y.1, 0, false, 0⟩ := fun nx' => by unfold pm; rw [h1, cond_true, hy, Option.bind_some, h2, cond_true, hk, Option.bind_some]
      have hp := hyp h2
      obtain ⟨p, hp', _, hpl⟩ := pack_ok (s := y.1) (by omega)
      rw [hp] at hp'
      cases hp'
      refine ⟨_, _, e nx, cells_name hkt (by omega) hp hpl, hyl, .inl ⟨nameCells_back hv hr, e⟩⟩
  | false =>
    by_cases h8 : v % 16 = 8
    · have e : ∀ nx', pm v run nx' = some ⟨7, [], IntKind.wrap .i32 v / 32, andI .u32 v 16 != 0, 0⟩ := fun nx' => by unfold pm; rw [h1, cond_false, h8]; rfl
      exact ⟨_, [v], e nx, by rw [cells_7]; exact short_back hv h8 2, by simp, .inr (.inl ⟨rfl, fun nx' _ => e nx'⟩)⟩
    by_cases h6 : v % 16 = 6
    · have e : ∀ nx', pm v run nx' = some ⟨8, [], IntKind.wrap .i32 v / 32, andI .u32 v 16 != 0, 0⟩ := fun nx' => by unfold pm; rw [h1, cond_false, h6]; rfl
      exact ⟨_, [v], e nx, by rw [cells_8]; exact short_back hv h6 5, by simp, .inr (.inl ⟨rfl, fun nx' _ => e nx'⟩)⟩
    have b8 : (v % 16 == 8) = false := by simpa using h8
    have b6 : (v % 16 == 6) = false := by simpa using h6
    cases h25 : (v % 16 == 2 || v % 16 == 5) with
    | true =>
      have e0 : pm v run none = some (raw v) := by unfold pm; rw [h1, cond_false, b8, cond_false, b6, cond_false, h25, cond_true]
      cases nx with
      | none => exact ⟨raw v, [v], e0, hraw, hrl, .inr (.inl ⟨rfl, fun nx' h => by rcases h with rfl | rfl <;> exact e0⟩)⟩
      | some w =>
        obtain ⟨cs, hcs, _, hcl⟩ := lng_cells (v := v) (w := w)
        have e1 : pm v run (some w) = cond (decide (cs = [v, w])) (some (lng v w)) (some (raw v)) := by
          unfold pm; rw [h1, cond_false, b8, cond_false, b6, cond_false, h25, cond_true]
          simp only [hcs, Option.bind_some]
        by_cases hc : cs = [v, w]
        · rw [decide_eq_true hc, cond_true] at e1
          refine ⟨_, _, e1, hcs, ?_, .inr (.inr ⟨w, rfl, hc⟩)⟩
          unfold lng
          cases v % 16 == 5 <;> simp
        · rw [decide_eq_false hc, cond_false] at e1
          exact ⟨raw v, [v], e1, hraw, hrl, .inr (.inl ⟨rfl, fun nx' h => by rcases h with rfl | rfl; exact e1; exact e0⟩)⟩
    | false =>
      cases h12 : v % 16 == 12 with
      | false =>
        have e : ∀ nx', pm v run nx' = some (raw v) := fun nx' => by unfold pm; rw [h1, cond_false, b8, cond_false, b6, cond_false, h25, cond_false, h12, cond_false]
        exact ⟨raw v, [v], e nx, hraw, hrl, .inr (.inl ⟨rfl, fun nx' _ => e nx'⟩)⟩
      | true =>
        have e0 : pm v run none = some (raw v) := by unfold pm; rw [h1, cond_false, b8, cond_false, b6, cond_false, h25, cond_false, h12, cond_true]
        cases nx with
        | none => exact ⟨raw v, [v], e0, hraw, hrl, .inr (.inl ⟨rfl, fun nx' h => by rcases h with rfl | rfl <;> exact e0⟩)⟩
        | some w =>
          obtain ⟨b, hb, hbf⟩ := field_ok (f := v / 16)
          have e1 : pm v run (some w) = cond b ((g_impl_UnpackOne (v / 16)).bind fun nm => some ⟨9, nm, IntKind.wrap .i32 w, false, 0⟩) (some (raw v)) := by
            unfold pm; rw [h1, cond_false, b8, cond_false, b6, cond_false, h25, cond_false, h12, cond_true]
            simp only [hb, Option.bind_some]
          cases b with
          | false => exact ⟨raw v, [v], e1, hraw, hrl, .inr (.inl ⟨rfl, fun nx' h => by rcases h with rfl | rfl; exact e1; exact e0⟩)⟩
          | true =>
            obtain ⟨nm, h2, h3, h4⟩ := hbf rfl
            rw [cond_true, h2, Option.bind_some] at e1
            have ht : v % 16 = 12 := by simpa using h12
            have hw := hn w rfl
            refine ⟨_, _, e1, cells_9 h4, by show nm.length ≤ 168; omega, .inr (.inr ⟨w, rfl, ?_⟩)⟩
            rw [or16 (by omega) (by omega) (by decide) (by decide)]
            have : IntKind.wrap .u32 (IntKind.wrap .i32 w) = w := by
              simp [IntKind.wrap, IntKind.bits, IntKind.signed]; split <;> omega
            rw [this, show v / 16 * 16 + 12 = v by omega]
/-- What is parsed stands at the beginning of the cells; noughts behind them change nothing. -/
theorem parse_ok {v : Int} {tl : List Int} (hu : U32 (v :: tl)) (hl : (v :: tl).length ≤ 64) :
    ∃ it cs, g_impl_parseOne (v :: tl) = some it ∧ g_impl_CellsOf it = some cs ∧ it.Name.length ≤ 168 ∧ 1 ≤ cs.length ∧ (∃ rest, v :: tl = cs ++ rest) ∧
      (∀ tl' z, tl = tl' ++ List.replicate z 0 → cs.length ≤ (v :: tl').length → g_impl_parseOne (v :: tl') = some it) := by
  have hv := hu v (List.mem_cons_self ..)
  have hut : U32 tl := fun x hx => hu x (List.mem_cons_of_mem _ hx)
  obtain ⟨it, cs, h1, h2, h3, h4⟩ := pm_ok (v := v) (run := tl.takeWhile runP) (nx := tl.head?) hv
    (fun c hc => ⟨hut c ((List.takeWhile_sublist runP).subset hc), by have := List.all_takeWhile (p := runP) (l := tl); exact List.all_eq_true.1 this c hc⟩)
    (fun w hw => hut w (List.mem_of_mem_head? hw))
  refine ⟨it, cs, by rw [parse_pm hu hl]; exact h1, h2, h3, ?_, ?_, fun tl' z hz hc => ?_⟩
  · rcases h4 with ⟨rfl, _⟩ | ⟨rfl, _⟩ | ⟨w, _, rfl⟩ <;> simp
  · rcases h4 with ⟨rfl, _⟩ | ⟨rfl, _⟩ | ⟨w, hw, rfl⟩
    · exact ⟨tl.dropWhile runP, by rw [List.cons_append, List.takeWhile_append_dropWhile]⟩
    · exact ⟨tl, rfl⟩
    · cases tl with
      | nil => cases hw
      | cons x r => simp at hw; subst hw; exact ⟨r, rfl⟩
  · have hu' : U32 (v :: tl') := fun x hx => hu x (by
      rw [hz]
      rcases List.mem_cons.1 hx with rfl | hx
      · exact List.mem_cons_self ..
      · exact List.mem_cons_of_mem _ (List.mem_append_left _ hx))
    have hl' : (v :: tl').length ≤ 64 := by rw [hz] at hl; simp at hl ⊢; omega
    have htw : tl.takeWhile runP = tl'.takeWhile runP := by
      rw [hz, List.takeWhile_append]
      split
      · rename_i he
        have : (List.replicate z (0 : Int)).takeWhile runP = [] := by
          cases z with
          | zero => rfl
          | succ z => rw [List.replicate_succ, List.takeWhile_cons]; rfl
        rw [this, List.append_nil]
        exact (List.takeWhile_sublist runP).eq_of_length he |>.symm
      · rfl
    rw [parse_pm hu' hl', ← htw]
    rcases h4 with ⟨rfl, g⟩ | ⟨rfl, g⟩ | ⟨w, hw, rfl⟩
    · exact g _
    · refine g _ ?_
      cases tl' with
      | nil => exact .inr rfl
      | cons x r => left; rw [hz]; rfl
    · cases tl' with
      | nil => simp at hc
      | cons x r =>
        have : tl.head? = (x :: r).head? := by rw [hz]; rfl
        rw [← this]
        exact h1
end Go.Proofs.Ythhoellakpnjpaa

namespace Go.Proofs.Ythhoellakpnjpaa
open Go Go.Fm
set_option linter.unusedVariables false
set_option linter.unusedSimpArgs false
inductive Parses : List Int → List GItem → Prop where
  | nil : Parses [] []
  | cons {cells rest cs : List Int} {it : GItem} {its : List GItem} (h1 : g_impl_parseOne cells = some it) (h2 : g_impl_CellsOf it = some cs) (h3 : 1 ≤ cs.length) (h4 : cells = cs ++ rest) (h5 : Parses rest its) : Parses cells (it :: its)
theorem parses_ex : ∀ (n : Nat) (cells : List Int), cells.length ≤ n → U32 cells → cells.length ≤ 64 → ∃ its, Parses cells its := by
  intro n
  induction n with
  | zero => intro cells h _ _; cases cells with
    | nil => exact ⟨[], .nil⟩
    | cons v tl => simp at h
  | succ n ih =>
    intro cells h hu hl
    cases cells with
    | nil => exact ⟨[], .nil⟩
    | cons v tl =>
      obtain ⟨it, cs, h1, h2, h3, h4, ⟨rest, h5⟩, _⟩ := parse_ok hu hl
      have hlen : (v :: tl).length = cs.length + rest.length := by rw [h5, List.length_append]
      obtain ⟨its, h6⟩ := ih rest (by omega) (fun x hx => hu x (by rw [h5]; exact List.mem_append_right _ hx)) (by omega)
      exact ⟨it :: its, .cons h1 h2 h4 h5 h6⟩
theorem Parses.len {cells : List Int} {its : List GItem} (h : Parses cells its) : its.length ≤ cells.length := by
  induction h with
  | nil => exact Nat.le_refl _
  | cons h1 h2 h3 h4 h5 ih => rw [h4, List.length_append, List.length_cons]; omega
theorem parse_l0 : ∀ (k : Nat) (cells : List Int) (out its : List GItem), Parses cells its → cells.length < k → out.length + cells.length ≤ 64 → g_impl_ParseCells_l0 k cells out = some (out ++ its) := by
  intro k
  induction k with
  | zero => intro cells out its hp h; omega
  | succ k ih =>
    intro cells out its hp h hl
    unfold g_impl_ParseCells_l0
    cases hp with
    | nil => simp
    | cons h1 h2 h3 h4 h5 =>
      rename_i rest cs it its'
      have hlen : cells.length = cs.length + rest.length := by rw [h4, List.length_append]
      rw [decide_eq_true (by omega), cond_true, h1, Option.bind_some, app_eq (by simp; omega), Option.bind_some, h2, Option.bind_some, subL_drop (by omega) (by omega), Option.bind_some]
      have hd : cells.drop ((cs.length : Int)).toNat = rest := by rw [h4, Int.toNat_natCast, List.drop_left]
      rw [hd, ih rest _ _ h5 (by omega) (by simp; omega), List.append_assoc]
      rfl
def rz : GItem := raw 0
theorem isRz (v : GItem) : ((v.Kind : Int) == 0 && ((v.Name : Bs) == [] && ((v.N : Int) == 0 && ((v.Hex : Bool) == false && ((v.Raw : Int) == 0 && true))))) = decide (v = rz) := by
  obtain ⟨a, b, c, d, e⟩ := v
  rw [Bool.eq_iff_iff]
  simp [rz, raw]
theorem strip_l1 : ∀ (k : Nat) (out : List GItem), out.length < k → out.length ≤ 64 → ∃ its z, out = its ++ List.replicate z rz ∧ (∀ x, its ≠ x ++ [rz]) ∧ g_impl_ParseCells_l1 k out ((out.length : Int) - 1) = some its := by
  intro k
  induction k with
  | zero => intro out h; omega
  | succ k ih =>
    intro out h hl
    unfold g_impl_ParseCells_l1
    rcases List.eq_nil_or_concat out with rfl | ⟨xs, x, rfl⟩
    · exact ⟨[], 0, rfl, by simp, rfl⟩
    · simp only [List.concat_eq_append] at *
      have hlen : (xs ++ [x]).length = xs.length + 1 := by simp
      rw [decide_eq_true (by omega), cond_true, show (((xs ++ [x]).length : Nat) : Int) - 1 = ((xs.length : Nat) : Int) by omega, getI_nat, List.getElem?_concat_length]
      simp only [Option.bind_some, isRz]
      by_cases hx : x = rz
      · rw [decide_eq_true hx, cond_true, subL_take (by omega) (by omega), Option.bind_some, Int.toNat_natCast, List.take_left, wI64 (by omega) (by omega)]
        obtain ⟨its, z, h1, h2, h3⟩ := ih xs (by omega) (by omega)
        refine ⟨its, z + 1, ?_, h2, h3⟩
        rw [hx, h1, List.append_assoc, ← List.replicate_succ']
      · rw [decide_eq_false hx, cond_false]
        refine ⟨xs ++ [x], 0, by simp, fun y hy => hx ?_, rfl⟩
        have := List.append_inj' hy rfl
        simpa using this.2
theorem parses_zero : ∀ (z : Nat) (cells : List Int), Parses cells (List.replicate z rz) → cells = List.replicate z 0
  | 0, cells, h => by cases h; rfl
  | z + 1, cells, h => by
    rw [List.replicate_succ] at h
    cases h with
    | cons h1 h2 h3 h4 h5 =>
      have : g_impl_CellsOf rz = some [0] := cells_raw
      rw [this] at h2
      cases h2
      rw [h4, parses_zero z _ h5, List.replicate_succ]; rfl
theorem parses_cut : ∀ (its : List GItem) (z : Nat) (cells : List Int), U32 cells → cells.length ≤ 64 → Parses cells (its ++ List.replicate z rz) → ∃ cells', cells = cells' ++ List.replicate z 0 ∧ Parses cells' its
  | [], z, cells, _, _, h => ⟨[], parses_zero z cells h, .nil⟩
  | it :: its, z, cells, hu, hl, h => by
    rw [List.cons_append] at h
    cases h with
    | cons h1 h2 h3 h4 h5 =>
      rename_i rest cs
      have hlen : cells.length = cs.length + rest.length := by rw [h4, List.length_append]
      obtain ⟨rest', e1, e2⟩ := parses_cut its z rest (fun x hx => hu x (by rw [h4]; exact List.mem_append_right _ hx)) (by omega) h5
      match cs, h3 with
      | v :: ct, _ =>
        have hc : cells = v :: (ct ++ rest) := h4
        rw [hc] at hu hl h1
        obtain ⟨it1, cs1, g1, g2, _, _, _, g6⟩ := parse_ok hu hl
        rw [h1] at g1
        cases g1
        rw [h2] at g2
        cases g2
        refine ⟨(v :: ct) ++ rest', by rw [h4, e1, List.append_assoc], .cons (g6 (ct ++ rest') z (by rw [e1, List.append_assoc]) (by simp)) h2 (by simp) rfl e2⟩
theorem parseCells_ok {cells : List Int} (hu : U32 cells) (hl : cells.length ≤ 64) : ∃ its cells' z, g_impl_ParseCells cells = some its ∧ cells = cells' ++ List.replicate z 0 ∧ Parses cells' its ∧ (∀ x, its ≠ x ++ [rz]) := by
  obtain ⟨all, hp⟩ := parses_ex _ cells (Nat.le_refl _) hu hl
  have hlen := hp.len
  obtain ⟨its, z, h1, h2, h3⟩ := strip_l1 bigK all (by unfold bigK; omega) (by omega)
  have hp2 := hp
  rw [h1] at hp2
  obtain ⟨cells', e1, e2⟩ := parses_cut its z cells hu hl hp2
  refine ⟨its, cells', z, ?_, e1, e2, h2⟩
  unfold g_impl_ParseCells
  rw [decide_eq_false (by omega), cond_false, parse_l0 bigK cells [] all hp (by unfold bigK; omega) (by simpa using hl), Option.bind_some, List.nil_append, wI64 (by omega) (by omega), h3]
  rfl
theorem parseCells_same {cells : List Int} {its : List GItem} (hl : cells.length ≤ 64) (hp : Parses cells its) (hn : ∀ x, its ≠ x ++ [rz]) : g_impl_ParseCells cells = some its := by
  have hlen := hp.len
  obtain ⟨its', z, h1, h2, h3⟩ := strip_l1 bigK its (by unfold bigK; omega) (by omega)
  have hz : z = 0 := by
    cases z with
    | zero => rfl
    | succ z =>
      rw [List.replicate_succ', ← List.append_assoc] at h1
      exact absurd h1 (hn _)
  subst hz
  simp only [List.replicate_zero, List.append_nil] at h1
  subst h1
  unfold g_impl_ParseCells
  rw [decide_eq_false (by omega), cond_false, parse_l0 bigK cells [] its hp (by unfold bigK; omega) (by simpa using hl), Option.bind_some, List.nil_append, wI64 (by omega) (by omega), h3]
  rfl
end Go.Proofs.Ythhoellakpnjpaa

namespace Go.Proofs.Ythhoellakpnjpaa
open Go Go.Fm
set_option linter.unusedVariables false
set_option linter.unusedSimpArgs false
theorem letterOf_all : (List.range 256).all (fun b => g_spec_LetterOf (b : Int) == g_impl_LetterOf (b : Int)) = true := by kernel_rfl
theorem letterOf_eq {b : Int} (h0 : 0 ≤ b) (h1 : b < 256) : g_spec_LetterOf b = g_impl_LetterOf b := by
  have h := List.all_eq_true.1 letterOf_all b.toNat (List.mem_range.2 (by omega))
  rw [Int.toNat_of_nonneg h0] at h
  exact eq_of_beq h
theorem width_eq {k : Int} : g_spec_WidthOf k = g_impl_WidthOf k := by
  unfold g_spec_WidthOf g_impl_WidthOf; simp only [specIn_eq, within_eq, Option.bind_some]
theorem letterAt_eq {k : Int} : g_spec_LetterAt k = g_impl_LetterAt k := by
  unfold g_spec_LetterAt g_impl_LetterAt; simp only [specIn_eq, within_eq, Option.bind_some]; rfl
theorem bits_all : (List.range 49).all (fun b => g_spec_BitsOf ((b : Int) - 1) == g_impl_BitsOf ((b : Int) - 1)) = true := by kernel_rfl
theorem bits_eq {k : Int} (h0 : -1 ≤ k) (h1 : k ≤ 47) : g_spec_BitsOf k = g_impl_BitsOf k := by
  have h := List.all_eq_true.1 bits_all (k + 1).toNat (List.mem_range.2 (by omega))
  rw [Int.toNat_of_nonneg (by omega), show k + 1 - 1 = k by omega] at h
  exact eq_of_beq h
theorem wb_all : (List.range 48).all (fun b => match g_impl_WidthOf (b : Int), g_impl_BitsOf (b : Int) with | some w, some c => decide (4 ≤ w ∧ w ≤ 7 ∧ 0 ≤ c ∧ c < 2 ^ w.toNat) | _, _ => false) = true := by kernel_rfl
theorem wb {k : Int} (h0 : 0 ≤ k) (h1 : k ≤ 47) : ∃ w c, g_impl_WidthOf k = some w ∧ g_impl_BitsOf k = some c ∧ 4 ≤ w ∧ w ≤ 7 ∧ 0 ≤ c ∧ c < 2 ^ w.toNat := by
  have h := List.all_eq_true.1 wb_all k.toNat (List.mem_range.2 (by omega))
  rw [Int.toNat_of_nonneg h0] at h
  split at h
  · rename_i w c hw hc; exact ⟨w, c, hw, hc, of_decide_eq_true h⟩
  · cases h
theorem pw (n : Nat) : (0 : Int) < 2 ^ n := Int.pow_pos (by decide)
theorem pwN (n : Nat) : ((2 ^ n : Nat) : Int) = (2 : Int) ^ n := by simp
theorem pw_le {a b : Nat} (h : a ≤ b) : (2 : Int) ^ a ≤ 2 ^ b := by
  have := Nat.pow_le_pow_right (n := 2) (by decide) h
  rw [← pwN, ← pwN]; omega
theorem shl_eq {k : IntKind} {a n : Int} (h0 : 0 ≤ n) (h1 : n ≤ 32) (hk : 32 ≤ k.bits) : shlI k a n = some (k.wrap (a * 2 ^ n.toNat)) := by
  unfold shlI
  rw [if_pos h0, show min n.toNat k.bits = n.toNat by omega]
theorem shr_eq {k : IntKind} {a n : Int} (h0 : 0 ≤ n) (h1 : n ≤ 32) (hk : 32 ≤ k.bits) : shrI k a n = some (a / 2 ^ n.toNat) := by
  unfold shrI
  rw [if_pos h0, show min n.toNat k.bits = n.toNat by omega, Int.fdiv_eq_ediv_of_nonneg _ (Int.le_of_lt (pw _))]
theorem shl64 {n : Int} (h0 : 0 ≤ n) (h1 : n ≤ 32) : shlI .i64 1 n = some (2 ^ n.toNat) := by
  rw [shl_eq h0 h1 (by decide), Int.one_mul, wI64]
  · have := pw n.toNat; omega
  · have := pw_le (a := n.toNat) (b := 32) (by omega); omega
theorem shl32 {n : Int} (h0 : 0 ≤ n) (h1 : n ≤ 31) : shlI .u32 1 n = some (2 ^ n.toNat) := by
  rw [shl_eq h0 (by omega) (by decide), Int.one_mul, wU32]
  · have := pw n.toNat; omega
  · have := pw_le (a := n.toNat) (b := 31) (by omega); omega
theorem and_mask {k : IntKind} {a : Int} {n : Nat} (h0 : 0 ≤ a) (h1 : a < 2 ^ k.bits) (hn : n < k.bits) : andI k a (2 ^ n - 1) = a % 2 ^ n := by
  unfold andI
  have hp := pw n
  have hb : (2 : Int) ^ n - 1 < 2 ^ k.bits := by have := pw_le (a := n) (b := k.bits) (by omega); omega
  rw [BitVec.toNat_and, bB_toNat h0 h1, bB_toNat (by omega) hb]
  have e : ((2 : Int) ^ n - 1).toNat = 2 ^ n - 1 := by rw [← pwN]; omega
  rw [e, Nat.and_two_pow_sub_one_eq_mod, wrap_small]
  · rw [Int.natCast_emod, pwN, Int.toNat_of_nonneg h0]
  · refine Nat.lt_of_lt_of_le (Nat.mod_lt _ (Nat.two_pow_pos n)) (Nat.pow_le_pow_right (by decide) (by omega))
theorem div_mod {f : Int} {n w : Nat} (h0 : 0 ≤ f) (hw : w ≤ n) : f % 2 ^ n / 2 ^ (n - w) = f / 2 ^ (n - w) % 2 ^ w := by
  obtain ⟨F, rfl⟩ := Int.eq_ofNat_of_zero_le h0
  have e : 2 ^ n = 2 ^ (n - w) * 2 ^ w := by rw [← Nat.pow_add]; congr 1; omega
  have := Nat.mod_mul_right_div_self F (2 ^ (n - w)) (2 ^ w)
  rw [← e] at this
  simp only [← pwN, Int.ofNat_eq_natCast, ← Int.natCast_emod, ← Int.natCast_ediv]
  rw [this]
theorem decode_l0_eq {f n : Int} (h0 : 0 ≤ f) (h1 : f < 4294967296) (n0 : 1 ≤ n) (n1 : n ≤ 32) : ∀ (k : Nat) (i : Int), 0 ≤ i → i ≤ 48 → g_spec_Decode_l0 f n k i = g_impl_Decode_l0 f n k i := by
  intro k
  induction k with
  | zero => intro i _ _; rfl
  | succ k ih =>
    intro i i0 i1
    unfold g_spec_Decode_l0 g_impl_Decode_l0
    by_cases hi : i < 48
    · obtain ⟨w, c, hw, hc, w0, w1, c0, c1⟩ := wb i0 (by omega)
      have hx := ih (i + 1) (by omega) (by omega)
      rw [decide_eq_true hi, width_eq, hw, bits_eq (by omega) (by omega), hc]
      simp only [cond_true, Option.bind_some]
      rw [wI64 (x := i + 1) (by omega) (by omega), hx]
      by_cases hn : w ≤ n
      · have c2 : (2 : Int) ^ w.toNat ≤ 2 ^ 7 := pw_le (by omega)
        have pn := pw n.toNat
        have pw' := pw w.toNat
        have pn2 : (2 : Int) ^ n.toNat ≤ 2 ^ 32 := pw_le (by omega)
        rw [decide_eq_true hn, decide_eq_false (p := w > n) (by omega), wU64 (x := n) (by omega) (by omega), wI64 (x := f) (by omega) (by omega), wI64 (x := n - w) (by omega) (by omega), wU64 (x := n - w) (by omega) (by omega), shl64 (by omega) (by omega),
          shl32 (by omega) (by omega), shr_eq (by omega) (by omega) (by decide), wI64 (x := c) (by omega) (by omega)]
        simp only [cond_true, cond_false, Option.bind_some]
        rw [wI64 (x := 2 ^ n.toNat - 1) (by omega) (by omega), wU32 (x := 2 ^ w.toNat - 1) (by omega) (by omega), shr_eq (by omega) (by omega) (by decide)]
        simp only [Option.bind_some]
        have hq : f / 2 ^ (n - w).toNat < 4294967296 := Int.lt_of_le_of_lt (Int.ediv_le_self _ h0) h1
        rw [and_mask (k := .i64) h0 (show f < 2 ^ 64 by omega) (show n.toNat < 64 by omega), and_mask (k := .u32) (Int.ediv_nonneg h0 (Int.le_of_lt (pw _))) (show f / 2 ^ (n - w).toNat < 2 ^ 32 by omega) (show w.toNat < 32 by omega),
          show (n - w).toNat = n.toNat - w.toNat by omega, div_mod h0 (by omega)]
        cases f / 2 ^ (n.toNat - w.toNat) % 2 ^ w.toNat == c <;> rfl
      · rw [decide_eq_false hn, decide_eq_true (p := w > n) (by omega)]
        rfl
    · rw [decide_eq_false hi]; rfl
theorem decode_eq {f n : Int} (h0 : 0 ≤ f) (h1 : f < 4294967296) : g_spec_Decode f n = g_impl_Decode f n := by
  unfold g_spec_Decode g_impl_Decode
  rw [specIn_eq, within_eq]
  simp only [Option.bind_some]
  by_cases h : 1 ≤ n ∧ n ≤ 32
  · rw [decode_l0_eq h0 h1 h.1 h.2 _ _ (by decide) (by decide)]
  · rw [decide_eq_false h]; rfl
theorem unpackOne_l0_eq {f : Int} (h0 : 0 ≤ f) (h1 : f < 4294967296) : ∀ (k : Nat) (out : List Int) (left : Int), 0 ≤ left → left ≤ 28 → g_spec_UnpackOne_l0 f k out left = g_impl_UnpackOne_l0 f k out left := by
  intro k
  induction k with
  | zero => intro out left _ _; rfl
  | succ k ih =>
    intro out left l0 l1
    unfold g_spec_UnpackOne_l0 g_impl_UnpackOne_l0
    have p1 := pw left.toNat
    have p2 : (2 : Int) ^ left.toNat ≤ 2 ^ 28 := pw_le (by omega)
    rw [wU64 (x := left) (by omega) (by omega), wI64 (x := f) (by omega) (by omega), shl64 (by omega) (by omega), shl32 (by omega) (by omega)]
    simp only [Option.bind_some]
    rw [wI64 (x := 2 ^ left.toNat - 1) (by omega) (by omega), wU32 (x := 2 ^ left.toNat - 1) (by omega) (by omega), and_mask (k := .i64) h0 (show f < 2 ^ 64 by omega) (show left.toNat < 64 by omega), and_mask (k := .u32) h0 (show f < 2 ^ 32 by omega) (show left.toNat < 32 by omega)]
    have e : (cond (decide (left > 0)) (some (f % 2 ^ left.toNat != 0)) (some false) : Option Bool) = some (f % 2 ^ left.toNat != 0) := by
      by_cases hl : left > 0
      · rw [decide_eq_true hl]; rfl
      · have : left = 0 := by omega
        subst this
        simp
    rw [e]
    simp only [Option.bind_some]
    cases f % 2 ^ left.toNat != 0 with
    | false => rfl
    | true =>
      simp only [cond_true]
      rw [decode_eq h0 h1]
      obtain ⟨d, hd, _, d2⟩ := decode_ok (f := f) (n := left)
      rw [hd]
      simp only [Option.bind_some]
      by_cases hc : d.1 < 1
      · rw [decide_eq_true hc]; rfl
      · rw [decide_eq_false hc, letterAt_eq]
        obtain ⟨v, hv, _⟩ := letterAt_ok (k := d.1)
        have := d2 (by omega)
        rw [hv]
        simp only [cond_false, Option.bind_some]
        cases app out [v] with
        | none => rfl
        | some o =>
          simp only [Option.bind_some]
          rw [wI64 (x := left - d.2) (by omega) (by omega)]
          exact ih _ _ (by omega) (by omega)
theorem unpackOne_eq {f : Int} (h0 : 0 ≤ f) (h1 : f < 4294967296) : g_spec_UnpackOne f = g_impl_UnpackOne f := by
  unfold g_spec_UnpackOne g_impl_UnpackOne
  rw [wI64 (x := f) (by omega) (by omega), unpackOne_l0_eq h0 h1 _ _ _ (by decide) (by decide)]
/-- Letters of names. -/
def good (b : UInt8) : Bool := match g_impl_LetterOf (b.toNat : Int) with | some k => decide (1 ≤ k) | none => false
theorem good_of {b : UInt8} {k : Int} (h : g_impl_LetterOf (b.toNat : Int) = some k) : good b = decide (1 ≤ k) := by unfold good; rw [h]
theorem idxS_nat {s : List UInt8} {n : Nat} (h : n < s.length) : idxS s (n : Int) = some ((s[n].toNat : Nat) : Int) := by
  unfold idxS
  rw [if_pos ⟨by omega, by omega⟩, Int.toNat_natCast, List.getD_eq_getElem?_getD, List.getElem?_eq_getElem h]
  rfl
theorem specNameOk_l0 {s : Bs} (hs : s.length ≤ 1048576) : ∀ (k n : Nat), n ≤ s.length → s.length - n < k → g_spec_NameOk_l0 s k n = some (if (s.drop n).all good then .inl () else .inr ()) := by
  intro k
  induction k with
  | zero => intro n h0 h1; omega
  | succ k ih =>
    intro n h0 h1
    unfold g_spec_NameOk_l0
    by_cases hn : n < s.length
    · have hb := UInt8.toNat_lt s[n]
      obtain ⟨x, hx, x0, x1⟩ := letterOf_ok (b := (s[n].toNat : Int)) (by omega) (by omega)
      rw [decide_eq_true (by omega), idxS_nat hn, List.drop_eq_getElem_cons hn, List.all_cons, good_of hx]
      simp only [cond_true, Option.bind_some, letterOf_eq (b := (s[n].toNat : Int)) (by omega) (by omega), hx]
      by_cases hc : x < 1
      · rw [decide_eq_true hc, decide_eq_false (p := 1 ≤ x) (by omega)]; rfl
      · rw [decide_eq_false hc, decide_eq_true (p := 1 ≤ x) (by omega), cond_false, wI64 (by omega) (by omega), show ((n : Int) + 1) = ((n + 1 : Nat) : Int) by omega, ih (n + 1) (by omega) (by omega), Bool.true_and]
    · rw [decide_eq_false (by omega), List.drop_eq_nil_of_le (by omega)]; rfl
theorem implNameOk_l0 {s : Bs} (hs : s.length ≤ 1048576) : ∀ (k n : Nat), n ≤ s.length → s.length - n < k → g_impl_NameOk_l0 s k n = some (if (s.drop n).all good then .inl () else .inr ()) := by
  intro k
  induction k with
  | zero => intro n h0 h1; omega
  | succ k ih =>
    intro n h0 h1
    unfold g_impl_NameOk_l0
    by_cases hn : n < s.length
    · have hb := UInt8.toNat_lt s[n]
      obtain ⟨x, hx, x0, x1⟩ := letterOf_ok (b := (s[n].toNat : Int)) (by omega) (by omega)
      rw [decide_eq_true (by omega), idxS_nat hn, List.drop_eq_getElem_cons hn, List.all_cons, good_of hx]
      simp only [cond_true, Option.bind_some, hx]
      by_cases hc : x < 1
      · rw [decide_eq_true hc, decide_eq_false (p := 1 ≤ x) (by omega)]; rfl
      · rw [decide_eq_false hc, decide_eq_true (p := 1 ≤ x) (by omega), cond_false, wI64 (by omega) (by omega), show ((n : Int) + 1) = ((n + 1 : Nat) : Int) by omega, ih (n + 1) (by omega) (by omega), Bool.true_and]
    · rw [decide_eq_false (by omega), List.drop_eq_nil_of_le (by omega)]; rfl
def named (s : Bs) : Bool := s.all good && decide (1 ≤ s.length ∧ s.length ≤ 24)
theorem implNameOk {s : Bs} (hs : s.length ≤ 1048576) : g_impl_NameOk s = some (named s) := by
  unfold g_impl_NameOk named
  have h := implNameOk_l0 hs bigK 0 (Nat.zero_le _) (by unfold bigK; omega)
  rw [show ((0 : Nat) : Int) = 0 from rfl] at h
  rw [h, List.drop_zero, within_eq]
  cases s.all good with
  | false => rfl
  | true =>
    simp only [if_true, Option.bind_some, Bool.true_and]
    congr 1
    exact decide_eq_decide.2 (by omega)
theorem specNameOk {s : Bs} (hs : s.length ≤ 1048576) : g_spec_NameOk s = some (named s) := by
  unfold g_spec_NameOk named
  have h := specNameOk_l0 hs bigK 0 (Nat.zero_le _) (by unfold bigK; omega)
  rw [show ((0 : Nat) : Int) = 0 from rfl] at h
  rw [h, List.drop_zero, specIn_eq]
  have e : decide ((1 : Int) ≤ s.length ∧ (s.length : Int) ≤ 24) = decide (1 ≤ s.length ∧ s.length ≤ 24) := decide_eq_decide.2 (by omega)
  rw [e]
  cases decide (1 ≤ s.length ∧ s.length ≤ 24) <;> cases s.all good <;> rfl
theorem packOne_l0_eq {s : Bs} (hg : s.all good = true) (hs : s.length ≤ 24) : ∀ (k : Nat) (q : Nat) (left n : Nat), n ≤ s.length → left ≤ 28 → q < 2 ^ (28 - left) →
    g_spec_l03One_l0 s k ((2 ^ left * q : Nat) : Int) left n = g_impl_PackOne_l0 s k ((2 ^ left * q : Nat) : Int) left n n := by
  intro k
  induction k with
  | zero => intro q left n _ _ _; rfl
  | succ k ih =>
    intro q left n h0 h1 h2
    unfold g_spec_l03One_l0 g_impl_PackOne_l0
    by_cases hn : n < s.length
    · have hb := UInt8.toNat_lt s[n]
      obtain ⟨x, hx, x0, x1⟩ := letterOf_ok (b := (s[n].toNat : Int)) (by omega) (by omega)
      have hgn : good s[n] = true := List.all_eq_true.1 hg _ (List.getElem_mem hn)
      rw [good_of hx] at hgn
      have hx1 : 1 ≤ x := of_decide_eq_true hgn
      obtain ⟨w, c, hw, hc, w0, w1, c0, c1⟩ := wb (k := x) (by omega) x1
      rw [decide_eq_true (by omega), idxS_nat hn]
      simp only [cond_true, Option.bind_some, letterOf_eq (b := (s[n].toNat : Int)) (by omega) (by omega), hx, width_eq, hw, bits_eq (show -1 ≤ x by omega) x1, hc]
      by_cases hl : w > (left : Int)
      · rw [decide_eq_true hl]; rfl
      · rw [decide_eq_false hl]
        obtain ⟨W, rfl⟩ := Int.eq_ofNat_of_zero_le (show 0 ≤ w by omega)
        obtain ⟨c', rfl⟩ := Int.eq_ofNat_of_zero_le c0
        simp only [Int.ofNat_eq_natCast, Int.toNat_natCast] at *
        have hWl : W ≤ left := by omega
        have hc7 : c' < 2 ^ W := by rw [← pwN] at c1; omega
        have p7 : 2 ^ W ≤ 2 ^ 7 := Nat.pow_le_pow_right (by decide) (by omega)
        have eL : (left : Int) - (W : Int) = ((left - W : Nat) : Int) := by omega
        have hN : (c' : Int) * 2 ^ (left - W) = ((c' * 2 ^ (left - W) : Nat) : Int) := by rw [← pwN, Int.natCast_mul]
        have e1 : 2 ^ left = 2 ^ (left - W) * 2 ^ W := by rw [← Nat.pow_add, show left - W + W = left by omega]
        have hlt : c' * 2 ^ (left - W) < 2 ^ left := by
          rw [e1, Nat.mul_comm (2 ^ (left - W))]
          exact Nat.mul_lt_mul_of_pos_right hc7 (Nat.two_pow_pos _)
        have p28 : 2 ^ left ≤ 2 ^ 28 := Nat.pow_le_pow_right (by decide) h1
        have hf : 2 ^ left * q < 2 ^ 28 := by
          have : 2 ^ 28 = 2 ^ left * 2 ^ (28 - left) := by rw [← Nat.pow_add, show left + (28 - left) = 28 by omega]
          rw [this]
          exact Nat.mul_lt_mul_of_pos_left h2 (Nat.two_pow_pos _)
        have hor : orI .u32 ((2 ^ left * q : Nat) : Int) ((c' * 2 ^ (left - W) : Nat) : Int) = ((2 ^ left * q + c' * 2 ^ (left - W) : Nat) : Int) := by
          rw [orU (by omega) (by omega) (by omega) (by omega), Int.toNat_natCast, Int.toNat_natCast, or_low left hlt]
        have hnew : 2 ^ left * q + c' * 2 ^ (left - W) = 2 ^ (left - W) * (2 ^ W * q + c') := by
          rw [e1, Nat.mul_add, Nat.mul_assoc, Nat.mul_comm c']
        have hq : 2 ^ W * q + c' < 2 ^ (28 - (left - W)) := by
          have e2 : 2 ^ (28 - (left - W)) = 2 ^ W * 2 ^ (28 - left) := by rw [← Nat.pow_add, show W + (28 - left) = 28 - (left - W) by omega]
          rw [e2]
          calc 2 ^ W * q + c' < 2 ^ W * q + 2 ^ W := by omega
            _ = 2 ^ W * (q + 1) := by rw [Nat.mul_add, Nat.mul_one]
            _ ≤ 2 ^ W * 2 ^ (28 - left) := Nat.mul_le_mul_left _ h2
        have hsum : ((2 ^ left * q : Nat) : Int) + ((c' * 2 ^ (left - W) : Nat) : Int) = ((2 ^ (left - W) * (2 ^ W * q + c') : Nat) : Int) := by rw [← hnew]; omega
        have hbd : 2 ^ (left - W) * (2 ^ W * q + c') < 2 ^ 29 := by rw [← hnew]; omega
        rw [eL, wI64 (x := ((left - W : Nat) : Int)) (by omega) (by omega), wU64 (x := ((left - W : Nat) : Int)) (by omega) (by omega), shl_eq (by omega) (by omega) (by decide), shl_eq (by omega) (by omega) (by decide), wI64 (x := (c' : Int)) (by omega) (by omega)]
        simp only [Int.toNat_natCast, hN, cond_false, Option.bind_some]
        rw [wI64 (x := ((c' * 2 ^ (left - W) : Nat) : Int)) (by omega) (by omega), wU32 (x := ((c' * 2 ^ (left - W) : Nat) : Int)) (by omega) (by omega), hor, hsum, hnew, wI64 (by omega) (by omega), wI64 (by omega) (by omega), show ((n : Int) + 1) = ((n + 1 : Nat) : Int) by omega]
        exact ih _ _ _ (by omega) (by omega) hq
    · rw [decide_eq_false (by omega)]; rfl
theorem named_len {s : Bs} (h : named s = true) : s.all good = true ∧ 1 ≤ s.length ∧ s.length ≤ 24 := by
  unfold named at h
  rw [Bool.and_eq_true] at h
  exact ⟨h.1, of_decide_eq_true h.2⟩
theorem packOne_eq {s : Bs} (h : named s = true) : g_spec_l03One s = g_impl_PackOne s := by
  obtain ⟨hg, _, hl⟩ := named_len h
  have hp := packOne_ok (s := s) (by omega)
  unfold g_impl_PackOne at hp ⊢
  unfold g_spec_l03One
  rw [implNameOk (by omega), h] at hp ⊢
  have e := packOne_l0_eq hg hl bigK 0 28 0 (Nat.zero_le _) (by decide) (by decide)
  simp only [Nat.mul_zero, Int.natCast_zero] at e
  have e' : g_spec_l03One_l0 s bigK 0 28 0 = g_impl_PackOne_l0 s bigK 0 28 0 0 := e
  rw [e']
  simp only [Option.bind_some, Bool.not_true, cond_false] at hp ⊢
  obtain ⟨r, hr, hb, _⟩ := hp
  cases hq : g_impl_PackOne_l0 s bigK 0 28 0 0 with
  | none => rw [hq] at hr; cases hr
  | some p =>
    rw [hq] at hr
    simp only [Option.bind_some, Option.some.injEq] at hr ⊢
    subst hr
    rw [wU32 hb.1 hb.2]
theorem all_drop {s : Bs} (h : s.all good = true) (n : Nat) : (s.drop n).all good = true :=
  List.all_eq_true.2 fun x hx => List.all_eq_true.1 h x (List.mem_of_mem_drop hx)
theorem pack_l0_eq : ∀ (k : Nat) (s : Bs) (out : List Int), s.all good = true → s.length ≤ 24 → g_spec_Pack_l0 k s out = g_impl_Pack_l0 k s out := by
  intro k
  induction k with
  | zero => intro s out _ _; rfl
  | succ k ih =>
    intro s out hg hl
    unfold g_spec_Pack_l0 g_impl_Pack_l0
    rw [implNameOk (by omega)]
    cases hn : named s with
    | false =>
      have : s = [] := by
        unfold named at hn
        rw [hg, Bool.true_and] at hn
        have := of_decide_eq_false hn
        exact List.eq_nil_of_length_eq_zero (by omega)
      subst this
      rfl
    | true =>
      have h1 := named_len hn
      have : (s != []) = true := by
        cases s with
        | nil => simp at h1
        | cons _ _ => rfl
      rw [this, packOne_eq hn]
      simp only [cond_true, Option.bind_some]
      obtain ⟨r, hr, _, r0, r1, _⟩ := packOne_ok (s := s) (by omega)
      rw [hr]
      simp only [Option.bind_some]
      cases app out [r.1] with
      | none => rfl
      | some o =>
        simp only [Option.bind_some]
        rw [subL_drop r0 r1]
        simp only [Option.bind_some]
        exact ih _ _ (all_drop hg _) (by rw [List.length_drop]; omega)
theorem pack_eq {s : Bs} (hs : s.length ≤ 1048576) : g_spec_Pack s = g_impl_Pack s := by
  unfold g_spec_Pack g_impl_Pack
  rw [specNameOk hs]
  cases hn : named s with
  | false =>
    simp only [Option.bind_some, Bool.not_false, cond_true]
    rw [show bigK = 18446744073709551615 + 1 from rfl]
    unfold g_impl_Pack_l0
    rw [implNameOk hs, hn]
    rfl
  | true =>
    have h1 := named_len hn
    simp only [Option.bind_some, Bool.not_true, cond_false]
    rw [pack_l0_eq _ _ _ h1.1 h1.2.2]
theorem same_l0 {a b : List Int} (hl : a.length = b.length) (hm : a.length ≤ 1048576) : ∀ (k n : Nat), n ≤ a.length → a.length - n < k →
    g_spec_l03Same_l0 a b k n = some (if a.drop n = b.drop n then .inl () else .inr ()) := by
  intro k
  induction k with
  | zero => intro n h0 h1; omega
  | succ k ih =>
    intro n h0 h1
    unfold g_spec_l03Same_l0
    by_cases hn : n < a.length
    · have hn' : n < b.length := by omega
      rw [decide_eq_true (by omega), getI_nat, getI_nat, List.getElem?_eq_getElem hn, List.getElem?_eq_getElem hn', List.drop_eq_getElem_cons hn, List.drop_eq_getElem_cons hn']
      simp only [cond_true, Option.bind_some]
      by_cases he : a[n] = b[n]
      · have : (a[n] != b[n]) = false := by rw [he]; simp
        rw [this, cond_false, wI64 (by omega) (by omega), show ((n : Int) + 1) = ((n + 1 : Nat) : Int) by omega, ih (n + 1) (by omega) (by omega), he]
        simp only [List.cons.injEq, true_and]
      · have : (a[n] != b[n]) = true := by simpa using he
        rw [this, cond_true, if_neg (fun h => he (List.cons.inj h).1)]
    · rw [decide_eq_false (by omega), cond_false, List.drop_eq_nil_of_le (by omega), List.drop_eq_nil_of_le (by omega), if_pos rfl]
theorem same_eq {a b : List Int} (hm : a.length ≤ 1048576) : g_spec_l03Same a b = some (decide (a = b)) := by
  unfold g_spec_l03Same
  by_cases hl : a.length = b.length
  · have : ((a.length : Int) != (b.length : Int)) = false := by rw [hl]; simp
    rw [this, cond_false]
    have h := same_l0 hl hm bigK 0 (Nat.zero_le _) (by unfold bigK; omega)
    rw [show ((0 : Nat) : Int) = 0 from rfl] at h
    rw [h]
    by_cases he : a = b
    · simp [he]
    · simp [he]
  · have : ((a.length : Int) != (b.length : Int)) = true := by simp; omega
    rw [this, cond_true, decide_eq_false (fun h => hl (by rw [h]))]
end Go.Proofs.Ythhoellakpnjpaa

namespace Go.Proofs.Ythhoellakpnjpaa
open Go Go.Fm
set_option linter.unusedVariables false
set_option linter.unusedSimpArgs false
theorem unpack_l0_eq {l : List Int} (hu : U32 l) (hl : l.length ≤ 1048576) : ∀ (k : Nat) (name : Bs) (n : Nat), n ≤ l.length → g_spec_Unpack_l0 l k name n = g_impl_Unpack_l0 l k name n := by
  intro k
  induction k with
  | zero => intro name n _; rfl
  | succ k ih =>
    intro name n h0
    unfold g_spec_Unpack_l0 g_impl_Unpack_l0
    by_cases hn : n < l.length
    · have hb := hu l[n] (List.getElem_mem hn)
      rw [decide_eq_true (by omega), getI_nat, List.getElem?_eq_getElem hn, cond_true, cond_true, Option.bind_some, Option.bind_some, unpackOne_eq hb.1 hb.2]
      obtain ⟨s, hs, _⟩ := unpackOne_ok (f := l[n])
      rw [hs, Option.bind_some, Option.bind_some]
      cases catS name s with
      | none => rfl
      | some o => rw [Option.bind_some, Option.bind_some, wI64 (by omega) (by omega), show ((n : Int) + 1) = ((n + 1 : Nat) : Int) by omega]; exact ih _ _ (by omega)
    · rw [decide_eq_false (by omega)]; rfl
theorem unpack_eq {l : List Int} (hu : U32 l) : g_spec_Unpack l = g_impl_Unpack l := by
  unfold g_impl_Unpack
  unfold g_spec_Unpack
  by_cases hl : (l.length : Int) > 24
  · rw [decide_eq_true hl, cond_true, cond_true]
  · rw [decide_eq_false hl]
    simp only [cond_false]
    have hE := unpack_l0_eq hu (by omega) bigK [] 0 (Nat.zero_le _)
    rw [Int.natCast_zero] at hE
    rw [hE]
    have key : ∀ (k : Nat) (name : Bs) (i : Int), 0 ≤ i → i ≤ l.length → (name.length : Int) ≤ 7 * i → l.length - i < k → Tot (g_impl_Unpack_l0 l k name i) fun r => r.length ≤ 168 := by
      intro k
      induction k with
      | zero => intro name i h0 h1 h2 h3; omega
      | succ k ih =>
        intro name i h0 h1 h2 h3
        unfold g_impl_Unpack_l0
        refine .condD (fun hi => ?_) fun _ => .some (by omega)
        obtain ⟨v, hv, _⟩ := getI_ex h0 hi
        refine .bindE hv (.bind unpackOne_ok fun s hs => .bindE (catS_eq (by omega)) ?_)
        rw [wI64 (x := i + 1) (by omega) (by omega)]
        exact ih _ _ (by omega) (by omega) (by rw [List.length_append]; omega) (by omega)
    obtain ⟨nm, hnm, hnl⟩ := key bigK [] 0 (by decide) (by omega) (by decide) (by unfold bigK; omega)
    rw [hnm]
    simp only [Option.bind_some]
    rw [specNameOk (by omega), implNameOk (by omega), pack_eq (by omega)]
    obtain ⟨p, hp, _, hpl⟩ := pack_ok (s := nm) (by omega)
    rw [hp]
    simp only [Option.bind_some]
    rw [same_eq (by omega), eqU (by omega)]
theorem fieldOk_eq {f : Int} (h0 : 0 ≤ f) (h1 : f < 4294967296) : g_spec_FieldOk f = g_impl_FieldOk f := by
  unfold g_spec_FieldOk g_impl_FieldOk
  rw [unpackOne_eq h0 h1]
  obtain ⟨s, hs, hl⟩ := unpackOne_ok (f := f)
  rw [hs]
  simp only [Option.bind_some]
  rw [pack_eq (by omega)]
  obtain ⟨p, hp, _, hpl⟩ := pack_ok (s := s) (by omega)
  rw [hp]
  simp only [Option.bind_some]
  rw [eqU (by omega)]
  cases p with
  | nil => rfl
  | cons a r =>
    cases r with
    | nil =>
      have : getI [a] 0 = some a := rfl
      simp [this]
      by_cases h : a = f
      · simp [h]
      · simp [h]
    | cons b r =>
      have : (((a :: b :: r).length : Int) == 1) = false := by simp; omega
      rw [this]
      simp
theorem tag_eq (k : Int) : g_spec_l04Tag k = g_impl_nameTag k := rfl
theorem wmul16 (f : Int) : (IntKind.wrap .u32 (f * 16)) % 16 = 0 := by
  simp [IntKind.wrap, IntKind.bits, IntKind.signed]
theorem or_tag {f t : Int} (t0 : 0 ≤ t) (t1 : t < 16) : orI .u32 (IntKind.wrap .u32 (f * 16)) t = IntKind.wrap .u32 (IntKind.wrap .u32 (f * 16) + t) := by
  have hb := wU32_bd (f * 16)
  have h16 := wmul16 f
  generalize IntKind.wrap .u32 (f * 16) = x at *
  rw [orU hb.1 hb.2 t0 (by omega), wU32 (by omega) (by omega)]
  have e : x.toNat = 2 ^ 4 * (x.toNat / 16) := by omega
  rw [e, or_low 4 (by omega)]
  omega
theorem or_zero {f : Int} : orI .u32 (IntKind.wrap .u32 (f * 16)) 0 = IntKind.wrap .u32 (f * 16) := by
  have hb := wU32_bd (f * 16)
  rw [or_tag (by decide) (by decide), Int.add_zero, wU32 hb.1 hb.2]
theorem word_l0 {t : Int} (t0 : 0 ≤ t) (t1 : t < 16) : ∀ (k : Nat) (done rest : List Int), done ≠ [] → rest.length < k → done.length + rest.length ≤ 1048576 →
    g_spec_l04Word_l0 t k (done ++ rest) done.length = some (done ++ rest.map fun f => orI .u32 (IntKind.wrap .u32 (f * 16)) 0) := by
  intro k
  induction k with
  | zero => intro done rest _ h1; omega
  | succ k ih =>
    intro done rest h0 h1 h2
    unfold g_spec_l04Word_l0
    cases rest with
    | nil => rw [decide_eq_false (by simp)]; simp
    | cons f r =>
      have hd : 1 ≤ done.length := by cases done with | nil => exact absurd rfl h0 | cons _ _ => simp
      rw [decide_eq_true (by simp; omega), getI_nat, List.getElem?_append_right (Nat.le_refl _), Nat.sub_self]
      have e0 : ((done.length : Int) == 0) = false := by simp; omega
      simp only [cond_true, List.getElem?_cons_zero, Option.bind_some, e0, cond_false]
      rw [Int.toNat_natCast, List.set_append_right _ _ (Nat.le_refl _), Nat.sub_self, List.set_cons_zero]
      rw [wI64 (by omega) (by simp at h2; omega)]
      have := ih (done ++ [IntKind.wrap .u32 (f * 16)]) r (by simp) (by simp at h1; omega) (by simp at h2 ⊢; omega)
      simp only [List.append_assoc, List.singleton_append, List.length_append, List.length_singleton] at this
      rw [show ((done.length : Int) + 1) = ((done.length + 1 : Nat) : Int) by omega, this, List.map_cons, or_zero]
theorem word_eq {t : Int} {s : Bs} {fs : List Int} (t0 : 0 ≤ t) (t1 : t < 16) (hs : s.length ≤ 1048576) (hp : g_impl_Pack s = some fs) (hl : fs.length ≤ 24) : g_spec_l04Word t s = some (nameCells t fs) := by
  unfold g_spec_l04Word
  rw [pack_eq hs, hp]
  simp only [Option.bind_some]
  cases fs with
  | nil => rfl
  | cons f r =>
    have h1 : g_spec_l04Word_l0 t bigK (f :: r) 0 = some (nameCells t (f :: r)) := by
      rw [show bigK = 18446744073709551615 + 1 from rfl]
      unfold g_spec_l04Word_l0
      have e1 : getI (f :: r) 0 = some f := rfl
      have e2 : ∀ x, getI ((f :: r).set (Int.toNat 0) x) 0 = some x := fun x => rfl
      rw [decide_eq_true (by simp), e1]
      simp only [cond_true, Option.bind_some, e2, show ((0 : Int) == 0) = true from rfl]
      rw [wI64 (by decide) (by decide)]
      have := word_l0 t0 t1 18446744073709551615 [IntKind.wrap .u32 (IntKind.wrap .u32 (f * 16) + t)] r (by simp) (by simp at hl; omega) (by simp at hl ⊢; omega)
      simp only [List.singleton_append, List.length_singleton] at this
      rw [show ((0 : Int) + 1) = ((1 : Nat) : Int) from rfl]
      rw [show List.set (List.set (f :: r) (Int.toNat 0) (IntKind.wrap .u32 (f * 16))) (Int.toNat 0) (IntKind.wrap .u32 (IntKind.wrap .u32 (f * 16) + t)) = IntKind.wrap .u32 (IntKind.wrap .u32 (f * 16) + t) :: r from rfl, this]
      simp only [nameCells, or_tag t0 t1]
    rw [h1]
    rfl
theorem num_eq {n : Int} {hex : Bool} {s l : Int} (hs : s = 8 ∨ s = 6) (hl : l = 2 ∨ l = 5) : g_spec_l04Num n hex s l = g_impl_numberCells n hex s l := by
  unfold g_spec_l04Num g_impl_numberCells
  have hb := wU32_bd (IntKind.wrap .u32 n * 32)
  have h32 : IntKind.wrap .u32 (IntKind.wrap .u32 n * 32) % 32 = 0 := by
    simp [IntKind.wrap, IntKind.bits, IntKind.signed]
  generalize IntKind.wrap .u32 (IntKind.wrap .u32 n * 32) = x at *
  have key : ∀ b : Int, (b = 0 ∨ b = 16) → IntKind.wrap .u32 (IntKind.wrap .u32 (x + b) + s) = orI .u32 (orI .u32 x b) s ∧ IntKind.wrap .u32 (b + l) = orI .u32 b l := fun b hb2 => by
    constructor
    · have h1 : orI .u32 x b = x + b := by
        rw [orU hb.1 hb.2 (by omega) (by omega), show x.toNat = 2 ^ 5 * (x.toNat / 32) by omega, or_low 5 (by omega)]; omega
      rw [h1, wU32 (x := x + b) (by omega) (by omega), orU (by omega) (by omega) (by omega) (by omega), show (x + b).toNat = 2 ^ 4 * ((x + b).toNat / 16) by omega, or_low 4 (by omega), wU32 (by omega) (by omega)]; omega
    · rcases hb2 with rfl | rfl <;> rcases hl with rfl | rfl <;> rfl
  have k0 := key 0 (.inl rfl)
  have k1 := key 16 (.inr rfl)
  cases hex with
  | true => simp only [cond_true, Option.bind_some, k1.1, k1.2]
  | false => simp only [cond_false, Option.bind_some, k0.1, k0.2]
theorem nameTag_vals (k : Int) : ∃ t, g_impl_nameTag k = some t ∧ 0 ≤ t ∧ t < 16 ∧ (0 < t → 1 ≤ k ∧ k ≤ 6) := by
  unfold g_impl_nameTag
  have hc : ∀ (b : Bool) (x y : Option Int) (Q : Int → Prop), (b = true → ∃ t, x = some t ∧ Q t) → (b = false → ∃ t, y = some t ∧ Q t) → ∃ t, cond b x y = some t ∧ Q t := fun b x y Q h1 h2 => by
    cases b with
    | true => exact h1 rfl
    | false => exact h2 rfl
  refine hc _ _ _ _ (fun h => ⟨1, rfl, by have := eq_of_beq h; omega⟩) fun _ => hc _ _ _ _ (fun h => ⟨3, rfl, by have := eq_of_beq h; omega⟩) fun _ => hc _ _ _ _ (fun h => ⟨4, rfl, by have := eq_of_beq h; omega⟩) fun _ =>
    hc _ _ _ _ (fun h => ⟨9, rfl, by have := eq_of_beq h; omega⟩) fun _ => hc _ _ _ _ (fun h => ⟨10, rfl, by have := eq_of_beq h; omega⟩) fun _ => hc _ _ _ _ (fun h => ⟨11, rfl, by have := eq_of_beq h; omega⟩) fun _ => ⟨0, rfl, by decide, by decide, fun h => absurd h (by decide)⟩
end Go.Proofs.Ythhoellakpnjpaa

namespace Go.Proofs.Ythhoellakpnjpaa
open Go Go.Fm
set_option linter.unusedVariables false
set_option linter.unusedSimpArgs false
theorem plainE (a b c : Bool) : (cond a (cond (!b) (some c) (some false)) (some false) : Option Bool) = some (a && (!b && c)) := by cases a <;> cases b <;> cases c <;> rfl
theorem cells_eq {it : GItem} (hs : it.Name.length ≤ 1048576) : g_spec_CellsOf it = g_impl_CellsOf it := by
  obtain ⟨K, nm, n, hex, raw⟩ := it
  obtain ⟨t, ht, t0, t1, tk⟩ := nameTag_vals K
  obtain ⟨p, hp, _, hpl⟩ := pack_ok (s := nm) hs
  simp only at hs
  unfold g_spec_CellsOf g_impl_CellsOf
  simp only [tag_eq, ht, plainE, Option.bind_some, beq_self_eq_true, Bool.true_and, Bool.and_true, hp]
  generalize (n == 0) = bn
  generalize (raw == 0) = br
  by_cases k0 : K = 0
  · subst k0
    have : t = 0 := by
      have h : g_impl_nameTag 0 = some 0 := by kernel_rfl
      rw [h] at ht; cases ht; rfl
    subst this
    cases nm with
    | nil => cases bn <;> cases hex <;> simp
    | cons a b => simp
  by_cases k7 : K = 7
  · subst k7
    have : t = 0 := by
      have h : g_impl_nameTag 7 = some 0 := by kernel_rfl
      rw [h] at ht; cases ht; rfl
    subst this
    rw [num_eq (.inl rfl) (.inl rfl)]
    cases nm with
    | nil => cases br <;> simp <;> cases g_impl_numberCells n hex 8 2 <;> rfl
    | cons a b => simp
  by_cases k8 : K = 8
  · subst k8
    have : t = 0 := by
      have h : g_impl_nameTag 8 = some 0 := by kernel_rfl
      rw [h] at ht; cases ht; rfl
    subst this
    rw [num_eq (.inr rfl) (.inr rfl)]
    cases nm with
    | nil => cases br <;> simp <;> cases g_impl_numberCells n hex 6 5 <;> rfl
    | cons a b => simp
  by_cases k9 : K = 9
  · subst k9
    have : t = 0 := by
      have h : g_impl_nameTag 9 = some 0 := by kernel_rfl
      rw [h] at ht; cases ht; rfl
    subst this
    rw [word_eq (by decide) (by decide) hs hp hpl]
    cases p with
    | nil => simp [nameCells]
    | cons f r =>
      cases r with
      | nil =>
        have hg : getI [f] 0 = some f := rfl
        have ha : ∀ x y : Int, app [x] [y] = some [x, y] := fun x y => app_eq (by simp)
        cases br <;> cases hex <;> simp [nameCells, hg, ha]
      | cons g r =>
        have h2 : ∀ (a b : Int) (r : List Int), (((a :: b :: r).length : Int) == 1) = false := fun a b r => by simp; omega
        simp only [nameCells, List.map_cons, h2, Option.bind_some, cond_false]
        cases br <;> cases hex <;> simp
  · have e0 : (K == 0) = false := by simpa using k0
    have e7 : (K == 7) = false := by simpa using k7
    have e8 : (K == 8) = false := by simpa using k8
    have e9 : (K == 9) = false := by simpa using k9
    rw [word_eq t0 t1 hs hp hpl]
    have hc := cells_l0 hpl bigK 0 t [] (Nat.zero_le _) (by unfold bigK; omega) rfl (fun h => by omega)
    simp only [Int.natCast_zero, List.drop_zero, List.nil_append] at hc
    simp only [e0, e7, e8, e9, cond_false, Bool.false_and, hc, Option.bind_some]
    cases bn <;> cases br <;> cases hex <;> by_cases h0 : 0 < t <;> simp [h0]
theorem name_l0 {cells : List Int} (hu : U32 cells) (hl : cells.length ≤ 64) : ∀ (k n : Nat) (fields : List Int), n ≤ cells.length → cells.length - n < k → fields.length + (cells.length - n) ≤ 65 →
    g_spec_l04Name_l0 cells k fields n = some (fields ++ ((cells.drop n).takeWhile runP).map (· / 16)) := by
  intro k
  induction k with
  | zero => intro n fields h0 h1; omega
  | succ k ih =>
    intro n fields h0 h1 h2
    unfold g_spec_l04Name_l0
    by_cases hn : n < cells.length
    · have hx := hu cells[n] (List.getElem_mem hn)
      rw [decide_eq_true (by omega), getI_nat, List.getElem?_eq_getElem hn, List.drop_eq_getElem_cons hn]
      simp only [cond_true, Option.bind_some]
      rw [Int.tmod_eq_emod_of_nonneg hx.1, Int.tdiv_eq_ediv_of_nonneg hx.1]
      have hc : (cond (cells[n] % 16 == 0) (some (cells[n] != 0)) (some false) : Option Bool) = some (runP cells[n]) := by
        unfold runP
        cases cells[n] % 16 == 0 <;> cases cells[n] != 0 <;> rfl
      rw [hc, Option.bind_some]
      cases hr : runP cells[n] with
      | true =>
        simp only [cond_true]
        rw [wU32 (by omega) (by omega), app_eq (by simp; omega), Option.bind_some, wI64 (by omega) (by omega), show ((n : Int) + 1) = ((n + 1 : Nat) : Int) by omega, ih (n + 1) _ (by omega) (by omega) (by simp; omega), List.takeWhile_cons, hr]
        simp
      | false =>
        simp only [cond_false]
        rw [List.takeWhile_cons, hr]
        simp
    · rw [decide_eq_false (by omega), cond_false, List.drop_eq_nil_of_le (by omega)]
      simp
theorem kind_eq {t : Int} (h0 : 0 ≤ t) (h1 : t < 16) : g_spec_l04Kind t = (if isName t then g_impl_nameKind t else some (-1)) ∧ (isName t = true → ∃ k, g_impl_nameKind t = some k ∧ 1 ≤ k) := by
  have h : (List.range 16).all (fun t => g_spec_l04Kind (t : Int) == (if isName (t : Int) then g_impl_nameKind (t : Int) else some (-1)) && (!isName (t : Int) || (match g_impl_nameKind (t : Int) with | some k => decide (1 ≤ k) | none => false))) = true := by kernel_rfl
  have h := List.all_eq_true.1 h t.toNat (List.mem_range.2 (by omega))
  rw [Int.toNat_of_nonneg h0, Bool.and_eq_true] at h
  refine ⟨eq_of_beq h.1, fun hn => ?_⟩
  have h2 := h.2
  rw [hn] at h2
  cases hk : g_impl_nameKind t with
  | none => rw [hk] at h2; simp at h2
  | some k => rw [hk] at h2; exact ⟨k, rfl, by simpa using h2⟩
theorem num_long {n : Int} {hex : Bool} {s l : Int} {cs : List Int} (h : g_impl_numberCells n hex s l = some cs) : cs.length = 1 ∨ cs = [orI .u32 (cond hex 16 0) l, IntKind.wrap .u32 n] := by
  unfold g_impl_numberCells at h
  have hb : (cond hex (some 16) (some 0) : Option Int) = some (cond hex 16 0) := by cases hex <;> rfl
  have hc : (cond (decide (n ≥ -67108864)) (some (decide (n ≤ 67108863))) (some false) : Option Bool) = some (decide (n ≥ -67108864) && decide (n ≤ 67108863)) := by cases decide (n ≥ -67108864) <;> rfl
  rw [hb, hc] at h
  simp only [Option.bind_some] at h
  cases h2 : (decide (n ≥ -67108864) && decide (n ≤ 67108863)) with
  | true => rw [h2] at h; cases h; exact .inl rfl
  | false => rw [h2] at h; cases h; exact .inr rfl
theorem nameCells_len {t : Int} {l : List Int} : (nameCells t l).length = l.length := by cases l <;> simp [nameCells]
/-- What the reference reads at a place. -/
theorem item_eq {cells tl : List Int} {n : Nat} {v : Int} (hu : U32 cells) (hl : cells.length ≤ 64) (hd : cells.drop n = v :: tl) :
    Tot (g_spec_l04Item cells n) fun r => pm v (tl.takeWhile runP) tl.head? = some r.1 ∧ ∀ cs, g_impl_CellsOf r.1 = some cs → r.2 = cs.length := by
  have hn : n < cells.length := by
    rcases Nat.lt_or_ge n cells.length with h | h
    · exact h
    · rw [List.drop_eq_nil_of_le h] at hd; cases hd
  have hc := List.drop_eq_getElem_cons hn
  rw [hd] at hc
  have hv0 : cells[n] = v := (List.cons.inj hc).1.symm
  have htl : cells.drop (n + 1) = tl := (List.cons.inj hc).2.symm
  have hv := hu v (by rw [← hv0]; exact List.getElem_mem hn)
  have hge : getI cells n = some v := by rw [getI_nat, List.getElem?_eq_getElem hn, hv0]
  have hn1 : IntKind.wrap .i64 ((n : Int) + 1) = ((n + 1 : Nat) : Int) := by rw [wI64 (by omega) (by omega)]; omega
  have htlen : tl.length = cells.length - (n + 1) := by rw [← htl, List.length_drop]
  have hnx : getI cells ((n + 1 : Nat) : Int) = tl.head? := by rw [getI_nat, ← htl, List.head?_drop]
  have hraw : ∀ cs, g_impl_CellsOf (raw v) = some cs → (1 : Int) = cs.length := fun cs h => by rw [show g_impl_CellsOf (raw v) = some [v] from cells_raw] at h; cases h; rfl
  have e16 : IntKind.wrap .u32 (Int.tdiv v 16) = v / 16 := by rw [Int.tdiv_eq_ediv_of_nonneg hv.1, wU32 (by omega) (by omega)]
  have hkd := kind_eq (t := v % 16) (by omega) (by omega)
  unfold g_spec_l04Item
  rw [hge]
  refine .bindE rfl ?_
  rw [Int.tmod_eq_emod_of_nonneg hv.1, hkd.1, e16, hn1]
  cases h1 : isName (v % 16) with
  | true =>
    obtain ⟨kd, hkd1, hkd2⟩ := hkd.2 h1
    rw [if_pos rfl, hkd1]
    have hs := name_l0 hu hl bigK (n + 1) [v / 16] (by omega) (by unfold bigK; omega) (by simp; omega)
    rw [htl, List.singleton_append] at hs
    have hul : U32 (v / 16 :: (tl.takeWhile runP).map (· / 16)) := fun x hx => by
      rcases List.mem_cons.1 hx with rfl | hx
      · omega
      · obtain ⟨y, hy, rfl⟩ := List.mem_map.1 hx
        have := hu y (List.mem_of_mem_drop (by rw [htl]; exact (List.takeWhile_sublist runP).subset hy))
        omega
    obtain ⟨y, hy, hyl, hyp⟩ := unpack_ok (l := v / 16 :: (tl.takeWhile runP).map (· / 16))
    have hnm : g_spec_l04Name cells n kd = some (cond (!y.2) ((⟨0, [], 0, false, 0⟩ : GItem), 0) ((⟨kd, y.1, 0, false, 0⟩ : GItem), (((v / 16 :: (tl.takeWhile runP).map (· / 16)).length : Nat) : Int))) := by
      unfold g_spec_l04Name
      rw [hge]
      simp only [Option.bind_some]
      rw [e16, hn1, hs]
      simp only [Option.bind_some]
      rw [unpack_eq hul, hy]
      simp only [Option.bind_some]
      cases y.2 <;> rfl
    simp only [Option.bind_some]
    rw [decide_eq_true (by omega), cond_true, hnm]
    simp only [Option.bind_some]
    unfold pm
    rw [h1, cond_true, hy, Option.bind_some]
    cases h2 : y.2 with
    | false => exact .some ⟨rfl, hraw⟩
    | true =>
      have e : ((((v / 16 :: (tl.takeWhile runP).map (· / 16)).length : Nat) : Int) == 0) = false := by simp; omega
      simp only [Bool.not_true, cond_false, cond_true, e]
      refine .some ⟨by rw [hkd1]; rfl, fun cs hcs => ?_⟩
      obtain ⟨t, ht, t0, t1, _⟩ := nameTag_vals kd
      have hp := hyp h2
      obtain ⟨p, hp', _, hpl⟩ := pack_ok (s := y.1) (by omega)
      rw [hp] at hp'
      cases hp'
      have ht0 : 0 < t := by
        have hh : (List.range 16).all (fun x => !isName (x : Int) || (match (g_impl_nameKind (x : Int)).bind g_impl_nameTag with | some t => decide (0 < t) | none => false)) = true := by kernel_rfl
        have hh := List.all_eq_true.1 hh (v % 16).toNat (List.mem_range.2 (by omega))
        rw [Int.toNat_of_nonneg (by omega), h1, hkd1, Option.bind_some, ht] at hh
        simpa using hh
      rw [cells_name ht ht0 hp hpl] at hcs
      cases hcs
      rw [nameCells_len]
  | false =>
    rw [if_neg (by decide)]
    simp only [Option.bind_some]
    rw [show decide ((-1 : Int) ≥ 0) = false from rfl, cond_false]
    have hpm : ∀ nx, pm v (tl.takeWhile runP) nx = (cond (v % 16 == 8) (some ⟨7, [], IntKind.wrap .i32 v / 32, andI .u32 v 16 != 0, 0⟩) (cond (v % 16 == 6) (some ⟨8, [], IntKind.wrap .i32 v / 32, andI .u32 v 16 != 0, 0⟩)
      (cond (v % 16 == 2 || v % 16 == 5) (match nx with
        | none => some (raw v)
        | some w => (g_impl_CellsOf (lng v w)).bind fun y => cond (decide (y = [v, w])) (some (lng v w)) (some (raw v)))
      (cond (v % 16 == 12) (match nx with
        | none => some (raw v)
        | some w => (g_impl_FieldOk (v / 16)).bind fun b => cond b ((g_impl_UnpackOne (v / 16)).bind fun nm => some ⟨9, nm, IntKind.wrap .i32 w, false, 0⟩) (some (raw v))) (some (raw v)))))) := fun nx => by
      unfold pm; rw [h1]; first | done | (cases nx <;> rfl)
    rw [hpm]
    by_cases h8 : v % 16 = 8
    · have hN : g_spec_l04Number cells n = some (⟨7, [], IntKind.wrap .i32 v / 32, andI .u32 v 16 != 0, 0⟩, 1) := by
        unfold g_spec_l04Number
        rw [hge]
        simp only [Option.bind_some]
        rw [Int.tmod_eq_emod_of_nonneg hv.1, h8]
        rfl
      rw [h8, hN]
      refine .some ⟨rfl, fun cs hcs => ?_⟩
      rw [cells_7, short_back hv h8 2] at hcs
      cases hcs; rfl
    by_cases h6 : v % 16 = 6
    · have hN : g_spec_l04Number cells n = some (⟨8, [], IntKind.wrap .i32 v / 32, andI .u32 v 16 != 0, 0⟩, 1) := by
        unfold g_spec_l04Number
        rw [hge]
        simp only [Option.bind_some]
        rw [Int.tmod_eq_emod_of_nonneg hv.1, h6]
        rfl
      rw [h6, hN]
      refine .some ⟨rfl, fun cs hcs => ?_⟩
      rw [cells_8, short_back hv h6 5] at hcs
      cases hcs; rfl
    have b8 : (v % 16 == 8) = false := by simpa using h8
    have b6 : (v % 16 == 6) = false := by simpa using h6
    rw [b8, b6]
    simp only [cond_false]
    cases h25 : (v % 16 == 2 || v % 16 == 5) with
    | true =>
      have hch : (cond (v % 16 == 2) (some true) (some (v % 16 == 5)) : Option Bool) = some true := by
        revert h25
        cases v % 16 == 2 <;> cases v % 16 == 5 <;> simp
      rw [hch]
      simp only [Option.bind_some, cond_true]
      have hit : (cond (v % 16 == 5) (some (⟨8, [], 0, andI .u32 v 16 != 0, 0⟩ : GItem)) (some ⟨7, [], 0, andI .u32 v 16 != 0, 0⟩)) = some (cond (v % 16 == 5) (⟨8, [], 0, andI .u32 v 16 != 0, 0⟩ : GItem) ⟨7, [], 0, andI .u32 v 16 != 0, 0⟩) := by
        cases v % 16 == 5 <;> rfl
      have hlg : ∀ w, (⟨(cond (v % 16 == 5) (⟨8, [], 0, andI .u32 v 16 != 0, 0⟩ : GItem) ⟨7, [], 0, andI .u32 v 16 != 0, 0⟩).Kind, (cond (v % 16 == 5) (⟨8, [], 0, andI .u32 v 16 != 0, 0⟩ : GItem) ⟨7, [], 0, andI .u32 v 16 != 0, 0⟩).Name, IntKind.wrap .i32 w,
          (cond (v % 16 == 5) (⟨8, [], 0, andI .u32 v 16 != 0, 0⟩ : GItem) ⟨7, [], 0, andI .u32 v 16 != 0, 0⟩).Hex, (cond (v % 16 == 5) (⟨8, [], 0, andI .u32 v 16 != 0, 0⟩ : GItem) ⟨7, [], 0, andI .u32 v 16 != 0, 0⟩).Raw⟩ : GItem) = lng v w := fun w => by
        unfold lng; cases v % 16 == 5 <;> rfl
      have hN : g_spec_l04Number cells n = (match tl.head? with
          | none => some ((⟨0, [], 0, false, 0⟩ : GItem), 0)
          | some w => cond (v / 32 != 0) (some ((⟨0, [], 0, false, 0⟩ : GItem), 0)) ((g_impl_CellsOf (lng v w)).bind fun y => some (lng v w, IntKind.wrap .i64 (IntKind.wrap .i64 (Int.tdiv (y.length : Int) 2) * 2)))) := by
        unfold g_spec_l04Number
        rw [hge]
        simp only [Option.bind_some]
        rw [Int.tmod_eq_emod_of_nonneg hv.1, b6, b8, hn1]
        simp only [cond_false, hit, Option.bind_some]
        rw [Int.tdiv_eq_ediv_of_nonneg hv.1, wU32 (x := v / 32) (by omega) (by omega)]
        cases tl with
        | nil =>
          rw [decide_eq_true (by simp at htlen; omega)]
          rfl
        | cons w r =>
          rw [decide_eq_false (by simp at htlen; omega), hnx]
          simp only [cond_false, Option.bind_some, List.head?_cons, hlg]
          cases v / 32 != 0 with
          | true => rfl
          | false =>
            simp only [cond_false]
            rw [cells_eq (by unfold lng; cases v % 16 == 5 <;> simp)]
      rw [hN]
      cases tl with
      | nil => exact .some ⟨rfl, hraw⟩
      | cons w r =>
        simp only [List.head?_cons]
        obtain ⟨cs, hcs, _, hcl⟩ := lng_cells (v := v) (w := w)
        have hw := hu w (List.mem_of_mem_drop (by rw [htl]; exact List.mem_cons_self ..))
        rw [hcs]
        simp only [Option.bind_some]
        have hlong : cs = [v, w] ↔ (v / 32 = 0 ∧ cs.length = 2) := by
          have hww : IntKind.wrap .u32 (IntKind.wrap .i32 w) = w := by
            simp [IntKind.wrap, IntKind.bits, IntKind.signed]; split <;> omega
          have hcs2 : cs.length = 1 ∨ cs = [orI .u32 (cond (andI .u32 v 16 != 0) 16 0) (v % 16), w] := by
            have h25' : v % 16 = 2 ∨ v % 16 = 5 := by simpa using h25
            unfold lng at hcs
            rcases h25' with h2 | h5
            · rw [h2, show ((2 : Int) == 5) = false from rfl, cond_false, cells_7] at hcs
              have := num_long hcs
              rw [hww] at this
              rw [h2]; exact this
            · rw [h5, show ((5 : Int) == 5) = true from rfl, cond_true, cells_8] at hcs
              have := num_long hcs
              rw [hww] at this
              rw [h5]; exact this
          have hor : orI .u32 (cond (andI .u32 v 16 != 0) 16 0) (v % 16) = v % 32 := by
            rw [and16 hv.1 hv.2]
            by_cases hb : v / 16 % 2 = 1
            · rw [decide_eq_true hb, cond_true, orU (by decide) (by decide) (by omega) (by omega), show (16 : Int).toNat = 2 ^ 4 * 1 from rfl, or_low 4 (by omega)]; omega
            · rw [decide_eq_false hb, cond_false, orU (by decide) (by decide) (by omega) (by omega), show (0 : Int).toNat = 2 ^ 4 * 0 from rfl, or_low 4 (by omega)]; omega
          rw [hor] at hcs2
          constructor
          · intro h
            rcases hcs2 with h1 | h2
            · rw [h] at h1; simp at h1
            · rw [h] at h2 ⊢
              have := (List.cons.inj h2).1
              exact ⟨by omega, rfl⟩
          · intro h
            rcases hcs2 with h1 | h2
            · omega
            · rw [h2, show v % 32 = v by omega]
        by_cases h32 : v / 32 = 0
        · rw [h32, show ((0 : Int) != 0) = false from rfl, cond_false]
          by_cases h2 : cs.length = 2
          · rw [decide_eq_true (hlong.2 ⟨h32, h2⟩), h2]
            exact .some ⟨rfl, fun cs' h => by
              have : (IntKind.wrap .i64 (IntKind.wrap .i64 (Int.tdiv ((2 : Nat) : Int) 2) * 2)) = 2 := by decide
              rw [show g_impl_CellsOf (lng v w) = some cs from hcs] at h
              cases h
              rw [h2]; rfl⟩
          · have h1 : cs.length = 0 ∨ cs.length = 1 := by omega
            rw [decide_eq_false (fun h => h2 (hlong.1 h).2)]
            rcases h1 with h1 | h1 <;> rw [h1] <;> exact .some ⟨rfl, hraw⟩
        · have : (v / 32 != 0) = true := by simpa using h32
          rw [this, decide_eq_false (fun h => h32 (hlong.1 h).1)]
          exact .some ⟨rfl, hraw⟩
    | false =>
      have hch : (cond (v % 16 == 2) (some true) (some (v % 16 == 5)) : Option Bool) = some false := by
        revert h25
        cases v % 16 == 2 <;> cases v % 16 == 5 <;> simp
      rw [hch]
      simp only [Option.bind_some, cond_false]
      cases h12 : v % 16 == 12 with
      | false => exact .some ⟨rfl, hraw⟩
      | true =>
        simp only [cond_true]
        cases tl with
        | nil =>
          rw [decide_eq_false (by simp at htlen; omega)]
          exact .some ⟨rfl, hraw⟩
        | cons w r =>
          obtain ⟨b, hb, hbf⟩ := field_ok (f := v / 16)
          rw [decide_eq_true (by simp at htlen; omega), hnx, fieldOk_eq (by omega) (by omega), hb]
          simp only [cond_true, Option.bind_some, List.head?_cons]
          cases b with
          | false => exact .some ⟨rfl, hraw⟩
          | true =>
            obtain ⟨nm, h2, h3, h4⟩ := hbf rfl
            rw [cond_true, unpackOne_eq (by omega) (by omega), h2]
            simp only [cond_true, Option.bind_some]
            refine .some ⟨rfl, fun cs hcs => ?_⟩
            rw [cells_9 h4] at hcs
            cases hcs; rfl
theorem specParse_l0 {cells : List Int} (hu : U32 cells) (hl : cells.length ≤ 64) : ∀ (k n : Nat) (out its : List GItem), n ≤ cells.length → Parses (cells.drop n) its → cells.length - n < k → out.length + (cells.length - n) ≤ 64 → g_spec_ParseCells_l0 cells k out n = some (out ++ its) := by
  intro k
  induction k with
  | zero => intro n out its _ _ h; omega
  | succ k ih =>
    intro n out its hn hp h hlo
    unfold g_spec_ParseCells_l0
    by_cases hlt : n < cells.length
    · have hd := List.drop_eq_getElem_cons hlt
      have hud : U32 (cells[n] :: cells.drop (n + 1)) := fun x hx => hu x (List.mem_of_mem_drop (by rw [hd]; exact hx))
      have hld : (cells[n] :: cells.drop (n + 1)).length ≤ 64 := by rw [← hd, List.length_drop]; omega
      obtain ⟨r, hr, hpm, hrl⟩ := item_eq hu hl hd
      rw [← parse_pm hud hld] at hpm
      have hp' := hp
      rw [hd] at hp'
      cases hp' with
      | cons h1 h2 h3 h4 h5 =>
        rename_i rest cs it its'
        rw [h1] at hpm
        have hri : it = r.1 := Option.some.inj hpm
        have hrl2 := hrl cs (by rw [← hri]; exact h2)
        have hlen : cells.length - n = cs.length + rest.length := by rw [← List.length_drop, hd, h4, List.length_append]
        rw [decide_eq_true (by omega), cond_true, hr, Option.bind_some, app_eq (by simp; omega), Option.bind_some, hrl2, wI64 (by omega) (by omega), show (n : Int) + (cs.length : Int) = ((n + cs.length : Nat) : Int) by omega]
        have hd2 : cells.drop (n + cs.length) = rest := by rw [← List.drop_drop, hd, h4, List.drop_left]
        rw [ih (n + cs.length) _ its' (by omega) (by rw [hd2]; exact h5) (by omega) (by simp; omega), List.append_assoc, ← hri]
        rfl
    · rw [decide_eq_false (by omega), cond_false]
      have : cells.drop n = [] := List.drop_eq_nil_of_le (by omega)
      rw [this] at hp
      cases hp with
      | nil => rw [List.append_nil]
      | cons h1 h2 h3 h4 h5 =>
        have := congrArg List.length h4
        simp at this; omega
theorem specStrip_eq : ∀ (k : Nat) (out : List GItem), out.length ≤ 64 → g_spec_ParseCells_l1 k out = g_impl_ParseCells_l1 k out ((out.length : Int) - 1) := by
  intro k
  induction k with
  | zero => intro out _; rfl
  | succ k ih =>
    intro out hl
    unfold g_spec_ParseCells_l1 g_impl_ParseCells_l1
    rcases List.eq_nil_or_concat out with rfl | ⟨xs, x, rfl⟩
    · rfl
    · simp only [List.concat_eq_append] at *
      have hlen : (xs ++ [x]).length = xs.length + 1 := by simp
      rw [decide_eq_true (by omega), decide_eq_true (by omega), wI64 (x := (((xs ++ [x]).length : Nat) : Int) - 1) (by omega) (by omega), show (((xs ++ [x]).length : Nat) : Int) - 1 = ((xs.length : Nat) : Int) by omega, getI_nat, List.getElem?_concat_length]
      simp only [cond_true, Option.bind_some, isRz]
      by_cases hx : x = rz
      · rw [decide_eq_true hx, cond_true, cond_true, subL_take (by omega) (by omega), Option.bind_some, Option.bind_some, Int.toNat_natCast, List.take_left, wI64 (by omega) (by omega)]
        exact ih xs (by omega)
      · rw [decide_eq_false hx]; rfl
theorem parseCells_eq {cells : List Int} (hu : U32 cells) : g_spec_ParseCells cells = g_impl_ParseCells cells := by
  unfold g_spec_ParseCells g_impl_ParseCells
  by_cases hl : (cells.length : Int) > 64
  · rw [decide_eq_true hl, cond_true, cond_true]
  · rw [decide_eq_false hl, cond_false, cond_false]
    have hl : cells.length ≤ 64 := by omega
    obtain ⟨all, hp⟩ := parses_ex _ cells (Nat.le_refl _) hu hl
    have hlen := hp.len
    have h1 := specParse_l0 hu hl bigK 0 [] all (Nat.zero_le _) hp (by unfold bigK; omega) (by simpa using hl)
    rw [show ((0 : Nat) : Int) = 0 from rfl] at h1
    rw [h1, parse_l0 bigK cells [] all hp (by unfold bigK; omega) (by simpa using hl)]
    simp only [Option.bind_some, List.nil_append]
    rw [wI64 (by omega) (by omega), specStrip_eq _ _ (by omega)]
    cases g_impl_ParseCells_l1 bigK all ((all.length : Int) - 1) <;> rfl
end Go.Proofs.Ythhoellakpnjpaa

/-! How much two lists have in common, by plain recursion. -/
namespace Go.Fm
set_option linter.unusedVariables false
set_option linter.unusedSimpArgs false
section
variable {α : Type} [DecidableEq α]
def lcs : List α → List α → Nat
  | [], _ => 0
  | _ :: _, [] => 0
  | x :: xs, y :: ys => if x = y then lcs xs ys + 1 else max (lcs xs (y :: ys)) (lcs (x :: xs) ys)
termination_by a b => a.length + b.length
theorem lcs_nil (b : List α) : lcs [] b = 0 := by rw [lcs]
theorem lcs_nilR : ∀ a : List α, lcs a [] = 0
  | [] => by rw [lcs]
  | _ :: _ => by rw [lcs]
theorem lcs_cons (x y : α) (xs ys : List α) : lcs (x :: xs) (y :: ys) = if x = y then lcs xs ys + 1 else max (lcs xs (y :: ys)) (lcs (x :: xs) ys) := by rw [lcs]
theorem lcs_ex : ∀ (n : Nat) (a b : List α), a.length + b.length ≤ n → ∃ l : List α, l.Sublist a ∧ l.Sublist b ∧ l.length = lcs a b
  | n, [], b, _ => ⟨[], List.Sublist.refl _, List.nil_sublist _, by rw [lcs_nil]; rfl⟩
  | n, x :: xs, [], _ => ⟨[], List.nil_sublist _, List.Sublist.refl _, by rw [lcs_nilR]; rfl⟩
  | 0, x :: xs, y :: ys, h => by simp at h
  | n + 1, x :: xs, y :: ys, h => by
    simp only [List.length_cons] at h
    rw [lcs_cons]
    by_cases e : x = y
    · obtain ⟨l, h1, h2, h3⟩ := lcs_ex n xs ys (by omega)
      subst e
      exact ⟨x :: l, h1.cons_cons x, h2.cons_cons x, by rw [if_pos rfl, List.length_cons, h3]⟩
    · rw [if_neg e]
      obtain ⟨l, h1, h2, h3⟩ := lcs_ex n xs (y :: ys) (by simp only [List.length_cons]; omega)
      obtain ⟨m, g1, g2, g3⟩ := lcs_ex n (x :: xs) ys (by simp only [List.length_cons]; omega)
      by_cases hm : lcs xs (y :: ys) ≤ lcs (x :: xs) ys
      · exact ⟨m, g1, g2.cons y, by rw [g3, Nat.max_eq_right hm]⟩
      · exact ⟨l, h1.cons x, h2, by rw [h3, Nat.max_eq_left (by omega)]⟩
omit [DecidableEq α] in
theorem sub_tail {l xs : List α} {x : α} (h : l.Sublist (x :: xs)) : l.tail.Sublist xs := by
  cases h with
  | cons _ h => exact (List.tail_sublist l).trans h
  | cons_cons _ h => exact h
omit [DecidableEq α] in
theorem sub_ne {l xs ys : List α} {x y : α} (hne : x ≠ y) (h : l.Sublist (x :: xs)) (g : l.Sublist (y :: ys)) : l.Sublist xs ∨ l.Sublist ys := by
  cases h with
  | cons _ h => exact .inl h
  | cons_cons _ h =>
    cases g with
    | cons _ g => exact .inr g
    | cons_cons _ g => exact absurd rfl hne
theorem lcs_max : ∀ (n : Nat) (a b : List α), a.length + b.length ≤ n → ∀ l : List α, l.Sublist a → l.Sublist b → l.length ≤ lcs a b
  | n, [], b, _, l, h, _ => by rw [List.sublist_nil.1 h]; exact Nat.zero_le _
  | n, x :: xs, [], _, l, _, h => by rw [List.sublist_nil.1 h]; exact Nat.zero_le _
  | 0, x :: xs, y :: ys, h, _, _, _ => by simp at h
  | n + 1, x :: xs, y :: ys, h, l, h1, h2 => by
    simp only [List.length_cons] at h
    rw [lcs_cons]
    by_cases e : x = y
    · rw [if_pos e]
      have := lcs_max n xs ys (by omega) l.tail (sub_tail h1) (sub_tail h2)
      rw [List.length_tail] at this
      omega
    · rw [if_neg e]
      rcases sub_ne e h1 h2 with g | g
      · have := lcs_max n xs (y :: ys) (by simp only [List.length_cons]; omega) l g h2
        omega
      · have := lcs_max n (x :: xs) ys (by simp only [List.length_cons]; omega) l h1 g
        omega
theorem lcs_le_of {a b a' b' : List α} (h : ∀ l : List α, l.Sublist a → l.Sublist b → ∃ m : List α, m.length = l.length ∧ m.Sublist a' ∧ m.Sublist b') : lcs a b ≤ lcs a' b' := by
  obtain ⟨l, h1, h2, h3⟩ := lcs_ex _ a b (Nat.le_refl _)
  obtain ⟨m, g1, g2, g3⟩ := h l h1 h2
  rw [← h3, ← g1]
  exact lcs_max _ a' b' (Nat.le_refl _) m g2 g3
theorem lcs_comm (a b : List α) : lcs a b = lcs b a :=
  Nat.le_antisymm (lcs_le_of fun l h1 h2 => ⟨l, rfl, h2, h1⟩) (lcs_le_of fun l h1 h2 => ⟨l, rfl, h2, h1⟩)
theorem lcs_rev (a b : List α) : lcs a.reverse b.reverse = lcs a b :=
  Nat.le_antisymm (lcs_le_of fun l h1 h2 => ⟨l.reverse, List.length_reverse, by have := h1.reverse; rwa [List.reverse_reverse] at this, by have := h2.reverse; rwa [List.reverse_reverse] at this⟩)
    (lcs_le_of fun l h1 h2 => ⟨l.reverse, List.length_reverse, h1.reverse, h2.reverse⟩)
theorem lcs_leL (a b : List α) : lcs a b ≤ a.length := by
  obtain ⟨l, h1, h2, h3⟩ := lcs_ex _ a b (Nat.le_refl _)
  rw [← h3]; exact h1.length_le
theorem lcs_leR (a b : List α) : lcs a b ≤ b.length := by rw [lcs_comm]; exact lcs_leL b a
theorem lcs_self (a : List α) : lcs a a = a.length :=
  Nat.le_antisymm (lcs_leL a a) (lcs_max _ a a (Nat.le_refl _) a (List.Sublist.refl _) (List.Sublist.refl _))
end
end Go.Fm

/-! The implementation's count and the reference's table: both are lcs. -/
namespace Go.Proofs.Ythhoellakpnjpaa
open Go Go.Fm
set_option linter.unusedVariables false
set_option linter.unusedSimpArgs false
theorem itemEq (x y : GItem) : ((x.Kind : Int) == y.Kind && ((x.Name : Bs) == y.Name && ((x.N : Int) == y.N && ((x.Hex : Bool) == y.Hex && ((x.Raw : Int) == y.Raw && true))))) = decide (x = y) := by
  obtain ⟨a1, a2, a3, a4, a5⟩ := x
  obtain ⟨b1, b2, b3, b4, b5⟩ := y
  rw [Bool.eq_iff_iff]
  simp
theorem maxI_eq {a b : Nat} : maxI (a : Int) (b : Int) = ((max a b : Nat) : Int) := by
  unfold maxI
  omega
theorem getI_le {α : Type} {xs : List α} {i : Nat} {x : α} (h : xs[i]? = some x) : getI xs (i : Int) = some x := by rw [getI_nat]; exact h
theorem w1 {n : Nat} (h : n ≤ 1048576) : IntKind.wrap .i64 ((n : Int) + 1) = ((n + 1 : Nat) : Int) := by rw [wI64 (by omega) (by omega)]; omega
theorem take_rev {α : Type} {a : List α} {i : Nat} (h : i < a.length) : (a.take (i + 1)).reverse = a[i] :: (a.take i).reverse := by
  rw [List.take_succ_eq_append_getElem h, List.reverse_append]
  rfl
/-- A row of the implementation. -/
def Rw (A b : List GItem) (n : Nat) (r : List Int) : Prop := r.length = b.length + 1 ∧ ∀ k, k ≤ n → r[k]? = some ((lcs A (b.take k).reverse : Nat) : Int)
theorem in_ok {A b : List GItem} {x : GItem} {row : List Int} (hb : b.length ≤ 64) (hA : A.length ≤ 64) (hr : Rw A b b.length row) : ∀ (k n : Nat) (next : List Int), n ≤ b.length → b.length - n < k → Rw (x :: A) b n next →
    ∃ r, g_impl_common_l1 b row x k next (n : Int) = some r ∧ Rw (x :: A) b b.length r := by
  intro k
  induction k with
  | zero => intro n next h0 h1; omega
  | succ k ih =>
    intro n next h0 h1 hn
    rw [g_impl_common_l1]
    by_cases hlt : n < b.length
    · have e1 := getI_nat (xs := b) (i := n)
      rw [List.getElem?_eq_getElem hlt] at e1
      have e2 := getI_le (hn.2 n (Nat.le_refl _))
      have e3 := getI_le (hr.2 (n + 1) (by omega))
      have e4 := getI_le (hr.2 n (by omega))
      have l1 : n + 1 < next.length := by rw [hn.1]; omega
      have e5 := getI_nat (xs := next) (i := n + 1)
      rw [List.getElem?_eq_getElem l1] at e5
      have hw := w1 (n := n) (by omega)
      have hT := lcs_cons x b[n] A (b.take n).reverse
      rw [← take_rev hlt] at hT
      have hle := lcs_leL A (b.take n).reverse
      rw [decide_eq_true (by omega), cond_true, e1, hw, e2, e3, e5]
      simp only [Option.bind_some]
      rw [itemEq]
      by_cases he : x = b[n]
      · rw [decide_eq_true he, cond_true, e4]
        simp only [Option.bind_some]
        have e6 := getI_nat (xs := next.set ((n + 1 : Nat) : Int).toNat (maxI ((lcs (x :: A) (b.take n).reverse : Nat) : Int) ((lcs A (b.take (n + 1)).reverse : Nat) : Int))) (i := n + 1)
        rw [List.getElem?_eq_getElem (by rw [List.length_set]; exact l1)] at e6
        rw [e6]
        simp only [Option.bind_some]
        rw [Int.toNat_natCast, List.set_set, w1 (by omega)]
        refine ih (n + 1) _ (by omega) (by omega) ⟨by rw [List.length_set]; exact hn.1, fun j hj => ?_⟩
        by_cases hj1 : j = n + 1
        · subst hj1
          rw [List.getElem?_set_self l1, hT, if_pos he]
        · rw [List.getElem?_set_ne (fun e => hj1 e.symm)]
          exact hn.2 j (by omega)
      · rw [decide_eq_false he, cond_false]
        simp only [Option.bind_some]
        rw [Int.toNat_natCast, maxI_eq]
        refine ih (n + 1) _ (by omega) (by omega) ⟨by rw [List.length_set]; exact hn.1, fun j hj => ?_⟩
        by_cases hj1 : j = n + 1
        · subst hj1
          rw [List.getElem?_set_self l1, hT, if_neg he, Nat.max_comm]
        · rw [List.getElem?_set_ne (fun e => hj1 e.symm)]
          exact hn.2 j (by omega)
    · rw [decide_eq_false (by omega), cond_false]
      have : n = b.length := by omega
      subst this
      exact ⟨next, rfl, hn⟩
theorem zero_row {A b : List GItem} {z : List Int} (hz : z = List.replicate (b.length + 1) 0) : Rw A b 0 z := by
  subst hz
  refine ⟨List.length_replicate, fun k hk => ?_⟩
  have : k = 0 := by omega
  subst this
  rw [List.take_zero, List.reverse_nil, lcs_nilR]
  rfl
theorem zero_row0 {b : List GItem} {z : List Int} (hz : z = List.replicate (b.length + 1) 0) : Rw [] b b.length z := by
  subst hz
  refine ⟨List.length_replicate, fun k hk => ?_⟩
  rw [lcs_nil, List.getElem?_replicate, if_pos (by omega)]
  rfl
theorem out_ok {a b : List GItem} {z : List Int} (hz : z = List.replicate (b.length + 1) 0) (ha : a.length ≤ 64) (hb : b.length ≤ 64) : ∀ (k n : Nat) (row : List Int), n ≤ a.length → a.length - n < k → Rw (a.take n).reverse b b.length row →
    ∃ r, g_impl_common_l0 a b z k row (n : Int) = some r ∧ Rw a.reverse b b.length r := by
  intro k
  induction k with
  | zero => intro n next h0 h1; omega
  | succ k ih =>
    intro n row h0 h1 hn
    rw [g_impl_common_l0]
    by_cases hlt : n < a.length
    · have e1 := getI_nat (xs := a) (i := n)
      rw [List.getElem?_eq_getElem hlt] at e1
      rw [decide_eq_true (by omega), cond_true, e1]
      simp only [Option.bind_some]
      have hA : ((a.take n).reverse).length ≤ 64 := by rw [List.length_reverse, List.length_take]; omega
      obtain ⟨r, h2, h3⟩ := in_ok (x := a[n]) hb hA hn bigK 0 z (Nat.zero_le _) (by unfold bigK; omega) (zero_row hz)
      rw [Int.natCast_zero] at h2
      rw [h2]
      simp only [Option.bind_some]
      rw [w1 (by omega)]
      refine ih (n + 1) r (by omega) (by omega) ?_
      rw [take_rev hlt]
      exact h3
    · rw [decide_eq_false (by omega), cond_false]
      have : n = a.length := by omega
      subst this
      rw [List.take_length] at hn
      exact ⟨row, rfl, hn⟩
theorem common_eq {a b : List GItem} (ha : a.length ≤ 64) (hb : b.length ≤ 64) : g_impl_common a b = some ((lcs a b : Nat) : Int) := by
  unfold g_impl_common
  rw [w1 (by omega), mk_eq (by omega) (by omega)]
  simp only [Option.bind_some]
  obtain ⟨r, h2, h3⟩ := out_ok rfl ha hb bigK 0 (List.replicate (b.length + 1) 0) (Nat.zero_le _) (by unfold bigK; omega) (by rw [List.take_zero, List.reverse_nil]; exact zero_row0 rfl)
  rw [Int.natCast_zero] at h2
  rw [Int.toNat_natCast, h2]
  simp only [Option.bind_some]
  rw [getI_le (h3.2 b.length (Nat.le_refl _)), List.take_length, lcs_rev]
  rfl
/-! ### The table -/
def T (a b : List GItem) (i k : Nat) : Int := ((lcs (a.drop i) (b.drop k) : Nat) : Int)
/-- What is done is right: the rows behind i, and in row i the cells from k on. -/
def Good (a b : List GItem) (i k : Nat) (rows : List (List Int)) : Prop :=
  rows.length = a.length + 1 ∧ ∀ i', i' ≤ a.length → ∃ r, rows[i']? = some r ∧ r.length = b.length + 1 ∧ ∀ k', k' ≤ b.length → (i < i' ∨ (i' = i ∧ k ≤ k') ∨ k' = b.length) → r[k']? = some (T a b i' k')
theorem max14 {x y : Nat} : g_spec_l14Max (x : Int) (y : Int) = some ((max x y : Nat) : Int) := by
  unfold g_spec_l14Max
  by_cases h : (x : Int) > y
  · rw [decide_eq_true h, cond_true]; congr 1; omega
  · rw [decide_eq_false h, cond_false]; congr 1; omega
theorem T_le {a b : List GItem} {i k : Nat} (ha : a.length ≤ 64) : T a b i k ≤ 64 ∧ 0 ≤ T a b i k := by
  unfold T
  have := lcs_leL (a.drop i) (b.drop k)
  rw [List.length_drop] at this
  omega
theorem T_step {a b : List GItem} {i k : Nat} (hi : i < a.length) (hk : k < b.length) : lcs (a.drop i) (b.drop k) = if a[i] = b[k] then lcs (a.drop (i + 1)) (b.drop (k + 1)) + 1 else max (lcs (a.drop (i + 1)) (b.drop k)) (lcs (a.drop i) (b.drop (k + 1))) := by
  have := lcs_cons a[i] b[k] (a.drop (i + 1)) (b.drop (k + 1))
  rw [← List.drop_eq_getElem_cons hi, ← List.drop_eq_getElem_cons hk] at this
  exact this
theorem good_set {a b : List GItem} {i k : Nat} {rows : List (List Int)} {r : List Int} {v : Int} (hi : i < a.length) (hk : k < b.length) (h : Good a b i (k + 1) rows) (hr : rows[i]? = some r) (hv : v = T a b i k) : Good a b i k (rows.set i (r.set k v)) := by
  refine ⟨by rw [List.length_set]; exact h.1, fun i' hi' => ?_⟩
  obtain ⟨q, h1, h2, h3⟩ := h.2 i' hi'
  by_cases he : i' = i
  · subst he
    rw [hr] at h1
    cases h1
    refine ⟨r.set k v, List.getElem?_set_self (by rw [h.1]; omega), by rw [List.length_set]; exact h2, fun k' hk' ho => ?_⟩
    by_cases hkk : k' = k
    · subst hkk
      rw [List.getElem?_set_self (by rw [h2]; omega), hv]
    · rw [List.getElem?_set_ne (fun e => hkk e.symm)]
      exact h3 k' hk' (by omega)
  · refine ⟨q, by rw [List.getElem?_set_ne (fun e => he e.symm)]; exact h1, h2, fun k' hk' ho => h3 k' hk' (by omega)⟩
theorem step_ok {a b : List GItem} {i k : Nat} {rows : List (List Int)} (ha : a.length ≤ 64) (hb : b.length ≤ 64) (hi : i < a.length) (hk : k < b.length) (h : Good a b i (k + 1) rows) :
    ∃ rows', g_spec_l22Table_s a b rows (i : Int) (k : Int) = some rows' ∧ Good a b i k rows' := by
  obtain ⟨r, p1, p2, p3⟩ := h.2 i (by omega)
  obtain ⟨r1, q1, q2, q3⟩ := h.2 (i + 1) (by omega)
  have e1 := getI_le p1
  have e2 := getI_le q1
  have e3 := getI_le (q3 k (by omega) (by omega))
  have e4 := getI_le (p3 (k + 1) (by omega) (by omega))
  have e5 := getI_le (q3 (k + 1) (by omega) (by omega))
  have lk : k < r.length := by rw [p2]; omega
  have e6 := getI_nat (xs := r) (i := k)
  rw [List.getElem?_eq_getElem lk] at e6
  have e7 := getI_nat (xs := a) (i := i)
  rw [List.getElem?_eq_getElem hi] at e7
  have e8 := getI_nat (xs := b) (i := k)
  rw [List.getElem?_eq_getElem hk] at e8
  have hst := T_step hi hk
  unfold g_spec_l22Table_s
  rw [w1 (by omega), w1 (by omega), e1, e2]
  simp only [Option.bind_some]
  rw [e3, e4]
  simp only [Option.bind_some]
  unfold T
  rw [max14, e6, e7, e8]
  simp only [Option.bind_some]
  rw [itemEq]
  by_cases he : a[i] = b[k]
  · rw [decide_eq_true he, cond_true, e5]
    simp only [Option.bind_some]
    have e9 := getI_nat (xs := r.set (k : Int).toNat ((max (lcs (a.drop (i + 1)) (b.drop k)) (lcs (a.drop i) (b.drop (k + 1))) : Nat) : Int)) (i := k)
    rw [List.getElem?_eq_getElem (by rw [List.length_set]; exact lk)] at e9
    rw [e9]
    simp only [Option.bind_some]
    have hle := T_le (a := a) (b := b) (i := i + 1) (k := k + 1) ha
    rw [List.set_set, Int.toNat_natCast, Int.toNat_natCast]
    refine ⟨_, rfl, good_set hi hk h p1 ?_⟩
    rw [wI64 (by omega) (by omega)]
    unfold T
    rw [hst, if_pos he]
    omega
  · rw [decide_eq_false he, cond_false, Int.toNat_natCast, Int.toNat_natCast]
    refine ⟨_, rfl, good_set hi hk h p1 ?_⟩
    unfold T
    rw [hst, if_neg he]
theorem l2_ok {a b : List GItem} {i : Nat} (ha : a.length ≤ 64) (hb : b.length ≤ 64) (hi : i < a.length) : ∀ (f k : Nat) (rows : List (List Int)), k ≤ b.length → k < f → Good a b i k rows →
    ∃ rows', g_spec_l22Table_l2 a b (i : Int) f rows ((k : Int) - 1) = some rows' ∧ Good a b i 0 rows' := by
  intro f
  induction f with
  | zero => intro k rows h0 h1; omega
  | succ f ih =>
    intro k rows h0 h1 h
    rw [g_spec_l22Table_l2]
    cases k with
    | zero => exact ⟨rows, rfl, h⟩
    | succ k =>
      obtain ⟨rows1, h2, h3⟩ := step_ok ha hb hi (by omega) h
      rw [decide_eq_true (by omega), cond_true, show (((k + 1 : Nat) : Int) - 1) = (k : Int) by omega, h2]
      simp only [Option.bind_some]
      rw [wI64 (by omega) (by omega)]
      exact ih k rows1 (by omega) (by omega) h3
theorem l1_ok {a b : List GItem} (ha : a.length ≤ 64) (hb : b.length ≤ 64) : ∀ (f i : Nat) (rows : List (List Int)), i ≤ a.length → i < f → Good a b i 0 rows →
    ∃ rows', g_spec_l22Table_l1 a b f rows ((i : Int) - 1) = some rows' ∧ Good a b 0 0 rows' := by
  intro f
  induction f with
  | zero => intro k rows h0 h1; omega
  | succ f ih =>
    intro i rows h0 h1 h
    rw [g_spec_l22Table_l1]
    cases i with
    | zero => exact ⟨rows, rfl, h⟩
    | succ i =>
      have hg : Good a b i b.length rows := ⟨h.1, fun i' hi' => by
        obtain ⟨r, h1, h2, h3⟩ := h.2 i' hi'
        exact ⟨r, h1, h2, fun k' hk' ho => h3 k' hk' (by omega)⟩⟩
      obtain ⟨rows1, h2, h3⟩ := l2_ok ha hb (i := i) (by omega) bigK b.length rows (Nat.le_refl _) (by unfold bigK; omega) hg
      rw [decide_eq_true (by omega), cond_true, show (((i + 1 : Nat) : Int) - 1) = (i : Int) by omega, wI64 (x := (b.length : Int) - 1) (by omega) (by omega), h2]
      simp only [Option.bind_some]
      rw [wI64 (by omega) (by omega)]
      exact ih i rows1 (by omega) (by omega) h3
theorem l0_ok {a b : List GItem} (ha : a.length ≤ 64) (hb : b.length ≤ 64) : ∀ (f n : Nat), n ≤ a.length + 1 → a.length + 1 - n < f →
    g_spec_l22Table_l0 a b f (List.replicate n (List.replicate (b.length + 1) 0)) (n : Int) = some (List.replicate (a.length + 1) (List.replicate (b.length + 1) 0)) := by
  intro f
  induction f with
  | zero => intro n h0 h1; omega
  | succ f ih =>
    intro n h0 h1
    rw [g_spec_l22Table_l0]
    by_cases hn : n ≤ a.length
    · rw [decide_eq_true (by omega), cond_true, w1 (by omega), mk_eq (by omega) (by omega)]
      simp only [Option.bind_some]
      rw [app_eq (by rw [List.length_replicate]; simp; omega)]
      simp only [Option.bind_some]
      rw [w1 (by omega), Int.toNat_natCast, ← List.replicate_succ']
      exact ih (n + 1) (by omega) (by omega)
    · rw [decide_eq_false (by omega), cond_false]
      have : n = a.length + 1 := by omega
      rw [this]
theorem table_ok {a b : List GItem} (ha : a.length ≤ 64) (hb : b.length ≤ 64) : ∃ rows, g_spec_l22Table a b = some rows ∧ Good a b 0 0 rows := by
  unfold g_spec_l22Table
  have h0 := l0_ok ha hb bigK 0 (by omega) (by unfold bigK; omega)
  rw [List.replicate_zero, Int.natCast_zero] at h0
  rw [h0]
  simp only [Option.bind_some]
  rw [wI64 (by omega) (by omega)]
  refine l1_ok ha hb bigK a.length _ (Nat.le_refl _) (by unfold bigK; omega) ⟨List.length_replicate, fun i' hi' => ⟨List.replicate (b.length + 1) 0, by rw [List.getElem?_replicate, if_pos (by omega)], List.length_replicate, fun k' hk' ho => ?_⟩⟩
  rw [List.getElem?_replicate, if_pos (by omega)]
  unfold T
  rcases ho with ho | ho | ho
  · omega
  · rw [ho.1, List.drop_length, lcs_nil]; rfl
  · rw [ho, List.drop_length, lcs_nilR]; rfl
end Go.Proofs.Ythhoellakpnjpaa

/-! Marks of keys and cells, Concat, hasRaw. -/
namespace Go.Proofs.Ythhoellakpnjpaa
open Go Go.Fm
set_option linter.unusedVariables false
set_option linter.unusedSimpArgs false
theorem toU_eq {a : List Int} (hm : a.length ≤ 1048576) : g_laws_toUint32S a = some a := by
  unfold g_laws_toUint32S
  rw [mk_eq (by omega) (by omega), Option.bind_some, copyLoop (g_laws_toUint32S_l0 a) (fun _ _ _ => rfl) (by omega) (by simp)]
  rfl
theorem eqUS {a b : List Int} (hm : a.length ≤ 1048576) : g_laws_eqUint32S a b = some (decide (a = b)) := eqList (g_laws_eqUint32S_l0 a b) _ rfl (fun _ _ => rfl) (by omega)
theorem lenC_refl (n : Nat) : lenC n n = some () := by unfold lenC; rw [if_pos rfl]
theorem markU {a : List Int} {s : Nat} (hm : a.length ≤ 1048576) (hs : s ≤ 1048577) : ∃ m : List Int, m.length = a.length ∧ g_laws_markUint32S a (s : Int) = some (((s + a.length : Nat) : Int), m) := by
  unfold g_laws_markUint32S
  have h := markLoop (IntKind.wrap .u32) g_laws_markUint32S_l0 16777216 (fun k a kk n hn hl hk => by
      rw [g_laws_markUint32S_l0, decide_eq_true (by omega), getI_nat, List.getElem?_eq_getElem hn]
      simp only [cond_true, Option.bind_some, Int.toNat_natCast]
      rw [wI64 (by omega) (by omega), wI64 (by omega) (by omega), show (kk : Int) + 1 = ((kk + 1 : Nat) : Int) by omega, show (n : Int) + 1 = ((n + 1 : Nat) : Int) by omega])
    (fun k a kk n hn => by rw [g_laws_markUint32S_l0, decide_eq_false (by omega), cond_false]) bigK [] a s (by omega) (by simp; omega) (by unfold bigK; omega)
  simp only [List.nil_append, List.length_nil, Int.natCast_zero] at h
  rw [h]
  exact ⟨_, iotaM_len _ _ _, rfl⟩
/-! ### Marks with strides -/
def iotaD {β : Type} (val : Int → β) (d : Nat) : Nat → Nat → List β
  | _, 0 => []
  | k, n + 1 => val k :: iotaD val d (k + d) n
theorem iotaD_len {β : Type} (val : Int → β) (d : Nat) : ∀ (n k : Nat), (iotaD val d k n).length = n
  | 0, k => rfl
  | n + 1, k => by rw [iotaD, List.length_cons, iotaD_len val d n]
theorem markLoopD {β : Type} (val : Int → β) (d : Nat) (F : Nat → List β → Int → Int → Option (List β × Int)) (N : Nat)
    (hs : ∀ (k : Nat) (a : List β) (kk n : Nat), n < a.length → a.length ≤ 16777216 → kk ≤ N → F (k + 1) a kk n = F k (a.set n (val kk)) ((kk + d : Nat) : Int) ((n + 1 : Nat) : Int))
    (he : ∀ (k : Nat) (a : List β) (kk n : Nat), a.length ≤ n → F (k + 1) a kk n = some (a, (kk : Int))) :
    ∀ (k : Nat) (done rest : List β) (kk : Nat), kk + d * rest.length ≤ N → done.length + rest.length ≤ 16777216 → rest.length < k → F k (done ++ rest) kk done.length = some (done ++ iotaD val d kk rest.length, ((kk + d * rest.length : Nat) : Int)) := by
  intro k
  induction k with
  | zero => intro done rest kk h0 h1 h2; omega
  | succ k ih =>
    intro done rest kk h0 h1 h2
    cases rest with
    | nil => rw [he _ _ _ _ (by simp)]; simp [iotaD]
    | cons x r =>
      simp only [List.length_cons] at h0 h1 h2
      rw [Nat.mul_add, Nat.mul_one] at h0
      rw [hs _ _ _ _ (by simp) (by simp; omega) (by omega), List.set_append_right _ _ (Nat.le_refl _), Nat.sub_self, List.set_cons_zero]
      have := ih (done ++ [val kk]) r (kk + d) (by omega) (by simp; omega) (by omega)
      simp only [List.append_assoc, List.singleton_append, List.length_append, List.length_singleton] at this
      rw [this]
      simp only [iotaD, List.length_cons]
      rw [Nat.mul_add, Nat.mul_one]
      congr 3
      omega
theorem heldLoopD {β : Type} (val : Int → β) (d : Nat) {L : List β} (F : Nat → Int → Int → Option (Int ⊕ Unit)) (N : Nat)
    (hs : ∀ (k kk n : Nat) (h : n < L.length), kk ≤ N → L[n] = val kk → F (k + 1) kk n = F k ((kk + d : Nat) : Int) ((n + 1 : Nat) : Int))
    (he : ∀ (k kk n : Nat), L.length ≤ n → F (k + 1) kk n = some (.inl (kk : Int))) :
    ∀ (k : Nat) (done : List β) (kk m : Nat), L = done ++ iotaD val d kk m → kk + d * m ≤ N → m < k → F k kk done.length = some (.inl ((kk + d * m : Nat) : Int)) := by
  intro k
  induction k with
  | zero => intro done kk m h0 h1 h2; omega
  | succ k ih =>
    intro done kk m h0 h1 h2
    cases m with
    | zero => rw [he _ _ _ (by rw [h0]; simp [iotaD])]; rfl
    | succ m =>
      rw [Nat.mul_add, Nat.mul_one] at h1
      have hl : done.length < L.length := by rw [h0]; simp [iotaD]
      have hg : L[done.length] = val kk := by
        have : L[done.length]? = some (val kk) := by rw [h0, List.getElem?_append_right (Nat.le_refl _), Nat.sub_self]; rfl
        rw [List.getElem?_eq_getElem hl] at this
        exact Option.some.inj this
      rw [hs _ _ _ hl (by omega) hg]
      have := ih (done ++ [val kk]) (kk + d) m (by rw [h0, List.append_assoc]; rfl) (by omega) (by omega)
      rw [List.length_append, List.length_singleton] at this
      rw [this, Nat.mul_add, Nat.mul_one]
      congr 3
      omega
theorem markText_ok {k : Nat} (hk : k ≤ 16777216) : Tot (g_laws_markText k) fun _ => True := by
  unfold g_laws_markText
  have key : ∀ (f kk : Nat) (out : Bs), kk < f → kk + out.length ≤ 16777216 → Tot (g_laws_markText_l0 f kk out) fun r => r.length ≤ 16777216 := by
    intro f
    induction f with
    | zero => intro kk out h0; omega
    | succ f ih =>
      intro kk out h0 h1
      unfold g_laws_markText_l0
      refine .condD (fun h => ?_) fun h => .some (by omega)
      refine .bindE (catS_eq (by simp [strOf]; omega)) ?_
      rw [Int.tdiv_eq_ediv_of_nonneg (by omega), wI64 (by omega) (by omega), show (kk : Int) / 10 = ((kk / 10 : Nat) : Int) by omega]
      exact ih _ _ (by omega) (by simp [strOf]; omega)
  refine .condD (fun _ => .some trivial) fun _ => .bind (key bigK k [] (by unfold bigK; omega) (by simp; omega)) fun r hr => .bindE (catS_eq (by simp; omega)) (.some trivial)
def mt (k : Int) : Bs := (g_laws_markText k).getD []
theorem mt_eq {k : Nat} (hk : k ≤ 16777216) : g_laws_markText k = some (mt k) := by
  obtain ⟨r, hr, _⟩ := markText_ok hk
  unfold mt
  rw [hr]; rfl
def keyVal (k : Int) : GKey := ⟨k, ⟨k + 1, mt (k + 2), IntKind.wrap .i32 (k + 3), (Int.tmod (k + 4) 3) == 0, IntKind.wrap .u32 (k + 5)⟩⟩
theorem up {k j : Nat} (h : k + j ≤ 16777216) : IntKind.wrap .i64 (((k + j : Nat) : Int) + 1) = ((k + (j + 1) : Nat) : Int) := by rw [wI64 (by omega) (by omega)]; omega
theorem up0 {k : Nat} (h : k ≤ 16777216) : IntKind.wrap .i64 ((k : Int) + 1) = ((k + 1 : Nat) : Int) := by rw [wI64 (by omega) (by omega)]; omega
theorem markK {a : List GKey} (hm : a.length ≤ 1000) : g_laws_markKeyS a 1 = some (((1 + 6 * a.length : Nat) : Int), iotaD keyVal 6 1 a.length) := by
  unfold g_laws_markKeyS
  have h := markLoopD keyVal 6 g_laws_markKeyS_l0 100000 (fun k a kk n hn hl hk => by
      rw [g_laws_markKeyS_l0, decide_eq_true (by omega), getI_nat, List.getElem?_eq_getElem hn]
      simp only [cond_true, Option.bind_some, Int.toNat_natCast]
      simp only [up0 (show kk ≤ 16777216 by omega), up (k := kk) (j := 1) (by omega), up (k := kk) (j := 2) (by omega), up (k := kk) (j := 3) (by omega), up (k := kk) (j := 4) (by omega), up (k := kk) (j := 5) (by omega), Nat.reduceAdd]
      rw [mt_eq (show kk + 2 ≤ 16777216 by omega)]
      have hs : ∀ v w : GKey, (a.set n v).set n w = a.set n w := fun v w => List.set_set _
      have hg : ∀ v : GKey, getI (a.set n v) (n : Int) = some v := fun v => by rw [getI_nat, List.getElem?_set_self hn]
      simp only [Option.bind_some, hs, hg]
      rw [wI64 (by omega) (by omega), show (n : Int) + 1 = ((n + 1 : Nat) : Int) by omega]
      rfl)
    (fun k a kk n hn => by rw [g_laws_markKeyS_l0, decide_eq_false (by omega), cond_false]) bigK [] a 1 (by omega) (by simp; omega) (by unfold bigK; omega)
  simp only [List.nil_append, List.length_nil, Int.natCast_zero] at h
  rw [show ((1 : Nat) : Int) = 1 from rfl] at h
  rw [h]
  rfl
theorem heldK {m : Nat} (hm : m ≤ 1000) : g_laws_heldKeyS (iotaD keyVal 6 1 m) 1 = some (((1 + 6 * m : Nat) : Int)) := by
  unfold g_laws_heldKeyS
  have hl : (iotaD keyVal 6 1 m).length = m := iotaD_len _ _ _ _
  have h := heldLoopD keyVal 6 (L := iotaD keyVal 6 1 m) (g_laws_heldKeyS_l0 (iotaD keyVal 6 1 m)) 100000 (fun k kk n hn hk he => by
      rw [g_laws_heldKeyS_l0, decide_eq_true (by omega), getI_nat, List.getElem?_eq_getElem hn, he]
      simp only [cond_true, Option.bind_some]
      simp only [up0 (show kk ≤ 16777216 by omega), up (k := kk) (j := 1) (by omega), up (k := kk) (j := 2) (by omega), up (k := kk) (j := 3) (by omega), up (k := kk) (j := 4) (by omega), up (k := kk) (j := 5) (by omega), Nat.reduceAdd]
      rw [mt_eq (show kk + 2 ≤ 16777216 by omega)]
      have e0 : ∀ (α : Type) [BEq α] [LawfulBEq α] (x : α), (x != x) = false := fun α _ _ x => by simp
      have c1 : (keyVal (kk : Int)).Op = (kk : Int) := rfl
      have c2 : (keyVal (kk : Int)).Item.Kind = ((kk + 1 : Nat) : Int) := rfl
      have c3 : (keyVal (kk : Int)).Item.Name = mt ((kk + 2 : Nat) : Int) := rfl
      have c4 : (keyVal (kk : Int)).Item.N = IntKind.wrap .i32 ((kk + 3 : Nat) : Int) := rfl
      have c5 : (keyVal (kk : Int)).Item.Hex = ((Int.tmod ((kk + 4 : Nat) : Int) 3) == 0) := rfl
      have c6 : (keyVal (kk : Int)).Item.Raw = IntKind.wrap .u32 ((kk + 5 : Nat) : Int) := rfl
      simp only [Option.bind_some, c1, c2, c3, c4, c5, c6, e0, cond_false]
      rw [wI64 (x := (n : Int) + 1) (by omega) (by omega), show (n : Int) + 1 = ((n + 1 : Nat) : Int) by omega])
    (fun k kk n hn => by rw [g_laws_heldKeyS_l0, decide_eq_false (by omega), cond_false]) bigK [] 1 m (by rw [List.nil_append]) (by omega) (by unfold bigK; omega)
  simp only [List.length_nil, Int.natCast_zero] at h
  rw [show ((1 : Nat) : Int) = 1 from rfl] at h
  rw [h]
  rfl
theorem neD {α : Type} [BEq α] [LawfulBEq α] [DecidableEq α] (x y : α) : (x != y) = decide (x ≠ y) := by
  by_cases h : x = y
  · rw [h]; simp
  · rw [decide_eq_true h]; simpa using h
theorem eqI {x y : GItem} : g_laws_eqItem x y = some (decide (x = y)) := by
  obtain ⟨a1, a2, a3, a4, a5⟩ := x
  obtain ⟨b1, b2, b3, b4, b5⟩ := y
  unfold g_laws_eqItem
  simp only [neD]
  by_cases h1 : a1 = b1 <;> by_cases h2 : a2 = b2 <;> by_cases h3 : a3 = b3 <;> by_cases h4 : a4 = b4 <;> by_cases h5 : a5 = b5 <;> simp [h1, h2, h3, h4, h5]
theorem eqK {x y : GKey} : g_laws_eqKey x y = some (decide (x = y)) := by
  obtain ⟨a1, a2⟩ := x
  obtain ⟨b1, b2⟩ := y
  unfold g_laws_eqKey
  simp only [neD, eqI]
  by_cases h1 : a1 = b1 <;> by_cases h2 : a2 = b2 <;> simp [h1, h2]
theorem eqKS {a b : List GKey} (h : a.length ≤ 1048576) : g_laws_eqKeyS a b = some (decide (a = b)) :=
  eqList (g_laws_eqKeyS_l0 a b) _ rfl (fun k i => by
    rw [g_laws_eqKeyS_l0]
    simp only [eqK, Option.bind_some]
    rfl) (by omega)
/-! ### Concat -/
def total (L : List (List GKey)) : Nat := L.foldr (fun l n => l.length + n) 0
theorem total_cons (l : List GKey) (L : List (List GKey)) : total (l :: L) = l.length + total L := rfl
theorem concat_l0 {L : List (List GKey)} : ∀ (k n size : Nat), L.length ≤ 1000 → n ≤ L.length → L.length - n < k → size + total (L.drop n) ≤ 1048576 → g_slices_Concat_Key_l0 L k size n = some ((size + total (L.drop n) : Nat) : Int) := by
  intro k
  induction k with
  | zero => intro n size hL h0 h1; omega
  | succ k ih =>
    intro n size hL h0 h1 h2
    rw [g_slices_Concat_Key_l0]
    by_cases hn : n < L.length
    · rw [List.drop_eq_getElem_cons hn, total_cons] at h2 ⊢
      rw [decide_eq_true (by omega), cond_true, getI_nat, List.getElem?_eq_getElem hn]
      simp only [Option.bind_some]
      rw [wI64 (x := (size : Int) + _) (by omega) (by omega), decide_eq_false (by omega), cond_false]
      simp only [Option.bind_some]
      rw [wI64 (by omega) (by omega), show (n : Int) + 1 = ((n + 1 : Nat) : Int) by omega, show (size : Int) + (L[n].length : Int) = ((size + L[n].length : Nat) : Int) by omega, ih (n + 1) _ hL (by omega) (by omega) (by omega), Nat.add_assoc]
    · rw [decide_eq_false (by omega), cond_false, List.drop_eq_nil_of_le (by omega)]
      rfl
theorem concat_l1 {L : List (List GKey)} : ∀ (k n : Nat) (out : List GKey), L.length ≤ 1000 → n ≤ L.length → L.length - n < k → out.length + total (L.drop n) ≤ 1048576 → g_slices_Concat_Key_l1 L k out n = some (out ++ (L.drop n).flatten) := by
  intro k
  induction k with
  | zero => intro n size hL h0 h1; omega
  | succ k ih =>
    intro n out hL h0 h1 h2
    rw [g_slices_Concat_Key_l1]
    by_cases hn : n < L.length
    · rw [List.drop_eq_getElem_cons hn, total_cons] at h2
      rw [List.drop_eq_getElem_cons hn, List.flatten_cons]
      rw [decide_eq_true (by omega), cond_true, getI_nat, List.getElem?_eq_getElem hn]
      simp only [Option.bind_some]
      rw [app_eq (by omega)]
      simp only [Option.bind_some]
      rw [wI64 (by omega) (by omega), show (n : Int) + 1 = ((n + 1 : Nat) : Int) by omega, ih (n + 1) _ hL (by omega) (by omega) (by rw [List.length_append]; omega), List.append_assoc]
    · rw [decide_eq_false (by omega), cond_false, List.drop_eq_nil_of_le (by omega), List.flatten_nil, List.append_nil]
theorem grow_eq {n : Nat} (h : n ≤ 1048576) : g_slices_Grow_Key_emp (n : Int) = some [] := by
  unfold g_slices_Grow_Key_emp
  rw [decide_eq_false (by omega), cond_false, show IntKind.wrap .i64 (0 - 0) = 0 from rfl, Int.sub_zero, wI64 (by omega) (by omega)]
  simp only [Option.bind_some]
  by_cases h0 : (n : Int) > 0
  · rw [decide_eq_true h0, cond_true, mk_eq (by omega) (by omega)]
    simp only [Option.bind_some]
    rw [subL_eq (by decide) (by decide) (by simp)]
    rfl
  · rw [decide_eq_false h0, cond_false]; rfl
theorem concat3 {p q r : List GKey} (h : p.length + q.length + r.length ≤ 1000) : g_slices_Concat_Key [p, q, r] = some (p ++ q ++ r) := by
  unfold g_slices_Concat_Key
  have ht : total [p, q, r] = p.length + q.length + r.length := by simp only [total_cons]; unfold total; simp; omega
  have h0 := concat_l0 (L := [p, q, r]) bigK 0 0 (by simp) (by simp) (by unfold bigK; simp) (by rw [List.drop_zero, ht]; omega)
  rw [Int.natCast_zero, List.drop_zero, ht, Nat.zero_add] at h0
  rw [h0]
  simp only [Option.bind_some]
  rw [grow_eq (by omega)]
  simp only [Option.bind_some]
  have h1 := concat_l1 (L := [p, q, r]) bigK 0 [] (by simp) (by simp) (by unfold bigK; simp) (by rw [List.drop_zero, ht]; simp; omega)
  rw [Int.natCast_zero, List.drop_zero] at h1
  rw [h1]
  simp
/-! ### Items that are none -/
theorem plain_eq {l : List GItem} (hl : l.length ≤ 1000) : g_spec_l22Plain l = some (!(l.any fun x => x.Kind == 0)) := by
  unfold g_spec_l22Plain
  have key : ∀ (k n : Nat), n ≤ l.length → l.length - n < k → g_spec_l22Plain_l0 l k n = some (cond ((l.drop n).any fun x => x.Kind == 0) (.inr ()) (.inl ())) := by
    intro k
    induction k with
    | zero => intro n h0 h1; omega
    | succ k ih =>
      intro n h0 h1
      rw [g_spec_l22Plain_l0]
      by_cases hn : n < l.length
      · rw [decide_eq_true (by omega), cond_true, getI_nat, List.getElem?_eq_getElem hn, List.drop_eq_getElem_cons hn, List.any_cons]
        simp only [Option.bind_some]
        cases hk : (l[n].Kind == 0)
        · rw [cond_false, wI64 (by omega) (by omega), show (n : Int) + 1 = ((n + 1 : Nat) : Int) by omega, ih (n + 1) (by omega) (by omega), Bool.false_or]
        · rw [cond_true, Bool.true_or, cond_true]
      · rw [decide_eq_false (by omega), cond_false, List.drop_eq_nil_of_le (by omega)]
        rfl
  have h := key bigK 0 (Nat.zero_le _) (by unfold bigK; omega)
  rw [Int.natCast_zero, List.drop_zero] at h
  rw [h]
  cases (l.any fun x => x.Kind == 0) <;> rfl
theorem hasRaw_eq {l : List GItem} (hl : l.length ≤ 1000) : g_impl_hasRaw l = some (l.any fun x => x.Kind == 0) := by
  unfold g_impl_hasRaw g_slices_ContainsFunc_Item_impl_hasRawc1 g_slices_IndexFunc_Item_impl_hasRawc1
  have key : ∀ (k n : Nat), n ≤ l.length → l.length - n < k → ∃ o : Unit ⊕ Int, g_slices_IndexFunc_Item_impl_hasRawc1_l0 l k n = some o ∧ (match o with | .inl _ => ((l.drop n).any fun x => x.Kind == 0) = false | .inr v => 0 ≤ v ∧ ((l.drop n).any fun x => x.Kind == 0) = true) := by
    intro k
    induction k with
    | zero => intro n h0 h1; omega
    | succ k ih =>
      intro n h0 h1
      rw [g_slices_IndexFunc_Item_impl_hasRawc1_l0]
      by_cases hn : n < l.length
      · rw [decide_eq_true (by omega), cond_true, getI_nat, List.getElem?_eq_getElem hn, List.drop_eq_getElem_cons hn, List.any_cons]
        unfold g_impl_hasRawc1
        simp only [Option.bind_some]
        cases hk : (l[n].Kind == 0)
        · rw [cond_false, wI64 (by omega) (by omega), show (n : Int) + 1 = ((n + 1 : Nat) : Int) by omega]
          obtain ⟨o, g1, g2⟩ := ih (n + 1) (by omega) (by omega)
          exact ⟨o, g1, by cases o <;> simpa using g2⟩
        · rw [cond_true]
          exact ⟨_, rfl, by simp⟩
      · rw [decide_eq_false (by omega), cond_false, List.drop_eq_nil_of_le (by omega)]
        exact ⟨_, rfl, rfl⟩
  obtain ⟨o, h, g⟩ := key bigK 0 (Nat.zero_le _) (by unfold bigK; omega)
  rw [Int.natCast_zero] at h
  rw [List.drop_zero] at g
  rw [h]
  cases o with
  | inl u => simp only [Option.bind_some]; rw [show (l.any fun x => x.Kind == 0) = false from g]; rfl
  | inr v => simp only [Option.bind_some]; rw [g.2, decide_eq_true g.1]
end Go.Proofs.Ythhoellakpnjpaa

/-! Plan: the reference's loop and the implementation's go hand in hand. -/
namespace Go.Proofs.Ythhoellakpnjpaa
open Go Go.Fm
set_option linter.unusedVariables false
set_option linter.unusedSimpArgs false
def RR : GKey := ⟨1, ⟨0, [], 0, false, 0⟩⟩
def XX : GKey := ⟨5, ⟨0, [], 0, false, 0⟩⟩
theorem drop1 {α : Type} {x : List α} {i : Nat} (h : i < x.length) : subL (x.drop i) 1 (((x.drop i).length : Nat) : Int) = some (x.drop (i + 1)) := by
  rw [subL_drop (by decide) (by rw [List.length_drop]; omega), List.drop_drop]
  rfl
theorem head0 {α : Type} {x : List α} {i : Nat} (h : i < x.length) : getI (x.drop i) 0 = some x[i] := by
  have := getI_nat (xs := x.drop i) (i := 0)
  rw [Int.natCast_zero] at this
  rw [this, List.getElem?_drop, Nat.add_zero, List.getElem?_eq_getElem h]
def Res (o1 o2 : Option (List GKey × List GKey × Int)) : Prop := ∃ p q c, o1 = some (p, q, c) ∧ o2 = some (p, q, c) ∧ p.length ≤ 256 ∧ q.length ≤ 128
theorem plan_loop {x y : List GItem} {t : List (List Int)} (hx : x.length ≤ 64) (hy : y.length ≤ 64) (ht : Good x y 0 0 t) : ∀ (m i k : Nat) (first second : List GKey) (cuts f1 f2 : Nat), i ≤ x.length → k ≤ y.length → (x.length - i) + (y.length - k) = m → m < f1 → m < f2 → first.length + 2 * m ≤ 256 → second.length + m ≤ 128 → cuts + m ≤ 128 →
    Res (g_spec_Plan_l0 x y t f1 first second (cuts : Int) (i : Int) (k : Int)) (g_impl_Plan_l0 f2 (x.drop i) (y.drop k) first second (cuts : Int)) := by
  intro m
  induction m using Nat.strongRecOn with
  | ind m ih =>
    intro i k first second cuts f1 f2 hi hk hm h1 h2 h3 h4 h5
    obtain ⟨f1, rfl⟩ : ∃ g, f1 = g + 1 := ⟨f1 - 1, by omega⟩
    obtain ⟨f2, rfl⟩ : ∃ g, f2 = g + 1 := ⟨f2 - 1, by omega⟩
    rw [g_spec_Plan_l0, g_impl_Plan_l0]
    have lx : (x.drop i).length = x.length - i := List.length_drop
    have ly : (y.drop k).length = y.length - k := List.length_drop
    rw [wI64 (x := ((x.drop i).length : Int) + ((y.drop k).length : Int)) (by omega) (by omega)]
    -- the three ways
    have right (h : i < x.length ∧ k < y.length) : Res ((app first [(⟨1, (⟨0, [], 0, false, 0⟩ : GItem)⟩ : GKey)]).bind fun v_40 => (app second [(⟨1, (⟨0, [], 0, false, 0⟩ : GItem)⟩ : GKey)]).bind fun v_41 => g_spec_Plan_l0 x y t f1 v_40 v_41 (cuts : Int) (IntKind.wrap .i64 ((i : Int) + 1)) (IntKind.wrap .i64 ((k : Int) + 1)))
        ((app first [(⟨1, (⟨0, [], 0, false, 0⟩ : GItem)⟩ : GKey)]).bind fun v_38 => (app second [(⟨1, (⟨0, [], 0, false, 0⟩ : GItem)⟩ : GKey)]).bind fun v_39 => (subL (x.drop i) 1 (((x.drop i).length : Nat) : Int)).bind fun v_40 => (subL (y.drop k) 1 (((y.drop k).length : Nat) : Int)).bind fun v_41 => g_impl_Plan_l0 f2 v_40 v_41 v_38 v_39 (cuts : Int)) := by
      rw [app_eq (by simp; omega), app_eq (by simp; omega), drop1 h.1, drop1 h.2]
      simp only [Option.bind_some]
      rw [w1 (by omega), w1 (by omega)]
      exact ih (m - 2) (by omega) (i + 1) (k + 1) _ _ cuts f1 f2 (by omega) (by omega) (by omega) (by omega) (by omega) (by simp; omega) (by simp; omega) (by omega)
    have cut (h : i < x.length) : Res ((app first [(⟨1, (⟨0, [], 0, false, 0⟩ : GItem)⟩ : GKey), (⟨5, (⟨0, [], 0, false, 0⟩ : GItem)⟩ : GKey)]).bind fun v_52 => g_spec_Plan_l0 x y t f1 v_52 second (IntKind.wrap .i64 ((cuts : Int) + 1)) (IntKind.wrap .i64 ((i : Int) + 1)) (k : Int))
        ((app first [(⟨1, (⟨0, [], 0, false, 0⟩ : GItem)⟩ : GKey), (⟨5, (⟨0, [], 0, false, 0⟩ : GItem)⟩ : GKey)]).bind fun v_52 => (subL (x.drop i) 1 (((x.drop i).length : Nat) : Int)).bind fun v_53 => g_impl_Plan_l0 f2 v_53 (y.drop k) v_52 second (IntKind.wrap .i64 ((cuts : Int) + 1))) := by
      rw [app_eq (by simp; omega), drop1 h]
      simp only [Option.bind_some]
      rw [w1 (by omega), w1 (by omega)]
      exact ih (m - 1) (by omega) (i + 1) k _ _ (cuts + 1) f1 f2 (by omega) (by omega) (by omega) (by omega) (by omega) (by simp; omega) (by omega) (by omega)
    have put (h : k < y.length) : Res ((getI y (k : Int)).bind fun v_53 => (app second [(⟨4, v_53⟩ : GKey)]).bind fun v_54 => g_spec_Plan_l0 x y t f1 first v_54 (cuts : Int) (i : Int) (IntKind.wrap .i64 ((k : Int) + 1)))
        ((getI (y.drop k) 0).bind fun v_54 => (app second [(⟨4, v_54⟩ : GKey)]).bind fun v_55 => (subL (y.drop k) 1 (((y.drop k).length : Nat) : Int)).bind fun v_56 => g_impl_Plan_l0 f2 (x.drop i) v_56 first v_55 (cuts : Int)) := by
      rw [getI_nat, List.getElem?_eq_getElem h, head0 h]
      simp only [Option.bind_some]
      rw [app_eq (by simp; omega), drop1 h]
      simp only [Option.bind_some]
      rw [w1 (by omega)]
      exact ih (m - 1) (by omega) i (k + 1) _ _ cuts f1 f2 (by omega) (by omega) (by omega) (by omega) (by omega) (by omega) (by simp; omega) (by omega)
    by_cases hi1 : i < x.length
    · have d1 : decide ((i : Int) < (x.length : Int)) = true := decide_eq_true (by omega)
      have d2 : decide (((x.drop i).length : Int) > 0) = true := decide_eq_true (by omega)
      have d3 : decide (((x.drop i).length : Int) + ((y.drop k).length : Int) > 0) = true := decide_eq_true (by omega)
      rw [d1, d2, d3]
      simp only [cond_true, Option.bind_some]
      by_cases hk1 : k < y.length
      · have d4 : decide ((k : Int) < (y.length : Int)) = true := decide_eq_true (by omega)
        have d5 : decide (((y.drop k).length : Int) > 0) = true := decide_eq_true (by omega)
        rw [d4, d5, getI_nat, getI_nat, List.getElem?_eq_getElem hi1, List.getElem?_eq_getElem hk1, head0 hi1, head0 hk1]
        simp only [cond_true, Option.bind_some]
        rw [itemEq]
        by_cases he : x[i] = y[k]
        · rw [decide_eq_true he]
          simp only [cond_true]
          exact right ⟨hi1, hk1⟩
        · rw [decide_eq_false he]
          simp only [cond_false]
          have d6 : ((k : Int) == (y.length : Int)) = false := by simp; omega
          have d7 : (((y.drop k).length : Int) == 0) = false := by simp; omega
          obtain ⟨r, p1, p2, p3⟩ := ht.2 i (by omega)
          obtain ⟨r1, q1, q2, q3⟩ := ht.2 (i + 1) (by omega)
          rw [d6, d7, w1 (by omega), getI_le q1, getI_le p1, drop1 hi1, drop1 hk1]
          simp only [cond_false, Option.bind_some]
          rw [w1 (n := k) (by omega), getI_le (q3 k (by omega) (by omega)), getI_le (p3 (k + 1) (by omega) (by omega)), common_eq (by rw [List.length_drop]; omega) (by rw [List.length_drop]; omega), common_eq (by rw [List.length_drop]; omega) (by rw [List.length_drop]; omega)]
          simp only [Option.bind_some]
          unfold T
          by_cases hc : ((lcs (x.drop (i + 1)) (y.drop k) : Nat) : Int) ≥ ((lcs (x.drop i) (y.drop (k + 1)) : Nat) : Int)
          · rw [decide_eq_true hc]
            simp only [cond_true]
            have := cut hi1
            rw [w1 (n := i) (by omega)] at this
            rw [drop1 hi1] at this
            exact this
          · rw [decide_eq_false hc]
            simp only [cond_false]
            have := put hk1
            rw [w1 (n := k) (by omega)] at this
            rw [getI_nat, List.getElem?_eq_getElem hk1, head0 hk1, drop1 hk1] at this
            exact this
      · have d4 : decide ((k : Int) < (y.length : Int)) = false := decide_eq_false (by omega)
        have d5 : decide (((y.drop k).length : Int) > 0) = false := decide_eq_false (by omega)
        have d6 : ((k : Int) == (y.length : Int)) = true := by simp; omega
        have d7 : (((y.drop k).length : Int) == 0) = true := by simp; omega
        rw [d4, d5, d6, d7]
        simp only [cond_true, cond_false, Option.bind_some]
        exact cut hi1
    · have d1 : decide ((i : Int) < (x.length : Int)) = false := decide_eq_false (by omega)
      have d2 : decide (((x.drop i).length : Int) > 0) = false := decide_eq_false (by omega)
      rw [d1, d2]
      simp only [cond_false, Option.bind_some]
      by_cases hk1 : k < y.length
      · have d4 : decide ((k : Int) < (y.length : Int)) = true := decide_eq_true (by omega)
        have d3 : decide (((x.drop i).length : Int) + ((y.drop k).length : Int) > 0) = true := decide_eq_true (by omega)
        rw [d4, d3]
        simp only [cond_true]
        exact put hk1
      · have d4 : decide ((k : Int) < (y.length : Int)) = false := decide_eq_false (by omega)
        have d3 : decide (((x.drop i).length : Int) + ((y.drop k).length : Int) > 0) = false := decide_eq_false (by omega)
        rw [d4, d3]
        simp only [cond_false]
        exact ⟨first, second, cuts, rfl, rfl, by omega, by omega⟩
theorem parse_tot {c : List Int} (hu : U32 c) : ∃ its, g_impl_ParseCells c = some its ∧ its.length ≤ 64 := by
  by_cases hl : c.length ≤ 64
  · obtain ⟨its, cells', z, h1, h2, h3, _⟩ := parseCells_ok hu hl
    have := h3.len
    rw [h2, List.length_append] at hl
    exact ⟨its, h1, by omega⟩
  · unfold g_impl_ParseCells
    rw [decide_eq_true (by omega), cond_true]
    exact ⟨[], rfl, by simp⟩
theorem plan_both {a b : List Int} (ha : U32 a) (hb : U32 b) : ∃ r, g_spec_Plan a b = some r ∧ g_impl_Plan a b = some r ∧ r.1.length ≤ 400 := by
  obtain ⟨x, hx, lx⟩ := parse_tot ha
  obtain ⟨y, hy, ly⟩ := parse_tot hb
  unfold g_spec_Plan g_impl_Plan
  rw [parseCells_eq ha, parseCells_eq hb, hx, hy]
  simp only [Option.bind_some]
  by_cases h1 : (a.length : Int) > 64
  · rw [decide_eq_true h1]
    simp only [cond_true, Option.bind_some]
    exact ⟨_, rfl, rfl, by simp⟩
  · rw [decide_eq_false h1]
    simp only [cond_false, Option.bind_some]
    by_cases h2 : (b.length : Int) > 64
    · rw [decide_eq_true h2]
      simp only [cond_true, Option.bind_some]
      exact ⟨_, rfl, rfl, by simp⟩
    · rw [decide_eq_false h2]
      simp only [cond_false, Option.bind_some]
      rw [plain_eq (by omega), plain_eq (by omega), hasRaw_eq (by omega), hasRaw_eq (by omega)]
      simp only [Option.bind_some, Bool.not_not]
      cases hr1 : (x.any fun x => x.Kind == 0)
      · cases hr2 : (y.any fun x => x.Kind == 0)
        · simp only [cond_false, Option.bind_some]
          obtain ⟨t, ht, hg⟩ := table_ok lx ly
          rw [ht]
          simp only [Option.bind_some]
          obtain ⟨p, q, c, e1, e2, l1, l2⟩ := plan_loop lx ly hg _ 0 0 [] [] 0 bigK bigK (Nat.zero_le _) (Nat.zero_le _) rfl (by unfold bigK; omega) (by unfold bigK; omega) (by simp; omega) (by simp; omega) (by omega)
          rw [Int.natCast_zero] at e1 e2
          rw [List.drop_zero, List.drop_zero] at e2
          rw [e1, e2]
          simp only [Option.bind_some]
          by_cases hc : c > 20
          · rw [decide_eq_true hc]
            simp only [cond_true]
            exact ⟨_, rfl, rfl, by simp⟩
          · rw [decide_eq_false hc]
            simp only [cond_false]
            rw [app_eq (by simp; omega), concat3 (by simp; omega)]
            simp only [Option.bind_some]
            rw [app_eq (by simp; omega)]
            exact ⟨_, rfl, rfl, by simp; omega⟩
        · simp only [cond_true, cond_false, Option.bind_some]
          exact ⟨_, rfl, rfl, by simp⟩
      · simp only [cond_true, Option.bind_some]
        exact ⟨_, rfl, rfl, by simp⟩
theorem law_plan {a b : List Int} (ha : U32 a) (hb : U32 b) : g_laws_FnExactPlan a b = some true := by
  unfold g_laws_FnExactPlan
  by_cases h1 : (a.length : Int) > 1048576
  · rw [decide_eq_true h1, cond_true]
  · rw [decide_eq_false h1, cond_false]
    by_cases h2 : (b.length : Int) > 1048576
    · rw [decide_eq_true h2, cond_true]
    · rw [decide_eq_false h2, cond_false]
      have l1 : a.length ≤ 1048576 := by omega
      have l2 : b.length ≤ 1048576 := by omega
      obtain ⟨r, e1, e2, lr⟩ := plan_both ha hb
      obtain ⟨m1, k1, g1⟩ := markU (s := 1) l1 (by omega)
      obtain ⟨m2, k2, g2⟩ := markU (a := b) (s := 1 + a.length) l2 (by omega)
      rw [show ((1 : Nat) : Int) = 1 from rfl] at g1
      have e0 : (r.2 != r.2) = false := by simp
      simp only [toU_eq l1, toU_eq l2, Option.bind_some, e1, e2, eqKS (show r.1.length ≤ 1048576 by omega), eqUS l1, eqUS l2, g1, g2, k1, k2, lenC_refl, e0, decide_true, Bool.not_true, cond_false]
      rw [decide_eq_false (by omega)]
      simp only [cond_false, Option.bind_some, markK (show r.1.length ≤ 1000 by omega), iotaD_len, lenC_refl, heldK (show r.1.length ≤ 1000 by omega)]
      rw [decide_eq_false (by omega)]
      simp
end Go.Proofs.Ythhoellakpnjpaa

