import Derived.Test.YtniciinhflolnaaDoorMF
import Derived.Test.YtniciinhflolnaaDoorGD
import Derived.KernelRfl
/-! Plain facts of the operations. -/
namespace Go.Fm
theorem wI64 {x : Int} (h1 : -9223372036854775808 ≤ x) (h2 : x < 9223372036854775808) : IntKind.wrap .i64 x = x := by
  simp [IntKind.wrap, IntKind.bits, IntKind.signed]; omega
theorem wI32 {x : Int} (h1 : -2147483648 ≤ x) (h2 : x < 2147483648) : IntKind.wrap .i32 x = x := by
  simp [IntKind.wrap, IntKind.bits, IntKind.signed]; omega
theorem wU32 {x : Int} (h1 : 0 ≤ x) (h2 : x < 4294967296) : IntKind.wrap .u32 x = x := by
  simp [IntKind.wrap, IntKind.bits, IntKind.signed]; omega
theorem wU64 {x : Int} (h1 : 0 ≤ x) (h2 : x < 18446744073709551616) : IntKind.wrap .u64 x = x := by
  simp [IntKind.wrap, IntKind.bits, IntKind.signed]; omega
theorem wU32_bd (x : Int) : 0 ≤ IntKind.wrap .u32 x ∧ IntKind.wrap .u32 x < 4294967296 := by
  simp [IntKind.wrap, IntKind.bits, IntKind.signed]; omega
theorem wI32_bd (x : Int) : -2147483648 ≤ IntKind.wrap .i32 x ∧ IntKind.wrap .i32 x < 2147483648 := by
  simp [IntKind.wrap, IntKind.bits, IntKind.signed]; omega
theorem wI64_bd (x : Int) : -9223372036854775808 ≤ IntKind.wrap .i64 x ∧ IntKind.wrap .i64 x < 9223372036854775808 := by
  simp [IntKind.wrap, IntKind.bits, IntKind.signed]; omega
theorem getI_ex {α : Type} {xs : List α} {i : Int} (h0 : 0 ≤ i) (h1 : i < xs.length) : ∃ x, getI xs i = some x ∧ x ∈ xs ∧ xs[i.toNat]? = some x := by
  have hi : i.toNat < xs.length := by omega
  unfold getI
  rw [if_pos h0, List.getElem?_eq_getElem hi]
  exact ⟨_, rfl, List.getElem_mem hi, rfl⟩
theorem getI_nat {α : Type} {xs : List α} {i : Nat} : getI xs (i : Int) = xs[i]? := by
  unfold getI; rw [if_pos (Int.natCast_nonneg i)]; rfl
theorem idxS_ex {l : List UInt8} {i : Int} (h0 : 0 ≤ i) (h1 : i < l.length) : ∃ v, idxS l i = some v ∧ 0 ≤ v ∧ v < 256 ∧ ∃ b ∈ l, v = (b.toNat : Int) := by
  unfold idxS
  rw [if_pos ⟨h0, h1⟩]
  have hi : i.toNat < l.length := by omega
  refine ⟨_, rfl, Int.natCast_nonneg _, ?_, l[i.toNat], List.getElem_mem hi, ?_⟩
  · have := UInt8.toNat_lt (l.getD i.toNat 0); omega
  · rw [List.getD_eq_getElem?_getD, List.getElem?_eq_getElem hi]; rfl
theorem app_eq {α : Type} {xs ys : List α} (h : xs.length + ys.length ≤ 4294967296) : app xs ys = some (xs ++ ys) := by
  unfold app
  rw [if_pos (by rw [List.length_append]; exact h)]
theorem subL_eq {α : Type} {xs : List α} {a b : Int} (h0 : 0 ≤ a) (h1 : a ≤ b) (h2 : b ≤ xs.length) : subL xs a b = some ((xs.drop a.toNat).take (b.toNat - a.toNat)) := by
  unfold subL; rw [if_pos ⟨h0, h1, h2⟩]
theorem subL_drop {α : Type} {xs : List α} {a : Int} (h0 : 0 ≤ a) (h2 : a ≤ xs.length) : subL xs a xs.length = some (xs.drop a.toNat) := by
  rw [subL_eq h0 h2 (Int.le_refl _), List.take_of_length_le]
  rw [List.length_drop]; omega
theorem subL_take {α : Type} {xs : List α} {b : Int} (h0 : 0 ≤ b) (h2 : b ≤ xs.length) : subL xs 0 b = some (xs.take b.toNat) := by
  rw [subL_eq (Int.le_refl _) h0 h2]; rfl
theorem mk_eq {α : Type} {z : α} {n : Int} (h0 : 0 ≤ n) (h1 : n ≤ 4294967296) : mk z n = some (List.replicate n.toNat z) := by
  unfold mk; rw [if_pos ⟨h0, h1⟩]
theorem catS_eq {a b : List UInt8} (h : a.length + b.length < 4611686018427387904) : catS a b = some (a ++ b) := by
  unfold catS; rw [if_pos h]
theorem remI_ex {k : IntKind} {a b : Int} (h0 : 0 ≤ a) (hb : 0 < b) : remI k a b = some (a % b) ∧ 0 ≤ a % b ∧ a % b < b := by
  unfold remI
  rw [if_neg (by omega), Int.tmod_eq_emod_of_nonneg h0]
  exact ⟨rfl, Int.emod_nonneg _ (by omega), Int.emod_lt_of_pos _ hb⟩
theorem bB_toNat {k : IntKind} {a : Int} (h0 : 0 ≤ a) (h1 : a < 2 ^ k.bits) : (bytesB k a).toNat = a.toNat := by
  unfold bytesB
  rw [BitVec.toNat_ofInt, Int.emod_eq_of_lt h0]
  simpa using h1
theorem wrap_small {k : IntKind} {n : Nat} (h : n < 2 ^ (k.bits - 1)) : k.wrap n = n := by
  unfold IntKind.wrap
  have hb : 2 ^ (k.bits - 1) ≤ 2 ^ k.bits := Nat.pow_le_pow_right (by decide) (Nat.sub_le _ _)
  have h1 : (n : Int) < ((2 ^ k.bits : Nat) : Int) := Int.ofNat_lt.2 (Nat.lt_of_lt_of_le h hb)
  have h2 : (n : Int) < ((2 ^ (k.bits - 1) : Nat) : Int) := Int.ofNat_lt.2 h
  simp only [Int.natCast_pow, Int.cast_ofNat_Int] at h1 h2
  have e : (n : Int) % (2 ^ k.bits : Int) = n := Int.emod_eq_of_lt (Int.natCast_nonneg _) h1
  simp only [e]
  rw [if_neg]
  intro hc
  rw [Bool.and_eq_true, decide_eq_true_eq] at hc
  have h3 := hc.2
  omega
/-- What is masked by a small number is no greater. -/
theorem and_le {k : IntKind} {a b : Int} (h0 : 0 ≤ b) (h1 : b < 2 ^ (k.bits - 1)) : 0 ≤ andI k a b ∧ andI k a b ≤ b := by
  unfold andI
  have hb : (bytesB k b).toNat = b.toNat := bB_toNat h0 (Int.lt_of_lt_of_le h1 (by
    have : ((2 ^ (k.bits - 1) : Nat) : Int) ≤ ((2 ^ k.bits : Nat) : Int) := Int.ofNat_le.2 (Nat.pow_le_pow_right (by decide) (Nat.sub_le _ _))
    simpa only [Int.natCast_pow, Int.cast_ofNat_Int] using this))
  have hle : (bytesB k a &&& bytesB k b).toNat ≤ b.toNat := by
    rw [BitVec.toNat_and, hb]; exact Nat.and_le_right
  have hlt : (bytesB k a &&& bytesB k b).toNat < 2 ^ (k.bits - 1) := by
    refine Nat.lt_of_le_of_lt hle ?_
    have : (b.toNat : Int) < ((2 ^ (k.bits - 1) : Nat) : Int) := by rw [Int.toNat_of_nonneg h0]; simpa only [Int.natCast_pow, Int.cast_ofNat_Int] using h1
    exact Int.ofNat_lt.1 this
  rw [wrap_small hlt]
  omega
/-- It answers, and so. -/
def Tot {α : Type} (o : Option α) (Q : α → Prop) : Prop := ∃ a, o = some a ∧ Q a
section
variable {α β : Type} {Q Q' : α → Prop} {R : β → Prop}
theorem Tot.some {a : α} (h : Q a) : Tot (some a) Q := ⟨a, rfl, h⟩
theorem Tot.bind {o : Option α} {f : α → Option β} (h : Tot o Q) (hf : ∀ a, Q a → Tot (f a) R) : Tot (o.bind f) R := by
  obtain ⟨a, rfl, ha⟩ := h; exact hf a ha
theorem Tot.bindE {o : Option α} {f : α → Option β} {a : α} (h : o = .some a) (hf : Tot (f a) R) : Tot (o.bind f) R := by subst h; exact hf
theorem Tot.cond {c : Bool} {x y : Option α} (h1 : c = true → Tot x Q) (h2 : c = false → Tot y Q) : Tot (cond c x y) Q := by
  cases c with
  | true => exact h1 rfl
  | false => exact h2 rfl
theorem Tot.condD {p : Prop} [Decidable p] {x y : Option α} (h1 : p → Tot x Q) (h2 : ¬ p → Tot y Q) : Tot (_root_.cond (decide p) x y) Q :=
  .cond (fun h => h1 (of_decide_eq_true h)) (fun h => h2 (of_decide_eq_false h))
theorem Tot.mono {o : Option α} (h : Tot o Q) (hq : ∀ a, Q a → Q' a) : Tot o Q' := by obtain ⟨a, e, ha⟩ := h; exact ⟨a, e, hq a ha⟩
end
end Go.Fm

/-! Loops that copy, compare, mark and look at marks. -/
namespace Go.Fm
set_option linter.unusedVariables false
set_option linter.unusedSimpArgs false
theorem eqLoop {α : Type} [BEq α] [LawfulBEq α] [DecidableEq α] {a b : List α} (F : Nat → Int → Option (Unit ⊕ Unit))
    (hs : ∀ k i, F (k + 1) i = cond (decide (i < (a.length : Int))) ((getI a i).bind fun x => (getI b i).bind fun y => cond (x != y) (some (.inr ())) (F k (IntKind.wrap .i64 (i + 1)))) (some (.inl ())))
    (hl : a.length = b.length) (hm : a.length ≤ 16777216) : F bigK 0 = some (if a = b then .inl () else .inr ()) := by
  have key : ∀ (k n : Nat), n ≤ a.length → a.length - n < k → F k n = some (if a.drop n = b.drop n then .inl () else .inr ()) := by
    intro k
    induction k with
    | zero => intro n h0 h1; omega
    | succ k ih =>
      intro n h0 h1
      rw [hs]
      by_cases hn : n < a.length
      · have hn' : n < b.length := by omega
        rw [decide_eq_true (by omega), getI_nat, getI_nat, List.getElem?_eq_getElem hn, List.getElem?_eq_getElem hn', List.drop_eq_getElem_cons hn, List.drop_eq_getElem_cons hn']
        simp only [cond_true, Option.bind_some]
        by_cases he : a[n] = b[n]
        · have : (a[n] != b[n]) = false := by rw [he]; simp
          rw [this, cond_false, wI64 (by omega) (by omega), show ((n : Int) + 1) = ((n + 1 : Nat) : Int) by omega, ih (n + 1) (by omega) (by omega), he]
          simp only [List.cons.injEq, true_and]
        · have : (a[n] != b[n]) = true := by simpa using he
          rw [this, cond_true, if_neg (fun h => he (List.cons.inj h).1)]
      · rw [decide_eq_false (by omega), cond_false, List.drop_eq_nil_of_le (by omega), List.drop_eq_nil_of_le (by omega), if_pos rfl]
  have h := key bigK 0 (Nat.zero_le _) (by unfold bigK; omega)
  rw [Int.natCast_zero] at h
  rw [h, List.drop_zero, List.drop_zero]
/-- A whole comparison. -/
theorem eqList {α : Type} [BEq α] [LawfulBEq α] [DecidableEq α] {a b : List α} (F : Nat → Int → Option (Unit ⊕ Unit)) (f : Option Bool)
    (hf : f = cond ((a.length : Int) != (b.length : Int)) (some false) (((F bigK 0).bind fun o => match o with | .inl () => some (.inl ()) | .inr () => some (.inr ()) : Option (Unit ⊕ Unit)).bind fun o => match o with | .inl () => some true | .inr () => some false))
    (hs : ∀ k i, F (k + 1) i = cond (decide (i < (a.length : Int))) ((getI a i).bind fun x => (getI b i).bind fun y => cond (x != y) (some (.inr ())) (F k (IntKind.wrap .i64 (i + 1)))) (some (.inl ())))
    (hm : a.length ≤ 16777216) : f = some (decide (a = b)) := by
  rw [hf]
  by_cases hl : a.length = b.length
  · have : ((a.length : Int) != (b.length : Int)) = false := by rw [hl]; simp
    rw [this, cond_false, eqLoop F hs hl hm]
    by_cases he : a = b
    · rw [if_pos he, decide_eq_true he]; rfl
    · rw [if_neg he, decide_eq_false he]; rfl
  · have : ((a.length : Int) != (b.length : Int)) = true := by simp; omega
    rw [this, cond_true, decide_eq_false (fun h => hl (by rw [h]))]
theorem copyLoop {α : Type} {a : List α} (F : Nat → List α → Int → Option (List α))
    (hs : ∀ k out i, F (k + 1) out i = cond (decide (i < (a.length : Int))) ((getI a i).bind fun x => (getI out i).bind fun _ => F k (out.set i.toNat x) (IntKind.wrap .i64 (i + 1))) (some out))
    (hm : a.length ≤ 16777216) {z : List α} (hz : z.length = a.length) : F bigK z 0 = some a := by
  have key : ∀ (k n : Nat) (rest : List α), n ≤ a.length → a.length - n < k → rest.length = a.length - n → F k (a.take n ++ rest) n = some a := by
    intro k
    induction k with
    | zero => intro n rest h0 h1; omega
    | succ k ih =>
      intro n rest h0 h1 h2
      rw [hs]
      by_cases hn : n < a.length
      · cases rest with
        | nil => simp at h2; omega
        | cons x r =>
          have hl : (a.take n).length = n := by rw [List.length_take]; omega
          have hg : (a.take n ++ x :: r)[n]? = some x := by rw [List.getElem?_append_right (by omega), hl, Nat.sub_self]; rfl
          have hset : (a.take n ++ x :: r).set n a[n] = a.take (n + 1) ++ r := by
            rw [List.set_append_right _ _ (by omega), hl, Nat.sub_self, List.set_cons_zero, List.take_succ_eq_append_getElem hn, List.append_assoc]; rfl
          rw [decide_eq_true (by omega), getI_nat, getI_nat, List.getElem?_eq_getElem hn, hg]
          simp only [cond_true, Option.bind_some, Int.toNat_natCast]
          rw [hset, wI64 (by omega) (by omega), show ((n : Int) + 1) = ((n + 1 : Nat) : Int) by omega]
          exact ih (n + 1) r (by omega) (by omega) (by simp at h2; omega)
      · have : n = a.length := by omega
        subst this
        have : rest = [] := List.eq_nil_of_length_eq_zero (by omega)
        subst this
        rw [decide_eq_false (by omega), cond_false, List.take_length, List.append_nil]
  have h := key bigK 0 z (Nat.zero_le _) (by unfold bigK; omega) (by omega)
  rw [Int.natCast_zero, List.take_zero, List.nil_append] at h
  exact h
def iotaM {β : Type} (val : Int → β) : Nat → Nat → List β
  | _, 0 => []
  | k, n + 1 => val k :: iotaM val (k + 1) n
theorem iotaM_len {β : Type} (val : Int → β) : ∀ (n k : Nat), (iotaM val k n).length = n
  | 0, k => rfl
  | n + 1, k => by rw [iotaM, List.length_cons, iotaM_len val n]
theorem markLoop {β : Type} (val : Int → β) (F : Nat → List β → Int → Int → Option (List β × Int)) (N : Nat)
    (hs : ∀ (k : Nat) (a : List β) (kk n : Nat), n < a.length → a.length ≤ 16777216 → kk ≤ N → F (k + 1) a kk n = F k (a.set n (val kk)) ((kk + 1 : Nat) : Int) ((n + 1 : Nat) : Int))
    (he : ∀ (k : Nat) (a : List β) (kk n : Nat), a.length ≤ n → F (k + 1) a kk n = some (a, (kk : Int))) :
    ∀ (k : Nat) (done rest : List β) (kk : Nat), kk + rest.length ≤ N → done.length + rest.length ≤ 16777216 → rest.length < k → F k (done ++ rest) kk done.length = some (done ++ iotaM val kk rest.length, ((kk + rest.length : Nat) : Int)) := by
  intro k
  induction k with
  | zero => intro done rest kk h0 h1 h2; omega
  | succ k ih =>
    intro done rest kk h0 h1 h2
    cases rest with
    | nil => rw [he _ _ _ _ (by simp)]; simp [iotaM]
    | cons x r =>
      simp only [List.length_cons] at h0 h1 h2
      rw [hs _ _ _ _ (by simp) (by simp; omega) (by omega), List.set_append_right _ _ (Nat.le_refl _), Nat.sub_self, List.set_cons_zero]
      have := ih (done ++ [val kk]) r (kk + 1) (by omega) (by simp; omega) (by omega)
      simp only [List.append_assoc, List.singleton_append, List.length_append, List.length_singleton] at this
      rw [this]
      simp only [iotaM, List.length_cons]
      congr 3
      omega
theorem heldLoop {β : Type} (val : Int → β) {L : List β} (F : Nat → Int → Int → Option (Int ⊕ Unit)) (N : Nat)
    (hs : ∀ (k kk n : Nat) (h : n < L.length), kk ≤ N → L[n] = val kk → F (k + 1) kk n = F k ((kk + 1 : Nat) : Int) ((n + 1 : Nat) : Int))
    (he : ∀ (k kk n : Nat), L.length ≤ n → F (k + 1) kk n = some (.inl (kk : Int))) :
    ∀ (k : Nat) (done : List β) (kk m : Nat), L = done ++ iotaM val kk m → kk + m ≤ N → m < k → F k kk done.length = some (.inl ((kk + m : Nat) : Int)) := by
  intro k
  induction k with
  | zero => intro done kk m h0 h1 h2; omega
  | succ k ih =>
    intro done kk m h0 h1 h2
    cases m with
    | zero => rw [he _ _ _ (by rw [h0]; simp [iotaM])]; rfl
    | succ m =>
      have hl : done.length < L.length := by rw [h0]; simp [iotaM]
      have hg : L[done.length] = val kk := by
        have : L[done.length]? = some (val kk) := by rw [h0, List.getElem?_append_right (Nat.le_refl _), Nat.sub_self]; rfl
        rw [List.getElem?_eq_getElem hl] at this
        exact Option.some.inj this
      rw [hs _ _ _ hl (by omega) hg]
      have := ih (done ++ [val kk]) (kk + 1) m (by rw [h0, List.append_assoc]; rfl) (by omega) (by omega)
      rw [List.length_append, List.length_singleton] at this
      rw [this]
      congr 3
      omega
end Go.Fm

/-! Falls: what the program holds for a right body is what the reference holds. -/
namespace Go.Proofs.YtniciinhflolnaaDoor
open Go Go.Fm
set_option linter.unusedVariables false
set_option linter.unusedSimpArgs false
set_option maxRecDepth 100000
theorem prims_eq : g_impl_prims = g_spec_l08Names := by kernel_rfl
theorem within_eq (x a b : Int) : g_impl_within x a b = some (decide (a ≤ x ∧ x ≤ b)) := by
  unfold g_impl_within
  by_cases h : a ≤ x
  · rw [decide_eq_true h, cond_true]
    congr 1
    simp [h]
  · rw [decide_eq_false h, cond_false]
    simp [h]
theorem specIn_eq (x a b : Int) : g_spec_l01In x a b = some (decide (a ≤ x ∧ x ≤ b)) := within_eq x a b
theorem name_eq (k : Int) : g_impl_PrimName k = g_spec_PrimName k := by
  unfold g_impl_PrimName g_spec_PrimName
  rw [prims_eq]
  unfold g_spec_l08Names
  simp only [Option.bind_some]
  rw [within_eq, specIn_eq]
  simp only [Option.bind_some]
  have key : ∀ (b : Bool) (x y : Option Bs), cond b x y = cond (!b) y x := fun b x y => by cases b <;> rfl
  exact key _ _ _
theorem op_eq (o : GOp) : g_impl_opOk o = g_spec_l09Op o := by
  unfold g_impl_opOk g_spec_l09Op
  simp only [name_eq, within_eq, specIn_eq]
theorem name_tot (k : Int) : ∃ s, g_spec_PrimName k = some s := by
  unfold g_spec_PrimName
  unfold g_spec_l08Names
  simp only [Option.bind_some]
  rw [specIn_eq]
  simp only [Option.bind_some]
  by_cases h : (0 : Int) ≤ k ∧ k ≤ IntKind.wrap .i64 (((([[100, 117, 112], [100, 114, 111, 112], [111, 118, 101, 114], [110, 105, 112], [115, 119, 97, 112], [43], [45], [42], [97, 110, 100], [111, 114], [50, 42], [50, 47], [47, 109, 111, 100], [64], [33], [97], [97, 33], [101, 109, 105, 116], [107, 101, 121], [112, 117, 115, 104], [112, 111, 112], [105], [46], [110, 111, 112]] : List Bs).length : Nat) : Int) - 1)
  · rw [decide_eq_true h, Bool.not_true, cond_false]
    have h2 : k ≤ 23 := h.2
    obtain ⟨x, hx, _⟩ := getI_ex (xs := ([[100, 117, 112], [100, 114, 111, 112], [111, 118, 101, 114], [110, 105, 112], [115, 119, 97, 112], [43], [45], [42], [97, 110, 100], [111, 114], [50, 42], [50, 47], [47, 109, 111, 100], [64], [33], [97], [97, 33], [101, 109, 105, 116], [107, 101, 121], [112, 117, 115, 104], [112, 111, 112], [105], [46], [110, 111, 112]] : List Bs)) (i := k) h.1 (by simp; omega)
    rw [hx]
    exact ⟨_, rfl⟩
  · rw [decide_eq_false h, Bool.not_false, cond_true]
    exact ⟨_, rfl⟩
theorem op_tot (o : GOp) : ∃ b, g_spec_l09Op o = some b := by
  unfold g_spec_l09Op
  obtain ⟨s, hs⟩ := name_tot (IntKind.wrap .i64 o.N)
  rw [hs, specIn_eq, specIn_eq]
  simp only [Option.bind_some]
  cases o.Kind == 0
  · cases o.Kind == 1
    · cases o.Kind == 2
      · simp only [cond_false]
        by_cases h : 3 ≤ o.Kind ∧ o.Kind ≤ 8
        · rw [decide_eq_true h, cond_true]
          exact ⟨_, rfl⟩
        · rw [decide_eq_false h, cond_false]
          exact ⟨_, rfl⟩
      · exact ⟨_, rfl⟩
    · exact ⟨_, rfl⟩
  · exact ⟨_, rfl⟩
def okB (o : GOp) : Bool := (g_spec_l09Op o).getD false
theorem okB_eq (o : GOp) : g_spec_l09Op o = some (okB o) := by
  obtain ⟨b, h⟩ := op_tot o
  unfold okB
  rw [h]
  rfl
/-- What is open behind an operation. -/
def stepF (v : List Int) (o : GOp) : Option (List Int) :=
  if o.Kind = 3 ∨ o.Kind = 4 ∨ o.Kind = 6 then some (v ++ [o.Kind])
  else if o.Kind = 5 ∨ o.Kind = 7 then (match v.getLast? with | none => none | some l => if decide (l = 6) = decide (o.Kind = 7) then some v.dropLast else none)
  else some v
def openF : List GOp → List Int → Option (List Int)
  | [], v => some v
  | o :: r, v => (stepF v o).bind (openF r)
def openG : List GOp → List Int → Option (List Int)
  | [], v => some v
  | o :: r, v => cond (okB o) ((stepF v o).bind (openG r)) none
theorem openG_eq : ∀ (l : List GOp) (v : List Int), openG l v = cond (l.all okB) (openF l v) none
  | [], v => rfl
  | o :: r, v => by
    rw [List.all_cons]
    unfold openG openF
    cases ho : okB o
    · rfl
    · rw [Bool.true_and, cond_true]
      cases hs : stepF v o with
      | none => cases r.all okB <;> rfl
      | some w => simp only [Option.bind_some]; exact openG_eq r w
theorem stepF_len {v w : List Int} {o : GOp} (h : stepF v o = some w) : w.length ≤ v.length + 1 := by
  unfold stepF at h
  split at h
  · cases h; simp
  · split at h
    · split at h
      · cases h
      · split at h
        · cases h; simp; omega
        · cases h
    · cases h; omega
def sumOf (o : Option (List Int)) : List Int ⊕ Unit := match o with | some w => .inl w | none => .inr ()
/-- One operation, as both texts take it. -/
theorem kinds (k : Int) : (k == 3) = decide (k = 3) ∧ (k == 4) = decide (k = 4) ∧ (k == 5) = decide (k = 5) ∧ (k == 6) = decide (k = 6) ∧ (k == 7) = decide (k = 7) := by
  refine ⟨?_, ?_, ?_, ?_, ?_⟩ <;> rw [Bool.eq_iff_iff] <;> simp
theorem last_get {v : List Int} (h : v ≠ []) (hl : v.length ≤ 16777216) : getI v (IntKind.wrap .i64 ((v.length : Int) - 1)) = v.getLast? ∧ subL v 0 (IntKind.wrap .i64 ((v.length : Int) - 1)) = some v.dropLast := by
  have h0 : 0 < v.length := by
    cases v with
    | nil => exact absurd rfl h
    | cons a r => simp
  rw [wI64 (by omega) (by omega), show (v.length : Int) - 1 = ((v.length - 1 : Nat) : Int) by omega, getI_nat, subL_take (by omega) (by omega), Int.toNat_natCast, List.getLast?_eq_getElem?, List.dropLast_eq_take]
  exact ⟨rfl, rfl⟩
theorem spec_step (v : List Int) (o : GOp) (hl : v.length ≤ 16777216) :
    ((cond (o.Kind == 3) (some (o.Kind == 3)) (cond (o.Kind == 4) (some (o.Kind == 4)) (some (o.Kind == 6))) : Option (Bool)).bind fun v_17 => cond v_17 ((app v [o.Kind]).bind fun v_23 => some (Sum.inl v_23)) ((cond (o.Kind == 5) (some (o.Kind == 5)) (some (o.Kind == 7)) : Option (Bool)).bind fun v_24 => cond v_24 ((cond ((v.length : Int) == 0) (some true) ((getI v (IntKind.wrap .i64 ((v.length : Int) - 1))).bind fun v_33 => some ((v_33 == 6) != (o.Kind == 7))) : Option (Bool)).bind fun v_29 => cond v_29 (some (Sum.inr ())) ((subL v 0 (IntKind.wrap .i64 ((v.length : Int) - 1))).bind fun v_35 => some (Sum.inl v_35))) (some (Sum.inl v))) : Option ((List Int) ⊕ Unit)) = some (sumOf (stepF v o)) := by
  obtain ⟨e3, e4, e5, e6, e7⟩ := kinds o.Kind
  rw [e3, e4, e5, e6, e7]
  unfold stepF
  by_cases h3 : o.Kind = 3
  · simp only [h3, decide_true, cond_true, Option.bind_some]
    rw [app_eq (by simp; omega)]
    rfl
  · by_cases h4 : o.Kind = 4
    · rw [decide_eq_false h3, cond_false, decide_eq_true h4, cond_true, Option.bind_some, cond_true, app_eq (by simp; omega), if_pos (.inr (.inl h4))]
      rfl
    · by_cases h6 : o.Kind = 6
      · rw [decide_eq_false h3, cond_false, decide_eq_false h4, cond_false, Option.bind_some, decide_eq_true h6, cond_true, app_eq (by simp; omega), if_pos (.inr (.inr h6))]
        rfl
      · rw [decide_eq_false h3, cond_false, decide_eq_false h4, cond_false, Option.bind_some, decide_eq_false h6, cond_false, if_neg (by omega)]
        by_cases h57 : o.Kind = 5 ∨ o.Kind = 7
        · have hc : (cond (decide (o.Kind = 5)) (some (decide (o.Kind = 5))) (some (decide (o.Kind = 7))) : Option Bool) = some true := by
            rcases h57 with h | h
            · rw [decide_eq_true h]; rfl
            · rw [decide_eq_true h, decide_eq_false (by omega)]; rfl
          rw [hc, Option.bind_some, cond_true, if_pos h57]
          cases v with
          | nil => rfl
          | cons a r =>
            obtain ⟨g1, g2⟩ := last_get (v := a :: r) (by simp) hl
            have hz : (((a :: r).length : Int) == 0) = false := by simp; omega
            rw [hz, cond_false, g1, g2]
            obtain ⟨x, hx⟩ : ∃ x, (a :: r).getLast? = some x := by rw [List.getLast?_cons]; exact ⟨_, rfl⟩
            rw [hx]
            simp only [Option.bind_some]
            have ex : (x == 6) = decide (x = 6) := (kinds x).2.2.2.1
            rw [ex]
            by_cases hq : decide (x = 6) = decide (o.Kind = 7)
            · rw [hq, if_pos rfl]
              simp [sumOf]
            · rw [if_neg hq]
              have : (decide (x = 6) != decide (o.Kind = 7)) = true := by simpa using hq
              rw [this, cond_true]
              rfl
        · have hc : (cond (decide (o.Kind = 5)) (some (decide (o.Kind = 5))) (some (decide (o.Kind = 7))) : Option Bool) = some false := by
            rw [decide_eq_false (by omega), decide_eq_false (by omega)]; rfl
          rw [hc, Option.bind_some, cond_false, if_neg h57]
          rfl
theorem impl_step (v : List Int) (o : GOp) (hl : v.length ≤ 16777216) :
    ((cond (o.Kind == 3) (some true) (cond (o.Kind == 4) (some true) (some (o.Kind == 6))) : Option (Bool)).bind fun v_19 => cond v_19 ((app v [o.Kind]).bind fun v_25 => some (Sum.inl v_25)) ((cond (o.Kind == 5) (some true) (some (o.Kind == 7)) : Option (Bool)).bind fun v_26 => cond v_26 ((cond (decide ((IntKind.wrap .i64 ((v.length : Int) - 1)) < 0)) (some true) ((getI v (IntKind.wrap .i64 ((v.length : Int) - 1))).bind fun v_35 => some ((v_35 == 6) != (o.Kind == 7))) : Option (Bool)).bind fun v_31 => cond v_31 (some (Sum.inr ())) ((subL v 0 (IntKind.wrap .i64 ((v.length : Int) - 1))).bind fun v_37 => some (Sum.inl v_37))) (some (Sum.inl v))) : Option ((List Int) ⊕ Unit)) = some (sumOf (stepF v o)) := by
  rw [← spec_step v o hl]
  have c1 : ∀ b : Bool, ∀ x : Option Bool, (cond b (some true) x : Option Bool) = cond b (some b) x := fun b x => by cases b <;> rfl
  have c2 : decide ((IntKind.wrap .i64 ((v.length : Int) - 1)) < 0) = ((v.length : Int) == 0) := by
    rw [wI64 (by omega) (by omega)]
    by_cases h0 : v.length = 0
    · rw [h0]; rfl
    · rw [decide_eq_false (by omega), beq_eq_false_iff_ne.2 (by omega)]
  rw [c2, c1 (o.Kind == 3), c1 (o.Kind == 4), c1 (o.Kind == 5)]
theorem spec_l0 {body : List GOp} (hb : body.length ≤ 1048576) : ∀ (k n : Nat) (v : List Int), n ≤ body.length → body.length - n < k → v.length ≤ n → g_spec_l09Open_l0 body k v n = some (sumOf (openF (body.drop n) v)) := by
  intro k
  induction k with
  | zero => intro n v h0 h1; omega
  | succ k ih =>
    intro n v h0 h1 h2
    rw [g_spec_l09Open_l0]
    by_cases hn : n < body.length
    · rw [decide_eq_true (by omega), cond_true, getI_nat, List.getElem?_eq_getElem hn, List.drop_eq_getElem_cons hn]
      simp only [Option.bind_some]
      rw [spec_step v body[n] (by omega)]
      simp only [Option.bind_some, openF]
      cases hs : stepF v body[n] with
      | none => rfl
      | some w =>
        have := stepF_len hs
        simp only [sumOf, Option.bind_some]
        rw [wI64 (by omega) (by omega), show (n : Int) + 1 = ((n + 1 : Nat) : Int) by omega, ih (n + 1) w (by omega) (by omega) (by omega)]
        rfl
    · rw [decide_eq_false (by omega), cond_false, List.drop_eq_nil_of_le (by omega)]
      rfl
theorem impl_l0 {body : List GOp} (hb : body.length ≤ 1048576) : ∀ (k n : Nat) (v : List Int), n ≤ body.length → body.length - n < k → v.length ≤ n → g_impl_openIn_l0 body k v n = some (sumOf (openG (body.drop n) v)) := by
  intro k
  induction k with
  | zero => intro n v h0 h1; omega
  | succ k ih =>
    intro n v h0 h1 h2
    rw [g_impl_openIn_l0]
    by_cases hn : n < body.length
    · rw [decide_eq_true (by omega), cond_true, getI_nat, List.getElem?_eq_getElem hn, List.drop_eq_getElem_cons hn]
      simp only [Option.bind_some]
      rw [op_eq, okB_eq]
      simp only [Option.bind_some, openG]
      cases ho : okB body[n]
      · rw [Bool.not_false, cond_true, cond_false]
        rfl
      · rw [Bool.not_true, cond_false, cond_true, impl_step v body[n] (by omega)]
        simp only [Option.bind_some]
        cases hs : stepF v body[n] with
        | none => rfl
        | some w =>
          have := stepF_len hs
          simp only [sumOf, Option.bind_some]
          rw [wI64 (by omega) (by omega), show (n : Int) + 1 = ((n + 1 : Nat) : Int) by omega, ih (n + 1) w (by omega) (by omega) (by omega)]
          rfl
    · rw [decide_eq_false (by omega), cond_false, List.drop_eq_nil_of_le (by omega)]
      rfl
theorem spec_ok {body : List GOp} (hb : body.length ≤ 1048576) : ∀ (k n : Nat), n ≤ body.length → body.length - n < k → g_spec_ShapeOk_l0 body k n = some (cond ((body.drop n).all okB) (.inl ()) (.inr ())) := by
  intro k
  induction k with
  | zero => intro n h0 h1; omega
  | succ k ih =>
    intro n h0 h1
    rw [g_spec_ShapeOk_l0]
    by_cases hn : n < body.length
    · rw [decide_eq_true (by omega), cond_true, getI_nat, List.getElem?_eq_getElem hn, List.drop_eq_getElem_cons hn, List.all_cons]
      simp only [Option.bind_some]
      rw [okB_eq]
      simp only [Option.bind_some]
      cases ho : okB body[n]
      · rfl
      · rw [Bool.not_true, cond_false, wI64 (by omega) (by omega), show (n : Int) + 1 = ((n + 1 : Nat) : Int) by omega, ih (n + 1) (by omega) (by omega), Bool.true_and]
    · rw [decide_eq_false (by omega), cond_false, List.drop_eq_nil_of_le (by omega)]
      rfl
def shapeB (body : List GOp) : Bool := decide (body.length ≤ 60) && (body.all okB && decide (openF body [] = some []))
theorem len0 (w : List Int) : ((w.length : Int) == 0) = decide (w = []) := by
  rw [Bool.eq_iff_iff]
  cases w <;> simp
  omega
theorem spec_shape {body : List GOp} (hb : body.length ≤ 1048576) : g_spec_ShapeOk body = some (shapeB body) := by
  unfold g_spec_ShapeOk shapeB
  by_cases h : body.length ≤ 60
  · have h0 := spec_ok hb bigK 0 (Nat.zero_le _) (by unfold bigK; omega)
    rw [Int.natCast_zero, List.drop_zero] at h0
    rw [decide_eq_false (by omega), cond_false, h0, decide_eq_true h, Bool.true_and]
    simp only [Option.bind_some]
    cases body.all okB
    · rfl
    · simp only [cond_true, Option.bind_some, Bool.true_and]
      unfold g_spec_l09Open
      have h1 := spec_l0 hb bigK 0 [] (Nat.zero_le _) (by unfold bigK; omega) (Nat.le_refl _)
      rw [Int.natCast_zero, List.drop_zero] at h1
      rw [h1]
      cases openF body [] with
      | none => rfl
      | some w =>
        simp only [sumOf, Option.bind_some, cond_true]
        rw [len0]
        simp
  · rw [decide_eq_true (by omega), cond_true, decide_eq_false h]
    rfl
theorem impl_shape {body : List GOp} (hb : body.length ≤ 1048576) : g_impl_ShapeOk body = some (shapeB body) := by
  unfold g_impl_ShapeOk g_impl_openIn shapeB
  have h1 := impl_l0 hb bigK 0 [] (Nat.zero_le _) (by unfold bigK; omega) (Nat.le_refl _)
  rw [Int.natCast_zero, List.drop_zero] at h1
  rw [h1, openG_eq]
  simp only [Option.bind_some]
  cases body.all okB
  · simp [sumOf]
  · simp only [cond_true]
    cases openF body [] with
    | none => simp [sumOf]
    | some w =>
      simp only [sumOf, Option.bind_some]
      have hd : decide ((body.length : Int) ≤ 60) = decide (body.length ≤ 60) := by
        rw [Bool.eq_iff_iff]; simp; omega
      rw [hd, len0]
      cases decide (body.length ≤ 60)
      · rfl
      · simp
theorem falls_eq {body : List GOp} (hb : body.length ≤ 1048576) : ∃ b, g_spec_Falls body = some b ∧ g_impl_Falls body = some b := by
  unfold g_spec_Falls g_impl_Falls
  rw [spec_shape hb, impl_shape hb]
  simp only [Option.bind_some]
  cases shapeB body
  · exact ⟨_, rfl, rfl⟩
  · simp only [cond_true]
    by_cases h0 : body.length = 0
    · have : ((body.length : Int) == 0) = true := beq_iff_eq.2 (by omega)
      rw [this]
      exact ⟨_, rfl, rfl⟩
    · have : ((body.length : Int) == 0) = false := beq_eq_false_iff_ne.2 (by omega)
      rw [this, cond_false, wI64 (by omega) (by omega)]
      obtain ⟨x, hx, _⟩ := getI_ex (xs := body) (i := (body.length : Int) - 1) (by omega) (by omega)
      rw [hx]
      exact ⟨_, rfl, rfl⟩
theorem toS {a : List GOp} (h : a.length ≤ 1048576) : g_laws_toOpS a = some a := by
  unfold g_laws_toOpS
  rw [mk_eq (by omega) (by omega), Option.bind_some, copyLoop (g_laws_toOpS_l0 a) (fun _ _ _ => rfl) (by omega) (by simp)]
  rfl
theorem neD {α : Type} [BEq α] [LawfulBEq α] [DecidableEq α] (x y : α) : (x != y) = decide (x ≠ y) := by
  by_cases h : x = y
  · rw [h]; simp
  · rw [decide_eq_true h]; simpa using h
theorem eqO {x y : GOp} : g_laws_eqOp x y = some (decide (x = y)) := by
  obtain ⟨a1, a2⟩ := x
  obtain ⟨b1, b2⟩ := y
  unfold g_laws_eqOp
  simp only [neD]
  by_cases h1 : a1 = b1 <;> by_cases h2 : a2 = b2 <;> simp [h1, h2]
theorem eqS {a b : List GOp} (h : a.length ≤ 1048576) : g_laws_eqOpS a b = some (decide (a = b)) :=
  eqList (g_laws_eqOpS_l0 a b) _ rfl (fun k i => by
    rw [g_laws_eqOpS_l0]
    simp only [eqO, Option.bind_some]
    rfl) (by omega)
theorem law_falls {a : List GOp} (ha : a.length ≤ 9223372036854775807) : g_laws_FnExactFalls a = some true := by
  unfold g_laws_FnExactFalls g_laws_szOpS
  rw [wI64 (by omega) (by omega)]
  by_cases h : (1048576 : Int) - a.length < 0
  · rw [decide_eq_true h, cond_true]
    rfl
  · have hb : a.length ≤ 1048576 := by omega
    rw [decide_eq_false h, cond_false]
    simp only [Option.bind_some]
    rw [decide_eq_false h, cond_false]
    obtain ⟨b, e1, e2⟩ := falls_eq hb
    simp only [toS hb, eqS hb, Option.bind_some, e1, e2]
    simp
end Go.Proofs.YtniciinhflolnaaDoor

