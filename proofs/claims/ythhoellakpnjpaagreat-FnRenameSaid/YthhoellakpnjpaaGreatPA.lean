import Derived.Test.YthhoellakpnjpaaGreatMF
import Derived.Test.YthhoellakpnjpaaGreatGD
/-! Plain facts of the operations. -/
namespace Go.Fm
theorem wI64 {x : Int} (h1 : -9223372036854775808 ≤ x) (h2 : x < 9223372036854775808) : IntKind.wrap .i64 x = x := by
  simp [IntKind.wrap, IntKind.bits, IntKind.signed]; omega
theorem wI32 {x : Int} (h1 : -2147483648 ≤ x) (h2 : x < 2147483648) : IntKind.wrap .i32 x = x := by
  simp [IntKind.wrap, IntKind.bits, IntKind.signed]; omega
theorem wU32 {x : Int} (h1 : 0 ≤ x) (h2 : x < 4294967296) : IntKind.wrap .u32 x = x := by
  simp [IntKind.wrap, IntKind.bits, IntKind.signed]; omega
theorem wU64 {x : Int} (h1 : 0 ≤ x) (h2 : x < 18446744073709551616) : IntKind.wrap .u64 x = x := by
  simp [IntKind.wrap, IntKind.bits, IntKind.signed]; omega
theorem wU32_bd (x : Int) : 0 ≤ IntKind.wrap .u32 x ∧ IntKind.wrap .u32 x < 4294967296 := by
  simp [IntKind.wrap, IntKind.bits, IntKind.signed]; omega
theorem wI32_bd (x : Int) : -2147483648 ≤ IntKind.wrap .i32 x ∧ IntKind.wrap .i32 x < 2147483648 := by
  simp [IntKind.wrap, IntKind.bits, IntKind.signed]; omega
theorem wI64_bd (x : Int) : -9223372036854775808 ≤ IntKind.wrap .i64 x ∧ IntKind.wrap .i64 x < 9223372036854775808 := by
  simp [IntKind.wrap, IntKind.bits, IntKind.signed]; omega
theorem getI_ex {α : Type} {xs : List α} {i : Int} (h0 : 0 ≤ i) (h1 : i < xs.length) : ∃ x, getI xs i = some x ∧ x ∈ xs ∧ xs[i.toNat]? = some x := by
  have hi : i.toNat < xs.length := by omega
  unfold getI
  rw [if_pos h0, List.getElem?_eq_getElem hi]
  exact ⟨_, rfl, List.getElem_mem hi, rfl⟩
theorem getI_nat {α : Type} {xs : List α} {i : Nat} : getI xs (i : Int) = xs[i]? := by
  unfold getI; rw [if_pos (Int.natCast_nonneg i)]; rfl
theorem idxS_ex {l : List UInt8} {i : Int} (h0 : 0 ≤ i) (h1 : i < l.length) : ∃ v, idxS l i = some v ∧ 0 ≤ v ∧ v < 256 ∧ ∃ b ∈ l, v = (b.toNat : Int) := by
  unfold idxS
  rw [if_pos ⟨h0, h1⟩]
  have hi : i.toNat < l.length := by omega
  refine ⟨_, rfl, Int.natCast_nonneg _, ?_, l[i.toNat], List.getElem_mem hi, ?_⟩
  · have := UInt8.toNat_lt (l.getD i.toNat 0); omega
  · rw [List.getD_eq_getElem?_getD, List.getElem?_eq_getElem hi]; rfl
theorem app_eq {α : Type} {xs ys : List α} (h : xs.length + ys.length ≤ 4294967296) : app xs ys = some (xs ++ ys) := by
  unfold app
  rw [if_pos (by rw [List.length_append]; exact h)]
theorem subL_eq {α : Type} {xs : List α} {a b : Int} (h0 : 0 ≤ a) (h1 : a ≤ b) (h2 : b ≤ xs.length) : subL xs a b = some ((xs.drop a.toNat).take (b.toNat - a.toNat)) := by
  unfold subL; rw [if_pos ⟨h0, h1, h2⟩]
theorem subL_drop {α : Type} {xs : List α} {a : Int} (h0 : 0 ≤ a) (h2 : a ≤ xs.length) : subL xs a xs.length = some (xs.drop a.toNat) := by
  rw [subL_eq h0 h2 (Int.le_refl _), List.take_of_length_le]
  rw [List.length_drop]; omega
theorem subL_take {α : Type} {xs : List α} {b : Int} (h0 : 0 ≤ b) (h2 : b ≤ xs.length) : subL xs 0 b = some (xs.take b.toNat) := by
  rw [subL_eq (Int.le_refl _) h0 h2]; rfl
theorem mk_eq {α : Type} {z : α} {n : Int} (h0 : 0 ≤ n) (h1 : n ≤ 4294967296) : mk z n = some (List.replicate n.toNat z) := by
  unfold mk; rw [if_pos ⟨h0, h1⟩]
theorem catS_eq {a b : List UInt8} (h : a.length + b.length < 4611686018427387904) : catS a b = some (a ++ b) := by
  unfold catS; rw [if_pos h]
theorem remI_ex {k : IntKind} {a b : Int} (h0 : 0 ≤ a) (hb : 0 < b) : remI k a b = some (a % b) ∧ 0 ≤ a % b ∧ a % b < b := by
  unfold remI
  rw [if_neg (by omega), Int.tmod_eq_emod_of_nonneg h0]
  exact ⟨rfl, Int.emod_nonneg _ (by omega), Int.emod_lt_of_pos _ hb⟩
theorem bB_toNat {k : IntKind} {a : Int} (h0 : 0 ≤ a) (h1 : a < 2 ^ k.bits) : (bytesB k a).toNat = a.toNat := by
  unfold bytesB
  rw [BitVec.toNat_ofInt, Int.emod_eq_of_lt h0]
  simpa using h1
theorem wrap_small {k : IntKind} {n : Nat} (h : n < 2 ^ (k.bits - 1)) : k.wrap n = n := by
  unfold IntKind.wrap
  have hb : 2 ^ (k.bits - 1) ≤ 2 ^ k.bits := Nat.pow_le_pow_right (by decide) (Nat.sub_le _ _)
  have h1 : (n : Int) < ((2 ^ k.bits : Nat) : Int) := Int.ofNat_lt.2 (Nat.lt_of_lt_of_le h hb)
  have h2 : (n : Int) < ((2 ^ (k.bits - 1) : Nat) : Int) := Int.ofNat_lt.2 h
  simp only [Int.natCast_pow, Int.cast_ofNat_Int] at h1 h2
  have e : (n : Int) % (2 ^ k.bits : Int) = n := Int.emod_eq_of_lt (Int.natCast_nonneg _) h1
  simp only [e]
  rw [if_neg]
  intro hc
  rw [Bool.and_eq_true, decide_eq_true_eq] at hc
  have h3 := hc.2
  omega
/-- What is masked by a small number is no greater. -/
theorem and_le {k : IntKind} {a b : Int} (h0 : 0 ≤ b) (h1 : b < 2 ^ (k.bits - 1)) : 0 ≤ andI k a b ∧ andI k a b ≤ b := by
  unfold andI
  have hb : (bytesB k b).toNat = b.toNat := bB_toNat h0 (Int.lt_of_lt_of_le h1 (by
    have : ((2 ^ (k.bits - 1) : Nat) : Int) ≤ ((2 ^ k.bits : Nat) : Int) := Int.ofNat_le.2 (Nat.pow_le_pow_right (by decide) (Nat.sub_le _ _))
    simpa only [Int.natCast_pow, Int.cast_ofNat_Int] using this))
  have hle : (bytesB k a &&& bytesB k b).toNat ≤ b.toNat := by
    rw [BitVec.toNat_and, hb]; exact Nat.and_le_right
  have hlt : (bytesB k a &&& bytesB k b).toNat < 2 ^ (k.bits - 1) := by
    refine Nat.lt_of_le_of_lt hle ?_
    have : (b.toNat : Int) < ((2 ^ (k.bits - 1) : Nat) : Int) := by rw [Int.toNat_of_nonneg h0]; simpa only [Int.natCast_pow, Int.cast_ofNat_Int] using h1
    exact Int.ofNat_lt.1 this
  rw [wrap_small hlt]
  omega
/-- It answers, and so. -/
def Tot {α : Type} (o : Option α) (Q : α → Prop) : Prop := ∃ a, o = some a ∧ Q a
section
variable {α β : Type} {Q Q' : α → Prop} {R : β → Prop}
theorem Tot.some {a : α} (h : Q a) : Tot (some a) Q := ⟨a, rfl, h⟩
theorem Tot.bind {o : Option α} {f : α → Option β} (h : Tot o Q) (hf : ∀ a, Q a → Tot (f a) R) : Tot (o.bind f) R := by
  obtain ⟨a, rfl, ha⟩ := h; exact hf a ha
theorem Tot.bindE {o : Option α} {f : α → Option β} {a : α} (h : o = .some a) (hf : Tot (f a) R) : Tot (o.bind f) R := by subst h; exact hf
theorem Tot.cond {c : Bool} {x y : Option α} (h1 : c = true → Tot x Q) (h2 : c = false → Tot y Q) : Tot (cond c x y) Q := by
  cases c with
  | true => exact h1 rfl
  | false => exact h2 rfl
theorem Tot.condD {p : Prop} [Decidable p] {x y : Option α} (h1 : p → Tot x Q) (h2 : ¬ p → Tot y Q) : Tot (_root_.cond (decide p) x y) Q :=
  .cond (fun h => h1 (of_decide_eq_true h)) (fun h => h2 (of_decide_eq_false h))
theorem Tot.mono {o : Option α} (h : Tot o Q) (hq : ∀ a, Q a → Q' a) : Tot o Q' := by obtain ⟨a, e, ha⟩ := h; exact ⟨a, e, hq a ha⟩
end
end Go.Fm

/-! Loops that copy, compare, mark and look at marks. -/
namespace Go.Fm
set_option linter.unusedVariables false
set_option linter.unusedSimpArgs false
theorem eqLoop {α : Type} [BEq α] [LawfulBEq α] [DecidableEq α] {a b : List α} (F : Nat → Int → Option (Unit ⊕ Unit))
    (hs : ∀ k i, F (k + 1) i = cond (decide (i < (a.length : Int))) ((getI a i).bind fun x => (getI b i).bind fun y => cond (x != y) (some (.inr ())) (F k (IntKind.wrap .i64 (i + 1)))) (some (.inl ())))
    (hl : a.length = b.length) (hm : a.length ≤ 16777216) : F bigK 0 = some (if a = b then .inl () else .inr ()) := by
  have key : ∀ (k n : Nat), n ≤ a.length → a.length - n < k → F k n = some (if a.drop n = b.drop n then .inl () else .inr ()) := by
    intro k
    induction k with
    | zero => intro n h0 h1; omega
    | succ k ih =>
      intro n h0 h1
      rw [hs]
      by_cases hn : n < a.length
      · have hn' : n < b.length := by omega
        rw [decide_eq_true (by omega), getI_nat, getI_nat, List.getElem?_eq_getElem hn, List.getElem?_eq_getElem hn', List.drop_eq_getElem_cons hn, List.drop_eq_getElem_cons hn']
        simp only [cond_true, Option.bind_some]
        by_cases he : a[n] = b[n]
        · have : (a[n] != b[n]) = false := by rw [he]; simp
          rw [this, cond_false, wI64 (by omega) (by omega), show ((n : Int) + 1) = ((n + 1 : Nat) : Int) by omega, ih (n + 1) (by omega) (by omega), he]
          simp only [List.cons.injEq, true_and]
        · have : (a[n] != b[n]) = true := by simpa using he
          rw [this, cond_true, if_neg (fun h => he (List.cons.inj h).1)]
      · rw [decide_eq_false (by omega), cond_false, List.drop_eq_nil_of_le (by omega), List.drop_eq_nil_of_le (by omega), if_pos rfl]
  have h := key bigK 0 (Nat.zero_le _) (by unfold bigK; omega)
  rw [Int.natCast_zero] at h
  rw [h, List.drop_zero, List.drop_zero]
/-- A whole comparison. -/
theorem eqList {α : Type} [BEq α] [LawfulBEq α] [DecidableEq α] {a b : List α} (F : Nat → Int → Option (Unit ⊕ Unit)) (f : Option Bool)
    (hf : f = cond ((a.length : Int) != (b.length : Int)) (some false) (((F bigK 0).bind fun o => match o with | .inl () => some (.inl ()) | .inr () => some (.inr ()) : Option (Unit ⊕ Unit)).bind fun o => match o with | .inl () => some true | .inr () => some false))
    (hs : ∀ k i, F (k + 1) i = cond (decide (i < (a.length : Int))) ((getI a i).bind fun x => (getI b i).bind fun y => cond (x != y) (some (.inr ())) (F k (IntKind.wrap .i64 (i + 1)))) (some (.inl ())))
    (hm : a.length ≤ 16777216) : f = some (decide (a = b)) := by
  rw [hf]
  by_cases hl : a.length = b.length
  · have : ((a.length : Int) != (b.length : Int)) = false := by rw [hl]; simp
    rw [this, cond_false, eqLoop F hs hl hm]
    by_cases he : a = b
    · rw [if_pos he, decide_eq_true he]; rfl
    · rw [if_neg he, decide_eq_false he]; rfl
  · have : ((a.length : Int) != (b.length : Int)) = true := by simp; omega
    rw [this, cond_true, decide_eq_false (fun h => hl (by rw [h]))]
theorem copyLoop {α : Type} {a : List α} (F : Nat → List α → Int → Option (List α))
    (hs : ∀ k out i, F (k + 1) out i = cond (decide (i < (a.length : Int))) ((getI a i).bind fun x => (getI out i).bind fun _ => F k (out.set i.toNat x) (IntKind.wrap .i64 (i + 1))) (some out))
    (hm : a.length ≤ 16777216) {z : List α} (hz : z.length = a.length) : F bigK z 0 = some a := by
  have key : ∀ (k n : Nat) (rest : List α), n ≤ a.length → a.length - n < k → rest.length = a.length - n → F k (a.take n ++ rest) n = some a := by
    intro k
    induction k with
    | zero => intro n rest h0 h1; omega
    | succ k ih =>
      intro n rest h0 h1 h2
      rw [hs]
      by_cases hn : n < a.length
      · cases rest with
        | nil => simp at h2; omega
        | cons x r =>
          have hl : (a.take n).length = n := by rw [List.length_take]; omega
          have hg : (a.take n ++ x :: r)[n]? = some x := by rw [List.getElem?_append_right (by omega), hl, Nat.sub_self]; rfl
          have hset : (a.take n ++ x :: r).set n a[n] = a.take (n + 1) ++ r := by
            rw [List.set_append_right _ _ (by omega), hl, Nat.sub_self, List.set_cons_zero, List.take_succ_eq_append_getElem hn, List.append_assoc]; rfl
          rw [decide_eq_true (by omega), getI_nat, getI_nat, List.getElem?_eq_getElem hn, hg]
          simp only [cond_true, Option.bind_some, Int.toNat_natCast]
          rw [hset, wI64 (by omega) (by omega), show ((n : Int) + 1) = ((n + 1 : Nat) : Int) by omega]
          exact ih (n + 1) r (by omega) (by omega) (by simp at h2; omega)
      · have : n = a.length := by omega
        subst this
        have : rest = [] := List.eq_nil_of_length_eq_zero (by omega)
        subst this
        rw [decide_eq_false (by omega), cond_false, List.take_length, List.append_nil]
  have h := key bigK 0 z (Nat.zero_le _) (by unfold bigK; omega) (by omega)
  rw [Int.natCast_zero, List.take_zero, List.nil_append] at h
  exact h
def iotaM {β : Type} (val : Int → β) : Nat → Nat → List β
  | _, 0 => []
  | k, n + 1 => val k :: iotaM val (k + 1) n
theorem iotaM_len {β : Type} (val : Int → β) : ∀ (n k : Nat), (iotaM val k n).length = n
  | 0, k => rfl
  | n + 1, k => by rw [iotaM, List.length_cons, iotaM_len val n]
theorem markLoop {β : Type} (val : Int → β) (F : Nat → List β → Int → Int → Option (List β × Int)) (N : Nat)
    (hs : ∀ (k : Nat) (a : List β) (kk n : Nat), n < a.length → a.length ≤ 16777216 → kk ≤ N → F (k + 1) a kk n = F k (a.set n (val kk)) ((kk + 1 : Nat) : Int) ((n + 1 : Nat) : Int))
    (he : ∀ (k : Nat) (a : List β) (kk n : Nat), a.length ≤ n → F (k + 1) a kk n = some (a, (kk : Int))) :
    ∀ (k : Nat) (done rest : List β) (kk : Nat), kk + rest.length ≤ N → done.length + rest.length ≤ 16777216 → rest.length < k → F k (done ++ rest) kk done.length = some (done ++ iotaM val kk rest.length, ((kk + rest.length : Nat) : Int)) := by
  intro k
  induction k with
  | zero => intro done rest kk h0 h1 h2; omega
  | succ k ih =>
    intro done rest kk h0 h1 h2
    cases rest with
    | nil => rw [he _ _ _ _ (by simp)]; simp [iotaM]
    | cons x r =>
      simp only [List.length_cons] at h0 h1 h2
      rw [hs _ _ _ _ (by simp) (by simp; omega) (by omega), List.set_append_right _ _ (Nat.le_refl _), Nat.sub_self, List.set_cons_zero]
      have := ih (done ++ [val kk]) r (kk + 1) (by omega) (by simp; omega) (by omega)
      simp only [List.append_assoc, List.singleton_append, List.length_append, List.length_singleton] at this
      rw [this]
      simp only [iotaM, List.length_cons]
      congr 3
      omega
theorem heldLoop {β : Type} (val : Int → β) {L : List β} (F : Nat → Int → Int → Option (Int ⊕ Unit)) (N : Nat)
    (hs : ∀ (k kk n : Nat) (h : n < L.length), kk ≤ N → L[n] = val kk → F (k + 1) kk n = F k ((kk + 1 : Nat) : Int) ((n + 1 : Nat) : Int))
    (he : ∀ (k kk n : Nat), L.length ≤ n → F (k + 1) kk n = some (.inl (kk : Int))) :
    ∀ (k : Nat) (done : List β) (kk m : Nat), L = done ++ iotaM val kk m → kk + m ≤ N → m < k → F k kk done.length = some (.inl ((kk + m : Nat) : Int)) := by
  intro k
  induction k with
  | zero => intro done kk m h0 h1 h2; omega
  | succ k ih =>
    intro done kk m h0 h1 h2
    cases m with
    | zero => rw [he _ _ _ (by rw [h0]; simp [iotaM])]; rfl
    | succ m =>
      have hl : done.length < L.length := by rw [h0]; simp [iotaM]
      have hg : L[done.length] = val kk := by
        have : L[done.length]? = some (val kk) := by rw [h0, List.getElem?_append_right (Nat.le_refl _), Nat.sub_self]; rfl
        rw [List.getElem?_eq_getElem hl] at this
        exact Option.some.inj this
      rw [hs _ _ _ hl (by omega) hg]
      have := ih (done ++ [val kk]) (kk + 1) m (by rw [h0, List.append_assoc]; rfl) (by omega) (by omega)
      rw [List.length_append, List.length_singleton] at this
      rw [this]
      congr 3
      omega
end Go.Fm

namespace Go.Proofs.YthhoellakpnjpaaGreat
open Go Go.Fm
set_option linter.unusedVariables false
/-- A cursor of a draw. -/
def Cok (c : GL01Cur) : Prop := 0 ≤ c.i ∧ c.b.length ≤ 1048576
theorem byte_ok {c : GL01Cur} (h : Cok c) : Tot (g_spec_l01Byte c) fun r => 0 ≤ r.1 ∧ r.1 ≤ 255 ∧ Cok r.2 := by
  unfold g_spec_l01Byte
  refine Tot.bind (Q := fun r => 0 ≤ r.2 ∧ r.2 ≤ 255 ∧ Cok r.1) (.condD (fun hi => ?_) (fun hi => ?_)) fun r hr => .some hr
  · obtain ⟨v, hv, _⟩ := getI_ex h.1 hi
    refine .bindE hv (.some ⟨(and_le (by decide) (by decide)).1, (and_le (by decide) (by decide)).2, ?_, h.2⟩)
    have := h.1
    have := h.2
    show 0 ≤ IntKind.wrap .i64 (c.i + 1)
    rw [wI64 (by omega) (by omega)]
    omega
  · exact .some ⟨(and_le (by decide) (by decide)).1, (and_le (by decide) (by decide)).2, h⟩
theorem below_ok {c : GL01Cur} (h : Cok c) {n : Int} (hn : 0 < n) : Tot (g_spec_l01Below c n) fun r => 0 ≤ r.1 ∧ r.1 < n ∧ Cok r.2 := by
  unfold g_spec_l01Below
  refine .condD (fun h0 => by omega) fun _ => .condD (fun h1 => ?_) fun h1 => ?_
  · refine .bind (byte_ok h) fun a ha => ?_
    obtain ⟨e, g1, g2⟩ := remI_ex (k := .i64) ha.1 hn
    exact .bindE e (.some ⟨g1, g2, ha.2.2⟩)
  · refine .bind (byte_ok h) fun a ha => .bind (byte_ok ha.2.2) fun b hb => .bind (byte_ok hb.2.2) fun d hd => .bind (byte_ok hd.2.2) fun x hx => ?_
    rw [wI64 (x := a.1 * 16777216) (by omega) (by omega), wI64 (x := b.1 * 65536) (by omega) (by omega), wI64 (x := d.1 * 256) (by omega) (by omega), wI64 (x := a.1 * 16777216 + b.1 * 65536) (by omega) (by omega),
      wI64 (x := a.1 * 16777216 + b.1 * 65536 + d.1 * 256) (by omega) (by omega), wI64 (x := a.1 * 16777216 + b.1 * 65536 + d.1 * 256 + x.1) (by omega) (by omega)]
    obtain ⟨e, g1, g2⟩ := remI_ex (k := .i64) (a := a.1 * 16777216 + b.1 * 65536 + d.1 * 256 + x.1) (by omega) hn
    exact .bindE e (.some ⟨g1, g2, hx.2.2⟩)
theorem once_ok {c : GL01Cur} (h : Cok c) {n : Int} (hn : 0 < n) : Tot (g_spec_l01Once c n) fun r => Cok r.2 :=
  .bind (below_ok h hn) fun a ha => .some ha.2.2
theorem pickInt_ok {c : GL01Cur} (h : Cok c) {l : List Int} (hl : 0 < l.length) : Tot (g_spec_l01PickInt c l) fun r => r.1 ∈ l ∧ Cok r.2 :=
  .bind (below_ok h (by omega)) fun a ha => by
    obtain ⟨v, hv, hm, _⟩ := getI_ex (xs := l) ha.1 ha.2.1
    exact .bindE hv (.some ⟨hm, ha.2.2⟩)
theorem pick_ok {c : GL01Cur} (h : Cok c) {l : List Bs} (hl : 0 < l.length) : Tot (g_spec_l01Pick c l) fun r => r.1 ∈ l ∧ Cok r.2 :=
  .bind (below_ok h (by omega)) fun a ha => by
    obtain ⟨v, hv, hm, _⟩ := getI_ex (xs := l) ha.1 ha.2.1
    exact .bindE hv (.some ⟨hm, ha.2.2⟩)
theorem new_ok {code : List Int} (h : code.length ≤ 1048576) : Tot (g_spec_l01New code) Cok := by
  have key : ∀ (k : Nat) (hh i : Int), 0 ≤ i → i ≤ 4000 → 4000 - i < k → Tot (g_spec_l01New_l0 code k hh i) fun _ => True := by
    intro k
    induction k with
    | zero => intro hh i h0 h1 h2; omega
    | succ k ih =>
      intro hh i h0 h1 h2
      unfold g_spec_l01New_l0
      refine .bind (Q := fun b => b = true → i < code.length ∧ i < 4000) (.condD (fun hi => .some fun hb => ⟨hi, of_decide_eq_true hb⟩) fun _ => .some fun hb => nomatch hb) fun b hb => ?_
      refine .cond (fun hc => ?_) fun _ => .some trivial
      obtain ⟨g1, g2⟩ := hb hc
      obtain ⟨v, hv, _⟩ := getI_ex h0 g1
      refine .bindE hv ?_
      rw [wI64 (x := i + 1) (by omega) (by omega)]
      exact ih _ _ (by omega) (by omega) (by omega)
  exact .bind (.bind (key bigK _ 0 (by decide) (by decide) (by decide)) fun a ha => .some (Q := fun _ => True) trivial) fun a ha => .some ⟨Int.le_refl _, h⟩
end Go.Proofs.YthhoellakpnjpaaGreat

namespace Go.Proofs.YthhoellakpnjpaaGreat
open Go Go.Fm
set_option linter.unusedVariables false
set_option linter.unusedSimpArgs false
def U32 (xs : List Int) : Prop := ∀ x ∈ xs, 0 ≤ x ∧ x < 4294967296
theorem U32.app {xs ys : List Int} (h1 : U32 xs) (h2 : U32 ys) : U32 (xs ++ ys) := fun x hx => by
  rcases List.mem_append.1 hx with h | h
  · exact h1 x h
  · exact h2 x h
theorem U32.one {x : Int} (h : 0 ≤ x ∧ x < 4294967296) : U32 [x] := fun y hy => by simp at hy; subst hy; exact h
theorem U32.nil : U32 [] := fun x hx => by simp at hx
theorem U32.set {xs : List Int} {x : Int} {i : Nat} (h1 : U32 xs) (h : 0 ≤ x ∧ x < 4294967296) : U32 (xs.set i x) := fun y hy => by
  rcases List.mem_or_eq_of_mem_set hy with h2 | h2
  · exact h1 y h2
  · subst h2; exact h
theorem specIn_eq {x a b : Int} : g_spec_l01In x a b = some (decide (a ≤ x ∧ x ≤ b)) := by
  unfold g_spec_l01In
  by_cases h : x ≥ a
  · rw [decide_eq_true h]
    simp only [cond_true]
    congr 1
    exact decide_eq_decide.2 ⟨fun h2 => ⟨h, h2⟩, fun h2 => h2.2⟩
  · rw [decide_eq_false h]
    simp only [cond_false]
    congr 1
    exact (decide_eq_false fun h2 => h h2.1).symm
theorem specNum_ok {n : Int} {hex : Bool} {s l : Int} : Tot (g_spec_l04Num n hex s l) fun r => U32 r ∧ r.length ≤ 2 := by
  unfold g_spec_l04Num
  refine .bind (Q := fun _ => True) (.cond (fun _ => .some trivial) fun _ => .some trivial) fun a _ => .bind (Q := fun _ => True) (.condD (fun _ => .some trivial) fun _ => .some trivial) fun b _ => .cond (fun _ => .some ⟨.one (wU32_bd _), by simp⟩) fun _ => .some ⟨?_, by simp⟩
  exact (U32.one (wU32_bd _)).app (.one (wU32_bd _))
theorem specLetterOf_ok {b : Int} : Tot (g_spec_LetterOf b) fun r => -1 ≤ r ∧ r ≤ 47 := by
  unfold g_spec_LetterOf
  refine .bindE (a := _) rfl ?_
  have key : ∀ (k : Nat) (i : Int), 0 ≤ i → i ≤ 48 → 48 - i < k → Tot (g_spec_LetterOf_l0 b [32, 114, 116, 111, 101, 97, 110, 105, 115, 109, 99, 121, 108, 103, 102, 119, 100, 118, 112, 98, 104, 120, 117, 113, 48, 49, 50, 51, 52, 53, 54, 55, 56, 57, 106, 45, 107, 46, 122, 47, 59, 39, 33, 43, 64, 42, 44, 63] k i)
      fun r => match r with | .inl _ => True | .inr x => 0 ≤ x ∧ x ≤ 47 := by
    intro k
    induction k with
    | zero => intro i h0 h1 h2; omega
    | succ k ih =>
      intro i h0 h1 h2
      unfold g_spec_LetterOf_l0
      refine .condD (fun hi => ?_) fun _ => .some trivial
      have hi : i < 48 := by simpa using hi
      obtain ⟨v, hv, _⟩ := idxS_ex (l := [32, 114, 116, 111, 101, 97, 110, 105, 115, 109, 99, 121, 108, 103, 102, 119, 100, 118, 112, 98, 104, 120, 117, 113, 48, 49, 50, 51, 52, 53, 54, 55, 56, 57, 106, 45, 107, 46, 122, 47, 59, 39, 33, 43, 64, 42, 44, 63]) h0 (by simpa using hi)
      refine .bindE hv (.cond (fun _ => .some ⟨h0, by omega⟩) fun _ => ?_)
      rw [wI64 (x := i + 1) (by omega) (by omega)]
      exact ih _ (by omega) (by omega) (by omega)
  refine .bind (Q := fun r => match r with | .inl _ => True | .inr x => 0 ≤ x ∧ x ≤ 47) (.bind (key bigK 0 (by decide) (by decide) (by decide)) fun o ho => ?_) fun o ho => ?_
  · cases o with
    | inl _ => exact .some trivial
    | inr x => exact .some ho
  · cases o with
    | inl _ => exact .some ⟨by decide, by decide⟩
    | inr x => exact .some ⟨by have := ho.1; omega, ho.2⟩
theorem specNameOk_ok {s : Bs} (hs : s.length ≤ 1048576) : Tot (g_spec_NameOk s) fun r => r = true → 1 ≤ s.length ∧ s.length ≤ 24 := by
  unfold g_spec_NameOk
  refine .bindE specIn_eq (.cond (fun _ => .some fun h => nomatch h) fun hc => ?_)
  have hl : 1 ≤ s.length ∧ s.length ≤ 24 := by
    have : (1 : Int) ≤ s.length ∧ (s.length : Int) ≤ 24 := by simpa using hc
    omega
  have key : ∀ (k : Nat) (i : Int), 0 ≤ i → i ≤ s.length → s.length - i < k → Tot (g_spec_NameOk_l0 s k i) fun _ => True := by
    intro k
    induction k with
    | zero => intro i h0 h1 h2; omega
    | succ k ih =>
      intro i h0 h1 h2
      unfold g_spec_NameOk_l0
      refine .condD (fun hi => ?_) fun _ => .some trivial
      obtain ⟨v, hv, _⟩ := idxS_ex h0 hi
      refine .bindE hv (.bind specLetterOf_ok fun x hx => .condD (fun _ => .some trivial) fun _ => ?_)
      rw [wI64 (x := i + 1) (by omega) (by omega)]
      exact ih _ (by omega) (by omega) (by omega)
  refine .bind (Q := fun _ => True) (.bind (key bigK 0 (by decide) (by omega) (by unfold bigK; omega)) fun o ho => ?_) fun o ho => ?_
  · cases o <;> exact .some trivial
  · cases o <;> exact .some fun _ => hl
theorem specWidth_ok {k : Int} : Tot (g_spec_WidthOf k) fun w => 0 ≤ w ∧ w ≤ 7 := by
  unfold g_spec_WidthOf
  exact .bindE specIn_eq (.cond (fun _ => .some (by decide)) fun _ => .bindE specIn_eq (.cond (fun _ => .some (by decide)) fun _ => .bindE specIn_eq (.cond (fun _ => .some (by decide)) fun _ => .some (by decide))))
theorem specBits_ok {k : Int} : Tot (g_spec_BitsOf k) fun w => True := by
  unfold g_spec_BitsOf
  exact .bind specWidth_ok fun _ _ => .cond (fun _ => .some trivial) fun _ => .cond (fun _ => .some trivial) fun _ => .cond (fun _ => .some trivial) fun _ => .some trivial
theorem shl_ok {k : IntKind} {a b : Int} (h : 0 ≤ b) : Tot (shlI k a b) fun _ => True := by unfold shlI; rw [if_pos h]; exact .some trivial
theorem wU64_nn (x : Int) : 0 ≤ IntKind.wrap .u64 x := by simp [IntKind.wrap, IntKind.bits, IntKind.signed]; omega
theorem specOne_ok {s : Bs} (hs : 1 ≤ s.length ∧ s.length ≤ 24) : Tot (g_spec_l03One s) fun r => (0 ≤ r.1 ∧ r.1 < 4294967296) ∧ 1 ≤ r.2 ∧ r.2 ≤ s.length := by
  unfold g_spec_l03One
  have key : ∀ (k : Nat) (f left n : Int), 0 ≤ n → n ≤ s.length → 0 ≤ left → left ≤ 28 → (n = 0 → left = 28) → s.length - n < k → Tot (g_spec_l03One_l0 s k f left n) fun r => 1 ≤ r.2 ∧ r.2 ≤ s.length := by
    intro k
    induction k with
    | zero => intro f left n h0 h1 h2 h3 h4 h5; omega
    | succ k ih =>
      intro f left n h0 h1 h2 h3 h4 h5
      unfold g_spec_l03One_l0
      refine .condD (fun hi => ?_) fun hi => .some ⟨by omega, by omega⟩
      obtain ⟨v, hv, _⟩ := idxS_ex h0 hi
      refine .bindE hv (.bind specLetterOf_ok fun x hx => .bind specWidth_ok fun w hw => .condD (fun hc => .some ⟨?_, by omega⟩) fun hc => .bind specBits_ok fun b _ => .bind (shl_ok (wU64_nn _)) fun d _ => ?_)
      · by_cases hn : n = 0
        · have := h4 hn; omega
        · show 1 ≤ n; omega
      · rw [wI64 (x := n + 1) (by omega) (by omega), wI64 (x := left - w) (by omega) (by omega)]
        exact ih _ _ _ (by omega) (by omega) (by omega) (by omega) (by omega) (by omega)
  exact .bind (key bigK 0 28 0 (by decide) (by omega) (by decide) (by decide) (fun _ => rfl) (by unfold bigK; omega)) fun r hr => .some ⟨wU32_bd _, hr.1, hr.2⟩
theorem specPack_ok {s : Bs} (hs : s.length ≤ 1048576) : Tot (g_spec_Pack s) fun r => U32 r ∧ r.length ≤ 24 := by
  unfold g_spec_Pack
  refine .bind (specNameOk_ok hs) fun a ha => .cond (fun _ => .some ⟨.nil, by simp⟩) fun hc => ?_
  have hl := ha (by simpa using hc)
  have key : ∀ (k : Nat) (x : Bs) (out : List Int), x.length ≤ 24 → U32 out → out.length + x.length ≤ 24 → x.length < k → Tot (g_spec_Pack_l0 k x out) fun r => U32 r ∧ r.length ≤ 24 := by
    intro k
    induction k with
    | zero => intro x out h0 h1 h2 h3; omega
    | succ k ih =>
      intro x out h0 h1 h2 h3
      unfold g_spec_Pack_l0
      refine .cond (fun hx => ?_) fun _ => .some ⟨h1, by omega⟩
      have hx1 : 1 ≤ x.length := by
        have : x ≠ [] := by simpa using hx
        have := List.length_pos_iff.2 this
        omega
      refine .bind (specOne_ok ⟨hx1, h0⟩) fun r hr => .bindE (app_eq (by simp; omega)) (.bindE (subL_drop (by omega) hr.2.2) ?_)
      have hd : (x.drop r.2.toNat).length = x.length - r.2.toNat := List.length_drop
      exact ih _ _ (by omega) (h1.app (.one hr.1)) (by rw [List.length_append, hd, List.length_singleton]; omega) (by omega)
  exact .bind (key bigK s [] hl.2 .nil (by simp; omega) (by unfold bigK; omega)) fun r hr => .some hr
theorem specWord_ok {tag : Int} {s : Bs} (hs : s.length ≤ 1048576) : Tot (g_spec_l04Word tag s) fun r => U32 r ∧ r.length ≤ 24 := by
  unfold g_spec_l04Word
  refine .bind (specPack_ok hs) fun a ha => ?_
  have key : ∀ (k : Nat) (out : List Int) (i : Int), U32 out → out.length ≤ 24 → 0 ≤ i → i ≤ out.length → out.length - i < k → Tot (g_spec_l04Word_l0 tag k out i) fun r => U32 r ∧ r.length ≤ 24 := by
    intro k
    induction k with
    | zero => intro out i h0 h1 h2 h3 h4; omega
    | succ k ih =>
      intro out i h0 h1 h2 h3 h4
      unfold g_spec_l04Word_l0
      refine .condD (fun hi => ?_) fun _ => .some ⟨h0, h1⟩
      obtain ⟨v, hv, _⟩ := getI_ex h2 hi
      refine .bind (Q := fun o => U32 o ∧ o.length = out.length) (.bindE hv (.cond (fun _ => ?_) fun _ => .some ⟨h0.set (wU32_bd _), by simp⟩)) fun o ho => ?_
      · obtain ⟨u, hu, _⟩ := getI_ex (xs := out.set i.toNat (IntKind.wrap .u32 (v * 16))) h2 (by simpa using hi)
        exact .bindE hu (.some ⟨(h0.set (wU32_bd _)).set (wU32_bd _), by simp⟩)
      · rw [wI64 (x := i + 1) (by omega) (by omega)]
        exact ih _ _ ho.1 (by omega) (by omega) (by omega) (by omega)
  exact .bind (.bind (key bigK a 0 ha.1 ha.2 (by decide) (by omega) (by unfold bigK; omega)) fun r hr => .some hr) fun r hr => .some hr
end Go.Proofs.YthhoellakpnjpaaGreat

namespace Go.Proofs.YthhoellakpnjpaaGreat
open Go Go.Fm
set_option linter.unusedVariables false
set_option linter.unusedSimpArgs false
theorem int_ok {c : GL01Cur} (h : Cok c) : Tot (g_spec_l04Int c) fun r => Cok r.2 := by
  unfold g_spec_l04Int
  refine .bind (once_ok h (by decide)) fun a ha => .cond (fun _ => ?_) fun _ => ?_
  · exact .bind (below_ok ha (by decide)) fun b hb => .some hb.2.2
  · exact .bind (pickInt_ok ha (by decide)) fun b hb => .some hb.2
theorem specLetterAt_ok {k : Int} : Tot (g_spec_LetterAt k) fun v => 0 ≤ v ∧ v < 256 := by
  unfold g_spec_LetterAt
  refine .bindE specIn_eq (.cond (fun _ => .some (by decide)) fun hc => ?_)
  have hk : 0 ≤ k ∧ k ≤ 47 := by simpa using hc
  obtain ⟨v, hv, h0, h1, _⟩ := idxS_ex (l := [32, 114, 116, 111, 101, 97, 110, 105, 115, 109, 99, 121, 108, 103, 102, 119, 100, 118, 112, 98, 104, 120, 117, 113, 48, 49, 50, 51, 52, 53, 54, 55, 56, 57, 106, 45, 107, 46, 122, 47, 59, 39, 33, 43, 64, 42, 44, 63]) (i := k) hk.1 (by simp; omega)
  exact .bindE (a := _) rfl (.bindE hv (.some ⟨h0, h1⟩))
theorem name_ok {c : GL01Cur} (h : Cok c) : Tot (g_spec_l02Name c) fun r => r.1.length ≤ 10 ∧ Cok r.2 := by
  unfold g_spec_l02Name
  refine .bind (once_ok h (by decide)) fun a ha => .cond (fun _ => ?_) fun _ => ?_
  · refine .bind (pick_ok ha (by decide)) fun b hb => .some ⟨?_, hb.2⟩
    have := hb.1
    revert this
    generalize b.1 = x
    intro hx
    have : ∀ y ∈ ([[100, 117, 112], [111, 118, 101, 114], [115, 113, 117, 97, 114, 101], [97, 33], [50, 42], [103, 111], [45, 105, 102], [59], [63], [114, 114, 114, 114, 114, 114, 114], [114, 116, 111, 101, 97, 110, 105], [119, 119, 119, 119, 119, 119], [113, 113, 113, 113, 113], [120]] : List Bs), y.length ≤ 10 := by decide
    exact this x hx
  · refine .bind (below_ok ha (by decide)) fun b hb => ?_
    have key : ∀ (k : Nat) (c : GL01Cur) (out : List Int) (i : Int), Cok c → 0 ≤ i → i ≤ 9 → (out.length : Int) ≤ i → 9 - i < k → Tot (g_spec_l02Name_l0 b k c out i) fun r => Cok r.1 ∧ r.2.length ≤ 10 := by
      intro k
      induction k with
      | zero => intro c out i hc h0 h1 h2 h3; omega
      | succ k ih =>
        intro c out i hc h0 h1 h2 h3
        unfold g_spec_l02Name_l0
        rw [wI64 (x := 1 + b.1) (by omega) (by omega)]
        refine .condD (fun hi => ?_) fun _ => .some ⟨hc, by show out.length ≤ 10; omega⟩
        refine .bind (below_ok hc (by decide)) fun d hd => .bind specLetterAt_ok fun e he => .bindE (app_eq (by simp; omega)) ?_
        rw [wI64 (x := i + 1) (by omega) (by omega)]
        exact ih _ _ _ hd.2.2 (by omega) (by omega) (by simp; omega) (by omega)
    refine .bind (Q := fun r => Cok r.1 ∧ r.2.length ≤ 10) (.bind (key bigK _ _ _ hb.2.2 (by decide) (by decide) (by decide) (by decide)) fun d hd => .some hd) fun d hd => .some ⟨?_, hd.1⟩
    show (strOf d.2).length ≤ 10
    unfold strOf
    rw [List.length_map]
    exact hd.2
theorem some_ok {c : GL01Cur} (h : Cok c) : Tot (g_spec_l04Some c) fun r => r.1.Name.length ≤ 10 ∧ Cok r.2 := by
  unfold g_spec_l04Some
  refine .bind (below_ok h (by decide)) fun a ha => .cond (fun _ => ?_) fun _ => .cond (fun _ => ?_) fun _ => .cond (fun _ => ?_) fun _ => ?_
  · exact .bind (int_ok ha.2.2) fun b hb => .bind (once_ok hb (by decide)) fun d hd => .some ⟨by simp, hd⟩
  · exact .bind (int_ok ha.2.2) fun b hb => .bind (once_ok hb (by decide)) fun d hd => .some ⟨by simp, hd⟩
  · refine .bind (pick_ok ha.2.2 (by decide)) fun b hb => .bind (int_ok hb.2) fun d hd => .some ⟨?_, hd⟩
    have : ∀ y ∈ ([[120], [97, 116], [113, 113, 113, 113], [116, 101, 110]] : List Bs), y.length ≤ 10 := by decide
    exact this _ hb.1
  · exact .bind (below_ok ha.2.2 (by decide)) fun b hb => .bind (name_ok hb.2.2) fun d hd => .some hd
end Go.Proofs.YthhoellakpnjpaaGreat

namespace Go.Proofs.YthhoellakpnjpaaGreat
open Go Go.Fm
set_option linter.unusedVariables false
set_option linter.unusedSimpArgs false
theorem specTag_ok {k : Int} : Tot (g_spec_l04Tag k) fun _ => True := by
  unfold g_spec_l04Tag
  exact .cond (fun _ => .some trivial) fun _ => .cond (fun _ => .some trivial) fun _ => .cond (fun _ => .some trivial) fun _ => .cond (fun _ => .some trivial) fun _ => .cond (fun _ => .some trivial) fun _ => .cond (fun _ => .some trivial) fun _ => .some trivial
def EC (o : Unit ⊕ List Int) : Prop := match o with | .inl _ => True | .inr r => U32 r ∧ r.length ≤ 25
theorem specCells_ok {it : GItem} (hs : it.Name.length ≤ 1048576) (hr : 0 ≤ it.Raw ∧ it.Raw < 4294967296) : Tot (g_spec_CellsOf it) fun r => U32 r ∧ r.length ≤ 25 := by
  unfold g_spec_CellsOf
  have t3 : ∀ {a b c : Bool} {d : Bool}, Tot (_root_.cond a (_root_.cond b (some c) (some false)) (some d)) fun _ => True := fun {a b c d} => by cases a <;> cases b <;> exact .some trivial
  have t2 : ∀ {a c d : Bool}, Tot (_root_.cond a (some c) (some d)) fun _ => True := fun {a c d} => by cases a <;> exact .some trivial
  refine .bind t3 fun p _ => .bind (Q := EC) ?_ fun o ho => ?_
  · refine .cond (fun _ => .bind t3 fun a _ => .cond (fun _ => .some ⟨.one hr, by simp⟩) fun _ => .some trivial) fun _ => .cond (fun _ => .bind t2 fun a _ => .cond (fun _ => .bind specNum_ok fun r h => .some ⟨h.1, by omega⟩) fun _ => .some trivial) fun _ =>
      .cond (fun _ => .bind t2 fun a _ => .cond (fun _ => .bind specNum_ok fun r h => .some ⟨h.1, by omega⟩) fun _ => .some trivial) fun _ =>
      .cond (fun _ => .bind (specWord_ok hs) fun r h => .bind t3 fun a _ => .cond (fun _ => .bindE (app_eq (by simp; omega)) (.some ⟨h.1.app (.one (wU32_bd _)), by simp; omega⟩)) fun _ => .some trivial) fun _ =>
      .bind specTag_ok fun t _ => .bind t2 fun a _ => .cond (fun _ => .bind (specWord_ok hs) fun r h => .some ⟨h.1, by omega⟩) fun _ => .some trivial
  · cases o with
    | inl _ => exact .some ⟨.nil, by simp⟩
    | inr r => exact .some ho
end Go.Proofs.YthhoellakpnjpaaGreat

namespace Go.Proofs.YthhoellakpnjpaaGreat
open Go Go.Fm
set_option linter.unusedVariables false
set_option linter.unusedSimpArgs false
theorem some_ok2 {c : GL01Cur} (h : Cok c) : Tot (g_spec_l04Some c) fun r => r.1.Name.length ≤ 10 ∧ r.1.Raw = 0 ∧ Cok r.2 := by
  have h1 := some_ok h
  obtain ⟨r, e, g1, g2⟩ := h1
  refine ⟨r, e, g1, ?_, g2⟩
  unfold g_spec_l04Some at e
  simp only [Option.bind_eq_some_iff] at e
  obtain ⟨a, _, e⟩ := e
  cases h1 : a.1 == 0 <;> rw [h1] at e <;> simp only [cond_true, cond_false] at e
  · cases h2 : a.1 == 1 <;> rw [h2] at e <;> simp only [cond_true, cond_false] at e
    · cases h3 : a.1 == 2 <;> rw [h3] at e <;> simp only [cond_true, cond_false, Option.bind_eq_some_iff] at e
      · obtain ⟨b, _, d, _, e⟩ := e; cases e; rfl
      · obtain ⟨b, _, d, _, e⟩ := e; cases e; rfl
    · simp only [Option.bind_eq_some_iff] at e
      obtain ⟨b, _, d, _, e⟩ := e; cases e; rfl
  · simp only [Option.bind_eq_some_iff] at e
    obtain ⟨b, _, d, _, e⟩ := e; cases e; rfl
theorem word_ok {c : GL01Cur} (h : Cok c) : Tot (g_spec_l01Word c) fun r => (0 ≤ r.1 ∧ r.1 < 4294967296) ∧ Cok r.2 := by
  unfold g_spec_l01Word
  refine .bind (below_ok h (by decide)) fun a ha => .cond (fun _ => ?_) fun _ => .cond (fun _ => ?_) fun _ => ?_
  · exact .bind (pickInt_ok ha.2.2 (by decide)) fun b hb => .some ⟨wU32_bd _, hb.2⟩
  · exact .bind (below_ok ha.2.2 (by decide)) fun b hb => .some ⟨wU32_bd _, hb.2.2⟩
  · exact .bind (below_ok ha.2.2 (by decide)) fun b hb => .bind (below_ok hb.2.2 (by decide)) fun d hd => .some ⟨wU32_bd _, hd.2.2⟩
theorem cells_ok {c : GL01Cur} (h : Cok c) : Tot (g_spec_l04Cells c) fun r => U32 r.1 ∧ r.1.length ≤ 364 ∧ Cok r.2 := by
  unfold g_spec_l04Cells
  refine .bind (below_ok h (by decide)) fun y hy => ?_
  have key : ∀ (k : Nat) (c : GL01Cur) (out : List Int) (i : Int), Cok c → U32 out → 0 ≤ i → i ≤ 14 → (out.length : Int) ≤ 26 * i → 14 - i < k → Tot (g_spec_l04Cells_l0 y k c out i) fun r => Cok r.1 ∧ U32 r.2 ∧ r.2.length ≤ 364 := by
    intro k
    induction k with
    | zero => intro c out i h0 h1 h2 h3 h4 h5; omega
    | succ k ih =>
      intro c out i h0 h1 h2 h3 h4 h5
      unfold g_spec_l04Cells_l0
      refine .condD (fun hi => ?_) fun _ => .some ⟨h0, h1, by show out.length ≤ 364; omega⟩
      refine .bind (Q := fun r => Cok r.1 ∧ U32 r.2 ∧ (r.2.length : Int) ≤ out.length + 26) (.bind (some_ok2 h0) fun s hs => .bind (specCells_ok (by omega) (by rw [hs.2.1]; decide)) fun e he => .bindE (app_eq (by omega)) (.bind (below_ok hs.2.2 (by decide)) fun b hb => ?_)) fun r hr => ?_
      · refine .cond (fun _ => .bind (word_ok hb.2.2) fun w hw => .bindE (app_eq (by simp; omega)) (.some ⟨hw.2, (h1.app he.1).app (.one hw.1), ?_⟩)) fun _ => .cond (fun _ => .bindE (app_eq (by simp; omega)) (.some ⟨hb.2.2, (h1.app he.1).app (.one (by decide)), ?_⟩)) fun _ =>
          .cond (fun _ => .bind (below_ok hb.2.2 (by decide)) fun w hw => .bindE (app_eq (by simp; omega)) (.some ⟨hw.2.2, (h1.app he.1).app (.one (wU32_bd _)), ?_⟩)) fun _ =>
          .cond (fun _ => .bind (pickInt_ok hb.2.2 (by decide)) fun w hw => .bindE (app_eq (by simp; omega)) (.some ⟨hw.2, (h1.app he.1).app (.one (wU32_bd _)), ?_⟩)) fun _ => .some ⟨hb.2.2, h1.app he.1, ?_⟩ <;> (simp; omega)
      · rw [wI64 (x := i + 1) (by omega) (by omega)]
        exact ih _ _ _ hr.1 hr.2.1 (by omega) (by omega) (by omega) (by omega)
  refine .bind (Q := fun r => Cok r.1 ∧ U32 r.2 ∧ r.2.length ≤ 364) (.bind (key bigK _ _ 0 hy.2.2 .nil (by decide) (by decide) (by decide) (by decide)) fun d hd => .some hd) fun d hd => ?_
  refine .bind (Q := fun r => Cok r.1 ∧ (r.2 = true → 64 < d.2.length)) (.condD (fun hl => .bind (once_ok hd.1 (by decide)) fun b hb => .some ⟨hb, fun _ => by omega⟩) fun _ => .some ⟨hd.1, fun h => nomatch h⟩) fun e he => .cond (fun hc => ?_) fun _ => .some ⟨hd.2.1, hd.2.2, he.1⟩
  have := he.2 hc
  refine .bindE (subL_take (by decide) (by omega)) (.some ⟨fun x hx => hd.2.1 x (List.mem_of_mem_take hx), ?_, he.1⟩)
  show (List.take _ _).length ≤ 364
  rw [List.length_take]; omega
end Go.Proofs.YthhoellakpnjpaaGreat

namespace Go.Proofs.YthhoellakpnjpaaGreat
open Go Go.Fm
set_option linter.unusedVariables false
set_option linter.unusedSimpArgs false
theorem andU {a b : Int} (a0 : 0 ≤ a) (a1 : a < 4294967296) (b0 : 0 ≤ b) (b1 : b < 4294967296) : andI .u32 a b = ((a.toNat &&& b.toNat : Nat) : Int) := by
  unfold andI
  rw [BitVec.toNat_and, bB_toNat (k := .u32) a0 a1, bB_toNat (k := .u32) b0 b1]
  have : a.toNat &&& b.toNat ≤ b.toNat := Nat.and_le_right
  exact wU32 (Int.natCast_nonneg _) (by omega)
theorem orU {a b : Int} (a0 : 0 ≤ a) (a1 : a < 4294967296) (b0 : 0 ≤ b) (b1 : b < 4294967296) : orI .u32 a b = ((a.toNat ||| b.toNat : Nat) : Int) := by
  unfold orI
  rw [BitVec.toNat_or, bB_toNat (k := .u32) a0 a1, bB_toNat (k := .u32) b0 b1]
  have : a.toNat ||| b.toNat < 2 ^ 32 := Nat.or_lt_two_pow (by omega) (by omega)
  exact wU32 (Int.natCast_nonneg _) (by omega)
theorem and15 {v : Int} (h0 : 0 ≤ v) (h1 : v < 4294967296) : andI .u32 v 15 = v % 16 := by
  rw [andU h0 h1 (by decide) (by decide)]
  have : v.toNat &&& 15 = v.toNat % 16 := Nat.and_two_pow_sub_one_eq_mod v.toNat 4
  show ((v.toNat &&& 15 : Nat) : Int) = _
  rw [this]; omega
theorem and16 {v : Int} (h0 : 0 ≤ v) (h1 : v < 4294967296) : (andI .u32 v 16 != 0) = decide (v / 16 % 2 = 1) := by
  rw [andU h0 h1 (by decide) (by decide)]
  show ((((v.toNat &&& 16 : Nat) : Int)) != 0) = _
  have h2 : v.toNat &&& 16 = 16 * (v.toNat / 16 % 2) := by
    have e1 : v.toNat &&& 16 = (v.toNat &&& 31) &&& 16 := by rw [Nat.and_assoc]; rfl
    have e2 : v.toNat &&& 31 = v.toNat % 32 := Nat.and_two_pow_sub_one_eq_mod v.toNat 5
    have e3 : ∀ r, r < 32 → r &&& 16 = 16 * (r / 16) := by decide
    rw [e1, e2, e3 _ (Nat.mod_lt _ (by decide))]
    omega
  rw [h2]
  by_cases h : v / 16 % 2 = 1
  · rw [decide_eq_true h]
    have : v.toNat / 16 % 2 = 1 := by omega
    rw [this]; rfl
  · rw [decide_eq_false h]
    have : v.toNat / 16 % 2 = 0 := by omega
    rw [this]; rfl
/-- Low bits laid beside high ones. -/
theorem or_low {q r : Nat} (i : Nat) (hr : r < 2 ^ i) : (2 ^ i * q) ||| r = 2 ^ i * q + r := (Nat.two_pow_add_eq_or_of_lt hr q).symm
theorem or16 {v t : Int} (h0 : 0 ≤ v) (h1 : v < 268435456) (t0 : 0 ≤ t) (t1 : t < 16) : orI .u32 (IntKind.wrap .u32 (v * 16)) t = v * 16 + t := by
  rw [wU32 (by omega) (by omega), orU (by omega) (by omega) t0 (by omega)]
  have e : (v * 16).toNat = 2 ^ 4 * v.toNat := by omega
  rw [e, or_low 4 (by omega)]
  omega
theorem within_eq {x a b : Int} : g_impl_within x a b = some (decide (a ≤ x ∧ x ≤ b)) := by
  unfold g_impl_within
  by_cases h : a ≤ x
  · rw [decide_eq_true h]
    simp only [cond_true]
    congr 1
    exact decide_eq_decide.2 ⟨fun h2 => ⟨h, h2⟩, fun h2 => h2.2⟩
  · rw [decide_eq_false h]
    simp only [cond_false]
    congr 1
    exact (decide_eq_false fun h2 => h h2.1).symm
theorem width_ok {k : Int} : Tot (g_impl_WidthOf k) fun w => 0 ≤ w ∧ w ≤ 7 ∧ (0 ≤ k → k ≤ 47 → 4 ≤ w) := by
  unfold g_impl_WidthOf
  refine .bindE within_eq (.condD (fun _ => .some (by omega)) fun h1 => .bindE within_eq (.condD (fun _ => .some (by omega)) fun h2 => .bindE within_eq (.condD (fun _ => .some (by omega)) fun h3 => .some (by omega))))
theorem bits_ok {k : Int} : Tot (g_impl_BitsOf k) fun w => True := by
  unfold g_impl_BitsOf
  exact .bind width_ok fun _ _ => .cond (fun _ => .some trivial) fun _ => .cond (fun _ => .some trivial) fun _ => .cond (fun _ => .some trivial) fun _ => .some trivial
theorem shr_ok {k : IntKind} {a b : Int} (h : 0 ≤ b) : Tot (shrI k a b) fun _ => True := by unfold shrI; rw [if_pos h]; exact .some trivial
def DC (n : Int) (o : Unit ⊕ (Int × Int)) : Prop := match o with | .inl _ => True | .inr r => r.1 ≤ 47 ∧ 4 ≤ r.2 ∧ r.2 ≤ n
theorem decode_ok {f n : Int} : Tot (g_impl_Decode f n) fun r => r.1 ≤ 47 ∧ (1 ≤ r.1 → 4 ≤ r.2 ∧ r.2 ≤ n) := by
  unfold g_impl_Decode
  refine .bindE within_eq (.cond (fun _ => .some ⟨by decide, fun h => absurd h (by decide)⟩) fun hc => ?_)
  have hn : 1 ≤ n ∧ n ≤ 32 := by simpa using hc
  have key : ∀ (k : Nat) (i : Int), 0 ≤ i → i ≤ 48 → 48 - i < k → Tot (g_impl_Decode_l0 f n k i) (DC n) := by
    intro k
    induction k with
    | zero => intro i h0 h1 h2; omega
    | succ k ih =>
      intro i h0 h1 h2
      unfold g_impl_Decode_l0
      refine .condD (fun hi => .bind width_ok fun w hw => .bind (Q := fun b => b = true → w ≤ n) (.condD (fun hc => ?_) fun _ => .some fun h => nomatch h) fun b hb => .cond (fun hb2 => .some ⟨by show i ≤ 47; omega, hw.2.2 h0 (by omega), hb hb2⟩) fun _ => ?_) fun _ => .some trivial
      · rw [wI64 (x := n - w) (by omega) (by omega)]
        exact .bind (shr_ok (by omega)) fun _ _ => .bind (shl_ok (by omega)) fun _ _ => .bind bits_ok fun _ _ => .some fun _ => hc
      · rw [wI64 (x := i + 1) (by omega) (by omega)]
        exact ih _ (by omega) (by omega) (by omega)
  refine .bind (Q := DC n) (.bind (key bigK 0 (by decide) (by decide) (by decide)) fun o ho => ?_) fun o ho => ?_
  · cases o <;> exact .some ho
  · cases o with
    | inl _ => exact .some ⟨by decide, fun h => absurd h (by decide)⟩
    | inr r => exact .some ⟨ho.1, fun _ => ho.2⟩
def Letters : Bs := [32, 114, 116, 111, 101, 97, 110, 105, 115, 109, 99, 121, 108, 103, 102, 119, 100, 118, 112, 98, 104, 120, 117, 113, 48, 49, 50, 51, 52, 53, 54, 55, 56, 57, 106, 45, 107, 46, 122, 47, 59, 39, 33, 43, 64, 42, 44, 63]
theorem letters_len : Letters.length = 48 := rfl
theorem letterAt_ok {k : Int} : Tot (g_impl_LetterAt k) fun v => 0 ≤ v ∧ v < 256 := by
  unfold g_impl_LetterAt
  refine .bindE within_eq (.cond (fun _ => .some (by decide)) fun hc => ?_)
  have hk : 0 ≤ k ∧ k ≤ 47 := by simpa using hc
  obtain ⟨v, hv, h0, h1, _⟩ := idxS_ex (l := Letters) (i := k) hk.1 (by rw [letters_len]; omega)
  exact .bindE (a := Letters) rfl (.bindE hv (.some ⟨h0, h1⟩))
theorem unpackOne_ok {f : Int} : Tot (g_impl_UnpackOne f) fun r => r.length ≤ 7 := by
  unfold g_impl_UnpackOne
  refine .condD (fun _ => .some (by simp)) fun _ => ?_
  have key : ∀ (k : Nat) (out : List Int) (left : Int), 0 ≤ left → left ≤ 28 → (out.length : Int) * 4 ≤ 28 - left → left < k → Tot (g_impl_UnpackOne_l0 f k out left) fun r => r.length ≤ 7 := by
    intro k
    induction k with
    | zero => intro out left h0 h1 h2 h3; omega
    | succ k ih =>
      intro out left h0 h1 h2 h3
      unfold g_impl_UnpackOne_l0
      refine .bind (shl_ok h0) fun s _ => .cond (fun _ => .bind decode_ok fun d hd => .condD (fun _ => .some (by omega)) fun h1 => .bind letterAt_ok fun v _ => .bindE (app_eq (by simp; omega)) ?_) fun _ => .some (by omega)
      have := hd.2 (by omega)
      rw [wI64 (x := left - d.2) (by omega) (by omega)]
      exact ih _ _ (by omega) (by omega) (by simp; omega) (by omega)
  refine .bind (key bigK [] 28 (by decide) (by decide) (by decide) (by decide)) fun r hr => .some ?_
  show (strOf r).length ≤ 7
  unfold strOf; rw [List.length_map]; exact hr
theorem idxB_bd {l : List UInt8} {c : Int} : -1 ≤ idxB l c ∧ idxB l c < l.length := by
  unfold idxB
  cases h : l.findIdx? (fun b => (b.toNat : Int) == c) with
  | none => exact ⟨by decide, by show (-1 : Int) < _; omega⟩
  | some i =>
    have := (List.findIdx?_eq_some_iff_getElem.1 h).1
    exact ⟨by show (-1 : Int) ≤ (i : Int); omega, by show (i : Int) < _; omega⟩
theorem letterOf_ok {b : Int} (h0 : 0 ≤ b) (h1 : b < 256) : Tot (g_impl_LetterOf b) fun r => -1 ≤ r ∧ r ≤ 47 := by
  unfold g_impl_LetterOf g_strings_IndexByte g_istringslite_IndexByte g_ibytealg_IndexByteString gIdxB
  refine .bindE (a := Letters) rfl (.bind (Q := fun r => -1 ≤ r ∧ r ≤ 47) (.bind (Q := fun r => -1 ≤ r ∧ r ≤ 47) ?_ fun r h => .some h) fun r h => .some h)
  refine .bind (Q := fun r => -1 ≤ r ∧ r ≤ 47) ?_ fun r h => .some h
  rw [if_pos ⟨h0, h1⟩]
  refine .some ⟨idxB_bd.1, ?_⟩
  have := (idxB_bd (l := Letters) (c := b)).2
  rw [letters_len] at this
  omega
theorem nameOk_ok {s : Bs} (hs : s.length ≤ 1048576) : Tot (g_impl_NameOk s) fun r => r = true → 1 ≤ s.length ∧ s.length ≤ 24 := by
  unfold g_impl_NameOk
  have key : ∀ (k : Nat) (i : Int), 0 ≤ i → i ≤ s.length → s.length - i < k → Tot (g_impl_NameOk_l0 s k i) fun _ => True := by
    intro k
    induction k with
    | zero => intro i h0 h1 h2; omega
    | succ k ih =>
      intro i h0 h1 h2
      unfold g_impl_NameOk_l0
      refine .condD (fun hi => ?_) fun _ => .some trivial
      obtain ⟨v, hv, v0, v1, _⟩ := idxS_ex h0 hi
      refine .bindE hv (.bind (letterOf_ok v0 v1) fun x hx => .condD (fun _ => .some trivial) fun _ => ?_)
      rw [wI64 (x := i + 1) (by omega) (by omega)]
      exact ih _ (by omega) (by omega) (by omega)
  refine .bind (Q := fun _ => True) (.bind (key bigK 0 (by decide) (by omega) (by unfold bigK; omega)) fun o ho => ?_) fun o ho => ?_
  · cases o <;> exact .some trivial
  · cases o with
    | inl _ => exact .bindE within_eq (.some fun h => by have := of_decide_eq_true h; omega)
    | inr _ => exact .some fun h => nomatch h
theorem packOne_ok {s : Bs} (hs : s.length ≤ 1048576) : Tot (g_impl_PackOne s) fun r => (0 ≤ r.1 ∧ r.1 < 4294967296) ∧ 0 ≤ r.2 ∧ r.2 ≤ s.length ∧ (g_impl_NameOk s = some true → 1 ≤ r.2) := by
  unfold g_impl_PackOne
  obtain ⟨b, hb, hl⟩ := nameOk_ok hs
  rw [hb]
  refine .bindE rfl (.cond (fun hc => .some ⟨by decide, by decide, by show (0 : Int) ≤ _; omega, fun h => by cases h; cases hc⟩) fun hc => ?_)
  have hb1 : b = true := by simpa using hc
  have hs1 := hl hb1
  have key : ∀ (k : Nat) (f left many n : Int), 0 ≤ n → n ≤ s.length → 0 ≤ left → left ≤ 28 → (n = 0 → left = 28) → many = n → (0 ≤ f ∧ f < 4294967296) → s.length - n < k →
      Tot (g_impl_PackOne_l0 s k f left many n) fun r => (0 ≤ r.1 ∧ r.1 < 4294967296) ∧ 1 ≤ r.2 ∧ r.2 ≤ s.length := by
    intro k
    induction k with
    | zero => intro f left many n h0 h1 h2 h3 h4 h5 h6 h7; omega
    | succ k ih =>
      intro f left many n h0 h1 h2 h3 h4 h5 h6 h7
      unfold g_impl_PackOne_l0
      refine .condD (fun hi => ?_) fun hi => .some ⟨h6, by show 1 ≤ many; omega, by show many ≤ _; omega⟩
      obtain ⟨v, hv, v0, v1, _⟩ := idxS_ex h0 hi
      refine .bindE hv (.bind (letterOf_ok v0 v1) fun x hx => ?_)
      obtain ⟨w, hw, hw0, hw1, _⟩ := width_ok (k := x)
      refine .bindE hw (.condD (fun hc => .some ⟨h6, ?_, by show many ≤ _; omega⟩) fun hc => .bindE hw (.bind bits_ok fun b _ => ?_))
      · show 1 ≤ many
        by_cases hn : n = 0
        · have := h4 hn; omega
        · omega
      · rw [wI64 (x := n + 1) (by omega) (by omega), wI64 (x := left - w) (by omega) (by omega), wI64 (x := many + 1) (by omega) (by omega)]
        refine .bind (shl_ok (by omega)) fun d _ => ih _ _ _ _ (by omega) (by omega) (by omega) (by omega) (by omega) (by omega) (wU32_bd _) (by omega)
  refine .bind (Q := fun r : Int × Int => (0 ≤ r.1 ∧ r.1 < 4294967296) ∧ 1 ≤ r.2 ∧ r.2 ≤ s.length) (.bind (key bigK 0 28 0 0 (by decide) (by omega) (by decide) (by decide) (fun _ => rfl) rfl (by decide) (by unfold bigK; omega)) fun r hr => .some hr) fun r hr => .some ⟨hr.1, by have := hr.2.1; show 0 ≤ r.2; omega, hr.2.2, fun _ => hr.2.1⟩
theorem pack_ok {s : Bs} (hs : s.length ≤ 1048576) : Tot (g_impl_Pack s) fun r => U32 r ∧ r.length ≤ 24 := by
  unfold g_impl_Pack
  have key : ∀ (k : Nat) (x : Bs) (out : List Int), x.length ≤ 1048576 → U32 out → (out = [] ∨ out.length + x.length ≤ 24) → x.length < k → Tot (g_impl_Pack_l0 k x out) fun r => U32 r ∧ r.length ≤ 24 := by
    intro k
    induction k with
    | zero => intro x out h0 h1 h2 h3; omega
    | succ k ih =>
      intro x out h0 h1 h2 h3
      unfold g_impl_Pack_l0
      obtain ⟨b, hb, hl⟩ := nameOk_ok h0
      have ho : out.length ≤ 24 := by
        rcases h2 with rfl | h2
        · simp
        · omega
      refine .bindE hb (.cond (fun hc => ?_) fun _ => .some ⟨h1, ho⟩)
      subst hc
      have hx := hl rfl
      have h2' : out.length + x.length ≤ 24 := by
        rcases h2 with rfl | h2
        · simpa using hx.2
        · exact h2
      refine .bind (packOne_ok h0) fun r hr => .bindE (app_eq (by simp; omega)) (.bindE (subL_drop hr.2.1 hr.2.2.1) ?_)
      have h4 := hr.2.2.2 hb
      have hd : (x.drop r.2.toNat).length = x.length - r.2.toNat := List.length_drop
      exact ih _ _ (by omega) (h1.app (.one hr.1)) (.inr (by rw [List.length_append, hd, List.length_singleton]; omega)) (by omega)
  exact .bind (key bigK s [] hs .nil (.inl rfl) (by unfold bigK; omega)) fun r hr => .some hr
end Go.Proofs.YthhoellakpnjpaaGreat

namespace Go.Proofs.YthhoellakpnjpaaGreat
open Go Go.Fm
set_option linter.unusedVariables false
set_option linter.unusedSimpArgs false
theorem eqU_l0 {a b : List Int} (hl : a.length = b.length) (hm : a.length ≤ 1048576) : ∀ (k n : Nat), n ≤ a.length → a.length - n < k →
    g_slices_Equal_uint32_l0 a b k n = some (if a.drop n = b.drop n then .inl () else .inr ()) := by
  intro k
  induction k with
  | zero => intro n h0 h1; omega
  | succ k ih =>
    intro n h0 h1
    unfold g_slices_Equal_uint32_l0
    by_cases hn : n < a.length
    · have hn' : n < b.length := by omega
      rw [decide_eq_true (by omega), getI_nat, getI_nat, List.getElem?_eq_getElem hn, List.getElem?_eq_getElem hn', List.drop_eq_getElem_cons hn, List.drop_eq_getElem_cons hn']
      simp only [cond_true, Option.bind_some]
      by_cases he : a[n] = b[n]
      · have : (a[n] != b[n]) = false := by rw [he]; simp
        rw [this, cond_false, wI64 (by omega) (by omega), show ((n : Int) + 1) = ((n + 1 : Nat) : Int) by omega, ih (n + 1) (by omega) (by omega), he]
        simp only [List.cons.injEq, true_and]
      · have : (a[n] != b[n]) = true := by simpa using he
        rw [this, cond_true, if_neg (fun h => he (List.cons.inj h).1)]
    · rw [decide_eq_false (by omega), cond_false, List.drop_eq_nil_of_le (by omega), List.drop_eq_nil_of_le (by omega), if_pos rfl]
theorem eqU {a b : List Int} (hm : a.length ≤ 1048576) : g_slices_Equal_uint32 a b = some (decide (a = b)) := by
  unfold g_slices_Equal_uint32
  by_cases hl : a.length = b.length
  · have : ((a.length : Int) != (b.length : Int)) = false := by rw [hl]; simp
    rw [this, cond_false]
    have h := eqU_l0 hl hm bigK 0 (Nat.zero_le _) (by unfold bigK; omega)
    rw [show ((0 : Nat) : Int) = 0 from rfl] at h
    rw [h]
    by_cases he : a = b
    · simp [he]
    · simp [he]
  · have : ((a.length : Int) != (b.length : Int)) = true := by simp; omega
    rw [this, cond_true, decide_eq_false (fun h => hl (by rw [h]))]
theorem unpack_ok {l : List Int} : Tot (g_impl_Unpack l) fun r => r.1.length ≤ 168 ∧ (r.2 = true → g_impl_Pack r.1 = some l) := by
  unfold g_impl_Unpack
  refine .condD (fun _ => .some ⟨by simp, fun h => nomatch h⟩) fun hl => ?_
  have hl : l.length ≤ 24 := by omega
  have key : ∀ (k : Nat) (name : Bs) (i : Int), 0 ≤ i → i ≤ l.length → (name.length : Int) ≤ 7 * i → l.length - i < k → Tot (g_impl_Unpack_l0 l k name i) fun r => r.length ≤ 168 := by
    intro k
    induction k with
    | zero => intro name i h0 h1 h2 h3; omega
    | succ k ih =>
      intro name i h0 h1 h2 h3
      unfold g_impl_Unpack_l0
      refine .condD (fun hi => ?_) fun _ => .some (by omega)
      obtain ⟨v, hv, _⟩ := getI_ex h0 hi
      refine .bindE hv (.bind unpackOne_ok fun s hs => .bindE (catS_eq (by omega)) ?_)
      rw [wI64 (x := i + 1) (by omega) (by omega)]
      exact ih _ _ (by omega) (by omega) (by rw [List.length_append]; omega) (by omega)
  refine .bind (.bind (key bigK [] 0 (by decide) (by omega) (by decide) (by unfold bigK; omega)) fun r hr => .some hr) fun name hn => ?_
  refine .bind (Q := fun b => b = false → g_impl_Pack name = some l) (.bind (nameOk_ok (by omega)) fun b _ => .cond (fun _ => .some fun h => nomatch h) fun _ => ?_) fun b hb => .cond (fun _ => .some ⟨by simp, fun h => nomatch h⟩) fun h => .some ⟨hn, fun _ => hb h⟩
  obtain ⟨p, hp, _, hpl⟩ := pack_ok (s := name) (by omega)
  refine .bindE hp (.bindE (eqU (by omega)) (.some fun h => ?_))
  have : p = l := by simpa using h
  rw [hp, this]
/-- The tags of names, and their kinds. -/
theorem nameKind_eq {t : Int} (h : t = 1 ∨ t = 3 ∨ t = 4 ∨ t = 9 ∨ t = 10 ∨ t = 11) : ∃ k, g_impl_nameKind t = some k ∧ g_impl_nameTag k = some t ∧ k ≠ 0 := by
  rcases h with rfl | rfl | rfl | rfl | rfl | rfl
  · exact ⟨1, by kernel_rfl, by kernel_rfl, by decide⟩
  · exact ⟨2, by kernel_rfl, by kernel_rfl, by decide⟩
  · exact ⟨3, by kernel_rfl, by kernel_rfl, by decide⟩
  · exact ⟨4, by kernel_rfl, by kernel_rfl, by decide⟩
  · exact ⟨5, by kernel_rfl, by kernel_rfl, by decide⟩
  · exact ⟨6, by kernel_rfl, by kernel_rfl, by decide⟩
theorem cells_raw {v : Int} : g_impl_CellsOf ⟨0, [], 0, false, v⟩ = some [v] := by
  unfold g_impl_CellsOf
  have h0 : g_impl_nameTag 0 = some 0 := by kernel_rfl
  simp [h0]
/-- A name's cells. -/
def nameCells (t : Int) : List Int → List Int
  | [] => []
  | f :: r => (orI .u32 (IntKind.wrap .u32 (f * 16)) t) :: r.map fun f => orI .u32 (IntKind.wrap .u32 (f * 16)) 0
theorem cells_l0 {fs : List Int} (hl : fs.length ≤ 24) : ∀ (k n : Nat) (t : Int) (out : List Int), n ≤ fs.length → fs.length - n < k → out.length = n → (1 ≤ n → t = 0) →
    g_impl_CellsOf_l0 fs k t out n = some (out ++ nameCells t (fs.drop n)) := by
  intro k
  induction k with
  | zero => intro n t out h0 h1 h2 h3; omega
  | succ k ih =>
    intro n t out h0 h1 h2 h3
    unfold g_impl_CellsOf_l0
    by_cases hn : n < fs.length
    · rw [decide_eq_true (by omega), getI_nat, List.getElem?_eq_getElem hn, List.drop_eq_getElem_cons hn]
      simp only [cond_true, Option.bind_some]
      rw [app_eq (by simp; omega), Option.bind_some, wI64 (by omega) (by omega), show ((n : Int) + 1) = ((n + 1 : Nat) : Int) by omega, ih (n + 1) 0 _ (by omega) (by omega) (by simp [h2]) (fun _ => rfl)]
      congr 1
      rw [List.append_assoc]
      congr 1
      simp only [nameCells, List.singleton_append]
      congr 1
      cases fs.drop (n + 1) with
      | nil => rfl
      | cons x r => rfl
    · rw [decide_eq_false (by omega), cond_false, List.drop_eq_nil_of_le (by omega)]
      simp [nameCells]
theorem cells_name {kd t : Int} {name : Bs} {fs : List Int} (ht : g_impl_nameTag kd = some t) (h0 : 0 < t) (hp : g_impl_Pack name = some fs) (hl : fs.length ≤ 24) :
    g_impl_CellsOf ⟨kd, name, 0, false, 0⟩ = some (nameCells t fs) := by
  unfold g_impl_CellsOf
  have := cells_l0 hl bigK 0 t [] (Nat.zero_le _) (by unfold bigK; omega) rfl (fun h => by omega)
  simp only [Int.natCast_zero, List.drop_zero, List.nil_append] at this
  simp [ht, hp, h0, this]
theorem cells_7 {n : Int} {hex : Bool} : g_impl_CellsOf ⟨7, [], n, hex, 0⟩ = g_impl_numberCells n hex 8 2 := by
  unfold g_impl_CellsOf
  have h0 : g_impl_nameTag 7 = some 0 := by kernel_rfl
  simp [h0]
  cases g_impl_numberCells n hex 8 2 <;> rfl
theorem cells_8 {n : Int} {hex : Bool} : g_impl_CellsOf ⟨8, [], n, hex, 0⟩ = g_impl_numberCells n hex 6 5 := by
  unfold g_impl_CellsOf
  have h0 : g_impl_nameTag 8 = some 0 := by kernel_rfl
  simp [h0]
  cases g_impl_numberCells n hex 6 5 <;> rfl
theorem cells_9 {n f : Int} {name : Bs} (hp : g_impl_Pack name = some [f]) : g_impl_CellsOf ⟨9, name, n, false, 0⟩ = some [orI .u32 (IntKind.wrap .u32 (f * 16)) 12, IntKind.wrap .u32 n] := by
  unfold g_impl_CellsOf
  have h0 : g_impl_nameTag 9 = some 0 := by kernel_rfl
  have h1 : getI [f] 0 = some f := rfl
  simp [h0, hp, h1]
theorem num_ok {n : Int} {hex : Bool} {s l : Int} : Tot (g_impl_numberCells n hex s l) fun r => U32 r ∧ r.length ≤ 2 := by
  unfold g_impl_numberCells
  refine .bind (Q := fun _ => True) (.cond (fun _ => .some trivial) fun _ => .some trivial) fun a _ => .bind (Q := fun _ => True) (.condD (fun _ => .some trivial) fun _ => .some trivial) fun b _ => .cond (fun _ => .some ⟨.one (wU32_bd _), by simp⟩) fun _ => .some ⟨?_, by simp⟩
  exact (U32.one (wU32_bd _)).app (.one (wU32_bd _))
end Go.Proofs.YthhoellakpnjpaaGreat

namespace Go.Proofs.YthhoellakpnjpaaGreat
open Go Go.Fm
set_option linter.unusedVariables false
set_option linter.unusedSimpArgs false
def runP (c : Int) : Bool := c != 0 && c % 16 == 0
theorem scan_l0 {tl : List Int} (hu : U32 tl) (hl : tl.length ≤ 64) : ∀ (k n : Nat) (fields : List Int), n ≤ tl.length → tl.length - n < k → fields.length + (tl.length - n) ≤ 65 →
    g_impl_parseOne_l0 tl k fields n = some (fields ++ ((tl.drop n).takeWhile runP).map (· / 16)) := by
  intro k
  induction k with
  | zero => intro n fields h0 h1; omega
  | succ k ih =>
    intro n fields h0 h1 h2
    unfold g_impl_parseOne_l0
    by_cases hn : n < tl.length
    · have hx := hu tl[n] (List.getElem_mem hn)
      rw [decide_eq_true (by omega), getI_nat, List.getElem?_eq_getElem hn, List.drop_eq_getElem_cons hn]
      simp only [cond_true, Option.bind_some]
      rw [and15 hx.1 hx.2]
      have hc : (cond (tl[n] == 0) (some true) (some (tl[n] % 16 != 0)) : Option Bool) = some (!runP tl[n]) := by
        have h : ∀ a b : Bool, (cond a (some true) (some (!b)) : Option Bool) = some (!(!a && b)) := by decide
        exact h _ _
      rw [hc, Option.bind_some]
      cases hr : runP tl[n] with
      | true =>
        simp only [Bool.not_true, cond_false]
        rw [app_eq (by simp; omega), Option.bind_some, wI64 (by omega) (by omega), show ((n : Int) + 1) = ((n + 1 : Nat) : Int) by omega, ih (n + 1) _ (by omega) (by omega) (by simp; omega), List.takeWhile_cons, hr]
        simp
      | false =>
        simp only [Bool.not_false, cond_true]
        rw [List.takeWhile_cons, hr]
        simp
    · rw [decide_eq_false (by omega), cond_false, List.drop_eq_nil_of_le (by omega)]
      simp
def isName (t : Int) : Bool := t == 1 || (t == 3 || (t == 4 || (t == 9 || (t == 10 || t == 11))))
theorem chain (t : Int) : (cond (t == 1) (some (t == 1)) (cond (t == 3) (some (t == 3)) (cond (t == 4) (some (t == 4)) (cond (t == 9) (some (t == 9)) (cond (t == 10) (some (t == 10)) (some (t == 11)))))) : Option Bool) = some (isName t) := by
  unfold isName
  cases t == 1 <;> cases t == 3 <;> cases t == 4 <;> cases t == 9 <;> cases t == 10 <;> rfl
theorem chain2 (t : Int) : (cond (t == 2) (some (t == 2)) (some (t == 5)) : Option Bool) = some (t == 2 || t == 5) := by cases t == 2 <;> rfl
def raw (v : Int) : GItem := ⟨0, [], 0, false, v⟩
def lng (v w : Int) : GItem := cond (v % 16 == 5) ⟨8, [], IntKind.wrap .i32 w, andI .u32 v 16 != 0, 0⟩ ⟨7, [], IntKind.wrap .i32 w, andI .u32 v 16 != 0, 0⟩
/-- An item by its first cell, the cells that go on with a name, and the next cell. -/
def pm (v : Int) (run : List Int) (nx : Option Int) : Option GItem :=
  cond (isName (v % 16)) ((g_impl_Unpack (v / 16 :: run.map (· / 16))).bind fun y => cond y.2 ((g_impl_nameKind (v % 16)).bind fun k => some ⟨k, y.1, 0, false, 0⟩) (some (raw v)))
  (cond (v % 16 == 8) (some ⟨7, [], IntKind.wrap .i32 v / 32, andI .u32 v 16 != 0, 0⟩) (cond (v % 16 == 6) (some ⟨8, [], IntKind.wrap .i32 v / 32, andI .u32 v 16 != 0, 0⟩)
  (cond (v % 16 == 2 || v % 16 == 5) (match nx with
    | none => some (raw v)
    | some w => (g_impl_CellsOf (lng v w)).bind fun y => cond (decide (y = [v, w])) (some (lng v w)) (some (raw v)))
  (cond (v % 16 == 12) (match nx with
    | none => some (raw v)
    | some w => (g_impl_FieldOk (v / 16)).bind fun b => cond b ((g_impl_UnpackOne (v / 16)).bind fun nm => some ⟨9, nm, IntKind.wrap .i32 w, false, 0⟩) (some (raw v))) (some (raw v))))))
theorem lng_cells {v w : Int} : Tot (g_impl_CellsOf (lng v w)) fun r => U32 r ∧ r.length ≤ 2 := by
  unfold lng
  cases v % 16 == 5
  · rw [cond_false, cells_7]; exact num_ok
  · rw [cond_true, cells_8]; exact num_ok
theorem parse_pm {v : Int} {tl : List Int} (hu : U32 (v :: tl)) (hl : (v :: tl).length ≤ 64) : g_impl_parseOne (v :: tl) = pm v (tl.takeWhile runP) tl.head? := by
  have hv := hu v (List.mem_cons_self ..)
  have hut : U32 tl := fun x hx => hu x (List.mem_cons_of_mem _ hx)
  have hlt : tl.length ≤ 63 := by simp at hl; omega
  have e0 : getI (v :: tl) 0 = some v := rfl
  unfold g_impl_parseOne pm
  rw [e0]
  simp only [Option.bind_some, and15 hv.1 hv.2, chain, chain2]
  cases isName (v % 16) with
  | true =>
    simp only [cond_true]
    have hs := scan_l0 hut (by omega) bigK 0 [v / 16] (Nat.zero_le _) (by unfold bigK; omega) (by simp; omega)
    simp only [Int.natCast_zero, List.drop_zero, List.singleton_append] at hs
    rw [subL_drop (by decide) (by simp; omega), Option.bind_some, show List.drop (Int.toNat 1) (v :: tl) = tl from rfl, hs]
    simp only [Option.bind_some]
    cases g_impl_Unpack (v / 16 :: List.map (· / 16) (tl.takeWhile runP)) with
    | none => rfl
    | some y =>
      simp only [Option.bind_some]
      cases y.2 with
      | true =>
        simp only [cond_true]
        cases g_impl_nameKind (v % 16) <;> rfl
      | false => rfl
  | false =>
    simp only [cond_false]
    cases v % 16 == 8 with
    | true => rfl
    | false =>
      simp only [cond_false]
      cases v % 16 == 6 with
      | true => rfl
      | false =>
        simp only [cond_false]
        cases h25 : (v % 16 == 2 || v % 16 == 5) with
        | true =>
          simp only [cond_true]
          cases tl with
          | nil => rfl
          | cons w tl =>
            have e1 : getI (v :: w :: tl) 1 = some w := rfl
            have e2 : decide ((((v :: w :: tl).length : Nat) : Int) < 2) = false := decide_eq_false (by simp; omega)
            have e3 : (cond (v % 16 == 5) (some (⟨8, [], IntKind.wrap .i32 w, andI .u32 v 16 != 0, 0⟩ : GItem)) (some ⟨7, [], IntKind.wrap .i32 w, andI .u32 v 16 != 0, 0⟩)) = some (lng v w) := by
              unfold lng; cases v % 16 == 5 <;> rfl
            obtain ⟨cs, hcs, hcu, hcl⟩ := lng_cells (v := v) (w := w)
            rw [e2, e1]
            simp only [cond_false, Option.bind_some, e3, hcs, List.head?_cons]
            rw [subL_take (by decide) (by simp; omega)]
            simp only [Option.bind_some]
            rw [eqU (by omega), show List.take (Int.toNat 2) (v :: w :: tl) = [v, w] from rfl]
            simp only [Option.bind_some]
            cases decide (cs = [v, w]) <;> rfl
        | false =>
          simp only [cond_false]
          cases v % 16 == 12 with
          | false => rfl
          | true =>
            simp only [cond_true]
            cases tl with
            | nil => rfl
            | cons w tl =>
              have e1 : getI (v :: w :: tl) 1 = some w := rfl
              have e2 : decide ((((v :: w :: tl).length : Nat) : Int) > 1) = true := decide_eq_true (by simp; omega)
              rw [e2, e1]
              simp only [cond_true, List.head?_cons, Option.bind_some]
              cases g_impl_FieldOk (v / 16) with
              | none => rfl
              | some b =>
                simp only [Option.bind_some]
                cases b with
                | false => rfl
                | true =>
                  simp only [cond_true]
                  cases g_impl_UnpackOne (v / 16) <;> rfl
end Go.Proofs.YthhoellakpnjpaaGreat

namespace Go.Proofs.YthhoellakpnjpaaGreat
open Go Go.Fm
set_option linter.unusedVariables false
set_option linter.unusedSimpArgs false
theorem runP_iff {c : Int} : runP c = true ↔ c ≠ 0 ∧ c % 16 = 0 := by unfold runP; simp
theorem nameCells_back {v : Int} {run : List Int} (hv : 0 ≤ v ∧ v < 4294967296) (hr : ∀ c ∈ run, (0 ≤ c ∧ c < 4294967296) ∧ runP c = true) :
    nameCells (v % 16) (v / 16 :: run.map (· / 16)) = v :: run := by
  show orI .u32 (IntKind.wrap .u32 (v / 16 * 16)) (v % 16) :: (run.map (· / 16)).map (fun f => orI .u32 (IntKind.wrap .u32 (f * 16)) 0) = v :: run
  rw [or16 (by omega) (by omega) (by omega) (by omega), show v / 16 * 16 + v % 16 = v by omega, List.map_map]
  congr 1
  conv => rhs; rw [← List.map_id run]
  refine List.map_congr_left fun c hc => ?_
  obtain ⟨h1, h2⟩ := hr c hc
  have h3 := runP_iff.1 h2
  show orI .u32 (IntKind.wrap .u32 (c / 16 * 16)) 0 = c
  rw [or16 (by omega) (by omega) (by decide) (by decide)]
  omega
theorem short_back {v t : Int} (hv : 0 ≤ v ∧ v < 4294967296) (ht : v % 16 = t) (l : Int) :
    g_impl_numberCells (IntKind.wrap .i32 v / 32) (andI .u32 v 16 != 0) t l = some [v] := by
  unfold g_impl_numberCells
  have hN : IntKind.wrap .i32 v = if v < 2147483648 then v else v - 4294967296 := by
    simp [IntKind.wrap, IntKind.bits, IntKind.signed]; omega
  rw [and16 hv.1 hv.2]
  have hb : (cond (decide (v / 16 % 2 = 1)) (some 16) (some 0) : Option Int) = some (v / 16 % 2 * 16) := by
    by_cases h : v / 16 % 2 = 1
    · simp [h]
    · have : v / 16 % 2 = 0 := by omega
      simp [this]
  rw [hb]
  have h1 : IntKind.wrap .i32 v / 32 ≥ -67108864 := by rw [hN]; split <;> omega
  have h2 : IntKind.wrap .i32 v / 32 ≤ 67108863 := by rw [hN]; split <;> omega
  have h3 : IntKind.wrap .u32 (IntKind.wrap .u32 (IntKind.wrap .i32 v / 32) * 32) = v / 32 * 32 := by
    rw [hN]
    simp [IntKind.wrap, IntKind.bits, IntKind.signed]
    split <;> omega
  simp only [Option.bind_some, h1, h2, decide_true, cond_true]
  rw [h3, orU (a := v / 32 * 32) (by omega) (by omega) (by omega) (by omega)]
  have e1 : (v / 32 * 32).toNat ||| (v / 16 % 2 * 16).toNat = 32 * (v.toNat / 32) + v.toNat / 16 % 2 * 16 := by
    rw [show (v / 32 * 32).toNat = 2 ^ 5 * (v.toNat / 32) by omega, show (v / 16 % 2 * 16).toNat = v.toNat / 16 % 2 * 16 by omega, or_low 5 (by omega)]
  rw [e1, orU (by omega) (by omega) (by omega) (by omega)]
  have e2 : ((32 * (v.toNat / 32) + v.toNat / 16 % 2 * 16 : Nat) : Int).toNat ||| t.toNat = v.toNat := by
    rw [Int.toNat_natCast, show 32 * (v.toNat / 32) + v.toNat / 16 % 2 * 16 = 2 ^ 4 * (v.toNat / 16) by omega, or_low 4 (by omega)]
    omega
  rw [e2, Int.toNat_of_nonneg hv.1]
theorem field_ok {f : Int} : Tot (g_impl_FieldOk f) fun b => b = true → ∃ nm, g_impl_UnpackOne f = some nm ∧ nm.length ≤ 7 ∧ g_impl_Pack nm = some [f] := by
  unfold g_impl_FieldOk
  obtain ⟨nm, hnm, hl⟩ := unpackOne_ok (f := f)
  obtain ⟨p, hp, _, hpl⟩ := pack_ok (s := nm) (by omega)
  rw [hnm]
  refine .bindE rfl (.bindE hp (.bindE (eqU (by omega)) (.some fun h => ⟨nm, rfl, hl, ?_⟩)))
  rw [hp, of_decide_eq_true h]
theorem pm_ok {v : Int} {run : List Int} {nx : Option Int} (hv : 0 ≤ v ∧ v < 4294967296) (hr : ∀ c ∈ run, (0 ≤ c ∧ c < 4294967296) ∧ runP c = true) (hn : ∀ w, nx = some w → 0 ≤ w ∧ w < 4294967296) :
    ∃ it cs, pm v run nx = some it ∧ g_impl_CellsOf it = some cs ∧ it.Name.length ≤ 168 ∧
      ((cs = v :: run ∧ ∀ nx', pm v run nx' = some it) ∨ (cs = [v] ∧ ∀ nx', nx' = nx ∨ nx' = none → pm v run nx' = some it) ∨ (∃ w, nx = some w ∧ cs = [v, w])) := by
  have hraw : g_impl_CellsOf (raw v) = some [v] := cells_raw
  have hrl : (raw v).Name.length ≤ 168 := by show ([] : Bs).length ≤ 168; simp
  cases h1 : isName (v % 16) with
  | true =>
    obtain ⟨y, hy, hyl, hyp⟩ := unpack_ok (l := v / 16 :: run.map (· / 16))
    cases h2 : y.2 with
    | false =>
      have e : ∀ nx', pm v run nx' = some (raw v) := fun nx' => by unfold pm; rw [h1, cond_true, hy, Option.bind_some, h2, cond_false]
      exact ⟨raw v, [v], e nx, hraw, hrl, .inr (.inl ⟨rfl, fun nx' _ => e nx'⟩)⟩
    | true =>
      have ht : v % 16 = 1 ∨ v % 16 = 3 ∨ v % 16 = 4 ∨ v % 16 = 9 ∨ v % 16 = 10 ∨ v % 16 = 11 := by simpa [isName] using h1
      obtain ⟨k, hk, hkt, _⟩ := nameKind_eq ht
      have e : ∀ nx', pm v run nx' = some ⟨k, y.1, 0, false, 0⟩ := fun nx' => by unfold pm; rw [h1, cond_true, hy, Option.bind_some, h2, cond_true, hk, Option.bind_some]
      have hp := hyp h2
      obtain ⟨p, hp', _, hpl⟩ := pack_ok (s := y.1) (by omega)
      rw [hp] at hp'
      cases hp'
      refine ⟨_, _, e nx, cells_name hkt (by omega) hp hpl, hyl, .inl ⟨nameCells_back hv hr, e⟩⟩
  | false =>
    by_cases h8 : v % 16 = 8
    · have e : ∀ nx', pm v run nx' = some ⟨7, [], IntKind.wrap .i32 v / 32, andI .u32 v 16 != 0, 0⟩ := fun nx' => by unfold pm; rw [h1, cond_false, h8]; rfl
      exact ⟨_, [v], e nx, by rw [cells_7]; exact short_back hv h8 2, by simp, .inr (.inl ⟨rfl, fun nx' _ => e nx'⟩)⟩
    by_cases h6 : v % 16 = 6
    · have e : ∀ nx', pm v run nx' = some ⟨8, [], IntKind.wrap .i32 v / 32, andI .u32 v 16 != 0, 0⟩ := fun nx' => by unfold pm; rw [h1, cond_false, h6]; rfl
      exact ⟨_, [v], e nx, by rw [cells_8]; exact short_back hv h6 5, by simp, .inr (.inl ⟨rfl, fun nx' _ => e nx'⟩)⟩
    have b8 : (v % 16 == 8) = false := by simpa using h8
    have b6 : (v % 16 == 6) = false := by simpa using h6
    cases h25 : (v % 16 == 2 || v % 16 == 5) with
    | true =>
      have e0 : pm v run none = some (raw v) := by unfold pm; rw [h1, cond_false, b8, cond_false, b6, cond_false, h25, cond_true]
      cases nx with
      | none => exact ⟨raw v, [v], e0, hraw, hrl, .inr (.inl ⟨rfl, fun nx' h => by rcases h with rfl | rfl <;> exact e0⟩)⟩
      | some w =>
        obtain ⟨cs, hcs, _, hcl⟩ := lng_cells (v := v) (w := w)
        have e1 : pm v run (some w) = cond (decide (cs = [v, w])) (some (lng v w)) (some (raw v)) := by
          unfold pm; rw [h1, cond_false, b8, cond_false, b6, cond_false, h25, cond_true]
          simp only [hcs, Option.bind_some]
        by_cases hc : cs = [v, w]
        · rw [decide_eq_true hc, cond_true] at e1
          refine ⟨_, _, e1, hcs, ?_, .inr (.inr ⟨w, rfl, hc⟩)⟩
          unfold lng
          cases v % 16 == 5 <;> simp
        · rw [decide_eq_false hc, cond_false] at e1
          exact ⟨raw v, [v], e1, hraw, hrl, .inr (.inl ⟨rfl, fun nx' h => by rcases h with rfl | rfl; exact e1; exact e0⟩)⟩
    | false =>
      cases h12 : v % 16 == 12 with
      | false =>
        have e : ∀ nx', pm v run nx' = some (raw v) := fun nx' => by unfold pm; rw [h1, cond_false, b8, cond_false, b6, cond_false, h25, cond_false, h12, cond_false]
        exact ⟨raw v, [v], e nx, hraw, hrl, .inr (.inl ⟨rfl, fun nx' _ => e nx'⟩)⟩
      | true =>
        have e0 : pm v run none = some (raw v) := by unfold pm; rw [h1, cond_false, b8, cond_false, b6, cond_false, h25, cond_false, h12, cond_true]
        cases nx with
        | none => exact ⟨raw v, [v], e0, hraw, hrl, .inr (.inl ⟨rfl, fun nx' h => by rcases h with rfl | rfl <;> exact e0⟩)⟩
        | some w =>
          obtain ⟨b, hb, hbf⟩ := field_ok (f := v / 16)
          have e1 : pm v run (some w) = cond b ((g_impl_UnpackOne (v / 16)).bind fun nm => some ⟨9, nm, IntKind.wrap .i32 w, false, 0⟩) (some (raw v)) := by
            unfold pm; rw [h1, cond_false, b8, cond_false, b6, cond_false, h25, cond_false, h12, cond_true]
            simp only [hb, Option.bind_some]
          cases b with
          | false => exact ⟨raw v, [v], e1, hraw, hrl, .inr (.inl ⟨rfl, fun nx' h => by rcases h with rfl | rfl; exact e1; exact e0⟩)⟩
          | true =>
            obtain ⟨nm, h2, h3, h4⟩ := hbf rfl
            rw [cond_true, h2, Option.bind_some] at e1
            have ht : v % 16 = 12 := by simpa using h12
            have hw := hn w rfl
            refine ⟨_, _, e1, cells_9 h4, by show nm.length ≤ 168; omega, .inr (.inr ⟨w, rfl, ?_⟩)⟩
            rw [or16 (by omega) (by omega) (by decide) (by decide)]
            have : IntKind.wrap .u32 (IntKind.wrap .i32 w) = w := by
              simp [IntKind.wrap, IntKind.bits, IntKind.signed]; split <;> omega
            rw [this, show v / 16 * 16 + 12 = v by omega]
/-- What is parsed stands at the beginning of the cells; noughts behind them change nothing. -/
theorem parse_ok {v : Int} {tl : List Int} (hu : U32 (v :: tl)) (hl : (v :: tl).length ≤ 64) :
    ∃ it cs, g_impl_parseOne (v :: tl) = some it ∧ g_impl_CellsOf it = some cs ∧ it.Name.length ≤ 168 ∧ 1 ≤ cs.length ∧ (∃ rest, v :: tl = cs ++ rest) ∧
      (∀ tl' z, tl = tl' ++ List.replicate z 0 → cs.length ≤ (v :: tl').length → g_impl_parseOne (v :: tl') = some it) := by
  have hv := hu v (List.mem_cons_self ..)
  have hut : U32 tl := fun x hx => hu x (List.mem_cons_of_mem _ hx)
  obtain ⟨it, cs, h1, h2, h3, h4⟩ := pm_ok (v := v) (run := tl.takeWhile runP) (nx := tl.head?) hv
    (fun c hc => ⟨hut c ((List.takeWhile_sublist runP).subset hc), by have := List.all_takeWhile (p := runP) (l := tl); exact List.all_eq_true.1 this c hc⟩)
    (fun w hw => hut w (List.mem_of_mem_head? hw))
  refine ⟨it, cs, by rw [parse_pm hu hl]; exact h1, h2, h3, ?_, ?_, fun tl' z hz hc => ?_⟩
  · rcases h4 with ⟨rfl, _⟩ | ⟨rfl, _⟩ | ⟨w, _, rfl⟩ <;> simp
  · rcases h4 with ⟨rfl, _⟩ | ⟨rfl, _⟩ | ⟨w, hw, rfl⟩
    · exact ⟨tl.dropWhile runP, by rw [List.cons_append, List.takeWhile_append_dropWhile]⟩
    · exact ⟨tl, rfl⟩
    · cases tl with
      | nil => cases hw
      | cons x r => simp at hw; subst hw; exact ⟨r, rfl⟩
  · have hu' : U32 (v :: tl') := fun x hx => hu x (by
      rw [hz]
      rcases List.mem_cons.1 hx with rfl | hx
      · exact List.mem_cons_self ..
      · exact List.mem_cons_of_mem _ (List.mem_append_left _ hx))
    have hl' : (v :: tl').length ≤ 64 := by rw [hz] at hl; simp at hl ⊢; omega
    have htw : tl.takeWhile runP = tl'.takeWhile runP := by
      rw [hz, List.takeWhile_append]
      split
      · rename_i he
        have : (List.replicate z (0 : Int)).takeWhile runP = [] := by
          cases z with
          | zero => rfl
          | succ z => rw [List.replicate_succ, List.takeWhile_cons]; rfl
        rw [this, List.append_nil]
        exact (List.takeWhile_sublist runP).eq_of_length he |>.symm
      · rfl
    rw [parse_pm hu' hl', ← htw]
    rcases h4 with ⟨rfl, g⟩ | ⟨rfl, g⟩ | ⟨w, hw, rfl⟩
    · exact g _
    · refine g _ ?_
      cases tl' with
      | nil => exact .inr rfl
      | cons x r => left; rw [hz]; rfl
    · cases tl' with
      | nil => simp at hc
      | cons x r =>
        have : tl.head? = (x :: r).head? := by rw [hz]; rfl
        rw [← this]
        exact h1
end Go.Proofs.YthhoellakpnjpaaGreat

namespace Go.Proofs.YthhoellakpnjpaaGreat
open Go Go.Fm
set_option linter.unusedVariables false
set_option linter.unusedSimpArgs false
inductive Parses : List Int → List GItem → Prop where
  | nil : Parses [] []
  | cons {cells rest cs : List Int} {it : GItem} {its : List GItem} (h1 : g_impl_parseOne cells = some it) (h2 : g_impl_CellsOf it = some cs) (h3 : 1 ≤ cs.length) (h4 : cells = cs ++ rest) (h5 : Parses rest its) : Parses cells (it :: its)
theorem parses_ex : ∀ (n : Nat) (cells : List Int), cells.length ≤ n → U32 cells → cells.length ≤ 64 → ∃ its, Parses cells its := by
  intro n
  induction n with
  | zero => intro cells h _ _; cases cells with
    | nil => exact ⟨[], .nil⟩
    | cons v tl => simp at h
  | succ n ih =>
    intro cells h hu hl
    cases cells with
    | nil => exact ⟨[], .nil⟩
    | cons v tl =>
      obtain ⟨it, cs, h1, h2, h3, h4, ⟨rest, h5⟩, _⟩ := parse_ok hu hl
      have hlen : (v :: tl).length = cs.length + rest.length := by rw [h5, List.length_append]
      obtain ⟨its, h6⟩ := ih rest (by omega) (fun x hx => hu x (by rw [h5]; exact List.mem_append_right _ hx)) (by omega)
      exact ⟨it :: its, .cons h1 h2 h4 h5 h6⟩
theorem Parses.len {cells : List Int} {its : List GItem} (h : Parses cells its) : its.length ≤ cells.length := by
  induction h with
  | nil => exact Nat.le_refl _
  | cons h1 h2 h3 h4 h5 ih => rw [h4, List.length_append, List.length_cons]; omega
theorem parse_l0 : ∀ (k : Nat) (cells : List Int) (out its : List GItem), Parses cells its → cells.length < k → out.length + cells.length ≤ 64 → g_impl_ParseCells_l0 k cells out = some (out ++ its) := by
  intro k
  induction k with
  | zero => intro cells out its hp h; omega
  | succ k ih =>
    intro cells out its hp h hl
    unfold g_impl_ParseCells_l0
    cases hp with
    | nil => simp
    | cons h1 h2 h3 h4 h5 =>
      rename_i rest cs it its'
      have hlen : cells.length = cs.length + rest.length := by rw [h4, List.length_append]
      rw [decide_eq_true (by omega), cond_true, h1, Option.bind_some, app_eq (by simp; omega), Option.bind_some, h2, Option.bind_some, subL_drop (by omega) (by omega), Option.bind_some]
      have hd : cells.drop ((cs.length : Int)).toNat = rest := by rw [h4, Int.toNat_natCast, List.drop_left]
      rw [hd, ih rest _ _ h5 (by omega) (by simp; omega), List.append_assoc]
      rfl
def rz : GItem := raw 0
theorem isRz (v : GItem) : ((v.Kind : Int) == 0 && ((v.Name : Bs) == [] && ((v.N : Int) == 0 && ((v.Hex : Bool) == false && ((v.Raw : Int) == 0 && true))))) = decide (v = rz) := by
  obtain ⟨a, b, c, d, e⟩ := v
  rw [Bool.eq_iff_iff]
  simp [rz, raw]
theorem strip_l1 : ∀ (k : Nat) (out : List GItem), out.length < k → out.length ≤ 64 → ∃ its z, out = its ++ List.replicate z rz ∧ (∀ x, its ≠ x ++ [rz]) ∧ g_impl_ParseCells_l1 k out ((out.length : Int) - 1) = some its := by
  intro k
  induction k with
  | zero => intro out h; omega
  | succ k ih =>
    intro out h hl
    unfold g_impl_ParseCells_l1
    rcases List.eq_nil_or_concat out with rfl | ⟨xs, x, rfl⟩
    · exact ⟨[], 0, rfl, by simp, rfl⟩
    · simp only [List.concat_eq_append] at *
      have hlen : (xs ++ [x]).length = xs.length + 1 := by simp
      rw [decide_eq_true (by omega), cond_true, show (((xs ++ [x]).length : Nat) : Int) - 1 = ((xs.length : Nat) : Int) by omega, getI_nat, List.getElem?_concat_length]
      simp only [Option.bind_some, isRz]
      by_cases hx : x = rz
      · rw [decide_eq_true hx, cond_true, subL_take (by omega) (by omega), Option.bind_some, Int.toNat_natCast, List.take_left, wI64 (by omega) (by omega)]
        obtain ⟨its, z, h1, h2, h3⟩ := ih xs (by omega) (by omega)
        refine ⟨its, z + 1, ?_, h2, h3⟩
        rw [hx, h1, List.append_assoc, ← List.replicate_succ']
      · rw [decide_eq_false hx, cond_false]
        refine ⟨xs ++ [x], 0, by simp, fun y hy => hx ?_, rfl⟩
        have := List.append_inj' hy rfl
        simpa using this.2
theorem parses_zero : ∀ (z : Nat) (cells : List Int), Parses cells (List.replicate z rz) → cells = List.replicate z 0
  | 0, cells, h => by cases h; rfl
  | z + 1, cells, h => by
    rw [List.replicate_succ] at h
    cases h with
    | cons h1 h2 h3 h4 h5 =>
      have : g_impl_CellsOf rz = some [0] := cells_raw
      rw [this] at h2
      cases h2
      rw [h4, parses_zero z _ h5, List.replicate_succ]; rfl
theorem parses_cut : ∀ (its : List GItem) (z : Nat) (cells : List Int), U32 cells → cells.length ≤ 64 → Parses cells (its ++ List.replicate z rz) → ∃ cells', cells = cells' ++ List.replicate z 0 ∧ Parses cells' its
  | [], z, cells, _, _, h => ⟨[], parses_zero z cells h, .nil⟩
  | it :: its, z, cells, hu, hl, h => by
    rw [List.cons_append] at h
    cases h with
    | cons h1 h2 h3 h4 h5 =>
      rename_i rest cs
      have hlen : cells.length = cs.length + rest.length := by rw [h4, List.length_append]
      obtain ⟨rest', e1, e2⟩ := parses_cut its z rest (fun x hx => hu x (by rw [h4]; exact List.mem_append_right _ hx)) (by omega) h5
      match cs, h3 with
      | v :: ct, _ =>
        have hc : cells = v :: (ct ++ rest) := h4
        rw [hc] at hu hl h1
        obtain ⟨it1, cs1, g1, g2, _, _, _, g6⟩ := parse_ok hu hl
        rw [h1] at g1
        cases g1
        rw [h2] at g2
        cases g2
        refine ⟨(v :: ct) ++ rest', by rw [h4, e1, List.append_assoc], .cons (g6 (ct ++ rest') z (by rw [e1, List.append_assoc]) (by simp)) h2 (by simp) rfl e2⟩
theorem parseCells_ok {cells : List Int} (hu : U32 cells) (hl : cells.length ≤ 64) : ∃ its cells' z, g_impl_ParseCells cells = some its ∧ cells = cells' ++ List.replicate z 0 ∧ Parses cells' its ∧ (∀ x, its ≠ x ++ [rz]) := by
  obtain ⟨all, hp⟩ := parses_ex _ cells (Nat.le_refl _) hu hl
  have hlen := hp.len
  obtain ⟨its, z, h1, h2, h3⟩ := strip_l1 bigK all (by unfold bigK; omega) (by omega)
  have hp2 := hp
  rw [h1] at hp2
  obtain ⟨cells', e1, e2⟩ := parses_cut its z cells hu hl hp2
  refine ⟨its, cells', z, ?_, e1, e2, h2⟩
  unfold g_impl_ParseCells
  rw [decide_eq_false (by omega), cond_false, parse_l0 bigK cells [] all hp (by unfold bigK; omega) (by simpa using hl), Option.bind_some, List.nil_append, wI64 (by omega) (by omega), h3]
  rfl
theorem parseCells_same {cells : List Int} {its : List GItem} (hl : cells.length ≤ 64) (hp : Parses cells its) (hn : ∀ x, its ≠ x ++ [rz]) : g_impl_ParseCells cells = some its := by
  have hlen := hp.len
  obtain ⟨its', z, h1, h2, h3⟩ := strip_l1 bigK its (by unfold bigK; omega) (by omega)
  have hz : z = 0 := by
    cases z with
    | zero => rfl
    | succ z =>
      rw [List.replicate_succ', ← List.append_assoc] at h1
      exact absurd h1 (hn _)
  subst hz
  simp only [List.replicate_zero, List.append_nil] at h1
  subst h1
  unfold g_impl_ParseCells
  rw [decide_eq_false (by omega), cond_false, parse_l0 bigK cells [] its hp (by unfold bigK; omega) (by simpa using hl), Option.bind_some, List.nil_append, wI64 (by omega) (by omega), h3]
  rfl
end Go.Proofs.YthhoellakpnjpaaGreat

namespace Go.Proofs.YthhoellakpnjpaaGreat
open Go Go.Fm
set_option linter.unusedVariables false
set_option linter.unusedSimpArgs false
theorem letterOf_all : (List.range 256).all (fun b => g_spec_LetterOf (b : Int) == g_impl_LetterOf (b : Int)) = true := by kernel_rfl
theorem letterOf_eq {b : Int} (h0 : 0 ≤ b) (h1 : b < 256) : g_spec_LetterOf b = g_impl_LetterOf b := by
  have h := List.all_eq_true.1 letterOf_all b.toNat (List.mem_range.2 (by omega))
  rw [Int.toNat_of_nonneg h0] at h
  exact eq_of_beq h
theorem width_eq {k : Int} : g_spec_WidthOf k = g_impl_WidthOf k := by
  unfold g_spec_WidthOf g_impl_WidthOf; simp only [specIn_eq, within_eq, Option.bind_some]
theorem letterAt_eq {k : Int} : g_spec_LetterAt k = g_impl_LetterAt k := by
  unfold g_spec_LetterAt g_impl_LetterAt; simp only [specIn_eq, within_eq, Option.bind_some]; rfl
theorem bits_all : (List.range 49).all (fun b => g_spec_BitsOf ((b : Int) - 1) == g_impl_BitsOf ((b : Int) - 1)) = true := by kernel_rfl
theorem bits_eq {k : Int} (h0 : -1 ≤ k) (h1 : k ≤ 47) : g_spec_BitsOf k = g_impl_BitsOf k := by
  have h := List.all_eq_true.1 bits_all (k + 1).toNat (List.mem_range.2 (by omega))
  rw [Int.toNat_of_nonneg (by omega), show k + 1 - 1 = k by omega] at h
  exact eq_of_beq h
theorem wb_all : (List.range 48).all (fun b => match g_impl_WidthOf (b : Int), g_impl_BitsOf (b : Int) with | some w, some c => decide (4 ≤ w ∧ w ≤ 7 ∧ 0 ≤ c ∧ c < 2 ^ w.toNat) | _, _ => false) = true := by kernel_rfl
theorem wb {k : Int} (h0 : 0 ≤ k) (h1 : k ≤ 47) : ∃ w c, g_impl_WidthOf k = some w ∧ g_impl_BitsOf k = some c ∧ 4 ≤ w ∧ w ≤ 7 ∧ 0 ≤ c ∧ c < 2 ^ w.toNat := by
  have h := List.all_eq_true.1 wb_all k.toNat (List.mem_range.2 (by omega))
  rw [Int.toNat_of_nonneg h0] at h
  split at h
  · rename_i w c hw hc; exact ⟨w, c, hw, hc, of_decide_eq_true h⟩
  · cases h
theorem pw (n : Nat) : (0 : Int) < 2 ^ n := Int.pow_pos (by decide)
theorem pwN (n : Nat) : ((2 ^ n : Nat) : Int) = (2 : Int) ^ n := by simp
theorem pw_le {a b : Nat} (h : a ≤ b) : (2 : Int) ^ a ≤ 2 ^ b := by
  have := Nat.pow_le_pow_right (n := 2) (by decide) h
  rw [← pwN, ← pwN]; omega
theorem shl_eq {k : IntKind} {a n : Int} (h0 : 0 ≤ n) (h1 : n ≤ 32) (hk : 32 ≤ k.bits) : shlI k a n = some (k.wrap (a * 2 ^ n.toNat)) := by
  unfold shlI
  rw [if_pos h0, show min n.toNat k.bits = n.toNat by omega]
theorem shr_eq {k : IntKind} {a n : Int} (h0 : 0 ≤ n) (h1 : n ≤ 32) (hk : 32 ≤ k.bits) : shrI k a n = some (a / 2 ^ n.toNat) := by
  unfold shrI
  rw [if_pos h0, show min n.toNat k.bits = n.toNat by omega, Int.fdiv_eq_ediv_of_nonneg _ (Int.le_of_lt (pw _))]
theorem shl64 {n : Int} (h0 : 0 ≤ n) (h1 : n ≤ 32) : shlI .i64 1 n = some (2 ^ n.toNat) := by
  rw [shl_eq h0 h1 (by decide), Int.one_mul, wI64]
  · have := pw n.toNat; omega
  · have := pw_le (a := n.toNat) (b := 32) (by omega); omega
theorem shl32 {n : Int} (h0 : 0 ≤ n) (h1 : n ≤ 31) : shlI .u32 1 n = some (2 ^ n.toNat) := by
  rw [shl_eq h0 (by omega) (by decide), Int.one_mul, wU32]
  · have := pw n.toNat; omega
  · have := pw_le (a := n.toNat) (b := 31) (by omega); omega
theorem and_mask {k : IntKind} {a : Int} {n : Nat} (h0 : 0 ≤ a) (h1 : a < 2 ^ k.bits) (hn : n < k.bits) : andI k a (2 ^ n - 1) = a % 2 ^ n := by
  unfold andI
  have hp := pw n
  have hb : (2 : Int) ^ n - 1 < 2 ^ k.bits := by have := pw_le (a := n) (b := k.bits) (by omega); omega
  rw [BitVec.toNat_and, bB_toNat h0 h1, bB_toNat (by omega) hb]
  have e : ((2 : Int) ^ n - 1).toNat = 2 ^ n - 1 := by rw [← pwN]; omega
  rw [e, Nat.and_two_pow_sub_one_eq_mod, wrap_small]
  · rw [Int.natCast_emod, pwN, Int.toNat_of_nonneg h0]
  · refine Nat.lt_of_lt_of_le (Nat.mod_lt _ (Nat.two_pow_pos n)) (Nat.pow_le_pow_right (by decide) (by omega))
theorem div_mod {f : Int} {n w : Nat} (h0 : 0 ≤ f) (hw : w ≤ n) : f % 2 ^ n / 2 ^ (n - w) = f / 2 ^ (n - w) % 2 ^ w := by
  obtain ⟨F, rfl⟩ := Int.eq_ofNat_of_zero_le h0
  have e : 2 ^ n = 2 ^ (n - w) * 2 ^ w := by rw [← Nat.pow_add]; congr 1; omega
  have := Nat.mod_mul_right_div_self F (2 ^ (n - w)) (2 ^ w)
  rw [← e] at this
  simp only [← pwN, Int.ofNat_eq_natCast, ← Int.natCast_emod, ← Int.natCast_ediv]
  rw [this]
theorem decode_l0_eq {f n : Int} (h0 : 0 ≤ f) (h1 : f < 4294967296) (n0 : 1 ≤ n) (n1 : n ≤ 32) : ∀ (k : Nat) (i : Int), 0 ≤ i → i ≤ 48 → g_spec_Decode_l0 f n k i = g_impl_Decode_l0 f n k i := by
  intro k
  induction k with
  | zero => intro i _ _; rfl
  | succ k ih =>
    intro i i0 i1
    unfold g_spec_Decode_l0 g_impl_Decode_l0
    by_cases hi : i < 48
    · obtain ⟨w, c, hw, hc, w0, w1, c0, c1⟩ := wb i0 (by omega)
      have hx := ih (i + 1) (by omega) (by omega)
      rw [decide_eq_true hi, width_eq, hw, bits_eq (by omega) (by omega), hc]
      simp only [cond_true, Option.bind_some]
      rw [wI64 (x := i + 1) (by omega) (by omega), hx]
      by_cases hn : w ≤ n
      · have c2 : (2 : Int) ^ w.toNat ≤ 2 ^ 7 := pw_le (by omega)
        have pn := pw n.toNat
        have pw' := pw w.toNat
        have pn2 : (2 : Int) ^ n.toNat ≤ 2 ^ 32 := pw_le (by omega)
        rw [decide_eq_true hn, decide_eq_false (p := w > n) (by omega), wU64 (x := n) (by omega) (by omega), wI64 (x := f) (by omega) (by omega), wI64 (x := n - w) (by omega) (by omega), wU64 (x := n - w) (by omega) (by omega), shl64 (by omega) (by omega),
          shl32 (by omega) (by omega), shr_eq (by omega) (by omega) (by decide), wI64 (x := c) (by omega) (by omega)]
        simp only [cond_true, cond_false, Option.bind_some]
        rw [wI64 (x := 2 ^ n.toNat - 1) (by omega) (by omega), wU32 (x := 2 ^ w.toNat - 1) (by omega) (by omega), shr_eq (by omega) (by omega) (by decide)]
        simp only [Option.bind_some]
        have hq : f / 2 ^ (n - w).toNat < 4294967296 := Int.lt_of_le_of_lt (Int.ediv_le_self _ h0) h1
        rw [and_mask (k := .i64) h0 (show f < 2 ^ 64 by omega) (show n.toNat < 64 by omega), and_mask (k := .u32) (Int.ediv_nonneg h0 (Int.le_of_lt (pw _))) (show f / 2 ^ (n - w).toNat < 2 ^ 32 by omega) (show w.toNat < 32 by omega),
          show (n - w).toNat = n.toNat - w.toNat by omega, div_mod h0 (by omega)]
        cases f / 2 ^ (n.toNat - w.toNat) % 2 ^ w.toNat == c <;> rfl
      · rw [decide_eq_false hn, decide_eq_true (p := w > n) (by omega)]
        rfl
    · rw [decide_eq_false hi]; rfl
theorem decode_eq {f n : Int} (h0 : 0 ≤ f) (h1 : f < 4294967296) : g_spec_Decode f n = g_impl_Decode f n := by
  unfold g_spec_Decode g_impl_Decode
  rw [specIn_eq, within_eq]
  simp only [Option.bind_some]
  by_cases h : 1 ≤ n ∧ n ≤ 32
  · rw [decode_l0_eq h0 h1 h.1 h.2 _ _ (by decide) (by decide)]
  · rw [decide_eq_false h]; rfl
theorem unpackOne_l0_eq {f : Int} (h0 : 0 ≤ f) (h1 : f < 4294967296) : ∀ (k : Nat) (out : List Int) (left : Int), 0 ≤ left → left ≤ 28 → g_spec_UnpackOne_l0 f k out left = g_impl_UnpackOne_l0 f k out left := by
  intro k
  induction k with
  | zero => intro out left _ _; rfl
  | succ k ih =>
    intro out left l0 l1
    unfold g_spec_UnpackOne_l0 g_impl_UnpackOne_l0
    have p1 := pw left.toNat
    have p2 : (2 : Int) ^ left.toNat ≤ 2 ^ 28 := pw_le (by omega)
    rw [wU64 (x := left) (by omega) (by omega), wI64 (x := f) (by omega) (by omega), shl64 (by omega) (by omega), shl32 (by omega) (by omega)]
    simp only [Option.bind_some]
    rw [wI64 (x := 2 ^ left.toNat - 1) (by omega) (by omega), wU32 (x := 2 ^ left.toNat - 1) (by omega) (by omega), and_mask (k := .i64) h0 (show f < 2 ^ 64 by omega) (show left.toNat < 64 by omega), and_mask (k := .u32) h0 (show f < 2 ^ 32 by omega) (show left.toNat < 32 by omega)]
    have e : (cond (decide (left > 0)) (some (f % 2 ^ left.toNat != 0)) (some false) : Option Bool) = some (f % 2 ^ left.toNat != 0) := by
      by_cases hl : left > 0
      · rw [decide_eq_true hl]; rfl
      · have : left = 0 := by omega
        subst this
        simp
    rw [e]
    simp only [Option.bind_some]
    cases f % 2 ^ left.toNat != 0 with
    | false => rfl
    | true =>
      simp only [cond_true]
      rw [decode_eq h0 h1]
      obtain ⟨d, hd, _, d2⟩ := decode_ok (f := f) (n := left)
      rw [hd]
      simp only [Option.bind_some]
      by_cases hc : d.1 < 1
      · rw [decide_eq_true hc]; rfl
      · rw [decide_eq_false hc, letterAt_eq]
        obtain ⟨v, hv, _⟩ := letterAt_ok (k := d.1)
        have := d2 (by omega)
        rw [hv]
        simp only [cond_false, Option.bind_some]
        cases app out [v] with
        | none => rfl
        | some o =>
          simp only [Option.bind_some]
          rw [wI64 (x := left - d.2) (by omega) (by omega)]
          exact ih _ _ (by omega) (by omega)
theorem unpackOne_eq {f : Int} (h0 : 0 ≤ f) (h1 : f < 4294967296) : g_spec_UnpackOne f = g_impl_UnpackOne f := by
  unfold g_spec_UnpackOne g_impl_UnpackOne
  rw [wI64 (x := f) (by omega) (by omega), unpackOne_l0_eq h0 h1 _ _ _ (by decide) (by decide)]
/-- Letters of names. -/
def good (b : UInt8) : Bool := match g_impl_LetterOf (b.toNat : Int) with | some k => decide (1 ≤ k) | none => false
theorem good_of {b : UInt8} {k : Int} (h : g_impl_LetterOf (b.toNat : Int) = some k) : good b = decide (1 ≤ k) := by unfold good; rw [h]
theorem idxS_nat {s : List UInt8} {n : Nat} (h : n < s.length) : idxS s (n : Int) = some ((s[n].toNat : Nat) : Int) := by
  unfold idxS
  rw [if_pos ⟨by omega, by omega⟩, Int.toNat_natCast, List.getD_eq_getElem?_getD, List.getElem?_eq_getElem h]
  rfl
theorem specNameOk_l0 {s : Bs} (hs : s.length ≤ 1048576) : ∀ (k n : Nat), n ≤ s.length → s.length - n < k → g_spec_NameOk_l0 s k n = some (if (s.drop n).all good then .inl () else .inr ()) := by
  intro k
  induction k with
  | zero => intro n h0 h1; omega
  | succ k ih =>
    intro n h0 h1
    unfold g_spec_NameOk_l0
    by_cases hn : n < s.length
    · have hb := UInt8.toNat_lt s[n]
      obtain ⟨x, hx, x0, x1⟩ := letterOf_ok (b := (s[n].toNat : Int)) (by omega) (by omega)
      rw [decide_eq_true (by omega), idxS_nat hn, List.drop_eq_getElem_cons hn, List.all_cons, good_of hx]
      simp only [cond_true, Option.bind_some, letterOf_eq (b := (s[n].toNat : Int)) (by omega) (by omega), hx]
      by_cases hc : x < 1
      · rw [decide_eq_true hc, decide_eq_false (p := 1 ≤ x) (by omega)]; rfl
      · rw [decide_eq_false hc, decide_eq_true (p := 1 ≤ x) (by omega), cond_false, wI64 (by omega) (by omega), show ((n : Int) + 1) = ((n + 1 : Nat) : Int) by omega, ih (n + 1) (by omega) (by omega), Bool.true_and]
    · rw [decide_eq_false (by omega), List.drop_eq_nil_of_le (by omega)]; rfl
theorem implNameOk_l0 {s : Bs} (hs : s.length ≤ 1048576) : ∀ (k n : Nat), n ≤ s.length → s.length - n < k → g_impl_NameOk_l0 s k n = some (if (s.drop n).all good then .inl () else .inr ()) := by
  intro k
  induction k with
  | zero => intro n h0 h1; omega
  | succ k ih =>
    intro n h0 h1
    unfold g_impl_NameOk_l0
    by_cases hn : n < s.length
    · have hb := UInt8.toNat_lt s[n]
      obtain ⟨x, hx, x0, x1⟩ := letterOf_ok (b := (s[n].toNat : Int)) (by omega) (by omega)
      rw [decide_eq_true (by omega), idxS_nat hn, List.drop_eq_getElem_cons hn, List.all_cons, good_of hx]
      simp only [cond_true, Option.bind_some, hx]
      by_cases hc : x < 1
      · rw [decide_eq_true hc, decide_eq_false (p := 1 ≤ x) (by omega)]; rfl
      · rw [decide_eq_false hc, decide_eq_true (p := 1 ≤ x) (by omega), cond_false, wI64 (by omega) (by omega), show ((n : Int) + 1) = ((n + 1 : Nat) : Int) by omega, ih (n + 1) (by omega) (by omega), Bool.true_and]
    · rw [decide_eq_false (by omega), List.drop_eq_nil_of_le (by omega)]; rfl
def named (s : Bs) : Bool := s.all good && decide (1 ≤ s.length ∧ s.length ≤ 24)
theorem implNameOk {s : Bs} (hs : s.length ≤ 1048576) : g_impl_NameOk s = some (named s) := by
  unfold g_impl_NameOk named
  have h := implNameOk_l0 hs bigK 0 (Nat.zero_le _) (by unfold bigK; omega)
  rw [show ((0 : Nat) : Int) = 0 from rfl] at h
  rw [h, List.drop_zero, within_eq]
  cases s.all good with
  | false => rfl
  | true =>
    simp only [if_true, Option.bind_some, Bool.true_and]
    congr 1
    exact decide_eq_decide.2 (by omega)
theorem specNameOk {s : Bs} (hs : s.length ≤ 1048576) : g_spec_NameOk s = some (named s) := by
  unfold g_spec_NameOk named
  have h := specNameOk_l0 hs bigK 0 (Nat.zero_le _) (by unfold bigK; omega)
  rw [show ((0 : Nat) : Int) = 0 from rfl] at h
  rw [h, List.drop_zero, specIn_eq]
  have e : decide ((1 : Int) ≤ s.length ∧ (s.length : Int) ≤ 24) = decide (1 ≤ s.length ∧ s.length ≤ 24) := decide_eq_decide.2 (by omega)
  rw [e]
  cases decide (1 ≤ s.length ∧ s.length ≤ 24) <;> cases s.all good <;> rfl
theorem packOne_l0_eq {s : Bs} (hg : s.all good = true) (hs : s.length ≤ 24) : ∀ (k : Nat) (q : Nat) (left n : Nat), n ≤ s.length → left ≤ 28 → q < 2 ^ (28 - left) →
    g_spec_l03One_l0 s k ((2 ^ left * q : Nat) : Int) left n = g_impl_PackOne_l0 s k ((2 ^ left * q : Nat) : Int) left n n := by
  intro k
  induction k with
  | zero => intro q left n _ _ _; rfl
  | succ k ih =>
    intro q left n h0 h1 h2
    unfold g_spec_l03One_l0 g_impl_PackOne_l0
    by_cases hn : n < s.length
    · have hb := UInt8.toNat_lt s[n]
      obtain ⟨x, hx, x0, x1⟩ := letterOf_ok (b := (s[n].toNat : Int)) (by omega) (by omega)
      have hgn : good s[n] = true := List.all_eq_true.1 hg _ (List.getElem_mem hn)
      rw [good_of hx] at hgn
      have hx1 : 1 ≤ x := of_decide_eq_true hgn
      obtain ⟨w, c, hw, hc, w0, w1, c0, c1⟩ := wb (k := x) (by omega) x1
      rw [decide_eq_true (by omega), idxS_nat hn]
      simp only [cond_true, Option.bind_some, letterOf_eq (b := (s[n].toNat : Int)) (by omega) (by omega), hx, width_eq, hw, bits_eq (show -1 ≤ x by omega) x1, hc]
      by_cases hl : w > (left : Int)
      · rw [decide_eq_true hl]; rfl
      · rw [decide_eq_false hl]
        obtain ⟨W, rfl⟩ := Int.eq_ofNat_of_zero_le (show 0 ≤ w by omega)
        obtain ⟨c', rfl⟩ := Int.eq_ofNat_of_zero_le c0
        simp only [Int.ofNat_eq_natCast, Int.toNat_natCast] at *
        have hWl : W ≤ left := by omega
        have hc7 : c' < 2 ^ W := by rw [← pwN] at c1; omega
        have p7 : 2 ^ W ≤ 2 ^ 7 := Nat.pow_le_pow_right (by decide) (by omega)
        have eL : (left : Int) - (W : Int) = ((left - W : Nat) : Int) := by omega
        have hN : (c' : Int) * 2 ^ (left - W) = ((c' * 2 ^ (left - W) : Nat) : Int) := by rw [← pwN, Int.natCast_mul]
        have e1 : 2 ^ left = 2 ^ (left - W) * 2 ^ W := by rw [← Nat.pow_add, show left - W + W = left by omega]
        have hlt : c' * 2 ^ (left - W) < 2 ^ left := by
          rw [e1, Nat.mul_comm (2 ^ (left - W))]
          exact Nat.mul_lt_mul_of_pos_right hc7 (Nat.two_pow_pos _)
        have p28 : 2 ^ left ≤ 2 ^ 28 := Nat.pow_le_pow_right (by decide) h1
        have hf : 2 ^ left * q < 2 ^ 28 := by
          have : 2 ^ 28 = 2 ^ left * 2 ^ (28 - left) := by rw [← Nat.pow_add, show left + (28 - left) = 28 by omega]
          rw [this]
          exact Nat.mul_lt_mul_of_pos_left h2 (Nat.two_pow_pos _)
        have hor : orI .u32 ((2 ^ left * q : Nat) : Int) ((c' * 2 ^ (left - W) : Nat) : Int) = ((2 ^ left * q + c' * 2 ^ (left - W) : Nat) : Int) := by
          rw [orU (by omega) (by omega) (by omega) (by omega), Int.toNat_natCast, Int.toNat_natCast, or_low left hlt]
        have hnew : 2 ^ left * q + c' * 2 ^ (left - W) = 2 ^ (left - W) * (2 ^ W * q + c') := by
          rw [e1, Nat.mul_add, Nat.mul_assoc, Nat.mul_comm c']
        have hq : 2 ^ W * q + c' < 2 ^ (28 - (left - W)) := by
          have e2 : 2 ^ (28 - (left - W)) = 2 ^ W * 2 ^ (28 - left) := by rw [← Nat.pow_add, show W + (28 - left) = 28 - (left - W) by omega]
          rw [e2]
          calc 2 ^ W * q + c' < 2 ^ W * q + 2 ^ W := by omega
            _ = 2 ^ W * (q + 1) := by rw [Nat.mul_add, Nat.mul_one]
            _ ≤ 2 ^ W * 2 ^ (28 - left) := Nat.mul_le_mul_left _ h2
        have hsum : ((2 ^ left * q : Nat) : Int) + ((c' * 2 ^ (left - W) : Nat) : Int) = ((2 ^ (left - W) * (2 ^ W * q + c') : Nat) : Int) := by rw [← hnew]; omega
        have hbd : 2 ^ (left - W) * (2 ^ W * q + c') < 2 ^ 29 := by rw [← hnew]; omega
        rw [eL, wI64 (x := ((left - W : Nat) : Int)) (by omega) (by omega), wU64 (x := ((left - W : Nat) : Int)) (by omega) (by omega), shl_eq (by omega) (by omega) (by decide), shl_eq (by omega) (by omega) (by decide), wI64 (x := (c' : Int)) (by omega) (by omega)]
        simp only [Int.toNat_natCast, hN, cond_false, Option.bind_some]
        rw [wI64 (x := ((c' * 2 ^ (left - W) : Nat) : Int)) (by omega) (by omega), wU32 (x := ((c' * 2 ^ (left - W) : Nat) : Int)) (by omega) (by omega), hor, hsum, hnew, wI64 (by omega) (by omega), wI64 (by omega) (by omega), show ((n : Int) + 1) = ((n + 1 : Nat) : Int) by omega]
        exact ih _ _ _ (by omega) (by omega) hq
    · rw [decide_eq_false (by omega)]; rfl
theorem named_len {s : Bs} (h : named s = true) : s.all good = true ∧ 1 ≤ s.length ∧ s.length ≤ 24 := by
  unfold named at h
  rw [Bool.and_eq_true] at h
  exact ⟨h.1, of_decide_eq_true h.2⟩
theorem packOne_eq {s : Bs} (h : named s = true) : g_spec_l03One s = g_impl_PackOne s := by
  obtain ⟨hg, _, hl⟩ := named_len h
  have hp := packOne_ok (s := s) (by omega)
  unfold g_impl_PackOne at hp ⊢
  unfold g_spec_l03One
  rw [implNameOk (by omega), h] at hp ⊢
  have e := packOne_l0_eq hg hl bigK 0 28 0 (Nat.zero_le _) (by decide) (by decide)
  simp only [Nat.mul_zero, Int.natCast_zero] at e
  have e' : g_spec_l03One_l0 s bigK 0 28 0 = g_impl_PackOne_l0 s bigK 0 28 0 0 := e
  rw [e']
  simp only [Option.bind_some, Bool.not_true, cond_false] at hp ⊢
  obtain ⟨r, hr, hb, _⟩ := hp
  cases hq : g_impl_PackOne_l0 s bigK 0 28 0 0 with
  | none => rw [hq] at hr; cases hr
  | some p =>
    rw [hq] at hr
    simp only [Option.bind_some, Option.some.injEq] at hr ⊢
    subst hr
    rw [wU32 hb.1 hb.2]
theorem all_drop {s : Bs} (h : s.all good = true) (n : Nat) : (s.drop n).all good = true :=
  List.all_eq_true.2 fun x hx => List.all_eq_true.1 h x (List.mem_of_mem_drop hx)
theorem pack_l0_eq : ∀ (k : Nat) (s : Bs) (out : List Int), s.all good = true → s.length ≤ 24 → g_spec_Pack_l0 k s out = g_impl_Pack_l0 k s out := by
  intro k
  induction k with
  | zero => intro s out _ _; rfl
  | succ k ih =>
    intro s out hg hl
    unfold g_spec_Pack_l0 g_impl_Pack_l0
    rw [implNameOk (by omega)]
    cases hn : named s with
    | false =>
      have : s = [] := by
        unfold named at hn
        rw [hg, Bool.true_and] at hn
        have := of_decide_eq_false hn
        exact List.eq_nil_of_length_eq_zero (by omega)
      subst this
      rfl
    | true =>
      have h1 := named_len hn
      have : (s != []) = true := by
        cases s with
        | nil => simp at h1
        | cons _ _ => rfl
      rw [this, packOne_eq hn]
      simp only [cond_true, Option.bind_some]
      obtain ⟨r, hr, _, r0, r1, _⟩ := packOne_ok (s := s) (by omega)
      rw [hr]
      simp only [Option.bind_some]
      cases app out [r.1] with
      | none => rfl
      | some o =>
        simp only [Option.bind_some]
        rw [subL_drop r0 r1]
        simp only [Option.bind_some]
        exact ih _ _ (all_drop hg _) (by rw [List.length_drop]; omega)
theorem pack_eq {s : Bs} (hs : s.length ≤ 1048576) : g_spec_Pack s = g_impl_Pack s := by
  unfold g_spec_Pack g_impl_Pack
  rw [specNameOk hs]
  cases hn : named s with
  | false =>
    simp only [Option.bind_some, Bool.not_false, cond_true]
    rw [show bigK = 18446744073709551615 + 1 from rfl]
    unfold g_impl_Pack_l0
    rw [implNameOk hs, hn]
    rfl
  | true =>
    have h1 := named_len hn
    simp only [Option.bind_some, Bool.not_true, cond_false]
    rw [pack_l0_eq _ _ _ h1.1 h1.2.2]
theorem same_l0 {a b : List Int} (hl : a.length = b.length) (hm : a.length ≤ 1048576) : ∀ (k n : Nat), n ≤ a.length → a.length - n < k →
    g_spec_l03Same_l0 a b k n = some (if a.drop n = b.drop n then .inl () else .inr ()) := by
  intro k
  induction k with
  | zero => intro n h0 h1; omega
  | succ k ih =>
    intro n h0 h1
    unfold g_spec_l03Same_l0
    by_cases hn : n < a.length
    · have hn' : n < b.length := by omega
      rw [decide_eq_true (by omega), getI_nat, getI_nat, List.getElem?_eq_getElem hn, List.getElem?_eq_getElem hn', List.drop_eq_getElem_cons hn, List.drop_eq_getElem_cons hn']
      simp only [cond_true, Option.bind_some]
      by_cases he : a[n] = b[n]
      · have : (a[n] != b[n]) = false := by rw [he]; simp
        rw [this, cond_false, wI64 (by omega) (by omega), show ((n : Int) + 1) = ((n + 1 : Nat) : Int) by omega, ih (n + 1) (by omega) (by omega), he]
        simp only [List.cons.injEq, true_and]
      · have : (a[n] != b[n]) = true := by simpa using he
        rw [this, cond_true, if_neg (fun h => he (List.cons.inj h).1)]
    · rw [decide_eq_false (by omega), cond_false, List.drop_eq_nil_of_le (by omega), List.drop_eq_nil_of_le (by omega), if_pos rfl]
theorem same_eq {a b : List Int} (hm : a.length ≤ 1048576) : g_spec_l03Same a b = some (decide (a = b)) := by
  unfold g_spec_l03Same
  by_cases hl : a.length = b.length
  · have : ((a.length : Int) != (b.length : Int)) = false := by rw [hl]; simp
    rw [this, cond_false]
    have h := same_l0 hl hm bigK 0 (Nat.zero_le _) (by unfold bigK; omega)
    rw [show ((0 : Nat) : Int) = 0 from rfl] at h
    rw [h]
    by_cases he : a = b
    · simp [he]
    · simp [he]
  · have : ((a.length : Int) != (b.length : Int)) = true := by simp; omega
    rw [this, cond_true, decide_eq_false (fun h => hl (by rw [h]))]
end Go.Proofs.YthhoellakpnjpaaGreat

namespace Go.Proofs.YthhoellakpnjpaaGreat
open Go Go.Fm
set_option linter.unusedVariables false
set_option linter.unusedSimpArgs false
theorem unpack_l0_eq {l : List Int} (hu : U32 l) (hl : l.length ≤ 1048576) : ∀ (k : Nat) (name : Bs) (n : Nat), n ≤ l.length → g_spec_Unpack_l0 l k name n = g_impl_Unpack_l0 l k name n := by
  intro k
  induction k with
  | zero => intro name n _; rfl
  | succ k ih =>
    intro name n h0
    unfold g_spec_Unpack_l0 g_impl_Unpack_l0
    by_cases hn : n < l.length
    · have hb := hu l[n] (List.getElem_mem hn)
      rw [decide_eq_true (by omega), getI_nat, List.getElem?_eq_getElem hn, cond_true, cond_true, Option.bind_some, Option.bind_some, unpackOne_eq hb.1 hb.2]
      obtain ⟨s, hs, _⟩ := unpackOne_ok (f := l[n])
      rw [hs, Option.bind_some, Option.bind_some]
      cases catS name s with
      | none => rfl
      | some o => rw [Option.bind_some, Option.bind_some, wI64 (by omega) (by omega), show ((n : Int) + 1) = ((n + 1 : Nat) : Int) by omega]; exact ih _ _ (by omega)
    · rw [decide_eq_false (by omega)]; rfl
theorem unpack_eq {l : List Int} (hu : U32 l) : g_spec_Unpack l = g_impl_Unpack l := by
  unfold g_impl_Unpack
  unfold g_spec_Unpack
  by_cases hl : (l.length : Int) > 24
  · rw [decide_eq_true hl, cond_true, cond_true]
  · rw [decide_eq_false hl]
    simp only [cond_false]
    have hE := unpack_l0_eq hu (by omega) bigK [] 0 (Nat.zero_le _)
    rw [Int.natCast_zero] at hE
    rw [hE]
    have key : ∀ (k : Nat) (name : Bs) (i : Int), 0 ≤ i → i ≤ l.length → (name.length : Int) ≤ 7 * i → l.length - i < k → Tot (g_impl_Unpack_l0 l k name i) fun r => r.length ≤ 168 := by
      intro k
      induction k with
      | zero => intro name i h0 h1 h2 h3; omega
      | succ k ih =>
        intro name i h0 h1 h2 h3
        unfold g_impl_Unpack_l0
        refine .condD (fun hi => ?_) fun _ => .some (by omega)
        obtain ⟨v, hv, _⟩ := getI_ex h0 hi
        refine .bindE hv (.bind unpackOne_ok fun s hs => .bindE (catS_eq (by omega)) ?_)
        rw [wI64 (x := i + 1) (by omega) (by omega)]
        exact ih _ _ (by omega) (by omega) (by rw [List.length_append]; omega) (by omega)
    obtain ⟨nm, hnm, hnl⟩ := key bigK [] 0 (by decide) (by omega) (by decide) (by unfold bigK; omega)
    rw [hnm]
    simp only [Option.bind_some]
    rw [specNameOk (by omega), implNameOk (by omega), pack_eq (by omega)]
    obtain ⟨p, hp, _, hpl⟩ := pack_ok (s := nm) (by omega)
    rw [hp]
    simp only [Option.bind_some]
    rw [same_eq (by omega), eqU (by omega)]
theorem fieldOk_eq {f : Int} (h0 : 0 ≤ f) (h1 : f < 4294967296) : g_spec_FieldOk f = g_impl_FieldOk f := by
  unfold g_spec_FieldOk g_impl_FieldOk
  rw [unpackOne_eq h0 h1]
  obtain ⟨s, hs, hl⟩ := unpackOne_ok (f := f)
  rw [hs]
  simp only [Option.bind_some]
  rw [pack_eq (by omega)]
  obtain ⟨p, hp, _, hpl⟩ := pack_ok (s := s) (by omega)
  rw [hp]
  simp only [Option.bind_some]
  rw [eqU (by omega)]
  cases p with
  | nil => rfl
  | cons a r =>
    cases r with
    | nil =>
      have : getI [a] 0 = some a := rfl
      simp [this]
      by_cases h : a = f
      · simp [h]
      · simp [h]
    | cons b r =>
      have : (((a :: b :: r).length : Int) == 1) = false := by simp; omega
      rw [this]
      simp
theorem tag_eq (k : Int) : g_spec_l04Tag k = g_impl_nameTag k := rfl
theorem wmul16 (f : Int) : (IntKind.wrap .u32 (f * 16)) % 16 = 0 := by
  simp [IntKind.wrap, IntKind.bits, IntKind.signed]
theorem or_tag {f t : Int} (t0 : 0 ≤ t) (t1 : t < 16) : orI .u32 (IntKind.wrap .u32 (f * 16)) t = IntKind.wrap .u32 (IntKind.wrap .u32 (f * 16) + t) := by
  have hb := wU32_bd (f * 16)
  have h16 := wmul16 f
  generalize IntKind.wrap .u32 (f * 16) = x at *
  rw [orU hb.1 hb.2 t0 (by omega), wU32 (by omega) (by omega)]
  have e : x.toNat = 2 ^ 4 * (x.toNat / 16) := by omega
  rw [e, or_low 4 (by omega)]
  omega
theorem or_zero {f : Int} : orI .u32 (IntKind.wrap .u32 (f * 16)) 0 = IntKind.wrap .u32 (f * 16) := by
  have hb := wU32_bd (f * 16)
  rw [or_tag (by decide) (by decide), Int.add_zero, wU32 hb.1 hb.2]
theorem word_l0 {t : Int} (t0 : 0 ≤ t) (t1 : t < 16) : ∀ (k : Nat) (done rest : List Int), done ≠ [] → rest.length < k → done.length + rest.length ≤ 1048576 →
    g_spec_l04Word_l0 t k (done ++ rest) done.length = some (done ++ rest.map fun f => orI .u32 (IntKind.wrap .u32 (f * 16)) 0) := by
  intro k
  induction k with
  | zero => intro done rest _ h1; omega
  | succ k ih =>
    intro done rest h0 h1 h2
    unfold g_spec_l04Word_l0
    cases rest with
    | nil => rw [decide_eq_false (by simp)]; simp
    | cons f r =>
      have hd : 1 ≤ done.length := by cases done with | nil => exact absurd rfl h0 | cons _ _ => simp
      rw [decide_eq_true (by simp; omega), getI_nat, List.getElem?_append_right (Nat.le_refl _), Nat.sub_self]
      have e0 : ((done.length : Int) == 0) = false := by simp; omega
      simp only [cond_true, List.getElem?_cons_zero, Option.bind_some, e0, cond_false]
      rw [Int.toNat_natCast, List.set_append_right _ _ (Nat.le_refl _), Nat.sub_self, List.set_cons_zero]
      rw [wI64 (by omega) (by simp at h2; omega)]
      have := ih (done ++ [IntKind.wrap .u32 (f * 16)]) r (by simp) (by simp at h1; omega) (by simp at h2 ⊢; omega)
      simp only [List.append_assoc, List.singleton_append, List.length_append, List.length_singleton] at this
      rw [show ((done.length : Int) + 1) = ((done.length + 1 : Nat) : Int) by omega, this, List.map_cons, or_zero]
theorem word_eq {t : Int} {s : Bs} {fs : List Int} (t0 : 0 ≤ t) (t1 : t < 16) (hs : s.length ≤ 1048576) (hp : g_impl_Pack s = some fs) (hl : fs.length ≤ 24) : g_spec_l04Word t s = some (nameCells t fs) := by
  unfold g_spec_l04Word
  rw [pack_eq hs, hp]
  simp only [Option.bind_some]
  cases fs with
  | nil => rfl
  | cons f r =>
    have h1 : g_spec_l04Word_l0 t bigK (f :: r) 0 = some (nameCells t (f :: r)) := by
      rw [show bigK = 18446744073709551615 + 1 from rfl]
      unfold g_spec_l04Word_l0
      have e1 : getI (f :: r) 0 = some f := rfl
      have e2 : ∀ x, getI ((f :: r).set (Int.toNat 0) x) 0 = some x := fun x => rfl
      rw [decide_eq_true (by simp), e1]
      simp only [cond_true, Option.bind_some, e2, show ((0 : Int) == 0) = true from rfl]
      rw [wI64 (by decide) (by decide)]
      have := word_l0 t0 t1 18446744073709551615 [IntKind.wrap .u32 (IntKind.wrap .u32 (f * 16) + t)] r (by simp) (by simp at hl; omega) (by simp at hl ⊢; omega)
      simp only [List.singleton_append, List.length_singleton] at this
      rw [show ((0 : Int) + 1) = ((1 : Nat) : Int) from rfl]
      rw [show List.set (List.set (f :: r) (Int.toNat 0) (IntKind.wrap .u32 (f * 16))) (Int.toNat 0) (IntKind.wrap .u32 (IntKind.wrap .u32 (f * 16) + t)) = IntKind.wrap .u32 (IntKind.wrap .u32 (f * 16) + t) :: r from rfl, this]
      simp only [nameCells, or_tag t0 t1]
    rw [h1]
    rfl
theorem num_eq {n : Int} {hex : Bool} {s l : Int} (hs : s = 8 ∨ s = 6) (hl : l = 2 ∨ l = 5) : g_spec_l04Num n hex s l = g_impl_numberCells n hex s l := by
  unfold g_spec_l04Num g_impl_numberCells
  have hb := wU32_bd (IntKind.wrap .u32 n * 32)
  have h32 : IntKind.wrap .u32 (IntKind.wrap .u32 n * 32) % 32 = 0 := by
    simp [IntKind.wrap, IntKind.bits, IntKind.signed]
  generalize IntKind.wrap .u32 (IntKind.wrap .u32 n * 32) = x at *
  have key : ∀ b : Int, (b = 0 ∨ b = 16) → IntKind.wrap .u32 (IntKind.wrap .u32 (x + b) + s) = orI .u32 (orI .u32 x b) s ∧ IntKind.wrap .u32 (b + l) = orI .u32 b l := fun b hb2 => by
    constructor
    · have h1 : orI .u32 x b = x + b := by
        rw [orU hb.1 hb.2 (by omega) (by omega), show x.toNat = 2 ^ 5 * (x.toNat / 32) by omega, or_low 5 (by omega)]; omega
      rw [h1, wU32 (x := x + b) (by omega) (by omega), orU (by omega) (by omega) (by omega) (by omega), show (x + b).toNat = 2 ^ 4 * ((x + b).toNat / 16) by omega, or_low 4 (by omega), wU32 (by omega) (by omega)]; omega
    · rcases hb2 with rfl | rfl <;> rcases hl with rfl | rfl <;> rfl
  have k0 := key 0 (.inl rfl)
  have k1 := key 16 (.inr rfl)
  cases hex with
  | true => simp only [cond_true, Option.bind_some, k1.1, k1.2]
  | false => simp only [cond_false, Option.bind_some, k0.1, k0.2]
theorem nameTag_vals (k : Int) : ∃ t, g_impl_nameTag k = some t ∧ 0 ≤ t ∧ t < 16 ∧ (0 < t → 1 ≤ k ∧ k ≤ 6) := by
  unfold g_impl_nameTag
  have hc : ∀ (b : Bool) (x y : Option Int) (Q : Int → Prop), (b = true → ∃ t, x = some t ∧ Q t) → (b = false → ∃ t, y = some t ∧ Q t) → ∃ t, cond b x y = some t ∧ Q t := fun b x y Q h1 h2 => by
    cases b with
    | true => exact h1 rfl
    | false => exact h2 rfl
  refine hc _ _ _ _ (fun h => ⟨1, rfl, by have := eq_of_beq h; omega⟩) fun _ => hc _ _ _ _ (fun h => ⟨3, rfl, by have := eq_of_beq h; omega⟩) fun _ => hc _ _ _ _ (fun h => ⟨4, rfl, by have := eq_of_beq h; omega⟩) fun _ =>
    hc _ _ _ _ (fun h => ⟨9, rfl, by have := eq_of_beq h; omega⟩) fun _ => hc _ _ _ _ (fun h => ⟨10, rfl, by have := eq_of_beq h; omega⟩) fun _ => hc _ _ _ _ (fun h => ⟨11, rfl, by have := eq_of_beq h; omega⟩) fun _ => ⟨0, rfl, by decide, by decide, fun h => absurd h (by decide)⟩
end Go.Proofs.YthhoellakpnjpaaGreat

namespace Go.Proofs.YthhoellakpnjpaaGreat
open Go Go.Fm
set_option linter.unusedVariables false
set_option linter.unusedSimpArgs false
theorem plainE (a b c : Bool) : (cond a (cond (!b) (some c) (some false)) (some false) : Option Bool) = some (a && (!b && c)) := by cases a <;> cases b <;> cases c <;> rfl
theorem cells_eq {it : GItem} (hs : it.Name.length ≤ 1048576) : g_spec_CellsOf it = g_impl_CellsOf it := by
  obtain ⟨K, nm, n, hex, raw⟩ := it
  obtain ⟨t, ht, t0, t1, tk⟩ := nameTag_vals K
  obtain ⟨p, hp, _, hpl⟩ := pack_ok (s := nm) hs
  simp only at hs
  unfold g_spec_CellsOf g_impl_CellsOf
  simp only [tag_eq, ht, plainE, Option.bind_some, beq_self_eq_true, Bool.true_and, Bool.and_true, hp]
  generalize (n == 0) = bn
  generalize (raw == 0) = br
  by_cases k0 : K = 0
  · subst k0
    have : t = 0 := by
      have h : g_impl_nameTag 0 = some 0 := by kernel_rfl
      rw [h] at ht; cases ht; rfl
    subst this
    cases nm with
    | nil => cases bn <;> cases hex <;> simp
    | cons a b => simp
  by_cases k7 : K = 7
  · subst k7
    have : t = 0 := by
      have h : g_impl_nameTag 7 = some 0 := by kernel_rfl
      rw [h] at ht; cases ht; rfl
    subst this
    rw [num_eq (.inl rfl) (.inl rfl)]
    cases nm with
    | nil => cases br <;> simp <;> cases g_impl_numberCells n hex 8 2 <;> rfl
    | cons a b => simp
  by_cases k8 : K = 8
  · subst k8
    have : t = 0 := by
      have h : g_impl_nameTag 8 = some 0 := by kernel_rfl
      rw [h] at ht; cases ht; rfl
    subst this
    rw [num_eq (.inr rfl) (.inr rfl)]
    cases nm with
    | nil => cases br <;> simp <;> cases g_impl_numberCells n hex 6 5 <;> rfl
    | cons a b => simp
  by_cases k9 : K = 9
  · subst k9
    have : t = 0 := by
      have h : g_impl_nameTag 9 = some 0 := by kernel_rfl
      rw [h] at ht; cases ht; rfl
    subst this
    rw [word_eq (by decide) (by decide) hs hp hpl]
    cases p with
    | nil => simp [nameCells]
    | cons f r =>
      cases r with
      | nil =>
        have hg : getI [f] 0 = some f := rfl
        have ha : ∀ x y : Int, app [x] [y] = some [x, y] := fun x y => app_eq (by simp)
        cases br <;> cases hex <;> simp [nameCells, hg, ha]
      | cons g r =>
        have h2 : ∀ (a b : Int) (r : List Int), (((a :: b :: r).length : Int) == 1) = false := fun a b r => by simp; omega
        simp only [nameCells, List.map_cons, h2, Option.bind_some, cond_false]
        cases br <;> cases hex <;> simp
  · have e0 : (K == 0) = false := by simpa using k0
    have e7 : (K == 7) = false := by simpa using k7
    have e8 : (K == 8) = false := by simpa using k8
    have e9 : (K == 9) = false := by simpa using k9
    rw [word_eq t0 t1 hs hp hpl]
    have hc := cells_l0 hpl bigK 0 t [] (Nat.zero_le _) (by unfold bigK; omega) rfl (fun h => by omega)
    simp only [Int.natCast_zero, List.drop_zero, List.nil_append] at hc
    simp only [e0, e7, e8, e9, cond_false, Bool.false_and, hc, Option.bind_some]
    cases bn <;> cases br <;> cases hex <;> by_cases h0 : 0 < t <;> simp [h0]
theorem name_l0 {cells : List Int} (hu : U32 cells) (hl : cells.length ≤ 64) : ∀ (k n : Nat) (fields : List Int), n ≤ cells.length → cells.length - n < k → fields.length + (cells.length - n) ≤ 65 →
    g_spec_l04Name_l0 cells k fields n = some (fields ++ ((cells.drop n).takeWhile runP).map (· / 16)) := by
  intro k
  induction k with
  | zero => intro n fields h0 h1; omega
  | succ k ih =>
    intro n fields h0 h1 h2
    unfold g_spec_l04Name_l0
    by_cases hn : n < cells.length
    · have hx := hu cells[n] (List.getElem_mem hn)
      rw [decide_eq_true (by omega), getI_nat, List.getElem?_eq_getElem hn, List.drop_eq_getElem_cons hn]
      simp only [cond_true, Option.bind_some]
      rw [Int.tmod_eq_emod_of_nonneg hx.1, Int.tdiv_eq_ediv_of_nonneg hx.1]
      have hc : (cond (cells[n] % 16 == 0) (some (cells[n] != 0)) (some false) : Option Bool) = some (runP cells[n]) := by
        unfold runP
        cases cells[n] % 16 == 0 <;> cases cells[n] != 0 <;> rfl
      rw [hc, Option.bind_some]
      cases hr : runP cells[n] with
      | true =>
        simp only [cond_true]
        rw [wU32 (by omega) (by omega), app_eq (by simp; omega), Option.bind_some, wI64 (by omega) (by omega), show ((n : Int) + 1) = ((n + 1 : Nat) : Int) by omega, ih (n + 1) _ (by omega) (by omega) (by simp; omega), List.takeWhile_cons, hr]
        simp
      | false =>
        simp only [cond_false]
        rw [List.takeWhile_cons, hr]
        simp
    · rw [decide_eq_false (by omega), cond_false, List.drop_eq_nil_of_le (by omega)]
      simp
theorem kind_eq {t : Int} (h0 : 0 ≤ t) (h1 : t < 16) : g_spec_l04Kind t = (if isName t then g_impl_nameKind t else some (-1)) ∧ (isName t = true → ∃ k, g_impl_nameKind t = some k ∧ 1 ≤ k) := by
  have h : (List.range 16).all (fun t => g_spec_l04Kind (t : Int) == (if isName (t : Int) then g_impl_nameKind (t : Int) else some (-1)) && (!isName (t : Int) || (match g_impl_nameKind (t : Int) with | some k => decide (1 ≤ k) | none => false))) = true := by kernel_rfl
  have h := List.all_eq_true.1 h t.toNat (List.mem_range.2 (by omega))
  rw [Int.toNat_of_nonneg h0, Bool.and_eq_true] at h
  refine ⟨eq_of_beq h.1, fun hn => ?_⟩
  have h2 := h.2
  rw [hn] at h2
  cases hk : g_impl_nameKind t with
  | none => rw [hk] at h2; simp at h2
  | some k => rw [hk] at h2; exact ⟨k, rfl, by simpa using h2⟩
theorem num_long {n : Int} {hex : Bool} {s l : Int} {cs : List Int} (h : g_impl_numberCells n hex s l = some cs) : cs.length = 1 ∨ cs = [orI .u32 (cond hex 16 0) l, IntKind.wrap .u32 n] := by
  unfold g_impl_numberCells at h
  have hb : (cond hex (some 16) (some 0) : Option Int) = some (cond hex 16 0) := by cases hex <;> rfl
  have hc : (cond (decide (n ≥ -67108864)) (some (decide (n ≤ 67108863))) (some false) : Option Bool) = some (decide (n ≥ -67108864) && decide (n ≤ 67108863)) := by cases decide (n ≥ -67108864) <;> rfl
  rw [hb, hc] at h
  simp only [Option.bind_some] at h
  cases h2 : (decide (n ≥ -67108864) && decide (n ≤ 67108863)) with
  | true => rw [h2] at h; cases h; exact .inl rfl
  | false => rw [h2] at h; cases h; exact .inr rfl
theorem nameCells_len {t : Int} {l : List Int} : (nameCells t l).length = l.length := by cases l <;> simp [nameCells]
/-- What the reference reads at a place. -/
theorem item_eq {cells tl : List Int} {n : Nat} {v : Int} (hu : U32 cells) (hl : cells.length ≤ 64) (hd : cells.drop n = v :: tl) :
    Tot (g_spec_l04Item cells n) fun r => pm v (tl.takeWhile runP) tl.head? = some r.1 ∧ ∀ cs, g_impl_CellsOf r.1 = some cs → r.2 = cs.length := by
  have hn : n < cells.length := by
    rcases Nat.lt_or_ge n cells.length with h | h
    · exact h
    · rw [List.drop_eq_nil_of_le h] at hd; cases hd
  have hc := List.drop_eq_getElem_cons hn
  rw [hd] at hc
  have hv0 : cells[n] = v := (List.cons.inj hc).1.symm
  have htl : cells.drop (n + 1) = tl := (List.cons.inj hc).2.symm
  have hv := hu v (by rw [← hv0]; exact List.getElem_mem hn)
  have hge : getI cells n = some v := by rw [getI_nat, List.getElem?_eq_getElem hn, hv0]
  have hn1 : IntKind.wrap .i64 ((n : Int) + 1) = ((n + 1 : Nat) : Int) := by rw [wI64 (by omega) (by omega)]; omega
  have htlen : tl.length = cells.length - (n + 1) := by rw [← htl, List.length_drop]
  have hnx : getI cells ((n + 1 : Nat) : Int) = tl.head? := by rw [getI_nat, ← htl, List.head?_drop]
  have hraw : ∀ cs, g_impl_CellsOf (raw v) = some cs → (1 : Int) = cs.length := fun cs h => by rw [show g_impl_CellsOf (raw v) = some [v] from cells_raw] at h; cases h; rfl
  have e16 : IntKind.wrap .u32 (Int.tdiv v 16) = v / 16 := by rw [Int.tdiv_eq_ediv_of_nonneg hv.1, wU32 (by omega) (by omega)]
  have hkd := kind_eq (t := v % 16) (by omega) (by omega)
  unfold g_spec_l04Item
  rw [hge]
  refine .bindE rfl ?_
  rw [Int.tmod_eq_emod_of_nonneg hv.1, hkd.1, e16, hn1]
  cases h1 : isName (v % 16) with
  | true =>
    obtain ⟨kd, hkd1, hkd2⟩ := hkd.2 h1
    rw [if_pos rfl, hkd1]
    have hs := name_l0 hu hl bigK (n + 1) [v / 16] (by omega) (by unfold bigK; omega) (by simp; omega)
    rw [htl, List.singleton_append] at hs
    have hul : U32 (v / 16 :: (tl.takeWhile runP).map (· / 16)) := fun x hx => by
      rcases List.mem_cons.1 hx with rfl | hx
      · omega
      · obtain ⟨y, hy, rfl⟩ := List.mem_map.1 hx
        have := hu y (List.mem_of_mem_drop (by rw [htl]; exact (List.takeWhile_sublist runP).subset hy))
        omega
    obtain ⟨y, hy, hyl, hyp⟩ := unpack_ok (l := v / 16 :: (tl.takeWhile runP).map (· / 16))
    have hnm : g_spec_l04Name cells n kd = some (cond (!y.2) ((⟨0, [], 0, false, 0⟩ : GItem), 0) ((⟨kd, y.1, 0, false, 0⟩ : GItem), (((v / 16 :: (tl.takeWhile runP).map (· / 16)).length : Nat) : Int))) := by
      unfold g_spec_l04Name
      rw [hge]
      simp only [Option.bind_some]
      rw [e16, hn1, hs]
      simp only [Option.bind_some]
      rw [unpack_eq hul, hy]
      simp only [Option.bind_some]
      cases y.2 <;> rfl
    simp only [Option.bind_some]
    rw [decide_eq_true (by omega), cond_true, hnm]
    simp only [Option.bind_some]
    unfold pm
    rw [h1, cond_true, hy, Option.bind_some]
    cases h2 : y.2 with
    | false => exact .some ⟨rfl, hraw⟩
    | true =>
      have e : ((((v / 16 :: (tl.takeWhile runP).map (· / 16)).length : Nat) : Int) == 0) = false := by simp; omega
      simp only [Bool.not_true, cond_false, cond_true, e]
      refine .some ⟨by rw [hkd1]; rfl, fun cs hcs => ?_⟩
      obtain ⟨t, ht, t0, t1, _⟩ := nameTag_vals kd
      have hp := hyp h2
      obtain ⟨p, hp', _, hpl⟩ := pack_ok (s := y.1) (by omega)
      rw [hp] at hp'
      cases hp'
      have ht0 : 0 < t := by
        have hh : (List.range 16).all (fun x => !isName (x : Int) || (match (g_impl_nameKind (x : Int)).bind g_impl_nameTag with | some t => decide (0 < t) | none => false)) = true := by kernel_rfl
        have hh := List.all_eq_true.1 hh (v % 16).toNat (List.mem_range.2 (by omega))
        rw [Int.toNat_of_nonneg (by omega), h1, hkd1, Option.bind_some, ht] at hh
        simpa using hh
      rw [cells_name ht ht0 hp hpl] at hcs
      cases hcs
      rw [nameCells_len]
  | false =>
    rw [if_neg (by decide)]
    simp only [Option.bind_some]
    rw [show decide ((-1 : Int) ≥ 0) = false from rfl, cond_false]
    have hpm : ∀ nx, pm v (tl.takeWhile runP) nx = (cond (v % 16 == 8) (some ⟨7, [], IntKind.wrap .i32 v / 32, andI .u32 v 16 != 0, 0⟩) (cond (v % 16 == 6) (some ⟨8, [], IntKind.wrap .i32 v / 32, andI .u32 v 16 != 0, 0⟩)
      (cond (v % 16 == 2 || v % 16 == 5) (match nx with
        | none => some (raw v)
        | some w => (g_impl_CellsOf (lng v w)).bind fun y => cond (decide (y = [v, w])) (some (lng v w)) (some (raw v)))
      (cond (v % 16 == 12) (match nx with
        | none => some (raw v)
        | some w => (g_impl_FieldOk (v / 16)).bind fun b => cond b ((g_impl_UnpackOne (v / 16)).bind fun nm => some ⟨9, nm, IntKind.wrap .i32 w, false, 0⟩) (some (raw v))) (some (raw v)))))) := fun nx => by
      unfold pm; rw [h1]; first | done | (cases nx <;> rfl)
    rw [hpm]
    by_cases h8 : v % 16 = 8
    · have hN : g_spec_l04Number cells n = some (⟨7, [], IntKind.wrap .i32 v / 32, andI .u32 v 16 != 0, 0⟩, 1) := by
        unfold g_spec_l04Number
        rw [hge]
        simp only [Option.bind_some]
        rw [Int.tmod_eq_emod_of_nonneg hv.1, h8]
        rfl
      rw [h8, hN]
      refine .some ⟨rfl, fun cs hcs => ?_⟩
      rw [cells_7, short_back hv h8 2] at hcs
      cases hcs; rfl
    by_cases h6 : v % 16 = 6
    · have hN : g_spec_l04Number cells n = some (⟨8, [], IntKind.wrap .i32 v / 32, andI .u32 v 16 != 0, 0⟩, 1) := by
        unfold g_spec_l04Number
        rw [hge]
        simp only [Option.bind_some]
        rw [Int.tmod_eq_emod_of_nonneg hv.1, h6]
        rfl
      rw [h6, hN]
      refine .some ⟨rfl, fun cs hcs => ?_⟩
      rw [cells_8, short_back hv h6 5] at hcs
      cases hcs; rfl
    have b8 : (v % 16 == 8) = false := by simpa using h8
    have b6 : (v % 16 == 6) = false := by simpa using h6
    rw [b8, b6]
    simp only [cond_false]
    cases h25 : (v % 16 == 2 || v % 16 == 5) with
    | true =>
      have hch : (cond (v % 16 == 2) (some true) (some (v % 16 == 5)) : Option Bool) = some true := by
        revert h25
        cases v % 16 == 2 <;> cases v % 16 == 5 <;> simp
      rw [hch]
      simp only [Option.bind_some, cond_true]
      have hit : (cond (v % 16 == 5) (some (⟨8, [], 0, andI .u32 v 16 != 0, 0⟩ : GItem)) (some ⟨7, [], 0, andI .u32 v 16 != 0, 0⟩)) = some (cond (v % 16 == 5) (⟨8, [], 0, andI .u32 v 16 != 0, 0⟩ : GItem) ⟨7, [], 0, andI .u32 v 16 != 0, 0⟩) := by
        cases v % 16 == 5 <;> rfl
      have hlg : ∀ w, (⟨(cond (v % 16 == 5) (⟨8, [], 0, andI .u32 v 16 != 0, 0⟩ : GItem) ⟨7, [], 0, andI .u32 v 16 != 0, 0⟩).Kind, (cond (v % 16 == 5) (⟨8, [], 0, andI .u32 v 16 != 0, 0⟩ : GItem) ⟨7, [], 0, andI .u32 v 16 != 0, 0⟩).Name, IntKind.wrap .i32 w,
          (cond (v % 16 == 5) (⟨8, [], 0, andI .u32 v 16 != 0, 0⟩ : GItem) ⟨7, [], 0, andI .u32 v 16 != 0, 0⟩).Hex, (cond (v % 16 == 5) (⟨8, [], 0, andI .u32 v 16 != 0, 0⟩ : GItem) ⟨7, [], 0, andI .u32 v 16 != 0, 0⟩).Raw⟩ : GItem) = lng v w := fun w => by
        unfold lng; cases v % 16 == 5 <;> rfl
      have hN : g_spec_l04Number cells n = (match tl.head? with
          | none => some ((⟨0, [], 0, false, 0⟩ : GItem), 0)
          | some w => cond (v / 32 != 0) (some ((⟨0, [], 0, false, 0⟩ : GItem), 0)) ((g_impl_CellsOf (lng v w)).bind fun y => some (lng v w, IntKind.wrap .i64 (IntKind.wrap .i64 (Int.tdiv (y.length : Int) 2) * 2)))) := by
        unfold g_spec_l04Number
        rw [hge]
        simp only [Option.bind_some]
        rw [Int.tmod_eq_emod_of_nonneg hv.1, b6, b8, hn1]
        simp only [cond_false, hit, Option.bind_some]
        rw [Int.tdiv_eq_ediv_of_nonneg hv.1, wU32 (x := v / 32) (by omega) (by omega)]
        cases tl with
        | nil =>
          rw [decide_eq_true (by simp at htlen; omega)]
          rfl
        | cons w r =>
          rw [decide_eq_false (by simp at htlen; omega), hnx]
          simp only [cond_false, Option.bind_some, List.head?_cons, hlg]
          cases v / 32 != 0 with
          | true => rfl
          | false =>
            simp only [cond_false]
            rw [cells_eq (by unfold lng; cases v % 16 == 5 <;> simp)]
      rw [hN]
      cases tl with
      | nil => exact .some ⟨rfl, hraw⟩
      | cons w r =>
        simp only [List.head?_cons]
        obtain ⟨cs, hcs, _, hcl⟩ := lng_cells (v := v) (w := w)
        have hw := hu w (List.mem_of_mem_drop (by rw [htl]; exact List.mem_cons_self ..))
        rw [hcs]
        simp only [Option.bind_some]
        have hlong : cs = [v, w] ↔ (v / 32 = 0 ∧ cs.length = 2) := by
          have hww : IntKind.wrap .u32 (IntKind.wrap .i32 w) = w := by
            simp [IntKind.wrap, IntKind.bits, IntKind.signed]; split <;> omega
          have hcs2 : cs.length = 1 ∨ cs = [orI .u32 (cond (andI .u32 v 16 != 0) 16 0) (v % 16), w] := by
            have h25' : v % 16 = 2 ∨ v % 16 = 5 := by simpa using h25
            unfold lng at hcs
            rcases h25' with h2 | h5
            · rw [h2, show ((2 : Int) == 5) = false from rfl, cond_false, cells_7] at hcs
              have := num_long hcs
              rw [hww] at this
              rw [h2]; exact this
            · rw [h5, show ((5 : Int) == 5) = true from rfl, cond_true, cells_8] at hcs
              have := num_long hcs
              rw [hww] at this
              rw [h5]; exact this
          have hor : orI .u32 (cond (andI .u32 v 16 != 0) 16 0) (v % 16) = v % 32 := by
            rw [and16 hv.1 hv.2]
            by_cases hb : v / 16 % 2 = 1
            · rw [decide_eq_true hb, cond_true, orU (by decide) (by decide) (by omega) (by omega), show (16 : Int).toNat = 2 ^ 4 * 1 from rfl, or_low 4 (by omega)]; omega
            · rw [decide_eq_false hb, cond_false, orU (by decide) (by decide) (by omega) (by omega), show (0 : Int).toNat = 2 ^ 4 * 0 from rfl, or_low 4 (by omega)]; omega
          rw [hor] at hcs2
          constructor
          · intro h
            rcases hcs2 with h1 | h2
            · rw [h] at h1; simp at h1
            · rw [h] at h2 ⊢
              have := (List.cons.inj h2).1
              exact ⟨by omega, rfl⟩
          · intro h
            rcases hcs2 with h1 | h2
            · omega
            · rw [h2, show v % 32 = v by omega]
        by_cases h32 : v / 32 = 0
        · rw [h32, show ((0 : Int) != 0) = false from rfl, cond_false]
          by_cases h2 : cs.length = 2
          · rw [decide_eq_true (hlong.2 ⟨h32, h2⟩), h2]
            exact .some ⟨rfl, fun cs' h => by
              have : (IntKind.wrap .i64 (IntKind.wrap .i64 (Int.tdiv ((2 : Nat) : Int) 2) * 2)) = 2 := by decide
              rw [show g_impl_CellsOf (lng v w) = some cs from hcs] at h
              cases h
              rw [h2]; rfl⟩
          · have h1 : cs.length = 0 ∨ cs.length = 1 := by omega
            rw [decide_eq_false (fun h => h2 (hlong.1 h).2)]
            rcases h1 with h1 | h1 <;> rw [h1] <;> exact .some ⟨rfl, hraw⟩
        · have : (v / 32 != 0) = true := by simpa using h32
          rw [this, decide_eq_false (fun h => h32 (hlong.1 h).1)]
          exact .some ⟨rfl, hraw⟩
    | false =>
      have hch : (cond (v % 16 == 2) (some true) (some (v % 16 == 5)) : Option Bool) = some false := by
        revert h25
        cases v % 16 == 2 <;> cases v % 16 == 5 <;> simp
      rw [hch]
      simp only [Option.bind_some, cond_false]
      cases h12 : v % 16 == 12 with
      | false => exact .some ⟨rfl, hraw⟩
      | true =>
        simp only [cond_true]
        cases tl with
        | nil =>
          rw [decide_eq_false (by simp at htlen; omega)]
          exact .some ⟨rfl, hraw⟩
        | cons w r =>
          obtain ⟨b, hb, hbf⟩ := field_ok (f := v / 16)
          rw [decide_eq_true (by simp at htlen; omega), hnx, fieldOk_eq (by omega) (by omega), hb]
          simp only [cond_true, Option.bind_some, List.head?_cons]
          cases b with
          | false => exact .some ⟨rfl, hraw⟩
          | true =>
            obtain ⟨nm, h2, h3, h4⟩ := hbf rfl
            rw [cond_true, unpackOne_eq (by omega) (by omega), h2]
            simp only [cond_true, Option.bind_some]
            refine .some ⟨rfl, fun cs hcs => ?_⟩
            rw [cells_9 h4] at hcs
            cases hcs; rfl
theorem specParse_l0 {cells : List Int} (hu : U32 cells) (hl : cells.length ≤ 64) : ∀ (k n : Nat) (out its : List GItem), n ≤ cells.length → Parses (cells.drop n) its → cells.length - n < k → out.length + (cells.length - n) ≤ 64 → g_spec_ParseCells_l0 cells k out n = some (out ++ its) := by
  intro k
  induction k with
  | zero => intro n out its _ _ h; omega
  | succ k ih =>
    intro n out its hn hp h hlo
    unfold g_spec_ParseCells_l0
    by_cases hlt : n < cells.length
    · have hd := List.drop_eq_getElem_cons hlt
      have hud : U32 (cells[n] :: cells.drop (n + 1)) := fun x hx => hu x (List.mem_of_mem_drop (by rw [hd]; exact hx))
      have hld : (cells[n] :: cells.drop (n + 1)).length ≤ 64 := by rw [← hd, List.length_drop]; omega
      obtain ⟨r, hr, hpm, hrl⟩ := item_eq hu hl hd
      rw [← parse_pm hud hld] at hpm
      have hp' := hp
      rw [hd] at hp'
      cases hp' with
      | cons h1 h2 h3 h4 h5 =>
        rename_i rest cs it its'
        rw [h1] at hpm
        have hri : it = r.1 := Option.some.inj hpm
        have hrl2 := hrl cs (by rw [← hri]; exact h2)
        have hlen : cells.length - n = cs.length + rest.length := by rw [← List.length_drop, hd, h4, List.length_append]
        rw [decide_eq_true (by omega), cond_true, hr, Option.bind_some, app_eq (by simp; omega), Option.bind_some, hrl2, wI64 (by omega) (by omega), show (n : Int) + (cs.length : Int) = ((n + cs.length : Nat) : Int) by omega]
        have hd2 : cells.drop (n + cs.length) = rest := by rw [← List.drop_drop, hd, h4, List.drop_left]
        rw [ih (n + cs.length) _ its' (by omega) (by rw [hd2]; exact h5) (by omega) (by simp; omega), List.append_assoc, ← hri]
        rfl
    · rw [decide_eq_false (by omega), cond_false]
      have : cells.drop n = [] := List.drop_eq_nil_of_le (by omega)
      rw [this] at hp
      cases hp with
      | nil => rw [List.append_nil]
      | cons h1 h2 h3 h4 h5 =>
        have := congrArg List.length h4
        simp at this; omega
theorem specStrip_eq : ∀ (k : Nat) (out : List GItem), out.length ≤ 64 → g_spec_ParseCells_l1 k out = g_impl_ParseCells_l1 k out ((out.length : Int) - 1) := by
  intro k
  induction k with
  | zero => intro out _; rfl
  | succ k ih =>
    intro out hl
    unfold g_spec_ParseCells_l1 g_impl_ParseCells_l1
    rcases List.eq_nil_or_concat out with rfl | ⟨xs, x, rfl⟩
    · rfl
    · simp only [List.concat_eq_append] at *
      have hlen : (xs ++ [x]).length = xs.length + 1 := by simp
      rw [decide_eq_true (by omega), decide_eq_true (by omega), wI64 (x := (((xs ++ [x]).length : Nat) : Int) - 1) (by omega) (by omega), show (((xs ++ [x]).length : Nat) : Int) - 1 = ((xs.length : Nat) : Int) by omega, getI_nat, List.getElem?_concat_length]
      simp only [cond_true, Option.bind_some, isRz]
      by_cases hx : x = rz
      · rw [decide_eq_true hx, cond_true, cond_true, subL_take (by omega) (by omega), Option.bind_some, Option.bind_some, Int.toNat_natCast, List.take_left, wI64 (by omega) (by omega)]
        exact ih xs (by omega)
      · rw [decide_eq_false hx]; rfl
theorem parseCells_eq {cells : List Int} (hu : U32 cells) : g_spec_ParseCells cells = g_impl_ParseCells cells := by
  unfold g_spec_ParseCells g_impl_ParseCells
  by_cases hl : (cells.length : Int) > 64
  · rw [decide_eq_true hl, cond_true, cond_true]
  · rw [decide_eq_false hl, cond_false, cond_false]
    have hl : cells.length ≤ 64 := by omega
    obtain ⟨all, hp⟩ := parses_ex _ cells (Nat.le_refl _) hu hl
    have hlen := hp.len
    have h1 := specParse_l0 hu hl bigK 0 [] all (Nat.zero_le _) hp (by unfold bigK; omega) (by simpa using hl)
    rw [show ((0 : Nat) : Int) = 0 from rfl] at h1
    rw [h1, parse_l0 bigK cells [] all hp (by unfold bigK; omega) (by simpa using hl)]
    simp only [Option.bind_some, List.nil_append]
    rw [wI64 (by omega) (by omega), specStrip_eq _ _ (by omega)]
    cases g_impl_ParseCells_l1 bigK all ((all.length : Int) - 1) <;> rfl
end Go.Proofs.YthhoellakpnjpaaGreat

namespace Go.Proofs.YthhoellakpnjpaaGreat
open Go Go.Fm
set_option linter.unusedVariables false
set_option linter.unusedSimpArgs false
/-- The cells of a block. -/
def blk (cells : List Int) (b : Nat) : List Int := (cells.drop (64 * b)).take 64
theorem blk_u {cells : List Int} (hu : U32 cells) (b : Nat) : U32 (blk cells b) := fun x hx => hu x (List.mem_of_mem_drop (List.mem_of_mem_take hx))
theorem blk_len (cells : List Int) (b : Nat) : (blk cells b).length ≤ 64 := by unfold blk; rw [List.length_take]; omega
def storeB (cells : List Int) : Bool := decide (cells.length % 64 = 0 ∧ cells.length ≤ 768)
theorem specStoreOk {s : GStore} : g_spec_StoreOk s = some (storeB s.Cells) := by
  unfold g_spec_StoreOk storeB
  rw [Int.tmod_eq_emod_of_nonneg (by omega)]
  by_cases h : s.Cells.length % 64 = 0
  · have : (((s.Cells.length : Int) % 64) == 0) = true := by simp; omega
    rw [this, cond_true]
    congr 1
    exact decide_eq_decide.2 (by omega)
  · have : (((s.Cells.length : Int) % 64) == 0) = false := by simp; omega
    rw [this, cond_false]
    congr 1
    exact (decide_eq_false (by omega)).symm
theorem implStoreOk {s : GStore} : g_impl_StoreOk s = some (storeB s.Cells) := specStoreOk
theorem storeB_len {c : List Int} (h : storeB c = true) : c.length % 64 = 0 ∧ c.length ≤ 768 := of_decide_eq_true h
theorem blocks_eq {c : List Int} (h : storeB c = true) : IntKind.wrap .i64 (Int.tdiv (c.length : Int) 64) = ((c.length / 64 : Nat) : Int) := by
  have := storeB_len h
  rw [Int.tdiv_eq_ediv_of_nonneg (by omega), wI64 (by omega) (by omega)]; omega
theorem subBlk {c : List Int} (h : storeB c = true) {b : Nat} (hb : b < c.length / 64) : subL c (IntKind.wrap .i64 ((b : Int) * 64)) (IntKind.wrap .i64 (IntKind.wrap .i64 ((b : Int) + 1) * 64)) = some (blk c b) := by
  have := storeB_len h
  rw [wI64 (x := (b : Int) * 64) (by omega) (by omega), wI64 (x := (b : Int) + 1) (by omega) (by omega), wI64 (x := ((b : Int) + 1) * 64) (by omega) (by omega), subL_eq (by omega) (by omega) (by omega)]
  unfold blk
  congr 2
  · omega
  · congr 1; omega
theorem specBlock {s : GStore} (h : storeB s.Cells = true) {b : Nat} (hb : b < s.Cells.length / 64) : g_spec_BlockOf s b = some (blk s.Cells b, true) := by
  have := storeB_len h
  unfold g_spec_BlockOf g_spec_l05Has
  rw [specStoreOk, h]
  simp only [Option.bind_some, cond_true]
  rw [decide_eq_true (by omega), blocks_eq h, decide_eq_true (by omega)]
  simp only [cond_true, Option.bind_some, Bool.not_true, cond_false]
  rw [subBlk h hb, Option.bind_some, app_eq (by have := blk_len s.Cells b; simp; omega)]
  rfl
theorem hasBlocks {s : GStore} (h : storeB s.Cells = true) {b : Nat} (hb : b < s.Cells.length / 64) : g_impl_hasBlocks s [(b : Int)] = some true := by
  have := storeB_len h
  have hc : g_impl_hasBlocksc1 b s = some (false, s) := by
    unfold g_impl_hasBlocksc1
    rw [blocks_eq h, wI64 (by omega) (by omega), within_eq, decide_eq_true (by omega)]
    rfl
  have hl : ∀ k, g_slices_IndexFunc_int_impl_hasBlocksc1_l0 [(b : Int)] (k + 2) s 0 = some (.inl s.Cells) := fun k => by
    unfold g_slices_IndexFunc_int_impl_hasBlocksc1_l0
    rw [show decide ((0 : Int) < ([(b : Int)].length : Int)) = true from rfl, show getI [(b : Int)] 0 = some (b : Int) from rfl]
    simp only [cond_true, Option.bind_some, hc, cond_false]
    unfold g_slices_IndexFunc_int_impl_hasBlocksc1_l0
    rfl
  unfold g_impl_hasBlocks g_slices_ContainsFunc_int_impl_hasBlocksc1 g_slices_IndexFunc_int_impl_hasBlocksc1
  rw [implStoreOk, h, show bigK = 18446744073709551614 + 2 from rfl, hl]
  rfl
theorem implBlock {s : GStore} (h : storeB s.Cells = true) {b : Nat} (hb : b < s.Cells.length / 64) : g_impl_BlockOf s b = some (blk s.Cells b, true) := by
  unfold g_impl_BlockOf
  rw [hasBlocks h hb]
  simp only [Option.bind_some, Bool.not_true, cond_false]
  rw [subBlk h hb]
  unfold g_slices_Clone_uint32
  simp only [Option.bind_some]
  rw [app_eq (by have := blk_len s.Cells b; simp; omega)]
  rfl
/-- The items of a block. -/
def itsOf (cells : List Int) (b : Nat) : List GItem := (g_impl_ParseCells (blk cells b)).getD []
theorem itsOf_ok {cells : List Int} (hu : U32 cells) (b : Nat) : g_impl_ParseCells (blk cells b) = some (itsOf cells b) ∧ ∃ cs, Parses cs (itsOf cells b) ∧ cs.length ≤ 64 := by
  obtain ⟨its, cells', z, h1, h2, h3, _⟩ := parseCells_ok (blk_u hu b) (blk_len cells b)
  unfold itsOf
  rw [h1]
  refine ⟨rfl, cells', h3, ?_⟩
  have := blk_len cells b
  rw [h2, List.length_append] at this
  omega
theorem specItems {s : GStore} (hu : U32 s.Cells) (h : storeB s.Cells = true) {b : Nat} (hb : b < s.Cells.length / 64) : g_spec_ItemsOf s b = some (itsOf s.Cells b, true) := by
  unfold g_spec_ItemsOf
  rw [specBlock h hb]
  simp only [Option.bind_some, Bool.not_true, cond_false]
  rw [parseCells_eq (blk_u hu b), (itsOf_ok hu b).1]
  rfl
theorem implItems {s : GStore} (hu : U32 s.Cells) (h : storeB s.Cells = true) {b : Nat} (hb : b < s.Cells.length / 64) : g_impl_ItemsOf s b = some (itsOf s.Cells b, true) := by
  unfold g_impl_ItemsOf
  rw [implBlock h hb]
  simp only [Option.bind_some]
  rw [(itsOf_ok hu b).1]
  rfl
end Go.Proofs.YthhoellakpnjpaaGreat

namespace Go.Proofs.YthhoellakpnjpaaGreat
open Go Go.Fm
set_option linter.unusedVariables false
set_option linter.unusedSimpArgs false
/-- Items with their places. -/
def placedL : Nat → List GItem → List GPlaced
  | _, [] => []
  | p, it :: r => ⟨it, p⟩ :: placedL (p + ((g_impl_CellsOf it).getD []).length) r
theorem placedL_len : ∀ (p : Nat) (l : List GItem), (placedL p l).length = l.length
  | _, [] => rfl
  | p, it :: r => by rw [placedL, List.length_cons, placedL_len, List.length_cons]
theorem placed_l1 {its : List GItem} {ok : Bool} (hi : its.length ≤ 64) : ∀ (k n : Nat) (out : List GPlaced) (p : Nat) (cs : List Int), n ≤ its.length → Parses cs (its.drop n) → its.length - n < k → out.length + (its.length - n) ≤ 4096 → p + cs.length ≤ 4096 →
    g_impl_allPlaced_l1 (its, ok) k out p n = some (out ++ placedL p (its.drop n)) := by
  intro k
  induction k with
  | zero => intro n out p cs _ _ h; omega
  | succ k ih =>
    intro n out p cs hn hp hk ho hpl
    unfold g_impl_allPlaced_l1
    by_cases hlt : n < its.length
    · have hd := List.drop_eq_getElem_cons hlt
      rw [hd] at hp ⊢
      generalize hq : its.drop (n + 1) = tl at hp
      cases hp with
      | cons h1 h2 h3 h4 h5 =>
        rename_i rest cs'
        have hlen : cs.length = cs'.length + rest.length := by rw [h4, List.length_append]
        simp only
        rw [decide_eq_true (by omega), getI_nat, List.getElem?_eq_getElem hlt]
        simp only [cond_true, Option.bind_some]
        rw [app_eq (by simp; omega), Option.bind_some, h2, Option.bind_some, wI64 (x := (p : Int) + _) (by omega) (by omega), wI64 (x := (n : Int) + 1) (by omega) (by omega), show (p : Int) + (cs'.length : Int) = ((p + cs'.length : Nat) : Int) by omega, show (n : Int) + 1 = ((n + 1 : Nat) : Int) by omega,
          ih (n + 1) _ _ rest (by omega) (by rw [hq]; exact h5) (by omega) (by simp; omega) (by omega), List.append_assoc, hq]
        congr 2
        rw [placedL, h2]
        rfl
    · rw [decide_eq_false (by simp only; omega), cond_false, List.drop_eq_nil_of_le (by omega), placedL, List.append_nil]
end Go.Proofs.YthhoellakpnjpaaGreat

namespace Go.Proofs.YthhoellakpnjpaaGreat
open Go Go.Fm
set_option linter.unusedVariables false
set_option linter.unusedSimpArgs false
theorem itsOf_len {cells : List Int} (hu : U32 cells) (b : Nat) : (itsOf cells b).length ≤ 64 := by
  obtain ⟨_, cs, h1, h2⟩ := itsOf_ok hu b
  have := h1.len
  omega
def isU (it : GItem) : Bool := it.Kind == 1 || (it.Kind == 2 || (it.Kind == 3 || it.Kind == 9))
theorem is_eq (it : GItem) : g_spec_l17Is it = some (isU it) := by
  unfold g_spec_l17Is isU
  cases it.Kind == 1 <;> cases it.Kind == 2 <;> cases it.Kind == 3 <;> rfl
theorem uses_eq (it : GItem) (name : Bs) : g_impl_uses it name = some (isU it && it.Name == name) := by
  unfold g_impl_uses isU
  cases it.Kind == 1 <;> cases it.Kind == 2 <;> cases it.Kind == 3 <;> cases it.Kind == 9 <;> cases it.Name == name <;> rfl
end Go.Proofs.YthhoellakpnjpaaGreat

namespace Go.Proofs.YthhoellakpnjpaaGreat
open Go Go.Fm
set_option linter.unusedVariables false
set_option linter.unusedSimpArgs false
/-- All items of some blocks, with their places. -/
def allP (cells : List Int) (b m : Nat) : List GPlaced := (List.range' b m).flatMap fun b => placedL (64 * b) (itsOf cells b)
theorem allP_succ (cells : List Int) (b m : Nat) : allP cells b (m + 1) = placedL (64 * b) (itsOf cells b) ++ allP cells (b + 1) m := by
  unfold allP
  rw [List.range'_succ, List.flatMap_cons]
theorem allP_len {cells : List Int} (hu : U32 cells) : ∀ (m b : Nat), (allP cells b m).length ≤ 64 * m
  | 0, b => by unfold allP; simp
  | m + 1, b => by
    rw [allP_succ, List.length_append, placedL_len]
    have := itsOf_len hu b
    have := allP_len hu m (b + 1)
    omega
theorem placed_l0 {s : GStore} (hu : U32 s.Cells) (h : storeB s.Cells = true) : ∀ (k b : Nat) (out : List GPlaced), b ≤ s.Cells.length / 64 → s.Cells.length / 64 - b < k → out.length + 64 * (s.Cells.length / 64 - b) ≤ 4096 →
    g_impl_allPlaced_l0 s k out b = some (out ++ allP s.Cells b (s.Cells.length / 64 - b)) := by
  have hl := storeB_len h
  intro k
  induction k with
  | zero => intro b out h0 h1; omega
  | succ k ih =>
    intro b out h0 h1 h2
    unfold g_impl_allPlaced_l0
    rw [blocks_eq h]
    by_cases hb : b < s.Cells.length / 64
    · obtain ⟨_, cs, hp, hcl⟩ := itsOf_ok hu b
      have hil := itsOf_len hu b
      rw [decide_eq_true (by omega), cond_true, implItems hu h hb, Option.bind_some, wI64 (x := (b : Int) * 64) (by omega) (by omega), show (b : Int) * 64 = ((64 * b : Nat) : Int) by omega]
      have := placed_l1 (ok := true) hil bigK 0 out (64 * b) cs (Nat.zero_le _) (by rw [List.drop_zero]; exact hp) (by unfold bigK; omega) (by omega) (by omega)
      rw [Int.natCast_zero, List.drop_zero] at this
      rw [this]
      simp only [Option.bind_some]
      rw [wI64 (x := (b : Int) + 1) (by omega) (by omega), show (b : Int) + 1 = ((b + 1 : Nat) : Int) by omega, ih (b + 1) _ (by omega) (by omega) (by rw [List.length_append, placedL_len]; omega), List.append_assoc, ← allP_succ, show s.Cells.length / 64 - (b + 1) + 1 = s.Cells.length / 64 - b by omega]
    · rw [decide_eq_false (by omega), cond_false, show s.Cells.length / 64 - b = 0 by omega]
      simp [allP]
theorem allPlaced_eq {s : GStore} (hu : U32 s.Cells) (h : storeB s.Cells = true) : g_impl_allPlaced s = some (allP s.Cells 0 (s.Cells.length / 64)) := by
  have hl := storeB_len h
  unfold g_impl_allPlaced
  have := placed_l0 hu h bigK 0 [] (Nat.zero_le _) (by unfold bigK; omega) (by simp; omega)
  rw [Int.natCast_zero, Nat.sub_zero, List.nil_append] at this
  rw [this]
  rfl
def sel (all : Bool) (name : Bs) (p : GPlaced) : Bool := isU p.item && (p.item.Name == name && (all || (p.item.Kind == 2 || p.item.Kind == 9)))
def plc (l : List GPlaced) : List Int := l.map (·.place)
theorem uses_l0 {y : List GPlaced} {name : Bs} (hy : y.length ≤ 4096) : ∀ (k n : Nat) (out : List Int), n ≤ y.length → y.length - n < k → out.length + (y.length - n) ≤ 4096 →
    g_impl_Uses_l0 name y k out n = some (out ++ plc ((y.drop n).filter (sel true name))) := by
  intro k
  induction k with
  | zero => intro n out h0 h1; omega
  | succ k ih =>
    intro n out h0 h1 h2
    unfold g_impl_Uses_l0
    by_cases hn : n < y.length
    · rw [decide_eq_true (by omega), getI_nat, List.getElem?_eq_getElem hn, List.drop_eq_getElem_cons hn]
      simp only [cond_true, Option.bind_some, uses_eq]
      have e : sel true name y[n] = (isU y[n].item && y[n].item.Name == name) := by unfold sel; simp
      rw [wI64 (by omega) (by omega), show ((n : Int) + 1) = ((n + 1 : Nat) : Int) by omega, List.filter_cons, e]
      cases isU y[n].item && y[n].item.Name == name with
      | true =>
        simp only [cond_true]
        rw [app_eq (by simp; omega)]
        simp only [Option.bind_some, if_true]
        rw [ih (n + 1) _ (by omega) (by omega) (by simp; omega), List.append_assoc]
        rfl
      | false =>
        simp only [cond_false, Option.bind_some]
        rw [ih (n + 1) _ (by omega) (by omega) (by omega)]
        rfl
    · rw [decide_eq_false (by omega), cond_false, List.drop_eq_nil_of_le (by omega)]
      simp [plc]
theorem defines_l0 {y : List GPlaced} {name : Bs} (hy : y.length ≤ 4096) : ∀ (k n : Nat) (out : List Int), n ≤ y.length → y.length - n < k → out.length + (y.length - n) ≤ 4096 →
    g_impl_Defines_l0 name y k out n = some (out ++ plc ((y.drop n).filter (sel false name))) := by
  intro k
  induction k with
  | zero => intro n out h0 h1; omega
  | succ k ih =>
    intro n out h0 h1 h2
    unfold g_impl_Defines_l0
    by_cases hn : n < y.length
    · rw [decide_eq_true (by omega), getI_nat, List.getElem?_eq_getElem hn, List.drop_eq_getElem_cons hn]
      simp only [cond_true, Option.bind_some, uses_eq]
      have e : (cond (isU y[n].item && y[n].item.Name == name) (cond (y[n].item.Kind == 2) (some true) (some (y[n].item.Kind == 9))) (some false) : Option Bool) = some (sel false name y[n]) := by
        unfold sel
        cases isU y[n].item <;> cases y[n].item.Name == name <;> cases y[n].item.Kind == 2 <;> cases y[n].item.Kind == 9 <;> rfl
      rw [wI64 (by omega) (by omega), show ((n : Int) + 1) = ((n + 1 : Nat) : Int) by omega, List.filter_cons, e]
      cases sel false name y[n] with
      | true =>
        simp only [Option.bind_some, cond_true]
        rw [app_eq (by simp; omega)]
        simp only [Option.bind_some, if_true]
        rw [ih (n + 1) _ (by omega) (by omega) (by simp; omega), List.append_assoc]
        rfl
      | false =>
        simp only [cond_false, Option.bind_some]
        rw [ih (n + 1) _ (by omega) (by omega) (by omega)]
        rfl
    · rw [decide_eq_false (by omega), cond_false, List.drop_eq_nil_of_le (by omega)]
      simp [plc]
/-- The places where a name is used, or where it is defined. -/
def places (all : Bool) (cells : List Int) (name : Bs) : List Int := cond (storeB cells) (plc ((allP cells 0 (cells.length / 64)).filter (sel all name))) []
theorem places_len {all : Bool} {cells : List Int} {name : Bs} (hu : U32 cells) : (places all cells name).length ≤ 768 := by
  unfold places
  cases h : storeB cells with
  | false => simp
  | true =>
    have hl := storeB_len h
    have h1 := allP_len hu (cells.length / 64) 0
    have h2 := List.length_filter_le (sel all name) (allP cells 0 (cells.length / 64))
    simp only [cond_true, plc, List.length_map]
    omega
theorem implUses {s : GStore} {name : Bs} (hu : U32 s.Cells) : g_impl_Uses s name = some (places true s.Cells name) := by
  unfold g_impl_Uses places
  rw [implStoreOk]
  cases h : storeB s.Cells with
  | false => rfl
  | true =>
    have hl := storeB_len h
    have h1 := allP_len hu (s.Cells.length / 64) 0
    simp only [Option.bind_some, Bool.not_true, cond_false, cond_true]
    rw [allPlaced_eq hu h]
    have := uses_l0 (y := allP s.Cells 0 (s.Cells.length / 64)) (name := name) (by omega) bigK 0 [] (Nat.zero_le _) (by unfold bigK; omega) (by simp; omega)
    rw [Int.natCast_zero, List.drop_zero, List.nil_append] at this
    simp only [Option.bind_some, this]
theorem implDefines {s : GStore} {name : Bs} (hu : U32 s.Cells) : g_impl_Defines s name = some (places false s.Cells name) := by
  unfold g_impl_Defines places
  rw [implStoreOk]
  cases h : storeB s.Cells with
  | false => rfl
  | true =>
    have hl := storeB_len h
    have h1 := allP_len hu (s.Cells.length / 64) 0
    simp only [Option.bind_some, Bool.not_true, cond_false, cond_true]
    rw [allPlaced_eq hu h]
    have := defines_l0 (y := allP s.Cells 0 (s.Cells.length / 64)) (name := name) (by omega) bigK 0 [] (Nat.zero_le _) (by unfold bigK; omega) (by simp; omega)
    rw [Int.natCast_zero, List.drop_zero, List.nil_append] at this
    simp only [Option.bind_some, this]
end Go.Proofs.YthhoellakpnjpaaGreat

namespace Go.Proofs.YthhoellakpnjpaaGreat
open Go Go.Fm
set_option linter.unusedVariables false
set_option linter.unusedSimpArgs false
def Iok (it : GItem) : Prop := it.Name.length ≤ 1048576 ∧ 0 ≤ it.Raw ∧ it.Raw < 4294967296
def IL (l : List GItem) : Prop := ∀ it ∈ l, Iok it
theorem IL.nil : IL [] := fun it h => by simp at h
theorem IL.cons {it : GItem} {l : List GItem} (h : Iok it) (hl : IL l) : IL (it :: l) := fun x hx => by
  rcases List.mem_cons.1 hx with rfl | hx
  · exact h
  · exact hl x hx
theorem IL.app {a b : List GItem} (ha : IL a) (hb : IL b) : IL (a ++ b) := fun x hx => by
  rcases List.mem_append.1 hx with h | h
  · exact ha x h
  · exact hb x h
theorem iok {k : Int} {nm : Bs} {n : Int} {hex : Bool} (h : nm.length ≤ 1048576) : Iok ⟨k, nm, n, hex, 0⟩ := ⟨h, by show (0 : Int) ≤ 0; decide, by show (0 : Int) < 4294967296; decide⟩
theorem iok1 {k : Int} {nm : Bs} {n : Int} {hex : Bool} (h : nm.length ≤ 1048576) : IL [⟨k, nm, n, hex, 0⟩] := .cons (iok h) .nil
theorem specUnparse_ok {l : List GItem} (hl : IL l) (hn : l.length ≤ 1048576) : Tot (g_spec_Unparse l) fun r => U32 r.1 ∧ r.1.length ≤ 64 := by
  unfold g_spec_Unparse
  have key : ∀ (k : Nat) (out : List Int) (i : Int), U32 out → out.length ≤ 64 → 0 ≤ i → i ≤ l.length → l.length - i < k → Tot (g_spec_Unparse_l0 l k out i) fun o => match o with | .inl r => U32 r ∧ r.length ≤ 64 | .inr _ => True := by
    intro k
    induction k with
    | zero => intro out i h0 h1 h2 h3 h4; omega
    | succ k ih =>
      intro out i h0 h1 h2 h3 h4
      unfold g_spec_Unparse_l0
      refine .condD (fun hi => ?_) fun _ => .some ⟨h0, h1⟩
      obtain ⟨v, hv, hm, _⟩ := getI_ex h2 hi
      have hio := hl v hm
      refine .bindE hv (.bind (specCells_ok hio.1 hio.2) fun cs hcs => .bind (Q := fun b => b = false → out.length + cs.length ≤ 64) (.cond (fun _ => .some fun h => nomatch h) fun _ => ?_) fun b hb => .cond (fun _ => .some trivial) fun hc => ?_)
      · rw [wI64 (by omega) (by omega)]
        exact .some fun h => by have := of_decide_eq_false h; omega
      · have := hb hc
        refine .bindE (app_eq (by omega)) ?_
        rw [wI64 (x := i + 1) (by omega) (by omega)]
        exact ih _ _ (h0.app hcs.1) (by rw [List.length_append]; omega) (by omega) (by omega) (by omega)
  refine .bind (Q := fun o => match o with | .inl r => U32 r ∧ r.length ≤ 64 | .inr _ => True) (.bind (key bigK [] 0 .nil (by simp) (by decide) (by omega) (by unfold bigK; omega)) fun o ho => ?_) fun o ho => ?_
  · cases o with
    | inl r => exact .some ho
    | inr r => exact .some trivial
  · cases o with
    | inl r => exact .some ho
    | inr r => exact .some ⟨.nil, by simp⟩
theorem specHas {s : GStore} {b : Int} : g_spec_l05Has s b = some (storeB s.Cells && decide (0 ≤ b ∧ b < ((s.Cells.length / 64 : Nat) : Int))) := by
  unfold g_spec_l05Has
  rw [specStoreOk]
  cases h : storeB s.Cells with
  | false => rfl
  | true =>
    simp only [Option.bind_some, cond_true, Bool.true_and]
    rw [blocks_eq h]
    by_cases hb : b ≥ 0
    · rw [decide_eq_true hb, cond_true]
      congr 1
      exact decide_eq_decide.2 ⟨fun h => ⟨hb, h⟩, fun h => h.2⟩
    · rw [decide_eq_false hb, cond_false]
      congr 1
      exact (decide_eq_false fun h => hb h.1).symm
theorem specPutBlock_ok {s : GStore} {b : Int} {cells : List Int} (hu : U32 s.Cells) (hl : s.Cells.length ≤ 1048576) (hc : U32 cells) (hcl : cells.length ≤ 1048576) : Tot (g_spec_PutBlock s b cells) fun r => U32 r.1.Cells ∧ r.1.Cells.length ≤ s.Cells.length := by
  unfold g_spec_PutBlock
  rw [specHas]
  refine .bind (Q := fun v => v = false → storeB s.Cells = true ∧ 0 ≤ b ∧ b < s.Cells.length / 64) (.bindE rfl (.cond (fun _ => .some fun h => nomatch h) fun h => ?_)) fun v hv => .cond (fun _ => .some ⟨.nil, by simp⟩) fun h => ?_
  · rw [Bool.not_eq_false', Bool.and_eq_true] at h
    have := of_decide_eq_true h.2
    exact .some fun _ => ⟨h.1, this.1, by omega⟩
  · obtain ⟨hs, h0, h1⟩ := hv h
    have hsl := storeB_len hs
    refine .bindE (app_eq (by simp; omega)) ?_
    have key : ∀ (k : Nat) (out : List Int) (i : Int), U32 out → out.length = s.Cells.length → 0 ≤ i → i ≤ 64 → 64 - i < k → Tot (g_spec_PutBlock_l0 b cells k out i) fun r => U32 r ∧ r.length = s.Cells.length := by
      intro k
      induction k with
      | zero => intro out i g0 g1 g2 g3 g4; omega
      | succ k ih =>
        intro out i g0 g1 g2 g3 g4
        unfold g_spec_PutBlock_l0
        rw [wI64 (x := b * 64) (by omega) (by omega)]
        refine .condD (fun hi => ?_) fun _ => .some ⟨g0, g1⟩
        rw [wI64 (x := b * 64 + i) (by omega) (by omega), wI64 (x := i + 1) (by omega) (by omega)]
        obtain ⟨x, hx, _⟩ := getI_ex (xs := out) (i := b * 64 + i) (by omega) (by omega)
        refine .bind (Q := fun o => U32 o ∧ o.length = s.Cells.length) (.bindE hx (.condD (fun hj => ?_) fun _ => .some ⟨g0.set (by decide), by simpa using g1⟩)) fun o ho => ih _ _ ho.1 ho.2 (by omega) (by omega) (by omega)
        obtain ⟨y, hy, hym, _⟩ := getI_ex (xs := cells) (i := i) (by omega) hj
        obtain ⟨z, hz, _⟩ := getI_ex (xs := out.set (b * 64 + i).toNat 0) (i := b * 64 + i) (by omega) (by simp; omega)
        exact .bindE hy (.bindE hz (.some ⟨(g0.set (by decide)).set (hc y hym), by simpa using g1⟩))
    exact .bind (.bind (key bigK _ 0 (by simpa using hu) (by simp) (by decide) (by decide) (by decide)) fun r hr => .some hr) fun r hr => .some ⟨hr.1, by show r.length ≤ _; omega⟩
theorem specPutItems_ok {s : GStore} {b : Int} {l : List GItem} (hu : U32 s.Cells) (hsl : s.Cells.length ≤ 1048576) (hl : IL l) (hn : l.length ≤ 1048576) : Tot (g_spec_PutItems s b l) fun r => U32 r.1.Cells ∧ r.1.Cells.length ≤ s.Cells.length := by
  unfold g_spec_PutItems
  exact .bind (specUnparse_ok hl hn) fun a ha => .cond (fun _ => .some ⟨.nil, by simp⟩) fun _ => .bind (specPutBlock_ok hu hsl ha.1 (by omega)) fun r hr => .some hr
theorem zero_u (n : Nat) : U32 (List.replicate n 0) := fun x hx => by rw [List.eq_of_mem_replicate hx]; decide
end Go.Proofs.YthhoellakpnjpaaGreat

namespace Go.Proofs.YthhoellakpnjpaaGreat
open Go Go.Fm
set_option linter.unusedVariables false
set_option linter.unusedSimpArgs false
theorem prim_ok {k : Int} : Tot (g_spec_PrimName k) fun nm => nm.length ≤ 1048576 := by
  unfold g_spec_PrimName g_spec_l08Names
  refine .bindE rfl (.bindE specIn_eq (.cond (fun _ => .some (by simp)) fun hc => ?_))
  have hk : 0 ≤ k ∧ k ≤ 23 := by
    rw [show IntKind.wrap .i64 ((([[100, 117, 112], [100, 114, 111, 112], [111, 118, 101, 114], [110, 105, 112], [115, 119, 97, 112], [43], [45], [42], [97, 110, 100], [111, 114], [50, 42], [50, 47], [47, 109, 111, 100], [64], [33], [97], [97, 33], [101, 109, 105, 116], [107, 101, 121], [112, 117, 115, 104], [112, 111, 112], [105], [46], [110, 111, 112]] : List Bs).length : Int) - 1) = 23 from by decide] at hc
    simpa using hc
  obtain ⟨v, hv, hm, _⟩ := getI_ex (xs := ([[100, 117, 112], [100, 114, 111, 112], [111, 118, 101, 114], [110, 105, 112], [115, 119, 97, 112], [43], [45], [42], [97, 110, 100], [111, 114], [50, 42], [50, 47], [47, 109, 111, 100], [64], [33], [97], [97, 33], [101, 109, 105, 116], [107, 101, 121], [112, 117, 115, 104], [112, 111, 112], [105], [46], [110, 111, 112]] : List Bs)) (i := k) hk.1 (by simp; omega)
  refine .bindE hv (.some ?_)
  have : ∀ y ∈ ([[100, 117, 112], [100, 114, 111, 112], [111, 118, 101, 114], [110, 105, 112], [115, 119, 97, 112], [43], [45], [42], [97, 110, 100], [111, 114], [50, 42], [50, 47], [47, 109, 111, 100], [64], [33], [97], [97, 33], [101, 109, 105, 116], [107, 101, 121], [112, 117, 115, 104], [112, 111, 112], [105], [46], [110, 111, 112]] : List Bs), y.length ≤ 1048576 := by decide
  exact this v hm
theorem l13Word_ok {c : GL01Cur} (h : Cok c) : Tot (g_spec_l13Word c) fun r => IL r.1 ∧ r.1.length ≤ 6 ∧ Cok r.2 := by
  unfold g_spec_l13Word
  simp only [g_spec_l13G, g_spec_l13N, g_spec_l13Y, Option.bind_some]
  refine .bind (below_ok h (by decide)) fun a ha => .cond (fun _ => .some ⟨?_, by simp, ha.2.2⟩) fun _ => .cond (fun _ => .some ⟨?_, by simp, ha.2.2⟩) fun _ => .cond (fun _ => .some ⟨?_, by simp, ha.2.2⟩) fun _ =>
    .cond (fun _ => .bind (below_ok ha.2.2 (by decide)) fun b hb => .some ⟨?_, by simp, hb.2.2⟩) fun _ => .cond (fun _ => .bind (pick_ok ha.2.2 (by decide)) fun b hb => .some ⟨?_, by simp, hb.2⟩) fun _ => .cond (fun _ => .some ⟨?_, by simp, ha.2.2⟩) fun _ =>
    .bind (below_ok ha.2.2 (by decide)) fun b hb => .bind prim_ok fun nm hn => .some ⟨iok1 hn, by simp, hb.2.2⟩
  · exact .cons (iok (by decide)) (iok1 (by decide))
  · exact .cons (iok (by decide)) (.cons (iok (by decide)) (.cons (iok (by decide)) (iok1 (by decide))))
  · exact .cons (iok (by decide)) (.cons (iok (by decide)) (.cons (iok (by decide)) (.cons (iok (by decide)) (iok1 (by decide)))))
  · exact .cons (iok (by decide)) (.cons (iok (by decide)) (.cons (iok (by decide)) (iok1 (by decide))))
  · have : ∀ y ∈ ([[103, 111], [120], [97, 116], [116, 101, 110], [110, 105, 120]] : List Bs), y.length ≤ 1048576 := by decide
    exact iok1 (this _ hb.1)
  · exact .cons (iok (by decide)) (.cons (iok (by decide)) (.cons (iok (by decide)) (.cons (iok (by decide)) (.cons (iok (by decide)) (iok1 (by decide))))))
theorem l04Any_ok {c : GL01Cur} (h : Cok c) : Tot (g_spec_l04Any c) fun r => Iok r.1 ∧ Cok r.2 := by
  unfold g_spec_l04Any
  refine .bind (some_ok2 h) fun a ha => .bind (Q := fun o => match o with | .inl r => Iok r.2 ∧ Cok r.1 | .inr r => Iok r.2 ∧ Cok r.1) ?_ fun o ho => ?_
  · refine .bind (below_ok ha.2.2 (by decide)) fun b hb => .cond (fun _ => .bind (word_ok hb.2.2) fun w hw => .some ⟨⟨by simp, hw.1⟩, hw.2⟩) fun _ => .cond (fun _ => .bind (below_ok hb.2.2 (by decide)) fun w hw => .some ⟨⟨?_, ?_⟩, hw.2.2⟩) fun _ =>
      .cond (fun _ => .bind (pick_ok hb.2.2 (by decide)) fun w hw => .some ⟨⟨?_, ?_⟩, hw.2⟩) fun _ => .cond (fun _ => .bind (below_ok hb.2.2 (by decide)) fun w hw => .some ⟨⟨?_, wU32_bd _⟩, hw.2.2⟩) fun _ => .some ⟨⟨?_, ?_⟩, hb.2.2⟩
    · show a.1.Name.length ≤ 1048576; omega
    · show 0 ≤ a.1.Raw ∧ a.1.Raw < 4294967296; rw [ha.2.1]; decide
    · have : ∀ y ∈ ([[], [65], [113, 113, 113, 113, 113], [115, 113, 117, 97, 114, 101, 115, 113, 117, 97, 114, 101]] : List Bs), y.length ≤ 1048576 := by decide
      exact this _ hw.1
    · show 0 ≤ a.1.Raw ∧ a.1.Raw < 4294967296; rw [ha.2.1]; decide
    · show a.1.Name.length ≤ 1048576; omega
    · show a.1.Name.length ≤ 1048576; omega
    · show 0 ≤ a.1.Raw ∧ a.1.Raw < 4294967296; rw [ha.2.1]; decide
  · cases o with
    | inl r => exact .some ho
    | inr r => exact .some ho
theorem l13List_ok {c : GL01Cur} {n : Int} (h : Cok c) (hn : 0 ≤ n ∧ n ≤ 1000) : Tot (g_spec_l13List c n) fun r => IL r.1 ∧ r.1.length ≤ 1000 ∧ Cok r.2 := by
  have key1 : ∀ (y : Int × GL01Cur), y.1 ≤ 4 → ∀ (k : Nat) (c : GL01Cur) (out : List GItem) (j : Int), Cok c → IL out → 0 ≤ j → j ≤ 4 → (out.length : Int) ≤ 200 + 6 * j → 4 - j < k → Tot (g_spec_l13List_l1 y k c out j) fun r => Cok r.1 ∧ IL r.2 ∧ r.2.length ≤ out.length + 6 * (4 - j).toNat := by
    intro y hy k
    induction k with
    | zero => intro c out j h0 h1 h2 h3 h4 h5; omega
    | succ k ih =>
      intro c out j h0 h1 h2 h3 h4 h5
      unfold g_spec_l13List_l1
      refine .condD (fun hj => ?_) fun _ => .some ⟨h0, h1, by show out.length ≤ _; omega⟩
      refine .bind (l13Word_ok h0) fun w hw => .bindE (app_eq (by omega)) ?_
      rw [wI64 (x := j + 1) (by omega) (by omega)]
      refine (ih _ _ _ hw.2.2 (h1.app hw.1) (by omega) (by omega) (by rw [List.length_append]; omega) (by omega)).mono fun r hr => ⟨hr.1, hr.2.1, ?_⟩
      have := hr.2.2
      rw [List.length_append] at this
      omega
  have key0 : ∀ (y : Int × GL01Cur), 0 ≤ y.1 ∧ y.1 < 3 → ∀ (k : Nat) (c : GL01Cur) (out : List GItem) (i : Int), Cok c → IL out → 0 ≤ i → i ≤ 3 → (out.length : Int) ≤ 40 * i → 3 - i < k → Tot (g_spec_l13List_l0 y k c out i) fun r => Cok r.1 ∧ IL r.2 ∧ r.2.length ≤ 120 := by
    intro y hy k
    induction k with
    | zero => intro c out i h0 h1 h2 h3 h4 h5; omega
    | succ k ih =>
      intro c out i h0 h1 h2 h3 h4 h5
      unfold g_spec_l13List_l0
      rw [wI64 (x := 1 + y.1) (by omega) (by omega)]
      refine .condD (fun hi => ?_) fun _ => .some ⟨h0, h1, by show out.length ≤ 120; omega⟩
      refine .bind (Q := fun r => Cok r.1 ∧ IL r.2 ∧ r.2.length ≤ out.length + 40) ?_ fun r hr => ?_
      · refine .bind (Q := fun r => Cok r.1 ∧ IL r.2 ∧ r.2.length ≤ out.length + 1) (.bind (once_ok h0 (by decide)) fun a ha => .cond (fun _ => .bind (pick_ok ha (by decide)) fun b hb => .bind (below_ok hb.2 (by decide)) fun d hd => .bindE (app_eq (by simp; omega)) (.some ⟨hd.2.2, h1.app (iok1 ?_), by simp⟩)) fun _ => .some ⟨ha, h1, by show out.length ≤ _; omega⟩) fun e he => ?_
        · have : ∀ y ∈ ([[120], [97, 116]] : List Bs), y.length ≤ 1048576 := by decide
          exact this _ hb.1
        · have hel := he.2.2
          refine .bind (pick_ok he.1 (by decide)) fun b hb => .bindE (app_eq (by simp; omega)) (.bind (below_ok hb.2 (by decide)) fun d hd => ?_)
          have hbn : b.1.length ≤ 1048576 := by
            have : ∀ y ∈ ([[103, 111], [116, 101, 110], [120], [114, 117, 110]] : List Bs), y.length ≤ 1048576 := by decide
            exact this _ hb.1
          have hl1 : (e.2 ++ [(⟨2, b.1, 0, false, 0⟩ : GItem)]).length ≤ out.length + 2 := by simp; omega
          refine .bind (Q := fun r => Cok r.1 ∧ IL r.2 ∧ r.2.length ≤ out.length + 30) (.bind (key1 d (by omega) bigK d.2 _ 0 hd.2.2 (he.2.1.app (iok1 hbn)) (by decide) (by decide) (by omega) (by decide)) fun r hr => .some ⟨hr.1, hr.2.1, ?_⟩) fun r hr => .bind (once_ok hr.1 (by decide)) fun g hg => .cond (fun _ => ?_) fun _ => .some ⟨hg, hr.2.1, by have := hr.2.2; show r.2.length ≤ _; omega⟩
          · have := hr.2.2
            have e4 : (4 - (0 : Int)).toNat = 4 := rfl
            rw [e4] at this
            show r.2.length ≤ _
            omega
          · have := hr.2.2
            refine .bindE (a := (⟨3, [59], 0, false, 0⟩ : GItem)) rfl (.bindE (app_eq (by simp; omega)) (.some ⟨hg, hr.2.1.app (iok1 (by decide)), by simp; omega⟩))
      · rw [wI64 (x := i + 1) (by omega) (by omega)]
        exact ih _ _ _ hr.1 hr.2.1 (by omega) (by omega) (by omega) (by omega)
  unfold g_spec_l13List
  refine .bind (below_ok h (by decide)) fun y hy => .bind (Q := fun r => Cok r.1 ∧ IL r.2 ∧ r.2.length ≤ 120) (.bind (key0 y ⟨hy.1, hy.2.1⟩ bigK y.2 [] 0 hy.2.2 .nil (by decide) (by decide) (by decide) (by decide)) fun r hr => .some hr) fun r hr => ?_
  have hrl := hr.2.2
  simp only [g_spec_l13G, g_spec_l13N, g_spec_l13Y, Option.bind_some]
  refine .bind (Q := fun q => Cok q.1 ∧ IL q.2 ∧ q.2.length ≤ 125) (.bind (below_ok hr.1 (by decide)) fun a ha => ?_) fun q hq => ?_
  · refine .cond (fun _ => ?_) fun _ => .cond (fun _ => .bindE (app_eq (by simp; omega)) (.some ⟨ha.2.2, hr.2.1.app (iok1 (by decide)), by simp; omega⟩)) fun _ => .cond (fun _ => .bind (l04Any_ok ha.2.2) fun b hb => .bindE (app_eq (by simp; omega)) (.some ⟨hb.2, hr.2.1.app (.cons hb.1 .nil), by simp; omega⟩)) fun _ =>
      .cond (fun _ => .bind (below_ok ha.2.2 (by decide)) fun b hb => .bind prim_ok fun nm hnm => .bindE (app_eq (by simp; omega)) (.some ⟨hb.2.2, hr.2.1.app (iok1 hnm), by simp; omega⟩)) fun _ => .some ⟨ha.2.2, hr.2.1, by show r.2.length ≤ _; omega⟩
    rw [wI64 (x := n + 1) (by omega) (by omega)]
    exact .bind (below_ok ha.2.2 (by omega)) fun b hb => .bindE (app_eq (by simp; omega)) (.some ⟨hb.2.2, hr.2.1.app (.cons (iok (by decide)) (iok1 (by decide))), by simp; omega⟩)
  · have hql := hq.2.2
    refine .bind (below_ok hq.1 (by decide)) fun a ha => .bind (pick_ok ha.2.2 (by decide)) fun b hb => .bindE (app_eq (by simp; omega)) (.bindE (app_eq (by simp; omega)) (.some ⟨(hq.2.1.app (.cons (iok (by decide)) (iok1 ?_))).app (iok1 (by decide)), by simp; omega, hb.2⟩))
    have : ∀ y ∈ ([[103, 111], [116, 101, 110], [120], [114, 117, 110], [110, 105, 120], [100, 117, 112]] : List Bs), y.length ≤ 1048576 := by decide
    exact this _ hb.1
theorem newStore_ok {n : Int} (h0 : 0 ≤ n) (h1 : n ≤ 12) : Tot (g_spec_NewStore n) fun s => U32 s.Cells ∧ s.Cells.length ≤ 768 := by
  unfold g_spec_NewStore
  refine .bindE specIn_eq (.cond (fun _ => .some ⟨.nil, by simp⟩) fun _ => ?_)
  rw [wI64 (x := n * 64) (by omega) (by omega), mk_eq (by omega) (by omega)]
  exact .bindE rfl (.some ⟨zero_u _, by simp; omega⟩)
theorem l13Store_ok {c : GL01Cur} (h : Cok c) : Tot (g_spec_l13Store c) fun r => U32 r.1.Cells ∧ r.1.Cells.length ≤ 768 ∧ Cok r.2 := by
  unfold g_spec_l13Store
  refine .bind (below_ok h (by decide)) fun y hy => ?_
  rw [wI64 (x := 1 + y.1) (by omega) (by omega)]
  refine .bind (newStore_ok (by omega) (by omega)) fun s0 hs0 => ?_
  have key : ∀ (k : Nat) (c : GL01Cur) (s : GStore) (b : Int), Cok c → U32 s.Cells → s.Cells.length ≤ 768 → 0 ≤ b → b ≤ 4 → 4 - b < k → Tot (g_spec_l13Store_l0 y k c s b) fun r => Cok r.1 ∧ U32 r.2 ∧ r.2.length ≤ 768 := by
    intro k
    induction k with
    | zero => intro c s b g0 g1 g2 g3 g4 g5; omega
    | succ k ih =>
      intro c s b g0 g1 g2 g3 g4 g5
      unfold g_spec_l13Store_l0
      rw [wI64 (x := 1 + y.1) (by omega) (by omega)]
      refine .condD (fun hb => ?_) fun _ => .some ⟨g0, g1, g2⟩
      refine .bind (Q := fun r => Cok r.1 ∧ U32 r.2 ∧ r.2.length ≤ 768) (.bind (l13List_ok g0 (by omega)) fun l hl => .bind (specPutItems_ok g1 (by omega) hl.1 (by omega)) fun t ht => .cond (fun _ => .some ⟨hl.2.2, ht.1, by have := ht.2; show t.1.Cells.length ≤ 768; omega⟩) fun _ => .some ⟨hl.2.2, g1, g2⟩) fun r hr => ?_
      rw [wI64 (x := b + 1) (by omega) (by omega)]
      exact ih _ ⟨r.2⟩ _ hr.1 hr.2.1 hr.2.2 (by omega) (by omega) (by omega)
  exact .bind (Q := fun r => Cok r.1 ∧ U32 r.2 ∧ r.2.length ≤ 768) (.bind (key bigK y.2 s0 0 hy.2.2 hs0.1 hs0.2 (by decide) (by decide) (by decide)) fun r hr => .some hr) fun r hr => .some ⟨hr.2.1, hr.2.2, hr.1⟩
theorem l05Make_ok {c : GL01Cur} (h : Cok c) : Tot (g_spec_l05Make c) fun r => U32 r.1.Cells ∧ r.1.Cells.length ≤ 768 ∧ Cok r.2 := by
  unfold g_spec_l05Make
  refine .bind (below_ok h (by decide)) fun y hy => ?_
  rw [wI64 (x := 1 + y.1) (by omega) (by omega)]
  refine .bind (newStore_ok (by omega) (by omega)) fun s0 hs0 => ?_
  have key1 : ∀ (z : List Int × GL01Cur) (b : Int), U32 z.1 → z.1.length ≤ 1000 → 0 ≤ b → ∀ (k : Nat) (s : GStore) (i : Int), b * 64 + 64 ≤ s.Cells.length → U32 s.Cells → s.Cells.length ≤ 768 → 0 ≤ i → i ≤ 64 → 64 - i < k → Tot (g_spec_l05Make_l1 b z k s i) fun r => U32 r ∧ r.length = s.Cells.length := by
    intro z b hz hzl hb k
    induction k with
    | zero => intro s i g0 g1 g2 g3 g4 g5; omega
    | succ k ih =>
      intro s i g0 g1 g2 g3 g4 g5
      unfold g_spec_l05Make_l1
      refine .bind (Q := fun v => v = true → i < z.1.length ∧ i < 64) (.condD (fun h1 => .some fun h => ⟨h1, of_decide_eq_true h⟩) fun _ => .some fun h => nomatch h) fun v hv => .cond (fun hc => ?_) fun _ => .some ⟨g1, rfl⟩
      obtain ⟨h1, h2⟩ := hv hc
      obtain ⟨x, hx, hxm, _⟩ := getI_ex (xs := z.1) g3 h1
      rw [wI64 (x := b * 64) (by omega) (by omega), wI64 (x := b * 64 + i) (by omega) (by omega), wI64 (x := i + 1) (by omega) (by omega)]
      obtain ⟨w, hw, _⟩ := getI_ex (xs := s.Cells) (i := b * 64 + i) (by omega) (by omega)
      refine .bindE hx (.bindE hw ((ih ⟨s.Cells.set (b * 64 + i).toNat x⟩ _ (by simpa using g0) (g1.set (hz x hxm)) (by simpa using g2) (by omega) (by omega) (by omega)).mono fun r hr => ⟨hr.1, by simpa using hr.2⟩))
  have key0 : ∀ (k : Nat) (c : GL01Cur) (s : GStore) (b : Int), Cok c → U32 s.Cells → s.Cells.length ≤ 768 → 0 ≤ b → b ≤ 12 → 12 - b < k → Tot (g_spec_l05Make_l0 k c s b) fun r => Cok r.1 ∧ U32 r.2 ∧ r.2.length ≤ 768 := by
    intro k
    induction k with
    | zero => intro c s b g0 g1 g2 g3 g4 g5; omega
    | succ k ih =>
      intro c s b g0 g1 g2 g3 g4 g5
      unfold g_spec_l05Make_l0
      rw [Int.tdiv_eq_ediv_of_nonneg (by omega), wI64 (by omega) (by omega)]
      refine .condD (fun hb => ?_) fun _ => .some ⟨g0, g1, g2⟩
      refine .bind (Q := fun r => Cok r.1 ∧ U32 r.2 ∧ r.2.length ≤ 768) (.bind (cells_ok g0) fun z hz => .bind (key1 z b hz.1 (by omega) g3 bigK s 0 (by omega) g1 g2 (by decide) (by decide) (by decide)) fun r hr => .some ⟨hz.2.2, hr.1, by show r.length ≤ 768; omega⟩) fun r hr => ?_
      rw [wI64 (x := b + 1) (by omega) (by omega)]
      exact ih _ ⟨r.2⟩ _ hr.1 hr.2.1 hr.2.2 (by omega) (by omega) (by omega)
  exact .bind (Q := fun r => Cok r.1 ∧ U32 r.2 ∧ r.2.length ≤ 768) (.bind (key0 bigK y.2 s0 0 hy.2.2 hs0.1 hs0.2 (by decide) (by decide) (by decide)) fun r hr => .some hr) fun r hr => .some ⟨hr.2.1, hr.2.2, hr.1⟩
theorem l05Any_ok {c : GL01Cur} (h : Cok c) : Tot (g_spec_l05Any c) fun r => U32 r.1.Cells ∧ r.1.Cells.length ≤ 1000 ∧ Cok r.2 := by
  unfold g_spec_l05Any
  refine .bind (l05Make_ok h) fun s hs => .bind (Q := fun o => match o with | .inl r => Cok r.1 ∧ U32 r.2 ∧ r.2.length ≤ 1000 | .inr r => Cok r.1 ∧ U32 r.2 ∧ r.2.length ≤ 1000) ?_ fun o ho => ?_
  · refine .bind (below_ok hs.2.2 (by decide)) fun a ha => .cond (fun _ => .bindE (app_eq (by simp; omega)) (.some ⟨ha.2.2, hs.1.app (.one (by decide)), by simp; omega⟩)) fun _ => .cond (fun _ => .bind (below_ok ha.2.2 (by decide)) fun b hb => ?_) fun _ => .cond (fun _ => .some ⟨ha.2.2, .nil, by simp⟩) fun _ => .some ⟨ha.2.2, hs.1, by have := hs.2.1; show s.1.Cells.length ≤ 1000; omega⟩
    rw [wI64 (x := 11 + b.1) (by omega) (by omega), wI64 (x := 64 * (11 + b.1)) (by omega) (by omega), mk_eq (by omega) (by omega)]
    exact .bindE rfl (.some ⟨hb.2.2, zero_u _, by simp; omega⟩)
  · cases o with
    | inl r => exact .some ⟨ho.2.1, ho.2.2, ho.1⟩
    | inr r => exact .some ⟨ho.2.1, ho.2.2, ho.1⟩
theorem l17Store_ok {c : GL01Cur} (h : Cok c) : Tot (g_spec_l17Store c) fun r => U32 r.1.Cells ∧ r.1.Cells.length ≤ 1000 ∧ Cok r.2 := by
  unfold g_spec_l17Store
  exact .bind (once_ok h (by decide)) fun a ha => .cond (fun _ => .bind (l05Any_ok ha) fun r hr => .some hr) fun _ => .bind (l13Store_ok ha) fun r hr => .some ⟨hr.1, by have := hr.2.1; show r.1.Cells.length ≤ 1000; omega, hr.2.2⟩
end Go.Proofs.YthhoellakpnjpaaGreat

namespace Go.Proofs.YthhoellakpnjpaaGreat
open Go Go.Fm
set_option linter.unusedVariables false
set_option linter.unusedSimpArgs false
theorem pm_raw {v : Int} {run : List Int} {nx : Option Int} {it : GItem} (h : pm v run nx = some it) : it.Raw = 0 ∨ it.Raw = v := by
  unfold pm at h
  cases h1 : isName (v % 16) with
  | true =>
    rw [h1, cond_true, Option.bind_eq_some_iff] at h
    obtain ⟨y, _, h⟩ := h
    cases hy : y.2 with
    | true =>
      rw [hy, cond_true, Option.bind_eq_some_iff] at h
      obtain ⟨k, _, h⟩ := h
      cases h; exact .inl rfl
    | false => rw [hy, cond_false] at h; cases h; exact .inr rfl
  | false =>
    rw [h1, cond_false] at h
    cases h8 : v % 16 == 8 with
    | true => rw [h8, cond_true] at h; cases h; exact .inl rfl
    | false =>
      rw [h8, cond_false] at h
      cases h6 : v % 16 == 6 with
      | true => rw [h6, cond_true] at h; cases h; exact .inl rfl
      | false =>
        rw [h6, cond_false] at h
        cases h25 : (v % 16 == 2 || v % 16 == 5) with
        | true =>
          rw [h25, cond_true] at h
          cases nx with
          | none => cases h; exact .inr rfl
          | some w =>
            simp only [Option.bind_eq_some_iff] at h
            obtain ⟨y, _, h⟩ := h
            cases hd : decide (y = [v, w]) with
            | true => rw [hd, cond_true] at h; cases h; left; unfold lng; cases v % 16 == 5 <;> rfl
            | false => rw [hd, cond_false] at h; cases h; exact .inr rfl
        | false =>
          rw [h25, cond_false] at h
          cases h12 : v % 16 == 12 with
          | true =>
            rw [h12, cond_true] at h
            cases nx with
            | none => cases h; exact .inr rfl
            | some w =>
              simp only [Option.bind_eq_some_iff] at h
              obtain ⟨y, _, h⟩ := h
              cases y with
              | true =>
                rw [cond_true, Option.bind_eq_some_iff] at h
                obtain ⟨nm, _, h⟩ := h
                cases h; exact .inl rfl
              | false => rw [cond_false] at h; cases h; exact .inr rfl
          | false => rw [h12, cond_false] at h; cases h; exact .inr rfl
theorem parses_iok : ∀ (its : List GItem) (cells : List Int), U32 cells → cells.length ≤ 64 → Parses cells its → IL its
  | [], _, _, _, _ => .nil
  | i :: its, cells, hu, hl, hp => by
    cases hp with
    | cons h1 h2 h3 h4 h5 =>
      rename_i rest cs
      have hlen : cells.length = cs.length + rest.length := by rw [h4, List.length_append]
      have hr := parses_iok its rest (fun x hx => hu x (by rw [h4]; exact List.mem_append_right _ hx)) (by omega) h5
      cases cells with
      | nil => simp at hlen; omega
      | cons v tl =>
        obtain ⟨it', cs', g1, g2, g3, _⟩ := parse_ok hu hl
        rw [h1] at g1
        cases g1
        rw [parse_pm hu hl] at h1
        have hv := hu v (List.mem_cons_self ..)
        refine .cons ⟨by omega, ?_⟩ hr
        rcases pm_raw h1 with h | h <;> rw [h]
        · decide
        · exact hv
theorem itsOf_iok {cells : List Int} (hu : U32 cells) (b : Nat) : IL (itsOf cells b) := by
  obtain ⟨its, cells', z, h1, h2, h3, _⟩ := parseCells_ok (blk_u hu b) (blk_len cells b)
  have hi : itsOf cells b = its := by unfold itsOf; rw [h1]; rfl
  rw [hi]
  have hl := blk_len cells b
  rw [h2, List.length_append] at hl
  exact parses_iok its cells' (fun x hx => blk_u hu b x (by rw [h2]; exact List.mem_append_left _ hx)) (by omega) h3
theorem unparse_l0_eq {l : List GItem} (hl : IL l) (hn : l.length ≤ 1048576) : ∀ (k n : Nat) (out : List Int), n ≤ l.length → out.length ≤ 64 → g_spec_Unparse_l0 l k out n = g_impl_Unparse_l0 l k out n := by
  intro k
  induction k with
  | zero => intro n out _ _; rfl
  | succ k ih =>
    intro n out h0 h1
    unfold g_spec_Unparse_l0 g_impl_Unparse_l0
    by_cases h : n < l.length
    · have hi := hl l[n] (List.getElem_mem h)
      obtain ⟨cs, hcs, _, hcl⟩ := specCells_ok hi.1 hi.2
      rw [decide_eq_true (by omega), getI_nat, List.getElem?_eq_getElem h]
      simp only [cond_true, Option.bind_some]
      rw [← cells_eq hi.1, hcs]
      simp only [Option.bind_some]
      rw [app_eq (by omega)]
      simp only [Option.bind_some]
      rw [wI64 (x := (out.length : Int) + (cs.length : Int)) (by omega) (by omega), show (out.length : Int) + (cs.length : Int) = (((out ++ cs).length : Nat) : Int) by rw [List.length_append]; omega]
      cases hb : ((cs.length : Int) == 0) with
      | true => rfl
      | false =>
        simp only [cond_false, Option.bind_some]
        by_cases hc : ((((out ++ cs).length : Nat) : Int)) > 64
        · rw [decide_eq_true hc]; rfl
        · rw [decide_eq_false hc, cond_false, cond_false, wI64 (by omega) (by omega), show ((n : Int) + 1) = ((n + 1 : Nat) : Int) by omega]
          exact ih _ _ (by omega) (by omega)
    · rw [decide_eq_false (by omega), cond_false, cond_false]
theorem unparse_eq {l : List GItem} (hl : IL l) (hn : l.length ≤ 1048576) : g_spec_Unparse l = g_impl_Unparse l := by
  unfold g_spec_Unparse g_impl_Unparse
  have := unparse_l0_eq hl hn bigK 0 [] (Nat.zero_le _) (by simp)
  rw [Int.natCast_zero] at this
  rw [this]
theorem itemBeq (v w : GItem) : ((v.Kind : Int) == w.Kind && ((v.Name : Bs) == w.Name && ((v.N : Int) == w.N && ((v.Hex : Bool) == w.Hex && ((v.Raw : Int) == w.Raw && true))))) = decide (v = w) := by
  obtain ⟨a, b, c, d, e⟩ := v
  obtain ⟨a', b', c', d', e'⟩ := w
  rw [Bool.eq_iff_iff]
  simp
theorem neI (x y : GItem) : (x != y) = !decide (x = y) := by
  by_cases h : x = y
  · subst h; simp
  · rw [decide_eq_false h]; simpa using h
theorem same_items {a b : List GItem} (hm : a.length ≤ 1048576) : g_spec_l04Same a b = some (decide (a = b)) :=
  eqList (g_spec_l04Same_l0 a b) _ rfl (fun k i => by rw [g_spec_l04Same_l0]; simp only [itemBeq, neI]) (by omega)
theorem equal_items {a b : List GItem} (hm : a.length ≤ 1048576) : g_slices_Equal_Item a b = some (decide (a = b)) :=
  eqList (g_slices_Equal_Item_l0 a b) _ rfl (fun k i => by rw [g_slices_Equal_Item_l0]; simp only [itemBeq, neI]) (by omega)
/-- A list of items that comes back from its cells. -/
theorem listOk_both {l : List GItem} (hl : IL l) (hn : l.length ≤ 1048576) : ∃ cs ok lo, g_spec_Unparse l = some (cs, ok) ∧ g_impl_Unparse l = some (cs, ok) ∧ U32 cs ∧ cs.length ≤ 64 ∧ g_spec_ListOk l = some lo ∧ g_impl_ListOk l = some lo ∧ (lo = true → ok = true) := by
  obtain ⟨r, hr, hu, hrl⟩ := specUnparse_ok hl hn
  obtain ⟨cs, ok⟩ := r
  have hr2 := hr
  rw [unparse_eq hl hn] at hr2
  obtain ⟨its, cells', z, h1, h2, h3, _⟩ := parseCells_ok hu hrl
  have hil := h3.len
  have hcl : cells'.length ≤ 64 := by rw [h2, List.length_append] at hrl; omega
  have hs : g_spec_ListOk l = some (ok && decide (its = l)) := by
    unfold g_spec_ListOk
    rw [hr]
    cases ok with
    | false => rfl
    | true =>
      simp only [Option.bind_some, cond_true, Bool.true_and]
      rw [parseCells_eq hu, h1]
      simp only [Option.bind_some]
      rw [same_items (by omega)]
      rfl
  have hi : g_impl_ListOk l = some (ok && decide (its = l)) := by
    unfold g_impl_ListOk
    rw [hr2]
    cases ok with
    | false => rfl
    | true =>
      simp only [Option.bind_some, cond_true, Bool.true_and]
      rw [h1]
      simp only [Option.bind_some]
      rw [equal_items (by omega)]
      rfl
  exact ⟨cs, ok, _, hr, hr2, hu, hrl, hs, hi, fun h => (Bool.and_eq_true _ _ ▸ h).1⟩
/-- A store's cells with another block. -/
def newBlk (c : List Int) (b : Nat) (cs : List Int) : List Int := c.take (64 * b) ++ (cs ++ List.replicate (64 - cs.length) 0) ++ c.drop (64 * b + 64)
theorem newBlk_len {c cs : List Int} {b : Nat} (h : 64 * b + 64 ≤ c.length) (hc : cs.length ≤ 64) : (newBlk c b cs).length = c.length := by
  unfold newBlk
  simp only [List.length_append, List.length_take, List.length_drop, List.length_replicate]
  omega
theorem set_mid {a m r : List Int} {x y : Int} {n : Nat} (h : n = a.length + m.length) : (a ++ m ++ x :: r).set n y = a ++ (m ++ [y]) ++ r := by
  subst h
  rw [List.set_append_right _ _ (by rw [List.length_append]; omega), List.length_append, Nat.sub_self, List.set_cons_zero, List.append_assoc, List.append_assoc, List.append_assoc]
  rfl
theorem spec_put_l0 {c cs : List Int} {b : Nat} (h : 64 * b + 64 ≤ c.length) (hl : c.length ≤ 1048576) (hc : cs.length ≤ 64) : ∀ (k i : Nat), i ≤ 64 → 64 - i < k →
    g_spec_PutBlock_l0 b cs k (c.take (64 * b) ++ (cs ++ List.replicate (64 - cs.length) 0).take i ++ c.drop (64 * b + i)) i = some (newBlk c b cs) := by
  intro k
  induction k with
  | zero => intro i h0 h1; omega
  | succ k ih =>
    intro i h0 h1
    have hpl : (cs ++ List.replicate (64 - cs.length) (0 : Int)).length = 64 := by simp; omega
    unfold g_spec_PutBlock_l0
    by_cases hi : i < 64
    · have hx : 64 * b + i < c.length := by omega
      have hta : (c.take (64 * b)).length = 64 * b := by rw [List.length_take]; omega
      have htm : ((cs ++ List.replicate (64 - cs.length) (0 : Int)).take i).length = i := by rw [List.length_take]; omega
      generalize hP : cs ++ List.replicate (64 - cs.length) (0 : Int) = p at *
      have hlen : (c.take (64 * b) ++ p.take i ++ c.drop (64 * b + i)).length = c.length := by simp only [List.length_append, List.length_drop]; omega
      have hidx : IntKind.wrap .i64 (IntKind.wrap .i64 ((b : Int) * 64) + (i : Int)) = ((64 * b + i : Nat) : Int) := by rw [wI64 (x := (b : Int) * 64) (by omega) (by omega), wI64 (by omega) (by omega)]; omega
      rw [decide_eq_true (by omega), hidx, getI_nat, List.getElem?_eq_getElem (by omega), wI64 (x := (i : Int) + 1) (by omega) (by omega), show ((i : Int) + 1) = ((i + 1 : Nat) : Int) by omega]
      simp only [cond_true, Option.bind_some, Int.toNat_natCast]
      have hset : ∀ y, (c.take (64 * b) ++ p.take i ++ c.drop (64 * b + i)).set (64 * b + i) y = c.take (64 * b) ++ (p.take i ++ [y]) ++ c.drop (64 * b + (i + 1)) := fun y => by
        rw [List.drop_eq_getElem_cons hx, set_mid (by omega), show 64 * b + i + 1 = 64 * b + (i + 1) by omega]
      have hpi : p.take (i + 1) = p.take i ++ [p[i]] := List.take_succ_eq_append_getElem (by omega)
      have hset2 : ∀ y z, ((c.take (64 * b) ++ p.take i ++ c.drop (64 * b + i)).set (64 * b + i) y).set (64 * b + i) z = c.take (64 * b) ++ (p.take i ++ [z]) ++ c.drop (64 * b + (i + 1)) := fun y z => by
        rw [List.set_set, hset]
      by_cases hj : i < cs.length
      · have hp2 : p[i] = cs[i] := by subst hP; exact List.getElem_append_left hj
        rw [decide_eq_true (by omega), getI_nat, getI_nat, List.getElem?_eq_getElem hj, List.getElem?_eq_getElem (by rw [List.length_set]; omega)]
        simp only [cond_true, Option.bind_some]
        rw [hset2, ← hp2, ← hpi]
        exact ih (i + 1) (by omega) (by omega)
      · have hp2 : p[i] = 0 := by
          subst hP
          rw [List.getElem_append_right (by omega)]
          exact List.getElem_replicate ..
        rw [decide_eq_false (by omega)]
        simp only [cond_false, Option.bind_some]
        rw [hset, ← hp2, ← hpi]
        exact ih (i + 1) (by omega) (by omega)
    · have : i = 64 := by omega
      subst this
      rw [decide_eq_false (by omega), cond_false, show (cs ++ List.replicate (64 - cs.length) (0 : Int)).take 64 = cs ++ List.replicate (64 - cs.length) 0 from List.take_of_length_le (by omega)]
      rfl
theorem specPut {s : GStore} {b : Nat} {cs : List Int} (h : storeB s.Cells = true) (hb : b < s.Cells.length / 64) (hc : cs.length ≤ 64) : g_spec_PutBlock s b cs = some (⟨newBlk s.Cells b cs⟩, true) := by
  have hl := storeB_len h
  unfold g_spec_PutBlock
  rw [specHas, h, decide_eq_true (by omega)]
  simp only [Option.bind_some, Bool.true_and, Bool.not_true, cond_false]
  rw [decide_eq_false (by omega), app_eq (by simp; omega)]
  simp only [Option.bind_some, cond_false, List.nil_append]
  have := spec_put_l0 (c := s.Cells) (cs := cs) (b := b) (by omega) (by omega) hc bigK 0 (by decide) (by decide)
  rw [Int.natCast_zero, List.take_zero, List.append_nil, Nat.add_zero, List.take_append_drop] at this
  rw [this]
  rfl
theorem implPut {s : GStore} {b : Nat} {cs : List Int} (h : storeB s.Cells = true) (hb : b < s.Cells.length / 64) (hc : cs.length ≤ 64) : g_impl_PutBlock s b cs = some (⟨newBlk s.Cells b cs⟩, true) := by
  have hl := storeB_len h
  unfold g_impl_PutBlock
  rw [hasBlocks h hb]
  simp only [Option.bind_some, Bool.not_true, cond_false]
  rw [decide_eq_false (by omega)]
  unfold g_slices_Clone_uint32
  simp only [Option.bind_some, cond_false]
  rw [app_eq (by simp; omega)]
  simp only [Option.bind_some, List.nil_append]
  have hbl : (blk s.Cells b).length = 64 := by unfold blk; rw [List.length_take, List.length_drop]; omega
  rw [subBlk h hb, Option.bind_some, hbl, wI64 (x := (b : Int) * 64) (by omega) (by omega), show ((b : Int) * 64).toNat = 64 * b by omega, List.take_of_length_le hc]
  congr 3
  have hta : (s.Cells.take (64 * b)).length = 64 * b := by rw [List.length_take]; omega
  rw [putL_eq _ _ _ (by rw [putL_len]; omega), putL_eq _ _ _ (by rw [List.length_replicate]; omega), List.length_replicate]
  unfold newBlk
  have e1 : List.take (64 * b) (s.Cells.take (64 * b) ++ List.replicate 64 (0 : Int) ++ s.Cells.drop (64 * b + 64)) = s.Cells.take (64 * b) := by
    rw [List.append_assoc, List.take_left' hta]
  have e2 : List.drop (64 * b + cs.length) (s.Cells.take (64 * b) ++ List.replicate 64 (0 : Int) ++ s.Cells.drop (64 * b + 64)) = List.replicate (64 - cs.length) 0 ++ s.Cells.drop (64 * b + 64) := by
    rw [List.append_assoc, ← List.drop_drop, List.drop_left' hta, List.drop_append_of_le_length (by rw [List.length_replicate]; exact hc), List.drop_replicate]
  rw [e1, e2, List.append_assoc, List.append_assoc, List.append_assoc]
end Go.Proofs.YthhoellakpnjpaaGreat

namespace Go.Proofs.YthhoellakpnjpaaGreat
open Go Go.Fm
set_option linter.unusedVariables false
set_option linter.unusedSimpArgs false
def matchR (nm : Bs) (it : GItem) : Bool := isU it && it.Name == nm
def ren (nm to : Bs) (it : GItem) : GItem := cond (matchR nm it) ⟨it.Kind, to, it.N, it.Hex, it.Raw⟩ it
theorem spec_ren_l1 {nm to : Bs} : ∀ (k : Nat) (pre rest : List GItem) (flag : Bool), rest.length < k → pre.length + rest.length ≤ 1048576 →
    g_spec_Rename_l1 nm to k (pre ++ rest) flag pre.length = some (pre ++ rest.map (ren nm to), flag || rest.any (matchR nm)) := by
  intro k
  induction k with
  | zero => intro pre rest flag h; omega
  | succ k ih =>
    intro pre rest flag h0 h1
    unfold g_spec_Rename_l1
    cases rest with
    | nil => rw [decide_eq_false (by simp), cond_false]; simp
    | cons v r =>
      simp only [List.length_cons] at h0 h1
      have hg : getI (pre ++ v :: r) (pre.length : Int) = some v := by rw [getI_nat, List.getElem?_append_right (Nat.le_refl _), Nat.sub_self]; rfl
      rw [decide_eq_true (by simp; omega), hg]
      simp only [cond_true, Option.bind_some, is_eq]
      have e : (cond (isU v) (some (v.Name == nm)) (some false) : Option Bool) = some (matchR nm v) := by unfold matchR; cases isU v <;> rfl
      rw [e]
      simp only [Option.bind_some]
      rw [wI64 (by omega) (by omega), show ((pre.length : Int) + 1) = ((pre.length + 1 : Nat) : Int) by omega, Int.toNat_natCast, List.set_append_right _ _ (Nat.le_refl _), Nat.sub_self, List.set_cons_zero]
      have key : ∀ (x : GItem) (f : Bool), g_spec_Rename_l1 nm to k (pre ++ x :: r) f ((pre.length + 1 : Nat) : Int) = some (pre ++ x :: r.map (ren nm to), f || r.any (matchR nm)) := fun x f => by
        have := ih (pre ++ [x]) r f (by omega) (by simp; omega)
        simp only [List.append_assoc, List.singleton_append, List.length_append, List.length_singleton] at this
        exact this
      cases hm : matchR nm v with
      | true =>
        simp only [cond_true, Option.bind_some]
        rw [key, List.map_cons, List.any_cons, hm]
        unfold ren
        rw [hm]
        simp
      | false =>
        simp only [cond_false, Option.bind_some]
        rw [key, List.map_cons, List.any_cons, hm]
        unfold ren
        rw [hm]
        simp
theorem impl_ren_l1 {nm to : Bs} {y : List GItem × Bool} : ∀ (k : Nat) (pre rest : List GItem) (flag : Bool), y.1.length = pre.length + rest.length → rest.length < k → pre.length + rest.length ≤ 1048576 →
    g_impl_Rename_l1 nm to y k (pre ++ rest) flag pre.length = some (pre ++ rest.map (ren nm to), flag || rest.any (matchR nm)) := by
  intro k
  induction k with
  | zero => intro pre rest flag _ h; omega
  | succ k ih =>
    intro pre rest flag hy h0 h1
    unfold g_impl_Rename_l1
    cases rest with
    | nil => rw [decide_eq_false (by simp at hy; omega), cond_false]; simp
    | cons v r =>
      simp only [List.length_cons] at h0 h1 hy
      have hg : getI (pre ++ v :: r) (pre.length : Int) = some v := by rw [getI_nat, List.getElem?_append_right (Nat.le_refl _), Nat.sub_self]; rfl
      rw [decide_eq_true (by omega), hg]
      simp only [cond_true, Option.bind_some, uses_eq]
      rw [wI64 (by omega) (by omega), show ((pre.length : Int) + 1) = ((pre.length + 1 : Nat) : Int) by omega, Int.toNat_natCast, List.set_append_right _ _ (Nat.le_refl _), Nat.sub_self, List.set_cons_zero]
      have key : ∀ (x : GItem) (f : Bool), g_impl_Rename_l1 nm to y k (pre ++ x :: r) f ((pre.length + 1 : Nat) : Int) = some (pre ++ x :: r.map (ren nm to), f || r.any (matchR nm)) := fun x f => by
        have := ih (pre ++ [x]) r f (by simp; omega) (by omega) (by simp; omega)
        simp only [List.append_assoc, List.singleton_append, List.length_append, List.length_singleton] at this
        exact this
      have e : (isU v && v.Name == nm) = matchR nm v := rfl
      rw [e]
      cases hm : matchR nm v with
      | true =>
        simp only [cond_true, Option.bind_some]
        rw [key, List.map_cons, List.any_cons, hm]
        unfold ren
        rw [hm]
        simp
      | false =>
        simp only [cond_false, Option.bind_some]
        rw [key, List.map_cons, List.any_cons, hm]
        unfold ren
        rw [hm]
        simp
theorem ren_iok {nm to : Bs} (ht : to.length ≤ 1048576) {l : List GItem} (h : IL l) : IL (l.map (ren nm to)) := fun x hx => by
  obtain ⟨y, hy, rfl⟩ := List.mem_map.1 hx
  have := h y hy
  unfold ren
  cases matchR nm y with
  | true => exact ⟨ht, this.2⟩
  | false => exact this
theorem newBlk_u {c cs : List Int} {b : Nat} (hc : U32 c) (hcs : U32 cs) : U32 (newBlk c b cs) := by
  unfold newBlk
  have h1 : U32 (c.take (64 * b)) := fun x hx => hc x (List.mem_of_mem_take hx)
  have h2 : U32 (c.drop (64 * b + 64)) := fun x hx => hc x (List.mem_of_mem_drop hx)
  exact (h1.app (hcs.app (zero_u _))).app h2
theorem storeB_of {c d : List Int} (h : storeB c = true) (hl : d.length = c.length) : storeB d = true := by
  unfold storeB at *
  rw [hl]; exact h
theorem rename_l0 {s : GStore} {nm to : Bs} (hu : U32 s.Cells) (h : storeB s.Cells = true) (ht : to.length ≤ 1048576) : ∀ (k b : Nat) (out : List Int), b ≤ s.Cells.length / 64 → s.Cells.length / 64 - b < k → out.length = s.Cells.length → U32 out →
    ∃ o, g_spec_Rename_l0 s nm to k ⟨out⟩ b = some o ∧ g_impl_Rename_l0 s nm to k ⟨out⟩ b = some o ∧ ∀ c, o = .inl c → c.length = s.Cells.length ∧ U32 c := by
  have hl := storeB_len h
  intro k
  induction k with
  | zero => intro b out h0 h1; omega
  | succ k ih =>
    intro b out h0 h1 h2 h3
    unfold g_spec_Rename_l0 g_impl_Rename_l0
    rw [blocks_eq h]
    by_cases hb : b < s.Cells.length / 64
    · have hil := itsOf_len hu b
      have hio := ren_iok (nm := nm) ht (itsOf_iok hu b)
      have hs1 := spec_ren_l1 (nm := nm) (to := to) bigK [] (itsOf s.Cells b) false (by unfold bigK; omega) (by simp; omega)
      have hi1 := impl_ren_l1 (nm := nm) (to := to) (y := (itsOf s.Cells b, true)) bigK [] (itsOf s.Cells b) false (by simp) (by unfold bigK; omega) (by simp; omega)
      simp only [List.nil_append, List.length_nil, Int.natCast_zero, Bool.false_or] at hs1 hi1
      obtain ⟨cs, ok, lo, g1, g2, g3, g4, g5, g6, g7⟩ := listOk_both hio (by rw [List.length_map]; omega)
      rw [decide_eq_true (by omega), specItems hu h hb, implItems hu h hb]
      simp only [cond_true, Option.bind_some]
      rw [hs1, hi1, wI64 (x := (b : Int) + 1) (by omega) (by omega), show (b : Int) + 1 = ((b + 1 : Nat) : Int) by omega]
      simp only [Option.bind_some]
      cases (itsOf s.Cells b).any (matchR nm) with
      | false => exact ih (b + 1) out (by omega) (by omega) h2 h3
      | true =>
        have hso : storeB (⟨out⟩ : GStore).Cells = true := storeB_of h h2
        have hbo : b < (⟨out⟩ : GStore).Cells.length / 64 := by show b < out.length / 64; rw [h2]; exact hb
        simp only [Bool.not_true, cond_false]
        unfold g_spec_PutItems g_impl_PutItems
        rw [g1, g2, g6, g5]
        simp only [Option.bind_some]
        cases lo with
        | false =>
          cases ok with
          | false => exact ⟨.inr (), rfl, rfl, fun c hc => by cases hc⟩
          | true =>
            simp only [Bool.not_true, cond_false]
            rw [specPut hso hbo g4]
            exact ⟨.inr (), rfl, rfl, fun c hc => by cases hc⟩
        | true =>
          have := g7 rfl
          subst this
          simp only [Bool.not_true, cond_false]
          rw [specPut hso hbo g4, implPut hso hbo g4]
          exact ih (b + 1) _ (by omega) (by omega) (by rw [newBlk_len (by show 64 * b + 64 ≤ out.length; omega) g4]; exact h2) (newBlk_u h3 g3)
    · rw [decide_eq_false (by omega), cond_false, cond_false]
      exact ⟨_, rfl, rfl, fun c hc => by cases hc; exact ⟨h2, h3⟩⟩
theorem rename_both {s : GStore} {nm to : Bs} (hu : U32 s.Cells) (hl : s.Cells.length ≤ 1048576) (ht : to.length ≤ 1048576) : ∃ r : GStore × Bool, g_spec_Rename s nm to = some r ∧ g_impl_Rename s nm to = some r ∧ r.1.Cells.length ≤ 1048576 ∧ U32 r.1.Cells := by
  unfold g_spec_Rename g_impl_Rename
  rw [specStoreOk, implStoreOk, specNameOk ht, implNameOk ht]
  cases h : storeB s.Cells with
  | false => exact ⟨_, rfl, rfl, by simp, .nil⟩
  | true =>
    cases named to with
    | false => exact ⟨_, rfl, rfl, by simp, .nil⟩
    | true =>
      have hsl := storeB_len h
      unfold g_slices_Clone_uint32
      simp only [Option.bind_some, Bool.not_true, cond_false]
      rw [app_eq (by simp; omega)]
      simp only [Option.bind_some, List.nil_append]
      obtain ⟨o, h1, h2, h3⟩ := rename_l0 (nm := nm) hu h ht bigK 0 s.Cells (Nat.zero_le _) (by unfold bigK; omega) rfl hu
      rw [Int.natCast_zero] at h1 h2
      rw [h1, h2]
      cases o with
      | inl c =>
        have := h3 c rfl
        exact ⟨_, rfl, rfl, by show c.length ≤ 1048576; omega, this.2⟩
      | inr u => exact ⟨_, rfl, rfl, by simp, .nil⟩
end Go.Proofs.YthhoellakpnjpaaGreat

namespace Go.Proofs.YthhoellakpnjpaaGreat
open Go Go.Fm
set_option linter.unusedVariables false
set_option linter.unusedSimpArgs false
/-- A block that is full does not end in the first cell of a variable. -/
def Qs (c : List Int) : Prop := ∀ (b : Nat) (v : Int), c[64 * b + 63]? = some v → v % 16 ≠ 12
theorem isName_le {t : Int} (h0 : 0 ≤ t) (h1 : t < 16) (h : isName t = true) : t ≠ 2 ∧ t ≠ 5 ∧ t ≠ 12 ∧ t ≠ 6 ∧ t ≠ 8 ∧ t ≠ 0 := by
  have hh : t = 1 ∨ t = 3 ∨ t = 4 ∨ t = 9 ∨ t = 10 ∨ t = 11 := by simpa [isName] using h
  omega
theorem lng_zero {v : Int} (h : v % 16 = 2 ∨ v % 16 = 5) : ∃ cs, g_impl_CellsOf (lng v 0) = some cs ∧ cs ≠ [v, 0] := by
  obtain ⟨cs, hcs, _, hl⟩ := lng_cells (v := v) (w := 0)
  refine ⟨cs, hcs, fun he => ?_⟩
  have hn : ∀ (hex : Bool) (s l : Int), g_impl_numberCells (IntKind.wrap .i32 0) hex s l = some cs → cs.length = 1 := fun hex s l h => by
    unfold g_impl_numberCells at h
    have hb : (cond hex (some 16) (some 0) : Option Int) = some (cond hex 16 0) := by cases hex <;> rfl
    rw [hb, show IntKind.wrap .i32 (0 : Int) = 0 from by decide] at h
    simp only [Option.bind_some] at h
    rw [show decide ((0 : Int) ≥ -67108864) = true from rfl, show decide ((0 : Int) ≤ 67108863) = true from rfl] at h
    cases h
    rfl
  have h1 : cs.length = 1 := by
    unfold lng at hcs
    rcases h with h2 | h5
    · rw [h2, show ((2 : Int) == 5) = false from rfl, cond_false, cells_7] at hcs
      exact hn _ _ _ hcs
    · rw [h5, show ((5 : Int) == 5) = true from rfl, cond_true, cells_8] at hcs
      exact hn _ _ _ hcs
  rw [he] at h1
  simp at h1
/-- A nought behind the last cell changes nothing, but for a variable. -/
theorem pm_ext {v : Int} {run : List Int} (h12 : v % 16 ≠ 12) : pm v run (some 0) = pm v run none := by
  unfold pm
  cases h1 : isName (v % 16) with
  | true => rfl
  | false =>
    simp only [cond_false]
    cases v % 16 == 8 with
    | true => rfl
    | false =>
      simp only [cond_false]
      cases v % 16 == 6 with
      | true => rfl
      | false =>
        simp only [cond_false]
        cases h25 : (v % 16 == 2 || v % 16 == 5) with
        | true =>
          have h : v % 16 = 2 ∨ v % 16 = 5 := by simpa using h25
          obtain ⟨cs, hcs, hne⟩ := lng_zero h
          simp only [cond_true, hcs, Option.bind_some]
          rw [decide_eq_false hne]
          rfl
        | false =>
          have : (v % 16 == 12) = false := by simpa using h12
          rw [this]
          simp only [cond_false]
theorem pm_none12 {v : Int} {run : List Int} (h : v % 16 = 12) : pm v run none = some (raw v) := by
  unfold pm
  rw [h]
  rfl
theorem runP_zero (m : Nat) (tl : List Int) : (tl ++ List.replicate m 0).takeWhile runP = tl.takeWhile runP := by
  induction tl with
  | nil =>
    cases m with
    | zero => rfl
    | succ m => rw [List.nil_append, List.replicate_succ, List.takeWhile_cons]; rfl
  | cons x r ih => rw [List.cons_append, List.takeWhile_cons, List.takeWhile_cons, ih]
theorem zeros_parse : ∀ m : Nat, m ≤ 64 → Parses (List.replicate m 0) (List.replicate m rz)
  | 0, _ => .nil
  | m + 1, h => by
    have hu : U32 (0 :: List.replicate m 0) := by rw [← List.replicate_succ]; exact zero_u _
    have hl : (0 :: List.replicate m (0 : Int)).length ≤ 64 := by simp; omega
    refine .cons (cs := [0]) (rest := List.replicate m 0) ?_ cells_raw (by simp) rfl (zeros_parse m (by omega))
    rw [List.replicate_succ, parse_pm hu hl]
    cases m with
    | zero => rfl
    | succ m => rfl
/-- The last item stands, whatever noughts follow. -/
def Stable (L : List GItem) : Prop := ∀ x v, L = x ++ [raw v] → pm v [] (some 0) = some (raw v)
theorem zero_ext : ∀ (L : List GItem) (cs : List Int) (m : Nat), U32 cs → cs.length + m ≤ 64 → Parses cs L → Stable L → Parses (cs ++ List.replicate m 0) (L ++ List.replicate m rz)
  | [], cs, m, hu, hl, hp, hs => by
    cases hp
    exact zeros_parse m (by simpa using hl)
  | it :: L, cs, m, hu, hl, hp, hs => by
    cases hp with
    | cons h1 h2 h3 h4 h5 =>
      rename_i rest cc
      have hlen : cs.length = cc.length + rest.length := by rw [h4, List.length_append]
      have hur : U32 rest := fun x hx => hu x (by rw [h4]; exact List.mem_append_right _ hx)
      have hsL : Stable L := fun x v he => hs (it :: x) v (by rw [he]; rfl)
      have ih := zero_ext L rest m hur (by omega) h5 hsL
      cases cs with
      | nil => simp at hlen; omega
      | cons v tl =>
        have hl1 : (v :: tl).length ≤ 64 := by omega
        have huz : U32 (v :: (tl ++ List.replicate m 0)) := by
          have : U32 ((v :: tl) ++ List.replicate m 0) := hu.app (zero_u m)
          exact this
        have hlz : (v :: (tl ++ List.replicate m (0 : Int))).length ≤ 64 := by simp at hl ⊢; omega
        refine .cons (cs := cc) (rest := rest ++ List.replicate m 0) ?_ h2 h3 (by rw [h4, List.append_assoc]) ih
        rw [parse_pm hu hl1] at h1
        rw [List.cons_append, parse_pm huz hlz, runP_zero]
        cases tl with
        | cons x r => exact h1
        | nil =>
          cases m with
          | zero => exact h1
          | succ m =>
            have hr : rest = [] := by
              have : cc.length + rest.length = 1 := by rw [← hlen]; rfl
              exact List.eq_nil_of_length_eq_zero (by omega)
            have hL : L = [] := by
              rw [hr] at h5
              cases h5 with
              | nil => rfl
              | cons a1 a2 a3 a4 a5 => have := congrArg List.length a4; simp at this; omega
            show pm v [] (some 0) = some it
            have h1' : pm v [] none = some it := h1
            by_cases h12 : v % 16 = 12
            · rw [pm_none12 h12] at h1'
              cases h1'
              exact hs [] v (by rw [hL]; rfl)
            · rw [pm_ext h12]; exact h1'
theorem strip_uniq {L L' : List GItem} {m z : Nat} (h : L ++ List.replicate m rz = L' ++ List.replicate z rz) (h1 : ∀ x, L ≠ x ++ [rz]) (h2 : ∀ x, L' ≠ x ++ [rz]) : L = L' := by
  induction m generalizing z with
  | zero =>
    cases z with
    | zero => simpa using h
    | succ z =>
      rw [List.replicate_zero, List.append_nil, List.replicate_succ', ← List.append_assoc] at h
      exact absurd h (h1 _)
  | succ m ih =>
    cases z with
    | zero =>
      rw [List.replicate_zero, List.append_nil, List.replicate_succ', ← List.append_assoc] at h
      exact absurd h.symm (h2 _)
    | succ z =>
      rw [List.replicate_succ', List.replicate_succ', ← List.append_assoc, ← List.append_assoc] at h
      exact ih (List.append_inj' h rfl).1
theorem parse_pad {cs : List Int} {L : List GItem} {m : Nat} (hu : U32 cs) (hl : cs.length + m ≤ 64) (hp : Parses cs L) (hs : Stable L) (hn : ∀ x, L ≠ x ++ [rz]) : g_impl_ParseCells (cs ++ List.replicate m 0) = some L := by
  have hz := zero_ext L cs m hu hl hp hs
  have hlz : (cs ++ List.replicate m (0 : Int)).length ≤ 64 := by simp; omega
  have hlen := hz.len
  obtain ⟨its, z, e1, e2, e3⟩ := strip_l1 bigK (L ++ List.replicate m rz) (by unfold bigK; omega) (by omega)
  have : L = its := strip_uniq e1 hn e2
  subst this
  unfold g_impl_ParseCells
  rw [decide_eq_false (by omega), cond_false, parse_l0 bigK _ [] _ hz (by unfold bigK; omega) (by simpa using hlz), Option.bind_some, List.nil_append, wI64 (by omega) (by omega), e3]
  rfl
theorem last_raw : ∀ (x : List GItem) (cells : List Int) (v : Int) (L : List GItem), U32 cells → cells.length ≤ 64 → Parses cells (x ++ raw v :: rz :: L) → pm v [] (some 0) = some (raw v)
  | [], cells, v, L, hu, hl, hp => by
    rw [List.nil_append] at hp
    cases hp with
    | cons h1 h2 h3 h4 h5 =>
      rename_i rest cs
      rw [show g_impl_CellsOf (raw v) = some [v] from cells_raw] at h2
      cases h2
      cases h5 with
      | cons g1 g2 g3 g4 g5 =>
        rename_i rest2 cs2
        rw [show g_impl_CellsOf rz = some [0] from cells_raw] at g2
        cases g2
        have hc : cells = v :: (0 :: rest2) := by rw [h4, g4]; rfl
        rw [hc] at hu hl h1
        rw [parse_pm hu hl] at h1
        exact h1
  | y :: x, cells, v, L, hu, hl, hp => by
    rw [List.cons_append] at hp
    cases hp with
    | cons h1 h2 h3 h4 h5 =>
      rename_i rest cs
      exact last_raw x rest v L (fun a ha => hu a (by rw [h4]; exact List.mem_append_right _ ha)) (by rw [h4, List.length_append] at hl; omega) h5
theorem last_cell : ∀ (x : List GItem) (cells : List Int) (v : Int), Parses cells (x ++ [raw v]) → ∃ y, cells = y ++ [v]
  | [], cells, v, hp => by
    rw [List.nil_append] at hp
    cases hp with
    | cons h1 h2 h3 h4 h5 =>
      rw [show g_impl_CellsOf (raw v) = some [v] from cells_raw] at h2
      cases h2
      cases h5
      exact ⟨[], by rw [h4]; rfl⟩
  | y :: x, cells, v, hp => by
    rw [List.cons_append] at hp
    cases hp with
    | cons h1 h2 h3 h4 h5 =>
      rename_i rest cs
      obtain ⟨z, hz⟩ := last_cell x rest v h5
      exact ⟨cs ++ z, by rw [h4, hz, List.append_assoc]⟩
theorem last_parse : ∀ (x : List GItem) (cells : List Int) (v : Int), U32 cells → cells.length ≤ 64 → Parses cells (x ++ [raw v]) → pm v [] none = some (raw v)
  | [], cells, v, hu, hl, hp => by
    rw [List.nil_append] at hp
    cases hp with
    | cons h1 h2 h3 h4 h5 =>
      rw [show g_impl_CellsOf (raw v) = some [v] from cells_raw] at h2
      cases h2
      cases h5
      have hc : cells = [v] := by rw [h4]; rfl
      rw [hc] at hu hl h1
      rw [parse_pm hu hl] at h1
      exact h1
  | y :: x, cells, v, hu, hl, hp => by
    rw [List.cons_append] at hp
    cases hp with
    | cons h1 h2 h3 h4 h5 =>
      rename_i rest cs
      exact last_parse x rest v (fun a ha => hu a (by rw [h4]; exact List.mem_append_right _ ha)) (by rw [h4, List.length_append] at hl; omega) h5
/-- What a block of a drawn store holds. -/
theorem blk_stable {c : List Int} (hu : U32 c) (hq : Qs c) {b : Nat} (hb : 64 * b + 64 ≤ c.length) : ∃ cells' z, g_impl_ParseCells (blk c b) = some (itsOf c b) ∧ blk c b = cells' ++ List.replicate z 0 ∧ Parses cells' (itsOf c b) ∧ (∀ x, itsOf c b ≠ x ++ [rz]) ∧ Stable (itsOf c b) ∧ U32 cells' := by
  have hub := blk_u hu b
  have hbl : (blk c b).length = 64 := by unfold blk; rw [List.length_take, List.length_drop]; omega
  obtain ⟨all, hp⟩ := parses_ex _ (blk c b) (Nat.le_refl _) hub (by omega)
  have hlen := hp.len
  obtain ⟨its, z, h1, h2, h3⟩ := strip_l1 bigK all (by unfold bigK; omega) (by omega)
  have hp2 := hp
  rw [h1] at hp2
  obtain ⟨cells', e1, e2⟩ := parses_cut its z (blk c b) hub (by omega) hp2
  have hpc : g_impl_ParseCells (blk c b) = some its := by
    unfold g_impl_ParseCells
    rw [decide_eq_false (by omega), cond_false, parse_l0 bigK (blk c b) [] all hp (by unfold bigK; omega) (by simp; omega), Option.bind_some, List.nil_append, wI64 (by omega) (by omega), h3]
    rfl
  have hi : itsOf c b = its := by unfold itsOf; rw [hpc]; rfl
  have huc : U32 cells' := fun x hx => hub x (by rw [e1]; exact List.mem_append_left _ hx)
  rw [hi]
  refine ⟨cells', z, hpc, e1, e2, h2, fun x v hx => ?_, huc⟩
  cases z with
  | succ z =>
    rw [hx, List.append_assoc, List.replicate_succ] at hp2
    exact last_raw x (blk c b) v _ hub (by omega) hp2
  | zero =>
    rw [hx] at e2
    rw [List.replicate_zero, List.append_nil] at e1
    obtain ⟨y, hy⟩ := last_cell x cells' v e2
    have hyl : y.length = 63 := by rw [e1, hy, List.length_append] at hbl; simpa using hbl
    have hv : c[64 * b + 63]? = some v := by
      have h63 : (blk c b)[63]? = some v := by rw [e1, hy, List.getElem?_append_right (by omega), hyl]; rfl
      unfold blk at h63
      rw [List.getElem?_take_of_lt (by decide), List.getElem?_drop] at h63
      exact h63
    rw [pm_ext (hq b v hv)]
    exact last_parse x cells' v huc (by rw [hy]; simp; omega) e2
end Go.Proofs.YthhoellakpnjpaaGreat

namespace Go.Proofs.YthhoellakpnjpaaGreat
open Go Go.Fm
set_option linter.unusedVariables false
set_option linter.unusedSimpArgs false
theorem unparse_l0 {its : List GItem} (hi : its.length ≤ 64) : ∀ (k n : Nat) (out rest : List Int), Parses rest (its.drop n) → n ≤ its.length → its.length - n < k → out.length + rest.length ≤ 64 →
    g_impl_Unparse_l0 its k out n = some (.inl (out ++ rest)) := by
  intro k
  induction k with
  | zero => intro n out rest hp h0 h1; omega
  | succ k ih =>
    intro n out rest hp h0 h1 h2
    unfold g_impl_Unparse_l0
    by_cases hn : n < its.length
    · rw [List.drop_eq_getElem_cons hn] at hp
      cases hp with
      | cons g1 g2 g3 g4 g5 =>
        rename_i rest' cs
        have hlen : rest.length = cs.length + rest'.length := by rw [g4, List.length_append]
        rw [decide_eq_true (by omega), cond_true, getI_nat, List.getElem?_eq_getElem hn, Option.bind_some, g2, Option.bind_some, app_eq (by omega), Option.bind_some]
        have e1 : ((cs.length : Int) == 0) = false := by simp; intro h; rw [h] at g3; simp at g3
        have e2 : decide ((((out ++ cs).length : Nat) : Int) > 64) = false := decide_eq_false (by rw [List.length_append]; omega)
        rw [e1, e2]
        simp only [cond_false, Option.bind_some]
        rw [wI64 (by omega) (by omega), show ((n : Int) + 1) = ((n + 1 : Nat) : Int) by omega, ih (n + 1) (out ++ cs) rest' g5 (by omega) (by omega) (by rw [List.length_append]; omega), g4, List.append_assoc]
    · rw [List.drop_eq_nil_of_le (by omega)] at hp
      cases hp
      rw [decide_eq_false (by omega), cond_false, List.append_nil]
theorem unparse_ok {cells : List Int} {its : List GItem} (hl : cells.length ≤ 64) (hp : Parses cells its) : g_impl_Unparse its = some (cells, true) := by
  have hlen := hp.len
  have := unparse_l0 (its := its) (by omega) bigK 0 [] cells hp (Nat.zero_le _) (by unfold bigK; omega) (by simpa using hl)
  simp only [Int.natCast_zero, List.nil_append] at this
  unfold g_impl_Unparse
  rw [this]
  rfl
theorem listOk_parse {l : List GItem} {cs : List Int} {ok : Bool} (hu : g_impl_Unparse l = some (cs, ok)) (h : g_impl_ListOk l = some true) (hU : U32 cs) (hl : cs.length ≤ 64) : g_impl_ParseCells cs = some l := by
  unfold g_impl_ListOk at h
  rw [hu] at h
  cases ok with
  | false => cases h
  | true =>
    obtain ⟨its, cells', z, h1, h2, h3, _⟩ := parseCells_ok hU hl
    have hil := h3.len
    have hcl : cells'.length ≤ 64 := by rw [h2, List.length_append] at hl; omega
    simp only [Option.bind_some, cond_true] at h
    rw [h1] at h
    simp only [Option.bind_some] at h
    rw [equal_items (by omega)] at h
    have : its = l := by simpa using h
    rw [h1, this]
theorem listOk_of {l : List GItem} {cells : List Int} (hl : cells.length ≤ 64) (hp : Parses cells l) (hn : ∀ x, l ≠ x ++ [rz]) : g_impl_ListOk l = some true := by
  have hlen := hp.len
  unfold g_impl_ListOk
  rw [unparse_ok hl hp]
  simp only [Option.bind_some, cond_true]
  rw [parseCells_same hl hp hn]
  simp only [Option.bind_some]
  rw [equal_items (by omega), decide_eq_true rfl]
  rfl
theorem blk_new {c cs : List Int} {b : Nat} (h : 64 * b + 64 ≤ c.length) (hc : cs.length ≤ 64) : blk (newBlk c b cs) b = cs ++ List.replicate (64 - cs.length) 0 := by
  unfold blk newBlk
  rw [List.append_assoc, List.drop_left' (by rw [List.length_take]; omega), List.take_left' (by simp; omega)]
theorem blk_old {c cs : List Int} {b b' : Nat} (h : 64 * b + 64 ≤ c.length) (hb : b' < b) : blk (newBlk c b cs) b' = blk c b' := by
  unfold blk newBlk
  rw [List.append_assoc, List.drop_append_of_le_length (by rw [List.length_take]; omega), List.take_append_of_le_length (by rw [List.length_drop, List.length_take]; omega), List.drop_take, List.take_take]
  congr 1
  omega
theorem drop_new {c cs : List Int} {b : Nat} (h : 64 * b + 64 ≤ c.length) (hc : cs.length ≤ 64) : (newBlk c b cs).drop (64 * (b + 1)) = c.drop (64 * (b + 1)) := by
  unfold newBlk
  rw [List.drop_left' (by simp only [List.length_append, List.length_take, List.length_replicate]; omega)]
  rfl
theorem ren_raw {nm to : Bs} {it : GItem} {v : Int} (h : ren nm to it = raw v) : it = raw v := by
  unfold ren at h
  cases hm : matchR nm it with
  | false => rw [hm] at h; exact h
  | true =>
    rw [hm] at h
    have hk : it.Kind = 0 := congrArg GItem.Kind h
    unfold matchR isU at hm
    rw [hk] at hm
    cases hm
theorem map_last {nm to : Bs} {l x : List GItem} {v : Int} (h : l.map (ren nm to) = x ++ [raw v]) : ∃ y, l = y ++ [raw v] := by
  rcases List.eq_nil_or_concat l with rfl | ⟨y, it, rfl⟩
  · simp at h
  · rw [List.concat_eq_append, List.map_append, List.map_singleton] at h
    have := List.append_inj' h rfl
    have h2 : ren nm to it = raw v := by simpa using this.2
    exact ⟨y, by rw [List.concat_eq_append, ren_raw h2]⟩
theorem stable_map {nm to : Bs} {l : List GItem} (h : Stable l) : Stable (l.map (ren nm to)) := fun x v hx => by
  obtain ⟨y, hy⟩ := map_last hx
  exact h y v hy
def Fb (s : List Int) (nm to : Bs) (b : Nat) (B : List Int) : Prop := g_impl_ParseCells B = some ((itsOf s b).map (ren nm to)) ∧ ((itsOf s b).any (matchR nm) = false → B = blk s b)
theorem ren_id {nm to : Bs} {l : List GItem} (h : l.any (matchR nm) = false) : l.map (ren nm to) = l := by
  conv => rhs; rw [← List.map_id l]
  refine List.map_congr_left fun it hi => ?_
  have := (List.any_eq_false.1 h) it hi
  unfold ren
  rw [Bool.eq_false_iff.2 this]
  rfl
theorem fwd {s : GStore} {nm to : Bs} (hu : U32 s.Cells) (h : storeB s.Cells = true) (ht : to.length ≤ 1048576) (hq : Qs s.Cells) : ∀ (k b : Nat) (out : List Int), b ≤ s.Cells.length / 64 → s.Cells.length / 64 - b < k → out.length = s.Cells.length → U32 out →
    out.drop (64 * b) = s.Cells.drop (64 * b) → (∀ b', b' < b → Fb s.Cells nm to b' (blk out b')) →
    ∃ o, g_impl_Rename_l0 s nm to k ⟨out⟩ b = some o ∧ ∀ c, o = .inl c → c.length = s.Cells.length ∧ U32 c ∧ ∀ b', b' < s.Cells.length / 64 → Fb s.Cells nm to b' (blk c b') := by
  have hl := storeB_len h
  intro k
  induction k with
  | zero => intro b out h0 h1; omega
  | succ k ih =>
    intro b out h0 h1 h2 h3 h4 h5
    unfold g_impl_Rename_l0
    rw [blocks_eq h]
    by_cases hb : b < s.Cells.length / 64
    · have hil := itsOf_len hu b
      have hio := ren_iok (nm := nm) ht (itsOf_iok hu b)
      obtain ⟨cs0, z0, q1, q2, q3, q4, q5, q6⟩ := blk_stable hu hq (b := b) (by omega)
      have hi1 := impl_ren_l1 (nm := nm) (to := to) (y := (itsOf s.Cells b, true)) bigK [] (itsOf s.Cells b) false (by simp) (by unfold bigK; omega) (by simp; omega)
      simp only [List.nil_append, List.length_nil, Int.natCast_zero, Bool.false_or] at hi1
      obtain ⟨cs, ok, lo, g1, g2, g3, g4, g5, g6, g7⟩ := listOk_both hio (by rw [List.length_map]; omega)
      have hblk : blk out b = blk s.Cells b := by unfold blk; rw [h4]
      have hdrop : out.drop (64 * (b + 1)) = s.Cells.drop (64 * (b + 1)) := by
        rw [show 64 * (b + 1) = 64 * b + 64 by omega, ← List.drop_drop, ← List.drop_drop, h4]
      rw [decide_eq_true (by omega), implItems hu h hb]
      simp only [cond_true, Option.bind_some]
      rw [hi1, wI64 (x := (b : Int) + 1) (by omega) (by omega), show (b : Int) + 1 = ((b + 1 : Nat) : Int) by omega]
      simp only [Option.bind_some]
      cases hany : (itsOf s.Cells b).any (matchR nm) with
      | false =>
        refine ih (b + 1) out (by omega) (by omega) h2 h3 hdrop fun b' hb' => ?_
        by_cases he : b' = b
        · subst he
          exact ⟨by rw [hblk, q1, ren_id hany], fun _ => hblk⟩
        · exact h5 b' (by omega)
      | true =>
        have hso : storeB (⟨out⟩ : GStore).Cells = true := storeB_of h h2
        have hbo : b < (⟨out⟩ : GStore).Cells.length / 64 := by show b < out.length / 64; rw [h2]; exact hb
        simp only [Bool.not_true, cond_false]
        unfold g_impl_PutItems
        rw [g2, g6]
        simp only [Option.bind_some]
        cases lo with
        | false => exact ⟨.inr (), rfl, fun c hc => by cases hc⟩
        | true =>
          have hok := g7 rfl
          subst hok
          simp only [Bool.not_true, cond_false]
          rw [implPut hso hbo g4]
          have hol : 64 * b + 64 ≤ out.length := by omega
          refine ih (b + 1) (newBlk out b cs) (by omega) (by omega) (by rw [newBlk_len hol g4]; exact h2) (newBlk_u h3 g3) (by rw [drop_new hol g4]; exact hdrop) fun b' hb' => ?_
          by_cases he : b' = b
          · subst he
            refine ⟨?_, fun hf => by rw [hany] at hf; cases hf⟩
            have hpc := listOk_parse g2 g6 g3 g4
            obtain ⟨its, cells', z, p1, p2, p3, p4⟩ := parseCells_ok g3 g4
            rw [hpc] at p1
            have hits := Option.some.inj p1
            rw [← hits] at p3 p4
            rw [blk_new hol g4]
            have hcl : cs.length = cells'.length + z := by rw [p2]; simp
            have : cs ++ List.replicate (64 - cs.length) (0 : Int) = cells' ++ List.replicate (z + (64 - cs.length)) 0 := by
              conv => lhs; lhs; rw [p2]
              rw [List.append_assoc, List.replicate_append_replicate]
            rw [this]
            exact parse_pad (fun x hx => g3 x (by rw [p2]; exact List.mem_append_left _ hx)) (by omega) p3 (stable_map q5) p4
          · have := h5 b' (by omega)
            rw [blk_old hol (by omega)]
            exact this
    · have : b = s.Cells.length / 64 := by omega
      subst this
      rw [decide_eq_false (by omega), cond_false]
      exact ⟨_, rfl, fun c hc => by cases hc; exact ⟨h2, h3, h5⟩⟩
theorem match_back {nm to : Bs} {it : GItem} (h : matchR to it = false) : matchR to (ren nm to it) = matchR nm it := by
  unfold ren
  cases hm : matchR nm it with
  | false => exact h
  | true =>
    have : isU it = true := by unfold matchR at hm; rw [Bool.and_eq_true] at hm; exact hm.1
    unfold matchR
    simp only [cond_true, beq_self_eq_true, Bool.and_true]
    exact this
theorem ren_back {nm to : Bs} {it : GItem} (h : matchR to it = false) : ren to nm (ren nm to it) = it := by
  have hb := match_back (nm := nm) h
  unfold ren at hb ⊢
  cases hm : matchR nm it with
  | false =>
    simp only [cond_false]
    rw [h]
    rfl
  | true =>
    rw [hm] at hb
    simp only [cond_true] at hb ⊢
    rw [hb]
    simp only [cond_true]
    unfold matchR at hm
    rw [Bool.and_eq_true] at hm
    have := eq_of_beq hm.2
    obtain ⟨a, b, c, d, e⟩ := it
    simp only at this
    rw [this]
theorem split_at {s t : List Int} {b : Nat} (hs : 64 * b + 64 ≤ s.length) : s.take (64 * b) ++ blk s b ++ t.drop (64 * (b + 1)) = s.take (64 * (b + 1)) ++ t.drop (64 * (b + 1)) := by
  congr 1
  unfold blk
  rw [show 64 * (b + 1) = 64 * b + 64 by omega, List.take_add]
theorem back {s t : GStore} {nm to : Bs} (hu : U32 s.Cells) (h : storeB s.Cells = true) (hq : Qs s.Cells) (htl : t.Cells.length = s.Cells.length) (hut : U32 t.Cells) (hF : ∀ b', b' < s.Cells.length / 64 → Fb s.Cells nm to b' (blk t.Cells b'))
    (hno : ∀ b', b' < s.Cells.length / 64 → ∀ it ∈ itsOf s.Cells b', matchR to it = false) : ∀ (k b : Nat), b ≤ s.Cells.length / 64 → s.Cells.length / 64 - b < k →
    g_impl_Rename_l0 t to nm k ⟨s.Cells.take (64 * b) ++ t.Cells.drop (64 * b)⟩ b = some (.inl s.Cells) := by
  have hl := storeB_len h
  have htb : storeB t.Cells = true := storeB_of h htl
  intro k
  induction k with
  | zero => intro b h0 h1; omega
  | succ k ih =>
    intro b h0 h1
    unfold g_impl_Rename_l0
    rw [blocks_eq htb, htl]
    by_cases hb : b < s.Cells.length / 64
    · have hil := itsOf_len hu b
      obtain ⟨cs0, z0, q1, q2, q3, q4, q5, q6⟩ := blk_stable hu hq (b := b) (by omega)
      have hFb := hF b hb
      have hit : itsOf t.Cells b = (itsOf s.Cells b).map (ren nm to) := by
        unfold itsOf; rw [hFb.1]; rfl
      have hbl : (blk s.Cells b).length = 64 := by unfold blk; rw [List.length_take, List.length_drop]; omega
      have hc0 : cs0.length ≤ 64 := by rw [q2, List.length_append] at hbl; omega
      have hz0 : z0 = 64 - cs0.length := by rw [q2, List.length_append, List.length_replicate] at hbl; omega
      have hi1 := impl_ren_l1 (nm := to) (to := nm) (y := (itsOf t.Cells b, true)) bigK [] (itsOf t.Cells b) false (by simp) (by rw [hit, List.length_map]; unfold bigK; omega) (by rw [hit]; simp; omega)
      simp only [List.nil_append, List.length_nil, Int.natCast_zero, Bool.false_or] at hi1
      have hmap : (itsOf t.Cells b).map (ren to nm) = itsOf s.Cells b := by
        rw [hit, List.map_map]
        conv => rhs; rw [← List.map_id (itsOf s.Cells b)]
        exact List.map_congr_left fun it hi => ren_back (hno b hb it hi)
      have hany : (itsOf t.Cells b).any (matchR to) = (itsOf s.Cells b).any (matchR nm) := by
        rw [hit, List.any_map, Bool.eq_iff_iff, List.any_eq_true, List.any_eq_true]
        constructor
        · rintro ⟨it, hi, hm⟩
          exact ⟨it, hi, by rw [← match_back (nm := nm) (hno b hb it hi)]; exact hm⟩
        · rintro ⟨it, hi, hm⟩
          exact ⟨it, hi, by show matchR to (ren nm to it) = true; rw [match_back (nm := nm) (hno b hb it hi)]; exact hm⟩
      have hol : (s.Cells.take (64 * b) ++ t.Cells.drop (64 * b)).length = s.Cells.length := by simp; omega
      have hout : t.Cells.drop (64 * b) = blk t.Cells b ++ t.Cells.drop (64 * (b + 1)) := by
        unfold blk
        rw [show 64 * (b + 1) = 64 * b + 64 by omega, ← List.drop_drop, List.take_append_drop]
      rw [hmap, hany] at hi1
      rw [decide_eq_true (by omega), implItems hut htb (by rw [htl]; exact hb)]
      simp only [cond_true, Option.bind_some]
      rw [hi1, wI64 (x := (b : Int) + 1) (by omega) (by omega), show (b : Int) + 1 = ((b + 1 : Nat) : Int) by omega]
      simp only [Option.bind_some]
      cases hm : (itsOf s.Cells b).any (matchR nm) with
      | false =>
        simp only [Bool.not_false, cond_true]
        have := hFb.2 hm
        rw [hout, this, ← List.append_assoc, split_at (by omega)]
        exact ih (b + 1) (by omega) (by omega)
      | true =>
        have hso : storeB (⟨s.Cells.take (64 * b) ++ t.Cells.drop (64 * b)⟩ : GStore).Cells = true := storeB_of h hol
        have hbo : b < (⟨s.Cells.take (64 * b) ++ t.Cells.drop (64 * b)⟩ : GStore).Cells.length / 64 := by show b < (s.Cells.take (64 * b) ++ t.Cells.drop (64 * b)).length / 64; rw [hol]; exact hb
        simp only [Bool.not_true, cond_false]
        unfold g_impl_PutItems
        rw [listOk_of hc0 q3 q4, unparse_ok hc0 q3]
        simp only [Option.bind_some, Bool.not_true, cond_false]
        rw [implPut hso hbo hc0]
        simp only [Option.bind_some]
        have hnew : newBlk (s.Cells.take (64 * b) ++ t.Cells.drop (64 * b)) b cs0 = s.Cells.take (64 * (b + 1)) ++ t.Cells.drop (64 * (b + 1)) := by
          unfold newBlk
          have hta : (s.Cells.take (64 * b)).length = 64 * b := by rw [List.length_take]; omega
          rw [List.take_left' hta, ← hz0, ← q2, ← List.drop_drop, List.drop_left' hta, List.drop_drop, show 64 * b + 64 = 64 * (b + 1) by omega, split_at (by omega)]
        rw [hnew]
        exact ih (b + 1) (by omega) (by omega)
    · have : b = s.Cells.length / 64 := by omega
      rw [decide_eq_false (by omega), cond_false]
      congr 2
      rw [List.take_of_length_le (by omega), List.drop_eq_nil_of_le (by omega), List.append_nil]
end Go.Proofs.YthhoellakpnjpaaGreat

namespace Go.Proofs.YthhoellakpnjpaaGreat
open Go Go.Fm
set_option linter.unusedVariables false
set_option linter.unusedSimpArgs false
theorem specOne_ok2 {s : Bs} (hs : 1 ≤ s.length ∧ s.length ≤ 24) : Tot (g_spec_l03One s) fun r => (0 ≤ r.1 ∧ r.1 < 4294967296) ∧ 1 ≤ r.2 ∧ r.2 ≤ s.length ∧ (4 ≤ r.2 ∨ r.2 = s.length) := by
  unfold g_spec_l03One
  have key : ∀ (k : Nat) (f left n : Int), 0 ≤ n → n ≤ s.length → 0 ≤ left → left ≤ 28 → 28 - left ≤ 7 * n → s.length - n < k → Tot (g_spec_l03One_l0 s k f left n) fun r => 1 ≤ r.2 ∧ r.2 ≤ s.length ∧ (4 ≤ r.2 ∨ r.2 = s.length) := by
    intro k
    induction k with
    | zero => intro f left n h0 h1 h2 h3 h4 h5; omega
    | succ k ih =>
      intro f left n h0 h1 h2 h3 h4 h5
      unfold g_spec_l03One_l0
      refine .condD (fun hi => ?_) fun hi => .some ⟨by show 1 ≤ n; omega, by show n ≤ _; omega, .inr (by show n = _; omega)⟩
      obtain ⟨v, hv, _⟩ := idxS_ex h0 hi
      refine .bindE hv (.bind specLetterOf_ok fun x hx => .bind specWidth_ok fun w hw => .condD (fun hc => .some ⟨by show 1 ≤ n; omega, by show n ≤ _; omega, .inl (by show 4 ≤ n; omega)⟩) fun hc => .bind specBits_ok fun b _ => .bind (shl_ok (wU64_nn _)) fun d _ => ?_)
      rw [wI64 (x := n + 1) (by omega) (by omega), wI64 (x := left - w) (by omega) (by omega)]
      exact ih _ _ _ (by omega) (by omega) (by omega) (by omega) (by omega) (by omega)
  exact .bind (key bigK 0 28 0 (by decide) (by omega) (by decide) (by decide) (by decide) (by unfold bigK; omega)) fun r hr => .some ⟨wU32_bd _, hr⟩
theorem specPack_ok2 {s : Bs} (hs : s.length ≤ 12) : Tot (g_spec_Pack s) fun r => U32 r ∧ r.length ≤ 3 := by
  unfold g_spec_Pack
  refine .bind (specNameOk_ok (by omega)) fun a ha => .cond (fun _ => .some ⟨.nil, by simp⟩) fun hc => ?_
  have key : ∀ (k : Nat) (x : Bs) (out : List Int), U32 out → out.length + (x.length + 3) / 4 ≤ 3 → x.length < k → Tot (g_spec_Pack_l0 k x out) fun r => U32 r ∧ r.length ≤ 3 := by
    intro k
    induction k with
    | zero => intro x out h0 h1 h2; omega
    | succ k ih =>
      intro x out h1 h2 h3
      unfold g_spec_Pack_l0
      refine .cond (fun hx => ?_) fun _ => .some ⟨h1, by omega⟩
      have hx1 : 1 ≤ x.length := by
        have : x ≠ [] := by simpa using hx
        have := List.length_pos_iff.2 this
        omega
      refine .bind (specOne_ok2 ⟨hx1, by omega⟩) fun r hr => .bindE (app_eq (by simp; omega)) (.bindE (subL_drop (by omega) hr.2.2.1) ?_)
      have hd : (x.drop r.2.toNat).length = x.length - r.2.toNat := List.length_drop
      exact ih _ _ (h1.app (.one hr.1)) (by rw [List.length_append, hd, List.length_singleton]; have := hr.2.2.2; omega) (by omega)
  exact .bind (key bigK s [] .nil (by simp; omega) (by unfold bigK; omega)) fun r hr => .some hr
theorem specWord_ok2 {tag : Int} {s : Bs} (hs : s.length ≤ 12) : Tot (g_spec_l04Word tag s) fun r => U32 r ∧ r.length ≤ 3 := by
  unfold g_spec_l04Word
  refine .bind (specPack_ok2 hs) fun a ha => ?_
  have key : ∀ (k : Nat) (out : List Int) (i : Int), U32 out → out.length ≤ 3 → 0 ≤ i → i ≤ out.length → out.length - i < k → Tot (g_spec_l04Word_l0 tag k out i) fun r => U32 r ∧ r.length ≤ 3 := by
    intro k
    induction k with
    | zero => intro out i h0 h1 h2 h3 h4; omega
    | succ k ih =>
      intro out i h0 h1 h2 h3 h4
      unfold g_spec_l04Word_l0
      refine .condD (fun hi => ?_) fun _ => .some ⟨h0, h1⟩
      obtain ⟨v, hv, _⟩ := getI_ex h2 hi
      refine .bind (Q := fun o => U32 o ∧ o.length = out.length) (.bindE hv (.cond (fun _ => ?_) fun _ => .some ⟨h0.set (wU32_bd _), by simp⟩)) fun o ho => ?_
      · obtain ⟨u, hu, _⟩ := getI_ex (xs := out.set i.toNat (IntKind.wrap .u32 (v * 16))) h2 (by simpa using hi)
        exact .bindE hu (.some ⟨(h0.set (wU32_bd _)).set (wU32_bd _), by simp⟩)
      · rw [wI64 (x := i + 1) (by omega) (by omega)]
        exact ih _ _ ho.1 (by omega) (by omega) (by omega) (by omega)
  exact .bind (.bind (key bigK a 0 ha.1 ha.2 (by decide) (by omega) (by unfold bigK; omega)) fun r hr => .some hr) fun r hr => .some hr
def EC3 (o : Unit ⊕ List Int) : Prop := match o with | .inl _ => True | .inr r => U32 r ∧ r.length ≤ 3
theorem specCells_ok2 {it : GItem} (hs : it.Name.length ≤ 12) (hr : 0 ≤ it.Raw ∧ it.Raw < 4294967296) : Tot (g_spec_CellsOf it) fun r => U32 r ∧ r.length ≤ 3 := by
  unfold g_spec_CellsOf
  have t3 : ∀ {a b c : Bool} {d : Bool}, Tot (_root_.cond a (_root_.cond b (some c) (some false)) (some d)) fun _ => True := fun {a b c d} => by cases a <;> cases b <;> exact .some trivial
  have t2 : ∀ {a c d : Bool}, Tot (_root_.cond a (some c) (some d)) fun _ => True := fun {a c d} => by cases a <;> exact .some trivial
  refine .bind t3 fun p _ => .bind (Q := EC3) ?_ fun o ho => ?_
  · refine .cond (fun _ => .bind t3 fun a _ => .cond (fun _ => .some ⟨.one hr, by simp⟩) fun _ => .some trivial) fun _ => .cond (fun _ => .bind t2 fun a _ => .cond (fun _ => .bind specNum_ok fun r h => .some ⟨h.1, by omega⟩) fun _ => .some trivial) fun _ =>
      .cond (fun _ => .bind t2 fun a _ => .cond (fun _ => .bind specNum_ok fun r h => .some ⟨h.1, by omega⟩) fun _ => .some trivial) fun _ =>
      .cond (fun _ => .bind (specWord_ok2 hs) fun r h => .bind (Q := fun b => b = true → r.length = 1) ?_ fun a ha => .cond (fun hc => .bindE (app_eq (by simp; omega)) (.some ⟨h.1.app (.one (wU32_bd _)), by have := ha hc; simp; omega⟩)) fun _ => .some trivial) fun _ =>
      .bind specTag_ok fun t _ => .bind t2 fun a _ => .cond (fun _ => .bind (specWord_ok2 hs) fun r h => .some h) fun _ => .some trivial
    refine .cond (fun h1 => ?_) fun _ => .some fun h => nomatch h
    have hl : r.length = 1 := by have := eq_of_beq h1; omega
    exact .cond (fun _ => .some fun _ => hl) fun _ => .some fun h => nomatch h
  · cases o with
    | inl _ => exact .some ⟨.nil, by simp⟩
    | inr r => exact .some ho
theorem cells_ok2 {c : GL01Cur} (h : Cok c) : Tot (g_spec_l04Cells c) fun r => U32 r.1 ∧ r.1.length ≤ 60 ∧ Cok r.2 := by
  unfold g_spec_l04Cells
  refine .bind (below_ok h (by decide)) fun y hy => ?_
  have key : ∀ (k : Nat) (c : GL01Cur) (out : List Int) (i : Int), Cok c → U32 out → 0 ≤ i → i ≤ 13 → (out.length : Int) ≤ 4 * i → 13 - i < k → Tot (g_spec_l04Cells_l0 y k c out i) fun r => Cok r.1 ∧ U32 r.2 ∧ r.2.length ≤ 60 := by
    intro k
    induction k with
    | zero => intro c out i h0 h1 h2 h3 h4 h5; omega
    | succ k ih =>
      intro c out i h0 h1 h2 h3 h4 h5
      unfold g_spec_l04Cells_l0
      refine .condD (fun hi => ?_) fun _ => .some ⟨h0, h1, by show out.length ≤ 60; omega⟩
      refine .bind (Q := fun r => Cok r.1 ∧ U32 r.2 ∧ (r.2.length : Int) ≤ out.length + 4) (.bind (some_ok2 h0) fun s hs => .bind (specCells_ok2 (by omega) (by rw [hs.2.1]; decide)) fun e he => .bindE (app_eq (by omega)) (.bind (below_ok hs.2.2 (by decide)) fun b hb => ?_)) fun r hr => ?_
      · refine .cond (fun _ => .bind (word_ok hb.2.2) fun w hw => .bindE (app_eq (by simp; omega)) (.some ⟨hw.2, (h1.app he.1).app (.one hw.1), ?_⟩)) fun _ => .cond (fun _ => .bindE (app_eq (by simp; omega)) (.some ⟨hb.2.2, (h1.app he.1).app (.one (by decide)), ?_⟩)) fun _ =>
          .cond (fun _ => .bind (below_ok hb.2.2 (by decide)) fun w hw => .bindE (app_eq (by simp; omega)) (.some ⟨hw.2.2, (h1.app he.1).app (.one (wU32_bd _)), ?_⟩)) fun _ =>
          .cond (fun _ => .bind (pickInt_ok hb.2.2 (by decide)) fun w hw => .bindE (app_eq (by simp; omega)) (.some ⟨hw.2, (h1.app he.1).app (.one (wU32_bd _)), ?_⟩)) fun _ => .some ⟨hb.2.2, h1.app he.1, ?_⟩ <;> (simp; omega)
      · rw [wI64 (x := i + 1) (by omega) (by omega)]
        exact ih _ _ _ hr.1 hr.2.1 (by omega) (by omega) (by omega) (by omega)
  refine .bind (Q := fun r => Cok r.1 ∧ U32 r.2 ∧ r.2.length ≤ 60) (.bind (key bigK _ _ 0 hy.2.2 .nil (by decide) (by decide) (by decide) (by decide)) fun d hd => .some hd) fun d hd => ?_
  refine .bind (Q := fun r => Cok r.1 ∧ r.2 = false) (.condD (fun hl => by have := hd.2.2; omega) fun _ => .some ⟨hd.1, rfl⟩) fun e he => .cond (fun hc => by rw [he.2] at hc; cases hc) fun _ => .some ⟨hd.2.1, hd.2.2, he.1⟩
theorem Qs_set {c : List Int} {j : Nat} {x : Int} (h : Qs c) (hj : j % 64 ≠ 63) : Qs (c.set j x) := fun b v hv => by
  rw [List.getElem?_set_ne (by omega)] at hv
  exact h b v hv
theorem Qs_zero (n : Nat) : Qs (List.replicate n 0) := fun b v hv => by
  have hm := List.mem_of_getElem? hv
  rw [List.eq_of_mem_replicate hm]
  decide
theorem Qs_nil : Qs [] := fun b v hv => by simp at hv
theorem l05Make_q {c : GL01Cur} (h : Cok c) : Tot (g_spec_l05Make c) fun r => Qs r.1.Cells ∧ U32 r.1.Cells ∧ r.1.Cells.length ≤ 768 ∧ Cok r.2 := by
  unfold g_spec_l05Make
  refine .bind (below_ok h (by decide)) fun y hy => ?_
  rw [wI64 (x := 1 + y.1) (by omega) (by omega)]
  refine .bind (Q := fun s : GStore => Qs s.Cells ∧ U32 s.Cells ∧ s.Cells.length ≤ 768) ?_ fun s0 hs0 => ?_
  · unfold g_spec_NewStore
    refine .bindE specIn_eq (.cond (fun _ => .some ⟨Qs_nil, .nil, by simp⟩) fun _ => ?_)
    rw [wI64 (x := (1 + y.1) * 64) (by omega) (by omega), mk_eq (by omega) (by omega)]
    exact .bindE rfl (.some ⟨Qs_zero _, zero_u _, by simp; omega⟩)
  have key1 : ∀ (z : List Int × GL01Cur) (b : Int), U32 z.1 → z.1.length ≤ 60 → 0 ≤ b → ∀ (k : Nat) (s : GStore) (i : Int), b * 64 + 64 ≤ s.Cells.length → Qs s.Cells → U32 s.Cells → s.Cells.length ≤ 768 → 0 ≤ i → i ≤ 64 → 64 - i < k → Tot (g_spec_l05Make_l1 b z k s i) fun r => Qs r ∧ U32 r ∧ r.length = s.Cells.length := by
    intro z b hz hzl hb k
    induction k with
    | zero => intro s i g0 gq g1 g2 g3 g4 g5; omega
    | succ k ih =>
      intro s i g0 gq g1 g2 g3 g4 g5
      unfold g_spec_l05Make_l1
      refine .bind (Q := fun v => v = true → i < z.1.length ∧ i < 64) (.condD (fun h1 => .some fun h => ⟨h1, of_decide_eq_true h⟩) fun _ => .some fun h => nomatch h) fun v hv => .cond (fun hc => ?_) fun _ => .some ⟨gq, g1, rfl⟩
      obtain ⟨h1, h2⟩ := hv hc
      obtain ⟨x, hx, hxm, _⟩ := getI_ex (xs := z.1) g3 h1
      rw [wI64 (x := b * 64) (by omega) (by omega), wI64 (x := b * 64 + i) (by omega) (by omega), wI64 (x := i + 1) (by omega) (by omega)]
      obtain ⟨w, hw, _⟩ := getI_ex (xs := s.Cells) (i := b * 64 + i) (by omega) (by omega)
      refine .bindE hx (.bindE hw ((ih ⟨s.Cells.set (b * 64 + i).toNat x⟩ _ (by simpa using g0) (Qs_set gq (by omega)) (g1.set (hz x hxm)) (by simpa using g2) (by omega) (by omega) (by omega)).mono fun r hr => ⟨hr.1, hr.2.1, by simpa using hr.2.2⟩))
  have key0 : ∀ (k : Nat) (c : GL01Cur) (s : GStore) (b : Int), Cok c → Qs s.Cells → U32 s.Cells → s.Cells.length ≤ 768 → 0 ≤ b → b ≤ 12 → 12 - b < k → Tot (g_spec_l05Make_l0 k c s b) fun r => Cok r.1 ∧ Qs r.2 ∧ U32 r.2 ∧ r.2.length ≤ 768 := by
    intro k
    induction k with
    | zero => intro c s b g0 gq g1 g2 g3 g4 g5; omega
    | succ k ih =>
      intro c s b g0 gq g1 g2 g3 g4 g5
      unfold g_spec_l05Make_l0
      rw [Int.tdiv_eq_ediv_of_nonneg (by omega), wI64 (by omega) (by omega)]
      refine .condD (fun hb => ?_) fun _ => .some ⟨g0, gq, g1, g2⟩
      refine .bind (Q := fun r => Cok r.1 ∧ Qs r.2 ∧ U32 r.2 ∧ r.2.length ≤ 768) (.bind (cells_ok2 g0) fun z hz => .bind (key1 z b hz.1 (by omega) g3 bigK s 0 (by omega) gq g1 g2 (by decide) (by decide) (by decide)) fun r hr => .some ⟨hz.2.2, hr.1, hr.2.1, by show r.length ≤ 768; omega⟩) fun r hr => ?_
      rw [wI64 (x := b + 1) (by omega) (by omega)]
      exact ih _ ⟨r.2⟩ _ hr.1 hr.2.1 hr.2.2.1 hr.2.2.2 (by omega) (by omega) (by omega)
  exact .bind (Q := fun r => Cok r.1 ∧ Qs r.2 ∧ U32 r.2 ∧ r.2.length ≤ 768) (.bind (key0 bigK y.2 s0 0 hy.2.2 hs0.1 hs0.2.1 hs0.2.2 (by decide) (by decide) (by decide)) fun r hr => .some hr) fun r hr => .some ⟨hr.2.1, hr.2.2.1, hr.2.2.2, hr.1⟩
theorem l05Any_q {c : GL01Cur} (h : Cok c) : Tot (g_spec_l05Any c) fun r => Qs r.1.Cells ∧ U32 r.1.Cells ∧ r.1.Cells.length ≤ 1000 ∧ Cok r.2 := by
  unfold g_spec_l05Any
  refine .bind (l05Make_q h) fun s hs => .bind (Q := fun o => match o with | .inl r => Cok r.1 ∧ Qs r.2 ∧ U32 r.2 ∧ r.2.length ≤ 1000 | .inr r => Cok r.1 ∧ Qs r.2 ∧ U32 r.2 ∧ r.2.length ≤ 1000) ?_ fun o ho => ?_
  · have h7 : Qs (s.1.Cells ++ [7]) := fun b v hv => by
      rcases Nat.lt_or_ge (64 * b + 63) s.1.Cells.length with hlt | hge
      · rw [List.getElem?_append_left hlt] at hv
        exact hs.1 b v hv
      · rw [List.getElem?_append_right hge] at hv
        have hm := List.mem_of_getElem? hv
        simp at hm
        subst hm
        decide
    refine .bind (below_ok hs.2.2.2 (by decide)) fun a ha => .cond (fun _ => .bindE (app_eq (by simp; omega)) (.some ⟨ha.2.2, h7, hs.2.1.app (.one (by decide)), by simp; omega⟩)) fun _ => .cond (fun _ => .bind (below_ok ha.2.2 (by decide)) fun b hb => ?_) fun _ => .cond (fun _ => .some ⟨ha.2.2, Qs_nil, .nil, by simp⟩) fun _ => .some ⟨ha.2.2, hs.1, hs.2.1, by have := hs.2.2.1; show s.1.Cells.length ≤ 1000; omega⟩
    rw [wI64 (x := 11 + b.1) (by omega) (by omega), wI64 (x := 64 * (11 + b.1)) (by omega) (by omega), mk_eq (by omega) (by omega)]
    exact .bindE rfl (.some ⟨hb.2.2, Qs_zero _, zero_u _, by simp; omega⟩)
  · cases o with
    | inl r => exact .some ⟨ho.2.1, ho.2.2.1, ho.2.2.2, ho.1⟩
    | inr r => exact .some ⟨ho.2.1, ho.2.2.1, ho.2.2.2, ho.1⟩
def dot : GItem := ⟨1, [46], 0, false, 0⟩
theorem dot_cells : ∃ v, g_spec_CellsOf dot = some [v] ∧ v % 16 ≠ 12 := by
  have h : (match g_spec_CellsOf dot with | some [v] => decide (v % 16 ≠ 12) | _ => false) = true := by kernel_rfl
  split at h
  · rename_i v hv
    exact ⟨v, hv, of_decide_eq_true h⟩
  · cases h
theorem l13List_last {c : GL01Cur} {n : Int} {r : List GItem × GL01Cur} (h : g_spec_l13List c n = some r) : ∃ L, r.1 = L ++ [dot] := by
  unfold g_spec_l13List at h
  obtain ⟨y3, _, h⟩ := Option.bind_eq_some_iff.1 h
  obtain ⟨⟨p, o⟩, _, h⟩ := Option.bind_eq_some_iff.1 h
  obtain ⟨⟨p2, o2⟩, _, h⟩ := Option.bind_eq_some_iff.1 h
  obtain ⟨y75, _, h⟩ := Option.bind_eq_some_iff.1 h
  obtain ⟨y76, _, h⟩ := Option.bind_eq_some_iff.1 h
  obtain ⟨y77, _, h⟩ := Option.bind_eq_some_iff.1 h
  obtain ⟨y78, _, h⟩ := Option.bind_eq_some_iff.1 h
  obtain ⟨v79, _, h⟩ := Option.bind_eq_some_iff.1 h
  obtain ⟨y80, h80, h⟩ := Option.bind_eq_some_iff.1 h
  obtain ⟨v81, h81, h⟩ := Option.bind_eq_some_iff.1 h
  cases h80
  obtain ⟨rfl, _⟩ := appSome h81
  cases h
  exact ⟨v79, rfl⟩
theorem unparse_last {L : List GItem} (hl : IL (L ++ [dot])) (hn : (L ++ [dot]).length ≤ 1048576) : Tot (g_spec_Unparse (L ++ [dot])) fun r => (U32 r.1 ∧ r.1.length ≤ 64) ∧ (r.2 = true → ∃ p v, r.1 = p ++ [v] ∧ v % 16 ≠ 12) := by
  obtain ⟨r, hr, hu⟩ := specUnparse_ok hl hn
  refine ⟨r, hr, hu, fun hr2 => ?_⟩
  obtain ⟨vd, hvd, hv12⟩ := dot_cells
  have hlen : (L ++ [dot]).length = L.length + 1 := by simp
  have hend : ∀ (k : Nat) (out : List Int), g_spec_Unparse_l0 (L ++ [dot]) (k + 1) out ((L.length + 1 : Nat) : Int) = some (.inl out) := fun k out => by
    rw [g_spec_Unparse_l0, decide_eq_false (by omega), cond_false]
  have key : ∀ (k n : Nat) (out : List Int) (q : List Int), n ≤ L.length → (L.length + 1) - n < k → g_spec_Unparse_l0 (L ++ [dot]) k out n = some (.inl q) → ∃ p v, q = p ++ [v] ∧ v % 16 ≠ 12 := by
    intro k
    induction k with
    | zero => intro n out q h0 h1; omega
    | succ k ih =>
      intro n out q h0 h1 h
      unfold g_spec_Unparse_l0 at h
      rw [decide_eq_true (by omega), cond_true, getI_nat] at h
      obtain ⟨v, hv, h⟩ := Option.bind_eq_some_iff.1 h
      obtain ⟨cs, hcs, h⟩ := Option.bind_eq_some_iff.1 h
      obtain ⟨b, _, h⟩ := Option.bind_eq_some_iff.1 h
      cases b with
      | true => rw [cond_true] at h; cases h
      | false =>
        rw [cond_false] at h
        obtain ⟨o, ho, h⟩ := Option.bind_eq_some_iff.1 h
        obtain ⟨rfl, _⟩ := appSome ho
        rw [wI64 (by omega) (by omega), show (n : Int) + 1 = ((n + 1 : Nat) : Int) by omega] at h
        by_cases hnl : n = L.length
        · subst hnl
          have hvd2 : v = dot := by
            rw [List.getElem?_append_right (Nat.le_refl _), Nat.sub_self] at hv
            exact (Option.some.inj hv).symm
          rw [hvd2, hvd] at hcs
          cases hcs
          cases k with
          | zero => omega
          | succ k =>
            rw [hend] at h
            cases h
            exact ⟨out, vd, rfl, hv12⟩
        · exact ih (n + 1) _ q (by omega) (by omega) h
  unfold g_spec_Unparse at hr
  obtain ⟨o, ho, hr⟩ := Option.bind_eq_some_iff.1 hr
  obtain ⟨o2, ho2, ho⟩ := Option.bind_eq_some_iff.1 ho
  cases o2 with
  | inl q =>
    cases ho
    cases hr
    exact key bigK 0 [] q (Nat.zero_le _) (by unfold bigK; omega) ho2
  | inr u =>
    cases ho
    cases hr
    cases hr2
theorem Qs_new {c cs : List Int} {b : Nat} (h : 64 * b + 64 ≤ c.length) (hc : cs.length ≤ 64) (hq : Qs c) (hl : ∃ p v, cs = p ++ [v] ∧ v % 16 ≠ 12) : Qs (newBlk c b cs) := fun b' v hv => by
  have hta : (c.take (64 * b)).length = 64 * b := by rw [List.length_take]; omega
  have htm : (cs ++ List.replicate (64 - cs.length) (0 : Int)).length = 64 := by simp; omega
  unfold newBlk at hv
  rcases Nat.lt_trichotomy b' b with h1 | h1 | h1
  · rw [List.append_assoc, List.getElem?_append_left (by omega), List.getElem?_take_of_lt (by omega)] at hv
    exact hq b' v hv
  · subst h1
    rw [List.append_assoc, List.getElem?_append_right (by omega), hta, List.getElem?_append_left (by omega), show 64 * b' + 63 - 64 * b' = 63 by omega] at hv
    by_cases hf : cs.length = 64
    · obtain ⟨p, w, rfl, hw⟩ := hl
      have hp : p.length = 63 := by simpa using hf
      rw [List.getElem?_append_left (by omega), List.getElem?_append_right (by omega), hp] at hv
      have : w = v := by simpa using hv
      rw [← this]; exact hw
    · rw [List.getElem?_append_right (by omega)] at hv
      have hm := List.mem_of_getElem? hv
      rw [List.eq_of_mem_replicate hm]
      decide
  · rw [List.getElem?_append_right (by rw [List.length_append]; omega), List.length_append, hta, htm, List.getElem?_drop] at hv
    rw [show 64 * b + 64 + (64 * b' + 63 - (64 * b + 64)) = 64 * b' + 63 by omega] at hv
    exact hq b' v hv
end Go.Proofs.YthhoellakpnjpaaGreat

namespace Go.Proofs.YthhoellakpnjpaaGreat
open Go Go.Fm
set_option linter.unusedVariables false
set_option linter.unusedSimpArgs false
theorem putBlock_q {s : GStore} {b : Int} {cs : List Int} (hq : Qs s.Cells) (hu : U32 s.Cells) (hl : s.Cells.length ≤ 1048576) (hc : cs.length ≤ 64) (hcu : U32 cs) (hlast : ∃ p v, cs = p ++ [v] ∧ v % 16 ≠ 12) :
    Tot (g_spec_PutBlock s b cs) fun r => r.2 = true → Qs r.1.Cells ∧ U32 r.1.Cells ∧ r.1.Cells.length = s.Cells.length := by
  cases hh : (storeB s.Cells && decide (0 ≤ b ∧ b < ((s.Cells.length / 64 : Nat) : Int))) with
  | false =>
    unfold g_spec_PutBlock
    rw [specHas, hh]
    exact .some fun h => nomatch h
  | true =>
    rw [Bool.and_eq_true] at hh
    have h2 := of_decide_eq_true hh.2
    have hsl := storeB_len hh.1
    obtain ⟨B, rfl⟩ := Int.eq_ofNat_of_zero_le h2.1
    have hB : B < s.Cells.length / 64 := by omega
    have := specPut hh.1 hB hc
    refine ⟨_, this, fun _ => ⟨Qs_new (by omega) hc hq hlast, newBlk_u hu hcu, newBlk_len (by omega) hc⟩⟩
theorem putItems_q {s : GStore} {b : Int} {L : List GItem} (hq : Qs s.Cells) (hu : U32 s.Cells) (hl : s.Cells.length ≤ 1048576) (hL : IL (L ++ [dot])) (hn : (L ++ [dot]).length ≤ 1048576) :
    Tot (g_spec_PutItems s b (L ++ [dot])) fun r => r.2 = true → Qs r.1.Cells ∧ U32 r.1.Cells ∧ r.1.Cells.length = s.Cells.length := by
  unfold g_spec_PutItems
  refine .bind (unparse_last hL hn) fun a ha => .cond (fun _ => .some fun h => nomatch h) fun hc => ?_
  have hok : a.2 = true := by simpa using hc
  exact .bind (putBlock_q hq hu hl ha.1.2 ha.1.1 (ha.2 hok)) fun r hr => .some hr
theorem l13Store_q {c : GL01Cur} (h : Cok c) : Tot (g_spec_l13Store c) fun r => Qs r.1.Cells ∧ U32 r.1.Cells ∧ r.1.Cells.length ≤ 768 ∧ Cok r.2 := by
  unfold g_spec_l13Store
  refine .bind (below_ok h (by decide)) fun y hy => ?_
  rw [wI64 (x := 1 + y.1) (by omega) (by omega)]
  refine .bind (Q := fun s : GStore => Qs s.Cells ∧ U32 s.Cells ∧ s.Cells.length ≤ 768) ?_ fun s0 hs0 => ?_
  · unfold g_spec_NewStore
    refine .bindE specIn_eq (.cond (fun _ => .some ⟨Qs_nil, .nil, by simp⟩) fun _ => ?_)
    rw [wI64 (x := (1 + y.1) * 64) (by omega) (by omega), mk_eq (by omega) (by omega)]
    exact .bindE rfl (.some ⟨Qs_zero _, zero_u _, by simp; omega⟩)
  have key : ∀ (k : Nat) (c : GL01Cur) (s : GStore) (b : Int), Cok c → Qs s.Cells → U32 s.Cells → s.Cells.length ≤ 768 → 0 ≤ b → b ≤ 4 → 4 - b < k → Tot (g_spec_l13Store_l0 y k c s b) fun r => Cok r.1 ∧ Qs r.2 ∧ U32 r.2 ∧ r.2.length ≤ 768 := by
    intro k
    induction k with
    | zero => intro c s b g0 gq g1 g2 g3 g4 g5; omega
    | succ k ih =>
      intro c s b g0 gq g1 g2 g3 g4 g5
      unfold g_spec_l13Store_l0
      rw [wI64 (x := 1 + y.1) (by omega) (by omega)]
      refine .condD (fun hb => ?_) fun _ => .some ⟨g0, gq, g1, g2⟩
      obtain ⟨l, hl, hl1, hl2, hl3⟩ := l13List_ok g0 (n := 1 + y.1) (by omega)
      obtain ⟨L, hL⟩ := l13List_last hl
      refine .bind (Q := fun r => Cok r.1 ∧ Qs r.2 ∧ U32 r.2 ∧ r.2.length ≤ 768) (.bindE hl ?_) fun r hr => ?_
      · rw [hL] at hl1 hl2 ⊢
        refine .bind (putItems_q gq g1 (by omega) hl1 (by omega)) fun t ht => .cond (fun ht2 => ?_) fun _ => .some ⟨hl3, gq, g1, g2⟩
        have := ht ht2
        exact .some ⟨hl3, this.1, this.2.1, by show t.1.Cells.length ≤ 768; omega⟩
      · rw [wI64 (x := b + 1) (by omega) (by omega)]
        exact ih _ ⟨r.2⟩ _ hr.1 hr.2.1 hr.2.2.1 hr.2.2.2 (by omega) (by omega) (by omega)
  exact .bind (Q := fun r => Cok r.1 ∧ Qs r.2 ∧ U32 r.2 ∧ r.2.length ≤ 768) (.bind (key bigK y.2 s0 0 hy.2.2 hs0.1 hs0.2.1 hs0.2.2 (by decide) (by decide) (by decide)) fun r hr => .some hr) fun r hr => .some ⟨hr.2.1, hr.2.2.1, hr.2.2.2, hr.1⟩
theorem l17Store_q {c : GL01Cur} (h : Cok c) : Tot (g_spec_l17Store c) fun r => Qs r.1.Cells ∧ U32 r.1.Cells ∧ r.1.Cells.length ≤ 1000 ∧ Cok r.2 := by
  unfold g_spec_l17Store
  exact .bind (once_ok h (by decide)) fun a ha => .cond (fun _ => .bind (l05Any_q ha) fun r hr => .some hr) fun _ => .bind (l13Store_q ha) fun r hr => .some ⟨hr.1, hr.2.1, by have := hr.2.2.1; show r.1.Cells.length ≤ 1000; omega, hr.2.2.2⟩
theorem l17Name_ok {c : GL01Cur} (h : Cok c) : Tot (g_spec_l17Name c) fun r => r.1.length ≤ 12 ∧ Cok r.2 := by
  unfold g_spec_l17Name
  refine .bind (pick_ok h (by decide)) fun b hb => .some ⟨?_, hb.2⟩
  have : ∀ y ∈ ([[103, 111], [116, 101, 110], [120], [114, 117, 110], [100, 117, 112], [46], [108, 111, 97, 100], [110, 105, 120], [115, 113, 117, 97, 114, 101, 115], []] : List Bs), y.length ≤ 12 := by decide
  exact this _ hb.1
theorem draw_ok {code : List Int} (h : code.length ≤ 1048576) : Tot (g_spec_DrawRename code) fun r => Qs r.1.Cells ∧ U32 r.1.Cells ∧ r.1.Cells.length ≤ 1000 ∧ r.2.1.length ≤ 12 ∧ r.2.2.length ≤ 12 := by
  unfold g_spec_DrawRename
  refine .bind (new_ok h) fun c hc => .bind (l17Store_q hc) fun s hs => .bind (l17Name_ok hs.2.2.2) fun a ha => .bind (l17Name_ok ha.2) fun b hb => .bind (Q := fun to => to.length ≤ 12) (.bind (once_ok hb.2 (by decide)) fun d hd => .cond (fun _ => .bind (pick_ok hd (by decide)) fun e he => .some ?_) fun _ => .some hb.1) fun to hto => .some ⟨hs.1, hs.2.1, hs.2.2.1, ha.1, hto⟩
  have : ∀ y ∈ ([[110, 101, 119], [113, 117, 97, 114, 116, 122, 113, 117, 97, 114, 116, 122], [106, 106, 106, 106, 106], [65]] : List Bs), y.length ≤ 12 := by decide
  exact this _ he.1
theorem rename_full {s : GStore} {nm to : Bs} (hu : U32 s.Cells) (hq : Qs s.Cells) (hl : s.Cells.length ≤ 1048576) (ht : to.length ≤ 1048576) : ∃ r : GStore × Bool, g_spec_Rename s nm to = some r ∧ g_impl_Rename s nm to = some r ∧ (r.2 = false → r.1.Cells = []) ∧
    (r.2 = true → storeB s.Cells = true ∧ r.1.Cells.length = s.Cells.length ∧ U32 r.1.Cells ∧ ∀ b', b' < s.Cells.length / 64 → Fb s.Cells nm to b' (blk r.1.Cells b')) := by
  obtain ⟨r, r1, r2, _⟩ := rename_both (nm := nm) hu hl ht
  refine ⟨r, r1, r2, ?_⟩
  unfold g_impl_Rename at r2
  rw [implStoreOk, implNameOk ht] at r2
  cases h : storeB s.Cells with
  | false => rw [h] at r2; cases r2; exact ⟨fun _ => rfl, fun h => nomatch h⟩
  | true =>
    rw [h] at r2
    cases hn : named to with
    | false => rw [hn] at r2; cases r2; exact ⟨fun _ => rfl, fun h => nomatch h⟩
    | true =>
      have hsl := storeB_len h
      rw [hn] at r2
      unfold g_slices_Clone_uint32 at r2
      simp only [Option.bind_some, Bool.not_true, cond_false] at r2
      rw [app_eq (by simp; omega)] at r2
      simp only [Option.bind_some, List.nil_append] at r2
      obtain ⟨o, h1, h2⟩ := fwd (nm := nm) hu h ht hq bigK 0 s.Cells (Nat.zero_le _) (by unfold bigK; omega) rfl hu rfl (fun b' hb' => absurd hb' (Nat.not_lt_zero _))
      rw [Int.natCast_zero] at h1
      rw [h1] at r2
      cases o with
      | inl c =>
        cases r2
        exact ⟨fun h => (by cases h), fun _ => ⟨rfl, h2 c rfl⟩⟩
      | inr u => cases r2; exact ⟨fun _ => rfl, fun h => nomatch h⟩
/-- The items of a store. -/
def items (c : List Int) : List GItem := (List.range' 0 (c.length / 64)).flatMap (itsOf c)
def selI (all : Bool) (nm : Bs) (it : GItem) : Bool := isU it && (it.Name == nm && (all || (it.Kind == 2 || it.Kind == 9)))
theorem placed_items : ∀ (p : Nat) (l : List GItem), (placedL p l).map (·.item) = l
  | _, [] => rfl
  | p, it :: r => by rw [placedL, List.map_cons, placed_items]
theorem allP_items (c : List Int) : ∀ (m b : Nat), (allP c b m).map (·.item) = (List.range' b m).flatMap (itsOf c)
  | 0, b => rfl
  | m + 1, b => by rw [allP_succ, List.map_append, placed_items, allP_items c m, List.range'_succ, List.flatMap_cons]
theorem places_cnt {all : Bool} {c : List Int} {nm : Bs} (h : storeB c = true) : (places all c nm).length = (items c).countP (selI all nm) := by
  unfold places items
  rw [h]
  simp only [cond_true, plc, List.length_map]
  rw [← List.countP_eq_length_filter, ← allP_items, List.countP_map]
  rfl
theorem flat_congr {α β : Type} {f g : α → List β} : ∀ {l : List α}, (∀ x ∈ l, f x = g x) → l.flatMap f = l.flatMap g
  | [], _ => rfl
  | x :: r, h => by rw [List.flatMap_cons, List.flatMap_cons, h x (List.mem_cons_self ..), flat_congr fun y hy => h y (List.mem_cons_of_mem _ hy)]
theorem items_ren {s t : List Int} {nm to : Bs} (hl : t.length = s.length) (hF : ∀ b', b' < s.length / 64 → Fb s nm to b' (blk t b')) : items t = (items s).map (ren nm to) := by
  unfold items
  rw [hl, List.map_flatMap]
  refine flat_congr fun b hb => ?_
  have hb' : b < s.length / 64 := by have := List.mem_range'_1.1 hb; omega
  have := (hF b hb').1
  show (g_impl_ParseCells (blk t b)).getD [] = _
  rw [this]
  rfl
theorem cnt_old {nm to : Bs} (hne : nm ≠ to) (l : List GItem) : (l.map (ren nm to)).countP (selI true nm) = 0 := by
  rw [List.countP_eq_zero]
  intro x hx
  obtain ⟨it, _, rfl⟩ := List.mem_map.1 hx
  unfold ren
  cases hm : matchR nm it with
  | true =>
    simp only [cond_true, selI]
    have : (to == nm) = false := by simpa using fun h => hne h.symm
    rw [this]
    simp
  | false =>
    simp only [cond_false, selI]
    unfold matchR at hm
    revert hm
    cases isU it <;> cases it.Name == nm <;> simp
theorem no_to {to : Bs} {l : List GItem} (h : l.countP (selI true to) = 0) : ∀ it ∈ l, matchR to it = false := fun it hi => by
  have := (List.countP_eq_zero.1 h) it hi
  unfold selI at this
  unfold matchR
  revert this
  cases isU it <;> cases it.Name == to <;> simp
theorem cnt_new {nm to : Bs} {all : Bool} {l : List GItem} (h : ∀ it ∈ l, matchR to it = false) : (l.map (ren nm to)).countP (selI all to) = l.countP (selI all nm) := by
  rw [List.countP_map]
  refine List.countP_congr fun it hi => ?_
  have h0 := h it hi
  show selI all to (ren nm to it) = true ↔ selI all nm it = true
  unfold ren
  cases hm : matchR nm it with
  | true =>
    simp only [cond_true]
    have e : selI all to ⟨it.Kind, to, it.N, it.Hex, it.Raw⟩ = selI all nm it := by
      unfold matchR at hm
      rw [Bool.and_eq_true] at hm
      unfold selI
      rw [hm.2, hm.1]
      have : isU ⟨it.Kind, to, it.N, it.Hex, it.Raw⟩ = isU it := rfl
      rw [this, hm.1]
      simp
    rw [e]
  | false =>
    simp only [cond_false]
    unfold matchR at hm h0
    unfold selI
    revert hm h0
    cases isU it <;> cases it.Name == nm <;> cases it.Name == to <;> simp
theorem sameCells_eq {a b : List Int} (hm : a.length ≤ 1048576) : g_laws_sameCells a b = some (decide (a = b)) := eqList (g_laws_sameCells_l0 a b) _ rfl (fun _ _ => rfl) (by omega)
/-- The law. -/
theorem law_fnRename (code : List Int) : g_laws_FnRename code = some true := by
  unfold g_laws_FnRename g_laws_big
  simp only [Option.bind_some]
  by_cases hc : (code.length : Int) > 1048576
  · rw [decide_eq_true hc, cond_true]
  rw [decide_eq_false hc, cond_false]
  obtain ⟨⟨s, nm, to⟩, hd, hq, hu, hl, hnm, hto⟩ := draw_ok (code := code) (by omega)
  simp only at hq hu hl hnm hto
  rw [hd]
  simp only [Option.bind_some]
  obtain ⟨⟨t, ok⟩, r1, r2, r3, r4⟩ := rename_full (nm := nm) (to := to) hu hq (by omega) (by omega)
  simp only at r3 r4
  rw [r1, r2]
  simp only [Option.bind_some]
  rw [show (ok != ok) = false by cases ok <;> rfl, cond_false]
  cases ok with
  | false =>
    have := r3 rfl
    simp only [Bool.not_false, cond_true]
    rw [this]
    rfl
  | true =>
    obtain ⟨hs, htl, htu, hF⟩ := r4 rfl
    have hts : storeB t.Cells = true := storeB_of hs htl
    have hit := items_ren htl hF
    have hsl := storeB_len hs
    simp only [Bool.not_true, cond_false, implUses htu, implUses hu, implDefines htu, implDefines hu, Option.bind_some]
    have e1 : nm ≠ to → (places true t.Cells nm).length = 0 := fun hne => by rw [places_cnt hts, hit, cnt_old hne]
    have hback : (places true s.Cells to).length = 0 → (places true t.Cells to).length = (places true s.Cells nm).length ∧ (places false t.Cells to).length = (places false s.Cells nm).length ∧
        ((g_impl_Rename t to nm).bind fun y_29 => (g_spec_NameOk nm).bind fun y_30 => cond (!y_30) (some true) (cond y_29.2 ((g_laws_sameCells y_29.1.Cells s.Cells).bind fun y_33 => some y_33) (some false))) = some true := fun h0 => by
      rw [places_cnt hs] at h0
      have hno := no_to h0
      refine ⟨by rw [places_cnt hts, places_cnt hs, hit, cnt_new hno], by rw [places_cnt hts, places_cnt hs, hit, cnt_new hno], ?_⟩
      rw [specNameOk (by omega)]
      cases hn : named nm with
      | false =>
        obtain ⟨r, _, hr, _⟩ := rename_both (nm := to) (to := nm) htu (by omega) (by omega)
        rw [hr]
        rfl
      | true =>
        have hno2 : ∀ b', b' < s.Cells.length / 64 → ∀ it ∈ itsOf s.Cells b', matchR to it = false := fun b' hb' it hi => hno it (List.mem_flatMap.2 ⟨b', List.mem_range'_1.2 ⟨Nat.zero_le _, by omega⟩, hi⟩)
        have hb := back hu hs hq htl htu hF hno2 bigK 0 (Nat.zero_le _) (by unfold bigK; omega)
        rw [Int.natCast_zero, Nat.mul_zero, List.take_zero, List.drop_zero, List.nil_append] at hb
        have hren : g_impl_Rename t to nm = some (⟨s.Cells⟩, true) := by
          unfold g_impl_Rename
          rw [implStoreOk, implNameOk (by omega), hts, hn]
          unfold g_slices_Clone_uint32
          simp only [Option.bind_some, Bool.not_true, cond_false]
          rw [app_eq (by simp; omega)]
          simp only [Option.bind_some, List.nil_append]
          rw [hb]
          rfl
        rw [hren]
        simp only [Option.bind_some, Bool.not_true, cond_false, cond_true]
        rw [sameCells_eq (by omega), decide_eq_true rfl]
        rfl
    by_cases hto0 : (places true s.Cells to).length = 0
    · obtain ⟨b1, b2, b3⟩ := hback hto0
      have h0 : decide (((places true s.Cells to).length : Int) > 0) = false := decide_eq_false (by omega)
      have hv : (cond (nm != to) (cond (decide (((places true t.Cells nm).length : Int) > 0)) (some true) (some (decide (((places true s.Cells to).length : Int) > 0)))) (some (decide (((places true s.Cells to).length : Int) > 0))) : Option Bool) = some false := by
        by_cases hne : nm = to
        · rw [show (nm != to) = false by simpa using hne, h0]; rfl
        · rw [decide_eq_false (p := ((places true t.Cells nm).length : Int) > 0) (by have := e1 hne; omega), h0]
          cases nm != to <;> rfl
      rw [hv]
      simp only [Option.bind_some, cond_false]
      rw [show ((places true t.Cells to).length : Int) = ((places true s.Cells nm).length : Int) by rw [b1], show ((places false t.Cells to).length : Int) = ((places false s.Cells nm).length : Int) by rw [b2]]
      rw [show ((((places true s.Cells nm).length : Int)) != ((places true s.Cells nm).length : Int)) = false by simp, show ((((places false s.Cells nm).length : Int)) != ((places false s.Cells nm).length : Int)) = false by simp]
      simp only [cond_false, Option.bind_some]
      exact b3
    · have h0 : decide (((places true s.Cells to).length : Int) > 0) = true := decide_eq_true (by omega)
      have hv : (cond (nm != to) (cond (decide (((places true t.Cells nm).length : Int) > 0)) (some true) (some (decide (((places true s.Cells to).length : Int) > 0)))) (some (decide (((places true s.Cells to).length : Int) > 0))) : Option Bool) = some true := by
        rw [h0]
        cases nm != to <;> cases decide (((places true t.Cells nm).length : Int) > 0) <;> rfl
      rw [hv]
      simp only [Option.bind_some, cond_true]
      by_cases hne : nm = to
      · rw [show (nm == to) = true by simpa using hne]; rfl
      · rw [show (nm == to) = false by simpa using hne, e1 hne]; rfl
end Go.Proofs.YthhoellakpnjpaaGreat

