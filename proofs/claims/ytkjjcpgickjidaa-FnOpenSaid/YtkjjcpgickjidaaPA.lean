import Derived.Test.YtkjjcpgickjidaaMF
import Derived.Test.YtkjjcpgickjidaaGD
/-! Plain facts of the operations. -/
namespace Go.Fm
theorem wI64 {x : Int} (h1 : -9223372036854775808 ≤ x) (h2 : x < 9223372036854775808) : IntKind.wrap .i64 x = x := by
  simp [IntKind.wrap, IntKind.bits, IntKind.signed]; omega
theorem wI32 {x : Int} (h1 : -2147483648 ≤ x) (h2 : x < 2147483648) : IntKind.wrap .i32 x = x := by
  simp [IntKind.wrap, IntKind.bits, IntKind.signed]; omega
theorem wU32 {x : Int} (h1 : 0 ≤ x) (h2 : x < 4294967296) : IntKind.wrap .u32 x = x := by
  simp [IntKind.wrap, IntKind.bits, IntKind.signed]; omega
theorem wU64 {x : Int} (h1 : 0 ≤ x) (h2 : x < 18446744073709551616) : IntKind.wrap .u64 x = x := by
  simp [IntKind.wrap, IntKind.bits, IntKind.signed]; omega
theorem wU32_bd (x : Int) : 0 ≤ IntKind.wrap .u32 x ∧ IntKind.wrap .u32 x < 4294967296 := by
  simp [IntKind.wrap, IntKind.bits, IntKind.signed]; omega
theorem wI32_bd (x : Int) : -2147483648 ≤ IntKind.wrap .i32 x ∧ IntKind.wrap .i32 x < 2147483648 := by
  simp [IntKind.wrap, IntKind.bits, IntKind.signed]; omega
theorem wI64_bd (x : Int) : -9223372036854775808 ≤ IntKind.wrap .i64 x ∧ IntKind.wrap .i64 x < 9223372036854775808 := by
  simp [IntKind.wrap, IntKind.bits, IntKind.signed]; omega
theorem getI_ex {α : Type} {xs : List α} {i : Int} (h0 : 0 ≤ i) (h1 : i < xs.length) : ∃ x, getI xs i = some x ∧ x ∈ xs ∧ xs[i.toNat]? = some x := by
  have hi : i.toNat < xs.length := by omega
  unfold getI
  rw [if_pos h0, List.getElem?_eq_getElem hi]
  exact ⟨_, rfl, List.getElem_mem hi, rfl⟩
theorem getI_nat {α : Type} {xs : List α} {i : Nat} : getI xs (i : Int) = xs[i]? := by
  unfold getI; rw [if_pos (Int.natCast_nonneg i)]; rfl
theorem idxS_ex {l : List UInt8} {i : Int} (h0 : 0 ≤ i) (h1 : i < l.length) : ∃ v, idxS l i = some v ∧ 0 ≤ v ∧ v < 256 ∧ ∃ b ∈ l, v = (b.toNat : Int) := by
  unfold idxS
  rw [if_pos ⟨h0, h1⟩]
  have hi : i.toNat < l.length := by omega
  refine ⟨_, rfl, Int.natCast_nonneg _, ?_, l[i.toNat], List.getElem_mem hi, ?_⟩
  · have := UInt8.toNat_lt (l.getD i.toNat 0); omega
  · rw [List.getD_eq_getElem?_getD, List.getElem?_eq_getElem hi]; rfl
theorem app_eq {α : Type} {xs ys : List α} (h : xs.length + ys.length ≤ 4294967296) : app xs ys = some (xs ++ ys) := by
  unfold app
  rw [if_pos (by rw [List.length_append]; exact h)]
theorem subL_eq {α : Type} {xs : List α} {a b : Int} (h0 : 0 ≤ a) (h1 : a ≤ b) (h2 : b ≤ xs.length) : subL xs a b = some ((xs.drop a.toNat).take (b.toNat - a.toNat)) := by
  unfold subL; rw [if_pos ⟨h0, h1, h2⟩]
theorem subL_drop {α : Type} {xs : List α} {a : Int} (h0 : 0 ≤ a) (h2 : a ≤ xs.length) : subL xs a xs.length = some (xs.drop a.toNat) := by
  rw [subL_eq h0 h2 (Int.le_refl _), List.take_of_length_le]
  rw [List.length_drop]; omega
theorem subL_take {α : Type} {xs : List α} {b : Int} (h0 : 0 ≤ b) (h2 : b ≤ xs.length) : subL xs 0 b = some (xs.take b.toNat) := by
  rw [subL_eq (Int.le_refl _) h0 h2]; rfl
theorem mk_eq {α : Type} {z : α} {n : Int} (h0 : 0 ≤ n) (h1 : n ≤ 4294967296) : mk z n = some (List.replicate n.toNat z) := by
  unfold mk; rw [if_pos ⟨h0, h1⟩]
theorem catS_eq {a b : List UInt8} (h : a.length + b.length < 4611686018427387904) : catS a b = some (a ++ b) := by
  unfold catS; rw [if_pos h]
theorem remI_ex {k : IntKind} {a b : Int} (h0 : 0 ≤ a) (hb : 0 < b) : remI k a b = some (a % b) ∧ 0 ≤ a % b ∧ a % b < b := by
  unfold remI
  rw [if_neg (by omega), Int.tmod_eq_emod_of_nonneg h0]
  exact ⟨rfl, Int.emod_nonneg _ (by omega), Int.emod_lt_of_pos _ hb⟩
theorem bB_toNat {k : IntKind} {a : Int} (h0 : 0 ≤ a) (h1 : a < 2 ^ k.bits) : (bytesB k a).toNat = a.toNat := by
  unfold bytesB
  rw [BitVec.toNat_ofInt, Int.emod_eq_of_lt h0]
  simpa using h1
theorem wrap_small {k : IntKind} {n : Nat} (h : n < 2 ^ (k.bits - 1)) : k.wrap n = n := by
  unfold IntKind.wrap
  have hb : 2 ^ (k.bits - 1) ≤ 2 ^ k.bits := Nat.pow_le_pow_right (by decide) (Nat.sub_le _ _)
  have h1 : (n : Int) < ((2 ^ k.bits : Nat) : Int) := Int.ofNat_lt.2 (Nat.lt_of_lt_of_le h hb)
  have h2 : (n : Int) < ((2 ^ (k.bits - 1) : Nat) : Int) := Int.ofNat_lt.2 h
  simp only [Int.natCast_pow, Int.cast_ofNat_Int] at h1 h2
  have e : (n : Int) % (2 ^ k.bits : Int) = n := Int.emod_eq_of_lt (Int.natCast_nonneg _) h1
  simp only [e]
  rw [if_neg]
  intro hc
  rw [Bool.and_eq_true, decide_eq_true_eq] at hc
  have h3 := hc.2
  omega
/-- What is masked by a small number is no greater. -/
theorem and_le {k : IntKind} {a b : Int} (h0 : 0 ≤ b) (h1 : b < 2 ^ (k.bits - 1)) : 0 ≤ andI k a b ∧ andI k a b ≤ b := by
  unfold andI
  have hb : (bytesB k b).toNat = b.toNat := bB_toNat h0 (Int.lt_of_lt_of_le h1 (by
    have : ((2 ^ (k.bits - 1) : Nat) : Int) ≤ ((2 ^ k.bits : Nat) : Int) := Int.ofNat_le.2 (Nat.pow_le_pow_right (by decide) (Nat.sub_le _ _))
    simpa only [Int.natCast_pow, Int.cast_ofNat_Int] using this))
  have hle : (bytesB k a &&& bytesB k b).toNat ≤ b.toNat := by
    rw [BitVec.toNat_and, hb]; exact Nat.and_le_right
  have hlt : (bytesB k a &&& bytesB k b).toNat < 2 ^ (k.bits - 1) := by
    refine Nat.lt_of_le_of_lt hle ?_
    have : (b.toNat : Int) < ((2 ^ (k.bits - 1) : Nat) : Int) := by rw [Int.toNat_of_nonneg h0]; simpa only [Int.natCast_pow, Int.cast_ofNat_Int] using h1
    exact Int.ofNat_lt.1 this
  rw [wrap_small hlt]
  omega
/-- It answers, and so. -/
def Tot {α : Type} (o : Option α) (Q : α → Prop) : Prop := ∃ a, o = some a ∧ Q a
section
variable {α β : Type} {Q Q' : α → Prop} {R : β → Prop}
theorem Tot.some {a : α} (h : Q a) : Tot (some a) Q := ⟨a, rfl, h⟩
theorem Tot.bind {o : Option α} {f : α → Option β} (h : Tot o Q) (hf : ∀ a, Q a → Tot (f a) R) : Tot (o.bind f) R := by
  obtain ⟨a, rfl, ha⟩ := h; exact hf a ha
theorem Tot.bindE {o : Option α} {f : α → Option β} {a : α} (h : o = .some a) (hf : Tot (f a) R) : Tot (o.bind f) R := by subst h; exact hf
theorem Tot.cond {c : Bool} {x y : Option α} (h1 : c = true → Tot x Q) (h2 : c = false → Tot y Q) : Tot (cond c x y) Q := by
  cases c with
  | true => exact h1 rfl
  | false => exact h2 rfl
theorem Tot.condD {p : Prop} [Decidable p] {x y : Option α} (h1 : p → Tot x Q) (h2 : ¬ p → Tot y Q) : Tot (_root_.cond (decide p) x y) Q :=
  .cond (fun h => h1 (of_decide_eq_true h)) (fun h => h2 (of_decide_eq_false h))
theorem Tot.mono {o : Option α} (h : Tot o Q) (hq : ∀ a, Q a → Q' a) : Tot o Q' := by obtain ⟨a, e, ha⟩ := h; exact ⟨a, e, hq a ha⟩
end
end Go.Fm

namespace Go.Proofs.Ytkjjcpgickjidaa
open Go Go.Fm
set_option linter.unusedVariables false
/-- A cursor of a draw. -/
def Cok (c : GL01Cur) : Prop := 0 ≤ c.i ∧ c.b.length ≤ 1048576
theorem byte_ok {c : GL01Cur} (h : Cok c) : Tot (g_spec_l01Byte c) fun r => 0 ≤ r.1 ∧ r.1 ≤ 255 ∧ Cok r.2 := by
  unfold g_spec_l01Byte
  refine Tot.bind (Q := fun r => 0 ≤ r.2 ∧ r.2 ≤ 255 ∧ Cok r.1) (.condD (fun hi => ?_) (fun hi => ?_)) fun r hr => .some hr
  · obtain ⟨v, hv, _⟩ := getI_ex h.1 hi
    refine .bindE hv (.some ⟨(and_le (by decide) (by decide)).1, (and_le (by decide) (by decide)).2, ?_, h.2⟩)
    have := h.1
    have := h.2
    show 0 ≤ IntKind.wrap .i64 (c.i + 1)
    rw [wI64 (by omega) (by omega)]
    omega
  · exact .some ⟨(and_le (by decide) (by decide)).1, (and_le (by decide) (by decide)).2, h⟩
theorem below_ok {c : GL01Cur} (h : Cok c) {n : Int} (hn : 0 < n) : Tot (g_spec_l01Below c n) fun r => 0 ≤ r.1 ∧ r.1 < n ∧ Cok r.2 := by
  unfold g_spec_l01Below
  refine .condD (fun h0 => by omega) fun _ => .condD (fun h1 => ?_) fun h1 => ?_
  · refine .bind (byte_ok h) fun a ha => ?_
    obtain ⟨e, g1, g2⟩ := remI_ex (k := .i64) ha.1 hn
    exact .bindE e (.some ⟨g1, g2, ha.2.2⟩)
  · refine .bind (byte_ok h) fun a ha => .bind (byte_ok ha.2.2) fun b hb => .bind (byte_ok hb.2.2) fun d hd => .bind (byte_ok hd.2.2) fun x hx => ?_
    rw [wI64 (x := a.1 * 16777216) (by omega) (by omega), wI64 (x := b.1 * 65536) (by omega) (by omega), wI64 (x := d.1 * 256) (by omega) (by omega), wI64 (x := a.1 * 16777216 + b.1 * 65536) (by omega) (by omega),
      wI64 (x := a.1 * 16777216 + b.1 * 65536 + d.1 * 256) (by omega) (by omega), wI64 (x := a.1 * 16777216 + b.1 * 65536 + d.1 * 256 + x.1) (by omega) (by omega)]
    obtain ⟨e, g1, g2⟩ := remI_ex (k := .i64) (a := a.1 * 16777216 + b.1 * 65536 + d.1 * 256 + x.1) (by omega) hn
    exact .bindE e (.some ⟨g1, g2, hx.2.2⟩)
theorem once_ok {c : GL01Cur} (h : Cok c) {n : Int} (hn : 0 < n) : Tot (g_spec_l01Once c n) fun r => Cok r.2 :=
  .bind (below_ok h hn) fun a ha => .some ha.2.2
theorem pickInt_ok {c : GL01Cur} (h : Cok c) {l : List Int} (hl : 0 < l.length) : Tot (g_spec_l01PickInt c l) fun r => r.1 ∈ l ∧ Cok r.2 :=
  .bind (below_ok h (by omega)) fun a ha => by
    obtain ⟨v, hv, hm, _⟩ := getI_ex (xs := l) ha.1 ha.2.1
    exact .bindE hv (.some ⟨hm, ha.2.2⟩)
theorem pick_ok {c : GL01Cur} (h : Cok c) {l : List Bs} (hl : 0 < l.length) : Tot (g_spec_l01Pick c l) fun r => r.1 ∈ l ∧ Cok r.2 :=
  .bind (below_ok h (by omega)) fun a ha => by
    obtain ⟨v, hv, hm, _⟩ := getI_ex (xs := l) ha.1 ha.2.1
    exact .bindE hv (.some ⟨hm, ha.2.2⟩)
theorem new_ok {code : List Int} (h : code.length ≤ 1048576) : Tot (g_spec_l01New code) Cok := by
  have key : ∀ (k : Nat) (hh i : Int), 0 ≤ i → i ≤ 4000 → 4000 - i < k → Tot (g_spec_l01New_l0 code k hh i) fun _ => True := by
    intro k
    induction k with
    | zero => intro hh i h0 h1 h2; omega
    | succ k ih =>
      intro hh i h0 h1 h2
      unfold g_spec_l01New_l0
      refine .bind (Q := fun b => b = true → i < code.length ∧ i < 4000) (.condD (fun hi => .some fun hb => ⟨hi, of_decide_eq_true hb⟩) fun _ => .some fun hb => nomatch hb) fun b hb => ?_
      refine .cond (fun hc => ?_) fun _ => .some trivial
      obtain ⟨g1, g2⟩ := hb hc
      obtain ⟨v, hv, _⟩ := getI_ex h0 g1
      refine .bindE hv ?_
      rw [wI64 (x := i + 1) (by omega) (by omega)]
      exact ih _ _ (by omega) (by omega) (by omega)
  exact .bind (.bind (key bigK _ 0 (by decide) (by decide) (by decide)) fun a ha => .some (Q := fun _ => True) trivial) fun a ha => .some ⟨Int.le_refl _, h⟩
end Go.Proofs.Ytkjjcpgickjidaa

namespace Go.Proofs.Ytkjjcpgickjidaa
open Go Go.Fm
set_option linter.unusedVariables false
def U32 (xs : List Int) : Prop := ∀ x ∈ xs, 0 ≤ x ∧ x < 4294967296
theorem U32.app {xs ys : List Int} (h1 : U32 xs) (h2 : U32 ys) : U32 (xs ++ ys) := fun x hx => by
  rcases List.mem_append.1 hx with h | h
  · exact h1 x h
  · exact h2 x h
theorem U32.one {x : Int} (h : 0 ≤ x ∧ x < 4294967296) : U32 [x] := fun y hy => by simp at hy; subst hy; exact h
theorem U32.nil : U32 [] := fun x hx => by simp at hx
theorem U32.set {xs : List Int} {x : Int} {i : Nat} (h1 : U32 xs) (h : 0 ≤ x ∧ x < 4294967296) : U32 (xs.set i x) := fun y hy => by
  rcases List.mem_or_eq_of_mem_set hy with h2 | h2
  · exact h1 y h2
  · subst h2; exact h
theorem int_ok {c : GL01Cur} (h : Cok c) : Tot (g_spec_l04Int c) fun r => Cok r.2 := by
  unfold g_spec_l04Int
  refine .bind (once_ok h (by decide)) fun a ha => .cond (fun _ => ?_) fun _ => ?_
  · exact .bind (below_ok ha (by decide)) fun b hb => .some hb.2.2
  · exact .bind (pickInt_ok ha (by decide)) fun b hb => .some hb.2
theorem specIn_eq {x a b : Int} : g_spec_l01In x a b = some (decide (a ≤ x ∧ x ≤ b)) := by
  unfold g_spec_l01In
  by_cases h : x ≥ a
  · rw [decide_eq_true h]
    simp only [cond_true]
    congr 1
    exact decide_eq_decide.2 ⟨fun h2 => ⟨h, h2⟩, fun h2 => h2.2⟩
  · rw [decide_eq_false h]
    simp only [cond_false]
    congr 1
    exact (decide_eq_false fun h2 => h h2.1).symm
theorem specLetterAt_ok {k : Int} : Tot (g_spec_LetterAt k) fun v => 0 ≤ v ∧ v < 256 := by
  unfold g_spec_LetterAt
  refine .bindE specIn_eq (.cond (fun _ => .some (by decide)) fun hc => ?_)
  have hk : 0 ≤ k ∧ k ≤ 47 := by simpa using hc
  obtain ⟨v, hv, h0, h1, _⟩ := idxS_ex (l := [32, 114, 116, 111, 101, 97, 110, 105, 115, 109, 99, 121, 108, 103, 102, 119, 100, 118, 112, 98, 104, 120, 117, 113, 48, 49, 50, 51, 52, 53, 54, 55, 56, 57, 106, 45, 107, 46, 122, 47, 59, 39, 33, 43, 64, 42, 44, 63]) (i := k) hk.1 (by simp; omega)
  exact .bindE (a := _) rfl (.bindE hv (.some ⟨h0, h1⟩))
theorem name_ok {c : GL01Cur} (h : Cok c) : Tot (g_spec_l02Name c) fun r => r.1.length ≤ 10 ∧ Cok r.2 := by
  unfold g_spec_l02Name
  refine .bind (once_ok h (by decide)) fun a ha => .cond (fun _ => ?_) fun _ => ?_
  · refine .bind (pick_ok ha (by decide)) fun b hb => .some ⟨?_, hb.2⟩
    have := hb.1
    revert this
    generalize b.1 = x
    intro hx
    have : ∀ y ∈ ([[100, 117, 112], [111, 118, 101, 114], [115, 113, 117, 97, 114, 101], [97, 33], [50, 42], [103, 111], [45, 105, 102], [59], [63], [114, 114, 114, 114, 114, 114, 114], [114, 116, 111, 101, 97, 110, 105], [119, 119, 119, 119, 119, 119], [113, 113, 113, 113, 113], [120]] : List Bs), y.length ≤ 10 := by decide
    exact this x hx
  · refine .bind (below_ok ha (by decide)) fun b hb => ?_
    have key : ∀ (k : Nat) (c : GL01Cur) (out : List Int) (i : Int), Cok c → 0 ≤ i → i ≤ 9 → (out.length : Int) ≤ i → 9 - i < k → Tot (g_spec_l02Name_l0 b k c out i) fun r => Cok r.1 ∧ r.2.length ≤ 10 := by
      intro k
      induction k with
      | zero => intro c out i hc h0 h1 h2 h3; omega
      | succ k ih =>
        intro c out i hc h0 h1 h2 h3
        unfold g_spec_l02Name_l0
        rw [wI64 (x := 1 + b.1) (by omega) (by omega)]
        refine .condD (fun hi => ?_) fun _ => .some ⟨hc, by show out.length ≤ 10; omega⟩
        refine .bind (below_ok hc (by decide)) fun d hd => .bind specLetterAt_ok fun e he => .bindE (app_eq (by simp; omega)) ?_
        rw [wI64 (x := i + 1) (by omega) (by omega)]
        exact ih _ _ _ hd.2.2 (by omega) (by omega) (by simp; omega) (by omega)
    refine .bind (Q := fun r => Cok r.1 ∧ r.2.length ≤ 10) (.bind (key bigK _ _ _ hb.2.2 (by decide) (by decide) (by decide) (by decide)) fun d hd => .some hd) fun d hd => .some ⟨?_, hd.1⟩
    show (strOf d.2).length ≤ 10
    unfold strOf
    rw [List.length_map]
    exact hd.2
theorem some_ok {c : GL01Cur} (h : Cok c) : Tot (g_spec_l04Some c) fun r => r.1.Name.length ≤ 10 ∧ Cok r.2 := by
  unfold g_spec_l04Some
  refine .bind (below_ok h (by decide)) fun a ha => .cond (fun _ => ?_) fun _ => .cond (fun _ => ?_) fun _ => .cond (fun _ => ?_) fun _ => ?_
  · exact .bind (int_ok ha.2.2) fun b hb => .bind (once_ok hb (by decide)) fun d hd => .some ⟨by simp, hd⟩
  · exact .bind (int_ok ha.2.2) fun b hb => .bind (once_ok hb (by decide)) fun d hd => .some ⟨by simp, hd⟩
  · refine .bind (pick_ok ha.2.2 (by decide)) fun b hb => .bind (int_ok hb.2) fun d hd => .some ⟨?_, hd⟩
    have : ∀ y ∈ ([[120], [97, 116], [113, 113, 113, 113], [116, 101, 110]] : List Bs), y.length ≤ 10 := by decide
    exact this _ hb.1
  · exact .bind (below_ok ha.2.2 (by decide)) fun b hb => .bind (name_ok hb.2.2) fun d hd => .some hd
theorem specNum_ok {n : Int} {hex : Bool} {s l : Int} : Tot (g_spec_l04Num n hex s l) fun r => U32 r ∧ r.length ≤ 2 := by
  unfold g_spec_l04Num
  refine .bind (Q := fun _ => True) (.cond (fun _ => .some trivial) fun _ => .some trivial) fun a _ => .bind (Q := fun _ => True) (.condD (fun _ => .some trivial) fun _ => .some trivial) fun b _ => .cond (fun _ => .some ⟨.one (wU32_bd _), by simp⟩) fun _ => .some ⟨?_, by simp⟩
  exact (U32.one (wU32_bd _)).app (.one (wU32_bd _))
theorem specLetterOf_ok {b : Int} : Tot (g_spec_LetterOf b) fun r => -1 ≤ r ∧ r ≤ 47 := by
  unfold g_spec_LetterOf
  refine .bindE (a := _) rfl ?_
  have key : ∀ (k : Nat) (i : Int), 0 ≤ i → i ≤ 48 → 48 - i < k → Tot (g_spec_LetterOf_l0 b [32, 114, 116, 111, 101, 97, 110, 105, 115, 109, 99, 121, 108, 103, 102, 119, 100, 118, 112, 98, 104, 120, 117, 113, 48, 49, 50, 51, 52, 53, 54, 55, 56, 57, 106, 45, 107, 46, 122, 47, 59, 39, 33, 43, 64, 42, 44, 63] k i)
      fun r => match r with | .inl _ => True | .inr x => 0 ≤ x ∧ x ≤ 47 := by
    intro k
    induction k with
    | zero => intro i h0 h1 h2; omega
    | succ k ih =>
      intro i h0 h1 h2
      unfold g_spec_LetterOf_l0
      refine .condD (fun hi => ?_) fun _ => .some trivial
      have hi : i < 48 := by simpa using hi
      obtain ⟨v, hv, _⟩ := idxS_ex (l := [32, 114, 116, 111, 101, 97, 110, 105, 115, 109, 99, 121, 108, 103, 102, 119, 100, 118, 112, 98, 104, 120, 117, 113, 48, 49, 50, 51, 52, 53, 54, 55, 56, 57, 106, 45, 107, 46, 122, 47, 59, 39, 33, 43, 64, 42, 44, 63]) h0 (by simpa using hi)
      refine .bindE hv (.cond (fun _ => .some ⟨h0, by omega⟩) fun _ => ?_)
      rw [wI64 (x := i + 1) (by omega) (by omega)]
      exact ih _ (by omega) (by omega) (by omega)
  refine .bind (Q := fun r => match r with | .inl _ => True | .inr x => 0 ≤ x ∧ x ≤ 47) (.bind (key bigK 0 (by decide) (by decide) (by decide)) fun o ho => ?_) fun o ho => ?_
  · cases o with
    | inl _ => exact .some trivial
    | inr x => exact .some ho
  · cases o with
    | inl _ => exact .some ⟨by decide, by decide⟩
    | inr x => exact .some ⟨by have := ho.1; omega, ho.2⟩
theorem specNameOk_ok {s : Bs} (hs : s.length ≤ 1048576) : Tot (g_spec_NameOk s) fun r => r = true → 1 ≤ s.length ∧ s.length ≤ 24 := by
  unfold g_spec_NameOk
  refine .bindE specIn_eq (.cond (fun _ => .some fun h => nomatch h) fun hc => ?_)
  have hl : 1 ≤ s.length ∧ s.length ≤ 24 := by
    have : (1 : Int) ≤ s.length ∧ (s.length : Int) ≤ 24 := by simpa using hc
    omega
  have key : ∀ (k : Nat) (i : Int), 0 ≤ i → i ≤ s.length → s.length - i < k → Tot (g_spec_NameOk_l0 s k i) fun _ => True := by
    intro k
    induction k with
    | zero => intro i h0 h1 h2; omega
    | succ k ih =>
      intro i h0 h1 h2
      unfold g_spec_NameOk_l0
      refine .condD (fun hi => ?_) fun _ => .some trivial
      obtain ⟨v, hv, _⟩ := idxS_ex h0 hi
      refine .bindE hv (.bind specLetterOf_ok fun x hx => .condD (fun _ => .some trivial) fun _ => ?_)
      rw [wI64 (x := i + 1) (by omega) (by omega)]
      exact ih _ (by omega) (by omega) (by omega)
  refine .bind (Q := fun _ => True) (.bind (key bigK 0 (by decide) (by omega) (by unfold bigK; omega)) fun o ho => ?_) fun o ho => ?_
  · cases o <;> exact .some trivial
  · cases o <;> exact .some fun _ => hl
theorem specWidth_ok {k : Int} : Tot (g_spec_WidthOf k) fun w => 0 ≤ w ∧ w ≤ 7 := by
  unfold g_spec_WidthOf
  exact .bindE specIn_eq (.cond (fun _ => .some (by decide)) fun _ => .bindE specIn_eq (.cond (fun _ => .some (by decide)) fun _ => .bindE specIn_eq (.cond (fun _ => .some (by decide)) fun _ => .some (by decide))))
theorem specBits_ok {k : Int} : Tot (g_spec_BitsOf k) fun w => True := by
  unfold g_spec_BitsOf
  exact .bind specWidth_ok fun _ _ => .cond (fun _ => .some trivial) fun _ => .cond (fun _ => .some trivial) fun _ => .cond (fun _ => .some trivial) fun _ => .some trivial
theorem shl_ok {k : IntKind} {a b : Int} (h : 0 ≤ b) : Tot (shlI k a b) fun _ => True := by unfold shlI; rw [if_pos h]; exact .some trivial
theorem wU64_nn (x : Int) : 0 ≤ IntKind.wrap .u64 x := by simp [IntKind.wrap, IntKind.bits, IntKind.signed]; omega
theorem specOne_ok {s : Bs} (hs : 1 ≤ s.length ∧ s.length ≤ 24) : Tot (g_spec_l03One s) fun r => (0 ≤ r.1 ∧ r.1 < 4294967296) ∧ 1 ≤ r.2 ∧ r.2 ≤ s.length := by
  unfold g_spec_l03One
  have key : ∀ (k : Nat) (f left n : Int), 0 ≤ n → n ≤ s.length → 0 ≤ left → left ≤ 28 → (n = 0 → left = 28) → s.length - n < k → Tot (g_spec_l03One_l0 s k f left n) fun r => 1 ≤ r.2 ∧ r.2 ≤ s.length := by
    intro k
    induction k with
    | zero => intro f left n h0 h1 h2 h3 h4 h5; omega
    | succ k ih =>
      intro f left n h0 h1 h2 h3 h4 h5
      unfold g_spec_l03One_l0
      refine .condD (fun hi => ?_) fun hi => .some ⟨by omega, by omega⟩
      obtain ⟨v, hv, _⟩ := idxS_ex h0 hi
      refine .bindE hv (.bind specLetterOf_ok fun x hx => .bind specWidth_ok fun w hw => .condD (fun hc => .some ⟨?_, by omega⟩) fun hc => .bind specBits_ok fun b _ => .bind (shl_ok (wU64_nn _)) fun d _ => ?_)
      · by_cases hn : n = 0
        · have := h4 hn; omega
        · show 1 ≤ n; omega
      · rw [wI64 (x := n + 1) (by omega) (by omega), wI64 (x := left - w) (by omega) (by omega)]
        exact ih _ _ _ (by omega) (by omega) (by omega) (by omega) (by omega) (by omega)
  exact .bind (key bigK 0 28 0 (by decide) (by omega) (by decide) (by decide) (fun _ => rfl) (by unfold bigK; omega)) fun r hr => .some ⟨wU32_bd _, hr.1, hr.2⟩
theorem specPack_ok {s : Bs} (hs : s.length ≤ 1048576) : Tot (g_spec_Pack s) fun r => U32 r ∧ r.length ≤ 24 := by
  unfold g_spec_Pack
  refine .bind (specNameOk_ok hs) fun a ha => .cond (fun _ => .some ⟨.nil, by simp⟩) fun hc => ?_
  have hl := ha (by simpa using hc)
  have key : ∀ (k : Nat) (x : Bs) (out : List Int), x.length ≤ 24 → U32 out → out.length + x.length ≤ 24 → x.length < k → Tot (g_spec_Pack_l0 k x out) fun r => U32 r ∧ r.length ≤ 24 := by
    intro k
    induction k with
    | zero => intro x out h0 h1 h2 h3; omega
    | succ k ih =>
      intro x out h0 h1 h2 h3
      unfold g_spec_Pack_l0
      refine .cond (fun hx => ?_) fun _ => .some ⟨h1, by omega⟩
      have hx1 : 1 ≤ x.length := by
        have : x ≠ [] := by simpa using hx
        have := List.length_pos_iff.2 this
        omega
      refine .bind (specOne_ok ⟨hx1, h0⟩) fun r hr => .bindE (app_eq (by simp; omega)) (.bindE (subL_drop (by omega) hr.2.2) ?_)
      have hd : (x.drop r.2.toNat).length = x.length - r.2.toNat := List.length_drop
      exact ih _ _ (by omega) (h1.app (.one hr.1)) (by rw [List.length_append, hd, List.length_singleton]; omega) (by omega)
  exact .bind (key bigK s [] hl.2 .nil (by simp; omega) (by unfold bigK; omega)) fun r hr => .some hr
theorem specWord_ok {tag : Int} {s : Bs} (hs : s.length ≤ 1048576) : Tot (g_spec_l04Word tag s) fun r => U32 r ∧ r.length ≤ 24 := by
  unfold g_spec_l04Word
  refine .bind (specPack_ok hs) fun a ha => ?_
  have key : ∀ (k : Nat) (out : List Int) (i : Int), U32 out → out.length ≤ 24 → 0 ≤ i → i ≤ out.length → out.length - i < k → Tot (g_spec_l04Word_l0 tag k out i) fun r => U32 r ∧ r.length ≤ 24 := by
    intro k
    induction k with
    | zero => intro out i h0 h1 h2 h3 h4; omega
    | succ k ih =>
      intro out i h0 h1 h2 h3 h4
      unfold g_spec_l04Word_l0
      refine .condD (fun hi => ?_) fun _ => .some ⟨h0, h1⟩
      obtain ⟨v, hv, _⟩ := getI_ex h2 hi
      refine .bind (Q := fun o => U32 o ∧ o.length = out.length) (.bindE hv (.cond (fun _ => ?_) fun _ => .some ⟨h0.set (wU32_bd _), by simp⟩)) fun o ho => ?_
      · obtain ⟨u, hu, _⟩ := getI_ex (xs := out.set i.toNat (IntKind.wrap .u32 (v * 16))) h2 (by simpa using hi)
        exact .bindE hu (.some ⟨(h0.set (wU32_bd _)).set (wU32_bd _), by simp⟩)
      · rw [wI64 (x := i + 1) (by omega) (by omega)]
        exact ih _ _ ho.1 (by omega) (by omega) (by omega) (by omega)
  exact .bind (.bind (key bigK a 0 ha.1 ha.2 (by decide) (by omega) (by unfold bigK; omega)) fun r hr => .some hr) fun r hr => .some hr
end Go.Proofs.Ytkjjcpgickjidaa

namespace Go.Proofs.Ytkjjcpgickjidaa
open Go Go.Fm
set_option linter.unusedVariables false
theorem specTag_ok {k : Int} : Tot (g_spec_l04Tag k) fun _ => True := by
  unfold g_spec_l04Tag
  exact .cond (fun _ => .some trivial) fun _ => .cond (fun _ => .some trivial) fun _ => .cond (fun _ => .some trivial) fun _ => .cond (fun _ => .some trivial) fun _ => .cond (fun _ => .some trivial) fun _ => .cond (fun _ => .some trivial) fun _ => .some trivial
def EC (o : Unit ⊕ List Int) : Prop := match o with | .inl _ => True | .inr r => U32 r ∧ r.length ≤ 25
theorem specCells_ok {it : GItem} (hs : it.Name.length ≤ 1048576) (hr : 0 ≤ it.Raw ∧ it.Raw < 4294967296) : Tot (g_spec_CellsOf it) fun r => U32 r ∧ r.length ≤ 25 := by
  unfold g_spec_CellsOf
  have t3 : ∀ {a b c : Bool} {d : Bool}, Tot (_root_.cond a (_root_.cond b (some c) (some false)) (some d)) fun _ => True := fun {a b c d} => by cases a <;> cases b <;> exact .some trivial
  have t2 : ∀ {a c d : Bool}, Tot (_root_.cond a (some c) (some d)) fun _ => True := fun {a c d} => by cases a <;> exact .some trivial
  refine .bind t3 fun p _ => .bind (Q := EC) ?_ fun o ho => ?_
  · refine .cond (fun _ => .bind t3 fun a _ => .cond (fun _ => .some ⟨.one hr, by simp⟩) fun _ => .some trivial) fun _ => .cond (fun _ => .bind t2 fun a _ => .cond (fun _ => .bind specNum_ok fun r h => .some ⟨h.1, by omega⟩) fun _ => .some trivial) fun _ =>
      .cond (fun _ => .bind t2 fun a _ => .cond (fun _ => .bind specNum_ok fun r h => .some ⟨h.1, by omega⟩) fun _ => .some trivial) fun _ =>
      .cond (fun _ => .bind (specWord_ok hs) fun r h => .bind t3 fun a _ => .cond (fun _ => .bindE (app_eq (by simp; omega)) (.some ⟨h.1.app (.one (wU32_bd _)), by simp; omega⟩)) fun _ => .some trivial) fun _ =>
      .bind specTag_ok fun t _ => .bind t2 fun a _ => .cond (fun _ => .bind (specWord_ok hs) fun r h => .some ⟨h.1, by omega⟩) fun _ => .some trivial
  · cases o with
    | inl _ => exact .some ⟨.nil, by simp⟩
    | inr r => exact .some ho
theorem some_ok2 {c : GL01Cur} (h : Cok c) : Tot (g_spec_l04Some c) fun r => r.1.Name.length ≤ 10 ∧ r.1.Raw = 0 ∧ Cok r.2 := by
  have h1 := some_ok h
  obtain ⟨r, e, g1, g2⟩ := h1
  refine ⟨r, e, g1, ?_, g2⟩
  unfold g_spec_l04Some at e
  simp only [Option.bind_eq_some_iff] at e
  obtain ⟨a, _, e⟩ := e
  cases h1 : a.1 == 0 <;> rw [h1] at e <;> simp only [cond_true, cond_false] at e
  · cases h2 : a.1 == 1 <;> rw [h2] at e <;> simp only [cond_true, cond_false] at e
    · cases h3 : a.1 == 2 <;> rw [h3] at e <;> simp only [cond_true, cond_false, Option.bind_eq_some_iff] at e
      · obtain ⟨b, _, d, _, e⟩ := e; cases e; rfl
      · obtain ⟨b, _, d, _, e⟩ := e; cases e; rfl
    · simp only [Option.bind_eq_some_iff] at e
      obtain ⟨b, _, d, _, e⟩ := e; cases e; rfl
  · simp only [Option.bind_eq_some_iff] at e
    obtain ⟨b, _, d, _, e⟩ := e; cases e; rfl
theorem word_ok {c : GL01Cur} (h : Cok c) : Tot (g_spec_l01Word c) fun r => (0 ≤ r.1 ∧ r.1 < 4294967296) ∧ Cok r.2 := by
  unfold g_spec_l01Word
  refine .bind (below_ok h (by decide)) fun a ha => .cond (fun _ => ?_) fun _ => .cond (fun _ => ?_) fun _ => ?_
  · exact .bind (pickInt_ok ha.2.2 (by decide)) fun b hb => .some ⟨wU32_bd _, hb.2⟩
  · exact .bind (below_ok ha.2.2 (by decide)) fun b hb => .some ⟨wU32_bd _, hb.2.2⟩
  · exact .bind (below_ok ha.2.2 (by decide)) fun b hb => .bind (below_ok hb.2.2 (by decide)) fun d hd => .some ⟨wU32_bd _, hd.2.2⟩
theorem cells_ok {c : GL01Cur} (h : Cok c) : Tot (g_spec_l04Cells c) fun r => U32 r.1 ∧ r.1.length ≤ 364 ∧ Cok r.2 := by
  unfold g_spec_l04Cells
  refine .bind (below_ok h (by decide)) fun y hy => ?_
  have key : ∀ (k : Nat) (c : GL01Cur) (out : List Int) (i : Int), Cok c → U32 out → 0 ≤ i → i ≤ 14 → (out.length : Int) ≤ 26 * i → 14 - i < k → Tot (g_spec_l04Cells_l0 y k c out i) fun r => Cok r.1 ∧ U32 r.2 ∧ r.2.length ≤ 364 := by
    intro k
    induction k with
    | zero => intro c out i h0 h1 h2 h3 h4 h5; omega
    | succ k ih =>
      intro c out i h0 h1 h2 h3 h4 h5
      unfold g_spec_l04Cells_l0
      refine .condD (fun hi => ?_) fun _ => .some ⟨h0, h1, by show out.length ≤ 364; omega⟩
      refine .bind (Q := fun r => Cok r.1 ∧ U32 r.2 ∧ (r.2.length : Int) ≤ out.length + 26) (.bind (some_ok2 h0) fun s hs => .bind (specCells_ok (by omega) (by rw [hs.2.1]; decide)) fun e he => .bindE (app_eq (by omega)) (.bind (below_ok hs.2.2 (by decide)) fun b hb => ?_)) fun r hr => ?_
      · refine .cond (fun _ => .bind (word_ok hb.2.2) fun w hw => .bindE (app_eq (by simp; omega)) (.some ⟨hw.2, (h1.app he.1).app (.one hw.1), ?_⟩)) fun _ => .cond (fun _ => .bindE (app_eq (by simp; omega)) (.some ⟨hb.2.2, (h1.app he.1).app (.one (by decide)), ?_⟩)) fun _ =>
          .cond (fun _ => .bind (below_ok hb.2.2 (by decide)) fun w hw => .bindE (app_eq (by simp; omega)) (.some ⟨hw.2.2, (h1.app he.1).app (.one (wU32_bd _)), ?_⟩)) fun _ =>
          .cond (fun _ => .bind (pickInt_ok hb.2.2 (by decide)) fun w hw => .bindE (app_eq (by simp; omega)) (.some ⟨hw.2, (h1.app he.1).app (.one (wU32_bd _)), ?_⟩)) fun _ => .some ⟨hb.2.2, h1.app he.1, ?_⟩ <;> (simp; omega)
      · rw [wI64 (x := i + 1) (by omega) (by omega)]
        exact ih _ _ _ hr.1 hr.2.1 (by omega) (by omega) (by omega) (by omega)
  refine .bind (Q := fun r => Cok r.1 ∧ U32 r.2 ∧ r.2.length ≤ 364) (.bind (key bigK _ _ 0 hy.2.2 .nil (by decide) (by decide) (by decide) (by decide)) fun d hd => .some hd) fun d hd => ?_
  refine .bind (Q := fun r => Cok r.1 ∧ (r.2 = true → 64 < d.2.length)) (.condD (fun hl => .bind (once_ok hd.1 (by decide)) fun b hb => .some ⟨hb, fun _ => by omega⟩) fun _ => .some ⟨hd.1, fun h => nomatch h⟩) fun e he => .cond (fun hc => ?_) fun _ => .some ⟨hd.2.1, hd.2.2, he.1⟩
  have := he.2 hc
  refine .bindE (subL_take (by decide) (by omega)) (.some ⟨fun x hx => hd.2.1 x (List.mem_of_mem_take hx), ?_, he.1⟩)
  show (List.take _ _).length ≤ 364
  rw [List.length_take]; omega
theorem drawOpen_ok {code : List Int} (h : code.length ≤ 1048576) : Tot (g_spec_DrawOpenEd code) fun r => U32 r ∧ r.length ≤ 364 := by
  unfold g_spec_DrawOpenEd
  exact .bind (new_ok h) fun c hc => .bind (cells_ok hc) fun r hr => .some ⟨hr.1, hr.2.1⟩
end Go.Proofs.Ytkjjcpgickjidaa

namespace Go.Proofs.Ytkjjcpgickjidaa
open Go Go.Fm
set_option linter.unusedVariables false
theorem andU {a b : Int} (a0 : 0 ≤ a) (a1 : a < 4294967296) (b0 : 0 ≤ b) (b1 : b < 4294967296) : andI .u32 a b = ((a.toNat &&& b.toNat : Nat) : Int) := by
  unfold andI
  rw [BitVec.toNat_and, bB_toNat (k := .u32) a0 a1, bB_toNat (k := .u32) b0 b1]
  have : a.toNat &&& b.toNat ≤ b.toNat := Nat.and_le_right
  exact wU32 (Int.natCast_nonneg _) (by omega)
theorem orU {a b : Int} (a0 : 0 ≤ a) (a1 : a < 4294967296) (b0 : 0 ≤ b) (b1 : b < 4294967296) : orI .u32 a b = ((a.toNat ||| b.toNat : Nat) : Int) := by
  unfold orI
  rw [BitVec.toNat_or, bB_toNat (k := .u32) a0 a1, bB_toNat (k := .u32) b0 b1]
  have : a.toNat ||| b.toNat < 2 ^ 32 := Nat.or_lt_two_pow (by omega) (by omega)
  exact wU32 (Int.natCast_nonneg _) (by omega)
theorem and15 {v : Int} (h0 : 0 ≤ v) (h1 : v < 4294967296) : andI .u32 v 15 = v % 16 := by
  rw [andU h0 h1 (by decide) (by decide)]
  have : v.toNat &&& 15 = v.toNat % 16 := Nat.and_two_pow_sub_one_eq_mod v.toNat 4
  show ((v.toNat &&& 15 : Nat) : Int) = _
  rw [this]; omega
theorem and16 {v : Int} (h0 : 0 ≤ v) (h1 : v < 4294967296) : (andI .u32 v 16 != 0) = decide (v / 16 % 2 = 1) := by
  rw [andU h0 h1 (by decide) (by decide)]
  show ((((v.toNat &&& 16 : Nat) : Int)) != 0) = _
  have h2 : v.toNat &&& 16 = 16 * (v.toNat / 16 % 2) := by
    have e1 : v.toNat &&& 16 = (v.toNat &&& 31) &&& 16 := by rw [Nat.and_assoc]; rfl
    have e2 : v.toNat &&& 31 = v.toNat % 32 := Nat.and_two_pow_sub_one_eq_mod v.toNat 5
    have e3 : ∀ r, r < 32 → r &&& 16 = 16 * (r / 16) := by decide
    rw [e1, e2, e3 _ (Nat.mod_lt _ (by decide))]
    omega
  rw [h2]
  by_cases h : v / 16 % 2 = 1
  · rw [decide_eq_true h]
    have : v.toNat / 16 % 2 = 1 := by omega
    rw [this]; rfl
  · rw [decide_eq_false h]
    have : v.toNat / 16 % 2 = 0 := by omega
    rw [this]; rfl
/-- Low bits laid beside high ones. -/
theorem or_low {q r : Nat} (i : Nat) (hr : r < 2 ^ i) : (2 ^ i * q) ||| r = 2 ^ i * q + r := (Nat.two_pow_add_eq_or_of_lt hr q).symm
theorem or16 {v t : Int} (h0 : 0 ≤ v) (h1 : v < 268435456) (t0 : 0 ≤ t) (t1 : t < 16) : orI .u32 (IntKind.wrap .u32 (v * 16)) t = v * 16 + t := by
  rw [wU32 (by omega) (by omega), orU (by omega) (by omega) t0 (by omega)]
  have e : (v * 16).toNat = 2 ^ 4 * v.toNat := by omega
  rw [e, or_low 4 (by omega)]
  omega
theorem within_eq {x a b : Int} : g_impl_within x a b = some (decide (a ≤ x ∧ x ≤ b)) := by
  unfold g_impl_within
  by_cases h : a ≤ x
  · rw [decide_eq_true h]
    simp only [cond_true]
    congr 1
    exact decide_eq_decide.2 ⟨fun h2 => ⟨h, h2⟩, fun h2 => h2.2⟩
  · rw [decide_eq_false h]
    simp only [cond_false]
    congr 1
    exact (decide_eq_false fun h2 => h h2.1).symm
theorem width_ok {k : Int} : Tot (g_impl_WidthOf k) fun w => 0 ≤ w ∧ w ≤ 7 ∧ (0 ≤ k → k ≤ 47 → 4 ≤ w) := by
  unfold g_impl_WidthOf
  refine .bindE within_eq (.condD (fun _ => .some (by omega)) fun h1 => .bindE within_eq (.condD (fun _ => .some (by omega)) fun h2 => .bindE within_eq (.condD (fun _ => .some (by omega)) fun h3 => .some (by omega))))
theorem bits_ok {k : Int} : Tot (g_impl_BitsOf k) fun w => True := by
  unfold g_impl_BitsOf
  exact .bind width_ok fun _ _ => .cond (fun _ => .some trivial) fun _ => .cond (fun _ => .some trivial) fun _ => .cond (fun _ => .some trivial) fun _ => .some trivial
theorem shr_ok {k : IntKind} {a b : Int} (h : 0 ≤ b) : Tot (shrI k a b) fun _ => True := by unfold shrI; rw [if_pos h]; exact .some trivial
def DC (n : Int) (o : Unit ⊕ (Int × Int)) : Prop := match o with | .inl _ => True | .inr r => r.1 ≤ 47 ∧ 4 ≤ r.2 ∧ r.2 ≤ n
theorem decode_ok {f n : Int} : Tot (g_impl_Decode f n) fun r => r.1 ≤ 47 ∧ (1 ≤ r.1 → 4 ≤ r.2 ∧ r.2 ≤ n) := by
  unfold g_impl_Decode
  refine .bindE within_eq (.cond (fun _ => .some ⟨by decide, fun h => absurd h (by decide)⟩) fun hc => ?_)
  have hn : 1 ≤ n ∧ n ≤ 32 := by simpa using hc
  have key : ∀ (k : Nat) (i : Int), 0 ≤ i → i ≤ 48 → 48 - i < k → Tot (g_impl_Decode_l0 f n k i) (DC n) := by
    intro k
    induction k with
    | zero => intro i h0 h1 h2; omega
    | succ k ih =>
      intro i h0 h1 h2
      unfold g_impl_Decode_l0
      refine .condD (fun hi => .bind width_ok fun w hw => .bind (Q := fun b => b = true → w ≤ n) (.condD (fun hc => ?_) fun _ => .some fun h => nomatch h) fun b hb => .cond (fun hb2 => .some ⟨by show i ≤ 47; omega, hw.2.2 h0 (by omega), hb hb2⟩) fun _ => ?_) fun _ => .some trivial
      · rw [wI64 (x := n - w) (by omega) (by omega)]
        exact .bind (shr_ok (by omega)) fun _ _ => .bind (shl_ok (by omega)) fun _ _ => .bind bits_ok fun _ _ => .some fun _ => hc
      · rw [wI64 (x := i + 1) (by omega) (by omega)]
        exact ih _ (by omega) (by omega) (by omega)
  refine .bind (Q := DC n) (.bind (key bigK 0 (by decide) (by decide) (by decide)) fun o ho => ?_) fun o ho => ?_
  · cases o <;> exact .some ho
  · cases o with
    | inl _ => exact .some ⟨by decide, fun h => absurd h (by decide)⟩
    | inr r => exact .some ⟨ho.1, fun _ => ho.2⟩
def Letters : Bs := [32, 114, 116, 111, 101, 97, 110, 105, 115, 109, 99, 121, 108, 103, 102, 119, 100, 118, 112, 98, 104, 120, 117, 113, 48, 49, 50, 51, 52, 53, 54, 55, 56, 57, 106, 45, 107, 46, 122, 47, 59, 39, 33, 43, 64, 42, 44, 63]
theorem letters_len : Letters.length = 48 := rfl
theorem letterAt_ok {k : Int} : Tot (g_impl_LetterAt k) fun v => 0 ≤ v ∧ v < 256 := by
  unfold g_impl_LetterAt
  refine .bindE within_eq (.cond (fun _ => .some (by decide)) fun hc => ?_)
  have hk : 0 ≤ k ∧ k ≤ 47 := by simpa using hc
  obtain ⟨v, hv, h0, h1, _⟩ := idxS_ex (l := Letters) (i := k) hk.1 (by rw [letters_len]; omega)
  exact .bindE (a := Letters) rfl (.bindE hv (.some ⟨h0, h1⟩))
theorem unpackOne_ok {f : Int} : Tot (g_impl_UnpackOne f) fun r => r.length ≤ 7 := by
  unfold g_impl_UnpackOne
  refine .condD (fun _ => .some (by simp)) fun _ => ?_
  have key : ∀ (k : Nat) (out : List Int) (left : Int), 0 ≤ left → left ≤ 28 → (out.length : Int) * 4 ≤ 28 - left → left < k → Tot (g_impl_UnpackOne_l0 f k out left) fun r => r.length ≤ 7 := by
    intro k
    induction k with
    | zero => intro out left h0 h1 h2 h3; omega
    | succ k ih =>
      intro out left h0 h1 h2 h3
      unfold g_impl_UnpackOne_l0
      refine .bind (shl_ok h0) fun s _ => .cond (fun _ => .bind decode_ok fun d hd => .condD (fun _ => .some (by omega)) fun h1 => .bind letterAt_ok fun v _ => .bindE (app_eq (by simp; omega)) ?_) fun _ => .some (by omega)
      have := hd.2 (by omega)
      rw [wI64 (x := left - d.2) (by omega) (by omega)]
      exact ih _ _ (by omega) (by omega) (by simp; omega) (by omega)
  refine .bind (key bigK [] 28 (by decide) (by decide) (by decide) (by decide)) fun r hr => .some ?_
  show (strOf r).length ≤ 7
  unfold strOf; rw [List.length_map]; exact hr
theorem idxB_bd {l : List UInt8} {c : Int} : -1 ≤ idxB l c ∧ idxB l c < l.length := by
  unfold idxB
  cases h : l.findIdx? (fun b => (b.toNat : Int) == c) with
  | none => exact ⟨by decide, by show (-1 : Int) < _; omega⟩
  | some i =>
    have := (List.findIdx?_eq_some_iff_getElem.1 h).1
    exact ⟨by show (-1 : Int) ≤ (i : Int); omega, by show (i : Int) < _; omega⟩
theorem letterOf_ok {b : Int} (h0 : 0 ≤ b) (h1 : b < 256) : Tot (g_impl_LetterOf b) fun r => -1 ≤ r ∧ r ≤ 47 := by
  unfold g_impl_LetterOf g_strings_IndexByte g_istringslite_IndexByte g_ibytealg_IndexByteString gIdxB
  refine .bindE (a := Letters) rfl (.bind (Q := fun r => -1 ≤ r ∧ r ≤ 47) (.bind (Q := fun r => -1 ≤ r ∧ r ≤ 47) ?_ fun r h => .some h) fun r h => .some h)
  refine .bind (Q := fun r => -1 ≤ r ∧ r ≤ 47) ?_ fun r h => .some h
  rw [if_pos ⟨h0, h1⟩]
  refine .some ⟨idxB_bd.1, ?_⟩
  have := (idxB_bd (l := Letters) (c := b)).2
  rw [letters_len] at this
  omega
theorem nameOk_ok {s : Bs} (hs : s.length ≤ 1048576) : Tot (g_impl_NameOk s) fun r => r = true → 1 ≤ s.length ∧ s.length ≤ 24 := by
  unfold g_impl_NameOk
  have key : ∀ (k : Nat) (i : Int), 0 ≤ i → i ≤ s.length → s.length - i < k → Tot (g_impl_NameOk_l0 s k i) fun _ => True := by
    intro k
    induction k with
    | zero => intro i h0 h1 h2; omega
    | succ k ih =>
      intro i h0 h1 h2
      unfold g_impl_NameOk_l0
      refine .condD (fun hi => ?_) fun _ => .some trivial
      obtain ⟨v, hv, v0, v1, _⟩ := idxS_ex h0 hi
      refine .bindE hv (.bind (letterOf_ok v0 v1) fun x hx => .condD (fun _ => .some trivial) fun _ => ?_)
      rw [wI64 (x := i + 1) (by omega) (by omega)]
      exact ih _ (by omega) (by omega) (by omega)
  refine .bind (Q := fun _ => True) (.bind (key bigK 0 (by decide) (by omega) (by unfold bigK; omega)) fun o ho => ?_) fun o ho => ?_
  · cases o <;> exact .some trivial
  · cases o with
    | inl _ => exact .bindE within_eq (.some fun h => by have := of_decide_eq_true h; omega)
    | inr _ => exact .some fun h => nomatch h
theorem packOne_ok {s : Bs} (hs : s.length ≤ 1048576) : Tot (g_impl_PackOne s) fun r => (0 ≤ r.1 ∧ r.1 < 4294967296) ∧ 0 ≤ r.2 ∧ r.2 ≤ s.length ∧ (g_impl_NameOk s = some true → 1 ≤ r.2) := by
  unfold g_impl_PackOne
  obtain ⟨b, hb, hl⟩ := nameOk_ok hs
  rw [hb]
  refine .bindE rfl (.cond (fun hc => .some ⟨by decide, by decide, by show (0 : Int) ≤ _; omega, fun h => by cases h; cases hc⟩) fun hc => ?_)
  have hb1 : b = true := by simpa using hc
  have hs1 := hl hb1
  have key : ∀ (k : Nat) (f left many n : Int), 0 ≤ n → n ≤ s.length → 0 ≤ left → left ≤ 28 → (n = 0 → left = 28) → many = n → (0 ≤ f ∧ f < 4294967296) → s.length - n < k →
      Tot (g_impl_PackOne_l0 s k f left many n) fun r => (0 ≤ r.1 ∧ r.1 < 4294967296) ∧ 1 ≤ r.2 ∧ r.2 ≤ s.length := by
    intro k
    induction k with
    | zero => intro f left many n h0 h1 h2 h3 h4 h5 h6 h7; omega
    | succ k ih =>
      intro f left many n h0 h1 h2 h3 h4 h5 h6 h7
      unfold g_impl_PackOne_l0
      refine .condD (fun hi => ?_) fun hi => .some ⟨h6, by show 1 ≤ many; omega, by show many ≤ _; omega⟩
      obtain ⟨v, hv, v0, v1, _⟩ := idxS_ex h0 hi
      refine .bindE hv (.bind (letterOf_ok v0 v1) fun x hx => ?_)
      obtain ⟨w, hw, hw0, hw1, _⟩ := width_ok (k := x)
      refine .bindE hw (.condD (fun hc => .some ⟨h6, ?_, by show many ≤ _; omega⟩) fun hc => .bindE hw (.bind bits_ok fun b _ => ?_))
      · show 1 ≤ many
        by_cases hn : n = 0
        · have := h4 hn; omega
        · omega
      · rw [wI64 (x := n + 1) (by omega) (by omega), wI64 (x := left - w) (by omega) (by omega), wI64 (x := many + 1) (by omega) (by omega)]
        refine .bind (shl_ok (by omega)) fun d _ => ih _ _ _ _ (by omega) (by omega) (by omega) (by omega) (by omega) (by omega) (wU32_bd _) (by omega)
  refine .bind (Q := fun r : Int × Int => (0 ≤ r.1 ∧ r.1 < 4294967296) ∧ 1 ≤ r.2 ∧ r.2 ≤ s.length) (.bind (key bigK 0 28 0 0 (by decide) (by omega) (by decide) (by decide) (fun _ => rfl) rfl (by decide) (by unfold bigK; omega)) fun r hr => .some hr) fun r hr => .some ⟨hr.1, by have := hr.2.1; show 0 ≤ r.2; omega, hr.2.2, fun _ => hr.2.1⟩
theorem pack_ok {s : Bs} (hs : s.length ≤ 1048576) : Tot (g_impl_Pack s) fun r => U32 r ∧ r.length ≤ 24 := by
  unfold g_impl_Pack
  have key : ∀ (k : Nat) (x : Bs) (out : List Int), x.length ≤ 1048576 → U32 out → (out = [] ∨ out.length + x.length ≤ 24) → x.length < k → Tot (g_impl_Pack_l0 k x out) fun r => U32 r ∧ r.length ≤ 24 := by
    intro k
    induction k with
    | zero => intro x out h0 h1 h2 h3; omega
    | succ k ih =>
      intro x out h0 h1 h2 h3
      unfold g_impl_Pack_l0
      obtain ⟨b, hb, hl⟩ := nameOk_ok h0
      have ho : out.length ≤ 24 := by
        rcases h2 with rfl | h2
        · simp
        · omega
      refine .bindE hb (.cond (fun hc => ?_) fun _ => .some ⟨h1, ho⟩)
      subst hc
      have hx := hl rfl
      have h2' : out.length + x.length ≤ 24 := by
        rcases h2 with rfl | h2
        · simpa using hx.2
        · exact h2
      refine .bind (packOne_ok h0) fun r hr => .bindE (app_eq (by simp; omega)) (.bindE (subL_drop hr.2.1 hr.2.2.1) ?_)
      have h4 := hr.2.2.2 hb
      have hd : (x.drop r.2.toNat).length = x.length - r.2.toNat := List.length_drop
      exact ih _ _ (by omega) (h1.app (.one hr.1)) (.inr (by rw [List.length_append, hd, List.length_singleton]; omega)) (by omega)
  exact .bind (key bigK s [] hs .nil (.inl rfl) (by unfold bigK; omega)) fun r hr => .some hr
end Go.Proofs.Ytkjjcpgickjidaa

namespace Go.Proofs.Ytkjjcpgickjidaa
open Go Go.Fm
set_option linter.unusedVariables false
theorem eqU_l0 {a b : List Int} (hl : a.length = b.length) (hm : a.length ≤ 1048576) : ∀ (k n : Nat), n ≤ a.length → a.length - n < k →
    g_slices_Equal_uint32_l0 a b k n = some (if a.drop n = b.drop n then .inl () else .inr ()) := by
  intro k
  induction k with
  | zero => intro n h0 h1; omega
  | succ k ih =>
    intro n h0 h1
    unfold g_slices_Equal_uint32_l0
    by_cases hn : n < a.length
    · have hn' : n < b.length := by omega
      rw [decide_eq_true (by omega), getI_nat, getI_nat, List.getElem?_eq_getElem hn, List.getElem?_eq_getElem hn', List.drop_eq_getElem_cons hn, List.drop_eq_getElem_cons hn']
      simp only [cond_true, Option.bind_some]
      by_cases he : a[n] = b[n]
      · have : (a[n] != b[n]) = false := by rw [he]; simp
        rw [this, cond_false, wI64 (by omega) (by omega), show ((n : Int) + 1) = ((n + 1 : Nat) : Int) by omega, ih (n + 1) (by omega) (by omega), he]
        simp only [List.cons.injEq, true_and]
      · have : (a[n] != b[n]) = true := by simpa using he
        rw [this, cond_true, if_neg (fun h => he (List.cons.inj h).1)]
    · rw [decide_eq_false (by omega), cond_false, List.drop_eq_nil_of_le (by omega), List.drop_eq_nil_of_le (by omega), if_pos rfl]
theorem eqU {a b : List Int} (hm : a.length ≤ 1048576) : g_slices_Equal_uint32 a b = some (decide (a = b)) := by
  unfold g_slices_Equal_uint32
  by_cases hl : a.length = b.length
  · have : ((a.length : Int) != (b.length : Int)) = false := by rw [hl]; simp
    rw [this, cond_false]
    have h := eqU_l0 hl hm bigK 0 (Nat.zero_le _) (by unfold bigK; omega)
    rw [show ((0 : Nat) : Int) = 0 from rfl] at h
    rw [h]
    by_cases he : a = b
    · simp [he]
    · simp [he]
  · have : ((a.length : Int) != (b.length : Int)) = true := by simp; omega
    rw [this, cond_true, decide_eq_false (fun h => hl (by rw [h]))]
theorem unpack_ok {l : List Int} : Tot (g_impl_Unpack l) fun r => r.1.length ≤ 168 ∧ (r.2 = true → g_impl_Pack r.1 = some l) := by
  unfold g_impl_Unpack
  refine .condD (fun _ => .some ⟨by simp, fun h => nomatch h⟩) fun hl => ?_
  have hl : l.length ≤ 24 := by omega
  have key : ∀ (k : Nat) (name : Bs) (i : Int), 0 ≤ i → i ≤ l.length → (name.length : Int) ≤ 7 * i → l.length - i < k → Tot (g_impl_Unpack_l0 l k name i) fun r => r.length ≤ 168 := by
    intro k
    induction k with
    | zero => intro name i h0 h1 h2 h3; omega
    | succ k ih =>
      intro name i h0 h1 h2 h3
      unfold g_impl_Unpack_l0
      refine .condD (fun hi => ?_) fun _ => .some (by omega)
      obtain ⟨v, hv, _⟩ := getI_ex h0 hi
      refine .bindE hv (.bind unpackOne_ok fun s hs => .bindE (catS_eq (by omega)) ?_)
      rw [wI64 (x := i + 1) (by omega) (by omega)]
      exact ih _ _ (by omega) (by omega) (by rw [List.length_append]; omega) (by omega)
  refine .bind (.bind (key bigK [] 0 (by decide) (by omega) (by decide) (by unfold bigK; omega)) fun r hr => .some hr) fun name hn => ?_
  refine .bind (Q := fun b => b = false → g_impl_Pack name = some l) (.bind (nameOk_ok (by omega)) fun b _ => .cond (fun _ => .some fun h => nomatch h) fun _ => ?_) fun b hb => .cond (fun _ => .some ⟨by simp, fun h => nomatch h⟩) fun h => .some ⟨hn, fun _ => hb h⟩
  obtain ⟨p, hp, _, hpl⟩ := pack_ok (s := name) (by omega)
  refine .bindE hp (.bindE (eqU (by omega)) (.some fun h => ?_))
  have : p = l := by simpa using h
  rw [hp, this]
/-- The tags of names, and their kinds. -/
theorem nameKind_eq {t : Int} (h : t = 1 ∨ t = 3 ∨ t = 4 ∨ t = 9 ∨ t = 10 ∨ t = 11) : ∃ k, g_impl_nameKind t = some k ∧ g_impl_nameTag k = some t ∧ k ≠ 0 := by
  rcases h with rfl | rfl | rfl | rfl | rfl | rfl
  · exact ⟨1, by kernel_rfl, by kernel_rfl, by decide⟩
  · exact ⟨2, by kernel_rfl, by kernel_rfl, by decide⟩
  · exact ⟨3, by kernel_rfl, by kernel_rfl, by decide⟩
  · exact ⟨4, by kernel_rfl, by kernel_rfl, by decide⟩
  · exact ⟨5, by kernel_rfl, by kernel_rfl, by decide⟩
  · exact ⟨6, by kernel_rfl, by kernel_rfl, by decide⟩
theorem cells_raw {v : Int} : g_impl_CellsOf ⟨0, [], 0, false, v⟩ = some [v] := by
  unfold g_impl_CellsOf
  have h0 : g_impl_nameTag 0 = some 0 := by kernel_rfl
  simp [h0]
/-- A name's cells. -/
def nameCells (t : Int) : List Int → List Int
  | [] => []
  | f :: r => (orI .u32 (IntKind.wrap .u32 (f * 16)) t) :: r.map fun f => orI .u32 (IntKind.wrap .u32 (f * 16)) 0
theorem cells_l0 {fs : List Int} (hl : fs.length ≤ 24) : ∀ (k n : Nat) (t : Int) (out : List Int), n ≤ fs.length → fs.length - n < k → out.length = n → (1 ≤ n → t = 0) →
    g_impl_CellsOf_l0 fs k t out n = some (out ++ nameCells t (fs.drop n)) := by
  intro k
  induction k with
  | zero => intro n t out h0 h1 h2 h3; omega
  | succ k ih =>
    intro n t out h0 h1 h2 h3
    unfold g_impl_CellsOf_l0
    by_cases hn : n < fs.length
    · rw [decide_eq_true (by omega), getI_nat, List.getElem?_eq_getElem hn, List.drop_eq_getElem_cons hn]
      simp only [cond_true, Option.bind_some]
      rw [app_eq (by simp; omega), Option.bind_some, wI64 (by omega) (by omega), show ((n : Int) + 1) = ((n + 1 : Nat) : Int) by omega, ih (n + 1) 0 _ (by omega) (by omega) (by simp [h2]) (fun _ => rfl)]
      congr 1
      rw [List.append_assoc]
      congr 1
      simp only [nameCells, List.singleton_append]
      congr 1
      cases fs.drop (n + 1) with
      | nil => rfl
      | cons x r => rfl
    · rw [decide_eq_false (by omega), cond_false, List.drop_eq_nil_of_le (by omega)]
      simp [nameCells]
theorem cells_name {kd t : Int} {name : Bs} {fs : List Int} (ht : g_impl_nameTag kd = some t) (h0 : 0 < t) (hp : g_impl_Pack name = some fs) (hl : fs.length ≤ 24) :
    g_impl_CellsOf ⟨kd, name, 0, false, 0⟩ = some (nameCells t fs) := by
  unfold g_impl_CellsOf
  have := cells_l0 hl bigK 0 t [] (Nat.zero_le _) (by unfold bigK; omega) rfl (fun h => by omega)
  simp only [Int.natCast_zero, List.drop_zero, List.nil_append] at this
  simp [ht, hp, h0, this]
theorem cells_7 {n : Int} {hex : Bool} : g_impl_CellsOf ⟨7, [], n, hex, 0⟩ = g_impl_numberCells n hex 8 2 := by
  unfold g_impl_CellsOf
  have h0 : g_impl_nameTag 7 = some 0 := by kernel_rfl
  simp [h0]
  cases g_impl_numberCells n hex 8 2 <;> rfl
theorem cells_8 {n : Int} {hex : Bool} : g_impl_CellsOf ⟨8, [], n, hex, 0⟩ = g_impl_numberCells n hex 6 5 := by
  unfold g_impl_CellsOf
  have h0 : g_impl_nameTag 8 = some 0 := by kernel_rfl
  simp [h0]
  cases g_impl_numberCells n hex 6 5 <;> rfl
theorem cells_9 {n f : Int} {name : Bs} (hp : g_impl_Pack name = some [f]) : g_impl_CellsOf ⟨9, name, n, false, 0⟩ = some [orI .u32 (IntKind.wrap .u32 (f * 16)) 12, IntKind.wrap .u32 n] := by
  unfold g_impl_CellsOf
  have h0 : g_impl_nameTag 9 = some 0 := by kernel_rfl
  have h1 : getI [f] 0 = some f := rfl
  simp [h0, hp, h1]
theorem num_ok {n : Int} {hex : Bool} {s l : Int} : Tot (g_impl_numberCells n hex s l) fun r => U32 r ∧ r.length ≤ 2 := by
  unfold g_impl_numberCells
  refine .bind (Q := fun _ => True) (.cond (fun _ => .some trivial) fun _ => .some trivial) fun a _ => .bind (Q := fun _ => True) (.condD (fun _ => .some trivial) fun _ => .some trivial) fun b _ => .cond (fun _ => .some ⟨.one (wU32_bd _), by simp⟩) fun _ => .some ⟨?_, by simp⟩
  exact (U32.one (wU32_bd _)).app (.one (wU32_bd _))
end Go.Proofs.Ytkjjcpgickjidaa

namespace Go.Proofs.Ytkjjcpgickjidaa
open Go Go.Fm
set_option linter.unusedVariables false
def runP (c : Int) : Bool := c != 0 && c % 16 == 0
theorem scan_l0 {tl : List Int} (hu : U32 tl) (hl : tl.length ≤ 64) : ∀ (k n : Nat) (fields : List Int), n ≤ tl.length → tl.length - n < k → fields.length + (tl.length - n) ≤ 65 →
    g_impl_parseOne_l0 tl k fields n = some (fields ++ ((tl.drop n).takeWhile runP).map (· / 16)) := by
  intro k
  induction k with
  | zero => intro n fields h0 h1; omega
  | succ k ih =>
    intro n fields h0 h1 h2
    unfold g_impl_parseOne_l0
    by_cases hn : n < tl.length
    · have hx := hu tl[n] (List.getElem_mem hn)
      rw [decide_eq_true (by omega), getI_nat, List.getElem?_eq_getElem hn, List.drop_eq_getElem_cons hn]
      simp only [cond_true, Option.bind_some]
      rw [and15 hx.1 hx.2]
      have hc : (cond (tl[n] == 0) (some true) (some (tl[n] % 16 != 0)) : Option Bool) = some (!runP tl[n]) := by
        have h : ∀ a b : Bool, (cond a (some true) (some (!b)) : Option Bool) = some (!(!a && b)) := by decide
        exact h _ _
      rw [hc, Option.bind_some]
      cases hr : runP tl[n] with
      | true =>
        simp only [Bool.not_true, cond_false]
        rw [app_eq (by simp; omega), Option.bind_some, wI64 (by omega) (by omega), show ((n : Int) + 1) = ((n + 1 : Nat) : Int) by omega, ih (n + 1) _ (by omega) (by omega) (by simp; omega), List.takeWhile_cons, hr]
        simp
      | false =>
        simp only [Bool.not_false, cond_true]
        rw [List.takeWhile_cons, hr]
        simp
    · rw [decide_eq_false (by omega), cond_false, List.drop_eq_nil_of_le (by omega)]
      simp
def isName (t : Int) : Bool := t == 1 || (t == 3 || (t == 4 || (t == 9 || (t == 10 || t == 11))))
theorem chain (t : Int) : (cond (t == 1) (some (t == 1)) (cond (t == 3) (some (t == 3)) (cond (t == 4) (some (t == 4)) (cond (t == 9) (some (t == 9)) (cond (t == 10) (some (t == 10)) (some (t == 11)))))) : Option Bool) = some (isName t) := by
  unfold isName
  cases t == 1 <;> cases t == 3 <;> cases t == 4 <;> cases t == 9 <;> cases t == 10 <;> rfl
theorem chain2 (t : Int) : (cond (t == 2) (some (t == 2)) (some (t == 5)) : Option Bool) = some (t == 2 || t == 5) := by cases t == 2 <;> rfl
def raw (v : Int) : GItem := ⟨0, [], 0, false, v⟩
def lng (v w : Int) : GItem := cond (v % 16 == 5) ⟨8, [], IntKind.wrap .i32 w, andI .u32 v 16 != 0, 0⟩ ⟨7, [], IntKind.wrap .i32 w, andI .u32 v 16 != 0, 0⟩
/-- An item by its first cell, the cells that go on with a name, and the next cell. -/
def pm (v : Int) (run : List Int) (nx : Option Int) : Option GItem :=
  cond (isName (v % 16)) ((g_impl_Unpack (v / 16 :: run.map (· / 16))).bind fun y => cond y.2 ((g_impl_nameKind (v % 16)).bind fun k => some ⟨k, y.1, 0, false, 0⟩) (some (raw v)))
  (cond (v % 16 == 8) (some ⟨7, [], IntKind.wrap .i32 v / 32, andI .u32 v 16 != 0, 0⟩) (cond (v % 16 == 6) (some ⟨8, [], IntKind.wrap .i32 v / 32, andI .u32 v 16 != 0, 0⟩)
  (cond (v % 16 == 2 || v % 16 == 5) (match nx with
    | none => some (raw v)
    | some w => (g_impl_CellsOf (lng v w)).bind fun y => cond (decide (y = [v, w])) (some (lng v w)) (some (raw v)))
  (cond (v % 16 == 12) (match nx with
    | none => some (raw v)
    | some w => (g_impl_FieldOk (v / 16)).bind fun b => cond b ((g_impl_UnpackOne (v / 16)).bind fun nm => some ⟨9, nm, IntKind.wrap .i32 w, false, 0⟩) (some (raw v))) (some (raw v))))))
theorem lng_cells {v w : Int} : Tot (g_impl_CellsOf (lng v w)) fun r => U32 r ∧ r.length ≤ 2 := by
  unfold lng
  cases v % 16 == 5
  · rw [cond_false, cells_7]; exact num_ok
  · rw [cond_true, cells_8]; exact num_ok
theorem parse_pm {v : Int} {tl : List Int} (hu : U32 (v :: tl)) (hl : (v :: tl).length ≤ 64) : g_impl_parseOne (v :: tl) = pm v (tl.takeWhile runP) tl.head? := by
  have hv := hu v (List.mem_cons_self ..)
  have hut : U32 tl := fun x hx => hu x (List.mem_cons_of_mem _ hx)
  have hlt : tl.length ≤ 63 := by simp at hl; omega
  have e0 : getI (v :: tl) 0 = some v := rfl
  unfold g_impl_parseOne pm
  rw [e0]
  simp only [Option.bind_some, and15 hv.1 hv.2, chain, chain2]
  cases isName (v % 16) with
  | true =>
    simp only [cond_true]
    have hs := scan_l0 hut (by omega) bigK 0 [v / 16] (Nat.zero_le _) (by unfold bigK; omega) (by simp; omega)
    simp only [Int.natCast_zero, List.drop_zero, List.singleton_append] at hs
    rw [subL_drop (by decide) (by simp; omega), Option.bind_some, show List.drop (Int.toNat 1) (v :: tl) = tl from rfl, hs]
    simp only [Option.bind_some]
    cases g_impl_Unpack (v / 16 :: List.map (· / 16) (tl.takeWhile runP)) with
    | none => rfl
    | some y =>
      simp only [Option.bind_some]
      cases y.2 with
      | true =>
        simp only [cond_true]
        cases g_impl_nameKind (v % 16) <;> rfl
      | false => rfl
  | false =>
    simp only [cond_false]
    cases v % 16 == 8 with
    | true => rfl
    | false =>
      simp only [cond_false]
      cases v % 16 == 6 with
      | true => rfl
      | false =>
        simp only [cond_false]
        cases h25 : (v % 16 == 2 || v % 16 == 5) with
        | true =>
          simp only [cond_true]
          cases tl with
          | nil => rfl
          | cons w tl =>
            have e1 : getI (v :: w :: tl) 1 = some w := rfl
            have e2 : decide ((((v :: w :: tl).length : Nat) : Int) < 2) = false := decide_eq_false (by simp; omega)
            have e3 : (cond (v % 16 == 5) (some (⟨8, [], IntKind.wrap .i32 w, andI .u32 v 16 != 0, 0⟩ : GItem)) (some ⟨7, [], IntKind.wrap .i32 w, andI .u32 v 16 != 0, 0⟩)) = some (lng v w) := by
              unfold lng; cases v % 16 == 5 <;> rfl
            obtain ⟨cs, hcs, hcu, hcl⟩ := lng_cells (v := v) (w := w)
            rw [e2, e1]
            simp only [cond_false, Option.bind_some, e3, hcs, List.head?_cons]
            rw [subL_take (by decide) (by simp; omega)]
            simp only [Option.bind_some]
            rw [eqU (by omega), show List.take (Int.toNat 2) (v :: w :: tl) = [v, w] from rfl]
            simp only [Option.bind_some]
            cases decide (cs = [v, w]) <;> rfl
        | false =>
          simp only [cond_false]
          cases v % 16 == 12 with
          | false => rfl
          | true =>
            simp only [cond_true]
            cases tl with
            | nil => rfl
            | cons w tl =>
              have e1 : getI (v :: w :: tl) 1 = some w := rfl
              have e2 : decide ((((v :: w :: tl).length : Nat) : Int) > 1) = true := decide_eq_true (by simp; omega)
              rw [e2, e1]
              simp only [cond_true, List.head?_cons, Option.bind_some]
              cases g_impl_FieldOk (v / 16) with
              | none => rfl
              | some b =>
                simp only [Option.bind_some]
                cases b with
                | false => rfl
                | true =>
                  simp only [cond_true]
                  cases g_impl_UnpackOne (v / 16) <;> rfl
end Go.Proofs.Ytkjjcpgickjidaa

namespace Go.Proofs.Ytkjjcpgickjidaa
open Go Go.Fm
set_option linter.unusedVariables false
theorem runP_iff {c : Int} : runP c = true ↔ c ≠ 0 ∧ c % 16 = 0 := by unfold runP; simp
theorem nameCells_back {v : Int} {run : List Int} (hv : 0 ≤ v ∧ v < 4294967296) (hr : ∀ c ∈ run, (0 ≤ c ∧ c < 4294967296) ∧ runP c = true) :
    nameCells (v % 16) (v / 16 :: run.map (· / 16)) = v :: run := by
  show orI .u32 (IntKind.wrap .u32 (v / 16 * 16)) (v % 16) :: (run.map (· / 16)).map (fun f => orI .u32 (IntKind.wrap .u32 (f * 16)) 0) = v :: run
  rw [or16 (by omega) (by omega) (by omega) (by omega), show v / 16 * 16 + v % 16 = v by omega, List.map_map]
  congr 1
  conv => rhs; rw [← List.map_id run]
  refine List.map_congr_left fun c hc => ?_
  obtain ⟨h1, h2⟩ := hr c hc
  have h3 := runP_iff.1 h2
  show orI .u32 (IntKind.wrap .u32 (c / 16 * 16)) 0 = c
  rw [or16 (by omega) (by omega) (by decide) (by decide)]
  omega
theorem short_back {v t : Int} (hv : 0 ≤ v ∧ v < 4294967296) (ht : v % 16 = t) (l : Int) :
    g_impl_numberCells (IntKind.wrap .i32 v / 32) (andI .u32 v 16 != 0) t l = some [v] := by
  unfold g_impl_numberCells
  have hN : IntKind.wrap .i32 v = if v < 2147483648 then v else v - 4294967296 := by
    simp [IntKind.wrap, IntKind.bits, IntKind.signed]; omega
  rw [and16 hv.1 hv.2]
  have hb : (cond (decide (v / 16 % 2 = 1)) (some 16) (some 0) : Option Int) = some (v / 16 % 2 * 16) := by
    by_cases h : v / 16 % 2 = 1
    · simp [h]
    · have : v / 16 % 2 = 0 := by omega
      simp [this]
  rw [hb]
  have h1 : IntKind.wrap .i32 v / 32 ≥ -67108864 := by rw [hN]; split <;> omega
  have h2 : IntKind.wrap .i32 v / 32 ≤ 67108863 := by rw [hN]; split <;> omega
  have h3 : IntKind.wrap .u32 (IntKind.wrap .u32 (IntKind.wrap .i32 v / 32) * 32) = v / 32 * 32 := by
    rw [hN]
    simp [IntKind.wrap, IntKind.bits, IntKind.signed]
    split <;> omega
  simp only [Option.bind_some, h1, h2, decide_true, cond_true]
  rw [h3, orU (a := v / 32 * 32) (by omega) (by omega) (by omega) (by omega)]
  have e1 : (v / 32 * 32).toNat ||| (v / 16 % 2 * 16).toNat = 32 * (v.toNat / 32) + v.toNat / 16 % 2 * 16 := by
    rw [show (v / 32 * 32).toNat = 2 ^ 5 * (v.toNat / 32) by omega, show (v / 16 % 2 * 16).toNat = v.toNat / 16 % 2 * 16 by omega, or_low 5 (by omega)]
  rw [e1, orU (by omega) (by omega) (by omega) (by omega)]
  have e2 : ((32 * (v.toNat / 32) + v.toNat / 16 % 2 * 16 : Nat) : Int).toNat ||| t.toNat = v.toNat := by
    rw [Int.toNat_natCast, show 32 * (v.toNat / 32) + v.toNat / 16 % 2 * 16 = 2 ^ 4 * (v.toNat / 16) by omega, or_low 4 (by omega)]
    omega
  rw [e2, Int.toNat_of_nonneg hv.1]
theorem field_ok {f : Int} : Tot (g_impl_FieldOk f) fun b => b = true → ∃ nm, g_impl_UnpackOne f = some nm ∧ nm.length ≤ 7 ∧ g_impl_Pack nm = some [f] := by
  unfold g_impl_FieldOk
  obtain ⟨nm, hnm, hl⟩ := unpackOne_ok (f := f)
  obtain ⟨p, hp, _, hpl⟩ := pack_ok (s := nm) (by omega)
  rw [hnm]
  refine .bindE rfl (.bindE hp (.bindE (eqU (by omega)) (.some fun h => ⟨nm, rfl, hl, ?_⟩)))
  rw [hp, of_decide_eq_true h]
theorem pm_ok {v : Int} {run : List Int} {nx : Option Int} (hv : 0 ≤ v ∧ v < 4294967296) (hr : ∀ c ∈ run, (0 ≤ c ∧ c < 4294967296) ∧ runP c = true) (hn : ∀ w, nx = some w → 0 ≤ w ∧ w < 4294967296) :
    ∃ it cs, pm v run nx = some it ∧ g_impl_CellsOf it = some cs ∧ it.Name.length ≤ 168 ∧
      ((cs = v :: run ∧ ∀ nx', pm v run nx' = some it) ∨ (cs = [v] ∧ ∀ nx', nx' = nx ∨ nx' = none → pm v run nx' = some it) ∨ (∃ w, nx = some w ∧ cs = [v, w])) := by
  have hraw : g_impl_CellsOf (raw v) = some [v] := cells_raw
  have hrl : (raw v).Name.length ≤ 168 := by show ([] : Bs).length ≤ 168; simp
  cases h1 : isName (v % 16) with
  | true =>
    obtain ⟨y, hy, hyl, hyp⟩ := unpack_ok (l := v / 16 :: run.map (· / 16))
    cases h2 : y.2 with
    | false =>
      have e : ∀ nx', pm v run nx' = some (raw v) := fun nx' => by unfold pm; rw [h1, cond_true, hy, Option.bind_some, h2, cond_false]
      exact ⟨raw v, [v], e nx, hraw, hrl, .inr (.inl ⟨rfl, fun nx' _ => e nx'⟩)⟩
    | true =>
      have ht : v % 16 = 1 ∨ v % 16 = 3 ∨ v % 16 = 4 ∨ v % 16 = 9 ∨ v % 16 = 10 ∨ v % 16 = 11 := by simpa [isName] using h1
      obtain ⟨k, hk, hkt, _⟩ := nameKind_eq ht
      have e : ∀ nx', pm v run nx' = some ⟨k, y.1, 0, false, 0⟩ := fun nx' => by unfold pm; rw [h1, cond_true, hy, Option.bind_some, h2, cond_true, hk, Option.bind_some]
      have hp := hyp h2
      obtain ⟨p, hp', _, hpl⟩ := pack_ok (s := y.1) (by omega)
      rw [hp] at hp'
      cases hp'
      refine ⟨_, _, e nx, cells_name hkt (by omega) hp hpl, hyl, .inl ⟨nameCells_back hv hr, e⟩⟩
  | false =>
    by_cases h8 : v % 16 = 8
    · have e : ∀ nx', pm v run nx' = some ⟨7, [], IntKind.wrap .i32 v / 32, andI .u32 v 16 != 0, 0⟩ := fun nx' => by unfold pm; rw [h1, cond_false, h8]; rfl
      exact ⟨_, [v], e nx, by rw [cells_7]; exact short_back hv h8 2, by simp, .inr (.inl ⟨rfl, fun nx' _ => e nx'⟩)⟩
    by_cases h6 : v % 16 = 6
    · have e : ∀ nx', pm v run nx' = some ⟨8, [], IntKind.wrap .i32 v / 32, andI .u32 v 16 != 0, 0⟩ := fun nx' => by unfold pm; rw [h1, cond_false, h6]; rfl
      exact ⟨_, [v], e nx, by rw [cells_8]; exact short_back hv h6 5, by simp, .inr (.inl ⟨rfl, fun nx' _ => e nx'⟩)⟩
    have b8 : (v % 16 == 8) = false := by simpa using h8
    have b6 : (v % 16 == 6) = false := by simpa using h6
    cases h25 : (v % 16 == 2 || v % 16 == 5) with
    | true =>
      have e0 : pm v run none = some (raw v) := by unfold pm; rw [h1, cond_false, b8, cond_false, b6, cond_false, h25, cond_true]
      cases nx with
      | none => exact ⟨raw v, [v], e0, hraw, hrl, .inr (.inl ⟨rfl, fun nx' h => by rcases h with rfl | rfl <;> exact e0⟩)⟩
      | some w =>
        obtain ⟨cs, hcs, _, hcl⟩ := lng_cells (v := v) (w := w)
        have e1 : pm v run (some w) = cond (decide (cs = [v, w])) (some (lng v w)) (some (raw v)) := by
          unfold pm; rw [h1, cond_false, b8, cond_false, b6, cond_false, h25, cond_true]
          simp only [hcs, Option.bind_some]
        by_cases hc : cs = [v, w]
        · rw [decide_eq_true hc, cond_true] at e1
          refine ⟨_, _, e1, hcs, ?_, .inr (.inr ⟨w, rfl, hc⟩)⟩
          unfold lng
          cases v % 16 == 5 <;> simp
        · rw [decide_eq_false hc, cond_false] at e1
          exact ⟨raw v, [v], e1, hraw, hrl, .inr (.inl ⟨rfl, fun nx' h => by rcases h with rfl | rfl; exact e1; exact e0⟩)⟩
    | false =>
      cases h12 : v % 16 == 12 with
      | false =>
        have e : ∀ nx', pm v run nx' = some (raw v) := fun nx' => by unfold pm; rw [h1, cond_false, b8, cond_false, b6, cond_false, h25, cond_false, h12, cond_false]
        exact ⟨raw v, [v], e nx, hraw, hrl, .inr (.inl ⟨rfl, fun nx' _ => e nx'⟩)⟩
      | true =>
        have e0 : pm v run none = some (raw v) := by unfold pm; rw [h1, cond_false, b8, cond_false, b6, cond_false, h25, cond_false, h12, cond_true]
        cases nx with
        | none => exact ⟨raw v, [v], e0, hraw, hrl, .inr (.inl ⟨rfl, fun nx' h => by rcases h with rfl | rfl <;> exact e0⟩)⟩
        | some w =>
          obtain ⟨b, hb, hbf⟩ := field_ok (f := v / 16)
          have e1 : pm v run (some w) = cond b ((g_impl_UnpackOne (v / 16)).bind fun nm => some ⟨9, nm, IntKind.wrap .i32 w, false, 0⟩) (some (raw v)) := by
            unfold pm; rw [h1, cond_false, b8, cond_false, b6, cond_false, h25, cond_false, h12, cond_true]
            simp only [hb, Option.bind_some]
          cases b with
          | false => exact ⟨raw v, [v], e1, hraw, hrl, .inr (.inl ⟨rfl, fun nx' h => by rcases h with rfl | rfl; exact e1; exact e0⟩)⟩
          | true =>
            obtain ⟨nm, h2, h3, h4⟩ := hbf rfl
            rw [cond_true, h2, Option.bind_some] at e1
            have ht : v % 16 = 12 := by simpa using h12
            have hw := hn w rfl
            refine ⟨_, _, e1, cells_9 h4, by show nm.length ≤ 168; omega, .inr (.inr ⟨w, rfl, ?_⟩)⟩
            rw [or16 (by omega) (by omega) (by decide) (by decide)]
            have : IntKind.wrap .u32 (IntKind.wrap .i32 w) = w := by
              simp [IntKind.wrap, IntKind.bits, IntKind.signed]; split <;> omega
            rw [this, show v / 16 * 16 + 12 = v by omega]
/-- What is parsed stands at the beginning of the cells; noughts behind them change nothing. -/
theorem parse_ok {v : Int} {tl : List Int} (hu : U32 (v :: tl)) (hl : (v :: tl).length ≤ 64) :
    ∃ it cs, g_impl_parseOne (v :: tl) = some it ∧ g_impl_CellsOf it = some cs ∧ it.Name.length ≤ 168 ∧ 1 ≤ cs.length ∧ (∃ rest, v :: tl = cs ++ rest) ∧
      (∀ tl' z, tl = tl' ++ List.replicate z 0 → cs.length ≤ (v :: tl').length → g_impl_parseOne (v :: tl') = some it) := by
  have hv := hu v (List.mem_cons_self ..)
  have hut : U32 tl := fun x hx => hu x (List.mem_cons_of_mem _ hx)
  obtain ⟨it, cs, h1, h2, h3, h4⟩ := pm_ok (v := v) (run := tl.takeWhile runP) (nx := tl.head?) hv
    (fun c hc => ⟨hut c ((List.takeWhile_sublist runP).subset hc), by have := List.all_takeWhile (p := runP) (l := tl); exact List.all_eq_true.1 this c hc⟩)
    (fun w hw => hut w (List.mem_of_mem_head? hw))
  refine ⟨it, cs, by rw [parse_pm hu hl]; exact h1, h2, h3, ?_, ?_, fun tl' z hz hc => ?_⟩
  · rcases h4 with ⟨rfl, _⟩ | ⟨rfl, _⟩ | ⟨w, _, rfl⟩ <;> simp
  · rcases h4 with ⟨rfl, _⟩ | ⟨rfl, _⟩ | ⟨w, hw, rfl⟩
    · exact ⟨tl.dropWhile runP, by rw [List.cons_append, List.takeWhile_append_dropWhile]⟩
    · exact ⟨tl, rfl⟩
    · cases tl with
      | nil => cases hw
      | cons x r => simp at hw; subst hw; exact ⟨r, rfl⟩
  · have hu' : U32 (v :: tl') := fun x hx => hu x (by
      rw [hz]
      rcases List.mem_cons.1 hx with rfl | hx
      · exact List.mem_cons_self ..
      · exact List.mem_cons_of_mem _ (List.mem_append_left _ hx))
    have hl' : (v :: tl').length ≤ 64 := by rw [hz] at hl; simp at hl ⊢; omega
    have htw : tl.takeWhile runP = tl'.takeWhile runP := by
      rw [hz, List.takeWhile_append]
      split
      · rename_i he
        have : (List.replicate z (0 : Int)).takeWhile runP = [] := by
          cases z with
          | zero => rfl
          | succ z => rw [List.replicate_succ, List.takeWhile_cons]; rfl
        rw [this, List.append_nil]
        exact (List.takeWhile_sublist runP).eq_of_length he |>.symm
      · rfl
    rw [parse_pm hu' hl', ← htw]
    rcases h4 with ⟨rfl, g⟩ | ⟨rfl, g⟩ | ⟨w, hw, rfl⟩
    · exact g _
    · refine g _ ?_
      cases tl' with
      | nil => exact .inr rfl
      | cons x r => left; rw [hz]; rfl
    · cases tl' with
      | nil => simp at hc
      | cons x r =>
        have : tl.head? = (x :: r).head? := by rw [hz]; rfl
        rw [← this]
        exact h1
end Go.Proofs.Ytkjjcpgickjidaa

namespace Go.Proofs.Ytkjjcpgickjidaa
open Go Go.Fm
set_option linter.unusedVariables false
inductive Parses : List Int → List GItem → Prop where
  | nil : Parses [] []
  | cons {cells rest cs : List Int} {it : GItem} {its : List GItem} (h1 : g_impl_parseOne cells = some it) (h2 : g_impl_CellsOf it = some cs) (h3 : 1 ≤ cs.length) (h4 : cells = cs ++ rest) (h5 : Parses rest its) : Parses cells (it :: its)
theorem parses_ex : ∀ (n : Nat) (cells : List Int), cells.length ≤ n → U32 cells → cells.length ≤ 64 → ∃ its, Parses cells its := by
  intro n
  induction n with
  | zero => intro cells h _ _; cases cells with
    | nil => exact ⟨[], .nil⟩
    | cons v tl => simp at h
  | succ n ih =>
    intro cells h hu hl
    cases cells with
    | nil => exact ⟨[], .nil⟩
    | cons v tl =>
      obtain ⟨it, cs, h1, h2, h3, h4, ⟨rest, h5⟩, _⟩ := parse_ok hu hl
      have hlen : (v :: tl).length = cs.length + rest.length := by rw [h5, List.length_append]
      obtain ⟨its, h6⟩ := ih rest (by omega) (fun x hx => hu x (by rw [h5]; exact List.mem_append_right _ hx)) (by omega)
      exact ⟨it :: its, .cons h1 h2 h4 h5 h6⟩
theorem Parses.len {cells : List Int} {its : List GItem} (h : Parses cells its) : its.length ≤ cells.length := by
  induction h with
  | nil => exact Nat.le_refl _
  | cons h1 h2 h3 h4 h5 ih => rw [h4, List.length_append, List.length_cons]; omega
theorem parse_l0 : ∀ (k : Nat) (cells : List Int) (out its : List GItem), Parses cells its → cells.length < k → out.length + cells.length ≤ 64 → g_impl_ParseCells_l0 k cells out = some (out ++ its) := by
  intro k
  induction k with
  | zero => intro cells out its hp h; omega
  | succ k ih =>
    intro cells out its hp h hl
    unfold g_impl_ParseCells_l0
    cases hp with
    | nil => simp
    | cons h1 h2 h3 h4 h5 =>
      rename_i rest cs it its'
      have hlen : cells.length = cs.length + rest.length := by rw [h4, List.length_append]
      rw [decide_eq_true (by omega), cond_true, h1, Option.bind_some, app_eq (by simp; omega), Option.bind_some, h2, Option.bind_some, subL_drop (by omega) (by omega), Option.bind_some]
      have hd : cells.drop ((cs.length : Int)).toNat = rest := by rw [h4, Int.toNat_natCast, List.drop_left]
      rw [hd, ih rest _ _ h5 (by omega) (by simp; omega), List.append_assoc]
      rfl
def rz : GItem := raw 0
theorem isRz (v : GItem) : ((v.Kind : Int) == 0 && ((v.Name : Bs) == [] && ((v.N : Int) == 0 && ((v.Hex : Bool) == false && ((v.Raw : Int) == 0 && true))))) = decide (v = rz) := by
  obtain ⟨a, b, c, d, e⟩ := v
  rw [Bool.eq_iff_iff]
  simp [rz, raw]
theorem strip_l1 : ∀ (k : Nat) (out : List GItem), out.length < k → out.length ≤ 64 → ∃ its z, out = its ++ List.replicate z rz ∧ (∀ x, its ≠ x ++ [rz]) ∧ g_impl_ParseCells_l1 k out ((out.length : Int) - 1) = some its := by
  intro k
  induction k with
  | zero => intro out h; omega
  | succ k ih =>
    intro out h hl
    unfold g_impl_ParseCells_l1
    rcases List.eq_nil_or_concat out with rfl | ⟨xs, x, rfl⟩
    · exact ⟨[], 0, rfl, by simp, rfl⟩
    · simp only [List.concat_eq_append] at *
      have hlen : (xs ++ [x]).length = xs.length + 1 := by simp
      rw [decide_eq_true (by omega), cond_true, show (((xs ++ [x]).length : Nat) : Int) - 1 = ((xs.length : Nat) : Int) by omega, getI_nat, List.getElem?_concat_length]
      simp only [Option.bind_some, isRz]
      by_cases hx : x = rz
      · rw [decide_eq_true hx, cond_true, subL_take (by omega) (by omega), Option.bind_some, Int.toNat_natCast, List.take_left, wI64 (by omega) (by omega)]
        obtain ⟨its, z, h1, h2, h3⟩ := ih xs (by omega) (by omega)
        refine ⟨its, z + 1, ?_, h2, h3⟩
        rw [hx, h1, List.append_assoc, ← List.replicate_succ']
      · rw [decide_eq_false hx, cond_false]
        refine ⟨xs ++ [x], 0, by simp, fun y hy => hx ?_, rfl⟩
        have := List.append_inj' hy rfl
        simpa using this.2
theorem parses_zero : ∀ (z : Nat) (cells : List Int), Parses cells (List.replicate z rz) → cells = List.replicate z 0
  | 0, cells, h => by cases h; rfl
  | z + 1, cells, h => by
    rw [List.replicate_succ] at h
    cases h with
    | cons h1 h2 h3 h4 h5 =>
      have : g_impl_CellsOf rz = some [0] := cells_raw
      rw [this] at h2
      cases h2
      rw [h4, parses_zero z _ h5, List.replicate_succ]; rfl
theorem parses_cut : ∀ (its : List GItem) (z : Nat) (cells : List Int), U32 cells → cells.length ≤ 64 → Parses cells (its ++ List.replicate z rz) → ∃ cells', cells = cells' ++ List.replicate z 0 ∧ Parses cells' its
  | [], z, cells, _, _, h => ⟨[], parses_zero z cells h, .nil⟩
  | it :: its, z, cells, hu, hl, h => by
    rw [List.cons_append] at h
    cases h with
    | cons h1 h2 h3 h4 h5 =>
      rename_i rest cs
      have hlen : cells.length = cs.length + rest.length := by rw [h4, List.length_append]
      obtain ⟨rest', e1, e2⟩ := parses_cut its z rest (fun x hx => hu x (by rw [h4]; exact List.mem_append_right _ hx)) (by omega) h5
      match cs, h3 with
      | v :: ct, _ =>
        have hc : cells = v :: (ct ++ rest) := h4
        rw [hc] at hu hl h1
        obtain ⟨it1, cs1, g1, g2, _, _, _, g6⟩ := parse_ok hu hl
        rw [h1] at g1
        cases g1
        rw [h2] at g2
        cases g2
        refine ⟨(v :: ct) ++ rest', by rw [h4, e1, List.append_assoc], .cons (g6 (ct ++ rest') z (by rw [e1, List.append_assoc]) (by simp)) h2 (by simp) rfl e2⟩
theorem parseCells_ok {cells : List Int} (hu : U32 cells) (hl : cells.length ≤ 64) : ∃ its cells' z, g_impl_ParseCells cells = some its ∧ cells = cells' ++ List.replicate z 0 ∧ Parses cells' its ∧ (∀ x, its ≠ x ++ [rz]) := by
  obtain ⟨all, hp⟩ := parses_ex _ cells (Nat.le_refl _) hu hl
  have hlen := hp.len
  obtain ⟨its, z, h1, h2, h3⟩ := strip_l1 bigK all (by unfold bigK; omega) (by omega)
  have hp2 := hp
  rw [h1] at hp2
  obtain ⟨cells', e1, e2⟩ := parses_cut its z cells hu hl hp2
  refine ⟨its, cells', z, ?_, e1, e2, h2⟩
  unfold g_impl_ParseCells
  rw [decide_eq_false (by omega), cond_false, parse_l0 bigK cells [] all hp (by unfold bigK; omega) (by simpa using hl), Option.bind_some, List.nil_append, wI64 (by omega) (by omega), h3]
  rfl
theorem parseCells_same {cells : List Int} {its : List GItem} (hl : cells.length ≤ 64) (hp : Parses cells its) (hn : ∀ x, its ≠ x ++ [rz]) : g_impl_ParseCells cells = some its := by
  have hlen := hp.len
  obtain ⟨its', z, h1, h2, h3⟩ := strip_l1 bigK its (by unfold bigK; omega) (by omega)
  have hz : z = 0 := by
    cases z with
    | zero => rfl
    | succ z =>
      rw [List.replicate_succ', ← List.append_assoc] at h1
      exact absurd h1 (hn _)
  subst hz
  simp only [List.replicate_zero, List.append_nil] at h1
  subst h1
  unfold g_impl_ParseCells
  rw [decide_eq_false (by omega), cond_false, parse_l0 bigK cells [] its hp (by unfold bigK; omega) (by simpa using hl), Option.bind_some, List.nil_append, wI64 (by omega) (by omega), h3]
  rfl
theorem unparse_l0 {its : List GItem} (hi : its.length ≤ 64) : ∀ (k n : Nat) (out rest : List Int), Parses rest (its.drop n) → n ≤ its.length → its.length - n < k → out.length + rest.length ≤ 64 →
    g_impl_Unparse_l0 its k out n = some (.inl (out ++ rest)) := by
  intro k
  induction k with
  | zero => intro n out rest hp h0 h1; omega
  | succ k ih =>
    intro n out rest hp h0 h1 h2
    unfold g_impl_Unparse_l0
    by_cases hn : n < its.length
    · rw [List.drop_eq_getElem_cons hn] at hp
      cases hp with
      | cons g1 g2 g3 g4 g5 =>
        rename_i rest' cs
        have hlen : rest.length = cs.length + rest'.length := by rw [g4, List.length_append]
        rw [decide_eq_true (by omega), cond_true, getI_nat, List.getElem?_eq_getElem hn, Option.bind_some, g2, Option.bind_some, app_eq (by omega), Option.bind_some]
        have e1 : ((cs.length : Int) == 0) = false := by simp; intro h; rw [h] at g3; simp at g3
        have e2 : decide ((((out ++ cs).length : Nat) : Int) > 64) = false := decide_eq_false (by rw [List.length_append]; omega)
        rw [e1, e2]
        simp only [cond_false, Option.bind_some]
        rw [wI64 (by omega) (by omega), show ((n : Int) + 1) = ((n + 1 : Nat) : Int) by omega, ih (n + 1) (out ++ cs) rest' g5 (by omega) (by omega) (by rw [List.length_append]; omega), g4, List.append_assoc]
    · rw [List.drop_eq_nil_of_le (by omega)] at hp
      cases hp
      rw [decide_eq_false (by omega), cond_false, List.append_nil]
theorem unparse_ok {cells : List Int} {its : List GItem} (hl : cells.length ≤ 64) (hp : Parses cells its) : g_impl_Unparse its = some (cells, true) := by
  have hlen := hp.len
  have := unparse_l0 (its := its) (by omega) bigK 0 [] cells hp (Nat.zero_le _) (by unfold bigK; omega) (by simpa using hl)
  simp only [Int.natCast_zero, List.nil_append] at this
  unfold g_impl_Unparse
  rw [this]
  rfl
theorem itemEq (v : GItem) : ((v.Kind : Int) == v.Kind && ((v.Name : Bs) == v.Name && ((v.N : Int) == v.N && ((v.Hex : Bool) == v.Hex && ((v.Raw : Int) == v.Raw && true))))) = true := by simp
theorem eqItem_l0 {a : List GItem} (hm : a.length ≤ 64) : ∀ (k n : Nat), n ≤ a.length → a.length - n < k → g_slices_Equal_Item_l0 a a k n = some (.inl ()) := by
  intro k
  induction k with
  | zero => intro n h0 h1; omega
  | succ k ih =>
    intro n h0 h1
    unfold g_slices_Equal_Item_l0
    by_cases hn : n < a.length
    · rw [decide_eq_true (by omega), cond_true, getI_nat, List.getElem?_eq_getElem hn]
      simp only [Option.bind_some, itemEq, Bool.not_true, cond_false]
      rw [wI64 (by omega) (by omega), show ((n : Int) + 1) = ((n + 1 : Nat) : Int) by omega, ih (n + 1) (by omega) (by omega)]
    · rw [decide_eq_false (by omega), cond_false]
theorem eqItem {a : List GItem} (hm : a.length ≤ 64) : g_slices_Equal_Item a a = some true := by
  unfold g_slices_Equal_Item
  have := eqItem_l0 hm bigK 0 (Nat.zero_le _) (by unfold bigK; omega)
  simp only [Int.natCast_zero] at this
  rw [this]
  simp
theorem sameCells_l0 {a : List Int} (hm : a.length ≤ 64) : ∀ (k n : Nat), n ≤ a.length → a.length - n < k → g_laws_sameCells_l0 a a k n = some (.inl ()) := by
  intro k
  induction k with
  | zero => intro n h0 h1; omega
  | succ k ih =>
    intro n h0 h1
    unfold g_laws_sameCells_l0
    by_cases hn : n < a.length
    · rw [decide_eq_true (by omega), cond_true, getI_nat, List.getElem?_eq_getElem hn]
      simp only [Option.bind_some, bne_self_eq_false, cond_false]
      rw [wI64 (by omega) (by omega), show ((n : Int) + 1) = ((n + 1 : Nat) : Int) by omega, ih (n + 1) (by omega) (by omega)]
    · rw [decide_eq_false (by omega), cond_false]
theorem sameCells_refl {a : List Int} (hm : a.length ≤ 64) : g_laws_sameCells a a = some true := by
  unfold g_laws_sameCells
  have := sameCells_l0 hm bigK 0 (Nat.zero_le _) (by unfold bigK; omega)
  simp only [Int.natCast_zero] at this
  rw [this]
  simp
theorem concat_l0 {ss : List (List GItem)} (hs : ss.length ≤ 16) (hm : ∀ s ∈ ss, s.length ≤ 1048576) : ∀ (k n : Nat) (size : Int), n ≤ ss.length → ss.length - n < k → 0 ≤ size → size ≤ 1048576 * n →
    Tot (g_slices_Concat_Item_l0 ss k size n) fun r => 0 ≤ r ∧ r ≤ 16777216 := by
  intro k
  induction k with
  | zero => intro n size h0 h1; omega
  | succ k ih =>
    intro n size h0 h1 h2 h3
    unfold g_slices_Concat_Item_l0
    refine .condD (fun hi => ?_) fun _ => .some (by omega)
    have hn : n < ss.length := by omega
    have hsm := hm ss[n] (List.getElem_mem hn)
    rw [getI_nat, List.getElem?_eq_getElem hn]
    refine .bind (Q := fun r => 0 ≤ r ∧ r ≤ 1048576 * ((n : Int) + 1)) (.bindE rfl ?_) fun r hr => ?_
    · rw [wI64 (by omega) (by omega)]
      exact .condD (fun h => by omega) fun _ => .some (by omega)
    · rw [wI64 (by omega) (by omega), show ((n : Int) + 1) = ((n + 1 : Nat) : Int) by omega]
      exact ih (n + 1) r (by omega) (by omega) hr.1 (by omega)
theorem concat_l1 {ss : List (List GItem)} (hs : ss.length ≤ 16) (hm : ∀ s ∈ ss, s.length ≤ 1048576) : ∀ (k n : Nat) (out : List GItem), n ≤ ss.length → ss.length - n < k → out.length ≤ 1048576 * n →
    g_slices_Concat_Item_l1 ss k out n = some (out ++ (ss.drop n).flatten) := by
  intro k
  induction k with
  | zero => intro n out h0 h1; omega
  | succ k ih =>
    intro n out h0 h1 h2
    unfold g_slices_Concat_Item_l1
    by_cases hn : n < ss.length
    · have hsm := hm ss[n] (List.getElem_mem hn)
      rw [decide_eq_true (by omega), cond_true, getI_nat, List.getElem?_eq_getElem hn, Option.bind_some, app_eq (by omega), Option.bind_some, wI64 (by omega) (by omega), show ((n : Int) + 1) = ((n + 1 : Nat) : Int) by omega,
        ih (n + 1) _ (by omega) (by omega) (by rw [List.length_append]; omega), List.drop_eq_getElem_cons hn, List.flatten_cons, List.append_assoc]
    · rw [decide_eq_false (by omega), cond_false, List.drop_eq_nil_of_le (by omega)]
      simp
theorem grow_ok {n : Int} (h0 : 0 ≤ n) (h1 : n ≤ 16777216) : g_slices_Grow_Item_emp n = some [] := by
  unfold g_slices_Grow_Item_emp
  rw [decide_eq_false (by omega), cond_false, Option.bind_some, show (IntKind.wrap .i64 (0 - 0)) = 0 from by decide, Int.sub_zero, wI64 (by omega) (by omega)]
  by_cases h : n > 0
  · rw [decide_eq_true h, cond_true, mk_eq h0 (by omega), Option.bind_some, subL_take (by decide) (by omega)]
    rfl
  · rw [decide_eq_false h]
    rfl
theorem concat_ok {ss : List (List GItem)} (hs : ss.length ≤ 16) (hm : ∀ s ∈ ss, s.length ≤ 1048576) : g_slices_Concat_Item ss = some ss.flatten := by
  unfold g_slices_Concat_Item
  obtain ⟨r, hr, h0, h1⟩ := concat_l0 hs hm bigK 0 0 (Nat.zero_le _) (by unfold bigK; omega) (by decide) (by decide)
  have h2 := concat_l1 hs hm bigK 0 [] (Nat.zero_le _) (by unfold bigK; omega) (by simp)
  simp only [Int.natCast_zero, List.drop_zero, List.nil_append] at hr h2
  rw [hr]
  simp only [Option.bind_some]
  rw [grow_ok h0 h1]
  simp only [Option.bind_some]
  rw [h2]
  rfl
theorem edItems_ok {l r c : List GItem} (hl : l.length ≤ 1048576) (hr : r.length ≤ 1048576) : g_impl_edItems ⟨l, r, c⟩ = some (l ++ r) := by
  unfold g_impl_edItems
  rw [concat_ok (by simp) (by simp; exact ⟨hl, hr⟩)]
  simp
theorem padded_ok {cells : List Int} (hl : cells.length ≤ 64) : g_laws_padded cells = some (cells ++ List.replicate (64 - cells.length) 0) := by
  have key : ∀ (k : Nat) (out : List Int), out.length ≤ 64 → 64 - out.length < k → g_laws_padded_l0 k out = some (out ++ List.replicate (64 - out.length) 0) := by
    intro k
    induction k with
    | zero => intro out h0 h1; omega
    | succ k ih =>
      intro out h0 h1
      unfold g_laws_padded_l0
      by_cases h : out.length < 64
      · rw [decide_eq_true (by omega), cond_true, app_eq (by simp; omega), Option.bind_some, ih _ (by simp; omega) (by simp; omega), List.append_assoc, List.length_append, List.length_singleton,
          show 64 - out.length = (64 - (out.length + 1)) + 1 by omega, List.replicate_succ]
        rfl
      · rw [decide_eq_false (by omega), cond_false, show 64 - out.length = 0 by omega]
        simp
  unfold g_laws_padded
  rw [app_eq (by simp; omega), Option.bind_some, List.nil_append, key bigK cells hl (by unfold bigK; omega)]
  rfl
/-- The law. -/
theorem law_open (code : List Int) : g_laws_FnOpen code = some true := by
  unfold g_laws_FnOpen g_laws_big
  by_cases hb : (code.length : Int) > 1048576
  · rw [decide_eq_true hb]; rfl
  · rw [decide_eq_false hb, Option.bind_some, cond_false]
    obtain ⟨cells, hd, hu, hdl⟩ := drawOpen_ok (code := code) (by omega)
    rw [hd, Option.bind_some]
    unfold g_impl_OpenEd
    by_cases hl : cells.length ≤ 64
    · obtain ⟨its, cells', z, h1, h2, h3, h4⟩ := parseCells_ok hu hl
      have hlen : cells.length = cells'.length + z := by rw [h2, List.length_append, List.length_replicate]
      have hil := h3.len
      have hun := unparse_ok (by omega) h3
      have hed := edItems_ok (l := []) (r := its) (c := []) (by simp) (by omega)
      rw [List.nil_append] at hed
      have hlist : g_impl_ListOk its = some true := by
        unfold g_impl_ListOk
        rw [hun, Option.bind_some, cond_true, parseCells_same (by omega) h3 h4, Option.bind_some, eqItem (by omega)]
        rfl
      have hcf : g_slices_ContainsFunc_Item_impl_EdOkc1 [] = some false := by kernel_rfl
      have hok : g_impl_EdOk ⟨[], its, []⟩ = some true := by
        unfold g_impl_EdOk
        rw [hcf, hed, Option.bind_some, Option.bind_some, hlist]
        rfl
      have hcells : g_impl_EdCells ⟨[], its, []⟩ = some cells' := by
        unfold g_impl_EdCells
        rw [hok, hed, Option.bind_some, Bool.not_true, cond_false, Option.bind_some, hun]
        rfl
      rw [h1, Option.bind_some, Option.bind_some, decide_eq_false (by omega), cond_false, hok, Option.bind_some, cond_true, hcells, Option.bind_some, padded_ok (by omega), Option.bind_some, padded_ok hl, Option.bind_some]
      have he : cells' ++ List.replicate (64 - cells'.length) 0 = cells ++ List.replicate (64 - cells.length) 0 := by
        conv => rhs; rw [h2]
        rw [List.append_assoc, List.replicate_append_replicate]
        congr 2
        rw [List.length_append, List.length_replicate]; omega
      rw [he, sameCells_refl (by simp; omega)]
      rfl
    · have : g_impl_ParseCells cells = some [] := by
        unfold g_impl_ParseCells
        rw [decide_eq_true (by omega), cond_true]
      have hs : g_laws_sameEd ⟨[], [], []⟩ ⟨[], [], []⟩ = some true := by kernel_rfl
      rw [this, Option.bind_some, Option.bind_some, decide_eq_true (by omega), cond_true, hs]
      rfl
end Go.Proofs.Ytkjjcpgickjidaa

