import Derived.Test.YtmlkglhpaneepaaGreatDoorMJ
set_option linter.all false
namespace Go.Proofs.YtmlkglhpaneepaaGreatDoor
open Go Go.Fm
theorem letterOf_all : (List.range 256).all (fun b => g_spec_LetterOf (b : Int) == g_impl_LetterOf (b : Int)) = true := by kernel_rfl
theorem letterOf_eq {b : Int} (h0 : 0 ≤ b) (h1 : b < 256) : g_spec_LetterOf b = g_impl_LetterOf b := by
  have h := List.all_eq_true.1 letterOf_all b.toNat (List.mem_range.2 (by omega))
  rw [Int.toNat_of_nonneg h0] at h
  exact eq_of_beq h
theorem width_eq {k : Int} : g_spec_WidthOf k = g_impl_WidthOf k := by
  unfold g_spec_WidthOf g_impl_WidthOf; simp only [specIn_eq, within_eq, Option.bind_some]
theorem letterAt_eq {k : Int} : g_spec_LetterAt k = g_impl_LetterAt k := by
  unfold g_spec_LetterAt g_impl_LetterAt; simp only [specIn_eq, within_eq, Option.bind_some]; rfl
theorem bits_all : (List.range 49).all (fun b => g_spec_BitsOf ((b : Int) - 1) == g_impl_BitsOf ((b : Int) - 1)) = true := by kernel_rfl
theorem bits_eq {k : Int} (h0 : -1 ≤ k) (h1 : k ≤ 47) : g_spec_BitsOf k = g_impl_BitsOf k := by
  have h := List.all_eq_true.1 bits_all (k + 1).toNat (List.mem_range.2 (by omega))
  rw [Int.toNat_of_nonneg (by omega), show k + 1 - 1 = k by omega] at h
  exact eq_of_beq h
theorem wb_all : (List.range 48).all (fun b => match g_impl_WidthOf (b : Int), g_impl_BitsOf (b : Int) with | some w, some c => decide (4 ≤ w ∧ w ≤ 7 ∧ 0 ≤ c ∧ c < 2 ^ w.toNat) | _, _ => false) = true := by kernel_rfl
theorem wb {k : Int} (h0 : 0 ≤ k) (h1 : k ≤ 47) : ∃ w c, g_impl_WidthOf k = some w ∧ g_impl_BitsOf k = some c ∧ 4 ≤ w ∧ w ≤ 7 ∧ 0 ≤ c ∧ c < 2 ^ w.toNat := by
  have h := List.all_eq_true.1 wb_all k.toNat (List.mem_range.2 (by omega))
  rw [Int.toNat_of_nonneg h0] at h
  split at h
  · rename_i w c hw hc; exact ⟨w, c, hw, hc, of_decide_eq_true h⟩
  · cases h
theorem pw (n : Nat) : (0 : Int) < 2 ^ n := Int.pow_pos (by decide)
theorem pwN (n : Nat) : ((2 ^ n : Nat) : Int) = (2 : Int) ^ n := by simp
theorem pw_le {a b : Nat} (h : a ≤ b) : (2 : Int) ^ a ≤ 2 ^ b := by
  have := Nat.pow_le_pow_right (n := 2) (by decide) h
  rw [← pwN, ← pwN]; omega
theorem shl_eq {k : IntKind} {a n : Int} (h0 : 0 ≤ n) (h1 : n ≤ 32) (hk : 32 ≤ k.bits) : shlI k a n = some (k.wrap (a * 2 ^ n.toNat)) := by
  unfold shlI
  rw [if_pos h0, show min n.toNat k.bits = n.toNat by omega]
theorem shr_eq {k : IntKind} {a n : Int} (h0 : 0 ≤ n) (h1 : n ≤ 32) (hk : 32 ≤ k.bits) : shrI k a n = some (a / 2 ^ n.toNat) := by
  unfold shrI
  rw [if_pos h0, show min n.toNat k.bits = n.toNat by omega]
theorem shl64 {n : Int} (h0 : 0 ≤ n) (h1 : n ≤ 32) : shlI .i64 1 n = some (2 ^ n.toNat) := by
  rw [shl_eq h0 h1 (by decide), Int.one_mul, wI64]
  · have := pw n.toNat; omega
  · have := pw_le (a := n.toNat) (b := 32) (by omega); omega
theorem shl32 {n : Int} (h0 : 0 ≤ n) (h1 : n ≤ 31) : shlI .u32 1 n = some (2 ^ n.toNat) := by
  rw [shl_eq h0 (by omega) (by decide), Int.one_mul, wU32]
  · have := pw n.toNat; omega
  · have := pw_le (a := n.toNat) (b := 31) (by omega); omega
theorem and_mask {k : IntKind} {a : Int} {n : Nat} (h0 : 0 ≤ a) (h1 : a < 2 ^ k.bits) (hn : n < k.bits) : andI k a (2 ^ n - 1) = a % 2 ^ n := by
  unfold andI
  have hp := pw n
  have hb : (2 : Int) ^ n - 1 < 2 ^ k.bits := by have := pw_le (a := n) (b := k.bits) (by omega); omega
  rw [BitVec.toNat_and, bB_toNat h0 h1, bB_toNat (by omega) hb]
  have e : ((2 : Int) ^ n - 1).toNat = 2 ^ n - 1 := by rw [← pwN]; omega
  rw [e, Nat.and_two_pow_sub_one_eq_mod, wrap_small]
  · rw [Int.natCast_emod, pwN, Int.toNat_of_nonneg h0]
  · refine Nat.lt_of_lt_of_le (Nat.mod_lt _ (Nat.two_pow_pos n)) (Nat.pow_le_pow_right (by decide) (by omega))
theorem div_mod {f : Int} {n w : Nat} (h0 : 0 ≤ f) (hw : w ≤ n) : f % 2 ^ n / 2 ^ (n - w) = f / 2 ^ (n - w) % 2 ^ w := by
  obtain ⟨F, rfl⟩ := Int.eq_ofNat_of_zero_le h0
  have e : 2 ^ n = 2 ^ (n - w) * 2 ^ w := by rw [← Nat.pow_add]; congr 1; omega
  have := Nat.mod_mul_right_div_self F (2 ^ (n - w)) (2 ^ w)
  rw [← e] at this
  simp only [← pwN, Int.ofNat_eq_natCast, ← Int.natCast_emod, ← Int.natCast_ediv]
  rw [this]
theorem decode_l0_eq {f n : Int} (h0 : 0 ≤ f) (h1 : f < 4294967296) (n0 : 1 ≤ n) (n1 : n ≤ 32) : ∀ (k : Nat) (i : Int), 0 ≤ i → i ≤ 48 → g_spec_Decode_l0 f n k i = g_impl_Decode_l0 f n k i := by
  intro k
  induction k with
  | zero => intro i _ _; rfl
  | succ k ih =>
    intro i i0 i1
    unfold g_spec_Decode_l0 g_impl_Decode_l0
    by_cases hi : i < 48
    · obtain ⟨w, c, hw, hc, w0, w1, c0, c1⟩ := wb i0 (by omega)
      have hx := ih (i + 1) (by omega) (by omega)
      rw [decide_eq_true hi, width_eq, hw, bits_eq (by omega) (by omega), hc]
      simp only [cond_true, Option.bind_some]
      rw [wI64 (x := i + 1) (by omega) (by omega), hx]
      by_cases hn : w ≤ n
      · have c2 : (2 : Int) ^ w.toNat ≤ 2 ^ 7 := pw_le (by omega)
        have pn := pw n.toNat
        have pw' := pw w.toNat
        have pn2 : (2 : Int) ^ n.toNat ≤ 2 ^ 32 := pw_le (by omega)
        rw [decide_eq_true hn, decide_eq_false (p := w > n) (by omega), wU64 (x := n) (by omega) (by omega), wI64 (x := f) (by omega) (by omega), wI64 (x := n - w) (by omega) (by omega), wU64 (x := n - w) (by omega) (by omega), shl64 (by omega) (by omega),
          shl32 (by omega) (by omega), shr_eq (by omega) (by omega) (by decide), wI64 (x := c) (by omega) (by omega)]
        simp only [cond_true, cond_false, Option.bind_some]
        rw [wI64 (x := 2 ^ n.toNat - 1) (by omega) (by omega), wU32 (x := 2 ^ w.toNat - 1) (by omega) (by omega), shr_eq (by omega) (by omega) (by decide)]
        simp only [Option.bind_some]
        have hq : f / 2 ^ (n - w).toNat < 4294967296 := Int.lt_of_le_of_lt (Int.ediv_le_self _ h0) h1
        rw [and_mask (k := .i64) h0 (show f < 2 ^ 64 by omega) (show n.toNat < 64 by omega), and_mask (k := .u32) (Int.ediv_nonneg h0 (Int.le_of_lt (pw _))) (show f / 2 ^ (n - w).toNat < 2 ^ 32 by omega) (show w.toNat < 32 by omega),
          show (n - w).toNat = n.toNat - w.toNat by omega, div_mod h0 (by omega)]
        cases f / 2 ^ (n.toNat - w.toNat) % 2 ^ w.toNat == c <;> rfl
      · rw [decide_eq_false hn, decide_eq_true (p := w > n) (by omega)]
        rfl
    · rw [decide_eq_false hi]; rfl
theorem decode_eq {f n : Int} (h0 : 0 ≤ f) (h1 : f < 4294967296) : g_spec_Decode f n = g_impl_Decode f n := by
  unfold g_spec_Decode g_impl_Decode
  rw [specIn_eq, within_eq]
  simp only [Option.bind_some]
  by_cases h : 1 ≤ n ∧ n ≤ 32
  · rw [decode_l0_eq h0 h1 h.1 h.2 _ _ (by decide) (by decide)]
  · rw [decide_eq_false h]; rfl
theorem unpackOne_l0_eq {f : Int} (h0 : 0 ≤ f) (h1 : f < 4294967296) : ∀ (k : Nat) (out : List Int) (left : Int), 0 ≤ left → left ≤ 28 → g_spec_UnpackOne_l0 f k out left = g_impl_UnpackOne_l0 f k out left := by
  intro k
  induction k with
  | zero => intro out left _ _; rfl
  | succ k ih =>
    intro out left l0 l1
    unfold g_spec_UnpackOne_l0 g_impl_UnpackOne_l0
    have p1 := pw left.toNat
    have p2 : (2 : Int) ^ left.toNat ≤ 2 ^ 28 := pw_le (by omega)
    rw [wU64 (x := left) (by omega) (by omega), wI64 (x := f) (by omega) (by omega), shl64 (by omega) (by omega), shl32 (by omega) (by omega)]
    simp only [Option.bind_some]
    rw [wI64 (x := 2 ^ left.toNat - 1) (by omega) (by omega), wU32 (x := 2 ^ left.toNat - 1) (by omega) (by omega), and_mask (k := .i64) h0 (show f < 2 ^ 64 by omega) (show left.toNat < 64 by omega), and_mask (k := .u32) h0 (show f < 2 ^ 32 by omega) (show left.toNat < 32 by omega)]
    have e : (cond (decide (left > 0)) (some (f % 2 ^ left.toNat != 0)) (some false) : Option Bool) = some (f % 2 ^ left.toNat != 0) := by
      by_cases hl : left > 0
      · rw [decide_eq_true hl]; rfl
      · have : left = 0 := by omega
        subst this
        simp
    rw [e]
    simp only [Option.bind_some]
    cases f % 2 ^ left.toNat != 0 with
    | false => rfl
    | true =>
      simp only [cond_true]
      rw [decode_eq h0 h1]
      obtain ⟨d, hd, _, d2⟩ := decode_ok (f := f) (n := left)
      rw [hd]
      simp only [Option.bind_some]
      by_cases hc : d.1 < 1
      · rw [decide_eq_true hc]; rfl
      · rw [decide_eq_false hc, letterAt_eq]
        obtain ⟨v, hv, _⟩ := letterAt_ok (k := d.1)
        have := d2 (by omega)
        rw [hv]
        simp only [cond_false, Option.bind_some]
        cases app out [v] with
        | none => rfl
        | some o =>
          simp only [Option.bind_some]
          rw [wI64 (x := left - d.2) (by omega) (by omega)]
          exact ih _ _ (by omega) (by omega)
theorem unpackOne_eq {f : Int} (h0 : 0 ≤ f) (h1 : f < 4294967296) : g_spec_UnpackOne f = g_impl_UnpackOne f := by
  unfold g_spec_UnpackOne g_impl_UnpackOne
  rw [wI64 (x := f) (by omega) (by omega), unpackOne_l0_eq h0 h1 _ _ _ (by decide) (by decide)]
def good (b : UInt8) : Bool := match g_impl_LetterOf (b.toNat : Int) with | some k => decide (1 ≤ k) | none => false
theorem good_of {b : UInt8} {k : Int} (h : g_impl_LetterOf (b.toNat : Int) = some k) : good b = decide (1 ≤ k) := by unfold good; rw [h]
theorem idxS_nat {s : List UInt8} {n : Nat} (h : n < s.length) : idxS s (n : Int) = some ((s[n].toNat : Nat) : Int) := by
  unfold idxS
  rw [if_pos ⟨by omega, by omega⟩, Int.toNat_natCast, List.getD_eq_getElem?_getD, List.getElem?_eq_getElem h]
  rfl
theorem specNameOk_l0 {s : Bs} (hs : s.length ≤ 1048576) : ∀ (k n : Nat), n ≤ s.length → s.length - n < k → g_spec_NameOk_l0 s k n = some (if (s.drop n).all good then .inl () else .inr false) := by
  intro k
  induction k with
  | zero => intro n h0 h1; omega
  | succ k ih =>
    intro n h0 h1
    unfold g_spec_NameOk_l0
    by_cases hn : n < s.length
    · have hb := UInt8.toNat_lt s[n]
      obtain ⟨x, hx, x0, x1⟩ := letterOf_ok (b := (s[n].toNat : Int)) (by omega) (by omega)
      rw [decide_eq_true (by omega), idxS_nat hn, List.drop_eq_getElem_cons hn, List.all_cons, good_of hx]
      simp only [cond_true, Option.bind_some, letterOf_eq (b := (s[n].toNat : Int)) (by omega) (by omega), hx]
      by_cases hc : x < 1
      · rw [decide_eq_true hc, decide_eq_false (p := 1 ≤ x) (by omega)]; rfl
      · rw [decide_eq_false hc, decide_eq_true (p := 1 ≤ x) (by omega), cond_false, wI64 (by omega) (by omega), show ((n : Int) + 1) = ((n + 1 : Nat) : Int) by omega, ih (n + 1) (by omega) (by omega), Bool.true_and]
    · rw [decide_eq_false (by omega), List.drop_eq_nil_of_le (by omega)]; rfl
theorem implNameOk_l0 {s : Bs} (hs : s.length ≤ 1048576) : ∀ (k n : Nat), n ≤ s.length → s.length - n < k → g_impl_NameOk_l0 s (s.length : Int) k n = some (if (s.drop n).all good then .inl () else .inr false) := by
  intro k
  induction k with
  | zero => intro n h0 h1; omega
  | succ k ih =>
    intro n h0 h1
    unfold g_impl_NameOk_l0
    by_cases hn : n < s.length
    · have hb := UInt8.toNat_lt s[n]
      obtain ⟨x, hx, x0, x1⟩ := letterOf_ok (b := (s[n].toNat : Int)) (by omega) (by omega)
      rw [decide_eq_true (by omega), idxS_nat hn, List.drop_eq_getElem_cons hn, List.all_cons, good_of hx]
      simp only [cond_true, Option.bind_some, hx]
      by_cases hc : x < 1
      · rw [decide_eq_true hc, decide_eq_false (p := 1 ≤ x) (by omega)]; rfl
      · rw [decide_eq_false hc, decide_eq_true (p := 1 ≤ x) (by omega), cond_false, wI64 (by omega) (by omega), show ((n : Int) + 1) = ((n + 1 : Nat) : Int) by omega, ih (n + 1) (by omega) (by omega), Bool.true_and]
    · rw [decide_eq_false (by omega), List.drop_eq_nil_of_le (by omega)]; rfl
def named (s : Bs) : Bool := s.all good && decide (1 ≤ s.length ∧ s.length ≤ 24)
theorem implNameOk {s : Bs} (hs : s.length ≤ 1048576) : g_impl_NameOk s = some (named s) := by
  unfold g_impl_NameOk named
  have h := implNameOk_l0 hs bigK 0 (Nat.zero_le _) (by unfold bigK; omega)
  rw [show ((0 : Nat) : Int) = 0 from rfl] at h
  rw [h, List.drop_zero, within_eq]
  cases s.all good with
  | false => rfl
  | true =>
    simp only [if_true, Option.bind_some, Bool.true_and]
    congr 1
    exact decide_eq_decide.2 (by omega)
theorem specNameOk {s : Bs} (hs : s.length ≤ 1048576) : g_spec_NameOk s = some (named s) := by
  unfold g_spec_NameOk named
  have h := specNameOk_l0 hs bigK 0 (Nat.zero_le _) (by unfold bigK; omega)
  rw [show ((0 : Nat) : Int) = 0 from rfl] at h
  rw [h, List.drop_zero, specIn_eq]
  have e : decide ((1 : Int) ≤ s.length ∧ (s.length : Int) ≤ 24) = decide (1 ≤ s.length ∧ s.length ≤ 24) := decide_eq_decide.2 (by omega)
  rw [e]
  cases decide (1 ≤ s.length ∧ s.length ≤ 24) <;> cases s.all good <;> rfl
theorem packOne_l0_eq {s : Bs} (hg : s.all good = true) (hs : s.length ≤ 24) : ∀ (k : Nat) (q : Nat) (left n : Nat), n ≤ s.length → left ≤ 28 → q < 2 ^ (28 - left) →
    g_spec_l03One_l0 s k ((2 ^ left * q : Nat) : Int) left n = g_impl_PackOne_l0 s (s.length : Int) k ((2 ^ left * q : Nat) : Int) left n n := by
  intro k
  induction k with
  | zero => intro q left n _ _ _; rfl
  | succ k ih =>
    intro q left n h0 h1 h2
    unfold g_spec_l03One_l0 g_impl_PackOne_l0
    by_cases hn : n < s.length
    · have hb := UInt8.toNat_lt s[n]
      obtain ⟨x, hx, x0, x1⟩ := letterOf_ok (b := (s[n].toNat : Int)) (by omega) (by omega)
      have hgn : good s[n] = true := List.all_eq_true.1 hg _ (List.getElem_mem hn)
      rw [good_of hx] at hgn
      have hx1 : 1 ≤ x := of_decide_eq_true hgn
      obtain ⟨w, c, hw, hc, w0, w1, c0, c1⟩ := wb (k := x) (by omega) x1
      rw [decide_eq_true (by omega), idxS_nat hn]
      simp only [cond_true, Option.bind_some, letterOf_eq (b := (s[n].toNat : Int)) (by omega) (by omega), hx, width_eq, hw, bits_eq (show -1 ≤ x by omega) x1, hc]
      by_cases hl : w > (left : Int)
      · rw [decide_eq_true hl]; rfl
      · rw [decide_eq_false hl]
        obtain ⟨W, rfl⟩ := Int.eq_ofNat_of_zero_le (show 0 ≤ w by omega)
        obtain ⟨c', rfl⟩ := Int.eq_ofNat_of_zero_le c0
        simp only [Int.ofNat_eq_natCast, Int.toNat_natCast] at *
        have hWl : W ≤ left := by omega
        have hc7 : c' < 2 ^ W := by rw [← pwN] at c1; omega
        have p7 : 2 ^ W ≤ 2 ^ 7 := Nat.pow_le_pow_right (by decide) (by omega)
        have eL : (left : Int) - (W : Int) = ((left - W : Nat) : Int) := by omega
        have hN : (c' : Int) * 2 ^ (left - W) = ((c' * 2 ^ (left - W) : Nat) : Int) := by rw [← pwN, Int.natCast_mul]
        have e1 : 2 ^ left = 2 ^ (left - W) * 2 ^ W := by rw [← Nat.pow_add, show left - W + W = left by omega]
        have hlt : c' * 2 ^ (left - W) < 2 ^ left := by
          rw [e1, Nat.mul_comm (2 ^ (left - W))]
          exact Nat.mul_lt_mul_of_pos_right hc7 (Nat.two_pow_pos _)
        have p28 : 2 ^ left ≤ 2 ^ 28 := Nat.pow_le_pow_right (by decide) h1
        have hf : 2 ^ left * q < 2 ^ 28 := by
          have : 2 ^ 28 = 2 ^ left * 2 ^ (28 - left) := by rw [← Nat.pow_add, show left + (28 - left) = 28 by omega]
          rw [this]
          exact Nat.mul_lt_mul_of_pos_left h2 (Nat.two_pow_pos _)
        have hor : orI .u32 ((2 ^ left * q : Nat) : Int) ((c' * 2 ^ (left - W) : Nat) : Int) = ((2 ^ left * q + c' * 2 ^ (left - W) : Nat) : Int) := by
          rw [orU (by omega) (by omega) (by omega) (by omega), Int.toNat_natCast, Int.toNat_natCast, or_low left hlt]
        have hnew : 2 ^ left * q + c' * 2 ^ (left - W) = 2 ^ (left - W) * (2 ^ W * q + c') := by
          rw [e1, Nat.mul_add, Nat.mul_assoc, Nat.mul_comm c']
        have hq : 2 ^ W * q + c' < 2 ^ (28 - (left - W)) := by
          have e2 : 2 ^ (28 - (left - W)) = 2 ^ W * 2 ^ (28 - left) := by rw [← Nat.pow_add, show W + (28 - left) = 28 - (left - W) by omega]
          rw [e2]
          calc 2 ^ W * q + c' < 2 ^ W * q + 2 ^ W := by omega
            _ = 2 ^ W * (q + 1) := by rw [Nat.mul_add, Nat.mul_one]
            _ ≤ 2 ^ W * 2 ^ (28 - left) := Nat.mul_le_mul_left _ h2
        have hsum : ((2 ^ left * q : Nat) : Int) + ((c' * 2 ^ (left - W) : Nat) : Int) = ((2 ^ (left - W) * (2 ^ W * q + c') : Nat) : Int) := by rw [← hnew]; omega
        have hbd : 2 ^ (left - W) * (2 ^ W * q + c') < 2 ^ 29 := by rw [← hnew]; omega
        rw [eL, wI64 (x := ((left - W : Nat) : Int)) (by omega) (by omega), wU64 (x := ((left - W : Nat) : Int)) (by omega) (by omega), shl_eq (by omega) (by omega) (by decide), shl_eq (by omega) (by omega) (by decide), wI64 (x := (c' : Int)) (by omega) (by omega)]
        simp only [Int.toNat_natCast, hN, cond_false, Option.bind_some]
        rw [wI64 (x := ((c' * 2 ^ (left - W) : Nat) : Int)) (by omega) (by omega), wU32 (x := ((c' * 2 ^ (left - W) : Nat) : Int)) (by omega) (by omega), hor, hsum, hnew, wI64 (by omega) (by omega), wI64 (by omega) (by omega), show ((n : Int) + 1) = ((n + 1 : Nat) : Int) by omega]
        exact ih _ _ _ (by omega) (by omega) hq
    · rw [decide_eq_false (by omega)]; rfl
theorem named_len {s : Bs} (h : named s = true) : s.all good = true ∧ 1 ≤ s.length ∧ s.length ≤ 24 := by
  unfold named at h
  rw [Bool.and_eq_true] at h
  exact ⟨h.1, of_decide_eq_true h.2⟩
theorem packOne_eq {s : Bs} (h : named s = true) : g_spec_l03One s = g_impl_PackOne s := by
  obtain ⟨hg, _, hl⟩ := named_len h
  have hp := packOne_ok (s := s) (by omega)
  unfold g_impl_PackOne at hp ⊢
  unfold g_spec_l03One
  rw [implNameOk (by omega), h] at hp ⊢
  have e := packOne_l0_eq hg hl bigK 0 28 0 (Nat.zero_le _) (by decide) (by decide)
  simp only [Nat.mul_zero, Int.natCast_zero] at e
  have e' : g_spec_l03One_l0 s bigK 0 28 0 = g_impl_PackOne_l0 s (s.length : Int) bigK 0 28 0 0 := e
  rw [e']
  simp only [Option.bind_some, Bool.not_true, cond_false] at hp ⊢
  obtain ⟨r, hr, hb, _⟩ := hp
  cases hq : g_impl_PackOne_l0 s (s.length : Int) bigK 0 28 0 0 with
  | none => rw [hq] at hr; cases hr
  | some p =>
    rw [hq] at hr
    simp only [Option.bind_some, Option.some.injEq] at hr ⊢
    subst hr
    rw [wU32 hb.1 hb.2]
theorem all_drop {s : Bs} (h : s.all good = true) (n : Nat) : (s.drop n).all good = true :=
  List.all_eq_true.2 fun x hx => List.all_eq_true.1 h x (List.mem_of_mem_drop hx)
theorem pack_l0_eq : ∀ (k : Nat) (s : Bs) (out : List Int), s.all good = true → s.length ≤ 24 → g_spec_Pack_l0 k s out = g_impl_Pack_l0 k s out := by
  intro k
  induction k with
  | zero => intro s out _ _; rfl
  | succ k ih =>
    intro s out hg hl
    unfold g_spec_Pack_l0 g_impl_Pack_l0
    rw [implNameOk (by omega)]
    cases hn : named s with
    | false =>
      have : s = [] := by
        unfold named at hn
        rw [hg, Bool.true_and] at hn
        have := of_decide_eq_false hn
        exact List.eq_nil_of_length_eq_zero (by omega)
      subst this
      rfl
    | true =>
      have h1 := named_len hn
      have : (s != []) = true := by
        cases s with
        | nil => simp at h1
        | cons _ _ => rfl
      rw [this, packOne_eq hn]
      simp only [cond_true, Option.bind_some]
      obtain ⟨r, hr, _, r0, r1, _⟩ := packOne_ok (s := s) (by omega)
      rw [hr]
      simp only [Option.bind_some]
      cases app out [r.1] with
      | none => rfl
      | some o =>
        simp only [Option.bind_some]
        rw [subL_drop r0 r1]
        simp only [Option.bind_some]
        exact ih _ _ (all_drop hg _) (by rw [List.length_drop]; omega)
theorem pack_eq {s : Bs} (hs : s.length ≤ 1048576) : g_spec_Pack s = g_impl_Pack s := by
  unfold g_spec_Pack g_impl_Pack
  rw [specNameOk hs]
  cases hn : named s with
  | false =>
    simp only [Option.bind_some, Bool.not_false, cond_true]
    rw [show bigK = 18446744073709551615 + 1 from rfl]
    unfold g_impl_Pack_l0
    rw [implNameOk hs, hn]
    rfl
  | true =>
    have h1 := named_len hn
    simp only [Option.bind_some, Bool.not_true, cond_false]
    rw [pack_l0_eq _ _ _ h1.1 h1.2.2]
theorem same_l0 {a b : List Int} (hl : a.length = b.length) (hm : a.length ≤ 1048576) : ∀ (k n : Nat), n ≤ a.length → a.length - n < k →
    g_spec_l03Same_l0 a b k n = some (if a.drop n = b.drop n then .inl () else .inr false) := by
  intro k
  induction k with
  | zero => intro n h0 h1; omega
  | succ k ih =>
    intro n h0 h1
    unfold g_spec_l03Same_l0
    by_cases hn : n < a.length
    · have hn' : n < b.length := by omega
      rw [decide_eq_true (by omega), getI_nat, getI_nat, List.getElem?_eq_getElem hn, List.getElem?_eq_getElem hn', List.drop_eq_getElem_cons hn, List.drop_eq_getElem_cons hn']
      simp only [cond_true, Option.bind_some]
      by_cases he : a[n] = b[n]
      · have : (a[n] != b[n]) = false := by rw [he]; simp
        rw [this, cond_false, wI64 (by omega) (by omega), show ((n : Int) + 1) = ((n + 1 : Nat) : Int) by omega, ih (n + 1) (by omega) (by omega), he]
        simp only [List.cons.injEq, true_and]
      · have : (a[n] != b[n]) = true := by simpa using he
        rw [this, cond_true, if_neg (fun h => he (List.cons.inj h).1)]
    · rw [decide_eq_false (by omega), cond_false, List.drop_eq_nil_of_le (by omega), List.drop_eq_nil_of_le (by omega), if_pos rfl]
theorem same_eq {a b : List Int} (hm : a.length ≤ 1048576) : g_spec_l03Same a b = some (decide (a = b)) := by
  unfold g_spec_l03Same
  by_cases hl : a.length = b.length
  · have : ((a.length : Int) != (b.length : Int)) = false := by rw [hl]; simp
    rw [this, cond_false]
    have h := same_l0 hl hm bigK 0 (Nat.zero_le _) (by unfold bigK; omega)
    rw [show ((0 : Nat) : Int) = 0 from rfl] at h
    rw [h]
    by_cases he : a = b
    · simp [he]
    · simp [he]
  · have : ((a.length : Int) != (b.length : Int)) = true := by simp; omega
    rw [this, cond_true, decide_eq_false (fun h => hl (by rw [h]))]
end Go.Proofs.YtmlkglhpaneepaaGreatDoor
namespace Go.Proofs.YtmlkglhpaneepaaGreatDoor
open Go Go.Fm
theorem specTag_ok {k : Int} : Tot (g_spec_l04Tag k) fun _ => True := by
  unfold g_spec_l04Tag
  exact .cond (fun _ => .some trivial) fun _ => .cond (fun _ => .some trivial) fun _ => .cond (fun _ => .some trivial) fun _ => .cond (fun _ => .some trivial) fun _ => .cond (fun _ => .some trivial) fun _ => .cond (fun _ => .some trivial) fun _ => .some trivial
def EC (o : Unit ⊕ List Int) : Prop := match o with | .inl _ => True | .inr r => U32 r ∧ r.length ≤ 25
theorem specCells_ok {it : GItem} (hs : it.Name.length ≤ 1048576) (hr : 0 ≤ it.Raw ∧ it.Raw < 4294967296) : Tot (g_spec_CellsOf it) fun r => U32 r ∧ r.length ≤ 25 := by
  unfold g_spec_CellsOf
  have t3 : ∀ {a b c : Bool} {d : Bool}, Tot (_root_.cond a (_root_.cond b (some c) (some false)) (some d)) fun _ => True := fun {a b c d} => by cases a <;> cases b <;> exact .some trivial
  have t2 : ∀ {a c d : Bool}, Tot (_root_.cond a (some c) (some d)) fun _ => True := fun {a c d} => by cases a <;> exact .some trivial
  refine .bind t3 fun p _ => .bind (Q := EC) ?_ fun o ho => ?_
  · refine .cond (fun _ => .bind t3 fun a _ => .cond (fun _ => .some ⟨.one hr, by simp⟩) fun _ => .some trivial) fun _ => .cond (fun _ => .bind t2 fun a _ => .cond (fun _ => .bind specNum_ok fun r h => .some ⟨h.1, by omega⟩) fun _ => .some trivial) fun _ =>
      .cond (fun _ => .bind t2 fun a _ => .cond (fun _ => .bind specNum_ok fun r h => .some ⟨h.1, by omega⟩) fun _ => .some trivial) fun _ =>
      .cond (fun _ => .bind (specWord_ok hs) fun r h => .bind t3 fun a _ => .cond (fun _ => .bindE (app_eq (by simp; omega)) (.some ⟨h.1.app (.one (wU32_bd _)), by simp; omega⟩)) fun _ => .some trivial) fun _ =>
      .bind specTag_ok fun t _ => .bind t2 fun a _ => .cond (fun _ => .bind (specWord_ok hs) fun r h => .some ⟨h.1, by omega⟩) fun _ => .some trivial
  · cases o with
    | inl _ => exact .some ⟨.nil, by simp⟩
    | inr r => exact .some ho
end Go.Proofs.YtmlkglhpaneepaaGreatDoor
namespace Go.Proofs.YtmlkglhpaneepaaGreatDoor
open Go Go.Fm
theorem eqU_l0 {a b : List Int} (hl : a.length = b.length) (hm : a.length ≤ 1048576) : ∀ (k n : Nat), n ≤ a.length → a.length - n < k →
    g_slices_Equal_uint32_l0 a b (a.length : Int) k n = some (if a.drop n = b.drop n then .inl () else .inr false) := by
  intro k
  induction k with
  | zero => intro n h0 h1; omega
  | succ k ih =>
    intro n h0 h1
    unfold g_slices_Equal_uint32_l0
    by_cases hn : n < a.length
    · have hn' : n < b.length := by omega
      rw [decide_eq_true (by omega), getI_nat, getI_nat, List.getElem?_eq_getElem hn, List.getElem?_eq_getElem hn', List.drop_eq_getElem_cons hn, List.drop_eq_getElem_cons hn']
      simp only [cond_true, Option.bind_some]
      by_cases he : a[n] = b[n]
      · have : (a[n] != b[n]) = false := by rw [he]; simp
        rw [this, cond_false, wI64 (by omega) (by omega), show ((n : Int) + 1) = ((n + 1 : Nat) : Int) by omega, ih (n + 1) (by omega) (by omega), he]
        simp only [List.cons.injEq, true_and]
      · have : (a[n] != b[n]) = true := by simpa using he
        rw [this, cond_true, if_neg (fun h => he (List.cons.inj h).1)]
    · rw [decide_eq_false (by omega), cond_false, List.drop_eq_nil_of_le (by omega), List.drop_eq_nil_of_le (by omega), if_pos rfl]
theorem eqU {a b : List Int} (hm : a.length ≤ 1048576) : g_slices_Equal_uint32 a b = some (decide (a = b)) := by
  unfold g_slices_Equal_uint32
  by_cases hl : a.length = b.length
  · have : ((a.length : Int) != (b.length : Int)) = false := by rw [hl]; simp
    rw [this, cond_false]
    have h := eqU_l0 hl hm bigK 0 (Nat.zero_le _) (by unfold bigK; omega)
    rw [show ((0 : Nat) : Int) = 0 from rfl] at h
    rw [h]
    by_cases he : a = b
    · simp [he]
    · simp [he]
  · have : ((a.length : Int) != (b.length : Int)) = true := by simp; omega
    rw [this, cond_true, decide_eq_false (fun h => hl (by rw [h]))]
theorem unpack_ok {l : List Int} : Tot (g_impl_Unpack l) fun r => r.1.length ≤ 168 ∧ (r.2 = true → g_impl_Pack r.1 = some l) := by
  unfold g_impl_Unpack
  refine .condD (fun _ => .some ⟨by simp, fun h => nomatch h⟩) fun hl => ?_
  have hl : l.length ≤ 24 := by omega
  have key : ∀ (k : Nat) (name : Bs) (i : Int), 0 ≤ i → i ≤ l.length → (name.length : Int) ≤ 7 * i → l.length - i < k → Tot (g_impl_Unpack_l0 l (l.length : Int) k name i) fun r => r.length ≤ 168 := by
    intro k
    induction k with
    | zero => intro name i h0 h1 h2 h3; omega
    | succ k ih =>
      intro name i h0 h1 h2 h3
      unfold g_impl_Unpack_l0
      refine .condD (fun hi => ?_) fun _ => .some (by omega)
      obtain ⟨v, hv, _⟩ := getI_ex h0 hi
      refine .bindE hv (.bind unpackOne_ok fun s hs => .bindE (catS_eq (by omega)) ?_)
      rw [wI64 (x := i + 1) (by omega) (by omega)]
      exact ih _ _ (by omega) (by omega) (by rw [List.length_append]; omega) (by omega)
  refine .bind (.bind (key bigK [] 0 (by decide) (by omega) (by decide) (by unfold bigK; omega)) fun r hr => .some hr) fun name hn => ?_
  refine .bind (Q := fun b => b = false → g_impl_Pack name = some l) (.bind (nameOk_ok (by omega)) fun b _ => .cond (fun _ => .some fun h => nomatch h) fun _ => ?_) fun b hb => .cond (fun _ => .some ⟨by simp, fun h => nomatch h⟩) fun h => .some ⟨hn, fun _ => hb h⟩
  obtain ⟨p, hp, _, hpl⟩ := pack_ok (s := name) (by omega)
  refine .bindE hp (.bindE (eqU (by omega)) (.some fun h => ?_))
  have : p = l := by simpa using h
  rw [hp, this]
theorem nameKind_eq {t : Int} (h : t = 1 ∨ t = 3 ∨ t = 4 ∨ t = 9 ∨ t = 10 ∨ t = 11) : ∃ k, g_impl_nameKind t = some k ∧ g_impl_nameTag k = some t ∧ k ≠ 0 := by
  rcases h with rfl | rfl | rfl | rfl | rfl | rfl
  · exact ⟨1, by kernel_rfl, by kernel_rfl, by decide⟩
  · exact ⟨2, by kernel_rfl, by kernel_rfl, by decide⟩
  · exact ⟨3, by kernel_rfl, by kernel_rfl, by decide⟩
  · exact ⟨4, by kernel_rfl, by kernel_rfl, by decide⟩
  · exact ⟨5, by kernel_rfl, by kernel_rfl, by decide⟩
  · exact ⟨6, by kernel_rfl, by kernel_rfl, by decide⟩
theorem cells_raw {v : Int} : g_impl_CellsOf ⟨0, [], 0, false, v⟩ = some [v] := by
  unfold g_impl_CellsOf
  have h0 : g_impl_nameTag 0 = some 0 := by kernel_rfl
  simp [h0]
def nameCells (t : Int) : List Int → List Int
  | [] => []
  | f :: r => (orI .u32 (IntKind.wrap .u32 (f * 16)) t) :: r.map fun f => orI .u32 (IntKind.wrap .u32 (f * 16)) 0
theorem cells_l0 {fs : List Int} (hl : fs.length ≤ 24) : ∀ (k n : Nat) (t : Int) (out : List Int), n ≤ fs.length → fs.length - n < k → out.length = n → (1 ≤ n → t = 0) →
    g_impl_CellsOf_l0 fs (fs.length : Int) k t out n = some (out ++ nameCells t (fs.drop n)) := by
  intro k
  induction k with
  | zero => intro n t out h0 h1 h2 h3; omega
  | succ k ih =>
    intro n t out h0 h1 h2 h3
    unfold g_impl_CellsOf_l0
    by_cases hn : n < fs.length
    · rw [decide_eq_true (by omega), getI_nat, List.getElem?_eq_getElem hn, List.drop_eq_getElem_cons hn]
      simp only [cond_true, Option.bind_some]
      rw [app_eq (by simp; omega), Option.bind_some, wI64 (by omega) (by omega), show ((n : Int) + 1) = ((n + 1 : Nat) : Int) by omega, ih (n + 1) 0 _ (by omega) (by omega) (by simp [h2]) (fun _ => rfl)]
      congr 1
      rw [List.append_assoc]
      congr 1
      simp only [nameCells, List.singleton_append]
      congr 1
      cases fs.drop (n + 1) with
      | nil => rfl
      | cons x r => rfl
    · rw [decide_eq_false (by omega), cond_false, List.drop_eq_nil_of_le (by omega)]
      simp [nameCells]
theorem cells_name {kd t : Int} {name : Bs} {fs : List Int} (ht : g_impl_nameTag kd = some t) (h0 : 0 < t) (hp : g_impl_Pack name = some fs) (hl : fs.length ≤ 24) :
    g_impl_CellsOf ⟨kd, name, 0, false, 0⟩ = some (nameCells t fs) := by
  unfold g_impl_CellsOf
  have := cells_l0 hl bigK 0 t [] (Nat.zero_le _) (by unfold bigK; omega) rfl (fun h => by omega)
  simp only [Int.natCast_zero, List.drop_zero, List.nil_append] at this
  simp [ht, hp, h0, this]
theorem cells_7 {n : Int} {hex : Bool} : g_impl_CellsOf ⟨7, [], n, hex, 0⟩ = g_impl_numberCells n hex 8 2 := by
  unfold g_impl_CellsOf
  have h0 : g_impl_nameTag 7 = some 0 := by kernel_rfl
  simp [h0]
  cases g_impl_numberCells n hex 8 2 <;> rfl
theorem cells_8 {n : Int} {hex : Bool} : g_impl_CellsOf ⟨8, [], n, hex, 0⟩ = g_impl_numberCells n hex 6 5 := by
  unfold g_impl_CellsOf
  have h0 : g_impl_nameTag 8 = some 0 := by kernel_rfl
  simp [h0]
  cases g_impl_numberCells n hex 6 5 <;> rfl
theorem cells_9 {n f : Int} {name : Bs} (hp : g_impl_Pack name = some [f]) : g_impl_CellsOf ⟨9, name, n, false, 0⟩ = some [orI .u32 (IntKind.wrap .u32 (f * 16)) 12, IntKind.wrap .u32 n] := by
  unfold g_impl_CellsOf
  have h0 : g_impl_nameTag 9 = some 0 := by kernel_rfl
  have h1 : getI [f] 0 = some f := rfl
  simp [h0, hp, h1]
theorem num_ok {n : Int} {hex : Bool} {s l : Int} : Tot (g_impl_numberCells n hex s l) fun r => U32 r ∧ r.length ≤ 2 := by
  unfold g_impl_numberCells
  refine .bind (Q := fun _ => True) (.cond (fun _ => .some trivial) fun _ => .some trivial) fun a _ => .bind (Q := fun _ => True) (.condD (fun _ => .some trivial) fun _ => .some trivial) fun b _ => .cond (fun _ => .some ⟨.one (wU32_bd _), by simp⟩) fun _ => .some ⟨?_, by simp⟩
  exact (U32.one (wU32_bd _)).app (.one (wU32_bd _))
end Go.Proofs.YtmlkglhpaneepaaGreatDoor
namespace Go.Proofs.YtmlkglhpaneepaaGreatDoor
open Go Go.Fm
def runP (c : Int) : Bool := c != 0 && c % 16 == 0
theorem scan_l0 {tl : List Int} (hu : U32 tl) (hl : tl.length ≤ 64) : ∀ (k n : Nat) (fields : List Int), n ≤ tl.length → tl.length - n < k → fields.length + (tl.length - n) ≤ 65 →
    g_impl_parseOne_l0 tl (tl.length : Int) k fields n = some (fields ++ ((tl.drop n).takeWhile runP).map (· / 16)) := by
  intro k
  induction k with
  | zero => intro n fields h0 h1; omega
  | succ k ih =>
    intro n fields h0 h1 h2
    unfold g_impl_parseOne_l0
    by_cases hn : n < tl.length
    · have hx := hu tl[n] (List.getElem_mem hn)
      rw [decide_eq_true (by omega), getI_nat, List.getElem?_eq_getElem hn, List.drop_eq_getElem_cons hn]
      simp only [cond_true, Option.bind_some]
      rw [and15 hx.1 hx.2]
      have hc : (cond (tl[n] == 0) (some true) (some (tl[n] % 16 != 0)) : Option Bool) = some (!runP tl[n]) := by
        have h : ∀ a b : Bool, (cond a (some true) (some (!b)) : Option Bool) = some (!(!a && b)) := by decide
        exact h _ _
      rw [hc, Option.bind_some]
      cases hr : runP tl[n] with
      | true =>
        simp only [Bool.not_true, cond_false]
        rw [app_eq (by simp; omega), Option.bind_some, wI64 (by omega) (by omega), show ((n : Int) + 1) = ((n + 1 : Nat) : Int) by omega, ih (n + 1) _ (by omega) (by omega) (by simp; omega), List.takeWhile_cons, hr]
        simp
      | false =>
        simp only [Bool.not_false, cond_true]
        rw [List.takeWhile_cons, hr]
        simp
    · rw [decide_eq_false (by omega), cond_false, List.drop_eq_nil_of_le (by omega)]
      simp
def isName (t : Int) : Bool := t == 1 || (t == 3 || (t == 4 || (t == 9 || (t == 10 || t == 11))))
theorem chain (t : Int) : (cond (t == 1) (some (t == 1)) (cond (t == 3) (some (t == 3)) (cond (t == 4) (some (t == 4)) (cond (t == 9) (some (t == 9)) (cond (t == 10) (some (t == 10)) (some (t == 11)))))) : Option Bool) = some (isName t) := by
  unfold isName
  cases t == 1 <;> cases t == 3 <;> cases t == 4 <;> cases t == 9 <;> cases t == 10 <;> rfl
theorem chain2 (t : Int) : (cond (t == 2) (some (t == 2)) (some (t == 5)) : Option Bool) = some (t == 2 || t == 5) := by cases t == 2 <;> rfl
def raw (v : Int) : GItem := ⟨0, [], 0, false, v⟩
def lng (v w : Int) : GItem := cond (v % 16 == 5) ⟨8, [], IntKind.wrap .i32 w, andI .u32 v 16 != 0, 0⟩ ⟨7, [], IntKind.wrap .i32 w, andI .u32 v 16 != 0, 0⟩
def pm (v : Int) (run : List Int) (nx : Option Int) : Option GItem :=
  cond (isName (v % 16)) ((g_impl_Unpack (v / 16 :: run.map (· / 16))).bind fun y => cond y.2 ((g_impl_nameKind (v % 16)).bind fun k => some ⟨k, y.1, 0, false, 0⟩) (some (raw v)))
  (cond (v % 16 == 8) (some ⟨7, [], IntKind.wrap .i32 v / 32, andI .u32 v 16 != 0, 0⟩) (cond (v % 16 == 6) (some ⟨8, [], IntKind.wrap .i32 v / 32, andI .u32 v 16 != 0, 0⟩)
  (cond (v % 16 == 2 || v % 16 == 5) (match nx with
    | none => some (raw v)
    | some w => (g_impl_CellsOf (lng v w)).bind fun y => cond (decide (y = [v, w])) (some (lng v w)) (some (raw v)))
  (cond (v % 16 == 12) (match nx with
    | none => some (raw v)
    | some w => (g_impl_FieldOk (v / 16)).bind fun b => cond b ((g_impl_UnpackOne (v / 16)).bind fun nm => some ⟨9, nm, IntKind.wrap .i32 w, false, 0⟩) (some (raw v))) (some (raw v))))))
theorem lng_cells {v w : Int} : Tot (g_impl_CellsOf (lng v w)) fun r => U32 r ∧ r.length ≤ 2 := by
  unfold lng
  cases v % 16 == 5
  · rw [cond_false, cells_7]; exact num_ok
  · rw [cond_true, cells_8]; exact num_ok
theorem parse_pm {v : Int} {tl : List Int} (hu : U32 (v :: tl)) (hl : (v :: tl).length ≤ 64) : g_impl_parseOne (v :: tl) = pm v (tl.takeWhile runP) tl.head? := by
  have hv := hu v (List.mem_cons_self ..)
  have hut : U32 tl := fun x hx => hu x (List.mem_cons_of_mem _ hx)
  have hlt : tl.length ≤ 63 := by simp at hl; omega
  have e0 : getI (v :: tl) 0 = some v := rfl
  unfold g_impl_parseOne pm
  rw [e0]
  simp only [Option.bind_some, and15 hv.1 hv.2, chain, chain2]
  cases isName (v % 16) with
  | true =>
    simp only [cond_true]
    have hs := scan_l0 hut (by omega) bigK 0 [v / 16] (Nat.zero_le _) (by unfold bigK; omega) (by simp; omega)
    simp only [Int.natCast_zero, List.drop_zero, List.singleton_append] at hs
    rw [subL_drop (by decide) (by simp; omega), Option.bind_some, show List.drop (Int.toNat 1) (v :: tl) = tl from rfl, hs]
    simp only [Option.bind_some]
    cases g_impl_Unpack (v / 16 :: List.map (· / 16) (tl.takeWhile runP)) with
    | none => rfl
    | some y =>
      simp only [Option.bind_some]
      cases y.2 with
      | true =>
        simp only [cond_true]
        cases g_impl_nameKind (v % 16) <;> rfl
      | false => rfl
  | false =>
    simp only [cond_false]
    cases v % 16 == 8 with
    | true => rfl
    | false =>
      simp only [cond_false]
      cases v % 16 == 6 with
      | true => rfl
      | false =>
        simp only [cond_false]
        cases h25 : (v % 16 == 2 || v % 16 == 5) with
        | true =>
          simp only [cond_true]
          cases tl with
          | nil => rfl
          | cons w tl =>
            have e1 : getI (v :: w :: tl) 1 = some w := rfl
            have e2 : decide ((((v :: w :: tl).length : Nat) : Int) < 2) = false := decide_eq_false (by simp; omega)
            have e3 : (cond (v % 16 == 5) (some (⟨8, [], IntKind.wrap .i32 w, andI .u32 v 16 != 0, 0⟩ : GItem)) (some ⟨7, [], IntKind.wrap .i32 w, andI .u32 v 16 != 0, 0⟩)) = some (lng v w) := by
              unfold lng; cases v % 16 == 5 <;> rfl
            obtain ⟨cs, hcs, hcu, hcl⟩ := lng_cells (v := v) (w := w)
            rw [e2, e1]
            simp only [cond_false, Option.bind_some, e3, hcs, List.head?_cons]
            rw [subL_take (by decide) (by simp; omega)]
            simp only [Option.bind_some]
            rw [eqU (by omega), show List.take (Int.toNat 2) (v :: w :: tl) = [v, w] from rfl]
            simp only [Option.bind_some]
            cases decide (cs = [v, w]) <;> rfl
        | false =>
          simp only [cond_false]
          cases v % 16 == 12 with
          | false => rfl
          | true =>
            simp only [cond_true]
            cases tl with
            | nil => rfl
            | cons w tl =>
              have e1 : getI (v :: w :: tl) 1 = some w := rfl
              have e2 : decide ((((v :: w :: tl).length : Nat) : Int) > 1) = true := decide_eq_true (by simp; omega)
              rw [e2, e1]
              simp only [cond_true, List.head?_cons, Option.bind_some]
              cases g_impl_FieldOk (v / 16) with
              | none => rfl
              | some b =>
                simp only [Option.bind_some]
                cases b with
                | false => rfl
                | true =>
                  simp only [cond_true]
                  cases g_impl_UnpackOne (v / 16) <;> rfl
end Go.Proofs.YtmlkglhpaneepaaGreatDoor
namespace Go.Proofs.YtmlkglhpaneepaaGreatDoor
open Go Go.Fm
theorem runP_iff {c : Int} : runP c = true ↔ c ≠ 0 ∧ c % 16 = 0 := by unfold runP; simp
theorem nameCells_back {v : Int} {run : List Int} (hv : 0 ≤ v ∧ v < 4294967296) (hr : ∀ c ∈ run, (0 ≤ c ∧ c < 4294967296) ∧ runP c = true) :
    nameCells (v % 16) (v / 16 :: run.map (· / 16)) = v :: run := by
  show orI .u32 (IntKind.wrap .u32 (v / 16 * 16)) (v % 16) :: (run.map (· / 16)).map (fun f => orI .u32 (IntKind.wrap .u32 (f * 16)) 0) = v :: run
  rw [or16 (by omega) (by omega) (by omega) (by omega), show v / 16 * 16 + v % 16 = v by omega, List.map_map]
  congr 1
  conv => rhs; rw [← List.map_id run]
  refine List.map_congr_left fun c hc => ?_
  obtain ⟨h1, h2⟩ := hr c hc
  have h3 := runP_iff.1 h2
  show orI .u32 (IntKind.wrap .u32 (c / 16 * 16)) 0 = c
  rw [or16 (by omega) (by omega) (by decide) (by decide)]
  omega
theorem short_back {v t : Int} (hv : 0 ≤ v ∧ v < 4294967296) (ht : v % 16 = t) (l : Int) :
    g_impl_numberCells (IntKind.wrap .i32 v / 32) (andI .u32 v 16 != 0) t l = some [v] := by
  unfold g_impl_numberCells
  have hN : IntKind.wrap .i32 v = if v < 2147483648 then v else v - 4294967296 := by
    simp [IntKind.wrap, IntKind.bits, IntKind.signed]; omega
  rw [and16 hv.1 hv.2]
  have hb : (cond (decide (v / 16 % 2 = 1)) (some 16) (some 0) : Option Int) = some (v / 16 % 2 * 16) := by
    by_cases h : v / 16 % 2 = 1
    · simp [h]
    · have : v / 16 % 2 = 0 := by omega
      simp [this]
  rw [hb]
  have h1 : IntKind.wrap .i32 v / 32 ≥ -67108864 := by rw [hN]; split <;> omega
  have h2 : IntKind.wrap .i32 v / 32 ≤ 67108863 := by rw [hN]; split <;> omega
  have h3 : IntKind.wrap .u32 (IntKind.wrap .u32 (IntKind.wrap .i32 v / 32) * 32) = v / 32 * 32 := by
    rw [hN]
    simp [IntKind.wrap, IntKind.bits, IntKind.signed]
    split <;> omega
  simp only [Option.bind_some, h1, h2, decide_true, cond_true]
  rw [h3, orU (a := v / 32 * 32) (by omega) (by omega) (by omega) (by omega)]
  have e1 : (v / 32 * 32).toNat ||| (v / 16 % 2 * 16).toNat = 32 * (v.toNat / 32) + v.toNat / 16 % 2 * 16 := by
    rw [show (v / 32 * 32).toNat = 2 ^ 5 * (v.toNat / 32) by omega, show (v / 16 % 2 * 16).toNat = v.toNat / 16 % 2 * 16 by omega, or_low 5 (by omega)]
  rw [e1, orU (by omega) (by omega) (by omega) (by omega)]
  have e2 : ((32 * (v.toNat / 32) + v.toNat / 16 % 2 * 16 : Nat) : Int).toNat ||| t.toNat = v.toNat := by
    rw [Int.toNat_natCast, show 32 * (v.toNat / 32) + v.toNat / 16 % 2 * 16 = 2 ^ 4 * (v.toNat / 16) by omega, or_low 4 (by omega)]
    omega
  rw [e2, Int.toNat_of_nonneg hv.1]
theorem field_ok {f : Int} : Tot (g_impl_FieldOk f) fun b => b = true → ∃ nm, g_impl_UnpackOne f = some nm ∧ nm.length ≤ 7 ∧ g_impl_Pack nm = some [f] := by
  unfold g_impl_FieldOk
  obtain ⟨nm, hnm, hl⟩ := unpackOne_ok (f := f)
  obtain ⟨p, hp, _, hpl⟩ := pack_ok (s := nm) (by omega)
  rw [hnm]
  refine .bindE rfl (.bindE hp (.bindE (eqU (by omega)) (.some fun h => ⟨nm, rfl, hl, ?_⟩)))
  rw [hp, of_decide_eq_true h]
theorem pm_ok {v : Int} {run : List Int} {nx : Option Int} (hv : 0 ≤ v ∧ v < 4294967296) (hr : ∀ c ∈ run, (0 ≤ c ∧ c < 4294967296) ∧ runP c = true) (hn : ∀ w, nx = some w → 0 ≤ w ∧ w < 4294967296) :
    ∃ it cs, pm v run nx = some it ∧ g_impl_CellsOf it = some cs ∧ it.Name.length ≤ 168 ∧
      ((cs = v :: run ∧ ∀ nx', pm v run nx' = some it) ∨ (cs = [v] ∧ ∀ nx', nx' = nx ∨ nx' = none → pm v run nx' = some it) ∨ (∃ w, nx = some w ∧ cs = [v, w])) := by
  have hraw : g_impl_CellsOf (raw v) = some [v] := cells_raw
  have hrl : (raw v).Name.length ≤ 168 := by show ([] : Bs).length ≤ 168; simp
  cases h1 : isName (v % 16) with
  | true =>
    obtain ⟨y, hy, hyl, hyp⟩ := unpack_ok (l := v / 16 :: run.map (· / 16))
    cases h2 : y.2 with
    | false =>
      have e : ∀ nx', pm v run nx' = some (raw v) := fun nx' => by unfold pm; rw [h1, cond_true, hy, Option.bind_some, h2, cond_false]
      exact ⟨raw v, [v], e nx, hraw, hrl, .inr (.inl ⟨rfl, fun nx' _ => e nx'⟩)⟩
    | true =>
      have ht : v % 16 = 1 ∨ v % 16 = 3 ∨ v % 16 = 4 ∨ v % 16 = 9 ∨ v % 16 = 10 ∨ v % 16 = 11 := by simpa [isName] using h1
      obtain ⟨k, hk, hkt, _⟩ := nameKind_eq ht
      have e : ∀ nx', pm v run nx' = some ⟨k, y.1, 0, false, 0⟩ := fun nx' => by unfold pm; rw [h1, cond_true, hy, Option.bind_some, h2, cond_true, hk, Option.bind_some]
      have hp := hyp h2
      obtain ⟨p, hp', _, hpl⟩ := pack_ok (s := y.1) (by omega)
      rw [hp] at hp'
      cases hp'
      refine ⟨_, _, e nx, cells_name hkt (by omega) hp hpl, hyl, .inl ⟨nameCells_back hv hr, e⟩⟩
  | false =>
    by_cases h8 : v % 16 = 8
    · have e : ∀ nx', pm v run nx' = some ⟨7, [], IntKind.wrap .i32 v / 32, andI .u32 v 16 != 0, 0⟩ := fun nx' => by unfold pm; rw [h1, cond_false, h8]; rfl
      exact ⟨_, [v], e nx, by rw [cells_7]; exact short_back hv h8 2, by simp, .inr (.inl ⟨rfl, fun nx' _ => e nx'⟩)⟩
    by_cases h6 : v % 16 = 6
    · have e : ∀ nx', pm v run nx' = some ⟨8, [], IntKind.wrap .i32 v / 32, andI .u32 v 16 != 0, 0⟩ := fun nx' => by unfold pm; rw [h1, cond_false, h6]; rfl
      exact ⟨_, [v], e nx, by rw [cells_8]; exact short_back hv h6 5, by simp, .inr (.inl ⟨rfl, fun nx' _ => e nx'⟩)⟩
    have b8 : (v % 16 == 8) = false := by simpa using h8
    have b6 : (v % 16 == 6) = false := by simpa using h6
    cases h25 : (v % 16 == 2 || v % 16 == 5) with
    | true =>
      have e0 : pm v run none = some (raw v) := by unfold pm; rw [h1, cond_false, b8, cond_false, b6, cond_false, h25, cond_true]
      cases nx with
      | none => exact ⟨raw v, [v], e0, hraw, hrl, .inr (.inl ⟨rfl, fun nx' h => by rcases h with rfl | rfl <;> exact e0⟩)⟩
      | some w =>
        obtain ⟨cs, hcs, _, hcl⟩ := lng_cells (v := v) (w := w)
        have e1 : pm v run (some w) = cond (decide (cs = [v, w])) (some (lng v w)) (some (raw v)) := by
          unfold pm; rw [h1, cond_false, b8, cond_false, b6, cond_false, h25, cond_true]
          simp only [hcs, Option.bind_some]
        by_cases hc : cs = [v, w]
        · rw [decide_eq_true hc, cond_true] at e1
          refine ⟨_, _, e1, hcs, ?_, .inr (.inr ⟨w, rfl, hc⟩)⟩
          unfold lng
          cases v % 16 == 5 <;> simp
        · rw [decide_eq_false hc, cond_false] at e1
          exact ⟨raw v, [v], e1, hraw, hrl, .inr (.inl ⟨rfl, fun nx' h => by rcases h with rfl | rfl; exact e1; exact e0⟩)⟩
    | false =>
      cases h12 : v % 16 == 12 with
      | false =>
        have e : ∀ nx', pm v run nx' = some (raw v) := fun nx' => by unfold pm; rw [h1, cond_false, b8, cond_false, b6, cond_false, h25, cond_false, h12, cond_false]
        exact ⟨raw v, [v], e nx, hraw, hrl, .inr (.inl ⟨rfl, fun nx' _ => e nx'⟩)⟩
      | true =>
        have e0 : pm v run none = some (raw v) := by unfold pm; rw [h1, cond_false, b8, cond_false, b6, cond_false, h25, cond_false, h12, cond_true]
        cases nx with
        | none => exact ⟨raw v, [v], e0, hraw, hrl, .inr (.inl ⟨rfl, fun nx' h => by rcases h with rfl | rfl <;> exact e0⟩)⟩
        | some w =>
          obtain ⟨b, hb, hbf⟩ := field_ok (f := v / 16)
          have e1 : pm v run (some w) = cond b ((g_impl_UnpackOne (v / 16)).bind fun nm => some ⟨9, nm, IntKind.wrap .i32 w, false, 0⟩) (some (raw v)) := by
            unfold pm; rw [h1, cond_false, b8, cond_false, b6, cond_false, h25, cond_false, h12, cond_true]
            simp only [hb, Option.bind_some]
          cases b with
          | false => exact ⟨raw v, [v], e1, hraw, hrl, .inr (.inl ⟨rfl, fun nx' h => by rcases h with rfl | rfl; exact e1; exact e0⟩)⟩
          | true =>
            obtain ⟨nm, h2, h3, h4⟩ := hbf rfl
            rw [cond_true, h2, Option.bind_some] at e1
            have ht : v % 16 = 12 := by simpa using h12
            have hw := hn w rfl
            refine ⟨_, _, e1, cells_9 h4, by show nm.length ≤ 168; omega, .inr (.inr ⟨w, rfl, ?_⟩)⟩
            rw [or16 (by omega) (by omega) (by decide) (by decide)]
            have : IntKind.wrap .u32 (IntKind.wrap .i32 w) = w := by
              simp [IntKind.wrap, IntKind.bits, IntKind.signed]; split <;> omega
            rw [this, show v / 16 * 16 + 12 = v by omega]
theorem parse_ok {v : Int} {tl : List Int} (hu : U32 (v :: tl)) (hl : (v :: tl).length ≤ 64) :
    ∃ it cs, g_impl_parseOne (v :: tl) = some it ∧ g_impl_CellsOf it = some cs ∧ it.Name.length ≤ 168 ∧ 1 ≤ cs.length ∧ (∃ rest, v :: tl = cs ++ rest) ∧
      (∀ tl' z, tl = tl' ++ List.replicate z 0 → cs.length ≤ (v :: tl').length → g_impl_parseOne (v :: tl') = some it) := by
  have hv := hu v (List.mem_cons_self ..)
  have hut : U32 tl := fun x hx => hu x (List.mem_cons_of_mem _ hx)
  obtain ⟨it, cs, h1, h2, h3, h4⟩ := pm_ok (v := v) (run := tl.takeWhile runP) (nx := tl.head?) hv
    (fun c hc => ⟨hut c ((List.takeWhile_sublist runP).subset hc), by have := List.all_takeWhile (p := runP) (l := tl); exact List.all_eq_true.1 this c hc⟩)
    (fun w hw => hut w (List.mem_of_mem_head? hw))
  refine ⟨it, cs, by rw [parse_pm hu hl]; exact h1, h2, h3, ?_, ?_, fun tl' z hz hc => ?_⟩
  · rcases h4 with ⟨rfl, _⟩ | ⟨rfl, _⟩ | ⟨w, _, rfl⟩ <;> simp
  · rcases h4 with ⟨rfl, _⟩ | ⟨rfl, _⟩ | ⟨w, hw, rfl⟩
    · exact ⟨tl.dropWhile runP, by rw [List.cons_append, List.takeWhile_append_dropWhile]⟩
    · exact ⟨tl, rfl⟩
    · cases tl with
      | nil => cases hw
      | cons x r => simp at hw; subst hw; exact ⟨r, rfl⟩
  · have hu' : U32 (v :: tl') := fun x hx => hu x (by
      rw [hz]
      rcases List.mem_cons.1 hx with rfl | hx
      · exact List.mem_cons_self ..
      · exact List.mem_cons_of_mem _ (List.mem_append_left _ hx))
    have hl' : (v :: tl').length ≤ 64 := by rw [hz] at hl; simp at hl ⊢; omega
    have htw : tl.takeWhile runP = tl'.takeWhile runP := by
      rw [hz, List.takeWhile_append]
      split
      · rename_i he
        have : (List.replicate z (0 : Int)).takeWhile runP = [] := by
          cases z with
          | zero => rfl
          | succ z => rw [List.replicate_succ, List.takeWhile_cons]; rfl
        rw [this, List.append_nil]
        exact (List.takeWhile_sublist runP).eq_of_length he |>.symm
      · rfl
    rw [parse_pm hu' hl', ← htw]
    rcases h4 with ⟨rfl, g⟩ | ⟨rfl, g⟩ | ⟨w, hw, rfl⟩
    · exact g _
    · refine g _ ?_
      cases tl' with
      | nil => exact .inr rfl
      | cons x r => left; rw [hz]; rfl
    · cases tl' with
      | nil => simp at hc
      | cons x r =>
        have : tl.head? = (x :: r).head? := by rw [hz]; rfl
        rw [← this]
        exact h1
end Go.Proofs.YtmlkglhpaneepaaGreatDoor
namespace Go.Proofs.YtmlkglhpaneepaaGreatDoor
open Go Go.Fm
inductive Parses : List Int → List GItem → Prop where
  | nil : Parses [] []
  | cons {cells rest cs : List Int} {it : GItem} {its : List GItem} (h1 : g_impl_parseOne cells = some it) (h2 : g_impl_CellsOf it = some cs) (h3 : 1 ≤ cs.length) (h4 : cells = cs ++ rest) (h5 : Parses rest its) : Parses cells (it :: its)
theorem parses_ex : ∀ (n : Nat) (cells : List Int), cells.length ≤ n → U32 cells → cells.length ≤ 64 → ∃ its, Parses cells its := by
  intro n
  induction n with
  | zero => intro cells h _ _; cases cells with
    | nil => exact ⟨[], .nil⟩
    | cons v tl => simp at h
  | succ n ih =>
    intro cells h hu hl
    cases cells with
    | nil => exact ⟨[], .nil⟩
    | cons v tl =>
      obtain ⟨it, cs, h1, h2, h3, h4, ⟨rest, h5⟩, _⟩ := parse_ok hu hl
      have hlen : (v :: tl).length = cs.length + rest.length := by rw [h5, List.length_append]
      obtain ⟨its, h6⟩ := ih rest (by omega) (fun x hx => hu x (by rw [h5]; exact List.mem_append_right _ hx)) (by omega)
      exact ⟨it :: its, .cons h1 h2 h4 h5 h6⟩
theorem Parses.len {cells : List Int} {its : List GItem} (h : Parses cells its) : its.length ≤ cells.length := by
  induction h with
  | nil => exact Nat.le_refl _
  | cons h1 h2 h3 h4 h5 ih => rw [h4, List.length_append, List.length_cons]; omega
theorem parse_l0 : ∀ (k : Nat) (cells : List Int) (out its : List GItem), Parses cells its → cells.length < k → out.length + cells.length ≤ 64 → g_impl_ParseCells_l0 k cells out = some (out ++ its) := by
  intro k
  induction k with
  | zero => intro cells out its hp h; omega
  | succ k ih =>
    intro cells out its hp h hl
    unfold g_impl_ParseCells_l0
    cases hp with
    | nil => simp
    | cons h1 h2 h3 h4 h5 =>
      rename_i rest cs it its'
      have hlen : cells.length = cs.length + rest.length := by rw [h4, List.length_append]
      rw [decide_eq_true (by omega), cond_true, h1, Option.bind_some, app_eq (by simp; omega), Option.bind_some, h2, Option.bind_some, subL_drop (by omega) (by omega), Option.bind_some]
      have hd : cells.drop ((cs.length : Int)).toNat = rest := by rw [h4, Int.toNat_natCast, List.drop_left]
      rw [hd, ih rest _ _ h5 (by omega) (by simp; omega), List.append_assoc]
      rfl
def rz : GItem := raw 0
theorem isRz (v : GItem) : ((v.Kind : Int) == 0 && ((v.Name : Bs) == [] && ((v.N : Int) == 0 && ((v.Hex : Bool) == false && ((v.Raw : Int) == 0 && true))))) = decide (v = rz) := by
  obtain ⟨a, b, c, d, e⟩ := v
  rw [Bool.eq_iff_iff]
  simp [rz, raw]
theorem strip_l1 : ∀ (k : Nat) (out : List GItem), out.length < k → out.length ≤ 64 → ∃ its z, out = its ++ List.replicate z rz ∧ (∀ x, its ≠ x ++ [rz]) ∧ g_impl_ParseCells_l1 k out ((out.length : Int) - 1) = some its := by
  intro k
  induction k with
  | zero => intro out h; omega
  | succ k ih =>
    intro out h hl
    unfold g_impl_ParseCells_l1
    rcases List.eq_nil_or_concat out with rfl | ⟨xs, x, rfl⟩
    · exact ⟨[], 0, rfl, by simp, rfl⟩
    · simp only [List.concat_eq_append] at *
      have hlen : (xs ++ [x]).length = xs.length + 1 := by simp
      rw [decide_eq_true (by omega), cond_true, show (((xs ++ [x]).length : Nat) : Int) - 1 = ((xs.length : Nat) : Int) by omega, getI_nat, List.getElem?_concat_length]
      simp only [Option.bind_some, isRz]
      by_cases hx : x = rz
      · rw [decide_eq_true hx, cond_true, subL_take (by omega) (by omega), Option.bind_some, Int.toNat_natCast, List.take_left, wI64 (by omega) (by omega)]
        obtain ⟨its, z, h1, h2, h3⟩ := ih xs (by omega) (by omega)
        refine ⟨its, z + 1, ?_, h2, h3⟩
        rw [hx, h1, List.append_assoc, ← List.replicate_succ']
      · rw [decide_eq_false hx, cond_false]
        refine ⟨xs ++ [x], 0, by simp, fun y hy => hx ?_, rfl⟩
        have := List.append_inj' hy rfl
        simpa using this.2
theorem parses_zero : ∀ (z : Nat) (cells : List Int), Parses cells (List.replicate z rz) → cells = List.replicate z 0
  | 0, cells, h => by cases h; rfl
  | z + 1, cells, h => by
    rw [List.replicate_succ] at h
    cases h with
    | cons h1 h2 h3 h4 h5 =>
      have : g_impl_CellsOf rz = some [0] := cells_raw
      rw [this] at h2
      cases h2
      rw [h4, parses_zero z _ h5, List.replicate_succ]; rfl
theorem parses_cut : ∀ (its : List GItem) (z : Nat) (cells : List Int), U32 cells → cells.length ≤ 64 → Parses cells (its ++ List.replicate z rz) → ∃ cells', cells = cells' ++ List.replicate z 0 ∧ Parses cells' its
  | [], z, cells, _, _, h => ⟨[], parses_zero z cells h, .nil⟩
  | it :: its, z, cells, hu, hl, h => by
    rw [List.cons_append] at h
    cases h with
    | cons h1 h2 h3 h4 h5 =>
      rename_i rest cs
      have hlen : cells.length = cs.length + rest.length := by rw [h4, List.length_append]
      obtain ⟨rest', e1, e2⟩ := parses_cut its z rest (fun x hx => hu x (by rw [h4]; exact List.mem_append_right _ hx)) (by omega) h5
      match cs, h3 with
      | v :: ct, _ =>
        have hc : cells = v :: (ct ++ rest) := h4
        rw [hc] at hu hl h1
        obtain ⟨it1, cs1, g1, g2, _, _, _, g6⟩ := parse_ok hu hl
        rw [h1] at g1
        cases g1
        rw [h2] at g2
        cases g2
        refine ⟨(v :: ct) ++ rest', by rw [h4, e1, List.append_assoc], .cons (g6 (ct ++ rest') z (by rw [e1, List.append_assoc]) (by simp)) h2 (by simp) rfl e2⟩
theorem parseCells_ok {cells : List Int} (hu : U32 cells) (hl : cells.length ≤ 64) : ∃ its cells' z, g_impl_ParseCells cells = some its ∧ cells = cells' ++ List.replicate z 0 ∧ Parses cells' its ∧ (∀ x, its ≠ x ++ [rz]) := by
  obtain ⟨all, hp⟩ := parses_ex _ cells (Nat.le_refl _) hu hl
  have hlen := hp.len
  obtain ⟨its, z, h1, h2, h3⟩ := strip_l1 bigK all (by unfold bigK; omega) (by omega)
  have hp2 := hp
  rw [h1] at hp2
  obtain ⟨cells', e1, e2⟩ := parses_cut its z cells hu hl hp2
  refine ⟨its, cells', z, ?_, e1, e2, h2⟩
  unfold g_impl_ParseCells
  rw [decide_eq_false (by omega), cond_false, parse_l0 bigK cells [] all hp (by unfold bigK; omega) (by simpa using hl), Option.bind_some, List.nil_append, wI64 (by omega) (by omega), h3]
  rfl
end Go.Proofs.YtmlkglhpaneepaaGreatDoor
namespace Go.Proofs.YtmlkglhpaneepaaGreatDoor
open Go Go.Fm
theorem unpack_l0_eq {l : List Int} (hu : U32 l) (hl : l.length ≤ 1048576) : ∀ (k : Nat) (name : Bs) (n : Nat), n ≤ l.length → g_spec_Unpack_l0 l k name n = g_impl_Unpack_l0 l (l.length : Int) k name n := by
  intro k
  induction k with
  | zero => intro name n _; rfl
  | succ k ih =>
    intro name n h0
    unfold g_spec_Unpack_l0 g_impl_Unpack_l0
    by_cases hn : n < l.length
    · have hb := hu l[n] (List.getElem_mem hn)
      rw [decide_eq_true (by omega), getI_nat, List.getElem?_eq_getElem hn, cond_true, cond_true, Option.bind_some, Option.bind_some, unpackOne_eq hb.1 hb.2]
      obtain ⟨s, hs, _⟩ := unpackOne_ok (f := l[n])
      rw [hs, Option.bind_some, Option.bind_some]
      cases catS name s with
      | none => rfl
      | some o => rw [Option.bind_some, Option.bind_some, wI64 (by omega) (by omega), show ((n : Int) + 1) = ((n + 1 : Nat) : Int) by omega]; exact ih _ _ (by omega)
    · rw [decide_eq_false (by omega)]; rfl
theorem unpack_eq {l : List Int} (hu : U32 l) : g_spec_Unpack l = g_impl_Unpack l := by
  unfold g_impl_Unpack
  unfold g_spec_Unpack
  by_cases hl : (l.length : Int) > 24
  · rw [decide_eq_true hl, cond_true, cond_true]
  · rw [decide_eq_false hl]
    simp only [cond_false]
    have hE := unpack_l0_eq hu (by omega) bigK [] 0 (Nat.zero_le _)
    rw [Int.natCast_zero] at hE
    rw [hE]
    have key : ∀ (k : Nat) (name : Bs) (i : Int), 0 ≤ i → i ≤ l.length → (name.length : Int) ≤ 7 * i → l.length - i < k → Tot (g_impl_Unpack_l0 l (l.length : Int) k name i) fun r => r.length ≤ 168 := by
      intro k
      induction k with
      | zero => intro name i h0 h1 h2 h3; omega
      | succ k ih =>
        intro name i h0 h1 h2 h3
        unfold g_impl_Unpack_l0
        refine .condD (fun hi => ?_) fun _ => .some (by omega)
        obtain ⟨v, hv, _⟩ := getI_ex h0 hi
        refine .bindE hv (.bind unpackOne_ok fun s hs => .bindE (catS_eq (by omega)) ?_)
        rw [wI64 (x := i + 1) (by omega) (by omega)]
        exact ih _ _ (by omega) (by omega) (by rw [List.length_append]; omega) (by omega)
    obtain ⟨nm, hnm, hnl⟩ := key bigK [] 0 (by decide) (by omega) (by decide) (by unfold bigK; omega)
    rw [hnm]
    simp only [Option.bind_some]
    rw [specNameOk (by omega), implNameOk (by omega), pack_eq (by omega)]
    obtain ⟨p, hp, _, hpl⟩ := pack_ok (s := nm) (by omega)
    rw [hp]
    simp only [Option.bind_some]
    rw [same_eq (by omega), eqU (by omega)]
theorem fieldOk_eq {f : Int} (h0 : 0 ≤ f) (h1 : f < 4294967296) : g_spec_FieldOk f = g_impl_FieldOk f := by
  unfold g_spec_FieldOk g_impl_FieldOk
  rw [unpackOne_eq h0 h1]
  obtain ⟨s, hs, hl⟩ := unpackOne_ok (f := f)
  rw [hs]
  simp only [Option.bind_some]
  rw [pack_eq (by omega)]
  obtain ⟨p, hp, _, hpl⟩ := pack_ok (s := s) (by omega)
  rw [hp]
  simp only [Option.bind_some]
  rw [eqU (by omega)]
  cases p with
  | nil => rfl
  | cons a r =>
    cases r with
    | nil =>
      have : getI [a] 0 = some a := rfl
      simp [this]
      by_cases h : a = f
      · simp [h]
      · simp [h]
    | cons b r =>
      have : (((a :: b :: r).length : Int) == 1) = false := by simp; omega
      rw [this]
      simp
theorem tag_eq (k : Int) : g_spec_l04Tag k = g_impl_nameTag k := rfl
theorem wmul16 (f : Int) : (IntKind.wrap .u32 (f * 16)) % 16 = 0 := by
  simp [IntKind.wrap, IntKind.bits, IntKind.signed]
theorem or_tag {f t : Int} (t0 : 0 ≤ t) (t1 : t < 16) : orI .u32 (IntKind.wrap .u32 (f * 16)) t = IntKind.wrap .u32 (IntKind.wrap .u32 (f * 16) + t) := by
  have hb := wU32_bd (f * 16)
  have h16 := wmul16 f
  generalize IntKind.wrap .u32 (f * 16) = x at *
  rw [orU hb.1 hb.2 t0 (by omega), wU32 (by omega) (by omega)]
  have e : x.toNat = 2 ^ 4 * (x.toNat / 16) := by omega
  rw [e, or_low 4 (by omega)]
  omega
theorem or_zero {f : Int} : orI .u32 (IntKind.wrap .u32 (f * 16)) 0 = IntKind.wrap .u32 (f * 16) := by
  have hb := wU32_bd (f * 16)
  rw [or_tag (by decide) (by decide), Int.add_zero, wU32 hb.1 hb.2]
theorem word_l0 {t : Int} (t0 : 0 ≤ t) (t1 : t < 16) : ∀ (k : Nat) (done rest : List Int), done ≠ [] → rest.length < k → done.length + rest.length ≤ 1048576 →
    g_spec_l04Word_l0 t k (done ++ rest) done.length = some (done ++ rest.map fun f => orI .u32 (IntKind.wrap .u32 (f * 16)) 0) := by
  intro k
  induction k with
  | zero => intro done rest _ h1; omega
  | succ k ih =>
    intro done rest h0 h1 h2
    unfold g_spec_l04Word_l0
    cases rest with
    | nil => rw [decide_eq_false (by simp)]; simp
    | cons f r =>
      have hd : 1 ≤ done.length := by cases done with | nil => exact absurd rfl h0 | cons _ _ => simp
      rw [decide_eq_true (by simp; omega), getI_nat, List.getElem?_append_right (Nat.le_refl _), Nat.sub_self]
      have e0 : ((done.length : Int) == 0) = false := by simp; omega
      simp only [cond_true, List.getElem?_cons_zero, Option.bind_some, e0, cond_false]
      rw [Int.toNat_natCast, List.set_append_right _ _ (Nat.le_refl _), Nat.sub_self, List.set_cons_zero]
      rw [wI64 (by omega) (by simp at h2; omega)]
      have := ih (done ++ [IntKind.wrap .u32 (f * 16)]) r (by simp) (by simp at h1; omega) (by simp at h2 ⊢; omega)
      simp only [List.append_assoc, List.singleton_append, List.length_append, List.length_singleton] at this
      rw [show ((done.length : Int) + 1) = ((done.length + 1 : Nat) : Int) by omega, this, List.map_cons, or_zero]
theorem word_eq {t : Int} {s : Bs} {fs : List Int} (t0 : 0 ≤ t) (t1 : t < 16) (hs : s.length ≤ 1048576) (hp : g_impl_Pack s = some fs) (hl : fs.length ≤ 24) : g_spec_l04Word t s = some (nameCells t fs) := by
  unfold g_spec_l04Word
  rw [pack_eq hs, hp]
  simp only [Option.bind_some]
  cases fs with
  | nil => rfl
  | cons f r =>
    have h1 : g_spec_l04Word_l0 t bigK (f :: r) 0 = some (nameCells t (f :: r)) := by
      rw [show bigK = 18446744073709551615 + 1 from rfl]
      unfold g_spec_l04Word_l0
      have e1 : getI (f :: r) 0 = some f := rfl
      have e2 : ∀ x, getI ((f :: r).set (Int.toNat 0) x) 0 = some x := fun x => rfl
      rw [decide_eq_true (by simp), e1]
      simp only [cond_true, Option.bind_some, e2, show ((0 : Int) == 0) = true from rfl]
      rw [wI64 (by decide) (by decide)]
      have := word_l0 t0 t1 18446744073709551615 [IntKind.wrap .u32 (IntKind.wrap .u32 (f * 16) + t)] r (by simp) (by simp at hl; omega) (by simp at hl ⊢; omega)
      simp only [List.singleton_append, List.length_singleton] at this
      rw [show ((0 : Int) + 1) = ((1 : Nat) : Int) from rfl]
      rw [show List.set (List.set (f :: r) (Int.toNat 0) (IntKind.wrap .u32 (f * 16))) (Int.toNat 0) (IntKind.wrap .u32 (IntKind.wrap .u32 (f * 16) + t)) = IntKind.wrap .u32 (IntKind.wrap .u32 (f * 16) + t) :: r from rfl, this]
      simp only [nameCells, or_tag t0 t1]
    rw [h1]
    rfl
theorem num_eq {n : Int} {hex : Bool} {s l : Int} (hs : s = 8 ∨ s = 6) (hl : l = 2 ∨ l = 5) : g_spec_l04Num n hex s l = g_impl_numberCells n hex s l := by
  unfold g_spec_l04Num g_impl_numberCells
  have hb := wU32_bd (IntKind.wrap .u32 n * 32)
  have h32 : IntKind.wrap .u32 (IntKind.wrap .u32 n * 32) % 32 = 0 := by
    simp [IntKind.wrap, IntKind.bits, IntKind.signed]
  generalize IntKind.wrap .u32 (IntKind.wrap .u32 n * 32) = x at *
  have key : ∀ b : Int, (b = 0 ∨ b = 16) → IntKind.wrap .u32 (IntKind.wrap .u32 (x + b) + s) = orI .u32 (orI .u32 x b) s ∧ IntKind.wrap .u32 (b + l) = orI .u32 b l := fun b hb2 => by
    constructor
    · have h1 : orI .u32 x b = x + b := by
        rw [orU hb.1 hb.2 (by omega) (by omega), show x.toNat = 2 ^ 5 * (x.toNat / 32) by omega, or_low 5 (by omega)]; omega
      rw [h1, wU32 (x := x + b) (by omega) (by omega), orU (by omega) (by omega) (by omega) (by omega), show (x + b).toNat = 2 ^ 4 * ((x + b).toNat / 16) by omega, or_low 4 (by omega), wU32 (by omega) (by omega)]; omega
    · rcases hb2 with rfl | rfl <;> rcases hl with rfl | rfl <;> rfl
  have k0 := key 0 (.inl rfl)
  have k1 := key 16 (.inr rfl)
  cases hex with
  | true => simp only [cond_true, Option.bind_some, k1.1, k1.2]
  | false => simp only [cond_false, Option.bind_some, k0.1, k0.2]
theorem nameTag_vals (k : Int) : ∃ t, g_impl_nameTag k = some t ∧ 0 ≤ t ∧ t < 16 ∧ (0 < t → 1 ≤ k ∧ k ≤ 6) := by
  unfold g_impl_nameTag
  have hc : ∀ (b : Bool) (x y : Option Int) (Q : Int → Prop), (b = true → ∃ t, x = some t ∧ Q t) → (b = false → ∃ t, y = some t ∧ Q t) → ∃ t, cond b x y = some t ∧ Q t := fun b x y Q h1 h2 => by
    cases b with
    | true => exact h1 rfl
    | false => exact h2 rfl
  refine hc _ _ _ _ (fun h => ⟨1, rfl, by have := eq_of_beq h; omega⟩) fun _ => hc _ _ _ _ (fun h => ⟨3, rfl, by have := eq_of_beq h; omega⟩) fun _ => hc _ _ _ _ (fun h => ⟨4, rfl, by have := eq_of_beq h; omega⟩) fun _ =>
    hc _ _ _ _ (fun h => ⟨9, rfl, by have := eq_of_beq h; omega⟩) fun _ => hc _ _ _ _ (fun h => ⟨10, rfl, by have := eq_of_beq h; omega⟩) fun _ => hc _ _ _ _ (fun h => ⟨11, rfl, by have := eq_of_beq h; omega⟩) fun _ => ⟨0, rfl, by decide, by decide, fun h => absurd h (by decide)⟩
end Go.Proofs.YtmlkglhpaneepaaGreatDoor
namespace Go.Proofs.YtmlkglhpaneepaaGreatDoor
open Go Go.Fm
theorem plainE (a b c : Bool) : (cond a (cond (!b) (some c) (some false)) (some false) : Option Bool) = some (a && (!b && c)) := by cases a <;> cases b <;> cases c <;> rfl
theorem cells_eq {it : GItem} (hs : it.Name.length ≤ 1048576) : g_spec_CellsOf it = g_impl_CellsOf it := by
  obtain ⟨K, nm, n, hex, raw⟩ := it
  obtain ⟨t, ht, t0, t1, tk⟩ := nameTag_vals K
  obtain ⟨p, hp, _, hpl⟩ := pack_ok (s := nm) hs
  simp only at hs
  unfold g_spec_CellsOf g_impl_CellsOf
  simp only [tag_eq, ht, plainE, Option.bind_some, beq_self_eq_true, Bool.true_and, Bool.and_true, hp]
  generalize (n == 0) = bn
  generalize (raw == 0) = br
  by_cases k0 : K = 0
  · subst k0
    have : t = 0 := by
      have h : g_impl_nameTag 0 = some 0 := by kernel_rfl
      rw [h] at ht; cases ht; rfl
    subst this
    cases nm with
    | nil => cases bn <;> cases hex <;> simp
    | cons a b => simp
  by_cases k7 : K = 7
  · subst k7
    have : t = 0 := by
      have h : g_impl_nameTag 7 = some 0 := by kernel_rfl
      rw [h] at ht; cases ht; rfl
    subst this
    rw [num_eq (.inl rfl) (.inl rfl)]
    cases nm with
    | nil => cases br <;> simp <;> cases g_impl_numberCells n hex 8 2 <;> rfl
    | cons a b => simp
  by_cases k8 : K = 8
  · subst k8
    have : t = 0 := by
      have h : g_impl_nameTag 8 = some 0 := by kernel_rfl
      rw [h] at ht; cases ht; rfl
    subst this
    rw [num_eq (.inr rfl) (.inr rfl)]
    cases nm with
    | nil => cases br <;> simp <;> cases g_impl_numberCells n hex 6 5 <;> rfl
    | cons a b => simp
  by_cases k9 : K = 9
  · subst k9
    have : t = 0 := by
      have h : g_impl_nameTag 9 = some 0 := by kernel_rfl
      rw [h] at ht; cases ht; rfl
    subst this
    rw [word_eq (by decide) (by decide) hs hp hpl]
    cases p with
    | nil => simp [nameCells]
    | cons f r =>
      cases r with
      | nil =>
        have hg : getI [f] 0 = some f := rfl
        have ha : ∀ x y : Int, app [x] [y] = some [x, y] := fun x y => app_eq (by simp)
        cases br <;> cases hex <;> simp [nameCells, hg, ha]
      | cons g r =>
        have h2 : ∀ (a b : Int) (r : List Int), (((a :: b :: r).length : Int) == 1) = false := fun a b r => by simp; omega
        simp only [nameCells, List.map_cons, h2, Option.bind_some, cond_false]
        cases br <;> cases hex <;> simp
  · have e0 : (K == 0) = false := by simpa using k0
    have e7 : (K == 7) = false := by simpa using k7
    have e8 : (K == 8) = false := by simpa using k8
    have e9 : (K == 9) = false := by simpa using k9
    rw [word_eq t0 t1 hs hp hpl]
    have hc := cells_l0 hpl bigK 0 t [] (Nat.zero_le _) (by unfold bigK; omega) rfl (fun h => by omega)
    simp only [Int.natCast_zero, List.drop_zero, List.nil_append] at hc
    simp only [e0, e7, e8, e9, cond_false, Bool.false_and, hc, Option.bind_some]
    cases bn <;> cases br <;> cases hex <;> by_cases h0 : 0 < t <;> simp [h0]
theorem name_l0 {cells : List Int} (hu : U32 cells) (hl : cells.length ≤ 64) : ∀ (k n : Nat) (fields : List Int), n ≤ cells.length → cells.length - n < k → fields.length + (cells.length - n) ≤ 65 →
    g_spec_l04Name_l0 cells k fields n = some (fields ++ ((cells.drop n).takeWhile runP).map (· / 16)) := by
  intro k
  induction k with
  | zero => intro n fields h0 h1; omega
  | succ k ih =>
    intro n fields h0 h1 h2
    unfold g_spec_l04Name_l0
    by_cases hn : n < cells.length
    · have hx := hu cells[n] (List.getElem_mem hn)
      rw [decide_eq_true (by omega), getI_nat, List.getElem?_eq_getElem hn, List.drop_eq_getElem_cons hn]
      simp only [cond_true, Option.bind_some]
      rw [Int.tmod_eq_emod_of_nonneg hx.1, Int.tdiv_eq_ediv_of_nonneg hx.1]
      have hc : (cond (cells[n] % 16 == 0) (some (cells[n] != 0)) (some false) : Option Bool) = some (runP cells[n]) := by
        unfold runP
        cases cells[n] % 16 == 0 <;> cases cells[n] != 0 <;> rfl
      rw [hc, Option.bind_some]
      cases hr : runP cells[n] with
      | true =>
        simp only [cond_true]
        rw [wU32 (by omega) (by omega), app_eq (by simp; omega), Option.bind_some, wI64 (by omega) (by omega), show ((n : Int) + 1) = ((n + 1 : Nat) : Int) by omega, ih (n + 1) _ (by omega) (by omega) (by simp; omega), List.takeWhile_cons, hr]
        simp
      | false =>
        simp only [cond_false]
        rw [List.takeWhile_cons, hr]
        simp
    · rw [decide_eq_false (by omega), cond_false, List.drop_eq_nil_of_le (by omega)]
      simp
theorem kind_eq {t : Int} (h0 : 0 ≤ t) (h1 : t < 16) : g_spec_l04Kind t = (if isName t then g_impl_nameKind t else some (-1)) ∧ (isName t = true → ∃ k, g_impl_nameKind t = some k ∧ 1 ≤ k) := by
  have h : (List.range 16).all (fun t => g_spec_l04Kind (t : Int) == (if isName (t : Int) then g_impl_nameKind (t : Int) else some (-1)) && (!isName (t : Int) || (match g_impl_nameKind (t : Int) with | some k => decide (1 ≤ k) | none => false))) = true := by kernel_rfl
  have h := List.all_eq_true.1 h t.toNat (List.mem_range.2 (by omega))
  rw [Int.toNat_of_nonneg h0, Bool.and_eq_true] at h
  refine ⟨eq_of_beq h.1, fun hn => ?_⟩
  have h2 := h.2
  rw [hn] at h2
  cases hk : g_impl_nameKind t with
  | none => rw [hk] at h2; simp at h2
  | some k => rw [hk] at h2; exact ⟨k, rfl, by simpa using h2⟩
theorem num_long {n : Int} {hex : Bool} {s l : Int} {cs : List Int} (h : g_impl_numberCells n hex s l = some cs) : cs.length = 1 ∨ cs = [orI .u32 (cond hex 16 0) l, IntKind.wrap .u32 n] := by
  unfold g_impl_numberCells at h
  have hb : (cond hex (some 16) (some 0) : Option Int) = some (cond hex 16 0) := by cases hex <;> rfl
  have hc : (cond (decide (n ≥ -67108864)) (some (decide (n ≤ 67108863))) (some false) : Option Bool) = some (decide (n ≥ -67108864) && decide (n ≤ 67108863)) := by cases decide (n ≥ -67108864) <;> rfl
  rw [hb, hc] at h
  simp only [Option.bind_some] at h
  cases h2 : (decide (n ≥ -67108864) && decide (n ≤ 67108863)) with
  | true => rw [h2] at h; cases h; exact .inl rfl
  | false => rw [h2] at h; cases h; exact .inr rfl
theorem nameCells_len {t : Int} {l : List Int} : (nameCells t l).length = l.length := by cases l <;> simp [nameCells]
theorem item_eq {cells tl : List Int} {n : Nat} {v : Int} (hu : U32 cells) (hl : cells.length ≤ 64) (hd : cells.drop n = v :: tl) :
    Tot (g_spec_l04Item cells n) fun r => pm v (tl.takeWhile runP) tl.head? = some r.1 ∧ ∀ cs, g_impl_CellsOf r.1 = some cs → r.2 = cs.length := by
  have hn : n < cells.length := by
    rcases Nat.lt_or_ge n cells.length with h | h
    · exact h
    · rw [List.drop_eq_nil_of_le h] at hd; cases hd
  have hc := List.drop_eq_getElem_cons hn
  rw [hd] at hc
  have hv0 : cells[n] = v := (List.cons.inj hc).1.symm
  have htl : cells.drop (n + 1) = tl := (List.cons.inj hc).2.symm
  have hv := hu v (by rw [← hv0]; exact List.getElem_mem hn)
  have hge : getI cells n = some v := by rw [getI_nat, List.getElem?_eq_getElem hn, hv0]
  have hn1 : IntKind.wrap .i64 ((n : Int) + 1) = ((n + 1 : Nat) : Int) := by rw [wI64 (by omega) (by omega)]; omega
  have htlen : tl.length = cells.length - (n + 1) := by rw [← htl, List.length_drop]
  have hnx : getI cells ((n + 1 : Nat) : Int) = tl.head? := by rw [getI_nat, ← htl, List.head?_drop]
  have hraw : ∀ cs, g_impl_CellsOf (raw v) = some cs → (1 : Int) = cs.length := fun cs h => by rw [show g_impl_CellsOf (raw v) = some [v] from cells_raw] at h; cases h; rfl
  have e16 : IntKind.wrap .u32 (Int.tdiv v 16) = v / 16 := by rw [Int.tdiv_eq_ediv_of_nonneg hv.1, wU32 (by omega) (by omega)]
  have hkd := kind_eq (t := v % 16) (by omega) (by omega)
  unfold g_spec_l04Item
  simp only [hge, Option.bind_some]
  rw [Int.tmod_eq_emod_of_nonneg hv.1, hkd.1, e16, hn1]
  cases h1 : isName (v % 16) with
  | true =>
    obtain ⟨kd, hkd1, hkd2⟩ := hkd.2 h1
    rw [if_pos rfl, hkd1]
    have hs := name_l0 hu hl bigK (n + 1) [v / 16] (by omega) (by unfold bigK; omega) (by simp; omega)
    rw [htl, List.singleton_append] at hs
    have hul : U32 (v / 16 :: (tl.takeWhile runP).map (· / 16)) := fun x hx => by
      rcases List.mem_cons.1 hx with rfl | hx
      · omega
      · obtain ⟨y, hy, rfl⟩ := List.mem_map.1 hx
        have := hu y (List.mem_of_mem_drop (by rw [htl]; exact (List.takeWhile_sublist runP).subset hy))
        omega
    obtain ⟨y, hy, hyl, hyp⟩ := unpack_ok (l := v / 16 :: (tl.takeWhile runP).map (· / 16))
    have hnm : g_spec_l04Name cells n kd = some (cond (!y.2) ((⟨0, [], 0, false, 0⟩ : GItem), 0) ((⟨kd, y.1, 0, false, 0⟩ : GItem), (((v / 16 :: (tl.takeWhile runP).map (· / 16)).length : Nat) : Int))) := by
      unfold g_spec_l04Name
      rw [hge]
      simp only [Option.bind_some]
      rw [e16, hn1, hs]
      simp only [Option.bind_some]
      rw [unpack_eq hul, hy]
      simp only [Option.bind_some]
      cases y.2 <;> rfl
    simp only [Option.bind_some]
    rw [decide_eq_true (by omega), cond_true, hnm]
    simp only [Option.bind_some]
    unfold pm
    rw [h1, cond_true, hy, Option.bind_some]
    cases h2 : y.2 with
    | false => exact .some ⟨rfl, hraw⟩
    | true =>
      have e : ((((v / 16 :: (tl.takeWhile runP).map (· / 16)).length : Nat) : Int) == 0) = false := by simp; omega
      simp only [Bool.not_true, cond_false, cond_true, e]
      refine .some ⟨by rw [hkd1]; rfl, fun cs hcs => ?_⟩
      obtain ⟨t, ht, t0, t1, _⟩ := nameTag_vals kd
      have hp := hyp h2
      obtain ⟨p, hp', _, hpl⟩ := pack_ok (s := y.1) (by omega)
      rw [hp] at hp'
      cases hp'
      have ht0 : 0 < t := by
        have hh : (List.range 16).all (fun x => !isName (x : Int) || (match (g_impl_nameKind (x : Int)).bind g_impl_nameTag with | some t => decide (0 < t) | none => false)) = true := by kernel_rfl
        have hh := List.all_eq_true.1 hh (v % 16).toNat (List.mem_range.2 (by omega))
        rw [Int.toNat_of_nonneg (by omega), h1, hkd1, Option.bind_some, ht] at hh
        simpa using hh
      rw [cells_name ht ht0 hp hpl] at hcs
      cases hcs
      rw [nameCells_len]
  | false =>
    rw [if_neg (by decide)]
    simp only [Option.bind_some]
    rw [show decide ((-1 : Int) ≥ 0) = false from rfl, cond_false]
    have hpm : ∀ nx, pm v (tl.takeWhile runP) nx = (cond (v % 16 == 8) (some ⟨7, [], IntKind.wrap .i32 v / 32, andI .u32 v 16 != 0, 0⟩) (cond (v % 16 == 6) (some ⟨8, [], IntKind.wrap .i32 v / 32, andI .u32 v 16 != 0, 0⟩)
      (cond (v % 16 == 2 || v % 16 == 5) (match nx with
        | none => some (raw v)
        | some w => (g_impl_CellsOf (lng v w)).bind fun y => cond (decide (y = [v, w])) (some (lng v w)) (some (raw v)))
      (cond (v % 16 == 12) (match nx with
        | none => some (raw v)
        | some w => (g_impl_FieldOk (v / 16)).bind fun b => cond b ((g_impl_UnpackOne (v / 16)).bind fun nm => some ⟨9, nm, IntKind.wrap .i32 w, false, 0⟩) (some (raw v))) (some (raw v)))))) := fun nx => by
      unfold pm; rw [h1]; first | done | (cases nx <;> rfl)
    rw [hpm]
    by_cases h8 : v % 16 = 8
    · have hN : g_spec_l04Number cells n = some (⟨7, [], IntKind.wrap .i32 v / 32, andI .u32 v 16 != 0, 0⟩, 1) := by
        unfold g_spec_l04Number
        rw [hge]
        simp only [Option.bind_some]
        rw [Int.tmod_eq_emod_of_nonneg hv.1, h8]
        rfl
      rw [h8, hN]
      refine .some ⟨rfl, fun cs hcs => ?_⟩
      rw [cells_7, short_back hv h8 2] at hcs
      cases hcs; rfl
    by_cases h6 : v % 16 = 6
    · have hN : g_spec_l04Number cells n = some (⟨8, [], IntKind.wrap .i32 v / 32, andI .u32 v 16 != 0, 0⟩, 1) := by
        unfold g_spec_l04Number
        rw [hge]
        simp only [Option.bind_some]
        rw [Int.tmod_eq_emod_of_nonneg hv.1, h6]
        rfl
      rw [h6, hN]
      refine .some ⟨rfl, fun cs hcs => ?_⟩
      rw [cells_8, short_back hv h6 5] at hcs
      cases hcs; rfl
    have b8 : (v % 16 == 8) = false := by simpa using h8
    have b6 : (v % 16 == 6) = false := by simpa using h6
    rw [b8, b6]
    simp only [cond_false]
    cases h25 : (v % 16 == 2 || v % 16 == 5) with
    | true =>
      have hch : (cond (v % 16 == 2) (some true) (some (v % 16 == 5)) : Option Bool) = some true := by
        revert h25
        cases v % 16 == 2 <;> cases v % 16 == 5 <;> simp
      rw [hch]
      simp only [Option.bind_some, cond_true]
      have hit : (cond (v % 16 == 5) (some (⟨8, [], 0, andI .u32 v 16 != 0, 0⟩ : GItem)) (some ⟨7, [], 0, andI .u32 v 16 != 0, 0⟩)) = some (cond (v % 16 == 5) (⟨8, [], 0, andI .u32 v 16 != 0, 0⟩ : GItem) ⟨7, [], 0, andI .u32 v 16 != 0, 0⟩) := by
        cases v % 16 == 5 <;> rfl
      have hlg : ∀ w, (⟨(cond (v % 16 == 5) (⟨8, [], 0, andI .u32 v 16 != 0, 0⟩ : GItem) ⟨7, [], 0, andI .u32 v 16 != 0, 0⟩).Kind, (cond (v % 16 == 5) (⟨8, [], 0, andI .u32 v 16 != 0, 0⟩ : GItem) ⟨7, [], 0, andI .u32 v 16 != 0, 0⟩).Name, IntKind.wrap .i32 w,
          (cond (v % 16 == 5) (⟨8, [], 0, andI .u32 v 16 != 0, 0⟩ : GItem) ⟨7, [], 0, andI .u32 v 16 != 0, 0⟩).Hex, (cond (v % 16 == 5) (⟨8, [], 0, andI .u32 v 16 != 0, 0⟩ : GItem) ⟨7, [], 0, andI .u32 v 16 != 0, 0⟩).Raw⟩ : GItem) = lng v w := fun w => by
        unfold lng; cases v % 16 == 5 <;> rfl
      have hN : g_spec_l04Number cells n = (match tl.head? with
          | none => some ((⟨0, [], 0, false, 0⟩ : GItem), 0)
          | some w => cond (v / 32 != 0) (some ((⟨0, [], 0, false, 0⟩ : GItem), 0)) ((g_impl_CellsOf (lng v w)).bind fun y => some (lng v w, IntKind.wrap .i64 (IntKind.wrap .i64 (Int.tdiv (y.length : Int) 2) * 2)))) := by
        unfold g_spec_l04Number
        rw [hge]
        simp only [Option.bind_some]
        rw [Int.tmod_eq_emod_of_nonneg hv.1, b6, b8, hn1]
        simp only [cond_false, hit, Option.bind_some]
        rw [Int.tdiv_eq_ediv_of_nonneg hv.1, wU32 (x := v / 32) (by omega) (by omega)]
        cases tl with
        | nil =>
          rw [decide_eq_true (by simp at htlen; omega)]
          rfl
        | cons w r =>
          rw [decide_eq_false (by simp at htlen; omega), hnx]
          simp only [cond_false, Option.bind_some, List.head?_cons, hlg]
          cases v / 32 != 0 with
          | true => rfl
          | false =>
            simp only [cond_false]
            rw [cells_eq (by unfold lng; cases v % 16 == 5 <;> simp)]
      rw [hN]
      cases tl with
      | nil => exact .some ⟨rfl, hraw⟩
      | cons w r =>
        simp only [List.head?_cons]
        obtain ⟨cs, hcs, _, hcl⟩ := lng_cells (v := v) (w := w)
        have hw := hu w (List.mem_of_mem_drop (by rw [htl]; exact List.mem_cons_self ..))
        rw [hcs]
        simp only [Option.bind_some]
        have hlong : cs = [v, w] ↔ (v / 32 = 0 ∧ cs.length = 2) := by
          have hww : IntKind.wrap .u32 (IntKind.wrap .i32 w) = w := by
            simp [IntKind.wrap, IntKind.bits, IntKind.signed]; split <;> omega
          have hcs2 : cs.length = 1 ∨ cs = [orI .u32 (cond (andI .u32 v 16 != 0) 16 0) (v % 16), w] := by
            have h25' : v % 16 = 2 ∨ v % 16 = 5 := by simpa using h25
            unfold lng at hcs
            rcases h25' with h2 | h5
            · rw [h2, show ((2 : Int) == 5) = false from rfl, cond_false, cells_7] at hcs
              have := num_long hcs
              rw [hww] at this
              rw [h2]; exact this
            · rw [h5, show ((5 : Int) == 5) = true from rfl, cond_true, cells_8] at hcs
              have := num_long hcs
              rw [hww] at this
              rw [h5]; exact this
          have hor : orI .u32 (cond (andI .u32 v 16 != 0) 16 0) (v % 16) = v % 32 := by
            rw [and16 hv.1 hv.2]
            by_cases hb : v / 16 % 2 = 1
            · rw [decide_eq_true hb, cond_true, orU (by decide) (by decide) (by omega) (by omega), show (16 : Int).toNat = 2 ^ 4 * 1 from rfl, or_low 4 (by omega)]; omega
            · rw [decide_eq_false hb, cond_false, orU (by decide) (by decide) (by omega) (by omega), show (0 : Int).toNat = 2 ^ 4 * 0 from rfl, or_low 4 (by omega)]; omega
          rw [hor] at hcs2
          constructor
          · intro h
            rcases hcs2 with h1 | h2
            · rw [h] at h1; simp at h1
            · rw [h] at h2 ⊢
              have := (List.cons.inj h2).1
              exact ⟨by omega, rfl⟩
          · intro h
            rcases hcs2 with h1 | h2
            · omega
            · rw [h2, show v % 32 = v by omega]
        by_cases h32 : v / 32 = 0
        · rw [h32, show ((0 : Int) != 0) = false from rfl, cond_false]
          by_cases h2 : cs.length = 2
          · rw [decide_eq_true (hlong.2 ⟨h32, h2⟩), h2]
            exact .some ⟨rfl, fun cs' h => by
              have : (IntKind.wrap .i64 (IntKind.wrap .i64 (Int.tdiv ((2 : Nat) : Int) 2) * 2)) = 2 := by decide
              rw [show g_impl_CellsOf (lng v w) = some cs from hcs] at h
              cases h
              rw [h2]; rfl⟩
          · have h1 : cs.length = 0 ∨ cs.length = 1 := by omega
            rw [decide_eq_false (fun h => h2 (hlong.1 h).2)]
            rcases h1 with h1 | h1 <;> rw [h1] <;> exact .some ⟨rfl, hraw⟩
        · have : (v / 32 != 0) = true := by simpa using h32
          rw [this, decide_eq_false (fun h => h32 (hlong.1 h).1)]
          exact .some ⟨rfl, hraw⟩
    | false =>
      have hch : (cond (v % 16 == 2) (some true) (some (v % 16 == 5)) : Option Bool) = some false := by
        revert h25
        cases v % 16 == 2 <;> cases v % 16 == 5 <;> simp
      rw [hch]
      simp only [Option.bind_some, cond_false]
      cases h12 : v % 16 == 12 with
      | false => exact .some ⟨rfl, hraw⟩
      | true =>
        simp only [cond_true]
        cases tl with
        | nil =>
          rw [decide_eq_false (by simp at htlen; omega)]
          exact .some ⟨rfl, hraw⟩
        | cons w r =>
          obtain ⟨b, hb, hbf⟩ := field_ok (f := v / 16)
          rw [decide_eq_true (by simp at htlen; omega), hnx, fieldOk_eq (by omega) (by omega), hb]
          simp only [cond_true, Option.bind_some, List.head?_cons]
          cases b with
          | false => exact .some ⟨rfl, hraw⟩
          | true =>
            obtain ⟨nm, h2, h3, h4⟩ := hbf rfl
            rw [cond_true, unpackOne_eq (by omega) (by omega), h2]
            simp only [cond_true, Option.bind_some]
            refine .some ⟨rfl, fun cs hcs => ?_⟩
            rw [cells_9 h4] at hcs
            cases hcs; rfl
theorem specParse_l0 {cells : List Int} (hu : U32 cells) (hl : cells.length ≤ 64) : ∀ (k n : Nat) (out its : List GItem), n ≤ cells.length → Parses (cells.drop n) its → cells.length - n < k → out.length + (cells.length - n) ≤ 64 → g_spec_ParseCells_l0 cells k out n = some (out ++ its) := by
  intro k
  induction k with
  | zero => intro n out its _ _ h; omega
  | succ k ih =>
    intro n out its hn hp h hlo
    unfold g_spec_ParseCells_l0
    by_cases hlt : n < cells.length
    · have hd := List.drop_eq_getElem_cons hlt
      have hud : U32 (cells[n] :: cells.drop (n + 1)) := fun x hx => hu x (List.mem_of_mem_drop (by rw [hd]; exact hx))
      have hld : (cells[n] :: cells.drop (n + 1)).length ≤ 64 := by rw [← hd, List.length_drop]; omega
      obtain ⟨r, hr, hpm, hrl⟩ := item_eq hu hl hd
      rw [← parse_pm hud hld] at hpm
      have hp' := hp
      rw [hd] at hp'
      cases hp' with
      | cons h1 h2 h3 h4 h5 =>
        rename_i rest cs it its'
        rw [h1] at hpm
        have hri : it = r.1 := Option.some.inj hpm
        have hrl2 := hrl cs (by rw [← hri]; exact h2)
        have hlen : cells.length - n = cs.length + rest.length := by rw [← List.length_drop, hd, h4, List.length_append]
        rw [decide_eq_true (by omega), cond_true, hr, Option.bind_some, app_eq (by simp; omega), Option.bind_some, hrl2, wI64 (by omega) (by omega), show (n : Int) + (cs.length : Int) = ((n + cs.length : Nat) : Int) by omega]
        have hd2 : cells.drop (n + cs.length) = rest := by rw [← List.drop_drop, hd, h4, List.drop_left]
        rw [ih (n + cs.length) _ its' (by omega) (by rw [hd2]; exact h5) (by omega) (by simp; omega), List.append_assoc, ← hri]
        rfl
    · rw [decide_eq_false (by omega), cond_false]
      have : cells.drop n = [] := List.drop_eq_nil_of_le (by omega)
      rw [this] at hp
      cases hp with
      | nil => rw [List.append_nil]
      | cons h1 h2 h3 h4 h5 =>
        have := congrArg List.length h4
        simp at this; omega
theorem specStrip_eq : ∀ (k : Nat) (out : List GItem), out.length ≤ 64 → g_spec_ParseCells_l1 k out = g_impl_ParseCells_l1 k out ((out.length : Int) - 1) := by
  intro k
  induction k with
  | zero => intro out _; rfl
  | succ k ih =>
    intro out hl
    unfold g_spec_ParseCells_l1 g_impl_ParseCells_l1
    rcases List.eq_nil_or_concat out with rfl | ⟨xs, x, rfl⟩
    · rfl
    · simp only [List.concat_eq_append] at *
      have hlen : (xs ++ [x]).length = xs.length + 1 := by simp
      rw [decide_eq_true (by omega), decide_eq_true (by omega), wI64 (x := (((xs ++ [x]).length : Nat) : Int) - 1) (by omega) (by omega), show (((xs ++ [x]).length : Nat) : Int) - 1 = ((xs.length : Nat) : Int) by omega, getI_nat, List.getElem?_concat_length]
      simp only [cond_true, Option.bind_some, isRz]
      by_cases hx : x = rz
      · rw [decide_eq_true hx, cond_true, cond_true, subL_take (by omega) (by omega), Option.bind_some, Option.bind_some, Int.toNat_natCast, List.take_left, wI64 (by omega) (by omega)]
        exact ih xs (by omega)
      · rw [decide_eq_false hx]; rfl
theorem parseCells_eq {cells : List Int} (hu : U32 cells) : g_spec_ParseCells cells = g_impl_ParseCells cells := by
  unfold g_spec_ParseCells g_impl_ParseCells
  by_cases hl : (cells.length : Int) > 64
  · rw [decide_eq_true hl, cond_true, cond_true]
  · rw [decide_eq_false hl, cond_false, cond_false]
    have hl : cells.length ≤ 64 := by omega
    obtain ⟨all, hp⟩ := parses_ex _ cells (Nat.le_refl _) hu hl
    have hlen := hp.len
    have h1 := specParse_l0 hu hl bigK 0 [] all (Nat.zero_le _) hp (by unfold bigK; omega) (by simpa using hl)
    rw [show ((0 : Nat) : Int) = 0 from rfl] at h1
    rw [h1, parse_l0 bigK cells [] all hp (by unfold bigK; omega) (by simpa using hl)]
    simp only [Option.bind_some, List.nil_append]
    rw [wI64 (by omega) (by omega), specStrip_eq _ _ (by omega)]
    cases g_impl_ParseCells_l1 bigK all ((all.length : Int) - 1) <;> rfl
end Go.Proofs.YtmlkglhpaneepaaGreatDoor
namespace Go.Proofs.YtmlkglhpaneepaaGreatDoor
open Go Go.Fm
def allN {α : Type} (p : Nat → α → Bool) : Nat → List α → Bool
  | _, [] => true
  | n, x :: r => p n x && allN p (n + 1) r
theorem allN_const {α : Type} (p : α → Bool) : ∀ (n : Nat) (l : List α), allN (fun _ => p) n l = l.all p
  | n, [] => rfl
  | n, x :: r => by simp only [allN, List.all_cons, allN_const p (n + 1) r]
theorem allLoop {α β : Type} {L : List α} {bad : β} (p : Nat → α → Bool) (F : Nat → Int → Option (Unit ⊕ β)) (step : ∀ (k n : Nat) (x : α), L[n]? = some x → n < L.length → F (k + 1) n = cond (p n x) (F k ((n + 1 : Nat) : Int)) (some (.inr bad)))
    (fin : ∀ k n : Nat, L.length ≤ n → F (k + 1) n = some (.inl ())) (hm : L.length ≤ 16777216) : F bigK 0 = some (cond (allN p 0 L) (.inl ()) (.inr bad)) := by
  have key : ∀ (k n : Nat), n ≤ L.length → L.length - n < k → F k n = some (cond (allN p n (L.drop n)) (.inl ()) (.inr bad)) := by
    intro k
    induction k with
    | zero => intro n h0 h1; omega
    | succ k ih =>
      intro n h0 h1
      by_cases hn : n < L.length
      · rw [step k n L[n] (List.getElem?_eq_getElem hn) hn, List.drop_eq_getElem_cons hn]
        show _ = some (cond (p n L[n] && allN p (n + 1) (L.drop (n + 1))) _ _)
        cases p n L[n] with
        | false => rfl
        | true => rw [cond_true, ih (n + 1) (by omega) (by omega), Bool.true_and]
      · rw [fin k n (by omega), List.drop_eq_nil_of_le (by omega)]; rfl
  have := key bigK 0 (Nat.zero_le _) (by unfold bigK; omega)
  rw [List.drop_zero] at this
  exact this
theorem eqList {α : Type} [DecidableEq α] {a b : List α} (F : Nat → Int → Option (Unit ⊕ Bool)) (g : Option Bool) (hg : g = cond ((a.length : Int) != (b.length : Int)) (some false) (((F bigK 0).bind fun o => match o with | .inl () => some (.inl ()) | .inr v => some (.inr v) : Option (Unit ⊕ Bool)).bind fun o => match o with | .inl () => some true | .inr v => some v))
    (hF : ∀ (k : Nat) (i : Int), F (k + 1) i = cond (decide (i < (a.length : Int))) ((getI a i).bind fun x => (getI b i).bind fun y => cond (!decide (x = y)) (some (.inr false)) (F k (IntKind.wrap .i64 (i + 1)))) (some (.inl ()))) (hm : a.length ≤ 1048576) : g = some (decide (a = b)) := by
  rw [hg]
  by_cases hl : a.length = b.length
  · have key : ∀ (k n : Nat), n ≤ a.length → a.length - n < k → F k n = some (if a.drop n = b.drop n then .inl () else .inr false) := by
      intro k
      induction k with
      | zero => intro n h0 h1; omega
      | succ k ih =>
        intro n h0 h1
        rw [hF]
        by_cases hn : n < a.length
        · have hn' : n < b.length := by omega
          rw [decide_eq_true (by omega), getI_nat, getI_nat, List.getElem?_eq_getElem hn, List.getElem?_eq_getElem hn', List.drop_eq_getElem_cons hn, List.drop_eq_getElem_cons hn']
          simp only [cond_true, Option.bind_some]
          by_cases he : a[n] = b[n]
          · rw [decide_eq_true he, Bool.not_true, cond_false, wI64 (by omega) (by omega), show ((n : Int) + 1) = ((n + 1 : Nat) : Int) by omega, ih (n + 1) (by omega) (by omega), he]
            simp only [List.cons.injEq, true_and]
          · rw [decide_eq_false he, Bool.not_false, cond_true, if_neg (fun h => he (List.cons.inj h).1)]
        · rw [decide_eq_false (by omega), cond_false, List.drop_eq_nil_of_le (by omega), List.drop_eq_nil_of_le (by omega), if_pos rfl]
    have : ((a.length : Int) != (b.length : Int)) = false := by rw [hl]; simp
    rw [this, cond_false]
    have h := key bigK 0 (Nat.zero_le _) (by unfold bigK; omega)
    rw [show ((0 : Nat) : Int) = 0 from rfl] at h
    rw [h]
    by_cases he : a = b
    · simp [he]
    · simp [he]
  · have : ((a.length : Int) != (b.length : Int)) = true := by simp; omega
    rw [this, cond_true, decide_eq_false (fun h => hl (by rw [h]))]
end Go.Proofs.YtmlkglhpaneepaaGreatDoor
namespace Go.Proofs.YtmlkglhpaneepaaGreatDoor
open Go Go.Fm
def inB (x a b : Int) : Bool := decide (a ≤ x ∧ x ≤ b)
theorem wIn (x a b : Int) : g_impl_within x a b = some (inB x a b) := within_eq
theorem sIn (x a b : Int) : g_spec_l01In x a b = some (inB x a b) := specIn_eq
theorem nxt {n : Nat} (h : n < 16777216) : IntKind.wrap .i64 ((n : Int) + 1) = ((n + 1 : Nat) : Int) := by rw [wI64 (by omega) (by omega)]; omega
theorem flipC {α : Type} (b : Bool) (x y : Option α) : cond (!b) x y = cond b y x := by cases b <;> rfl
theorem has_l0 {l : List Int} {v : Int} (hl : l.length ≤ 1048576) : g_slices_Contains_int l v = some (l.any fun x => v == x) := by
  unfold g_slices_Contains_int g_slices_Index_int
  have key : ∀ (k n : Nat), n ≤ l.length → l.length - n < k → ∃ o : Unit ⊕ Int, g_slices_Index_int_l0 l v (l.length : Int) k n = some o ∧ (match o with | .inl _ => ((l.drop n).any fun x => v == x) = false | .inr i => 0 ≤ i ∧ ((l.drop n).any fun x => v == x) = true) := by
    intro k
    induction k with
    | zero => intro n h0 h1; omega
    | succ k ih =>
      intro n h0 h1
      rw [g_slices_Index_int_l0]
      by_cases hn : n < l.length
      · rw [decide_eq_true (by omega), cond_true, getI_nat, List.getElem?_eq_getElem hn, List.drop_eq_getElem_cons hn, List.any_cons]
        simp only [Option.bind_some]
        cases hk : (v == l[n])
        · rw [cond_false, nxt (by omega)]
          obtain ⟨o, g1, g2⟩ := ih (n + 1) (by omega) (by omega)
          exact ⟨o, g1, by cases o <;> simpa using g2⟩
        · rw [cond_true]
          exact ⟨_, rfl, by simp⟩
      · rw [decide_eq_false (by omega), cond_false, List.drop_eq_nil_of_le (by omega)]
        exact ⟨_, rfl, rfl⟩
  obtain ⟨o, h, g⟩ := key bigK 0 (Nat.zero_le _) (by unfold bigK; omega)
  rw [Int.natCast_zero] at h
  rw [List.drop_zero] at g
  rw [h]
  cases o with
  | inl u => simp only [Option.bind_some]; rw [show (l.any fun x => v == x) = false from g]; rfl
  | inr i => simp only [Option.bind_some]; rw [g.2, decide_eq_true g.1]
theorem specHasN {l : List Int} {v : Int} (hl : l.length ≤ 1048576) : g_spec_l13Has l v = some (l.any fun x => v == x) := by
  unfold g_spec_l13Has
  have h := allLoop (L := l) (fun _ x => !(v == x)) (g_spec_l13Has_l0 l v) (fun k n x hx hn => by
      rw [g_spec_l13Has_l0, decide_eq_true (by omega), cond_true, getI_nat, hx]
      simp only [Option.bind_some]
      rw [nxt (by omega), flipC, show (x == v) = (v == x) from Bool.beq_comm]) (fun k n hn => by rw [g_spec_l13Has_l0, decide_eq_false (by omega), cond_false]) (by omega)
  rw [h, allN_const]
  rw [show (l.all fun x => !(v == x)) = !(l.any fun x => v == x) by rw [List.all_eq_not_any_not]; simp]
  cases (l.any fun x => v == x) <;> rfl
def StB (st : GSt) : Bool :=
  !decide ((st.Data.length : Int) > 16) && (!decide ((st.Ret.length : Int) > 24) && (!((st.Mem.length : Int) != 32) && (!decide ((st.Vars.length : Int) > 20) && (!decide ((st.Out.length : Int) > 400) && (!decide ((st.In.length : Int) > 100) &&
    (st.Ret.all (fun o => inB o.Kind 0 2) && (allN (fun n v => inB v 0 (IntKind.wrap .i64 ((st.Cells.length : Int) - 1)) && !((st.Vars.take n).any fun x => v == x)) 0 st.Vars && ((((Int.tmod (st.Cells.length : Int) 64) == 0) && decide ((st.Cells.length : Int) ≤ 768)) && (inB st.Fault 0 13 && inB st.Fuel 0 4000)))))))))
structure StSz (st : GSt) : Prop where
  r : st.Ret.length ≤ 1048576
  v : st.Vars.length ≤ 1048576
theorem spec_in {l : List Int} {v : Int} {n : Nat} (hn : n ≤ l.length) (hl : l.length ≤ 1048576) {st : GSt} (hst : st.Vars = l) (hv : l[n]? = some v) : g_spec_StOk_l2 (n : Int) st bigK 0 = some (cond (!((l.take n).any fun x => v == x)) (.inl ()) (.inr false)) := by
  subst hst
  have hlen : (st.Vars.take n).length = n := by rw [List.length_take]; omega
  have h := allLoop (L := st.Vars.take n) (fun _ x => !(v == x)) (g_spec_StOk_l2 (n : Int) st) (fun k m x hx hm => by
      rw [hlen] at hm
      rw [List.getElem?_take, if_pos hm] at hx
      rw [g_spec_StOk_l2, decide_eq_true (by omega), cond_true, getI_nat, hx, getI_nat, hv]
      simp only [Option.bind_some]
      rw [nxt (by omega), flipC, show (x == v) = (v == x) from Bool.beq_comm]) (fun k m hm => by rw [hlen] at hm; rw [g_spec_StOk_l2, decide_eq_false (by omega), cond_false]) (by rw [hlen]; omega)
  rw [h, allN_const]
  congr 2
  rw [List.all_eq_not_any_not]
  simp
theorem spec_st {st : GSt} (h : StSz st) : g_spec_StOk st = some (StB st) := by
  unfold g_spec_StOk StB
  have hr := h.r
  have hv := h.v
  have h0 := allLoop (L := st.Ret) (fun _ o => inB o.Kind 0 2) (g_spec_StOk_l0 st) (fun k n x hx hn => by
      rw [g_spec_StOk_l0, decide_eq_true (by omega), cond_true, getI_nat, hx]
      simp only [Option.bind_some]
      rw [sIn]
      simp only [Option.bind_some]
      rw [nxt (by omega), flipC]) (fun k n hn => by rw [g_spec_StOk_l0, decide_eq_false (by omega), cond_false]) (by omega)
  have h1 := allLoop (L := st.Vars) (fun n v => inB v 0 (IntKind.wrap .i64 ((st.Cells.length : Int) - 1)) && !((st.Vars.take n).any fun x => v == x)) (g_spec_StOk_l1 st) (fun k n x hx hn => by
      rw [g_spec_StOk_l1, decide_eq_true (by omega), cond_true, getI_nat, hx]
      simp only [Option.bind_some]
      rw [sIn]
      simp only [Option.bind_some]
      rw [spec_in (l := st.Vars) (by omega) hv rfl hx, nxt (by omega)]
      cases inB x 0 (IntKind.wrap .i64 ((st.Cells.length : Int) - 1))
      · rfl
      · cases ((st.Vars.take n).any fun y => x == y) <;> rfl) (fun k n hn => by rw [g_spec_StOk_l1, decide_eq_false (by omega), cond_false]) (by omega)
  rw [h0, h1]
  unfold g_spec_StoreOk
  rw [sIn, sIn, allN_const]
  generalize decide ((st.Data.length : Int) > 16) = b1
  generalize decide ((st.Ret.length : Int) > 24) = b2
  generalize ((st.Mem.length : Int) != 32) = b3
  generalize decide ((st.Vars.length : Int) > 20) = b4
  generalize decide ((st.Out.length : Int) > 400) = b5
  generalize decide ((st.In.length : Int) > 100) = b6
  generalize (st.Ret.all fun o => inB o.Kind 0 2) = b7
  generalize allN _ 0 st.Vars = b8
  generalize (Int.tmod (st.Cells.length : Int) 64 == 0) = b9
  generalize decide ((st.Cells.length : Int) ≤ 768) = b10
  generalize inB st.Fault 0 13 = b11
  generalize inB st.Fuel 0 4000 = b12
  revert b1 b2 b3 b4 b5 b6 b7 b8 b9 b10 b11 b12
  decide +kernel
theorem impl_st {st : GSt} (h : StSz st) : g_impl_StOk st = some (StB st) := by
  unfold g_impl_StOk StB
  have hr := h.r
  have hv := h.v
  have h0 := allLoop (L := st.Ret) (fun _ o => inB o.Kind 0 2) (g_impl_StOk_l0 st.Ret (st.Ret.length : Int)) (fun k n x hx hn => by
      rw [g_impl_StOk_l0, decide_eq_true (by omega), cond_true, getI_nat, hx]
      simp only [Option.bind_some]
      rw [wIn]
      simp only [Option.bind_some]
      rw [nxt (by omega), flipC]) (fun k n hn => by rw [g_impl_StOk_l0, decide_eq_false (by omega), cond_false]) (by omega)
  have h1 := allLoop (L := st.Vars) (fun n v => inB v 0 (IntKind.wrap .i64 ((st.Cells.length : Int) - 1)) && !((st.Vars.take n).any fun x => v == x)) (g_impl_StOk_l1 st.Vars (st.Vars.length : Int) st) (fun k n x hx hn => by
      rw [g_impl_StOk_l1, decide_eq_true (by omega), cond_true, getI_nat, hx]
      simp only [Option.bind_some]
      rw [wIn]
      simp only [Option.bind_some]
      rw [subL_take (by omega) (by omega), Int.toNat_natCast]
      simp only [Option.bind_some]
      rw [has_l0 (by rw [List.length_take]; omega), nxt (by omega)]
      simp only [Option.bind_some]
      cases inB x 0 (IntKind.wrap .i64 ((st.Cells.length : Int) - 1))
      · rfl
      · cases ((st.Vars.take n).any fun y => x == y) <;> rfl) (fun k n hn => by rw [g_impl_StOk_l1, decide_eq_false (by omega), cond_false]) (by omega)
  rw [h0, h1]
  unfold g_impl_StoreOk
  rw [wIn, wIn, allN_const]
  have e5 : decide ((st.Out.length : Int) ≤ 400) = !decide ((st.Out.length : Int) > 400) := by rw [← decide_not]; congr 1; simp
  have e6 : decide ((st.In.length : Int) ≤ 100) = !decide ((st.In.length : Int) > 100) := by rw [← decide_not]; congr 1; simp
  rw [e5, e6]
  generalize decide ((st.Data.length : Int) > 16) = b1
  generalize decide ((st.Ret.length : Int) > 24) = b2
  generalize ((st.Mem.length : Int) != 32) = b3
  generalize decide ((st.Vars.length : Int) > 20) = b4
  generalize decide ((st.Out.length : Int) > 400) = b5
  generalize decide ((st.In.length : Int) > 100) = b6
  generalize (st.Ret.all fun o => inB o.Kind 0 2) = b7
  generalize allN _ 0 st.Vars = b8
  generalize (Int.tmod (st.Cells.length : Int) 64 == 0) = b9
  generalize decide ((st.Cells.length : Int) ≤ 768) = b10
  generalize inB st.Fault 0 13 = b11
  generalize inB st.Fuel 0 4000 = b12
  revert b1 b2 b3 b4 b5 b6 b7 b8 b9 b10 b11 b12
  decide +kernel
theorem below_eq {body : List GOp} {m : Int} (hl : body.length ≤ 1048576) : g_impl_callsBelow body m = some (body.all fun o => !(o.Kind == 2 && decide (IntKind.wrap .i64 o.N ≥ m))) := by
  unfold g_impl_callsBelow g_slices_ContainsFunc_Op_impl_callsBelowc1 g_slices_IndexFunc_Op_impl_callsBelowc1
  have hc : ∀ o : GOp, g_impl_callsBelowc1 o m = some (o.Kind == 2 && decide (IntKind.wrap .i64 o.N ≥ m)) := fun o => by
    unfold g_impl_callsBelowc1
    cases o.Kind == 2 <;> rfl
  have key : ∀ (k n : Nat), n ≤ body.length → body.length - n < k → ∃ o : Unit ⊕ Int, g_slices_IndexFunc_Op_impl_callsBelowc1_l0 body (body.length : Int) m k n = some o ∧ (match o with | .inl _ => ((body.drop n).all fun o => !(o.Kind == 2 && decide (IntKind.wrap .i64 o.N ≥ m))) = true | .inr i => 0 ≤ i ∧ ((body.drop n).all fun o => !(o.Kind == 2 && decide (IntKind.wrap .i64 o.N ≥ m))) = false) := by
    intro k
    induction k with
    | zero => intro n h0 h1; omega
    | succ k ih =>
      intro n h0 h1
      rw [g_slices_IndexFunc_Op_impl_callsBelowc1_l0]
      by_cases hn : n < body.length
      · rw [decide_eq_true (by omega), cond_true, getI_nat, List.getElem?_eq_getElem hn, List.drop_eq_getElem_cons hn, List.all_cons]
        simp only [Option.bind_some, hc]
        cases hk : (body[n].Kind == 2 && decide (IntKind.wrap .i64 body[n].N ≥ m))
        · rw [cond_false, nxt (by omega)]
          obtain ⟨o, g1, g2⟩ := ih (n + 1) (by omega) (by omega)
          exact ⟨o, g1, by cases o <;> simpa using g2⟩
        · rw [cond_true]
          exact ⟨_, rfl, by simp⟩
      · rw [decide_eq_false (by omega), cond_false, List.drop_eq_nil_of_le (by omega)]
        exact ⟨_, rfl, rfl⟩
  obtain ⟨o, h, g⟩ := key bigK 0 (Nat.zero_le _) (by unfold bigK; omega)
  rw [Int.natCast_zero] at h
  rw [List.drop_zero] at g
  rw [h]
  cases o with
  | inl u => simp only [Option.bind_some]; rw [g]; rfl
  | inr i => simp only [Option.bind_some]; rw [g.2, decide_eq_true g.1]; rfl
end Go.Proofs.YtmlkglhpaneepaaGreatDoor
namespace Go.Proofs.YtmlkglhpaneepaaGreatDoor
open Go Go.Fm
def Iok (it : GItem) : Prop := it.Name.length ≤ 1048576 ∧ 0 ≤ it.Raw ∧ it.Raw < 4294967296
def IL (l : List GItem) : Prop := ∀ it ∈ l, Iok it
theorem IL.app {a b : List GItem} (ha : IL a) (hb : IL b) : IL (a ++ b) := fun x hx => by
  rcases List.mem_append.1 hx with h | h
  · exact ha x h
  · exact hb x h
theorem iok {k : Int} {nm : Bs} {n : Int} {hex : Bool} (h : nm.length ≤ 1048576) : Iok ⟨k, nm, n, hex, 0⟩ := ⟨h, by show (0 : Int) ≤ 0; decide, by show (0 : Int) < 4294967296; decide⟩
theorem specUnparse_ok {l : List GItem} (hl : IL l) (hn : l.length ≤ 1048576) : Tot (g_spec_Unparse l) fun r => U32 r.1 ∧ r.1.length ≤ 64 := by
  unfold g_spec_Unparse
  have key : ∀ (k : Nat) (out : List Int) (i : Int), U32 out → out.length ≤ 64 → 0 ≤ i → i ≤ l.length → l.length - i < k → Tot (g_spec_Unparse_l0 l k out i) fun o => match o with | .inl r => U32 r ∧ r.length ≤ 64 | .inr q => q = ([], false) := by
    intro k
    induction k with
    | zero => intro out i h0 h1 h2 h3 h4; omega
    | succ k ih =>
      intro out i h0 h1 h2 h3 h4
      unfold g_spec_Unparse_l0
      refine .condD (fun hi => ?_) fun _ => .some ⟨h0, h1⟩
      obtain ⟨v, hv, hm, _⟩ := getI_ex h2 hi
      have hio := hl v hm
      refine .bindE hv (.bind (specCells_ok hio.1 hio.2) fun cs hcs => .bind (Q := fun b => b = false → out.length + cs.length ≤ 64) (.cond (fun _ => .some fun h => nomatch h) fun _ => ?_) fun b hb => .cond (fun _ => .some rfl) fun hc => ?_)
      · rw [wI64 (by omega) (by omega)]
        exact .some fun h => by have := of_decide_eq_false h; omega
      · have := hb hc
        refine .bindE (app_eq (by omega)) ?_
        rw [wI64 (x := i + 1) (by omega) (by omega)]
        exact ih _ _ (h0.app hcs.1) (by rw [List.length_append]; omega) (by omega) (by omega) (by omega)
  refine .bind (Q := fun o => match o with | .inl r => U32 r ∧ r.length ≤ 64 | .inr q => q = ([], false)) (.bind (key bigK [] 0 .nil (by simp) (by decide) (by omega) (by unfold bigK; omega)) fun o ho => ?_) fun o ho => ?_
  · cases o with
    | inl r => exact .some ho
    | inr r => exact .some ho
  · cases o with
    | inl r => exact .some ho
    | inr r => rw [show r = ([], false) from ho]; exact .some ⟨.nil, by simp⟩
def upR : List Int ⊕ Bool → List Int ⊕ (List Int × Bool) := fun o => match o with | .inl x => .inl x | .inr b => .inr ([], b)
theorem unparse_l0_eq {l : List GItem} (hl : IL l) (hn : l.length ≤ 1048576) : ∀ (k n : Nat) (out : List Int), n ≤ l.length → out.length ≤ 64 → g_spec_Unparse_l0 l k out n = (g_impl_Unparse_l0 l (l.length : Int) k out n).map upR := by
  intro k
  induction k with
  | zero => intro n out _ _; rfl
  | succ k ih =>
    intro n out h0 h1
    unfold g_spec_Unparse_l0 g_impl_Unparse_l0
    by_cases h : n < l.length
    · have hi := hl l[n] (List.getElem_mem h)
      obtain ⟨cs, hcs, _, hcl⟩ := specCells_ok hi.1 hi.2
      rw [decide_eq_true (by omega), getI_nat, List.getElem?_eq_getElem h]
      simp only [cond_true, Option.bind_some]
      rw [← cells_eq hi.1, hcs]
      simp only [Option.bind_some]
      rw [app_eq (by omega)]
      simp only [Option.bind_some]
      rw [wI64 (x := (out.length : Int) + (cs.length : Int)) (by omega) (by omega), show (out.length : Int) + (cs.length : Int) = (((out ++ cs).length : Nat) : Int) by rw [List.length_append]; omega]
      cases hb : ((cs.length : Int) == 0) with
      | true => rfl
      | false =>
        simp only [cond_false, Option.bind_some]
        by_cases hc : ((((out ++ cs).length : Nat) : Int)) > 64
        · rw [decide_eq_true hc]; rfl
        · rw [decide_eq_false hc, cond_false, cond_false, wI64 (by omega) (by omega), show ((n : Int) + 1) = ((n + 1 : Nat) : Int) by omega]
          exact ih _ _ (by omega) (by omega)
    · rw [decide_eq_false (by omega), cond_false, cond_false]; rfl
theorem unparse_eq {l : List GItem} (hl : IL l) (hn : l.length ≤ 1048576) : g_spec_Unparse l = g_impl_Unparse l := by
  unfold g_spec_Unparse g_impl_Unparse
  have := unparse_l0_eq hl hn bigK 0 [] (Nat.zero_le _) (by simp)
  rw [Int.natCast_zero] at this
  rw [this]
  cases g_impl_Unparse_l0 l (l.length : Int) bigK [] 0 with
  | none => rfl
  | some o => cases o <;> rfl
theorem itemBeq (v w : GItem) : ((v.Kind : Int) == w.Kind && ((v.Name : Bs) == w.Name && ((v.N : Int) == w.N && ((v.Hex : Bool) == w.Hex && ((v.Raw : Int) == w.Raw && true))))) = decide (v = w) := by
  obtain ⟨a, b, c, d, e⟩ := v
  obtain ⟨a', b', c', d', e'⟩ := w
  rw [Bool.eq_iff_iff]
  simp
theorem neI (x y : GItem) : (x != y) = !decide (x = y) := by
  by_cases h : x = y
  · subst h; simp
  · rw [decide_eq_false h]; simpa using h
theorem same_items {a b : List GItem} (hm : a.length ≤ 1048576) : g_spec_l04Same a b = some (decide (a = b)) :=
  eqList (g_spec_l04Same_l0 a b) _ rfl (fun k i => by rw [g_spec_l04Same_l0]; simp only [itemBeq, neI]) (by omega)
theorem equal_items {a b : List GItem} (hm : a.length ≤ 1048576) : g_slices_Equal_Item a b = some (decide (a = b)) :=
  eqList (g_slices_Equal_Item_l0 a b (a.length : Int)) _ rfl (fun k i => by rw [g_slices_Equal_Item_l0]; simp only [itemBeq, neI]) (by omega)
theorem listOk_both {l : List GItem} (hl : IL l) (hn : l.length ≤ 1048576) : ∃ cs ok lo, g_spec_Unparse l = some (cs, ok) ∧ g_impl_Unparse l = some (cs, ok) ∧ U32 cs ∧ cs.length ≤ 64 ∧ g_spec_ListOk l = some lo ∧ g_impl_ListOk l = some lo ∧ (lo = true → l.length ≤ 64) := by
  obtain ⟨r, hr, hu, hrl⟩ := specUnparse_ok hl hn
  obtain ⟨cs, ok⟩ := r
  have hr2 := hr
  rw [unparse_eq hl hn] at hr2
  obtain ⟨its, cells', z, h1, h2, h3, _⟩ := parseCells_ok hu hrl
  have hil := h3.len
  have hcl : cells'.length ≤ 64 := by rw [h2, List.length_append] at hrl; omega
  have hs : g_spec_ListOk l = some (ok && decide (its = l)) := by
    unfold g_spec_ListOk
    rw [hr]
    cases ok with
    | false => rfl
    | true =>
      simp only [Option.bind_some, cond_true, Bool.true_and]
      rw [parseCells_eq hu, h1]
      simp only [Option.bind_some]
      rw [same_items (by omega)]
      rfl
  have hi : g_impl_ListOk l = some (ok && decide (its = l)) := by
    unfold g_impl_ListOk
    rw [hr2]
    cases ok with
    | false => rfl
    | true =>
      simp only [Option.bind_some, cond_true, Bool.true_and]
      rw [h1]
      simp only [Option.bind_some]
      rw [equal_items (by omega)]
      rfl
  refine ⟨cs, ok, _, hr, hr2, hu, hrl, hs, hi, fun h => ?_⟩
  rw [Bool.and_eq_true, decide_eq_true_eq] at h
  rw [← h.2]
  omega
end Go.Proofs.YtmlkglhpaneepaaGreatDoor
namespace Go.Proofs.YtmlkglhpaneepaaGreatDoor
open Go Go.Fm
structure DefSz (d : GDef) : Prop where
  n : d.Name.length ≤ 1048576
  b : d.Body.length ≤ 1048576
structure WSz (w : GWorld) : Prop where
  st : StSz w.St
  d : w.Defs.length ≤ 1048576
  ds : ∀ d ∈ w.Defs, DefSz d
  e : w.Dict.length ≤ 1048576
  es : ∀ x ∈ w.Dict, x.Name.length ≤ 1048576
def opB (body : List GOp) (last : Bool) : Bool := match openF body [] with | none => false | some w => decide (w = []) || last
def belowB (m : Int) (body : List GOp) : Bool := body.all fun o => !(o.Kind == 2 && decide (IntKind.wrap .i64 o.N ≥ m))
def DefB (w : GWorld) (n : Nat) (d : GDef) : Bool :=
  named d.Name && (decide ((d.Body.length : Int) ≤ 60) && (d.Body.all okB && (belowB w.Defs.length d.Body && opB d.Body (w.Open && decide (n + 1 = w.Defs.length)))))
def EntB (w : GWorld) (x : GEntry) : Bool := (cond x.Var (w.St.Vars.any fun y => x.N == y) (inB x.N 0 (IntKind.wrap .i64 ((w.Defs.length : Int) - 1)))) && named x.Name
def WorldB (w : GWorld) : Bool :=
  StB w.St && (!decide ((w.Defs.length : Int) > 24) && (!decide ((w.Dict.length : Int) > 40) && (!(w.Open && ((w.Defs.length : Int) == 0)) && (allN (DefB w) 0 w.Defs && w.Dict.all (EntB w)))))
theorem gt0 (w : List Int) : decide ((w.length : Int) > 0) = !decide (w = []) := by
  cases w with
  | nil => rfl
  | cons a r => simp
theorem spec_def {defs : List GDef} {d : GDef} (hd : DefSz d) : g_spec_l13Defs_l1 (defs.length : Int) d bigK 0 = some (cond (d.Body.all okB && belowB defs.length d.Body) (.inl ()) (.inr false)) := by
  have h := allLoop (L := d.Body) (fun _ o => okB o && !(o.Kind == 2 && decide (IntKind.wrap .i64 o.N ≥ (defs.length : Int)))) (g_spec_l13Defs_l1 (defs.length : Int) d) (fun k n x hx hn => by
      have hb := hd.b
      rw [g_spec_l13Defs_l1, decide_eq_true (by omega), cond_true, getI_nat, hx]
      simp only [Option.bind_some]
      rw [okB_eq]
      simp only [Option.bind_some]
      rw [nxt (by omega)]
      generalize decide (IntKind.wrap .i64 x.N ≥ (defs.length : Int)) = b1
      cases okB x <;> cases x.Kind == 2 <;> cases b1 <;> rfl) (fun k n hn => by rw [g_spec_l13Defs_l1, decide_eq_false (by omega), cond_false]) (by have := hd.b; omega)
  rw [h, allN_const]
  unfold belowB
  have : ∀ l : List GOp, (l.all fun o => okB o && !(o.Kind == 2 && decide (IntKind.wrap .i64 o.N ≥ (defs.length : Int)))) = (l.all okB && l.all fun o => !(o.Kind == 2 && decide (IntKind.wrap .i64 o.N ≥ (defs.length : Int)))) := by
    intro l
    induction l with
    | nil => rfl
    | cons a r ih =>
      rw [List.all_cons, List.all_cons, List.all_cons, ih]
      generalize decide (IntKind.wrap .i64 a.N ≥ (defs.length : Int)) = b1
      generalize (r.all fun o => !(o.Kind == 2 && decide (IntKind.wrap .i64 o.N ≥ (defs.length : Int)))) = b2
      cases okB a <;> cases a.Kind == 2 <;> cases b1 <;> cases r.all okB <;> cases b2 <;> rfl
  rw [this]
theorem spec_open {body : List GOp} (hb : body.length ≤ 1048576) : g_spec_l09Open body = some (match openF body [] with | none => ([], false) | some w => (w, true)) := by
  unfold g_spec_l09Open
  have h1 := spec_l0 hb bigK 0 [] (Nat.zero_le _) (by unfold bigK; omega) (Nat.le_refl _)
  rw [Int.natCast_zero, List.drop_zero] at h1
  rw [h1]
  cases openF body [] <;> rfl
theorem impl_open {body : List GOp} (hb : body.length ≤ 1048576) : g_impl_openIn body = some (match cond (body.all okB) (openF body []) none with | none => ([], false) | some w => (w, decide ((body.length : Int) ≤ 60))) := by
  unfold g_impl_openIn
  have h1 := impl_l0 hb bigK 0 [] (Nat.zero_le _) (by unfold bigK; omega) (Nat.le_refl _)
  rw [Int.natCast_zero, List.drop_zero] at h1
  rw [h1, openG_eq]
  cases cond (body.all okB) (openF body []) none <;> rfl
theorem spec_defs {w : GWorld} (h : WSz w) : g_spec_l13Defs w.Defs w.Open = some (!decide ((w.Defs.length : Int) > 24) && (!(w.Open && ((w.Defs.length : Int) == 0)) && allN (DefB w) 0 w.Defs)) := by
  unfold g_spec_l13Defs
  have hl := h.d
  have h0 := allLoop (L := w.Defs) (DefB w) (g_spec_l13Defs_l0 w.Defs w.Open (w.Defs.length : Int)) (fun k n x hx hn => by
      have hd := h.ds x (List.mem_of_getElem? hx)
      have hb := hd.b
      rw [g_spec_l13Defs_l0, decide_eq_true (by omega), cond_true, getI_nat, hx]
      simp only [Option.bind_some]
      rw [specNameOk hd.n, spec_def hd, spec_open hb]
      simp only [Option.bind_some]
      rw [nxt (by omega), wI64 (by omega) (by omega)]
      unfold DefB opB
      have e1 : decide ((x.Body.length : Int) > 60) = !decide ((x.Body.length : Int) ≤ 60) := by rw [← decide_not]; congr 1; simp
      have e2 : decide ((n : Int) < (w.Defs.length : Int) - 1) = !decide (n + 1 = w.Defs.length) := by
        rw [← decide_not]
        congr 1
        apply propext
        omega
      rw [e1, e2]
      generalize decide ((x.Body.length : Int) ≤ 60) = b1
      generalize decide (n + 1 = w.Defs.length) = b2
      generalize x.Body.all okB = b3
      generalize belowB w.Defs.length x.Body = b4
      generalize named x.Name = b5
      generalize w.Open = b6
      generalize g_spec_l13Defs_l0 w.Defs b6 (w.Defs.length : Int) k ((n + 1 : Nat) : Int) = K
      cases openF x.Body [] with
      | none => cases b5 <;> cases b1 <;> cases b3 <;> cases b4 <;> rfl
      | some v =>
        simp only
        rw [gt0]
        generalize decide (v = []) = b7
        cases b5 <;> cases b1 <;> cases b3 <;> cases b4 <;> cases b7 <;> cases b6 <;> cases b2 <;> rfl) (fun k n hn => by rw [g_spec_l13Defs_l0, decide_eq_false (by omega), cond_false]) (by omega)
  by_cases h24 : (w.Defs.length : Int) > 24
  · rw [decide_eq_true h24]
    rfl
  · rw [decide_eq_false h24]
    generalize ho : w.Open = b1 at h0
    generalize ((w.Defs.length : Int) == 0) = b2
    cases b1
    · simp only [cond_false, Option.bind_some]
      rw [h0]
      cases allN (DefB w) 0 w.Defs <;> rfl
    · simp only [cond_false, cond_true, Option.bind_some]
      rw [h0]
      cases b2 <;> cases allN (DefB w) 0 w.Defs <;> rfl
theorem spec_world {w : GWorld} (h : WSz w) : g_spec_WorldOk w = some (WorldB w) := by
  unfold g_spec_WorldOk WorldB
  have he := h.e
  have h0 := allLoop (L := w.Dict) (fun _ => EntB w) (g_spec_WorldOk_l0 w) (fun k n x hx hn => by
      have hd := h.es x (List.mem_of_getElem? hx)
      rw [g_spec_WorldOk_l0, decide_eq_true (by omega), cond_true, getI_nat, hx]
      simp only [Option.bind_some]
      rw [sIn, specHasN h.st.v, specNameOk hd, nxt (by omega)]
      unfold EntB
      have e1 : (w.St.Vars.any fun y => x.N == y) = (w.St.Vars.any fun y => x.N == y) := rfl
      generalize (w.St.Vars.any fun y => x.N == y) = b1
      generalize inB x.N 0 _ = b2
      generalize named x.Name = b3
      cases x.Var <;> cases b1 <;> cases b2 <;> cases b3 <;> rfl) (fun k n hn => by rw [g_spec_WorldOk_l0, decide_eq_false (by omega), cond_false]) (by omega)
  rw [spec_st h.st, spec_defs h, h0, allN_const]
  generalize StB w.St = b1
  generalize decide ((w.Defs.length : Int) > 24) = b2
  generalize decide ((w.Dict.length : Int) > 40) = b3
  generalize (w.Open && ((w.Defs.length : Int) == 0)) = b4
  generalize allN (DefB w) 0 w.Defs = b5
  generalize w.Dict.all (EntB w) = b6
  revert b1 b2 b3 b4 b5 b6
  decide +kernel
theorem impl_world {w : GWorld} (h : WSz w) : g_impl_WorldOk w = some (WorldB w) := by
  unfold g_impl_WorldOk WorldB
  have he := h.e
  have hl := h.d
  have h0 := allLoop (L := w.Dict) (fun _ => EntB w) (g_impl_WorldOk_l1 w.Dict (w.Dict.length : Int) w) (fun k n x hx hn => by
      have hd := h.es x (List.mem_of_getElem? hx)
      rw [g_impl_WorldOk_l1, decide_eq_true (by omega), cond_true, getI_nat, hx]
      simp only [Option.bind_some]
      rw [wIn, has_l0 h.st.v, implNameOk hd, nxt (by omega)]
      unfold EntB
      generalize (w.St.Vars.any fun y => x.N == y) = b1
      generalize inB x.N 0 _ = b2
      generalize named x.Name = b3
      cases x.Var <;> cases b1 <;> cases b2 <;> cases b3 <;> rfl) (fun k n hn => by rw [g_impl_WorldOk_l1, decide_eq_false (by omega), cond_false]) (by omega)
  have h1 := allLoop (L := w.Defs) (DefB w) (g_impl_WorldOk_l0 w.Defs (w.Defs.length : Int) w) (fun k n x hx hn => by
      have hd := h.ds x (List.mem_of_getElem? hx)
      have hb := hd.b
      rw [g_impl_WorldOk_l0, decide_eq_true (by omega), cond_true, getI_nat, hx]
      simp only [Option.bind_some]
      rw [implNameOk hd.n, below_eq hb, impl_open hb]
      simp only [Option.bind_some]
      rw [nxt (by omega), wI64 (by omega) (by omega)]
      unfold DefB opB
      have e2 : ((n : Int) == (w.Defs.length : Int) - 1) = decide (n + 1 = w.Defs.length) := by
        rw [Bool.eq_iff_iff]
        simp
        omega
      rw [e2]
      have eb : (x.Body.all fun o => !(o.Kind == 2 && decide (IntKind.wrap .i64 o.N ≥ (w.Defs.length : Int)))) = belowB w.Defs.length x.Body := rfl
      rw [eb]
      generalize decide ((x.Body.length : Int) ≤ 60) = b1
      generalize decide (n + 1 = w.Defs.length) = b2
      generalize x.Body.all okB = b3
      generalize belowB w.Defs.length x.Body = b4
      generalize named x.Name = b5
      generalize w.Open = b6
      cases b3
      · cases b5 <;> cases b1 <;> rfl
      · cases openF x.Body [] with
        | none => cases b5 <;> cases b1 <;> cases b4 <;> rfl
        | some v =>
          simp only [cond_true]
          rw [gt0]
          generalize decide (v = []) = b7
          cases b5 <;> cases b1 <;> cases b4 <;> cases b7 <;> cases b6 <;> cases b2 <;> rfl) (fun k n hn => by rw [g_impl_WorldOk_l0, decide_eq_false (by omega), cond_false]) (by omega)
  rw [impl_st h.st, h1, h0, allN_const]
  generalize StB w.St = b1
  generalize decide ((w.Defs.length : Int) > 24) = b2
  generalize decide ((w.Dict.length : Int) > 40) = b3
  generalize ((w.Defs.length : Int) == 0) = b4
  generalize allN (DefB w) 0 w.Defs = b5
  generalize w.Dict.all (EntB w) = b6
  generalize w.Open = b7
  revert b1 b2 b3 b4 b5 b6 b7
  decide +kernel
end Go.Proofs.YtmlkglhpaneepaaGreatDoor
namespace Go.Proofs.YtmlkglhpaneepaaGreatDoor
open Go Go.Fm
def total (L : List (List GItem)) : Nat := L.foldr (fun l n => l.length + n) 0
theorem total_cons (l : List GItem) (L : List (List GItem)) : total (l :: L) = l.length + total L := rfl
theorem concat_l0 {L : List (List GItem)} : ∀ (k n size : Nat), L.length ≤ 1000 → n ≤ L.length → L.length - n < k → size + total (L.drop n) ≤ 1048576 → g_slices_Concat_Item_l0 L (L.length : Int) k size n = some ((size + total (L.drop n) : Nat) : Int) := by
  intro k
  induction k with
  | zero => intro n size hL h0 h1; omega
  | succ k ih =>
    intro n size hL h0 h1 h2
    rw [g_slices_Concat_Item_l0]
    by_cases hn : n < L.length
    · rw [List.drop_eq_getElem_cons hn, total_cons] at h2 ⊢
      rw [decide_eq_true (by omega), cond_true, getI_nat, List.getElem?_eq_getElem hn]
      simp only [Option.bind_some]
      rw [wI64 (x := (size : Int) + _) (by omega) (by omega), decide_eq_false (by omega), cond_false]
      simp only [Option.bind_some]
      rw [wI64 (by omega) (by omega), show (n : Int) + 1 = ((n + 1 : Nat) : Int) by omega, show (size : Int) + (L[n].length : Int) = ((size + L[n].length : Nat) : Int) by omega, ih (n + 1) _ hL (by omega) (by omega) (by omega), Nat.add_assoc]
    · rw [decide_eq_false (by omega), cond_false, List.drop_eq_nil_of_le (by omega)]
      rfl
theorem concat_l1 {L : List (List GItem)} : ∀ (k n : Nat) (out : List GItem), L.length ≤ 1000 → n ≤ L.length → L.length - n < k → out.length + total (L.drop n) ≤ 1048576 → g_slices_Concat_Item_l1 L (L.length : Int) k out n = some (out ++ (L.drop n).flatten) := by
  intro k
  induction k with
  | zero => intro n size hL h0 h1; omega
  | succ k ih =>
    intro n out hL h0 h1 h2
    rw [g_slices_Concat_Item_l1]
    by_cases hn : n < L.length
    · rw [List.drop_eq_getElem_cons hn, total_cons] at h2
      rw [List.drop_eq_getElem_cons hn, List.flatten_cons]
      rw [decide_eq_true (by omega), cond_true, getI_nat, List.getElem?_eq_getElem hn]
      simp only [Option.bind_some]
      rw [app_eq (by omega)]
      simp only [Option.bind_some]
      rw [wI64 (by omega) (by omega), show (n : Int) + 1 = ((n + 1 : Nat) : Int) by omega, ih (n + 1) _ hL (by omega) (by omega) (by rw [List.length_append]; omega), List.append_assoc]
    · rw [decide_eq_false (by omega), cond_false, List.drop_eq_nil_of_le (by omega), List.flatten_nil, List.append_nil]
theorem grow_eq {n : Nat} (h : n ≤ 1048576) : g_slices_Grow_Item_emp (n : Int) = some [] := by
  unfold g_slices_Grow_Item_emp
  rw [decide_eq_false (by omega), cond_false, show IntKind.wrap .i64 (0 - 0) = 0 from rfl, Int.sub_zero, wI64 (by omega) (by omega)]
  simp only [Option.bind_some]
  by_cases h0 : (n : Int) > 0
  · rw [decide_eq_true h0, cond_true, mk_eq (by omega) (by omega)]
    simp only [Option.bind_some]
    rw [subL_eq (by decide) (by decide) (by simp)]
    rfl
  · rw [decide_eq_false h0, cond_false]; rfl
theorem concat2 {p q : List GItem} (h : p.length + q.length ≤ 1048576) : g_slices_Concat_Item [p, q] = some (p ++ q) := by
  unfold g_slices_Concat_Item
  have ht : total [p, q] = p.length + q.length := by simp only [total_cons]; unfold total; simp
  have h0 := concat_l0 (L := [p, q]) bigK 0 0 (by simp) (by simp) (by unfold bigK; simp) (by rw [List.drop_zero, ht]; omega)
  rw [Int.natCast_zero, List.drop_zero, ht, Nat.zero_add] at h0
  rw [h0]
  simp only [Option.bind_some]
  rw [grow_eq (by omega)]
  simp only [Option.bind_some]
  have h1 := concat_l1 (L := [p, q]) bigK 0 [] (by simp) (by simp) (by unfold bigK; simp) (by rw [List.drop_zero, ht]; simp; omega)
  rw [Int.natCast_zero, List.drop_zero] at h1
  rw [h1]
  simp
structure EdSz (e : GEd) : Prop where
  l : IL e.Left
  r : IL e.Right
  c : IL e.Cut
  n : e.Left.length + e.Right.length ≤ 1048576
  m : e.Cut.length ≤ 1048576
def itemB (it : GItem) : Bool := (g_spec_ItemOk it).getD false
theorem specItemOk {it : GItem} (h : Iok it) : g_spec_ItemOk it = some (itemB it) := by
  obtain ⟨cs, hc, _⟩ := specCells_ok h.1 h.2
  unfold itemB g_spec_ItemOk
  rw [hc]
  rfl
theorem implItemOk {it : GItem} (h : Iok it) : g_impl_ItemOk it = some (itemB it) := by
  rw [← specItemOk h]
  unfold g_impl_ItemOk g_spec_ItemOk
  rw [cells_eq h.1]
theorem cut_eq {l : List GItem} (hl : IL l) (hn : l.length ≤ 1048576) : g_slices_ContainsFunc_Item_impl_EdOkc1 l = some (!(l.all itemB)) := by
  unfold g_slices_ContainsFunc_Item_impl_EdOkc1 g_slices_IndexFunc_Item_impl_EdOkc1
  have key : ∀ (k n : Nat), n ≤ l.length → l.length - n < k → ∃ o : Unit ⊕ Int, g_slices_IndexFunc_Item_impl_EdOkc1_l0 l (l.length : Int) k n = some o ∧ (match o with | .inl _ => ((l.drop n).all itemB) = true | .inr v => 0 ≤ v ∧ ((l.drop n).all itemB) = false) := by
    intro k
    induction k with
    | zero => intro n h0 h1; omega
    | succ k ih =>
      intro n h0 h1
      rw [g_slices_IndexFunc_Item_impl_EdOkc1_l0]
      by_cases hi : n < l.length
      · rw [decide_eq_true (by omega), cond_true, getI_nat, List.getElem?_eq_getElem hi, List.drop_eq_getElem_cons hi, List.all_cons]
        unfold g_impl_EdOkc1
        simp only [Option.bind_some]
        rw [implItemOk (hl _ (List.getElem_mem hi))]
        simp only [Option.bind_some]
        cases hk : itemB l[n]
        · rw [Bool.not_false, cond_true]
          exact ⟨_, rfl, by simp⟩
        · rw [Bool.not_true, cond_false, nxt (by omega)]
          obtain ⟨o, g1, g2⟩ := ih (n + 1) (by omega) (by omega)
          exact ⟨o, g1, by cases o <;> simpa using g2⟩
      · rw [decide_eq_false (by omega), cond_false, List.drop_eq_nil_of_le (by omega)]
        exact ⟨_, rfl, rfl⟩
  obtain ⟨o, h, g⟩ := key bigK 0 (Nat.zero_le _) (by unfold bigK; omega)
  rw [Int.natCast_zero] at h
  rw [List.drop_zero] at g
  rw [h]
  cases o with
  | inl u => simp only [Option.bind_some]; rw [g]; rfl
  | inr v => simp only [Option.bind_some]; rw [g.2, decide_eq_true g.1]; rfl
theorem ed_both {e : GEd} (h : EdSz e) : ∃ b, g_spec_EdOk e = some b ∧ g_impl_EdOk e = some b := by
  obtain ⟨cs, ok, lo, _, _, _, _, hs, hi, hb⟩ := listOk_both (h.l.app h.r) (by rw [List.length_append]; exact h.n)
  have h0 := allLoop (L := e.Cut) (fun _ => itemB) (g_spec_EdOk_l0 e) (fun k n x hx hn => by
      have hm := h.m
      rw [g_spec_EdOk_l0, decide_eq_true (by omega), cond_true, getI_nat, hx]
      simp only [Option.bind_some]
      rw [specItemOk (h.c x (List.mem_of_getElem? hx))]
      simp only [Option.bind_some]
      rw [nxt (by omega), flipC]) (fun k n hn => by rw [g_spec_EdOk_l0, decide_eq_false (by omega), cond_false]) (by have := h.m; omega)
  have hall : (g_spec_l07All e).bind (fun y_8 => (g_spec_ListOk y_8).bind fun y_9 => some y_9) = some lo := by
    unfold g_spec_l07All
    by_cases hl : e.Left.length > 64 ∨ e.Right.length > 64
    · have hv : (cond (decide ((e.Left.length : Int) > 64)) (some true) (some (decide ((e.Right.length : Int) > 64))) : Option Bool) = some true := by
        by_cases h1 : (e.Left.length : Int) > 64
        · rw [decide_eq_true h1]; rfl
        · rw [decide_eq_false h1, decide_eq_true (by omega)]; rfl
      rw [hv]
      simp only [Option.bind_some, cond_true]
      rw [mk_eq (by decide) (by decide)]
      simp only [Option.bind_some]
      have hz : IL (List.replicate (65 : Int).toNat (⟨0, [], 0, false, 0⟩ : GItem)) := fun x hx => by rw [List.eq_of_mem_replicate hx]; exact iok (by simp)
      obtain ⟨cs2, ok2, lo2, _, _, _, _, hs2, _, hb2⟩ := listOk_both hz (by rw [List.length_replicate]; decide)
      rw [hs2]
      simp only [Option.bind_some]
      have e1 : lo2 = false := by
        cases lo2
        · rfl
        · have := hb2 rfl
          rw [List.length_replicate] at this
          exact absurd this (by decide)
      have e2 : lo = false := by
        cases lo
        · rfl
        · have := hb rfl
          rw [List.length_append] at this
          omega
      rw [e1, e2]
    · have hv : (cond (decide ((e.Left.length : Int) > 64)) (some true) (some (decide ((e.Right.length : Int) > 64))) : Option Bool) = some false := by
        rw [decide_eq_false (by omega), decide_eq_false (by omega)]; rfl
      rw [hv]
      simp only [Option.bind_some, cond_false]
      rw [app_eq (by simp; omega)]
      simp only [Option.bind_some, List.nil_append]
      rw [app_eq (by omega)]
      simp only [Option.bind_some]
      rw [hs]
      rfl
  have hcat : g_impl_edItems e = some (e.Left ++ e.Right) := by
    unfold g_impl_edItems
    rw [concat2 h.n]
    rfl
  refine ⟨decide ((e.Cut.length : Int) ≤ 20) && (e.Cut.all itemB && lo), ?_, ?_⟩
  · unfold g_spec_EdOk
    rw [h0, allN_const]
    by_cases hc : (e.Cut.length : Int) > 20
    · rw [decide_eq_true hc, decide_eq_false (by omega)]
      rfl
    · rw [decide_eq_false hc, decide_eq_true (by omega), cond_false]
      cases e.Cut.all itemB
      · rfl
      · simp only [cond_true, Option.bind_some]
        rw [hall]
        rfl
  · unfold g_impl_EdOk
    rw [cut_eq h.c h.m, hcat]
    by_cases hc : (e.Cut.length : Int) > 20
    · rw [decide_eq_false (by omega)]
      rfl
    · rw [decide_eq_true (by omega), cond_true]
      cases e.Cut.all itemB
      · rfl
      · simp only [Bool.not_true, cond_true, Option.bind_some, Bool.not_false]
        rw [hi]
        rfl
structure SSz (s : GSession) : Prop where
  w : WSz s.World
  e : EdSz s.Ed
theorem st_store {st : GSt} (h : StB st = true) : ((Int.tmod (st.Cells.length : Int) 64) == 0) = true ∧ decide ((st.Cells.length : Int) ≤ 768) = true := by
  unfold StB at h
  simp only [Bool.and_eq_true] at h
  exact h.2.2.2.2.2.2.2.2.1
theorem has_one {st : GStore} {b : Int} (h : ((Int.tmod (st.Cells.length : Int) 64) == 0) = true ∧ decide ((st.Cells.length : Int) ≤ 768) = true) : g_impl_hasBlocks st [b] = some (inB b 0 (IntKind.wrap .i64 ((IntKind.wrap .i64 (Int.tdiv (st.Cells.length : Int) 64)) - 1))) := by
  unfold g_impl_hasBlocks g_impl_StoreOk
  rw [h.1, h.2]
  simp only [cond_true, Option.bind_some]
  unfold g_slices_ContainsFunc_int_impl_hasBlocksc1 g_slices_IndexFunc_int_impl_hasBlocksc1
  have hb : bigK = 18446744073709551614 + 1 + 1 := by decide
  rw [hb, g_slices_IndexFunc_int_impl_hasBlocksc1_l0]
  have e0 : getI [b] 0 = some b := rfl
  rw [e0]
  unfold g_impl_hasBlocksc1
  simp only [Option.bind_some]
  rw [wIn]
  simp only [Option.bind_some]
  generalize inB b 0 _ = q
  rw [show decide ((0 : Int) < (([b] : List Int).length : Int)) = true from rfl, cond_true]
  cases q
  · rfl
  · rw [Bool.not_true, cond_false, g_slices_IndexFunc_int_impl_hasBlocksc1_l0]
    rw [show decide ((IntKind.wrap .i64 (0 + 1)) < (([b] : List Int).length : Int)) = false from rfl]
    rfl
theorem session_both {s : GSession} (h : SSz s) : ∃ b, g_spec_SessionOk s = some b ∧ g_impl_SessionOk s = some b := by
  obtain ⟨eb, e1, e2⟩ := ed_both h.e
  unfold g_spec_SessionOk g_impl_SessionOk
  rw [spec_world h.w, impl_world h.w, e1, e2]
  simp only [Option.bind_some]
  cases hw : WorldB s.World
  · exact ⟨false, rfl, rfl⟩
  · simp only [Bool.not_true, cond_false]
    cases eb
    · exact ⟨false, rfl, rfl⟩
    · simp only [Option.bind_some, Bool.not_true, cond_false]
      have hst : StB s.World.St = true := by
        unfold WorldB at hw
        exact (Bool.and_eq_true _ _ ▸ hw).1
      cases hk : (s.Block == (-1))
      · simp only [cond_false]
        rw [sIn]
        unfold g_impl_Session_store
        simp only [Option.bind_some]
        rw [has_one (st_store hst)]
        exact ⟨_, rfl, rfl⟩
      · simp only [cond_true]
        unfold g_spec_l18NoEd
        have hn := h.e.n
        have hm := h.e.m
        refine ⟨_, ?_, rfl⟩
        rw [wI64 (x := (s.Ed.Left.length : Int) + s.Ed.Right.length) (by omega) (by omega), wI64 (by omega) (by omega)]
        by_cases a1 : s.Ed.Left.length = 0
        · by_cases a2 : s.Ed.Right.length = 0
          · simp [a1, a2]
          · have : ((s.Ed.Right.length : Int) == 0) = false := beq_eq_false_iff_ne.2 (by omega)
            have t0 : (((s.Ed.Left.length : Int) + s.Ed.Right.length + s.Ed.Cut.length) == 0) = false := beq_eq_false_iff_ne.2 (by omega)
            rw [beq_iff_eq.2 (show (s.Ed.Left.length : Int) = 0 by omega), this, t0]
            rfl
        · have t0 : (((s.Ed.Left.length : Int) + s.Ed.Right.length + s.Ed.Cut.length) == 0) = false := beq_eq_false_iff_ne.2 (by omega)
          rw [beq_eq_false_iff_ne.2 (show (s.Ed.Left.length : Int) ≠ 0 by omega), t0]
          rfl
end Go.Proofs.YtmlkglhpaneepaaGreatDoor
namespace Go.Proofs.YtmlkglhpaneepaaGreatDoor
open Go Go.Fm
theorem copyM {α : Type} {a : List α} (F : Nat → List α → Int → Option (List α))
    (hs : ∀ (k n : Nat) (out : List α) (x y : α), a[n]? = some x → n < a.length → out[n]? = some y → F (k + 1) out n = F k (out.set n x) ((n + 1 : Nat) : Int))
    (he : ∀ (k n : Nat) (out : List α), a.length ≤ n → F (k + 1) out n = some out) (hm : a.length ≤ 16777216) {z : List α} (hz : z.length = a.length) : F bigK z 0 = some a := by
  have key : ∀ (k n : Nat) (rest : List α), n ≤ a.length → a.length - n < k → rest.length = a.length - n → F k (a.take n ++ rest) n = some a := by
    intro k
    induction k with
    | zero => intro n rest h0 h1; omega
    | succ k ih =>
      intro n rest h0 h1 h2
      by_cases hn : n < a.length
      · cases rest with
        | nil => simp at h2; omega
        | cons x r =>
          have hl : (a.take n).length = n := by rw [List.length_take]; omega
          rw [hs k n _ a[n] x (List.getElem?_eq_getElem hn) hn (by rw [List.getElem?_append_right (by omega), hl, Nat.sub_self]; rfl)]
          have hset : (a.take n ++ x :: r).set n a[n] = a.take (n + 1) ++ r := by
            rw [List.set_append_right _ _ (by omega), hl, Nat.sub_self, List.set_cons_zero, List.take_succ_eq_append_getElem hn, List.append_assoc]
            rfl
          rw [hset]
          exact ih (n + 1) r (by omega) (by omega) (by simp at h2; omega)
      · have hr : rest = [] := List.length_eq_zero_iff.1 (by omega)
        rw [he k n _ (by omega), hr, List.append_nil, List.take_of_length_le (by omega)]
  have h := key bigK 0 z (Nat.zero_le _) (by unfold bigK; omega) (by omega)
  rw [Int.natCast_zero, List.take_zero, List.nil_append] at h
  exact h
theorem copyLoop {α : Type} {a : List α} (F : Nat → List α → Int → Option (List α))
    (hs : ∀ (k : Nat) (out : List α) (i : Int), F (k + 1) out i = cond (decide (i < (a.length : Int))) ((getI a i).bind fun x => (getI out i).bind fun _ => F k (out.set i.toNat x) (IntKind.wrap .i64 (i + 1))) (some out))
    (hm : a.length ≤ 16777216) {z : List α} (hz : z.length = a.length) : F bigK z 0 = some a := by
  by_cases hb : a.length < 16777216
  · exact copyM F (fun k n out x y hx hn hy => by
      rw [hs, decide_eq_true (by omega), cond_true, getI_nat, hx]
      simp only [Option.bind_some]
      rw [getI_nat, hy, nxt (by omega)]
      rfl) (fun k n out hn => by rw [hs, decide_eq_false (by omega), cond_false]) hm hz
  · exact copyM F (fun k n out x y hx hn hy => by
      rw [hs, decide_eq_true (by omega), cond_true, getI_nat, hx]
      simp only [Option.bind_some]
      rw [getI_nat, hy, nxt (by omega)]
      rfl) (fun k n out hn => by rw [hs, decide_eq_false (by omega), cond_false]) hm hz
theorem toInt32S {a : List Int} (h : a.length ≤ 1048576) : g_laws_toInt32S a = some a := by
  unfold g_laws_toInt32S
  rw [mk_eq (by omega) (by omega), Option.bind_some, copyLoop (g_laws_toInt32S_l0 a) (fun _ _ _ => rfl) (by omega) (by simp)]
  rfl
theorem toUint32S {a : List Int} (h : a.length ≤ 1048576) : g_laws_toUint32S a = some a := by
  unfold g_laws_toUint32S
  rw [mk_eq (by omega) (by omega), Option.bind_some, copyLoop (g_laws_toUint32S_l0 a) (fun _ _ _ => rfl) (by omega) (by simp)]
  rfl
theorem toIntS {a : List Int} (h : a.length ≤ 1048576) : g_laws_toIntS a = some a := by
  unfold g_laws_toIntS
  rw [mk_eq (by omega) (by omega), Option.bind_some, copyLoop (g_laws_toIntS_l0 a) (fun _ _ _ => rfl) (by omega) (by simp)]
  rfl
theorem toByteS {a : List Int} (h : a.length ≤ 1048576) : g_laws_toByteS a = some a := by
  unfold g_laws_toByteS
  rw [mk_eq (by omega) (by omega), Option.bind_some, copyLoop (g_laws_toByteS_l0 a) (fun _ _ _ => rfl) (by omega) (by simp)]
  rfl
theorem toOpS {a : List GOp} (h : a.length ≤ 1048576) : g_laws_toOpS a = some a := by
  unfold g_laws_toOpS
  rw [mk_eq (by omega) (by omega), Option.bind_some, copyLoop (g_laws_toOpS_l0 a) (fun _ _ _ => rfl) (by omega) (by simp)]
  rfl
theorem toSlotS {a : List GOp} (h : a.length ≤ 1048576) : g_laws_toSlotS a = some a := by
  unfold g_laws_toSlotS
  rw [mk_eq (by omega) (by omega), Option.bind_some, copyLoop (g_laws_toSlotS_l0 a) (fun _ _ _ => rfl) (by omega) (by simp)]
  rfl
theorem toEntryS {a : List GEntry} (h : a.length ≤ 1048576) : g_laws_toEntryS a = some a := by
  unfold g_laws_toEntryS
  rw [mk_eq (by omega) (by omega), Option.bind_some, copyLoop (g_laws_toEntryS_l0 a) (fun _ _ _ => rfl) (by omega) (by simp)]
  rfl
theorem toItemS {a : List GItem} (h : a.length ≤ 1048576) : g_laws_toItemS a = some a := by
  unfold g_laws_toItemS
  rw [mk_eq (by omega) (by omega), Option.bind_some, copyLoop (g_laws_toItemS_l0 a) (fun _ _ _ => rfl) (by omega) (by simp)]
  rfl
theorem toDefS {a : List GDef} (h : a.length ≤ 1048576) (hd : ∀ d ∈ a, DefSz d) : g_laws_toDefS a = some a := by
  unfold g_laws_toDefS
  rw [mk_eq (by omega) (by omega), Option.bind_some, copyM (a := a) (g_laws_toDefS_l0 a) (fun k n out x y hx hn hy => by
    rw [g_laws_toDefS_l0, decide_eq_true (by omega), cond_true, getI_nat, hx]
    simp only [Option.bind_some]
    unfold g_laws_toDef_imm
    rw [toOpS (hd x (List.mem_of_getElem? hx)).b]
    simp only [Option.bind_some]
    rw [getI_nat, hy, nxt (by omega)]
    rfl) (fun k n out hn => by rw [g_laws_toDefS_l0, decide_eq_false (by omega), cond_false]) (by omega) (by simp)]
  rfl
theorem eqRefl {α : Type} {a : List α} (F : Nat → Int → Option (Unit ⊕ Bool)) (f : Option Bool)
    (hf : f = cond ((a.length : Int) != (a.length : Int)) (some false) (((F bigK 0).bind fun o => match o with | .inl () => some (.inl ()) | .inr v => some (.inr v) : Option (Unit ⊕ Bool)).bind fun o => match o with | .inl () => some true | .inr v => some v))
    (hs : ∀ (k n : Nat) (x : α), a[n]? = some x → n < a.length → F (k + 1) n = F k ((n + 1 : Nat) : Int)) (he : ∀ (k n : Nat), a.length ≤ n → F (k + 1) n = some (.inl ())) (hm : a.length ≤ 16777216) : f = some true := by
  have h := allLoop (L := a) (bad := false) (fun _ _ => true) F (fun k n x hx hn => by rw [hs k n x hx hn]; rfl) he hm
  rw [hf, h]
  have e : ∀ (n : Nat) (l : List α), allN (fun _ _ => true) n l = true := fun n l => by rw [allN_const (fun _ => true)]; simp
  rw [e]
  simp
theorem bne_self' {α : Type} [BEq α] [LawfulBEq α] (x : α) : (x != x) = false := by simp
theorem eqInt32S {a : List Int} (h : a.length ≤ 1048576) : g_laws_eqInt32S a a = some true := by
  rw [show g_laws_eqInt32S a a = some (decide (a = a)) from eqList (g_laws_eqInt32S_l0 a a) _ rfl (fun _ _ => rfl) (by omega)]; simp
theorem eqUint32S {a : List Int} (h : a.length ≤ 1048576) : g_laws_eqUint32S a a = some true := by
  rw [show g_laws_eqUint32S a a = some (decide (a = a)) from eqList (g_laws_eqUint32S_l0 a a) _ rfl (fun _ _ => rfl) (by omega)]; simp
theorem eqIntS {a : List Int} (h : a.length ≤ 1048576) : g_laws_eqIntS a a = some true := by
  rw [show g_laws_eqIntS a a = some (decide (a = a)) from eqList (g_laws_eqIntS_l0 a a) _ rfl (fun _ _ => rfl) (by omega)]; simp
theorem eqByteS {a : List Int} (h : a.length ≤ 1048576) : g_laws_eqByteS a a = some true := by
  rw [show g_laws_eqByteS a a = some (decide (a = a)) from eqList (g_laws_eqByteS_l0 a a) _ rfl (fun _ _ => rfl) (by omega)]; simp
theorem eqOpS {a : List GOp} (h : a.length ≤ 1048576) : g_laws_eqOpS a a = some true :=
  eqRefl (g_laws_eqOpS_l0 a a) _ rfl (fun k n x hx hn => by
    rw [g_laws_eqOpS_l0, decide_eq_true (by omega), cond_true, getI_nat, hx]
    unfold g_laws_eqOp
    simp only [Option.bind_some, bne_self', cond_false, Bool.not_true]
    rw [nxt (by omega)]) (fun k n hn => by rw [g_laws_eqOpS_l0, decide_eq_false (by omega), cond_false]) (by omega)
theorem eqSlotS {a : List GOp} (h : a.length ≤ 1048576) : g_laws_eqSlotS a a = some true :=
  eqRefl (g_laws_eqSlotS_l0 a a) _ rfl (fun k n x hx hn => by
    rw [g_laws_eqSlotS_l0, decide_eq_true (by omega), cond_true, getI_nat, hx]
    unfold g_laws_eqSlot
    simp only [Option.bind_some, bne_self', cond_false, Bool.not_true]
    rw [nxt (by omega)]) (fun k n hn => by rw [g_laws_eqSlotS_l0, decide_eq_false (by omega), cond_false]) (by omega)
theorem eqEntryS {a : List GEntry} (h : a.length ≤ 1048576) : g_laws_eqEntryS a a = some true :=
  eqRefl (g_laws_eqEntryS_l0 a a) _ rfl (fun k n x hx hn => by
    rw [g_laws_eqEntryS_l0, decide_eq_true (by omega), cond_true, getI_nat, hx]
    unfold g_laws_eqEntry
    simp only [Option.bind_some, bne_self', cond_false, Bool.not_true]
    rw [nxt (by omega)]) (fun k n hn => by rw [g_laws_eqEntryS_l0, decide_eq_false (by omega), cond_false]) (by omega)
theorem eqItemS {a : List GItem} (h : a.length ≤ 1048576) : g_laws_eqItemS a a = some true :=
  eqRefl (g_laws_eqItemS_l0 a a) _ rfl (fun k n x hx hn => by
    rw [g_laws_eqItemS_l0, decide_eq_true (by omega), cond_true, getI_nat, hx]
    unfold g_laws_eqItem
    simp only [Option.bind_some, bne_self', cond_false, Bool.not_true]
    rw [nxt (by omega)]) (fun k n hn => by rw [g_laws_eqItemS_l0, decide_eq_false (by omega), cond_false]) (by omega)
theorem eqDefS {a : List GDef} (h : a.length ≤ 1048576) (hd : ∀ d ∈ a, DefSz d) : g_laws_eqDefS a a = some true :=
  eqRefl (g_laws_eqDefS_l0 a a) _ rfl (fun k n x hx hn => by
    rw [g_laws_eqDefS_l0, decide_eq_true (by omega), cond_true, getI_nat, hx]
    unfold g_laws_eqDef
    simp only [Option.bind_some, bne_self', cond_false]
    rw [eqOpS (hd x (List.mem_of_getElem? hx)).b]
    simp only [Option.bind_some, Bool.not_true, cond_false]
    rw [nxt (by omega)]) (fun k n hn => by rw [g_laws_eqDefS_l0, decide_eq_false (by omega), cond_false]) (by omega)
def Fits (f : Int → Option Int) (c : Nat) (Q : Prop) : Prop := ∀ left : Int, 0 ≤ left → left ≤ 1048576 → Tot (f left) fun r => r < 0 ∨ (0 ≤ r ∧ r + c ≤ left ∧ Q)
theorem Fits.one {f : Int → Option Int} {n : Nat} (hn : n ≤ 9223372036854775807) (hf : ∀ left, f left = cond (decide ((IntKind.wrap .i64 (left - (n : Int))) < 0)) (some (-1)) (some (IntKind.wrap .i64 (left - (n : Int))))) : Fits f n True := fun left h0 h1 => by
  rw [hf, wI64 (by omega) (by omega)]
  exact .condD (fun _ => .some (.inl (by decide))) fun h => .some (.inr ⟨by omega, by omega, trivial⟩)
theorem Fits.seq {f g : Int → Option Int} {h : Int → Option Int} {c d : Nat} {Q R : Prop} (hg : Fits g c Q) (hh : Fits h d R) (hf : ∀ left, f left = (g left).bind fun y => cond (decide (y < 0)) (some (-1)) (h y)) : Fits f (c + d) (Q ∧ R) := fun left h0 h1 => by
  rw [hf]
  refine .bind (hg left h0 h1) fun y hy => .condD (fun _ => .some (.inl (by decide))) fun hn => ?_
  have hy := hy.resolve_left hn
  refine (hh y hy.1 (by omega)).mono fun r hr => ?_
  rcases hr with hr | hr
  · exact .inl hr
  · exact .inr ⟨hr.1, by omega, hy.2.2, hr.2.2⟩
theorem Fits.last : Fits (fun y => some y) 0 True := fun left h0 h1 => .some (.inr ⟨h0, by omega, trivial⟩)
theorem Fits.list {α : Type} {a : List α} {f : Int → Option Int} {F : Nat → Int → Int → Option (Int ⊕ Int)} {g : α → Int → Option Int} {Q : α → Prop} (hl : a.length ≤ 9223372036854775807) (hg : ∀ x ∈ a, Fits (g x) 0 (Q x))
    (hs : ∀ k left i, F (k + 1) left i = cond (decide (i < (a.length : Int))) ((getI a i).bind fun v => (g v left).bind fun y => cond (decide (y < 0)) (some (.inr (-1))) (F k y (IntKind.wrap .i64 (i + 1)))) (some (.inl left)))
    (hf : ∀ left, f left = cond (decide ((IntKind.wrap .i64 (left - (a.length : Int))) < 0)) (some (-1)) (((F bigK (IntKind.wrap .i64 (left - (a.length : Int))) 0).bind fun o => match o with | .inl l => some (.inl l) | .inr v => some (.inr v) : Option (Int ⊕ Int)).bind fun o => match o with | .inl l => some l | .inr v => some v)) :
    Fits f a.length (∀ x ∈ a, Q x) := fun left h0 h1 => by
  rw [hf, wI64 (by omega) (by omega)]
  refine .condD (fun h => .some (.inl (by decide))) fun h => ?_
  have key : ∀ (k n : Nat) (l : Int), n ≤ a.length → a.length - n < k → 0 ≤ l → l ≤ left - a.length → (∀ x ∈ a.take n, Q x) → Tot (F k l (n : Int)) fun o => match o with | .inl r => 0 ≤ r ∧ r ≤ left - a.length ∧ ∀ x ∈ a, Q x | .inr v => v < 0 := by
    intro k
    induction k with
    | zero => intro n l g0 g1; omega
    | succ k ih =>
      intro n l g0 g1 g2 g3 g4
      rw [hs]
      refine .condD (fun hi => ?_) fun hi => .some ⟨g2, g3, by rw [List.take_of_length_le (by omega)] at g4; exact g4⟩
      have hn : n < a.length := by omega
      refine .bindE (a := a[n]) (by rw [getI_nat, List.getElem?_eq_getElem hn]) (.bind (hg _ (List.getElem_mem hn) l g2 (by omega)) fun y hy => .condD (fun _ => .some (by show (-1 : Int) < 0; decide)) fun hy0 => ?_)
      have hy := hy.resolve_left hy0
      rw [nxt (by omega)]
      refine ih (n + 1) y (by omega) (by omega) hy.1 (by omega) fun x hx => ?_
      rw [List.take_succ_eq_append_getElem hn] at hx
      rcases List.mem_append.1 hx with hx | hx
      · exact g4 x hx
      · rw [List.mem_singleton.1 hx]; exact hy.2.2
  have k0 := key bigK 0 (left - a.length) (Nat.zero_le _) (by unfold bigK; omega) (by omega) (Int.le_refl _) (fun x hx => by rw [List.take_zero] at hx; cases hx)
  obtain ⟨o, e, ho⟩ := k0
  rw [Int.natCast_zero] at e
  rw [e]
  cases o with
  | inl r => exact .some (.inr ⟨ho.1, by have := ho.2.1; omega, ho.2.2⟩)
  | inr u => exact .some (.inl ho)
theorem Fits.weak {f : Int → Option Int} {c : Nat} {Q R : Prop} (h : Fits f c Q) (hq : c ≤ 1048576 → Q → R) : Fits f 0 R := fun left h0 h1 => (h left h0 h1).mono fun r hr => by
  rcases hr with hr | hr
  · exact .inl hr
  · exact .inr ⟨hr.1, by omega, hq (by omega) hr.2.2⟩
abbrev LN : Nat := 9223372036854775807
structure DefW (d : GDef) : Prop where
  n : d.Name.length ≤ LN
  b : d.Body.length ≤ LN
structure StW (st : GSt) : Prop where
  d : st.Data.length ≤ LN
  r : st.Ret.length ≤ LN
  m : st.Mem.length ≤ LN
  c : st.Cells.length ≤ LN
  v : st.Vars.length ≤ LN
  o : st.Out.length ≤ LN
  i : st.In.length ≤ LN
structure ItW (it : GItem) : Prop where
  n : it.Name.length ≤ LN
  r : 0 ≤ it.Raw ∧ it.Raw < 4294967296
structure LW (l : List GItem) : Prop where
  n : l.length ≤ LN
  i : ∀ x ∈ l, ItW x
structure SessW (s : GSession) : Prop where
  d : s.World.Defs.length ≤ LN
  ds : ∀ d ∈ s.World.Defs, DefW d
  e : s.World.Dict.length ≤ LN
  es : ∀ x ∈ s.World.Dict, x.Name.length ≤ LN
  st : StW s.World.St
  l : LW s.Ed.Left
  r : LW s.Ed.Right
  c : LW s.Ed.Cut
structure StAll (st : GSt) : Prop where
  d : st.Data.length ≤ 1048576
  r : st.Ret.length ≤ 1048576
  m : st.Mem.length ≤ 1048576
  c : st.Cells.length ≤ 1048576
  v : st.Vars.length ≤ 1048576
  o : st.Out.length ≤ 1048576
  i : st.In.length ≤ 1048576
theorem fitsSt {st : GSt} (h : StW st) : Fits (g_laws_szSt st) 0 (StAll st) :=
  Fits.weak (Fits.seq (Fits.one h.d fun _ => rfl) (Fits.seq (Fits.one h.r fun _ => rfl) (Fits.seq (Fits.one h.m fun _ => rfl) (Fits.seq (Fits.one h.c fun _ => rfl) (Fits.seq (Fits.one h.v fun _ => rfl) (Fits.seq (Fits.one h.o fun _ => rfl)
    (Fits.seq (Fits.one h.i fun _ => rfl) Fits.last fun _ => rfl) fun _ => rfl) fun _ => rfl) fun _ => rfl) fun _ => rfl) fun _ => rfl) fun _ => rfl) fun hc _ => ⟨by omega, by omega, by omega, by omega, by omega, by omega, by omega⟩
theorem fitsDefs {a : List GDef} (hl : a.length ≤ LN) (hd : ∀ d ∈ a, DefW d) : Fits (g_laws_szDefS a) 0 (a.length ≤ 1048576 ∧ ∀ d ∈ a, DefSz d) :=
  Fits.weak (Fits.list (F := g_laws_szDefS_l0 a) (g := g_laws_szDef) hl (fun x hx => (show Fits (g_laws_szDef x) 0 (DefSz x) from fun left h0 h1 => by
    have hw := hd x hx
    unfold g_laws_szDef
    have hn : x.Name.length ≤ 9223372036854775807 := hw.n
    rw [wI64 (by omega) (by omega)]
    refine .condD (fun _ => .some (.inl (by decide))) fun hk => ?_
    refine .bind ((Fits.one hw.b fun _ => rfl : Fits (g_laws_szOpS x.Body) _ _) _ (by omega) (by omega)) fun y hy => .condD (fun _ => .some (.inl (by decide))) fun hy0 => ?_
    have hy := hy.resolve_left hy0
    exact .some (.inr ⟨hy.1, by omega, ⟨by omega, by omega⟩⟩))) (fun _ _ _ => rfl) (fun _ => rfl)) fun hc hq => ⟨hc, hq⟩
theorem fitsDict {a : List GEntry} (hl : a.length ≤ LN) (hd : ∀ d ∈ a, d.Name.length ≤ LN) : Fits (g_laws_szEntryS a) 0 (a.length ≤ 1048576 ∧ ∀ d ∈ a, d.Name.length ≤ 1048576) :=
  Fits.weak (Fits.list (F := g_laws_szEntryS_l0 a) (g := g_laws_szEntry) hl (fun x hx => Fits.weak (Fits.one (hd x hx) fun _ => rfl) fun hc _ => hc) (fun _ _ _ => rfl) (fun _ => rfl)) fun hc hq => ⟨hc, hq⟩
theorem fitsItems {a : List GItem} (h : LW a) : Fits (g_laws_szItemS a) a.length (IL a) :=
  Fits.list (F := g_laws_szItemS_l0 a) (g := g_laws_szItem) h.n (fun x hx => Fits.weak (Fits.one (h.i x hx).n fun _ => rfl) fun hc _ => ⟨hc, (h.i x hx).r⟩) (fun _ _ _ => rfl) (fun _ => rfl)
structure SessAll (s : GSession) : Prop where
  d : s.World.Defs.length ≤ 1048576 ∧ ∀ d ∈ s.World.Defs, DefSz d
  e : s.World.Dict.length ≤ 1048576 ∧ ∀ d ∈ s.World.Dict, d.Name.length ≤ 1048576
  st : StAll s.World.St
  ed : EdSz s.Ed
theorem fitsEd {e : GEd} (hl : LW e.Left) (hr : LW e.Right) (hc : LW e.Cut) : Fits (g_laws_szEd e) 0 (EdSz e) :=
  Fits.weak (Fits.seq (fitsItems hl) (Fits.seq (fitsItems hr) (Fits.seq (fitsItems hc) Fits.last fun _ => rfl) fun _ => rfl) fun _ => rfl) fun hn hq => ⟨hq.1, hq.2.1, hq.2.2.1, by omega, by omega⟩
theorem fitsWorld {s : GSession} (h : SessW s) : Fits (g_laws_szWorld s.World) 0 ((s.World.Defs.length ≤ 1048576 ∧ ∀ d ∈ s.World.Defs, DefSz d) ∧ (s.World.Dict.length ≤ 1048576 ∧ ∀ d ∈ s.World.Dict, d.Name.length ≤ 1048576) ∧ StAll s.World.St) :=
  Fits.weak (Fits.seq (fitsDefs h.d h.ds) (Fits.seq (fitsDict h.e h.es) (Fits.seq (fitsSt h.st) Fits.last fun _ => rfl) fun _ => rfl) fun _ => rfl) fun _ hq => ⟨hq.1, hq.2.1, hq.2.2.1⟩
theorem fitsSession {s : GSession} (h : SessW s) : Fits (g_laws_szSession s) 0 (SessAll s) :=
  Fits.weak (Fits.seq (fitsWorld h) (Fits.seq (fitsEd h.l h.r h.c) Fits.last fun _ => rfl) fun _ => rfl) fun _ hq => ⟨hq.1.1, hq.1.2.1, hq.1.2.2, hq.2.1⟩
theorem toSession_eq {s : GSession} (h : SessAll s) : g_laws_toSession s = some s := by
  have hl : s.Ed.Left.length ≤ 1048576 := by have := h.ed.n; omega
  have hr : s.Ed.Right.length ≤ 1048576 := by have := h.ed.n; omega
  unfold g_laws_toSession g_laws_toWorld g_laws_toSt g_laws_toEd
  simp only [toDefS h.d.1 h.d.2, toEntryS h.e.1, toInt32S h.st.d, toSlotS h.st.r, toInt32S h.st.m, toUint32S h.st.c, toIntS h.st.v, toByteS h.st.o, toByteS h.st.i, toItemS hl, toItemS hr, toItemS h.ed.m, Option.bind_some]
theorem eqSession_eq {s : GSession} (h : SessAll s) : g_laws_eqSession s s = some true := by
  have hl : s.Ed.Left.length ≤ 1048576 := by have := h.ed.n; omega
  have hr : s.Ed.Right.length ≤ 1048576 := by have := h.ed.n; omega
  unfold g_laws_eqSession g_laws_eqWorld g_laws_eqSt g_laws_eqEd
  simp only [eqDefS h.d.1 h.d.2, eqEntryS h.e.1, eqInt32S h.st.d, eqSlotS h.st.r, eqInt32S h.st.m, eqUint32S h.st.c, eqIntS h.st.v, eqByteS h.st.o, eqByteS h.st.i, eqItemS hl, eqItemS hr, eqItemS h.ed.m, Option.bind_some, Bool.not_true, cond_false, bne_self']
theorem law_session {s : GSession} (h : SessW s) : g_laws_FnExactSessionOk s = some true := by
  unfold g_laws_FnExactSessionOk
  obtain ⟨y, e, hy⟩ := fitsSession h 1048576 (by decide) (by decide)
  rw [e]
  simp only [Option.bind_some]
  by_cases h0 : y < 0
  · rw [decide_eq_true h0, cond_true]
  · rw [decide_eq_false h0, cond_false]
    have hs := (hy.resolve_left h0).2.2
    obtain ⟨b, e1, e2⟩ := session_both (s := s) ⟨⟨⟨hs.st.r, hs.st.v⟩, hs.d.1, hs.d.2, hs.e.1, hs.e.2⟩, hs.ed⟩
    simp only [toSession_eq hs, Option.bind_some, e1, e2, eqSession_eq hs, bne_self', cond_false, Bool.not_true]
end Go.Proofs.YtmlkglhpaneepaaGreatDoor
namespace Go.Proofs.YtmlkglhpaneepaaGreatDoor
open Go Go.Fm
theorem lw_of {l : List GItem} (h : l.length ≤ maxLen ∧ ∀ x ∈ l, (Lit.int .i64 x.Kind).wf = true ∧ x.Name.length ≤ maxLen ∧ (Lit.int .i32 x.N).wf = true ∧ True ∧ (Lit.int .u32 x.Raw).wf = true) : LW l :=
  ⟨h.1, fun x hx => ⟨(h.2 x hx).2.1, wfU32 (h.2 x hx).2.2.2.2⟩⟩
theorem wf_session (x0 : GSession) (g0 : (fun x : GSession => (fun x : GWorld => (fun xs : List GDef => xs.length ≤ maxLen ∧ ∀ x ∈ xs, (fun x : GDef => (fun l : Bs => l.length ≤ maxLen) x.Name ∧ (fun xs : List GOp => xs.length ≤ maxLen ∧ ∀ x ∈ xs, (fun x : GOp => (fun n : Int => (Lit.int .i64 n).wf = true) x.Kind ∧ (fun n : Int => (Lit.int .i32 n).wf = true) x.N) x) x.Body) x) x.Defs ∧ (fun xs : List GEntry => xs.length ≤ maxLen ∧ ∀ x ∈ xs, (fun x : GEntry => (fun l : Bs => l.length ≤ maxLen) x.Name ∧ (fun _ : Bool => True) x.Var ∧ (fun n : Int => (Lit.int .i64 n).wf = true) x.N) x) x.Dict ∧ (fun x : GSt => (fun xs : List Int => xs.length ≤ maxLen ∧ ∀ x ∈ xs, (fun n : Int => (Lit.int .i32 n).wf = true) x) x.Data ∧ (fun xs : List GOp => xs.length ≤ maxLen ∧ ∀ x ∈ xs, (fun x : GOp => (fun n : Int => (Lit.int .i64 n).wf = true) x.Kind ∧ (fun n : Int => (Lit.int .i32 n).wf = true) x.N) x) x.Ret ∧ (fun n : Int => (Lit.int .i32 n).wf = true) x.A ∧ (fun xs : List Int => xs.length ≤ maxLen ∧ ∀ x ∈ xs, (fun n : Int => (Lit.int .i32 n).wf = true) x) x.Mem ∧ (fun xs : List Int => xs.length ≤ maxLen ∧ ∀ x ∈ xs, (fun n : Int => (Lit.int .u32 n).wf = true) x) x.Cells ∧ (fun xs : List Int => xs.length ≤ maxLen ∧ ∀ x ∈ xs, (fun n : Int => (Lit.int .i64 n).wf = true) x) x.Vars ∧ (fun xs : List Int => xs.length ≤ maxLen ∧ ∀ x ∈ xs, (fun n : Int => (Lit.int .u8 n).wf = true) x) x.Out ∧ (fun xs : List Int => xs.length ≤ maxLen ∧ ∀ x ∈ xs, (fun n : Int => (Lit.int .u8 n).wf = true) x) x.In ∧ (fun n : Int => (Lit.int .i64 n).wf = true) x.Fault ∧ (fun n : Int => (Lit.int .i64 n).wf = true) x.Fuel) x.St ∧ (fun _ : Bool => True) x.Open ∧ (fun _ : Bool => True) x.Yellow) x.World ∧ (fun x : GEd => (fun xs : List GItem => xs.length ≤ maxLen ∧ ∀ x ∈ xs, (fun x : GItem => (fun n : Int => (Lit.int .i64 n).wf = true) x.Kind ∧ (fun l : Bs => l.length ≤ maxLen) x.Name ∧ (fun n : Int => (Lit.int .i32 n).wf = true) x.N ∧ (fun _ : Bool => True) x.Hex ∧ (fun n : Int => (Lit.int .u32 n).wf = true) x.Raw) x) x.Left ∧ (fun xs : List GItem => xs.length ≤ maxLen ∧ ∀ x ∈ xs, (fun x : GItem => (fun n : Int => (Lit.int .i64 n).wf = true) x.Kind ∧ (fun l : Bs => l.length ≤ maxLen) x.Name ∧ (fun n : Int => (Lit.int .i32 n).wf = true) x.N ∧ (fun _ : Bool => True) x.Hex ∧ (fun n : Int => (Lit.int .u32 n).wf = true) x.Raw) x) x.Right ∧ (fun xs : List GItem => xs.length ≤ maxLen ∧ ∀ x ∈ xs, (fun x : GItem => (fun n : Int => (Lit.int .i64 n).wf = true) x.Kind ∧ (fun l : Bs => l.length ≤ maxLen) x.Name ∧ (fun n : Int => (Lit.int .i32 n).wf = true) x.N ∧ (fun _ : Bool => True) x.Hex ∧ (fun n : Int => (Lit.int .u32 n).wf = true) x.Raw) x) x.Cut) x.Ed ∧ (fun n : Int => (Lit.int .i64 n).wf = true) x.Block) x0) : SessW x0 := by
  obtain ⟨⟨hd, he, ⟨h1, h2, _, h4, h5, h6, h7, h8, _, _⟩, _, _⟩, ⟨hl, hr, hc⟩, _⟩ := g0
  exact ⟨hd.1, fun d hm => ⟨(hd.2 d hm).1, (hd.2 d hm).2.1⟩, he.1, fun x hm => (he.2 x hm).1, ⟨h1.1, h2.1, h4.1, h5.1, h6.1, h7.1, h8.1⟩, lw_of hl, lw_of hr, lw_of hc⟩
end Go.Proofs.YtmlkglhpaneepaaGreatDoor

namespace Go.Proofs.YtmlkglhpaneepaaGreatDoor
open Go Go.Fm
set_option maxRecDepth 100000
theorem typed_GOp : Typed [.int .i64, .int .i32] GOp.cs (fun x : GOp => (fun n : Int => (Lit.int .i64 n).wf = true) x.Kind ∧ (fun n : Int => (Lit.int .i32 n).wf = true) x.N) := fun row hl h => by
  match row, hl with
  | [c0, c1], _ =>
    obtain ⟨x0, e0, g0⟩ := (typed_int .i64) [c0] rfl (one_cell (h 0 _ c0 rfl rfl))
    obtain ⟨x1, e1, g1⟩ := (typed_int .i32) [c1] rfl (one_cell (h 1 _ c1 rfl rfl))
    obtain rfl := (List.cons.inj e0).1
    obtain rfl := (List.cons.inj e1).1
    exact ⟨(⟨x0, x1⟩ : GOp), rfl, ⟨g0, g1⟩⟩
theorem typed_GDef : Typed [.str, .sl [.int .i64, .int .i32]] GDef.cs (fun x : GDef => (fun l : Bs => l.length ≤ maxLen) x.Name ∧ (fun xs : List GOp => xs.length ≤ maxLen ∧ ∀ x ∈ xs, (fun x : GOp => (fun n : Int => (Lit.int .i64 n).wf = true) x.Kind ∧ (fun n : Int => (Lit.int .i32 n).wf = true) x.N) x) x.Body) := fun row hl h => by
  match row, hl with
  | [c0, c1], _ =>
    obtain ⟨x0, e0, g0⟩ := (typed_str) [c0] rfl (one_cell (h 0 _ c0 rfl rfl))
    obtain ⟨x1, e1, g1⟩ := (typed_sl (typed_GOp) rfl (by decide)) [c1] rfl (one_cell (h 1 _ c1 rfl rfl))
    obtain rfl := (List.cons.inj e0).1
    obtain rfl := (List.cons.inj e1).1
    exact ⟨(⟨x0, x1⟩ : GDef), rfl, ⟨g0, g1⟩⟩
theorem typed_GEntry : Typed [.str, .bool, .int .i64] GEntry.cs (fun x : GEntry => (fun l : Bs => l.length ≤ maxLen) x.Name ∧ (fun _ : Bool => True) x.Var ∧ (fun n : Int => (Lit.int .i64 n).wf = true) x.N) := fun row hl h => by
  match row, hl with
  | [c0, c1, c2], _ =>
    obtain ⟨x0, e0, g0⟩ := (typed_str) [c0] rfl (one_cell (h 0 _ c0 rfl rfl))
    obtain ⟨x1, e1, g1⟩ := (typed_bool) [c1] rfl (one_cell (h 1 _ c1 rfl rfl))
    obtain ⟨x2, e2, g2⟩ := (typed_int .i64) [c2] rfl (one_cell (h 2 _ c2 rfl rfl))
    obtain rfl := (List.cons.inj e0).1
    obtain rfl := (List.cons.inj e1).1
    obtain rfl := (List.cons.inj e2).1
    exact ⟨(⟨x0, x1, x2⟩ : GEntry), rfl, ⟨g0, g1, g2⟩⟩
theorem typed_GItem : Typed [.int .i64, .str, .int .i32, .bool, .int .u32] GItem.cs (fun x : GItem => (fun n : Int => (Lit.int .i64 n).wf = true) x.Kind ∧ (fun l : Bs => l.length ≤ maxLen) x.Name ∧ (fun n : Int => (Lit.int .i32 n).wf = true) x.N ∧ (fun _ : Bool => True) x.Hex ∧ (fun n : Int => (Lit.int .u32 n).wf = true) x.Raw) := fun row hl h => by
  match row, hl with
  | [c0, c1, c2, c3, c4], _ =>
    obtain ⟨x0, e0, g0⟩ := (typed_int .i64) [c0] rfl (one_cell (h 0 _ c0 rfl rfl))
    obtain ⟨x1, e1, g1⟩ := (typed_str) [c1] rfl (one_cell (h 1 _ c1 rfl rfl))
    obtain ⟨x2, e2, g2⟩ := (typed_int .i32) [c2] rfl (one_cell (h 2 _ c2 rfl rfl))
    obtain ⟨x3, e3, g3⟩ := (typed_bool) [c3] rfl (one_cell (h 3 _ c3 rfl rfl))
    obtain ⟨x4, e4, g4⟩ := (typed_int .u32) [c4] rfl (one_cell (h 4 _ c4 rfl rfl))
    obtain rfl := (List.cons.inj e0).1
    obtain rfl := (List.cons.inj e1).1
    obtain rfl := (List.cons.inj e2).1
    obtain rfl := (List.cons.inj e3).1
    obtain rfl := (List.cons.inj e4).1
    exact ⟨(⟨x0, x1, x2, x3, x4⟩ : GItem), rfl, ⟨g0, g1, g2, g3, g4⟩⟩
theorem typed_GSession : Typed [.sl [.str, .sl [.int .i64, .int .i32]], .sl [.str, .bool, .int .i64], .sl [.int .i32], .sl [.int .i64, .int .i32], .int .i32, .sl [.int .i32], .sl [.int .u32], .sl [.int .i64], .sl [.int .u8], .sl [.int .u8], .int .i64, .int .i64, .bool, .bool, .sl [.int .i64, .str, .int .i32, .bool, .int .u32], .sl [.int .i64, .str, .int .i32, .bool, .int .u32], .sl [.int .i64, .str, .int .i32, .bool, .int .u32], .int .i64] GSession.cs (fun x : GSession => (fun x : GWorld => (fun xs : List GDef => xs.length ≤ maxLen ∧ ∀ x ∈ xs, (fun x : GDef => (fun l : Bs => l.length ≤ maxLen) x.Name ∧ (fun xs : List GOp => xs.length ≤ maxLen ∧ ∀ x ∈ xs, (fun x : GOp => (fun n : Int => (Lit.int .i64 n).wf = true) x.Kind ∧ (fun n : Int => (Lit.int .i32 n).wf = true) x.N) x) x.Body) x) x.Defs ∧ (fun xs : List GEntry => xs.length ≤ maxLen ∧ ∀ x ∈ xs, (fun x : GEntry => (fun l : Bs => l.length ≤ maxLen) x.Name ∧ (fun _ : Bool => True) x.Var ∧ (fun n : Int => (Lit.int .i64 n).wf = true) x.N) x) x.Dict ∧ (fun x : GSt => (fun xs : List Int => xs.length ≤ maxLen ∧ ∀ x ∈ xs, (fun n : Int => (Lit.int .i32 n).wf = true) x) x.Data ∧ (fun xs : List GOp => xs.length ≤ maxLen ∧ ∀ x ∈ xs, (fun x : GOp => (fun n : Int => (Lit.int .i64 n).wf = true) x.Kind ∧ (fun n : Int => (Lit.int .i32 n).wf = true) x.N) x) x.Ret ∧ (fun n : Int => (Lit.int .i32 n).wf = true) x.A ∧ (fun xs : List Int => xs.length ≤ maxLen ∧ ∀ x ∈ xs, (fun n : Int => (Lit.int .i32 n).wf = true) x) x.Mem ∧ (fun xs : List Int => xs.length ≤ maxLen ∧ ∀ x ∈ xs, (fun n : Int => (Lit.int .u32 n).wf = true) x) x.Cells ∧ (fun xs : List Int => xs.length ≤ maxLen ∧ ∀ x ∈ xs, (fun n : Int => (Lit.int .i64 n).wf = true) x) x.Vars ∧ (fun xs : List Int => xs.length ≤ maxLen ∧ ∀ x ∈ xs, (fun n : Int => (Lit.int .u8 n).wf = true) x) x.Out ∧ (fun xs : List Int => xs.length ≤ maxLen ∧ ∀ x ∈ xs, (fun n : Int => (Lit.int .u8 n).wf = true) x) x.In ∧ (fun n : Int => (Lit.int .i64 n).wf = true) x.Fault ∧ (fun n : Int => (Lit.int .i64 n).wf = true) x.Fuel) x.St ∧ (fun _ : Bool => True) x.Open ∧ (fun _ : Bool => True) x.Yellow) x.World ∧ (fun x : GEd => (fun xs : List GItem => xs.length ≤ maxLen ∧ ∀ x ∈ xs, (fun x : GItem => (fun n : Int => (Lit.int .i64 n).wf = true) x.Kind ∧ (fun l : Bs => l.length ≤ maxLen) x.Name ∧ (fun n : Int => (Lit.int .i32 n).wf = true) x.N ∧ (fun _ : Bool => True) x.Hex ∧ (fun n : Int => (Lit.int .u32 n).wf = true) x.Raw) x) x.Left ∧ (fun xs : List GItem => xs.length ≤ maxLen ∧ ∀ x ∈ xs, (fun x : GItem => (fun n : Int => (Lit.int .i64 n).wf = true) x.Kind ∧ (fun l : Bs => l.length ≤ maxLen) x.Name ∧ (fun n : Int => (Lit.int .i32 n).wf = true) x.N ∧ (fun _ : Bool => True) x.Hex ∧ (fun n : Int => (Lit.int .u32 n).wf = true) x.Raw) x) x.Right ∧ (fun xs : List GItem => xs.length ≤ maxLen ∧ ∀ x ∈ xs, (fun x : GItem => (fun n : Int => (Lit.int .i64 n).wf = true) x.Kind ∧ (fun l : Bs => l.length ≤ maxLen) x.Name ∧ (fun n : Int => (Lit.int .i32 n).wf = true) x.N ∧ (fun _ : Bool => True) x.Hex ∧ (fun n : Int => (Lit.int .u32 n).wf = true) x.Raw) x) x.Cut) x.Ed ∧ (fun n : Int => (Lit.int .i64 n).wf = true) x.Block) := fun row hl h => by
  match row, hl with
  | [c0, c1, c2, c3, c4, c5, c6, c7, c8, c9, c10, c11, c12, c13, c14, c15, c16, c17], _ =>
    obtain ⟨x0, e0, g0⟩ := (typed_sl (typed_GDef) rfl (by decide)) [c0] rfl (one_cell (h 0 _ c0 rfl rfl))
    obtain ⟨x1, e1, g1⟩ := (typed_sl (typed_GEntry) rfl (by decide)) [c1] rfl (one_cell (h 1 _ c1 rfl rfl))
    obtain ⟨x2, e2, g2⟩ := (typed_sl (typed_int .i32) rfl (by decide)) [c2] rfl (one_cell (h 2 _ c2 rfl rfl))
    obtain ⟨x3, e3, g3⟩ := (typed_sl (typed_GOp) rfl (by decide)) [c3] rfl (one_cell (h 3 _ c3 rfl rfl))
    obtain ⟨x4, e4, g4⟩ := (typed_int .i32) [c4] rfl (one_cell (h 4 _ c4 rfl rfl))
    obtain ⟨x5, e5, g5⟩ := (typed_sl (typed_int .i32) rfl (by decide)) [c5] rfl (one_cell (h 5 _ c5 rfl rfl))
    obtain ⟨x6, e6, g6⟩ := (typed_sl (typed_int .u32) rfl (by decide)) [c6] rfl (one_cell (h 6 _ c6 rfl rfl))
    obtain ⟨x7, e7, g7⟩ := (typed_sl (typed_int .i64) rfl (by decide)) [c7] rfl (one_cell (h 7 _ c7 rfl rfl))
    obtain ⟨x8, e8, g8⟩ := (typed_sl (typed_int .u8) rfl (by decide)) [c8] rfl (one_cell (h 8 _ c8 rfl rfl))
    obtain ⟨x9, e9, g9⟩ := (typed_sl (typed_int .u8) rfl (by decide)) [c9] rfl (one_cell (h 9 _ c9 rfl rfl))
    obtain ⟨x10, e10, g10⟩ := (typed_int .i64) [c10] rfl (one_cell (h 10 _ c10 rfl rfl))
    obtain ⟨x11, e11, g11⟩ := (typed_int .i64) [c11] rfl (one_cell (h 11 _ c11 rfl rfl))
    obtain ⟨x12, e12, g12⟩ := (typed_bool) [c12] rfl (one_cell (h 12 _ c12 rfl rfl))
    obtain ⟨x13, e13, g13⟩ := (typed_bool) [c13] rfl (one_cell (h 13 _ c13 rfl rfl))
    obtain ⟨x14, e14, g14⟩ := (typed_sl (typed_GItem) rfl (by decide)) [c14] rfl (one_cell (h 14 _ c14 rfl rfl))
    obtain ⟨x15, e15, g15⟩ := (typed_sl (typed_GItem) rfl (by decide)) [c15] rfl (one_cell (h 15 _ c15 rfl rfl))
    obtain ⟨x16, e16, g16⟩ := (typed_sl (typed_GItem) rfl (by decide)) [c16] rfl (one_cell (h 16 _ c16 rfl rfl))
    obtain ⟨x17, e17, g17⟩ := (typed_int .i64) [c17] rfl (one_cell (h 17 _ c17 rfl rfl))
    obtain rfl := (List.cons.inj e0).1
    obtain rfl := (List.cons.inj e1).1
    obtain rfl := (List.cons.inj e2).1
    obtain rfl := (List.cons.inj e3).1
    obtain rfl := (List.cons.inj e4).1
    obtain rfl := (List.cons.inj e5).1
    obtain rfl := (List.cons.inj e6).1
    obtain rfl := (List.cons.inj e7).1
    obtain rfl := (List.cons.inj e8).1
    obtain rfl := (List.cons.inj e9).1
    obtain rfl := (List.cons.inj e10).1
    obtain rfl := (List.cons.inj e11).1
    obtain rfl := (List.cons.inj e12).1
    obtain rfl := (List.cons.inj e13).1
    obtain rfl := (List.cons.inj e14).1
    obtain rfl := (List.cons.inj e15).1
    obtain rfl := (List.cons.inj e16).1
    obtain rfl := (List.cons.inj e17).1
    exact ⟨(⟨(⟨x0, x1, (⟨x2, x3, x4, x5, x6, x7, x8, x9, x10, x11⟩ : GSt), x12, x13⟩ : GWorld), (⟨x14, x15, x16⟩ : GEd), x17⟩ : GSession), rfl, ⟨⟨g0, g1, ⟨g2, g3, g4, g5, g6, g7, g8, g9, g10, g11⟩, g12, g13⟩, ⟨g14, g15, g16⟩, g17⟩⟩
theorem ans_FnExactSessionOk (x0 : GSession) (g0 : (fun x : GSession => (fun x : GWorld => (fun xs : List GDef => xs.length ≤ maxLen ∧ ∀ x ∈ xs, (fun x : GDef => (fun l : Bs => l.length ≤ maxLen) x.Name ∧ (fun xs : List GOp => xs.length ≤ maxLen ∧ ∀ x ∈ xs, (fun x : GOp => (fun n : Int => (Lit.int .i64 n).wf = true) x.Kind ∧ (fun n : Int => (Lit.int .i32 n).wf = true) x.N) x) x.Body) x) x.Defs ∧ (fun xs : List GEntry => xs.length ≤ maxLen ∧ ∀ x ∈ xs, (fun x : GEntry => (fun l : Bs => l.length ≤ maxLen) x.Name ∧ (fun _ : Bool => True) x.Var ∧ (fun n : Int => (Lit.int .i64 n).wf = true) x.N) x) x.Dict ∧ (fun x : GSt => (fun xs : List Int => xs.length ≤ maxLen ∧ ∀ x ∈ xs, (fun n : Int => (Lit.int .i32 n).wf = true) x) x.Data ∧ (fun xs : List GOp => xs.length ≤ maxLen ∧ ∀ x ∈ xs, (fun x : GOp => (fun n : Int => (Lit.int .i64 n).wf = true) x.Kind ∧ (fun n : Int => (Lit.int .i32 n).wf = true) x.N) x) x.Ret ∧ (fun n : Int => (Lit.int .i32 n).wf = true) x.A ∧ (fun xs : List Int => xs.length ≤ maxLen ∧ ∀ x ∈ xs, (fun n : Int => (Lit.int .i32 n).wf = true) x) x.Mem ∧ (fun xs : List Int => xs.length ≤ maxLen ∧ ∀ x ∈ xs, (fun n : Int => (Lit.int .u32 n).wf = true) x) x.Cells ∧ (fun xs : List Int => xs.length ≤ maxLen ∧ ∀ x ∈ xs, (fun n : Int => (Lit.int .i64 n).wf = true) x) x.Vars ∧ (fun xs : List Int => xs.length ≤ maxLen ∧ ∀ x ∈ xs, (fun n : Int => (Lit.int .u8 n).wf = true) x) x.Out ∧ (fun xs : List Int => xs.length ≤ maxLen ∧ ∀ x ∈ xs, (fun n : Int => (Lit.int .u8 n).wf = true) x) x.In ∧ (fun n : Int => (Lit.int .i64 n).wf = true) x.Fault ∧ (fun n : Int => (Lit.int .i64 n).wf = true) x.Fuel) x.St ∧ (fun _ : Bool => True) x.Open ∧ (fun _ : Bool => True) x.Yellow) x.World ∧ (fun x : GEd => (fun xs : List GItem => xs.length ≤ maxLen ∧ ∀ x ∈ xs, (fun x : GItem => (fun n : Int => (Lit.int .i64 n).wf = true) x.Kind ∧ (fun l : Bs => l.length ≤ maxLen) x.Name ∧ (fun n : Int => (Lit.int .i32 n).wf = true) x.N ∧ (fun _ : Bool => True) x.Hex ∧ (fun n : Int => (Lit.int .u32 n).wf = true) x.Raw) x) x.Left ∧ (fun xs : List GItem => xs.length ≤ maxLen ∧ ∀ x ∈ xs, (fun x : GItem => (fun n : Int => (Lit.int .i64 n).wf = true) x.Kind ∧ (fun l : Bs => l.length ≤ maxLen) x.Name ∧ (fun n : Int => (Lit.int .i32 n).wf = true) x.N ∧ (fun _ : Bool => True) x.Hex ∧ (fun n : Int => (Lit.int .u32 n).wf = true) x.Raw) x) x.Right ∧ (fun xs : List GItem => xs.length ≤ maxLen ∧ ∀ x ∈ xs, (fun x : GItem => (fun n : Int => (Lit.int .i64 n).wf = true) x.Kind ∧ (fun l : Bs => l.length ≤ maxLen) x.Name ∧ (fun n : Int => (Lit.int .i32 n).wf = true) x.N ∧ (fun _ : Bool => True) x.Hex ∧ (fun n : Int => (Lit.int .u32 n).wf = true) x.Raw) x) x.Cut) x.Ed ∧ (fun n : Int => (Lit.int .i64 n).wf = true) x.Block) x0) :
    Ans Tryz.prog 3 [.agg [.imm 2 x0.World.Defs.length (x0.World.Defs.flatMap GDef.cs), .imm 3 x0.World.Dict.length (x0.World.Dict.flatMap GEntry.cs), .imm 1 x0.World.St.Data.length (x0.World.St.Data.flatMap (eI .i32)), .imm 2 x0.World.St.Ret.length (x0.World.St.Ret.flatMap GOp.cs), .int .i32 x0.World.St.A, .imm 1 x0.World.St.Mem.length (x0.World.St.Mem.flatMap (eI .i32)), .imm 1 x0.World.St.Cells.length (x0.World.St.Cells.flatMap (eI .u32)), .imm 1 x0.World.St.Vars.length (x0.World.St.Vars.flatMap (eI .i64)), .imm 1 x0.World.St.Out.length (x0.World.St.Out.flatMap (eI .u8)), .imm 1 x0.World.St.In.length (x0.World.St.In.flatMap (eI .u8)), .int .i64 x0.World.St.Fault, .int .i64 x0.World.St.Fuel, .bool x0.World.Open, .bool x0.World.Yellow, .imm 5 x0.Ed.Left.length (x0.Ed.Left.flatMap GItem.cs), .imm 5 x0.Ed.Right.length (x0.Ed.Right.flatMap GItem.cs), .imm 5 x0.Ed.Cut.length (x0.Ed.Cut.flatMap GItem.cs), .int .i64 x0.Block]] [] fun v _ => v = one (.bool true) := fun hm => by
  obtain ⟨r, h1, a, b, c, _⟩ := ce_laws_FnExactSessionOk (x0) true (good_pure rfl rfl) (law_session (wf_session x0 g0)) hm
  exact ⟨r, h1, a, b⟩
end Go.Proofs.YtmlkglhpaneepaaGreatDoor
