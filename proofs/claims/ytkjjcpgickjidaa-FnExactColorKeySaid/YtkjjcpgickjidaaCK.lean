import Derived.Test.YtkjjcpgickjidaaCS
import Derived.Test.YtkjjcpgickjidaaFm23
import Derived.Test.YtkjjcpgickjidaaChecked
import Derived.KernelRfl
namespace Go.Proofs.Ytkjjcpgickjidaa
open Go Go.Fm
set_option maxRecDepth 100000
set_option linter.unusedVariables false
set_option linter.unusedSimpArgs false

def IxB (l : List UInt8) (c : UInt8) (x : Int) : Prop := (x = -1 ∧ c ∉ l) ∨ ∃ i : Nat, x = i ∧ l[i]? = some c ∧ ∀ j, j < i → l[j]? ≠ some c

theorem ans_l16Keys : Ans Try.prog 23 [] [] fun r h => r = one (.str [82,71,89,87,84,66,86]) ∧ h = [] := by
  refine ans_of (P := fun _ => Try.prog) TryT_eq (fn := Try.f23) Try.func23 rfl (by kernel_rfl) (Nat.le_of_ble_eq_true rfl) (by simp) ?_
  cbv
  exact ⟨[], 9, _, _, rfl, rfl, rfl⟩
theorem ans_colorKeys : Ans Try.prog 25 [] [] fun r h => r = one (.str [82,71,89,87,84,66,86]) ∧ h = [] := by
  refine ans_of (P := fun _ => Try.prog) TryT_eq (fn := Try.f25) Try.func25 rfl (by kernel_rfl) (Nat.le_of_ble_eq_true rfl) (by simp) ?_
  cbv
  exact ⟨[], 9, _, _, rfl, rfl, rfl⟩
theorem ans_keyKinds : Ans Try.prog 26 [] [] fun r h => r = one (.imm 1 7 [.int .i64 2, .int .i64 3, .int .i64 1, .int .i64 4, .int .i64 5, .int .i64 6, .int .i64 9]) ∧ h = [] := by
  refine ans_of (P := fun _ => Try.prog) TryT_eq (fn := Try.f26) Try.func26 rfl (by kernel_rfl) (Nat.le_of_ble_eq_true rfl) (by simp) ?_
  cbv
  exact ⟨[], 9, _, _, rfl, rfl, rfl⟩
theorem ixB_find (l : List UInt8) (c : UInt8) : IxB l c (match (List.range (⟨l.toArray⟩ : ByteArray).size).find? fun i => (⟨l.toArray⟩ : ByteArray)[i]! == c with | some i => (i : Int) | none => -1) := by
  have hsz : (⟨l.toArray⟩ : ByteArray).size = l.length := by simp [ByteArray.size]
  have hget : ∀ i, (h : i < l.length) → (⟨l.toArray⟩ : ByteArray)[i]! = l[i] := fun i h => by
    rw [getElem!_pos _ _ (by rw [hsz]; exact h)]
    rfl
  cases hf : (List.range (⟨l.toArray⟩ : ByteArray).size).find? fun i => (⟨l.toArray⟩ : ByteArray)[i]! == c with
  | none =>
    refine .inl ⟨rfl, fun hm => ?_⟩
    obtain ⟨i, hi, he⟩ := List.getElem_of_mem hm
    have := List.find?_range_eq_none.1 hf i (by rw [hsz]; exact hi)
    rw [hget i hi, he] at this
    simp at this
  | some i =>
    obtain ⟨h1, h2, h3⟩ := List.find?_range_eq_some.1 hf
    have hi : i < l.length := by have := List.mem_range.1 h2; omega
    rw [hget i hi] at h1
    refine .inr ⟨i, rfl, by rw [List.getElem?_eq_getElem hi]; simpa using h1, fun j hj => ?_⟩
    have := h3 j hj
    rw [hget j (by omega)] at this
    rw [List.getElem?_eq_getElem (by omega)]
    simpa using this
theorem ans_IndexByteString (l : List UInt8) (c : UInt8) : Ans Try.prog 59 [.one (.str l), .one (.int .u8 c.toNat)] [] fun r h => ∃ x, IxB l c x ∧ r = one (.int .i64 x) ∧ h = [] := by
  refine Ans.mono (ans_extern (r := one (.int .i64 (match (List.range (⟨l.toArray⟩ : ByteArray).size).find? fun i => (⟨l.toArray⟩ : ByteArray)[i]! == c with | some i => (i : Int) | none => -1))) (fn := Try.f59) (e := Extern.BytealgIndexByte.indexByte) Try.func59 (by kernel_rfl) (by kernel_rfl) (by kernel_rfl) (by kernel_rfl) fun C vs hl h => ?_) fun r h ⟨h1, h2⟩ => ⟨_, ixB_find l c, h1, h2⟩
  obtain ⟨u0, h0, r0⟩ := h 0 _ rfl
  obtain ⟨u1, h1, r1⟩ := h 1 _ rfl
  obtain rfl : vs = [u0, u1] := by
    match vs, hl, h0, h1 with
    | [a, b], _, h0, h1 => simp at h0 h1; rw [h0, h1]
  obtain ⟨s, rfl, hs⟩ := RSV.str (ρ := C.rho0) (h := hOf []) r0
  obtain rfl := RSV.int (ρ := C.rho0) (h := hOf []) r1
  have hsl : s = ⟨l.toArray⟩ := by
    cases s
    simp only at hs
    subst hs
    simp
  subst hsl
  have hc : Int.toNat (c.toNat : Int) = c.toNat := rfl
  have hc2 : c.toNat.toUInt8 = c := by simp
  have hrun : ∀ (P : Program) (w : World), (Extern.BytealgIndexByte.indexByte [Value.string ⟨l.toArray⟩, Value.int .u8 c.toNat].toArray).run P w = .ok (.int .i64 (match (List.range (⟨l.toArray⟩ : ByteArray).size).find? fun i => (⟨l.toArray⟩ : ByteArray)[i]! == (Int.toNat (c.toNat : Int)).toUInt8 with | some i => (i : Int) | none => -1)) w := fun P w => by
    change (match (List.range (⟨l.toArray⟩ : ByteArray).size).find? fun i => (⟨l.toArray⟩ : ByteArray)[i]! == (Int.toNat (c.toNat : Int)).toUInt8 with | some i => (pure (goInt i) : Sem Value) | none => pure (goInt (-1))).run P w = _
    cases (List.range (⟨l.toArray⟩ : ByteArray).size).find? fun i => (⟨l.toArray⟩ : ByteArray)[i]! == (Int.toNat (c.toNat : Int)).toUInt8 <;> rfl
  rw [hc, hc2] at hrun
  exact ⟨_, hrun _ _, RI.int _ _⟩
theorem ans_slIndexByte (l : List UInt8) (c : UInt8) : Ans Try.prog 46 [.one (.str l), .one (.int .u8 c.toNat)] [] fun r h => ∃ x, IxB l c x ∧ r = one (.int .i64 x) ∧ h = [] := by
  refine ans_of (P := fun _ => Try.prog) TryT_eq (fn := Try.f46) Try.func46 rfl (by kernel_rfl) (Nat.le_of_ble_eq_true rfl) (by simp) ?_
  cbv
  refine callT_of [] 9 rfl rfl rfl rfl (ans_IndexByteString l c) ?_
  rintro r h1 ⟨x, hx, rfl, rfl⟩
  refine ⟨rfl, ?_⟩
  cbv
  exact ⟨[], 9, _, _, rfl, x, hx, rfl, rfl⟩
theorem ans_stIndexByte (l : List UInt8) (c : UInt8) : Ans Try.prog 24 [.one (.str l), .one (.int .u8 c.toNat)] [] fun r h => ∃ x, IxB l c x ∧ r = one (.int .i64 x) ∧ h = [] := by
  refine ans_of (P := fun _ => Try.prog) TryT_eq (fn := Try.f24) Try.func24 rfl (by kernel_rfl) (Nat.le_of_ble_eq_true rfl) (by simp) ?_
  cbv
  refine callT_of [] 9 rfl rfl rfl rfl (ans_slIndexByte l c) ?_
  rintro r h1 ⟨x, hx, rfl, rfl⟩
  refine ⟨rfl, ?_⟩
  cbv
  exact ⟨[], 9, _, _, rfl, x, hx, rfl, rfl⟩
def keyL : List UInt8 := [82, 71, 89, 87, 84, 66, 86]
def kindL : List Int := [2, 3, 1, 4, 5, 6, 9]
def CKey (c : UInt8) (x : Int) : Prop := (x = -1 ∧ c ∉ keyL) ∨ ∃ i : Nat, keyL[i]? = some c ∧ kindL[i]? = some x
theorem ans_implColorKey (c : UInt8) (n : Int) (hn : n = c.toNat) : Ans Try.prog 8 [.one (.int .u8 n)] [] fun r h => ∃ x, CKey c x ∧ r = one (.int .i64 x) ∧ h = [] := by
  refine ans_of (P := fun _ => Try.prog) TryT_eq (fn := Try.f8) Try.func8 rfl (by kernel_rfl) (Nat.le_of_ble_eq_true rfl) (by simp) ?_
  simp only [Try.f8, TryT_3, TryT_4, TryT_5, TryT_9, TryT_31, TryT_32, TryT_45, ↓VC, ↓wops, ↓opF, ↓actT, ↓guardF, dstOk, lk, S.st, St.ev, constSV, constCV, zipE, putE, S.app, setHs, setH, hOf, List.getD_cons_zero, List.getD_cons_succ, List.getD_nil, List.map_cons, List.map_nil, List.length_cons, List.length_nil, skipA, Nat.zero_add, Option.bind_some, Option.bind_none, List.getElem?_cons_zero, List.getElem?_cons_succ, List.getElem?_nil, one, ↓SV.kI, ↓SV.kB, ↓SV.kS, ↓SV.kA, ↓SV.kT, ↓SV.kC, ↓kO, ↓kLive, ↓SV.kPtr, ↓SV.kSl, ↓St.kLen, ↓St.bd, ↓St.cells, ↓partsOf, ↓fillFT, ↓capsOf, ↓binI, ↓shI, ↓kBinT, ↓kUn, ↓builtinFT, ↓kSeq, ↓kBlock, pvOf, over, List.headD_cons, callA, backS, backP, backC, backHp, backH, sig, allIn, ixOf, eq_self, true_and, and_true, if_true, if_false, reduceIte, Nat.reduceEqDiff, Nat.reduceLT, Nat.reduceLeDiff, Nat.reduceAdd, Nat.reduceMul, Nat.reduceSub, Int.reduceToNat, List.take_succ_cons, List.take_zero, List.take_nil, List.drop_succ_cons, List.drop_zero, List.drop_nil, List.append_nil, List.nil_append, List.cons_append, cond_true, cond_false, imp_false, not_true_eq_false, Bool.false_eq_true, forall_const, resF, resL, Option.map_some, Option.map_none, exists_const, ne_eq, Nat.one_ne_zero, not_false_eq_true, Option.isSome_some, List.size_toArray, reduceCtorEq]
  refine callT_of [] 9 rfl rfl rfl rfl ans_colorKeys ?_
  rintro r h1 ⟨rfl, rfl⟩
  refine ⟨rfl, ?_⟩
  simp only [Try.f8, TryT_3, TryT_4, TryT_5, TryT_9, TryT_31, TryT_32, TryT_45, ↓VC, ↓wops, ↓opF, ↓actT, ↓guardF, dstOk, lk, S.st, St.ev, constSV, constCV, zipE, putE, S.app, setHs, setH, hOf, List.getD_cons_zero, List.getD_cons_succ, List.getD_nil, List.map_cons, List.map_nil, List.length_cons, List.length_nil, skipA, Nat.zero_add, Option.bind_some, Option.bind_none, List.getElem?_cons_zero, List.getElem?_cons_succ, List.getElem?_nil, one, ↓SV.kI, ↓SV.kB, ↓SV.kS, ↓SV.kA, ↓SV.kT, ↓SV.kC, ↓kO, ↓kLive, ↓SV.kPtr, ↓SV.kSl, ↓St.kLen, ↓St.bd, ↓St.cells, ↓partsOf, ↓fillFT, ↓capsOf, ↓binI, ↓shI, ↓kBinT, ↓kUn, ↓builtinFT, ↓kSeq, ↓kBlock, pvOf, over, List.headD_cons, callA, backS, backP, backC, backHp, backH, sig, allIn, ixOf, eq_self, true_and, and_true, if_true, if_false, reduceIte, Nat.reduceEqDiff, Nat.reduceLT, Nat.reduceLeDiff, Nat.reduceAdd, Nat.reduceMul, Nat.reduceSub, Int.reduceToNat, List.take_succ_cons, List.take_zero, List.take_nil, List.drop_succ_cons, List.drop_zero, List.drop_nil, List.append_nil, List.nil_append, List.cons_append, cond_true, cond_false, imp_false, not_true_eq_false, Bool.false_eq_true, forall_const, resF, resL, Option.map_some, Option.map_none, exists_const, ne_eq, Nat.one_ne_zero, not_false_eq_true, Option.isSome_some, List.size_toArray, reduceCtorEq]
  subst hn
  refine callT_of [] 9 rfl rfl rfl rfl (ans_stIndexByte _ c) ?_
  rintro r h1 ⟨x, hx, rfl, rfl⟩
  refine ⟨rfl, ?_⟩
  simp only [Try.f8, TryT_3, TryT_4, TryT_5, TryT_9, TryT_31, TryT_32, TryT_45, ↓VC, ↓wops, ↓opF, ↓actT, ↓guardF, dstOk, lk, S.st, St.ev, constSV, constCV, zipE, putE, S.app, setHs, setH, hOf, List.getD_cons_zero, List.getD_cons_succ, List.getD_nil, List.map_cons, List.map_nil, List.length_cons, List.length_nil, skipA, Nat.zero_add, Option.bind_some, Option.bind_none, List.getElem?_cons_zero, List.getElem?_cons_succ, List.getElem?_nil, one, ↓SV.kI, ↓SV.kB, ↓SV.kS, ↓SV.kA, ↓SV.kT, ↓SV.kC, ↓kO, ↓kLive, ↓SV.kPtr, ↓SV.kSl, ↓St.kLen, ↓St.bd, ↓St.cells, ↓partsOf, ↓fillFT, ↓capsOf, ↓binI, ↓shI, ↓kBinT, ↓kUn, ↓builtinFT, ↓kSeq, ↓kBlock, pvOf, over, List.headD_cons, callA, backS, backP, backC, backHp, backH, sig, allIn, ixOf, eq_self, true_and, and_true, if_true, if_false, reduceIte, Nat.reduceEqDiff, Nat.reduceLT, Nat.reduceLeDiff, Nat.reduceAdd, Nat.reduceMul, Nat.reduceSub, Int.reduceToNat, List.take_succ_cons, List.take_zero, List.take_nil, List.drop_succ_cons, List.drop_zero, List.drop_nil, List.append_nil, List.nil_append, List.cons_append, cond_true, cond_false, imp_false, not_true_eq_false, Bool.false_eq_true, forall_const, resF, resL, Option.map_some, Option.map_none, exists_const, ne_eq, Nat.one_ne_zero, not_false_eq_true, Option.isSome_some, List.size_toArray, reduceCtorEq]
  refine kIf_mk (fun hb => ?_) (fun hb => ?_)
  · simp only [Try.f8, TryT_3, TryT_4, TryT_5, TryT_9, TryT_31, TryT_32, TryT_45, ↓VC, ↓wops, ↓opF, ↓actT, ↓guardF, dstOk, lk, S.st, St.ev, constSV, constCV, zipE, putE, S.app, setHs, setH, hOf, List.getD_cons_zero, List.getD_cons_succ, List.getD_nil, List.map_cons, List.map_nil, List.length_cons, List.length_nil, skipA, Nat.zero_add, Option.bind_some, Option.bind_none, List.getElem?_cons_zero, List.getElem?_cons_succ, List.getElem?_nil, one, ↓SV.kI, ↓SV.kB, ↓SV.kS, ↓SV.kA, ↓SV.kT, ↓SV.kC, ↓kO, ↓kLive, ↓SV.kPtr, ↓SV.kSl, ↓St.kLen, ↓St.bd, ↓St.cells, ↓partsOf, ↓fillFT, ↓capsOf, ↓binI, ↓shI, ↓kBinT, ↓kUn, ↓builtinFT, ↓kSeq, ↓kBlock, pvOf, over, List.headD_cons, callA, backS, backP, backC, backHp, backH, sig, allIn, ixOf, eq_self, true_and, and_true, if_true, if_false, reduceIte, Nat.reduceEqDiff, Nat.reduceLT, Nat.reduceLeDiff, Nat.reduceAdd, Nat.reduceMul, Nat.reduceSub, Int.reduceToNat, List.take_succ_cons, List.take_zero, List.take_nil, List.drop_succ_cons, List.drop_zero, List.drop_nil, List.append_nil, List.nil_append, List.cons_append, cond_true, cond_false, imp_false, not_true_eq_false, Bool.false_eq_true, forall_const, resF, resL, Option.map_some, Option.map_none, exists_const, ne_eq, Nat.one_ne_zero, not_false_eq_true, Option.isSome_some, List.size_toArray, reduceCtorEq]
    refine callT_of [] 9 rfl rfl rfl rfl ans_keyKinds ?_
    rintro r h1 ⟨rfl, rfl⟩
    refine ⟨rfl, ?_⟩
    simp only [Try.f8, TryT_3, TryT_4, TryT_5, TryT_9, TryT_31, TryT_32, TryT_45, ↓VC, ↓wops, ↓opF, ↓actT, ↓guardF, dstOk, lk, S.st, St.ev, constSV, constCV, zipE, putE, S.app, setHs, setH, hOf, List.getD_cons_zero, List.getD_cons_succ, List.getD_nil, List.map_cons, List.map_nil, List.length_cons, List.length_nil, skipA, Nat.zero_add, Option.bind_some, Option.bind_none, List.getElem?_cons_zero, List.getElem?_cons_succ, List.getElem?_nil, one, ↓SV.kI, ↓SV.kB, ↓SV.kS, ↓SV.kA, ↓SV.kT, ↓SV.kC, ↓kO, ↓kLive, ↓SV.kPtr, ↓SV.kSl, ↓St.kLen, ↓St.bd, ↓St.cells, ↓partsOf, ↓fillFT, ↓capsOf, ↓binI, ↓shI, ↓kBinT, ↓kUn, ↓builtinFT, ↓kSeq, ↓kBlock, pvOf, over, List.headD_cons, callA, backS, backP, backC, backHp, backH, sig, allIn, ixOf, eq_self, true_and, and_true, if_true, if_false, reduceIte, Nat.reduceEqDiff, Nat.reduceLT, Nat.reduceLeDiff, Nat.reduceAdd, Nat.reduceMul, Nat.reduceSub, Int.reduceToNat, List.take_succ_cons, List.take_zero, List.take_nil, List.drop_succ_cons, List.drop_zero, List.drop_nil, List.append_nil, List.nil_append, List.cons_append, cond_true, cond_false, imp_false, not_true_eq_false, Bool.false_eq_true, forall_const, resF, resL, Option.map_some, Option.map_none, exists_const, ne_eq, Nat.one_ne_zero, not_false_eq_true, Option.isSome_some, List.size_toArray, reduceCtorEq]
    rcases hx with ⟨rfl, _⟩ | ⟨i, rfl, hi, _⟩
    · simp at hb
    · match i, hi with
      | 0, hi => exact ⟨by decide, by decide, [], 9, _, _, rfl, _, .inr ⟨0, hi, rfl⟩, rfl, rfl⟩
      | 1, hi => exact ⟨by decide, by decide, [], 9, _, _, rfl, _, .inr ⟨1, hi, rfl⟩, rfl, rfl⟩
      | 2, hi => exact ⟨by decide, by decide, [], 9, _, _, rfl, _, .inr ⟨2, hi, rfl⟩, rfl, rfl⟩
      | 3, hi => exact ⟨by decide, by decide, [], 9, _, _, rfl, _, .inr ⟨3, hi, rfl⟩, rfl, rfl⟩
      | 4, hi => exact ⟨by decide, by decide, [], 9, _, _, rfl, _, .inr ⟨4, hi, rfl⟩, rfl, rfl⟩
      | 5, hi => exact ⟨by decide, by decide, [], 9, _, _, rfl, _, .inr ⟨5, hi, rfl⟩, rfl, rfl⟩
      | 6, hi => exact ⟨by decide, by decide, [], 9, _, _, rfl, _, .inr ⟨6, hi, rfl⟩, rfl, rfl⟩
      | i + 7, hi => simp at hi
  · simp only [Try.f8, TryT_3, TryT_4, TryT_5, TryT_9, TryT_31, TryT_32, TryT_45, ↓VC, ↓wops, ↓opF, ↓actT, ↓guardF, dstOk, lk, S.st, St.ev, constSV, constCV, zipE, putE, S.app, setHs, setH, hOf, List.getD_cons_zero, List.getD_cons_succ, List.getD_nil, List.map_cons, List.map_nil, List.length_cons, List.length_nil, skipA, Nat.zero_add, Option.bind_some, Option.bind_none, List.getElem?_cons_zero, List.getElem?_cons_succ, List.getElem?_nil, one, ↓SV.kI, ↓SV.kB, ↓SV.kS, ↓SV.kA, ↓SV.kT, ↓SV.kC, ↓kO, ↓kLive, ↓SV.kPtr, ↓SV.kSl, ↓St.kLen, ↓St.bd, ↓St.cells, ↓partsOf, ↓fillFT, ↓capsOf, ↓binI, ↓shI, ↓kBinT, ↓kUn, ↓builtinFT, ↓kSeq, ↓kBlock, pvOf, over, List.headD_cons, callA, backS, backP, backC, backHp, backH, sig, allIn, ixOf, eq_self, true_and, and_true, if_true, if_false, reduceIte, Nat.reduceEqDiff, Nat.reduceLT, Nat.reduceLeDiff, Nat.reduceAdd, Nat.reduceMul, Nat.reduceSub, Int.reduceToNat, List.take_succ_cons, List.take_zero, List.take_nil, List.drop_succ_cons, List.drop_zero, List.drop_nil, List.append_nil, List.nil_append, List.cons_append, cond_true, cond_false, imp_false, not_true_eq_false, Bool.false_eq_true, forall_const, resF, resL, Option.map_some, Option.map_none, exists_const, ne_eq, Nat.one_ne_zero, not_false_eq_true, Option.isSome_some, List.size_toArray, reduceCtorEq]
    rcases hx with ⟨rfl, hc⟩ | ⟨i, rfl, hi, _⟩
    · exact ⟨[], 9, _, _, rfl, _, .inl ⟨rfl, hc⟩, rfl, rfl⟩
    · simp at hb
theorem ans_specColorKey (c : UInt8) (n : Int) (hn : n = c.toNat) : Ans Try.prog 7 [.one (.int .u8 n)] [] fun r h => ∃ x, CKey c x ∧ r = one (.int .i64 x) ∧ h = [] := by
  refine ans_of (P := fun _ => Try.prog) TryT_eq (fn := Try.f7) Try.func7 rfl (by kernel_rfl) (Nat.le_of_ble_eq_true rfl) (by simp) ?_
  simp only [Try.f7, TryT_3, TryT_4, TryT_5, TryT_9, TryT_31, TryT_32, TryT_45, ↓VC, ↓wops, ↓opF, ↓actT, ↓guardF, dstOk, lk, S.st, St.ev, constSV, constCV, zipE, putE, S.app, setHs, setH, hOf, List.getD_cons_zero, List.getD_cons_succ, List.getD_nil, List.map_cons, List.map_nil, List.length_cons, List.length_nil, skipA, Nat.zero_add, Option.bind_some, Option.bind_none, List.getElem?_cons_zero, List.getElem?_cons_succ, List.getElem?_nil, one, ↓SV.kI, ↓SV.kB, ↓SV.kS, ↓SV.kA, ↓SV.kT, ↓SV.kC, ↓kO, ↓kLive, ↓SV.kPtr, ↓SV.kSl, ↓St.kLen, ↓St.bd, ↓St.cells, ↓partsOf, ↓fillFT, ↓capsOf, ↓binI, ↓shI, ↓kBinT, ↓kUn, ↓builtinFT, ↓kSeq, ↓kBlock, pvOf, over, List.headD_cons, callA, backS, backP, backC, backHp, backH, sig, allIn, ixOf, eq_self, true_and, and_true, if_true, if_false, reduceIte, Nat.reduceEqDiff, Nat.reduceLT, Nat.reduceLeDiff, Nat.reduceAdd, Nat.reduceMul, Nat.reduceSub, Int.reduceToNat, List.take_succ_cons, List.take_zero, List.take_nil, List.drop_succ_cons, List.drop_zero, List.drop_nil, List.append_nil, List.nil_append, List.cons_append, cond_true, cond_false, imp_false, not_true_eq_false, Bool.false_eq_true, forall_const, resF, resL, Option.map_some, Option.map_none, exists_const, ne_eq, Nat.one_ne_zero, not_false_eq_true, Option.isSome_some, List.size_toArray, reduceCtorEq]
  refine callT_of [] 9 rfl rfl rfl rfl ans_l16Keys ?_
  rintro r h1 ⟨rfl, rfl⟩
  refine ⟨rfl, ?_⟩
  simp only [Try.f7, TryT_3, TryT_4, TryT_5, TryT_9, TryT_31, TryT_32, TryT_45, ↓VC, ↓wops, ↓opF, ↓actT, ↓guardF, dstOk, lk, S.st, St.ev, constSV, constCV, zipE, putE, S.app, setHs, setH, hOf, List.getD_cons_zero, List.getD_cons_succ, List.getD_nil, List.map_cons, List.map_nil, List.length_cons, List.length_nil, skipA, Nat.zero_add, Option.bind_some, Option.bind_none, List.getElem?_cons_zero, List.getElem?_cons_succ, List.getElem?_nil, one, ↓SV.kI, ↓SV.kB, ↓SV.kS, ↓SV.kA, ↓SV.kT, ↓SV.kC, ↓kO, ↓kLive, ↓SV.kPtr, ↓SV.kSl, ↓St.kLen, ↓St.bd, ↓St.cells, ↓partsOf, ↓fillFT, ↓capsOf, ↓binI, ↓shI, ↓kBinT, ↓kUn, ↓builtinFT, ↓kSeq, ↓kBlock, pvOf, over, List.headD_cons, callA, backS, backP, backC, backHp, backH, sig, allIn, ixOf, eq_self, true_and, and_true, if_true, if_false, reduceIte, Nat.reduceEqDiff, Nat.reduceLT, Nat.reduceLeDiff, Nat.reduceAdd, Nat.reduceMul, Nat.reduceSub, Int.reduceToNat, List.take_succ_cons, List.take_zero, List.take_nil, List.drop_succ_cons, List.drop_zero, List.drop_nil, List.append_nil, List.nil_append, List.cons_append, cond_true, cond_false, imp_false, not_true_eq_false, Bool.false_eq_true, forall_const, resF, resL, Option.map_some, Option.map_none, exists_const, ne_eq, Nat.one_ne_zero, not_false_eq_true, Option.isSome_some, List.size_toArray, reduceCtorEq]
  refine loopT_of TryT_eq (fun i : Int => ⟨[(0, .pv (.one (.int .u8 n))), (2, .pv (.one (.int .i64 0))), (3, .pv (.one (.imm 1 7 [.int .i64 2, .int .i64 3, .int .i64 1, .int .i64 4, .int .i64 5, .int .i64 6, .int .i64 9]))), (4, .pv (.one (.str [82, 71, 89, 87, 84, 66, 86]))), (5, .pv (.one (.int .i64 i)))], []⟩)
    (fun i => 0 ≤ i ∧ i ≤ 7 ∧ ∀ j : Nat, j < i.toNat → keyL[j]? ≠ some c) (fun i => (7 - i).toNat) 0 (weak_norm (ks := [0, 2, 3, 4, 5]) (π := []) (fuel := 9) rfl) ⟨by omega, by omega, fun j hj => by simp at hj⟩ ?_
  rintro i ⟨h0, h7, hi⟩
  simp only [Try.f7, TryT_3, TryT_4, TryT_5, TryT_9, TryT_31, TryT_32, TryT_45, ↓VC, ↓wops, ↓opF, ↓actT, ↓guardF, dstOk, lk, S.st, St.ev, constSV, constCV, zipE, putE, S.app, setHs, setH, hOf, List.getD_cons_zero, List.getD_cons_succ, List.getD_nil, List.map_cons, List.map_nil, List.length_cons, List.length_nil, skipA, Nat.zero_add, Option.bind_some, Option.bind_none, List.getElem?_cons_zero, List.getElem?_cons_succ, List.getElem?_nil, one, ↓SV.kI, ↓SV.kB, ↓SV.kS, ↓SV.kA, ↓SV.kT, ↓SV.kC, ↓kO, ↓kLive, ↓SV.kPtr, ↓SV.kSl, ↓St.kLen, ↓St.bd, ↓St.cells, ↓partsOf, ↓fillFT, ↓capsOf, ↓binI, ↓shI, ↓kBinT, ↓kUn, ↓builtinFT, ↓kSeq, ↓kBlock, pvOf, over, List.headD_cons, callA, backS, backP, backC, backHp, backH, sig, allIn, ixOf, eq_self, true_and, and_true, if_true, if_false, reduceIte, Nat.reduceEqDiff, Nat.reduceLT, Nat.reduceLeDiff, Nat.reduceAdd, Nat.reduceMul, Nat.reduceSub, Int.reduceToNat, List.take_succ_cons, List.take_zero, List.take_nil, List.drop_succ_cons, List.drop_zero, List.drop_nil, List.append_nil, List.nil_append, List.cons_append, cond_true, cond_false, imp_false, not_true_eq_false, Bool.false_eq_true, forall_const, resF, resL, Option.map_some, Option.map_none, exists_const, ne_eq, Nat.one_ne_zero, not_false_eq_true, Option.isSome_some, List.size_toArray, reduceCtorEq]
  refine kIf_mk (fun hb => ?_) (fun hb => ?_)
  · simp only [Try.f7, TryT_3, TryT_4, TryT_5, TryT_9, TryT_31, TryT_32, TryT_45, ↓VC, ↓wops, ↓opF, ↓actT, ↓guardF, dstOk, lk, S.st, St.ev, constSV, constCV, zipE, putE, S.app, setHs, setH, hOf, List.getD_cons_zero, List.getD_cons_succ, List.getD_nil, List.map_cons, List.map_nil, List.length_cons, List.length_nil, skipA, Nat.zero_add, Option.bind_some, Option.bind_none, List.getElem?_cons_zero, List.getElem?_cons_succ, List.getElem?_nil, one, ↓SV.kI, ↓SV.kB, ↓SV.kS, ↓SV.kA, ↓SV.kT, ↓SV.kC, ↓kO, ↓kLive, ↓SV.kPtr, ↓SV.kSl, ↓St.kLen, ↓St.bd, ↓St.cells, ↓partsOf, ↓fillFT, ↓capsOf, ↓binI, ↓shI, ↓kBinT, ↓kUn, ↓builtinFT, ↓kSeq, ↓kBlock, pvOf, over, List.headD_cons, callA, backS, backP, backC, backHp, backH, sig, allIn, ixOf, eq_self, true_and, and_true, if_true, if_false, reduceIte, Nat.reduceEqDiff, Nat.reduceLT, Nat.reduceLeDiff, Nat.reduceAdd, Nat.reduceMul, Nat.reduceSub, Int.reduceToNat, List.take_succ_cons, List.take_zero, List.take_nil, List.drop_succ_cons, List.drop_zero, List.drop_nil, List.append_nil, List.nil_append, List.cons_append, cond_true, cond_false, imp_false, not_true_eq_false, Bool.false_eq_true, forall_const, resF, resL, Option.map_some, Option.map_none, exists_const, ne_eq, Nat.one_ne_zero, not_false_eq_true, Option.isSome_some, List.size_toArray, reduceCtorEq]
    have hb' : i < 7 := by simpa using hb
    obtain ⟨k, rfl⟩ := Int.eq_ofNat_of_zero_le h0
    have hk : k < 7 := by omega
    have hg : keyL[k]? = some ([82, 71, 89, 87, 84, 66, 86].getD (Int.toNat (k : Int)) 0) := by
      match k, hk with
      | 0, _ | 1, _ | 2, _ | 3, _ | 4, _ | 5, _ | 6, _ => rfl
    refine ⟨⟨h0, hb'⟩, kIf_mk (fun he => ?_) (fun he => ?_)⟩
    · have he' : ([82, 71, 89, 87, 84, 66, 86].getD (Int.toNat (k : Int)) 0 : UInt8) = c := by
        rw [hn] at he
        have := eq_of_beq he
        exact UInt8.toNat_inj.1 (by omega)
      rw [he'] at hg
      simp only [Try.f7, TryT_3, TryT_4, TryT_5, TryT_9, TryT_31, TryT_32, TryT_45, ↓VC, ↓wops, ↓opF, ↓actT, ↓guardF, dstOk, lk, S.st, St.ev, constSV, constCV, zipE, putE, S.app, setHs, setH, hOf, List.getD_cons_zero, List.getD_cons_succ, List.getD_nil, List.map_cons, List.map_nil, List.length_cons, List.length_nil, skipA, Nat.zero_add, Option.bind_some, Option.bind_none, List.getElem?_cons_zero, List.getElem?_cons_succ, List.getElem?_nil, one, ↓SV.kI, ↓SV.kB, ↓SV.kS, ↓SV.kA, ↓SV.kT, ↓SV.kC, ↓kO, ↓kLive, ↓SV.kPtr, ↓SV.kSl, ↓St.kLen, ↓St.bd, ↓St.cells, ↓partsOf, ↓fillFT, ↓capsOf, ↓binI, ↓shI, ↓kBinT, ↓kUn, ↓builtinFT, ↓kSeq, ↓kBlock, pvOf, over, List.headD_cons, callA, backS, backP, backC, backHp, backH, sig, allIn, ixOf, eq_self, true_and, and_true, if_true, if_false, reduceIte, Nat.reduceEqDiff, Nat.reduceLT, Nat.reduceLeDiff, Nat.reduceAdd, Nat.reduceMul, Nat.reduceSub, Int.reduceToNat, List.take_succ_cons, List.take_zero, List.take_nil, List.drop_succ_cons, List.drop_zero, List.drop_nil, List.append_nil, List.nil_append, List.cons_append, cond_true, cond_false, imp_false, not_true_eq_false, Bool.false_eq_true, forall_const, resF, resL, Option.map_some, Option.map_none, exists_const, ne_eq, Nat.one_ne_zero, not_false_eq_true, Option.isSome_some, List.size_toArray, reduceCtorEq]
      refine ⟨⟨h0, hb'⟩, ?_⟩
      clear he he' hb hb' h0 h7
      match k, hg, hi with
      | 0, hg, hi => exact ⟨by decide, [], 9, _, _, rfl, _, .inr ⟨0, hg, rfl⟩, rfl, rfl⟩
      | 1, hg, hi => exact ⟨by decide, [], 9, _, _, rfl, _, .inr ⟨1, hg, rfl⟩, rfl, rfl⟩
      | 2, hg, hi => exact ⟨by decide, [], 9, _, _, rfl, _, .inr ⟨2, hg, rfl⟩, rfl, rfl⟩
      | 3, hg, hi => exact ⟨by decide, [], 9, _, _, rfl, _, .inr ⟨3, hg, rfl⟩, rfl, rfl⟩
      | 4, hg, hi => exact ⟨by decide, [], 9, _, _, rfl, _, .inr ⟨4, hg, rfl⟩, rfl, rfl⟩
      | 5, hg, hi => exact ⟨by decide, [], 9, _, _, rfl, _, .inr ⟨5, hg, rfl⟩, rfl, rfl⟩
      | 6, hg, hi => exact ⟨by decide, [], 9, _, _, rfl, _, .inr ⟨6, hg, rfl⟩, rfl, rfl⟩
      | k + 7, hg, hi => simp [keyL] at hg
    · simp only [Try.f7, TryT_3, TryT_4, TryT_5, TryT_9, TryT_31, TryT_32, TryT_45, ↓VC, ↓wops, ↓opF, ↓actT, ↓guardF, dstOk, lk, S.st, St.ev, constSV, constCV, zipE, putE, S.app, setHs, setH, hOf, List.getD_cons_zero, List.getD_cons_succ, List.getD_nil, List.map_cons, List.map_nil, List.length_cons, List.length_nil, skipA, Nat.zero_add, Option.bind_some, Option.bind_none, List.getElem?_cons_zero, List.getElem?_cons_succ, List.getElem?_nil, one, ↓SV.kI, ↓SV.kB, ↓SV.kS, ↓SV.kA, ↓SV.kT, ↓SV.kC, ↓kO, ↓kLive, ↓SV.kPtr, ↓SV.kSl, ↓St.kLen, ↓St.bd, ↓St.cells, ↓partsOf, ↓fillFT, ↓capsOf, ↓binI, ↓shI, ↓kBinT, ↓kUn, ↓builtinFT, ↓kSeq, ↓kBlock, pvOf, over, List.headD_cons, callA, backS, backP, backC, backHp, backH, sig, allIn, ixOf, eq_self, true_and, and_true, if_true, if_false, reduceIte, Nat.reduceEqDiff, Nat.reduceLT, Nat.reduceLeDiff, Nat.reduceAdd, Nat.reduceMul, Nat.reduceSub, Int.reduceToNat, List.take_succ_cons, List.take_zero, List.take_nil, List.drop_succ_cons, List.drop_zero, List.drop_nil, List.append_nil, List.nil_append, List.cons_append, cond_true, cond_false, imp_false, not_true_eq_false, Bool.false_eq_true, forall_const, resF, resL, Option.map_some, Option.map_none, exists_const, ne_eq, Nat.one_ne_zero, not_false_eq_true, Option.isSome_some, List.size_toArray, reduceCtorEq]
      have hne : ([82, 71, 89, 87, 84, 66, 86].getD (Int.toNat (k : Int)) 0 : UInt8) ≠ c := fun h => by
        rw [h, hn] at he
        simp at he
      refine ⟨(k : Int) + 1, ⟨by omega, by omega, fun j hj => ?_⟩, by omega, ?_⟩
      · by_cases hjk : j = k
        · subst hjk
          rw [hg]
          intro h
          exact hne (Option.some.inj h)
        · exact hi j (by omega)
      · rw [show IntKind.wrap .i64 ((k : Int) + 1) = (k : Int) + 1 from Go.IntWalk.i64_in _ (by omega)]
        exact weak_norm (ks := [0, 2, 3, 4, 5]) (π := []) (fuel := 9) rfl
  · simp only [Try.f7, TryT_3, TryT_4, TryT_5, TryT_9, TryT_31, TryT_32, TryT_45, ↓VC, ↓wops, ↓opF, ↓actT, ↓guardF, dstOk, lk, S.st, St.ev, constSV, constCV, zipE, putE, S.app, setHs, setH, hOf, List.getD_cons_zero, List.getD_cons_succ, List.getD_nil, List.map_cons, List.map_nil, List.length_cons, List.length_nil, skipA, Nat.zero_add, Option.bind_some, Option.bind_none, List.getElem?_cons_zero, List.getElem?_cons_succ, List.getElem?_nil, one, ↓SV.kI, ↓SV.kB, ↓SV.kS, ↓SV.kA, ↓SV.kT, ↓SV.kC, ↓kO, ↓kLive, ↓SV.kPtr, ↓SV.kSl, ↓St.kLen, ↓St.bd, ↓St.cells, ↓partsOf, ↓fillFT, ↓capsOf, ↓binI, ↓shI, ↓kBinT, ↓kUn, ↓builtinFT, ↓kSeq, ↓kBlock, pvOf, over, List.headD_cons, callA, backS, backP, backC, backHp, backH, sig, allIn, ixOf, eq_self, true_and, and_true, if_true, if_false, reduceIte, Nat.reduceEqDiff, Nat.reduceLT, Nat.reduceLeDiff, Nat.reduceAdd, Nat.reduceMul, Nat.reduceSub, Int.reduceToNat, List.take_succ_cons, List.take_zero, List.take_nil, List.drop_succ_cons, List.drop_zero, List.drop_nil, List.append_nil, List.nil_append, List.cons_append, cond_true, cond_false, imp_false, not_true_eq_false, Bool.false_eq_true, forall_const, resF, resL, Option.map_some, Option.map_none, exists_const, ne_eq, Nat.one_ne_zero, not_false_eq_true, Option.isSome_some, List.size_toArray, reduceCtorEq]
    have hb' : ¬ i < 7 := by simpa using hb
    refine ⟨[], 9, _, _, rfl, _, .inl ⟨rfl, fun hm => ?_⟩, rfl, rfl⟩
    obtain ⟨j, hj, he⟩ := List.getElem_of_mem hm
    have hj7 : j < 7 := hj
    exact hi j (by omega) (by rw [List.getElem?_eq_getElem hj, he])
theorem CKey.same {c : UInt8} {x y : Int} (hx : CKey c x) (hy : CKey c y) : x = y := by
  rcases hx with ⟨rfl, h1⟩ | ⟨i, h1, h2⟩ <;> rcases hy with ⟨rfl, h3⟩ | ⟨j, h3, h4⟩
  · rfl
  · exact absurd (List.mem_of_getElem? h3) h1
  · exact absurd (List.mem_of_getElem? h1) h3
  · have hij : i = j := by
      have hi : i < 7 := (List.getElem?_eq_some_iff.1 h1).1
      have hj : j < 7 := (List.getElem?_eq_some_iff.1 h3).1
      have hnd : ∀ i j : Fin 7, keyL[i.1]? = keyL[j.1]? → i = j := by decide
      have := hnd ⟨i, hi⟩ ⟨j, hj⟩ (h1.trans h3.symm)
      simpa using this
    subst hij
    rw [h2] at h4
    exact Option.some.inj h4
theorem ans_law (c : UInt8) (n : Int) (hn : n = c.toNat) : Ans Try.prog 3 [.one (.int .u8 n)] [] fun r h => r = one (.bool true) := by
  refine ans_of (P := fun _ => Try.prog) TryT_eq (fn := Try.f3) Try.func3 rfl (by kernel_rfl) (Nat.le_of_ble_eq_true rfl) (by simp) ?_
  simp only [Try.f3, TryT_3, TryT_4, TryT_5, TryT_9, TryT_31, TryT_32, TryT_45, ↓VC, ↓wops, ↓opF, ↓actT, ↓guardF, dstOk, lk, S.st, St.ev, constSV, constCV, zipE, putE, S.app, setHs, setH, hOf, List.getD_cons_zero, List.getD_cons_succ, List.getD_nil, List.map_cons, List.map_nil, List.length_cons, List.length_nil, skipA, Nat.zero_add, Option.bind_some, Option.bind_none, List.getElem?_cons_zero, List.getElem?_cons_succ, List.getElem?_nil, one, ↓SV.kI, ↓SV.kB, ↓SV.kS, ↓SV.kA, ↓SV.kT, ↓SV.kC, ↓kO, ↓kLive, ↓SV.kPtr, ↓SV.kSl, ↓St.kLen, ↓St.bd, ↓St.cells, ↓partsOf, ↓fillFT, ↓capsOf, ↓binI, ↓shI, ↓kBinT, ↓kUn, ↓builtinFT, ↓kSeq, ↓kBlock, pvOf, over, List.headD_cons, callA, backS, backP, backC, backHp, backH, sig, allIn, ixOf, eq_self, true_and, and_true, if_true, if_false, reduceIte, Nat.reduceEqDiff, Nat.reduceLT, Nat.reduceLeDiff, Nat.reduceAdd, Nat.reduceMul, Nat.reduceSub, Int.reduceToNat, List.take_succ_cons, List.take_zero, List.take_nil, List.drop_succ_cons, List.drop_zero, List.drop_nil, List.append_nil, List.nil_append, List.cons_append, cond_true, cond_false, imp_false, not_true_eq_false, Bool.false_eq_true, forall_const, resF, resL, Option.map_some, Option.map_none, exists_const, ne_eq, Nat.one_ne_zero, not_false_eq_true, Option.isSome_some, List.size_toArray, reduceCtorEq]
  refine callT_of [] 9 rfl rfl rfl rfl (ans_specColorKey c n hn) ?_
  rintro r h1 ⟨x, hx, rfl, rfl⟩
  refine ⟨rfl, ?_⟩
  simp only [Try.f3, TryT_3, TryT_4, TryT_5, TryT_9, TryT_31, TryT_32, TryT_45, ↓VC, ↓wops, ↓opF, ↓actT, ↓guardF, dstOk, lk, S.st, St.ev, constSV, constCV, zipE, putE, S.app, setHs, setH, hOf, List.getD_cons_zero, List.getD_cons_succ, List.getD_nil, List.map_cons, List.map_nil, List.length_cons, List.length_nil, skipA, Nat.zero_add, Option.bind_some, Option.bind_none, List.getElem?_cons_zero, List.getElem?_cons_succ, List.getElem?_nil, one, ↓SV.kI, ↓SV.kB, ↓SV.kS, ↓SV.kA, ↓SV.kT, ↓SV.kC, ↓kO, ↓kLive, ↓SV.kPtr, ↓SV.kSl, ↓St.kLen, ↓St.bd, ↓St.cells, ↓partsOf, ↓fillFT, ↓capsOf, ↓binI, ↓shI, ↓kBinT, ↓kUn, ↓builtinFT, ↓kSeq, ↓kBlock, pvOf, over, List.headD_cons, callA, backS, backP, backC, backHp, backH, sig, allIn, ixOf, eq_self, true_and, and_true, if_true, if_false, reduceIte, Nat.reduceEqDiff, Nat.reduceLT, Nat.reduceLeDiff, Nat.reduceAdd, Nat.reduceMul, Nat.reduceSub, Int.reduceToNat, List.take_succ_cons, List.take_zero, List.take_nil, List.drop_succ_cons, List.drop_zero, List.drop_nil, List.append_nil, List.nil_append, List.cons_append, cond_true, cond_false, imp_false, not_true_eq_false, Bool.false_eq_true, forall_const, resF, resL, Option.map_some, Option.map_none, exists_const, ne_eq, Nat.one_ne_zero, not_false_eq_true, Option.isSome_some, List.size_toArray, reduceCtorEq]
  refine callT_of [] 9 rfl rfl rfl rfl (ans_implColorKey c n hn) ?_
  rintro r h1 ⟨y, hy, rfl, rfl⟩
  refine ⟨rfl, ?_⟩
  simp only [Try.f3, TryT_3, TryT_4, TryT_5, TryT_9, TryT_31, TryT_32, TryT_45, ↓VC, ↓wops, ↓opF, ↓actT, ↓guardF, dstOk, lk, S.st, St.ev, constSV, constCV, zipE, putE, S.app, setHs, setH, hOf, List.getD_cons_zero, List.getD_cons_succ, List.getD_nil, List.map_cons, List.map_nil, List.length_cons, List.length_nil, skipA, Nat.zero_add, Option.bind_some, Option.bind_none, List.getElem?_cons_zero, List.getElem?_cons_succ, List.getElem?_nil, one, ↓SV.kI, ↓SV.kB, ↓SV.kS, ↓SV.kA, ↓SV.kT, ↓SV.kC, ↓kO, ↓kLive, ↓SV.kPtr, ↓SV.kSl, ↓St.kLen, ↓St.bd, ↓St.cells, ↓partsOf, ↓fillFT, ↓capsOf, ↓binI, ↓shI, ↓kBinT, ↓kUn, ↓builtinFT, ↓kSeq, ↓kBlock, pvOf, over, List.headD_cons, callA, backS, backP, backC, backHp, backH, sig, allIn, ixOf, eq_self, true_and, and_true, if_true, if_false, reduceIte, Nat.reduceEqDiff, Nat.reduceLT, Nat.reduceLeDiff, Nat.reduceAdd, Nat.reduceMul, Nat.reduceSub, Int.reduceToNat, List.take_succ_cons, List.take_zero, List.take_nil, List.drop_succ_cons, List.drop_zero, List.drop_nil, List.append_nil, List.nil_append, List.cons_append, cond_true, cond_false, imp_false, not_true_eq_false, Bool.false_eq_true, forall_const, resF, resL, Option.map_some, Option.map_none, exists_const, ne_eq, Nat.one_ne_zero, not_false_eq_true, Option.isSome_some, List.size_toArray, reduceCtorEq]
  obtain rfl := hx.same hy
  refine kIf_mk (fun hb => ?_) (fun hb => ?_)
  · simp at hb
  · simp only [Try.f3, TryT_3, TryT_4, TryT_5, TryT_9, TryT_31, TryT_32, TryT_45, ↓VC, ↓wops, ↓opF, ↓actT, ↓guardF, dstOk, lk, S.st, St.ev, constSV, constCV, zipE, putE, S.app, setHs, setH, hOf, List.getD_cons_zero, List.getD_cons_succ, List.getD_nil, List.map_cons, List.map_nil, List.length_cons, List.length_nil, skipA, Nat.zero_add, Option.bind_some, Option.bind_none, List.getElem?_cons_zero, List.getElem?_cons_succ, List.getElem?_nil, one, ↓SV.kI, ↓SV.kB, ↓SV.kS, ↓SV.kA, ↓SV.kT, ↓SV.kC, ↓kO, ↓kLive, ↓SV.kPtr, ↓SV.kSl, ↓St.kLen, ↓St.bd, ↓St.cells, ↓partsOf, ↓fillFT, ↓capsOf, ↓binI, ↓shI, ↓kBinT, ↓kUn, ↓builtinFT, ↓kSeq, ↓kBlock, pvOf, over, List.headD_cons, callA, backS, backP, backC, backHp, backH, sig, allIn, ixOf, eq_self, true_and, and_true, if_true, if_false, reduceIte, Nat.reduceEqDiff, Nat.reduceLT, Nat.reduceLeDiff, Nat.reduceAdd, Nat.reduceMul, Nat.reduceSub, Int.reduceToNat, List.take_succ_cons, List.take_zero, List.take_nil, List.drop_succ_cons, List.drop_zero, List.drop_nil, List.append_nil, List.nil_append, List.cons_append, cond_true, cond_false, imp_false, not_true_eq_false, Bool.false_eq_true, forall_const, resF, resL, Option.map_some, Option.map_none, exists_const, ne_eq, Nat.one_ne_zero, not_false_eq_true, Option.isSome_some, List.size_toArray, reduceCtorEq]
    exact ⟨[], 9, _, _, rfl, rfl⟩
end Go.Proofs.Ytkjjcpgickjidaa
