import Derived.Test.YtofjeimkphojaaaGreatDoorMK
set_option linter.all false
namespace Go.Proofs.YtofjeimkphojaaaGreatDoor
open Go Go.Fm
set_option maxRecDepth 100000
theorem place_mem {st : GSt} (h : SB st) {y : Int} (hy : i32B y) (h0 : 0 ≤ y) (h1 : y ≤ 31) : g_spec_l08Place st y = some y ∧ g_impl_St_place_rd y st = some (y, true, true) := by
  unfold i32B at hy
  unfold g_spec_l08Place g_impl_St_place_rd
  rw [wI64 (x := y) (by omega) (by omega), specIn_eq, within_eq, decide_eq_true ⟨h0, h1⟩]
  exact ⟨rfl, rfl⟩
theorem place_cell {st : GSt} (h : SB st) {y : Int} (hy : i32B y) (h0 : 1024 ≤ y) (h1 : y ≤ 1023 + st.Cells.length) : g_spec_l08Place st y = some (y - 992) ∧ g_impl_St_place_rd y st = some (y - 1024, false, true) := by
  unfold i32B at hy
  have := h.cl
  unfold g_spec_l08Place g_impl_St_place_rd
  rw [wI64 (x := y) (by omega) (by omega), wI64 (x := 1024 + (st.Cells.length : Int)) (by omega) (by omega), wI64 (x := 1024 + (st.Cells.length : Int) - 1) (by omega) (by omega), wI64 (x := 32 + y) (by omega) (by omega), wI64 (x := 32 + y - 1024) (by omega) (by omega), wI64 (x := y - 1024) (by omega) (by omega), wI64 (x := (st.Cells.length : Int) - 1) (by omega) (by omega),
    specIn_eq, specIn_eq, within_eq, within_eq, decide_eq_false (by omega), decide_eq_true (p := (1024 : Int) ≤ y ∧ y ≤ 1024 + (st.Cells.length : Int) - 1) (by omega), decide_eq_true (p := (0 : Int) ≤ y - 1024 ∧ y - 1024 ≤ (st.Cells.length : Int) - 1) (by omega)]
  refine ⟨?_, rfl⟩
  show some (32 + y - 1024) = _
  congr 1; omega
theorem place_no {st : GSt} (h : SB st) {y : Int} (hy : i32B y) (h0 : ¬(0 ≤ y ∧ y ≤ 31)) (h1 : ¬(1024 ≤ y ∧ y ≤ 1023 + st.Cells.length)) : g_spec_l08Place st y = some (-1) ∧ g_impl_St_place_rd y st = some (0, false, false) := by
  unfold i32B at hy
  have := h.cl
  unfold g_spec_l08Place g_impl_St_place_rd
  rw [wI64 (x := y) (by omega) (by omega), wI64 (x := 1024 + (st.Cells.length : Int)) (by omega) (by omega), wI64 (x := 1024 + (st.Cells.length : Int) - 1) (by omega) (by omega), wI64 (x := y - 1024) (by omega) (by omega), wI64 (x := (st.Cells.length : Int) - 1) (by omega) (by omega),
    specIn_eq, specIn_eq, within_eq, within_eq, decide_eq_false h0, decide_eq_false (p := (1024 : Int) ≤ y ∧ y ≤ 1024 + (st.Cells.length : Int) - 1) (by omega), decide_eq_false (p := (0 : Int) ≤ y - 1024 ∧ y - 1024 ≤ (st.Cells.length : Int) - 1) (by omega)]
  exact ⟨rfl, rfl⟩
theorem getI_int {α : Type} {xs : List α} {i : Int} (h0 : 0 ≤ i) (h : i.toNat < xs.length) : getI xs i = some xs[i.toNat] := by
  have : getI xs ((i.toNat : Nat) : Int) = some xs[i.toNat] := by rw [getI_nat, List.getElem?_eq_getElem h]
  rwa [Int.toNat_of_nonneg h0] at this
theorem word13 {st : GSt} (h : SG st) (hf : st.Fault = 0) : Both st 13 := by
  have hy := h.y
  have hm := h.b.m
  by_cases ha : 0 ≤ yOf st ∧ yOf st ≤ 31
  · obtain ⟨p1, p2⟩ := place_mem h.b hy ha.1 ha.2
    have hlt : (yOf st).toNat < st.Mem.length := by omega
    have e : getI st.Mem (yOf st) = some st.Mem[(yOf st).toNat] := getI_int (by omega) hlt
    refine both_of h hf nm13 rfl wa13 ta13 (by omega) (l := [st.Mem[(yOf st).toNat]]) (f := 0) (st2 := st) (by simp) (fun _ => ?_) rfl rfl (fun _ _ => ⟨h, fun x hx => by rw [List.mem_singleton] at hx; subst hx; exact h.m _ (List.getElem_mem _)⟩) (by omega) (fun hn x y ey ex => notpure rfl ?_)
    · show (((g_impl_St_place_rd (yOf st) st).bind _ : Option (GSt ⊕ (List Int × Int × GSt)))).bind _ = _
      rw [p2, Option.bind_some]
      show (((getI st.Mem (yOf st)).bind _ : Option (GSt ⊕ (List Int × Int × GSt)))).bind _ = _
      rw [e]; rfl
    · rw [ey (by omega)]
      show ((g_spec_l08Place st (yOf st)).bind _).bind _ = _
      rw [p1, Option.bind_some, decide_eq_false (by omega), cond_false, decide_eq_true (by omega), cond_true, e, Option.bind_some, put_1 h.b hn (by simp)]; rfl
  · by_cases hb : 1024 ≤ yOf st ∧ yOf st ≤ 1023 + st.Cells.length
    · obtain ⟨p1, p2⟩ := place_cell h.b hy hb.1 hb.2
      have hcl := h.b.cl
      have hlt : (yOf st - 1024).toNat < st.Cells.length := by omega
      have e : getI st.Cells (yOf st - 1024) = some st.Cells[(yOf st - 1024).toNat] := getI_int (by omega) hlt
      refine both_of h hf nm13 rfl wa13 ta13 (by omega) (l := [IntKind.wrap .i32 st.Cells[(yOf st - 1024).toNat]]) (f := 0) (st2 := st) (by simp) (fun _ => ?_) rfl rfl (fun _ _ => ⟨h, fun x hx => by rw [List.mem_singleton] at hx; subst hx; exact i32w _⟩) (by omega) (fun hn x y ey ex => notpure rfl ?_)
      · show (((g_impl_St_place_rd (yOf st) st).bind _ : Option (GSt ⊕ (List Int × Int × GSt)))).bind _ = _
        rw [p2, Option.bind_some]
        show (((getI st.Cells (yOf st - 1024)).bind _ : Option (GSt ⊕ (List Int × Int × GSt)))).bind _ = _
        rw [e]; rfl
      · rw [ey (by omega)]
        show ((g_spec_l08Place st (yOf st)).bind _).bind _ = _
        rw [p1, Option.bind_some, decide_eq_false (by omega), cond_false, decide_eq_false (by omega), cond_false, wI64 (by omega) (by omega), show yOf st - 992 - 32 = yOf st - 1024 by omega, e, Option.bind_some, put_1 h.b hn (by simp)]; rfl
    · obtain ⟨p1, p2⟩ := place_no h.b hy ha hb
      refine both_of h hf nm13 rfl wa13 ta13 (by omega) (l := []) (f := 4) (st2 := st) (by simp) (fun _ => ?_) rfl rfl (fun _ e => by cases e) (by omega) (fun hn x y ey ex => notpure rfl ?_)
      · show (((g_impl_St_place_rd (yOf st) st).bind _ : Option (GSt ⊕ (List Int × Int × GSt)))).bind _ = _
        rw [p2]; rfl
      · rw [ey (by omega)]
        show ((g_spec_l08Place st (yOf st)).bind _).bind _ = _
        rw [p1, Option.bind_some, decide_eq_true (by omega), cond_true, spec_flt h.b]; rfl
def cellS (o : GSt) (v n : Int) : GSt := ⟨o.Data, o.Ret, o.A, o.Mem, o.Cells.set v.toNat (IntKind.wrap .u32 n), o.Vars, o.Out, o.In, o.Fault, o.Fuel⟩
theorem store_loop {st : GSt} {n a : Int} {z o : GSt} (hv : st.Vars.length ≤ 20) (ha : -1 ≤ a) (ha2 : a ≤ 100000) (hc : 32 ≤ a → (a - 32).toNat < o.Cells.length) (hlow : a < 32 → ∀ v ∈ st.Vars, (0 ≤ a ∧ v = a - 32) → False) : ∀ (k i : Nat), i ≤ st.Vars.length → st.Vars.length - i < k →
    g_spec_l08Store_l0 n a st k (i : Int) z o = some (if (0 ≤ a) ∧ (st.Vars.drop i).any (fun x => a - 32 == x) = true then .inr (cellS o (a - 32) n, cellS o (a - 32) n) else .inl (z, o)) := by
  intro k
  induction k with
  | zero => intro i h0 h1; omega
  | succ k ih =>
    intro i h0 h1
    rw [g_spec_l08Store_l0]
    by_cases hn : i < st.Vars.length
    · rw [decide_eq_true (by omega), cond_true, getI_nat, List.getElem?_eq_getElem hn, List.drop_eq_getElem_cons hn, List.any_cons, wI64 (x := a - 32) (by omega) (by omega), nxt (by omega), ih (i + 1) (by omega) (by omega)]
      simp only [Option.bind_some]
      by_cases hp : 0 ≤ a
      · rw [decide_eq_true (by omega), cond_true, Option.bind_some]
        by_cases he : st.Vars[i] = a - 32
        · rw [show (st.Vars[i] == a - 32) = true by simp [he], show (a - 32 == st.Vars[i]) = true by simp [he], cond_true, Bool.true_or, if_pos ⟨hp, rfl⟩, he]
          by_cases h32 : a < 32
          · exact (hlow h32 _ (List.getElem_mem hn) ⟨hp, he⟩).elim
          · rw [getI_int (by omega) (hc (by omega))]
            rfl
        · rw [show (st.Vars[i] == a - 32) = false by simp [he], show (a - 32 == st.Vars[i]) = false by simp; omega, cond_false, Bool.false_or]
      · rw [decide_eq_false (by omega), cond_false, Option.bind_some, cond_false, if_neg (fun h => hp h.1), if_neg (fun h => hp h.1)]
    · rw [decide_eq_false (by omega), cond_false, List.drop_eq_nil_of_le (by omega), if_neg (by simp)]
def memS (st : GSt) (v n : Int) : GSt := ⟨st.Data, st.Ret, st.A, st.Mem.set v.toNat n, st.Cells, st.Vars, st.Out, st.In, st.Fault, st.Fuel⟩
theorem SG.mem {st : GSt} (h : SG st) {v n : Int} (hn : i32B n) : SG (memS st v n) :=
  ⟨⟨h.b.d, h.b.r, by show (st.Mem.set v.toNat n).length = 32; rw [List.length_set]; exact h.b.m, h.b.v, h.b.o, h.b.i, h.b.rk, h.b.vb, h.b.c, h.b.cl, h.b.f, h.b.u⟩, h.d, fun x hx => (List.mem_or_eq_of_mem_set hx).elim (h.m x) (fun e => e ▸ hn), h.a, h.r⟩
theorem SG.cell {st : GSt} (h : SG st) {v n : Int} : SG (cellS st v n) := by
  refine ⟨⟨h.b.d, h.b.r, h.b.m, h.b.v, h.b.o, h.b.i, h.b.rk, ?_, ?_, ?_, h.b.f, h.b.u⟩, h.d, h.m, h.a, h.r⟩
  · show VarsB (st.Cells.set v.toNat (IntKind.wrap .u32 n)).length st.Vars = true
    rw [List.length_set]; exact h.b.vb
  · show ((Int.tmod ((st.Cells.set v.toNat (IntKind.wrap .u32 n)).length : Int) 64) == 0) = true
    rw [List.length_set]; exact h.b.c
  · show (st.Cells.set v.toNat (IntKind.wrap .u32 n)).length ≤ 768
    rw [List.length_set]; exact h.b.cl
theorem word14 {st : GSt} (h : SG st) (hf : st.Fault = 0) : Both st 14 := by
  have hy := h.y
  have hx := h.x
  have hm := h.b.m
  have hv := h.b.v
  have hcl := h.b.cl
  unfold i32B at hy
  have lp : ∀ (a : Int) (o : GSt), -1 ≤ a → a ≤ 100000 → (32 ≤ a → (a - 32).toNat < o.Cells.length) → (a < 32 → a = -1) → g_spec_l08Store_l0 (xOf st) a st bigK 0 (⟨[], [], 0, [], [], [], [], [], 0, 0⟩ : GSt) o = some (if (0 ≤ a) ∧ (st.Vars.any (fun x => a - 32 == x)) = true then .inr (cellS o (a - 32) (xOf st), cellS o (a - 32) (xOf st)) else .inl (⟨[], [], 0, [], [], [], [], [], 0, 0⟩, o)) := fun a o h1 h2 h3 h4 => by
    have := store_loop (st := st) (n := xOf st) (a := a) (z := ⟨[], [], 0, [], [], [], [], [], 0, 0⟩) (o := o) hv h1 h2 h3 (fun hl v _ hh => by have := h4 hl; omega) bigK 0 (Nat.zero_le _) (by unfold bigK; omega)
    rw [List.drop_zero] at this
    exact this
  by_cases ha : 0 ≤ yOf st ∧ yOf st ≤ 31
  · obtain ⟨p1, p2⟩ := place_mem h.b h.y ha.1 ha.2
    have hlt : (yOf st).toNat < st.Mem.length := by omega
    have e : getI st.Mem (yOf st) = some st.Mem[(yOf st).toNat] := getI_int (by omega) hlt
    refine both_of h hf nm14 rfl wa14 ta14 (by omega) (l := []) (f := 0) (st2 := memS st (yOf st) (xOf st)) (by simp) (fun _ => ?_) rfl rfl (fun _ _ => ⟨h.mem hx, fun x hx => by simp at hx⟩) (by omega) (fun hn x y ey ex => notpure rfl ?_)
    · show (((g_impl_St_place_rd (yOf st) st).bind _ : Option (GSt ⊕ (List Int × Int × GSt)))).bind _ = _
      rw [p2, Option.bind_some]
      show (((getI st.Mem (yOf st)).bind _ : Option (GSt ⊕ (List Int × Int × GSt)))).bind _ = _
      rw [e]; rfl
    · rw [ey (by omega), ex (by omega)]
      show ((g_spec_l08Place st (yOf st)).bind _).bind _ = _
      rw [p1, Option.bind_some, put_2 h.b hn (by simp), put0 h.b hn (.inl (by omega)), put0' h.b hn, Option.bind_some, specIn_eq, decide_eq_true (p := (0 : Int) ≤ yOf st ∧ yOf st ≤ 31) ha, Option.bind_some, cond_true]
      show ((getI st.Mem (yOf st)).bind _).bind _ = _
      rw [e]; rfl
  · by_cases hb : 1024 ≤ yOf st ∧ yOf st ≤ 1023 + st.Cells.length
    · obtain ⟨p1, p2⟩ := place_cell h.b h.y hb.1 hb.2
      have hlt : (yOf st - 1024).toNat < st.Cells.length := by omega
      have e : getI st.Cells (yOf st - 1024) = some st.Cells[(yOf st - 1024).toNat] := getI_int (by omega) hlt
      have hh := has_l0 (l := st.Vars) (v := yOf st - 1024) (by omega)
      cases hany : (st.Vars.any fun x => yOf st - 1024 == x) with
      | true =>
        rw [hany] at hh
        refine both_of h hf nm14 rfl wa14 ta14 (by omega) (l := []) (f := 0) (st2 := cellS st (yOf st - 1024) (xOf st)) (by simp) (fun _ => ?_) rfl rfl (fun _ _ => ⟨h.cell, fun x hx => by simp at hx⟩) (by omega) (fun hn x y ey ex => notpure rfl ?_)
        · show (((g_impl_St_place_rd (yOf st) st).bind _ : Option (GSt ⊕ (List Int × Int × GSt)))).bind _ = _
          rw [p2, Option.bind_some]
          show ((((g_slices_Contains_int st.Vars (yOf st - 1024)).bind fun y_17 => some (!y_17) : Option Bool).bind _ : Option (GSt ⊕ (List Int × Int × GSt)))).bind _ = _
          rw [hh]
          show (((getI st.Cells (yOf st - 1024)).bind _ : Option (GSt ⊕ (List Int × Int × GSt)))).bind _ = _
          rw [e]; rfl
        · rw [ey (by omega), ex (by omega)]
          show ((g_spec_l08Place st (yOf st)).bind _).bind _ = _
          rw [p1, Option.bind_some, put_2 h.b hn (by simp), put0 h.b hn (.inl (by omega)), put0' h.b hn, Option.bind_some, specIn_eq, decide_eq_false (p := (0 : Int) ≤ yOf st - 992 ∧ yOf st - 992 ≤ 31) (by omega), Option.bind_some, cond_false,
            lp (yOf st - 992) _ (by omega) (by omega) (fun _ => by show (yOf st - 992 - 32).toNat < st.Cells.length; omega) (by omega), show yOf st - 992 - 32 = yOf st - 1024 by omega, hany, if_pos ⟨by omega, rfl⟩]
          rfl
      | false =>
        rw [hany] at hh
        refine both_of h hf nm14 rfl wa14 ta14 (by omega) (l := []) (f := 4) (st2 := st) (by simp) (fun _ => ?_) rfl rfl (fun _ e => by cases e) (by omega) (fun hn x y ey ex => notpure rfl ?_)
        · show (((g_impl_St_place_rd (yOf st) st).bind _ : Option (GSt ⊕ (List Int × Int × GSt)))).bind _ = _
          rw [p2, Option.bind_some]
          show ((((g_slices_Contains_int st.Vars (yOf st - 1024)).bind fun y_17 => some (!y_17) : Option Bool).bind _ : Option (GSt ⊕ (List Int × Int × GSt)))).bind _ = _
          rw [hh]; rfl
        · rw [ey (by omega), ex (by omega)]
          show ((g_spec_l08Place st (yOf st)).bind _).bind _ = _
          rw [p1, Option.bind_some, put_2 h.b hn (by simp), put0 h.b hn (.inl (by omega)), Option.bind_some, specIn_eq, decide_eq_false (p := (0 : Int) ≤ yOf st - 992 ∧ yOf st - 992 ≤ 31) (by omega), Option.bind_some, cond_false,
            lp (yOf st - 992) _ (by omega) (by omega) (fun _ => by show (yOf st - 992 - 32).toNat < st.Cells.length; omega) (by omega), show yOf st - 992 - 32 = yOf st - 1024 by omega, hany, if_neg (by simp)]
          show ((g_spec_l08Fault st 4).bind _).bind _ = _
          rw [spec_flt h.b]; rfl
    · obtain ⟨p1, p2⟩ := place_no h.b h.y ha hb
      refine both_of h hf nm14 rfl wa14 ta14 (by omega) (l := []) (f := 4) (st2 := st) (by simp) (fun _ => ?_) rfl rfl (fun _ e => by cases e) (by omega) (fun hn x y ey ex => notpure rfl ?_)
      · show (((g_impl_St_place_rd (yOf st) st).bind _ : Option (GSt ⊕ (List Int × Int × GSt)))).bind _ = _
        rw [p2]; rfl
      · rw [ey (by omega), ex (by omega)]
        show ((g_spec_l08Place st (yOf st)).bind _).bind _ = _
        rw [p1, Option.bind_some, put_2 h.b hn (by simp), put0 h.b hn (.inl (by omega)), Option.bind_some, specIn_eq, decide_eq_false (p := (0 : Int) ≤ -1 ∧ (-1 : Int) ≤ 31) (by omega), Option.bind_some, cond_false,
          lp (-1) _ (by omega) (by omega) (by omega) (fun _ => rfl), if_neg (by omega)]
        show ((g_spec_l08Fault st 4).bind _).bind _ = _
        rw [spec_flt h.b]; rfl
theorem word_back {st : GSt} (h : SG st) (hf : st.Fault = 0) {k : Int} {name : List UInt8} {b : Bool} (hk : g_spec_PrimName k = some name) (hne : (name == []) = false) (hw : g_impl_wants k = some ((0 : Nat) : Int)) (ht : g_spec_l08Takes name = some ((0 : Nat) : Int)) (hp : ∀ x y, g_spec_l08Pure name x y = some ([], false))
    (ho : ∀ x y, g_spec_l08Other st name x y = (g_spec_l08Back st b).bind fun y => some y)
    (hi : ∀ t, st.Ret.getLast? = some t → g_impl_St_effect name (xOf st) (yOf st) st = some (if t.Kind = 2 ∨ (b = true ∧ t.Kind ≠ 0) then ([], 11, st) else ([t.N], 0, if b = true then retS st st.Ret.dropLast else st))) (hi0 : st.Ret = [] → g_impl_St_effect name (xOf st) (yOf st) st = some ([], 3, st)) : Both st k := by
  have hr := h.b.r
  cases hl : st.Ret.getLast? with
  | none =>
    have h0 : st.Ret = [] := by rwa [List.getLast?_eq_none_iff] at hl
    refine both_of h hf hk hne hw ht (by omega) (l := []) (f := 3) (st2 := st) (by simp) (fun _ => hi0 h0) rfl rfl (fun _ e => by cases e) (by omega) (fun hn x y ey ex => notpure (hp _ _) ?_)
    rw [ho]
    unfold g_spec_l08Back
    rw [h0]
    show ((g_spec_l08Fault st 3).bind _).bind _ = _
    rw [spec_flt h.b]; rfl
  | some t =>
    have hpos : 0 < st.Ret.length := by cases hR : st.Ret with
      | nil => rw [hR] at hl; cases hl
      | cons a r => simp
    have hmem : t ∈ st.Ret := List.mem_of_getLast? hl
    have hw1 : IntKind.wrap .i64 ((st.Ret.length : Int) - 1) = ((st.Ret.length - 1 : Nat) : Int) := by rw [wI64 (by omega) (by omega)]; omega
    have eg : getI st.Ret ((st.Ret.length - 1 : Nat) : Int) = some t := by rw [getI_nat, ← List.getLast?_eq_getElem?, hl]
    have es : subL st.Ret 0 ((st.Ret.length - 1 : Nat) : Int) = some st.Ret.dropLast := by rw [subL_take (by omega) (by omega), Int.toNat_natCast, List.dropLast_eq_take]
    have eb : (cond (t.Kind == 2) (some true) (cond b (some (t.Kind != 0)) (some false)) : Option Bool) = some (decide (t.Kind = 2 ∨ (b = true ∧ t.Kind ≠ 0))) := by
      by_cases h2 : t.Kind = 2
      · rw [show (t.Kind == 2) = true by simp [h2], cond_true, decide_eq_true (.inl h2)]
      · rw [show (t.Kind == 2) = false by simp [h2], cond_false]
        cases b with
        | false => simp [h2]
        | true => by_cases h3 : t.Kind = 0 <;> simp [h3, h2]
    have hi := hi t hl
    by_cases hb : t.Kind = 2 ∨ (b = true ∧ t.Kind ≠ 0)
    · rw [if_pos hb] at hi
      refine both_of h hf hk hne hw ht (by omega) (l := []) (f := 11) (st2 := st) (by simp) (fun _ => hi) rfl rfl (fun _ e => by cases e) (by omega) (fun hn x y ey ex => notpure (hp _ _) ?_)
      rw [ho]
      unfold g_spec_l08Back
      rw [show ((st.Ret.length : Int) == 0) = false by rw [beq_eq_false_iff_ne]; omega, cond_false, hw1, eg, Option.bind_some, eb, decide_eq_true hb, Option.bind_some, cond_true, spec_flt h.b]; rfl
    · rw [if_neg hb] at hi
      refine both_of h hf hk hne hw ht (by omega) (l := [t.N]) (f := 0) (st2 := if b = true then retS st st.Ret.dropLast else st) (by simp) (fun _ => hi) (by split <;> rfl) (by split <;> rfl) (fun _ _ => ⟨?_, fun x hx => by rw [List.mem_singleton] at hx; subst hx; exact h.r t hmem⟩) (by omega) (fun hn x y ey ex => notpure (hp _ _) ?_)
      · split
        · exact h.ret (by rw [List.length_dropLast]; omega) (fun s hs => h.b.rk s (List.dropLast_subset _ hs)) (fun s hs => h.r s (List.dropLast_subset _ hs))
        · exact h
      · rw [ho]
        unfold g_spec_l08Back
        rw [show ((st.Ret.length : Int) == 0) = false by rw [beq_eq_false_iff_ne]; omega, cond_false, hw1, eg, Option.bind_some, eb, decide_eq_false hb, Option.bind_some, cond_false, put_0 h.b (by simp), Option.bind_some, if_neg (by simp)]
        unfold putS
        by_cases hx : st.Data.length - 0 + [t.N].length > 16
        · rw [if_pos hx, if_pos hx]
          cases b <;> rfl
        · rw [if_neg hx, if_neg hx]
          cases b with
          | false => rfl
          | true =>
            show ((((cond true (some (st.Fault == 0)) (some false) : Option Bool).bind _ : Option GSt)).bind _).bind _ = _
            rw [hf, cond_true, show ((0 : Int) == 0) = true from rfl, Option.bind_some, cond_true]
            show (((subL st.Ret 0 ((st.Ret.length - 1 : Nat) : Int)).bind _).bind _).bind _ = _
            rw [es]
            simp [dat, retS, hf]
end Go.Proofs.YtofjeimkphojaaaGreatDoor
namespace Go.Proofs.YtofjeimkphojaaaGreatDoor
open Go Go.Fm
set_option maxRecDepth 100000
theorem last_some {st : GSt} {t : GSlot} (hl : st.Ret.getLast? = some t) (hr : st.Ret.length ≤ 24) : 0 < st.Ret.length ∧ IntKind.wrap .i64 ((st.Ret.length : Int) - 1) = ((st.Ret.length - 1 : Nat) : Int) ∧ getI st.Ret ((st.Ret.length - 1 : Nat) : Int) = some t ∧ subL st.Ret 0 ((st.Ret.length - 1 : Nat) : Int) = some st.Ret.dropLast := by
  have hpos : 0 < st.Ret.length := by cases hR : st.Ret with
    | nil => rw [hR] at hl; cases hl
    | cons a r => simp
  exact ⟨hpos, by rw [wI64 (by omega) (by omega)]; omega, by rw [getI_nat, ← List.getLast?_eq_getElem?, hl], by rw [subL_take (by omega) (by omega), Int.toNat_natCast, List.dropLast_eq_take]⟩
theorem word20 {st : GSt} (h : SG st) (hf : st.Fault = 0) : Both st 20 := by
  refine word_back h hf (b := true) nm20 rfl wa20 ta20 (fun _ _ => rfl) (fun _ _ => rfl) (fun t hl => ?_) (fun h0 => ?_)
  · obtain ⟨hpos, hw1, eg, es⟩ := last_some hl h.b.r
    have e : g_impl_St_effect [112, 111, 112] (xOf st) (yOf st) st = ((cond (decide ((IntKind.wrap .i64 ((st.Ret.length : Int) - 1)) < 0)) (some (Sum.inr ([], 3, st))) (((getI st.Ret (IntKind.wrap .i64 ((st.Ret.length : Int) - 1))).bind fun v_29 => cond (v_29.Kind != 0) (some true) ((getI st.Ret (IntKind.wrap .i64 ((st.Ret.length : Int) - 1))).bind fun v_30 => some (v_30.Kind == 2)) : Option Bool).bind fun v_28 => cond v_28 (some (Sum.inr ([], 11, st))) ((getI st.Ret (IntKind.wrap .i64 ((st.Ret.length : Int) - 1))).bind fun v_32 => (((subL st.Ret 0 (IntKind.wrap .i64 ((st.Ret.length : Int) - 1))).bind fun v_41 => some (retS st v_41) : Option GSt)).bind fun x_40 => some (Sum.inr ([v_32.N], 0, x_40)))) : Option (GSt ⊕ (List Int × Int × GSt))).bind fun o => match o with | .inl x_8 => some ([], 0, x_8) | .inr (v_9, v_10, x_11) => some (v_9, v_10, x_11)) := rfl
    rw [e, hw1, decide_eq_false (by omega), cond_false, eg, es]
    simp only [Option.bind_some]
    by_cases h0 : t.Kind = 0
    · rw [show (t.Kind != 0) = false by simp [h0], cond_false, Option.bind_some, show (t.Kind == 2) = false by simp [h0], cond_false, if_neg (by omega)]
      rfl
    · rw [show (t.Kind != 0) = true by simp [h0], cond_true, Option.bind_some, cond_true, if_pos (by simp [h0])]
      rfl
  · show ((cond (decide ((IntKind.wrap .i64 ((st.Ret.length : Int) - 1)) < 0)) _ _ : Option (GSt ⊕ (List Int × Int × GSt)))).bind _ = _
    rw [h0]; rfl
theorem word21 {st : GSt} (h : SG st) (hf : st.Fault = 0) : Both st 21 := by
  refine word_back h hf (b := false) nm21 rfl wa21 ta21 (fun _ _ => rfl) (fun _ _ => rfl) (fun t hl => ?_) (fun h0 => ?_)
  · obtain ⟨hpos, hw1, eg, es⟩ := last_some hl h.b.r
    have e : g_impl_St_effect [105] (xOf st) (yOf st) st = ((cond (decide ((IntKind.wrap .i64 ((st.Ret.length : Int) - 1)) < 0)) (some (Sum.inr ([], 3, st))) (((getI st.Ret (IntKind.wrap .i64 ((st.Ret.length : Int) - 1))).bind fun v_31 => some (v_31.Kind == 2) : Option Bool).bind fun v_28 => cond v_28 (some (Sum.inr ([], 11, st))) ((getI st.Ret (IntKind.wrap .i64 ((st.Ret.length : Int) - 1))).bind fun v_32 => (some st : Option GSt).bind fun x_40 => some (Sum.inr ([v_32.N], 0, x_40)))) : Option (GSt ⊕ (List Int × Int × GSt))).bind fun o => match o with | .inl x_8 => some ([], 0, x_8) | .inr (v_9, v_10, x_11) => some (v_9, v_10, x_11)) := rfl
    rw [e, hw1, decide_eq_false (by omega), cond_false, eg]
    simp only [Option.bind_some]
    by_cases h0 : t.Kind = 2
    · rw [show (t.Kind == 2) = true by simp [h0], cond_true, if_pos (.inl h0)]
      rfl
    · rw [show (t.Kind == 2) = false by simp [h0], cond_false, if_neg (by simp [h0])]
      rfl
  · show ((cond (decide ((IntKind.wrap .i64 ((st.Ret.length : Int) - 1)) < 0)) _ _ : Option (GSt ⊕ (List Int × Int × GSt)))).bind _ = _
    rw [h0]; rfl
theorem words {st : GSt} (h : SG st) (hf : st.Fault = 0) {k : Int} (h0 : 0 ≤ k) (h1 : k ≤ 23) : Both st k := by
  obtain ⟨n, rfl⟩ : ∃ n : Nat, k = n := ⟨k.toNat, by omega⟩
  have hn : n < 24 := by omega
  match n, hn with
  | 0, _ => exact word0 h hf
  | 1, _ => exact word1 h hf
  | 2, _ => exact word2 h hf
  | 3, _ => exact word3 h hf
  | 4, _ => exact word4 h hf
  | 5, _ => exact word5 h hf
  | 6, _ => exact word6 h hf
  | 7, _ => exact word7 h hf
  | 8, _ => exact word8 h hf
  | 9, _ => exact word9 h hf
  | 10, _ => exact word10 h hf
  | 11, _ => exact word11 h hf
  | 12, _ => exact word12 h hf
  | 13, _ => exact word13 h hf
  | 14, _ => exact word14 h hf
  | 15, _ => exact word15 h hf
  | 16, _ => exact word16 h hf
  | 17, _ => exact word17 h hf
  | 18, _ => exact word18 h hf
  | 19, _ => exact word19 h hf
  | 20, _ => exact word20 h hf
  | 21, _ => exact word21 h hf
  | 22, _ => exact word22 h hf
  | 23, _ => exact word23 h hf
def nameB (k : Int) : Bool := decide (0 ≤ k ∧ k ≤ 23)
theorem name_ne (k : Int) : ∃ s, g_spec_PrimName k = some s ∧ (s == []) = !nameB k := by
  unfold nameB
  by_cases h : 0 ≤ k ∧ k ≤ 23
  · rw [decide_eq_true h]
    obtain ⟨n, rfl⟩ : ∃ n : Nat, k = n := ⟨k.toNat, by omega⟩
    have hn : n < 24 := by omega
    match n, hn with
    | 0, _ => exact ⟨_, nm0, rfl⟩
    | 1, _ => exact ⟨_, nm1, rfl⟩
    | 2, _ => exact ⟨_, nm2, rfl⟩
    | 3, _ => exact ⟨_, nm3, rfl⟩
    | 4, _ => exact ⟨_, nm4, rfl⟩
    | 5, _ => exact ⟨_, nm5, rfl⟩
    | 6, _ => exact ⟨_, nm6, rfl⟩
    | 7, _ => exact ⟨_, nm7, rfl⟩
    | 8, _ => exact ⟨_, nm8, rfl⟩
    | 9, _ => exact ⟨_, nm9, rfl⟩
    | 10, _ => exact ⟨_, nm10, rfl⟩
    | 11, _ => exact ⟨_, nm11, rfl⟩
    | 12, _ => exact ⟨_, nm12, rfl⟩
    | 13, _ => exact ⟨_, nm13, rfl⟩
    | 14, _ => exact ⟨_, nm14, rfl⟩
    | 15, _ => exact ⟨_, nm15, rfl⟩
    | 16, _ => exact ⟨_, nm16, rfl⟩
    | 17, _ => exact ⟨_, nm17, rfl⟩
    | 18, _ => exact ⟨_, nm18, rfl⟩
    | 19, _ => exact ⟨_, nm19, rfl⟩
    | 20, _ => exact ⟨_, nm20, rfl⟩
    | 21, _ => exact ⟨_, nm21, rfl⟩
    | 22, _ => exact ⟨_, nm22, rfl⟩
    | 23, _ => exact ⟨_, nm23, rfl⟩
  · rw [decide_eq_false h]
    refine ⟨[], ?_, rfl⟩
    unfold g_spec_PrimName g_spec_l08Names
    simp only [Option.bind_some]
    rw [specIn_eq]
    have : ¬(0 ≤ k ∧ k ≤ IntKind.wrap .i64 ((24 : Int) - 1)) := by rw [wI64 (by omega) (by omega)]; omega
    show (some (decide (0 ≤ k ∧ k ≤ IntKind.wrap .i64 ((24 : Int) - 1)))).bind _ = _
    rw [decide_eq_false this]; rfl
instance (x : Int) : Decidable (i32B x) := inferInstanceAs (Decidable (_ ∧ _))
def insB (n : Int) (i : GIns) : Bool :=
  if i.Op = 0 then decide (i32B i.N) else if i.Op = 1 then nameB i.N else if i.Op = 2 ∨ i.Op = 3 ∨ i.Op = 4 ∨ i.Op = 5 ∨ i.Op = 7 then decide (0 ≤ i.N ∧ i.N ≤ n - 1) else if i.Op = 6 ∨ i.Op = 8 ∨ i.Op = 9 then decide (i.N = 0) else false
end Go.Proofs.YtofjeimkphojaaaGreatDoor
namespace Go.Proofs.YtofjeimkphojaaaGreatDoor
open Go Go.Fm
set_option maxRecDepth 100000
def codeB (l : List GIns) : Bool := decide (1 ≤ l.length ∧ l.length ≤ 1500) && (decide ((l.getLast?.map (·.Op)) = some 9) && l.all (insB l.length))
theorem beqD (a b : Int) : (a == b) = decide (a = b) := by
  by_cases h : a = b <;> simp [h]
theorem spec_ins {n : Int} (hn : n ≤ 1500) (h0 : 1 ≤ n) (i : GIns) : ((cond (i.Op == 0) ((g_spec_l01In i.N (-2147483648) 2147483647).bind fun y_13 => some y_13) (cond (i.Op == 1) ((g_spec_PrimName i.N).bind fun y_14 => some (y_14 != [])) ((cond (i.Op == 2) (some (i.Op == 2)) (cond (i.Op == 3) (some (i.Op == 3)) (cond (i.Op == 4) (some (i.Op == 4)) (cond (i.Op == 5) (some (i.Op == 5)) (some (i.Op == 7))))) : Option (Bool)).bind fun v_15 => cond v_15 ((g_spec_l01In i.N 0 (IntKind.wrap .i64 (n - 1))).bind fun y_16 => some y_16) ((cond (i.Op == 6) (some (i.Op == 6)) (cond (i.Op == 8) (some (i.Op == 8)) (some (i.Op == 9))) : Option (Bool)).bind fun v_17 => cond v_17 (some (i.N == 0)) (some false)))) : Option (Bool))) = some (insB n i) := by
  obtain ⟨s, e1, e2⟩ := name_ne i.N
  unfold insB
  rw [specIn_eq, specIn_eq, e1, wI64 (by omega) (by omega), beqD, beqD, beqD, beqD, beqD, beqD, beqD, beqD, beqD, beqD, beqD]
  by_cases o0 : i.Op = 0
  · rw [decide_eq_true o0, if_pos o0]; rfl
  rw [decide_eq_false o0, if_neg o0, cond_false]
  by_cases o1 : i.Op = 1
  · rw [decide_eq_true o1, if_pos o1, cond_true, Option.bind_some, bne, e2, Bool.not_not]
  rw [decide_eq_false o1, if_neg o1, cond_false]
  by_cases o2 : i.Op = 2 ∨ i.Op = 3 ∨ i.Op = 4 ∨ i.Op = 5 ∨ i.Op = 7
  · rw [if_pos o2]
    have : (cond (decide (i.Op = 2)) (some (decide (i.Op = 2))) (cond (decide (i.Op = 3)) (some (decide (i.Op = 3))) (cond (decide (i.Op = 4)) (some (decide (i.Op = 4))) (cond (decide (i.Op = 5)) (some (decide (i.Op = 5))) (some (decide (i.Op = 7)))))) : Option Bool) = some true := by
      rcases o2 with h | h | h | h | h <;> rw [h] <;> rfl
    rw [this]; rfl
  · rw [if_neg o2]
    have : (cond (decide (i.Op = 2)) (some (decide (i.Op = 2))) (cond (decide (i.Op = 3)) (some (decide (i.Op = 3))) (cond (decide (i.Op = 4)) (some (decide (i.Op = 4))) (cond (decide (i.Op = 5)) (some (decide (i.Op = 5))) (some (decide (i.Op = 7)))))) : Option Bool) = some false := by
      rw [decide_eq_false (by omega), decide_eq_false (by omega), decide_eq_false (by omega), decide_eq_false (by omega), decide_eq_false (by omega)]; rfl
    rw [this, Option.bind_some, cond_false]
    by_cases o6 : i.Op = 6 ∨ i.Op = 8 ∨ i.Op = 9
    · rw [if_pos o6]
      have : (cond (decide (i.Op = 6)) (some (decide (i.Op = 6))) (cond (decide (i.Op = 8)) (some (decide (i.Op = 8))) (some (decide (i.Op = 9)))) : Option Bool) = some true := by
        rcases o6 with h | h | h <;> rw [h] <;> rfl
      rw [this]; rfl
    · rw [if_neg o6, decide_eq_false (by omega), decide_eq_false (by omega), decide_eq_false (by omega)]; rfl
theorem impl_ins {n : Int} (hn : n ≤ 1500) (h0 : 1 ≤ n) (i : GIns) (hi : i64B i.N) : g_impl_CodeOkc1 i n = some (!insB n i) := by
  obtain ⟨s, e1, e2⟩ := name_ne i.N
  unfold insB g_impl_CodeOkc1
  rw [within_eq, name_eq, e1, wI64 (x := n - 1) (by omega) (by omega), beqD, beqD, beqD, beqD, beqD, beqD, beqD, beqD, beqD, beqD]
  have c2 : (cond (decide (i.Op = 2)) (some (decide (i.Op = 2))) (cond (decide (i.Op = 3)) (some (decide (i.Op = 3))) (cond (decide (i.Op = 4)) (some (decide (i.Op = 4))) (cond (decide (i.Op = 5)) (some (decide (i.Op = 5))) (some (decide (i.Op = 7)))))) : Option Bool) = some (decide (i.Op = 2 ∨ i.Op = 3 ∨ i.Op = 4 ∨ i.Op = 5 ∨ i.Op = 7)) := by
    by_cases o2 : i.Op = 2 ∨ i.Op = 3 ∨ i.Op = 4 ∨ i.Op = 5 ∨ i.Op = 7
    · rw [decide_eq_true o2]; rcases o2 with h | h | h | h | h <;> rw [h] <;> rfl
    · rw [decide_eq_false o2, decide_eq_false (by omega), decide_eq_false (by omega), decide_eq_false (by omega), decide_eq_false (by omega), decide_eq_false (by omega)]; rfl
  have c6 : (cond (decide (i.Op = 6)) (some (decide (i.Op = 6))) (cond (decide (i.Op = 8)) (some (decide (i.Op = 8))) (some (decide (i.Op = 9)))) : Option Bool) = some (decide (i.Op = 6 ∨ i.Op = 8 ∨ i.Op = 9)) := by
    by_cases o6 : i.Op = 6 ∨ i.Op = 8 ∨ i.Op = 9
    · rw [decide_eq_true o6]; rcases o6 with h | h | h <;> rw [h] <;> rfl
    · rw [decide_eq_false o6, decide_eq_false (by omega), decide_eq_false (by omega), decide_eq_false (by omega)]; rfl
  rw [c2, c6]
  simp only [Option.bind_some]
  by_cases o2 : i.Op = 2 ∨ i.Op = 3 ∨ i.Op = 4 ∨ i.Op = 5 ∨ i.Op = 7
  · rw [decide_eq_true o2, cond_true, if_neg (by omega), if_neg (by omega), if_pos o2]; rfl
  rw [decide_eq_false o2, cond_false, if_neg o2]
  by_cases o0 : i.Op = 0
  · rw [decide_eq_true o0, if_pos o0, cond_true]
    have : (i.N != IntKind.wrap .i64 (IntKind.wrap .i32 i.N)) = !decide (i32B i.N) := by
      have hb := wI32_bd i.N
      rw [wI64 (by omega) (by omega)]
      by_cases hh : i32B i.N
      · rw [decide_eq_true hh, wI32 (by unfold i32B at hh; omega) (by unfold i32B at hh; omega)]; simp
      · rw [decide_eq_false hh]
        have : i.N ≠ IntKind.wrap .i32 i.N := fun e => hh (e ▸ i32w _)
        simp [this]
    rw [this]; rfl
  rw [decide_eq_false o0, if_neg o0, cond_false]
  by_cases o1 : i.Op = 1
  · rw [decide_eq_true o1, if_pos o1, cond_true, e2]; rfl
  rw [decide_eq_false o1, if_neg o1, cond_false]
  by_cases o6 : i.Op = 6 ∨ i.Op = 8 ∨ i.Op = 9
  · rw [decide_eq_true o6, if_pos o6, cond_true]
    by_cases hz : i.N = 0 <;> simp [hz]
  · rw [decide_eq_false o6, if_neg o6]; rfl
theorem last_op {l : List GIns} (h0 : 1 ≤ l.length) (h1 : l.length ≤ 1500) : ∃ t, l.getLast? = some t ∧ getI l (IntKind.wrap .i64 ((l.length : Int) - 1)) = some t := by
  refine ⟨l[l.length - 1], ?_, ?_⟩
  · rw [List.getLast?_eq_getElem?, List.getElem?_eq_getElem (by omega)]
  · rw [wI64 (by omega) (by omega), show (l.length : Int) - 1 = ((l.length - 1 : Nat) : Int) by omega, getI_nat, List.getElem?_eq_getElem (by omega)]
theorem spec_code {l : List GIns} (hl : l.length ≤ 1048576) : g_spec_CodeOk l = some (codeB l) := by
  unfold g_spec_CodeOk codeB
  rw [specIn_eq]
  by_cases h : 1 ≤ l.length ∧ l.length ≤ 1500
  · obtain ⟨t, e1, e2⟩ := last_op h.1 h.2
    rw [decide_eq_true (p := (1 : Int) ≤ (l.length : Int) ∧ (l.length : Int) ≤ 1500) (by omega), decide_eq_true h, e2, e1]
    simp only [Option.bind_some, Bool.not_true, cond_false, Option.map_some, Bool.true_and]
    by_cases h9 : t.Op = 9
    · rw [show (t.Op != 9) = false by simp [h9], cond_false, decide_eq_true (by rw [h9]), Bool.true_and]
      have := allLoop (L := l) (bad := false) (fun _ i => insB l.length i) (g_spec_CodeOk_l0 l (l.length : Int)) (fun k n x hx hn => by
        rw [g_spec_CodeOk_l0, decide_eq_true (by omega), cond_true, getI_nat, hx, Option.bind_some, spec_ins (by omega) (by omega), Option.bind_some, nxt (by omega)]
        cases insB l.length x <;> rfl) (fun k n hn => by rw [g_spec_CodeOk_l0, decide_eq_false (by omega), cond_false]) (by omega)
      rw [this, allN_const]
      cases l.all (insB l.length) <;> rfl
    · rw [show (t.Op != 9) = true by simp [h9], cond_true, decide_eq_false (by simpa using h9)]; rfl
  · rw [decide_eq_false (p := (1 : Int) ≤ (l.length : Int) ∧ (l.length : Int) ≤ 1500) (by omega), decide_eq_false h]; rfl
theorem impl_code {l : List GIns} (hl : l.length ≤ 1048576) (hi : ∀ i ∈ l, i64B i.N) : g_impl_CodeOk l = some (codeB l) := by
  unfold g_impl_CodeOk codeB
  rw [within_eq]
  by_cases h : 1 ≤ l.length ∧ l.length ≤ 1500
  · obtain ⟨t, e1, e2⟩ := last_op h.1 h.2
    rw [decide_eq_true (p := (1 : Int) ≤ (l.length : Int) ∧ (l.length : Int) ≤ 1500) (by omega), decide_eq_true h, e2, e1]
    simp only [Option.bind_some, Bool.not_true, cond_false, Option.map_some, Bool.true_and]
    by_cases h9 : t.Op = 9
    · rw [show (t.Op != 9) = false by simp [h9], cond_false, decide_eq_true (by rw [h9]), Bool.true_and]
      have key : ∀ (k n : Nat), n ≤ l.length → l.length - n < k → ∃ o : Unit ⊕ Int, g_slices_IndexFunc_Ins_impl_CodeOkc1_l0 l (l.length : Int) (l.length : Int) k n = some o ∧ (match o with | .inl _ => (l.drop n).all (insB l.length) = true | .inr i => 0 ≤ i ∧ (l.drop n).all (insB l.length) = false) := by
        intro k
        induction k with
        | zero => intro n h0 h1; omega
        | succ k ih =>
          intro n h0 h1
          rw [g_slices_IndexFunc_Ins_impl_CodeOkc1_l0]
          by_cases hn : n < l.length
          · have hd : l.drop n = l[n] :: l.drop (n + 1) := List.drop_eq_getElem_cons hn
            rw [decide_eq_true (by omega), cond_true, getI_nat, List.getElem?_eq_getElem hn, Option.bind_some, impl_ins (by omega) (by omega) _ (hi _ (List.getElem_mem hn)), Option.bind_some]
            cases hb : insB l.length l[n] with
            | false =>
              refine ⟨_, rfl, by omega, ?_⟩
              rw [hd, List.all_cons, hb]; rfl
            | true =>
              rw [Bool.not_true, cond_false, nxt (by omega)]
              obtain ⟨o, g1, g2⟩ := ih (n + 1) (by omega) (by omega)
              refine ⟨o, g1, ?_⟩
              rw [hd, List.all_cons, hb, Bool.true_and]; exact g2
          · rw [decide_eq_false (by omega), cond_false, List.drop_eq_nil_of_le (by omega)]
            exact ⟨_, rfl, rfl⟩
      obtain ⟨o, g1, g2⟩ := key bigK 0 (Nat.zero_le _) (by unfold bigK; omega)
      rw [Int.natCast_zero] at g1
      rw [List.drop_zero] at g2
      unfold g_slices_ContainsFunc_Ins_impl_CodeOkc1 g_slices_IndexFunc_Ins_impl_CodeOkc1
      rw [g1]
      cases o with
      | inl u => rw [show l.all (insB l.length) = true from g2]; rfl
      | inr i => simp only [Option.bind_some]; rw [g2.2, decide_eq_true g2.1]; rfl
    · rw [show (t.Op != 9) = true by simp [h9], cond_true, decide_eq_false (by simpa using h9)]; rfl
  · rw [decide_eq_false (p := (1 : Int) ≤ (l.length : Int) ∧ (l.length : Int) ≤ 1500) (by omega), decide_eq_false h]; rfl
structure CG (l : List GIns) : Prop where
  n : 1 ≤ l.length ∧ l.length ≤ 1500
  last : l.getLast?.map (·.Op) = some 9
  all : ∀ i ∈ l, insB l.length i = true
theorem CG.of {l : List GIns} (h : codeB l = true) : CG l := by
  unfold codeB at h
  simp only [Bool.and_eq_true, decide_eq_true_eq, List.all_eq_true] at h
  exact ⟨h.1, h.2.1, h.2.2⟩
end Go.Proofs.YtofjeimkphojaaaGreatDoor
namespace Go.Proofs.YtofjeimkphojaaaGreatDoor
open Go Go.Fm
set_option maxRecDepth 100000
def fuelS (st : GSt) : GSt := ⟨st.Data, st.Ret, st.A, st.Mem, st.Cells, st.Vars, st.Out, st.In, st.Fault, st.Fuel - 1⟩
theorem SG.fuel {st : GSt} (h : SG st) (hu : st.Fuel ≠ 0) : SG (fuelS st) :=
  ⟨⟨h.b.d, h.b.r, h.b.m, h.b.v, h.b.o, h.b.i, h.b.rk, h.b.vb, h.b.c, h.b.cl, h.b.f, by have := h.b.u; exact ⟨by show 0 ≤ st.Fuel - 1; omega, by show st.Fuel - 1 ≤ 4000; omega⟩⟩, h.d, h.m, h.a, h.r⟩
def goM (m : GMach) (st : GSt) (next : Int) : GMach := ⟨st, if st.Fault = 0 then next else m.At, false⟩
theorem to_eq (m : GMach) (st : GSt) (n : Int) : g_spec_l12To m st n = some (goM m st n) := by
  unfold g_spec_l12To goM
  by_cases h : st.Fault = 0
  · rw [show (st.Fault != 0) = false by simp [h], if_pos h]; rfl
  · rw [show (st.Fault != 0) = true by simp [h], if_neg h]; rfl
theorem fin_eq {m : GMach} {st : GSt} {n : Int} : (cond (st.Fault == 0) (some (⟨st, n, false⟩ : GMach)) (some (⟨st, m.At, false⟩ : GMach)) : Option GMach) = some (goM m st n) := by
  unfold goM
  by_cases h : st.Fault = 0
  · rw [show (st.Fault == 0) = true by simp [h], if_pos h]; rfl
  · rw [show (st.Fault == 0) = false by simp [h], if_neg h]; rfl
theorem goM_flt (m : GMach) (st : GSt) {f : Int} (hf : f ≠ 0) (a b : Int) : goM m (flt st f) a = goM m (flt st f) b := by
  unfold goM
  rw [if_neg (by exact hf), if_neg (by exact hf)]
theorem l12put_eq {st : GSt} (h : SB st) (s : GSlot) : g_spec_l12Put st s = some (if st.Ret.length = 24 then flt st 3 else retS st (st.Ret ++ [s])) := by
  have := h.r
  unfold g_spec_l12Put
  rw [spec_flt h, copyS h]
  by_cases h0 : st.Ret.length = 24
  · rw [show ((st.Ret.length : Int) == 24) = true by rw [h0]; rfl, if_pos h0]; rfl
  · rw [show ((st.Ret.length : Int) == 24) = false by rw [beq_eq_false_iff_ne]; omega, if_neg h0, cond_false, Option.bind_some, app_eq (by simp; omega)]; rfl
theorem drop_eq {st : GSt} (h : SB st) (hp : 0 < st.Ret.length) : g_spec_l12Drop st = some (retS st st.Ret.dropLast) := by
  have := h.r
  unfold g_spec_l12Drop
  rw [copyS h, Option.bind_some, show IntKind.wrap .i64 ((st.Ret.length : Int) - 1) = ((st.Ret.length - 1 : Nat) : Int) by rw [wI64 (by omega) (by omega)]; omega, subL_take (by omega) (by omega), Int.toNat_natCast, ← List.dropLast_eq_take]; rfl
theorem pushes_eq {st : GSt} (h : SB st) (n a : Int) (d : Bool) : g_impl_St_pushes_inGMach_0 n (⟨st, a, d⟩ : GMach) = some ⟨putS st st 0 [n], a, d⟩ := by
  have := h.d
  unfold g_impl_St_pushes_inGMach_0 putS
  by_cases h0 : st.Data.length = 16
  · rw [if_pos (by simp; omega)]
    show cond ((st.Data.length : Int) == 16) _ _ = _
    rw [show ((st.Data.length : Int) == 16) = true by rw [h0]; rfl]; rfl
  · rw [if_neg (by simp; omega)]
    show cond ((st.Data.length : Int) == 16) _ ((app st.Data [n]).bind _) = _
    rw [show ((st.Data.length : Int) == 16) = false by rw [beq_eq_false_iff_ne]; omega, cond_false, app_eq (by simp; omega), Nat.sub_zero, List.take_length]; rfl
theorem back_eq {st : GSt} (h : SB st) (n a : Int) (d : Bool) : g_impl_Mach_back n (⟨st, a, d⟩ : GMach) = some (if st.Ret.length = 24 then (false, ⟨flt st 3, a, d⟩) else (true, ⟨retS st (st.Ret ++ [⟨2, IntKind.wrap .i32 n⟩]), a, d⟩)) := by
  have := h.r
  unfold g_impl_Mach_back
  by_cases h0 : st.Ret.length = 24
  · rw [if_pos h0]
    show cond ((st.Ret.length : Int) == 24) _ _ = _
    rw [show ((st.Ret.length : Int) == 24) = true by rw [h0]; rfl]; rfl
  · rw [if_neg h0]
    show cond ((st.Ret.length : Int) == 24) _ ((app st.Ret [(⟨2, IntKind.wrap .i32 n⟩ : GSlot)]).bind _) = _
    rw [show ((st.Ret.length : Int) == 24) = false by rw [beq_eq_false_iff_ne]; omega, cond_false, app_eq (by simp; omega)]; rfl
def forS (st : GSt) : GSt := if st.Data.length = 0 then flt st 2 else if st.Ret.length = 24 then flt st 3 else ⟨st.Data.dropLast, st.Ret ++ [⟨1, yOf st⟩], st.A, st.Mem, st.Cells, st.Vars, st.Out, st.In, st.Fault, st.Fuel⟩
theorem sub_last {st : GSt} (h : SB st) (hp : 0 < st.Data.length) : subL st.Data 0 (IntKind.wrap .i64 ((st.Data.length : Int) - 1)) = some st.Data.dropLast := by
  have := h.d
  rw [wI64 (by omega) (by omega), show (st.Data.length : Int) - 1 = ((st.Data.length - 1 : Nat) : Int) by omega, subL_take (by omega) (by omega), Int.toNat_natCast, ← List.dropLast_eq_take]
theorem begin_eq {st : GSt} (h : SB st) (a : Int) (d : Bool) : g_impl_St_begin_inGMach_0 (⟨st, a, d⟩ : GMach) = some ⟨forS st, a, d⟩ := by
  have := h.d; have := h.r
  unfold g_impl_St_begin_inGMach_0 forS
  show cond (decide ((IntKind.wrap .i64 ((st.Data.length : Int) - 1)) < 0)) _ (cond ((st.Ret.length : Int) == 24) _ ((getI st.Data (IntKind.wrap .i64 ((st.Data.length : Int) - 1))).bind fun v_3 => (app st.Ret [(⟨1, v_3⟩ : GSlot)]).bind fun v_4 => (subL st.Data 0 (IntKind.wrap .i64 ((st.Data.length : Int) - 1))).bind _)) = _
  by_cases h0 : st.Data.length = 0
  · rw [if_pos h0, h0]; rfl
  · rw [if_neg h0, sub_last h (by omega), get_y h (by omega), wI64 (by omega) (by omega), decide_eq_false (by omega), cond_false]
    by_cases h1 : st.Ret.length = 24
    · rw [if_pos h1, show ((st.Ret.length : Int) == 24) = true by rw [h1]; rfl]; rfl
    · rw [if_neg h1, show ((st.Ret.length : Int) == 24) = false by rw [beq_eq_false_iff_ne]; omega, cond_false, Option.bind_some, app_eq (by simp; omega)]; rfl
theorem for_eq {st : GSt} (h : SB st) (hf : st.Fault = 0) (m : GMach) : ∃ b, g_spec_l12For m st = some (goM m (forS st) b) ∧ ((forS st).Fault = 0 → b = IntKind.wrap .i64 (m.At + 1)) := by
  have := h.d; have := h.r
  unfold g_spec_l12For forS
  by_cases h0 : st.Data.length = 0
  · rw [if_pos h0, h0, spec_flt h]
    exact ⟨0, by show ((some (flt st 2)).bind fun y_4 => (g_spec_l12To m y_4 0).bind fun y_5 => some y_5) = _; rw [Option.bind_some, to_eq]; rfl, fun e => by cases e⟩
  · rw [if_neg h0, show ((st.Data.length : Int) == 0) = false by rw [beq_eq_false_iff_ne]; omega, cond_false, get_y h (by omega), Option.bind_some, l12put_eq h, Option.bind_some]
    by_cases h1 : st.Ret.length = 24
    · rw [if_pos h1, if_pos h1]
      refine ⟨IntKind.wrap .i64 (m.At + 1), ?_, fun _ => rfl⟩
      show ((some (flt st 3) : Option GSt).bind _) = _
      rw [Option.bind_some, to_eq]; rfl
    · rw [if_neg h1, if_neg h1]
      refine ⟨IntKind.wrap .i64 (m.At + 1), ?_, fun _ => rfl⟩
      show (((cond (st.Fault == 0) ((subL st.Data 0 (IntKind.wrap .i64 ((st.Data.length : Int) - 1))).bind _) _ : Option GSt)).bind _) = _
      rw [hf, show ((0 : Int) == 0) = true from rfl, cond_true, sub_last h (by omega), Option.bind_some, Option.bind_some, to_eq, Option.bind_some]
      simp [retS, hf]
def lastR (st : GSt) : GSlot := if h : 0 < st.Ret.length then st.Ret[st.Ret.length - 1] else ⟨0, 0⟩
theorem get_r {st : GSt} (h : SB st) (hp : 0 < st.Ret.length) : getI st.Ret (IntKind.wrap .i64 ((st.Ret.length : Int) - 1)) = some (lastR st) := by
  have := h.r
  rw [wI64 (by omega) (by omega), show (st.Ret.length : Int) - 1 = ((st.Ret.length - 1 : Nat) : Int) by omega, getI_nat, List.getElem?_eq_getElem (by omega)]
  unfold lastR; rw [dif_pos hp]
theorem sub_r {st : GSt} (h : SB st) (hp : 0 < st.Ret.length) : subL st.Ret 0 (IntKind.wrap .i64 ((st.Ret.length : Int) - 1)) = some st.Ret.dropLast := by
  have := h.r
  rw [wI64 (by omega) (by omega), show (st.Ret.length : Int) - 1 = ((st.Ret.length - 1 : Nat) : Int) by omega, subL_take (by omega) (by omega), Int.toNat_natCast, ← List.dropLast_eq_take]
theorem lastR_mem {st : GSt} (hp : 0 < st.Ret.length) : lastR st ∈ st.Ret := by unfold lastR; rw [dif_pos hp]; exact List.getElem_mem _
def decR (st : GSt) : GSt := retS st (st.Ret.set (st.Ret.length - 1) ⟨(lastR st).Kind, IntKind.wrap .i32 ((lastR st).N - 1)⟩)
def nextS (st : GSt) : Bool × GSt := if st.Ret.length = 0 then (false, flt st 3) else if (lastR st).Kind ≠ 1 then (false, flt st 11) else if IntKind.wrap .i32 ((lastR st).N - 1) > 0 then (true, decR st) else (false, retS st st.Ret.dropLast)
theorem again_eq {st : GSt} (h : SB st) (a : Int) (d : Bool) : g_impl_St_again_inGMach_0 (⟨st, a, d⟩ : GMach) = some ((nextS st).1, ⟨(nextS st).2, a, d⟩) := by
  have := h.r
  unfold g_impl_St_again_inGMach_0 nextS
  show cond (decide ((IntKind.wrap .i64 ((st.Ret.length : Int) - 1)) < 0)) _ ((getI st.Ret (IntKind.wrap .i64 ((st.Ret.length : Int) - 1))).bind fun v_4 => cond (v_4.Kind != 1) _ ((getI st.Ret (IntKind.wrap .i64 ((st.Ret.length : Int) - 1))).bind fun v_5 => cond (decide ((IntKind.wrap .i32 (v_5.N - 1)) > 0)) ((getI st.Ret (IntKind.wrap .i64 ((st.Ret.length : Int) - 1))).bind fun v_6 => some (true, (⟨(⟨st.Data, st.Ret.set (IntKind.wrap .i64 ((st.Ret.length : Int) - 1)).toNat (⟨v_6.Kind, IntKind.wrap .i32 (v_5.N - 1)⟩ : GSlot), st.A, st.Mem, st.Cells, st.Vars, st.Out, st.In, st.Fault, st.Fuel⟩ : GSt), a, d⟩ : GMach))) ((subL st.Ret 0 (IntKind.wrap .i64 ((st.Ret.length : Int) - 1))).bind _))) = _
  by_cases h0 : st.Ret.length = 0
  · rw [if_pos h0, h0]; rfl
  · rw [if_neg h0, get_r h (by omega), sub_r h (by omega), wI64 (by omega) (by omega), decide_eq_false (by omega), cond_false, Option.bind_some]
    by_cases h1 : (lastR st).Kind = 1
    · rw [if_neg (by simp [h1]), show ((lastR st).Kind != 1) = false by simp [h1], cond_false, Option.bind_some]
      by_cases h2 : IntKind.wrap .i32 ((lastR st).N - 1) > 0
      · rw [if_pos h2, decide_eq_true h2, cond_true, Option.bind_some]
        unfold decR
        rw [show ((st.Ret.length : Int) - 1).toNat = st.Ret.length - 1 by omega]; rfl
      · rw [if_neg h2, decide_eq_false h2, cond_false]; rfl
    · rw [if_pos h1, show ((lastR st).Kind != 1) = true by simp [h1]]; rfl
theorem dropLast_set {α : Type} (l : List α) (x : α) : (l.set (l.length - 1) x).dropLast = l.dropLast := by
  rw [List.dropLast_eq_take, List.dropLast_eq_take, List.length_set, List.take_set_of_le (Nat.le_refl _)]
theorem SG.dec {st : GSt} (h : SG st) (hp : 0 < st.Ret.length) : SG (decR st) := by
  refine h.ret (by rw [List.length_set]; exact h.b.r) (fun s hs => ?_) (fun s hs => ?_)
  · rcases List.mem_or_eq_of_mem_set hs with hs | rfl
    · exact h.b.rk s hs
    · show 0 ≤ (lastR st).Kind ∧ (lastR st).Kind ≤ 2
      exact h.b.rk (lastR st) (lastR_mem hp)
  · rcases List.mem_or_eq_of_mem_set hs with hs | rfl
    · exact h.r s hs
    · exact i32w _
theorem next_eq {st : GSt} (h : SG st) (hf : st.Fault = 0) (m : GMach) (to : Int) : ∃ b, g_spec_l12Next m st to = some (goM m (nextS st).2 b) ∧ ((nextS st).2.Fault = 0 → b = if (nextS st).1 = true then to else IntKind.wrap .i64 (m.At + 1)) := by
  have := h.b.r
  unfold g_spec_l12Next nextS
  by_cases h0 : st.Ret.length = 0
  · rw [if_pos h0, h0, spec_flt h.b]
    exact ⟨0, by show ((some (flt st 3)).bind fun y_4 => (g_spec_l12To m y_4 0).bind fun y_5 => some y_5) = _; rw [Option.bind_some, to_eq]; rfl, fun e => by cases e⟩
  · rw [if_neg h0, show ((st.Ret.length : Int) == 0) = false by rw [beq_eq_false_iff_ne]; omega, cond_false, get_r h.b (by omega), Option.bind_some]
    by_cases h1 : (lastR st).Kind = 1
    · rw [if_neg (by simp [h1]), show ((lastR st).Kind != 1) = false by simp [h1], cond_false, copyS h.b, Option.bind_some, get_r h.b (by omega), Option.bind_some, Option.bind_some]
      have hw : IntKind.wrap .i64 ((st.Ret.length : Int) - 1) = ((st.Ret.length - 1 : Nat) : Int) := by rw [wI64 (by omega) (by omega)]; omega
      rw [hw, Int.toNat_natCast, getI_nat, List.getElem?_set_self (by omega), Option.bind_some]
      show ∃ b, cond (decide (IntKind.wrap .i32 ((lastR st).N - 1) > 0)) ((g_spec_l12To m (decR st) to).bind fun y_14 => some y_14) ((g_spec_l12Drop (decR st)).bind fun y_15 => (g_spec_l12To m y_15 (IntKind.wrap .i64 (m.At + 1))).bind fun y_16 => some y_16) = _ ∧ _
      by_cases h2 : IntKind.wrap .i32 ((lastR st).N - 1) > 0
      · rw [if_pos h2, decide_eq_true h2, cond_true, to_eq]
        exact ⟨to, rfl, fun _ => rfl⟩
      · rw [if_neg h2, decide_eq_false h2, cond_false, drop_eq (h.dec (by omega)).b (by show 0 < (st.Ret.set _ _).length; rw [List.length_set]; omega), Option.bind_some, to_eq]
        refine ⟨IntKind.wrap .i64 (m.At + 1), ?_, fun _ => rfl⟩
        show some (goM m (retS (decR st) (st.Ret.set (st.Ret.length - 1) _).dropLast) _) = _
        rw [dropLast_set]; rfl
    · rw [if_pos h1, show ((lastR st).Kind != 1) = true by simp [h1], cond_true, spec_flt h.b]
      exact ⟨0, by show ((some (flt st 11)).bind fun y_4 => (g_spec_l12To m y_4 0).bind fun y_5 => some y_5) = _; rw [Option.bind_some, to_eq]; rfl, fun e => by cases e⟩
def retR (n at_ : Int) (st : GSt) : GSt × Int × Bool := if st.Ret.length = 0 ∨ (lastR st).Kind ≠ 2 then (flt st 11, at_, false) else if (lastR st).N = -1 then (retS st st.Ret.dropLast, at_, true) else if 0 ≤ (lastR st).N ∧ (lastR st).N ≤ n - 1 then (retS st st.Ret.dropLast, (lastR st).N, false) else (flt st 11, at_, false)
theorem leave_eq {st : GSt} (h : SG st) {code : List GIns} (hn : code.length ≤ 1500) (a : Int) : g_impl_Mach_leave_own code (⟨st, a, false⟩ : GMach) = some ((retR code.length a st).2.1, ⟨(retR code.length a st).1, a, (retR code.length a st).2.2⟩) := by
  have := h.b.r
  unfold g_impl_Mach_leave_own retR
  show ((cond (decide ((IntKind.wrap .i64 ((st.Ret.length : Int) - 1)) < 0)) (some true) ((getI st.Ret (IntKind.wrap .i64 ((st.Ret.length : Int) - 1))).bind fun v_6 => some (v_6.Kind != 2)) : Option Bool).bind fun v_5 => cond v_5 _ ((getI st.Ret (IntKind.wrap .i64 ((st.Ret.length : Int) - 1))).bind fun v_7 => (cond ((IntKind.wrap .i64 v_7.N) != (-1)) ((g_impl_within (IntKind.wrap .i64 v_7.N) 0 (IntKind.wrap .i64 ((code.length : Int) - 1))).bind fun y_9 => some (!y_9)) (some false) : Option (Bool)).bind fun v_8 => cond v_8 _ ((subL st.Ret 0 (IntKind.wrap .i64 ((st.Ret.length : Int) - 1))).bind _))) = _
  by_cases h0 : st.Ret.length = 0
  · rw [if_pos (.inl h0), h0]; rfl
  have hN := h.r _ (lastR_mem (st := st) (by omega))
  unfold i32B at hN
  rw [get_r h.b (by omega), sub_r h.b (by omega), wI64 (x := (st.Ret.length : Int) - 1) (by omega) (by omega), decide_eq_false (by omega), cond_false, Option.bind_some, Option.bind_some]
  by_cases h1 : (lastR st).Kind = 2
  · rw [if_neg (by simp [h0, h1]), show ((lastR st).Kind != 2) = false by simp [h1], cond_false, Option.bind_some, wI64 (x := (lastR st).N) (by omega) (by omega), within_eq, wI64 (by omega) (by omega)]
    by_cases h2 : (lastR st).N = -1
    · rw [if_pos h2, h2]; rfl
    · rw [if_neg h2, show ((lastR st).N != -1) = true by simp [h2], cond_true, Option.bind_some, Option.bind_some, show ((lastR st).N == -1) = false by simp [h2]]
      by_cases h3 : 0 ≤ (lastR st).N ∧ (lastR st).N ≤ (code.length : Int) - 1
      · rw [if_pos h3, decide_eq_true h3]; rfl
      · rw [if_neg h3, decide_eq_false h3]; rfl
  · rw [if_pos (.inr h1), show ((lastR st).Kind != 2) = true by simp [h1]]; rfl
theorem retS_eq {st : GSt} (h : SG st) (hf : st.Fault = 0) {n : Int} (hn : 1 ≤ n ∧ n ≤ 1500) (m : GMach) : g_spec_l12Ret m st n = some ⟨(retR n m.At st).1, (if (retR n m.At st).1.Fault = 0 then (retR n m.At st).2.1 else m.At), (retR n m.At st).2.2⟩ := by
  have := h.b.r
  unfold g_spec_l12Ret retR
  by_cases h0 : st.Ret.length = 0
  · rw [if_pos (.inl h0), h0]
    show ((g_spec_l08Fault st 11).bind fun y_7 => (g_spec_l12To m y_7 0).bind fun y_8 => some y_8) = _
    rw [spec_flt h.b, Option.bind_some, to_eq]
    rfl
  have hN := h.r _ (lastR_mem (st := st) (by omega))
  unfold i32B at hN
  rw [show ((st.Ret.length : Int) == 0) = false by rw [beq_eq_false_iff_ne]; omega, cond_false, get_r h.b (by omega), Option.bind_some, Option.bind_some, Option.bind_some]
  by_cases h1 : (lastR st).Kind = 2
  · rw [if_neg (by simp [h0, h1]), show ((lastR st).Kind != 2) = false by simp [h1], cond_false, wI64 (x := (lastR st).N) (by omega) (by omega), specIn_eq, wI64 (by omega) (by omega), drop_eq h.b (by omega), spec_flt h.b]
    by_cases h2 : (lastR st).N = -1
    · rw [if_pos h2, h2, show ((-1 : Int) == -1) = true from rfl, cond_true, Option.bind_some]
      simp only [ite_self]
    · rw [if_neg h2, show ((lastR st).N == -1) = false by simp [h2], cond_false, Option.bind_some]
      by_cases h3 : 0 ≤ (lastR st).N ∧ (lastR st).N ≤ n - 1
      · rw [if_pos h3, decide_eq_true h3, Bool.not_true, cond_false, Option.bind_some, to_eq]; rfl
      · rw [if_neg h3, decide_eq_false h3, Bool.not_false, cond_true, Option.bind_some, to_eq]; rfl
  · rw [if_pos (.inr h1), show ((lastR st).Kind != 2) = true by simp [h1], cond_true, spec_flt h.b, Option.bind_some, to_eq]; rfl
structure MG (code : List GIns) (m : GMach) : Prop where
  s : SG m.St
  a : 0 ≤ m.At ∧ m.At < code.length
  d : m.Done = false
structure Step (code : List GIns) (m m' : GMach) : Prop where
  spec : g_spec_l12Step code m = some m'
  impl : g_impl_Mach_step code m = some m'
  s : SG m'.St
  a : 0 ≤ m'.At ∧ m'.At < code.length
  u : m'.St.Fault ≠ 0 ∨ m'.St.Fuel < m.St.Fuel
  f : ∀ i, getI code m.At = some i → m'.St.Fuel = if i.Op ≠ 9 ∧ m.St.Fuel > 0 then m.St.Fuel - 1 else m.St.Fuel
theorem step_both {code : List GIns} (hc : CG code) {m : GMach} (h : MG code m) (hf : m.St.Fault = 0) : ∃ m', Step code m m' := by
  obtain ⟨hs, ⟨ha0, ha1⟩, hd⟩ := h
  have hn := hc.n
  have hlt : m.At.toNat < code.length := by omega
  have eg : getI code m.At = some code[m.At.toNat] := getI_int ha0 hlt
  have hmem := hc.all _ (List.getElem_mem hlt)
  generalize hi : code[m.At.toNat] = i at eg hmem
  have hnext : i.Op ≠ 9 → m.At + 1 < code.length := fun h9 => by
    rcases Nat.lt_or_ge (m.At.toNat + 1) code.length with g | g
    · omega
    · exfalso
      have hl := hc.last
      rw [List.getLast?_eq_getElem?, show code.length - 1 = m.At.toNat by omega, List.getElem?_eq_getElem hlt, hi] at hl
      exact h9 (Option.some.inj hl)
  by_cases o9 : i.Op = 9
  · refine ⟨goM m (flt m.St 10) 0, ?_, ?_, hs.flt (by omega) (by omega), ?_, .inl (by show (10 : Int) ≠ 0; omega), fun x hx => by
      rw [eg] at hx; cases hx
      rw [if_neg (fun h => h.1 o9)]; rfl⟩
    · unfold g_spec_l12Step
      rw [eg, Option.bind_some, show (i.Op == 9) = true by simp [o9], cond_true, spec_flt hs.b, Option.bind_some, to_eq]; rfl
    · unfold g_impl_Mach_step
      rw [eg, Option.bind_some, show (i.Op == 9) = true by simp [o9], cond_true, hd]; rfl
    · show 0 ≤ (if (10 : Int) = 0 then 0 else m.At) ∧ _
      rw [if_neg (by omega)]; exact ⟨ha0, ha1⟩
  by_cases hu : m.St.Fuel = 0
  · refine ⟨goM m (flt m.St 6) 0, ?_, ?_, hs.flt (by omega) (by omega), ?_, .inl (by show (6 : Int) ≠ 0; omega), fun x hx => by
      rw [if_neg (fun h => absurd h.2 (by omega))]; rfl⟩
    · unfold g_spec_l12Step
      rw [eg, Option.bind_some, show (i.Op == 9) = false by simp [o9], cond_false, show (m.St.Fuel == 0) = true by simp [hu], cond_true, spec_flt hs.b, Option.bind_some, to_eq]; rfl
    · unfold g_impl_Mach_step
      rw [eg, Option.bind_some, show (i.Op == 9) = false by simp [o9], cond_false, show (m.St.Fuel == 0) = true by simp [hu], cond_true, hd]; rfl
    · show 0 ≤ (if (6 : Int) = 0 then 0 else m.At) ∧ _
      rw [if_neg (by omega)]; exact ⟨ha0, ha1⟩
  have hs1 := hs.fuel hu
  have hub := hs.b.u
  have hf1 : (fuelS m.St).Fault = 0 := hf
  have ew : IntKind.wrap .i64 (m.St.Fuel - 1) = m.St.Fuel - 1 := wI64 (by omega) (by omega)
  have ew1 : IntKind.wrap .i64 (m.At + 1) = m.At + 1 := wI64 (by omega) (by omega)
  -- what is left: the state behind the step and the next place
  have close : ∀ (st' : GSt) (next : Int), SG st' → (st'.Fault = 0 → 0 ≤ next ∧ next < code.length) → st'.Fuel = m.St.Fuel - 1 → g_spec_l12Step code m = some (goM m st' next) → g_impl_Mach_step code m = some (goM m st' next) → ∃ m', Step code m m' := fun st' next g1 g2 g3 g4 g5 =>
    ⟨goM m st' next, g4, g5, g1, by
      unfold goM; split
      · rename_i h0; exact g2 h0
      · exact ⟨ha0, ha1⟩, .inr (by show st'.Fuel < m.St.Fuel; omega), fun x hx => by
        rw [eg] at hx; cases hx
        rw [if_pos ⟨o9, by omega⟩]; exact g3⟩
  have specS : ∀ R, ((cond (i.Op == 0) ((g_spec_PushN (fuelS m.St) (IntKind.wrap .i32 i.N)).bind fun y_10 => (g_spec_l12To m y_10 (m.At + 1)).bind fun y_11 => some y_11) (cond (i.Op == 1) ((g_spec_Do (fuelS m.St) i.N).bind fun y_12 => (g_spec_l12To m y_12 (m.At + 1)).bind fun y_13 => some y_13) (cond (i.Op == 2) ((g_spec_l12Put (fuelS m.St) (⟨2, IntKind.wrap .i32 (m.At + 1)⟩ : GSlot)).bind fun y_14 => (g_spec_l12To m y_14 i.N).bind fun y_15 => some y_15) (cond (i.Op == 3) ((g_spec_l12To m (fuelS m.St) i.N).bind fun y_16 => some y_16) (cond (i.Op == 6) ((g_spec_l12For m (fuelS m.St)).bind fun y_17 => some y_17) (cond (i.Op == 7) ((g_spec_l12Next m (fuelS m.St) i.N).bind fun y_18 => some y_18) (cond (i.Op == 8) ((g_spec_l12Ret m (fuelS m.St) (code.length : Int)).bind fun y_19 => some y_19) ((g_spec_l12Test m (fuelS m.St) i).bind fun y_20 => some y_20))))))) : Option GMach)) = R → g_spec_l12Step code m = R := fun R hR => by
    unfold g_spec_l12Step
    rw [eg, Option.bind_some, show (i.Op == 9) = false by simp [o9], cond_false, show (m.St.Fuel == 0) = false by simp [hu], cond_false, copyS hs.b, Option.bind_some, ew, ew1]
    exact hR
  have implS : ∀ (st' : GSt) (next : Int), ((cond (i.Op == 0) ((g_impl_St_pushes_inGMach_0 (IntKind.wrap .i32 i.N) (⟨fuelS m.St, m.At, false⟩ : GMach)).bind fun y_7 => some (m.At + 1, y_7)) (cond (i.Op == 1) ((g_impl_does (fuelS m.St) i.N).bind fun y_8 => some (m.At + 1, (⟨y_8, m.At, false⟩ : GMach))) (cond (i.Op == 2) ((g_impl_Mach_back (m.At + 1) (⟨fuelS m.St, m.At, false⟩ : GMach)).bind fun y_9 => cond y_9.1 (some (i.N, y_9.2)) (some (m.At + 1, y_9.2))) (cond (i.Op == 3) (some (i.N, (⟨fuelS m.St, m.At, false⟩ : GMach))) ((cond (i.Op == 4) (some (i.Op == 4)) (some (i.Op == 5)) : Option (Bool)).bind fun v_10 => cond v_10 (cond (decide ((IntKind.wrap .i64 ((m.St.Data.length : Int) - 1)) < 0)) (some (m.At + 1, (⟨flt (fuelS m.St) 2, m.At, false⟩ : GMach))) ((cond (i.Op == 4) ((getI m.St.Data (IntKind.wrap .i64 ((m.St.Data.length : Int) - 1))).bind fun v_12 => cond (v_12 == 0) (some true) (cond (i.Op == 5) ((getI m.St.Data (IntKind.wrap .i64 ((m.St.Data.length : Int) - 1))).bind fun v_13 => some (decide (v_13 ≥ 0))) (some false))) (cond (i.Op == 5) ((getI m.St.Data (IntKind.wrap .i64 ((m.St.Data.length : Int) - 1))).bind fun v_14 => some (decide (v_14 ≥ 0))) (some false)) : Option (Bool)).bind fun v_11 => cond v_11 (some (i.N, (⟨fuelS m.St, m.At, false⟩ : GMach))) (some (m.At + 1, (⟨fuelS m.St, m.At, false⟩ : GMach))))) (cond (i.Op == 6) ((g_impl_St_begin_inGMach_0 (⟨fuelS m.St, m.At, false⟩ : GMach)).bind fun y_15 => some (m.At + 1, y_15)) (cond (i.Op == 7) ((g_impl_St_again_inGMach_0 (⟨fuelS m.St, m.At, false⟩ : GMach)).bind fun y_16 => cond y_16.1 (some (i.N, y_16.2)) (some (m.At + 1, y_16.2))) (cond (i.Op == 8) ((g_impl_Mach_leave_own code (⟨fuelS m.St, m.At, false⟩ : GMach)).bind fun y_17 => some (y_17.1, y_17.2)) (some (m.At + 1, (⟨fuelS m.St, m.At, false⟩ : GMach)))))))))) : Option (Int × GMach))) = some (next, ⟨st', m.At, false⟩) → g_impl_Mach_step code m = some (goM m st' next) := fun st' next hR => by
    unfold g_impl_Mach_step
    rw [eg, Option.bind_some, show (i.Op == 9) = false by simp [o9], cond_false, show (m.St.Fuel == 0) = false by simp [hu], cond_false, ew, ew1, hd]
    refine Eq.trans (congrArg (fun z : Option (Int × GMach) => z.bind fun (next_5, x_6) => cond (x_6.St.Fault == 0) (some (⟨x_6.St, next_5, x_6.Done⟩ : GMach)) (some x_6)) hR) ?_
    exact fin_eq
  have hN : ∀ {α : Type} (x y : Option α), ∀ c : Int, i.Op = c → ∀ e : Int, cond (i.Op == e) x y = if c = e then x else y := fun x y c hc e => by
    rw [hc]; by_cases h : c = e
    · rw [if_pos h, h]; simp
    · rw [if_neg h, show (c == e) = false by simp [h]]; rfl
  have hbN : i.Op = 2 ∨ i.Op = 3 ∨ i.Op = 4 ∨ i.Op = 5 ∨ i.Op = 7 → 0 ≤ i.N ∧ i.N < code.length := fun ho => by
    unfold insB at hmem
    rw [if_neg (by omega), if_neg (by omega), if_pos ho] at hmem
    have := of_decide_eq_true hmem
    omega
  have hat : 0 ≤ m.At + 1 ∧ m.At + 1 < code.length := ⟨by omega, hnext o9⟩
  have hop : i.Op = 0 ∨ i.Op = 1 ∨ i.Op = 2 ∨ i.Op = 3 ∨ (i.Op = 4 ∨ i.Op = 5) ∨ i.Op = 6 ∨ i.Op = 7 ∨ i.Op = 8 := by
    unfold insB at hmem
    by_cases a0 : i.Op = 0
    · exact .inl a0
    rw [if_neg a0] at hmem
    by_cases a1 : i.Op = 1
    · exact .inr (.inl a1)
    rw [if_neg a1] at hmem
    by_cases a2 : i.Op = 2 ∨ i.Op = 3 ∨ i.Op = 4 ∨ i.Op = 5 ∨ i.Op = 7
    · omega
    rw [if_neg a2] at hmem
    by_cases a6 : i.Op = 6 ∨ i.Op = 8 ∨ i.Op = 9
    · omega
    · rw [if_neg a6] at hmem; cases hmem
  rcases hop with o | o | o | o | o | o | o | o
  · -- CLit
    refine close (putS (fuelS m.St) (fuelS m.St) 0 [IntKind.wrap .i32 i.N]) (m.At + 1) (hs1.put hs1 (fun x hx => by rw [List.mem_singleton] at hx; subst hx; exact i32w _)) (fun _ => hat) (putS_fuel rfl _ _) (specS _ ?_) (implS _ _ ?_)
    · rw [show (i.Op == 0) = true by simp [o], cond_true]
      unfold g_spec_PushN
      rw [spec_st ⟨by have := hs1.b.r; omega, by have := hs1.b.v; omega⟩, stB_iff.2 hs1.b, Option.bind_some, Bool.not_true, cond_false, show ((fuelS m.St).Fault != 0) = false by simp [hf1], cond_false, put_0 hs1.b (by simp), Option.bind_some, Option.bind_some, to_eq]; rfl
    · rw [show (i.Op == 0) = true by simp [o], cond_true, pushes_eq hs1.b]; rfl
  · -- CPrim
    have hk : nameB i.N = true := by
      unfold insB at hmem
      rw [if_neg (by omega), if_pos o] at hmem; exact hmem
    unfold nameB at hk
    have hk := of_decide_eq_true hk
    obtain ⟨st', e1, e2, e3, e4⟩ := words hs1 hf1 hk.1 hk.2
    refine close st' (m.At + 1) e3 (fun _ => hat) e4 (specS _ ?_) (implS _ _ ?_)
    · rw [show (i.Op == 0) = false by simp [o], cond_false, show (i.Op == 1) = true by simp [o], cond_true, e1, Option.bind_some, to_eq]; rfl
    · rw [show (i.Op == 0) = false by simp [o], cond_false, show (i.Op == 1) = true by simp [o], cond_true, e2]; rfl
  · -- CCall
    have hb := hbN (.inl o)
    by_cases h24 : (fuelS m.St).Ret.length = 24
    · refine close (flt (fuelS m.St) 3) (m.At + 1) (hs1.flt (by omega) (by omega)) (fun _ => hat) rfl (specS _ ?_) (implS _ _ ?_)
      · rw [show (i.Op == 0) = false by simp [o], cond_false, show (i.Op == 1) = false by simp [o], cond_false, show (i.Op == 2) = true by simp [o], cond_true, l12put_eq hs1.b, if_pos h24, Option.bind_some, to_eq, goM_flt m _ (by omega) i.N (m.At + 1)]; rfl
      · rw [show (i.Op == 0) = false by simp [o], cond_false, show (i.Op == 1) = false by simp [o], cond_false, show (i.Op == 2) = true by simp [o], cond_true, back_eq hs1.b, if_pos h24]; rfl
    · refine close (retS (fuelS m.St) ((fuelS m.St).Ret ++ [⟨2, IntKind.wrap .i32 (m.At + 1)⟩])) i.N (hs1.ret (by have := hs1.b.r; simp; omega) (fun s hs => ?_) (fun s hs => ?_)) (fun _ => hb) rfl (specS _ ?_) (implS _ _ ?_)
      · rcases List.mem_append.1 hs with hs | hs
        · exact hs1.b.rk s hs
        · rw [List.mem_singleton] at hs; subst hs; exact ⟨by show (0 : Int) ≤ 2; omega, by show (2 : Int) ≤ 2; omega⟩
      · rcases List.mem_append.1 hs with hs | hs
        · exact hs1.r s hs
        · rw [List.mem_singleton] at hs; subst hs; exact i32w _
      · rw [show (i.Op == 0) = false by simp [o], cond_false, show (i.Op == 1) = false by simp [o], cond_false, show (i.Op == 2) = true by simp [o], cond_true, l12put_eq hs1.b, if_neg h24, Option.bind_some, to_eq]; rfl
      · rw [show (i.Op == 0) = false by simp [o], cond_false, show (i.Op == 1) = false by simp [o], cond_false, show (i.Op == 2) = true by simp [o], cond_true, back_eq hs1.b, if_neg h24]; rfl
  · -- CJump
    refine close (fuelS m.St) i.N hs1 (fun _ => hbN (.inr (.inl o))) rfl (specS _ ?_) (implS _ _ ?_)
    · rw [show (i.Op == 0) = false by simp [o], cond_false, show (i.Op == 1) = false by simp [o], cond_false, show (i.Op == 2) = false by simp [o], cond_false, show (i.Op == 3) = true by simp [o], cond_true, to_eq]; rfl
    · rw [show (i.Op == 0) = false by simp [o], cond_false, show (i.Op == 1) = false by simp [o], cond_false, show (i.Op == 2) = false by simp [o], cond_false, show (i.Op == 3) = true by simp [o], cond_true]
  · -- CZero, CPos
    have hb := hbN (by omega)
    have e45 : (cond (i.Op == 4) (some (i.Op == 4)) (some (i.Op == 5)) : Option Bool) = some true := by rcases o with o | o <;> rw [o] <;> rfl
    have hdl := hs.b.d
    have sp : ∀ R, g_spec_l12Test m (fuelS m.St) i = some R → g_spec_l12Step code m = some R := fun R hR => specS _ (by
      rw [show (i.Op == 0) = false by rw [beq_eq_false_iff_ne]; omega, cond_false, show (i.Op == 1) = false by rw [beq_eq_false_iff_ne]; omega, cond_false, show (i.Op == 2) = false by rw [beq_eq_false_iff_ne]; omega, cond_false, show (i.Op == 3) = false by rw [beq_eq_false_iff_ne]; omega, cond_false,
        show (i.Op == 6) = false by rw [beq_eq_false_iff_ne]; omega, cond_false, show (i.Op == 7) = false by rw [beq_eq_false_iff_ne]; omega, cond_false, show (i.Op == 8) = false by rw [beq_eq_false_iff_ne]; omega, cond_false, hR]; rfl)
    by_cases h0 : m.St.Data.length = 0
    · refine close (flt (fuelS m.St) 2) (m.At + 1) (hs1.flt (by omega) (by omega)) (fun _ => hat) rfl (sp _ ?_) (implS _ _ ?_)
      · unfold g_spec_l12Test
        rw [show (fuelS m.St).Data = m.St.Data from rfl, h0, spec_flt hs1.b]
        show ((some (flt (fuelS m.St) 2)).bind fun y_5 => (g_spec_l12To m y_5 0).bind fun y_6 => some y_6) = _
        rw [Option.bind_some, to_eq, goM_flt m _ (by omega) 0 (m.At + 1)]; rfl
      · rw [show (i.Op == 0) = false by rw [beq_eq_false_iff_ne]; omega, cond_false, show (i.Op == 1) = false by rw [beq_eq_false_iff_ne]; omega, cond_false, show (i.Op == 2) = false by rw [beq_eq_false_iff_ne]; omega, cond_false, show (i.Op == 3) = false by rw [beq_eq_false_iff_ne]; omega, cond_false, e45, Option.bind_some, cond_true, h0]; rfl
    · have hy := get_y hs.b (by omega)
      have hw : IntKind.wrap .i64 ((m.St.Data.length : Int) - 1) = (m.St.Data.length : Int) - 1 := wI64 (by omega) (by omega)
      obtain ⟨c, c1⟩ : ∃ c : Bool, (cond (i.Op == 4) (cond (yOf m.St == 0) (some true) (cond (i.Op == 5) (some (decide (yOf m.St ≥ 0))) (some false))) (cond (i.Op == 5) (some (decide (yOf m.St ≥ 0))) (some false)) : Option Bool) = some c := by
        cases i.Op == 4
        · cases i.Op == 5 <;> exact ⟨_, rfl⟩
        · cases yOf m.St == 0
          · cases i.Op == 5 <;> exact ⟨_, rfl⟩
          · exact ⟨_, rfl⟩
      have c2 : (cond (i.Op == 4) ((some (yOf m.St) : Option Int).bind fun v_12 => cond (v_12 == 0) (some true) (cond (i.Op == 5) ((some (yOf m.St) : Option Int).bind fun v_13 => some (decide (v_13 ≥ 0))) (some false))) (cond (i.Op == 5) ((some (yOf m.St) : Option Int).bind fun v_14 => some (decide (v_14 ≥ 0))) (some false)) : Option Bool) = some c := c1
      refine close (fuelS m.St) (cond c i.N (m.At + 1)) hs1 (fun _ => by
        cases c
        · exact hat
        · exact hb) rfl (sp _ ?_) (implS _ _ ?_)
      · unfold g_spec_l12Test
        rw [show (fuelS m.St).Data = m.St.Data from rfl, show ((m.St.Data.length : Int) == 0) = false by rw [beq_eq_false_iff_ne]; omega, cond_false, hy, Option.bind_some, c1, Option.bind_some, to_eq, to_eq, ew1]
        cases c <;> rfl
      · rw [show (i.Op == 0) = false by rw [beq_eq_false_iff_ne]; omega, cond_false, show (i.Op == 1) = false by rw [beq_eq_false_iff_ne]; omega, cond_false, show (i.Op == 2) = false by rw [beq_eq_false_iff_ne]; omega, cond_false, show (i.Op == 3) = false by rw [beq_eq_false_iff_ne]; omega, cond_false, e45, Option.bind_some, cond_true, hy, hw, decide_eq_false (by omega), cond_false, c2, Option.bind_some]
        cases c <;> rfl
  · -- CFor
    obtain ⟨b, e1, e2⟩ := for_eq hs1.b hf1 m
    have hg : SG (forS (fuelS m.St)) := by
      unfold forS
      split
      · exact hs1.flt (by omega) (by omega)
      · rename_i h0
        split
        · exact hs1.flt (by omega) (by omega)
        · rename_i h24
          have hr := hs1.b.r
          have hdd := hs1.b.d
          refine ⟨⟨by rw [List.length_dropLast]; omega, by simp; omega, hs1.b.m, hs1.b.v, hs1.b.o, hs1.b.i, fun s hs => ?_, hs1.b.vb, hs1.b.c, hs1.b.cl, hs1.b.f, hs1.b.u⟩, fun x hx => hs1.d x (List.dropLast_subset _ hx), hs1.m, hs1.a, fun s hs => ?_⟩
          · rcases List.mem_append.1 hs with hs | hs
            · exact hs1.b.rk s hs
            · rw [List.mem_singleton] at hs; subst hs; exact ⟨by show (0 : Int) ≤ 1; omega, by show (1 : Int) ≤ 2; omega⟩
          · rcases List.mem_append.1 hs with hs | hs
            · exact hs1.r s hs
            · rw [List.mem_singleton] at hs; subst hs; exact hs1.y
    have hfu : (forS (fuelS m.St)).Fuel = m.St.Fuel - 1 := by
      unfold forS
      repeat' split
      all_goals rfl
    have hgo : goM m (forS (fuelS m.St)) b = goM m (forS (fuelS m.St)) (m.At + 1) := by
      unfold goM
      split
      · rename_i h0; rw [e2 h0, ew1]
      · rfl
    refine close (forS (fuelS m.St)) (m.At + 1) hg (fun _ => hat) hfu (specS _ ?_) (implS _ _ ?_)
    · rw [show (i.Op == 0) = false by simp [o], cond_false, show (i.Op == 1) = false by simp [o], cond_false, show (i.Op == 2) = false by simp [o], cond_false, show (i.Op == 3) = false by simp [o], cond_false, show (i.Op == 6) = true by simp [o], cond_true, e1, hgo]; rfl
    · rw [show (i.Op == 0) = false by simp [o], cond_false, show (i.Op == 1) = false by simp [o], cond_false, show (i.Op == 2) = false by simp [o], cond_false, show (i.Op == 3) = false by simp [o], cond_false, show (i.Op == 4) = false by simp [o], cond_false, show (i.Op == 5) = false by simp [o], Option.bind_some, cond_false, show (i.Op == 6) = true by simp [o], cond_true, begin_eq hs1.b]; rfl
  · -- CNext
    obtain ⟨b, e1, e2⟩ := next_eq hs1 hf1 m i.N
    have hg : SG (nextS (fuelS m.St)).2 := by
      unfold nextS
      split
      · exact hs1.flt (by omega) (by omega)
      · rename_i h0
        split
        · exact hs1.flt (by omega) (by omega)
        · split
          · exact hs1.dec (by omega)
          · exact hs1.ret (by rw [List.length_dropLast]; have := hs1.b.r; omega) (fun s hs => hs1.b.rk s (List.dropLast_subset _ hs)) (fun s hs => hs1.r s (List.dropLast_subset _ hs))
    have hfu : (nextS (fuelS m.St)).2.Fuel = m.St.Fuel - 1 := by
      unfold nextS
      repeat' split
      all_goals rfl
    have hgo : goM m (nextS (fuelS m.St)).2 b = goM m (nextS (fuelS m.St)).2 (cond (nextS (fuelS m.St)).1 i.N (m.At + 1)) := by
      unfold goM
      split
      · rename_i h0; rw [e2 h0, ew1]; cases (nextS (fuelS m.St)).1 <;> rfl
      · rfl
    refine close (nextS (fuelS m.St)).2 (cond (nextS (fuelS m.St)).1 i.N (m.At + 1)) hg (fun _ => by
      cases (nextS (fuelS m.St)).1
      · exact hat
      · exact hbN (by omega)) hfu (specS _ ?_) (implS _ _ ?_)
    · rw [show (i.Op == 0) = false by simp [o], cond_false, show (i.Op == 1) = false by simp [o], cond_false, show (i.Op == 2) = false by simp [o], cond_false, show (i.Op == 3) = false by simp [o], cond_false, show (i.Op == 6) = false by simp [o], cond_false, show (i.Op == 7) = true by simp [o], cond_true, e1, hgo]; rfl
    · rw [show (i.Op == 0) = false by simp [o], cond_false, show (i.Op == 1) = false by simp [o], cond_false, show (i.Op == 2) = false by simp [o], cond_false, show (i.Op == 3) = false by simp [o], cond_false, show (i.Op == 4) = false by simp [o], cond_false, show (i.Op == 5) = false by simp [o], Option.bind_some, cond_false, show (i.Op == 6) = false by simp [o], cond_false, show (i.Op == 7) = true by simp [o], cond_true, again_eq hs1.b]
      cases hx : (nextS (fuelS m.St)).1 <;> (rw [Option.bind_some]; simp only [hx]; rfl)
  · -- CRet
    have e1 := retS_eq hs1 hf1 (n := code.length) (by omega) m
    have e2 := leave_eq hs1 hn.2 m.At
    have hg : SG (retR code.length m.At (fuelS m.St)).1 := by
      have hdr : SG (retS (fuelS m.St) (fuelS m.St).Ret.dropLast) := hs1.ret (by rw [List.length_dropLast]; have := hs1.b.r; omega) (fun s hs => hs1.b.rk s (List.dropLast_subset _ hs)) (fun s hs => hs1.r s (List.dropLast_subset _ hs))
      unfold retR
      split
      · exact hs1.flt (by omega) (by omega)
      · split
        · exact hdr
        · split
          · exact hdr
          · exact hs1.flt (by omega) (by omega)
    have hfu : (retR code.length m.At (fuelS m.St)).1.Fuel = m.St.Fuel - 1 := by
      unfold retR
      repeat' split
      all_goals rfl
    have hnx : 0 ≤ (retR code.length m.At (fuelS m.St)).2.1 ∧ (retR code.length m.At (fuelS m.St)).2.1 < code.length := by
      unfold retR
      split
      · exact ⟨ha0, ha1⟩
      · split
        · exact ⟨ha0, ha1⟩
        · split
          · rename_i h3; exact ⟨h3.1, by show (lastR (fuelS m.St)).N < _; omega⟩
          · exact ⟨ha0, ha1⟩
    refine ⟨⟨(retR code.length m.At (fuelS m.St)).1, (if (retR code.length m.At (fuelS m.St)).1.Fault = 0 then (retR code.length m.At (fuelS m.St)).2.1 else m.At), (retR code.length m.At (fuelS m.St)).2.2⟩, specS _ ?_, ?_, hg, ?_, .inr (by show (retR code.length m.At (fuelS m.St)).1.Fuel < _; omega), fun x hx => by
      rw [eg] at hx; cases hx
      exact hfu.trans (if_pos ⟨o9, by omega⟩).symm⟩
    · rw [show (i.Op == 0) = false by simp [o], cond_false, show (i.Op == 1) = false by simp [o], cond_false, show (i.Op == 2) = false by simp [o], cond_false, show (i.Op == 3) = false by simp [o], cond_false, show (i.Op == 6) = false by simp [o], cond_false, show (i.Op == 7) = false by simp [o], cond_false, show (i.Op == 8) = true by simp [o], cond_true, e1]; rfl
    · unfold g_impl_Mach_step
      rw [eg, Option.bind_some, show (i.Op == 9) = false by simp [o9], cond_false, show (m.St.Fuel == 0) = false by simp [hu], cond_false, ew, ew1, hd, show (i.Op == 0) = false by simp [o], cond_false, show (i.Op == 1) = false by simp [o], cond_false, show (i.Op == 2) = false by simp [o], cond_false, show (i.Op == 3) = false by simp [o], cond_false, show (i.Op == 4) = false by simp [o], cond_false, show (i.Op == 5) = false by simp [o], Option.bind_some, cond_false, show (i.Op == 6) = false by simp [o], cond_false, show (i.Op == 7) = false by simp [o], cond_false, show (i.Op == 8) = true by simp [o], cond_true]
      refine Eq.trans (congrArg (fun z : Option (Int × GMach) => (z.bind fun y_17 => some (y_17.1, y_17.2)).bind fun (next_5, x_6) => cond (x_6.St.Fault == 0) (some (⟨x_6.St, next_5, x_6.Done⟩ : GMach)) (some x_6)) e2) ?_
      show cond ((retR code.length m.At (fuelS m.St)).1.Fault == 0) _ _ = _
      by_cases h0 : (retR code.length m.At (fuelS m.St)).1.Fault = 0
      · rw [show ((retR code.length m.At (fuelS m.St)).1.Fault == 0) = true by simp [h0], if_pos h0]; rfl
      · rw [show ((retR code.length m.At (fuelS m.St)).1.Fault == 0) = false by simp [h0], if_neg h0]; rfl
    · show 0 ≤ (if (retR code.length m.At (fuelS m.St)).1.Fault = 0 then _ else _) ∧ (if (retR code.length m.At (fuelS m.St)).1.Fault = 0 then _ else _) < _
      split
      · exact hnx
      · exact ⟨ha0, ha1⟩
end Go.Proofs.YtofjeimkphojaaaGreatDoor
namespace Go.Proofs.YtofjeimkphojaaaGreatDoor
open Go Go.Fm
theorem wfI32 {n : Int} (h : (Lit.int .i32 n).wf = true) : -2147483648 ≤ n ∧ n ≤ 2147483647 := by
  unfold Lit.wf at h
  simp [IntKind.min, IntKind.max, IntKind.signed, IntKind.bits] at h
  exact h
theorem wfI64 {n : Int} (h : (Lit.int .i64 n).wf = true) : i64B n := by
  unfold Lit.wf at h
  simp [IntKind.min, IntKind.max, IntKind.signed, IntKind.bits] at h
  exact h
theorem st_num (x : GSt) (g0 : (fun x : GSt => (fun xs : List Int => xs.length ≤ maxLen ∧ ∀ x ∈ xs, (fun n : Int => (Lit.int .i32 n).wf = true) x) x.Data ∧ (fun xs : List GSlot => xs.length ≤ maxLen ∧ ∀ x ∈ xs, (fun x : GSlot => (fun n : Int => (Lit.int .i64 n).wf = true) x.Kind ∧ (fun n : Int => (Lit.int .i32 n).wf = true) x.N) x) x.Ret ∧ (fun n : Int => (Lit.int .i32 n).wf = true) x.A ∧ (fun xs : List Int => xs.length ≤ maxLen ∧ ∀ x ∈ xs, (fun n : Int => (Lit.int .i32 n).wf = true) x) x.Mem ∧ (fun xs : List Int => xs.length ≤ maxLen ∧ ∀ x ∈ xs, (fun n : Int => (Lit.int .u32 n).wf = true) x) x.Cells ∧ (fun xs : List Int => xs.length ≤ maxLen ∧ ∀ x ∈ xs, (fun n : Int => (Lit.int .i64 n).wf = true) x) x.Vars ∧ (fun xs : List Int => xs.length ≤ maxLen ∧ ∀ x ∈ xs, (fun n : Int => (Lit.int .u8 n).wf = true) x) x.Out ∧ (fun xs : List Int => xs.length ≤ maxLen ∧ ∀ x ∈ xs, (fun n : Int => (Lit.int .u8 n).wf = true) x) x.In ∧ (fun n : Int => (Lit.int .i64 n).wf = true) x.Fault ∧ (fun n : Int => (Lit.int .i64 n).wf = true) x.Fuel) x) : StW x ∧ StNum x := by
  obtain ⟨⟨d1, d2⟩, ⟨r1, r2⟩, a, ⟨m1, m2⟩, ⟨c1, c2⟩, ⟨v1, v2⟩, ⟨o1, o2⟩, ⟨i1, i2⟩, f, u⟩ := g0
  have hm : maxLen ≤ LN := by decide
  refine ⟨⟨Nat.le_trans d1 hm, Nat.le_trans r1 hm, Nat.le_trans m1 hm, Nat.le_trans c1 hm, Nat.le_trans v1 hm, Nat.le_trans o1 hm, Nat.le_trans i1 hm⟩, fun y hy => ?_, fun y hy => ?_, ?_, wfI64 f, wfI64 u⟩
  · have := wfI32 (d2 y hy); unfold i64B; omega
  · have := wfI32 (r2 y hy).2; unfold i64B; omega
  · have := wfI32 a; unfold i64B; omega
end Go.Proofs.YtofjeimkphojaaaGreatDoor
namespace Go.Proofs.YtofjeimkphojaaaGreatDoor
open Go Go.Fm
set_option maxRecDepth 100000
theorem goes_eq {m : GMach} (h : SG m.St) : g_spec_l21Goes m = some (!m.Done && (m.St.Fault == 0)) := by
  unfold g_spec_l21Goes
  rw [h.b.m]
  cases m.Done <;> rfl
theorem over_eq (m : GMach) : g_impl_Mach_over_rd m = some (!(!m.Done && (m.St.Fault == 0))) := by
  unfold g_impl_Mach_over_rd
  cases m.Done <;> simp [bne]
structure StI (st : GSt) : Prop where
  d : ∀ x ∈ st.Data, i32B x
  m : ∀ x ∈ st.Mem, i32B x
  a : i32B st.A
  r : ∀ s ∈ st.Ret, i32B s.N
theorem SG.of {st : GSt} (h : StI st) (hb : SB st) : SG st := ⟨hb, h.d, h.m, h.a, h.r⟩
theorem markNum {β : Type} (val : Nat → β) (s : Nat) (F : Nat → List β → Int → Int → Option (Int × List β)) (f : Int → Option (Int × List β)) {a : List β} (hf : ∀ k, f k = ((F bigK a k 0).bind fun (k, p) => some (k, p) : Option (Int × List β)).bind fun (k, p) => some (k, p))
    (hs : ∀ (k : Nat) (a : List β) (kk n : Nat), n < a.length → a.length ≤ 1048576 → kk ≤ 2000000000 → F (k + 1) a kk n = F k (a.set n (val kk)) ((kk + s : Nat) : Int) ((n + 1 : Nat) : Int))
    (he : ∀ (k : Nat) (a : List β) (kk n : Nat), a.length ≤ n → F (k + 1) a kk n = some ((kk : Int), a)) (ha : a.length ≤ 1048576) {k : Nat} (hk : k + s * a.length ≤ 2000000000) : f k = some (((k + s * a.length : Nat) : Int), marksN val s k a.length) := by
  have := markL val s 2000000000 F hs he bigK [] a k (by omega) (by simpa using ha) (by unfold bigK; omega)
  rw [List.nil_append, List.length_nil, show ((0 : Nat) : Int) = 0 from rfl] at this
  rw [hf, this]; rfl
theorem markInt32S {a : List Int} (h : a.length ≤ 1048576) {k : Nat} (hk : k ≤ 1000000000) : ∃ p, g_laws_markInt32S a (k : Int) = some (((k + 1 * a.length : Nat) : Int), p) :=
  ⟨_, markNum (fun k => IntKind.wrap .i32 k) 1 g_laws_markInt32S_l0 (g_laws_markInt32S a) (fun _ => rfl) (fun f a kk n hn hl hk => by
    rw [g_laws_markInt32S_l0, decide_eq_true (by omega), cond_true, getI_nat, List.getElem?_eq_getElem hn, Option.bind_some, wI64 (x := (kk : Int) + 1) (by omega) (by omega), wI64 (x := (n : Int) + 1) (by omega) (by omega)]; rfl) (fun f a kk n hn => by rw [g_laws_markInt32S_l0, decide_eq_false (by omega), cond_false]) h (by omega)⟩
theorem markUint32S {a : List Int} (h : a.length ≤ 1048576) {k : Nat} (hk : k ≤ 1000000000) : ∃ p, g_laws_markUint32S a (k : Int) = some (((k + 1 * a.length : Nat) : Int), p) :=
  ⟨_, markNum (fun k => IntKind.wrap .u32 k) 1 g_laws_markUint32S_l0 (g_laws_markUint32S a) (fun _ => rfl) (fun f a kk n hn hl hk => by
    rw [g_laws_markUint32S_l0, decide_eq_true (by omega), cond_true, getI_nat, List.getElem?_eq_getElem hn, Option.bind_some, wI64 (x := (kk : Int) + 1) (by omega) (by omega), wI64 (x := (n : Int) + 1) (by omega) (by omega)]; rfl) (fun f a kk n hn => by rw [g_laws_markUint32S_l0, decide_eq_false (by omega), cond_false]) h (by omega)⟩
theorem markByteS {a : List Int} (h : a.length ≤ 1048576) {k : Nat} (hk : k ≤ 1000000000) : ∃ p, g_laws_markByteS a (k : Int) = some (((k + 1 * a.length : Nat) : Int), p) :=
  ⟨_, markNum (fun k => IntKind.wrap .u8 k) 1 g_laws_markByteS_l0 (g_laws_markByteS a) (fun _ => rfl) (fun f a kk n hn hl hk => by
    rw [g_laws_markByteS_l0, decide_eq_true (by omega), cond_true, getI_nat, List.getElem?_eq_getElem hn, Option.bind_some, wI64 (x := (kk : Int) + 1) (by omega) (by omega), wI64 (x := (n : Int) + 1) (by omega) (by omega)]; rfl) (fun f a kk n hn => by rw [g_laws_markByteS_l0, decide_eq_false (by omega), cond_false]) h (by omega)⟩
def intM (k : Nat) : Int := k
theorem markIntS {a : List Int} (h : a.length ≤ 1048576) {k : Nat} (hk : k ≤ 1000000000) : g_laws_markIntS a (k : Int) = some (((k + 1 * a.length : Nat) : Int), marksN intM 1 k a.length) :=
  markNum intM 1 g_laws_markIntS_l0 (g_laws_markIntS a) (fun _ => rfl) (fun f a kk n hn hl hk => by
    rw [g_laws_markIntS_l0, decide_eq_true (by omega), cond_true, getI_nat, List.getElem?_eq_getElem hn, Option.bind_some, wI64 (x := (kk : Int) + 1) (by omega) (by omega), wI64 (x := (n : Int) + 1) (by omega) (by omega)]; rfl) (fun f a kk n hn => by rw [g_laws_markIntS_l0, decide_eq_false (by omega), cond_false]) h (by omega)
theorem heldIntS {n k : Nat} (h : n ≤ 1048576) (hk : k ≤ 1000000000) : g_laws_heldIntS (marksN intM 1 k n) (k : Int) = some ((k + 1 * n : Nat) : Int) := by
  have := heldL intM 1 2000000000 (L := marksN intM 1 k n) (g_laws_heldIntS_l0 (marksN intM 1 k n)) (fun f kk i hi hl hk he => by
    rw [g_laws_heldIntS_l0, decide_eq_true (by omega), cond_true, getI_nat, List.getElem?_eq_getElem hi, Option.bind_some, he]
    rw [wI64 (x := (kk : Int) + 1) (by omega) (by omega), wI64 (x := (i : Int) + 1) (by omega) (by omega)]
    show cond ((kk : Int) != kk) _ _ = _
    rw [bne_self_eq_false]
    rfl) (fun f kk i hi => by rw [g_laws_heldIntS_l0, decide_eq_false (by omega), cond_false]) bigK [] k n (by simp) (by rw [marksN_len]; exact h) (by omega) (by unfold bigK; omega)
  unfold g_laws_heldIntS
  rw [List.length_nil, show ((0 : Nat) : Int) = 0 from rfl] at this
  rw [this]; rfl
def slotM (k : Nat) : GSlot := ⟨k, IntKind.wrap .i32 ((k : Int) + 1)⟩
theorem markSlotS {a : List GSlot} (h : a.length ≤ 1048576) {k : Nat} (hk : k ≤ 1000000000) : ∃ p, g_laws_markSlotS a (k : Int) = some (((k + 2 * a.length : Nat) : Int), p) :=
  ⟨_, markNum slotM 2 g_laws_markSlotS_l0 (g_laws_markSlotS a) (fun _ => rfl) (fun f a kk n hn hl hk => by
    rw [g_laws_markSlotS_l0, decide_eq_true (by omega), cond_true, getI_nat, List.getElem?_eq_getElem hn, Option.bind_some, Int.toNat_natCast, getI_nat, List.getElem?_set_self (by simpa using hn), Option.bind_some, wI64 (x := (kk : Int) + 1) (by omega) (by omega), wI64 (x := (kk : Int) + 1 + 1) (by omega) (by omega), wI64 (x := (n : Int) + 1) (by omega) (by omega), List.set_set]; rfl) (fun f a kk n hn => by rw [g_laws_markSlotS_l0, decide_eq_false (by omega), cond_false]) h (by omega)⟩
def insM (k : Nat) : GIns := ⟨k, (k : Int) + 1⟩
theorem markInsS {a : List GIns} (h : a.length ≤ 1048576) {k : Nat} (hk : k ≤ 1000000000) : ∃ p, g_laws_markInsS a (k : Int) = some (((k + 2 * a.length : Nat) : Int), p) :=
  ⟨_, markNum insM 2 g_laws_markInsS_l0 (g_laws_markInsS a) (fun _ => rfl) (fun f a kk n hn hl hk => by
    rw [g_laws_markInsS_l0, decide_eq_true (by omega), cond_true, getI_nat, List.getElem?_eq_getElem hn, Option.bind_some, Int.toNat_natCast, getI_nat, List.getElem?_set_self (by simpa using hn), Option.bind_some, wI64 (x := (kk : Int) + 1) (by omega) (by omega), wI64 (x := (kk : Int) + 1 + 1) (by omega) (by omega), wI64 (x := (n : Int) + 1) (by omega) (by omega), List.set_set]; rfl) (fun f a kk n hn => by rw [g_laws_markInsS_l0, decide_eq_false (by omega), cond_false]) h (by omega)⟩
theorem markSt {a : GSt} (h : StAll a) {k : Nat} (hk : k ≤ 900000000) : ∃ (n : Nat) (p : _), g_laws_markSt a (k : Int) = some ((n : Int), p) ∧ n ≤ k + 8388608 := by
  have := h.d; have := h.r; have := h.m; have := h.c; have := h.v; have := h.o; have := h.i
  obtain ⟨p1, e1⟩ := markInt32S h.d (k := k) (by omega)
  obtain ⟨p2, e2⟩ := markSlotS h.r (k := k + 1 * a.Data.length) (by omega)
  obtain ⟨p3, e3⟩ := markInt32S h.m (k := k + 1 * a.Data.length + 2 * a.Ret.length) (by omega)
  obtain ⟨p4, e4⟩ := markUint32S h.c (k := k + 1 * a.Data.length + 2 * a.Ret.length + 1 * a.Mem.length) (by omega)
  have e5 := markIntS h.v (k := k + 1 * a.Data.length + 2 * a.Ret.length + 1 * a.Mem.length + 1 * a.Cells.length) (by omega)
  obtain ⟨p6, e6⟩ := markByteS h.o (k := k + 1 * a.Data.length + 2 * a.Ret.length + 1 * a.Mem.length + 1 * a.Cells.length + 1 * a.Vars.length) (by omega)
  obtain ⟨p7, e7⟩ := markByteS h.i (k := k + 1 * a.Data.length + 2 * a.Ret.length + 1 * a.Mem.length + 1 * a.Cells.length + 1 * a.Vars.length + 1 * a.Out.length) (by omega)
  unfold g_laws_markSt
  rw [e1, Option.bind_some, e2, Option.bind_some, e3, Option.bind_some, e4, Option.bind_some, e5, Option.bind_some, e6, Option.bind_some, e7, Option.bind_some]
  exact ⟨_, _, rfl, by omega⟩
theorem toInsS {a : List GIns} (h : a.length ≤ 1048576) : g_laws_toInsS a = some a := by
  unfold g_laws_toInsS
  rw [mk_eq (by omega) (by omega), Option.bind_some, copyLoop (g_laws_toInsS_l0 a) (fun _ _ _ => rfl) (by omega) (by simp)]
  rfl
theorem eqInsS {a : List GIns} (h : a.length ≤ 1048576) : g_laws_eqInsS a a = some true :=
  eqRefl (g_laws_eqInsS_l0 a a) _ rfl (fun k n x hx hn => by
    rw [g_laws_eqInsS_l0, decide_eq_true (by omega), cond_true, getI_nat, hx]
    unfold g_laws_eqIns
    simp only [Option.bind_some, bne_self', cond_false, Bool.not_true]
    rw [nxt (by omega)]) (fun k n hn => by rw [g_laws_eqInsS_l0, decide_eq_false (by omega), cond_false]) (by omega)
theorem fitsInsS {a : List GIns} (h : a.length ≤ LN) : Fits (g_laws_szInsS a) a.length True := Fits.one h fun _ => rfl
theorem st_i (x : GSt) (g0 : (fun x : GSt => (fun xs : List Int => xs.length ≤ maxLen ∧ ∀ x ∈ xs, (fun n : Int => (Lit.int .i32 n).wf = true) x) x.Data ∧ (fun xs : List GSlot => xs.length ≤ maxLen ∧ ∀ x ∈ xs, (fun x : GSlot => (fun n : Int => (Lit.int .i64 n).wf = true) x.Kind ∧ (fun n : Int => (Lit.int .i32 n).wf = true) x.N) x) x.Ret ∧ (fun n : Int => (Lit.int .i32 n).wf = true) x.A ∧ (fun xs : List Int => xs.length ≤ maxLen ∧ ∀ x ∈ xs, (fun n : Int => (Lit.int .i32 n).wf = true) x) x.Mem ∧ (fun xs : List Int => xs.length ≤ maxLen ∧ ∀ x ∈ xs, (fun n : Int => (Lit.int .u32 n).wf = true) x) x.Cells ∧ (fun xs : List Int => xs.length ≤ maxLen ∧ ∀ x ∈ xs, (fun n : Int => (Lit.int .i64 n).wf = true) x) x.Vars ∧ (fun xs : List Int => xs.length ≤ maxLen ∧ ∀ x ∈ xs, (fun n : Int => (Lit.int .u8 n).wf = true) x) x.Out ∧ (fun xs : List Int => xs.length ≤ maxLen ∧ ∀ x ∈ xs, (fun n : Int => (Lit.int .u8 n).wf = true) x) x.In ∧ (fun n : Int => (Lit.int .i64 n).wf = true) x.Fault ∧ (fun n : Int => (Lit.int .i64 n).wf = true) x.Fuel) x) : StI x := by
  obtain ⟨⟨d1, d2⟩, ⟨r1, r2⟩, a, ⟨m1, m2⟩, ⟨c1, c2⟩, ⟨v1, v2⟩, ⟨o1, o2⟩, ⟨i1, i2⟩, f, u⟩ := g0
  exact ⟨fun y hy => wfI32 (d2 y hy), fun y hy => wfI32 (m2 y hy), wfI32 a, fun y hy => wfI32 (r2 y hy).2⟩
theorem ins_i (x : List GIns) (g0 : (fun xs : List GIns => xs.length ≤ maxLen ∧ ∀ x ∈ xs, (fun x : GIns => (fun n : Int => (Lit.int .i64 n).wf = true) x.Op ∧ (fun n : Int => (Lit.int .i64 n).wf = true) x.N) x) x) : x.length ≤ LN ∧ ∀ i ∈ x, i64B i.N := by
  obtain ⟨h1, h2⟩ := g0
  have hm : maxLen ≤ LN := by decide
  exact ⟨Nat.le_trans h1 hm, fun i hi => wfI64 (h2 i hi).2⟩
end Go.Proofs.YtofjeimkphojaaaGreatDoor
namespace Go.Proofs.YtofjeimkphojaaaGreatDoor
open Go Go.Fm
set_option maxRecDepth 100000
theorem marks_loop {stops : List Int} {n : Nat} (hn : n ≤ 1048576) (hs : stops.length ≤ 1048576) : ∀ (k i : Nat) (out : List Bool), i ≤ stops.length → stops.length - i < k → out.length = n →
    ∃ M, g_spec_l21Marks_l0 stops n k out i = some M ∧ M.length = n ∧ ∀ a : Nat, a < n → M[a]? = some ((out.getD a false) || (stops.drop i).any fun x => (a : Int) == x) := by
  intro k
  induction k with
  | zero => intro i out h0 h1; omega
  | succ k ih =>
    intro i out h0 h1 ho
    rw [g_spec_l21Marks_l0]
    by_cases hi : i < stops.length
    · rw [decide_eq_true (by omega), cond_true, getI_nat, List.getElem?_eq_getElem hi]
      simp only [Option.bind_some]
      rw [specIn_eq, wI64 (by omega) (by omega), wI64 (by omega) (by omega), Option.bind_some]
      by_cases hx : 0 ≤ stops[i] ∧ stops[i] ≤ (n : Int) - 1
      · rw [decide_eq_true hx, cond_true]
        have hg : getI out stops[i] = some (out[(stops[i]).toNat]'(by omega)) := by
          unfold getI; rw [if_pos hx.1]; exact List.getElem?_eq_getElem (by omega)
        rw [hg, Option.bind_some, Option.bind_some, show (i : Int) + 1 = ((i + 1 : Nat) : Int) by omega]
        obtain ⟨M, e1, e2, e3⟩ := ih (i + 1) (out.set (stops[i]).toNat true) (by omega) (by omega) (by rw [List.length_set]; exact ho)
        refine ⟨M, e1, e2, fun a ha => ?_⟩
        rw [e3 a ha, List.drop_eq_getElem_cons hi, List.any_cons]
        congr 1
        by_cases he : (a : Int) = stops[i]
        · have : a = (stops[i]).toNat := by omega
          rw [show ((a : Int) == stops[i]) = true by simp [he], ← this]
          rw [List.getD_eq_getElem?_getD, List.getElem?_set_self (by omega)]; simp
        · have : (stops[i]).toNat ≠ a := by omega
          rw [show ((a : Int) == stops[i]) = false by simp [he], Bool.false_or, List.getD_eq_getElem?_getD, List.getD_eq_getElem?_getD, List.getElem?_set_ne this]
      · rw [decide_eq_false hx, cond_false, Option.bind_some, show (i : Int) + 1 = ((i + 1 : Nat) : Int) by omega]
        obtain ⟨M, e1, e2, e3⟩ := ih (i + 1) out (by omega) (by omega) ho
        refine ⟨M, e1, e2, fun a ha => ?_⟩
        rw [e3 a ha, List.drop_eq_getElem_cons hi, List.any_cons, show ((a : Int) == stops[i]) = false by rw [beq_eq_false_iff_ne]; omega, Bool.false_or]
    · rw [decide_eq_false (by omega), cond_false]
      refine ⟨out, rfl, ho, fun a ha => ?_⟩
      rw [List.drop_eq_nil_of_le (by omega), List.any_nil, Bool.or_false, List.getD_eq_getElem?_getD, List.getElem?_eq_getElem (by omega)]; rfl
theorem marks_eq {stops : List Int} {n : Nat} (hn : n ≤ 1048576) (hs : stops.length ≤ 1048576) : ∃ M, g_spec_l21Marks stops n = some M ∧ ∀ a : Nat, a < n → M[a]? = some (stops.any fun x => (a : Int) == x) := by
  unfold g_spec_l21Marks
  rw [mk_eq (by omega) (by omega), Option.bind_some, Int.toNat_natCast]
  obtain ⟨M, e1, e2, e3⟩ := marks_loop hn hs bigK 0 (List.replicate n false) (Nat.zero_le _) (by unfold bigK; omega) (by simp)
  rw [Int.natCast_zero] at e1
  rw [e1]
  refine ⟨M, rfl, fun a ha => ?_⟩
  rw [e3 a ha, List.getD_eq_getElem?_getD, List.getElem?_replicate, if_pos ha]; simp
theorem run_loop {code : List GIns} (hc : CG code) {stops : List Int} (hs : stops.length ≤ 1048576) {M : List Bool} (hM : ∀ a : Nat, a < code.length → M[a]? = some (stops.any fun x => (a : Int) == x)) {n : Int} (hn : n ≤ 4000) :
    ∀ (k j : Nat) (m : GMach), SG m.St → 0 ≤ m.At ∧ m.At < code.length → j ≤ 4000 → (j = 0 ∨ (stops.any fun x => m.At == x) = false) → 4002 - j < k →
    ∃ r, g_spec_RunTo_l0 code n M k j m = some r ∧ g_impl_RunTo_l0 code stops n k j m = some r ∧ SG r.2.St := by
  intro k
  induction k with
  | zero => intro j m h _ _ _ h2; omega
  | succ k ih =>
    intro j m h ha hj hst hk
    have mark : ∀ m : GMach, 0 ≤ m.At ∧ m.At < code.length → getI M m.At = some (stops.any fun x => m.At == x) := fun m ha => by
      have := hM m.At.toNat (by omega)
      rw [show ((m.At.toNat : Nat) : Int) = m.At by omega] at this
      unfold getI; rw [if_pos ha.1]; exact this
    cases hg : ((!m.Done && (m.St.Fault == 0)) && decide ((j : Int) < n))
    · refine ⟨(j, m), ?_, ?_, h⟩
      · rw [g_spec_RunTo_l0, goes_eq h]
        revert hg
        cases decide ((j : Int) < n) <;> cases (!m.Done && (m.St.Fault == 0)) <;> intro hg <;> first | rfl | cases hg
      · rw [g_impl_RunTo_l0, over_eq]
        revert hg
        cases decide ((j : Int) < n) <;> cases (!m.Done && (m.St.Fault == 0)) <;> intro hg <;> first | rfl | cases hg
    · rw [Bool.and_eq_true] at hg
      obtain ⟨hg', hlt⟩ := hg
      have hg := hg'
      simp only [Bool.and_eq_true, Bool.not_eq_true', beq_iff_eq] at hg
      obtain ⟨m', hs'⟩ := step_both hc ⟨h, ha, hg.1⟩ hg.2
      have hlt' := of_decide_eq_true hlt
      have hw : IntKind.wrap .i64 ((j : Int) + 1) = ((j + 1 : Nat) : Int) := by rw [wI64 (by omega) (by omega)]; omega
      have e1 : g_spec_RunTo_l0 code n M (k + 1) j m = g_spec_RunTo_l0 code n M k ((j + 1 : Nat) : Int) m' := by
        rw [g_spec_RunTo_l0, goes_eq h, hg', hlt, cond_true, Option.bind_some, cond_true, mark m ha, hs'.spec, hw]
        rcases hst with h0 | h0
        · subst h0; rfl
        · rw [h0]
          cases ((j : Int) == 0) <;> rfl
      have e2 : g_impl_RunTo_l0 code stops n (k + 1) j m = cond (stops.any fun x => m'.At == x) (some (((j + 1 : Nat) : Int), m')) (g_impl_RunTo_l0 code stops n k ((j + 1 : Nat) : Int) m') := by
        rw [g_impl_RunTo_l0, over_eq, hg', hlt, Option.bind_some, Bool.not_true, Bool.not_false, cond_true, Option.bind_some, cond_true, hs'.impl, Option.bind_some, has_l0 hs, Option.bind_some, hw]
      rw [e1, e2]
      cases hm : stops.any fun x => m'.At == x
      · rw [cond_false]
        exact ih (j + 1) m' hs'.s hs'.a (by omega) (.inr hm) (by omega)
      · rw [cond_true]
        refine ⟨_, ?_, rfl, hs'.s⟩
        obtain ⟨k', rfl⟩ : ∃ k', k = k' + 1 := ⟨k - 1, by omega⟩
        rw [g_spec_RunTo_l0, goes_eq hs'.s, mark m' hs'.a, hm, show (((j + 1 : Nat) : Int) == 0) = false by rw [beq_eq_false_iff_ne]; omega]
        cases decide (((j + 1 : Nat) : Int) < n) <;> cases (!m'.Done && (m'.St.Fault == 0)) <;> rfl
theorem ownM {m : GMach} (h : SB m.St) : g_impl_ownMach m = some m := by unfold g_impl_ownMach; rw [ownS h]; rfl
theorem runTo_both {code : List GIns} (hl : code.length ≤ 1048576) (hi : ∀ i ∈ code, i64B i.N) {m : GMach} {stops : List Int} (hs : stops.length ≤ 1048576) (n : Int) (hst : StSz m.St) (hn : StI m.St) :
    ∃ r, g_spec_RunTo code m stops n = some r ∧ g_impl_RunTo code m stops n = some r ∧ StAll r.1.St := by
  unfold g_spec_RunTo g_impl_RunTo g_impl_ticks
  rw [spec_code hl, impl_code hl hi, specIn_eq, within_eq, spec_st hst, impl_st hst, specIn_eq, within_eq, wI64 (by omega) (by omega)]
  cases h1 : codeB code
  · exact ⟨_, rfl, rfl, by constructor <;> simp⟩
  cases h2 : decide (0 ≤ m.At ∧ m.At ≤ (code.length : Int) - 1)
  · exact ⟨_, rfl, rfl, by constructor <;> simp⟩
  cases h3 : StB m.St
  · exact ⟨_, rfl, rfl, by constructor <;> simp⟩
  cases h4 : decide (1 ≤ n ∧ n ≤ 4000)
  · exact ⟨_, rfl, rfl, by constructor <;> simp⟩
  have h2 := of_decide_eq_true h2
  have h4 := of_decide_eq_true h4
  have hg : SG m.St := .of hn (stB_iff.1 h3)
  obtain ⟨M, e1, e2⟩ := marks_eq hl hs
  obtain ⟨r, g1, g2, g3⟩ := run_loop (CG.of h1) hs e2 h4.2 bigK 0 m hg ⟨h2.1, by omega⟩ (by omega) (.inl rfl) (by unfold bigK; omega)
  rw [Int.natCast_zero] at g1 g2
  simp only [Option.bind_some, Bool.not_true, cond_false, cond_true]
  rw [e1, copyS hg.b, ownM hg.b]
  simp only [Option.bind_some]
  rw [g1, g2]
  simp only [Option.bind_some]
  rw [ownM g3.b]
  refine ⟨_, rfl, rfl, ?_⟩
  have b := g3.b
  have := b.d; have := b.r; have := b.m; have := b.v; have := b.o; have := b.i; have := b.cl
  constructor <;> simp only <;> omega
def i32M (k : Nat) : Int := IntKind.wrap .i32 k
def u32M (k : Nat) : Int := IntKind.wrap .u32 k
def u8M (k : Nat) : Int := IntKind.wrap .u8 k
theorem markInt32SX {a : List Int} (h : a.length ≤ 1048576) {k : Nat} (hk : k ≤ 1000000000) : g_laws_markInt32S a (k : Int) = some (((k + 1 * a.length : Nat) : Int), marksN i32M 1 k a.length) :=
  markNum i32M 1 g_laws_markInt32S_l0 (g_laws_markInt32S a) (fun _ => rfl) (fun f a kk n hn hl hk => by
    rw [g_laws_markInt32S_l0, decide_eq_true (by omega), cond_true, getI_nat, List.getElem?_eq_getElem hn, Option.bind_some, wI64 (x := (kk : Int) + 1) (by omega) (by omega), wI64 (x := (n : Int) + 1) (by omega) (by omega)]; rfl) (fun f a kk n hn => by rw [g_laws_markInt32S_l0, decide_eq_false (by omega), cond_false]) h (by omega)
theorem heldInt32SX {n k : Nat} (h : n ≤ 1048576) (hk : k ≤ 1000000000) : g_laws_heldInt32S (marksN i32M 1 k n) (k : Int) = some ((k + 1 * n : Nat) : Int) := by
  have := heldL i32M 1 2000000000 (L := marksN i32M 1 k n) (g_laws_heldInt32S_l0 (marksN i32M 1 k n)) (fun f kk i hi hl hk he => by
    rw [g_laws_heldInt32S_l0, decide_eq_true (by omega), cond_true, getI_nat, List.getElem?_eq_getElem hi, Option.bind_some, he]
    rw [wI64 (x := (kk : Int) + 1) (by omega) (by omega), wI64 (x := (i : Int) + 1) (by omega) (by omega)]
    show cond (IntKind.wrap .i32 (kk : Int) != IntKind.wrap .i32 (kk : Int)) _ _ = _
    rw [bne_self_eq_false]
    rfl) (fun f kk i hi => by rw [g_laws_heldInt32S_l0, decide_eq_false (by omega), cond_false]) bigK [] k n (by simp) (by rw [marksN_len]; exact h) (by omega) (by unfold bigK; omega)
  unfold g_laws_heldInt32S
  rw [List.length_nil, show ((0 : Nat) : Int) = 0 from rfl] at this
  rw [this]; rfl
theorem markUint32SX {a : List Int} (h : a.length ≤ 1048576) {k : Nat} (hk : k ≤ 1000000000) : g_laws_markUint32S a (k : Int) = some (((k + 1 * a.length : Nat) : Int), marksN u32M 1 k a.length) :=
  markNum u32M 1 g_laws_markUint32S_l0 (g_laws_markUint32S a) (fun _ => rfl) (fun f a kk n hn hl hk => by
    rw [g_laws_markUint32S_l0, decide_eq_true (by omega), cond_true, getI_nat, List.getElem?_eq_getElem hn, Option.bind_some, wI64 (x := (kk : Int) + 1) (by omega) (by omega), wI64 (x := (n : Int) + 1) (by omega) (by omega)]; rfl) (fun f a kk n hn => by rw [g_laws_markUint32S_l0, decide_eq_false (by omega), cond_false]) h (by omega)
theorem heldUint32SX {n k : Nat} (h : n ≤ 1048576) (hk : k ≤ 1000000000) : g_laws_heldUint32S (marksN u32M 1 k n) (k : Int) = some ((k + 1 * n : Nat) : Int) := by
  have := heldL u32M 1 2000000000 (L := marksN u32M 1 k n) (g_laws_heldUint32S_l0 (marksN u32M 1 k n)) (fun f kk i hi hl hk he => by
    rw [g_laws_heldUint32S_l0, decide_eq_true (by omega), cond_true, getI_nat, List.getElem?_eq_getElem hi, Option.bind_some, he]
    rw [wI64 (x := (kk : Int) + 1) (by omega) (by omega), wI64 (x := (i : Int) + 1) (by omega) (by omega)]
    show cond (IntKind.wrap .u32 (kk : Int) != IntKind.wrap .u32 (kk : Int)) _ _ = _
    rw [bne_self_eq_false]
    rfl) (fun f kk i hi => by rw [g_laws_heldUint32S_l0, decide_eq_false (by omega), cond_false]) bigK [] k n (by simp) (by rw [marksN_len]; exact h) (by omega) (by unfold bigK; omega)
  unfold g_laws_heldUint32S
  rw [List.length_nil, show ((0 : Nat) : Int) = 0 from rfl] at this
  rw [this]; rfl
theorem markByteSX {a : List Int} (h : a.length ≤ 1048576) {k : Nat} (hk : k ≤ 1000000000) : g_laws_markByteS a (k : Int) = some (((k + 1 * a.length : Nat) : Int), marksN u8M 1 k a.length) :=
  markNum u8M 1 g_laws_markByteS_l0 (g_laws_markByteS a) (fun _ => rfl) (fun f a kk n hn hl hk => by
    rw [g_laws_markByteS_l0, decide_eq_true (by omega), cond_true, getI_nat, List.getElem?_eq_getElem hn, Option.bind_some, wI64 (x := (kk : Int) + 1) (by omega) (by omega), wI64 (x := (n : Int) + 1) (by omega) (by omega)]; rfl) (fun f a kk n hn => by rw [g_laws_markByteS_l0, decide_eq_false (by omega), cond_false]) h (by omega)
theorem heldByteSX {n k : Nat} (h : n ≤ 1048576) (hk : k ≤ 1000000000) : g_laws_heldByteS (marksN u8M 1 k n) (k : Int) = some ((k + 1 * n : Nat) : Int) := by
  have := heldL u8M 1 2000000000 (L := marksN u8M 1 k n) (g_laws_heldByteS_l0 (marksN u8M 1 k n)) (fun f kk i hi hl hk he => by
    rw [g_laws_heldByteS_l0, decide_eq_true (by omega), cond_true, getI_nat, List.getElem?_eq_getElem hi, Option.bind_some, he]
    rw [wI64 (x := (kk : Int) + 1) (by omega) (by omega), wI64 (x := (i : Int) + 1) (by omega) (by omega)]
    show cond (IntKind.wrap .u8 (kk : Int) != IntKind.wrap .u8 (kk : Int)) _ _ = _
    rw [bne_self_eq_false]
    rfl) (fun f kk i hi => by rw [g_laws_heldByteS_l0, decide_eq_false (by omega), cond_false]) bigK [] k n (by simp) (by rw [marksN_len]; exact h) (by omega) (by unfold bigK; omega)
  unfold g_laws_heldByteS
  rw [List.length_nil, show ((0 : Nat) : Int) = 0 from rfl] at this
  rw [this]; rfl
theorem markSlotSX {a : List GSlot} (h : a.length ≤ 1048576) {k : Nat} (hk : k ≤ 1000000000) : g_laws_markSlotS a (k : Int) = some (((k + 2 * a.length : Nat) : Int), marksN slotM 2 k a.length) :=
  markNum slotM 2 g_laws_markSlotS_l0 (g_laws_markSlotS a) (fun _ => rfl) (fun f a kk n hn hl hk => by
    rw [g_laws_markSlotS_l0, decide_eq_true (by omega), cond_true, getI_nat, List.getElem?_eq_getElem hn, Option.bind_some, Int.toNat_natCast, getI_nat, List.getElem?_set_self (by simpa using hn), Option.bind_some, wI64 (x := (kk : Int) + 1) (by omega) (by omega), wI64 (x := (kk : Int) + 1 + 1) (by omega) (by omega), wI64 (x := (n : Int) + 1) (by omega) (by omega), List.set_set]; rfl) (fun f a kk n hn => by rw [g_laws_markSlotS_l0, decide_eq_false (by omega), cond_false]) h (by omega)
theorem heldSlotSX {n k : Nat} (h : n ≤ 1048576) (hk : k ≤ 1000000000) : g_laws_heldSlotS (marksN slotM 2 k n) (k : Int) = some ((k + 2 * n : Nat) : Int) := by
  have := heldL slotM 2 1100000000 (L := marksN slotM 2 k n) (g_laws_heldSlotS_l0 (marksN slotM 2 k n)) (fun f kk i hi hl hk he => by
    rw [g_laws_heldSlotS_l0, decide_eq_true (by omega), cond_true, getI_nat, List.getElem?_eq_getElem hi, Option.bind_some, Option.bind_some, he, wI64 (x := (kk : Int) + 1) (by omega) (by omega), wI64 (x := (kk : Int) + 1 + 1) (by omega) (by omega), wI64 (x := (i : Int) + 1) (by omega) (by omega)]
    show cond ((kk : Int) != (kk : Int)) _ (cond (IntKind.wrap .i32 ((kk : Int) + 1) != IntKind.wrap .i32 ((kk : Int) + 1)) _ _) = _
    rw [bne_self_eq_false, bne_self_eq_false]
    rfl) (fun f kk i hi => by rw [g_laws_heldSlotS_l0, decide_eq_false (by omega), cond_false]) bigK [] k n (by simp) (by rw [marksN_len]; exact h) (by omega) (by unfold bigK; omega)
  unfold g_laws_heldSlotS
  rw [List.length_nil, show ((0 : Nat) : Int) = 0 from rfl] at this
  rw [this]; rfl
theorem markHeld {a : GSt} (h : StAll a) (x y z : Int) {k : Nat} (hk : k ≤ 900000000) : ∃ (n : Nat) (p : (List Int) × (List GSlot) × (List Int) × (List Int) × (List Int) × (List Int) × (List Int)), g_laws_markSt a (k : Int) = some ((n : Int), p) ∧ g_laws_heldSt ⟨p.1, p.2.1, x, p.2.2.1, p.2.2.2.1, p.2.2.2.2.1, p.2.2.2.2.2.1, p.2.2.2.2.2.2, y, z⟩ (k : Int) = some (n : Int) := by
  have := h.d; have := h.r; have := h.m; have := h.c; have := h.v; have := h.o; have := h.i
  refine ⟨k + 1 * a.Data.length + 2 * a.Ret.length + 1 * a.Mem.length + 1 * a.Cells.length + 1 * a.Vars.length + 1 * a.Out.length + 1 * a.In.length, (marksN i32M 1 (k) a.Data.length, marksN slotM 2 (k + 1 * a.Data.length) a.Ret.length, marksN i32M 1 (k + 1 * a.Data.length + 2 * a.Ret.length) a.Mem.length, marksN u32M 1 (k + 1 * a.Data.length + 2 * a.Ret.length + 1 * a.Mem.length) a.Cells.length, marksN intM 1 (k + 1 * a.Data.length + 2 * a.Ret.length + 1 * a.Mem.length + 1 * a.Cells.length) a.Vars.length, marksN u8M 1 (k + 1 * a.Data.length + 2 * a.Ret.length + 1 * a.Mem.length + 1 * a.Cells.length + 1 * a.Vars.length) a.Out.length, marksN u8M 1 (k + 1 * a.Data.length + 2 * a.Ret.length + 1 * a.Mem.length + 1 * a.Cells.length + 1 * a.Vars.length + 1 * a.Out.length) a.In.length), ?_, ?_⟩
  rotate_left
  · show g_laws_heldSt ⟨marksN i32M 1 (k) a.Data.length, marksN slotM 2 (k + 1 * a.Data.length) a.Ret.length, x, marksN i32M 1 (k + 1 * a.Data.length + 2 * a.Ret.length) a.Mem.length, marksN u32M 1 (k + 1 * a.Data.length + 2 * a.Ret.length + 1 * a.Mem.length) a.Cells.length, marksN intM 1 (k + 1 * a.Data.length + 2 * a.Ret.length + 1 * a.Mem.length + 1 * a.Cells.length) a.Vars.length, marksN u8M 1 (k + 1 * a.Data.length + 2 * a.Ret.length + 1 * a.Mem.length + 1 * a.Cells.length + 1 * a.Vars.length) a.Out.length, marksN u8M 1 (k + 1 * a.Data.length + 2 * a.Ret.length + 1 * a.Mem.length + 1 * a.Cells.length + 1 * a.Vars.length + 1 * a.Out.length) a.In.length, y, z⟩ (k : Int) = _
    unfold g_laws_heldSt
    rw [heldInt32SX h.d (by omega), Option.bind_some, decide_eq_false (by omega), cond_false, heldSlotSX h.r (by omega), Option.bind_some, decide_eq_false (by omega), cond_false, heldInt32SX h.m (by omega), Option.bind_some, decide_eq_false (by omega), cond_false,
      heldUint32SX h.c (by omega), Option.bind_some, decide_eq_false (by omega), cond_false, heldIntS h.v (by omega), Option.bind_some, decide_eq_false (by omega), cond_false, heldByteSX h.o (by omega), Option.bind_some, decide_eq_false (by omega), cond_false, heldByteSX h.i (by omega), Option.bind_some, decide_eq_false (by omega), cond_false]
  · unfold g_laws_markSt
    rw [markInt32SX h.d (by omega), Option.bind_some, markSlotSX h.r (by omega), Option.bind_some, markInt32SX h.m (by omega), Option.bind_some, markUint32SX h.c (by omega), Option.bind_some, markIntS h.v (by omega), Option.bind_some, markByteSX h.o (by omega), Option.bind_some, markByteSX h.i (by omega), Option.bind_some]
theorem eqMach_eq {m : GMach} (h : StAll m.St) : g_laws_eqMach m m = some true := by
  unfold g_laws_eqMach; rw [eqSt_eq h]; simp
theorem toMach_eq {m : GMach} (h : StAll m.St) : g_laws_toMach m = some m := by
  unfold g_laws_toMach; rw [toSt_eq h]; rfl
theorem fitsMach {m : GMach} (hw : StW m.St) : Fits (g_laws_szMach m) 0 (StAll m.St) := (Fits.seq (fitsSt hw) Fits.last fun _ => rfl).weak fun _ h => h.1
theorem fitsTwoG {c : Nat} {Q R : Prop} {f g : Int → Option Int} (hf : Fits f c Q) (hg : Fits g 0 R) (K : Int → Option Bool) (hK : ∀ y, c ≤ 1048576 → Q → R → K y = some true) :
    ((f 1048576).bind fun y_5 => cond (decide (y_5 < 0)) (some true) ((g y_5).bind fun y_6 => cond (decide (y_6 < 0)) (some true) (K y_6))) = some true := by
  obtain ⟨y, hy, hy2⟩ := hf 1048576 (by omega) (by omega)
  rw [hy, Option.bind_some]
  rcases hy2 with hy2 | ⟨h0, h1, hq⟩
  · rw [decide_eq_true hy2]; rfl
  · rw [decide_eq_false (by omega), cond_false]
    obtain ⟨z, hz, hz2⟩ := hg y h0 (by omega)
    rw [hz, Option.bind_some]
    rcases hz2 with hz2 | ⟨g0, _, hA⟩
    · rw [decide_eq_true hz2]; rfl
    · rw [decide_eq_false (by omega), cond_false]
      exact hK z (by omega) hq hA
theorem law_runTo {code : List GIns} {m : GMach} {stops : List Int} (hcl : code.length ≤ LN) (hi : ∀ i ∈ code, i64B i.N) (hw : StW m.St) (hn : StI m.St) (n : Int) : g_laws_FnExactRunTo code m stops n = some true := by
  unfold g_laws_FnExactRunTo
  by_cases hs : stops.length ≤ 1048576
  · rw [decide_eq_false (by omega), cond_false]
    refine fitsTwoG (fitsInsS hcl) (fitsMach hw) _ fun y hl _ hA => ?_
    obtain ⟨r, e1, e2, e3⟩ := runTo_both hl hi (m := m) hs n ⟨hA.r, hA.v⟩ hn
    obtain ⟨p1, m1⟩ := markInsS hl (k := 1) (by omega)
    obtain ⟨n2, p2, m2, m2'⟩ := markSt hA (k := 1 + 2 * code.length) (by omega)
    have m3 := markIntS hs (k := n2) (by omega)
    obtain ⟨n4, p4, m4, m4'⟩ := markHeld e3 r.1.St.A r.1.St.Fault r.1.St.Fuel (k := 1) (by omega)
    rw [show (1 : Int) = ((1 : Nat) : Int) from rfl]
    simp only [toInsS hl, toMach_eq hA, toIntS hs, Option.bind_some, e1, e2, eqIntS hs, eqInsS hl, eqMach_eq hA, eqMach_eq e3, Bool.not_true, cond_false, bne_self_eq_false, m1, g_laws_markMach, m2, m3, m4, g_laws_heldMach, m4']
    rw [decide_eq_false (p := ((n2 + 1 * stops.length : Nat) : Int) < 0) (by omega), cond_false, Option.bind_some, cond_false, decide_eq_false (by omega), cond_false, Option.bind_some, decide_eq_false (by omega), cond_false, bne_self_eq_false, cond_false, Option.bind_some, decide_eq_false (by omega), cond_false, bne_self_eq_false]
    rfl
  · rw [decide_eq_true (by omega)]; rfl
end Go.Proofs.YtofjeimkphojaaaGreatDoor

namespace Go.Proofs.YtofjeimkphojaaaGreatDoor
open Go Go.Fm
set_option maxRecDepth 100000
theorem typed_GIns : Typed [.int .i64, .int .i64] GIns.cs (fun x : GIns => (fun n : Int => (Lit.int .i64 n).wf = true) x.Op ∧ (fun n : Int => (Lit.int .i64 n).wf = true) x.N) := fun row hl h => by
  match row, hl with
  | [c0, c1], _ =>
    obtain ⟨x0, e0, g0⟩ := (typed_int .i64) [c0] rfl (Go.Fm.one_cell (h 0 _ c0 rfl rfl))
    obtain ⟨x1, e1, g1⟩ := (typed_int .i64) [c1] rfl (Go.Fm.one_cell (h 1 _ c1 rfl rfl))
    obtain rfl := (List.cons.inj e0).1
    obtain rfl := (List.cons.inj e1).1
    exact ⟨(⟨x0, x1⟩ : GIns), rfl, ⟨g0, g1⟩⟩
theorem typed_GSlot : Typed [.int .i64, .int .i32] GSlot.cs (fun x : GSlot => (fun n : Int => (Lit.int .i64 n).wf = true) x.Kind ∧ (fun n : Int => (Lit.int .i32 n).wf = true) x.N) := fun row hl h => by
  match row, hl with
  | [c0, c1], _ =>
    obtain ⟨x0, e0, g0⟩ := (typed_int .i64) [c0] rfl (Go.Fm.one_cell (h 0 _ c0 rfl rfl))
    obtain ⟨x1, e1, g1⟩ := (typed_int .i32) [c1] rfl (Go.Fm.one_cell (h 1 _ c1 rfl rfl))
    obtain rfl := (List.cons.inj e0).1
    obtain rfl := (List.cons.inj e1).1
    exact ⟨(⟨x0, x1⟩ : GSlot), rfl, ⟨g0, g1⟩⟩
theorem typed_GMach : Typed [.sl [.int .i32], .sl [.int .i64, .int .i32], .int .i32, .sl [.int .i32], .sl [.int .u32], .sl [.int .i64], .sl [.int .u8], .sl [.int .u8], .int .i64, .int .i64, .int .i64, .bool] GMach.cs (fun x : GMach => (fun x : GSt => (fun xs : List Int => xs.length ≤ maxLen ∧ ∀ x ∈ xs, (fun n : Int => (Lit.int .i32 n).wf = true) x) x.Data ∧ (fun xs : List GSlot => xs.length ≤ maxLen ∧ ∀ x ∈ xs, (fun x : GSlot => (fun n : Int => (Lit.int .i64 n).wf = true) x.Kind ∧ (fun n : Int => (Lit.int .i32 n).wf = true) x.N) x) x.Ret ∧ (fun n : Int => (Lit.int .i32 n).wf = true) x.A ∧ (fun xs : List Int => xs.length ≤ maxLen ∧ ∀ x ∈ xs, (fun n : Int => (Lit.int .i32 n).wf = true) x) x.Mem ∧ (fun xs : List Int => xs.length ≤ maxLen ∧ ∀ x ∈ xs, (fun n : Int => (Lit.int .u32 n).wf = true) x) x.Cells ∧ (fun xs : List Int => xs.length ≤ maxLen ∧ ∀ x ∈ xs, (fun n : Int => (Lit.int .i64 n).wf = true) x) x.Vars ∧ (fun xs : List Int => xs.length ≤ maxLen ∧ ∀ x ∈ xs, (fun n : Int => (Lit.int .u8 n).wf = true) x) x.Out ∧ (fun xs : List Int => xs.length ≤ maxLen ∧ ∀ x ∈ xs, (fun n : Int => (Lit.int .u8 n).wf = true) x) x.In ∧ (fun n : Int => (Lit.int .i64 n).wf = true) x.Fault ∧ (fun n : Int => (Lit.int .i64 n).wf = true) x.Fuel) x.St ∧ (fun n : Int => (Lit.int .i64 n).wf = true) x.At ∧ (fun _ : Bool => True) x.Done) := fun row hl h => by
  match row, hl with
  | [c0, c1, c2, c3, c4, c5, c6, c7, c8, c9, c10, c11], _ =>
    obtain ⟨x0, e0, g0⟩ := (typed_sl (typed_int .i32) rfl (by decide)) [c0] rfl (Go.Fm.one_cell (h 0 _ c0 rfl rfl))
    obtain ⟨x1, e1, g1⟩ := (typed_sl (typed_GSlot) rfl (by decide)) [c1] rfl (Go.Fm.one_cell (h 1 _ c1 rfl rfl))
    obtain ⟨x2, e2, g2⟩ := (typed_int .i32) [c2] rfl (Go.Fm.one_cell (h 2 _ c2 rfl rfl))
    obtain ⟨x3, e3, g3⟩ := (typed_sl (typed_int .i32) rfl (by decide)) [c3] rfl (Go.Fm.one_cell (h 3 _ c3 rfl rfl))
    obtain ⟨x4, e4, g4⟩ := (typed_sl (typed_int .u32) rfl (by decide)) [c4] rfl (Go.Fm.one_cell (h 4 _ c4 rfl rfl))
    obtain ⟨x5, e5, g5⟩ := (typed_sl (typed_int .i64) rfl (by decide)) [c5] rfl (Go.Fm.one_cell (h 5 _ c5 rfl rfl))
    obtain ⟨x6, e6, g6⟩ := (typed_sl (typed_int .u8) rfl (by decide)) [c6] rfl (Go.Fm.one_cell (h 6 _ c6 rfl rfl))
    obtain ⟨x7, e7, g7⟩ := (typed_sl (typed_int .u8) rfl (by decide)) [c7] rfl (Go.Fm.one_cell (h 7 _ c7 rfl rfl))
    obtain ⟨x8, e8, g8⟩ := (typed_int .i64) [c8] rfl (Go.Fm.one_cell (h 8 _ c8 rfl rfl))
    obtain ⟨x9, e9, g9⟩ := (typed_int .i64) [c9] rfl (Go.Fm.one_cell (h 9 _ c9 rfl rfl))
    obtain ⟨x10, e10, g10⟩ := (typed_int .i64) [c10] rfl (Go.Fm.one_cell (h 10 _ c10 rfl rfl))
    obtain ⟨x11, e11, g11⟩ := (typed_bool) [c11] rfl (Go.Fm.one_cell (h 11 _ c11 rfl rfl))
    obtain rfl := (List.cons.inj e0).1
    obtain rfl := (List.cons.inj e1).1
    obtain rfl := (List.cons.inj e2).1
    obtain rfl := (List.cons.inj e3).1
    obtain rfl := (List.cons.inj e4).1
    obtain rfl := (List.cons.inj e5).1
    obtain rfl := (List.cons.inj e6).1
    obtain rfl := (List.cons.inj e7).1
    obtain rfl := (List.cons.inj e8).1
    obtain rfl := (List.cons.inj e9).1
    obtain rfl := (List.cons.inj e10).1
    obtain rfl := (List.cons.inj e11).1
    exact ⟨(⟨(⟨x0, x1, x2, x3, x4, x5, x6, x7, x8, x9⟩ : GSt), x10, x11⟩ : GMach), rfl, ⟨⟨g0, g1, g2, g3, g4, g5, g6, g7, g8, g9⟩, g10, g11⟩⟩
theorem ans_FnExactRunTo (x0 : List GIns) (g0 : (fun xs : List GIns => xs.length ≤ maxLen ∧ ∀ x ∈ xs, (fun x : GIns => (fun n : Int => (Lit.int .i64 n).wf = true) x.Op ∧ (fun n : Int => (Lit.int .i64 n).wf = true) x.N) x) x0) (x1 : GMach) (g1 : (fun x : GMach => (fun x : GSt => (fun xs : List Int => xs.length ≤ maxLen ∧ ∀ x ∈ xs, (fun n : Int => (Lit.int .i32 n).wf = true) x) x.Data ∧ (fun xs : List GSlot => xs.length ≤ maxLen ∧ ∀ x ∈ xs, (fun x : GSlot => (fun n : Int => (Lit.int .i64 n).wf = true) x.Kind ∧ (fun n : Int => (Lit.int .i32 n).wf = true) x.N) x) x.Ret ∧ (fun n : Int => (Lit.int .i32 n).wf = true) x.A ∧ (fun xs : List Int => xs.length ≤ maxLen ∧ ∀ x ∈ xs, (fun n : Int => (Lit.int .i32 n).wf = true) x) x.Mem ∧ (fun xs : List Int => xs.length ≤ maxLen ∧ ∀ x ∈ xs, (fun n : Int => (Lit.int .u32 n).wf = true) x) x.Cells ∧ (fun xs : List Int => xs.length ≤ maxLen ∧ ∀ x ∈ xs, (fun n : Int => (Lit.int .i64 n).wf = true) x) x.Vars ∧ (fun xs : List Int => xs.length ≤ maxLen ∧ ∀ x ∈ xs, (fun n : Int => (Lit.int .u8 n).wf = true) x) x.Out ∧ (fun xs : List Int => xs.length ≤ maxLen ∧ ∀ x ∈ xs, (fun n : Int => (Lit.int .u8 n).wf = true) x) x.In ∧ (fun n : Int => (Lit.int .i64 n).wf = true) x.Fault ∧ (fun n : Int => (Lit.int .i64 n).wf = true) x.Fuel) x.St ∧ (fun n : Int => (Lit.int .i64 n).wf = true) x.At ∧ (fun _ : Bool => True) x.Done) x1) (x2 : List Int) (g2 : (fun xs : List Int => xs.length ≤ maxLen ∧ ∀ x ∈ xs, (fun n : Int => (Lit.int .i64 n).wf = true) x) x2) (x3 : Int) (g3 : (fun n : Int => (Lit.int .i64 n).wf = true) x3) :
    Ans Tryz.prog 4 [.one (.imm 2 x0.length (x0.flatMap GIns.cs)), .agg [.imm 1 x1.St.Data.length (x1.St.Data.flatMap (eI .i32)), .imm 2 x1.St.Ret.length (x1.St.Ret.flatMap GSlot.cs), .int .i32 x1.St.A, .imm 1 x1.St.Mem.length (x1.St.Mem.flatMap (eI .i32)), .imm 1 x1.St.Cells.length (x1.St.Cells.flatMap (eI .u32)), .imm 1 x1.St.Vars.length (x1.St.Vars.flatMap (eI .i64)), .imm 1 x1.St.Out.length (x1.St.Out.flatMap (eI .u8)), .imm 1 x1.St.In.length (x1.St.In.flatMap (eI .u8)), .int .i64 x1.St.Fault, .int .i64 x1.St.Fuel, .int .i64 x1.At, .bool x1.Done], .one (.imm 1 x2.length (x2.flatMap (eI .i64))), .one (.int .i64 x3)] [] fun v _ => v = Go.Fm.one (.bool true) := fun hm => by
  obtain ⟨r, h1, a, b, c, _⟩ := ce_laws_FnExactRunTo (x0, x1, x2, x3) true (good_pure rfl rfl) (law_runTo (ins_i x0 g0).1 (ins_i x0 g0).2 (st_num x1.St g1.1).1 (st_i x1.St g1.1) x3) hm
  exact ⟨r, h1, a, b⟩
end Go.Proofs.YtofjeimkphojaaaGreatDoor
