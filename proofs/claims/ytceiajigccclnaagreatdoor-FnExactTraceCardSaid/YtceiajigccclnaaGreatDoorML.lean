import Derived.Test.YtceiajigccclnaaGreatDoorMK
set_option linter.all false
namespace Go.Proofs.YtceiajigccclnaaGreatDoor
open Go Go.Fm
set_option maxRecDepth 100000
theorem put0 {st : GSt} (h : SB st) {w : Nat} (hw : w ≤ st.Data.length) (hw1 : 0 < w ∨ st.Data.length ≤ 16) : putS st st w [] = dat st (st.Data.take (st.Data.length - w)) := by
  have := h.d
  unfold putS
  rw [if_neg (by simp; omega), List.append_nil]
theorem put0' {st st2 : GSt} (h : SB st) {w : Nat} (hw : w ≤ st.Data.length) : putS st st2 w [] = dat st2 (st.Data.take (st.Data.length - w)) := by
  have := h.d
  unfold putS
  rw [if_neg (by simp; omega), List.append_nil]
theorem put_0 {st : GSt} (h : SB st) {l : List Int} (hl : l.length ≤ 16) : g_spec_l08Put st 0 l = some (putS st st 0 l) := spec_put (w := 0) h (Nat.zero_le _) hl
theorem put_1 {st : GSt} (h : SB st) {l : List Int} (hw : 1 ≤ st.Data.length) (hl : l.length ≤ 16) : g_spec_l08Put st 1 l = some (putS st st 1 l) := spec_put (w := 1) h hw hl
theorem put_2 {st : GSt} (h : SB st) {l : List Int} (hw : 2 ≤ st.Data.length) (hl : l.length ≤ 16) : g_spec_l08Put st 2 l = some (putS st st 2 l) := spec_put (w := 2) h hw hl
theorem notpure {name : List UInt8} {w : Nat} {st : GSt} {x y : Int} {R : Option GSt} (hp : g_spec_l08Pure name x y = some ([], false)) (ho : g_spec_l08Other st name x y = R) :
    ((g_spec_l08Pure name x y).bind fun y_14 => cond y_14.2 ((g_spec_l08Put st (w : Int) y_14.1).bind fun y_15 => some y_15) ((g_spec_l08Other st name x y).bind fun y_16 => some y_16)) = R := by
  rw [hp, Option.bind_some, cond_false, ho]
  cases R <;> rfl
theorem word12 {st : GSt} (h : SG st) (hf : st.Fault = 0) : Both st 12 := by
  have hy := h.y
  have hx := h.x
  unfold i32B at hx hy
  by_cases hz : yOf st = 0
  · refine both_of h hf nm12 rfl wa12 ta12 (by omega) (l := []) (f := 5) (st2 := st) (by simp) (fun _ => ?_) rfl rfl (fun _ e => by cases e) (by omega) (fun hn x y ey ex => notpure rfl ?_)
    · rw [hz]; rfl
    · rw [ey (by omega), hz]
      show ((g_spec_l08Fault st 5).bind _).bind _ = _
      rw [spec_flt h.b]; rfl
  · have e1 : quoI .i64 (IntKind.wrap .i64 (xOf st)) (IntKind.wrap .i64 (yOf st)) = some (IntKind.wrap .i64 (Int.tdiv (xOf st) (yOf st))) := by
      rw [wI64 (by omega) (by omega), wI64 (by omega) (by omega)]; unfold quoI; rw [if_neg hz]
    have e2 : remI .i64 (IntKind.wrap .i64 (xOf st)) (IntKind.wrap .i64 (yOf st)) = some (Int.tmod (xOf st) (yOf st)) := by
      rw [wI64 (by omega) (by omega), wI64 (by omega) (by omega)]; unfold remI; rw [if_neg hz]
    refine both_of h hf nm12 rfl wa12 ta12 (by omega) (l := [IntKind.wrap .i32 (Int.tmod (xOf st) (yOf st)), IntKind.wrap .i32 (IntKind.wrap .i64 (Int.tdiv (xOf st) (yOf st)))]) (f := 0) (st2 := st) (by simp) (fun _ => ?_) rfl rfl (fun _ _ => ⟨h, fun x hx => ?_⟩) (by omega) (fun hn x y ey ex => notpure rfl ?_)
    · show (((cond (yOf st == 0) (some ([], 5)) ((quoI .i64 (IntKind.wrap .i64 (xOf st)) (IntKind.wrap .i64 (yOf st))).bind fun v_6 => (remI .i64 (IntKind.wrap .i64 (xOf st)) (IntKind.wrap .i64 (yOf st))).bind fun v_7 => some ([IntKind.wrap .i32 v_7, IntKind.wrap .i32 v_6], 0)) : Option (List Int × Int)).bind _ : Option (GSt ⊕ (List Int × Int × GSt))).bind _) = _
      rw [show (yOf st == 0) = false by simp [hz], cond_false, e1, e2]; rfl
    · simp only [List.mem_cons, List.not_mem_nil, or_false] at hx
      rcases hx with rfl | rfl <;> exact i32w _
    · rw [ey (by omega), ex (by omega)]
      show ((cond (yOf st == 0) ((g_spec_l08Fault st 5).bind fun y_5 => some y_5) ((quoI .i64 (IntKind.wrap .i64 (xOf st)) (IntKind.wrap .i64 (yOf st))).bind fun v_6 => (remI .i64 (IntKind.wrap .i64 (xOf st)) (IntKind.wrap .i64 (yOf st))).bind fun v_7 => (g_spec_l08Put st 2 [IntKind.wrap .i32 v_7, IntKind.wrap .i32 v_6]).bind fun y_8 => some y_8) : Option GSt).bind _) = _
      rw [show (yOf st == 0) = false by simp [hz], cond_false, e1, Option.bind_some, e2, Option.bind_some, put_2 h.b hn (by simp)]; rfl
theorem word15 {st : GSt} (h : SG st) (hf : st.Fault = 0) : Both st 15 :=
  both_of h hf nm15 rfl wa15 ta15 (by omega) (l := [st.A]) (f := 0) (st2 := st) (by simp) (fun _ => rfl) rfl rfl (fun _ _ => ⟨h, fun x hx => by rw [List.mem_singleton] at hx; subst hx; exact h.a⟩) (by omega) (fun hn x y ey ex => notpure rfl (by
    show (g_spec_l08Put st 0 [st.A]).bind _ = _
    rw [put_0 h.b (by simp)]; rfl))
theorem word16 {st : GSt} (h : SG st) (hf : st.Fault = 0) : Both st 16 :=
  both_of h hf nm16 rfl wa16 ta16 (by omega) (l := []) (f := 0) (st2 := ⟨st.Data, st.Ret, yOf st, st.Mem, st.Cells, st.Vars, st.Out, st.In, st.Fault, st.Fuel⟩) (by simp) (fun _ => rfl) rfl rfl
    (fun _ _ => ⟨⟨⟨h.b.d, h.b.r, h.b.m, h.b.v, h.b.o, h.b.i, h.b.rk, h.b.vb, h.b.c, h.b.cl, h.b.f, h.b.u⟩, h.d, h.m, h.y, h.r⟩, fun x hx => by simp at hx⟩) (by omega) (fun hn x y ey ex => notpure rfl (by
    rw [ey (by omega)]
    show (g_spec_l08Put st 1 ([] : List Int)).bind _ = _
    rw [put_1 h.b hn (by simp), put0 h.b hn (.inl (by omega)), put0' h.b hn]; rfl))
def outS (st : GSt) (o : List Int) : GSt := ⟨st.Data, st.Ret, st.A, st.Mem, st.Cells, st.Vars, o, st.In, st.Fault, st.Fuel⟩
theorem SG.out {st : GSt} (h : SG st) {o : List Int} (ho : o.length ≤ 400) : SG (outS st o) := ⟨⟨h.b.d, h.b.r, h.b.m, h.b.v, ho, h.b.i, h.b.rk, h.b.vb, h.b.c, h.b.cl, h.b.f, h.b.u⟩, h.d, h.m, h.a, h.r⟩
theorem written_eq {st : GSt} (h : SB st) {s : List UInt8} (hs : s.length ≤ 1000) : g_impl_St_written s st = some (if st.Out.length + s.length > 400 then (13, st) else (0, outS st (st.Out ++ bsOf s))) := by
  have := h.o
  unfold g_impl_St_written
  rw [wI64 (by omega) (by omega)]
  by_cases hx : st.Out.length + s.length > 400
  · rw [decide_eq_true (by omega), cond_true, if_pos hx]
  · rw [decide_eq_false (by omega), cond_false, if_neg hx, app_eq (by unfold bsOf; rw [List.length_map]; omega)]; rfl
theorem say_eq {st : GSt} (h : SB st) (hn : 1 ≤ st.Data.length) {b : List Int} (hs : b.length ≤ 1000) : g_spec_l08Say st b = some (if st.Out.length + b.length > 400 then flt st 13 else putS st (outS st (st.Out ++ b)) 1 []) := by
  have := h.o
  unfold g_spec_l08Say
  rw [wI64 (by omega) (by omega), spec_flt h, put_1 h hn (by simp), put0 h hn (.inl (by omega)), put0' h hn]
  by_cases hx : st.Out.length + b.length > 400
  · rw [decide_eq_true (by omega), cond_true, if_pos hx]; rfl
  · rw [decide_eq_false (by omega), cond_false, if_neg hx, Option.bind_some, show (dat st (st.Data.take (st.Data.length - 1))).Out = st.Out from rfl, app_eq (by omega)]; rfl
theorem bsOf_len (s : List UInt8) : (bsOf s).length = s.length := by unfold bsOf; simp
theorem word_out {st : GSt} (h : SG st) (hf : st.Fault = 0) {k : Int} {name : List UInt8} {s : List UInt8} (hk : g_spec_PrimName k = some name) (hne : (name == []) = false) (hw : g_impl_wants k = some ((1 : Nat) : Int)) (ht : g_spec_l08Takes name = some ((1 : Nat) : Int)) (hs : s.length ≤ 1000)
    (hi : g_impl_St_effect name (xOf st) (yOf st) st = (g_impl_St_written s st).bind fun r => some ([], r.1, r.2)) (hp : ∀ x y, g_spec_l08Pure name x y = some ([], false)) (ho : ∀ x, g_spec_l08Other st name x (yOf st) = g_spec_l08Say st (bsOf s)) : Both st k := by
  rw [written_eq h.b hs] at hi
  by_cases hx : st.Out.length + s.length > 400
  · rw [if_pos hx] at hi
    exact both_of h hf hk hne hw ht (by omega) (l := []) (f := 13) (st2 := st) (by simp) (fun _ => hi) rfl rfl (fun _ e => by cases e) (by omega) (fun hn x y ey ex => notpure (hp _ _) (by
      rw [ey (by omega), ho, say_eq h.b hn (by rw [bsOf_len]; exact hs), if_pos (by rw [bsOf_len]; exact hx)]; rfl))
  · rw [if_neg hx] at hi
    exact both_of h hf hk hne hw ht (by omega) (l := []) (f := 0) (st2 := outS st (st.Out ++ bsOf s)) (by simp) (fun _ => hi) rfl rfl (fun _ _ => ⟨h.out (by rw [List.length_append, bsOf_len]; omega), fun x hx => by simp at hx⟩) (by omega) (fun hn x y ey ex => notpure (hp _ _) (by
      rw [ey (by omega), ho, say_eq h.b hn (by rw [bsOf_len]; exact hs), if_neg (by rw [bsOf_len]; exact hx)]; rfl))
theorem u8_and {y : Int} (h : i32B y) : IntKind.wrap .u8 (andI .i32 y 255) = y % 256 := by
  have e : (bytesB .i32 y &&& bytesB .i32 255).toNat = (y % 256).toNat := by
    show (BitVec.ofInt 32 y &&& BitVec.ofInt 32 255).toNat = _
    rw [BitVec.toNat_and, bv_ofInt, show (BitVec.ofInt 32 255).toNat = 2 ^ 8 - 1 from rfl, Nat.and_two_pow_sub_one_eq_mod]
    omega
  unfold andI
  rw [e, wI32 (by omega) (by omega)]
  unfold IntKind.wrap
  simp [IntKind.signed, IntKind.bits]
  omega
theorem u8_w (y : Int) : IntKind.wrap .u8 y = y % 256 := by
  unfold IntKind.wrap
  simp [IntKind.signed, IntKind.bits]
theorem bs_one {n : Int} (h0 : 0 ≤ n) (h1 : n < 256) : bsOf (strOf [n]) = [n] := by
  unfold bsOf strOf
  simp only [List.map_cons, List.map_nil, List.cons.injEq, and_true]
  rw [UInt8.toNat_ofNat']
  omega
theorem word17 {st : GSt} (h : SG st) (hf : st.Fault = 0) : Both st 17 :=
  word_out h hf nm17 rfl wa17 ta17 (s := strOf [IntKind.wrap .u8 (yOf st)]) (by simp [strOf]) (by
    show ((g_impl_St_written (strOf [IntKind.wrap .u8 (yOf st)]) st).bind fun y_20 => some (Sum.inr ([], y_20.1, y_20.2)) : Option (GSt ⊕ (List Int × Int × GSt))).bind _ = _
    rw [Option.bind_assoc]; rfl) (fun _ _ => rfl) (fun x => by
    show (g_spec_l08Say st [IntKind.wrap .u8 (andI .i32 (yOf st) 255)]).bind _ = _
    rw [u8_and h.y, u8_w, bs_one (by omega) (by omega)]
    cases g_spec_l08Say st [yOf st % 256] <;> rfl)
theorem word22 {st : GSt} (h : SG st) (hf : st.Fault = 0) : Both st 22 := by
  have hy := h.y
  unfold i32B at hy
  have hl := itoa_len (n := yOf st) (by omega) (by omega)
  refine word_out h hf nm22 rfl wa22 ta22 (s := Lib.itoa (yOf st) ++ [32]) (by simp; omega) ?_ (fun _ _ => rfl) (fun x => ?_)
  · show ((g_impl_DecText (IntKind.wrap .i64 (yOf st))).bind fun y_21 => (catS y_21 [32]).bind fun v_22 => (g_impl_St_written v_22 st).bind fun y_23 => some (Sum.inr ([], y_23.1, y_23.2)) : Option (GSt ⊕ (List Int × Int × GSt))).bind _ = _
    rw [wI64 (by omega) (by omega), impl_dec (by omega) (by omega), Option.bind_some, catS_eq (by simp; omega), Option.bind_some, Option.bind_assoc]; rfl
  · show ((g_spec_DecText (IntKind.wrap .i64 (yOf st))).bind fun y_12 => (catS y_12 [32]).bind fun v_13 => (s2b v_13).bind fun v_14 => (g_spec_l08Say st v_14).bind fun y_15 => some y_15) = _
    have e : s2b (Lib.itoa (yOf st) ++ [32]) = some (bsOf (Lib.itoa (yOf st) ++ [32])) := by
      unfold s2b; rw [if_pos (by unfold maxN; simp; omega)]
    rw [wI64 (by omega) (by omega), spec_dec (by omega) (by omega), Option.bind_some, catS_eq (by simp; omega), Option.bind_some, e, Option.bind_some]
    cases g_spec_l08Say st (bsOf (Lib.itoa (yOf st) ++ [32])) <;> rfl
def inS (st : GSt) (i : List Int) : GSt := ⟨st.Data, st.Ret, st.A, st.Mem, st.Cells, st.Vars, st.Out, i, st.Fault, st.Fuel⟩
theorem word18 {st : GSt} (h : SG st) (hf : st.Fault = 0) : Both st 18 := by
  have hi := h.b.i
  by_cases h0 : st.In.length = 0
  · refine both_of h hf nm18 rfl wa18 ta18 (by omega) (l := [-1]) (f := 0) (st2 := st) (by simp) (fun _ => ?_) rfl rfl (fun _ _ => ⟨h, fun x hx => by rw [List.mem_singleton] at hx; subst hx; exact ⟨by omega, by omega⟩⟩) (by omega) (fun hn x y ey ex => notpure rfl ?_)
    · show ((cond ((st.In.length : Int) == 0) _ _ : Option (GSt ⊕ (List Int × Int × GSt)))).bind _ = _
      rw [h0]; rfl
    · show ((cond (decide ((st.In.length : Int) > 0)) ((getI st.In 0).bind fun v_17 => some (IntKind.wrap .i32 v_17)) (some (-1)) : Option Int).bind _) = _
      rw [decide_eq_false (by omega), cond_false, Option.bind_some, put_0 h.b (by simp), Option.bind_some]
      have : (putS st st 0 [-1]).In.length = 0 := by unfold putS; split <;> exact h0
      rw [this]
      cases (putS st st 0 [-1]).Fault == 0 <;> rfl
  · have e0 : getI st.In 0 = some st.In[0] := by rw [show (0 : Int) = ((0 : Nat) : Int) from rfl, getI_nat, List.getElem?_eq_getElem (by omega)]
    have e1 : subL st.In 1 ((st.In.length : Nat) : Int) = some (st.In.drop 1) := by rw [subL_drop (by omega) (by omega)]; rfl
    refine both_of h hf nm18 rfl wa18 ta18 (by omega) (l := [IntKind.wrap .i32 st.In[0]]) (f := 0) (st2 := inS st (st.In.drop 1)) (by simp) (fun _ => ?_) rfl rfl (fun _ _ => ⟨⟨⟨h.b.d, h.b.r, h.b.m, h.b.v, h.b.o, by show (st.In.drop 1).length ≤ 100; rw [List.length_drop]; omega, h.b.rk, h.b.vb, h.b.c, h.b.cl, h.b.f, h.b.u⟩, h.d, h.m, h.a, h.r⟩, fun x hx => by rw [List.mem_singleton] at hx; subst hx; exact i32w _⟩) (by omega) (fun hn x y ey ex => notpure rfl ?_)
    · show ((cond ((st.In.length : Int) == 0) _ ((getI st.In 0).bind fun v_24 => (subL st.In 1 ((st.In.length : Nat) : Int)).bind fun v_25 => some (.inr ([IntKind.wrap .i32 v_24], 0, (⟨st.Data, st.Ret, st.A, st.Mem, st.Cells, st.Vars, st.Out, v_25, st.Fault, st.Fuel⟩ : GSt)))) : Option (GSt ⊕ (List Int × Int × GSt)))).bind _ = _
      rw [show ((st.In.length : Int) == 0) = false by rw [beq_eq_false_iff_ne]; omega, cond_false, e0, Option.bind_some, e1]; rfl
    · show ((cond (decide ((st.In.length : Int) > 0)) ((getI st.In 0).bind fun v_17 => some (IntKind.wrap .i32 v_17)) (some (-1)) : Option Int).bind _) = _
      rw [decide_eq_true (p := (st.In.length : Int) > 0) (by omega), cond_true, e0, Option.bind_some, Option.bind_some, put_0 h.b (by simp), Option.bind_some]
      unfold putS
      by_cases hx : st.Data.length - 0 + [IntKind.wrap .i32 st.In[0]].length > 16
      · rw [if_pos hx, if_pos hx]; rfl
      · rw [if_neg hx, if_neg hx]
        show (((cond (st.Fault == 0) (some (decide ((st.In.length : Int) > 0))) (some false) : Option Bool).bind _ : Option GSt)).bind _ = _
        rw [hf, show ((0 : Int) == 0) = true from rfl, cond_true, decide_eq_true (p := (st.In.length : Int) > 0) (by omega), Option.bind_some, cond_true]
        show ((subL st.In 1 ((st.In.length : Nat) : Int)).bind _).bind _ = _
        rw [e1]; simp [dat, inS, hf]
def retS (st : GSt) (r : List GSlot) : GSt := ⟨st.Data, r, st.A, st.Mem, st.Cells, st.Vars, st.Out, st.In, st.Fault, st.Fuel⟩
theorem SG.ret {st : GSt} (h : SG st) {r : List GSlot} (hl : r.length ≤ 24) (hk : ∀ s ∈ r, 0 ≤ s.Kind ∧ s.Kind ≤ 2) (hn : ∀ s ∈ r, i32B s.N) : SG (retS st r) :=
  ⟨⟨h.b.d, hl, h.b.m, h.b.v, h.b.o, h.b.i, hk, h.b.vb, h.b.c, h.b.cl, h.b.f, h.b.u⟩, h.d, h.m, h.a, hn⟩
theorem word19 {st : GSt} (h : SG st) (hf : st.Fault = 0) : Both st 19 := by
  have hr := h.b.r
  by_cases h0 : st.Ret.length = 24
  · refine both_of h hf nm19 rfl wa19 ta19 (by omega) (l := []) (f := 3) (st2 := st) (by simp) (fun _ => ?_) rfl rfl (fun _ e => by cases e) (by omega) (fun hn x y ey ex => notpure rfl ?_)
    · show ((cond ((st.Ret.length : Int) == 24) _ _ : Option (GSt ⊕ (List Int × Int × GSt)))).bind _ = _
      rw [h0]; rfl
    · show ((cond ((st.Ret.length : Int) == 24) ((g_spec_l08Fault st 3).bind _) _ : Option GSt)) = _
      rw [h0, spec_flt h.b]; rfl
  · have e1 : app st.Ret [(⟨0, yOf st⟩ : GSlot)] = some (st.Ret ++ [⟨0, yOf st⟩]) := app_eq (by simp; omega)
    refine both_of h hf nm19 rfl wa19 ta19 (by omega) (l := []) (f := 0) (st2 := retS st (st.Ret ++ [⟨0, yOf st⟩])) (by simp) (fun _ => ?_) rfl rfl (fun _ _ => ⟨h.ret (by simp; omega) (fun s hs => ?_) (fun s hs => ?_), fun x hx => by simp at hx⟩) (by omega) (fun hn x y ey ex => notpure rfl ?_)
    · show ((cond ((st.Ret.length : Int) == 24) _ ((app st.Ret [(⟨0, yOf st⟩ : GSlot)]).bind fun v_26 => some (.inl (⟨st.Data, v_26, st.A, st.Mem, st.Cells, st.Vars, st.Out, st.In, st.Fault, st.Fuel⟩ : GSt))) : Option (GSt ⊕ (List Int × Int × GSt)))).bind _ = _
      rw [show ((st.Ret.length : Int) == 24) = false by simp; omega, cond_false, e1]; rfl
    · rcases List.mem_append.1 hs with hs | hs
      · exact h.b.rk s hs
      · rw [List.mem_singleton] at hs; subst hs; exact ⟨by show (0 : Int) ≤ 0; omega, by show (0 : Int) ≤ 2; omega⟩
    · rcases List.mem_append.1 hs with hs | hs
      · exact h.r s hs
      · rw [List.mem_singleton] at hs; subst hs; exact h.y
    · rw [ey (by omega)]
      show ((cond ((st.Ret.length : Int) == 24) _ ((g_spec_l08Put st 1 ([] : List Int)).bind _) : Option GSt)) = _
      rw [show ((st.Ret.length : Int) == 24) = false by simp; omega, cond_false, put_1 h.b hn (by simp), put0 h.b hn (.inl (by omega)), put0' h.b hn, Option.bind_some]
      show (app st.Ret [(⟨0, yOf st⟩ : GSlot)]).bind _ = _
      rw [e1]; rfl
end Go.Proofs.YtceiajigccclnaaGreatDoor
namespace Go.Proofs.YtceiajigccclnaaGreatDoor
open Go Go.Fm
set_option maxRecDepth 100000
theorem place_mem {st : GSt} (h : SB st) {y : Int} (hy : i32B y) (h0 : 0 ≤ y) (h1 : y ≤ 31) : g_spec_l08Place st y = some y ∧ g_impl_St_place_rd y st = some (y, true, true) := by
  unfold i32B at hy
  unfold g_spec_l08Place g_impl_St_place_rd
  rw [wI64 (x := y) (by omega) (by omega), specIn_eq, within_eq, decide_eq_true ⟨h0, h1⟩]
  exact ⟨rfl, rfl⟩
theorem place_cell {st : GSt} (h : SB st) {y : Int} (hy : i32B y) (h0 : 1024 ≤ y) (h1 : y ≤ 1023 + st.Cells.length) : g_spec_l08Place st y = some (y - 992) ∧ g_impl_St_place_rd y st = some (y - 1024, false, true) := by
  unfold i32B at hy
  have := h.cl
  unfold g_spec_l08Place g_impl_St_place_rd
  rw [wI64 (x := y) (by omega) (by omega), wI64 (x := 1024 + (st.Cells.length : Int)) (by omega) (by omega), wI64 (x := 1024 + (st.Cells.length : Int) - 1) (by omega) (by omega), wI64 (x := 32 + y) (by omega) (by omega), wI64 (x := 32 + y - 1024) (by omega) (by omega), wI64 (x := y - 1024) (by omega) (by omega), wI64 (x := (st.Cells.length : Int) - 1) (by omega) (by omega),
    specIn_eq, specIn_eq, within_eq, within_eq, decide_eq_false (by omega), decide_eq_true (p := (1024 : Int) ≤ y ∧ y ≤ 1024 + (st.Cells.length : Int) - 1) (by omega), decide_eq_true (p := (0 : Int) ≤ y - 1024 ∧ y - 1024 ≤ (st.Cells.length : Int) - 1) (by omega)]
  refine ⟨?_, rfl⟩
  show some (32 + y - 1024) = _
  congr 1; omega
theorem place_no {st : GSt} (h : SB st) {y : Int} (hy : i32B y) (h0 : ¬(0 ≤ y ∧ y ≤ 31)) (h1 : ¬(1024 ≤ y ∧ y ≤ 1023 + st.Cells.length)) : g_spec_l08Place st y = some (-1) ∧ g_impl_St_place_rd y st = some (0, false, false) := by
  unfold i32B at hy
  have := h.cl
  unfold g_spec_l08Place g_impl_St_place_rd
  rw [wI64 (x := y) (by omega) (by omega), wI64 (x := 1024 + (st.Cells.length : Int)) (by omega) (by omega), wI64 (x := 1024 + (st.Cells.length : Int) - 1) (by omega) (by omega), wI64 (x := y - 1024) (by omega) (by omega), wI64 (x := (st.Cells.length : Int) - 1) (by omega) (by omega),
    specIn_eq, specIn_eq, within_eq, within_eq, decide_eq_false h0, decide_eq_false (p := (1024 : Int) ≤ y ∧ y ≤ 1024 + (st.Cells.length : Int) - 1) (by omega), decide_eq_false (p := (0 : Int) ≤ y - 1024 ∧ y - 1024 ≤ (st.Cells.length : Int) - 1) (by omega)]
  exact ⟨rfl, rfl⟩
theorem getI_int {α : Type} {xs : List α} {i : Int} (h0 : 0 ≤ i) (h : i.toNat < xs.length) : getI xs i = some xs[i.toNat] := by
  have : getI xs ((i.toNat : Nat) : Int) = some xs[i.toNat] := by rw [getI_nat, List.getElem?_eq_getElem h]
  rwa [Int.toNat_of_nonneg h0] at this
theorem word13 {st : GSt} (h : SG st) (hf : st.Fault = 0) : Both st 13 := by
  have hy := h.y
  have hm := h.b.m
  by_cases ha : 0 ≤ yOf st ∧ yOf st ≤ 31
  · obtain ⟨p1, p2⟩ := place_mem h.b hy ha.1 ha.2
    have hlt : (yOf st).toNat < st.Mem.length := by omega
    have e : getI st.Mem (yOf st) = some st.Mem[(yOf st).toNat] := getI_int (by omega) hlt
    refine both_of h hf nm13 rfl wa13 ta13 (by omega) (l := [st.Mem[(yOf st).toNat]]) (f := 0) (st2 := st) (by simp) (fun _ => ?_) rfl rfl (fun _ _ => ⟨h, fun x hx => by rw [List.mem_singleton] at hx; subst hx; exact h.m _ (List.getElem_mem _)⟩) (by omega) (fun hn x y ey ex => notpure rfl ?_)
    · show (((g_impl_St_place_rd (yOf st) st).bind _ : Option (GSt ⊕ (List Int × Int × GSt)))).bind _ = _
      rw [p2, Option.bind_some]
      show (((getI st.Mem (yOf st)).bind _ : Option (GSt ⊕ (List Int × Int × GSt)))).bind _ = _
      rw [e]; rfl
    · rw [ey (by omega)]
      show ((g_spec_l08Place st (yOf st)).bind _).bind _ = _
      rw [p1, Option.bind_some, decide_eq_false (by omega), cond_false, decide_eq_true (by omega), cond_true, e, Option.bind_some, put_1 h.b hn (by simp)]; rfl
  · by_cases hb : 1024 ≤ yOf st ∧ yOf st ≤ 1023 + st.Cells.length
    · obtain ⟨p1, p2⟩ := place_cell h.b hy hb.1 hb.2
      have hcl := h.b.cl
      have hlt : (yOf st - 1024).toNat < st.Cells.length := by omega
      have e : getI st.Cells (yOf st - 1024) = some st.Cells[(yOf st - 1024).toNat] := getI_int (by omega) hlt
      refine both_of h hf nm13 rfl wa13 ta13 (by omega) (l := [IntKind.wrap .i32 st.Cells[(yOf st - 1024).toNat]]) (f := 0) (st2 := st) (by simp) (fun _ => ?_) rfl rfl (fun _ _ => ⟨h, fun x hx => by rw [List.mem_singleton] at hx; subst hx; exact i32w _⟩) (by omega) (fun hn x y ey ex => notpure rfl ?_)
      · show (((g_impl_St_place_rd (yOf st) st).bind _ : Option (GSt ⊕ (List Int × Int × GSt)))).bind _ = _
        rw [p2, Option.bind_some]
        show (((getI st.Cells (yOf st - 1024)).bind _ : Option (GSt ⊕ (List Int × Int × GSt)))).bind _ = _
        rw [e]; rfl
      · rw [ey (by omega)]
        show ((g_spec_l08Place st (yOf st)).bind _).bind _ = _
        rw [p1, Option.bind_some, decide_eq_false (by omega), cond_false, decide_eq_false (by omega), cond_false, wI64 (by omega) (by omega), show yOf st - 992 - 32 = yOf st - 1024 by omega, e, Option.bind_some, put_1 h.b hn (by simp)]; rfl
    · obtain ⟨p1, p2⟩ := place_no h.b hy ha hb
      refine both_of h hf nm13 rfl wa13 ta13 (by omega) (l := []) (f := 4) (st2 := st) (by simp) (fun _ => ?_) rfl rfl (fun _ e => by cases e) (by omega) (fun hn x y ey ex => notpure rfl ?_)
      · show (((g_impl_St_place_rd (yOf st) st).bind _ : Option (GSt ⊕ (List Int × Int × GSt)))).bind _ = _
        rw [p2]; rfl
      · rw [ey (by omega)]
        show ((g_spec_l08Place st (yOf st)).bind _).bind _ = _
        rw [p1, Option.bind_some, decide_eq_true (by omega), cond_true, spec_flt h.b]; rfl
def cellS (o : GSt) (v n : Int) : GSt := ⟨o.Data, o.Ret, o.A, o.Mem, o.Cells.set v.toNat (IntKind.wrap .u32 n), o.Vars, o.Out, o.In, o.Fault, o.Fuel⟩
theorem store_loop {st : GSt} {n a : Int} {z o : GSt} (hv : st.Vars.length ≤ 20) (ha : -1 ≤ a) (ha2 : a ≤ 100000) (hc : 32 ≤ a → (a - 32).toNat < o.Cells.length) (hlow : a < 32 → ∀ v ∈ st.Vars, (0 ≤ a ∧ v = a - 32) → False) : ∀ (k i : Nat), i ≤ st.Vars.length → st.Vars.length - i < k →
    g_spec_l08Store_l0 n a st k (i : Int) z o = some (if (0 ≤ a) ∧ (st.Vars.drop i).any (fun x => a - 32 == x) = true then .inr (cellS o (a - 32) n, cellS o (a - 32) n) else .inl (z, o)) := by
  intro k
  induction k with
  | zero => intro i h0 h1; omega
  | succ k ih =>
    intro i h0 h1
    rw [g_spec_l08Store_l0]
    by_cases hn : i < st.Vars.length
    · rw [decide_eq_true (by omega), cond_true, getI_nat, List.getElem?_eq_getElem hn, List.drop_eq_getElem_cons hn, List.any_cons, wI64 (x := a - 32) (by omega) (by omega), nxt (by omega), ih (i + 1) (by omega) (by omega)]
      simp only [Option.bind_some]
      by_cases hp : 0 ≤ a
      · rw [decide_eq_true (by omega), cond_true, Option.bind_some]
        by_cases he : st.Vars[i] = a - 32
        · rw [show (st.Vars[i] == a - 32) = true by simp [he], show (a - 32 == st.Vars[i]) = true by simp [he], cond_true, Bool.true_or, if_pos ⟨hp, rfl⟩, he]
          by_cases h32 : a < 32
          · exact (hlow h32 _ (List.getElem_mem hn) ⟨hp, he⟩).elim
          · rw [getI_int (by omega) (hc (by omega))]
            rfl
        · rw [show (st.Vars[i] == a - 32) = false by simp [he], show (a - 32 == st.Vars[i]) = false by simp; omega, cond_false, Bool.false_or]
      · rw [decide_eq_false (by omega), cond_false, Option.bind_some, cond_false, if_neg (fun h => hp h.1), if_neg (fun h => hp h.1)]
    · rw [decide_eq_false (by omega), cond_false, List.drop_eq_nil_of_le (by omega), if_neg (by simp)]
def memS (st : GSt) (v n : Int) : GSt := ⟨st.Data, st.Ret, st.A, st.Mem.set v.toNat n, st.Cells, st.Vars, st.Out, st.In, st.Fault, st.Fuel⟩
theorem SG.mem {st : GSt} (h : SG st) {v n : Int} (hn : i32B n) : SG (memS st v n) :=
  ⟨⟨h.b.d, h.b.r, by show (st.Mem.set v.toNat n).length = 32; rw [List.length_set]; exact h.b.m, h.b.v, h.b.o, h.b.i, h.b.rk, h.b.vb, h.b.c, h.b.cl, h.b.f, h.b.u⟩, h.d, fun x hx => (List.mem_or_eq_of_mem_set hx).elim (h.m x) (fun e => e ▸ hn), h.a, h.r⟩
theorem SG.cell {st : GSt} (h : SG st) {v n : Int} : SG (cellS st v n) := by
  refine ⟨⟨h.b.d, h.b.r, h.b.m, h.b.v, h.b.o, h.b.i, h.b.rk, ?_, ?_, ?_, h.b.f, h.b.u⟩, h.d, h.m, h.a, h.r⟩
  · show VarsB (st.Cells.set v.toNat (IntKind.wrap .u32 n)).length st.Vars = true
    rw [List.length_set]; exact h.b.vb
  · show ((Int.tmod ((st.Cells.set v.toNat (IntKind.wrap .u32 n)).length : Int) 64) == 0) = true
    rw [List.length_set]; exact h.b.c
  · show (st.Cells.set v.toNat (IntKind.wrap .u32 n)).length ≤ 768
    rw [List.length_set]; exact h.b.cl
theorem word14 {st : GSt} (h : SG st) (hf : st.Fault = 0) : Both st 14 := by
  have hy := h.y
  have hx := h.x
  have hm := h.b.m
  have hv := h.b.v
  have hcl := h.b.cl
  unfold i32B at hy
  have lp : ∀ (a : Int) (o : GSt), -1 ≤ a → a ≤ 100000 → (32 ≤ a → (a - 32).toNat < o.Cells.length) → (a < 32 → a = -1) → g_spec_l08Store_l0 (xOf st) a st bigK 0 (⟨[], [], 0, [], [], [], [], [], 0, 0⟩ : GSt) o = some (if (0 ≤ a) ∧ (st.Vars.any (fun x => a - 32 == x)) = true then .inr (cellS o (a - 32) (xOf st), cellS o (a - 32) (xOf st)) else .inl (⟨[], [], 0, [], [], [], [], [], 0, 0⟩, o)) := fun a o h1 h2 h3 h4 => by
    have := store_loop (st := st) (n := xOf st) (a := a) (z := ⟨[], [], 0, [], [], [], [], [], 0, 0⟩) (o := o) hv h1 h2 h3 (fun hl v _ hh => by have := h4 hl; omega) bigK 0 (Nat.zero_le _) (by unfold bigK; omega)
    rw [List.drop_zero] at this
    exact this
  by_cases ha : 0 ≤ yOf st ∧ yOf st ≤ 31
  · obtain ⟨p1, p2⟩ := place_mem h.b h.y ha.1 ha.2
    have hlt : (yOf st).toNat < st.Mem.length := by omega
    have e : getI st.Mem (yOf st) = some st.Mem[(yOf st).toNat] := getI_int (by omega) hlt
    refine both_of h hf nm14 rfl wa14 ta14 (by omega) (l := []) (f := 0) (st2 := memS st (yOf st) (xOf st)) (by simp) (fun _ => ?_) rfl rfl (fun _ _ => ⟨h.mem hx, fun x hx => by simp at hx⟩) (by omega) (fun hn x y ey ex => notpure rfl ?_)
    · show (((g_impl_St_place_rd (yOf st) st).bind _ : Option (GSt ⊕ (List Int × Int × GSt)))).bind _ = _
      rw [p2, Option.bind_some]
      show (((getI st.Mem (yOf st)).bind _ : Option (GSt ⊕ (List Int × Int × GSt)))).bind _ = _
      rw [e]; rfl
    · rw [ey (by omega), ex (by omega)]
      show ((g_spec_l08Place st (yOf st)).bind _).bind _ = _
      rw [p1, Option.bind_some, put_2 h.b hn (by simp), put0 h.b hn (.inl (by omega)), put0' h.b hn, Option.bind_some, specIn_eq, decide_eq_true (p := (0 : Int) ≤ yOf st ∧ yOf st ≤ 31) ha, Option.bind_some, cond_true]
      show ((getI st.Mem (yOf st)).bind _).bind _ = _
      rw [e]; rfl
  · by_cases hb : 1024 ≤ yOf st ∧ yOf st ≤ 1023 + st.Cells.length
    · obtain ⟨p1, p2⟩ := place_cell h.b h.y hb.1 hb.2
      have hlt : (yOf st - 1024).toNat < st.Cells.length := by omega
      have e : getI st.Cells (yOf st - 1024) = some st.Cells[(yOf st - 1024).toNat] := getI_int (by omega) hlt
      have hh := has_l0 (l := st.Vars) (v := yOf st - 1024) (by omega)
      cases hany : (st.Vars.any fun x => yOf st - 1024 == x) with
      | true =>
        rw [hany] at hh
        refine both_of h hf nm14 rfl wa14 ta14 (by omega) (l := []) (f := 0) (st2 := cellS st (yOf st - 1024) (xOf st)) (by simp) (fun _ => ?_) rfl rfl (fun _ _ => ⟨h.cell, fun x hx => by simp at hx⟩) (by omega) (fun hn x y ey ex => notpure rfl ?_)
        · show (((g_impl_St_place_rd (yOf st) st).bind _ : Option (GSt ⊕ (List Int × Int × GSt)))).bind _ = _
          rw [p2, Option.bind_some]
          show ((((g_slices_Contains_int st.Vars (yOf st - 1024)).bind fun y_17 => some (!y_17) : Option Bool).bind _ : Option (GSt ⊕ (List Int × Int × GSt)))).bind _ = _
          rw [hh]
          show (((getI st.Cells (yOf st - 1024)).bind _ : Option (GSt ⊕ (List Int × Int × GSt)))).bind _ = _
          rw [e]; rfl
        · rw [ey (by omega), ex (by omega)]
          show ((g_spec_l08Place st (yOf st)).bind _).bind _ = _
          rw [p1, Option.bind_some, put_2 h.b hn (by simp), put0 h.b hn (.inl (by omega)), put0' h.b hn, Option.bind_some, specIn_eq, decide_eq_false (p := (0 : Int) ≤ yOf st - 992 ∧ yOf st - 992 ≤ 31) (by omega), Option.bind_some, cond_false,
            lp (yOf st - 992) _ (by omega) (by omega) (fun _ => by show (yOf st - 992 - 32).toNat < st.Cells.length; omega) (by omega), show yOf st - 992 - 32 = yOf st - 1024 by omega, hany, if_pos ⟨by omega, rfl⟩]
          rfl
      | false =>
        rw [hany] at hh
        refine both_of h hf nm14 rfl wa14 ta14 (by omega) (l := []) (f := 4) (st2 := st) (by simp) (fun _ => ?_) rfl rfl (fun _ e => by cases e) (by omega) (fun hn x y ey ex => notpure rfl ?_)
        · show (((g_impl_St_place_rd (yOf st) st).bind _ : Option (GSt ⊕ (List Int × Int × GSt)))).bind _ = _
          rw [p2, Option.bind_some]
          show ((((g_slices_Contains_int st.Vars (yOf st - 1024)).bind fun y_17 => some (!y_17) : Option Bool).bind _ : Option (GSt ⊕ (List Int × Int × GSt)))).bind _ = _
          rw [hh]; rfl
        · rw [ey (by omega), ex (by omega)]
          show ((g_spec_l08Place st (yOf st)).bind _).bind _ = _
          rw [p1, Option.bind_some, put_2 h.b hn (by simp), put0 h.b hn (.inl (by omega)), Option.bind_some, specIn_eq, decide_eq_false (p := (0 : Int) ≤ yOf st - 992 ∧ yOf st - 992 ≤ 31) (by omega), Option.bind_some, cond_false,
            lp (yOf st - 992) _ (by omega) (by omega) (fun _ => by show (yOf st - 992 - 32).toNat < st.Cells.length; omega) (by omega), show yOf st - 992 - 32 = yOf st - 1024 by omega, hany, if_neg (by simp)]
          show ((g_spec_l08Fault st 4).bind _).bind _ = _
          rw [spec_flt h.b]; rfl
    · obtain ⟨p1, p2⟩ := place_no h.b h.y ha hb
      refine both_of h hf nm14 rfl wa14 ta14 (by omega) (l := []) (f := 4) (st2 := st) (by simp) (fun _ => ?_) rfl rfl (fun _ e => by cases e) (by omega) (fun hn x y ey ex => notpure rfl ?_)
      · show (((g_impl_St_place_rd (yOf st) st).bind _ : Option (GSt ⊕ (List Int × Int × GSt)))).bind _ = _
        rw [p2]; rfl
      · rw [ey (by omega), ex (by omega)]
        show ((g_spec_l08Place st (yOf st)).bind _).bind _ = _
        rw [p1, Option.bind_some, put_2 h.b hn (by simp), put0 h.b hn (.inl (by omega)), Option.bind_some, specIn_eq, decide_eq_false (p := (0 : Int) ≤ -1 ∧ (-1 : Int) ≤ 31) (by omega), Option.bind_some, cond_false,
          lp (-1) _ (by omega) (by omega) (by omega) (fun _ => rfl), if_neg (by omega)]
        show ((g_spec_l08Fault st 4).bind _).bind _ = _
        rw [spec_flt h.b]; rfl
theorem word_back {st : GSt} (h : SG st) (hf : st.Fault = 0) {k : Int} {name : List UInt8} {b : Bool} (hk : g_spec_PrimName k = some name) (hne : (name == []) = false) (hw : g_impl_wants k = some ((0 : Nat) : Int)) (ht : g_spec_l08Takes name = some ((0 : Nat) : Int)) (hp : ∀ x y, g_spec_l08Pure name x y = some ([], false))
    (ho : ∀ x y, g_spec_l08Other st name x y = (g_spec_l08Back st b).bind fun y => some y)
    (hi : ∀ t, st.Ret.getLast? = some t → g_impl_St_effect name (xOf st) (yOf st) st = some (if t.Kind = 2 ∨ (b = true ∧ t.Kind ≠ 0) then ([], 11, st) else ([t.N], 0, if b = true then retS st st.Ret.dropLast else st))) (hi0 : st.Ret = [] → g_impl_St_effect name (xOf st) (yOf st) st = some ([], 3, st)) : Both st k := by
  have hr := h.b.r
  cases hl : st.Ret.getLast? with
  | none =>
    have h0 : st.Ret = [] := by rwa [List.getLast?_eq_none_iff] at hl
    refine both_of h hf hk hne hw ht (by omega) (l := []) (f := 3) (st2 := st) (by simp) (fun _ => hi0 h0) rfl rfl (fun _ e => by cases e) (by omega) (fun hn x y ey ex => notpure (hp _ _) ?_)
    rw [ho]
    unfold g_spec_l08Back
    rw [h0]
    show ((g_spec_l08Fault st 3).bind _).bind _ = _
    rw [spec_flt h.b]; rfl
  | some t =>
    have hpos : 0 < st.Ret.length := by cases hR : st.Ret with
      | nil => rw [hR] at hl; cases hl
      | cons a r => simp
    have hmem : t ∈ st.Ret := List.mem_of_getLast? hl
    have hw1 : IntKind.wrap .i64 ((st.Ret.length : Int) - 1) = ((st.Ret.length - 1 : Nat) : Int) := by rw [wI64 (by omega) (by omega)]; omega
    have eg : getI st.Ret ((st.Ret.length - 1 : Nat) : Int) = some t := by rw [getI_nat, ← List.getLast?_eq_getElem?, hl]
    have es : subL st.Ret 0 ((st.Ret.length - 1 : Nat) : Int) = some st.Ret.dropLast := by rw [subL_take (by omega) (by omega), Int.toNat_natCast, List.dropLast_eq_take]
    have eb : (cond (t.Kind == 2) (some true) (cond b (some (t.Kind != 0)) (some false)) : Option Bool) = some (decide (t.Kind = 2 ∨ (b = true ∧ t.Kind ≠ 0))) := by
      by_cases h2 : t.Kind = 2
      · rw [show (t.Kind == 2) = true by simp [h2], cond_true, decide_eq_true (.inl h2)]
      · rw [show (t.Kind == 2) = false by simp [h2], cond_false]
        cases b with
        | false => simp [h2]
        | true => by_cases h3 : t.Kind = 0 <;> simp [h3, h2]
    have hi := hi t hl
    by_cases hb : t.Kind = 2 ∨ (b = true ∧ t.Kind ≠ 0)
    · rw [if_pos hb] at hi
      refine both_of h hf hk hne hw ht (by omega) (l := []) (f := 11) (st2 := st) (by simp) (fun _ => hi) rfl rfl (fun _ e => by cases e) (by omega) (fun hn x y ey ex => notpure (hp _ _) ?_)
      rw [ho]
      unfold g_spec_l08Back
      rw [show ((st.Ret.length : Int) == 0) = false by rw [beq_eq_false_iff_ne]; omega, cond_false, hw1, eg, Option.bind_some, eb, decide_eq_true hb, Option.bind_some, cond_true, spec_flt h.b]; rfl
    · rw [if_neg hb] at hi
      refine both_of h hf hk hne hw ht (by omega) (l := [t.N]) (f := 0) (st2 := if b = true then retS st st.Ret.dropLast else st) (by simp) (fun _ => hi) (by split <;> rfl) (by split <;> rfl) (fun _ _ => ⟨?_, fun x hx => by rw [List.mem_singleton] at hx; subst hx; exact h.r t hmem⟩) (by omega) (fun hn x y ey ex => notpure (hp _ _) ?_)
      · split
        · exact h.ret (by rw [List.length_dropLast]; omega) (fun s hs => h.b.rk s (List.dropLast_subset _ hs)) (fun s hs => h.r s (List.dropLast_subset _ hs))
        · exact h
      · rw [ho]
        unfold g_spec_l08Back
        rw [show ((st.Ret.length : Int) == 0) = false by rw [beq_eq_false_iff_ne]; omega, cond_false, hw1, eg, Option.bind_some, eb, decide_eq_false hb, Option.bind_some, cond_false, put_0 h.b (by simp), Option.bind_some, if_neg (by simp)]
        unfold putS
        by_cases hx : st.Data.length - 0 + [t.N].length > 16
        · rw [if_pos hx, if_pos hx]
          cases b <;> rfl
        · rw [if_neg hx, if_neg hx]
          cases b with
          | false => rfl
          | true =>
            show ((((cond true (some (st.Fault == 0)) (some false) : Option Bool).bind _ : Option GSt)).bind _).bind _ = _
            rw [hf, cond_true, show ((0 : Int) == 0) = true from rfl, Option.bind_some, cond_true]
            show (((subL st.Ret 0 ((st.Ret.length - 1 : Nat) : Int)).bind _).bind _).bind _ = _
            rw [es]
            simp [dat, retS, hf]
end Go.Proofs.YtceiajigccclnaaGreatDoor
namespace Go.Proofs.YtceiajigccclnaaGreatDoor
open Go Go.Fm
set_option maxRecDepth 100000
theorem last_some {st : GSt} {t : GSlot} (hl : st.Ret.getLast? = some t) (hr : st.Ret.length ≤ 24) : 0 < st.Ret.length ∧ IntKind.wrap .i64 ((st.Ret.length : Int) - 1) = ((st.Ret.length - 1 : Nat) : Int) ∧ getI st.Ret ((st.Ret.length - 1 : Nat) : Int) = some t ∧ subL st.Ret 0 ((st.Ret.length - 1 : Nat) : Int) = some st.Ret.dropLast := by
  have hpos : 0 < st.Ret.length := by cases hR : st.Ret with
    | nil => rw [hR] at hl; cases hl
    | cons a r => simp
  exact ⟨hpos, by rw [wI64 (by omega) (by omega)]; omega, by rw [getI_nat, ← List.getLast?_eq_getElem?, hl], by rw [subL_take (by omega) (by omega), Int.toNat_natCast, List.dropLast_eq_take]⟩
theorem word20 {st : GSt} (h : SG st) (hf : st.Fault = 0) : Both st 20 := by
  refine word_back h hf (b := true) nm20 rfl wa20 ta20 (fun _ _ => rfl) (fun _ _ => rfl) (fun t hl => ?_) (fun h0 => ?_)
  · obtain ⟨hpos, hw1, eg, es⟩ := last_some hl h.b.r
    have e : g_impl_St_effect [112, 111, 112] (xOf st) (yOf st) st = ((cond (decide ((IntKind.wrap .i64 ((st.Ret.length : Int) - 1)) < 0)) (some (Sum.inr ([], 3, st))) (((getI st.Ret (IntKind.wrap .i64 ((st.Ret.length : Int) - 1))).bind fun v_29 => cond (v_29.Kind != 0) (some true) ((getI st.Ret (IntKind.wrap .i64 ((st.Ret.length : Int) - 1))).bind fun v_30 => some (v_30.Kind == 2)) : Option Bool).bind fun v_28 => cond v_28 (some (Sum.inr ([], 11, st))) ((getI st.Ret (IntKind.wrap .i64 ((st.Ret.length : Int) - 1))).bind fun v_32 => (((subL st.Ret 0 (IntKind.wrap .i64 ((st.Ret.length : Int) - 1))).bind fun v_41 => some (retS st v_41) : Option GSt)).bind fun x_40 => some (Sum.inr ([v_32.N], 0, x_40)))) : Option (GSt ⊕ (List Int × Int × GSt))).bind fun o => match o with | .inl x_8 => some ([], 0, x_8) | .inr (v_9, v_10, x_11) => some (v_9, v_10, x_11)) := rfl
    rw [e, hw1, decide_eq_false (by omega), cond_false, eg, es]
    simp only [Option.bind_some]
    by_cases h0 : t.Kind = 0
    · rw [show (t.Kind != 0) = false by simp [h0], cond_false, Option.bind_some, show (t.Kind == 2) = false by simp [h0], cond_false, if_neg (by omega)]
      rfl
    · rw [show (t.Kind != 0) = true by simp [h0], cond_true, Option.bind_some, cond_true, if_pos (by simp [h0])]
      rfl
  · show ((cond (decide ((IntKind.wrap .i64 ((st.Ret.length : Int) - 1)) < 0)) _ _ : Option (GSt ⊕ (List Int × Int × GSt)))).bind _ = _
    rw [h0]; rfl
theorem word21 {st : GSt} (h : SG st) (hf : st.Fault = 0) : Both st 21 := by
  refine word_back h hf (b := false) nm21 rfl wa21 ta21 (fun _ _ => rfl) (fun _ _ => rfl) (fun t hl => ?_) (fun h0 => ?_)
  · obtain ⟨hpos, hw1, eg, es⟩ := last_some hl h.b.r
    have e : g_impl_St_effect [105] (xOf st) (yOf st) st = ((cond (decide ((IntKind.wrap .i64 ((st.Ret.length : Int) - 1)) < 0)) (some (Sum.inr ([], 3, st))) (((getI st.Ret (IntKind.wrap .i64 ((st.Ret.length : Int) - 1))).bind fun v_31 => some (v_31.Kind == 2) : Option Bool).bind fun v_28 => cond v_28 (some (Sum.inr ([], 11, st))) ((getI st.Ret (IntKind.wrap .i64 ((st.Ret.length : Int) - 1))).bind fun v_32 => (some st : Option GSt).bind fun x_40 => some (Sum.inr ([v_32.N], 0, x_40)))) : Option (GSt ⊕ (List Int × Int × GSt))).bind fun o => match o with | .inl x_8 => some ([], 0, x_8) | .inr (v_9, v_10, x_11) => some (v_9, v_10, x_11)) := rfl
    rw [e, hw1, decide_eq_false (by omega), cond_false, eg]
    simp only [Option.bind_some]
    by_cases h0 : t.Kind = 2
    · rw [show (t.Kind == 2) = true by simp [h0], cond_true, if_pos (.inl h0)]
      rfl
    · rw [show (t.Kind == 2) = false by simp [h0], cond_false, if_neg (by simp [h0])]
      rfl
  · show ((cond (decide ((IntKind.wrap .i64 ((st.Ret.length : Int) - 1)) < 0)) _ _ : Option (GSt ⊕ (List Int × Int × GSt)))).bind _ = _
    rw [h0]; rfl
theorem words {st : GSt} (h : SG st) (hf : st.Fault = 0) {k : Int} (h0 : 0 ≤ k) (h1 : k ≤ 23) : Both st k := by
  obtain ⟨n, rfl⟩ : ∃ n : Nat, k = n := ⟨k.toNat, by omega⟩
  have hn : n < 24 := by omega
  match n, hn with
  | 0, _ => exact word0 h hf
  | 1, _ => exact word1 h hf
  | 2, _ => exact word2 h hf
  | 3, _ => exact word3 h hf
  | 4, _ => exact word4 h hf
  | 5, _ => exact word5 h hf
  | 6, _ => exact word6 h hf
  | 7, _ => exact word7 h hf
  | 8, _ => exact word8 h hf
  | 9, _ => exact word9 h hf
  | 10, _ => exact word10 h hf
  | 11, _ => exact word11 h hf
  | 12, _ => exact word12 h hf
  | 13, _ => exact word13 h hf
  | 14, _ => exact word14 h hf
  | 15, _ => exact word15 h hf
  | 16, _ => exact word16 h hf
  | 17, _ => exact word17 h hf
  | 18, _ => exact word18 h hf
  | 19, _ => exact word19 h hf
  | 20, _ => exact word20 h hf
  | 21, _ => exact word21 h hf
  | 22, _ => exact word22 h hf
  | 23, _ => exact word23 h hf
def nameB (k : Int) : Bool := decide (0 ≤ k ∧ k ≤ 23)
theorem name_ne (k : Int) : ∃ s, g_spec_PrimName k = some s ∧ (s == []) = !nameB k := by
  unfold nameB
  by_cases h : 0 ≤ k ∧ k ≤ 23
  · rw [decide_eq_true h]
    obtain ⟨n, rfl⟩ : ∃ n : Nat, k = n := ⟨k.toNat, by omega⟩
    have hn : n < 24 := by omega
    match n, hn with
    | 0, _ => exact ⟨_, nm0, rfl⟩
    | 1, _ => exact ⟨_, nm1, rfl⟩
    | 2, _ => exact ⟨_, nm2, rfl⟩
    | 3, _ => exact ⟨_, nm3, rfl⟩
    | 4, _ => exact ⟨_, nm4, rfl⟩
    | 5, _ => exact ⟨_, nm5, rfl⟩
    | 6, _ => exact ⟨_, nm6, rfl⟩
    | 7, _ => exact ⟨_, nm7, rfl⟩
    | 8, _ => exact ⟨_, nm8, rfl⟩
    | 9, _ => exact ⟨_, nm9, rfl⟩
    | 10, _ => exact ⟨_, nm10, rfl⟩
    | 11, _ => exact ⟨_, nm11, rfl⟩
    | 12, _ => exact ⟨_, nm12, rfl⟩
    | 13, _ => exact ⟨_, nm13, rfl⟩
    | 14, _ => exact ⟨_, nm14, rfl⟩
    | 15, _ => exact ⟨_, nm15, rfl⟩
    | 16, _ => exact ⟨_, nm16, rfl⟩
    | 17, _ => exact ⟨_, nm17, rfl⟩
    | 18, _ => exact ⟨_, nm18, rfl⟩
    | 19, _ => exact ⟨_, nm19, rfl⟩
    | 20, _ => exact ⟨_, nm20, rfl⟩
    | 21, _ => exact ⟨_, nm21, rfl⟩
    | 22, _ => exact ⟨_, nm22, rfl⟩
    | 23, _ => exact ⟨_, nm23, rfl⟩
  · rw [decide_eq_false h]
    refine ⟨[], ?_, rfl⟩
    unfold g_spec_PrimName g_spec_l08Names
    simp only [Option.bind_some]
    rw [specIn_eq]
    have : ¬(0 ≤ k ∧ k ≤ IntKind.wrap .i64 ((24 : Int) - 1)) := by rw [wI64 (by omega) (by omega)]; omega
    show (some (decide (0 ≤ k ∧ k ≤ IntKind.wrap .i64 ((24 : Int) - 1)))).bind _ = _
    rw [decide_eq_false this]; rfl
instance (x : Int) : Decidable (i32B x) := inferInstanceAs (Decidable (_ ∧ _))
def insB (n : Int) (i : GIns) : Bool :=
  if i.Op = 0 then decide (i32B i.N) else if i.Op = 1 then nameB i.N else if i.Op = 2 ∨ i.Op = 3 ∨ i.Op = 4 ∨ i.Op = 5 ∨ i.Op = 7 then decide (0 ≤ i.N ∧ i.N ≤ n - 1) else if i.Op = 6 ∨ i.Op = 8 ∨ i.Op = 9 then decide (i.N = 0) else false
end Go.Proofs.YtceiajigccclnaaGreatDoor
namespace Go.Proofs.YtceiajigccclnaaGreatDoor
open Go Go.Fm
set_option maxRecDepth 100000
def codeB (l : List GIns) : Bool := decide (1 ≤ l.length ∧ l.length ≤ 1500) && (decide ((l.getLast?.map (·.Op)) = some 9) && l.all (insB l.length))
theorem beqD (a b : Int) : (a == b) = decide (a = b) := by
  by_cases h : a = b <;> simp [h]
theorem spec_ins {n : Int} (hn : n ≤ 1500) (h0 : 1 ≤ n) (i : GIns) : ((cond (i.Op == 0) ((g_spec_l01In i.N (-2147483648) 2147483647).bind fun y_13 => some y_13) (cond (i.Op == 1) ((g_spec_PrimName i.N).bind fun y_14 => some (y_14 != [])) ((cond (i.Op == 2) (some (i.Op == 2)) (cond (i.Op == 3) (some (i.Op == 3)) (cond (i.Op == 4) (some (i.Op == 4)) (cond (i.Op == 5) (some (i.Op == 5)) (some (i.Op == 7))))) : Option (Bool)).bind fun v_15 => cond v_15 ((g_spec_l01In i.N 0 (IntKind.wrap .i64 (n - 1))).bind fun y_16 => some y_16) ((cond (i.Op == 6) (some (i.Op == 6)) (cond (i.Op == 8) (some (i.Op == 8)) (some (i.Op == 9))) : Option (Bool)).bind fun v_17 => cond v_17 (some (i.N == 0)) (some false)))) : Option (Bool))) = some (insB n i) := by
  obtain ⟨s, e1, e2⟩ := name_ne i.N
  unfold insB
  rw [specIn_eq, specIn_eq, e1, wI64 (by omega) (by omega), beqD, beqD, beqD, beqD, beqD, beqD, beqD, beqD, beqD, beqD, beqD]
  by_cases o0 : i.Op = 0
  · rw [decide_eq_true o0, if_pos o0]; rfl
  rw [decide_eq_false o0, if_neg o0, cond_false]
  by_cases o1 : i.Op = 1
  · rw [decide_eq_true o1, if_pos o1, cond_true, Option.bind_some, bne, e2, Bool.not_not]
  rw [decide_eq_false o1, if_neg o1, cond_false]
  by_cases o2 : i.Op = 2 ∨ i.Op = 3 ∨ i.Op = 4 ∨ i.Op = 5 ∨ i.Op = 7
  · rw [if_pos o2]
    have : (cond (decide (i.Op = 2)) (some (decide (i.Op = 2))) (cond (decide (i.Op = 3)) (some (decide (i.Op = 3))) (cond (decide (i.Op = 4)) (some (decide (i.Op = 4))) (cond (decide (i.Op = 5)) (some (decide (i.Op = 5))) (some (decide (i.Op = 7)))))) : Option Bool) = some true := by
      rcases o2 with h | h | h | h | h <;> rw [h] <;> rfl
    rw [this]; rfl
  · rw [if_neg o2]
    have : (cond (decide (i.Op = 2)) (some (decide (i.Op = 2))) (cond (decide (i.Op = 3)) (some (decide (i.Op = 3))) (cond (decide (i.Op = 4)) (some (decide (i.Op = 4))) (cond (decide (i.Op = 5)) (some (decide (i.Op = 5))) (some (decide (i.Op = 7)))))) : Option Bool) = some false := by
      rw [decide_eq_false (by omega), decide_eq_false (by omega), decide_eq_false (by omega), decide_eq_false (by omega), decide_eq_false (by omega)]; rfl
    rw [this, Option.bind_some, cond_false]
    by_cases o6 : i.Op = 6 ∨ i.Op = 8 ∨ i.Op = 9
    · rw [if_pos o6]
      have : (cond (decide (i.Op = 6)) (some (decide (i.Op = 6))) (cond (decide (i.Op = 8)) (some (decide (i.Op = 8))) (some (decide (i.Op = 9)))) : Option Bool) = some true := by
        rcases o6 with h | h | h <;> rw [h] <;> rfl
      rw [this]; rfl
    · rw [if_neg o6, decide_eq_false (by omega), decide_eq_false (by omega), decide_eq_false (by omega)]; rfl
theorem impl_ins {n : Int} (hn : n ≤ 1500) (h0 : 1 ≤ n) (i : GIns) (hi : i64B i.N) : g_impl_CodeOkc1 i n = some (!insB n i) := by
  obtain ⟨s, e1, e2⟩ := name_ne i.N
  unfold insB g_impl_CodeOkc1
  rw [within_eq, name_eq, e1, wI64 (x := n - 1) (by omega) (by omega), beqD, beqD, beqD, beqD, beqD, beqD, beqD, beqD, beqD, beqD]
  have c2 : (cond (decide (i.Op = 2)) (some (decide (i.Op = 2))) (cond (decide (i.Op = 3)) (some (decide (i.Op = 3))) (cond (decide (i.Op = 4)) (some (decide (i.Op = 4))) (cond (decide (i.Op = 5)) (some (decide (i.Op = 5))) (some (decide (i.Op = 7)))))) : Option Bool) = some (decide (i.Op = 2 ∨ i.Op = 3 ∨ i.Op = 4 ∨ i.Op = 5 ∨ i.Op = 7)) := by
    by_cases o2 : i.Op = 2 ∨ i.Op = 3 ∨ i.Op = 4 ∨ i.Op = 5 ∨ i.Op = 7
    · rw [decide_eq_true o2]; rcases o2 with h | h | h | h | h <;> rw [h] <;> rfl
    · rw [decide_eq_false o2, decide_eq_false (by omega), decide_eq_false (by omega), decide_eq_false (by omega), decide_eq_false (by omega), decide_eq_false (by omega)]; rfl
  have c6 : (cond (decide (i.Op = 6)) (some (decide (i.Op = 6))) (cond (decide (i.Op = 8)) (some (decide (i.Op = 8))) (some (decide (i.Op = 9)))) : Option Bool) = some (decide (i.Op = 6 ∨ i.Op = 8 ∨ i.Op = 9)) := by
    by_cases o6 : i.Op = 6 ∨ i.Op = 8 ∨ i.Op = 9
    · rw [decide_eq_true o6]; rcases o6 with h | h | h <;> rw [h] <;> rfl
    · rw [decide_eq_false o6, decide_eq_false (by omega), decide_eq_false (by omega), decide_eq_false (by omega)]; rfl
  rw [c2, c6]
  simp only [Option.bind_some]
  by_cases o2 : i.Op = 2 ∨ i.Op = 3 ∨ i.Op = 4 ∨ i.Op = 5 ∨ i.Op = 7
  · rw [decide_eq_true o2, cond_true, if_neg (by omega), if_neg (by omega), if_pos o2]; rfl
  rw [decide_eq_false o2, cond_false, if_neg o2]
  by_cases o0 : i.Op = 0
  · rw [decide_eq_true o0, if_pos o0, cond_true]
    have : (i.N != IntKind.wrap .i64 (IntKind.wrap .i32 i.N)) = !decide (i32B i.N) := by
      have hb := wI32_bd i.N
      rw [wI64 (by omega) (by omega)]
      by_cases hh : i32B i.N
      · rw [decide_eq_true hh, wI32 (by unfold i32B at hh; omega) (by unfold i32B at hh; omega)]; simp
      · rw [decide_eq_false hh]
        have : i.N ≠ IntKind.wrap .i32 i.N := fun e => hh (e ▸ i32w _)
        simp [this]
    rw [this]; rfl
  rw [decide_eq_false o0, if_neg o0, cond_false]
  by_cases o1 : i.Op = 1
  · rw [decide_eq_true o1, if_pos o1, cond_true, e2]; rfl
  rw [decide_eq_false o1, if_neg o1, cond_false]
  by_cases o6 : i.Op = 6 ∨ i.Op = 8 ∨ i.Op = 9
  · rw [decide_eq_true o6, if_pos o6, cond_true]
    by_cases hz : i.N = 0 <;> simp [hz]
  · rw [decide_eq_false o6, if_neg o6]; rfl
theorem last_op {l : List GIns} (h0 : 1 ≤ l.length) (h1 : l.length ≤ 1500) : ∃ t, l.getLast? = some t ∧ getI l (IntKind.wrap .i64 ((l.length : Int) - 1)) = some t := by
  refine ⟨l[l.length - 1], ?_, ?_⟩
  · rw [List.getLast?_eq_getElem?, List.getElem?_eq_getElem (by omega)]
  · rw [wI64 (by omega) (by omega), show (l.length : Int) - 1 = ((l.length - 1 : Nat) : Int) by omega, getI_nat, List.getElem?_eq_getElem (by omega)]
theorem spec_code {l : List GIns} (hl : l.length ≤ 1048576) : g_spec_CodeOk l = some (codeB l) := by
  unfold g_spec_CodeOk codeB
  rw [specIn_eq]
  by_cases h : 1 ≤ l.length ∧ l.length ≤ 1500
  · obtain ⟨t, e1, e2⟩ := last_op h.1 h.2
    rw [decide_eq_true (p := (1 : Int) ≤ (l.length : Int) ∧ (l.length : Int) ≤ 1500) (by omega), decide_eq_true h, e2, e1]
    simp only [Option.bind_some, Bool.not_true, cond_false, Option.map_some, Bool.true_and]
    by_cases h9 : t.Op = 9
    · rw [show (t.Op != 9) = false by simp [h9], cond_false, decide_eq_true (by rw [h9]), Bool.true_and]
      have := allLoop (L := l) (bad := false) (fun _ i => insB l.length i) (g_spec_CodeOk_l0 l (l.length : Int)) (fun k n x hx hn => by
        rw [g_spec_CodeOk_l0, decide_eq_true (by omega), cond_true, getI_nat, hx, Option.bind_some, spec_ins (by omega) (by omega), Option.bind_some, nxt (by omega)]
        cases insB l.length x <;> rfl) (fun k n hn => by rw [g_spec_CodeOk_l0, decide_eq_false (by omega), cond_false]) (by omega)
      rw [this, allN_const]
      cases l.all (insB l.length) <;> rfl
    · rw [show (t.Op != 9) = true by simp [h9], cond_true, decide_eq_false (by simpa using h9)]; rfl
  · rw [decide_eq_false (p := (1 : Int) ≤ (l.length : Int) ∧ (l.length : Int) ≤ 1500) (by omega), decide_eq_false h]; rfl
theorem impl_code {l : List GIns} (hl : l.length ≤ 1048576) (hi : ∀ i ∈ l, i64B i.N) : g_impl_CodeOk l = some (codeB l) := by
  unfold g_impl_CodeOk codeB
  rw [within_eq]
  by_cases h : 1 ≤ l.length ∧ l.length ≤ 1500
  · obtain ⟨t, e1, e2⟩ := last_op h.1 h.2
    rw [decide_eq_true (p := (1 : Int) ≤ (l.length : Int) ∧ (l.length : Int) ≤ 1500) (by omega), decide_eq_true h, e2, e1]
    simp only [Option.bind_some, Bool.not_true, cond_false, Option.map_some, Bool.true_and]
    by_cases h9 : t.Op = 9
    · rw [show (t.Op != 9) = false by simp [h9], cond_false, decide_eq_true (by rw [h9]), Bool.true_and]
      have key : ∀ (k n : Nat), n ≤ l.length → l.length - n < k → ∃ o : Unit ⊕ Int, g_slices_IndexFunc_Ins_impl_CodeOkc1_l0 l (l.length : Int) (l.length : Int) k n = some o ∧ (match o with | .inl _ => (l.drop n).all (insB l.length) = true | .inr i => 0 ≤ i ∧ (l.drop n).all (insB l.length) = false) := by
        intro k
        induction k with
        | zero => intro n h0 h1; omega
        | succ k ih =>
          intro n h0 h1
          rw [g_slices_IndexFunc_Ins_impl_CodeOkc1_l0]
          by_cases hn : n < l.length
          · have hd : l.drop n = l[n] :: l.drop (n + 1) := List.drop_eq_getElem_cons hn
            rw [decide_eq_true (by omega), cond_true, getI_nat, List.getElem?_eq_getElem hn, Option.bind_some, impl_ins (by omega) (by omega) _ (hi _ (List.getElem_mem hn)), Option.bind_some]
            cases hb : insB l.length l[n] with
            | false =>
              refine ⟨_, rfl, by omega, ?_⟩
              rw [hd, List.all_cons, hb]; rfl
            | true =>
              rw [Bool.not_true, cond_false, nxt (by omega)]
              obtain ⟨o, g1, g2⟩ := ih (n + 1) (by omega) (by omega)
              refine ⟨o, g1, ?_⟩
              rw [hd, List.all_cons, hb, Bool.true_and]; exact g2
          · rw [decide_eq_false (by omega), cond_false, List.drop_eq_nil_of_le (by omega)]
            exact ⟨_, rfl, rfl⟩
      obtain ⟨o, g1, g2⟩ := key bigK 0 (Nat.zero_le _) (by unfold bigK; omega)
      rw [Int.natCast_zero] at g1
      rw [List.drop_zero] at g2
      unfold g_slices_ContainsFunc_Ins_impl_CodeOkc1 g_slices_IndexFunc_Ins_impl_CodeOkc1
      rw [g1]
      cases o with
      | inl u => rw [show l.all (insB l.length) = true from g2]; rfl
      | inr i => simp only [Option.bind_some]; rw [g2.2, decide_eq_true g2.1]; rfl
    · rw [show (t.Op != 9) = true by simp [h9], cond_true, decide_eq_false (by simpa using h9)]; rfl
  · rw [decide_eq_false (p := (1 : Int) ≤ (l.length : Int) ∧ (l.length : Int) ≤ 1500) (by omega), decide_eq_false h]; rfl
structure CG (l : List GIns) : Prop where
  n : 1 ≤ l.length ∧ l.length ≤ 1500
  last : l.getLast?.map (·.Op) = some 9
  all : ∀ i ∈ l, insB l.length i = true
theorem CG.of {l : List GIns} (h : codeB l = true) : CG l := by
  unfold codeB at h
  simp only [Bool.and_eq_true, decide_eq_true_eq, List.all_eq_true] at h
  exact ⟨h.1, h.2.1, h.2.2⟩
end Go.Proofs.YtceiajigccclnaaGreatDoor
namespace Go.Proofs.YtceiajigccclnaaGreatDoor
open Go Go.Fm
set_option maxRecDepth 100000
def fuelS (st : GSt) : GSt := ⟨st.Data, st.Ret, st.A, st.Mem, st.Cells, st.Vars, st.Out, st.In, st.Fault, st.Fuel - 1⟩
theorem SG.fuel {st : GSt} (h : SG st) (hu : st.Fuel ≠ 0) : SG (fuelS st) :=
  ⟨⟨h.b.d, h.b.r, h.b.m, h.b.v, h.b.o, h.b.i, h.b.rk, h.b.vb, h.b.c, h.b.cl, h.b.f, by have := h.b.u; exact ⟨by show 0 ≤ st.Fuel - 1; omega, by show st.Fuel - 1 ≤ 4000; omega⟩⟩, h.d, h.m, h.a, h.r⟩
def goM (m : GMach) (st : GSt) (next : Int) : GMach := ⟨st, if st.Fault = 0 then next else m.At, false⟩
theorem to_eq (m : GMach) (st : GSt) (n : Int) : g_spec_l12To m st n = some (goM m st n) := by
  unfold g_spec_l12To goM
  by_cases h : st.Fault = 0
  · rw [show (st.Fault != 0) = false by simp [h], if_pos h]; rfl
  · rw [show (st.Fault != 0) = true by simp [h], if_neg h]; rfl
theorem fin_eq {m : GMach} {st : GSt} {n : Int} : (cond (st.Fault == 0) (some (⟨st, n, false⟩ : GMach)) (some (⟨st, m.At, false⟩ : GMach)) : Option GMach) = some (goM m st n) := by
  unfold goM
  by_cases h : st.Fault = 0
  · rw [show (st.Fault == 0) = true by simp [h], if_pos h]; rfl
  · rw [show (st.Fault == 0) = false by simp [h], if_neg h]; rfl
theorem goM_flt (m : GMach) (st : GSt) {f : Int} (hf : f ≠ 0) (a b : Int) : goM m (flt st f) a = goM m (flt st f) b := by
  unfold goM
  rw [if_neg (by exact hf), if_neg (by exact hf)]
theorem l12put_eq {st : GSt} (h : SB st) (s : GSlot) : g_spec_l12Put st s = some (if st.Ret.length = 24 then flt st 3 else retS st (st.Ret ++ [s])) := by
  have := h.r
  unfold g_spec_l12Put
  rw [spec_flt h, copyS h]
  by_cases h0 : st.Ret.length = 24
  · rw [show ((st.Ret.length : Int) == 24) = true by rw [h0]; rfl, if_pos h0]; rfl
  · rw [show ((st.Ret.length : Int) == 24) = false by rw [beq_eq_false_iff_ne]; omega, if_neg h0, cond_false, Option.bind_some, app_eq (by simp; omega)]; rfl
theorem drop_eq {st : GSt} (h : SB st) (hp : 0 < st.Ret.length) : g_spec_l12Drop st = some (retS st st.Ret.dropLast) := by
  have := h.r
  unfold g_spec_l12Drop
  rw [copyS h, Option.bind_some, show IntKind.wrap .i64 ((st.Ret.length : Int) - 1) = ((st.Ret.length - 1 : Nat) : Int) by rw [wI64 (by omega) (by omega)]; omega, subL_take (by omega) (by omega), Int.toNat_natCast, ← List.dropLast_eq_take]; rfl
theorem pushes_eq {st : GSt} (h : SB st) (n a : Int) (d : Bool) : g_impl_St_pushes_inGMach_0 n (⟨st, a, d⟩ : GMach) = some ⟨putS st st 0 [n], a, d⟩ := by
  have := h.d
  unfold g_impl_St_pushes_inGMach_0 putS
  by_cases h0 : st.Data.length = 16
  · rw [if_pos (by simp; omega)]
    show cond ((st.Data.length : Int) == 16) _ _ = _
    rw [show ((st.Data.length : Int) == 16) = true by rw [h0]; rfl]; rfl
  · rw [if_neg (by simp; omega)]
    show cond ((st.Data.length : Int) == 16) _ ((app st.Data [n]).bind _) = _
    rw [show ((st.Data.length : Int) == 16) = false by rw [beq_eq_false_iff_ne]; omega, cond_false, app_eq (by simp; omega), Nat.sub_zero, List.take_length]; rfl
theorem back_eq {st : GSt} (h : SB st) (n a : Int) (d : Bool) : g_impl_Mach_back n (⟨st, a, d⟩ : GMach) = some (if st.Ret.length = 24 then (false, ⟨flt st 3, a, d⟩) else (true, ⟨retS st (st.Ret ++ [⟨2, IntKind.wrap .i32 n⟩]), a, d⟩)) := by
  have := h.r
  unfold g_impl_Mach_back
  by_cases h0 : st.Ret.length = 24
  · rw [if_pos h0]
    show cond ((st.Ret.length : Int) == 24) _ _ = _
    rw [show ((st.Ret.length : Int) == 24) = true by rw [h0]; rfl]; rfl
  · rw [if_neg h0]
    show cond ((st.Ret.length : Int) == 24) _ ((app st.Ret [(⟨2, IntKind.wrap .i32 n⟩ : GSlot)]).bind _) = _
    rw [show ((st.Ret.length : Int) == 24) = false by rw [beq_eq_false_iff_ne]; omega, cond_false, app_eq (by simp; omega)]; rfl
def forS (st : GSt) : GSt := if st.Data.length = 0 then flt st 2 else if st.Ret.length = 24 then flt st 3 else ⟨st.Data.dropLast, st.Ret ++ [⟨1, yOf st⟩], st.A, st.Mem, st.Cells, st.Vars, st.Out, st.In, st.Fault, st.Fuel⟩
theorem sub_last {st : GSt} (h : SB st) (hp : 0 < st.Data.length) : subL st.Data 0 (IntKind.wrap .i64 ((st.Data.length : Int) - 1)) = some st.Data.dropLast := by
  have := h.d
  rw [wI64 (by omega) (by omega), show (st.Data.length : Int) - 1 = ((st.Data.length - 1 : Nat) : Int) by omega, subL_take (by omega) (by omega), Int.toNat_natCast, ← List.dropLast_eq_take]
theorem begin_eq {st : GSt} (h : SB st) (a : Int) (d : Bool) : g_impl_St_begin_inGMach_0 (⟨st, a, d⟩ : GMach) = some ⟨forS st, a, d⟩ := by
  have := h.d; have := h.r
  unfold g_impl_St_begin_inGMach_0 forS
  show cond (decide ((IntKind.wrap .i64 ((st.Data.length : Int) - 1)) < 0)) _ (cond ((st.Ret.length : Int) == 24) _ ((getI st.Data (IntKind.wrap .i64 ((st.Data.length : Int) - 1))).bind fun v_3 => (app st.Ret [(⟨1, v_3⟩ : GSlot)]).bind fun v_4 => (subL st.Data 0 (IntKind.wrap .i64 ((st.Data.length : Int) - 1))).bind _)) = _
  by_cases h0 : st.Data.length = 0
  · rw [if_pos h0, h0]; rfl
  · rw [if_neg h0, sub_last h (by omega), get_y h (by omega), wI64 (by omega) (by omega), decide_eq_false (by omega), cond_false]
    by_cases h1 : st.Ret.length = 24
    · rw [if_pos h1, show ((st.Ret.length : Int) == 24) = true by rw [h1]; rfl]; rfl
    · rw [if_neg h1, show ((st.Ret.length : Int) == 24) = false by rw [beq_eq_false_iff_ne]; omega, cond_false, Option.bind_some, app_eq (by simp; omega)]; rfl
theorem for_eq {st : GSt} (h : SB st) (hf : st.Fault = 0) (m : GMach) : ∃ b, g_spec_l12For m st = some (goM m (forS st) b) ∧ ((forS st).Fault = 0 → b = IntKind.wrap .i64 (m.At + 1)) := by
  have := h.d; have := h.r
  unfold g_spec_l12For forS
  by_cases h0 : st.Data.length = 0
  · rw [if_pos h0, h0, spec_flt h]
    exact ⟨0, by show ((some (flt st 2)).bind fun y_4 => (g_spec_l12To m y_4 0).bind fun y_5 => some y_5) = _; rw [Option.bind_some, to_eq]; rfl, fun e => by cases e⟩
  · rw [if_neg h0, show ((st.Data.length : Int) == 0) = false by rw [beq_eq_false_iff_ne]; omega, cond_false, get_y h (by omega), Option.bind_some, l12put_eq h, Option.bind_some]
    by_cases h1 : st.Ret.length = 24
    · rw [if_pos h1, if_pos h1]
      refine ⟨IntKind.wrap .i64 (m.At + 1), ?_, fun _ => rfl⟩
      show ((some (flt st 3) : Option GSt).bind _) = _
      rw [Option.bind_some, to_eq]; rfl
    · rw [if_neg h1, if_neg h1]
      refine ⟨IntKind.wrap .i64 (m.At + 1), ?_, fun _ => rfl⟩
      show (((cond (st.Fault == 0) ((subL st.Data 0 (IntKind.wrap .i64 ((st.Data.length : Int) - 1))).bind _) _ : Option GSt)).bind _) = _
      rw [hf, show ((0 : Int) == 0) = true from rfl, cond_true, sub_last h (by omega), Option.bind_some, Option.bind_some, to_eq, Option.bind_some]
      simp [retS, hf]
def lastR (st : GSt) : GSlot := if h : 0 < st.Ret.length then st.Ret[st.Ret.length - 1] else ⟨0, 0⟩
theorem get_r {st : GSt} (h : SB st) (hp : 0 < st.Ret.length) : getI st.Ret (IntKind.wrap .i64 ((st.Ret.length : Int) - 1)) = some (lastR st) := by
  have := h.r
  rw [wI64 (by omega) (by omega), show (st.Ret.length : Int) - 1 = ((st.Ret.length - 1 : Nat) : Int) by omega, getI_nat, List.getElem?_eq_getElem (by omega)]
  unfold lastR; rw [dif_pos hp]
theorem sub_r {st : GSt} (h : SB st) (hp : 0 < st.Ret.length) : subL st.Ret 0 (IntKind.wrap .i64 ((st.Ret.length : Int) - 1)) = some st.Ret.dropLast := by
  have := h.r
  rw [wI64 (by omega) (by omega), show (st.Ret.length : Int) - 1 = ((st.Ret.length - 1 : Nat) : Int) by omega, subL_take (by omega) (by omega), Int.toNat_natCast, ← List.dropLast_eq_take]
theorem lastR_mem {st : GSt} (hp : 0 < st.Ret.length) : lastR st ∈ st.Ret := by unfold lastR; rw [dif_pos hp]; exact List.getElem_mem _
def decR (st : GSt) : GSt := retS st (st.Ret.set (st.Ret.length - 1) ⟨(lastR st).Kind, IntKind.wrap .i32 ((lastR st).N - 1)⟩)
def nextS (st : GSt) : Bool × GSt := if st.Ret.length = 0 then (false, flt st 3) else if (lastR st).Kind ≠ 1 then (false, flt st 11) else if IntKind.wrap .i32 ((lastR st).N - 1) > 0 then (true, decR st) else (false, retS st st.Ret.dropLast)
theorem again_eq {st : GSt} (h : SB st) (a : Int) (d : Bool) : g_impl_St_again_inGMach_0 (⟨st, a, d⟩ : GMach) = some ((nextS st).1, ⟨(nextS st).2, a, d⟩) := by
  have := h.r
  unfold g_impl_St_again_inGMach_0 nextS
  show cond (decide ((IntKind.wrap .i64 ((st.Ret.length : Int) - 1)) < 0)) _ ((getI st.Ret (IntKind.wrap .i64 ((st.Ret.length : Int) - 1))).bind fun v_4 => cond (v_4.Kind != 1) _ ((getI st.Ret (IntKind.wrap .i64 ((st.Ret.length : Int) - 1))).bind fun v_5 => cond (decide ((IntKind.wrap .i32 (v_5.N - 1)) > 0)) ((getI st.Ret (IntKind.wrap .i64 ((st.Ret.length : Int) - 1))).bind fun v_6 => some (true, (⟨(⟨st.Data, st.Ret.set (IntKind.wrap .i64 ((st.Ret.length : Int) - 1)).toNat (⟨v_6.Kind, IntKind.wrap .i32 (v_5.N - 1)⟩ : GSlot), st.A, st.Mem, st.Cells, st.Vars, st.Out, st.In, st.Fault, st.Fuel⟩ : GSt), a, d⟩ : GMach))) ((subL st.Ret 0 (IntKind.wrap .i64 ((st.Ret.length : Int) - 1))).bind _))) = _
  by_cases h0 : st.Ret.length = 0
  · rw [if_pos h0, h0]; rfl
  · rw [if_neg h0, get_r h (by omega), sub_r h (by omega), wI64 (by omega) (by omega), decide_eq_false (by omega), cond_false, Option.bind_some]
    by_cases h1 : (lastR st).Kind = 1
    · rw [if_neg (by simp [h1]), show ((lastR st).Kind != 1) = false by simp [h1], cond_false, Option.bind_some]
      by_cases h2 : IntKind.wrap .i32 ((lastR st).N - 1) > 0
      · rw [if_pos h2, decide_eq_true h2, cond_true, Option.bind_some]
        unfold decR
        rw [show ((st.Ret.length : Int) - 1).toNat = st.Ret.length - 1 by omega]; rfl
      · rw [if_neg h2, decide_eq_false h2, cond_false]; rfl
    · rw [if_pos h1, show ((lastR st).Kind != 1) = true by simp [h1]]; rfl
theorem dropLast_set {α : Type} (l : List α) (x : α) : (l.set (l.length - 1) x).dropLast = l.dropLast := by
  rw [List.dropLast_eq_take, List.dropLast_eq_take, List.length_set, List.take_set_of_le (Nat.le_refl _)]
theorem SG.dec {st : GSt} (h : SG st) (hp : 0 < st.Ret.length) : SG (decR st) := by
  refine h.ret (by rw [List.length_set]; exact h.b.r) (fun s hs => ?_) (fun s hs => ?_)
  · rcases List.mem_or_eq_of_mem_set hs with hs | rfl
    · exact h.b.rk s hs
    · show 0 ≤ (lastR st).Kind ∧ (lastR st).Kind ≤ 2
      exact h.b.rk (lastR st) (lastR_mem hp)
  · rcases List.mem_or_eq_of_mem_set hs with hs | rfl
    · exact h.r s hs
    · exact i32w _
theorem next_eq {st : GSt} (h : SG st) (hf : st.Fault = 0) (m : GMach) (to : Int) : ∃ b, g_spec_l12Next m st to = some (goM m (nextS st).2 b) ∧ ((nextS st).2.Fault = 0 → b = if (nextS st).1 = true then to else IntKind.wrap .i64 (m.At + 1)) := by
  have := h.b.r
  unfold g_spec_l12Next nextS
  by_cases h0 : st.Ret.length = 0
  · rw [if_pos h0, h0, spec_flt h.b]
    exact ⟨0, by show ((some (flt st 3)).bind fun y_4 => (g_spec_l12To m y_4 0).bind fun y_5 => some y_5) = _; rw [Option.bind_some, to_eq]; rfl, fun e => by cases e⟩
  · rw [if_neg h0, show ((st.Ret.length : Int) == 0) = false by rw [beq_eq_false_iff_ne]; omega, cond_false, get_r h.b (by omega), Option.bind_some]
    by_cases h1 : (lastR st).Kind = 1
    · rw [if_neg (by simp [h1]), show ((lastR st).Kind != 1) = false by simp [h1], cond_false, copyS h.b, Option.bind_some, get_r h.b (by omega), Option.bind_some, Option.bind_some]
      have hw : IntKind.wrap .i64 ((st.Ret.length : Int) - 1) = ((st.Ret.length - 1 : Nat) : Int) := by rw [wI64 (by omega) (by omega)]; omega
      rw [hw, Int.toNat_natCast, getI_nat, List.getElem?_set_self (by omega), Option.bind_some]
      show ∃ b, cond (decide (IntKind.wrap .i32 ((lastR st).N - 1) > 0)) ((g_spec_l12To m (decR st) to).bind fun y_14 => some y_14) ((g_spec_l12Drop (decR st)).bind fun y_15 => (g_spec_l12To m y_15 (IntKind.wrap .i64 (m.At + 1))).bind fun y_16 => some y_16) = _ ∧ _
      by_cases h2 : IntKind.wrap .i32 ((lastR st).N - 1) > 0
      · rw [if_pos h2, decide_eq_true h2, cond_true, to_eq]
        exact ⟨to, rfl, fun _ => rfl⟩
      · rw [if_neg h2, decide_eq_false h2, cond_false, drop_eq (h.dec (by omega)).b (by show 0 < (st.Ret.set _ _).length; rw [List.length_set]; omega), Option.bind_some, to_eq]
        refine ⟨IntKind.wrap .i64 (m.At + 1), ?_, fun _ => rfl⟩
        show some (goM m (retS (decR st) (st.Ret.set (st.Ret.length - 1) _).dropLast) _) = _
        rw [dropLast_set]; rfl
    · rw [if_pos h1, show ((lastR st).Kind != 1) = true by simp [h1], cond_true, spec_flt h.b]
      exact ⟨0, by show ((some (flt st 11)).bind fun y_4 => (g_spec_l12To m y_4 0).bind fun y_5 => some y_5) = _; rw [Option.bind_some, to_eq]; rfl, fun e => by cases e⟩
def retR (n at_ : Int) (st : GSt) : GSt × Int × Bool := if st.Ret.length = 0 ∨ (lastR st).Kind ≠ 2 then (flt st 11, at_, false) else if (lastR st).N = -1 then (retS st st.Ret.dropLast, at_, true) else if 0 ≤ (lastR st).N ∧ (lastR st).N ≤ n - 1 then (retS st st.Ret.dropLast, (lastR st).N, false) else (flt st 11, at_, false)
theorem leave_eq {st : GSt} (h : SG st) {code : List GIns} (hn : code.length ≤ 1500) (a : Int) : g_impl_Mach_leave_own code (⟨st, a, false⟩ : GMach) = some ((retR code.length a st).2.1, ⟨(retR code.length a st).1, a, (retR code.length a st).2.2⟩) := by
  have := h.b.r
  unfold g_impl_Mach_leave_own retR
  show ((cond (decide ((IntKind.wrap .i64 ((st.Ret.length : Int) - 1)) < 0)) (some true) ((getI st.Ret (IntKind.wrap .i64 ((st.Ret.length : Int) - 1))).bind fun v_6 => some (v_6.Kind != 2)) : Option Bool).bind fun v_5 => cond v_5 _ ((getI st.Ret (IntKind.wrap .i64 ((st.Ret.length : Int) - 1))).bind fun v_7 => (cond ((IntKind.wrap .i64 v_7.N) != (-1)) ((g_impl_within (IntKind.wrap .i64 v_7.N) 0 (IntKind.wrap .i64 ((code.length : Int) - 1))).bind fun y_9 => some (!y_9)) (some false) : Option (Bool)).bind fun v_8 => cond v_8 _ ((subL st.Ret 0 (IntKind.wrap .i64 ((st.Ret.length : Int) - 1))).bind _))) = _
  by_cases h0 : st.Ret.length = 0
  · rw [if_pos (.inl h0), h0]; rfl
  have hN := h.r _ (lastR_mem (st := st) (by omega))
  unfold i32B at hN
  rw [get_r h.b (by omega), sub_r h.b (by omega), wI64 (x := (st.Ret.length : Int) - 1) (by omega) (by omega), decide_eq_false (by omega), cond_false, Option.bind_some, Option.bind_some]
  by_cases h1 : (lastR st).Kind = 2
  · rw [if_neg (by simp [h0, h1]), show ((lastR st).Kind != 2) = false by simp [h1], cond_false, Option.bind_some, wI64 (x := (lastR st).N) (by omega) (by omega), within_eq, wI64 (by omega) (by omega)]
    by_cases h2 : (lastR st).N = -1
    · rw [if_pos h2, h2]; rfl
    · rw [if_neg h2, show ((lastR st).N != -1) = true by simp [h2], cond_true, Option.bind_some, Option.bind_some, show ((lastR st).N == -1) = false by simp [h2]]
      by_cases h3 : 0 ≤ (lastR st).N ∧ (lastR st).N ≤ (code.length : Int) - 1
      · rw [if_pos h3, decide_eq_true h3]; rfl
      · rw [if_neg h3, decide_eq_false h3]; rfl
  · rw [if_pos (.inr h1), show ((lastR st).Kind != 2) = true by simp [h1]]; rfl
theorem retS_eq {st : GSt} (h : SG st) (hf : st.Fault = 0) {n : Int} (hn : 1 ≤ n ∧ n ≤ 1500) (m : GMach) : g_spec_l12Ret m st n = some ⟨(retR n m.At st).1, (if (retR n m.At st).1.Fault = 0 then (retR n m.At st).2.1 else m.At), (retR n m.At st).2.2⟩ := by
  have := h.b.r
  unfold g_spec_l12Ret retR
  by_cases h0 : st.Ret.length = 0
  · rw [if_pos (.inl h0), h0]
    show ((g_spec_l08Fault st 11).bind fun y_7 => (g_spec_l12To m y_7 0).bind fun y_8 => some y_8) = _
    rw [spec_flt h.b, Option.bind_some, to_eq]
    rfl
  have hN := h.r _ (lastR_mem (st := st) (by omega))
  unfold i32B at hN
  rw [show ((st.Ret.length : Int) == 0) = false by rw [beq_eq_false_iff_ne]; omega, cond_false, get_r h.b (by omega), Option.bind_some, Option.bind_some, Option.bind_some]
  by_cases h1 : (lastR st).Kind = 2
  · rw [if_neg (by simp [h0, h1]), show ((lastR st).Kind != 2) = false by simp [h1], cond_false, wI64 (x := (lastR st).N) (by omega) (by omega), specIn_eq, wI64 (by omega) (by omega), drop_eq h.b (by omega), spec_flt h.b]
    by_cases h2 : (lastR st).N = -1
    · rw [if_pos h2, h2, show ((-1 : Int) == -1) = true from rfl, cond_true, Option.bind_some]
      simp only [ite_self]
    · rw [if_neg h2, show ((lastR st).N == -1) = false by simp [h2], cond_false, Option.bind_some]
      by_cases h3 : 0 ≤ (lastR st).N ∧ (lastR st).N ≤ n - 1
      · rw [if_pos h3, decide_eq_true h3, Bool.not_true, cond_false, Option.bind_some, to_eq]; rfl
      · rw [if_neg h3, decide_eq_false h3, Bool.not_false, cond_true, Option.bind_some, to_eq]; rfl
  · rw [if_pos (.inr h1), show ((lastR st).Kind != 2) = true by simp [h1], cond_true, spec_flt h.b, Option.bind_some, to_eq]; rfl
structure MG (code : List GIns) (m : GMach) : Prop where
  s : SG m.St
  a : 0 ≤ m.At ∧ m.At < code.length
  d : m.Done = false
structure Step (code : List GIns) (m m' : GMach) : Prop where
  spec : g_spec_l12Step code m = some m'
  impl : g_impl_Mach_step code m = some m'
  s : SG m'.St
  a : 0 ≤ m'.At ∧ m'.At < code.length
  u : m'.St.Fault ≠ 0 ∨ m'.St.Fuel < m.St.Fuel
theorem step_both {code : List GIns} (hc : CG code) {m : GMach} (h : MG code m) (hf : m.St.Fault = 0) : ∃ m', Step code m m' := by
  obtain ⟨hs, ⟨ha0, ha1⟩, hd⟩ := h
  have hn := hc.n
  have hlt : m.At.toNat < code.length := by omega
  have eg : getI code m.At = some code[m.At.toNat] := getI_int ha0 hlt
  have hmem := hc.all _ (List.getElem_mem hlt)
  generalize hi : code[m.At.toNat] = i at eg hmem
  have hnext : i.Op ≠ 9 → m.At + 1 < code.length := fun h9 => by
    rcases Nat.lt_or_ge (m.At.toNat + 1) code.length with g | g
    · omega
    · exfalso
      have hl := hc.last
      rw [List.getLast?_eq_getElem?, show code.length - 1 = m.At.toNat by omega, List.getElem?_eq_getElem hlt, hi] at hl
      exact h9 (Option.some.inj hl)
  by_cases o9 : i.Op = 9
  · refine ⟨goM m (flt m.St 10) 0, ?_, ?_, hs.flt (by omega) (by omega), ?_, .inl (by show (10 : Int) ≠ 0; omega)⟩
    · unfold g_spec_l12Step
      rw [eg, Option.bind_some, show (i.Op == 9) = true by simp [o9], cond_true, spec_flt hs.b, Option.bind_some, to_eq]; rfl
    · unfold g_impl_Mach_step
      rw [eg, Option.bind_some, show (i.Op == 9) = true by simp [o9], cond_true, hd]; rfl
    · show 0 ≤ (if (10 : Int) = 0 then 0 else m.At) ∧ _
      rw [if_neg (by omega)]; exact ⟨ha0, ha1⟩
  by_cases hu : m.St.Fuel = 0
  · refine ⟨goM m (flt m.St 6) 0, ?_, ?_, hs.flt (by omega) (by omega), ?_, .inl (by show (6 : Int) ≠ 0; omega)⟩
    · unfold g_spec_l12Step
      rw [eg, Option.bind_some, show (i.Op == 9) = false by simp [o9], cond_false, show (m.St.Fuel == 0) = true by simp [hu], cond_true, spec_flt hs.b, Option.bind_some, to_eq]; rfl
    · unfold g_impl_Mach_step
      rw [eg, Option.bind_some, show (i.Op == 9) = false by simp [o9], cond_false, show (m.St.Fuel == 0) = true by simp [hu], cond_true, hd]; rfl
    · show 0 ≤ (if (6 : Int) = 0 then 0 else m.At) ∧ _
      rw [if_neg (by omega)]; exact ⟨ha0, ha1⟩
  have hs1 := hs.fuel hu
  have hub := hs.b.u
  have hf1 : (fuelS m.St).Fault = 0 := hf
  have ew : IntKind.wrap .i64 (m.St.Fuel - 1) = m.St.Fuel - 1 := wI64 (by omega) (by omega)
  have ew1 : IntKind.wrap .i64 (m.At + 1) = m.At + 1 := wI64 (by omega) (by omega)
  -- what is left: the state behind the step and the next place
  have close : ∀ (st' : GSt) (next : Int), SG st' → (st'.Fault = 0 → 0 ≤ next ∧ next < code.length) → (st'.Fault ≠ 0 ∨ st'.Fuel = m.St.Fuel - 1) → g_spec_l12Step code m = some (goM m st' next) → g_impl_Mach_step code m = some (goM m st' next) → ∃ m', Step code m m' := fun st' next g1 g2 g3 g4 g5 =>
    ⟨goM m st' next, g4, g5, g1, by
      unfold goM; split
      · rename_i h0; exact g2 h0
      · exact ⟨ha0, ha1⟩, by rcases g3 with g3 | g3
                             · exact .inl g3
                             · exact .inr (by show st'.Fuel < m.St.Fuel; omega)⟩
  have specS : ∀ R, ((cond (i.Op == 0) ((g_spec_PushN (fuelS m.St) (IntKind.wrap .i32 i.N)).bind fun y_10 => (g_spec_l12To m y_10 (m.At + 1)).bind fun y_11 => some y_11) (cond (i.Op == 1) ((g_spec_Do (fuelS m.St) i.N).bind fun y_12 => (g_spec_l12To m y_12 (m.At + 1)).bind fun y_13 => some y_13) (cond (i.Op == 2) ((g_spec_l12Put (fuelS m.St) (⟨2, IntKind.wrap .i32 (m.At + 1)⟩ : GSlot)).bind fun y_14 => (g_spec_l12To m y_14 i.N).bind fun y_15 => some y_15) (cond (i.Op == 3) ((g_spec_l12To m (fuelS m.St) i.N).bind fun y_16 => some y_16) (cond (i.Op == 6) ((g_spec_l12For m (fuelS m.St)).bind fun y_17 => some y_17) (cond (i.Op == 7) ((g_spec_l12Next m (fuelS m.St) i.N).bind fun y_18 => some y_18) (cond (i.Op == 8) ((g_spec_l12Ret m (fuelS m.St) (code.length : Int)).bind fun y_19 => some y_19) ((g_spec_l12Test m (fuelS m.St) i).bind fun y_20 => some y_20))))))) : Option GMach)) = R → g_spec_l12Step code m = R := fun R hR => by
    unfold g_spec_l12Step
    rw [eg, Option.bind_some, show (i.Op == 9) = false by simp [o9], cond_false, show (m.St.Fuel == 0) = false by simp [hu], cond_false, copyS hs.b, Option.bind_some, ew, ew1]
    exact hR
  have implS : ∀ (st' : GSt) (next : Int), ((cond (i.Op == 0) ((g_impl_St_pushes_inGMach_0 (IntKind.wrap .i32 i.N) (⟨fuelS m.St, m.At, false⟩ : GMach)).bind fun y_7 => some (m.At + 1, y_7)) (cond (i.Op == 1) ((g_impl_does (fuelS m.St) i.N).bind fun y_8 => some (m.At + 1, (⟨y_8, m.At, false⟩ : GMach))) (cond (i.Op == 2) ((g_impl_Mach_back (m.At + 1) (⟨fuelS m.St, m.At, false⟩ : GMach)).bind fun y_9 => cond y_9.1 (some (i.N, y_9.2)) (some (m.At + 1, y_9.2))) (cond (i.Op == 3) (some (i.N, (⟨fuelS m.St, m.At, false⟩ : GMach))) ((cond (i.Op == 4) (some (i.Op == 4)) (some (i.Op == 5)) : Option (Bool)).bind fun v_10 => cond v_10 (cond (decide ((IntKind.wrap .i64 ((m.St.Data.length : Int) - 1)) < 0)) (some (m.At + 1, (⟨flt (fuelS m.St) 2, m.At, false⟩ : GMach))) ((cond (i.Op == 4) ((getI m.St.Data (IntKind.wrap .i64 ((m.St.Data.length : Int) - 1))).bind fun v_12 => cond (v_12 == 0) (some true) (cond (i.Op == 5) ((getI m.St.Data (IntKind.wrap .i64 ((m.St.Data.length : Int) - 1))).bind fun v_13 => some (decide (v_13 ≥ 0))) (some false))) (cond (i.Op == 5) ((getI m.St.Data (IntKind.wrap .i64 ((m.St.Data.length : Int) - 1))).bind fun v_14 => some (decide (v_14 ≥ 0))) (some false)) : Option (Bool)).bind fun v_11 => cond v_11 (some (i.N, (⟨fuelS m.St, m.At, false⟩ : GMach))) (some (m.At + 1, (⟨fuelS m.St, m.At, false⟩ : GMach))))) (cond (i.Op == 6) ((g_impl_St_begin_inGMach_0 (⟨fuelS m.St, m.At, false⟩ : GMach)).bind fun y_15 => some (m.At + 1, y_15)) (cond (i.Op == 7) ((g_impl_St_again_inGMach_0 (⟨fuelS m.St, m.At, false⟩ : GMach)).bind fun y_16 => cond y_16.1 (some (i.N, y_16.2)) (some (m.At + 1, y_16.2))) (cond (i.Op == 8) ((g_impl_Mach_leave_own code (⟨fuelS m.St, m.At, false⟩ : GMach)).bind fun y_17 => some (y_17.1, y_17.2)) (some (m.At + 1, (⟨fuelS m.St, m.At, false⟩ : GMach)))))))))) : Option (Int × GMach))) = some (next, ⟨st', m.At, false⟩) → g_impl_Mach_step code m = some (goM m st' next) := fun st' next hR => by
    unfold g_impl_Mach_step
    rw [eg, Option.bind_some, show (i.Op == 9) = false by simp [o9], cond_false, show (m.St.Fuel == 0) = false by simp [hu], cond_false, ew, ew1, hd]
    refine Eq.trans (congrArg (fun z : Option (Int × GMach) => z.bind fun (next_5, x_6) => cond (x_6.St.Fault == 0) (some (⟨x_6.St, next_5, x_6.Done⟩ : GMach)) (some x_6)) hR) ?_
    exact fin_eq
  have hN : ∀ {α : Type} (x y : Option α), ∀ c : Int, i.Op = c → ∀ e : Int, cond (i.Op == e) x y = if c = e then x else y := fun x y c hc e => by
    rw [hc]; by_cases h : c = e
    · rw [if_pos h, h]; simp
    · rw [if_neg h, show (c == e) = false by simp [h]]; rfl
  have hbN : i.Op = 2 ∨ i.Op = 3 ∨ i.Op = 4 ∨ i.Op = 5 ∨ i.Op = 7 → 0 ≤ i.N ∧ i.N < code.length := fun ho => by
    unfold insB at hmem
    rw [if_neg (by omega), if_neg (by omega), if_pos ho] at hmem
    have := of_decide_eq_true hmem
    omega
  have hat : 0 ≤ m.At + 1 ∧ m.At + 1 < code.length := ⟨by omega, hnext o9⟩
  have hop : i.Op = 0 ∨ i.Op = 1 ∨ i.Op = 2 ∨ i.Op = 3 ∨ (i.Op = 4 ∨ i.Op = 5) ∨ i.Op = 6 ∨ i.Op = 7 ∨ i.Op = 8 := by
    unfold insB at hmem
    by_cases a0 : i.Op = 0
    · exact .inl a0
    rw [if_neg a0] at hmem
    by_cases a1 : i.Op = 1
    · exact .inr (.inl a1)
    rw [if_neg a1] at hmem
    by_cases a2 : i.Op = 2 ∨ i.Op = 3 ∨ i.Op = 4 ∨ i.Op = 5 ∨ i.Op = 7
    · omega
    rw [if_neg a2] at hmem
    by_cases a6 : i.Op = 6 ∨ i.Op = 8 ∨ i.Op = 9
    · omega
    · rw [if_neg a6] at hmem; cases hmem
  rcases hop with o | o | o | o | o | o | o | o
  · -- CLit
    refine close (putS (fuelS m.St) (fuelS m.St) 0 [IntKind.wrap .i32 i.N]) (m.At + 1) (hs1.put hs1 (fun x hx => by rw [List.mem_singleton] at hx; subst hx; exact i32w _)) (fun _ => hat) (.inr (putS_fuel rfl _ _)) (specS _ ?_) (implS _ _ ?_)
    · rw [show (i.Op == 0) = true by simp [o], cond_true]
      unfold g_spec_PushN
      rw [spec_st ⟨by have := hs1.b.r; omega, by have := hs1.b.v; omega⟩, stB_iff.2 hs1.b, Option.bind_some, Bool.not_true, cond_false, show ((fuelS m.St).Fault != 0) = false by simp [hf1], cond_false, put_0 hs1.b (by simp), Option.bind_some, Option.bind_some, to_eq]; rfl
    · rw [show (i.Op == 0) = true by simp [o], cond_true, pushes_eq hs1.b]; rfl
  · -- CPrim
    have hk : nameB i.N = true := by
      unfold insB at hmem
      rw [if_neg (by omega), if_pos o] at hmem; exact hmem
    unfold nameB at hk
    have hk := of_decide_eq_true hk
    obtain ⟨st', e1, e2, e3, e4⟩ := words hs1 hf1 hk.1 hk.2
    refine close st' (m.At + 1) e3 (fun _ => hat) (.inr e4) (specS _ ?_) (implS _ _ ?_)
    · rw [show (i.Op == 0) = false by simp [o], cond_false, show (i.Op == 1) = true by simp [o], cond_true, e1, Option.bind_some, to_eq]; rfl
    · rw [show (i.Op == 0) = false by simp [o], cond_false, show (i.Op == 1) = true by simp [o], cond_true, e2]; rfl
  · -- CCall
    have hb := hbN (.inl o)
    by_cases h24 : (fuelS m.St).Ret.length = 24
    · refine close (flt (fuelS m.St) 3) (m.At + 1) (hs1.flt (by omega) (by omega)) (fun _ => hat) (.inl (by show (3 : Int) ≠ 0; omega)) (specS _ ?_) (implS _ _ ?_)
      · rw [show (i.Op == 0) = false by simp [o], cond_false, show (i.Op == 1) = false by simp [o], cond_false, show (i.Op == 2) = true by simp [o], cond_true, l12put_eq hs1.b, if_pos h24, Option.bind_some, to_eq, goM_flt m _ (by omega) i.N (m.At + 1)]; rfl
      · rw [show (i.Op == 0) = false by simp [o], cond_false, show (i.Op == 1) = false by simp [o], cond_false, show (i.Op == 2) = true by simp [o], cond_true, back_eq hs1.b, if_pos h24]; rfl
    · refine close (retS (fuelS m.St) ((fuelS m.St).Ret ++ [⟨2, IntKind.wrap .i32 (m.At + 1)⟩])) i.N (hs1.ret (by have := hs1.b.r; simp; omega) (fun s hs => ?_) (fun s hs => ?_)) (fun _ => hb) (.inr rfl) (specS _ ?_) (implS _ _ ?_)
      · rcases List.mem_append.1 hs with hs | hs
        · exact hs1.b.rk s hs
        · rw [List.mem_singleton] at hs; subst hs; exact ⟨by show (0 : Int) ≤ 2; omega, by show (2 : Int) ≤ 2; omega⟩
      · rcases List.mem_append.1 hs with hs | hs
        · exact hs1.r s hs
        · rw [List.mem_singleton] at hs; subst hs; exact i32w _
      · rw [show (i.Op == 0) = false by simp [o], cond_false, show (i.Op == 1) = false by simp [o], cond_false, show (i.Op == 2) = true by simp [o], cond_true, l12put_eq hs1.b, if_neg h24, Option.bind_some, to_eq]; rfl
      · rw [show (i.Op == 0) = false by simp [o], cond_false, show (i.Op == 1) = false by simp [o], cond_false, show (i.Op == 2) = true by simp [o], cond_true, back_eq hs1.b, if_neg h24]; rfl
  · -- CJump
    refine close (fuelS m.St) i.N hs1 (fun _ => hbN (.inr (.inl o))) (.inr rfl) (specS _ ?_) (implS _ _ ?_)
    · rw [show (i.Op == 0) = false by simp [o], cond_false, show (i.Op == 1) = false by simp [o], cond_false, show (i.Op == 2) = false by simp [o], cond_false, show (i.Op == 3) = true by simp [o], cond_true, to_eq]; rfl
    · rw [show (i.Op == 0) = false by simp [o], cond_false, show (i.Op == 1) = false by simp [o], cond_false, show (i.Op == 2) = false by simp [o], cond_false, show (i.Op == 3) = true by simp [o], cond_true]
  · -- CZero, CPos
    have hb := hbN (by omega)
    have e45 : (cond (i.Op == 4) (some (i.Op == 4)) (some (i.Op == 5)) : Option Bool) = some true := by rcases o with o | o <;> rw [o] <;> rfl
    have hdl := hs.b.d
    have sp : ∀ R, g_spec_l12Test m (fuelS m.St) i = some R → g_spec_l12Step code m = some R := fun R hR => specS _ (by
      rw [show (i.Op == 0) = false by rw [beq_eq_false_iff_ne]; omega, cond_false, show (i.Op == 1) = false by rw [beq_eq_false_iff_ne]; omega, cond_false, show (i.Op == 2) = false by rw [beq_eq_false_iff_ne]; omega, cond_false, show (i.Op == 3) = false by rw [beq_eq_false_iff_ne]; omega, cond_false,
        show (i.Op == 6) = false by rw [beq_eq_false_iff_ne]; omega, cond_false, show (i.Op == 7) = false by rw [beq_eq_false_iff_ne]; omega, cond_false, show (i.Op == 8) = false by rw [beq_eq_false_iff_ne]; omega, cond_false, hR]; rfl)
    by_cases h0 : m.St.Data.length = 0
    · refine close (flt (fuelS m.St) 2) (m.At + 1) (hs1.flt (by omega) (by omega)) (fun _ => hat) (.inl (by show (2 : Int) ≠ 0; omega)) (sp _ ?_) (implS _ _ ?_)
      · unfold g_spec_l12Test
        rw [show (fuelS m.St).Data = m.St.Data from rfl, h0, spec_flt hs1.b]
        show ((some (flt (fuelS m.St) 2)).bind fun y_5 => (g_spec_l12To m y_5 0).bind fun y_6 => some y_6) = _
        rw [Option.bind_some, to_eq, goM_flt m _ (by omega) 0 (m.At + 1)]; rfl
      · rw [show (i.Op == 0) = false by rw [beq_eq_false_iff_ne]; omega, cond_false, show (i.Op == 1) = false by rw [beq_eq_false_iff_ne]; omega, cond_false, show (i.Op == 2) = false by rw [beq_eq_false_iff_ne]; omega, cond_false, show (i.Op == 3) = false by rw [beq_eq_false_iff_ne]; omega, cond_false, e45, Option.bind_some, cond_true, h0]; rfl
    · have hy := get_y hs.b (by omega)
      have hw : IntKind.wrap .i64 ((m.St.Data.length : Int) - 1) = (m.St.Data.length : Int) - 1 := wI64 (by omega) (by omega)
      obtain ⟨c, c1⟩ : ∃ c : Bool, (cond (i.Op == 4) (cond (yOf m.St == 0) (some true) (cond (i.Op == 5) (some (decide (yOf m.St ≥ 0))) (some false))) (cond (i.Op == 5) (some (decide (yOf m.St ≥ 0))) (some false)) : Option Bool) = some c := by
        cases i.Op == 4
        · cases i.Op == 5 <;> exact ⟨_, rfl⟩
        · cases yOf m.St == 0
          · cases i.Op == 5 <;> exact ⟨_, rfl⟩
          · exact ⟨_, rfl⟩
      have c2 : (cond (i.Op == 4) ((some (yOf m.St) : Option Int).bind fun v_12 => cond (v_12 == 0) (some true) (cond (i.Op == 5) ((some (yOf m.St) : Option Int).bind fun v_13 => some (decide (v_13 ≥ 0))) (some false))) (cond (i.Op == 5) ((some (yOf m.St) : Option Int).bind fun v_14 => some (decide (v_14 ≥ 0))) (some false)) : Option Bool) = some c := c1
      refine close (fuelS m.St) (cond c i.N (m.At + 1)) hs1 (fun _ => by
        cases c
        · exact hat
        · exact hb) (.inr rfl) (sp _ ?_) (implS _ _ ?_)
      · unfold g_spec_l12Test
        rw [show (fuelS m.St).Data = m.St.Data from rfl, show ((m.St.Data.length : Int) == 0) = false by rw [beq_eq_false_iff_ne]; omega, cond_false, hy, Option.bind_some, c1, Option.bind_some, to_eq, to_eq, ew1]
        cases c <;> rfl
      · rw [show (i.Op == 0) = false by rw [beq_eq_false_iff_ne]; omega, cond_false, show (i.Op == 1) = false by rw [beq_eq_false_iff_ne]; omega, cond_false, show (i.Op == 2) = false by rw [beq_eq_false_iff_ne]; omega, cond_false, show (i.Op == 3) = false by rw [beq_eq_false_iff_ne]; omega, cond_false, e45, Option.bind_some, cond_true, hy, hw, decide_eq_false (by omega), cond_false, c2, Option.bind_some]
        cases c <;> rfl
  · -- CFor
    obtain ⟨b, e1, e2⟩ := for_eq hs1.b hf1 m
    have hg : SG (forS (fuelS m.St)) := by
      unfold forS
      split
      · exact hs1.flt (by omega) (by omega)
      · rename_i h0
        split
        · exact hs1.flt (by omega) (by omega)
        · rename_i h24
          have hr := hs1.b.r
          have hdd := hs1.b.d
          refine ⟨⟨by rw [List.length_dropLast]; omega, by simp; omega, hs1.b.m, hs1.b.v, hs1.b.o, hs1.b.i, fun s hs => ?_, hs1.b.vb, hs1.b.c, hs1.b.cl, hs1.b.f, hs1.b.u⟩, fun x hx => hs1.d x (List.dropLast_subset _ hx), hs1.m, hs1.a, fun s hs => ?_⟩
          · rcases List.mem_append.1 hs with hs | hs
            · exact hs1.b.rk s hs
            · rw [List.mem_singleton] at hs; subst hs; exact ⟨by show (0 : Int) ≤ 1; omega, by show (1 : Int) ≤ 2; omega⟩
          · rcases List.mem_append.1 hs with hs | hs
            · exact hs1.r s hs
            · rw [List.mem_singleton] at hs; subst hs; exact hs1.y
    have hfu : (forS (fuelS m.St)).Fuel = m.St.Fuel - 1 := by
      unfold forS
      repeat' split
      all_goals rfl
    have hgo : goM m (forS (fuelS m.St)) b = goM m (forS (fuelS m.St)) (m.At + 1) := by
      unfold goM
      split
      · rename_i h0; rw [e2 h0, ew1]
      · rfl
    refine close (forS (fuelS m.St)) (m.At + 1) hg (fun _ => hat) (.inr hfu) (specS _ ?_) (implS _ _ ?_)
    · rw [show (i.Op == 0) = false by simp [o], cond_false, show (i.Op == 1) = false by simp [o], cond_false, show (i.Op == 2) = false by simp [o], cond_false, show (i.Op == 3) = false by simp [o], cond_false, show (i.Op == 6) = true by simp [o], cond_true, e1, hgo]; rfl
    · rw [show (i.Op == 0) = false by simp [o], cond_false, show (i.Op == 1) = false by simp [o], cond_false, show (i.Op == 2) = false by simp [o], cond_false, show (i.Op == 3) = false by simp [o], cond_false, show (i.Op == 4) = false by simp [o], cond_false, show (i.Op == 5) = false by simp [o], Option.bind_some, cond_false, show (i.Op == 6) = true by simp [o], cond_true, begin_eq hs1.b]; rfl
  · -- CNext
    obtain ⟨b, e1, e2⟩ := next_eq hs1 hf1 m i.N
    have hg : SG (nextS (fuelS m.St)).2 := by
      unfold nextS
      split
      · exact hs1.flt (by omega) (by omega)
      · rename_i h0
        split
        · exact hs1.flt (by omega) (by omega)
        · split
          · exact hs1.dec (by omega)
          · exact hs1.ret (by rw [List.length_dropLast]; have := hs1.b.r; omega) (fun s hs => hs1.b.rk s (List.dropLast_subset _ hs)) (fun s hs => hs1.r s (List.dropLast_subset _ hs))
    have hfu : (nextS (fuelS m.St)).2.Fuel = m.St.Fuel - 1 := by
      unfold nextS
      repeat' split
      all_goals rfl
    have hgo : goM m (nextS (fuelS m.St)).2 b = goM m (nextS (fuelS m.St)).2 (cond (nextS (fuelS m.St)).1 i.N (m.At + 1)) := by
      unfold goM
      split
      · rename_i h0; rw [e2 h0, ew1]; cases (nextS (fuelS m.St)).1 <;> rfl
      · rfl
    refine close (nextS (fuelS m.St)).2 (cond (nextS (fuelS m.St)).1 i.N (m.At + 1)) hg (fun _ => by
      cases (nextS (fuelS m.St)).1
      · exact hat
      · exact hbN (by omega)) (.inr hfu) (specS _ ?_) (implS _ _ ?_)
    · rw [show (i.Op == 0) = false by simp [o], cond_false, show (i.Op == 1) = false by simp [o], cond_false, show (i.Op == 2) = false by simp [o], cond_false, show (i.Op == 3) = false by simp [o], cond_false, show (i.Op == 6) = false by simp [o], cond_false, show (i.Op == 7) = true by simp [o], cond_true, e1, hgo]; rfl
    · rw [show (i.Op == 0) = false by simp [o], cond_false, show (i.Op == 1) = false by simp [o], cond_false, show (i.Op == 2) = false by simp [o], cond_false, show (i.Op == 3) = false by simp [o], cond_false, show (i.Op == 4) = false by simp [o], cond_false, show (i.Op == 5) = false by simp [o], Option.bind_some, cond_false, show (i.Op == 6) = false by simp [o], cond_false, show (i.Op == 7) = true by simp [o], cond_true, again_eq hs1.b]
      cases hx : (nextS (fuelS m.St)).1 <;> (rw [Option.bind_some]; simp only [hx]; rfl)
  · -- CRet
    have e1 := retS_eq hs1 hf1 (n := code.length) (by omega) m
    have e2 := leave_eq hs1 hn.2 m.At
    have hg : SG (retR code.length m.At (fuelS m.St)).1 := by
      have hdr : SG (retS (fuelS m.St) (fuelS m.St).Ret.dropLast) := hs1.ret (by rw [List.length_dropLast]; have := hs1.b.r; omega) (fun s hs => hs1.b.rk s (List.dropLast_subset _ hs)) (fun s hs => hs1.r s (List.dropLast_subset _ hs))
      unfold retR
      split
      · exact hs1.flt (by omega) (by omega)
      · split
        · exact hdr
        · split
          · exact hdr
          · exact hs1.flt (by omega) (by omega)
    have hfu : (retR code.length m.At (fuelS m.St)).1.Fuel = m.St.Fuel - 1 := by
      unfold retR
      repeat' split
      all_goals rfl
    have hnx : 0 ≤ (retR code.length m.At (fuelS m.St)).2.1 ∧ (retR code.length m.At (fuelS m.St)).2.1 < code.length := by
      unfold retR
      split
      · exact ⟨ha0, ha1⟩
      · split
        · exact ⟨ha0, ha1⟩
        · split
          · rename_i h3; exact ⟨h3.1, by show (lastR (fuelS m.St)).N < _; omega⟩
          · exact ⟨ha0, ha1⟩
    refine ⟨⟨(retR code.length m.At (fuelS m.St)).1, (if (retR code.length m.At (fuelS m.St)).1.Fault = 0 then (retR code.length m.At (fuelS m.St)).2.1 else m.At), (retR code.length m.At (fuelS m.St)).2.2⟩, specS _ ?_, ?_, hg, ?_, .inr (by show (retR code.length m.At (fuelS m.St)).1.Fuel < _; omega)⟩
    · rw [show (i.Op == 0) = false by simp [o], cond_false, show (i.Op == 1) = false by simp [o], cond_false, show (i.Op == 2) = false by simp [o], cond_false, show (i.Op == 3) = false by simp [o], cond_false, show (i.Op == 6) = false by simp [o], cond_false, show (i.Op == 7) = false by simp [o], cond_false, show (i.Op == 8) = true by simp [o], cond_true, e1]; rfl
    · unfold g_impl_Mach_step
      rw [eg, Option.bind_some, show (i.Op == 9) = false by simp [o9], cond_false, show (m.St.Fuel == 0) = false by simp [hu], cond_false, ew, ew1, hd, show (i.Op == 0) = false by simp [o], cond_false, show (i.Op == 1) = false by simp [o], cond_false, show (i.Op == 2) = false by simp [o], cond_false, show (i.Op == 3) = false by simp [o], cond_false, show (i.Op == 4) = false by simp [o], cond_false, show (i.Op == 5) = false by simp [o], Option.bind_some, cond_false, show (i.Op == 6) = false by simp [o], cond_false, show (i.Op == 7) = false by simp [o], cond_false, show (i.Op == 8) = true by simp [o], cond_true]
      refine Eq.trans (congrArg (fun z : Option (Int × GMach) => (z.bind fun y_17 => some (y_17.1, y_17.2)).bind fun (next_5, x_6) => cond (x_6.St.Fault == 0) (some (⟨x_6.St, next_5, x_6.Done⟩ : GMach)) (some x_6)) e2) ?_
      show cond ((retR code.length m.At (fuelS m.St)).1.Fault == 0) _ _ = _
      by_cases h0 : (retR code.length m.At (fuelS m.St)).1.Fault = 0
      · rw [show ((retR code.length m.At (fuelS m.St)).1.Fault == 0) = true by simp [h0], if_pos h0]; rfl
      · rw [show ((retR code.length m.At (fuelS m.St)).1.Fault == 0) = false by simp [h0], if_neg h0]; rfl
    · show 0 ≤ (if (retR code.length m.At (fuelS m.St)).1.Fault = 0 then _ else _) ∧ (if (retR code.length m.At (fuelS m.St)).1.Fault = 0 then _ else _) < _
      split
      · exact hnx
      · exact ⟨ha0, ha1⟩
end Go.Proofs.YtceiajigccclnaaGreatDoor
namespace Go.Proofs.YtceiajigccclnaaGreatDoor
open Go Go.Fm
theorem wfI32 {n : Int} (h : (Lit.int .i32 n).wf = true) : -2147483648 ≤ n ∧ n ≤ 2147483647 := by
  unfold Lit.wf at h
  simp [IntKind.min, IntKind.max, IntKind.signed, IntKind.bits] at h
  exact h
theorem wfI64 {n : Int} (h : (Lit.int .i64 n).wf = true) : i64B n := by
  unfold Lit.wf at h
  simp [IntKind.min, IntKind.max, IntKind.signed, IntKind.bits] at h
  exact h
theorem st_num (x : GSt) (g0 : (fun x : GSt => (fun xs : List Int => xs.length ≤ maxLen ∧ ∀ x ∈ xs, (fun n : Int => (Lit.int .i32 n).wf = true) x) x.Data ∧ (fun xs : List GSlot => xs.length ≤ maxLen ∧ ∀ x ∈ xs, (fun x : GSlot => (fun n : Int => (Lit.int .i64 n).wf = true) x.Kind ∧ (fun n : Int => (Lit.int .i32 n).wf = true) x.N) x) x.Ret ∧ (fun n : Int => (Lit.int .i32 n).wf = true) x.A ∧ (fun xs : List Int => xs.length ≤ maxLen ∧ ∀ x ∈ xs, (fun n : Int => (Lit.int .i32 n).wf = true) x) x.Mem ∧ (fun xs : List Int => xs.length ≤ maxLen ∧ ∀ x ∈ xs, (fun n : Int => (Lit.int .u32 n).wf = true) x) x.Cells ∧ (fun xs : List Int => xs.length ≤ maxLen ∧ ∀ x ∈ xs, (fun n : Int => (Lit.int .i64 n).wf = true) x) x.Vars ∧ (fun xs : List Int => xs.length ≤ maxLen ∧ ∀ x ∈ xs, (fun n : Int => (Lit.int .u8 n).wf = true) x) x.Out ∧ (fun xs : List Int => xs.length ≤ maxLen ∧ ∀ x ∈ xs, (fun n : Int => (Lit.int .u8 n).wf = true) x) x.In ∧ (fun n : Int => (Lit.int .i64 n).wf = true) x.Fault ∧ (fun n : Int => (Lit.int .i64 n).wf = true) x.Fuel) x) : StW x ∧ StNum x := by
  obtain ⟨⟨d1, d2⟩, ⟨r1, r2⟩, a, ⟨m1, m2⟩, ⟨c1, c2⟩, ⟨v1, v2⟩, ⟨o1, o2⟩, ⟨i1, i2⟩, f, u⟩ := g0
  have hm : maxLen ≤ LN := by decide
  refine ⟨⟨Nat.le_trans d1 hm, Nat.le_trans r1 hm, Nat.le_trans m1 hm, Nat.le_trans c1 hm, Nat.le_trans v1 hm, Nat.le_trans o1 hm, Nat.le_trans i1 hm⟩, fun y hy => ?_, fun y hy => ?_, ?_, wfI64 f, wfI64 u⟩
  · have := wfI32 (d2 y hy); unfold i64B; omega
  · have := wfI32 (r2 y hy).2; unfold i64B; omega
  · have := wfI32 a; unfold i64B; omega
end Go.Proofs.YtceiajigccclnaaGreatDoor
namespace Go.Proofs.YtceiajigccclnaaGreatDoor
open Go Go.Fm
set_option maxRecDepth 100000
def startB (code : List GIns) (vat : Int) (st : GSt) : Bool := codeB code && (decide (0 ≤ vat ∧ vat ≤ (code.length : Int) - 1) && (StB st && (st.Fault == 0)))
def startM (vat : Int) (st : GSt) : GMach := ⟨if st.Ret.length = 24 then flt st 3 else retS st (st.Ret ++ [⟨2, -1⟩]), vat, false⟩
def zeroM : GMach := ⟨⟨[], [], 0, [], [], [], [], [], 0, 0⟩, 0, false⟩
theorem spec_start {code : List GIns} (hl : code.length ≤ 1048576) (vat : Int) {st : GSt} (hst : StSz st) : g_spec_Start code vat st = some (cond (startB code vat st) (startM vat st) zeroM) := by
  unfold g_spec_Start startB
  rw [spec_code hl, Option.bind_some, specIn_eq, wI64 (by omega) (by omega), Option.bind_some, spec_st hst, Option.bind_some]
  cases h1 : codeB code
  · rfl
  cases h2 : decide (0 ≤ vat ∧ vat ≤ (code.length : Int) - 1)
  · rfl
  cases h3 : StB st
  · rfl
  cases h4 : (st.Fault == 0)
  · rw [show (st.Fault != 0) = true by simpa using h4]; rfl
  · rw [show (st.Fault != 0) = false by simpa using h4, l12put_eq (stB_iff.1 h3)]; rfl
theorem impl_starts {code : List GIns} (hl : code.length ≤ 1048576) (hi : ∀ i ∈ code, i64B i.N) (vat : Int) {st : GSt} (hst : StSz st) : g_impl_starts code vat st = some (startB code vat st) := by
  unfold g_impl_starts startB g_impl_goes
  rw [impl_code hl hi, Option.bind_some, within_eq, wI64 (by omega) (by omega), Option.bind_some, impl_st hst, Option.bind_some]
  cases codeB code
  · rfl
  cases decide (0 ≤ vat ∧ vat ≤ (code.length : Int) - 1)
  · rfl
  cases StB st <;> rfl
theorem impl_start (vat : Int) {st : GSt} (h : SB st) : g_impl_start vat st = some (startM vat st) := by
  unfold g_impl_start startM
  rw [ownS h, Option.bind_some, back_eq h]
  split <;> rfl
theorem SG.start {st : GSt} (h : SG st) (vat : Int) : SG (startM vat st).St := by
  have := h.b.r
  unfold startM
  split
  · exact h.flt (by omega) (by omega)
  · refine h.ret (by simp; omega) (fun s hs => ?_) (fun s hs => ?_)
    · rcases List.mem_append.1 hs with hs | hs
      · exact h.b.rk s hs
      · rw [List.mem_singleton] at hs; subst hs; exact ⟨by show (0 : Int) ≤ 2; omega, by show (2 : Int) ≤ 2; omega⟩
    · rcases List.mem_append.1 hs with hs | hs
      · exact h.r s hs
      · rw [List.mem_singleton] at hs; subst hs; unfold i32B; show -2147483648 ≤ (-1 : Int) ∧ (-1 : Int) ≤ 2147483647; omega
theorem goes_eq {m : GMach} (h : SG m.St) : g_spec_l21Goes m = some (!m.Done && (m.St.Fault == 0)) := by
  unfold g_spec_l21Goes
  rw [h.b.m]
  cases m.Done <;> rfl
theorem over_eq (m : GMach) : g_impl_Mach_over_rd m = some (!(!m.Done && (m.St.Fault == 0))) := by
  unfold g_impl_Mach_over_rd
  cases m.Done <;> simp [bne]
structure StI (st : GSt) : Prop where
  d : ∀ x ∈ st.Data, i32B x
  m : ∀ x ∈ st.Mem, i32B x
  a : i32B st.A
  r : ∀ s ∈ st.Ret, i32B s.N
theorem SG.of {st : GSt} (h : StI st) (hb : SB st) : SG st := ⟨hb, h.d, h.m, h.a, h.r⟩
theorem markNum {β : Type} (val : Nat → β) (s : Nat) (F : Nat → List β → Int → Int → Option (Int × List β)) (f : Int → Option (Int × List β)) {a : List β} (hf : ∀ k, f k = ((F bigK a k 0).bind fun (k, p) => some (k, p) : Option (Int × List β)).bind fun (k, p) => some (k, p))
    (hs : ∀ (k : Nat) (a : List β) (kk n : Nat), n < a.length → a.length ≤ 1048576 → kk ≤ 2000000000 → F (k + 1) a kk n = F k (a.set n (val kk)) ((kk + s : Nat) : Int) ((n + 1 : Nat) : Int))
    (he : ∀ (k : Nat) (a : List β) (kk n : Nat), a.length ≤ n → F (k + 1) a kk n = some ((kk : Int), a)) (ha : a.length ≤ 1048576) {k : Nat} (hk : k + s * a.length ≤ 2000000000) : f k = some (((k + s * a.length : Nat) : Int), marksN val s k a.length) := by
  have := markL val s 2000000000 F hs he bigK [] a k (by omega) (by simpa using ha) (by unfold bigK; omega)
  rw [List.nil_append, List.length_nil, show ((0 : Nat) : Int) = 0 from rfl] at this
  rw [hf, this]; rfl
theorem markInt32S {a : List Int} (h : a.length ≤ 1048576) {k : Nat} (hk : k ≤ 1000000000) : ∃ p, g_laws_markInt32S a (k : Int) = some (((k + 1 * a.length : Nat) : Int), p) :=
  ⟨_, markNum (fun k => IntKind.wrap .i32 k) 1 g_laws_markInt32S_l0 (g_laws_markInt32S a) (fun _ => rfl) (fun f a kk n hn hl hk => by
    rw [g_laws_markInt32S_l0, decide_eq_true (by omega), cond_true, getI_nat, List.getElem?_eq_getElem hn, Option.bind_some, wI64 (x := (kk : Int) + 1) (by omega) (by omega), wI64 (x := (n : Int) + 1) (by omega) (by omega)]; rfl) (fun f a kk n hn => by rw [g_laws_markInt32S_l0, decide_eq_false (by omega), cond_false]) h (by omega)⟩
theorem markUint32S {a : List Int} (h : a.length ≤ 1048576) {k : Nat} (hk : k ≤ 1000000000) : ∃ p, g_laws_markUint32S a (k : Int) = some (((k + 1 * a.length : Nat) : Int), p) :=
  ⟨_, markNum (fun k => IntKind.wrap .u32 k) 1 g_laws_markUint32S_l0 (g_laws_markUint32S a) (fun _ => rfl) (fun f a kk n hn hl hk => by
    rw [g_laws_markUint32S_l0, decide_eq_true (by omega), cond_true, getI_nat, List.getElem?_eq_getElem hn, Option.bind_some, wI64 (x := (kk : Int) + 1) (by omega) (by omega), wI64 (x := (n : Int) + 1) (by omega) (by omega)]; rfl) (fun f a kk n hn => by rw [g_laws_markUint32S_l0, decide_eq_false (by omega), cond_false]) h (by omega)⟩
theorem markByteS {a : List Int} (h : a.length ≤ 1048576) {k : Nat} (hk : k ≤ 1000000000) : ∃ p, g_laws_markByteS a (k : Int) = some (((k + 1 * a.length : Nat) : Int), p) :=
  ⟨_, markNum (fun k => IntKind.wrap .u8 k) 1 g_laws_markByteS_l0 (g_laws_markByteS a) (fun _ => rfl) (fun f a kk n hn hl hk => by
    rw [g_laws_markByteS_l0, decide_eq_true (by omega), cond_true, getI_nat, List.getElem?_eq_getElem hn, Option.bind_some, wI64 (x := (kk : Int) + 1) (by omega) (by omega), wI64 (x := (n : Int) + 1) (by omega) (by omega)]; rfl) (fun f a kk n hn => by rw [g_laws_markByteS_l0, decide_eq_false (by omega), cond_false]) h (by omega)⟩
def intM (k : Nat) : Int := k
theorem markIntS {a : List Int} (h : a.length ≤ 1048576) {k : Nat} (hk : k ≤ 1000000000) : g_laws_markIntS a (k : Int) = some (((k + 1 * a.length : Nat) : Int), marksN intM 1 k a.length) :=
  markNum intM 1 g_laws_markIntS_l0 (g_laws_markIntS a) (fun _ => rfl) (fun f a kk n hn hl hk => by
    rw [g_laws_markIntS_l0, decide_eq_true (by omega), cond_true, getI_nat, List.getElem?_eq_getElem hn, Option.bind_some, wI64 (x := (kk : Int) + 1) (by omega) (by omega), wI64 (x := (n : Int) + 1) (by omega) (by omega)]; rfl) (fun f a kk n hn => by rw [g_laws_markIntS_l0, decide_eq_false (by omega), cond_false]) h (by omega)
def slotM (k : Nat) : GSlot := ⟨k, IntKind.wrap .i32 ((k : Int) + 1)⟩
theorem markSlotS {a : List GSlot} (h : a.length ≤ 1048576) {k : Nat} (hk : k ≤ 1000000000) : ∃ p, g_laws_markSlotS a (k : Int) = some (((k + 2 * a.length : Nat) : Int), p) :=
  ⟨_, markNum slotM 2 g_laws_markSlotS_l0 (g_laws_markSlotS a) (fun _ => rfl) (fun f a kk n hn hl hk => by
    rw [g_laws_markSlotS_l0, decide_eq_true (by omega), cond_true, getI_nat, List.getElem?_eq_getElem hn, Option.bind_some, Int.toNat_natCast, getI_nat, List.getElem?_set_self (by simpa using hn), Option.bind_some, wI64 (x := (kk : Int) + 1) (by omega) (by omega), wI64 (x := (kk : Int) + 1 + 1) (by omega) (by omega), wI64 (x := (n : Int) + 1) (by omega) (by omega), List.set_set]; rfl) (fun f a kk n hn => by rw [g_laws_markSlotS_l0, decide_eq_false (by omega), cond_false]) h (by omega)⟩
def insM (k : Nat) : GIns := ⟨k, (k : Int) + 1⟩
theorem markInsS {a : List GIns} (h : a.length ≤ 1048576) {k : Nat} (hk : k ≤ 1000000000) : ∃ p, g_laws_markInsS a (k : Int) = some (((k + 2 * a.length : Nat) : Int), p) :=
  ⟨_, markNum insM 2 g_laws_markInsS_l0 (g_laws_markInsS a) (fun _ => rfl) (fun f a kk n hn hl hk => by
    rw [g_laws_markInsS_l0, decide_eq_true (by omega), cond_true, getI_nat, List.getElem?_eq_getElem hn, Option.bind_some, Int.toNat_natCast, getI_nat, List.getElem?_set_self (by simpa using hn), Option.bind_some, wI64 (x := (kk : Int) + 1) (by omega) (by omega), wI64 (x := (kk : Int) + 1 + 1) (by omega) (by omega), wI64 (x := (n : Int) + 1) (by omega) (by omega), List.set_set]; rfl) (fun f a kk n hn => by rw [g_laws_markInsS_l0, decide_eq_false (by omega), cond_false]) h (by omega)⟩
theorem markSt {a : GSt} (h : StAll a) {k : Nat} (hk : k ≤ 900000000) : ∃ (n : Nat) (p : _), g_laws_markSt a (k : Int) = some ((n : Int), p) ∧ n ≤ k + 8388608 := by
  have := h.d; have := h.r; have := h.m; have := h.c; have := h.v; have := h.o; have := h.i
  obtain ⟨p1, e1⟩ := markInt32S h.d (k := k) (by omega)
  obtain ⟨p2, e2⟩ := markSlotS h.r (k := k + 1 * a.Data.length) (by omega)
  obtain ⟨p3, e3⟩ := markInt32S h.m (k := k + 1 * a.Data.length + 2 * a.Ret.length) (by omega)
  obtain ⟨p4, e4⟩ := markUint32S h.c (k := k + 1 * a.Data.length + 2 * a.Ret.length + 1 * a.Mem.length) (by omega)
  have e5 := markIntS h.v (k := k + 1 * a.Data.length + 2 * a.Ret.length + 1 * a.Mem.length + 1 * a.Cells.length) (by omega)
  obtain ⟨p6, e6⟩ := markByteS h.o (k := k + 1 * a.Data.length + 2 * a.Ret.length + 1 * a.Mem.length + 1 * a.Cells.length + 1 * a.Vars.length) (by omega)
  obtain ⟨p7, e7⟩ := markByteS h.i (k := k + 1 * a.Data.length + 2 * a.Ret.length + 1 * a.Mem.length + 1 * a.Cells.length + 1 * a.Vars.length + 1 * a.Out.length) (by omega)
  unfold g_laws_markSt
  rw [e1, Option.bind_some, e2, Option.bind_some, e3, Option.bind_some, e4, Option.bind_some, e5, Option.bind_some, e6, Option.bind_some, e7, Option.bind_some]
  exact ⟨_, _, rfl, by omega⟩
theorem toInsS {a : List GIns} (h : a.length ≤ 1048576) : g_laws_toInsS a = some a := by
  unfold g_laws_toInsS
  rw [mk_eq (by omega) (by omega), Option.bind_some, copyLoop (g_laws_toInsS_l0 a) (fun _ _ _ => rfl) (by omega) (by simp)]
  rfl
theorem eqInsS {a : List GIns} (h : a.length ≤ 1048576) : g_laws_eqInsS a a = some true :=
  eqRefl (g_laws_eqInsS_l0 a a) _ rfl (fun k n x hx hn => by
    rw [g_laws_eqInsS_l0, decide_eq_true (by omega), cond_true, getI_nat, hx]
    unfold g_laws_eqIns
    simp only [Option.bind_some, bne_self', cond_false, Bool.not_true]
    rw [nxt (by omega)]) (fun k n hn => by rw [g_laws_eqInsS_l0, decide_eq_false (by omega), cond_false]) (by omega)
theorem fitsInsS {a : List GIns} (h : a.length ≤ LN) : Fits (g_laws_szInsS a) a.length True := Fits.one h fun _ => rfl
theorem fitsTwo {a : List GIns} {st : GSt} (h : a.length ≤ LN) (hw : StW st) (f : Int → Option Bool) (hf : ∀ y, 0 ≤ y → a.length ≤ 1048576 → StAll st → f y = some true) :
    ((g_laws_szInsS a 1048576).bind fun y_5 => cond (decide (y_5 < 0)) (some true) ((g_laws_szSt st y_5).bind fun y_6 => cond (decide (y_6 < 0)) (some true) (f y_6))) = some true := by
  obtain ⟨y, hy, hy2⟩ := fitsInsS h 1048576 (by omega) (by omega)
  rw [hy, Option.bind_some]
  rcases hy2 with hy2 | ⟨h0, h1, _⟩
  · rw [decide_eq_true hy2]; rfl
  · rw [decide_eq_false (by omega), cond_false]
    obtain ⟨z, hz, hz2⟩ := fitsSt hw y h0 (by omega)
    rw [hz, Option.bind_some]
    rcases hz2 with hz2 | ⟨g0, _, hA⟩
    · rw [decide_eq_true hz2]; rfl
    · rw [decide_eq_false (by omega), cond_false]
      exact hf z g0 (by omega) hA
theorem st_i (x : GSt) (g0 : (fun x : GSt => (fun xs : List Int => xs.length ≤ maxLen ∧ ∀ x ∈ xs, (fun n : Int => (Lit.int .i32 n).wf = true) x) x.Data ∧ (fun xs : List GSlot => xs.length ≤ maxLen ∧ ∀ x ∈ xs, (fun x : GSlot => (fun n : Int => (Lit.int .i64 n).wf = true) x.Kind ∧ (fun n : Int => (Lit.int .i32 n).wf = true) x.N) x) x.Ret ∧ (fun n : Int => (Lit.int .i32 n).wf = true) x.A ∧ (fun xs : List Int => xs.length ≤ maxLen ∧ ∀ x ∈ xs, (fun n : Int => (Lit.int .i32 n).wf = true) x) x.Mem ∧ (fun xs : List Int => xs.length ≤ maxLen ∧ ∀ x ∈ xs, (fun n : Int => (Lit.int .u32 n).wf = true) x) x.Cells ∧ (fun xs : List Int => xs.length ≤ maxLen ∧ ∀ x ∈ xs, (fun n : Int => (Lit.int .i64 n).wf = true) x) x.Vars ∧ (fun xs : List Int => xs.length ≤ maxLen ∧ ∀ x ∈ xs, (fun n : Int => (Lit.int .u8 n).wf = true) x) x.Out ∧ (fun xs : List Int => xs.length ≤ maxLen ∧ ∀ x ∈ xs, (fun n : Int => (Lit.int .u8 n).wf = true) x) x.In ∧ (fun n : Int => (Lit.int .i64 n).wf = true) x.Fault ∧ (fun n : Int => (Lit.int .i64 n).wf = true) x.Fuel) x) : StI x := by
  obtain ⟨⟨d1, d2⟩, ⟨r1, r2⟩, a, ⟨m1, m2⟩, ⟨c1, c2⟩, ⟨v1, v2⟩, ⟨o1, o2⟩, ⟨i1, i2⟩, f, u⟩ := g0
  exact ⟨fun y hy => wfI32 (d2 y hy), fun y hy => wfI32 (m2 y hy), wfI32 a, fun y hy => wfI32 (r2 y hy).2⟩
theorem ins_i (x : List GIns) (g0 : (fun xs : List GIns => xs.length ≤ maxLen ∧ ∀ x ∈ xs, (fun x : GIns => (fun n : Int => (Lit.int .i64 n).wf = true) x.Op ∧ (fun n : Int => (Lit.int .i64 n).wf = true) x.N) x) x) : x.length ≤ LN ∧ ∀ i ∈ x, i64B i.N := by
  obtain ⟨h1, h2⟩ := g0
  have hm : maxLen ≤ LN := by decide
  exact ⟨Nat.le_trans h1 hm, fun i hi => wfI64 (h2 i hi).2⟩
end Go.Proofs.YtceiajigccclnaaGreatDoor
namespace Go.Proofs.YtceiajigccclnaaGreatDoor
open Go Go.Fm
set_option maxRecDepth 100000
theorem name_len {k : Int} (h : nameB k = true) : ∃ s, g_spec_PrimName k = some s ∧ (s == []) = false ∧ s.length ≤ 20 := by
  unfold nameB at h
  have h := of_decide_eq_true h
  obtain ⟨n, rfl⟩ : ∃ n : Nat, k = n := ⟨k.toNat, by omega⟩
  have hn : n < 24 := by omega
  match n, hn with
    | 0, _ => exact ⟨_, nm0, rfl, by decide⟩
    | 1, _ => exact ⟨_, nm1, rfl, by decide⟩
    | 2, _ => exact ⟨_, nm2, rfl, by decide⟩
    | 3, _ => exact ⟨_, nm3, rfl, by decide⟩
    | 4, _ => exact ⟨_, nm4, rfl, by decide⟩
    | 5, _ => exact ⟨_, nm5, rfl, by decide⟩
    | 6, _ => exact ⟨_, nm6, rfl, by decide⟩
    | 7, _ => exact ⟨_, nm7, rfl, by decide⟩
    | 8, _ => exact ⟨_, nm8, rfl, by decide⟩
    | 9, _ => exact ⟨_, nm9, rfl, by decide⟩
    | 10, _ => exact ⟨_, nm10, rfl, by decide⟩
    | 11, _ => exact ⟨_, nm11, rfl, by decide⟩
    | 12, _ => exact ⟨_, nm12, rfl, by decide⟩
    | 13, _ => exact ⟨_, nm13, rfl, by decide⟩
    | 14, _ => exact ⟨_, nm14, rfl, by decide⟩
    | 15, _ => exact ⟨_, nm15, rfl, by decide⟩
    | 16, _ => exact ⟨_, nm16, rfl, by decide⟩
    | 17, _ => exact ⟨_, nm17, rfl, by decide⟩
    | 18, _ => exact ⟨_, nm18, rfl, by decide⟩
    | 19, _ => exact ⟨_, nm19, rfl, by decide⟩
    | 20, _ => exact ⟨_, nm20, rfl, by decide⟩
    | 21, _ => exact ⟨_, nm21, rfl, by decide⟩
    | 22, _ => exact ⟨_, nm22, rfl, by decide⟩
    | 23, _ => exact ⟨_, nm23, rfl, by decide⟩
theorem insText_both {n : Int} {i : GIns} (h : insB n i = true) (hN : i64B i.N) : ∃ t, g_spec_InsText i = some t ∧ g_impl_InsText i = some t ∧ t.length ≤ 60 := by
  obtain ⟨o, m⟩ := i
  have hl : (Lib.itoa m).length ≤ 21 := itoa_len hN.1 hN.2
  have num : ∀ (w : List UInt8), w.length ≤ 10 → (catS w [32]).bind (fun v_8 => (some (Lib.itoa m)).bind fun y_9 => (catS v_8 y_9).bind fun v_10 => some v_10) = some (w ++ [32] ++ Lib.itoa m) := fun w hw => by
    rw [catS_eq (by simp; omega), Option.bind_some, Option.bind_some, catS_eq (by simp; omega)]; rfl
  unfold insB at h
  unfold g_spec_InsText g_impl_InsText
  rw [within_eq, specIn_eq, spec_dec hN.1 hN.2, impl_dec hN.1 hN.2, name_eq]
  have cases : o = 1 ∨ (o = 6 ∨ o = 8 ∨ o = 9) ∨ (o = 0 ∨ o = 2 ∨ o = 3 ∨ o = 4 ∨ o = 5 ∨ o = 7) := by
    by_cases h0 : o = 0
    · omega
    · by_cases h1 : o = 1
      · omega
      · by_cases h2 : o = 2 ∨ o = 3 ∨ o = 4 ∨ o = 5 ∨ o = 7
        · omega
        · by_cases h6 : o = 6 ∨ o = 8 ∨ o = 9
          · omega
          · rw [if_neg h0, if_neg h1, if_neg h2, if_neg h6] at h; cases h
  rcases cases with rfl | h6 | h7
  · have hk : nameB m = true := h
    obtain ⟨s, e1, e2, e3⟩ := name_len hk
    rw [e1]
    refine ⟨[100, 111, 32] ++ s, ?_, ?_, by simp; omega⟩
    · show ((some s : Option (List UInt8)).bind fun y_3 => cond (y_3 == []) (some []) ((some s : Option (List UInt8)).bind fun y_4 => (catS [100, 111, 32] y_4).bind fun v_5 => some v_5)) = _
      rw [Option.bind_some, e2, cond_false, Option.bind_some, catS_eq (by simp; omega)]; rfl
    · show (((some s : Option (List UInt8)).bind fun y_7 => cond (y_7 == []) (some (Sum.inr [])) ((catS [100, 111] [32]).bind fun v_8 => (catS v_8 y_7).bind fun v_9 => some (Sum.inr v_9)) : Option (Unit ⊕ List UInt8)).bind _) = _
      rw [Option.bind_some, e2, cond_false, catS_eq (by simp), Option.bind_some, catS_eq (by simp; omega)]; rfl
  · rcases h6 with rfl | rfl | rfl <;> exact ⟨_, rfl, rfl, by decide⟩
  · rcases h7 with rfl | rfl | rfl | rfl | rfl | rfl
    · exact ⟨_, num [108, 105, 116] (by decide), num [108, 105, 116] (by decide), by simp; omega⟩
    · exact ⟨_, num [99, 97, 108, 108] (by decide), num [99, 97, 108, 108] (by decide), by simp; omega⟩
    · exact ⟨_, num [106, 117, 109, 112] (by decide), num [106, 117, 109, 112] (by decide), by simp; omega⟩
    · exact ⟨_, num [122, 101, 114, 111] (by decide), num [122, 101, 114, 111] (by decide), by simp; omega⟩
    · exact ⟨_, num [112, 111, 115] (by decide), num [112, 111, 115] (by decide), by simp; omega⟩
    · exact ⟨_, num [110, 101, 120, 116] (by decide), num [110, 101, 120, 116] (by decide), by simp; omega⟩
theorem StNum.of {st : GSt} (h : SG st) : StNum st := by
  refine ⟨fun y hy => ?_, fun y hy => ?_, ?_, ?_, ?_⟩
  · have := h.d y hy; unfold i32B at this; unfold i64B; omega
  · have := h.r y hy; unfold i32B at this; unfold i64B; omega
  · have := h.a; unfold i32B at this; unfold i64B; omega
  · have := h.b.f; unfold i64B; omega
  · have := h.b.u; unfold i64B; omega
theorem trace_loop {code : List GIns} (hc : CG code) (hi : ∀ i ∈ code, i64B i.N) {n : Int} (hn : n ≤ 200) : ∀ (k : Nat) (m : GMach) (out : List Bs), SG m.St → 0 ≤ m.At ∧ m.At < code.length → out.length ≤ 200 → 201 - out.length < k →
    ∃ r, g_spec_Trace_l0 code n k out m = some r ∧ g_impl_Trace_l0 code n k out m = some r ∧ r.1.length ≤ 200 := by
  intro k
  induction k with
  | zero => intro m out h _ _ h2; omega
  | succ k ih =>
    intro m out h ha ho hu
    cases hg : ((!m.Done && (m.St.Fault == 0)) && decide ((out.length : Int) < n))
    · refine ⟨(out, m), ?_, ?_, ho⟩
      · rw [g_spec_Trace_l0, goes_eq h]
        revert hg
        cases decide ((out.length : Int) < n) <;> cases (!m.Done && (m.St.Fault == 0)) <;> intro hg <;> first | rfl | cases hg
      · rw [g_impl_Trace_l0, over_eq]
        revert hg
        cases decide ((out.length : Int) < n) <;> cases (!m.Done && (m.St.Fault == 0)) <;> intro hg <;> first | rfl | cases hg
    · rw [Bool.and_eq_true] at hg
      obtain ⟨hg', hlt⟩ := hg
      have hg := hg'
      simp only [Bool.and_eq_true, Bool.not_eq_true', beq_iff_eq] at hg
      obtain ⟨m', hs⟩ := step_both hc ⟨h, ha, hg.1⟩ hg.2
      have hat : m.At.toNat < code.length := by omega
      have ei : getI code m.At = some code[m.At.toNat] := by unfold getI; rw [if_pos (by omega)]; exact List.getElem?_eq_getElem hat
      have hmem := List.getElem_mem hat
      obtain ⟨t, t1, t2, t3⟩ := insText_both (hc.all _ hmem) (hi _ hmem)
      obtain ⟨u, u1, u2, u3⟩ := stText_both (st := m'.St) ⟨by have := hs.s.b.r; omega, by have := hs.s.b.v; omega⟩ (.of hs.s)
      have c1 : catS t [32, 61, 32] = some (t ++ [32, 61, 32]) := catS_eq (by simp; omega)
      have c2 : catS (t ++ [32, 61, 32]) u = some (t ++ [32, 61, 32] ++ u) := catS_eq (by simp; omega)
      have hlt' := of_decide_eq_true hlt
      have c3 : app out [t ++ [32, 61, 32] ++ u] = some (out ++ [t ++ [32, 61, 32] ++ u]) := app_eq (by simp; omega)
      have e1 : g_spec_Trace_l0 code n (k + 1) out m = g_spec_Trace_l0 code n k (out ++ [t ++ [32, 61, 32] ++ u]) m' := by
        rw [g_spec_Trace_l0, goes_eq h, hg', hlt]
        simp only [Option.bind_some, cond_true, ei, t1, hs.spec, c1, u1, c2, c3]
      have e2 : g_impl_Trace_l0 code n (k + 1) out m = g_impl_Trace_l0 code n k (out ++ [t ++ [32, 61, 32] ++ u]) m' := by
        rw [g_impl_Trace_l0, over_eq, hg', hlt]
        simp only [Option.bind_some, cond_true, Bool.not_true, Bool.not_false, ei, t2, hs.impl, c1, u2, c2, c3]
      rw [e1, e2]
      exact ih m' _ hs.s hs.a (by simp; omega) (by simp; omega)
theorem trace_both {code : List GIns} (hl : code.length ≤ 1048576) (hi : ∀ i ∈ code, i64B i.N) (vat n : Int) {st : GSt} (hst : StSz st) (hn : StI st) : ∃ r, g_spec_Trace code vat st n = some r ∧ g_impl_Trace code vat st n = some r ∧ r.length ≤ 200 := by
  unfold g_spec_Trace g_impl_Trace
  rw [spec_start hl vat hst, impl_starts hl hi vat hst, specIn_eq, within_eq]
  cases hb : startB code vat st
  · refine ⟨[], ?_, rfl, by simp⟩
    simp only [Option.bind_some, cond_false]
    cases decide (0 ≤ n ∧ n ≤ 200)
    · rfl
    · have : ∀ k, g_spec_Trace_l0 code n (k + 1) [] zeroM = some ([], zeroM) := fun k => by
        rw [g_spec_Trace_l0]
        show ((cond (decide (((([] : List Bs).length : Nat) : Int) < n)) (some false) (some false) : Option Bool).bind _) = _
        cases decide (((([] : List Bs).length : Nat) : Int) < n) <;> rfl
      have e : bigK = (bigK - 1) + 1 := by unfold bigK; omega
      rw [e, this]; rfl
  · cases hn2 : decide (0 ≤ n ∧ n ≤ 200)
    · exact ⟨[], rfl, rfl, by simp⟩
    · have hn2 := of_decide_eq_true hn2
      unfold startB at hb
      simp only [Bool.and_eq_true, decide_eq_true_eq] at hb
      obtain ⟨h1, h2, h3, h4⟩ := hb
      have hg : SG st := .of hn (stB_iff.1 h3)
      have hs := hg.start vat
      have hc := CG.of h1
      obtain ⟨r, e1, e2, e3⟩ := trace_loop hc hi hn2.2 bigK (startM vat st) [] hs ⟨h2.1, by show vat < _; omega⟩ (by simp) (by unfold bigK; simp)
      simp only [Option.bind_some, cond_true, Bool.not_true, cond_false]
      rw [impl_start vat hg.b]
      simp only [Option.bind_some]
      rw [e1, e2]
      exact ⟨r.1, rfl, rfl, e3⟩
theorem markText_ok {k : Nat} (hk : k ≤ 16777216) : Tot (g_laws_markText k) fun _ => True := by
  unfold g_laws_markText
  have key : ∀ (f kk : Nat) (out : Bs), kk < f → kk + out.length ≤ 16777216 → Tot (g_laws_markText_l0 f kk out) fun r => r.length ≤ 16777216 := by
    intro f
    induction f with
    | zero => intro kk out h0; omega
    | succ f ih =>
      intro kk out h0 h1
      unfold g_laws_markText_l0
      refine .condD (fun h => ?_) fun h => .some (by omega)
      refine .bindE (catS_eq (by simp [strOf]; omega)) ?_
      rw [Int.tdiv_eq_ediv_of_nonneg (by omega), wI64 (by omega) (by omega), show (kk : Int) / 10 = ((kk / 10 : Nat) : Int) by omega]
      exact ih _ _ (by omega) (by simp [strOf]; omega)
  refine .condD (fun _ => .some trivial) fun _ => .bind (key bigK k [] (by unfold bigK; omega) (by simp; omega)) fun r hr => .bindE (catS_eq (by simp; omega)) (.some trivial)
def mt (k : Nat) : Bs := (g_laws_markText k).getD []
theorem mt_eq {k : Nat} (hk : k ≤ 16777216) : g_laws_markText k = some (mt k) := by
  obtain ⟨r, hr, _⟩ := markText_ok hk
  unfold mt
  rw [hr]; rfl
theorem markStringS {a : List Bs} (h : a.length ≤ 1048576) {k : Nat} (hk : k ≤ 1000000) : g_laws_markStringS a (k : Int) = some (((k + 1 * a.length : Nat) : Int), marksN mt 1 k a.length) := by
  have := markL mt 1 16777216 (g_laws_markStringS_l0) (fun f a kk n hn hl hk => by
    rw [g_laws_markStringS_l0, decide_eq_true (by omega), cond_true, mt_eq hk, Option.bind_some, getI_nat, List.getElem?_eq_getElem hn, Option.bind_some]
    rw [wI64 (x := (kk : Int) + 1) (by omega) (by omega), wI64 (x := (n : Int) + 1) (by omega) (by omega)]
    rfl) (fun f a kk n hn => by rw [g_laws_markStringS_l0, decide_eq_false (by omega), cond_false]) bigK [] a k (by omega) (by simpa using h) (by unfold bigK; omega)
  unfold g_laws_markStringS
  rw [List.nil_append, List.length_nil, show ((0 : Nat) : Int) = 0 from rfl] at this
  rw [this]; rfl
theorem heldStringS {n k : Nat} (h : n ≤ 1048576) (hk : k ≤ 1000000) : g_laws_heldStringS (marksN mt 1 k n) (k : Int) = some ((k + 1 * n : Nat) : Int) := by
  have := heldL mt 1 16777216 (L := marksN mt 1 k n) (g_laws_heldStringS_l0 (marksN mt 1 k n)) (fun f kk i hi hl hk he => by
    rw [g_laws_heldStringS_l0, decide_eq_true (by omega), cond_true, getI_nat, List.getElem?_eq_getElem hi, Option.bind_some, he, mt_eq hk, Option.bind_some]
    rw [wI64 (x := (kk : Int) + 1) (by omega) (by omega), wI64 (x := (i : Int) + 1) (by omega) (by omega), bne_self', cond_false]
    rfl) (fun f kk i hi => by rw [g_laws_heldStringS_l0, decide_eq_false (by omega), cond_false]) bigK [] k n (by simp) (by rw [marksN_len]; exact h) (by omega) (by unfold bigK; omega)
  unfold g_laws_heldStringS
  rw [List.length_nil, show ((0 : Nat) : Int) = 0 from rfl] at this
  rw [this]; rfl
theorem eqStringS {a : List Bs} (h : a.length ≤ 1048576) : g_laws_eqStringS a a = some true :=
  eqRefl (g_laws_eqStringS_l0 a a) _ rfl (fun k n x hx hn => by
    rw [g_laws_eqStringS_l0, decide_eq_true (by omega), cond_true, getI_nat, hx]
    simp only [Option.bind_some, bne_self', cond_false]
    rw [nxt (by omega)]) (fun k n hn => by rw [g_laws_eqStringS_l0, decide_eq_false (by omega), cond_false]) (by omega)
theorem law_trace {code : List GIns} {st : GSt} (hcl : code.length ≤ LN) (hi : ∀ i ∈ code, i64B i.N) (hw : StW st) (hn : StI st) (vat n : Int) : g_laws_FnExactTrace code vat st n = some true := by
  unfold g_laws_FnExactTrace
  refine fitsTwo hcl hw _ fun y hy hl hA => ?_
  obtain ⟨r, e1, e2, e3⟩ := trace_both hl hi vat n (st := st) ⟨hA.r, hA.v⟩ hn
  obtain ⟨p1, m1⟩ := markInsS hl (k := 1) (by omega)
  obtain ⟨n2, p2, m2, m2'⟩ := markSt hA (k := 1 + 2 * code.length) (by omega)
  have m3 := markStringS (a := r) (by omega) (k := 1) (by omega)
  have m4 := heldStringS (n := r.length) (k := 1) (by omega) (by omega)
  rw [show (1 : Int) = ((1 : Nat) : Int) from rfl]
  simp only [toInsS hl, toSt_eq hA, Option.bind_some, e1, e2, eqStringS (a := r) (by omega), eqInsS hl, eqSt_eq hA, Bool.not_true, cond_false, m1, m2, m3, m4]
  rw [decide_eq_false (by omega), cond_false, Option.bind_some, cond_false, decide_eq_false (by omega), cond_false, bne_self_eq_false]
  rfl
end Go.Proofs.YtceiajigccclnaaGreatDoor

namespace Go.Proofs.YtceiajigccclnaaGreatDoor
open Go Go.Fm
set_option maxRecDepth 100000
theorem typed_GIns : Typed [.int .i64, .int .i64] GIns.cs (fun x : GIns => (fun n : Int => (Lit.int .i64 n).wf = true) x.Op ∧ (fun n : Int => (Lit.int .i64 n).wf = true) x.N) := fun row hl h => by
  match row, hl with
  | [c0, c1], _ =>
    obtain ⟨x0, e0, g0⟩ := (typed_int .i64) [c0] rfl (Go.Fm.one_cell (h 0 _ c0 rfl rfl))
    obtain ⟨x1, e1, g1⟩ := (typed_int .i64) [c1] rfl (Go.Fm.one_cell (h 1 _ c1 rfl rfl))
    obtain rfl := (List.cons.inj e0).1
    obtain rfl := (List.cons.inj e1).1
    exact ⟨(⟨x0, x1⟩ : GIns), rfl, ⟨g0, g1⟩⟩
theorem typed_GSlot : Typed [.int .i64, .int .i32] GSlot.cs (fun x : GSlot => (fun n : Int => (Lit.int .i64 n).wf = true) x.Kind ∧ (fun n : Int => (Lit.int .i32 n).wf = true) x.N) := fun row hl h => by
  match row, hl with
  | [c0, c1], _ =>
    obtain ⟨x0, e0, g0⟩ := (typed_int .i64) [c0] rfl (Go.Fm.one_cell (h 0 _ c0 rfl rfl))
    obtain ⟨x1, e1, g1⟩ := (typed_int .i32) [c1] rfl (Go.Fm.one_cell (h 1 _ c1 rfl rfl))
    obtain rfl := (List.cons.inj e0).1
    obtain rfl := (List.cons.inj e1).1
    exact ⟨(⟨x0, x1⟩ : GSlot), rfl, ⟨g0, g1⟩⟩
theorem typed_GSt : Typed [.sl [.int .i32], .sl [.int .i64, .int .i32], .int .i32, .sl [.int .i32], .sl [.int .u32], .sl [.int .i64], .sl [.int .u8], .sl [.int .u8], .int .i64, .int .i64] GSt.cs (fun x : GSt => (fun xs : List Int => xs.length ≤ maxLen ∧ ∀ x ∈ xs, (fun n : Int => (Lit.int .i32 n).wf = true) x) x.Data ∧ (fun xs : List GSlot => xs.length ≤ maxLen ∧ ∀ x ∈ xs, (fun x : GSlot => (fun n : Int => (Lit.int .i64 n).wf = true) x.Kind ∧ (fun n : Int => (Lit.int .i32 n).wf = true) x.N) x) x.Ret ∧ (fun n : Int => (Lit.int .i32 n).wf = true) x.A ∧ (fun xs : List Int => xs.length ≤ maxLen ∧ ∀ x ∈ xs, (fun n : Int => (Lit.int .i32 n).wf = true) x) x.Mem ∧ (fun xs : List Int => xs.length ≤ maxLen ∧ ∀ x ∈ xs, (fun n : Int => (Lit.int .u32 n).wf = true) x) x.Cells ∧ (fun xs : List Int => xs.length ≤ maxLen ∧ ∀ x ∈ xs, (fun n : Int => (Lit.int .i64 n).wf = true) x) x.Vars ∧ (fun xs : List Int => xs.length ≤ maxLen ∧ ∀ x ∈ xs, (fun n : Int => (Lit.int .u8 n).wf = true) x) x.Out ∧ (fun xs : List Int => xs.length ≤ maxLen ∧ ∀ x ∈ xs, (fun n : Int => (Lit.int .u8 n).wf = true) x) x.In ∧ (fun n : Int => (Lit.int .i64 n).wf = true) x.Fault ∧ (fun n : Int => (Lit.int .i64 n).wf = true) x.Fuel) := fun row hl h => by
  match row, hl with
  | [c0, c1, c2, c3, c4, c5, c6, c7, c8, c9], _ =>
    obtain ⟨x0, e0, g0⟩ := (typed_sl (typed_int .i32) rfl (by decide)) [c0] rfl (Go.Fm.one_cell (h 0 _ c0 rfl rfl))
    obtain ⟨x1, e1, g1⟩ := (typed_sl (typed_GSlot) rfl (by decide)) [c1] rfl (Go.Fm.one_cell (h 1 _ c1 rfl rfl))
    obtain ⟨x2, e2, g2⟩ := (typed_int .i32) [c2] rfl (Go.Fm.one_cell (h 2 _ c2 rfl rfl))
    obtain ⟨x3, e3, g3⟩ := (typed_sl (typed_int .i32) rfl (by decide)) [c3] rfl (Go.Fm.one_cell (h 3 _ c3 rfl rfl))
    obtain ⟨x4, e4, g4⟩ := (typed_sl (typed_int .u32) rfl (by decide)) [c4] rfl (Go.Fm.one_cell (h 4 _ c4 rfl rfl))
    obtain ⟨x5, e5, g5⟩ := (typed_sl (typed_int .i64) rfl (by decide)) [c5] rfl (Go.Fm.one_cell (h 5 _ c5 rfl rfl))
    obtain ⟨x6, e6, g6⟩ := (typed_sl (typed_int .u8) rfl (by decide)) [c6] rfl (Go.Fm.one_cell (h 6 _ c6 rfl rfl))
    obtain ⟨x7, e7, g7⟩ := (typed_sl (typed_int .u8) rfl (by decide)) [c7] rfl (Go.Fm.one_cell (h 7 _ c7 rfl rfl))
    obtain ⟨x8, e8, g8⟩ := (typed_int .i64) [c8] rfl (Go.Fm.one_cell (h 8 _ c8 rfl rfl))
    obtain ⟨x9, e9, g9⟩ := (typed_int .i64) [c9] rfl (Go.Fm.one_cell (h 9 _ c9 rfl rfl))
    obtain rfl := (List.cons.inj e0).1
    obtain rfl := (List.cons.inj e1).1
    obtain rfl := (List.cons.inj e2).1
    obtain rfl := (List.cons.inj e3).1
    obtain rfl := (List.cons.inj e4).1
    obtain rfl := (List.cons.inj e5).1
    obtain rfl := (List.cons.inj e6).1
    obtain rfl := (List.cons.inj e7).1
    obtain rfl := (List.cons.inj e8).1
    obtain rfl := (List.cons.inj e9).1
    exact ⟨(⟨x0, x1, x2, x3, x4, x5, x6, x7, x8, x9⟩ : GSt), rfl, ⟨g0, g1, g2, g3, g4, g5, g6, g7, g8, g9⟩⟩
theorem ans_FnExactTrace (x0 : List GIns) (g0 : (fun xs : List GIns => xs.length ≤ maxLen ∧ ∀ x ∈ xs, (fun x : GIns => (fun n : Int => (Lit.int .i64 n).wf = true) x.Op ∧ (fun n : Int => (Lit.int .i64 n).wf = true) x.N) x) x0) (x1 : Int) (g1 : (fun n : Int => (Lit.int .i64 n).wf = true) x1) (x2 : GSt) (g2 : (fun x : GSt => (fun xs : List Int => xs.length ≤ maxLen ∧ ∀ x ∈ xs, (fun n : Int => (Lit.int .i32 n).wf = true) x) x.Data ∧ (fun xs : List GSlot => xs.length ≤ maxLen ∧ ∀ x ∈ xs, (fun x : GSlot => (fun n : Int => (Lit.int .i64 n).wf = true) x.Kind ∧ (fun n : Int => (Lit.int .i32 n).wf = true) x.N) x) x.Ret ∧ (fun n : Int => (Lit.int .i32 n).wf = true) x.A ∧ (fun xs : List Int => xs.length ≤ maxLen ∧ ∀ x ∈ xs, (fun n : Int => (Lit.int .i32 n).wf = true) x) x.Mem ∧ (fun xs : List Int => xs.length ≤ maxLen ∧ ∀ x ∈ xs, (fun n : Int => (Lit.int .u32 n).wf = true) x) x.Cells ∧ (fun xs : List Int => xs.length ≤ maxLen ∧ ∀ x ∈ xs, (fun n : Int => (Lit.int .i64 n).wf = true) x) x.Vars ∧ (fun xs : List Int => xs.length ≤ maxLen ∧ ∀ x ∈ xs, (fun n : Int => (Lit.int .u8 n).wf = true) x) x.Out ∧ (fun xs : List Int => xs.length ≤ maxLen ∧ ∀ x ∈ xs, (fun n : Int => (Lit.int .u8 n).wf = true) x) x.In ∧ (fun n : Int => (Lit.int .i64 n).wf = true) x.Fault ∧ (fun n : Int => (Lit.int .i64 n).wf = true) x.Fuel) x2) (x3 : Int) (g3 : (fun n : Int => (Lit.int .i64 n).wf = true) x3) :
    Ans Tryz.prog 5 [.one (.imm 2 x0.length (x0.flatMap GIns.cs)), .one (.int .i64 x1), .agg [.imm 1 x2.Data.length (x2.Data.flatMap (eI .i32)), .imm 2 x2.Ret.length (x2.Ret.flatMap GSlot.cs), .int .i32 x2.A, .imm 1 x2.Mem.length (x2.Mem.flatMap (eI .i32)), .imm 1 x2.Cells.length (x2.Cells.flatMap (eI .u32)), .imm 1 x2.Vars.length (x2.Vars.flatMap (eI .i64)), .imm 1 x2.Out.length (x2.Out.flatMap (eI .u8)), .imm 1 x2.In.length (x2.In.flatMap (eI .u8)), .int .i64 x2.Fault, .int .i64 x2.Fuel], .one (.int .i64 x3)] [] fun v _ => v = Go.Fm.one (.bool true) := fun hm => by
  obtain ⟨r, h1, a, b, c, _⟩ := ce_laws_FnExactTrace (x0, x1, x2, x3) true (good_pure rfl rfl) (law_trace (ins_i x0 g0).1 (ins_i x0 g0).2 (st_num x2 g2).1 (st_i x2 g2) x1 x3) hm
  exact ⟨r, h1, a, b⟩
end Go.Proofs.YtceiajigccclnaaGreatDoor
