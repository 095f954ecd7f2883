import Derived.Test.YtkjjcpgickjidaaFm4
/-! Each operation of the machine is what the model's operation does: addresses, loads, slices. -/
namespace Go.Fm
set_option linter.unusedVariables false
set_option linter.unusedSimpArgs false
variable {P : Program} {o : Oper} {φ : St} {nid : Nat}

theorem fieldPlace_run {fd : Field} {size : Nat} (hs : sizeF P fd.type = some size) (h0 : size ≠ 0) (a : Addr) (w : World) :
    (fieldPlace a fd).run P w = .ok (a.add fd.offset) w := by
  simp [fieldPlace, sizeF_run hs, h0]

theorem add_lit (b o n : Nat) : Addr.add ⟨b, o, none⟩ n = ⟨b, o + n, none⟩ := Addr.add_lit b o n

theorem RSV.ptr {w : World} {Sh : Nat → Prop} {ρ : Rho} {h : Nat → HS} {v : Value} {id off : Nat} {b : Blk} (hv : RSV w Sh ρ h v (Fm.one (.ptr id off))) (hb : h id = .live b) :
    ∃ L, ρ id = some L ∧ v = .pointer (some ⟨L.b, L.o + off, none⟩) := by
  have hv' : RPtr ρ h v id off := hv
  unfold RPtr at hv'
  rw [hb] at hv'
  exact hv'

theorem RSV.ip {w : World} {Sh : Nat → Prop} {ρ : Rho} {h : Nat → HS} {v : Value} {cs : List CV} (hv : RSV w Sh ρ h v (Fm.one (.ip cs))) : RI w Sh v (.ip cs) := hv
theorem RSV.arr {w : World} {Sh : Nat → Prop} {ρ : Rho} {h : Nat → HS} {v : Value} {id lo n : Nat} {b : Blk} (hv : RSV w Sh ρ h v (Fm.one (.arr id lo n))) (hb : h id = .live b) :
    RArr (ρ id) b.sz b.n v lo n := by
  have hv' : RV w Sh ρ h v (.arr id lo n) := hv
  simp only [RV] at hv'
  rw [hb] at hv'
  exact hv'
theorem RSV.imm {w : World} {Sh : Nat → Prop} {ρ : Rho} {h : Nat → HS} {v : Value} {sz n : Nat} {cs : List CV} (hv : RSV w Sh ρ h v (Fm.one (.imm sz n cs))) : RI w Sh v (.imm sz n cs) := hv
theorem RSV.emp {w : World} {Sh : Nat → Prop} {ρ : Rho} {h : Nat → HS} {v : Value} (hv : RSV w Sh ρ h v (Fm.one .emp)) : ∃ a, v = .slice a 0 0 := by cases hv; exact ⟨_, rfl⟩

theorem RI.ip_drop {w : World} {Sh : Nat → Prop} {b off : Nat} {cs : List CV} (hv : RI w Sh (.pointer (some ⟨b, off, none⟩)) (.ip cs)) (k : Nat) : RI w Sh (.pointer (some ⟨b, off + k, none⟩)) (.ip (cs.drop k)) := by
  cases hv with
  | ip _ _ _ vals hs hc hr =>
    refine .ip b (off + k) _ (fun j => vals (k + j)) hs (fun j hj => ?_) (fun j c hj => ?_)
    · simp at hj
      rw [Nat.add_assoc]
      exact hc _ (by omega)
    · rw [List.getElem?_drop] at hj
      exact hr _ _ hj

/-- A pointer that is none of the machine's live ones any more. -/
theorem RSV.ptr_shape {w : World} {Sh : Nat → Prop} {ρ : Rho} {h : Nat → HS} {v : Value} {id off : Nat} (hv : RSV w Sh ρ h v (Fm.one (.ptr id off))) : RPtr ρ h v id off := hv

theorem ok_fieldAddr_ip {t : TypeId} {x : Operand} {f : Nat} {q : Nat × TypeId} {size : Nat} {cs : List CV} (ho : o.op = .fieldAddr t x f) (hq : foffF P t f = some q)
    (hs : sizeF P q.2 = some size) (h0 : size ≠ 0) (hx : φ.ev x = one (.ip cs)) : ActOk P o φ nid ⟨[], one (.ip (cs.drop q.1)), []⟩ :=
  .quiet fun C φ' a w ρ hP hag R => by
    have hv := R.ev x
    rw [hag.env x (by simp [ho, Op.operands]), hx] at hv
    have hv := hv.ip
    unfold foffF at hq
    split at hq
    · rename_i fs hu
      obtain ⟨fd, hf, rfl⟩ := Option.map_eq_some_iff.1 hq
      generalize hev : a.eval x = v at hv
      cases hv with
      | ip b off _ vals hsh hc hr =>
        refine ⟨.pointer (some ⟨b, off + fd.offset, none⟩), ?_, RSV.of_RI ((RI.ip b off cs vals hsh hc hr).ip_drop _)⟩
        simp only [execOp, ho, hev, Instr.fieldAt, Sem.run_bind, run_underlying hu, Result.andThen_ok, hf, Instr.sureAddr, Sem.run_pure, fieldPlace_run hs h0, add_lit]
    · cases hq

theorem ok_fieldAddr {t : TypeId} {x : Operand} {f : Nat} {q : Nat × TypeId} {size id off : Nat} {b : Blk} (ho : o.op = .fieldAddr t x f) (hq : foffF P t f = some q)
    (hs : sizeF P q.2 = some size) (h0 : size ≠ 0) (hx : φ.ev x = one (.ptr id off)) (hb : φ.heap id = .live b) : ActOk P o φ nid ⟨[id], one (.ptr id (off + q.1)), []⟩ :=
  .quiet fun C φ' a w ρ hP hag R => by
    have hv := R.ev x
    rw [hag.env x (by simp [ho, Op.operands]), hx] at hv
    have hb' : φ'.heap id = .live b := (hag.hp id (by simp)).trans hb
    obtain ⟨L, hL, he⟩ := hv.ptr hb'
    unfold foffF at hq
    split at hq
    · rename_i fs hu
      obtain ⟨fd, hf, rfl⟩ := Option.map_eq_some_iff.1 hq
      refine ⟨.pointer (some ⟨L.b, L.o + (off + fd.offset), none⟩), ?_, ?_⟩
      · simp only [execOp, ho, he, Instr.fieldAt, Sem.run_bind, run_underlying hu, Result.andThen_ok, hf, Instr.sureAddr, Sem.run_pure, fieldPlace_run hs h0, add_lit, Nat.add_assoc]
      · show RPtr ρ φ'.heap _ id (off + fd.offset)
        unfold RPtr
        rw [hb']
        exact ⟨L, hL, rfl⟩
    · cases hq

theorem ok_nilCheck_ip {x : Operand} {cs : List CV} (ho : o.op = .nilCheck x) (hx : φ.ev x = one (.ip cs)) : ActOk P o φ nid ⟨[], one (.ip cs), []⟩ :=
  .quiet fun C φ' a w ρ hP hag R => by
    have hv := R.ev x
    rw [hag.env x (by simp [ho, Op.operands]), hx] at hv
    refine ⟨a.eval x, ?_, hv⟩
    have hv := hv.ip
    generalize he : a.eval x = v at hv
    cases hv with
    | ip b off _ vals hsh hc hr => simp [execOp, ho, he]

theorem ok_nilCheck {x : Operand} {id off : Nat} {b : Blk} (ho : o.op = .nilCheck x) (hx : φ.ev x = one (.ptr id off)) (hb : φ.heap id = .live b) : ActOk P o φ nid ⟨[id], one (.ptr id off), []⟩ :=
  .quiet fun C φ' a w ρ hP hag R => by
    have hv := R.ev x
    rw [hag.env x (by simp [ho, Op.operands]), hx] at hv
    have hb' : φ'.heap id = .live b := (hag.hp id (by simp)).trans hb
    refine ⟨a.eval x, ?_, hv⟩
    obtain ⟨L, hL, he⟩ := hv.ptr hb'
    simp [execOp, ho, he]

/-- Loading cells out of memory. -/
theorem load_run {t : TypeId} {size : Nat} {b : Bool} (hs : sizeF P t = some size) (hb : aggF P t = some b) (h1 : b = false → size = 1) {w : World} {Sh : Nat → Prop} {ρ : Rho} {h : Nat → HS}
    (B off : Nat) (cs : List CV) (hl : cs.length = size) (hc : ∀ j c, cs[j]? = some c → ∃ u, w.cell? ⟨B, off + j, none⟩ = some u ∧ RV w Sh ρ h u c) :
    ∃ v, (loadVar t ⟨B, off, none⟩).run P w = .ok v w ∧ RSV w Sh ρ h v (.pv (pvOf b cs)) := by
  cases b with
  | true =>
    have hf : ∀ j, ∃ u, j < size → w.cell? ⟨B, off + j, none⟩ = some u ∧ ∀ c, cs[j]? = some c → RV w Sh ρ h u c := by
      intro j
      by_cases hj : j < size
      · obtain ⟨u, hu, hr⟩ := hc j cs[j] (List.getElem?_eq_getElem (by omega))
        exact ⟨u, fun _ => ⟨hu, fun c hc' => by rw [List.getElem?_eq_getElem (by omega)] at hc'; cases hc'; exact hr⟩⟩
      · exact ⟨undef, fun h => absurd h hj⟩
    obtain ⟨f, hf⟩ := Classical.axiomOfChoice hf
    refine ⟨.agg ((List.range size).map f).toArray, ?_, (List.range size).map f, rfl, by simp [hl], fun i c hi => ?_⟩
    · simp only [loadVar, Sem.run_bind, aggF_run hb, Result.andThen_ok, if_true, sizeF_run hs]
      rw [run_loadCells w ⟨B, off, none⟩ size f (fun j hj => by rw [add_lit]; exact (hf j hj).1)]
      simp
    · have hi' : i < size := by rw [← hl]; exact (List.getElem?_eq_some_iff.1 hi).1
      exact ⟨f i, by simp [hi'], (hf i hi').2 c hi⟩
  | false =>
    have hsz := h1 rfl
    subst hsz
    obtain ⟨c, rfl⟩ := List.length_eq_one_iff.1 hl
    obtain ⟨u, hu, hr⟩ := hc 0 c rfl
    refine ⟨u, ?_, ?_⟩
    · simp only [Nat.add_zero] at hu
      simp only [loadVar, Sem.run_bind, aggF_run hb, Result.andThen_ok, Bool.false_eq_true, if_false, run_load, hu]
    · simp only [pvOf, Bool.false_eq_true, if_false, List.headD_cons]
      exact RSV.of_one hr

theorem RV.of_RI {w : World} {Sh : Nat → Prop} {ρ : Rho} {h : Nat → HS} {v : Value} {c : CV} (hr : RI w Sh v c) : RV w Sh ρ h v c := by
  cases hr with
  | int k n => exact RI.int k n
  | bool b => exact RI.bool b
  | str s => exact RI.str s
  | imm0 a cap sz => exact RI.imm0 a cap sz
  | imm b off n cap sz cs vals h1 h2 h3 h4 h5 => exact RI.imm b off n cap sz cs vals h1 h2 h3 h4 h5
  | ip b off cs vals h1 h2 h3 => exact RI.ip b off cs vals h1 h2 h3
  | emp a => exact RI.emp a
  | opq t v => exact RI.opq t v
  | nilp => exact RI.nilp
  | nili => exact RI.nili

theorem ok_load {t : TypeId} {x : Operand} {size id off : Nat} {b : Bool} {bl : Blk} (ho : o.op = .load t x) (hs : sizeF P t = some size) (hb : aggF P t = some b) (h1 : b = false → size = 1)
    (hx : φ.ev x = one (.ptr id off)) (hl : φ.heap id = .live bl) (hle : off + size ≤ bl.cs.length) : ActOk P o φ nid ⟨[id], .pv (pvOf b ((bl.cs.drop off).take size)), []⟩ :=
  .quiet fun C φ' a w ρ hP hag R => by
    have hv := R.ev x
    rw [hag.env x (by simp [ho, Op.operands]), hx] at hv
    have hl' : φ'.heap id = .live bl := (hag.hp id (by simp)).trans hl
    obtain ⟨L, hL, he⟩ := hv.ptr hl'
    have hrb := R.hp.blk id bl hl'
    unfold RB at hrb
    rw [hL] at hrb
    obtain ⟨q1, q2, q3, q4⟩ := hrb
    obtain ⟨v, hrun, hr⟩ := load_run (P := P) hs hb h1 (w := w) (Sh := C.Sh) (ρ := ρ) (h := φ'.heap) L.b (L.o + off) ((bl.cs.drop off).take size) (by simp; omega) (fun j c hc => by
      rw [List.getElem?_take] at hc
      split at hc
      · rw [List.getElem?_drop] at hc
        rw [Nat.add_assoc]
        exact q4 _ c hc
      · cases hc)
    refine ⟨v, ?_, hr⟩
    simp only [execOp, ho, he, Instr.loadAt, Instr.sureAddr, Sem.run_bind, Sem.run_pure, Result.andThen_ok, hrun]

theorem ok_load_ip {t : TypeId} {x : Operand} {size : Nat} {b : Bool} {cs : List CV} (ho : o.op = .load t x) (hs : sizeF P t = some size) (hb : aggF P t = some b) (h1 : b = false → size = 1)
    (hx : φ.ev x = one (.ip cs)) (hle : size ≤ cs.length) : ActOk P o φ nid ⟨[], .pv (pvOf b (cs.take size)), []⟩ :=
  .quiet fun C φ' a w ρ hP hag R => by
    have hv := R.ev x
    rw [hag.env x (by simp [ho, Op.operands]), hx] at hv
    have hv := hv.ip
    generalize he : a.eval x = v at hv
    cases hv with
    | ip B off _ vals hsh hc hr =>
      obtain ⟨v, hrun, hr⟩ := load_run (P := P) hs hb h1 (w := w) (Sh := C.Sh) (ρ := ρ) (h := φ'.heap) B off (cs.take size) (by simp; omega) (fun j c hj => by
        rw [List.getElem?_take] at hj
        split at hj
        · exact ⟨vals j, hc j (List.getElem?_eq_some_iff.1 hj).1, .of_RI (hr j c hj)⟩
        · cases hj)
      refine ⟨v, ?_, hr⟩
      simp only [execOp, ho, he, Instr.loadAt, Instr.sureAddr, Sem.run_bind, Sem.run_pure, Result.andThen_ok, hrun]

theorem ok_index_str {t : TypeId} {x ix : Operand} {l : List UInt8} {k : IntKind} {i : Int} (ho : o.op = .index t x ix) (ht : kindF P t = .str)
    (hx : φ.ev x = one (.str l)) (hi : φ.ev ix = one (.int k i)) (h0 : 0 ≤ i ∧ i < l.length) : ActOk P o φ nid ⟨[], one (.int .u8 (l.getD i.toNat 0).toNat), []⟩ :=
  .quiet fun C φ' a w ρ hP hag R => by
    have hv := R.ev x
    rw [hag.env x (by simp [ho, Op.operands]), hx] at hv
    have hw := R.ev ix
    rw [hag.env ix (by simp [ho, Op.operands]), hi] at hw
    obtain ⟨s, he, hs⟩ := hv.str
    have hlen : i.toNat < s.size := by
      have : s.size = l.length := by rw [← hs, Array.length_toList]; rfl
      omega
    refine ⟨.int .u8 (l.getD i.toNat 0).toNat, ?_, .of_RI (.int _ _)⟩
    have hg : s[i.toNat]? = some (l.getD i.toNat 0) := by
      rw [getElem?_pos s i.toNat hlen]
      subst hs
      have h2 : i.toNat < s.data.toList.length := by rw [Array.length_toList]; exact hlen
      rw [List.getD_eq_getElem?_getD, List.getElem?_eq_getElem h2]
      rfl
    simp only [execOp, ho, he, hw.int, Instr.index, asIntOf, Sem.run_bind, Sem.run_pure, Result.andThen_ok, run_underlying (kindF_str ht), if_pos h0.1, hg]

theorem ok_indexAddr {t e : TypeId} {x ix : Operand} {k : IntKind} {i : Int} {id lo n size : Nat} {b : Blk} (ho : o.op = .indexAddr t x ix) (ht : kindF P t = .slice e) (hs : sizeF P e = some size)
    (hx : φ.ev x = one (.arr id lo n)) (hi : φ.ev ix = one (.int k i)) (hb : φ.heap id = .live b) (hz : b.sz = size) (h0 : 0 ≤ i ∧ i < n) : ActOk P o φ nid ⟨[id], one (.ptr id ((lo + i.toNat) * size)), []⟩ :=
  .quiet fun C φ' a w ρ hP hag R => by
    have hv := R.ev x
    rw [hag.env x (by simp [ho, Op.operands]), hx] at hv
    have hw := R.ev ix
    rw [hag.env ix (by simp [ho, Op.operands]), hi] at hw
    have hb' : φ'.heap id = .live b := (hag.hp id (by simp)).trans hb
    have hr := hv.arr hb'
    cases hL : ρ id with
    | none => rw [hL] at hr; obtain ⟨h, _⟩ := hr; omega
    | some L =>
      rw [hL] at hr
      rcases hr with ⟨cap, he, h1, h2, h3⟩ | ⟨h, _⟩
      · refine ⟨.pointer (some ⟨L.b, L.o + (lo + i.toNat) * size, none⟩), ?_, ?_⟩
        · simp only [execOp, ho, he, hw.int, run_indexAt_slice, Instr.indexAt, asIntOf, Sem.run_bind, Sem.run_pure, Result.andThen_ok, run_underlying (kindF_underlying ht), if_pos h0, sizeF_run hs, add_lit, hz]
          simp [h0, Nat.add_mul, Nat.add_assoc, sizeF_run hs, add_lit]
        · show RPtr ρ φ'.heap _ id _
          unfold RPtr
          rw [hb']
          exact ⟨L, hL, rfl⟩
      · omega

theorem ok_indexAddr_imm {t e : TypeId} {x ix : Operand} {k : IntKind} {i : Int} {sz n size : Nat} {cs : List CV} (ho : o.op = .indexAddr t x ix) (ht : kindF P t = .slice e) (hs : sizeF P e = some size)
    (hx : φ.ev x = one (.imm sz n cs)) (hi : φ.ev ix = one (.int k i)) (hz : sz = size) (h0 : 0 ≤ i ∧ i < n) : ActOk P o φ nid ⟨[], one (.ip (cs.drop (i.toNat * size))), []⟩ :=
  .quiet fun C φ' a w ρ hP hag R => by
    have hv := R.ev x
    rw [hag.env x (by simp [ho, Op.operands]), hx] at hv
    have hw := R.ev ix
    rw [hag.env ix (by simp [ho, Op.operands]), hi] at hw
    have hv := hv.imm
    subst hz
    generalize he : a.eval x = v at hv
    cases hv with
    | imm0 a cap => omega
    | imm B off _ cap _ _ vals hsh hnc hl hc hr =>
      refine ⟨.pointer (some ⟨B, off + i.toNat * sz, none⟩), ?_, RSV.of_RI ((RI.ip B off cs vals hsh hc hr).ip_drop _)⟩
      simp only [execOp, ho, he, hw.int, Instr.indexAt, asIntOf, Sem.run_bind, Sem.run_pure, Result.andThen_ok, run_underlying (kindF_underlying ht)]
      simp [h0, sizeF_run hs, add_lit]

end Go.Fm
