import Derived.Test.YtkjjcpgickjidaaFm9
/-! Each operation of the machine is what the model's operation does: append, copy, clear, conversions; and all together. -/
namespace Go.Fm
set_option linter.unusedVariables false
set_option linter.unusedSimpArgs false
variable {P : Program} {o : Oper} {φ : St} {nid : Nat}

theorem run_append_grows {t t2 ty e : TypeId} {i : TypeInfo} {z : Value} (ht : P.underlying t = some (.slice e)) {d2 : TypeDesc} (ht2 : P.underlying t2 = some d2) (hd2 : ∀ k, d2 ≠ .int k) (hi : P.info? e = some i) (hz : i.zero = some z)
    {A : Option Addr} {n cap m : Nat} {x : Value} {olds news : List Value} (w : World)
    (hlen : ∀ w', (Builtin.lenOf x).run P w' = .ok m w') (hold : (Builtin.firstCells i.size n (.slice A n cap)).run P w.drew = .ok olds.toArray w.drew) (hnew : (Builtin.firstCells i.size m x).run P w.drew = .ok news.toArray w.drew)
    (hg : cap < n + m) (h63 : ((n + m : Nat) : Int) ≤ 9223372036854775807) (hfit : Builtin.nextslicecap (n + m) cap * i.bytes ≤ 281474976710656) :
    (Builtin.append_ #[t, t2] ty #[.slice A n cap, x]).run P w =
      .ok (.slice (some ⟨w.heap.size, 0, none⟩) (n + m) (grownCap w (n + m) cap e))
        (w.drew.alloc (.cells (olds.toArray ++ news.toArray ++ Builtin.zeroCells z.cells (grownCap w (n + m) cap e - (n + m))) e)) := by
  have hn : ¬ (n + m ≤ cap) := by omega
  have h63' : ¬ (9223372036854775807 < ((n : Int) + (m : Int))) := by omega
  have h48' : ¬ (281474976710656 < Builtin.nextslicecap (n + m) cap * i.bytes) := by omega
  have hk : (match d2 with | .int _ => true | _ => false) = false := by cases d2 <;> first | rfl | exact absurd rfl (hd2 _)
  simp [Builtin.append_, run_underlying ht, run_underlying ht2, sizeOf, typeInfo, zeroValue, hi, hz, hlen, hn, h63', h48', Question.forced, hold, hnew, newRow, grownCap]
  congr 2
  apply Array.ext'
  simp [List.append_assoc]

theorem run_append_fits {t t2 ty e : TypeId} {i : TypeInfo} (ht : P.underlying t = some (.slice e)) {d2 : TypeDesc} (ht2 : P.underlying t2 = some d2) (hd2 : ∀ k, d2 ≠ .int k) (hi : P.info? e = some i)
    {b o : Nat} {n cap m : Nat} {x : Value} {news : List Value} (w : World)
    (hlen : ∀ w', (Builtin.lenOf x).run P w' = .ok m w') (hnew : (Builtin.firstCells i.size m x).run P w = .ok news.toArray w) (hg : n + m ≤ cap)
    (hst : (storeCells ⟨b, o + n * i.size, none⟩ news).run P w = .ok () (w.setCells b (o + n * i.size) news)) :
    (Builtin.append_ #[t, t2] ty #[.slice (some ⟨b, o, none⟩) n cap, x]).run P w = .ok (.slice (some ⟨b, o, none⟩) (n + m) cap) (w.setCells b (o + n * i.size) news) := by
  have hk : (match d2 with | .int _ => true | _ => false) = false := by cases d2 <;> first | rfl | exact absurd rfl (hd2 _)
  simp [Builtin.append_, run_underlying ht, run_underlying ht2, sizeOf, typeInfo, hi, hlen, hg, hnew, add_lit, hst]

theorem run_append_nothing {t t2 ty e : TypeId} {i : TypeInfo} (ht : P.underlying t = some (.slice e)) {d2 : TypeDesc} (ht2 : P.underlying t2 = some d2) (hd2 : ∀ k, d2 ≠ .int k) (hi : P.info? e = some i)
    {A : Option Addr} {x : Value} (w : World)
    (hlen : ∀ w', (Builtin.lenOf x).run P w' = .ok 0 w') (hnew : (Builtin.firstCells i.size 0 x).run P w = .ok #[] w) :
    (Builtin.append_ #[t, t2] ty #[.slice A 0 0, x]).run P w = .ok (.slice A 0 0) w := by
  have hk : (match d2 with | .int _ => true | _ => false) = false := by cases d2 <;> first | rfl | exact absurd rfl (hd2 _)
  cases A <;> simp [Builtin.append_, run_underlying ht, run_underlying ht2, sizeOf, typeInfo, hi, hlen, hnew, storeCells]

theorem kind2_desc {t : TypeId} (h : (∃ e, kindF P t = .slice e) ∨ kindF P t = .str) : ∃ d, P.underlying t = some d ∧ ∀ k, d ≠ .int k := by
  rcases h with ⟨e, h⟩ | h
  · exact ⟨_, kindF_underlying h, fun k => by simp⟩
  · exact ⟨_, kindF_str h, fun k => by simp⟩

theorem sizeF_info {t : TypeId} {n : Nat} (h : sizeF P t = some n) : ∃ i, P.info? t = some i ∧ i.size = n := by
  unfold sizeF at h; exact Option.map_eq_some_iff.1 h

/-- The draw of a new capacity turns nothing that the machine sees. -/
theorem RelAt.drew {C : Ctx} {ρ : Rho} {φ : St} {a : Act} {w : World} (R : RelAt C ρ φ a w) : RelAt C ρ φ a w.drew := by
  have := R.turn (w' := w.drew) (ρ' := ρ) (h' := φ.heap) (fun _ _ => rfl) (fun _ => HLe.refl _ _)
    ⟨fun id b h => by
      have := R.hp.blk id b h
      unfold RB at this ⊢
      cases hL : ρ id with
      | none => rw [hL] at this; exact this
      | some L =>
        rw [hL] at this
        obtain ⟨q1, q2, q3, q4⟩ := this
        exact ⟨q1, q2, fun j hj => q3 j hj, fun j c hc => by obtain ⟨u, hu, hr⟩ := q4 j c hc; exact ⟨u, hu, hr.mono (fun _ _ => rfl) (fun _ => HLe.refl _ _)⟩⟩,
     fun id b L h hL => R.hp.own id b L h hL, R.hp.inj⟩ (fun _ _ => rfl) ⟨R.fr.os, R.fr.tape, R.fr.output, R.fr.size, R.fr.keep⟩
  exact this

/-- A new block of cells with room behind them. -/
theorem new_room {C : Ctx} {ρ : Rho} {φ' : St} {ac : Act} {w : World} (R : RelAt C ρ φ' ac w) {nid : Nat} (hno : φ'.heap nid = .no) (t : TypeId) (vs rest : List Value) (ns : List CV) (sz n : Nat)
    (hl : vs.length = ns.length) (hn : ns.length = n * sz) (hr : ∀ (j : Nat) (c : CV), ns[j]? = some c → ∃ u : Value, vs[j]? = some u ∧ RV w C.Sh ρ φ'.heap u c) (fz : Nat × Nat) (hfz : (vs ++ rest).length ≤ fz.1 ∨ fz.2 = 0)
    (w' : World) (hw : w'.heap[w.heap.size]? = some (.cells (vs ++ rest).toArray t fz)) (hold : ∀ k, k < w.heap.size → w'.heap[k]? = w.heap[k]?) (hsz : w.heap.size < w'.heap.size) (hos : w'.os = w.os) (htp : w'.tape = w.tape) (hout : w'.output = w.output) :
    RelAt C (upd ρ nid (some ⟨w.heap.size, 0, (vs ++ rest).length⟩)) { φ' with heap := upd φ'.heap nid (.live ⟨sz, n, ns⟩) } ac w' := by
  have hcell : ∀ j, w'.cell? ⟨w.heap.size, j, none⟩ = (vs ++ rest)[j]? := fun j => by simp [World.cell?, hw]
  refine R.new nid hno ⟨sz, n, ns⟩ (vs ++ rest).length hold hsz hos htp hout hn (by simp; omega) (fun j hj => ?_) (fun j c hc => ?_)
  · rw [hcell]
    refine ⟨by simp; simpa using hj, ?_⟩
    simp only [World.frozen?, hw]
    rcases hfz with h | h
    · simp; omega
    · simp [h]
  · obtain ⟨u, hu, hq⟩ := hr j c hc
    refine ⟨u, ?_, hq⟩
    rw [hcell, List.getElem?_append_left (List.getElem?_eq_some_iff.1 hu).1]
    exact hu

theorem heapOf2 (h : Nat → HS) (a b : Nat × HS) : heapOf h [a, b] = upd (upd h a.1 a.2) b.1 b.2 := rfl

theorem call_mem {c : Call} {b : Builtin} (ho : o.op = .call c) (hc : c.callee = .builtin b) {l : List Operand} (hl : c.args.toList = l) {x : Operand} (hx : x ∈ l) : x ∈ o.op.operands := by
  subst hl
  simp only [ho, Op.operands, Call.operands, hc, Array.mem_append]
  right
  simpa using hx

theorem types_two {a : Array TypeId} {t t2 : TypeId} {r : List TypeId} (h : a.toList = t :: t2 :: r) : a[0]? = some t ∧ a[1]? = some t2 := by
  rw [arr_of_list h]; simp

theorem append_ats {ats : Array TypeId} {t t2 : TypeId} (h0 : ats[0]? = some t) (h1 : ats[1]? = some t2) (ty : TypeId) (args : Array Value) : Builtin.append_ ats ty args = Builtin.append_ #[t, t2] ty args := by
  unfold Builtin.append_
  simp [h0, h1]

/-- Appending to what holds nothing and has no room. -/
theorem append_empty {C : Ctx} {φ' : St} {ac : Act} {w : World} {ρ : Rho} (R : RelAt C ρ φ' ac w) (hno : φ'.heap nid = .no) {t t2 ty e : TypeId} {size by_ m : Nat} {z ns : List CV} {x : Value} {A : Option Addr}
    (ht : kindF P t = .slice e) (ht2 : (∃ e, kindF P t2 = .slice e) ∨ kindF P t2 = .str) (hs : sizeF P e = some size) (hb : bytesF P e = some by_) (hz : zeroF P e = some z) (hb1 : by_ ≤ 1024) (hzl : z.length = size) (hm : m ≤ maxN)
    (hnl : ns.length = m * size) (hlen : ∀ w', (Builtin.lenOf x).run P w' = .ok m w') (vs : List Value) (hvl : vs.length = ns.length) (hvr : ∀ (j : Nat) (c : CV), ns[j]? = some c → ∃ u : Value, vs[j]? = some u ∧ RV w C.Sh ρ φ'.heap u c)
    (hf : ∀ (k : Nat) (w' : World), k ≤ m → w'.heap = w.heap → (Builtin.firstCells size k x).run P w' = .ok (vs.take (k * size)).toArray w') :
    ∃ v w' ρ', (Builtin.append_ #[t, t2] ty #[.slice A 0 0, x]).run P w = .ok v w' ∧ RelAt C ρ' { φ' with heap := upd φ'.heap nid (.live ⟨size, m, ns⟩) } ac w' ∧ RSV w' C.Sh ρ' (upd φ'.heap nid (.live ⟨size, m, ns⟩)) v (one (.arr nid 0 m)) := by
  obtain ⟨i, zv, hi, hzv, hzs, _⟩ := zeroF_info hz
  obtain ⟨i', hi', hse⟩ := sizeF_info hs
  rw [hi] at hi'
  cases hi'
  have hbe : i.bytes = by_ := by unfold bytesF at hb; rw [hi] at hb; simpa using hb
  obtain ⟨d2, hd2, hdn⟩ := kind2_desc ht2
  have hvt : vs.take (m * size) = vs := List.take_of_length_le (by omega)
  by_cases hm0 : m = 0
  · subst hm0
    have hns : ns = [] := List.eq_nil_of_length_eq_zero (by simpa using hnl)
    subst hns
    have hvs : vs = [] := List.eq_nil_of_length_eq_zero (by simpa using hvl)
    have hrun := run_append_nothing (P := P) (ty := ty) (kindF_underlying ht) hd2 hdn hi (A := A) (x := x) w hlen (by rw [hse, hf 0 w (Nat.le_refl _) rfl, hvs]; simp)
    exact ⟨_, _, _, hrun, R.newNone nid hno size, RSV.of_one (by simp only [RV, upd_same]; exact ⟨rfl, _, rfl⟩)⟩
  · have hmx : maxN = 4294967296 := rfl
    have hold : (Builtin.firstCells i.size 0 (.slice A 0 0)).run P w.drew = .ok (([] : List Value)).toArray w.drew := by cases A <;> simp [Builtin.firstCells, loadCells, loadCellsFrom]
    have hrun := run_append_grows (P := P) (ty := ty) (kindF_underlying ht) hd2 hdn hi hzv (A := A) (n := 0) (cap := 0) (m := m) (x := x) (olds := []) (news := vs) w hlen hold
      (by rw [hse, hf m w.drew (Nat.le_refl _) rfl, hvt]) (by omega) (by omega) (growslice_fits (by omega) (by rw [hbe]; have := Nat.mul_le_mul (show 0 + m ≤ 4294967296 by omega) hb1; omega))
    simp only [Nat.zero_add] at hrun
    have hcap := grownCap_ge w m 0 e
    refine ⟨_, _, upd ρ nid (some ⟨w.heap.size, 0, (vs ++ (Builtin.zeroCells zv.cells (grownCap w m 0 e - m)).toList).length⟩), hrun, ?_, ?_⟩
    · refine new_room (R.drew) (w := w.drew) hno e vs (Builtin.zeroCells zv.cells (grownCap w m 0 e - m)).toList ns size m hvl hnl (fun j c hc => by obtain ⟨u, hu, hr⟩ := hvr j c hc; exact ⟨u, hu, hr.mono (fun _ _ => rfl) (fun _ => HLe.refl _ _)⟩) (0, 0) (.inr rfl) _ ?_ (fun k hk => Go.RowKit.Below.heap_alloc _ _ _ hk) (by simp) rfl rfl rfl
      show (w.drew.heap.push _)[w.drew.heap.size]? = _
      rw [Array.getElem?_push_size]
      congr 2
      apply Array.ext'
      simp
    · refine arr_new rfl hcap ?_ (Nat.le_refl _)
      simp only [List.length_append, Array.length_toList, size_zeroCells, hzs, hzl, hvl, hnl, ← Nat.add_mul]
      exact Nat.mul_le_mul_right _ (by omega)

/-- Appending to a view of a block: in its place, or in a new one. -/
theorem append_arr {C : Ctx} {φ' : St} {ac : Act} {w : World} {ρ : Rho} (R : RelAt C ρ φ' ac w) (hno : φ'.heap nid = .no) {t t2 ty e : TypeId} {size by_ m id lo n : Nat} {b : Blk} {z ns : List CV} {x v : Value}
    (hb' : φ'.heap id = .live b) (hbz : b.sz = size) (hlo : lo + n ≤ b.n) (hv : RArr (ρ id) b.sz b.n v lo n)
    (ht : kindF P t = .slice e) (ht2 : (∃ e, kindF P t2 = .slice e) ∨ kindF P t2 = .str) (hs : sizeF P e = some size) (hb : bytesF P e = some by_) (hz : zeroF P e = some z) (hb1 : by_ ≤ 1024) (hzl : z.length = size) (hm : n + m ≤ maxN)
    (hnl : ns.length = m * size) (hlen : ∀ w', (Builtin.lenOf x).run P w' = .ok m w') (vs : List Value) (hvl : vs.length = ns.length) (hvr : ∀ (j : Nat) (c : CV), ns[j]? = some c → ∃ u : Value, vs[j]? = some u ∧ RV w C.Sh ρ φ'.heap u c)
    (hf : ∀ (k : Nat) (w' : World), k ≤ m → w'.heap = w.heap → (Builtin.firstCells size k x).run P w' = .ok (vs.take (k * size)).toArray w') :
    ∃ v' w' ρ', (Builtin.append_ #[t, t2] ty #[v, x]).run P w = .ok v' w' ∧
      RelAt C ρ' { φ' with heap := upd (upd φ'.heap id .dead) nid (.live ⟨size, n + m, (b.cs.drop (lo * size)).take (n * size) ++ ns⟩) } ac w' ∧
      RSV w' C.Sh ρ' (upd (upd φ'.heap id .dead) nid (.live ⟨size, n + m, (b.cs.drop (lo * size)).take (n * size) ++ ns⟩)) v' (one (.arr nid 0 (n + m))) := by
  obtain ⟨i, zv, hi, hzv, hzs, _⟩ := zeroF_info hz
  obtain ⟨i', hi', hse⟩ := sizeF_info hs
  rw [hi] at hi'
  cases hi'
  subst hbz
  have hbe : i.bytes = by_ := by unfold bytesF at hb; rw [hi] at hb; simpa using hb
  obtain ⟨d2, hd2, hdn⟩ := kind2_desc ht2
  have hvt : vs.take (m * b.sz) = vs := List.take_of_length_le (by omega)
  have hmx : maxN = 4294967296 := rfl
  have hne : nid ≠ id := fun e => by rw [e, hb'] at hno; cases hno
  have hrb := R.hp.blk id b hb'
  unfold RB at hrb
  have hkill := R.kill id (by rw [hb']; simp)
  have hno' : (upd φ'.heap id .dead) nid = .no := by rw [upd_ne _ _ hne]; exact hno
  have hkle : ∀ i, HLe (φ'.heap i) (ρ i) (upd φ'.heap id .dead i) (ρ i) := by
    intro i
    by_cases e : i = id
    · subst e; rw [upd_same, hb']; trivial
    · rw [upd_ne _ _ e]; exact HLe.refl _ _
  have hvr' : ∀ (j : Nat) (c : CV), ns[j]? = some c → ∃ u : Value, vs[j]? = some u ∧ RV w C.Sh ρ (upd φ'.heap id .dead) u c := fun j c hc => by
    obtain ⟨u, hu, hr⟩ := hvr j c hc
    exact ⟨u, hu, hr.mono (fun _ _ => rfl) hkle⟩
  -- what had nothing and no room
  have empty : n = 0 → (∃ a, v = .slice a 0 0) → (b.cs.drop (lo * b.sz)).take (n * b.sz) = [] → ∃ v' w' ρ', (Builtin.append_ #[t, t2] ty #[v, x]).run P w = .ok v' w' ∧
      RelAt C ρ' { φ' with heap := upd (upd φ'.heap id .dead) nid (.live ⟨b.sz, n + m, (b.cs.drop (lo * b.sz)).take (n * b.sz) ++ ns⟩) } ac w' ∧
      RSV w' C.Sh ρ' (upd (upd φ'.heap id .dead) nid (.live ⟨b.sz, n + m, (b.cs.drop (lo * b.sz)).take (n * b.sz) ++ ns⟩)) v' (one (.arr nid 0 (n + m))) := by
    intro hn0 ⟨a, ha⟩ hnil
    subst hn0 ha
    rw [hnil, List.nil_append, Nat.zero_add]
    exact append_empty hkill hno' ht ht2 hs hb hz hb1 hzl (by omega) hnl hlen vs hvl hvr' hf
  cases hL : ρ id with
  | none =>
    rw [hL] at hv hrb
    exact empty hv.1 hv.2 (by rw [hrb.1]; simp)
  | some L =>
    rw [hL] at hv hrb
    obtain ⟨q1, q2, q3, q4⟩ := hrb
    rcases hv with ⟨cap, rfl, h1, h2, h3⟩ | ⟨hn0, ha⟩
    · have hm1 : lo * b.sz + n * b.sz ≤ b.cs.length := by rw [q1, ← Nat.add_mul]; exact Nat.mul_le_mul_right _ hlo
      by_cases hfit : n + m ≤ cap
      · have hm2 : lo * b.sz + n * b.sz + m * b.sz ≤ L.e := by
          refine Nat.le_trans ?_ h2
          rw [← Nat.add_mul, ← Nat.add_mul]
          exact Nat.mul_le_mul_right _ (by omega)
        have hst := setCells_run (P := P) (w := w) (b := L.b) (o := L.o + lo * b.sz + n * b.sz) (n := 0) (vs := vs) (fun j hj => by
            rw [show L.o + lo * b.sz + n * b.sz + j = L.o + (lo * b.sz + n * b.sz + j) by omega]; exact (q3 _ (by omega)).1)
          (fun j hj => by rw [show L.o + lo * b.sz + n * b.sz + j = L.o + (lo * b.sz + n * b.sz + j) by omega]; exact (q3 _ (by omega)).2) (one_of_rel hvl hvr)
        have hrun := run_append_fits (P := P) (ty := ty) (kindF_underlying ht) hd2 hdn hi (b := L.b) (o := L.o + lo * b.sz) (n := n) (cap := cap) (m := m) (x := x) (news := vs) w hlen
          (by rw [hse, hf m w (Nat.le_refl _) rfl, hvt]) hfit (by rw [hse]; exact hst)
        rw [hse] at hrun
        refine ⟨_, _, _, hrun, R.grow id b L hb' hL nid hno lo n m cap hlo h2 hfit vs ns hvl hnl hvr, arr_new rfl hfit ?_ (Nat.le_refl _)⟩
        have : lo * b.sz + cap * b.sz ≤ L.e := by rw [← Nat.add_mul]; exact h2
        simp only
        omega
      · have hold : ∃ olds : List Value, olds.length = n * b.sz ∧ (∀ (j : Nat) (c : CV), ((b.cs.drop (lo * b.sz)).take (n * b.sz))[j]? = some c → ∃ u : Value, olds[j]? = some u ∧ RV w C.Sh ρ φ'.heap u c) ∧
            (Builtin.firstCells i.size n (.slice (some ⟨L.b, L.o + lo * b.sz, none⟩) n cap)).run P w.drew = .ok olds.toArray w.drew := by
          have hf : ∀ j, ∃ u, j < n * b.sz → w.cell? ⟨L.b, L.o + lo * b.sz + j, none⟩ = some u ∧ ∀ c, b.cs[lo * b.sz + j]? = some c → RV w C.Sh ρ φ'.heap u c := by
            intro j
            by_cases hj : j < n * b.sz
            · obtain ⟨u, hu, hru⟩ := q4 (lo * b.sz + j) b.cs[lo * b.sz + j] (List.getElem?_eq_getElem (by omega))
              exact ⟨u, fun _ => ⟨by rw [Nat.add_assoc]; exact hu, fun c hc => by rw [List.getElem?_eq_getElem (by omega)] at hc; cases hc; exact hru⟩⟩
            · exact ⟨undef, fun h => absurd h hj⟩
          obtain ⟨f, hf⟩ := Classical.axiomOfChoice hf
          refine ⟨(List.range (n * b.sz)).map f, by simp, fun j c hc => ?_, ?_⟩
          · rw [List.getElem?_take] at hc
            split at hc
            · rename_i hj
              rw [List.getElem?_drop] at hc
              exact ⟨f j, by simp [hj], (hf j hj).2 c hc⟩
            · cases hc
          · rw [hse]
            exact run_firstCells_some w.drew b.sz n _ n cap _ (by simp) (fun j u hj => by
              have hj' : j < n * b.sz := by have := (List.getElem?_eq_some_iff.1 hj).1; simpa using this
              rw [List.getElem?_map, List.getElem?_range hj'] at hj
              cases hj
              rw [add_lit]
              exact (hf j hj').1)
        obtain ⟨olds, hol, hor, hold⟩ := hold
        have hrun := run_append_grows (P := P) (ty := ty) (kindF_underlying ht) hd2 hdn hi hzv (A := some ⟨L.b, L.o + lo * b.sz, none⟩) (n := n) (cap := cap) (m := m) (x := x) (olds := olds) (news := vs) w hlen hold
          (by rw [hse, hf m w.drew (Nat.le_refl _) rfl, hvt]) (by omega) (by omega) (growslice_fits (by omega) (by rw [hbe]; have := Nat.mul_le_mul (show n + m ≤ 4294967296 by omega) hb1; omega))
        have hcap := grownCap_ge w (n + m) cap e
        have htl : ((b.cs.drop (lo * b.sz)).take (n * b.sz)).length = n * b.sz := by simp; omega
        refine ⟨_, _, upd ρ nid (some ⟨w.heap.size, 0, ((olds ++ vs) ++ (Builtin.zeroCells zv.cells (grownCap w (n + m) cap e - (n + m))).toList).length⟩), hrun, ?_, ?_⟩
        · refine new_room (hkill.drew) (w := w.drew) hno' e (olds ++ vs) (Builtin.zeroCells zv.cells (grownCap w (n + m) cap e - (n + m))).toList _ b.sz (n + m) (by simp [hol, htl, hvl]) (by rw [List.length_append, htl, hnl, Nat.add_mul]) (fun j c hc => ?_) (0, 0) (.inr rfl) _ ?_ (fun k hk => Go.RowKit.Below.heap_alloc _ _ _ hk) (by simp) rfl rfl rfl
          · by_cases hj : j < n * b.sz
            · rw [List.getElem?_append_left (by omega)] at hc
              obtain ⟨u, hu, hr⟩ := hor j c hc
              exact ⟨u, by rw [List.getElem?_append_left (by omega)]; exact hu, hr.mono (fun _ _ => rfl) hkle⟩
            · rw [List.getElem?_append_right (by omega), htl] at hc
              obtain ⟨u, hu, hr⟩ := hvr' _ c hc
              exact ⟨u, by rw [List.getElem?_append_right (by omega), hol]; exact hu, hr.mono (fun _ _ => rfl) (fun _ => HLe.refl _ _)⟩
          · show (w.drew.heap.push _)[w.drew.heap.size]? = _
            rw [Array.getElem?_push_size]
            congr 2
            apply Array.ext'
            simp
        · refine arr_new rfl hcap ?_ (Nat.le_refl _)
          simp only [List.length_append, Array.length_toList, size_zeroCells, hzs, hzl, hvl, hnl, hol, ← Nat.add_mul]
          exact Nat.mul_le_mul_right _ (by omega)
    · subst hn0
      exact empty rfl ha (by simp)

end Go.Fm
