import Derived.Test.YtkjjcpgickjidaaFm16b
/-! States as lists, regions in the order of the text. -/
namespace Go.Fm
set_option linter.unusedVariables false

structure S where
  env : List (Nat × SV)
  heap : List HS
def lk : List (Nat × SV) → Nat → SV
  | [], _ => one .dead
  | p :: r, t => if p.1 = t then p.2 else lk r t
def S.st (s : S) : St := ⟨lk s.env, hOf s.heap⟩
def setH : List HS → Nat → HS → List HS
  | [], 0, h => [h]
  | [], n + 1, h => .no :: setH [] n h
  | _ :: r, 0, h => h :: r
  | a :: r, n + 1, h => a :: setH r n h
theorem hOf_nil (j : Nat) : hOf [] j = .no := by simp [hOf]
theorem hOf_setH : ∀ (l : List HS) (i : Nat) (h : HS) (j : Nat), hOf (setH l i h) j = if j = i then h else hOf l j
  | [], 0, h, j => by cases j <;> simp [setH, hOf]
  | [], n + 1, h, j => by
    cases j with
    | zero => simp [setH, hOf]
    | succ j =>
      have := hOf_setH [] n h j
      simp only [hOf_nil] at this ⊢
      show hOf (setH [] n h) j = _
      rw [this]
      simp
  | a :: r, 0, h, j => by cases j <;> simp [setH, hOf]
  | a :: r, n + 1, h, j => by
    cases j with
    | zero => simp [setH, hOf]
    | succ j =>
      have := hOf_setH r n h j
      show hOf (setH r n h) j = if j + 1 = n + 1 then h else hOf r j
      rw [this]
      simp
def setHs (l : List HS) : List (Nat × HS) → List HS
  | [] => l
  | p :: r => setHs (setH l p.1 p.2) r
theorem hOf_setHs : ∀ (r : List (Nat × HS)) (l : List HS), hOf (setHs l r) = heapOf (hOf l) r
  | [], l => rfl
  | p :: r, l => by
    show hOf (setHs (setH l p.1 p.2) r) = heapOf (upd (hOf l) p.1 p.2) r
    rw [hOf_setHs r]
    congr 1
    funext j
    rw [hOf_setH]
    rfl
def putE (e : List (Nat × SV)) : Option Nat → SV → List (Nat × SV)
  | none, _ => e
  | some d, v => (d, v) :: e
def S.app (s : S) (d : Option Nat) (A : Action) : S := ⟨putE s.env d A.val, setHs s.heap A.hp⟩
theorem S.app_st (s : S) (d : Option Nat) (A : Action) : (s.app d A).st = s.st.app d A := by
  cases d with
  | none => simp only [S.app, S.st, St.app, St.put, putE, hOf_setHs]
  | some d =>
    simp only [S.app, S.st, St.app, St.put, putE, hOf_setHs]
    congr 1
    funext t
    simp only [lk, upd]
    by_cases h : d = t
    · simp [h]
    · simp [h, Ne.symm h]

/-- What a call does, whatever the instruction is that makes it. -/
def callF (P : Program) (f : FuncId) (caps : List CV) (args : List SV) (s : S) (K : Action → Prop) : Prop :=
  ∀ (o : Oper) (c : Call) (x : Operand), o.op = .call c → c.callee = .value x → s.st.ev x = one (.fn f caps) → c.args.toList.map s.st.ev = args →
    ∃ A, ActX P o s.st s.heap.length A ∧ K A
theorem callF_of {P : Program} {f : FuncId} {caps : List CV} {args : List SV} {s : S} {K : Action → Prop} (π : List Nat) (fuel : Nat) {ps1 ps : List PV} {rd1 rd2 : List Nat} {bs h1 : List HS} {r : SV}
    (hps : argsP args = some ps1) (hl : lendPs (lendP s.st.heap π fuel) (ps1 ++ caps.map .one) = some (rd1, ps)) (hb : lendH s.st.heap π fuel π = some (rd2, bs)) (hnd : nodB π = true) (hk : keepOk bs h1 = true)
    (hm : Meets P f ps bs r h1) (hK : K (callA π s.heap.length (rd1 ++ rd2) bs.length r h1)) : callF P f caps args s K :=
  fun o c x ho hc hx ha => ⟨_, call_actx ho hc hx (ha.symm ▸ hps) hl hb hnd hk hm, hK⟩

/-- What is demanded of what comes next: an instance, so that nobody looks into it ahead of its turn. -/
class Kn (α : Type) where
  go : α → Prop
/-- The same, closed to unfolding; the program stands behind a thunk. -/
structure callT (P : Unit → Program) (f : FuncId) (caps : List CV) (args : List SV) (s : S) [K : Kn Action] : Prop where
  get : (P ()).follows .mixedOrders = true → callF (P ()) f caps args s K.go
def opF (P : Unit → Program) (T : TypeId → TyI) (o : Oper) (s : S) (K : Action → Prop) : Prop :=
  match o.op with
  | .call c => (match c.callee with
    | .value x => (match s.st.ev x with
      | .pv (.one (.fn f caps)) => @callT P f caps (c.args.toList.map s.st.ev) s ⟨K⟩
      | _ => False)
    | _ => actT T o s.st s.heap.length K)
  | _ => actT T o s.st s.heap.length K
theorem opF_ok {P : Unit → Program} {T : TypeId → TyI} (hT : T = tiOf (P ())) (hm : (P ()).follows .mixedOrders = true) {o : Oper} {s : S} {K : Action → Prop} (h : opF P T o s K) : ∃ A, ActX (P ()) o s.st s.heap.length A ∧ K A := by
  subst hT
  have hact : actT (tiOf (P ())) o s.st s.heap.length K → ∃ A, ActX (P ()) o s.st s.heap.length A ∧ K A := fun h => by
    obtain ⟨A, hA, hK⟩ := act_ok (actT_act h)
    exact ⟨A, hA.x, hK⟩
  unfold opF at h
  split at h
  · rename_i c ho
    split at h
    · rename_i x hc
      split at h
      · rename_i f caps hx
        obtain ⟨g⟩ := h
        exact g hm o c x ho hc hx rfl
      · exact h.elim
    · exact hact h
  · exact hact h

/-- Whether an operation is wanted. -/
def guardF (all : List Oper) (s : S) (o : Oper) (K : Bool → Prop) : Prop :=
  match o.guard with
  | none => K true
  | some (j, b) => match (all[j]?).bind (·.dst) with
    | none => K false
    | some d => match lk s.env d with
      | .pv (.one (.bool t)) => K (t == b)
      | .tup _ => K false
      | _ => False
def GuardIs (all : List Oper) (env : Nat → SV) (o : Oper) (g : Bool) : Prop :=
  match o.guard with
  | none => g = true
  | some (j, b) => match (all[j]?).bind (·.dst) with
    | none => g = false
    | some d => (∃ t, env d = one (.bool t) ∧ g = (t == b)) ∨ ((∃ l, env d = .tup l) ∧ g = false)
theorem guardF_ok {all : List Oper} {s : S} {o : Oper} {K : Bool → Prop} (h : guardF all s o K) : ∃ g, GuardIs all (lk s.env) o g ∧ K g := by
  unfold guardF at h
  unfold GuardIs
  split at h
  · exact ⟨true, rfl, h⟩
  · rename_i j b hg
    split at h
    · exact ⟨false, rfl, h⟩
    · rename_i d hd
      split at h
      · rename_i t ht; exact ⟨t == b, .inl ⟨t, ht, rfl⟩, h⟩
      · rename_i l ht; exact ⟨false, .inr ⟨⟨l, ht⟩, rfl⟩, h⟩
      · exact h.elim
theorem GuardIs.wanted {all : List Oper} {env : Nat → SV} {o : Oper} {g : Bool} (h : GuardIs all env o g) {C : Ctx} {ρ : Rho} {φ : St} {a : Act} {w : World} (R : RelAt C ρ φ a w)
    (he : ∀ j b d, o.guard = some (j, b) → (all[j]?).bind (·.dst) = some d → φ.env d = env d) {ops : Array Oper} (hops : ops.toList = all) : Region.wanted o (yielded ops a.tmps) = g := by
  unfold GuardIs at h
  unfold Region.wanted
  split at h
  · rename_i hg; rw [hg]; exact h.symm
  · rename_i j b hg
    rw [hg]
    simp only
    have hoj : (ops[j]?).bind (·.dst) = (all[j]?).bind (·.dst) := by rw [← hops]; simp
    split at h
    · rename_i hd
      rw [yielded, hoj, hd, h]
      rfl
    · rename_i d hd
      have hev := R.env d
      rw [he j b d hg hd] at hev
      rcases h with ⟨t, ht, rfl⟩ | ⟨⟨l, hl⟩, rfl⟩
      · rw [ht] at hev
        have hv := hev.bool
        rw [Array.getD_eq_getD_getElem?] at hv
        rw [yielded, hoj, hd]
        simp only [Option.bind_some]
        cases hx : a.tmps[d]? with
        | none => rw [hx] at hv; cases hv
        | some v =>
          rw [hx] at hv
          simp only [Option.getD_some] at hv
          subst hv
          cases t <;> cases b <;> rfl
      · rw [hl] at hev
        obtain ⟨vs, hv, _⟩ := hev
        rw [Array.getD_eq_getD_getElem?] at hv
        rw [yielded, hoj, hd]
        simp only [Option.bind_some]
        cases hx : a.tmps[d]? with
        | none => rfl
        | some v =>
          rw [hx] at hv
          simp only [Option.getD_some] at hv
          subst hv
          rfl

/-- An operation that is not wanted leaves nothing. -/
def skipA : Action := ⟨[], .tup [], []⟩
theorem RelX.skip {C : Ctx} {φ : St} {a : Act} {w : World} (R : RelX C φ a w) {d : Option Nat} (hd : ∀ t, d = some t → t < C.nt) : RelX C (φ.app d skipA) (a.put d undef) w := by
  obtain ⟨C', hC, ρ, R⟩ := R
  exact ⟨C', hC, ρ, R.put (fun t ht => by rw [hC.nt]; exact hd t ht) ⟨[], rfl, rfl, fun i p hp => by simp at hp⟩⟩

def dstOk (nt : Nat) (o : Oper) : Prop := match o.dst with | none => True | some d => d < nt
abbrev Feet := List (List Nat × List Nat)
/-- The operations of a region, in the order of the text. -/
def wops (P : Unit → Program) (T : TypeId → TyI) (nt : Nat) (all : List Oper) : List Oper → S → Feet → (S → Feet → Prop) → Prop
  | [], s, acc, K => K s acc
  | o :: os, s, acc, K => dstOk nt o ∧ guardF all s o fun g =>
      match g with
      | true => opF P T o s fun A => wops P T nt all os (s.app o.dst A) ((A.rd, A.hp.map (·.1)) :: acc) K
      | false => wops P T nt all os (s.app o.dst skipA) (([], []) :: acc) K

/-- What the operations of a region do, one after the other. -/
structure Stp where
  s : S
  A : Action
  g : Bool
inductive Seq (P : Program) (nt : Nat) (all : List Oper) : List Oper → S → List Stp → S → Prop where
  | nil (s : S) : Seq P nt all [] s [] s
  | cons (o : Oper) (os : List Oper) (s s' : S) (A : Action) (g : Bool) (l : List Stp) (hd : dstOk nt o) (hg : GuardIs all (lk s.env) o g)
      (hA : (g = true ∧ ActX P o s.st s.heap.length A) ∨ (g = false ∧ A = skipA)) (h : Seq P nt all os (s.app o.dst A) l s') : Seq P nt all (o :: os) s (⟨s, A, g⟩ :: l) s'
def feetOf (l : List Stp) : Feet := l.map fun x => (x.A.rd, x.A.hp.map (·.1))
theorem wops_seq {P : Unit → Program} {T : TypeId → TyI} (hT : T = tiOf (P ())) (hm : (P ()).follows .mixedOrders = true) {nt : Nat} {all : List Oper} : ∀ {os : List Oper} {s : S} {acc : Feet} {K : S → Feet → Prop}, wops P T nt all os s acc K →
    ∃ l s', Seq (P ()) nt all os s l s' ∧ K s' ((feetOf l).reverse ++ acc)
  | [], s, acc, K, h => ⟨[], s, .nil s, h⟩
  | o :: os, s, acc, K, h => by
    obtain ⟨hd, h⟩ := h
    obtain ⟨g, hg, h⟩ := guardF_ok h
    cases g with
    | true =>
      obtain ⟨A, hA, h⟩ := opF_ok hT hm h
      obtain ⟨l, s', hs, hK⟩ := wops_seq hT hm h
      exact ⟨_, s', .cons o os s s' A true l hd hg (.inl ⟨rfl, hA⟩) hs, by simpa [feetOf] using hK⟩
    | false =>
      obtain ⟨l, s', hs, hK⟩ := wops_seq hT hm h
      exact ⟨_, s', .cons o os s s' skipA false l hd hg (.inr ⟨rfl, rfl⟩) hs, by simpa [feetOf, skipA] using hK⟩

theorem dstOk.lt {nt : Nat} {o : Oper} (h : dstOk nt o) {d : Nat} (hd : o.dst = some d) : d < nt := by
  unfold dstOk at h
  rw [hd] at h
  exact h

theorem Seq.text {P : Program} {nt : Nat} {ops : Array Oper} : ∀ {os : List Oper} {s s' : S} {l : List Stp}, Seq P nt ops.toList os s l s' → ∀ (k : Nat), ops.toList.drop k = os →
    ∀ (C : Ctx), C.P = P → C.nt = nt → ∀ a w, RelX C s.st a w → ∀ (Q : Exit → Act → World → Prop), (∀ a' w', RelX C s'.st a' w' → Q .normal a' w') → wpOps P ops Q (List.range' k os.length) a w := by
  intro os s s' l h
  induction h with
  | nil s => intro k hk C hP hn a w R Q hQ; exact hQ a w R
  | cons o os s s' A g l hd hg hA _ ih =>
    intro k hk C hP hn a w R Q hQ
    have hko : ops[k]? = some o := by
      have : (ops.toList.drop k)[0]? = some o := by rw [hk]; rfl
      rw [List.getElem?_drop] at this
      simpa using this
    have hk' : ops.toList.drop (k + 1) = os := by
      rw [← List.drop_drop, hk]; rfl
    have hdn : ∀ d, o.dst = some d → d < C.nt := fun d h => by rw [hn]; exact hd.lt h
    simp only [List.length_cons, List.range'_succ, wpOps, hko]
    obtain ⟨C', hC', ρ, R0⟩ := id R
    rw [hg.wanted R0 (fun j b d _ _ => rfl) rfl]
    rcases hA with ⟨rfl, hA⟩ | ⟨rfl, rfl⟩
    · refine .inl (hA C hP s.st a w ⟨fun _ _ => rfl, fun _ _ => rfl, fun p hp hle => ?_⟩ R hdn _ Q (fun a' w' R' => ih (k + 1) hk' C hP hn a' w' (by rw [S.app_st]; exact R') Q hQ))
      show (s.heap.getD p.1 .no) = .no
      simp [List.getElem?_eq_none hle]
    · refine ih (k + 1) hk' C hP hn _ w ?_ Q hQ
      rw [S.app_st]
      exact R.skip hdn

end Go.Fm
