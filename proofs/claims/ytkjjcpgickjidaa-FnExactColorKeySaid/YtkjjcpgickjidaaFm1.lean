import Derived.Calls
import Derived.Tactics
import Derived.Below
import Derived.Orders
import Derived.Laws.IdiomCopy
import Derived.Laws.Cells
import Derived.Laws.Entries
import Derived.ChangeKeysEq
import Derived.Lib.Strings
import Derived.IntWalk
import Derived.Laws.MakeOwn
/-! The machine of deep values: what it is, and how a state of it stands to a frame and a world of the model. -/
namespace Go.Fm
set_option linter.unusedVariables false

/-- One cell as the machine sees it. -/
inductive CV where
  | int (k : IntKind) (n : Int)
  | bool (b : Bool)
  | str (s : List UInt8)
  | imm (sz n : Nat) (cs : List CV)
  | ip (cs : List CV)
  | arr (id lo n : Nat)
  | emp
  | ptr (id off : Nat)
  | fn (f : FuncId) (caps : List CV)
  | opq
  | nilp
  | nili
  | dead
inductive PV where
  | one (c : CV)
  | agg (cs : List CV)
inductive SV where
  | pv (p : PV)
  | tup (ps : List PV)
structure Blk where
  sz : Nat
  n : Nat
  cs : List CV
/-- A block's state: not made yet, gone, or there. -/
inductive HS where
  | no
  | dead
  | live (b : Blk)
structure St where
  env : Nat → SV
  heap : Nat → HS
structure Loc where
  b : Nat
  o : Nat
  e : Nat
abbrev Rho := Nat → Option Loc
abbrev one (c : CV) : SV := .pv (.one c)

/-- What reads as a value out of memory that nobody writes. -/
inductive RI (w : World) (Sh : Nat → Prop) : Value → CV → Prop where
  | int (k : IntKind) (n : Int) : RI w Sh (.int k n) (.int k n)
  | bool (b : Bool) : RI w Sh (.bool b) (.bool b)
  | str (s : ByteArray) : RI w Sh (.string s) (.str s.data.toList)
  | imm0 (a : Option Addr) (cap sz : Nat) : RI w Sh (.slice a 0 cap) (.imm sz 0 [])
  | imm (b off n cap sz : Nat) (cs : List CV) (vals : Nat → Value) (hs : Sh b) (hnc : n ≤ cap) (hl : cs.length = n * sz)
      (hc : ∀ j, j < cs.length → w.cell? ⟨b, off + j, none⟩ = some (vals j)) (hr : ∀ j c, cs[j]? = some c → RI w Sh (vals j) c) :
      RI w Sh (.slice (some ⟨b, off, none⟩) n cap) (.imm sz n cs)
  | ip (b off : Nat) (cs : List CV) (vals : Nat → Value) (hs : Sh b)
      (hc : ∀ j, j < cs.length → w.cell? ⟨b, off + j, none⟩ = some (vals j)) (hr : ∀ j c, cs[j]? = some c → RI w Sh (vals j) c) :
      RI w Sh (.pointer (some ⟨b, off, none⟩)) (.ip cs)
  | emp (a : Option Addr) : RI w Sh (.slice a 0 0) .emp
  | opq (t : TypeId) (v : Value) : RI w Sh (.iface t v) .opq
  | nilp : RI w Sh (.pointer none) .nilp
  | nili : RI w Sh .nilIface .nili

theorem RI.one {w : World} {Sh : Nat → Prop} {v : Value} {c : CV} (h : RI w Sh v c) : v.oneCell' = true := by
  cases h <;> rfl

theorem RI.mono {w w' : World} {Sh Sh' : Nat → Prop} {v : Value} {c : CV} (h : RI w Sh v c) (hw : ∀ k, Sh k → Sh' k ∧ w'.heap[k]? = w.heap[k]?) : RI w' Sh' v c := by
  induction h with
  | int k n => exact .int k n
  | bool b => exact .bool b
  | str s => exact .str s
  | imm0 a cap sz => exact .imm0 a cap sz
  | imm b off n cap sz cs vals hs hnc hl hc _ ih =>
    exact .imm b off n cap sz cs vals (hw b hs).1 hnc hl (fun j hj => by rw [World.cell?_of_block (w := w) (hw b hs).2]; exact hc j hj) ih
  | ip b off cs vals hs hc _ ih =>
    exact .ip b off cs vals (hw b hs).1 (fun j hj => by rw [World.cell?_of_block (w := w) (hw b hs).2]; exact hc j hj) ih
  | emp a => exact .emp a
  | opq t v => exact .opq t v
  | nilp => exact .nilp
  | nili => exact .nili

def RArr : Option Loc → Nat → Nat → Value → Nat → Nat → Prop
  | none, _, _, v, _, n => n = 0 ∧ ∃ a, v = .slice a 0 0
  | some L, sz, bn, v, lo, n => (∃ cap, v = .slice (some ⟨L.b, L.o + lo * sz, none⟩) n cap ∧ n ≤ cap ∧ (lo + cap) * sz ≤ L.e ∧ lo + n ≤ bn) ∨ (n = 0 ∧ ∃ a, v = .slice a 0 0)

theorem RArr.one {L : Option Loc} {sz bn lo n : Nat} {v : Value} (h : RArr L sz bn v lo n) : v.oneCell' = true := by
  cases L with
  | none => obtain ⟨_, a, rfl⟩ := h; rfl
  | some L => rcases h with ⟨c, rfl, _⟩ | ⟨_, a, rfl⟩ <;> rfl

def RPtr (ρ : Rho) (h : Nat → HS) (v : Value) (id off : Nat) : Prop :=
  match h id with
  | .no => False
  | .dead => v.oneCell' = true
  | .live _ => ∃ L, ρ id = some L ∧ v = .pointer (some ⟨L.b, L.o + off, none⟩)

/-- What reads as one cell. -/
def RV (w : World) (Sh : Nat → Prop) (ρ : Rho) (h : Nat → HS) (v : Value) : CV → Prop
  | .arr id lo n => match h id with
    | .no => False
    | .dead => v.oneCell' = true
    | .live blk => RArr (ρ id) blk.sz blk.n v lo n
  | .ptr id off => RPtr ρ h v id off
  | .fn f caps => ∃ vs : List Value, v = .func (.func f) #[] vs.toArray ∧ vs.length = caps.length ∧
      ∀ (i : Nat) (c : CV), caps[i]? = some c → ∃ u : Value, vs[i]? = some u ∧ ∃ id off, c = CV.ptr id off ∧ RPtr ρ h u id off
  | .dead => v.oneCell' = true
  | c => RI w Sh v c

theorem RPtr.one {ρ : Rho} {h : Nat → HS} {v : Value} {id off : Nat} (hr : RPtr ρ h v id off) : v.oneCell' = true := by
  unfold RPtr at hr
  split at hr
  · exact hr.elim
  · exact hr
  · obtain ⟨L, _, rfl⟩ := hr; rfl

theorem RV.one {w : World} {Sh : Nat → Prop} {ρ : Rho} {h : Nat → HS} {v : Value} {c : CV} (hr : RV w Sh ρ h v c) : v.oneCell' = true := by
  cases c <;> simp only [RV] at hr <;> try exact hr.one
  case arr id lo n =>
    split at hr
    · exact hr.elim
    · exact hr
    · exact hr.one
  case fn f caps => obtain ⟨vs, rfl, _⟩ := hr; rfl
  case dead => exact hr

/-- A block's state and place behind a step: what may have become of it. -/
def HLe (s : HS) (l : Option Loc) (s' : HS) (l' : Option Loc) : Prop :=
  match s, s' with
  | .no, _ => True
  | .dead, .dead => True
  | .live _, .dead => True
  | .live b, .live b' => b'.sz = b.sz ∧ b'.n = b.n ∧ l' = l
  | _, _ => False

theorem HLe.refl (s : HS) (l : Option Loc) : HLe s l s l := by cases s <;> simp [HLe]

theorem RPtr.mono {ρ ρ' : Rho} {h h' : Nat → HS} {v : Value} {id off : Nat} (hr : RPtr ρ h v id off) (hh : ∀ id, HLe (h id) (ρ id) (h' id) (ρ' id)) : RPtr ρ' h' v id off := by
  have h1 := hr.one
  have h2 := hh id
  unfold RPtr at hr ⊢
  cases hs : h id with
  | no => rw [hs] at hr; exact hr.elim
  | dead =>
    rw [hs] at h2
    cases hs' : h' id with
    | no => rw [hs'] at h2; exact h2.elim
    | dead => exact h1
    | live b => rw [hs'] at h2; exact h2.elim
  | live b =>
    rw [hs] at h2 hr
    cases hs' : h' id with
    | no => rw [hs'] at h2; exact h2.elim
    | dead => exact h1
    | live b' => rw [hs'] at h2; obtain ⟨L, hL, hv⟩ := hr; exact ⟨L, by rw [h2.2.2]; exact hL, hv⟩

theorem RV.mono {w w' : World} {Sh : Nat → Prop} {ρ ρ' : Rho} {h h' : Nat → HS} {v : Value} {c : CV} (hr : RV w Sh ρ h v c)
    (hw : ∀ k, Sh k → w'.heap[k]? = w.heap[k]?) (hh : ∀ id, HLe (h id) (ρ id) (h' id) (ρ' id)) : RV w' Sh ρ' h' v c := by
  have h1 := hr.one
  cases c <;> simp only [RV] at hr ⊢ <;> try exact hr.mono (fun k hk => ⟨hk, hw k hk⟩)
  case arr id lo n =>
    have h2 := hh id
    cases hs : h id with
    | no => rw [hs] at hr; exact hr.elim
    | dead =>
      rw [hs] at h2
      cases hs' : h' id with
      | no => rw [hs'] at h2; exact h2.elim
      | dead => exact h1
      | live b => rw [hs'] at h2; exact h2.elim
    | live b =>
      rw [hs] at h2 hr
      cases hs' : h' id with
      | no => rw [hs'] at h2; exact h2.elim
      | dead => exact h1
      | live b' => rw [hs'] at h2; simp only at hr ⊢; rw [h2.1, h2.2.1, h2.2.2]; exact hr
  case ptr id off => exact hr.mono hh
  case fn f caps =>
    obtain ⟨vs, hv, hl, hp⟩ := hr
    exact ⟨vs, hv, hl, fun i c hc => by obtain ⟨u, hu, id, off, he, hq⟩ := hp i c hc; exact ⟨u, hu, id, off, he, hq.mono hh⟩⟩
  case dead => exact h1

def RPV (w : World) (Sh : Nat → Prop) (ρ : Rho) (h : Nat → HS) (v : Value) : PV → Prop
  | .one .dead => True
  | .one c => RV w Sh ρ h v c
  | .agg cs => ∃ vs : List Value, v = .agg vs.toArray ∧ vs.length = cs.length ∧ ∀ (i : Nat) (c : CV), cs[i]? = some c → ∃ u : Value, vs[i]? = some u ∧ RV w Sh ρ h u c

def RSV (w : World) (Sh : Nat → Prop) (ρ : Rho) (h : Nat → HS) (v : Value) : SV → Prop
  | .pv p => RPV w Sh ρ h v p
  | .tup ps => ∃ vs : List Value, v = .tuple vs.toArray ∧ vs.length = ps.length ∧ ∀ (i : Nat) (p : PV), ps[i]? = some p → ∃ u : Value, vs[i]? = some u ∧ RPV w Sh ρ h u p

theorem RPV.mono {w w' : World} {Sh : Nat → Prop} {ρ ρ' : Rho} {h h' : Nat → HS} {v : Value} {p : PV} (hr : RPV w Sh ρ h v p)
    (hw : ∀ k, Sh k → w'.heap[k]? = w.heap[k]?) (hh : ∀ id, HLe (h id) (ρ id) (h' id) (ρ' id)) : RPV w' Sh ρ' h' v p := by
  cases p with
  | one c => cases c <;> simp only [RPV] at hr ⊢ <;> exact RV.mono hr hw hh
  | agg cs =>
    obtain ⟨vs, hv, hl, hp⟩ := hr
    exact ⟨vs, hv, hl, fun i c hc => by obtain ⟨u, hu, hq⟩ := hp i c hc; exact ⟨u, hu, hq.mono hw hh⟩⟩

theorem RSV.mono {w w' : World} {Sh : Nat → Prop} {ρ ρ' : Rho} {h h' : Nat → HS} {v : Value} {p : SV} (hr : RSV w Sh ρ h v p)
    (hw : ∀ k, Sh k → w'.heap[k]? = w.heap[k]?) (hh : ∀ id, HLe (h id) (ρ id) (h' id) (ρ' id)) : RSV w' Sh ρ' h' v p := by
  cases p with
  | pv p => exact RPV.mono hr hw hh
  | tup ps =>
    obtain ⟨vs, hv, hl, hp⟩ := hr
    exact ⟨vs, hv, hl, fun i c hc => by obtain ⟨u, hu, hq⟩ := hp i c hc; exact ⟨u, hu, hq.mono hw hh⟩⟩

theorem RPV.of_one {w : World} {Sh : Nat → Prop} {ρ : Rho} {h : Nat → HS} {v : Value} {c : CV} (hr : RV w Sh ρ h v c) : RPV w Sh ρ h v (.one c) := by
  cases c <;> first | exact hr | trivial
theorem RSV.of_one {w : World} {Sh : Nat → Prop} {ρ : Rho} {h : Nat → HS} {v : Value} {c : CV} (hr : RV w Sh ρ h v c) : RSV w Sh ρ h v (Fm.one c) := RPV.of_one hr

/-- A block of the machine in the model's memory. -/
def RB (w : World) (Sh : Nat → Prop) (ρ : Rho) (h : Nat → HS) (id : Nat) (blk : Blk) : Prop :=
  match ρ id with
  | none => blk.cs = [] ∧ blk.n = 0
  | some L => blk.cs.length = blk.n * blk.sz ∧ blk.cs.length ≤ L.e ∧
      (∀ j, j < L.e → (w.cell? ⟨L.b, L.o + j, none⟩).isSome = true ∧ w.frozen? ⟨L.b, L.o + j, none⟩ = false) ∧
      ∀ (j : Nat) (c : CV), blk.cs[j]? = some c → ∃ u : Value, w.cell? ⟨L.b, L.o + j, none⟩ = some u ∧ RV w Sh ρ h u c

/-- Where a call stands: the world at its beginning, what nobody writes, the blocks that it was handed. -/
structure Ctx where
  P : Program
  w0 : World
  Sh : Nat → Prop
  O : Nat → Prop
  rho0 : Rho
  k0 : Nat
  nt : Nat
  old : ∀ k, Sh k → k < w0.heap.size ∧ ¬ O k

structure Fr (w0 : World) (O : Nat → Prop) (w : World) : Prop where
  os : w.os = w0.os
  tape : w.tape = w0.tape
  output : w.output = w0.output
  size : w0.heap.size ≤ w.heap.size
  keep : ∀ k, k < w0.heap.size → ¬ O k → w.heap[k]? = w0.heap[k]?

theorem Fr.refl (w0 : World) (O : Nat → Prop) : Fr w0 O w0 := ⟨rfl, rfl, rfl, Nat.le_refl _, fun _ _ _ => rfl⟩

structure HeapRel (w0 : World) (Sh O : Nat → Prop) (ρ : Rho) (h : Nat → HS) (w : World) : Prop where
  blk : ∀ id b, h id = .live b → RB w Sh ρ h id b
  own : ∀ id b L, h id = .live b → ρ id = some L → L.b < w.heap.size ∧ ¬ Sh L.b ∧ (w0.heap.size ≤ L.b ∨ O L.b)
  inj : ∀ id id' b b' L L', h id = .live b → h id' = .live b' → ρ id = some L → ρ id' = some L' → L.b = L'.b → id = id'

structure RelAt (C : Ctx) (ρ : Rho) (φ : St) (a : Act) (w : World) : Prop where
  defers : a.defers = []
  nt : a.tmps.size = C.nt
  env : ∀ t, RSV w C.Sh ρ φ.heap (a.tmps.getD t undef) (φ.env t)
  hp : HeapRel C.w0 C.Sh C.O ρ φ.heap w
  init : ∀ id, id < C.k0 → φ.heap id ≠ .no ∧ ρ id = C.rho0 id
  fr : Fr C.w0 C.O w

def Rel (C : Ctx) (φ : St) (a : Act) (w : World) : Prop := ∃ ρ, RelAt C ρ φ a w

def upd {α : Type} (f : Nat → α) (i : Nat) (v : α) : Nat → α := fun j => if j = i then v else f j
theorem upd_same {α : Type} (f : Nat → α) (i : Nat) (v : α) : upd f i v i = v := by simp [upd]
theorem upd_ne {α : Type} (f : Nat → α) {i j : Nat} (v : α) (h : j ≠ i) : upd f i v j = f j := by simp [upd, h]

def St.put (φ : St) (d : Option Nat) (v : SV) : St := match d with | some d => { φ with env := upd φ.env d v } | none => φ

/-- A value comes into a slot. -/
theorem RelAt.put {C : Ctx} {ρ : Rho} {φ : St} {a : Act} {w : World} (R : RelAt C ρ φ a w) {d : Option Nat} {v : Value} {sv : SV}
    (hd : ∀ t, d = some t → t < C.nt) (hv : RSV w C.Sh ρ φ.heap v sv) : RelAt C ρ (φ.put d sv) (a.put d v) w := by
  cases d with
  | none => exact R
  | some d =>
    refine ⟨R.defers, by simp [Act.put, R.nt], fun t => ?_, R.hp, R.init, R.fr⟩
    have hdn : d < a.tmps.size := by rw [R.nt]; exact hd d rfl
    by_cases h : t = d
    · subst h
      simp only [Act.put, St.put, upd_same, Array.getD_eq_getD_getElem?, Array.getElem?_setIfInBounds_self_of_lt hdn, Option.getD_some]
      exact hv
    · simp only [Act.put, St.put, upd_ne _ _ h, Array.getD_eq_getD_getElem?, Array.getElem?_setIfInBounds_ne (Ne.symm h)]
      rw [← Array.getD_eq_getD_getElem?]
      exact R.env t

/-- Memory turns: all else is carried along. -/
theorem RelAt.turn {C : Ctx} {ρ ρ' : Rho} {φ : St} {h' : Nat → HS} {a : Act} {w w' : World} (R : RelAt C ρ φ a w)
    (hsh : ∀ k, C.Sh k → w'.heap[k]? = w.heap[k]?) (hle : ∀ id, HLe (φ.heap id) (ρ id) (h' id) (ρ' id))
    (hp : HeapRel C.w0 C.Sh C.O ρ' h' w') (hinit : ∀ id, id < C.k0 → ρ' id = ρ id) (hfr : Fr C.w0 C.O w') : RelAt C ρ' { φ with heap := h' } a w' := by
  refine ⟨R.defers, R.nt, fun t => (R.env t).mono hsh hle, hp, fun id hid => ⟨?_, ?_⟩, hfr⟩
  · have h1 := (R.init id hid).1
    have h2 := hle id
    intro h3
    have h3' : h' id = .no := h3
    rw [h3'] at h2
    cases h4 : φ.heap id with
    | no => exact h1 h4
    | dead => rw [h4] at h2; exact h2
    | live b => rw [h4] at h2; exact h2
  · rw [hinit id hid]; exact (R.init id hid).2

end Go.Fm
