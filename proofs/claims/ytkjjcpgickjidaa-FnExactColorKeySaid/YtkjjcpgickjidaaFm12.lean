import Derived.Test.YtkjjcpgickjidaaFm11
/-! Every operation of the machine is what the model's operation does. -/
namespace Go.Fm
set_option linter.unusedVariables false
variable {P : Program} {o : Oper} {φ : St} {nid : Nat}

theorem act_ok {K : Action → Prop} (h : act P o φ nid K) : ∃ A, ActOk P o φ nid A ∧ K A := by
  have h0 := h
  unfold act at h
  split at h
  · rename_i x ho; exact ⟨_, ok_move (.inl ho), h⟩
  · rename_i x ho; exact ⟨_, ok_move (.inr ho), h⟩
  · rename_i c a b ho
    obtain ⟨t, hc, hk⟩ := SV.kB_elim h
    exact ⟨_, ok_pick ho hc, hk⟩
  · rename_i x i ho
    obtain ⟨ps, hc, hk⟩ := SV.kT_elim h
    obtain ⟨p, hp, hk⟩ := kO_elim hk
    exact ⟨_, ok_extract ho hc hp, hk⟩
  · rename_i u t x ho
    obtain ⟨c, hc, hk⟩ := ok_un (nid := nid) ho h
    exact ⟨_, hc, hk⟩
  · rename_i op t x y yt ho
    obtain ⟨c, hc, hk⟩ := ok_bin (nid := nid) ho h
    exact ⟨_, hc, hk⟩
  · rename_i s d x ho
    exact ok_convert ho h0
  · rename_i t x f ho
    obtain ⟨q, hq, h⟩ := kO_elim h
    obtain ⟨size, hs, h⟩ := kO_elim h
    obtain ⟨b, hb, h⟩ := kO_elim h
    obtain ⟨cs, hx, hl, h1, h⟩ := SV.kA_elim h
    exact ⟨_, ok_field ho hq hs hb hx hl h1, h⟩
  · rename_i t x f ho
    obtain ⟨q, hq, h⟩ := kO_elim h
    obtain ⟨size, hs, hn, h⟩ := kO_elim h
    rcases SV.kPtr_elim h with ⟨id, off, hx, h⟩ | ⟨cs, hx, h⟩
    · obtain ⟨b, hb, h⟩ := kLive_elim h
      exact ⟨_, ok_fieldAddr ho hq hs hn hx hb, h⟩
    · exact ⟨_, ok_fieldAddr_ip ho hq hs hn hx, h⟩
  · rename_i t x ho
    obtain ⟨size, hs, h⟩ := kO_elim h
    obtain ⟨b, hb, h1, h⟩ := kO_elim h
    rcases SV.kPtr_elim h with ⟨id, off, hx, h⟩ | ⟨cs, hx, hl, h⟩
    · obtain ⟨bl, hbl, hle, h⟩ := kLive_elim h
      exact ⟨_, ok_load ho hs hb h1 hx hbl hle, h⟩
    · exact ⟨_, ok_load_ip ho hs hb h1 hx hl, h⟩
  · rename_i t x v ho
    obtain ⟨size, hs, h⟩ := kO_elim h
    have hgo : ∀ ns : List CV, (ns.length = size ∧ (φ.ev x).kPtr (fun id off => kLive (φ.heap id) fun bl => off + ns.length ≤ bl.cs.length ∧ K ⟨[id], one .dead, [(id, .live ⟨bl.sz, bl.n, over bl.cs off ns⟩)]⟩) (fun _ => False)) →
      ∃ id off bl, φ.ev x = one (.ptr id off) ∧ φ.heap id = .live bl := fun ns hn => by
        rcases SV.kPtr_elim hn.2 with ⟨id, off, hx, h⟩ | ⟨cs, hx, h⟩
        · obtain ⟨bl, hbl, h⟩ := kLive_elim h
          exact ⟨id, off, bl, hx, hbl⟩
        · exact h.elim
    obtain ⟨ns, hv, hn⟩ : ∃ ns, (∀ K : List CV → Prop, (φ.ev v).kC K → K ns) ∧ (ns.length = size ∧ (φ.ev x).kPtr (fun id off => kLive (φ.heap id) fun bl => off + ns.length ≤ bl.cs.length ∧ K ⟨[id], one .dead, [(id, .live ⟨bl.sz, bl.n, over bl.cs off ns⟩)]⟩) (fun _ => False)) := by
      generalize φ.ev v = sv at h
      unfold SV.kC at h
      split at h
      · exact h.elim
      · rename_i c hc; exact ⟨_, fun K hK => by cases c <;> first | exact hK | exact absurd rfl hc, h⟩
      · exact ⟨_, fun K hK => hK, h⟩
      · exact h.elim
    obtain ⟨id, off, bl, hx, hbl⟩ := hgo ns hn
    have hkC : (φ.ev v).kC fun ns' => ns' = ns := by
      have h' := h
      generalize φ.ev v = sv at h' hv ⊢
      unfold SV.kC at h'
      split at h'
      · exact h'.elim
      · rename_i c hc
        have : (Fm.one c).kC fun ns' => ns' = [c] := by cases c <;> first | rfl | exact absurd rfl hc
        have h2 := hv _ this
        cases c <;> first | exact h2.symm | exact absurd rfl hc
      · rename_i cs
        have : (SV.pv (.agg cs)).kC fun ns' => ns' = cs := rfl
        exact (hv _ this).symm
      · exact h'.elim
    obtain ⟨ns', rfl, hok⟩ := ok_store (nid := nid) ho hs hkC hx hbl
    obtain ⟨hlen, hp⟩ := hn
    rw [hx] at hp
    have hp' : kLive (φ.heap id) fun bl => off + ns'.length ≤ bl.cs.length ∧ K ⟨[id], one .dead, [(id, .live ⟨bl.sz, bl.n, over bl.cs off ns'⟩)]⟩ := hp
    rw [hbl] at hp'
    obtain ⟨hle, hK⟩ := hp'
    exact ⟨_, hok hlen hle, hK⟩
  · rename_i t ho
    obtain ⟨z, hz, h⟩ := kO_elim h
    exact ⟨_, ok_alloc ho hz, h⟩
  · rename_i t v ho
    obtain ⟨ns, hk, hok⟩ := ok_box (nid := nid) ho h
    exact ⟨_, hok, hk⟩
  · rename_i t ps ho
    split at h
    · rename_i ht
      obtain ⟨hall, h⟩ := h
      obtain ⟨z, hz, h⟩ := kO_elim h
      obtain ⟨cs, hk, hok⟩ := ok_build (nid := nid) ho ht hall hz h
      exact ⟨_, hok, hk⟩
    · exact h.elim
  · rename_i t n ps ho
    split at h
    · rename_i e ht
      obtain ⟨size, hs, hn, h0, hps, h⟩ := kO_elim h
      have hz : (zeroF P e).isSome = true := by
        suffices hh : ∀ (l : List (Nat × Operand)) (i : Nat) (K' : List CV → Prop), partsOf φ size i l (fun cs => (zeroF P e).isSome = true ∧ K' cs) → (zeroF P e).isSome = true from hh _ _ _ h
        intro l
        induction l with
        | nil => intro i K' h; exact h.1
        | cons q r ih =>
          intro i K' h
          obtain ⟨j, x⟩ := q
          simp only [partsOf] at h
          obtain ⟨_, h⟩ := h
          have h2 : ∃ cs : List CV, partsOf φ size (i + 1) r fun ds => (zeroF P e).isSome = true ∧ K' (cs ++ ds) := by
            generalize φ.ev x = sx at h
            unfold SV.kC at h
            split at h
            · exact h.elim
            · exact ⟨_, h.2⟩
            · exact ⟨_, h.2⟩
            · exact h.elim
          obtain ⟨cs, h2⟩ := h2
          exact ih _ (fun ds => K' (cs ++ ds)) h2
      obtain ⟨cs, hk, hok⟩ := ok_buildSlice (nid := nid) ho ht hs hn h0 hps hz h
      exact ⟨_, hok, hk.2⟩
    · exact h.elim
  · rename_i t l c ho
    split at h
    · rename_i e ht
      obtain ⟨size, hs, h⟩ := kO_elim h
      obtain ⟨z, hz, h⟩ := kO_elim h
      obtain ⟨by_, hb, hb1, hzl, h⟩ := kO_elim h
      obtain ⟨k1, n, hl, h⟩ := SV.kI_elim h
      obtain ⟨k2, m, hc, rfl, rfl, rfl, h0, hn, h⟩ := SV.kI_elim h
      exact ⟨_, ok_makeSlice ho ht hs hz hb hb1 hzl hl hc h0 hn, h⟩
    · exact h.elim
  · rename_i t x i ho
    split at h
    · rename_i ht
      obtain ⟨l, hx, h⟩ := SV.kS_elim h
      obtain ⟨k, n, hi, h0, h⟩ := SV.kI_elim h
      exact ⟨_, ok_index_str ho ht hx hi h0, h⟩
    · exact h.elim
  · rename_i t x i ho
    split at h
    · rename_i e ht
      obtain ⟨size, hs, h⟩ := kO_elim h
      obtain ⟨k, n, hi, h⟩ := SV.kI_elim h
      rcases SV.kSl_elim h with ⟨id, lo, m, hx, h⟩ | ⟨sz, m, cs, hx, hz, h0, h⟩ | ⟨_, h⟩
      · obtain ⟨b, hb, hz, h0, h⟩ := kLive_elim h
        exact ⟨_, ok_indexAddr ho ht hs hx hi hb hz h0, h⟩
      · exact ⟨_, ok_indexAddr_imm ho ht hs hx hi hz h0, h⟩
      · exact h.elim
    · exact h.elim
  · rename_i t x lo hi ho
    split at h
    · rename_i ht
      obtain ⟨l, hx, h⟩ := SV.kS_elim h
      obtain ⟨a, h, ha⟩ := bd_elim h
      obtain ⟨b, ⟨h0, h⟩, hb⟩ := bd_elim h
      exact ⟨_, ok_slice_str ho ht hx ha hb h0, h⟩
    · rename_i e ht
      obtain ⟨size, hs, h⟩ := kO_elim h
      rcases SV.kSl_elim h with ⟨id, l, n, hx, h⟩ | ⟨sz, n, cs, hx, hz, h⟩ | ⟨hx, h⟩
      · obtain ⟨bl, hbl, hz, h⟩ := kLive_elim h
        obtain ⟨a, h, ha⟩ := bd_elim h
        obtain ⟨b, ⟨h0, h⟩, hb⟩ := bd_elim h
        exact ⟨_, ok_slice_arr ho ht hs hx hbl hz ha hb h0, h⟩
      · obtain ⟨a, h, ha⟩ := bd_elim h
        obtain ⟨b, ⟨h0, h⟩, hb⟩ := bd_elim h
        exact ⟨_, ok_slice_imm ho ht hs hx hz ha hb h0, h⟩
      · obtain ⟨a, h, ha⟩ := bd_elim h
        obtain ⟨b, ⟨h0, h⟩, hb⟩ := bd_elim h
        exact ⟨_, ok_slice_emp ho ht hs hx ha hb h0, h⟩
    · exact h.elim
  · rename_i f first caps ho
    obtain ⟨h0, h⟩ := h
    obtain ⟨cs, hk, hok⟩ := ok_makeFunc (nid := nid) ho h0 h
    exact ⟨_, hok, hk⟩
  · rename_i x ho
    rcases SV.kPtr_elim h with ⟨id, off, hx, h⟩ | ⟨cs, hx, h⟩
    · obtain ⟨b, hb, h⟩ := kLive_elim h
      exact ⟨_, ok_nilCheck ho hx hb, h⟩
    · exact ⟨_, ok_nilCheck_ip ho hx, h⟩
  · rename_i c ho
    split at h
    · rename_i b hc
      have h' := h
      unfold builtinF at h'
      cases b with
      | len => exact ok_len ho hc h
      | append => exact ok_append ho hc h
      | max => exact ok_max ho hc h
      | copy => exact ok_copy ho hc h
      | clear => exact ok_clear ho hc h
      | _ => exact h'.elim
    · exact h.elim
  · exact h.elim

end Go.Fm
