/- As XKy, with one store of a part of the call's value (operation ks). No program is named here. -/
import Derived.Test.YtdgdmhmagdjeoaaKy
namespace Go.Proofs.Ytdgdmhmagdjeoaa
open Go
set_option linter.unusedVariables false
section
variable {P : Program} {ops : Array Oper} {α : Type}
def GJ (gs : Nat → Bool) (k0 ks : Nat) (Pre : World → Prop) (R : α → Bool → World → Prop) (VAL : α → Nat → Value) (x : Nat → Value) (S : Nat → Bool) (w : World) : Prop :=
  (S k0 = false → Pre w) ∧ (S k0 = true → ∃ t, R t (S ks) w ∧ ∀ j, gs j = true → S j = true → x j = VAL t j)
variable {gs lk : Nat → Bool} {k0 ks : Nat} {Pre : World → Prop} {R : α → Bool → World → Prop} {VAL : α → Nat → Value} {x : Nat → Value} {S : Nat → Bool} {w w' : World} {k : Nat} {o : Oper} {rest : List Oper} {a : Act} {Q : Act → Prop}
theorem GJ.quiet (hg : gs k = false) (hk : k ≠ k0) (hs : k ≠ ks) (h : GJ gs k0 ks Pre R VAL x S w) : GJ gs k0 ks Pre R VAL x (ins S k) w := by
  have e : ins S k k0 = S k0 := by simp [ins, Ne.symm hk]
  have e2 : ins S k ks = S ks := by simp [ins, Ne.symm hs]
  refine ⟨fun h0 => h.1 (by rwa [e] at h0), fun h0 => ?_⟩
  obtain ⟨t, h1, h2⟩ := h.2 (by rwa [e] at h0)
  refine ⟨t, by rw [e2]; exact h1, fun j hj hS => h2 j hj ?_⟩
  have : j ≠ k := fun e => by rw [e, hg] at hj; cases hj
  simpa [ins, this] using hS
theorem gj_part (hg : gs k = true) (hl : lk k = true) (hk : k ≠ k0) (hs : k ≠ ks) (d : Nat) (hgd : gs d = true) (hd : (o.after.toList.any fun e => Region.binds .any e && e.on == d) = true) (hr : (d == k0 || reaches ops 9 d k0) = true)
    (hw : ∀ x, Region.wanted o (yielded ops (putAll ops x gs (List.range k) a).tmps) = true)
    (hrun : ∀ t x w, x d = VAL t d → (execOp (putAll ops x gs (List.range k) a).eval o).run P w = .ok (.value (VAL t k)) w)
    (h : wpGz P ops gs lk (GJ gs k0 ks Pre R VAL) Q (k + 1) rest (a.put o.dst undef)) : wpGz P ops gs lk (GJ gs k0 ks Pre R VAL) Q k (o :: rest) a := by
  refine gz_val hg hl (fun x S w hS hcl ha hI => ?_) h
  obtain ⟨e, he, hb⟩ := List.any_eq_true.1 hd
  rw [Bool.and_eq_true, beq_iff_eq] at hb
  have hSd : S d = true := by rw [← hb.2]; exact ha e (by simpa using he) hb.1
  have hS0 : S k0 = true := by
    rw [Bool.or_eq_true, beq_iff_eq] at hr
    rcases hr with rfl | hr
    · exact hSd
    · exact hcl.chain 9 d k0 hr hSd
  obtain ⟨t, h1, h2⟩ := hI.2 hS0
  refine ⟨hw x, _, _, hrun t x w (h2 d hgd hSd), fun e => by simp [ins, hS0] at e, fun _ => ⟨t, ?_, fun j hj hSj => ?_⟩⟩
  · rw [show ins S k ks = S ks by simp [ins, Ne.symm hs]]; exact h1
  · by_cases e : j = k
    · subst e; simp [upd1]
    · rw [show upd1 x k (VAL t k) j = x j by simp [upd1, e]]
      exact h2 j hj (by simpa [ins, e] using hSj)
/-- a quiet operation ahead of the call -/
theorem gj_quiet (C : World → Prop) (hC : ∀ w, Pre w → C w) (hg : gs k = false) (hl : lk k = false) (hw : Region.wanted o (yielded ops a.tmps) = true) (hr : reaches ops 9 k0 k = true) (hk : k ≠ k0) (hs : k ≠ ks) (hc : isCall o.op = false)
    (h : ∀ K : Act → Prop, (∀ a, wpGz P ops gs lk (GJ gs k0 ks Pre R VAL) Q (k + 1) rest a → K a) → o.quiet P a C K) : wpGz P ops gs lk (GJ gs k0 ks Pre R VAL) Q k (o :: rest) a := by
  obtain ⟨v, h1, h2⟩ := h _ (fun _ h => h)
  refine gz_step hg hl v (fun x => .inl ⟨hw, fun S w hS hcl _ hIw => ?_⟩) h2
  have hS0 : S k0 = false := by
    cases h0 : S k0 with
    | false => rfl
    | true => have := hcl.chain 9 k0 k hr h0; rw [hS] at this; cases this
  have := h1 w (hC w (hIw.1 hS0))
  unfold Oper.quietAt at this
  unfold opTo
  generalize hr : (execOp a.eval o).run P w = r at *
  cases r with
  | ok n w' =>
    cases n <;> simp only [Oper.quietUpon] at this <;> simp only [resTo]
    case value u => obtain ⟨rfl, e⟩ := this; exact ⟨e, hIw.quiet hg hk hs⟩
    case skip => obtain ⟨rfl, e⟩ := this; exact ⟨e, hIw.quiet hg hk hs⟩
    case enter f args => exact absurd hr (no_enter o hc _ _ _ _ _)
  | halt x w' => simp only [Oper.quietUpon] at this
theorem gj_call {gsl : List Nat} (hg : gsl.contains k0 = true) (hl : lk k0 = false) (hks : k0 ≠ ks) (hdep : (gsl.all fun j => j == k0 || reaches ops 9 j k0) = true) (hdeps : reaches ops 9 ks k0 = true) (hw : Region.wanted o (yielded ops a.tmps) = true) (f : FuncId) (args : List Operand) (ts : Array TypeId) (ho : o.op = .call { callee := .value (.func f), args := args.toArray, argTypes := ts })
    (fn : Func) (hf : P.funcs[f]? = some fn) (hn : (fn.name == "runtime.NumGoroutine") = false) (hb : fn.body.isNone = false) (vals : List Value) (hv : args.map a.eval = vals)
    (hc : ∀ w, Pre w → Calls P f vals.toArray w fun e w' => ∃ t, e = .returned (VAL t k0) ∧ R t false w')
    (h : wpGz P ops (fun j => gsl.contains j) lk (GJ (fun j => gsl.contains j) k0 ks Pre R VAL) Q (k0 + 1) rest (a.put o.dst undef)) : wpGz P ops (fun j => gsl.contains j) lk (GJ (fun j => gsl.contains j) k0 ks Pre R VAL) Q k0 (o :: rest) a := by
  refine gz_call_ghost hg hl hw f args ts ho fn hf hn hb vals hv (fun x S w hS hcl ha hI => ?_) h
  refine (hc w (hI.1 hS)).mono ?_
  rintro e w' ⟨t, he, hR⟩
  have hSs : S ks = false := by
    cases h0 : S ks with
    | false => rfl
    | true => have := hcl.chain 9 ks k0 hdeps h0; rw [hS] at this; cases this
  refine ⟨_, he, fun h => by simp [ins] at h, fun _ => ⟨t, ?_, fun j hj hSj => ?_⟩⟩
  · rw [show ins S k0 ks = S ks by simp [ins, Ne.symm hks], hSs]; exact hR
  · by_cases e : j = k0
    · subst e; simp [upd1]
    · have h1 := List.all_eq_true.1 hdep j (List.contains_iff_mem.1 hj)
      rw [Bool.or_eq_true, beq_iff_eq] at h1
      have hSj' : S j = true := by simpa [ins, e] using hSj
      have := hcl.chain 9 j k0 (h1.resolve_left e) hSj'
      rw [hS] at this; cases this
theorem gj_store (hg : gs ks = false) (hl : lk ks = true) (hks : ks ≠ k0) (d : Nat) (hgd : gs d = true) (hd : (o.after.toList.any fun e => Region.binds .any e && e.on == d) = true) (hr : (d == k0 || reaches ops 9 d k0) = true)
    (hw : ∀ x, Region.wanted o (yielded ops (putAll ops x gs (List.range ks) a).tmps) = true) (t : TypeId) (p y : Operand) (ho : o.op = .store t p y) (hdst : o.dst = none) (ad : Addr) (hx : ∀ x, (putAll ops x gs (List.range ks) a).eval p = .pointer (some ad))
    (hy : ∀ x, (putAll ops x gs (List.range ks) a).eval y = x d) (hi : (P.info? t).map (·.size) = some 1)
    (hR : ∀ t w, R t false w → (VAL t d).oneCell' = true ∧ (∃ old, w.cell? ad = some old) ∧ w.frozen? ad = false ∧ R t true (w.setCell ad (VAL t d)))
    (h : wpGz P ops gs lk (GJ gs k0 ks Pre R VAL) Q (ks + 1) rest a) : wpGz P ops gs lk (GJ gs k0 ks Pre R VAL) Q ks (o :: rest) a := by
  refine gz_store_look hg hl hw t p y ho hdst ad hx (fun x => x d) hy hi (fun x S w hS hcl ha hI => ?_) h
  obtain ⟨e, he, hb⟩ := List.any_eq_true.1 hd
  rw [Bool.and_eq_true, beq_iff_eq] at hb
  have hSd : S d = true := by rw [← hb.2]; exact ha e (by simpa using he) hb.1
  have hS0 : S k0 = true := by
    rw [Bool.or_eq_true, beq_iff_eq] at hr
    rcases hr with rfl | hr
    · exact hSd
    · exact hcl.chain 9 d k0 hr hSd
  obtain ⟨t, h1, h2⟩ := hI.2 hS0
  rw [hS] at h1
  obtain ⟨q1, q2, q3, q4⟩ := hR t w h1
  have hv := h2 d hgd hSd
  show (x d).oneCell' = true ∧ _ ∧ _ ∧ GJ _ _ _ _ _ _ _ _ (w.setCell ad (x d))
  rw [hv]
  refine ⟨q1, q2, q3, fun e => by simp [ins, hS0] at e, fun _ => ⟨t, by rw [show ins S ks ks = true by simp [ins]]; exact q4, fun j hj hSj => h2 j hj ?_⟩⟩
  have : j ≠ ks := fun e => by rw [e, hg] at hj; cases hj
  simpa [ins, this] using hSj
end
end Go.Proofs.Ytdgdmhmagdjeoaa
