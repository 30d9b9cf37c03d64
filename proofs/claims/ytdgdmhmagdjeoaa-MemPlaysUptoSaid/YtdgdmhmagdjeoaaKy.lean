/- Regions that draw their order and hold one call whose value is known when it is done, and operations that take that value apart. No program is named here. -/
import Derived.Test.YtdgdmhmagdjeoaaKz
namespace Go.Proofs.Ytdgdmhmagdjeoaa
open Go
set_option linter.unusedVariables false
section
variable {P : Program} {ops : Array Oper} {α : Type}
/-- k0: the call; Pre: what holds ahead of it; R t: what holds behind it; VAL t j: what operation j yields -/
def GI (gs : Nat → Bool) (k0 : Nat) (Pre : World → Prop) (R : α → World → Prop) (VAL : α → Nat → Value) (x : Nat → Value) (S : Nat → Bool) (w : World) : Prop :=
  (S k0 = false → Pre w) ∧ (S k0 = true → ∃ t, R t w ∧ ∀ j, gs j = true → S j = true → x j = VAL t j)
variable {gs lk : Nat → Bool} {k0 : Nat} {Pre : World → Prop} {R : α → World → Prop} {VAL : α → Nat → Value} {x : Nat → Value} {S : Nat → Bool} {w w' : World} {k : Nat} {o : Oper} {rest : List Oper} {a : Act} {Q : Act → Prop}
theorem GI.quiet (hg : gs k = false) (hk : k ≠ k0) (h : GI gs k0 Pre R VAL x S w) : GI gs k0 Pre R VAL x (ins S k) w := by
  have e : ins S k k0 = S k0 := by simp [ins, Ne.symm hk]
  refine ⟨fun h0 => h.1 (by rwa [e] at h0), fun h0 => ?_⟩
  obtain ⟨t, h1, h2⟩ := h.2 (by rwa [e] at h0)
  refine ⟨t, h1, fun j hj hS => h2 j hj ?_⟩
  have : j ≠ k := fun e => by rw [e, hg] at hj; cases hj
  simpa [ins, this] using hS
theorem GI.done (hn : ∀ j, gs j = true → j ≠ k0 → S j = false) (t : α) (hR : R t w') : GI gs k0 Pre R VAL (upd1 x k0 (VAL t k0)) (ins S k0) w' := by
  refine ⟨fun h => by simp [ins] at h, fun _ => ⟨t, hR, fun j hj hS => ?_⟩⟩
  by_cases e : j = k0
  · subst e; simp [upd1]
  · have := hn j hj e
    simp [ins, e, this] at hS
theorem GI.step (h0 : S k0 = true) (hk : k ≠ k0) (hSk : S k = false) (h : GI gs k0 Pre R VAL x S w) : ∃ t, (∀ j, gs j = true → S j = true → x j = VAL t j) ∧ R t w ∧ GI gs k0 Pre R VAL (upd1 x k (VAL t k)) (ins S k) w := by
  obtain ⟨t, h1, h2⟩ := h.2 h0
  refine ⟨t, h2, h1, fun e => by simp [ins, h0] at e, fun _ => ⟨t, h1, fun j hj hS => ?_⟩⟩
  by_cases e : j = k
  · subst e; simp [upd1]
  · rw [show upd1 x k (VAL t k) j = x j by simp [upd1, e]]
    exact h2 j hj (by simpa [ins, e] using hS)
/-- an operation behind the call that takes its value, or a part of it -/
theorem gi_part (hg : gs k = true) (hl : lk k = true) (hk : k ≠ k0) (d : Nat) (hgd : gs d = true) (hd : (o.after.toList.any fun e => Region.binds .any e && e.on == d) = true) (hr : (d == k0 || reaches ops 9 d k0) = true)
    (hw : ∀ x, Region.wanted o (yielded ops (putAll ops x gs (List.range k) a).tmps) = true)
    (hrun : ∀ t x w, x d = VAL t d → (execOp (putAll ops x gs (List.range k) a).eval o).run P w = .ok (.value (VAL t k)) w)
    (h : wpGz P ops gs lk (GI gs k0 Pre R VAL) Q (k + 1) rest (a.put o.dst undef)) : wpGz P ops gs lk (GI gs k0 Pre R VAL) Q k (o :: rest) a := by
  refine gz_val hg hl (fun x S w hS hcl ha hI => ?_) h
  obtain ⟨e, he, hb⟩ := List.any_eq_true.1 hd
  rw [Bool.and_eq_true, beq_iff_eq] at hb
  have hSd : S d = true := by rw [← hb.2]; exact ha e (by simpa using he) hb.1
  have hS0 : S k0 = true := by
    rw [Bool.or_eq_true, beq_iff_eq] at hr
    rcases hr with rfl | hr
    · exact hSd
    · exact hcl.chain 9 d k0 hr hSd
  obtain ⟨t, h1, _, h2⟩ := hI.step hS0 hk hS
  exact ⟨hw x, _, _, hrun t x w (h1 d hgd hSd), h2⟩
/-- a quiet operation ahead of the call -/
theorem gi_quiet (C : World → Prop) (hC : ∀ w, Pre w → C w) (hg : gs k = false) (hl : lk k = false) (hw : Region.wanted o (yielded ops a.tmps) = true) (hr : reaches ops 9 k0 k = true) (hk : k ≠ k0) (hc : isCall o.op = false)
    (h : ∀ K : Act → Prop, (∀ a, wpGz P ops gs lk (GI gs k0 Pre R VAL) Q (k + 1) rest a → K a) → o.quiet P a C K) : wpGz P ops gs lk (GI gs k0 Pre R VAL) Q k (o :: rest) a := by
  obtain ⟨v, h1, h2⟩ := h _ (fun _ h => h)
  refine gz_step hg hl v (fun x => .inl ⟨hw, fun S w hS hcl _ hIw => ?_⟩) h2
  have hS0 : S k0 = false := by
    cases h0 : S k0 with
    | false => rfl
    | true => have := hcl.chain 9 k0 k hr h0; rw [hS] at this; cases this
  have := h1 w (hC w (hIw.1 hS0))
  unfold Oper.quietAt at this
  unfold opTo
  generalize hr : (execOp a.eval o).run P w = r at *
  cases r with
  | ok n w' =>
    cases n <;> simp only [Oper.quietUpon] at this <;> simp only [resTo]
    case value u => obtain ⟨rfl, e⟩ := this; exact ⟨e, hIw.quiet hg hk⟩
    case skip => obtain ⟨rfl, e⟩ := this; exact ⟨e, hIw.quiet hg hk⟩
    case enter f args => exact absurd hr (no_enter o hc _ _ _ _ _)
  | halt x w' => simp only [Oper.quietUpon] at this
theorem gi_call {gsl : List Nat} (hg : gsl.contains k0 = true) (hl : lk k0 = false) (hdep : (gsl.all fun j => j == k0 || reaches ops 9 j k0) = true) (hw : Region.wanted o (yielded ops a.tmps) = true) (f : FuncId) (args : List Operand) (ts : Array TypeId) (ho : o.op = .call { callee := .value (.func f), args := args.toArray, argTypes := ts })
    (fn : Func) (hf : P.funcs[f]? = some fn) (hn : (fn.name == "runtime.NumGoroutine") = false) (hb : fn.body.isNone = false) (vals : List Value) (hv : args.map a.eval = vals)
    (hc : ∀ w, Pre w → Calls P f vals.toArray w fun e w' => ∃ t, e = .returned (VAL t k0) ∧ R t w')
    (h : wpGz P ops (fun j => gsl.contains j) lk (GI (fun j => gsl.contains j) k0 Pre R VAL) Q (k0 + 1) rest (a.put o.dst undef)) : wpGz P ops (fun j => gsl.contains j) lk (GI (fun j => gsl.contains j) k0 Pre R VAL) Q k0 (o :: rest) a := by
  refine gz_call_ghost hg hl hw f args ts ho fn hf hn hb vals hv (fun x S w hS hcl ha hI => ?_) h
  refine (hc w (hI.1 hS)).mono ?_
  rintro e w' ⟨t, he, hR⟩
  refine ⟨_, he, GI.done (fun j hj hne => ?_) t hR⟩
  cases hSj : S j with
  | false => rfl
  | true =>
    have h1 := List.all_eq_true.1 hdep j (List.contains_iff_mem.1 hj)
    rw [Bool.or_eq_true, beq_iff_eq] at h1
    have := hcl.chain 9 j k0 (h1.resolve_left hne) hSj
    rw [hS] at this; cases this
end
end Go.Proofs.Ytdgdmhmagdjeoaa
