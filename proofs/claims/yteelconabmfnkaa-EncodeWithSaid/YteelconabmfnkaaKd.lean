/- Regions that draw their order where every value may hang on what was done before: the invariant speaks of the values that the operations done have yielded. No program is named here. -/
import Derived.Test.YteelconabmfnkaaKg
namespace Go.Proofs.Yteelconabmfnkaa
open Go
set_option linter.unusedVariables false
section dyn
variable {P : Program} {ops : Array Oper}
/-- the walk in the text's order: x k is what operation k yields -/
def wpDyn (P : Program) (ops : Array Oper) (I : (Nat → Value) → (Nat → Bool) → World → Prop) (Q : Exit → Act → World → Prop) (x : Nat → Value) : Nat → List Oper → Act → Prop
  | n, [], a => ∀ S w', (∀ i < n, S i = true) → I x S w' → Q .normal a w'
  | k, o :: rest, a => (∀ S w, S k = false → closedS ops S → (∀ e ∈ o.after, Region.binds .any e = true → S e.on = true) → I x S w → Region.wanted o (yielded ops a.tmps) = true ∧ opToR P o a w (fun v w' => I (upd1 x k v) (ins S k) w')) ∧
    wpDyn P ops I Q x (k + 1) rest (a.put o.dst (x k))
theorem wpDyn_at {I : (Nat → Value) → (Nat → Bool) → World → Prop} {Q : Exit → Act → World → Prop} {x : Nat → Value} : ∀ (l : List Oper) (k : Nat) (a : Act), (∀ j o, l[j]? = some o → ops[k + j]? = some o) → wpDyn P ops I Q x k l a →
    (∀ j o, l[j]? = some o → ∀ S w, S (k + j) = false → closedS ops S → (∀ e ∈ o.after, Region.binds .any e = true → S e.on = true) → I x S w →
      Region.wanted o (yielded ops (putAll ops x (fun _ => true) (List.range' k j) a).tmps) = true ∧ opToR P o (putAll ops x (fun _ => true) (List.range' k j) a) w (fun v w' => I (upd1 x (k + j) v) (ins S (k + j)) w')) ∧
    (∀ S w', (∀ i < k + l.length, S i = true) → I x S w' → Q .normal (putAll ops x (fun _ => true) (List.range' k l.length) a) w')
  | [], k, a, _, h => ⟨fun j o hj => by simp at hj, h⟩
  | o :: l, k, a, hl, h => by
    have h0 : ops[k]? = some o := by simpa using hl 0 o rfl
    have hd : dstAt ops k = o.dst := by simp [dstAt, h0]
    obtain ⟨h1, h2⟩ := wpDyn_at l (k + 1) _ (fun j p hj => by have := hl (j + 1) p (by simpa using hj); simpa [Nat.add_assoc, Nat.add_comm 1 j] using this) h.2
    refine ⟨fun j p hj => ?_, ?_⟩
    · cases j with
      | zero =>
        simp at hj
        subst hj
        simpa [putAll] using h.1
      | succ j =>
        have := h1 j p (by simpa using hj)
        rw [List.range'_succ, putAll, if_pos rfl, hd, show k + (j + 1) = k + 1 + j by omega]
        exact this
    · rw [List.length_cons, List.range'_succ, putAll, if_pos rfl, hd, show k + (l.length + 1) = k + 1 + l.length by omega]
      exact h2
theorem wp_region_dyn {id : Nat} {l : List Oper} {Q : Exit → Act → World → Prop} {a : Act} {w : World} (I : (Nat → Value) → (Nat → Bool) → World → Prop) (hm : P.follows .mixedOrders = true) (hB : setsB l.toArray = true)
    (h0 : ∀ x, I x (fun _ => false) w.drew) (h : ∀ x, wpDyn P l.toArray I Q x 0 l a) : (Code.region id l.toArray true).wp P Q a w := by
  obtain ⟨ops, hops⟩ : ∃ ops, l.toArray = ops := ⟨_, rfl⟩
  have hl : ∀ j : Nat, l[j]? = ops[j]? := fun j => by rw [← hops]; simp
  have hsz : ops.size = l.length := by rw [← hops]; simp
  rw [hops] at hB h ⊢
  have hat := fun x => wpDyn_at l 0 a (fun j o hj => by rw [Nat.zero_add, ← hl j]; exact hj) (h x)
  have key := wpAny_of_famR (P := P) (β := Nat → Value) (I := I) (Q := Q) (a := a) (vs := fun x => x) hB (n1 := ops.size) (Nat.le_refl _) (fun k h1 h2 => absurd h2 (by omega))
    (fun k o hk ho x S w hSk hcl hafter hI => by
      have := (hat x).1 k o ((hl k).trans ho) S w (by rw [Nat.zero_add]; exact hSk) hcl hafter hI
      rw [Nat.zero_add, ← List.range_eq_range'] at this
      refine .inl ⟨this.1, opToR.imp this.2 fun v w' hv => ⟨upd1 x k v, fun j _ hj => ?_, ?_, hv⟩⟩
      · have : j ≠ k := fun e => by rw [e, hSk] at hj; cases hj
        simp only [upd1, this, if_false]
      · simp [upd1])
    (fun x S w' hS' hI => by
      rw [show ops.size - ops.size = 0 by omega]
      have := (hat x).2 S w' (by rw [Nat.zero_add, ← hsz]; exact hS') hI
      rw [← hsz, ← List.range_eq_range'] at this
      simpa [wpOps] using this)
    ops.size (fun _ => undef) (Array.replicate ops.size false) w.drew (by simp) (cnt_le _ _) (fun j _ => by rw [Sof_none]) (fun j o _ hSj => by rw [Sof_none] at hSj; cases hSj) (by rw [Sof_none]; exact h0 _)
  rw [Sof_none, putAll_none _ _ (fun _ _ => rfl)] at key
  exact wp_region_any hm key
variable {I : (Nat → Value) → (Nat → Bool) → World → Prop} {Q : Exit → Act → World → Prop} {x : Nat → Value} {k : Nat} {o : Oper} {rest : List Oper} {a : Act}
/-- an operation that yields a value without a step of the world's -/
theorem dyn_val (hg : o.guard = none) (hc : ∀ S w, S k = false → closedS ops S → (∀ e ∈ o.after, Region.binds .any e = true → S e.on = true) → I x S w → ∃ v w', (execOp a.eval o).run P w = .ok (.value v) w' ∧ I (upd1 x k v) (ins S k) w')
    (h : wpDyn P ops I Q x (k + 1) rest (a.put o.dst (x k))) : wpDyn P ops I Q x k (o :: rest) a :=
  ⟨fun S w hS hcl ha hI => by
    obtain ⟨v, w', h1, h2⟩ := hc S w hS hcl ha hI
    refine ⟨by unfold Region.wanted; rw [hg], ?_⟩
    unfold opToR
    rw [h1]
    exact h2, h⟩
/-- a call of a function value -/
theorem dyn_call (hg : o.guard = none) (f : Operand) (args : List Operand) (ts : Array TypeId) (ho : o.op = .call { callee := .value f, args := args.toArray, argTypes := ts })
    (hc : ∀ S w, S k = false → closedS ops S → (∀ e ∈ o.after, Region.binds .any e = true → S e.on = true) → I x S w → ∃ (g : FuncId) (ba lb : List Value), a.eval f = .func (.func g) ba.toArray lb.toArray ∧
      (∃ fn : Func, P.funcs[g]? = some fn ∧ (fn.name == "runtime.NumGoroutine") = false ∧ fn.body.isNone = false) ∧ Calls P g (ba ++ args.map a.eval ++ lb).toArray w fun e w' => ∃ v, e = .returned v ∧ I (upd1 x k v) (ins S k) w')
    (h : wpDyn P ops I Q x (k + 1) rest (a.put o.dst (x k))) : wpDyn P ops I Q x k (o :: rest) a :=
  ⟨fun S w hS hcl ha hI => by
    obtain ⟨g, ba, lb, hx, ⟨fn, hf, hn, hb⟩, hcall⟩ := hc S w hS hcl ha hI
    refine ⟨by unfold Region.wanted; rw [hg], ?_⟩
    have hr : (execOp a.eval o).run P w = .ok (.enter g (ba ++ args.map a.eval ++ lb).toArray) w := by
      unfold execOp
      simp [ho, hx, resolve, Deferred.ofValue, invoke, callFunc, hf]
      have hn' : ¬ fn.name = "runtime.NumGoroutine" := fun e => by rw [e] at hn; simp at hn
      have hb' : ¬ fn.body = none := fun e => by rw [e] at hb; simp at hb
      rw [if_neg hn', if_neg hb']
    unfold opToR
    rw [hr]
    exact hcall, h⟩
/-- an operation that yields nothing -/
theorem dyn_skip (hg : o.guard = none) (hc : ∀ S w, S k = false → closedS ops S → (∀ e ∈ o.after, Region.binds .any e = true → S e.on = true) → I x S w → ∃ w', (execOp a.eval o).run P w = .ok .skip w' ∧ I (upd1 x k undef) (ins S k) w')
    (h : wpDyn P ops I Q x (k + 1) rest (a.put o.dst (x k))) : wpDyn P ops I Q x k (o :: rest) a :=
  ⟨fun S w hS hcl ha hI => by
    obtain ⟨w', h1, h2⟩ := hc S w hS hcl ha hI
    refine ⟨by unfold Region.wanted; rw [hg], ?_⟩
    unfold opToR
    rw [h1]
    exact h2, h⟩
end dyn
end Go.Proofs.Yteelconabmfnkaa
