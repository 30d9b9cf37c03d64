/- As XKg: regions that draw their order and hold operations whose values are known only when they are done; here some operations (lk) may look at such values. No program is named here. -/
import Derived.Test.YtdgdmhmagdjeoaaKg
namespace Go.Proofs.Ytdgdmhmagdjeoaa
open Go
set_option linter.unusedVariables false
section
variable {P : Program} {ops : Array Oper}
/-- the lexical walk: gs: the operations whose values are known when they are done; lk: those that may look at such values (their frame is filled in) -/
def wpGz (P : Program) (ops : Array Oper) (gs lk : Nat → Bool) (I : (Nat → Value) → (Nat → Bool) → World → Prop) (Q : Act → Prop) : Nat → List Oper → Act → Prop
  | _, [], a => Q a
  | k, o :: rest, a =>
    (gs k = true ∧ (∀ x S w, S k = false → closedS ops S → (∀ e ∈ o.after, Region.binds .any e = true → S e.on = true) → I x S w →
        Region.wanted o (yielded ops (if lk k = true then putAll ops x gs (List.range k) a else a).tmps) = true ∧ opToR P o (if lk k = true then putAll ops x gs (List.range k) a else a) w (fun b w' => I (upd1 x k b) (ins S k) w')) ∧
      wpGz P ops gs lk I Q (k + 1) rest (a.put o.dst undef)) ∨
    (gs k = false ∧ ∃ v, (∀ x, stepOk P ops (I x) k o (if lk k = true then putAll ops x gs (List.range k) a else a) v) ∧ wpGz P ops gs lk I Q (k + 1) rest (a.put o.dst v))
def blindZ (ops : Array Oper) (gs lk : Nat → Bool) (n1 : Nat) : Bool := (List.range n1).all fun k => !gs k || ((List.range n1).all fun j => match dstAt ops k, ops[j]? with
  | some d, some o => (lk j || !(o.looksAt ops).contains d) && (j == k || dstAt ops j != some d)
  | _, _ => true)
theorem blindZ_spec {gs lk : Nat → Bool} {n1 : Nat} (h : blindZ ops gs lk n1 = true) {k j : Nat} (hk : k < n1) (hj : j < n1) (hg : gs k = true) {d : Tmp} {o : Oper} (hd : dstAt ops k = some d) (ho : ops[j]? = some o) : (lk j = false → d ∉ o.looksAt ops) ∧ (j ≠ k → dstAt ops j ≠ some d) := by
  have h1 := List.all_eq_true.1 h k (List.mem_range.2 hk)
  rw [hg, Bool.not_true, Bool.false_or] at h1
  have h2 := List.all_eq_true.1 h1 j (List.mem_range.2 hj)
  rw [hd, ho] at h2
  simp only [Bool.and_eq_true, Bool.or_eq_true, beq_iff_eq, bne_iff_ne, Bool.not_eq_true'] at h2
  exact ⟨fun hl => by have := h2.1; rw [hl] at this; simpa using this, fun hne => h2.2.resolve_left hne⟩
theorem wpGz_values {gs lk : Nat → Bool} {I : (Nat → Value) → (Nat → Bool) → World → Prop} {Q : Act → Prop} : ∀ (l : List Oper) (k : Nat) (a : Act), (∀ j o, l[j]? = some o → ops[k + j]? = some o) → (k = 0 ∨ True) →
    ∀ (a0 : Act) (v0 : Nat → Value), (∀ j, gs j = true → v0 j = undef) → a = putAll ops v0 (fun _ => true) (List.range k) a0 → wpGz P ops gs lk I Q k l a →
    ∃ vs : Nat → Value, (∀ j, j < k → vs j = v0 j) ∧ (∀ j, gs j = true → vs j = undef) ∧
      (∀ j o, l[j]? = some o → (gs (k + j) = true ∧
        (∀ x S w, S (k + j) = false → closedS ops S → (∀ e ∈ o.after, Region.binds .any e = true → S e.on = true) → I x S w →
          Region.wanted o (yielded ops (if lk (k + j) = true then putAll ops x gs (List.range (k + j)) (putAll ops vs (fun _ => true) (List.range (k + j)) a0) else putAll ops vs (fun _ => true) (List.range (k + j)) a0).tmps) = true ∧
          opToR P o (if lk (k + j) = true then putAll ops x gs (List.range (k + j)) (putAll ops vs (fun _ => true) (List.range (k + j)) a0) else putAll ops vs (fun _ => true) (List.range (k + j)) a0) w (fun b w' => I (upd1 x (k + j) b) (ins S (k + j)) w'))) ∨
        (gs (k + j) = false ∧ ∀ x, stepOk P ops (I x) (k + j) o (if lk (k + j) = true then putAll ops x gs (List.range (k + j)) (putAll ops vs (fun _ => true) (List.range (k + j)) a0) else putAll ops vs (fun _ => true) (List.range (k + j)) a0) (vs (k + j)))) ∧
      Q (putAll ops vs (fun _ => true) (List.range (k + l.length)) a0)
  | [], k, a, _, _, a0, v0, hv, ha, h => ⟨v0, fun _ _ => rfl, hv, fun j o hj => by simp at hj, by rw [List.length_nil, Nat.add_zero, ← ha]; exact h⟩
  | o :: l, k, a, hl, _, a0, v0, hv, ha, h => by
    have h0 : ops[k]? = some o := by simpa using hl 0 o rfl
    have hd : dstAt ops k = o.dst := by simp [dstAt, h0]
    obtain ⟨v, hvg, hstep, hr⟩ : ∃ v : Value, (gs k = true → v = undef) ∧ ((gs k = true ∧ (∀ x S w, S k = false → closedS ops S → (∀ e ∈ o.after, Region.binds .any e = true → S e.on = true) → I x S w →
          Region.wanted o (yielded ops (if lk k = true then putAll ops x gs (List.range k) a else a).tmps) = true ∧ opToR P o (if lk k = true then putAll ops x gs (List.range k) a else a) w (fun b w' => I (upd1 x k b) (ins S k) w'))) ∨
        (gs k = false ∧ ∀ x, stepOk P ops (I x) k o (if lk k = true then putAll ops x gs (List.range k) a else a) v)) ∧ wpGz P ops gs lk I Q (k + 1) l (a.put o.dst v) := by
      rcases h with ⟨hg, hs, hr⟩ | ⟨hg, v, hs, hr⟩
      · exact ⟨undef, fun _ => rfl, .inl ⟨hg, hs⟩, hr⟩
      · exact ⟨v, (fun e => by rw [hg] at e; cases e), .inr ⟨hg, hs⟩, hr⟩
    have hlt : ∀ (n : Nat), n ≤ k → putAll ops (fun j => if j = k then v else v0 j) (fun _ => true) (List.range n) a0 = putAll ops v0 (fun _ => true) (List.range n) a0 := fun n hn =>
      putAll_congr _ _ fun j hj => ⟨rfl, if_neg (by have := List.mem_range.1 hj; omega)⟩
    obtain ⟨vs, hlow, hu, h1, h2⟩ := wpGz_values l (k + 1) _ (fun j p hj => by have := hl (j + 1) p (by simpa using hj); simpa [Nat.add_assoc, Nat.add_comm 1 j] using this) (.inr trivial) a0 (fun j => if j = k then v else v0 j) (fun j hj => by
        show (if j = k then v else v0 j) = undef
        split
        · next e => subst e; exact hvg hj
        · exact hv j hj) (by
        rw [List.range_succ, putAll_append, hlt k (Nat.le_refl _), ← ha]
        simp only [putAll, if_true, hd]) hr
    have hvk : vs k = v := (hlow k (Nat.lt_succ_self k)).trans (if_pos rfl)
    have hak : putAll ops vs (fun _ => true) (List.range k) a0 = a := by
      rw [ha]
      exact putAll_congr _ _ fun j hj => ⟨rfl, by have := List.mem_range.1 hj; exact (hlow j (by omega)).trans (if_neg (by omega))⟩
    refine ⟨vs, fun j hj => (hlow j (by omega)).trans (if_neg (by omega)), hu, fun j p hj => ?_, ?_⟩
    · cases j with
      | zero =>
        simp only [List.getElem?_cons_zero, Option.some.injEq] at hj
        subst hj
        rw [Nat.add_zero, hak, hvk]
        exact hstep
      | succ j =>
        have := h1 j p (by simpa using hj)
        rw [show k + (j + 1) = k + 1 + j by omega]
        exact this
    · rw [List.length_cons, show k + (l.length + 1) = k + 1 + l.length by omega]
      exact h2
theorem wp_region_gz {id : Nat} (l1 l2 : List Oper) (gs lk : Nat → Bool) {Q : Exit → Act → World → Prop} {a : Act} {w : World} (I : (Nat → Value) → (Nat → Bool) → World → Prop)
    (hm : P.follows .mixedOrders = true) (hB : setsB (l1 ++ l2).toArray = true) (hT : tailB (l1 ++ l2).toArray l1.length = true) (hG : blindZ (l1 ++ l2).toArray gs lk l1.length = true) (h0 : ∀ x, I x (fun _ => false) w.drew)
    (h : wpGz P (l1 ++ l2).toArray gs lk I (fun a' => ∀ x S w', (∀ i < l1.length, S i = true) → I x S w' → wpList P (l1 ++ l2).toArray Q l2 (putAll (l1 ++ l2).toArray x gs (List.range l1.length) a') w') 0 l1 a) :
    (Code.region id (l1 ++ l2).toArray true).wp P Q a w := by
  obtain ⟨ops, hops⟩ : ∃ ops, (l1 ++ l2).toArray = ops := ⟨_, rfl⟩
  have hl1 : ∀ j, j < l1.length → l1[j]? = ops[j]? := fun j hj => by rw [← hops]; simp [List.getElem?_append_left hj]
  have hl2 : ∀ j, l2[j]? = ops[l1.length + j]? := fun j => by
    rw [← hops, List.getElem?_toArray, List.getElem?_append_right (by omega), show l1.length + j - l1.length = j by omega]
  have hsz : ops.size = l1.length + l2.length := by rw [← hops]; simp
  rw [hops] at hB hT hG h ⊢
  have hsel := (setsB_spec hB).1
  obtain ⟨vs0, _, hu, p1, p2⟩ := wpGz_values l1 0 a (fun j o hj => by rw [Nat.zero_add, ← hl1 j (List.getElem?_eq_some_iff.1 hj).1]; exact hj) (.inl rfl) a (fun _ => undef) (fun _ _ => rfl) rfl h
  let vs : (Nat → Value) → Nat → Value := fun x j => if gs j = true then x j else vs0 j
  have hmix : ∀ (x : Nat → Value) (n : Nat), n ≤ l1.length → putAll ops (vs x) (fun _ => true) (List.range n) a = putAll ops x gs (List.range n) (putAll ops vs0 (fun _ => true) (List.range n) a) := fun x n hn =>
    putAll_mix _ _ List.nodup_range (fun k hk hg d hd j hj hne => (blindZ_spec hG (by have := List.mem_range.1 hk; omega) (by have := List.mem_range.1 hj; omega) hg hd (Array.getElem?_eq_getElem (show j < ops.size by have := List.mem_range.1 hj; omega))).2 hne)
  have hframe : ∀ (x : Nat → Value) (k : Nat) (o : Oper), k < l1.length → ops[k]? = some o → ∀ t ∈ o.looksAt ops, (putAll ops (vs x) (fun _ => true) (List.range k) a).tmps[t]? = (if lk k = true then putAll ops x gs (List.range k) (putAll ops vs0 (fun _ => true) (List.range k) a) else putAll ops vs0 (fun _ => true) (List.range k) a).tmps[t]? := fun x k o hk ho t ht => by
    by_cases hl : lk k = true
    · rw [if_pos hl, hmix x k (by omega)]
    · rw [if_neg hl]
      refine putAll_vary _ _ _ rfl fun j hj hd => ?_
      have hjk := List.mem_range.1 hj
      show (if gs j = true then x j else vs0 j) = vs0 j
      split
      · next hg => exact absurd ht ((blindZ_spec hG (k := j) (j := k) (by omega) hk hg hd ho).1 (by simpa using hl))
      · rfl
  have key := wpAny_of_famR (P := P) (β := Nat → Value) (I := I) (Q := Q) (a := a) (vs := vs) hB (n1 := l1.length) (by omega) (tailB_spec hT)
    (fun k o hk ho x S w hSk hcl hafter hI => by
      have := p1 k o ((hl1 k hk).trans ho)
      rw [Nat.zero_add] at this
      have hsame := same_op (fun cs b => Region.noSelect_spec hsel k o cs b ho) (hframe x k o hk ho)
      have hwt := same_wanted (hframe x k o hk ho)
      rcases this with ⟨hg, hs⟩ | ⟨hg, hs⟩
      · obtain ⟨hw, hs⟩ := hs x S w hSk hcl hafter hI
        refine .inl ⟨by rw [hwt]; exact hw, opToR.same hsame (opToR.imp hs fun b w' hb => ⟨upd1 x k b, fun j _ hj => ?_, ?_, hb⟩)⟩
        · show (if gs j = true then upd1 x k b j else vs0 j) = (if gs j = true then x j else vs0 j)
          have : j ≠ k := fun e => by rw [e, hSk] at hj; cases hj
          simp only [upd1, this, if_false]
        · show (if gs k = true then upd1 x k b k else vs0 k) = b
          simp [hg, upd1]
      · have e : vs x k = vs0 k := by
          show (if gs k = true then x k else vs0 k) = _
          rw [hg]; rfl
        rcases (hs x).fam hSk hcl hafter hI with ⟨h1, h2⟩ | ⟨h1, h2, h3⟩
        · exact .inl ⟨by rw [hwt]; exact h1, opToR.same hsame (h2.R fun w' hw' => ⟨x, fun _ _ _ => rfl, e, hw'⟩)⟩
        · exact .inr ⟨by rw [hwt]; exact h1, x, fun _ _ _ => rfl, e.trans h2, h3⟩)
    (fun x S w' hS' hI => by
      have e : wpOps P ops Q (List.range' l1.length (ops.size - l1.length)) = wpList P ops Q l2 := by
        rw [show ops.size - l1.length = l2.length by omega]
        exact wpOps_eq_wpList l2 l1.length hl2
      rw [e, hmix x l1.length (Nat.le_refl _)]
      have := p2 x S w' hS' hI
      rw [Nat.zero_add] at this
      exact this)
    ops.size (fun _ => undef) (Array.replicate ops.size false) w.drew (by simp) (cnt_le _ _) (fun j _ => by rw [Sof_none]) (fun j o _ hSj => by rw [Sof_none] at hSj; cases hSj) (by rw [Sof_none]; exact h0 _)
  rw [Sof_none, putAll_none _ _ (fun _ _ => rfl)] at key
  exact wp_region_any hm key
variable {gs lk : Nat → Bool} {I : (Nat → Value) → (Nat → Bool) → World → Prop} {Q : Act → Prop} {k : Nat} {o : Oper} {rest : List Oper} {a : Act}
theorem gz_step (hg : gs k = false) (hl : lk k = false) (v : Value) (h1 : ∀ x, stepOk P ops (I x) k o a v) (h : wpGz P ops gs lk I Q (k + 1) rest (a.put o.dst v)) : wpGz P ops gs lk I Q k (o :: rest) a :=
  .inr ⟨hg, v, fun x => by rw [hl]; exact h1 x, h⟩
theorem gz_quiet (C : World → Prop) (hC : ∀ x S w, I x S w → C w) (hg : gs k = false) (hl : lk k = false) (hw : Region.wanted o (yielded ops a.tmps) = true) (hI : ∀ x S w, S k = false → I x S w → I x (ins S k) w) (hc : isCall o.op = false)
    (h : ∀ K : Act → Prop, (∀ a, wpGz P ops gs lk I Q (k + 1) rest a → K a) → o.quiet P a C K) : wpGz P ops gs lk I Q k (o :: rest) a := by
  obtain ⟨v, h1, h2⟩ := h _ (fun _ h => h)
  refine gz_step hg hl v (fun x => .inl ⟨hw, fun S w hS _ _ hIw => ?_⟩) h2
  have := h1 w (hC x S w hIw)
  unfold Oper.quietAt at this
  unfold opTo
  generalize hr : (execOp a.eval o).run P w = r at *
  cases r with
  | ok n w' =>
    cases n <;> simp only [Oper.quietUpon] at this <;> simp only [resTo]
    case value u => obtain ⟨rfl, e⟩ := this; exact ⟨e, hI x S _ hS hIw⟩
    case skip => obtain ⟨rfl, e⟩ := this; exact ⟨e, hI x S _ hS hIw⟩
    case enter f args => exact absurd hr (no_enter o hc _ _ _ _ _)
  | halt x w' => simp only [Oper.quietUpon] at this
theorem gz_skip (hg : gs k = false) (hl : lk k = false) (hw : Region.wanted o (yielded ops a.tmps) = false) (hI : ∀ x S w, S k = false → I x S w → I x (ins S k) w)
    (h : wpGz P ops gs lk I Q (k + 1) rest (a.put o.dst undef)) : wpGz P ops gs lk I Q k (o :: rest) a :=
  gz_step hg hl undef (fun x => .inr ⟨hw, rfl, hI x⟩) h
theorem gz_run (v : Value) (hg : gs k = false) (hl : lk k = false) (hw : Region.wanted o (yielded ops a.tmps) = true) (hI : ∀ x S w, S k = false → I x S w → I x (ins S k) w)
    (hr : ∀ w, (execOp a.eval o).run P w = .ok (.value v) w) (h : wpGz P ops gs lk I Q (k + 1) rest (a.put o.dst v)) : wpGz P ops gs lk I Q k (o :: rest) a := by
  refine gz_step hg hl v (fun x => .inl ⟨hw, fun S w hS _ _ hIw => ?_⟩) h
  unfold opTo
  rw [hr w]
  exact ⟨rfl, hI x S w hS hIw⟩
theorem gz_load1 (hg : gs k = false) (hl : lk k = false) (hw : Region.wanted o (yielded ops a.tmps) = true) (hI : ∀ x S w, S k = false → I x S w → I x (ins S k) w) (ty : TypeId) (y : Operand) (ho : o.op = .load ty y)
    (ad : Addr) (hx : a.eval y = .pointer (some ad)) (v : Value) (hc : ∀ x S w, S k = false → closedS ops S → I x S w → w.cell? ad = some v) (d : TypeDesc) (hu : P.underlying ty = some d) (hd : isRow d = false)
    (h : wpGz P ops gs lk I Q (k + 1) rest (a.put o.dst v)) : wpGz P ops gs lk I Q k (o :: rest) a := by
  refine gz_step hg hl v (fun x => .inl ⟨hw, fun S w hS hcl _ hIw => ?_⟩) h
  have hagg : (isAgg ty).run P w = .ok false w := by
    unfold isAgg
    rw [Sem.run_bind, run_underlying hu w]
    cases d <;> simp_all [isRow]
  have hcell := hc x S w hS hcl hIw
  have hl : (loadVar ty ad).run P w = .ok v w := by
    simp [loadVar, Sem.run_bind, hagg, run_load, hcell]
  unfold opTo execOp
  simp only [ho, hx, run_v]
  simp [Instr.loadAt, Instr.sureAddr, hl, resTo, hI x S w hS hIw]
theorem run_call_fn (f : FuncId) (args : List Operand) (ts : Array TypeId) (ho : o.op = .call { callee := .value (.func f), args := args.toArray, argTypes := ts })
    (fn : Func) (hf : P.funcs[f]? = some fn) (hn : (fn.name == "runtime.NumGoroutine") = false) (hb : fn.body.isNone = false) (vals : List Value) (hv : args.map a.eval = vals) (w : World) : (execOp a.eval o).run P w = .ok (.enter f vals.toArray) w := by
  unfold execOp
  simp [ho, resolve, Act.eval, Deferred.ofValue, invoke, callFunc, hf]
  have hn' : ¬ fn.name = "runtime.NumGoroutine" := fun e => by rw [e] at hn; simp at hn
  have hb' : ¬ fn.body = none := fun e => by rw [e] at hb; simp at hb
  rw [if_neg hn', if_neg hb', ← hv]
theorem gz_call (v : Value) (hg : gs k = false) (hl : lk k = false) (hw : Region.wanted o (yielded ops a.tmps) = true) (f : FuncId) (args : List Operand) (ts : Array TypeId) (ho : o.op = .call { callee := .value (.func f), args := args.toArray, argTypes := ts })
    (fn : Func) (hf : P.funcs[f]? = some fn) (hn : (fn.name == "runtime.NumGoroutine") = false) (hb : fn.body.isNone = false) (vals : List Value) (hv : args.map a.eval = vals)
    (hc : ∀ x S w, S k = false → closedS ops S → (∀ e ∈ o.after, Region.binds .any e = true → S e.on = true) → I x S w → Calls P f vals.toArray w fun e w' => e = .returned v ∧ I x (ins S k) w')
    (h : wpGz P ops gs lk I Q (k + 1) rest (a.put o.dst v)) : wpGz P ops gs lk I Q k (o :: rest) a := by
  refine gz_step hg hl v (fun x => .inl ⟨hw, fun S w hS hcl ha hIw => ?_⟩) h
  unfold opTo
  rw [run_call_fn f args ts ho fn hf hn hb vals hv w]
  exact hc x S w hS hcl ha hIw
/-- a call that looks at such values -/
theorem gz_call_look (v : Value) (hg : gs k = false) (hl : lk k = true) (hw : ∀ x, Region.wanted o (yielded ops (putAll ops x gs (List.range k) a).tmps) = true) (f : FuncId) (args : List Operand) (ts : Array TypeId) (ho : o.op = .call { callee := .value (.func f), args := args.toArray, argTypes := ts })
    (fn : Func) (hf : P.funcs[f]? = some fn) (hn : (fn.name == "runtime.NumGoroutine") = false) (hb : fn.body.isNone = false) (vals : (Nat → Value) → List Value) (hv : ∀ x, args.map (putAll ops x gs (List.range k) a).eval = vals x)
    (hc : ∀ x S w, S k = false → closedS ops S → (∀ e ∈ o.after, Region.binds .any e = true → S e.on = true) → I x S w → Calls P f (vals x).toArray w fun e w' => e = .returned v ∧ I x (ins S k) w')
    (h : wpGz P ops gs lk I Q (k + 1) rest (a.put o.dst v)) : wpGz P ops gs lk I Q k (o :: rest) a := by
  refine .inr ⟨hg, v, fun x => ?_, h⟩
  rw [if_pos hl]
  refine .inl ⟨hw x, fun S w hS hcl ha hIw => ?_⟩
  unfold opTo
  rw [run_call_fn f args ts ho fn hf hn hb (vals x) (hv x) w]
  exact hc x S w hS hcl ha hIw
/-- a call whose value is known when it is done -/
theorem gz_call_ghost (hg : gs k = true) (hl : lk k = false) (hw : Region.wanted o (yielded ops a.tmps) = true) (f : FuncId) (args : List Operand) (ts : Array TypeId) (ho : o.op = .call { callee := .value (.func f), args := args.toArray, argTypes := ts })
    (fn : Func) (hf : P.funcs[f]? = some fn) (hn : (fn.name == "runtime.NumGoroutine") = false) (hb : fn.body.isNone = false) (vals : List Value) (hv : args.map a.eval = vals)
    (hc : ∀ x S w, S k = false → closedS ops S → (∀ e ∈ o.after, Region.binds .any e = true → S e.on = true) → I x S w → Calls P f vals.toArray w fun e w' => ∃ b, e = .returned b ∧ I (upd1 x k b) (ins S k) w')
    (h : wpGz P ops gs lk I Q (k + 1) rest (a.put o.dst undef)) : wpGz P ops gs lk I Q k (o :: rest) a := by
  refine .inl ⟨hg, fun x S w hS hcl ha hIw => ?_, h⟩
  rw [hl]
  refine ⟨hw, ?_⟩
  unfold opToR
  show resToR P _ ((execOp a.eval o).run P w)
  rw [run_call_fn f args ts ho fn hf hn hb vals hv w]
  exact hc x S w hS hcl ha hIw
/-- an operation of no call, whose value is known when it is done; it may look at such values -/
theorem gz_val (hg : gs k = true) (hl : lk k = true)
    (hc : ∀ x S w, S k = false → closedS ops S → (∀ e ∈ o.after, Region.binds .any e = true → S e.on = true) → I x S w → Region.wanted o (yielded ops (putAll ops x gs (List.range k) a).tmps) = true ∧ ∃ b w', (execOp (putAll ops x gs (List.range k) a).eval o).run P w = .ok (.value b) w' ∧ I (upd1 x k b) (ins S k) w')
    (h : wpGz P ops gs lk I Q (k + 1) rest (a.put o.dst undef)) : wpGz P ops gs lk I Q k (o :: rest) a :=
  .inl ⟨hg, fun x S w hS hcl ha hIw => by
    obtain ⟨h0, b, w', h1, h2⟩ := hc x S w hS hcl ha hIw
    rw [if_pos hl]
    refine ⟨h0, ?_⟩
    unfold opToR
    rw [h1]
    exact h2, h⟩
/-- the same without a look at such values -/
theorem gz_val0 (hg : gs k = true) (hl : lk k = false) (hw : Region.wanted o (yielded ops a.tmps) = true)
    (hc : ∀ x S w, S k = false → closedS ops S → (∀ e ∈ o.after, Region.binds .any e = true → S e.on = true) → I x S w → ∃ b w', (execOp a.eval o).run P w = .ok (.value b) w' ∧ I (upd1 x k b) (ins S k) w')
    (h : wpGz P ops gs lk I Q (k + 1) rest (a.put o.dst undef)) : wpGz P ops gs lk I Q k (o :: rest) a :=
  .inl ⟨hg, fun x S w hS hcl ha hIw => by
    obtain ⟨b, w', h1, h2⟩ := hc x S w hS hcl ha hIw
    rw [hl]
    refine ⟨hw, ?_⟩
    unfold opToR
    show resToR P _ ((execOp a.eval o).run P w)
    rw [h1]
    exact h2, h⟩
/-- a store that looks at such values -/
theorem gz_store_look (hg : gs k = false) (hl : lk k = true) (hw : ∀ x, Region.wanted o (yielded ops (putAll ops x gs (List.range k) a).tmps) = true) (t : TypeId) (p y : Operand) (ho : o.op = .store t p y) (hd : o.dst = none) (ad : Addr) (hx : ∀ x, (putAll ops x gs (List.range k) a).eval p = .pointer (some ad))
    (v : (Nat → Value) → Value) (hy : ∀ x, (putAll ops x gs (List.range k) a).eval y = v x) (hi : (P.info? t).map (·.size) = some 1)
    (hc : ∀ x S w, S k = false → closedS ops S → (∀ e ∈ o.after, Region.binds .any e = true → S e.on = true) → I x S w → (v x).oneCell' = true ∧ (∃ old, w.cell? ad = some old) ∧ w.frozen? ad = false ∧ I x (ins S k) (w.setCell ad (v x)))
    (h : wpGz P ops gs lk I Q (k + 1) rest a) : wpGz P ops gs lk I Q k (o :: rest) a := by
  refine .inr ⟨hg, undef, fun x => ?_, by rw [hd]; exact h⟩
  rw [if_pos hl]
  refine .inl ⟨hw x, fun S w hS hcl ha hIw => ?_⟩
  obtain ⟨h1, ⟨old, h2⟩, h3, h4⟩ := hc x S w hS hcl ha hIw
  unfold opTo execOp
  simp only [ho, hx x, hy x, run_u]
  generalize v x = u at *
  have : (Instr.storeAt t (.pointer (some ad)) u).run P w = .ok () (w.setCell ad u) := by
    have hc1 : u.cells = #[u] := by cases u <;> first | rfl | simp [Value.oneCell'] at h1
    cases hq : P.info? t with
    | none => simp [hq] at hi
    | some i =>
      have hs : i.size = 1 := by simpa [hq] using hi
      have e0 : ad.add 0 = ad := rfl
      simp [Instr.storeAt, Instr.sureAddr, storeVar, sizeOf, typeInfo, hq, hs, hc1, storeCells, e0, run_store P w ad u _ h1, h2, h3]
  rw [this]
  exact ⟨rfl, h4⟩
end
end Go.Proofs.Ytdgdmhmagdjeoaa
