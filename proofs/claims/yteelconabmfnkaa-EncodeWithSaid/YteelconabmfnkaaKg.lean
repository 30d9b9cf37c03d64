/- Regions that draw their order and hold operations whose values are known only when they are done (several of them); behind the first part each operation waits for all that stands ahead of it. No program is named here. -/
import Derived.Test.YteelconabmfnkaaKka
import Derived.Test.YteelconabmfnkaaH
namespace Go.Proofs.Yteelconabmfnkaa
open Go
set_option linter.unusedVariables false
section ghosts
variable {P : Program} {ops : Array Oper}
theorem putAll_vary {vs vs' : Nat → Value} {S : Nat → Bool} {t : Tmp} : ∀ (l : List Nat) (a a' : Act), a.tmps[t]? = a'.tmps[t]? → (∀ j ∈ l, dstAt ops j = some t → vs j = vs' j) → (putAll ops vs S l a).tmps[t]? = (putAll ops vs' S l a').tmps[t]?
  | [], _, _, h, _ => h
  | k :: l, a, a', h, hl => by
    unfold putAll
    refine putAll_vary l _ _ ?_ fun j hj => hl j (by simp [hj])
    split
    · by_cases hd : dstAt ops k = some t
      · rw [hl k (by simp) hd, put_look, put_look, h]
      · rw [put_look, put_look, if_neg hd, if_neg hd, h]
    · exact h
/-- what an operation's outcome is to be: a value and a world with R -/
def resToR (P : Program) (R : Value → World → Prop) : Result Next → Prop
  | .ok (.value u) w' => R u w'
  | .ok .skip w' => R undef w'
  | .ok (.enter f args) w' => Calls P f args w' (fun e w'' => ∃ v, e = .returned v ∧ R v w'')
  | _ => False
def opToR (P : Program) (o : Oper) (a : Act) (w : World) (R : Value → World → Prop) : Prop := resToR P R ((execOp a.eval o).run P w)
theorem opToR.same {o : Oper} {a a' : Act} {w : World} {R : Value → World → Prop} (he : execOp a.eval o = execOp a'.eval o) (h : opToR P o a' w R) : opToR P o a w R := by
  unfold opToR at *
  rw [he]; exact h
theorem wp_of_opToR {o : Oper} {a : Act} {w : World} {R : Value → World → Prop} {K : Act → World → Prop} {Q : Exit → Act → World → Prop}
    (h : opToR P o a w R) (hK : ∀ v w', R v w' → K (a.put o.dst v) w') : o.wp P a w K Q := by
  unfold opToR at h
  unfold Oper.wp
  generalize (execOp a.eval o).run P w = r at *
  cases r with
  | ok n w' =>
    cases n <;> simp only [resToR] at h <;> simp only [Oper.upon]
    case value u => exact hK _ _ h
    case skip => exact hK _ _ h
    case enter f args => exact h.mono fun e w'' ⟨v, he, hw⟩ => by subst he; exact hK _ _ hw
  | halt x w' => simp only [resToR] at h
theorem opToR.imp {o : Oper} {a : Act} {w : World} {R R' : Value → World → Prop} (h : opToR P o a w R) (hR : ∀ v w', R v w' → R' v w') : opToR P o a w R' := by
  unfold opToR at *
  generalize (execOp a.eval o).run P w = r at *
  cases r with
  | ok n w' =>
    cases n <;> simp only [resToR] at h ⊢
    case value u => exact hR _ _ h
    case skip => exact hR _ _ h
    case enter f args => exact h.mono fun e w'' ⟨v, he, hw⟩ => ⟨v, he, hR _ _ hw⟩
  | halt x w' => simp only [resToR] at h
theorem opTo.R {o : Oper} {a : Act} {w : World} {v : Value} {N : World → Prop} {R : Value → World → Prop} (h : opTo P o a w v N) (hR : ∀ w', N w' → R v w') : opToR P o a w R := by
  unfold opTo at h
  unfold opToR
  generalize (execOp a.eval o).run P w = r at *
  cases r with
  | ok n w' =>
    cases n <;> simp only [resTo] at h <;> simp only [resToR]
    case value u => obtain ⟨rfl, h⟩ := h; exact hR _ h
    case skip => obtain ⟨rfl, h⟩ := h; exact hR _ h
    case enter f args => exact h.mono fun e w'' ⟨he, hw⟩ => ⟨v, he, hR _ hw⟩
  | halt x w' => simp only [resTo] at h
theorem wpAny_of_famR {β : Type} {I : β → (Nat → Bool) → World → Prop} {Q : Exit → Act → World → Prop} {a : Act} {vs : β → Nat → Value} (hB : setsB ops = true)
    {n1 : Nat} (hn1 : n1 ≤ ops.size) (hT : ∀ k, n1 ≤ k → k < ops.size → ∀ k' < k, reaches ops 9 k k' = true)
    (hv : ∀ k o, k < n1 → ops[k]? = some o → ∀ x S w, S k = false → closedS ops S → (∀ e ∈ o.after, Region.binds .any e = true → S e.on = true) → I x S w → (Region.wanted o (yielded ops (putAll ops (vs x) (fun _ => true) (List.range k) a).tmps) = true ∧ opToR P o (putAll ops (vs x) (fun _ => true) (List.range k) a) w (fun v w' => ∃ y, (∀ j < ops.size, S j = true → vs y j = vs x j) ∧ vs y k = v ∧ I y (ins S k) w')) ∨
      (Region.wanted o (yielded ops (putAll ops (vs x) (fun _ => true) (List.range k) a).tmps) = false ∧ ∃ y, (∀ j < ops.size, S j = true → vs y j = vs x j) ∧ vs y k = undef ∧ I y (ins S k) w))
    (hQ : ∀ x S w, (∀ i < n1, S i = true) → I x S w → wpOps P ops Q (List.range' n1 (ops.size - n1)) (putAll ops (vs x) (fun _ => true) (List.range n1) a) w) :
    ∀ (m : Nat) (x : β) (listed : Array Bool) (w : World), listed.size = ops.size → cnt listed ops.size ≤ m → (∀ j, n1 ≤ j → Sof listed j = false) →
      (∀ j o, ops[j]? = some o → Sof listed j = true → ∀ e ∈ o.after, Region.binds .any e = true → Sof listed e.on = true) → I x (Sof listed) w →
      wpAny P .any ops Q m listed (putAll ops (vs x) (Sof listed) (List.range ops.size) a) w := by
  obtain ⟨hsel, hlt, hpair⟩ := setsB_spec hB
  have hdone : ∀ x (m : Nat) (listed : Array Bool) w, listed.size = ops.size → cnt listed ops.size ≤ m → (∀ j, n1 ≤ j → Sof listed j = false) → cnt listed n1 = 0 → I x (Sof listed) w → wpAny P .any ops Q m listed (putAll ops (vs x) (Sof listed) (List.range ops.size) a) w := fun x m listed w hsz hm hhi h0 hI => by
    have hall := cnt_zero _ h0
    have e : putAll ops (vs x) (Sof listed) (List.range ops.size) a = putAll ops (vs x) (fun _ => true) (List.range n1) a := by
      have hsplit : List.range ops.size = List.range n1 ++ List.range' n1 (ops.size - n1) := by
        have := List.range'_append_1 (s := 0) (m := n1) (n := ops.size - n1)
        rw [Nat.zero_add, Nat.add_sub_cancel' (by omega)] at this
        rw [List.range_eq_range', List.range_eq_range', this]
      rw [hsplit, putAll_append, putAll_none (List.range' n1 _) _ fun j hj => hhi j (List.mem_range'_1.1 hj).1]
      exact putAll_congr _ _ fun j hj => ⟨hall j (List.mem_range.1 hj), rfl⟩
    rw [e]
    have hc : ∀ n, cnt listed (n1 + n) = n := fun n => by
      induction n with
      | zero => exact h0
      | succ n ih =>
        show cnt listed (n1 + n) + (if Sof listed (n1 + n) = true then 0 else 1) = n + 1
        rw [ih, if_neg (by rw [hhi _ (by omega)]; simp)]
    have := hc (ops.size - n1)
    rw [Nat.add_sub_cancel' hn1] at this
    exact wpAny_tail hB hT (ops.size - n1) n1 m listed _ w hsz (Nat.le_refl _) (by omega) (by omega) hall hhi (hQ x _ _ hall hI)
  intro m
  induction m with
  | zero =>
    intro x listed w hsz hc hhi hcl hI
    refine hdone x 0 listed w hsz hc hhi ?_ hI
    have hmono : ∀ n, cnt listed n1 ≤ cnt listed (n1 + n) := fun n => by
      induction n with
      | zero => exact Nat.le_refl _
      | succ n ih => exact Nat.le_trans ih (by show _ ≤ cnt listed (n1 + n) + _; omega)
    have := hmono (ops.size - n1)
    rw [Nat.add_sub_cancel' hn1] at this
    omega
  | succ m ih =>
    intro x listed w hsz hc hhi hcl hI
    by_cases h00 : cnt listed n1 = 0
    · exact hdone x (m + 1) listed w hsz hc hhi h00 hI
    obtain ⟨u, hu, hu1, hu2⟩ := cnt_pos _ h00
    have huo : ops[u]? = some ops[u] := Array.getElem?_eq_getElem (by omega)
    have humem : u ∈ Region.ready .any ops listed := mem_ready.2 ⟨by
        have : listed.getD u false = false := hu1
        simp [show u < listed.size by omega] at this ⊢; exact this, _, huo, fun e he hb => hu2 _ (hlt u _ huo e he hb)⟩
    refine ⟨(fun hr => by rw [hr] at humem; cases humem), fun i hi => ?_⟩
    obtain ⟨h1, o, ho, hall⟩ := mem_ready.1 hi
    have hin := (Array.getElem?_eq_some_iff.1 ho).1
    have hil : i < listed.size := by omega
    have hSi : Sof listed i = false := by
      simp [hil] at h1
      simp [Sof, hil, h1]
    have hi1 : i < n1 := by
      rcases Nat.lt_or_ge i n1 with h | h
      · exact h
      · have := reaches_stuck ho (by omega) (hT i h hin u (by omega)) hcl (fun e he hb => hall e he hb)
        rw [hu1] at this; cases this
    have hst := hv i o hi1 ho x (Sof listed) w hSi hcl (fun e he hb => hall e he hb) hI
    -- who writes what this operation looks at
    have hw : ∀ t ∈ o.looksAt ops, (putAll ops (vs x) (Sof listed) (List.range ops.size) a).tmps[t]? = (putAll ops (vs x) (fun _ => true) (List.range i) a).tmps[t]? := fun t ht => by
      have e : putAll ops (vs x) (fun _ => true) (List.range i) a = putAll ops (vs x) (fun j => decide (j < i)) (List.range ops.size) a := by
        have hsplit : List.range ops.size = List.range i ++ List.range' i (ops.size - i) := by
          have := List.range'_append_1 (s := 0) (m := i) (n := ops.size - i)
          rw [Nat.zero_add, Nat.add_sub_cancel' (by omega)] at this
          rw [List.range_eq_range', List.range_eq_range', this]
        rw [hsplit, putAll_append, putAll_none (List.range' i _) _ fun j hj => decide_eq_false (by have := (List.mem_range'_1.1 hj).1; omega)]
        exact putAll_congr _ _ fun j hj => ⟨(decide_eq_true (List.mem_range.1 hj)).symm, rfl⟩
      rw [e]
      refine putAll_look _ _ _ rfl fun j hj hd => ?_
      have hjn := List.mem_range.1 hj
      have hjo : ops[j]? = some ops[j] := Array.getElem?_eq_getElem hjn
      have hdj : ops[j].dst = some t := by simpa [dstAt, hjo] using hd
      rcases Nat.lt_trichotomy j i with h | h | h
      · rw [decide_eq_true h]
        rcases hpair j i _ _ hjo ho h with ⟨e, he, hb, hon⟩ | hap
        · rw [← hon]; exact hall e he hb
        · exact absurd ht ((Oper.apart_spec hap).1 t hdj)
      · subst h
        rw [hSi]; simp
      · rw [decide_eq_false (by omega)]
        cases hSj : Sof listed j
        · rfl
        · rcases hpair i j _ _ ho hjo h with ⟨e, he, hb, hon⟩ | hap
          · have := hcl j _ hjo hSj e he hb
            rw [hon, hSi] at this
            cases this
          · exact absurd ht ((Oper.apart_spec hap).2.2 t hdj)
    -- the frame behind it
    have hput : ∀ y : β, (putAll ops (vs y) (Sof listed) (List.range ops.size) a).put o.dst (vs y i) = putAll ops (vs y) (Sof (listed.setIfInBounds i true)) (List.range ops.size) a := fun y => by
      have hsplit : List.range ops.size = List.range i ++ i :: List.range' (i + 1) (ops.size - (i + 1)) := by
        rw [List.range_eq_range', List.range_eq_range']
        have := List.range'_append_1 (s := 0) (m := i) (n := ops.size - i)
        rw [Nat.zero_add, Nat.add_sub_cancel' (by omega)] at this
        rw [← this, show ops.size - i = (ops.size - (i + 1)) + 1 by omega, List.range'_succ]
      have hd : dstAt ops i = o.dst := by simp [dstAt, ho]
      rw [hsplit, putAll_append, putAll_append, Sof_set hil]
      simp only [putAll, hSi, ins, beq_self_eq_true, Bool.true_or, if_true, Bool.false_eq_true, if_false, hd]
      have hA : putAll ops (vs y) (ins (Sof listed) i) (List.range i) a = putAll ops (vs y) (Sof listed) (List.range i) a :=
        putAll_congr _ _ fun j hj => ⟨by have := List.mem_range.1 hj; simp [ins, show j ≠ i by omega], rfl⟩
      have hC : ∀ b, putAll ops (vs y) (ins (Sof listed) i) (List.range' (i + 1) (ops.size - (i + 1))) b = putAll ops (vs y) (Sof listed) (List.range' (i + 1) (ops.size - (i + 1))) b := fun b =>
        putAll_congr _ _ fun j hj => ⟨by have := (List.mem_range'_1.1 hj).1; simp [ins, show j ≠ i by omega], rfl⟩
      rw [hA, hC, putAll_put]
      intro j hj hSj x hx hdj
      have hjb := List.mem_range'_1.1 hj
      have hjn : j < ops.size := by omega
      have hjo : ops[j]? = some ops[j] := Array.getElem?_eq_getElem hjn
      rcases hpair i j _ _ ho hjo (by omega) with ⟨e, he, hb, hon⟩ | hap
      · have := hcl j _ hjo hSj e he hb
        rw [hon, hSi] at this
        cases this
      · exact (Oper.apart_spec hap).2.1 x hx (by simpa [dstAt, hjo] using hdj)
    have hnext : ∀ v w', (∃ y, (∀ j < ops.size, Sof listed j = true → vs y j = vs x j) ∧ vs y i = v ∧ I y (ins (Sof listed) i) w') → wpAny P .any ops Q m (listed.setIfInBounds i true) ((putAll ops (vs x) (Sof listed) (List.range ops.size) a).put o.dst v) w' := fun v w' ⟨y, hagree, hyv, hI'⟩ => by
      have hxy : putAll ops (vs x) (Sof listed) (List.range ops.size) a = putAll ops (vs y) (Sof listed) (List.range ops.size) a := putAll_agree _ _ fun j hjm hj => (hagree j (List.mem_range.1 hjm) hj).symm
      rw [hxy, ← hyv, hput y]
      refine ih y _ _ (by simpa using hsz) ?_ (fun j hj => by rw [Sof_set hil]; simp only [ins, Bool.or_eq_false_iff]; exact ⟨by simp; omega, hhi j hj⟩) (fun j p hp hSj e he hb => ?_) (by rw [Sof_set hil]; exact hI')
      · have := cnt_set hil hSi ops.size
        rw [if_pos hin] at this
        omega
      · rw [Sof_set hil] at hSj ⊢
        by_cases hji : j = i
        · subst hji
          obtain rfl := Option.some.inj (hp.symm.trans ho)
          simp [ins, show Sof listed e.on = true from hall e he hb]
        · have hSj' : Sof listed j = true := by simpa [ins, hji] using hSj
          simp [ins, hcl j p hp hSj' e he hb]
    have hns : ∀ cs b, o.op ≠ .select cs b := fun cs b => Region.noSelect_spec hsel i o cs b ho
    unfold wpOp
    simp only [ho]
    rw [same_wanted hw]
    rcases hst with ⟨hwt, hst⟩ | ⟨hwt, hst⟩
    · rw [if_pos hwt]
      refine .inl (wp_of_opToR (opToR.same (same_op hns hw) hst) hnext)
    · rw [if_neg (by rw [hwt]; exact Bool.false_ne_true)]
      exact hnext undef w hst
def upd1 (x : Nat → Value) (k : Nat) (b : Value) : Nat → Value := fun j => if j = k then b else x j
/-- the lexical walk: gs: the operations whose values are known when they are done -/
def wpGs (P : Program) (ops : Array Oper) (gs : Nat → Bool) (I : (Nat → Value) → (Nat → Bool) → World → Prop) (Q : Act → Prop) : Nat → List Oper → Act → Prop
  | _, [], a => Q a
  | k, o :: rest, a =>
    (gs k = true ∧ Region.wanted o (yielded ops a.tmps) = true ∧ (∀ x S w, S k = false → closedS ops S → (∀ e ∈ o.after, Region.binds .any e = true → S e.on = true) → I x S w → opToR P o a w (fun b w' => I (upd1 x k b) (ins S k) w')) ∧
      wpGs P ops gs I Q (k + 1) rest (a.put o.dst undef)) ∨
    (gs k = false ∧ ∃ v, (∀ x, stepOk P ops (I x) k o a v) ∧ wpGs P ops gs I Q (k + 1) rest (a.put o.dst v))
/-- no operation ahead of the tail looks at what such an operation yields -/
def blindB (ops : Array Oper) (gs : Nat → Bool) (n1 : Nat) : Bool := (List.range n1).all fun k => !gs k || ((List.range n1).all fun j => match dstAt ops k, ops[j]? with
  | some d, some o => !(o.looksAt ops).contains d && (j == k || dstAt ops j != some d)
  | _, _ => true)
theorem blindB_spec {gs : Nat → Bool} {n1 : Nat} (h : blindB ops gs n1 = true) {k j : Nat} (hk : k < n1) (hj : j < n1) (hg : gs k = true) {d : Tmp} {o : Oper} (hd : dstAt ops k = some d) (ho : ops[j]? = some o) : d ∉ o.looksAt ops ∧ (j ≠ k → dstAt ops j ≠ some d) := by
  have h1 := List.all_eq_true.1 h k (List.mem_range.2 hk)
  rw [hg, Bool.not_true, Bool.false_or] at h1
  have h2 := List.all_eq_true.1 h1 j (List.mem_range.2 hj)
  rw [hd, ho] at h2
  simp only [Bool.and_eq_true, Bool.or_eq_true, beq_iff_eq, bne_iff_ne, Bool.not_eq_true'] at h2
  exact ⟨by simpa using h2.1, fun hne => h2.2.resolve_left hne⟩
theorem put_put (a : Act) (d : Option Tmp) (u v : Value) : (a.put d u).put d v = a.put d v := by
  cases d with
  | none => rfl
  | some t => simp [Act.put]
theorem putAll_mix {gs : Nat → Bool} {x vs : Nat → Value} : ∀ (l : List Nat) (a : Act), l.Nodup → (∀ k ∈ l, gs k = true → ∀ d, dstAt ops k = some d → ∀ j ∈ l, j ≠ k → dstAt ops j ≠ some d) →
    putAll ops (fun j => if gs j = true then x j else vs j) (fun _ => true) l a = putAll ops x gs l (putAll ops vs (fun _ => true) l a)
  | [], _, _, _ => rfl
  | k :: l, a, hn, h => by
    have hk := (List.nodup_cons.1 hn).1
    have ih := fun b => putAll_mix (x := x) (vs := vs) (gs := gs) l b (List.nodup_cons.1 hn).2 fun i hi hg d hd j hj => h i (by simp [hi]) hg d hd j (by simp [hj])
    simp only [putAll, if_true]
    rw [ih]
    by_cases hg : gs k = true
    · simp only [hg, if_true]
      congr 1
      have hp := fun v => putAll_put (ops := ops) (vs := vs) (S := fun _ => true) (d := dstAt ops k) (v := v) l a fun j hj _ d hd => h k (by simp) hg d hd j (by simp [hj]) (fun e => hk (e ▸ hj))
      rw [hp, hp, put_put]
    · simp only [hg, Bool.false_eq_true, if_false]
theorem wpGs_values {gs : Nat → Bool} {I : (Nat → Value) → (Nat → Bool) → World → Prop} {Q : Act → Prop} : ∀ (l : List Oper) (k : Nat) (a : Act), (∀ j o, l[j]? = some o → ops[k + j]? = some o) → wpGs P ops gs I Q k l a →
    ∃ vs : Nat → Value, (∀ j, gs j = true → vs j = undef) ∧
      (∀ j o, l[j]? = some o → (gs (k + j) = true ∧ Region.wanted o (yielded ops (putAll ops vs (fun _ => true) (List.range' k j) a).tmps) = true ∧
        (∀ x S w, S (k + j) = false → closedS ops S → (∀ e ∈ o.after, Region.binds .any e = true → S e.on = true) → I x S w → opToR P o (putAll ops vs (fun _ => true) (List.range' k j) a) w (fun b w' => I (upd1 x (k + j) b) (ins S (k + j)) w'))) ∨
        (gs (k + j) = false ∧ ∀ x, stepOk P ops (I x) (k + j) o (putAll ops vs (fun _ => true) (List.range' k j) a) (vs (k + j)))) ∧
      Q (putAll ops vs (fun _ => true) (List.range' k l.length) a)
  | [], k, a, _, h => ⟨fun _ => undef, fun _ _ => rfl, fun j o hj => by simp at hj, h⟩
  | o :: l, k, a, hl, h => by
    have h0 : ops[k]? = some o := by simpa using hl 0 o rfl
    have hd : dstAt ops k = o.dst := by simp [dstAt, h0]
    obtain ⟨v, hvg, hstep, hr⟩ : ∃ v : Value, (gs k = true → v = undef) ∧ ((gs k = true ∧ Region.wanted o (yielded ops a.tmps) = true ∧ (∀ x S w, S k = false → closedS ops S → (∀ e ∈ o.after, Region.binds .any e = true → S e.on = true) → I x S w → opToR P o a w (fun b w' => I (upd1 x k b) (ins S k) w'))) ∨
        (gs k = false ∧ ∀ x, stepOk P ops (I x) k o a v)) ∧ wpGs P ops gs I Q (k + 1) l (a.put o.dst v) := by
      rcases h with ⟨hg, hw, hs, hr⟩ | ⟨hg, v, hs, hr⟩
      · exact ⟨undef, fun _ => rfl, .inl ⟨hg, hw, hs⟩, hr⟩
      · exact ⟨v, (fun e => by rw [hg] at e; cases e), .inr ⟨hg, hs⟩, hr⟩
    obtain ⟨vs, hu, h1, h2⟩ := wpGs_values l (k + 1) _ (fun j p hj => by have := hl (j + 1) p (by simpa using hj); simpa [Nat.add_assoc, Nat.add_comm 1 j] using this) hr
    have key : ∀ (m : Nat) (b : Act), putAll ops (fun j => if j = k then v else vs j) (fun _ => true) (List.range' (k + 1) m) b = putAll ops vs (fun _ => true) (List.range' (k + 1) m) b := fun m b =>
      putAll_congr _ _ fun j hj => ⟨rfl, by have := (List.mem_range'_1.1 hj).1; exact if_neg (by omega)⟩
    refine ⟨fun j => if j = k then v else vs j, fun j hj => ?_, fun j p hj => ?_, ?_⟩
    · show (if j = k then v else vs j) = undef
      split
      · next e => subst e; exact hvg hj
      · exact hu j hj
    · cases j with
      | zero =>
        simp at hj
        subst hj
        simpa [putAll] using hstep
      | succ j =>
        have := h1 j p (by simpa using hj)
        rw [List.range'_succ, putAll, if_pos rfl, hd, if_pos rfl, key, show k + (j + 1) = k + 1 + j by omega]
        simp only [show ¬ k + 1 + j = k by omega, if_false]
        exact this
    · rw [List.length_cons, List.range'_succ, putAll, if_pos rfl, hd, if_pos rfl, key]
      exact h2
theorem wp_region_ghosts {id : Nat} (l1 l2 : List Oper) (gs : Nat → Bool) {Q : Exit → Act → World → Prop} {a : Act} {w : World} (I : (Nat → Value) → (Nat → Bool) → World → Prop)
    (hm : P.follows .mixedOrders = true) (hB : setsB (l1 ++ l2).toArray = true) (hT : tailB (l1 ++ l2).toArray l1.length = true) (hG : blindB (l1 ++ l2).toArray gs l1.length = true) (h0 : ∀ x, I x (fun _ => false) w.drew)
    (h : wpGs P (l1 ++ l2).toArray gs I (fun a' => ∀ x S w', (∀ i < l1.length, S i = true) → I x S w' → wpList P (l1 ++ l2).toArray Q l2 (putAll (l1 ++ l2).toArray x gs (List.range l1.length) a') w') 0 l1 a) :
    (Code.region id (l1 ++ l2).toArray true).wp P Q a w := by
  obtain ⟨ops, hops⟩ : ∃ ops, (l1 ++ l2).toArray = ops := ⟨_, rfl⟩
  have hl1 : ∀ j, j < l1.length → l1[j]? = ops[j]? := fun j hj => by rw [← hops]; simp [List.getElem?_append_left hj]
  have hl2 : ∀ j, l2[j]? = ops[l1.length + j]? := fun j => by
    rw [← hops, List.getElem?_toArray, List.getElem?_append_right (by omega), show l1.length + j - l1.length = j by omega]
  have hsz : ops.size = l1.length + l2.length := by rw [← hops]; simp
  rw [hops] at hB hT hG h ⊢
  have hsel := (setsB_spec hB).1
  obtain ⟨vs0, hu, p1, p2⟩ := wpGs_values l1 0 a (fun j o hj => by rw [Nat.zero_add, ← hl1 j (List.getElem?_eq_some_iff.1 hj).1]; exact hj) h
  let vs : (Nat → Value) → Nat → Value := fun x j => if gs j = true then x j else vs0 j
  have hframe : ∀ (x : Nat → Value) (k : Nat) (o : Oper), k < l1.length → ops[k]? = some o → ∀ t ∈ o.looksAt ops, (putAll ops (vs x) (fun _ => true) (List.range k) a).tmps[t]? = (putAll ops vs0 (fun _ => true) (List.range' 0 k) a).tmps[t]? := fun x k o hk ho t ht => by
    rw [← List.range_eq_range']
    refine putAll_vary _ _ _ rfl fun j hj hd => ?_
    have hjk := List.mem_range.1 hj
    show (if gs j = true then x j else vs0 j) = vs0 j
    split
    · next hg => exact absurd ht (blindB_spec hG (k := j) (j := k) (by omega) hk hg hd ho).1
    · rfl
  have hwt : ∀ (x : Nat → Value) (k : Nat) (o : Oper), k < l1.length → ops[k]? = some o → Region.wanted o (yielded ops (putAll ops (vs x) (fun _ => true) (List.range k) a).tmps) = Region.wanted o (yielded ops (putAll ops vs0 (fun _ => true) (List.range' 0 k) a).tmps) := fun x k o hk ho =>
    same_wanted (hframe x k o hk ho)
  have key := wpAny_of_famR (P := P) (β := Nat → Value) (I := I) (Q := Q) (a := a) (vs := vs) hB (n1 := l1.length) (by omega) (tailB_spec hT)
    (fun k o hk ho x S w hSk hcl hafter hI => by
      have := p1 k o ((hl1 k hk).trans ho)
      rw [Nat.zero_add] at this
      have hsame := same_op (fun cs b => Region.noSelect_spec hsel k o cs b ho) (hframe x k o hk ho)
      rcases this with ⟨hg, hw, hs⟩ | ⟨hg, hs⟩
      · refine .inl ⟨by rw [hwt _ k o hk ho]; exact hw, opToR.same hsame (opToR.imp (hs x S w hSk hcl hafter hI) fun b w' hb => ⟨upd1 x k b, fun j _ hj => ?_, ?_, hb⟩)⟩
        · show (if gs j = true then upd1 x k b j else vs0 j) = (if gs j = true then x j else vs0 j)
          have : j ≠ k := fun e => by rw [e, hSk] at hj; cases hj
          simp only [upd1, this, if_false]
        · show (if gs k = true then upd1 x k b k else vs0 k) = b
          simp [hg, upd1]
      · have e : vs x k = vs0 k := by
          show (if gs k = true then x k else vs0 k) = _
          rw [hg]; rfl
        rcases (hs x).fam hSk hcl hafter hI with ⟨h1, h2⟩ | ⟨h1, h2, h3⟩
        · exact .inl ⟨by rw [hwt _ k o hk ho]; exact h1, opToR.same hsame (h2.R fun w' hw' => ⟨x, fun _ _ _ => rfl, e, hw'⟩)⟩
        · exact .inr ⟨by rw [hwt _ k o hk ho]; exact h1, x, fun _ _ _ => rfl, e.trans h2, h3⟩)
    (fun x S w' hS' hI => by
      have e : wpOps P ops Q (List.range' l1.length (ops.size - l1.length)) = wpList P ops Q l2 := by
        rw [show ops.size - l1.length = l2.length by omega]
        exact wpOps_eq_wpList l2 l1.length hl2
      rw [e]
      show wpList P ops Q l2 (putAll ops (fun j => if gs j = true then x j else vs0 j) (fun _ => true) (List.range l1.length) a) w'
      rw [putAll_mix _ _ List.nodup_range (fun k hk hg d hd j hj hne => (blindB_spec hG (List.mem_range.1 hk) (List.mem_range.1 hj) hg hd (Array.getElem?_eq_getElem (show j < ops.size by have := List.mem_range.1 hj; omega))).2 hne)]
      have := p2 x S w' hS' hI
      rw [← List.range_eq_range'] at this
      exact this)
    ops.size (fun _ => undef) (Array.replicate ops.size false) w.drew (by simp) (cnt_le _ _) (fun j _ => by rw [Sof_none]) (fun j o _ hSj => by rw [Sof_none] at hSj; cases hSj) (by rw [Sof_none]; exact h0 _)
  rw [Sof_none, putAll_none _ _ (fun _ _ => rfl)] at key
  exact wp_region_any hm key
variable {gs : Nat → Bool} {I : (Nat → Value) → (Nat → Bool) → World → Prop} {Q : Act → Prop} {k : Nat} {o : Oper} {rest : List Oper} {a : Act}
theorem gs_quiet (C : World → Prop) (hC : ∀ x S w, I x S w → C w) (hg : gs k = false) (hw : Region.wanted o (yielded ops a.tmps) = true) (hI : ∀ x S w, S k = false → I x S w → I x (ins S k) w) (hc : isCall o.op = false)
    (h : ∀ K : Act → Prop, (∀ a, wpGs P ops gs I Q (k + 1) rest a → K a) → o.quiet P a C K) : wpGs P ops gs I Q k (o :: rest) a := by
  obtain ⟨v, h1, h2⟩ := h _ (fun _ h => h)
  refine .inr ⟨hg, v, fun x => .inl ⟨hw, fun S w hS _ _ hIw => ?_⟩, h2⟩
  have := h1 w (hC x S w hIw)
  unfold Oper.quietAt at this
  unfold opTo
  generalize hr : (execOp a.eval o).run P w = r at *
  cases r with
  | ok n w' =>
    cases n <;> simp only [Oper.quietUpon] at this <;> simp only [resTo]
    case value u => obtain ⟨rfl, e⟩ := this; exact ⟨e, hI x S _ hS hIw⟩
    case skip => obtain ⟨rfl, e⟩ := this; exact ⟨e, hI x S _ hS hIw⟩
    case enter f args => exact absurd hr (no_enter o hc _ _ _ _ _)
  | halt x w' => simp only [Oper.quietUpon] at this
theorem gs_nil (hg : gs k = false) (hw : Region.wanted o (yielded ops a.tmps) = true) (hI : ∀ x S w, S k = false → I x S w → I x (ins S k) w) (y : Operand) (ho : o.op = .nilCheck y) (p : Addr) (hx : a.eval y = .pointer (some p))
    (h : wpGs P ops gs I Q (k + 1) rest (a.put o.dst (.pointer (some p)))) : wpGs P ops gs I Q k (o :: rest) a := by
  refine .inr ⟨hg, .pointer (some p), fun x => .inl ⟨hw, fun S w hS _ _ hIw => ?_⟩, h⟩
  unfold opTo execOp
  simp only [ho, hx, Sem.run_pure]
  exact ⟨rfl, hI x S w hS hIw⟩
theorem gs_call (v : Value) (hg : gs k = false) (hw : Region.wanted o (yielded ops a.tmps) = true) (f : FuncId) (args : List Operand) (ts : Array TypeId) (ho : o.op = .call { callee := .value (.func f), args := args.toArray, argTypes := ts })
    (fn : Func) (hf : P.funcs[f]? = some fn) (hn : (fn.name == "runtime.NumGoroutine") = false) (hb : fn.body.isNone = false) (vals : List Value) (hv : args.map a.eval = vals)
    (hc : ∀ x S w, S k = false → closedS ops S → (∀ e ∈ o.after, Region.binds .any e = true → S e.on = true) → I x S w → Calls P f vals.toArray w fun e w' => e = .returned v ∧ I x (ins S k) w')
    (h : wpGs P ops gs I Q (k + 1) rest (a.put o.dst v)) : wpGs P ops gs I Q k (o :: rest) a := by
  refine .inr ⟨hg, v, fun x => .inl ⟨hw, fun S w hS hcl ha hIw => ?_⟩, h⟩
  have hr : (execOp a.eval o).run P w = .ok (.enter f vals.toArray) w := by
    unfold execOp
    simp [ho, resolve, Act.eval, Deferred.ofValue, invoke, callFunc, hf]
    have hn' : ¬ fn.name = "runtime.NumGoroutine" := fun e => by rw [e] at hn; simp at hn
    have hb' : ¬ fn.body = none := fun e => by rw [e] at hb; simp at hb
    rw [if_neg hn', if_neg hb', ← hv]
  unfold opTo
  rw [hr]
  exact hc x S w hS hcl ha hIw
/-- a call whose value is known when it is done -/
theorem gs_call_ghost (hg : gs k = true) (hw : Region.wanted o (yielded ops a.tmps) = true) (f : FuncId) (args : List Operand) (ts : Array TypeId) (ho : o.op = .call { callee := .value (.func f), args := args.toArray, argTypes := ts })
    (fn : Func) (hf : P.funcs[f]? = some fn) (hn : (fn.name == "runtime.NumGoroutine") = false) (hb : fn.body.isNone = false) (vals : List Value) (hv : args.map a.eval = vals)
    (hc : ∀ x S w, S k = false → closedS ops S → (∀ e ∈ o.after, Region.binds .any e = true → S e.on = true) → I x S w → Calls P f vals.toArray w fun e w' => ∃ b, e = .returned b ∧ I (upd1 x k b) (ins S k) w')
    (h : wpGs P ops gs I Q (k + 1) rest (a.put o.dst undef)) : wpGs P ops gs I Q k (o :: rest) a := by
  refine .inl ⟨hg, hw, fun x S w hS hcl ha hIw => ?_, h⟩
  have hr : (execOp a.eval o).run P w = .ok (.enter f vals.toArray) w := by
    unfold execOp
    simp [ho, resolve, Act.eval, Deferred.ofValue, invoke, callFunc, hf]
    have hn' : ¬ fn.name = "runtime.NumGoroutine" := fun e => by rw [e] at hn; simp at hn
    have hb' : ¬ fn.body = none := fun e => by rw [e] at hb; simp at hb
    rw [if_neg hn', if_neg hb', ← hv]
  unfold opToR
  rw [hr]
  exact hc x S w hS hcl ha hIw
/-- an operation of no call, whose value is known when it is done -/
theorem gs_val (hg : gs k = true) (hw : Region.wanted o (yielded ops a.tmps) = true)
    (hc : ∀ x S w, S k = false → closedS ops S → (∀ e ∈ o.after, Region.binds .any e = true → S e.on = true) → I x S w → ∃ b w', (execOp a.eval o).run P w = .ok (.value b) w' ∧ I (upd1 x k b) (ins S k) w')
    (h : wpGs P ops gs I Q (k + 1) rest (a.put o.dst undef)) : wpGs P ops gs I Q k (o :: rest) a :=
  .inl ⟨hg, hw, fun x S w hS hcl ha hIw => by
    obtain ⟨b, w', h1, h2⟩ := hc x S w hS hcl ha hIw
    unfold opToR
    rw [h1]
    exact h2, h⟩
end ghosts
end Go.Proofs.Yteelconabmfnkaa
