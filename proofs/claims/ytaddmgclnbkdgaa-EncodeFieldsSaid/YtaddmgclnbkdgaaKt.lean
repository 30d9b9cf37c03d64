/- Regions that draw their order and end in operations that wait for all that stands ahead of them: from there on the walk goes on one by one. No program is named here. -/
import Derived.Orders
import Derived.Still
import Derived.Tactics
import Derived.Deep.Draws
import Derived.Test.YtaddmgclnbkdgaaKp
namespace Go.Proofs.Ytaddmgclnbkdgaa
open Go
set_option linter.unusedVariables false
section tail
variable {P : Program} {ops : Array Oper}
theorem reaches_stuck {k k' : Nat} {S : Nat → Bool} {o : Oper} (ho : ops[k]? = some o) (hne : k ≠ k') (hr : reaches ops 9 k k' = true) (hc : closedS ops S) (ha : ∀ e ∈ o.after, Region.binds .any e = true → S e.on = true) : S k' = true := by
  obtain ⟨e, he, hb, hr'⟩ := reaches_step ho hne hr
  exact hc.chain 8 e.on k' hr' (ha e he hb)
theorem wpAny_tail {Q : Exit → Act → World → Prop} {n1 : Nat} (hB : setsB ops = true) (hT : ∀ k, n1 ≤ k → k < ops.size → ∀ k' < k, reaches ops 9 k k' = true) :
    ∀ (r n m : Nat) (listed : Array Bool) (a : Act) (w : World), listed.size = ops.size → n1 ≤ n → n + r = ops.size → r ≤ m → (∀ j < n, Sof listed j = true) → (∀ j, n ≤ j → Sof listed j = false) →
      wpOps P ops Q (List.range' n r) a w → wpAny P .any ops Q m listed a w := by
  obtain ⟨hsel, hlt, hpair⟩ := setsB_spec hB
  intro r
  induction r with
  | zero =>
    intro n m listed a w hsz h1 hn hm hlo hhi h
    have hr : Region.ready .any ops listed = [] := by
      cases hr : Region.ready .any ops listed with
      | nil => rfl
      | cons j _ =>
        obtain ⟨h1, o, ho, _⟩ := mem_ready.1 (show j ∈ Region.ready .any ops listed by rw [hr]; simp)
        have hj := (Array.getElem?_eq_some_iff.1 ho).1
        have h2 : listed.getD j false = true := hlo j (by omega)
        simp [show j < listed.size by omega] at h1 h2
        rw [h1] at h2
        cases h2
    exact wpAny_done hr (by simpa [wpOps] using h) m
  | succ r ih =>
    intro n m listed a w hsz h1 hn hm hlo hhi h
    obtain ⟨m, rfl⟩ : ∃ m', m = m' + 1 := ⟨m - 1, by omega⟩
    have hnn : n < ops.size := by omega
    have hno : ops[n]? = some ops[n] := Array.getElem?_eq_getElem hnn
    have hnl : listed.getD n false = false := hhi n (Nat.le_refl _)
    have hcl : closedS ops (Sof listed) := fun j o ho hj e he hb => by
      have hjn : j < n := by
        rcases Nat.lt_or_ge j n with h | h
        · exact h
        · rw [hhi j h] at hj; cases hj
      exact hlo _ (by have := hlt j o ho e he hb; omega)
    have hmem : n ∈ Region.ready .any ops listed := mem_ready.2 ⟨by
      simp [show n < listed.size by omega] at hnl ⊢; exact hnl, _, hno, fun e he hb => hlo _ (hlt n _ hno e he hb)⟩
    refine ⟨(fun hr => by rw [hr] at hmem; cases hmem), fun i hi => ?_⟩
    obtain ⟨hi1, o, ho, hall⟩ := mem_ready.1 hi
    have hin := (Array.getElem?_eq_some_iff.1 ho).1
    have hi2 : Sof listed i = false := by
      simp [show i < listed.size by omega] at hi1
      simp [Sof, show i < listed.size by omega, hi1]
    have hge : n ≤ i := by
      rcases Nat.lt_or_ge i n with h | h
      · rw [hlo i h] at hi2; cases hi2
      · exact h
    have hieq : i = n := by
      rcases Nat.lt_or_eq_of_le hge with h | h
      · have := reaches_stuck ho (by omega) (hT i (by omega) hin n h) hcl (fun e he hb => hall e he hb)
        rw [hhi n (Nat.le_refl _)] at this; cases this
      · exact h.symm
    subst hieq
    rw [List.range'_succ, wpOps_cons] at h
    refine wpOp_mono (fun a' w' h' => ?_) h
    have hS := Sof_set (listed := listed) (i := i) (by omega)
    exact ih (i + 1) m _ a' w' (by simpa using hsz) (by omega) (by omega) (by omega) (fun j hj => by
      rw [hS]; simp only [ins, Bool.or_eq_true, beq_iff_eq]
      by_cases hji : j = i
      · exact .inl hji
      · exact .inr (hlo j (by omega))) (fun j hj => by
      rw [hS]; simp only [ins, Bool.or_eq_false_iff]
      exact ⟨by simp; omega, hhi j (by omega)⟩) h'
theorem wpAny_of_famT {β : Type} {I : β → (Nat → Bool) → World → Prop} {Q : Exit → Act → World → Prop} {a : Act} {vs : β → Nat → Value} (hB : setsB ops = true)
    {n1 : Nat} (hn1 : n1 ≤ ops.size) (hT : ∀ k, n1 ≤ k → k < ops.size → ∀ k' < k, reaches ops 9 k k' = true)
    (hv : ∀ k o, k < n1 → ops[k]? = some o → ∀ x S w, S k = false → closedS ops S → (∀ e ∈ o.after, Region.binds .any e = true → S e.on = true) → I x S w → ∃ y, (∀ j < ops.size, S j = true → vs y j = vs x j) ∧
      famStep P ops (I y) k o (putAll ops (vs y) (fun _ => true) (List.range k) a) (vs y k) S w)
    (hQ : ∀ x S w, (∀ i < n1, S i = true) → I x S w → wpOps P ops Q (List.range' n1 (ops.size - n1)) (putAll ops (vs x) (fun _ => true) (List.range n1) a) w) :
    ∀ (m : Nat) (x : β) (listed : Array Bool) (w : World), listed.size = ops.size → cnt listed ops.size ≤ m → (∀ j, n1 ≤ j → Sof listed j = false) →
      (∀ j o, ops[j]? = some o → Sof listed j = true → ∀ e ∈ o.after, Region.binds .any e = true → Sof listed e.on = true) → I x (Sof listed) w →
      wpAny P .any ops Q m listed (putAll ops (vs x) (Sof listed) (List.range ops.size) a) w := by
  obtain ⟨hsel, hlt, hpair⟩ := setsB_spec hB
  have hdone : ∀ x (m : Nat) (listed : Array Bool) w, listed.size = ops.size → cnt listed ops.size ≤ m → (∀ j, n1 ≤ j → Sof listed j = false) → cnt listed n1 = 0 → I x (Sof listed) w → wpAny P .any ops Q m listed (putAll ops (vs x) (Sof listed) (List.range ops.size) a) w := fun x m listed w hsz hm hhi h0 hI => by
    have hall := cnt_zero _ h0
    have e : putAll ops (vs x) (Sof listed) (List.range ops.size) a = putAll ops (vs x) (fun _ => true) (List.range n1) a := by
      have hsplit : List.range ops.size = List.range n1 ++ List.range' n1 (ops.size - n1) := by
        have := List.range'_append_1 (s := 0) (m := n1) (n := ops.size - n1)
        rw [Nat.zero_add, Nat.add_sub_cancel' (by omega)] at this
        rw [List.range_eq_range', List.range_eq_range', this]
      rw [hsplit, putAll_append, putAll_none (List.range' n1 _) _ fun j hj => hhi j (List.mem_range'_1.1 hj).1]
      exact putAll_congr _ _ fun j hj => ⟨hall j (List.mem_range.1 hj), rfl⟩
    rw [e]
    have hc : ∀ n, cnt listed (n1 + n) = n := fun n => by
      induction n with
      | zero => exact h0
      | succ n ih =>
        show cnt listed (n1 + n) + (if Sof listed (n1 + n) = true then 0 else 1) = n + 1
        rw [ih, if_neg (by rw [hhi _ (by omega)]; simp)]
    have := hc (ops.size - n1)
    rw [Nat.add_sub_cancel' hn1] at this
    exact wpAny_tail hB hT (ops.size - n1) n1 m listed _ w hsz (Nat.le_refl _) (by omega) (by omega) hall hhi (hQ x _ _ hall hI)
  intro m
  induction m with
  | zero =>
    intro x listed w hsz hc hhi hcl hI
    refine hdone x 0 listed w hsz hc hhi ?_ hI
    have hmono : ∀ n, cnt listed n1 ≤ cnt listed (n1 + n) := fun n => by
      induction n with
      | zero => exact Nat.le_refl _
      | succ n ih => exact Nat.le_trans ih (by show _ ≤ cnt listed (n1 + n) + _; omega)
    have := hmono (ops.size - n1)
    rw [Nat.add_sub_cancel' hn1] at this
    omega
  | succ m ih =>
    intro x listed w hsz hc hhi hcl hI
    by_cases h00 : cnt listed n1 = 0
    · exact hdone x (m + 1) listed w hsz hc hhi h00 hI
    obtain ⟨u, hu, hu1, hu2⟩ := cnt_pos _ h00
    have huo : ops[u]? = some ops[u] := Array.getElem?_eq_getElem (by omega)
    have humem : u ∈ Region.ready .any ops listed := mem_ready.2 ⟨by
        have : listed.getD u false = false := hu1
        simp [show u < listed.size by omega] at this ⊢; exact this, _, huo, fun e he hb => hu2 _ (hlt u _ huo e he hb)⟩
    refine ⟨(fun hr => by rw [hr] at humem; cases humem), fun i hi => ?_⟩
    obtain ⟨h1, o, ho, hall⟩ := mem_ready.1 hi
    have hin := (Array.getElem?_eq_some_iff.1 ho).1
    have hil : i < listed.size := by omega
    have hSi : Sof listed i = false := by
      simp [hil] at h1
      simp [Sof, hil, h1]
    have hi1 : i < n1 := by
      rcases Nat.lt_or_ge i n1 with h | h
      · exact h
      · have := reaches_stuck ho (by omega) (hT i h hin u (by omega)) hcl (fun e he hb => hall e he hb)
        rw [hu1] at this; cases this
    obtain ⟨y, hagree, hst⟩ := hv i o hi1 ho x (Sof listed) w hSi hcl (fun e he hb => hall e he hb) hI
    have hxy : putAll ops (vs x) (Sof listed) (List.range ops.size) a = putAll ops (vs y) (Sof listed) (List.range ops.size) a := putAll_agree _ _ fun j hjm hj => (hagree j (List.mem_range.1 hjm) hj).symm
    rw [hxy]
    -- who writes what this operation looks at
    have hw : ∀ t ∈ o.looksAt ops, (putAll ops (vs y) (Sof listed) (List.range ops.size) a).tmps[t]? = (putAll ops (vs y) (fun _ => true) (List.range i) a).tmps[t]? := fun t ht => by
      have e : putAll ops (vs y) (fun _ => true) (List.range i) a = putAll ops (vs y) (fun j => decide (j < i)) (List.range ops.size) a := by
        have hsplit : List.range ops.size = List.range i ++ List.range' i (ops.size - i) := by
          have := List.range'_append_1 (s := 0) (m := i) (n := ops.size - i)
          rw [Nat.zero_add, Nat.add_sub_cancel' (by omega)] at this
          rw [List.range_eq_range', List.range_eq_range', this]
        rw [hsplit, putAll_append, putAll_none (List.range' i _) _ fun j hj => decide_eq_false (by have := (List.mem_range'_1.1 hj).1; omega)]
        exact putAll_congr _ _ fun j hj => ⟨(decide_eq_true (List.mem_range.1 hj)).symm, rfl⟩
      rw [e]
      refine putAll_look _ _ _ rfl fun j hj hd => ?_
      have hjn := List.mem_range.1 hj
      have hjo : ops[j]? = some ops[j] := Array.getElem?_eq_getElem hjn
      have hdj : ops[j].dst = some t := by simpa [dstAt, hjo] using hd
      rcases Nat.lt_trichotomy j i with h | h | h
      · rw [decide_eq_true h]
        rcases hpair j i _ _ hjo ho h with ⟨e, he, hb, hon⟩ | hap
        · rw [← hon]; exact hall e he hb
        · exact absurd ht ((Oper.apart_spec hap).1 t hdj)
      · subst h
        rw [hSi]; simp
      · rw [decide_eq_false (by omega)]
        cases hSj : Sof listed j
        · rfl
        · rcases hpair i j _ _ ho hjo h with ⟨e, he, hb, hon⟩ | hap
          · have := hcl j _ hjo hSj e he hb
            rw [hon, hSi] at this
            cases this
          · exact absurd ht ((Oper.apart_spec hap).2.2 t hdj)
    -- the frame behind it
    have hput : (putAll ops (vs y) (Sof listed) (List.range ops.size) a).put o.dst (vs y i) = putAll ops (vs y) (Sof (listed.setIfInBounds i true)) (List.range ops.size) a := by
      have hsplit : List.range ops.size = List.range i ++ i :: List.range' (i + 1) (ops.size - (i + 1)) := by
        rw [List.range_eq_range', List.range_eq_range']
        have := List.range'_append_1 (s := 0) (m := i) (n := ops.size - i)
        rw [Nat.zero_add, Nat.add_sub_cancel' (by omega)] at this
        rw [← this, show ops.size - i = (ops.size - (i + 1)) + 1 by omega, List.range'_succ]
      have hd : dstAt ops i = o.dst := by simp [dstAt, ho]
      rw [hsplit, putAll_append, putAll_append, Sof_set hil]
      simp only [putAll, hSi, ins, beq_self_eq_true, Bool.true_or, if_true, Bool.false_eq_true, if_false, hd]
      have hA : putAll ops (vs y) (ins (Sof listed) i) (List.range i) a = putAll ops (vs y) (Sof listed) (List.range i) a :=
        putAll_congr _ _ fun j hj => ⟨by have := List.mem_range.1 hj; simp [ins, show j ≠ i by omega], rfl⟩
      have hC : ∀ b, putAll ops (vs y) (ins (Sof listed) i) (List.range' (i + 1) (ops.size - (i + 1))) b = putAll ops (vs y) (Sof listed) (List.range' (i + 1) (ops.size - (i + 1))) b := fun b =>
        putAll_congr _ _ fun j hj => ⟨by have := (List.mem_range'_1.1 hj).1; simp [ins, show j ≠ i by omega], rfl⟩
      rw [hA, hC, putAll_put]
      intro j hj hSj x hx hdj
      have hjb := List.mem_range'_1.1 hj
      have hjn : j < ops.size := by omega
      have hjo : ops[j]? = some ops[j] := Array.getElem?_eq_getElem hjn
      rcases hpair i j _ _ ho hjo (by omega) with ⟨e, he, hb, hon⟩ | hap
      · have := hcl j _ hjo hSj e he hb
        rw [hon, hSi] at this
        cases this
      · exact (Oper.apart_spec hap).2.1 x hx (by simpa [dstAt, hjo] using hdj)
    have hnext : ∀ w', I y (ins (Sof listed) i) w' → wpAny P .any ops Q m (listed.setIfInBounds i true) ((putAll ops (vs y) (Sof listed) (List.range ops.size) a).put o.dst (vs y i)) w' := fun w' hI' => by
      rw [hput]
      refine ih y _ _ (by simpa using hsz) ?_ (fun j hj => by rw [Sof_set hil]; simp only [ins, Bool.or_eq_false_iff]; exact ⟨by simp; omega, hhi j hj⟩) (fun j p hp hSj e he hb => ?_) (by rw [Sof_set hil]; exact hI')
      · have := cnt_set hil hSi ops.size
        rw [if_pos hin] at this
        omega
      · rw [Sof_set hil] at hSj ⊢
        by_cases hji : j = i
        · subst hji
          obtain rfl := Option.some.inj (hp.symm.trans ho)
          simp [ins, show Sof listed e.on = true from hall e he hb]
        · have hSj' : Sof listed j = true := by simpa [ins, hji] using hSj
          simp [ins, hcl j p hp hSj' e he hb]
    have hns : ∀ cs b, o.op ≠ .select cs b := fun cs b => Region.noSelect_spec hsel i o cs b ho
    unfold wpOp
    simp only [ho]
    rw [same_wanted hw]
    rcases hst with ⟨hwt, hst⟩ | ⟨hwt, hvu, hst⟩
    · rw [if_pos hwt]
      refine .inl (wp_of_opTo (v := vs y i) (N := I y (ins (Sof listed) i)) ?_ hnext)
      unfold opTo at hst ⊢
      rw [same_op hns hw]
      exact hst
    · rw [if_neg (by rw [hwt]; exact Bool.false_ne_true)]
      have := hnext w hst
      rwa [hvu] at this


/-- the lexical walk of the operations ahead of the allocation -/
def wpPreG (P : Program) (ops : Array Oper) (I0 : (Nat → Bool) → World → Prop) {β : Type} (J : β → (Nat → Bool) → World → Prop) (al : Nat) (Q : Act → Prop) : Nat → List Oper → Act → Prop
  | _, [], a => Q a
  | k, o :: rest, a => ∃ v, (stepOk P ops (fun S w => S al = false ∧ I0 S w) k o a v ∧ ∀ b, stepOk P ops (fun S w => S al = true ∧ J b S w) k o a v) ∧ wpPreG P ops I0 J al Q (k + 1) rest (a.put o.dst v)
theorem wpPreG_values {I0 : (Nat → Bool) → World → Prop} {β : Type} {J : β → (Nat → Bool) → World → Prop} {al : Nat} {Q : Act → Prop} : ∀ (l : List Oper) (k : Nat) (a : Act), (∀ j o, l[j]? = some o → ops[k + j]? = some o) → wpPreG P ops I0 J al Q k l a →
    ∃ vs : Nat → Value, (∀ j o, l[j]? = some o → (stepOk P ops (fun S w => S al = false ∧ I0 S w) (k + j) o (putAll ops vs (fun _ => true) (List.range' k j) a) (vs (k + j)) ∧
      ∀ b, stepOk P ops (fun S w => S al = true ∧ J b S w) (k + j) o (putAll ops vs (fun _ => true) (List.range' k j) a) (vs (k + j)))) ∧ Q (putAll ops vs (fun _ => true) (List.range' k l.length) a)
  | [], k, a, _, h => ⟨fun _ => undef, fun j o hj => by simp at hj, h⟩
  | o :: l, k, a, hl, h => by
    obtain ⟨v, hv, hr⟩ := h
    have h0 : ops[k]? = some o := by simpa using hl 0 o rfl
    have hd : dstAt ops k = o.dst := by simp [dstAt, h0]
    obtain ⟨vs, h1, h2⟩ := wpPreG_values l (k + 1) _ (fun j p hj => by have := hl (j + 1) p (by simpa using hj); simpa [Nat.add_assoc, Nat.add_comm 1 j] using this) hr
    have key : ∀ (m : Nat) (b : Act), putAll ops (fun j => if j = k then v else vs j) (fun _ => true) (List.range' (k + 1) m) b = putAll ops vs (fun _ => true) (List.range' (k + 1) m) b := fun m b =>
      putAll_congr _ _ fun j hj => ⟨rfl, by have := (List.mem_range'_1.1 hj).1; exact if_neg (by omega)⟩
    refine ⟨fun j => if j = k then v else vs j, fun j p hj => ?_, ?_⟩
    · cases j with
      | zero =>
        simp at hj
        subst hj
        simpa [putAll] using hv
      | succ j =>
        have := h1 j p (by simpa using hj)
        rw [List.range'_succ, putAll, if_pos rfl, hd, if_pos rfl, key]
        show stepOk P ops _ (k + (j + 1)) p _ (if k + (j + 1) = k then v else vs (k + (j + 1))) ∧ ∀ b, stepOk P ops _ (k + (j + 1)) p _ (if k + (j + 1) = k then v else vs (k + (j + 1)))
        rw [if_neg (by omega), show k + (j + 1) = k + 1 + j by omega]
        exact this
    · rw [List.length_cons, List.range'_succ, putAll, if_pos rfl, hd, if_pos rfl, key]
      exact h2
def tailB (ops : Array Oper) (n1 : Nat) : Bool := (List.range ops.size).all fun k => decide (k < n1) || (List.range k).all fun j => reaches ops 9 k j
theorem tailB_spec {n1 : Nat} (h : tailB ops n1 = true) : ∀ k, n1 ≤ k → k < ops.size → ∀ k' < k, reaches ops 9 k k' = true := fun k hk hn k' hk' => by
  have := List.all_eq_true.1 h k (List.mem_range.2 hn)
  rw [Bool.or_eq_true] at this
  rcases this with h | h
  · exact absurd (of_decide_eq_true h) (by omega)
  · exact List.all_eq_true.1 h k' (List.mem_range.2 hk')
theorem Sof_none (n : Nat) : Sof (Array.replicate n false) = fun _ => false := by
  funext j
  unfold Sof
  rcases Nat.lt_or_ge j n with h | h <;> simp [h]
theorem cnt_le (listed : Array Bool) : ∀ n, cnt listed n ≤ n
  | 0 => Nat.le_refl _
  | n + 1 => by have := cnt_le listed n; unfold cnt; split <;> omega
/-- A region that draws its order; behind l1 each operation waits for all that stands ahead of it. -/
theorem wp_region_tail {id : Nat} (l1 l2 : List Oper) {Q : Exit → Act → World → Prop} {a : Act} {w : World} (I : (Nat → Bool) → World → Prop)
    (hm : P.follows .mixedOrders = true) (hB : setsB (l1 ++ l2).toArray = true) (hT : tailB (l1 ++ l2).toArray l1.length = true) (h0 : I (fun _ => false) w.drew)
    (h : wpSets P (l1 ++ l2).toArray I (fun a' => ∀ S w', (∀ i < l1.length, S i = true) → I S w' → wpList P (l1 ++ l2).toArray Q l2 a' w') 0 l1 a) :
    (Code.region id (l1 ++ l2).toArray true).wp P Q a w := by
  obtain ⟨ops, hops⟩ : ∃ ops, (l1 ++ l2).toArray = ops := ⟨_, rfl⟩
  have hl1 : ∀ j, j < l1.length → l1[j]? = ops[j]? := fun j hj => by rw [← hops]; simp [List.getElem?_append_left hj]
  have hl2 : ∀ j, l2[j]? = ops[l1.length + j]? := fun j => by
    rw [← hops, List.getElem?_toArray, List.getElem?_append_right (by omega), show l1.length + j - l1.length = j by omega]
  have hsz : ops.size = l1.length + l2.length := by rw [← hops]; simp
  rw [hops] at hB hT h ⊢
  have hpre : ∀ (l : List Oper) (k : Nat) (a : Act), (∀ j o, l[j]? = some o → ops[k + j]? = some o) → wpSets P ops I (fun a' => ∀ S w', (∀ i < l1.length, S i = true) → I S w' → wpList P ops Q l2 a' w') k l a →
      ∃ vs : Nat → Value, (∀ j o, l[j]? = some o → stepOk P ops I (k + j) o (putAll ops vs (fun _ => true) (List.range' k j) a) (vs (k + j))) ∧
        ∀ S w', (∀ i < l1.length, S i = true) → I S w' → wpList P ops Q l2 (putAll ops vs (fun _ => true) (List.range' k l.length) a) w' := by
    intro l
    induction l with
    | nil => exact fun k a _ h => ⟨fun _ => undef, fun j o hj => by simp at hj, h⟩
    | cons o l ih =>
      intro k a hl h
      obtain ⟨v, hv, hr⟩ := h
      have h0 : ops[k]? = some o := by simpa using hl 0 o rfl
      have hd : dstAt ops k = o.dst := by simp [dstAt, h0]
      obtain ⟨vs, h1, h2⟩ := ih (k + 1) _ (fun j p hj => by have := hl (j + 1) p (by simpa using hj); simpa [Nat.add_assoc, Nat.add_comm 1 j] using this) hr
      have key : ∀ (m : Nat) (b : Act), putAll ops (fun j => if j = k then v else vs j) (fun _ => true) (List.range' (k + 1) m) b = putAll ops vs (fun _ => true) (List.range' (k + 1) m) b := fun m b =>
        putAll_congr _ _ fun j hj => ⟨rfl, by have := (List.mem_range'_1.1 hj).1; exact if_neg (by omega)⟩
      refine ⟨fun j => if j = k then v else vs j, fun j p hj => ?_, ?_⟩
      · cases j with
        | zero =>
          simp at hj
          subst hj
          simpa [putAll] using hv
        | succ j =>
          have := h1 j p (by simpa using hj)
          rw [List.range'_succ, putAll, if_pos rfl, hd, if_pos rfl, key]
          show stepOk P ops I (k + (j + 1)) p _ (if k + (j + 1) = k then v else vs (k + (j + 1)))
          rw [if_neg (by omega), show k + (j + 1) = k + 1 + j by omega]
          exact this
      · rw [List.length_cons, List.range'_succ, putAll, if_pos rfl, hd, if_pos rfl, key]
        exact h2
  obtain ⟨vs, p1, p2⟩ := hpre l1 0 a (fun j o hj => by rw [Nat.zero_add, ← hl1 j (List.getElem?_eq_some_iff.1 hj).1]; exact hj) h
  have key := wpAny_of_famT (P := P) (β := Unit) (I := fun _ S w => I S w) (Q := Q) (a := a) (vs := fun _ => vs) hB (n1 := l1.length) (by omega) (tailB_spec hT)
    (fun k o hk ho x S w hSk hcl hafter hI => ⟨(), fun _ _ _ => rfl, by
      have := p1 k o ((hl1 k hk).trans ho)
      rw [Nat.zero_add, ← List.range_eq_range'] at this
      exact this.fam hSk hcl hafter hI⟩)
    (fun x S w' hS' hI => by
      have e : wpOps P ops Q (List.range' l1.length (ops.size - l1.length)) = wpList P ops Q l2 := by
        rw [show ops.size - l1.length = l2.length by omega]
        exact wpOps_eq_wpList l2 l1.length hl2
      rw [e, List.range_eq_range']
      exact p2 S w' hS' hI)
    ops.size () (Array.replicate ops.size false) w.drew (by simp) (cnt_le _ _) (fun j _ => by rw [Sof_none]) (fun j o _ hSj => by rw [Sof_none] at hSj; cases hSj) (by rw [Sof_none]; exact h0)
  rw [Sof_none, putAll_none _ _ (fun _ _ => rfl)] at key
  exact wp_region_any hm key
/-- A region that draws its order and holds one operation (number l1.length) whose value is known when it is done; behind it each operation waits for all that stands ahead of it. -/
theorem wp_region_ghost {id : Nat} (l1 l2 : List Oper) {oa : Oper} {β : Type} (fv : β → Value) {Q : Exit → Act → World → Prop} {a : Act} {w : World} (I0 : (Nat → Bool) → World → Prop) (J : β → (Nat → Bool) → World → Prop)
    (hm : P.follows .mixedOrders = true) (hB : setsB (l1 ++ oa :: l2).toArray = true) (hT : tailB (l1 ++ oa :: l2).toArray (l1.length + 1) = true) (h0 : I0 (fun _ => false) w.drew)
    (h : wpPreG P (l1 ++ oa :: l2).toArray I0 J l1.length (fun a1 => Region.wanted oa (yielded (l1 ++ oa :: l2).toArray a1.tmps) = true ∧
      (∀ S w, S l1.length = false → closedS (l1 ++ oa :: l2).toArray S → (∀ e ∈ oa.after, Region.binds .any e = true → S e.on = true) → I0 S w → ∃ b, opTo P oa a1 w (fv b) (J b (ins S l1.length))) ∧
      ∀ b S w', (∀ i < l1.length + 1, S i = true) → J b S w' → wpList P (l1 ++ oa :: l2).toArray Q l2 (a1.put oa.dst (fv b)) w') 0 l1 a) :
    (Code.region id (l1 ++ oa :: l2).toArray true).wp P Q a w := by
  obtain ⟨al, hal⟩ : ∃ n, l1.length = n := ⟨_, rfl⟩
  obtain ⟨ops, hops⟩ : ∃ ops, (l1 ++ oa :: l2).toArray = ops := ⟨_, rfl⟩
  have hl1 : ∀ j, j < l1.length → l1[j]? = ops[j]? := fun j hj => by rw [← hops]; simp [List.getElem?_append_left hj]
  have hla : ops[al]? = some oa := by rw [← hops, ← hal]; simp
  have hl2 : ∀ j, l2[j]? = ops[al + 1 + j]? := fun j => by
    rw [← hops, List.getElem?_toArray, List.getElem?_append_right (by omega), show al + 1 + j - l1.length = j + 1 by omega]; simp
  have hsz : ops.size = al + 1 + l2.length := by rw [← hops, ← hal]; simp; omega
  rw [hops] at hB hT h ⊢
  rw [hal] at hT h
  obtain ⟨vs1, p1, pw, pa, p2⟩ := wpPreG_values l1 0 a (fun j o hj => by rw [Nat.zero_add, ← hl1 j (List.getElem?_eq_some_iff.1 hj).1]; exact hj) h
  rw [hal] at pw pa p2
  let vs : Option β → Nat → Value := fun x k => if k < al then vs1 k else match x with
    | none => undef
    | some b => fv b
  let I : Option β → (Nat → Bool) → World → Prop := fun x => match x with
    | none => fun S w => S al = false ∧ I0 S w
    | some b => fun S w => S al = true ∧ J b S w
  have hpre : ∀ x k, k ≤ al → putAll ops (vs x) (fun _ => true) (List.range k) a = putAll ops vs1 (fun _ => true) (List.range' 0 k) a := fun x k hk => by
    rw [List.range_eq_range']
    exact putAll_congr _ _ fun j hj => ⟨rfl, if_pos (by have := (List.mem_range'_1.1 hj).2; omega)⟩
  have hda : dstAt ops al = oa.dst := by simp [dstAt, hla]
  have key := wpAny_of_famT (P := P) (β := Option β) (I := I) (Q := Q) (a := a) (vs := vs) hB (n1 := al + 1) (by omega) (tailB_spec hT)
    (fun k o hk ho x S w hSk hcl hafter hI => by
      rcases Nat.lt_or_eq_of_le (Nat.le_of_lt_succ hk) with hlt | heq
      · have hj : l1[k]? = some o := (hl1 k (by omega)).trans ho
        obtain ⟨s0, sb⟩ := p1 k o hj
        rw [Nat.zero_add] at s0 sb
        refine ⟨x, fun _ _ _ => rfl, ?_⟩
        rw [hpre x k (by omega), show vs x k = vs1 k from if_pos hlt]
        cases x with
        | none => exact s0.fam hSk hcl hafter hI
        | some b => exact (sb b).fam hSk hcl hafter hI
      · subst heq
        obtain rfl := Option.some.inj (hla.symm.trans ho)
        cases x with
        | some b =>
          have : S k = true := hI.1
          rw [hSk] at this; cases this
        | none =>
          obtain ⟨b, hb⟩ := pa S w hSk hcl hafter hI.2
          refine ⟨some b, fun j hjn hj => ?_, ?_⟩
          · by_cases hjl : j < k
            · show (if j < k then _ else _) = (if j < k then _ else _)
              rw [if_pos hjl, if_pos hjl]
            · exfalso
              by_cases hjk : j = k
              · rw [hjk, hSk] at hj; cases hj
              · have := hcl.chain 9 j k (tailB_spec hT j (by omega) hjn k (by omega)) hj
                rw [hSk] at this; cases this
          · rw [hpre (some b) k (Nat.le_refl _)]
            have ea : vs (some b) k = fv b := by
              show (if k < k then _ else _) = _
              rw [if_neg (Nat.lt_irrefl _)]
            rw [ea]
            exact .inl ⟨pw, hb.imp fun w' hw' => ⟨by simp [ins], hw'⟩⟩)
    (fun x S w' hS' hI => by
      have e : wpOps P ops Q (List.range' (al + 1) (ops.size - (al + 1))) = wpList P ops Q l2 := by
        rw [show ops.size - (al + 1) = l2.length by omega]
        exact wpOps_eq_wpList l2 (al + 1) hl2
      rw [e]
      cases x with
      | none =>
        have h1 : S al = false := hI.1
        have h2 := hS' al (by omega)
        rw [h1] at h2; cases h2
      | some b =>
        have hs : List.range (al + 1) = List.range al ++ [al] := List.range_succ
        have ea : vs (some b) al = fv b := by
          show (if al < al then _ else _) = _
          rw [if_neg (Nat.lt_irrefl _)]
        rw [hs, putAll_append, hpre (some b) al (Nat.le_refl _)]
        simp only [putAll, if_true, hda, ea]
        exact p2 b S w' hS' hI.2)
    ops.size none (Array.replicate ops.size false) w.drew (by simp) (cnt_le _ _) (fun j _ => by rw [Sof_none]) (fun j o _ hSj => by rw [Sof_none] at hSj; cases hSj) (by rw [Sof_none]; exact ⟨rfl, h0⟩)
  rw [Sof_none, putAll_none _ _ (fun _ _ => rfl)] at key
  exact wp_region_any hm key
theorem sets_nil {I : (Nat → Bool) → World → Prop} {Q : Act → Prop} {k : Nat} {o : Oper} {rest : List Oper} {a : Act} (hw : Region.wanted o (yielded ops a.tmps) = true) (hI : ∀ S w, S k = false → I S w → I (ins S k) w) (x : Operand) (ho : o.op = .nilCheck x) (p : Addr) (hx : a.eval x = .pointer (some p))
    (h : wpSets P ops I Q (k + 1) rest (a.put o.dst (.pointer (some p)))) : wpSets P ops I Q k (o :: rest) a := by
  refine ⟨.pointer (some p), .inl ⟨hw, fun S w hS _ _ hIw => ?_⟩, h⟩
  unfold opTo execOp
  simp only [ho, hx, Sem.run_pure]
  exact ⟨rfl, hI S w hS hIw⟩
end tail
end Go.Proofs.Ytaddmgclnbkdgaa
