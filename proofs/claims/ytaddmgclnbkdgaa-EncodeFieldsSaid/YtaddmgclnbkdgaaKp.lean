/- Regions that draw their order and hold an allocation that waits for nothing: its address is known when it is made. No program is named here. -/
import Derived.Orders
import Derived.Still
import Derived.Tactics
import Derived.Deep.Draws
import Derived.Test.YtaddmgclnbkdgaaK
namespace Go.Proofs.Ytaddmgclnbkdgaa
open Go
set_option linter.unusedVariables false
section fam
variable {P : Program} {ops : Array Oper}
theorem putAll_agree {vs vs' : Nat → Value} {S : Nat → Bool} : ∀ (l : List Nat) (a : Act), (∀ j ∈ l, S j = true → vs j = vs' j) → putAll ops vs S l a = putAll ops vs' S l a
  | [], _, _ => rfl
  | k :: l, a, h => by
    unfold putAll
    cases hS : S k
    · rw [if_neg (by simp), if_neg (by simp)]
      exact putAll_agree l _ fun j hj => h j (by simp [hj])
    · rw [if_pos rfl, if_pos rfl, h k (by simp) hS]
      exact putAll_agree l _ fun j hj => h j (by simp [hj])
/-- one operation, at one set and world -/
def famStep (P : Program) (ops : Array Oper) (N : (Nat → Bool) → World → Prop) (k : Nat) (o : Oper) (a : Act) (v : Value) (S : Nat → Bool) (w : World) : Prop :=
  (Region.wanted o (yielded ops a.tmps) = true ∧ opTo P o a w v (N (ins S k))) ∨ (Region.wanted o (yielded ops a.tmps) = false ∧ v = undef ∧ N (ins S k) w)
theorem wpAny_of_fam {β : Type} {I : β → (Nat → Bool) → World → Prop} {Q : Exit → Act → World → Prop} {a : Act} {vs : β → Nat → Value} (hB : setsB ops = true)
    (hv : ∀ k o, ops[k]? = some o → ∀ x S w, S k = false → closedS ops S → (∀ e ∈ o.after, Region.binds .any e = true → S e.on = true) → I x S w → ∃ y, (∀ j < ops.size, S j = true → vs y j = vs x j) ∧
      famStep P ops (I y) k o (putAll ops (vs y) (fun _ => true) (List.range k) a) (vs y k) S w)
    (hQ : ∀ x S w, (∀ i < ops.size, S i = true) → I x S w → Q .normal (putAll ops (vs x) (fun _ => true) (List.range ops.size) a) w) :
    ∀ (m : Nat) (x : β) (listed : Array Bool) (w : World), listed.size = ops.size → cnt listed ops.size ≤ m →
      (∀ j o, ops[j]? = some o → Sof listed j = true → ∀ e ∈ o.after, Region.binds .any e = true → Sof listed e.on = true) → I x (Sof listed) w →
      wpAny P .any ops Q m listed (putAll ops (vs x) (Sof listed) (List.range ops.size) a) w := by
  obtain ⟨hsel, hlt, hpair⟩ := setsB_spec hB
  have hdone : ∀ x (listed : Array Bool) w, cnt listed ops.size = 0 → I x (Sof listed) w → Q .normal (putAll ops (vs x) (Sof listed) (List.range ops.size) a) w := fun x listed w h0 hI => by
    have hall := cnt_zero _ h0
    rw [putAll_congr (S' := fun _ => true) (vs' := vs x) _ _ fun j hj => ⟨hall j (List.mem_range.1 hj), rfl⟩]
    exact hQ x _ _ hall hI
  have hready : ∀ listed : Array Bool, listed.size = ops.size → Region.ready .any ops listed = [] → cnt listed ops.size = 0 := fun listed hsz hr => by
    by_cases h0 : cnt listed ops.size = 0
    · exact h0
    · obtain ⟨i, hi, h1, h2⟩ := cnt_pos _ h0
      have hio : ops[i]? = some ops[i] := Array.getElem?_eq_getElem hi
      have : i ∈ Region.ready .any ops listed := mem_ready.2 ⟨by
        have : listed.getD i false = false := h1
        simp [show i < listed.size by omega] at this ⊢; exact this, _, hio, fun e he hb => h2 _ (hlt i _ hio e he hb)⟩
      rw [hr] at this
      cases this
  intro m
  induction m with
  | zero =>
    intro x listed w hsz hc hcl hI
    refine ⟨?_, hdone x listed w (by omega) hI⟩
    have hall := cnt_zero (listed := listed) ops.size (by omega)
    cases hr : Region.ready .any ops listed with
    | nil => rfl
    | cons j _ =>
      obtain ⟨h1, o, ho, _⟩ := mem_ready.1 (show j ∈ Region.ready .any ops listed by rw [hr]; simp)
      have hj := (Array.getElem?_eq_some_iff.1 ho).1
      have h2 : listed.getD j false = true := hall j hj
      simp [show j < listed.size by omega] at h1 h2
      rw [h1] at h2
      cases h2
  | succ m ih =>
    intro x listed w hsz hc hcl hI
    refine ⟨fun hr => hdone x listed w (hready listed hsz hr) hI, fun i hi => ?_⟩
    obtain ⟨h1, o, ho, hall⟩ := mem_ready.1 hi
    have hin := (Array.getElem?_eq_some_iff.1 ho).1
    have hil : i < listed.size := by omega
    have hSi : Sof listed i = false := by
      simp [hil] at h1
      simp [Sof, hil, h1]
    obtain ⟨y, hagree, hst⟩ := hv i o ho x (Sof listed) w hSi hcl (fun e he hb => hall e he hb) hI
    have hxy : putAll ops (vs x) (Sof listed) (List.range ops.size) a = putAll ops (vs y) (Sof listed) (List.range ops.size) a := putAll_agree _ _ fun j hjm hj => (hagree j (List.mem_range.1 hjm) hj).symm
    rw [hxy]
    -- who writes what this operation looks at
    have hw : ∀ t ∈ o.looksAt ops, (putAll ops (vs y) (Sof listed) (List.range ops.size) a).tmps[t]? = (putAll ops (vs y) (fun _ => true) (List.range i) a).tmps[t]? := fun t ht => by
      have e : putAll ops (vs y) (fun _ => true) (List.range i) a = putAll ops (vs y) (fun j => decide (j < i)) (List.range ops.size) a := by
        have hsplit : List.range ops.size = List.range i ++ List.range' i (ops.size - i) := by
          have := List.range'_append_1 (s := 0) (m := i) (n := ops.size - i)
          rw [Nat.zero_add, Nat.add_sub_cancel' (by omega)] at this
          rw [List.range_eq_range', List.range_eq_range', this]
        rw [hsplit, putAll_append, putAll_none (List.range' i _) _ fun j hj => decide_eq_false (by have := (List.mem_range'_1.1 hj).1; omega)]
        exact putAll_congr _ _ fun j hj => ⟨(decide_eq_true (List.mem_range.1 hj)).symm, rfl⟩
      rw [e]
      refine putAll_look _ _ _ rfl fun j hj hd => ?_
      have hjn := List.mem_range.1 hj
      have hjo : ops[j]? = some ops[j] := Array.getElem?_eq_getElem hjn
      have hdj : ops[j].dst = some t := by simpa [dstAt, hjo] using hd
      rcases Nat.lt_trichotomy j i with h | h | h
      · rw [decide_eq_true h]
        rcases hpair j i _ _ hjo ho h with ⟨e, he, hb, hon⟩ | hap
        · rw [← hon]; exact hall e he hb
        · exact absurd ht ((Oper.apart_spec hap).1 t hdj)
      · subst h
        rw [hSi]; simp
      · rw [decide_eq_false (by omega)]
        cases hSj : Sof listed j
        · rfl
        · rcases hpair i j _ _ ho hjo h with ⟨e, he, hb, hon⟩ | hap
          · have := hcl j _ hjo hSj e he hb
            rw [hon, hSi] at this
            cases this
          · exact absurd ht ((Oper.apart_spec hap).2.2 t hdj)
    -- the frame behind it
    have hput : (putAll ops (vs y) (Sof listed) (List.range ops.size) a).put o.dst (vs y i) = putAll ops (vs y) (Sof (listed.setIfInBounds i true)) (List.range ops.size) a := by
      have hsplit : List.range ops.size = List.range i ++ i :: List.range' (i + 1) (ops.size - (i + 1)) := by
        rw [List.range_eq_range', List.range_eq_range']
        have := List.range'_append_1 (s := 0) (m := i) (n := ops.size - i)
        rw [Nat.zero_add, Nat.add_sub_cancel' (by omega)] at this
        rw [← this, show ops.size - i = (ops.size - (i + 1)) + 1 by omega, List.range'_succ]
      have hd : dstAt ops i = o.dst := by simp [dstAt, ho]
      rw [hsplit, putAll_append, putAll_append, Sof_set hil]
      simp only [putAll, hSi, ins, beq_self_eq_true, Bool.true_or, if_true, Bool.false_eq_true, if_false, hd]
      have hA : putAll ops (vs y) (ins (Sof listed) i) (List.range i) a = putAll ops (vs y) (Sof listed) (List.range i) a :=
        putAll_congr _ _ fun j hj => ⟨by have := List.mem_range.1 hj; simp [ins, show j ≠ i by omega], rfl⟩
      have hC : ∀ b, putAll ops (vs y) (ins (Sof listed) i) (List.range' (i + 1) (ops.size - (i + 1))) b = putAll ops (vs y) (Sof listed) (List.range' (i + 1) (ops.size - (i + 1))) b := fun b =>
        putAll_congr _ _ fun j hj => ⟨by have := (List.mem_range'_1.1 hj).1; simp [ins, show j ≠ i by omega], rfl⟩
      rw [hA, hC, putAll_put]
      intro j hj hSj x hx hdj
      have hjb := List.mem_range'_1.1 hj
      have hjn : j < ops.size := by omega
      have hjo : ops[j]? = some ops[j] := Array.getElem?_eq_getElem hjn
      rcases hpair i j _ _ ho hjo (by omega) with ⟨e, he, hb, hon⟩ | hap
      · have := hcl j _ hjo hSj e he hb
        rw [hon, hSi] at this
        cases this
      · exact (Oper.apart_spec hap).2.1 x hx (by simpa [dstAt, hjo] using hdj)
    have hnext : ∀ w', I y (ins (Sof listed) i) w' → wpAny P .any ops Q m (listed.setIfInBounds i true) ((putAll ops (vs y) (Sof listed) (List.range ops.size) a).put o.dst (vs y i)) w' := fun w' hI' => by
      rw [hput]
      refine ih y _ _ (by simpa using hsz) ?_ (fun j p hp hSj e he hb => ?_) (by rw [Sof_set hil]; exact hI')
      · have := cnt_set hil hSi ops.size
        rw [if_pos hin] at this
        omega
      · rw [Sof_set hil] at hSj ⊢
        by_cases hji : j = i
        · subst hji
          obtain rfl := Option.some.inj (hp.symm.trans ho)
          simp [ins, show Sof listed e.on = true from hall e he hb]
        · have hSj' : Sof listed j = true := by simpa [ins, hji] using hSj
          simp [ins, hcl j p hp hSj' e he hb]
    have hns : ∀ cs b, o.op ≠ .select cs b := fun cs b => Region.noSelect_spec hsel i o cs b ho
    unfold wpOp
    simp only [ho]
    rw [same_wanted hw]
    rcases hst with ⟨hwt, hst⟩ | ⟨hwt, hvu, hst⟩
    · rw [if_pos hwt]
      refine .inl (wp_of_opTo (v := vs y i) (N := I y (ins (Sof listed) i)) ?_ hnext)
      unfold opTo at hst ⊢
      rw [same_op hns hw]
      exact hst
    · rw [if_neg (by rw [hwt]; exact Bool.false_ne_true)]
      have := hnext w hst
      rwa [hvu] at this

theorem opTo.imp {o : Oper} {a : Act} {w : World} {v : Value} {N N' : World → Prop} (h : opTo P o a w v N) (hN : ∀ w', N w' → N' w') : opTo P o a w v N' := by
  unfold opTo at h ⊢
  generalize (execOp a.eval o).run P w = r at *
  cases r with
  | ok n w' =>
    cases n <;> simp only [resTo] at h ⊢
    case value u => exact ⟨h.1, hN _ h.2⟩
    case skip => exact ⟨h.1, hN _ h.2⟩
    case enter f args => exact h.mono fun e w'' ⟨he, hw⟩ => ⟨he, hN _ hw⟩
  | halt x w' => simp only [resTo] at h
theorem stepOk.fam {N : (Nat → Bool) → World → Prop} {k : Nat} {o : Oper} {a : Act} {v : Value} (h : stepOk P ops N k o a v) {S : Nat → Bool} {w : World} (hk : S k = false) (hc : closedS ops S)
    (ha : ∀ e ∈ o.after, Region.binds .any e = true → S e.on = true) (hI : N S w) : famStep P ops N k o a v S w := by
  rcases h with ⟨h1, h2⟩ | ⟨h1, h2, h3⟩
  · exact .inl ⟨h1, h2 S w hk hc ha hI⟩
  · exact .inr ⟨h1, h2, h3 S w hk hI⟩
/-- the lexical walk of the operations ahead of the allocation -/
def wpPre (P : Program) (ops : Array Oper) (I0 : (Nat → Bool) → World → Prop) (J : Nat → (Nat → Bool) → World → Prop) (al : Nat) (Q : Act → Prop) : Nat → List Oper → Act → Prop
  | _, [], a => Q a
  | k, o :: rest, a => ∃ v, (stepOk P ops (fun S w => S al = false ∧ I0 S w) k o a v ∧ ∀ b, stepOk P ops (fun S w => S al = true ∧ J b S w) k o a v) ∧ wpPre P ops I0 J al Q (k + 1) rest (a.put o.dst v)
theorem wpPre_values {I0 : (Nat → Bool) → World → Prop} {J : Nat → (Nat → Bool) → World → Prop} {al : Nat} {Q : Act → Prop} : ∀ (l : List Oper) (k : Nat) (a : Act), (∀ j o, l[j]? = some o → ops[k + j]? = some o) → wpPre P ops I0 J al Q k l a →
    ∃ vs : Nat → Value, (∀ j o, l[j]? = some o → (stepOk P ops (fun S w => S al = false ∧ I0 S w) (k + j) o (putAll ops vs (fun _ => true) (List.range' k j) a) (vs (k + j)) ∧
      ∀ b, stepOk P ops (fun S w => S al = true ∧ J b S w) (k + j) o (putAll ops vs (fun _ => true) (List.range' k j) a) (vs (k + j)))) ∧ Q (putAll ops vs (fun _ => true) (List.range' k l.length) a)
  | [], k, a, _, h => ⟨fun _ => undef, fun j o hj => by simp at hj, h⟩
  | o :: l, k, a, hl, h => by
    obtain ⟨v, hv, hr⟩ := h
    have h0 : ops[k]? = some o := by simpa using hl 0 o rfl
    have hd : dstAt ops k = o.dst := by simp [dstAt, h0]
    obtain ⟨vs, h1, h2⟩ := wpPre_values l (k + 1) _ (fun j p hj => by have := hl (j + 1) p (by simpa using hj); simpa [Nat.add_assoc, Nat.add_comm 1 j] using this) hr
    have key : ∀ (m : Nat) (b : Act), putAll ops (fun j => if j = k then v else vs j) (fun _ => true) (List.range' (k + 1) m) b = putAll ops vs (fun _ => true) (List.range' (k + 1) m) b := fun m b =>
      putAll_congr _ _ fun j hj => ⟨rfl, by have := (List.mem_range'_1.1 hj).1; exact if_neg (by omega)⟩
    refine ⟨fun j => if j = k then v else vs j, fun j p hj => ?_, ?_⟩
    · cases j with
      | zero =>
        simp at hj
        subst hj
        simpa [putAll] using hv
      | succ j =>
        have := h1 j p (by simpa using hj)
        rw [List.range'_succ, putAll, if_pos rfl, hd, if_pos rfl, key]
        show stepOk P ops _ (k + (j + 1)) p _ (if k + (j + 1) = k then v else vs (k + (j + 1))) ∧ ∀ b, stepOk P ops _ (k + (j + 1)) p _ (if k + (j + 1) = k then v else vs (k + (j + 1)))
        rw [if_neg (by omega), show k + (j + 1) = k + 1 + j by omega]
        exact this
    · rw [List.length_cons, List.range'_succ, putAll, if_pos rfl, hd, if_pos rfl, key]
      exact h2
theorem reaches_step {k al n : Nat} {o : Oper} (ho : ops[k]? = some o) (hne : k ≠ al) (h : reaches ops (n + 1) k al = true) : ∃ e ∈ o.after, Region.binds .any e = true ∧ reaches ops n e.on al = true := by
  unfold reaches at h
  rw [Bool.or_eq_true] at h
  rcases h with h | h
  · exact absurd (by simpa using h) hne
  · rw [ho] at h
    obtain ⟨e, he, hb⟩ := List.any_eq_true.1 h
    rw [Bool.and_eq_true] at hb
    exact ⟨e, by simpa using he, hb.1, hb.2⟩
/-- A region that draws its order and holds an allocation (operation number al) that waits for nothing; every operation behind it in the text waits for it. -/
theorem wp_region_alloc {id : Nat} {l1 l2 : List Oper} {oa : Oper} {Q : Exit → Act → World → Prop} {a : Act} {w : World} (I0 : (Nat → Bool) → World → Prop) (J : Nat → (Nat → Bool) → World → Prop)
    (hm : P.follows .mixedOrders = true) (hB : setsB (l1 ++ oa :: l2).toArray = true)
    (hR : ((List.range (l1 ++ oa :: l2).toArray.size).all fun k => decide (k ≤ l1.length) || reaches (l1 ++ oa :: l2).toArray 9 k l1.length) = true)
    (h0 : I0 (fun _ => false) w.drew)
    (h : wpPre P (l1 ++ oa :: l2).toArray I0 J l1.length (fun a1 => Region.wanted oa (yielded (l1 ++ oa :: l2).toArray a1.tmps) = true ∧
      (∀ S w, S l1.length = false → closedS (l1 ++ oa :: l2).toArray S → I0 S w → opTo P oa a1 w (.pointer (some ⟨w.heap.size, 0, none⟩)) (J w.heap.size (ins S l1.length))) ∧
      ∀ b, wpSets P (l1 ++ oa :: l2).toArray (fun S w => S l1.length = true ∧ J b S w) (fun a2 => ∀ S w', (∀ i < (l1 ++ oa :: l2).length, S i = true) → J b S w' → Q .normal a2 w') (l1.length + 1) l2 (a1.put oa.dst (.pointer (some ⟨b, 0, none⟩)))) 0 l1 a) :
    (Code.region id (l1 ++ oa :: l2).toArray true).wp P Q a w := by
  obtain ⟨al, hal⟩ : ∃ n, l1.length = n := ⟨_, rfl⟩
  obtain ⟨l, hl⟩ : ∃ l, l1 ++ oa :: l2 = l := ⟨_, rfl⟩
  have hl1 : ∀ j o, l1[j]? = some o → l[j]? = some o := fun j o hj => by
    rw [← hl, List.getElem?_append_left (List.getElem?_eq_some_iff.1 hj).1]; exact hj
  have hla : l[al]? = some oa := by rw [← hl, ← hal]; simp
  have hl2 : ∀ j, l2[j]? = l[al + 1 + j]? := fun j => by
    rw [← hl, List.getElem?_append_right (by omega), show al + 1 + j - l1.length = j + 1 by omega]; simp
  have hlen : l.length = al + 1 + l2.length := by rw [← hl, ← hal]; simp; omega
  rw [hl] at hB hR h ⊢
  rw [hal] at hR h
  obtain ⟨vs1, p1, pw, pa, p2⟩ := wpPre_values l1 0 a (fun j o hj => by simpa using hl1 j o hj) h
  rw [hal] at pw pa p2
  have hv2 := fun b => wpSets_values l2 (al + 1) _ (fun j => by simpa using hl2 j) (p2 b)
  let vs2 : Nat → Nat → Value := fun b => Classical.choose (hv2 b)
  have q2 : ∀ b, _ := fun b => Classical.choose_spec (hv2 b)
  let vs : Option Nat → Nat → Value := fun x k => if k < al then vs1 k else match x with
    | none => undef
    | some b => if k = al then .pointer (some ⟨b, 0, none⟩) else vs2 b k
  let I : Option Nat → (Nat → Bool) → World → Prop := fun x => match x with
    | none => fun S w => S al = false ∧ I0 S w
    | some b => fun S w => S al = true ∧ J b S w
  have hreach : ∀ k, k < l.length → al < k → reaches l.toArray 9 k al = true := fun k hk hlt => by
    have := List.all_eq_true.1 hR k (List.mem_range.2 (by simpa using hk))
    rw [Bool.or_eq_true] at this
    rcases this with h | h
    · exact absurd (of_decide_eq_true h) (by omega)
    · exact h
  have hpre : ∀ x k, k ≤ al → putAll l.toArray (vs x) (fun _ => true) (List.range k) a = putAll l.toArray vs1 (fun _ => true) (List.range' 0 k) a := fun x k hk => by
    rw [List.range_eq_range']
    exact putAll_congr _ _ fun j hj => ⟨rfl, if_pos (by have := (List.mem_range'_1.1 hj).2; omega)⟩
  have hda : dstAt l.toArray al = oa.dst := by simp [dstAt, hla]
  have hpost : ∀ b j, putAll l.toArray (vs (some b)) (fun _ => true) (List.range (al + 1 + j)) a =
      putAll l.toArray (vs2 b) (fun _ => true) (List.range' (al + 1) j) ((putAll l.toArray vs1 (fun _ => true) (List.range' 0 al) a).put oa.dst (.pointer (some ⟨b, 0, none⟩))) := fun b j => by
    have hs : List.range (al + 1 + j) = List.range al ++ al :: List.range' (al + 1) j := by
      have h1 := List.range'_append_1 (s := 0) (m := al) (n := j + 1)
      rw [Nat.zero_add, List.range'_succ] at h1
      rw [List.range_eq_range', List.range_eq_range', h1]; congr 1; omega
    have ea : vs (some b) al = .pointer (some ⟨b, 0, none⟩) := by
      show (if al < al then _ else if al = al then _ else _) = _
      rw [if_neg (Nat.lt_irrefl _), if_pos rfl]
    rw [hs, putAll_append, hpre (some b) al (Nat.le_refl _), putAll, if_pos rfl, hda, ea]
    refine putAll_congr _ _ fun i hi => ⟨rfl, ?_⟩
    have := (List.mem_range'_1.1 hi).1
    show (if i < al then _ else if i = al then _ else _) = _
    rw [if_neg (by omega), if_neg (by omega)]
  have hS0 : ∀ n, Sof (Array.replicate n false) = fun _ => false := fun n => by
    funext j
    unfold Sof
    rcases Nat.lt_or_ge j n with h | h <;> simp [h]
  have hS := hS0 l.toArray.size
  have key := wpAny_of_fam (P := P) (β := Option Nat) (I := I) (Q := Q) (a := a) (vs := vs) hB
    (fun k o ho x S w hSk hcl hafter hI => by
      have hk : k < l.length := by simpa using (Array.getElem?_eq_some_iff.1 ho).1
      have ho' : l[k]? = some o := by simpa using ho
      have hno : al < k → S al = true := fun hlt => by
        obtain ⟨e, he, hb, hr⟩ := reaches_step (n := 8) ho (by omega) (hreach k hk hlt)
        exact hcl.chain 8 e.on al hr (hafter e he hb)
      rcases Nat.lt_trichotomy k al with hlt | heq | hgt
      · have hj : l1[k]? = some o := by
          rw [← hl, List.getElem?_append_left (by omega)] at ho'; exact ho'
        obtain ⟨s0, sb⟩ := p1 k o hj
        rw [Nat.zero_add] at s0 sb
        refine ⟨x, fun _ _ _ => rfl, ?_⟩
        rw [hpre x k (by omega), show vs x k = vs1 k from if_pos hlt]
        cases x with
        | none => exact s0.fam hSk hcl hafter hI
        | some b => exact (sb b).fam hSk hcl hafter hI
      · subst heq
        obtain rfl := Option.some.inj (hla.symm.trans ho')
        cases x with
        | some b =>
          have : S k = true := hI.1
          rw [hSk] at this; cases this
        | none =>
          refine ⟨some w.heap.size, fun j hjn hj => ?_, ?_⟩
          · by_cases hjl : j < k
            · show (if j < k then _ else _) = (if j < k then _ else _)
              rw [if_pos hjl, if_pos hjl]
            · exfalso
              by_cases hjk : j = k
              · rw [hjk, hSk] at hj; cases hj
              · have := hcl.chain 9 j k (hreach j (by simpa using hjn) (by omega)) hj
                rw [hSk] at this; cases this
          · rw [hpre (some w.heap.size) k (Nat.le_refl _)]
            have ea : vs (some w.heap.size) k = .pointer (some ⟨w.heap.size, 0, none⟩) := by
              show (if k < k then _ else if k = k then _ else _) = _
              rw [if_neg (Nat.lt_irrefl _), if_pos rfl]
            rw [ea]
            exact .inl ⟨pw, (pa S w hSk hcl hI.2).imp fun w' hw' => ⟨by simp [ins], hw'⟩⟩
      · cases x with
        | none =>
          have : S al = false := hI.1
          rw [hno hgt] at this; cases this
        | some b =>
          obtain ⟨j, rfl⟩ : ∃ j, k = al + 1 + j := ⟨k - (al + 1), by omega⟩
          have s2 := (q2 b).1 j o ((hl2 j).trans ho')
          refine ⟨some b, fun _ _ _ => rfl, ?_⟩
          rw [hpost b j, show vs (some b) (al + 1 + j) = vs2 b (al + 1 + j) by
            show (if al + 1 + j < al then _ else if al + 1 + j = al then _ else _) = _
            rw [if_neg (by omega), if_neg (by omega)]]
          exact s2.fam hSk hcl hafter hI)
    (fun x S w' hS' hI => by
      have hsz : l.toArray.size = al + 1 + l2.length := by simpa using hlen
      cases x with
      | none =>
        have h1 : S al = false := hI.1
        have h2 := hS' al (by omega)
        rw [h1] at h2; cases h2
      | some b =>
        rw [hsz, hpost b l2.length]
        exact (q2 b).2 S w' (by simpa using hS') hI.2)
    l.toArray.size none (Array.replicate l.toArray.size false) w.drew (by simp) (by
      have : ∀ n, cnt (Array.replicate l.toArray.size false) n ≤ n := fun n => by
        induction n with
        | zero => simp [cnt]
        | succ n ih => unfold cnt; split <;> omega
      exact this _) (fun j o _ hSj => by rw [hS] at hSj; cases hSj) (by rw [hS]; exact ⟨rfl, h0⟩)
  rw [hS, putAll_none _ _ (fun _ _ => rfl)] at key
  exact wp_region_any hm key
end fam
end Go.Proofs.Ytaddmgclnbkdgaa
