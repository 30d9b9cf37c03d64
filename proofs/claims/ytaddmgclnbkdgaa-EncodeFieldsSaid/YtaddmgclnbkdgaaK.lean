/- Regions that draw their order, whatever is in them: one lexical walk, each operation shown at every set of those that may have come before it. No program is named here. -/
import Derived.Orders
import Derived.Still
import Derived.Tactics
import Derived.Deep.Draws
namespace Go.Proofs.Ytaddmgclnbkdgaa
open Go
set_option linter.unusedVariables false
section sets
variable {P : Program} {ops : Array Oper}

/-- what an operation's outcome is to be: the value v, and a world with N -/
def resTo (P : Program) (v : Value) (N : World → Prop) : Result Next → Prop
  | .ok (.value u) w' => u = v ∧ N w'
  | .ok .skip w' => v = undef ∧ N w'
  | .ok (.enter f args) w' => Calls P f args w' (fun e w'' => e = .returned v ∧ N w'')
  | _ => False
def opTo (P : Program) (o : Oper) (a : Act) (w : World) (v : Value) (N : World → Prop) : Prop := resTo P v N ((execOp a.eval o).run P w)
theorem wp_of_opTo {o : Oper} {a : Act} {w : World} {v : Value} {N : World → Prop} {K : Act → World → Prop} {Q : Exit → Act → World → Prop}
    (h : opTo P o a w v N) (hK : ∀ w', N w' → K (a.put o.dst v) w') : o.wp P a w K Q := by
  unfold opTo at h
  unfold Oper.wp
  generalize (execOp a.eval o).run P w = r at *
  cases r with
  | ok n w' =>
    cases n <;> simp only [resTo] at h <;> simp only [Oper.upon]
    case value u => obtain ⟨e, h⟩ := h; rw [e]; exact hK _ h
    case skip => obtain ⟨e, h⟩ := h; rw [← e]; exact hK _ h
    case enter f args => exact h.mono fun e w'' ⟨he, hw⟩ => by subst he; exact hK _ hw
  | halt x w' => simp only [resTo] at h

def ins (S : Nat → Bool) (k : Nat) : Nat → Bool := fun j => j == k || S j
/-- what is done has what it waits for behind it -/
def closedS (ops : Array Oper) (S : Nat → Bool) : Prop := ∀ j o, ops[j]? = some o → S j = true → ∀ e ∈ o.after, Region.binds .any e = true → S e.on = true
def reaches (ops : Array Oper) : Nat → Nat → Nat → Bool
  | 0, j, k => j == k
  | n + 1, j, k => j == k || (match ops[j]? with
    | some o => o.after.toList.any fun e => Region.binds .any e && reaches ops n e.on k
    | none => false)
theorem closedS.chain {ops : Array Oper} {S : Nat → Bool} (h : closedS ops S) : ∀ (n j k : Nat), reaches ops n j k = true → S j = true → S k = true
  | 0, j, k, hr, hj => by
    have : j = k := by simpa [reaches] using hr
    rwa [← this]
  | n + 1, j, k, hr, hj => by
    unfold reaches at hr
    rw [Bool.or_eq_true] at hr
    rcases hr with hr | hr
    · have : j = k := by simpa using hr
      rwa [← this]
    · cases ho : ops[j]? with
      | none => rw [ho] at hr; cases hr
      | some o =>
        rw [ho] at hr
        obtain ⟨e, he, hb⟩ := List.any_eq_true.1 hr
        rw [Bool.and_eq_true] at hb
        exact h.chain n e.on k hb.2 (h j o ho hj e (by simpa using he) hb.1)
def stepOk (P : Program) (ops : Array Oper) (I : (Nat → Bool) → World → Prop) (k : Nat) (o : Oper) (a : Act) (v : Value) : Prop :=
  (Region.wanted o (yielded ops a.tmps) = true ∧ ∀ S w, S k = false → closedS ops S → (∀ e ∈ o.after, Region.binds .any e = true → S e.on = true) → I S w → opTo P o a w v (I (ins S k))) ∨
  (Region.wanted o (yielded ops a.tmps) = false ∧ v = undef ∧ ∀ S w, S k = false → I S w → I (ins S k) w)
/-- the lexical walk -/
def wpSets (P : Program) (ops : Array Oper) (I : (Nat → Bool) → World → Prop) (Q : Act → Prop) : Nat → List Oper → Act → Prop
  | _, [], a => Q a
  | k, o :: rest, a => ∃ v, stepOk P ops I k o a v ∧ wpSets P ops I Q (k + 1) rest (a.put o.dst v)

def dstAt (ops : Array Oper) (k : Nat) : Option Tmp := (ops[k]?).bind (·.dst)
def putAll (ops : Array Oper) (vs : Nat → Value) (S : Nat → Bool) : List Nat → Act → Act
  | [], a => a
  | k :: l, a => putAll ops vs S l (if S k = true then a.put (dstAt ops k) (vs k) else a)
theorem putAll_append (vs : Nat → Value) (S : Nat → Bool) : ∀ (l m : List Nat) (a : Act), putAll ops vs S (l ++ m) a = putAll ops vs S m (putAll ops vs S l a)
  | [], _, _ => rfl
  | _ :: l, m, _ => putAll_append vs S l m _
theorem putAll_congr {vs vs' : Nat → Value} {S S' : Nat → Bool} : ∀ (l : List Nat) (a : Act), (∀ j ∈ l, S j = S' j ∧ vs j = vs' j) → putAll ops vs S l a = putAll ops vs' S' l a
  | [], _, _ => rfl
  | k :: l, a, h => by
    unfold putAll
    rw [(h k (by simp)).1, (h k (by simp)).2]
    exact putAll_congr l _ fun j hj => h j (by simp [hj])
theorem putAll_none {vs : Nat → Value} {S : Nat → Bool} : ∀ (l : List Nat) (a : Act), (∀ j ∈ l, S j = false) → putAll ops vs S l a = a
  | [], _, _ => rfl
  | k :: l, a, h => by
    unfold putAll
    rw [h k (by simp), if_neg (by simp)]
    exact putAll_none l _ fun j hj => h j (by simp [hj])
theorem putAll_put {vs : Nat → Value} {S : Nat → Bool} {d : Option Tmp} {v : Value} : ∀ (l : List Nat) (a : Act), (∀ j ∈ l, S j = true → ∀ x, d = some x → dstAt ops j ≠ some x) → putAll ops vs S l (a.put d v) = (putAll ops vs S l a).put d v
  | [], _, _ => rfl
  | k :: l, a, h => by
    unfold putAll
    by_cases hk : S k = true
    · rw [if_pos hk, if_pos hk, Act.put_comm a v (vs k) (h k (by simp) hk)]
      exact putAll_put l _ fun j hj => h j (by simp [hj])
    · rw [if_neg hk, if_neg hk]
      exact putAll_put l _ fun j hj => h j (by simp [hj])
theorem put_look (a : Act) (d : Option Tmp) (v : Value) (t : Tmp) : (a.put d v).tmps[t]? = if d = some t then a.tmps[t]?.map (fun _ => v) else a.tmps[t]? := by
  cases d with
  | none => simp [Act.put]
  | some e =>
    simp only [Act.put, Array.getElem?_setIfInBounds, Option.some.injEq]
    by_cases h : e = t
    · subst h
      simp only [if_true]
      by_cases hb : e < a.tmps.size
      · simp [hb]
      · simp [hb]
    · simp [h]
theorem putAll_look {vs : Nat → Value} {S S' : Nat → Bool} {t : Tmp} : ∀ (l : List Nat) (a a' : Act), a.tmps[t]? = a'.tmps[t]? → (∀ j ∈ l, dstAt ops j = some t → S j = S' j) → (putAll ops vs S l a).tmps[t]? = (putAll ops vs S' l a').tmps[t]?
  | [], _, _, h, _ => h
  | k :: l, a, a', h, hl => by
    unfold putAll
    refine putAll_look l _ _ ?_ fun j hj => hl j (by simp [hj])
    by_cases hd : dstAt ops k = some t
    · have e := hl k (by simp) hd
      cases hS : S k
      · rw [hS] at e; rw [← e]; simpa using h
      · rw [hS] at e; rw [← e]; simp only [if_true, put_look, hd, h]
    · have k1 : (if S k = true then a.put (dstAt ops k) (vs k) else a).tmps[t]? = a.tmps[t]? := by
        split
        · rw [put_look, if_neg hd]
        · rfl
      have k2 : (if S' k = true then a'.put (dstAt ops k) (vs k) else a').tmps[t]? = a'.tmps[t]? := by
        split
        · rw [put_look, if_neg hd]
        · rfl
      rw [k1, k2, h]

def waits (ops : Array Oper) (j k : Nat) : Bool := match ops[j]? with
  | some o => o.after.any fun e => Region.binds .any e && e.on == k
  | none => false
def apartAt (ops : Array Oper) (k j : Nat) : Bool := match ops[k]?, ops[j]? with
  | some x, some y => x.apart ops y
  | _, _ => true
def setsB (ops : Array Oper) : Bool := Region.noSelect ops && (List.range ops.size).all fun k =>
  (match ops[k]? with | some o => o.after.all fun e => !Region.binds .any e || decide (e.on < k) | none => true) &&
  (List.range ops.size).all fun j => decide (j ≤ k) || waits ops j k || apartAt ops k j
theorem setsB_spec (h : setsB ops = true) : Region.noSelect ops = true ∧
    (∀ k o, ops[k]? = some o → ∀ e ∈ o.after, Region.binds .any e = true → e.on < k) ∧
    (∀ k j x y, ops[k]? = some x → ops[j]? = some y → k < j → (∃ e ∈ y.after, Region.binds .any e = true ∧ e.on = k) ∨ x.apart ops y = true) := by
  unfold setsB at h
  rw [Bool.and_eq_true, List.all_eq_true] at h
  obtain ⟨h1, h2⟩ := h
  refine ⟨h1, fun k o ho e he hb => ?_, fun k j x y hx hy hkj => ?_⟩
  · have hk := (Array.getElem?_eq_some_iff.1 ho).1
    have := h2 k (List.mem_range.2 hk)
    rw [Bool.and_eq_true, ho] at this
    have := Array.all_eq_true_iff_forall_mem.1 this.1 e he
    simpa [hb] using this
  · have hk := (Array.getElem?_eq_some_iff.1 hx).1
    have hj := (Array.getElem?_eq_some_iff.1 hy).1
    have := h2 k (List.mem_range.2 hk)
    rw [Bool.and_eq_true, List.all_eq_true] at this
    have := this.2 j (List.mem_range.2 hj)
    simp only [Bool.or_eq_true, decide_eq_true_eq, waits, hy, apartAt, hx] at this
    rcases this with (h | h) | h
    · omega
    · obtain ⟨e, he, hb⟩ := Array.any_eq_true'.1 h
      simp only [Bool.and_eq_true, beq_iff_eq] at hb
      exact .inl ⟨e, he, hb.1, hb.2⟩
    · exact .inr h

/-- what the lexical walk shows, each value by its operation's number -/
theorem wpSets_values {I : (Nat → Bool) → World → Prop} {Q : Act → Prop} : ∀ (l : List Oper) (k : Nat) (a : Act), (∀ j, l[j]? = ops[k + j]?) → wpSets P ops I Q k l a →
    ∃ vs : Nat → Value, (∀ j o, l[j]? = some o → stepOk P ops I (k + j) o (putAll ops vs (fun _ => true) (List.range' k j) a) (vs (k + j))) ∧ Q (putAll ops vs (fun _ => true) (List.range' k l.length) a)
  | [], k, a, _, h => ⟨fun _ => undef, fun j o hj => by simp at hj, h⟩
  | o :: l, k, a, hl, h => by
    obtain ⟨v, hv, hr⟩ := h
    have h0 : ops[k]? = some o := by simpa using (hl 0).symm
    have hd : dstAt ops k = o.dst := by simp [dstAt, h0]
    obtain ⟨vs, h1, h2⟩ := wpSets_values l (k + 1) _ (fun j => by have := hl (j + 1); simpa [Nat.add_assoc, Nat.add_comm 1 j] using this) hr
    have key : ∀ (m : Nat) (b : Act), putAll ops (fun j => if j = k then v else vs j) (fun _ => true) (List.range' (k + 1) m) b = putAll ops vs (fun _ => true) (List.range' (k + 1) m) b := fun m b =>
      putAll_congr _ _ fun j hj => ⟨rfl, by have := (List.mem_range'_1.1 hj).1; exact if_neg (by omega)⟩
    refine ⟨fun j => if j = k then v else vs j, fun j p hj => ?_, ?_⟩
    · cases j with
      | zero =>
        simp at hj
        subst hj
        simpa [putAll] using hv
      | succ j =>
        have := h1 j p (by simpa using hj)
        rw [List.range'_succ, putAll, if_pos rfl, hd, if_pos rfl, key]
        show stepOk P ops I (k + (j + 1)) p _ (if k + (j + 1) = k then v else vs (k + (j + 1)))
        rw [if_neg (by omega), show k + (j + 1) = k + 1 + j by omega]
        exact this
    · rw [List.length_cons, List.range'_succ, putAll, if_pos rfl, hd, if_pos rfl, key]
      exact h2

def Sof (listed : Array Bool) : Nat → Bool := fun j => listed.getD j false
def cnt (listed : Array Bool) : Nat → Nat
  | 0 => 0
  | n + 1 => cnt listed n + (if Sof listed n = true then 0 else 1)
theorem Sof_set {listed : Array Bool} {i : Nat} (hi : i < listed.size) : Sof (listed.setIfInBounds i true) = ins (Sof listed) i := by
  funext j
  unfold Sof ins
  by_cases h : i = j
  · subst h; simp [hi]
  · rw [getD_set_ne false h]
    have : (j == i) = false := by simp; exact fun e => h e.symm
    simp [this]
theorem cnt_set {listed : Array Bool} {i : Nat} (hi : i < listed.size) (hf : Sof listed i = false) : ∀ n, cnt (listed.setIfInBounds i true) n + (if i < n then 1 else 0) = cnt listed n
  | 0 => by simp [cnt]
  | n + 1 => by
    have ih := cnt_set hi hf n
    unfold cnt
    rw [Sof_set hi]
    by_cases h : n = i
    · subst h
      rw [if_neg (Nat.lt_irrefl _)] at ih
      simp [ins, hf]
      omega
    · have e : ins (Sof listed) i n = Sof listed n := by simp [ins, h]
      rw [e]
      by_cases hlt : i < n
      · rw [if_pos hlt] at ih
        have h2 : (if i < n + 1 then 1 else 0) = 1 := if_pos (by omega)
        rw [h2]; omega
      · rw [if_neg hlt] at ih
        have h2 : (if i < n + 1 then 1 else 0) = 0 := if_neg (by omega)
        rw [h2]; omega
theorem cnt_zero {listed : Array Bool} : ∀ n, cnt listed n = 0 → ∀ i < n, Sof listed i = true
  | n + 1, h, i, hi => by
    unfold cnt at h
    by_cases e : i = n
    · subst e
      by_cases hs : Sof listed i = true
      · exact hs
      · rw [if_neg hs] at h; omega
    · exact cnt_zero n (by omega) i (by omega)
theorem cnt_pos {listed : Array Bool} : ∀ n, cnt listed n ≠ 0 → ∃ i < n, Sof listed i = false ∧ ∀ j < i, Sof listed j = true
  | 0, h => absurd rfl h
  | n + 1, h => by
    by_cases h0 : cnt listed n = 0
    · refine ⟨n, by omega, ?_, cnt_zero n h0⟩
      unfold cnt at h
      cases hs : Sof listed n
      · rfl
      · rw [hs, h0] at h; simp at h
    · obtain ⟨i, hi, h1, h2⟩ := cnt_pos n h0
      exact ⟨i, by omega, h1, h2⟩

theorem yielded_look {ops : Array Oper} {t t' : Array Value} {g : Nat} (h : ∀ d, (ops[g]?).bind (·.dst) = some d → t[d]? = t'[d]?) : yielded ops t g = yielded ops t' g := by
  unfold yielded
  cases hd : (ops[g]?).bind (·.dst) with
  | none => rfl
  | some d => simp only [Option.bind_some, h d hd]
theorem same_op {o : Oper} (hs : ∀ cs b, o.op ≠ .select cs b) {a a' : Act} (h : ∀ t ∈ o.looksAt ops, a.tmps[t]? = a'.tmps[t]?) : execOp a.eval o = execOp a'.eval o :=
  execOp_congr o hs fun x hx => by
    cases x with
    | tmp t =>
      have := h t (List.mem_append_left _ (List.mem_filterMap.2 ⟨.tmp t, by simpa using hx, rfl⟩))
      simp [Act.eval, Array.getD_eq_getD_getElem?, this]
    | _ => rfl
theorem same_wanted {o : Oper} {a a' : Act} (h : ∀ t ∈ o.looksAt ops, a.tmps[t]? = a'.tmps[t]?) : Region.wanted o (yielded ops a.tmps) = Region.wanted o (yielded ops a'.tmps) := by
  unfold Region.wanted
  cases hg : o.guard with
  | none => rfl
  | some gw =>
    obtain ⟨g, want⟩ := gw
    have : yielded ops a.tmps g = yielded ops a'.tmps g := yielded_look fun d hd => h d (List.mem_append_right _ (by simp [hg, hd]))
    simp only [this]

theorem wpAny_of_sets {I : (Nat → Bool) → World → Prop} {Q : Exit → Act → World → Prop} {a : Act} {vs : Nat → Value} (hB : setsB ops = true)
    (hv : ∀ k o, ops[k]? = some o → stepOk P ops I k o (putAll ops vs (fun _ => true) (List.range k) a) (vs k))
    (hQ : ∀ S w, (∀ i < ops.size, S i = true) → I S w → Q .normal (putAll ops vs (fun _ => true) (List.range ops.size) a) w) :
    ∀ (m : Nat) (listed : Array Bool) (w : World), listed.size = ops.size → cnt listed ops.size ≤ m →
      (∀ j o, ops[j]? = some o → Sof listed j = true → ∀ e ∈ o.after, Region.binds .any e = true → Sof listed e.on = true) → I (Sof listed) w →
      wpAny P .any ops Q m listed (putAll ops vs (Sof listed) (List.range ops.size) a) w := by
  obtain ⟨hsel, hlt, hpair⟩ := setsB_spec hB
  have hdone : ∀ (listed : Array Bool) w, cnt listed ops.size = 0 → I (Sof listed) w → Q .normal (putAll ops vs (Sof listed) (List.range ops.size) a) w := fun listed w h0 hI => by
    have hall := cnt_zero _ h0
    rw [putAll_congr (S' := fun _ => true) (vs' := vs) _ _ fun j hj => ⟨hall j (List.mem_range.1 hj), rfl⟩]
    exact hQ _ _ hall hI
  have hready : ∀ listed : Array Bool, listed.size = ops.size → Region.ready .any ops listed = [] → cnt listed ops.size = 0 := fun listed hsz hr => by
    by_cases h0 : cnt listed ops.size = 0
    · exact h0
    · obtain ⟨i, hi, h1, h2⟩ := cnt_pos _ h0
      have hio : ops[i]? = some ops[i] := Array.getElem?_eq_getElem hi
      have : i ∈ Region.ready .any ops listed := mem_ready.2 ⟨by
        have : listed.getD i false = false := h1
        simp [show i < listed.size by omega] at this ⊢; exact this, _, hio, fun e he hb => h2 _ (hlt i _ hio e he hb)⟩
      rw [hr] at this
      cases this
  intro m
  induction m with
  | zero =>
    intro listed w hsz hc hcl hI
    refine ⟨?_, hdone listed w (by omega) hI⟩
    have hall := cnt_zero (listed := listed) ops.size (by omega)
    cases hr : Region.ready .any ops listed with
    | nil => rfl
    | cons j _ =>
      obtain ⟨h1, o, ho, _⟩ := mem_ready.1 (show j ∈ Region.ready .any ops listed by rw [hr]; simp)
      have hj := (Array.getElem?_eq_some_iff.1 ho).1
      have h2 : listed.getD j false = true := hall j hj
      simp [show j < listed.size by omega] at h1 h2
      rw [h1] at h2
      cases h2
  | succ m ih =>
    intro listed w hsz hc hcl hI
    refine ⟨fun hr => hdone listed w (hready listed hsz hr) hI, fun i hi => ?_⟩
    obtain ⟨h1, o, ho, hall⟩ := mem_ready.1 hi
    have hin := (Array.getElem?_eq_some_iff.1 ho).1
    have hil : i < listed.size := by omega
    have hSi : Sof listed i = false := by
      simp [hil] at h1
      simp [Sof, hil, h1]
    -- who writes what this operation looks at
    have hw : ∀ t ∈ o.looksAt ops, (putAll ops vs (Sof listed) (List.range ops.size) a).tmps[t]? = (putAll ops vs (fun _ => true) (List.range i) a).tmps[t]? := fun t ht => by
      have e : putAll ops vs (fun _ => true) (List.range i) a = putAll ops vs (fun j => decide (j < i)) (List.range ops.size) a := by
        have hsplit : List.range ops.size = List.range i ++ List.range' i (ops.size - i) := by
          have := List.range'_append_1 (s := 0) (m := i) (n := ops.size - i)
          rw [Nat.zero_add, Nat.add_sub_cancel' (by omega)] at this
          rw [List.range_eq_range', List.range_eq_range', this]
        rw [hsplit, putAll_append, putAll_none (List.range' i _) _ fun j hj => decide_eq_false (by have := (List.mem_range'_1.1 hj).1; omega)]
        exact putAll_congr _ _ fun j hj => ⟨(decide_eq_true (List.mem_range.1 hj)).symm, rfl⟩
      rw [e]
      refine putAll_look _ _ _ rfl fun j hj hd => ?_
      have hjn := List.mem_range.1 hj
      have hjo : ops[j]? = some ops[j] := Array.getElem?_eq_getElem hjn
      have hdj : ops[j].dst = some t := by simpa [dstAt, hjo] using hd
      rcases Nat.lt_trichotomy j i with h | h | h
      · rw [decide_eq_true h]
        rcases hpair j i _ _ hjo ho h with ⟨e, he, hb, hon⟩ | hap
        · rw [← hon]; exact hall e he hb
        · exact absurd ht ((Oper.apart_spec hap).1 t hdj)
      · subst h
        rw [hSi]; simp
      · rw [decide_eq_false (by omega)]
        cases hSj : Sof listed j
        · rfl
        · rcases hpair i j _ _ ho hjo h with ⟨e, he, hb, hon⟩ | hap
          · have := hcl j _ hjo hSj e he hb
            rw [hon, hSi] at this
            cases this
          · exact absurd ht ((Oper.apart_spec hap).2.2 t hdj)
    -- the frame behind it
    have hput : (putAll ops vs (Sof listed) (List.range ops.size) a).put o.dst (vs i) = putAll ops vs (Sof (listed.setIfInBounds i true)) (List.range ops.size) a := by
      have hsplit : List.range ops.size = List.range i ++ i :: List.range' (i + 1) (ops.size - (i + 1)) := by
        rw [List.range_eq_range', List.range_eq_range']
        have := List.range'_append_1 (s := 0) (m := i) (n := ops.size - i)
        rw [Nat.zero_add, Nat.add_sub_cancel' (by omega)] at this
        rw [← this, show ops.size - i = (ops.size - (i + 1)) + 1 by omega, List.range'_succ]
      have hd : dstAt ops i = o.dst := by simp [dstAt, ho]
      rw [hsplit, putAll_append, putAll_append, Sof_set hil]
      simp only [putAll, hSi, ins, beq_self_eq_true, Bool.true_or, if_true, Bool.false_eq_true, if_false, hd]
      have hA : putAll ops vs (ins (Sof listed) i) (List.range i) a = putAll ops vs (Sof listed) (List.range i) a :=
        putAll_congr _ _ fun j hj => ⟨by have := List.mem_range.1 hj; simp [ins, show j ≠ i by omega], rfl⟩
      have hC : ∀ b, putAll ops vs (ins (Sof listed) i) (List.range' (i + 1) (ops.size - (i + 1))) b = putAll ops vs (Sof listed) (List.range' (i + 1) (ops.size - (i + 1))) b := fun b =>
        putAll_congr _ _ fun j hj => ⟨by have := (List.mem_range'_1.1 hj).1; simp [ins, show j ≠ i by omega], rfl⟩
      rw [hA, hC, putAll_put]
      intro j hj hSj x hx hdj
      have hjb := List.mem_range'_1.1 hj
      have hjn : j < ops.size := by omega
      have hjo : ops[j]? = some ops[j] := Array.getElem?_eq_getElem hjn
      rcases hpair i j _ _ ho hjo (by omega) with ⟨e, he, hb, hon⟩ | hap
      · have := hcl j _ hjo hSj e he hb
        rw [hon, hSi] at this
        cases this
      · exact (Oper.apart_spec hap).2.1 x hx (by simpa [dstAt, hjo] using hdj)
    have hnext : ∀ w', I (ins (Sof listed) i) w' → wpAny P .any ops Q m (listed.setIfInBounds i true) ((putAll ops vs (Sof listed) (List.range ops.size) a).put o.dst (vs i)) w' := fun w' hI' => by
      rw [hput]
      refine ih _ _ (by simpa using hsz) ?_ (fun j p hp hSj e he hb => ?_) (by rw [Sof_set hil]; exact hI')
      · have := cnt_set hil hSi ops.size
        rw [if_pos hin] at this
        omega
      · rw [Sof_set hil] at hSj ⊢
        by_cases hji : j = i
        · subst hji
          obtain rfl := Option.some.inj (hp.symm.trans ho)
          simp [ins, show Sof listed e.on = true from hall e he hb]
        · have hSj' : Sof listed j = true := by simpa [ins, hji] using hSj
          simp [ins, hcl j p hp hSj' e he hb]
    have hns : ∀ cs b, o.op ≠ .select cs b := fun cs b => Region.noSelect_spec hsel i o cs b ho
    have hst := hv i o ho
    unfold wpOp
    simp only [ho]
    rw [same_wanted hw]
    rcases hst with ⟨hwt, hst⟩ | ⟨hwt, hvu, hst⟩
    · rw [if_pos hwt]
      refine .inl (wp_of_opTo (v := vs i) (N := I (ins (Sof listed) i)) ?_ hnext)
      have := hst (Sof listed) w hSi hcl (fun e he hb => hall e he hb) hI
      unfold opTo at this ⊢
      rw [same_op hns hw]
      exact this
    · rw [if_neg (by rw [hwt]; exact Bool.false_ne_true)]
      have := hnext w (hst _ _ hSi hI)
      rwa [hvu] at this

/-- A region that draws its order. -/
theorem wp_region_sets {id : Nat} {Q : Exit → Act → World → Prop} {a : Act} {w : World} (I : (Nat → Bool) → World → Prop) (hm : P.follows .mixedOrders = true) (hB : setsB ops = true)
    (h0 : I (fun _ => false) { w with drawn := w.drawn + 1 })
    (h : wpSets P ops I (fun a' => ∀ S w', (∀ i < ops.size, S i = true) → I S w' → Q .normal a' w') 0 ops.toList a) : (Code.region id ops true).wp P Q a w := by
  obtain ⟨vs, h1, h2⟩ := wpSets_values ops.toList 0 a (by simp) h
  have hS : Sof (Array.replicate ops.size false) = fun _ => false := by
    funext j
    unfold Sof
    rcases Nat.lt_or_ge j ops.size with h | h <;> simp [h]
  have key := wpAny_of_sets (P := P) (I := I) (Q := Q) (a := a) (vs := vs) hB
    (fun k o ho => by have := h1 k o (by simpa using ho); simpa [List.range_eq_range'] using this)
    (fun S w' hS' hI => by have := h2 S w' hS' hI; simpa [List.range_eq_range'] using this)
    ops.size (Array.replicate ops.size false) { w with drawn := w.drawn + 1 } (by simp) (by
      have : ∀ n, cnt (Array.replicate ops.size false) n ≤ n := fun n => by
        induction n with
        | zero => simp [cnt]
        | succ n ih => unfold cnt; split <;> omega
      exact this _) (fun j o _ hSj => by rw [hS] at hSj; cases hSj) (by rw [hS]; exact h0)
  rw [hS, putAll_none _ _ (fun _ _ => rfl)] at key
  exact wp_region_any hm key
theorem wp_region_sets_lit {id : Nat} {l : List Oper} {Q : Exit → Act → World → Prop} {a : Act} {w : World} (I : (Nat → Bool) → World → Prop) (hm : P.follows .mixedOrders = true) (hB : setsB l.toArray = true)
    (h0 : I (fun _ => false) w.drew)
    (h : wpSets P l.toArray I (fun a' => ∀ S w', (∀ i < l.length, S i = true) → I S w' → Q .normal a' w') 0 l a) : (Code.region id l.toArray true).wp P Q a w :=
  wp_region_sets I hm hB h0 (by simpa using h)
end sets
end Go.Proofs.Ytaddmgclnbkdgaa
