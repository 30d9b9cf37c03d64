/- Kka: several texts in one. -/
import Derived.Orders
import Derived.Still
import Derived.Tactics
import Derived.Deep.Draws
/- Regions that draw their order, whatever is in them: one lexical walk, each operation shown at every set of those that may have come before it. No program is named here. -/
namespace Go.Proofs.Yteelconabmfnkaa
open Go
set_option linter.unusedVariables false
section sets
variable {P : Program} {ops : Array Oper}

/-- what an operation's outcome is to be: the value v, and a world with N -/
def resTo (P : Program) (v : Value) (N : World → Prop) : Result Next → Prop
  | .ok (.value u) w' => u = v ∧ N w'
  | .ok .skip w' => v = undef ∧ N w'
  | .ok (.enter f args) w' => Calls P f args w' (fun e w'' => e = .returned v ∧ N w'')
  | _ => False
def opTo (P : Program) (o : Oper) (a : Act) (w : World) (v : Value) (N : World → Prop) : Prop := resTo P v N ((execOp a.eval o).run P w)
theorem wp_of_opTo {o : Oper} {a : Act} {w : World} {v : Value} {N : World → Prop} {K : Act → World → Prop} {Q : Exit → Act → World → Prop}
    (h : opTo P o a w v N) (hK : ∀ w', N w' → K (a.put o.dst v) w') : o.wp P a w K Q := by
  unfold opTo at h
  unfold Oper.wp
  generalize (execOp a.eval o).run P w = r at *
  cases r with
  | ok n w' =>
    cases n <;> simp only [resTo] at h <;> simp only [Oper.upon]
    case value u => obtain ⟨e, h⟩ := h; rw [e]; exact hK _ h
    case skip => obtain ⟨e, h⟩ := h; rw [← e]; exact hK _ h
    case enter f args => exact h.mono fun e w'' ⟨he, hw⟩ => by subst he; exact hK _ hw
  | halt x w' => simp only [resTo] at h

def ins (S : Nat → Bool) (k : Nat) : Nat → Bool := fun j => j == k || S j
/-- what is done has what it waits for behind it -/
def closedS (ops : Array Oper) (S : Nat → Bool) : Prop := ∀ j o, ops[j]? = some o → S j = true → ∀ e ∈ o.after, Region.binds .any e = true → S e.on = true
def reaches (ops : Array Oper) : Nat → Nat → Nat → Bool
  | 0, j, k => j == k
  | n + 1, j, k => j == k || (match ops[j]? with
    | some o => o.after.toList.any fun e => Region.binds .any e && reaches ops n e.on k
    | none => false)
theorem closedS.chain {ops : Array Oper} {S : Nat → Bool} (h : closedS ops S) : ∀ (n j k : Nat), reaches ops n j k = true → S j = true → S k = true
  | 0, j, k, hr, hj => by
    have : j = k := by simpa [reaches] using hr
    rwa [← this]
  | n + 1, j, k, hr, hj => by
    unfold reaches at hr
    rw [Bool.or_eq_true] at hr
    rcases hr with hr | hr
    · have : j = k := by simpa using hr
      rwa [← this]
    · cases ho : ops[j]? with
      | none => rw [ho] at hr; cases hr
      | some o =>
        rw [ho] at hr
        obtain ⟨e, he, hb⟩ := List.any_eq_true.1 hr
        rw [Bool.and_eq_true] at hb
        exact h.chain n e.on k hb.2 (h j o ho hj e (by simpa using he) hb.1)
def stepOk (P : Program) (ops : Array Oper) (I : (Nat → Bool) → World → Prop) (k : Nat) (o : Oper) (a : Act) (v : Value) : Prop :=
  (Region.wanted o (yielded ops a.tmps) = true ∧ ∀ S w, S k = false → closedS ops S → (∀ e ∈ o.after, Region.binds .any e = true → S e.on = true) → I S w → opTo P o a w v (I (ins S k))) ∨
  (Region.wanted o (yielded ops a.tmps) = false ∧ v = undef ∧ ∀ S w, S k = false → I S w → I (ins S k) w)
/-- the lexical walk -/
def wpSets (P : Program) (ops : Array Oper) (I : (Nat → Bool) → World → Prop) (Q : Act → Prop) : Nat → List Oper → Act → Prop
  | _, [], a => Q a
  | k, o :: rest, a => ∃ v, stepOk P ops I k o a v ∧ wpSets P ops I Q (k + 1) rest (a.put o.dst v)

def dstAt (ops : Array Oper) (k : Nat) : Option Tmp := (ops[k]?).bind (·.dst)
def putAll (ops : Array Oper) (vs : Nat → Value) (S : Nat → Bool) : List Nat → Act → Act
  | [], a => a
  | k :: l, a => putAll ops vs S l (if S k = true then a.put (dstAt ops k) (vs k) else a)
theorem putAll_append (vs : Nat → Value) (S : Nat → Bool) : ∀ (l m : List Nat) (a : Act), putAll ops vs S (l ++ m) a = putAll ops vs S m (putAll ops vs S l a)
  | [], _, _ => rfl
  | _ :: l, m, _ => putAll_append vs S l m _
theorem putAll_congr {vs vs' : Nat → Value} {S S' : Nat → Bool} : ∀ (l : List Nat) (a : Act), (∀ j ∈ l, S j = S' j ∧ vs j = vs' j) → putAll ops vs S l a = putAll ops vs' S' l a
  | [], _, _ => rfl
  | k :: l, a, h => by
    unfold putAll
    rw [(h k (by simp)).1, (h k (by simp)).2]
    exact putAll_congr l _ fun j hj => h j (by simp [hj])
theorem putAll_none {vs : Nat → Value} {S : Nat → Bool} : ∀ (l : List Nat) (a : Act), (∀ j ∈ l, S j = false) → putAll ops vs S l a = a
  | [], _, _ => rfl
  | k :: l, a, h => by
    unfold putAll
    rw [h k (by simp), if_neg (by simp)]
    exact putAll_none l _ fun j hj => h j (by simp [hj])
theorem putAll_put {vs : Nat → Value} {S : Nat → Bool} {d : Option Tmp} {v : Value} : ∀ (l : List Nat) (a : Act), (∀ j ∈ l, S j = true → ∀ x, d = some x → dstAt ops j ≠ some x) → putAll ops vs S l (a.put d v) = (putAll ops vs S l a).put d v
  | [], _, _ => rfl
  | k :: l, a, h => by
    unfold putAll
    by_cases hk : S k = true
    · rw [if_pos hk, if_pos hk, Act.put_comm a v (vs k) (h k (by simp) hk)]
      exact putAll_put l _ fun j hj => h j (by simp [hj])
    · rw [if_neg hk, if_neg hk]
      exact putAll_put l _ fun j hj => h j (by simp [hj])
theorem put_look (a : Act) (d : Option Tmp) (v : Value) (t : Tmp) : (a.put d v).tmps[t]? = if d = some t then a.tmps[t]?.map (fun _ => v) else a.tmps[t]? := by
  cases d with
  | none => simp [Act.put]
  | some e =>
    simp only [Act.put, Array.getElem?_setIfInBounds, Option.some.injEq]
    by_cases h : e = t
    · subst h
      simp only [if_true]
      by_cases hb : e < a.tmps.size
      · simp [hb]
      · simp [hb]
    · simp [h]
theorem putAll_look {vs : Nat → Value} {S S' : Nat → Bool} {t : Tmp} : ∀ (l : List Nat) (a a' : Act), a.tmps[t]? = a'.tmps[t]? → (∀ j ∈ l, dstAt ops j = some t → S j = S' j) → (putAll ops vs S l a).tmps[t]? = (putAll ops vs S' l a').tmps[t]?
  | [], _, _, h, _ => h
  | k :: l, a, a', h, hl => by
    unfold putAll
    refine putAll_look l _ _ ?_ fun j hj => hl j (by simp [hj])
    by_cases hd : dstAt ops k = some t
    · have e := hl k (by simp) hd
      cases hS : S k
      · rw [hS] at e; rw [← e]; simpa using h
      · rw [hS] at e; rw [← e]; simp only [if_true, put_look, hd, h]
    · have k1 : (if S k = true then a.put (dstAt ops k) (vs k) else a).tmps[t]? = a.tmps[t]? := by
        split
        · rw [put_look, if_neg hd]
        · rfl
      have k2 : (if S' k = true then a'.put (dstAt ops k) (vs k) else a').tmps[t]? = a'.tmps[t]? := by
        split
        · rw [put_look, if_neg hd]
        · rfl
      rw [k1, k2, h]

def waits (ops : Array Oper) (j k : Nat) : Bool := match ops[j]? with
  | some o => o.after.any fun e => Region.binds .any e && e.on == k
  | none => false
def apartAt (ops : Array Oper) (k j : Nat) : Bool := match ops[k]?, ops[j]? with
  | some x, some y => x.apart ops y
  | _, _ => true
def setsB (ops : Array Oper) : Bool := Region.noSelect ops && (List.range ops.size).all fun k =>
  (match ops[k]? with | some o => o.after.all fun e => !Region.binds .any e || decide (e.on < k) | none => true) &&
  (List.range ops.size).all fun j => decide (j ≤ k) || waits ops j k || apartAt ops k j
theorem setsB_spec (h : setsB ops = true) : Region.noSelect ops = true ∧
    (∀ k o, ops[k]? = some o → ∀ e ∈ o.after, Region.binds .any e = true → e.on < k) ∧
    (∀ k j x y, ops[k]? = some x → ops[j]? = some y → k < j → (∃ e ∈ y.after, Region.binds .any e = true ∧ e.on = k) ∨ x.apart ops y = true) := by
  unfold setsB at h
  rw [Bool.and_eq_true, List.all_eq_true] at h
  obtain ⟨h1, h2⟩ := h
  refine ⟨h1, fun k o ho e he hb => ?_, fun k j x y hx hy hkj => ?_⟩
  · have hk := (Array.getElem?_eq_some_iff.1 ho).1
    have := h2 k (List.mem_range.2 hk)
    rw [Bool.and_eq_true, ho] at this
    have := Array.all_eq_true_iff_forall_mem.1 this.1 e he
    simpa [hb] using this
  · have hk := (Array.getElem?_eq_some_iff.1 hx).1
    have hj := (Array.getElem?_eq_some_iff.1 hy).1
    have := h2 k (List.mem_range.2 hk)
    rw [Bool.and_eq_true, List.all_eq_true] at this
    have := this.2 j (List.mem_range.2 hj)
    simp only [Bool.or_eq_true, decide_eq_true_eq, waits, hy, apartAt, hx] at this
    rcases this with (h | h) | h
    · omega
    · obtain ⟨e, he, hb⟩ := Array.any_eq_true'.1 h
      simp only [Bool.and_eq_true, beq_iff_eq] at hb
      exact .inl ⟨e, he, hb.1, hb.2⟩
    · exact .inr h

/-- what the lexical walk shows, each value by its operation's number -/
theorem wpSets_values {I : (Nat → Bool) → World → Prop} {Q : Act → Prop} : ∀ (l : List Oper) (k : Nat) (a : Act), (∀ j, l[j]? = ops[k + j]?) → wpSets P ops I Q k l a →
    ∃ vs : Nat → Value, (∀ j o, l[j]? = some o → stepOk P ops I (k + j) o (putAll ops vs (fun _ => true) (List.range' k j) a) (vs (k + j))) ∧ Q (putAll ops vs (fun _ => true) (List.range' k l.length) a)
  | [], k, a, _, h => ⟨fun _ => undef, fun j o hj => by simp at hj, h⟩
  | o :: l, k, a, hl, h => by
    obtain ⟨v, hv, hr⟩ := h
    have h0 : ops[k]? = some o := by simpa using (hl 0).symm
    have hd : dstAt ops k = o.dst := by simp [dstAt, h0]
    obtain ⟨vs, h1, h2⟩ := wpSets_values l (k + 1) _ (fun j => by have := hl (j + 1); simpa [Nat.add_assoc, Nat.add_comm 1 j] using this) hr
    have key : ∀ (m : Nat) (b : Act), putAll ops (fun j => if j = k then v else vs j) (fun _ => true) (List.range' (k + 1) m) b = putAll ops vs (fun _ => true) (List.range' (k + 1) m) b := fun m b =>
      putAll_congr _ _ fun j hj => ⟨rfl, by have := (List.mem_range'_1.1 hj).1; exact if_neg (by omega)⟩
    refine ⟨fun j => if j = k then v else vs j, fun j p hj => ?_, ?_⟩
    · cases j with
      | zero =>
        simp at hj
        subst hj
        simpa [putAll] using hv
      | succ j =>
        have := h1 j p (by simpa using hj)
        rw [List.range'_succ, putAll, if_pos rfl, hd, if_pos rfl, key]
        show stepOk P ops I (k + (j + 1)) p _ (if k + (j + 1) = k then v else vs (k + (j + 1)))
        rw [if_neg (by omega), show k + (j + 1) = k + 1 + j by omega]
        exact this
    · rw [List.length_cons, List.range'_succ, putAll, if_pos rfl, hd, if_pos rfl, key]
      exact h2

def Sof (listed : Array Bool) : Nat → Bool := fun j => listed.getD j false
def cnt (listed : Array Bool) : Nat → Nat
  | 0 => 0
  | n + 1 => cnt listed n + (if Sof listed n = true then 0 else 1)
theorem Sof_set {listed : Array Bool} {i : Nat} (hi : i < listed.size) : Sof (listed.setIfInBounds i true) = ins (Sof listed) i := by
  funext j
  unfold Sof ins
  by_cases h : i = j
  · subst h; simp [hi]
  · rw [getD_set_ne false h]
    have : (j == i) = false := by simp; exact fun e => h e.symm
    simp [this]
theorem cnt_set {listed : Array Bool} {i : Nat} (hi : i < listed.size) (hf : Sof listed i = false) : ∀ n, cnt (listed.setIfInBounds i true) n + (if i < n then 1 else 0) = cnt listed n
  | 0 => by simp [cnt]
  | n + 1 => by
    have ih := cnt_set hi hf n
    unfold cnt
    rw [Sof_set hi]
    by_cases h : n = i
    · subst h
      rw [if_neg (Nat.lt_irrefl _)] at ih
      simp [ins, hf]
      omega
    · have e : ins (Sof listed) i n = Sof listed n := by simp [ins, h]
      rw [e]
      by_cases hlt : i < n
      · rw [if_pos hlt] at ih
        have h2 : (if i < n + 1 then 1 else 0) = 1 := if_pos (by omega)
        rw [h2]; omega
      · rw [if_neg hlt] at ih
        have h2 : (if i < n + 1 then 1 else 0) = 0 := if_neg (by omega)
        rw [h2]; omega
theorem cnt_zero {listed : Array Bool} : ∀ n, cnt listed n = 0 → ∀ i < n, Sof listed i = true
  | n + 1, h, i, hi => by
    unfold cnt at h
    by_cases e : i = n
    · subst e
      by_cases hs : Sof listed i = true
      · exact hs
      · rw [if_neg hs] at h; omega
    · exact cnt_zero n (by omega) i (by omega)
theorem cnt_pos {listed : Array Bool} : ∀ n, cnt listed n ≠ 0 → ∃ i < n, Sof listed i = false ∧ ∀ j < i, Sof listed j = true
  | 0, h => absurd rfl h
  | n + 1, h => by
    by_cases h0 : cnt listed n = 0
    · refine ⟨n, by omega, ?_, cnt_zero n h0⟩
      unfold cnt at h
      cases hs : Sof listed n
      · rfl
      · rw [hs, h0] at h; simp at h
    · obtain ⟨i, hi, h1, h2⟩ := cnt_pos n h0
      exact ⟨i, by omega, h1, h2⟩

theorem yielded_look {ops : Array Oper} {t t' : Array Value} {g : Nat} (h : ∀ d, (ops[g]?).bind (·.dst) = some d → t[d]? = t'[d]?) : yielded ops t g = yielded ops t' g := by
  unfold yielded
  cases hd : (ops[g]?).bind (·.dst) with
  | none => rfl
  | some d => simp only [Option.bind_some, h d hd]
theorem same_op {o : Oper} (hs : ∀ cs b, o.op ≠ .select cs b) {a a' : Act} (h : ∀ t ∈ o.looksAt ops, a.tmps[t]? = a'.tmps[t]?) : execOp a.eval o = execOp a'.eval o :=
  execOp_congr o hs fun x hx => by
    cases x with
    | tmp t =>
      have := h t (List.mem_append_left _ (List.mem_filterMap.2 ⟨.tmp t, by simpa using hx, rfl⟩))
      simp [Act.eval, Array.getD_eq_getD_getElem?, this]
    | _ => rfl
theorem same_wanted {o : Oper} {a a' : Act} (h : ∀ t ∈ o.looksAt ops, a.tmps[t]? = a'.tmps[t]?) : Region.wanted o (yielded ops a.tmps) = Region.wanted o (yielded ops a'.tmps) := by
  unfold Region.wanted
  cases hg : o.guard with
  | none => rfl
  | some gw =>
    obtain ⟨g, want⟩ := gw
    have : yielded ops a.tmps g = yielded ops a'.tmps g := yielded_look fun d hd => h d (List.mem_append_right _ (by simp [hg, hd]))
    simp only [this]

theorem wpAny_of_sets {I : (Nat → Bool) → World → Prop} {Q : Exit → Act → World → Prop} {a : Act} {vs : Nat → Value} (hB : setsB ops = true)
    (hv : ∀ k o, ops[k]? = some o → stepOk P ops I k o (putAll ops vs (fun _ => true) (List.range k) a) (vs k))
    (hQ : ∀ S w, (∀ i < ops.size, S i = true) → I S w → Q .normal (putAll ops vs (fun _ => true) (List.range ops.size) a) w) :
    ∀ (m : Nat) (listed : Array Bool) (w : World), listed.size = ops.size → cnt listed ops.size ≤ m →
      (∀ j o, ops[j]? = some o → Sof listed j = true → ∀ e ∈ o.after, Region.binds .any e = true → Sof listed e.on = true) → I (Sof listed) w →
      wpAny P .any ops Q m listed (putAll ops vs (Sof listed) (List.range ops.size) a) w := by
  obtain ⟨hsel, hlt, hpair⟩ := setsB_spec hB
  have hdone : ∀ (listed : Array Bool) w, cnt listed ops.size = 0 → I (Sof listed) w → Q .normal (putAll ops vs (Sof listed) (List.range ops.size) a) w := fun listed w h0 hI => by
    have hall := cnt_zero _ h0
    rw [putAll_congr (S' := fun _ => true) (vs' := vs) _ _ fun j hj => ⟨hall j (List.mem_range.1 hj), rfl⟩]
    exact hQ _ _ hall hI
  have hready : ∀ listed : Array Bool, listed.size = ops.size → Region.ready .any ops listed = [] → cnt listed ops.size = 0 := fun listed hsz hr => by
    by_cases h0 : cnt listed ops.size = 0
    · exact h0
    · obtain ⟨i, hi, h1, h2⟩ := cnt_pos _ h0
      have hio : ops[i]? = some ops[i] := Array.getElem?_eq_getElem hi
      have : i ∈ Region.ready .any ops listed := mem_ready.2 ⟨by
        have : listed.getD i false = false := h1
        simp [show i < listed.size by omega] at this ⊢; exact this, _, hio, fun e he hb => h2 _ (hlt i _ hio e he hb)⟩
      rw [hr] at this
      cases this
  intro m
  induction m with
  | zero =>
    intro listed w hsz hc hcl hI
    refine ⟨?_, hdone listed w (by omega) hI⟩
    have hall := cnt_zero (listed := listed) ops.size (by omega)
    cases hr : Region.ready .any ops listed with
    | nil => rfl
    | cons j _ =>
      obtain ⟨h1, o, ho, _⟩ := mem_ready.1 (show j ∈ Region.ready .any ops listed by rw [hr]; simp)
      have hj := (Array.getElem?_eq_some_iff.1 ho).1
      have h2 : listed.getD j false = true := hall j hj
      simp [show j < listed.size by omega] at h1 h2
      rw [h1] at h2
      cases h2
  | succ m ih =>
    intro listed w hsz hc hcl hI
    refine ⟨fun hr => hdone listed w (hready listed hsz hr) hI, fun i hi => ?_⟩
    obtain ⟨h1, o, ho, hall⟩ := mem_ready.1 hi
    have hin := (Array.getElem?_eq_some_iff.1 ho).1
    have hil : i < listed.size := by omega
    have hSi : Sof listed i = false := by
      simp [hil] at h1
      simp [Sof, hil, h1]
    -- who writes what this operation looks at
    have hw : ∀ t ∈ o.looksAt ops, (putAll ops vs (Sof listed) (List.range ops.size) a).tmps[t]? = (putAll ops vs (fun _ => true) (List.range i) a).tmps[t]? := fun t ht => by
      have e : putAll ops vs (fun _ => true) (List.range i) a = putAll ops vs (fun j => decide (j < i)) (List.range ops.size) a := by
        have hsplit : List.range ops.size = List.range i ++ List.range' i (ops.size - i) := by
          have := List.range'_append_1 (s := 0) (m := i) (n := ops.size - i)
          rw [Nat.zero_add, Nat.add_sub_cancel' (by omega)] at this
          rw [List.range_eq_range', List.range_eq_range', this]
        rw [hsplit, putAll_append, putAll_none (List.range' i _) _ fun j hj => decide_eq_false (by have := (List.mem_range'_1.1 hj).1; omega)]
        exact putAll_congr _ _ fun j hj => ⟨(decide_eq_true (List.mem_range.1 hj)).symm, rfl⟩
      rw [e]
      refine putAll_look _ _ _ rfl fun j hj hd => ?_
      have hjn := List.mem_range.1 hj
      have hjo : ops[j]? = some ops[j] := Array.getElem?_eq_getElem hjn
      have hdj : ops[j].dst = some t := by simpa [dstAt, hjo] using hd
      rcases Nat.lt_trichotomy j i with h | h | h
      · rw [decide_eq_true h]
        rcases hpair j i _ _ hjo ho h with ⟨e, he, hb, hon⟩ | hap
        · rw [← hon]; exact hall e he hb
        · exact absurd ht ((Oper.apart_spec hap).1 t hdj)
      · subst h
        rw [hSi]; simp
      · rw [decide_eq_false (by omega)]
        cases hSj : Sof listed j
        · rfl
        · rcases hpair i j _ _ ho hjo h with ⟨e, he, hb, hon⟩ | hap
          · have := hcl j _ hjo hSj e he hb
            rw [hon, hSi] at this
            cases this
          · exact absurd ht ((Oper.apart_spec hap).2.2 t hdj)
    -- the frame behind it
    have hput : (putAll ops vs (Sof listed) (List.range ops.size) a).put o.dst (vs i) = putAll ops vs (Sof (listed.setIfInBounds i true)) (List.range ops.size) a := by
      have hsplit : List.range ops.size = List.range i ++ i :: List.range' (i + 1) (ops.size - (i + 1)) := by
        rw [List.range_eq_range', List.range_eq_range']
        have := List.range'_append_1 (s := 0) (m := i) (n := ops.size - i)
        rw [Nat.zero_add, Nat.add_sub_cancel' (by omega)] at this
        rw [← this, show ops.size - i = (ops.size - (i + 1)) + 1 by omega, List.range'_succ]
      have hd : dstAt ops i = o.dst := by simp [dstAt, ho]
      rw [hsplit, putAll_append, putAll_append, Sof_set hil]
      simp only [putAll, hSi, ins, beq_self_eq_true, Bool.true_or, if_true, Bool.false_eq_true, if_false, hd]
      have hA : putAll ops vs (ins (Sof listed) i) (List.range i) a = putAll ops vs (Sof listed) (List.range i) a :=
        putAll_congr _ _ fun j hj => ⟨by have := List.mem_range.1 hj; simp [ins, show j ≠ i by omega], rfl⟩
      have hC : ∀ b, putAll ops vs (ins (Sof listed) i) (List.range' (i + 1) (ops.size - (i + 1))) b = putAll ops vs (Sof listed) (List.range' (i + 1) (ops.size - (i + 1))) b := fun b =>
        putAll_congr _ _ fun j hj => ⟨by have := (List.mem_range'_1.1 hj).1; simp [ins, show j ≠ i by omega], rfl⟩
      rw [hA, hC, putAll_put]
      intro j hj hSj x hx hdj
      have hjb := List.mem_range'_1.1 hj
      have hjn : j < ops.size := by omega
      have hjo : ops[j]? = some ops[j] := Array.getElem?_eq_getElem hjn
      rcases hpair i j _ _ ho hjo (by omega) with ⟨e, he, hb, hon⟩ | hap
      · have := hcl j _ hjo hSj e he hb
        rw [hon, hSi] at this
        cases this
      · exact (Oper.apart_spec hap).2.1 x hx (by simpa [dstAt, hjo] using hdj)
    have hnext : ∀ w', I (ins (Sof listed) i) w' → wpAny P .any ops Q m (listed.setIfInBounds i true) ((putAll ops vs (Sof listed) (List.range ops.size) a).put o.dst (vs i)) w' := fun w' hI' => by
      rw [hput]
      refine ih _ _ (by simpa using hsz) ?_ (fun j p hp hSj e he hb => ?_) (by rw [Sof_set hil]; exact hI')
      · have := cnt_set hil hSi ops.size
        rw [if_pos hin] at this
        omega
      · rw [Sof_set hil] at hSj ⊢
        by_cases hji : j = i
        · subst hji
          obtain rfl := Option.some.inj (hp.symm.trans ho)
          simp [ins, show Sof listed e.on = true from hall e he hb]
        · have hSj' : Sof listed j = true := by simpa [ins, hji] using hSj
          simp [ins, hcl j p hp hSj' e he hb]
    have hns : ∀ cs b, o.op ≠ .select cs b := fun cs b => Region.noSelect_spec hsel i o cs b ho
    have hst := hv i o ho
    unfold wpOp
    simp only [ho]
    rw [same_wanted hw]
    rcases hst with ⟨hwt, hst⟩ | ⟨hwt, hvu, hst⟩
    · rw [if_pos hwt]
      refine .inl (wp_of_opTo (v := vs i) (N := I (ins (Sof listed) i)) ?_ hnext)
      have := hst (Sof listed) w hSi hcl (fun e he hb => hall e he hb) hI
      unfold opTo at this ⊢
      rw [same_op hns hw]
      exact this
    · rw [if_neg (by rw [hwt]; exact Bool.false_ne_true)]
      have := hnext w (hst _ _ hSi hI)
      rwa [hvu] at this

/-- A region that draws its order. -/
theorem wp_region_sets {id : Nat} {Q : Exit → Act → World → Prop} {a : Act} {w : World} (I : (Nat → Bool) → World → Prop) (hm : P.follows .mixedOrders = true) (hB : setsB ops = true)
    (h0 : I (fun _ => false) { w with drawn := w.drawn + 1 })
    (h : wpSets P ops I (fun a' => ∀ S w', (∀ i < ops.size, S i = true) → I S w' → Q .normal a' w') 0 ops.toList a) : (Code.region id ops true).wp P Q a w := by
  obtain ⟨vs, h1, h2⟩ := wpSets_values ops.toList 0 a (by simp) h
  have hS : Sof (Array.replicate ops.size false) = fun _ => false := by
    funext j
    unfold Sof
    rcases Nat.lt_or_ge j ops.size with h | h <;> simp [h]
  have key := wpAny_of_sets (P := P) (I := I) (Q := Q) (a := a) (vs := vs) hB
    (fun k o ho => by have := h1 k o (by simpa using ho); simpa [List.range_eq_range'] using this)
    (fun S w' hS' hI => by have := h2 S w' hS' hI; simpa [List.range_eq_range'] using this)
    ops.size (Array.replicate ops.size false) { w with drawn := w.drawn + 1 } (by simp) (by
      have : ∀ n, cnt (Array.replicate ops.size false) n ≤ n := fun n => by
        induction n with
        | zero => simp [cnt]
        | succ n ih => unfold cnt; split <;> omega
      exact this _) (fun j o _ hSj => by rw [hS] at hSj; cases hSj) (by rw [hS]; exact h0)
  rw [hS, putAll_none _ _ (fun _ _ => rfl)] at key
  exact wp_region_any hm key
theorem wp_region_sets_lit {id : Nat} {l : List Oper} {Q : Exit → Act → World → Prop} {a : Act} {w : World} (I : (Nat → Bool) → World → Prop) (hm : P.follows .mixedOrders = true) (hB : setsB l.toArray = true)
    (h0 : I (fun _ => false) w.drew)
    (h : wpSets P l.toArray I (fun a' => ∀ S w', (∀ i < l.length, S i = true) → I S w' → Q .normal a' w') 0 l a) : (Code.region id l.toArray true).wp P Q a w :=
  wp_region_sets I hm hB h0 (by simpa using h)
end sets
end Go.Proofs.Yteelconabmfnkaa

/- Regions that draw their order and hold an allocation that waits for nothing: its address is known when it is made. No program is named here. -/
namespace Go.Proofs.Yteelconabmfnkaa
open Go
set_option linter.unusedVariables false
section fam
variable {P : Program} {ops : Array Oper}
theorem putAll_agree {vs vs' : Nat → Value} {S : Nat → Bool} : ∀ (l : List Nat) (a : Act), (∀ j ∈ l, S j = true → vs j = vs' j) → putAll ops vs S l a = putAll ops vs' S l a
  | [], _, _ => rfl
  | k :: l, a, h => by
    unfold putAll
    cases hS : S k
    · rw [if_neg (by simp), if_neg (by simp)]
      exact putAll_agree l _ fun j hj => h j (by simp [hj])
    · rw [if_pos rfl, if_pos rfl, h k (by simp) hS]
      exact putAll_agree l _ fun j hj => h j (by simp [hj])
/-- one operation, at one set and world -/
def famStep (P : Program) (ops : Array Oper) (N : (Nat → Bool) → World → Prop) (k : Nat) (o : Oper) (a : Act) (v : Value) (S : Nat → Bool) (w : World) : Prop :=
  (Region.wanted o (yielded ops a.tmps) = true ∧ opTo P o a w v (N (ins S k))) ∨ (Region.wanted o (yielded ops a.tmps) = false ∧ v = undef ∧ N (ins S k) w)
theorem wpAny_of_fam {β : Type} {I : β → (Nat → Bool) → World → Prop} {Q : Exit → Act → World → Prop} {a : Act} {vs : β → Nat → Value} (hB : setsB ops = true)
    (hv : ∀ k o, ops[k]? = some o → ∀ x S w, S k = false → closedS ops S → (∀ e ∈ o.after, Region.binds .any e = true → S e.on = true) → I x S w → ∃ y, (∀ j < ops.size, S j = true → vs y j = vs x j) ∧
      famStep P ops (I y) k o (putAll ops (vs y) (fun _ => true) (List.range k) a) (vs y k) S w)
    (hQ : ∀ x S w, (∀ i < ops.size, S i = true) → I x S w → Q .normal (putAll ops (vs x) (fun _ => true) (List.range ops.size) a) w) :
    ∀ (m : Nat) (x : β) (listed : Array Bool) (w : World), listed.size = ops.size → cnt listed ops.size ≤ m →
      (∀ j o, ops[j]? = some o → Sof listed j = true → ∀ e ∈ o.after, Region.binds .any e = true → Sof listed e.on = true) → I x (Sof listed) w →
      wpAny P .any ops Q m listed (putAll ops (vs x) (Sof listed) (List.range ops.size) a) w := by
  obtain ⟨hsel, hlt, hpair⟩ := setsB_spec hB
  have hdone : ∀ x (listed : Array Bool) w, cnt listed ops.size = 0 → I x (Sof listed) w → Q .normal (putAll ops (vs x) (Sof listed) (List.range ops.size) a) w := fun x listed w h0 hI => by
    have hall := cnt_zero _ h0
    rw [putAll_congr (S' := fun _ => true) (vs' := vs x) _ _ fun j hj => ⟨hall j (List.mem_range.1 hj), rfl⟩]
    exact hQ x _ _ hall hI
  have hready : ∀ listed : Array Bool, listed.size = ops.size → Region.ready .any ops listed = [] → cnt listed ops.size = 0 := fun listed hsz hr => by
    by_cases h0 : cnt listed ops.size = 0
    · exact h0
    · obtain ⟨i, hi, h1, h2⟩ := cnt_pos _ h0
      have hio : ops[i]? = some ops[i] := Array.getElem?_eq_getElem hi
      have : i ∈ Region.ready .any ops listed := mem_ready.2 ⟨by
        have : listed.getD i false = false := h1
        simp [show i < listed.size by omega] at this ⊢; exact this, _, hio, fun e he hb => h2 _ (hlt i _ hio e he hb)⟩
      rw [hr] at this
      cases this
  intro m
  induction m with
  | zero =>
    intro x listed w hsz hc hcl hI
    refine ⟨?_, hdone x listed w (by omega) hI⟩
    have hall := cnt_zero (listed := listed) ops.size (by omega)
    cases hr : Region.ready .any ops listed with
    | nil => rfl
    | cons j _ =>
      obtain ⟨h1, o, ho, _⟩ := mem_ready.1 (show j ∈ Region.ready .any ops listed by rw [hr]; simp)
      have hj := (Array.getElem?_eq_some_iff.1 ho).1
      have h2 : listed.getD j false = true := hall j hj
      simp [show j < listed.size by omega] at h1 h2
      rw [h1] at h2
      cases h2
  | succ m ih =>
    intro x listed w hsz hc hcl hI
    refine ⟨fun hr => hdone x listed w (hready listed hsz hr) hI, fun i hi => ?_⟩
    obtain ⟨h1, o, ho, hall⟩ := mem_ready.1 hi
    have hin := (Array.getElem?_eq_some_iff.1 ho).1
    have hil : i < listed.size := by omega
    have hSi : Sof listed i = false := by
      simp [hil] at h1
      simp [Sof, hil, h1]
    obtain ⟨y, hagree, hst⟩ := hv i o ho x (Sof listed) w hSi hcl (fun e he hb => hall e he hb) hI
    have hxy : putAll ops (vs x) (Sof listed) (List.range ops.size) a = putAll ops (vs y) (Sof listed) (List.range ops.size) a := putAll_agree _ _ fun j hjm hj => (hagree j (List.mem_range.1 hjm) hj).symm
    rw [hxy]
    -- who writes what this operation looks at
    have hw : ∀ t ∈ o.looksAt ops, (putAll ops (vs y) (Sof listed) (List.range ops.size) a).tmps[t]? = (putAll ops (vs y) (fun _ => true) (List.range i) a).tmps[t]? := fun t ht => by
      have e : putAll ops (vs y) (fun _ => true) (List.range i) a = putAll ops (vs y) (fun j => decide (j < i)) (List.range ops.size) a := by
        have hsplit : List.range ops.size = List.range i ++ List.range' i (ops.size - i) := by
          have := List.range'_append_1 (s := 0) (m := i) (n := ops.size - i)
          rw [Nat.zero_add, Nat.add_sub_cancel' (by omega)] at this
          rw [List.range_eq_range', List.range_eq_range', this]
        rw [hsplit, putAll_append, putAll_none (List.range' i _) _ fun j hj => decide_eq_false (by have := (List.mem_range'_1.1 hj).1; omega)]
        exact putAll_congr _ _ fun j hj => ⟨(decide_eq_true (List.mem_range.1 hj)).symm, rfl⟩
      rw [e]
      refine putAll_look _ _ _ rfl fun j hj hd => ?_
      have hjn := List.mem_range.1 hj
      have hjo : ops[j]? = some ops[j] := Array.getElem?_eq_getElem hjn
      have hdj : ops[j].dst = some t := by simpa [dstAt, hjo] using hd
      rcases Nat.lt_trichotomy j i with h | h | h
      · rw [decide_eq_true h]
        rcases hpair j i _ _ hjo ho h with ⟨e, he, hb, hon⟩ | hap
        · rw [← hon]; exact hall e he hb
        · exact absurd ht ((Oper.apart_spec hap).1 t hdj)
      · subst h
        rw [hSi]; simp
      · rw [decide_eq_false (by omega)]
        cases hSj : Sof listed j
        · rfl
        · rcases hpair i j _ _ ho hjo h with ⟨e, he, hb, hon⟩ | hap
          · have := hcl j _ hjo hSj e he hb
            rw [hon, hSi] at this
            cases this
          · exact absurd ht ((Oper.apart_spec hap).2.2 t hdj)
    -- the frame behind it
    have hput : (putAll ops (vs y) (Sof listed) (List.range ops.size) a).put o.dst (vs y i) = putAll ops (vs y) (Sof (listed.setIfInBounds i true)) (List.range ops.size) a := by
      have hsplit : List.range ops.size = List.range i ++ i :: List.range' (i + 1) (ops.size - (i + 1)) := by
        rw [List.range_eq_range', List.range_eq_range']
        have := List.range'_append_1 (s := 0) (m := i) (n := ops.size - i)
        rw [Nat.zero_add, Nat.add_sub_cancel' (by omega)] at this
        rw [← this, show ops.size - i = (ops.size - (i + 1)) + 1 by omega, List.range'_succ]
      have hd : dstAt ops i = o.dst := by simp [dstAt, ho]
      rw [hsplit, putAll_append, putAll_append, Sof_set hil]
      simp only [putAll, hSi, ins, beq_self_eq_true, Bool.true_or, if_true, Bool.false_eq_true, if_false, hd]
      have hA : putAll ops (vs y) (ins (Sof listed) i) (List.range i) a = putAll ops (vs y) (Sof listed) (List.range i) a :=
        putAll_congr _ _ fun j hj => ⟨by have := List.mem_range.1 hj; simp [ins, show j ≠ i by omega], rfl⟩
      have hC : ∀ b, putAll ops (vs y) (ins (Sof listed) i) (List.range' (i + 1) (ops.size - (i + 1))) b = putAll ops (vs y) (Sof listed) (List.range' (i + 1) (ops.size - (i + 1))) b := fun b =>
        putAll_congr _ _ fun j hj => ⟨by have := (List.mem_range'_1.1 hj).1; simp [ins, show j ≠ i by omega], rfl⟩
      rw [hA, hC, putAll_put]
      intro j hj hSj x hx hdj
      have hjb := List.mem_range'_1.1 hj
      have hjn : j < ops.size := by omega
      have hjo : ops[j]? = some ops[j] := Array.getElem?_eq_getElem hjn
      rcases hpair i j _ _ ho hjo (by omega) with ⟨e, he, hb, hon⟩ | hap
      · have := hcl j _ hjo hSj e he hb
        rw [hon, hSi] at this
        cases this
      · exact (Oper.apart_spec hap).2.1 x hx (by simpa [dstAt, hjo] using hdj)
    have hnext : ∀ w', I y (ins (Sof listed) i) w' → wpAny P .any ops Q m (listed.setIfInBounds i true) ((putAll ops (vs y) (Sof listed) (List.range ops.size) a).put o.dst (vs y i)) w' := fun w' hI' => by
      rw [hput]
      refine ih y _ _ (by simpa using hsz) ?_ (fun j p hp hSj e he hb => ?_) (by rw [Sof_set hil]; exact hI')
      · have := cnt_set hil hSi ops.size
        rw [if_pos hin] at this
        omega
      · rw [Sof_set hil] at hSj ⊢
        by_cases hji : j = i
        · subst hji
          obtain rfl := Option.some.inj (hp.symm.trans ho)
          simp [ins, show Sof listed e.on = true from hall e he hb]
        · have hSj' : Sof listed j = true := by simpa [ins, hji] using hSj
          simp [ins, hcl j p hp hSj' e he hb]
    have hns : ∀ cs b, o.op ≠ .select cs b := fun cs b => Region.noSelect_spec hsel i o cs b ho
    unfold wpOp
    simp only [ho]
    rw [same_wanted hw]
    rcases hst with ⟨hwt, hst⟩ | ⟨hwt, hvu, hst⟩
    · rw [if_pos hwt]
      refine .inl (wp_of_opTo (v := vs y i) (N := I y (ins (Sof listed) i)) ?_ hnext)
      unfold opTo at hst ⊢
      rw [same_op hns hw]
      exact hst
    · rw [if_neg (by rw [hwt]; exact Bool.false_ne_true)]
      have := hnext w hst
      rwa [hvu] at this

theorem opTo.imp {o : Oper} {a : Act} {w : World} {v : Value} {N N' : World → Prop} (h : opTo P o a w v N) (hN : ∀ w', N w' → N' w') : opTo P o a w v N' := by
  unfold opTo at h ⊢
  generalize (execOp a.eval o).run P w = r at *
  cases r with
  | ok n w' =>
    cases n <;> simp only [resTo] at h ⊢
    case value u => exact ⟨h.1, hN _ h.2⟩
    case skip => exact ⟨h.1, hN _ h.2⟩
    case enter f args => exact h.mono fun e w'' ⟨he, hw⟩ => ⟨he, hN _ hw⟩
  | halt x w' => simp only [resTo] at h
theorem stepOk.fam {N : (Nat → Bool) → World → Prop} {k : Nat} {o : Oper} {a : Act} {v : Value} (h : stepOk P ops N k o a v) {S : Nat → Bool} {w : World} (hk : S k = false) (hc : closedS ops S)
    (ha : ∀ e ∈ o.after, Region.binds .any e = true → S e.on = true) (hI : N S w) : famStep P ops N k o a v S w := by
  rcases h with ⟨h1, h2⟩ | ⟨h1, h2, h3⟩
  · exact .inl ⟨h1, h2 S w hk hc ha hI⟩
  · exact .inr ⟨h1, h2, h3 S w hk hI⟩
/-- the lexical walk of the operations ahead of the allocation -/
def wpPre (P : Program) (ops : Array Oper) (I0 : (Nat → Bool) → World → Prop) (J : Nat → (Nat → Bool) → World → Prop) (al : Nat) (Q : Act → Prop) : Nat → List Oper → Act → Prop
  | _, [], a => Q a
  | k, o :: rest, a => ∃ v, (stepOk P ops (fun S w => S al = false ∧ I0 S w) k o a v ∧ ∀ b, stepOk P ops (fun S w => S al = true ∧ J b S w) k o a v) ∧ wpPre P ops I0 J al Q (k + 1) rest (a.put o.dst v)
theorem wpPre_values {I0 : (Nat → Bool) → World → Prop} {J : Nat → (Nat → Bool) → World → Prop} {al : Nat} {Q : Act → Prop} : ∀ (l : List Oper) (k : Nat) (a : Act), (∀ j o, l[j]? = some o → ops[k + j]? = some o) → wpPre P ops I0 J al Q k l a →
    ∃ vs : Nat → Value, (∀ j o, l[j]? = some o → (stepOk P ops (fun S w => S al = false ∧ I0 S w) (k + j) o (putAll ops vs (fun _ => true) (List.range' k j) a) (vs (k + j)) ∧
      ∀ b, stepOk P ops (fun S w => S al = true ∧ J b S w) (k + j) o (putAll ops vs (fun _ => true) (List.range' k j) a) (vs (k + j)))) ∧ Q (putAll ops vs (fun _ => true) (List.range' k l.length) a)
  | [], k, a, _, h => ⟨fun _ => undef, fun j o hj => by simp at hj, h⟩
  | o :: l, k, a, hl, h => by
    obtain ⟨v, hv, hr⟩ := h
    have h0 : ops[k]? = some o := by simpa using hl 0 o rfl
    have hd : dstAt ops k = o.dst := by simp [dstAt, h0]
    obtain ⟨vs, h1, h2⟩ := wpPre_values l (k + 1) _ (fun j p hj => by have := hl (j + 1) p (by simpa using hj); simpa [Nat.add_assoc, Nat.add_comm 1 j] using this) hr
    have key : ∀ (m : Nat) (b : Act), putAll ops (fun j => if j = k then v else vs j) (fun _ => true) (List.range' (k + 1) m) b = putAll ops vs (fun _ => true) (List.range' (k + 1) m) b := fun m b =>
      putAll_congr _ _ fun j hj => ⟨rfl, by have := (List.mem_range'_1.1 hj).1; exact if_neg (by omega)⟩
    refine ⟨fun j => if j = k then v else vs j, fun j p hj => ?_, ?_⟩
    · cases j with
      | zero =>
        simp at hj
        subst hj
        simpa [putAll] using hv
      | succ j =>
        have := h1 j p (by simpa using hj)
        rw [List.range'_succ, putAll, if_pos rfl, hd, if_pos rfl, key]
        show stepOk P ops _ (k + (j + 1)) p _ (if k + (j + 1) = k then v else vs (k + (j + 1))) ∧ ∀ b, stepOk P ops _ (k + (j + 1)) p _ (if k + (j + 1) = k then v else vs (k + (j + 1)))
        rw [if_neg (by omega), show k + (j + 1) = k + 1 + j by omega]
        exact this
    · rw [List.length_cons, List.range'_succ, putAll, if_pos rfl, hd, if_pos rfl, key]
      exact h2
theorem reaches_step {k al n : Nat} {o : Oper} (ho : ops[k]? = some o) (hne : k ≠ al) (h : reaches ops (n + 1) k al = true) : ∃ e ∈ o.after, Region.binds .any e = true ∧ reaches ops n e.on al = true := by
  unfold reaches at h
  rw [Bool.or_eq_true] at h
  rcases h with h | h
  · exact absurd (by simpa using h) hne
  · rw [ho] at h
    obtain ⟨e, he, hb⟩ := List.any_eq_true.1 h
    rw [Bool.and_eq_true] at hb
    exact ⟨e, by simpa using he, hb.1, hb.2⟩
/-- A region that draws its order and holds an allocation (operation number al) that waits for nothing; every operation behind it in the text waits for it. -/
theorem wp_region_alloc {id : Nat} {l1 l2 : List Oper} {oa : Oper} {Q : Exit → Act → World → Prop} {a : Act} {w : World} (I0 : (Nat → Bool) → World → Prop) (J : Nat → (Nat → Bool) → World → Prop)
    (hm : P.follows .mixedOrders = true) (hB : setsB (l1 ++ oa :: l2).toArray = true)
    (hR : ((List.range (l1 ++ oa :: l2).toArray.size).all fun k => decide (k ≤ l1.length) || reaches (l1 ++ oa :: l2).toArray 9 k l1.length) = true)
    (h0 : I0 (fun _ => false) w.drew)
    (h : wpPre P (l1 ++ oa :: l2).toArray I0 J l1.length (fun a1 => Region.wanted oa (yielded (l1 ++ oa :: l2).toArray a1.tmps) = true ∧
      (∀ S w, S l1.length = false → closedS (l1 ++ oa :: l2).toArray S → I0 S w → opTo P oa a1 w (.pointer (some ⟨w.heap.size, 0, none⟩)) (J w.heap.size (ins S l1.length))) ∧
      ∀ b, wpSets P (l1 ++ oa :: l2).toArray (fun S w => S l1.length = true ∧ J b S w) (fun a2 => ∀ S w', (∀ i < (l1 ++ oa :: l2).length, S i = true) → J b S w' → Q .normal a2 w') (l1.length + 1) l2 (a1.put oa.dst (.pointer (some ⟨b, 0, none⟩)))) 0 l1 a) :
    (Code.region id (l1 ++ oa :: l2).toArray true).wp P Q a w := by
  obtain ⟨al, hal⟩ : ∃ n, l1.length = n := ⟨_, rfl⟩
  obtain ⟨l, hl⟩ : ∃ l, l1 ++ oa :: l2 = l := ⟨_, rfl⟩
  have hl1 : ∀ j o, l1[j]? = some o → l[j]? = some o := fun j o hj => by
    rw [← hl, List.getElem?_append_left (List.getElem?_eq_some_iff.1 hj).1]; exact hj
  have hla : l[al]? = some oa := by rw [← hl, ← hal]; simp
  have hl2 : ∀ j, l2[j]? = l[al + 1 + j]? := fun j => by
    rw [← hl, List.getElem?_append_right (by omega), show al + 1 + j - l1.length = j + 1 by omega]; simp
  have hlen : l.length = al + 1 + l2.length := by rw [← hl, ← hal]; simp; omega
  rw [hl] at hB hR h ⊢
  rw [hal] at hR h
  obtain ⟨vs1, p1, pw, pa, p2⟩ := wpPre_values l1 0 a (fun j o hj => by simpa using hl1 j o hj) h
  rw [hal] at pw pa p2
  have hv2 := fun b => wpSets_values l2 (al + 1) _ (fun j => by simpa using hl2 j) (p2 b)
  let vs2 : Nat → Nat → Value := fun b => Classical.choose (hv2 b)
  have q2 : ∀ b, _ := fun b => Classical.choose_spec (hv2 b)
  let vs : Option Nat → Nat → Value := fun x k => if k < al then vs1 k else match x with
    | none => undef
    | some b => if k = al then .pointer (some ⟨b, 0, none⟩) else vs2 b k
  let I : Option Nat → (Nat → Bool) → World → Prop := fun x => match x with
    | none => fun S w => S al = false ∧ I0 S w
    | some b => fun S w => S al = true ∧ J b S w
  have hreach : ∀ k, k < l.length → al < k → reaches l.toArray 9 k al = true := fun k hk hlt => by
    have := List.all_eq_true.1 hR k (List.mem_range.2 (by simpa using hk))
    rw [Bool.or_eq_true] at this
    rcases this with h | h
    · exact absurd (of_decide_eq_true h) (by omega)
    · exact h
  have hpre : ∀ x k, k ≤ al → putAll l.toArray (vs x) (fun _ => true) (List.range k) a = putAll l.toArray vs1 (fun _ => true) (List.range' 0 k) a := fun x k hk => by
    rw [List.range_eq_range']
    exact putAll_congr _ _ fun j hj => ⟨rfl, if_pos (by have := (List.mem_range'_1.1 hj).2; omega)⟩
  have hda : dstAt l.toArray al = oa.dst := by simp [dstAt, hla]
  have hpost : ∀ b j, putAll l.toArray (vs (some b)) (fun _ => true) (List.range (al + 1 + j)) a =
      putAll l.toArray (vs2 b) (fun _ => true) (List.range' (al + 1) j) ((putAll l.toArray vs1 (fun _ => true) (List.range' 0 al) a).put oa.dst (.pointer (some ⟨b, 0, none⟩))) := fun b j => by
    have hs : List.range (al + 1 + j) = List.range al ++ al :: List.range' (al + 1) j := by
      have h1 := List.range'_append_1 (s := 0) (m := al) (n := j + 1)
      rw [Nat.zero_add, List.range'_succ] at h1
      rw [List.range_eq_range', List.range_eq_range', h1]; congr 1; omega
    have ea : vs (some b) al = .pointer (some ⟨b, 0, none⟩) := by
      show (if al < al then _ else if al = al then _ else _) = _
      rw [if_neg (Nat.lt_irrefl _), if_pos rfl]
    rw [hs, putAll_append, hpre (some b) al (Nat.le_refl _), putAll, if_pos rfl, hda, ea]
    refine putAll_congr _ _ fun i hi => ⟨rfl, ?_⟩
    have := (List.mem_range'_1.1 hi).1
    show (if i < al then _ else if i = al then _ else _) = _
    rw [if_neg (by omega), if_neg (by omega)]
  have hS0 : ∀ n, Sof (Array.replicate n false) = fun _ => false := fun n => by
    funext j
    unfold Sof
    rcases Nat.lt_or_ge j n with h | h <;> simp [h]
  have hS := hS0 l.toArray.size
  have key := wpAny_of_fam (P := P) (β := Option Nat) (I := I) (Q := Q) (a := a) (vs := vs) hB
    (fun k o ho x S w hSk hcl hafter hI => by
      have hk : k < l.length := by simpa using (Array.getElem?_eq_some_iff.1 ho).1
      have ho' : l[k]? = some o := by simpa using ho
      have hno : al < k → S al = true := fun hlt => by
        obtain ⟨e, he, hb, hr⟩ := reaches_step (n := 8) ho (by omega) (hreach k hk hlt)
        exact hcl.chain 8 e.on al hr (hafter e he hb)
      rcases Nat.lt_trichotomy k al with hlt | heq | hgt
      · have hj : l1[k]? = some o := by
          rw [← hl, List.getElem?_append_left (by omega)] at ho'; exact ho'
        obtain ⟨s0, sb⟩ := p1 k o hj
        rw [Nat.zero_add] at s0 sb
        refine ⟨x, fun _ _ _ => rfl, ?_⟩
        rw [hpre x k (by omega), show vs x k = vs1 k from if_pos hlt]
        cases x with
        | none => exact s0.fam hSk hcl hafter hI
        | some b => exact (sb b).fam hSk hcl hafter hI
      · subst heq
        obtain rfl := Option.some.inj (hla.symm.trans ho')
        cases x with
        | some b =>
          have : S k = true := hI.1
          rw [hSk] at this; cases this
        | none =>
          refine ⟨some w.heap.size, fun j hjn hj => ?_, ?_⟩
          · by_cases hjl : j < k
            · show (if j < k then _ else _) = (if j < k then _ else _)
              rw [if_pos hjl, if_pos hjl]
            · exfalso
              by_cases hjk : j = k
              · rw [hjk, hSk] at hj; cases hj
              · have := hcl.chain 9 j k (hreach j (by simpa using hjn) (by omega)) hj
                rw [hSk] at this; cases this
          · rw [hpre (some w.heap.size) k (Nat.le_refl _)]
            have ea : vs (some w.heap.size) k = .pointer (some ⟨w.heap.size, 0, none⟩) := by
              show (if k < k then _ else if k = k then _ else _) = _
              rw [if_neg (Nat.lt_irrefl _), if_pos rfl]
            rw [ea]
            exact .inl ⟨pw, (pa S w hSk hcl hI.2).imp fun w' hw' => ⟨by simp [ins], hw'⟩⟩
      · cases x with
        | none =>
          have : S al = false := hI.1
          rw [hno hgt] at this; cases this
        | some b =>
          obtain ⟨j, rfl⟩ : ∃ j, k = al + 1 + j := ⟨k - (al + 1), by omega⟩
          have s2 := (q2 b).1 j o ((hl2 j).trans ho')
          refine ⟨some b, fun _ _ _ => rfl, ?_⟩
          rw [hpost b j, show vs (some b) (al + 1 + j) = vs2 b (al + 1 + j) by
            show (if al + 1 + j < al then _ else if al + 1 + j = al then _ else _) = _
            rw [if_neg (by omega), if_neg (by omega)]]
          exact s2.fam hSk hcl hafter hI)
    (fun x S w' hS' hI => by
      have hsz : l.toArray.size = al + 1 + l2.length := by simpa using hlen
      cases x with
      | none =>
        have h1 : S al = false := hI.1
        have h2 := hS' al (by omega)
        rw [h1] at h2; cases h2
      | some b =>
        rw [hsz, hpost b l2.length]
        exact (q2 b).2 S w' (by simpa using hS') hI.2)
    l.toArray.size none (Array.replicate l.toArray.size false) w.drew (by simp) (by
      have : ∀ n, cnt (Array.replicate l.toArray.size false) n ≤ n := fun n => by
        induction n with
        | zero => simp [cnt]
        | succ n ih => unfold cnt; split <;> omega
      exact this _) (fun j o _ hSj => by rw [hS] at hSj; cases hSj) (by rw [hS]; exact ⟨rfl, h0⟩)
  rw [hS, putAll_none _ _ (fun _ _ => rfl)] at key
  exact wp_region_any hm key
end fam
end Go.Proofs.Yteelconabmfnkaa

/- Regions that draw their order and end in operations that wait for all that stands ahead of them: from there on the walk goes on one by one. No program is named here. -/
namespace Go.Proofs.Yteelconabmfnkaa
open Go
set_option linter.unusedVariables false
section tail
variable {P : Program} {ops : Array Oper}
theorem reaches_stuck {k k' : Nat} {S : Nat → Bool} {o : Oper} (ho : ops[k]? = some o) (hne : k ≠ k') (hr : reaches ops 9 k k' = true) (hc : closedS ops S) (ha : ∀ e ∈ o.after, Region.binds .any e = true → S e.on = true) : S k' = true := by
  obtain ⟨e, he, hb, hr'⟩ := reaches_step ho hne hr
  exact hc.chain 8 e.on k' hr' (ha e he hb)
theorem wpAny_tail {Q : Exit → Act → World → Prop} {n1 : Nat} (hB : setsB ops = true) (hT : ∀ k, n1 ≤ k → k < ops.size → ∀ k' < k, reaches ops 9 k k' = true) :
    ∀ (r n m : Nat) (listed : Array Bool) (a : Act) (w : World), listed.size = ops.size → n1 ≤ n → n + r = ops.size → r ≤ m → (∀ j < n, Sof listed j = true) → (∀ j, n ≤ j → Sof listed j = false) →
      wpOps P ops Q (List.range' n r) a w → wpAny P .any ops Q m listed a w := by
  obtain ⟨hsel, hlt, hpair⟩ := setsB_spec hB
  intro r
  induction r with
  | zero =>
    intro n m listed a w hsz h1 hn hm hlo hhi h
    have hr : Region.ready .any ops listed = [] := by
      cases hr : Region.ready .any ops listed with
      | nil => rfl
      | cons j _ =>
        obtain ⟨h1, o, ho, _⟩ := mem_ready.1 (show j ∈ Region.ready .any ops listed by rw [hr]; simp)
        have hj := (Array.getElem?_eq_some_iff.1 ho).1
        have h2 : listed.getD j false = true := hlo j (by omega)
        simp [show j < listed.size by omega] at h1 h2
        rw [h1] at h2
        cases h2
    exact wpAny_done hr (by simpa [wpOps] using h) m
  | succ r ih =>
    intro n m listed a w hsz h1 hn hm hlo hhi h
    obtain ⟨m, rfl⟩ : ∃ m', m = m' + 1 := ⟨m - 1, by omega⟩
    have hnn : n < ops.size := by omega
    have hno : ops[n]? = some ops[n] := Array.getElem?_eq_getElem hnn
    have hnl : listed.getD n false = false := hhi n (Nat.le_refl _)
    have hcl : closedS ops (Sof listed) := fun j o ho hj e he hb => by
      have hjn : j < n := by
        rcases Nat.lt_or_ge j n with h | h
        · exact h
        · rw [hhi j h] at hj; cases hj
      exact hlo _ (by have := hlt j o ho e he hb; omega)
    have hmem : n ∈ Region.ready .any ops listed := mem_ready.2 ⟨by
      simp [show n < listed.size by omega] at hnl ⊢; exact hnl, _, hno, fun e he hb => hlo _ (hlt n _ hno e he hb)⟩
    refine ⟨(fun hr => by rw [hr] at hmem; cases hmem), fun i hi => ?_⟩
    obtain ⟨hi1, o, ho, hall⟩ := mem_ready.1 hi
    have hin := (Array.getElem?_eq_some_iff.1 ho).1
    have hi2 : Sof listed i = false := by
      simp [show i < listed.size by omega] at hi1
      simp [Sof, show i < listed.size by omega, hi1]
    have hge : n ≤ i := by
      rcases Nat.lt_or_ge i n with h | h
      · rw [hlo i h] at hi2; cases hi2
      · exact h
    have hieq : i = n := by
      rcases Nat.lt_or_eq_of_le hge with h | h
      · have := reaches_stuck ho (by omega) (hT i (by omega) hin n h) hcl (fun e he hb => hall e he hb)
        rw [hhi n (Nat.le_refl _)] at this; cases this
      · exact h.symm
    subst hieq
    rw [List.range'_succ, wpOps_cons] at h
    refine wpOp_mono (fun a' w' h' => ?_) h
    have hS := Sof_set (listed := listed) (i := i) (by omega)
    exact ih (i + 1) m _ a' w' (by simpa using hsz) (by omega) (by omega) (by omega) (fun j hj => by
      rw [hS]; simp only [ins, Bool.or_eq_true, beq_iff_eq]
      by_cases hji : j = i
      · exact .inl hji
      · exact .inr (hlo j (by omega))) (fun j hj => by
      rw [hS]; simp only [ins, Bool.or_eq_false_iff]
      exact ⟨by simp; omega, hhi j (by omega)⟩) h'
theorem wpAny_of_famT {β : Type} {I : β → (Nat → Bool) → World → Prop} {Q : Exit → Act → World → Prop} {a : Act} {vs : β → Nat → Value} (hB : setsB ops = true)
    {n1 : Nat} (hn1 : n1 ≤ ops.size) (hT : ∀ k, n1 ≤ k → k < ops.size → ∀ k' < k, reaches ops 9 k k' = true)
    (hv : ∀ k o, k < n1 → ops[k]? = some o → ∀ x S w, S k = false → closedS ops S → (∀ e ∈ o.after, Region.binds .any e = true → S e.on = true) → I x S w → ∃ y, (∀ j < ops.size, S j = true → vs y j = vs x j) ∧
      famStep P ops (I y) k o (putAll ops (vs y) (fun _ => true) (List.range k) a) (vs y k) S w)
    (hQ : ∀ x S w, (∀ i < n1, S i = true) → I x S w → wpOps P ops Q (List.range' n1 (ops.size - n1)) (putAll ops (vs x) (fun _ => true) (List.range n1) a) w) :
    ∀ (m : Nat) (x : β) (listed : Array Bool) (w : World), listed.size = ops.size → cnt listed ops.size ≤ m → (∀ j, n1 ≤ j → Sof listed j = false) →
      (∀ j o, ops[j]? = some o → Sof listed j = true → ∀ e ∈ o.after, Region.binds .any e = true → Sof listed e.on = true) → I x (Sof listed) w →
      wpAny P .any ops Q m listed (putAll ops (vs x) (Sof listed) (List.range ops.size) a) w := by
  obtain ⟨hsel, hlt, hpair⟩ := setsB_spec hB
  have hdone : ∀ x (m : Nat) (listed : Array Bool) w, listed.size = ops.size → cnt listed ops.size ≤ m → (∀ j, n1 ≤ j → Sof listed j = false) → cnt listed n1 = 0 → I x (Sof listed) w → wpAny P .any ops Q m listed (putAll ops (vs x) (Sof listed) (List.range ops.size) a) w := fun x m listed w hsz hm hhi h0 hI => by
    have hall := cnt_zero _ h0
    have e : putAll ops (vs x) (Sof listed) (List.range ops.size) a = putAll ops (vs x) (fun _ => true) (List.range n1) a := by
      have hsplit : List.range ops.size = List.range n1 ++ List.range' n1 (ops.size - n1) := by
        have := List.range'_append_1 (s := 0) (m := n1) (n := ops.size - n1)
        rw [Nat.zero_add, Nat.add_sub_cancel' (by omega)] at this
        rw [List.range_eq_range', List.range_eq_range', this]
      rw [hsplit, putAll_append, putAll_none (List.range' n1 _) _ fun j hj => hhi j (List.mem_range'_1.1 hj).1]
      exact putAll_congr _ _ fun j hj => ⟨hall j (List.mem_range.1 hj), rfl⟩
    rw [e]
    have hc : ∀ n, cnt listed (n1 + n) = n := fun n => by
      induction n with
      | zero => exact h0
      | succ n ih =>
        show cnt listed (n1 + n) + (if Sof listed (n1 + n) = true then 0 else 1) = n + 1
        rw [ih, if_neg (by rw [hhi _ (by omega)]; simp)]
    have := hc (ops.size - n1)
    rw [Nat.add_sub_cancel' hn1] at this
    exact wpAny_tail hB hT (ops.size - n1) n1 m listed _ w hsz (Nat.le_refl _) (by omega) (by omega) hall hhi (hQ x _ _ hall hI)
  intro m
  induction m with
  | zero =>
    intro x listed w hsz hc hhi hcl hI
    refine hdone x 0 listed w hsz hc hhi ?_ hI
    have hmono : ∀ n, cnt listed n1 ≤ cnt listed (n1 + n) := fun n => by
      induction n with
      | zero => exact Nat.le_refl _
      | succ n ih => exact Nat.le_trans ih (by show _ ≤ cnt listed (n1 + n) + _; omega)
    have := hmono (ops.size - n1)
    rw [Nat.add_sub_cancel' hn1] at this
    omega
  | succ m ih =>
    intro x listed w hsz hc hhi hcl hI
    by_cases h00 : cnt listed n1 = 0
    · exact hdone x (m + 1) listed w hsz hc hhi h00 hI
    obtain ⟨u, hu, hu1, hu2⟩ := cnt_pos _ h00
    have huo : ops[u]? = some ops[u] := Array.getElem?_eq_getElem (by omega)
    have humem : u ∈ Region.ready .any ops listed := mem_ready.2 ⟨by
        have : listed.getD u false = false := hu1
        simp [show u < listed.size by omega] at this ⊢; exact this, _, huo, fun e he hb => hu2 _ (hlt u _ huo e he hb)⟩
    refine ⟨(fun hr => by rw [hr] at humem; cases humem), fun i hi => ?_⟩
    obtain ⟨h1, o, ho, hall⟩ := mem_ready.1 hi
    have hin := (Array.getElem?_eq_some_iff.1 ho).1
    have hil : i < listed.size := by omega
    have hSi : Sof listed i = false := by
      simp [hil] at h1
      simp [Sof, hil, h1]
    have hi1 : i < n1 := by
      rcases Nat.lt_or_ge i n1 with h | h
      · exact h
      · have := reaches_stuck ho (by omega) (hT i h hin u (by omega)) hcl (fun e he hb => hall e he hb)
        rw [hu1] at this; cases this
    obtain ⟨y, hagree, hst⟩ := hv i o hi1 ho x (Sof listed) w hSi hcl (fun e he hb => hall e he hb) hI
    have hxy : putAll ops (vs x) (Sof listed) (List.range ops.size) a = putAll ops (vs y) (Sof listed) (List.range ops.size) a := putAll_agree _ _ fun j hjm hj => (hagree j (List.mem_range.1 hjm) hj).symm
    rw [hxy]
    -- who writes what this operation looks at
    have hw : ∀ t ∈ o.looksAt ops, (putAll ops (vs y) (Sof listed) (List.range ops.size) a).tmps[t]? = (putAll ops (vs y) (fun _ => true) (List.range i) a).tmps[t]? := fun t ht => by
      have e : putAll ops (vs y) (fun _ => true) (List.range i) a = putAll ops (vs y) (fun j => decide (j < i)) (List.range ops.size) a := by
        have hsplit : List.range ops.size = List.range i ++ List.range' i (ops.size - i) := by
          have := List.range'_append_1 (s := 0) (m := i) (n := ops.size - i)
          rw [Nat.zero_add, Nat.add_sub_cancel' (by omega)] at this
          rw [List.range_eq_range', List.range_eq_range', this]
        rw [hsplit, putAll_append, putAll_none (List.range' i _) _ fun j hj => decide_eq_false (by have := (List.mem_range'_1.1 hj).1; omega)]
        exact putAll_congr _ _ fun j hj => ⟨(decide_eq_true (List.mem_range.1 hj)).symm, rfl⟩
      rw [e]
      refine putAll_look _ _ _ rfl fun j hj hd => ?_
      have hjn := List.mem_range.1 hj
      have hjo : ops[j]? = some ops[j] := Array.getElem?_eq_getElem hjn
      have hdj : ops[j].dst = some t := by simpa [dstAt, hjo] using hd
      rcases Nat.lt_trichotomy j i with h | h | h
      · rw [decide_eq_true h]
        rcases hpair j i _ _ hjo ho h with ⟨e, he, hb, hon⟩ | hap
        · rw [← hon]; exact hall e he hb
        · exact absurd ht ((Oper.apart_spec hap).1 t hdj)
      · subst h
        rw [hSi]; simp
      · rw [decide_eq_false (by omega)]
        cases hSj : Sof listed j
        · rfl
        · rcases hpair i j _ _ ho hjo h with ⟨e, he, hb, hon⟩ | hap
          · have := hcl j _ hjo hSj e he hb
            rw [hon, hSi] at this
            cases this
          · exact absurd ht ((Oper.apart_spec hap).2.2 t hdj)
    -- the frame behind it
    have hput : (putAll ops (vs y) (Sof listed) (List.range ops.size) a).put o.dst (vs y i) = putAll ops (vs y) (Sof (listed.setIfInBounds i true)) (List.range ops.size) a := by
      have hsplit : List.range ops.size = List.range i ++ i :: List.range' (i + 1) (ops.size - (i + 1)) := by
        rw [List.range_eq_range', List.range_eq_range']
        have := List.range'_append_1 (s := 0) (m := i) (n := ops.size - i)
        rw [Nat.zero_add, Nat.add_sub_cancel' (by omega)] at this
        rw [← this, show ops.size - i = (ops.size - (i + 1)) + 1 by omega, List.range'_succ]
      have hd : dstAt ops i = o.dst := by simp [dstAt, ho]
      rw [hsplit, putAll_append, putAll_append, Sof_set hil]
      simp only [putAll, hSi, ins, beq_self_eq_true, Bool.true_or, if_true, Bool.false_eq_true, if_false, hd]
      have hA : putAll ops (vs y) (ins (Sof listed) i) (List.range i) a = putAll ops (vs y) (Sof listed) (List.range i) a :=
        putAll_congr _ _ fun j hj => ⟨by have := List.mem_range.1 hj; simp [ins, show j ≠ i by omega], rfl⟩
      have hC : ∀ b, putAll ops (vs y) (ins (Sof listed) i) (List.range' (i + 1) (ops.size - (i + 1))) b = putAll ops (vs y) (Sof listed) (List.range' (i + 1) (ops.size - (i + 1))) b := fun b =>
        putAll_congr _ _ fun j hj => ⟨by have := (List.mem_range'_1.1 hj).1; simp [ins, show j ≠ i by omega], rfl⟩
      rw [hA, hC, putAll_put]
      intro j hj hSj x hx hdj
      have hjb := List.mem_range'_1.1 hj
      have hjn : j < ops.size := by omega
      have hjo : ops[j]? = some ops[j] := Array.getElem?_eq_getElem hjn
      rcases hpair i j _ _ ho hjo (by omega) with ⟨e, he, hb, hon⟩ | hap
      · have := hcl j _ hjo hSj e he hb
        rw [hon, hSi] at this
        cases this
      · exact (Oper.apart_spec hap).2.1 x hx (by simpa [dstAt, hjo] using hdj)
    have hnext : ∀ w', I y (ins (Sof listed) i) w' → wpAny P .any ops Q m (listed.setIfInBounds i true) ((putAll ops (vs y) (Sof listed) (List.range ops.size) a).put o.dst (vs y i)) w' := fun w' hI' => by
      rw [hput]
      refine ih y _ _ (by simpa using hsz) ?_ (fun j hj => by rw [Sof_set hil]; simp only [ins, Bool.or_eq_false_iff]; exact ⟨by simp; omega, hhi j hj⟩) (fun j p hp hSj e he hb => ?_) (by rw [Sof_set hil]; exact hI')
      · have := cnt_set hil hSi ops.size
        rw [if_pos hin] at this
        omega
      · rw [Sof_set hil] at hSj ⊢
        by_cases hji : j = i
        · subst hji
          obtain rfl := Option.some.inj (hp.symm.trans ho)
          simp [ins, show Sof listed e.on = true from hall e he hb]
        · have hSj' : Sof listed j = true := by simpa [ins, hji] using hSj
          simp [ins, hcl j p hp hSj' e he hb]
    have hns : ∀ cs b, o.op ≠ .select cs b := fun cs b => Region.noSelect_spec hsel i o cs b ho
    unfold wpOp
    simp only [ho]
    rw [same_wanted hw]
    rcases hst with ⟨hwt, hst⟩ | ⟨hwt, hvu, hst⟩
    · rw [if_pos hwt]
      refine .inl (wp_of_opTo (v := vs y i) (N := I y (ins (Sof listed) i)) ?_ hnext)
      unfold opTo at hst ⊢
      rw [same_op hns hw]
      exact hst
    · rw [if_neg (by rw [hwt]; exact Bool.false_ne_true)]
      have := hnext w hst
      rwa [hvu] at this


/-- the lexical walk of the operations ahead of the allocation -/
def wpPreG (P : Program) (ops : Array Oper) (I0 : (Nat → Bool) → World → Prop) {β : Type} (J : β → (Nat → Bool) → World → Prop) (al : Nat) (Q : Act → Prop) : Nat → List Oper → Act → Prop
  | _, [], a => Q a
  | k, o :: rest, a => ∃ v, (stepOk P ops (fun S w => S al = false ∧ I0 S w) k o a v ∧ ∀ b, stepOk P ops (fun S w => S al = true ∧ J b S w) k o a v) ∧ wpPreG P ops I0 J al Q (k + 1) rest (a.put o.dst v)
theorem wpPreG_values {I0 : (Nat → Bool) → World → Prop} {β : Type} {J : β → (Nat → Bool) → World → Prop} {al : Nat} {Q : Act → Prop} : ∀ (l : List Oper) (k : Nat) (a : Act), (∀ j o, l[j]? = some o → ops[k + j]? = some o) → wpPreG P ops I0 J al Q k l a →
    ∃ vs : Nat → Value, (∀ j o, l[j]? = some o → (stepOk P ops (fun S w => S al = false ∧ I0 S w) (k + j) o (putAll ops vs (fun _ => true) (List.range' k j) a) (vs (k + j)) ∧
      ∀ b, stepOk P ops (fun S w => S al = true ∧ J b S w) (k + j) o (putAll ops vs (fun _ => true) (List.range' k j) a) (vs (k + j)))) ∧ Q (putAll ops vs (fun _ => true) (List.range' k l.length) a)
  | [], k, a, _, h => ⟨fun _ => undef, fun j o hj => by simp at hj, h⟩
  | o :: l, k, a, hl, h => by
    obtain ⟨v, hv, hr⟩ := h
    have h0 : ops[k]? = some o := by simpa using hl 0 o rfl
    have hd : dstAt ops k = o.dst := by simp [dstAt, h0]
    obtain ⟨vs, h1, h2⟩ := wpPreG_values l (k + 1) _ (fun j p hj => by have := hl (j + 1) p (by simpa using hj); simpa [Nat.add_assoc, Nat.add_comm 1 j] using this) hr
    have key : ∀ (m : Nat) (b : Act), putAll ops (fun j => if j = k then v else vs j) (fun _ => true) (List.range' (k + 1) m) b = putAll ops vs (fun _ => true) (List.range' (k + 1) m) b := fun m b =>
      putAll_congr _ _ fun j hj => ⟨rfl, by have := (List.mem_range'_1.1 hj).1; exact if_neg (by omega)⟩
    refine ⟨fun j => if j = k then v else vs j, fun j p hj => ?_, ?_⟩
    · cases j with
      | zero =>
        simp at hj
        subst hj
        simpa [putAll] using hv
      | succ j =>
        have := h1 j p (by simpa using hj)
        rw [List.range'_succ, putAll, if_pos rfl, hd, if_pos rfl, key]
        show stepOk P ops _ (k + (j + 1)) p _ (if k + (j + 1) = k then v else vs (k + (j + 1))) ∧ ∀ b, stepOk P ops _ (k + (j + 1)) p _ (if k + (j + 1) = k then v else vs (k + (j + 1)))
        rw [if_neg (by omega), show k + (j + 1) = k + 1 + j by omega]
        exact this
    · rw [List.length_cons, List.range'_succ, putAll, if_pos rfl, hd, if_pos rfl, key]
      exact h2
def tailB (ops : Array Oper) (n1 : Nat) : Bool := (List.range ops.size).all fun k => decide (k < n1) || (List.range k).all fun j => reaches ops 9 k j
theorem tailB_spec {n1 : Nat} (h : tailB ops n1 = true) : ∀ k, n1 ≤ k → k < ops.size → ∀ k' < k, reaches ops 9 k k' = true := fun k hk hn k' hk' => by
  have := List.all_eq_true.1 h k (List.mem_range.2 hn)
  rw [Bool.or_eq_true] at this
  rcases this with h | h
  · exact absurd (of_decide_eq_true h) (by omega)
  · exact List.all_eq_true.1 h k' (List.mem_range.2 hk')
theorem Sof_none (n : Nat) : Sof (Array.replicate n false) = fun _ => false := by
  funext j
  unfold Sof
  rcases Nat.lt_or_ge j n with h | h <;> simp [h]
theorem cnt_le (listed : Array Bool) : ∀ n, cnt listed n ≤ n
  | 0 => Nat.le_refl _
  | n + 1 => by have := cnt_le listed n; unfold cnt; split <;> omega
/-- A region that draws its order; behind l1 each operation waits for all that stands ahead of it. -/
theorem wp_region_tail {id : Nat} (l1 l2 : List Oper) {Q : Exit → Act → World → Prop} {a : Act} {w : World} (I : (Nat → Bool) → World → Prop)
    (hm : P.follows .mixedOrders = true) (hB : setsB (l1 ++ l2).toArray = true) (hT : tailB (l1 ++ l2).toArray l1.length = true) (h0 : I (fun _ => false) w.drew)
    (h : wpSets P (l1 ++ l2).toArray I (fun a' => ∀ S w', (∀ i < l1.length, S i = true) → I S w' → wpList P (l1 ++ l2).toArray Q l2 a' w') 0 l1 a) :
    (Code.region id (l1 ++ l2).toArray true).wp P Q a w := by
  obtain ⟨ops, hops⟩ : ∃ ops, (l1 ++ l2).toArray = ops := ⟨_, rfl⟩
  have hl1 : ∀ j, j < l1.length → l1[j]? = ops[j]? := fun j hj => by rw [← hops]; simp [List.getElem?_append_left hj]
  have hl2 : ∀ j, l2[j]? = ops[l1.length + j]? := fun j => by
    rw [← hops, List.getElem?_toArray, List.getElem?_append_right (by omega), show l1.length + j - l1.length = j by omega]
  have hsz : ops.size = l1.length + l2.length := by rw [← hops]; simp
  rw [hops] at hB hT h ⊢
  have hpre : ∀ (l : List Oper) (k : Nat) (a : Act), (∀ j o, l[j]? = some o → ops[k + j]? = some o) → wpSets P ops I (fun a' => ∀ S w', (∀ i < l1.length, S i = true) → I S w' → wpList P ops Q l2 a' w') k l a →
      ∃ vs : Nat → Value, (∀ j o, l[j]? = some o → stepOk P ops I (k + j) o (putAll ops vs (fun _ => true) (List.range' k j) a) (vs (k + j))) ∧
        ∀ S w', (∀ i < l1.length, S i = true) → I S w' → wpList P ops Q l2 (putAll ops vs (fun _ => true) (List.range' k l.length) a) w' := by
    intro l
    induction l with
    | nil => exact fun k a _ h => ⟨fun _ => undef, fun j o hj => by simp at hj, h⟩
    | cons o l ih =>
      intro k a hl h
      obtain ⟨v, hv, hr⟩ := h
      have h0 : ops[k]? = some o := by simpa using hl 0 o rfl
      have hd : dstAt ops k = o.dst := by simp [dstAt, h0]
      obtain ⟨vs, h1, h2⟩ := ih (k + 1) _ (fun j p hj => by have := hl (j + 1) p (by simpa using hj); simpa [Nat.add_assoc, Nat.add_comm 1 j] using this) hr
      have key : ∀ (m : Nat) (b : Act), putAll ops (fun j => if j = k then v else vs j) (fun _ => true) (List.range' (k + 1) m) b = putAll ops vs (fun _ => true) (List.range' (k + 1) m) b := fun m b =>
        putAll_congr _ _ fun j hj => ⟨rfl, by have := (List.mem_range'_1.1 hj).1; exact if_neg (by omega)⟩
      refine ⟨fun j => if j = k then v else vs j, fun j p hj => ?_, ?_⟩
      · cases j with
        | zero =>
          simp at hj
          subst hj
          simpa [putAll] using hv
        | succ j =>
          have := h1 j p (by simpa using hj)
          rw [List.range'_succ, putAll, if_pos rfl, hd, if_pos rfl, key]
          show stepOk P ops I (k + (j + 1)) p _ (if k + (j + 1) = k then v else vs (k + (j + 1)))
          rw [if_neg (by omega), show k + (j + 1) = k + 1 + j by omega]
          exact this
      · rw [List.length_cons, List.range'_succ, putAll, if_pos rfl, hd, if_pos rfl, key]
        exact h2
  obtain ⟨vs, p1, p2⟩ := hpre l1 0 a (fun j o hj => by rw [Nat.zero_add, ← hl1 j (List.getElem?_eq_some_iff.1 hj).1]; exact hj) h
  have key := wpAny_of_famT (P := P) (β := Unit) (I := fun _ S w => I S w) (Q := Q) (a := a) (vs := fun _ => vs) hB (n1 := l1.length) (by omega) (tailB_spec hT)
    (fun k o hk ho x S w hSk hcl hafter hI => ⟨(), fun _ _ _ => rfl, by
      have := p1 k o ((hl1 k hk).trans ho)
      rw [Nat.zero_add, ← List.range_eq_range'] at this
      exact this.fam hSk hcl hafter hI⟩)
    (fun x S w' hS' hI => by
      have e : wpOps P ops Q (List.range' l1.length (ops.size - l1.length)) = wpList P ops Q l2 := by
        rw [show ops.size - l1.length = l2.length by omega]
        exact wpOps_eq_wpList l2 l1.length hl2
      rw [e, List.range_eq_range']
      exact p2 S w' hS' hI)
    ops.size () (Array.replicate ops.size false) w.drew (by simp) (cnt_le _ _) (fun j _ => by rw [Sof_none]) (fun j o _ hSj => by rw [Sof_none] at hSj; cases hSj) (by rw [Sof_none]; exact h0)
  rw [Sof_none, putAll_none _ _ (fun _ _ => rfl)] at key
  exact wp_region_any hm key
/-- A region that draws its order and holds one operation (number l1.length) whose value is known when it is done; behind it each operation waits for all that stands ahead of it. -/
theorem wp_region_ghost {id : Nat} (l1 l2 : List Oper) {oa : Oper} {β : Type} (fv : β → Value) {Q : Exit → Act → World → Prop} {a : Act} {w : World} (I0 : (Nat → Bool) → World → Prop) (J : β → (Nat → Bool) → World → Prop)
    (hm : P.follows .mixedOrders = true) (hB : setsB (l1 ++ oa :: l2).toArray = true) (hT : tailB (l1 ++ oa :: l2).toArray (l1.length + 1) = true) (h0 : I0 (fun _ => false) w.drew)
    (h : wpPreG P (l1 ++ oa :: l2).toArray I0 J l1.length (fun a1 => Region.wanted oa (yielded (l1 ++ oa :: l2).toArray a1.tmps) = true ∧
      (∀ S w, S l1.length = false → closedS (l1 ++ oa :: l2).toArray S → (∀ e ∈ oa.after, Region.binds .any e = true → S e.on = true) → I0 S w → ∃ b, opTo P oa a1 w (fv b) (J b (ins S l1.length))) ∧
      ∀ b S w', (∀ i < l1.length + 1, S i = true) → J b S w' → wpList P (l1 ++ oa :: l2).toArray Q l2 (a1.put oa.dst (fv b)) w') 0 l1 a) :
    (Code.region id (l1 ++ oa :: l2).toArray true).wp P Q a w := by
  obtain ⟨al, hal⟩ : ∃ n, l1.length = n := ⟨_, rfl⟩
  obtain ⟨ops, hops⟩ : ∃ ops, (l1 ++ oa :: l2).toArray = ops := ⟨_, rfl⟩
  have hl1 : ∀ j, j < l1.length → l1[j]? = ops[j]? := fun j hj => by rw [← hops]; simp [List.getElem?_append_left hj]
  have hla : ops[al]? = some oa := by rw [← hops, ← hal]; simp
  have hl2 : ∀ j, l2[j]? = ops[al + 1 + j]? := fun j => by
    rw [← hops, List.getElem?_toArray, List.getElem?_append_right (by omega), show al + 1 + j - l1.length = j + 1 by omega]; simp
  have hsz : ops.size = al + 1 + l2.length := by rw [← hops, ← hal]; simp; omega
  rw [hops] at hB hT h ⊢
  rw [hal] at hT h
  obtain ⟨vs1, p1, pw, pa, p2⟩ := wpPreG_values l1 0 a (fun j o hj => by rw [Nat.zero_add, ← hl1 j (List.getElem?_eq_some_iff.1 hj).1]; exact hj) h
  rw [hal] at pw pa p2
  let vs : Option β → Nat → Value := fun x k => if k < al then vs1 k else match x with
    | none => undef
    | some b => fv b
  let I : Option β → (Nat → Bool) → World → Prop := fun x => match x with
    | none => fun S w => S al = false ∧ I0 S w
    | some b => fun S w => S al = true ∧ J b S w
  have hpre : ∀ x k, k ≤ al → putAll ops (vs x) (fun _ => true) (List.range k) a = putAll ops vs1 (fun _ => true) (List.range' 0 k) a := fun x k hk => by
    rw [List.range_eq_range']
    exact putAll_congr _ _ fun j hj => ⟨rfl, if_pos (by have := (List.mem_range'_1.1 hj).2; omega)⟩
  have hda : dstAt ops al = oa.dst := by simp [dstAt, hla]
  have key := wpAny_of_famT (P := P) (β := Option β) (I := I) (Q := Q) (a := a) (vs := vs) hB (n1 := al + 1) (by omega) (tailB_spec hT)
    (fun k o hk ho x S w hSk hcl hafter hI => by
      rcases Nat.lt_or_eq_of_le (Nat.le_of_lt_succ hk) with hlt | heq
      · have hj : l1[k]? = some o := (hl1 k (by omega)).trans ho
        obtain ⟨s0, sb⟩ := p1 k o hj
        rw [Nat.zero_add] at s0 sb
        refine ⟨x, fun _ _ _ => rfl, ?_⟩
        rw [hpre x k (by omega), show vs x k = vs1 k from if_pos hlt]
        cases x with
        | none => exact s0.fam hSk hcl hafter hI
        | some b => exact (sb b).fam hSk hcl hafter hI
      · subst heq
        obtain rfl := Option.some.inj (hla.symm.trans ho)
        cases x with
        | some b =>
          have : S k = true := hI.1
          rw [hSk] at this; cases this
        | none =>
          obtain ⟨b, hb⟩ := pa S w hSk hcl hafter hI.2
          refine ⟨some b, fun j hjn hj => ?_, ?_⟩
          · by_cases hjl : j < k
            · show (if j < k then _ else _) = (if j < k then _ else _)
              rw [if_pos hjl, if_pos hjl]
            · exfalso
              by_cases hjk : j = k
              · rw [hjk, hSk] at hj; cases hj
              · have := hcl.chain 9 j k (tailB_spec hT j (by omega) hjn k (by omega)) hj
                rw [hSk] at this; cases this
          · rw [hpre (some b) k (Nat.le_refl _)]
            have ea : vs (some b) k = fv b := by
              show (if k < k then _ else _) = _
              rw [if_neg (Nat.lt_irrefl _)]
            rw [ea]
            exact .inl ⟨pw, hb.imp fun w' hw' => ⟨by simp [ins], hw'⟩⟩)
    (fun x S w' hS' hI => by
      have e : wpOps P ops Q (List.range' (al + 1) (ops.size - (al + 1))) = wpList P ops Q l2 := by
        rw [show ops.size - (al + 1) = l2.length by omega]
        exact wpOps_eq_wpList l2 (al + 1) hl2
      rw [e]
      cases x with
      | none =>
        have h1 : S al = false := hI.1
        have h2 := hS' al (by omega)
        rw [h1] at h2; cases h2
      | some b =>
        have hs : List.range (al + 1) = List.range al ++ [al] := List.range_succ
        have ea : vs (some b) al = fv b := by
          show (if al < al then _ else _) = _
          rw [if_neg (Nat.lt_irrefl _)]
        rw [hs, putAll_append, hpre (some b) al (Nat.le_refl _)]
        simp only [putAll, if_true, hda, ea]
        exact p2 b S w' hS' hI.2)
    ops.size none (Array.replicate ops.size false) w.drew (by simp) (cnt_le _ _) (fun j _ => by rw [Sof_none]) (fun j o _ hSj => by rw [Sof_none] at hSj; cases hSj) (by rw [Sof_none]; exact ⟨rfl, h0⟩)
  rw [Sof_none, putAll_none _ _ (fun _ _ => rfl)] at key
  exact wp_region_any hm key
theorem sets_nil {I : (Nat → Bool) → World → Prop} {Q : Act → Prop} {k : Nat} {o : Oper} {rest : List Oper} {a : Act} (hw : Region.wanted o (yielded ops a.tmps) = true) (hI : ∀ S w, S k = false → I S w → I (ins S k) w) (x : Operand) (ho : o.op = .nilCheck x) (p : Addr) (hx : a.eval x = .pointer (some p))
    (h : wpSets P ops I Q (k + 1) rest (a.put o.dst (.pointer (some p)))) : wpSets P ops I Q k (o :: rest) a := by
  refine ⟨.pointer (some p), .inl ⟨hw, fun S w hS _ _ hIw => ?_⟩, h⟩
  unfold opTo execOp
  simp only [ho, hx, Sem.run_pure]
  exact ⟨rfl, hI S w hS hIw⟩
end tail
end Go.Proofs.Yteelconabmfnkaa
