/- Regions that draw their order, in a round of a range over a function: the laws of XK and XKt there. No program is named here. -/
import Derived.Test.YteelconabmfnkaaKka
import Derived.Test.YteelconabmfnkaaKg
import Derived.OrdersIn
import Derived.TacticsIn
import Derived.RangeFuncCalls
namespace Go.Proofs.Yteelconabmfnkaa
open Go
set_option linter.unusedVariables false
section
variable {P : Program} {ops : Array Oper}
def noDefer (l : List Oper) : Bool := l.all fun o => match o.op with | .defer _ => false | _ => true
theorem noDefer_at {l : List Oper} (h : noDefer l = true) {i : Nat} {o : Oper} (ho : l[i]? = some o) : ∀ c, o.op ≠ .defer c := fun c e => by
  have := List.all_eq_true.1 h o (List.mem_of_getElem? ho)
  simp [e] at this
theorem rowsIn_round {P : Program} {row : String} {args : Array Value} {w : World} {R : Value → World → Prop} (l n : Nat) (h : Rows P row args w R) : RowsIn (Fence.wide.inRound l) n P row args w R := fun c cs _ => by
  obtain ⟨v, w', r, s⟩ := h c cs
  exact ⟨v, w', r, stepsIn_wide.2 s⟩
theorem oper_in {o : Oper} {a : Act} {w : World} {K : Act → World → Prop} {Q : Exit → Act → World → Prop} (l n : Nat) (hd : ∀ c, o.op ≠ .defer c) (h : o.wp P a w K Q) : o.wpIn (Fence.wide.inRound l) n P a w K Q := by
  refine ⟨fun f _ => trivial, ?_⟩
  rw [show (Fence.wide.inRound l).round = some l from rfl, Oper.semAt_some l _ _ hd]
  unfold Oper.wp at h
  generalize (execOp a.eval o).run P w = r at *
  have hdp : (Fence.wide.inRound l).depth.isSome = true → 1 ≤ n := fun h => by cases h
  cases r with
  | ok x w' =>
    cases x <;> simp only [Oper.upon] at h <;> simp only [Oper.uponIn]
    case value u => exact h
    case skip => exact h
    case defer d => exact h
    case enter f args => exact ⟨hdp, CallsIn.inRound l (callsIn_wide.2 h)⟩
    case row row args => exact ⟨hdp, rowsIn_round l _ h⟩
  | halt x w' => cases x <;> simp only [Oper.upon] at h <;> simp only [Oper.uponIn] <;> exact h
theorem wpAny_in {Q : Exit → Act → World → Prop} (l n : Nat) (hd : noDefer ops.toList = true) (hQ : ∀ a w, Q .outgrown a w → False) : ∀ (m : Nat) (listed : Array Bool) (a : Act) (w : World), wpAny P .any ops Q m listed a w → wpAnyIn (Fence.wide.inRound l) n P .any ops Q m listed a w
  | 0, _, _, _, h => h
  | m + 1, listed, a, w, h => ⟨h.1, fun i hi => by
    have h2 := h.2 i hi
    unfold wpOp at h2
    unfold wpOpIn
    split
    · rename_i ho
      simp only [ho] at h2
      exact wpAny_in l n hd hQ m _ _ _ h2
    · rename_i o ho
      simp only [ho] at h2
      split
      · rename_i hw
        simp only [hw, if_true] at h2
        refine oper_in l n (noDefer_at hd (by simpa using ho)) ?_
        rcases h2 with h2 | ⟨_, b, v, h2⟩
        · exact Oper.wp_mono (fun a' w' h' => wpAny_in l n hd hQ m _ _ _ h') h2
        · exact (hQ _ _ h2).elim
      · rename_i hw
        simp only [hw] at h2
        exact ⟨fun f _ => trivial, wpAny_in l n hd hQ m _ _ _ h2⟩⟩
theorem wpIn_region_of {id l n : Nat} {Q : Exit → Act → World → Prop} {a : Act} {w : World} (hm : P.follows .mixedOrders = true) (hd : noDefer ops.toList = true) (hQ : ∀ a w, Q .outgrown a w → False) (h : wpAny P .any ops Q ops.size (Array.replicate ops.size false) a w.drew) :
    (Code.region id ops true).wpIn (Fence.wide.inRound l) n P Q a w := wpIn_region_any hm (wpAny_in l n hd hQ _ _ _ _ h)
/-- A region that draws its order. -/
theorem wpIn_region_sets {id l n : Nat} {Q : Exit → Act → World → Prop} {a : Act} {w : World} (I : (Nat → Bool) → World → Prop) (hm : P.follows .mixedOrders = true) (hnd : noDefer ops.toList = true) (hQ : ∀ a w, Q .outgrown a w → False) (hB : setsB ops = true)
    (h0 : I (fun _ => false) { w with drawn := w.drawn + 1 })
    (h : wpSets P ops I (fun a' => ∀ S w', (∀ i < ops.size, S i = true) → I S w' → Q .normal a' w') 0 ops.toList a) : (Code.region id ops true).wpIn (Fence.wide.inRound l) n P Q a w := by
  obtain ⟨vs, h1, h2⟩ := wpSets_values ops.toList 0 a (by simp) h
  have hS : Sof (Array.replicate ops.size false) = fun _ => false := by
    funext j
    unfold Sof
    rcases Nat.lt_or_ge j ops.size with h | h <;> simp [h]
  have key := wpAny_of_sets (P := P) (I := I) (Q := Q) (a := a) (vs := vs) hB
    (fun k o ho => by have := h1 k o (by simpa using ho); simpa [List.range_eq_range'] using this)
    (fun S w' hS' hI => by have := h2 S w' hS' hI; simpa [List.range_eq_range'] using this)
    ops.size (Array.replicate ops.size false) { w with drawn := w.drawn + 1 } (by simp) (by
      have : ∀ n, cnt (Array.replicate ops.size false) n ≤ n := fun n => by
        induction n with
        | zero => simp [cnt]
        | succ n ih => unfold cnt; split <;> omega
      exact this _) (fun j o _ hSj => by rw [hS] at hSj; cases hSj) (by rw [hS]; exact h0)
  rw [hS, putAll_none _ _ (fun _ _ => rfl)] at key
  exact wpIn_region_of hm hnd hQ key
/-- A region that draws its order; behind l1 each operation waits for all that stands ahead of it. -/
theorem wpIn_region_tail {id l n : Nat} (l1 l2 : List Oper) {Q : Exit → Act → World → Prop} {a : Act} {w : World} (I : (Nat → Bool) → World → Prop)
    (hm : P.follows .mixedOrders = true) (hnd : noDefer (l1 ++ l2) = true) (hQ : ∀ a w, Q .outgrown a w → False) (hB : setsB (l1 ++ l2).toArray = true) (hT : tailB (l1 ++ l2).toArray l1.length = true) (h0 : I (fun _ => false) w.drew)
    (h : wpSets P (l1 ++ l2).toArray I (fun a' => ∀ S w', (∀ i < l1.length, S i = true) → I S w' → wpList P (l1 ++ l2).toArray Q l2 a' w') 0 l1 a) :
    (Code.region id (l1 ++ l2).toArray true).wpIn (Fence.wide.inRound l) n P Q a w := by
  obtain ⟨ops, hops⟩ : ∃ ops, (l1 ++ l2).toArray = ops := ⟨_, rfl⟩
  have hl1 : ∀ j, j < l1.length → l1[j]? = ops[j]? := fun j hj => by rw [← hops]; simp [List.getElem?_append_left hj]
  have hl2 : ∀ j, l2[j]? = ops[l1.length + j]? := fun j => by
    rw [← hops, List.getElem?_toArray, List.getElem?_append_right (by omega), show l1.length + j - l1.length = j by omega]
  have hsz : ops.size = l1.length + l2.length := by rw [← hops]; simp
  have hnd2 : noDefer ops.toList = true := by rw [← hops]; exact hnd
  rw [hops] at hB hT h ⊢
  have hpre : ∀ (l : List Oper) (k : Nat) (a : Act), (∀ j o, l[j]? = some o → ops[k + j]? = some o) → wpSets P ops I (fun a' => ∀ S w', (∀ i < l1.length, S i = true) → I S w' → wpList P ops Q l2 a' w') k l a →
      ∃ vs : Nat → Value, (∀ j o, l[j]? = some o → stepOk P ops I (k + j) o (putAll ops vs (fun _ => true) (List.range' k j) a) (vs (k + j))) ∧
        ∀ S w', (∀ i < l1.length, S i = true) → I S w' → wpList P ops Q l2 (putAll ops vs (fun _ => true) (List.range' k l.length) a) w' := by
    intro l
    induction l with
    | nil => exact fun k a _ h => ⟨fun _ => undef, fun j o hj => by simp at hj, h⟩
    | cons o l ih =>
      intro k a hl h
      obtain ⟨v, hv, hr⟩ := h
      have h0 : ops[k]? = some o := by simpa using hl 0 o rfl
      have hd : dstAt ops k = o.dst := by simp [dstAt, h0]
      obtain ⟨vs, h1, h2⟩ := ih (k + 1) _ (fun j p hj => by have := hl (j + 1) p (by simpa using hj); simpa [Nat.add_assoc, Nat.add_comm 1 j] using this) hr
      have key : ∀ (m : Nat) (b : Act), putAll ops (fun j => if j = k then v else vs j) (fun _ => true) (List.range' (k + 1) m) b = putAll ops vs (fun _ => true) (List.range' (k + 1) m) b := fun m b =>
        putAll_congr _ _ fun j hj => ⟨rfl, by have := (List.mem_range'_1.1 hj).1; exact if_neg (by omega)⟩
      refine ⟨fun j => if j = k then v else vs j, fun j p hj => ?_, ?_⟩
      · cases j with
        | zero =>
          simp at hj
          subst hj
          simpa [putAll] using hv
        | succ j =>
          have := h1 j p (by simpa using hj)
          rw [List.range'_succ, putAll, if_pos rfl, hd, if_pos rfl, key]
          show stepOk P ops I (k + (j + 1)) p _ (if k + (j + 1) = k then v else vs (k + (j + 1)))
          rw [if_neg (by omega), show k + (j + 1) = k + 1 + j by omega]
          exact this
      · rw [List.length_cons, List.range'_succ, putAll, if_pos rfl, hd, if_pos rfl, key]
        exact h2
  obtain ⟨vs, p1, p2⟩ := hpre l1 0 a (fun j o hj => by rw [Nat.zero_add, ← hl1 j (List.getElem?_eq_some_iff.1 hj).1]; exact hj) h
  have key := wpAny_of_famT (P := P) (β := Unit) (I := fun _ S w => I S w) (Q := Q) (a := a) (vs := fun _ => vs) hB (n1 := l1.length) (by omega) (tailB_spec hT)
    (fun k o hk ho x S w hSk hcl hafter hI => ⟨(), fun _ _ _ => rfl, by
      have := p1 k o ((hl1 k hk).trans ho)
      rw [Nat.zero_add, ← List.range_eq_range'] at this
      exact this.fam hSk hcl hafter hI⟩)
    (fun x S w' hS' hI => by
      have e : wpOps P ops Q (List.range' l1.length (ops.size - l1.length)) = wpList P ops Q l2 := by
        rw [show ops.size - l1.length = l2.length by omega]
        exact wpOps_eq_wpList l2 l1.length hl2
      rw [e, List.range_eq_range']
      exact p2 S w' hS' hI)
    ops.size () (Array.replicate ops.size false) w.drew (by simp) (cnt_le _ _) (fun j _ => by rw [Sof_none]) (fun j o _ hSj => by rw [Sof_none] at hSj; cases hSj) (by rw [Sof_none]; exact h0)
  rw [Sof_none, putAll_none _ _ (fun _ _ => rfl)] at key
  exact wpIn_region_of hm hnd2 hQ key
theorem wpIn_region_ghosts {id l n : Nat} (l1 l2 : List Oper) (gs : Nat → Bool) {Q : Exit → Act → World → Prop} {a : Act} {w : World} (I : (Nat → Value) → (Nat → Bool) → World → Prop)
    (hm : P.follows .mixedOrders = true) (hnd : noDefer (l1 ++ l2) = true) (hQ : ∀ a w, Q .outgrown a w → False) (hB : setsB (l1 ++ l2).toArray = true) (hT : tailB (l1 ++ l2).toArray l1.length = true) (hG : blindB (l1 ++ l2).toArray gs l1.length = true) (h0 : ∀ x, I x (fun _ => false) w.drew)
    (h : wpGs P (l1 ++ l2).toArray gs I (fun a' => ∀ x S w', (∀ i < l1.length, S i = true) → I x S w' → wpList P (l1 ++ l2).toArray Q l2 (putAll (l1 ++ l2).toArray x gs (List.range l1.length) a') w') 0 l1 a) :
    (Code.region id (l1 ++ l2).toArray true).wpIn (Fence.wide.inRound l) n P Q a w := by
  obtain ⟨ops, hops⟩ : ∃ ops, (l1 ++ l2).toArray = ops := ⟨_, rfl⟩
  have hl1 : ∀ j, j < l1.length → l1[j]? = ops[j]? := fun j hj => by rw [← hops]; simp [List.getElem?_append_left hj]
  have hl2 : ∀ j, l2[j]? = ops[l1.length + j]? := fun j => by
    rw [← hops, List.getElem?_toArray, List.getElem?_append_right (by omega), show l1.length + j - l1.length = j by omega]
  have hsz : ops.size = l1.length + l2.length := by rw [← hops]; simp
  have hnd2 : noDefer ops.toList = true := by rw [← hops]; exact hnd
  rw [hops] at hB hT hG h ⊢
  have hsel := (setsB_spec hB).1
  obtain ⟨vs0, hu, p1, p2⟩ := wpGs_values l1 0 a (fun j o hj => by rw [Nat.zero_add, ← hl1 j (List.getElem?_eq_some_iff.1 hj).1]; exact hj) h
  let vs : (Nat → Value) → Nat → Value := fun x j => if gs j = true then x j else vs0 j
  have hframe : ∀ (x : Nat → Value) (k : Nat) (o : Oper), k < l1.length → ops[k]? = some o → ∀ t ∈ o.looksAt ops, (putAll ops (vs x) (fun _ => true) (List.range k) a).tmps[t]? = (putAll ops vs0 (fun _ => true) (List.range' 0 k) a).tmps[t]? := fun x k o hk ho t ht => by
    rw [← List.range_eq_range']
    refine putAll_vary _ _ _ rfl fun j hj hd => ?_
    have hjk := List.mem_range.1 hj
    show (if gs j = true then x j else vs0 j) = vs0 j
    split
    · next hg => exact absurd ht (blindB_spec hG (k := j) (j := k) (by omega) hk hg hd ho).1
    · rfl
  have hwt : ∀ (x : Nat → Value) (k : Nat) (o : Oper), k < l1.length → ops[k]? = some o → Region.wanted o (yielded ops (putAll ops (vs x) (fun _ => true) (List.range k) a).tmps) = Region.wanted o (yielded ops (putAll ops vs0 (fun _ => true) (List.range' 0 k) a).tmps) := fun x k o hk ho =>
    same_wanted (hframe x k o hk ho)
  have key := wpAny_of_famR (P := P) (β := Nat → Value) (I := I) (Q := Q) (a := a) (vs := vs) hB (n1 := l1.length) (by omega) (tailB_spec hT)
    (fun k o hk ho x S w hSk hcl hafter hI => by
      have := p1 k o ((hl1 k hk).trans ho)
      rw [Nat.zero_add] at this
      have hsame := same_op (fun cs b => Region.noSelect_spec hsel k o cs b ho) (hframe x k o hk ho)
      rcases this with ⟨hg, hw, hs⟩ | ⟨hg, hs⟩
      · refine .inl ⟨by rw [hwt _ k o hk ho]; exact hw, opToR.same hsame (opToR.imp (hs x S w hSk hcl hafter hI) fun b w' hb => ⟨upd1 x k b, fun j _ hj => ?_, ?_, hb⟩)⟩
        · show (if gs j = true then upd1 x k b j else vs0 j) = (if gs j = true then x j else vs0 j)
          have : j ≠ k := fun e => by rw [e, hSk] at hj; cases hj
          simp only [upd1, this, if_false]
        · show (if gs k = true then upd1 x k b k else vs0 k) = b
          simp [hg, upd1]
      · have e : vs x k = vs0 k := by
          show (if gs k = true then x k else vs0 k) = _
          rw [hg]; rfl
        rcases (hs x).fam hSk hcl hafter hI with ⟨h1, h2⟩ | ⟨h1, h2, h3⟩
        · exact .inl ⟨by rw [hwt _ k o hk ho]; exact h1, opToR.same hsame (h2.R fun w' hw' => ⟨x, fun _ _ _ => rfl, e, hw'⟩)⟩
        · exact .inr ⟨by rw [hwt _ k o hk ho]; exact h1, x, fun _ _ _ => rfl, e.trans h2, h3⟩)
    (fun x S w' hS' hI => by
      have e : wpOps P ops Q (List.range' l1.length (ops.size - l1.length)) = wpList P ops Q l2 := by
        rw [show ops.size - l1.length = l2.length by omega]
        exact wpOps_eq_wpList l2 l1.length hl2
      rw [e]
      show wpList P ops Q l2 (putAll ops (fun j => if gs j = true then x j else vs0 j) (fun _ => true) (List.range l1.length) a) w'
      rw [putAll_mix _ _ List.nodup_range (fun k hk hg d hd j hj hne => (blindB_spec hG (List.mem_range.1 hk) (List.mem_range.1 hj) hg hd (Array.getElem?_eq_getElem (show j < ops.size by have := List.mem_range.1 hj; omega))).2 hne)]
      have := p2 x S w' hS' hI
      rw [← List.range_eq_range'] at this
      exact this)
    ops.size (fun _ => undef) (Array.replicate ops.size false) w.drew (by simp) (cnt_le _ _) (fun j _ => by rw [Sof_none]) (fun j o _ hSj => by rw [Sof_none] at hSj; cases hSj) (by rw [Sof_none]; exact h0 _)
  rw [Sof_none, putAll_none _ _ (fun _ _ => rfl)] at key
  exact wpIn_region_of hm hnd2 hQ key
variable {gs : Nat → Bool} {I : (Nat → Value) → (Nat → Bool) → World → Prop} {Q : Act → Prop} {k : Nat} {o : Oper} {rest : List Oper} {a : Act}
/-- a whole block is loaded -/
theorem gs_load_blk (hg : gs k = false) (hw : Region.wanted o (yielded ops a.tmps) = true) (hI : ∀ x S w, S k = false → I x S w → I x (ins S k) w) (ty : TypeId) (y : Operand) (ho : o.op = .load ty y)
    (g : Nat) (hx : a.eval y = .pointer (some ⟨g, 0, none⟩)) (t : TypeId) (cs : Array Value) (d : TypeDesc) (hc : ∀ x S w, S k = false → I x S w → Blk w g cs t)
    (hu : P.underlying ty = some d) (hd : isRow d = true) (hi : (P.info? ty).map (·.size) = some cs.size)
    (h : wpGs P ops gs I Q (k + 1) rest (a.put o.dst (.agg cs))) : wpGs P ops gs I Q k (o :: rest) a := by
  refine .inr ⟨hg, .agg cs, fun x => .inl ⟨hw, fun S w hS _ _ hIw => ?_⟩, h⟩
  have hl := run_load_blk (P := P) (ty := ty) w g t cs d (hc x S w hS hIw) hu hd hi
  unfold opTo execOp
  simp only [ho, hx, run_v]
  simp [Instr.loadAt, Instr.sureAddr, hl, resTo, hI x S w hS hIw]
/-- one cell is loaded -/
theorem gs_load1 (hg : gs k = false) (hw : Region.wanted o (yielded ops a.tmps) = true) (hI : ∀ x S w, S k = false → I x S w → I x (ins S k) w) (ty : TypeId) (y : Operand) (ho : o.op = .load ty y)
    (ad : Addr) (hx : a.eval y = .pointer (some ad)) (v : Value) (hc : ∀ x S w, S k = false → closedS ops S → I x S w → w.cell? ad = some v) (d : TypeDesc) (hu : P.underlying ty = some d) (hd : isRow d = false)
    (h : wpGs P ops gs I Q (k + 1) rest (a.put o.dst v)) : wpGs P ops gs I Q k (o :: rest) a := by
  refine .inr ⟨hg, v, fun x => .inl ⟨hw, fun S w hS hcl _ hIw => ?_⟩, h⟩
  have hagg : (isAgg ty).run P w = .ok false w := by
    unfold isAgg
    rw [Sem.run_bind, run_underlying hu w]
    cases d <;> simp_all [isRow]
  have hcell := hc x S w hS hcl hIw
  have hl : (loadVar ty ad).run P w = .ok v w := by
    simp [loadVar, Sem.run_bind, hagg, run_load, hcell]
  unfold opTo execOp
  simp only [ho, hx, run_v]
  simp [Instr.loadAt, Instr.sureAddr, hl, resTo, hI x S w hS hIw]
end
end Go.Proofs.Yteelconabmfnkaa
