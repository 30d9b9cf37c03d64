/- Blocks that are known whole; the steps of a region's lexical walk; results that lie in cells. No program is named here. -/
import Derived.Test.YteelconabmfnkaaKka
import Derived.Test.YteelconabmfnkaaN
import Derived.Test.YteelconabmfnkaaB
import Derived.WalkKit
import Derived.Below
import Derived.Lib.Hide
import Derived.BigQuiet
import Derived.Laws.Rows
import Derived.Laws.Tables
import Derived.LoopTactic
import Derived.Deep.Draws
import Derived.Laws.MakeOwn
import Derived.Laws.IdiomStrings
namespace Go.Proofs.Yteelconabmfnkaa
open Go Go.RowKit
set_option linter.unusedVariables false

/-- block b holds the cells cs -/
def Blk (w : World) (b : Nat) (cs : Array Value) (t : TypeId) : Prop := w.heap[b]? = some (.cells cs t (0, 0))
section
variable {w w' : World} {b b' : Nat} {cs cs' : Array Value} {t : TypeId}
theorem Blk.cell (h : Blk w b cs t) (j : Nat) : w.cell? ⟨b, j, none⟩ = cs[j]? := cell_of_row w b j cs t (0, 0) h
theorem Blk.frozen (h : Blk w b cs t) (j : Nat) : w.frozen? ⟨b, j, none⟩ = false := frozen_of_row w b j cs t h
theorem Blk.lt (h : Blk w b cs t) : b < w.heap.size := by
  have := Array.getElem?_eq_some_iff.1 h
  exact this.1
theorem Blk.drew (h : Blk w b cs t) : Blk w.drew b cs t := h
theorem Blk.drewN (h : Blk w b cs t) (n : Nat) : Blk (w.drewN n) b cs t := h
theorem Blk.alloc (h : Blk w b cs t) (o : Obj) : Blk (w.alloc o) b cs t := (Below.heap_alloc w o b h.lt).trans h
theorem Blk.new (w : World) (cs : Array Value) (t : TypeId) : Blk (w.alloc (.cells cs t)) w.heap.size cs t := heap_alloc_new w _
theorem Blk.below {n : Nat} (h : Blk w b cs t) (hb : Below n w w') (hn : b < n) : Blk w' b cs t := (hb.block b hn).trans h
theorem Blk.set (h : Blk w b cs t) (i : Nat) (v : Value) : Blk (w.setCell ⟨b, i, none⟩ v) b (cs.setIfInBounds i v) t := heap_setCell_same w b i cs t v h
theorem Blk.other (h : Blk w b cs t) (i : Nat) (v : Value) (hne : b ≠ b') : Blk (w.setCell ⟨b', i, none⟩ v) b cs t := (heap_setCell_other w _ b v hne).trans h
theorem Blk.row (h : Blk w b cs t) (cs' : Array Value) : Blk (w.setRow b cs') b cs' t := setRow_heap w b cs cs' t (0, 0) h
theorem Blk.rowOther (h : Blk w b cs t) (cs' : Array Value) (hne : b ≠ b') : Blk (w.setRow b' cs') b cs t := (setRow_other w b' b cs' hne).trans h
theorem below_setRow {n : Nat} {a : World} (h : Below n a w) (hb : n ≤ b) (cs : Array Value) : Below n a (w.setRow b cs) :=
  ⟨h.os, h.tape, h.output, by simpa using h.size, fun k hk => (setRow_other w b k cs (by omega)).trans (h.block k hk)⟩
theorem below_drewN {n k : Nat} {a : World} (h : Below n a w) : Below n a (w.drewN k) := ⟨h.os, h.tape, h.output, h.size, h.block⟩
/-- behind a callee that makes new blocks alone -/
theorem below_then {n : Nat} {a : World} (h : Below n a w) (hn : n ≤ w.heap.size) (h' : Below w.heap.size w w') : Below n a w' := h.trans (h'.mono hn)
end

section
variable {P : Program} {ops : Array Oper} {I : (Nat → Bool) → World → Prop} {Q : Act → Prop} {k : Nat} {o : Oper} {rest : List Oper} {a : Act}

def isCall : Op → Bool
  | .call _ | .go _ | .defer _ | .nilCheck _ | .recv .. | .select .. => true
  | _ => false
theorem run_v (s : Sem Value) (w : World) : (do pure (Next.value (← s)) : Sem Next).run P w = (s.run P w).andThen fun v w' => .ok (.value v) w' := by simp
theorem run_u (s : Sem Unit) (w : World) : (do s; pure Next.skip : Sem Next).run P w = (s.run P w).andThen fun _ w' => .ok .skip w' := by simp
theorem no_enter (o : Oper) (h : isCall o.op = false) (ρ : Operand → Value) (w w' : World) (f : FuncId) (args : Array Value) : (execOp ρ o).run P w ≠ .ok (.enter f args) w' := by
  obtain ⟨dst, op, type, pos, after, guard⟩ := o
  intro he
  cases op <;> simp only [isCall, Bool.true_eq_false] at h <;> simp only [execOp] at he
  case pick c x y =>
    rw [Sem.run_bind] at he
    revert he
    generalize (asBool (ρ c)).run P w = r
    cases r <;> simp [Result.andThen]
  all_goals first
    | (rw [run_v] at he; revert he; generalize Sem.run P _ w = r; cases r <;> simp [Result.andThen]; done)
    | (rw [run_u] at he; revert he; generalize Sem.run P _ w = r; cases r <;> simp [Result.andThen]; done)
    | (simp at he; done)

theorem sets_skip (hw : Region.wanted o (yielded ops a.tmps) = false) (hI : ∀ S w, S k = false → I S w → I (ins S k) w)
    (h : wpSets P ops I Q (k + 1) rest (a.put o.dst undef)) : wpSets P ops I Q k (o :: rest) a :=
  ⟨undef, .inr ⟨hw, rfl, hI⟩, h⟩
/-- an operation that leaves the world alone; C: what is known of each world that it may meet -/
theorem sets_quiet (C : World → Prop) (hC : ∀ S w, I S w → C w) (hw : Region.wanted o (yielded ops a.tmps) = true) (hI : ∀ S w, S k = false → I S w → I (ins S k) w) (hc : isCall o.op = false)
    (h : ∀ K : Act → Prop, (∀ a, wpSets P ops I Q (k + 1) rest a → K a) → o.quiet P a C K) : wpSets P ops I Q k (o :: rest) a := by
  obtain ⟨v, h1, h2⟩ := h _ (fun _ h => h)
  refine ⟨v, .inl ⟨hw, fun S w hS _ _ hIw => ?_⟩, h2⟩
  have := h1 w (hC S w hIw)
  unfold Oper.quietAt at this
  unfold opTo
  generalize hr : (execOp a.eval o).run P w = r at *
  cases r with
  | ok n w' =>
    cases n <;> simp only [Oper.quietUpon] at this <;> simp only [resTo]
    case value u => obtain ⟨rfl, e⟩ := this; exact ⟨e, hI S _ hS hIw⟩
    case skip => obtain ⟨rfl, e⟩ := this; exact ⟨e, hI S _ hS hIw⟩
    case enter f args => exact absurd hr (no_enter o hc _ _ _ _ _)
  | halt x w' => simp only [Oper.quietUpon] at this
/-- a call of a Go function -/
theorem sets_call (v : Value) (hw : Region.wanted o (yielded ops a.tmps) = true) (f : FuncId) (args : List Operand) (ts : Array TypeId) (ho : o.op = .call { callee := .value (.func f), args := args.toArray, argTypes := ts })
    (fn : Func) (hf : P.funcs[f]? = some fn) (hn : (fn.name == "runtime.NumGoroutine") = false) (hb : fn.body.isNone = false) (vals : List Value) (hv : args.map a.eval = vals)
    (hc : ∀ S w, S k = false → (∀ e ∈ o.after, Region.binds .any e = true → S e.on = true) → I S w → Calls P f vals.toArray w fun e w' => e = .returned v ∧ I (ins S k) w')
    (h : wpSets P ops I Q (k + 1) rest (a.put o.dst v)) : wpSets P ops I Q k (o :: rest) a := by
  refine ⟨v, .inl ⟨hw, fun S w hS _ ha hIw => ?_⟩, h⟩
  have hr : (execOp a.eval o).run P w = .ok (.enter f vals.toArray) w := by
    unfold execOp
    simp [ho, resolve, Act.eval, Deferred.ofValue, invoke, callFunc, hf]
    have hn' : ¬ fn.name = "runtime.NumGoroutine" := fun e => by rw [e] at hn; simp at hn
    have hb' : ¬ fn.body = none := fun e => by rw [e] at hb; simp at hb
    rw [if_neg hn', if_neg hb', ← hv]
  unfold opTo
  rw [hr]
  exact hc S w hS ha hIw
/-- a store of one cell -/
theorem sets_store (hw : Region.wanted o (yielded ops a.tmps) = true) (t : TypeId) (x y : Operand) (ho : o.op = .store t x y) (hd : o.dst = none) (ad : Addr) (hx : a.eval x = .pointer (some ad)) (v : Value) (hy : a.eval y = v) (h1 : v.oneCell' = true)
    (hi : (P.info? t).map (·.size) = some 1)
    (hc : ∀ S w, S k = false → (∀ e ∈ o.after, Region.binds .any e = true → S e.on = true) → I S w → (∃ old, w.cell? ad = some old) ∧ w.frozen? ad = false ∧ I (ins S k) (w.setCell ad v))
    (h : wpSets P ops I Q (k + 1) rest a) : wpSets P ops I Q k (o :: rest) a := by
  refine ⟨undef, .inl ⟨hw, fun S w hS _ ha hIw => ?_⟩, by rw [hd]; exact h⟩
  obtain ⟨⟨old, h2⟩, h3, h4⟩ := hc S w hS ha hIw
  unfold opTo execOp
  simp only [ho, hx, hy, run_u]
  have : (Instr.storeAt t (.pointer (some ad)) v).run P w = .ok () (w.setCell ad v) := by
    have hc1 : v.cells = #[v] := by cases v <;> first | rfl | simp [Value.oneCell'] at h1
    cases hq : P.info? t with
    | none => simp [hq] at hi
    | some i =>
      have hs : i.size = 1 := by simpa [hq] using hi
      have e0 : ad.add 0 = ad := rfl
      simp [Instr.storeAt, Instr.sureAddr, storeVar, sizeOf, typeInfo, hq, hs, hc1, storeCells, e0, run_store P w ad v _ h1, h2, h3]
  rw [this]
  exact ⟨rfl, h4⟩
theorem worlds (I : (Nat → Bool) → World → Prop) : ∃ (U : Type) (W : U → World), (∀ u, ∃ S : Nat → Bool, I S (W u)) ∧ (∀ (S : Nat → Bool) w', I S w' → ∃ u, w' = W u) :=
  ⟨{ w' // ∃ S : Nat → Bool, I S w' }, fun u => u.1, fun u => u.2, fun S w' h => ⟨⟨w', S, h⟩, rfl⟩⟩
end

def isRow : TypeDesc → Bool
  | .struct _ | .array _ _ => true
  | _ => false
section
variable {P : Program} {fn : Func} {p q t u : Tmp} {ty ty' : TypeId}
theorem run_load_blk (w : World) (g : Nat) (t : TypeId) (cs : Array Value) (d : TypeDesc) (hg : Blk w g cs t) (hu : P.underlying ty = some d) (hd : isRow d = true) (hi : (P.info? ty).map (·.size) = some cs.size) :
    (loadVar ty ⟨g, 0, none⟩).run P w = .ok (.agg cs) w :=
  run_loadVar_row w g t ty cs (0, 0) d hg hu (by cases d <;> first | rfl | simp [isRow] at hd) hi
/-- results: an aggregate that lies in a block, and a slot -/
theorem results_cell_tmp (h : fn.results = #[.cell p ty, .tmp t]) (tmps : Array Value) (w : World) (g : Nat) (tt : TypeId) (cs : Array Value) (d : TypeDesc)
    (hp : tmps.getD p undef = .pointer (some ⟨g, 0, none⟩)) (hg : Blk w g cs tt) (hu : P.underlying ty = some d) (hd : isRow d = true) (hi : (P.info? ty).map (·.size) = some cs.size) :
    (results fn tmps).run P w = .ok (.tuple #[.agg cs, tmps.getD t undef]) w := by
  have := run_load_blk (P := P) w g tt cs d hg hu hd hi
  have hp' : tmps[p]?.getD undef = .pointer (some ⟨g, 0, none⟩) := by simpa using hp
  simp [results, h, asAddr, hp', this]
theorem results_cell (h : fn.results = #[.cell p ty]) (tmps : Array Value) (w : World) (g : Nat) (tt : TypeId) (cs : Array Value) (d : TypeDesc)
    (hp : tmps.getD p undef = .pointer (some ⟨g, 0, none⟩)) (hg : Blk w g cs tt) (hu : P.underlying ty = some d) (hd : isRow d = true) (hi : (P.info? ty).map (·.size) = some cs.size) :
    (results fn tmps).run P w = .ok (.agg cs) w := by
  have := run_load_blk (P := P) w g tt cs d hg hu hd hi
  have hp' : tmps[p]?.getD undef = .pointer (some ⟨g, 0, none⟩) := by simpa using hp
  simp [results, h, asAddr, hp', this]
/-- a whole aggregate loaded, stored -/
theorem wpList_load_blk {ops : Array Oper} {rest : List Oper} {o : Oper} {a : Act} {w : World} {Q : Exit → Act → World → Prop} (hgd : o.guard = none) (ty : TypeId) (x : Operand) (ho : o.op = .load ty x)
    (g : Nat) (hx : a.eval x = .pointer (some ⟨g, 0, none⟩)) (t : TypeId) (cs : Array Value) (d : TypeDesc) (hg : Blk w g cs t) (hu : P.underlying ty = some d) (hd : isRow d = true) (hi : (P.info? ty).map (·.size) = some cs.size)
    (h : wpList P ops Q rest (a.put o.dst (.agg cs)) w) : wpList P ops Q (o :: rest) a w :=
  wpList_load_row hgd ty x ho g hx t cs (0, 0) d hg hu (by cases d <;> first | rfl | simp [isRow] at hd) hi h
theorem wpList_store_blk {ops : Array Oper} {rest : List Oper} {o : Oper} {a : Act} {w : World} {Q : Exit → Act → World → Prop} (hgd : o.guard = none) (ty : TypeId) (x y : Operand) (ho : o.op = .store ty x y)
    (g : Nat) (cells : Array Value) (hx : a.eval x = .pointer (some ⟨g, 0, none⟩)) (hy : a.eval y = .agg cells) (t : TypeId) (old : Array Value) (hg : Blk w g old t) (hi : (P.info? ty).map (·.size) = some cells.size)
    (hold : old.size = cells.size) (h1 : cells.all (·.oneCell') = true)
    (h : wpList P ops Q rest (a.put o.dst undef) (w.setRow g cells)) : wpList P ops Q (o :: rest) a w :=
  wpList_store_row hgd ty x y ho g cells hx hy t old hg hi hold h1 h
end

/-! words in a row -/
def cellsN (n : Nat) (f : Nat → Nat) : Array Value := ((List.range n).map fun i => Value.int .u64 (f i : Nat)).toArray
theorem cellsN_size (n : Nat) (f : Nat → Nat) : (cellsN n f).size = n := by simp [cellsN]
theorem cellsN_one (n : Nat) (f : Nat → Nat) : (cellsN n f).all (·.oneCell') = true := by
  rw [Array.all_eq_true_iff_forall_mem]
  intro x hx
  simp only [cellsN, List.mem_toArray, List.mem_map] at hx
  obtain ⟨i, _, rfl⟩ := hx
  rfl
theorem cellsN_get (n : Nat) (f : Nat → Nat) (k : Nat) (hk : k < n) : (cellsN n f)[k]? = some (.int .u64 (f k : Nat)) := by
  simp [cellsN, hk]
def upd (f : Nat → Nat) (k x : Nat) : Nat → Nat := fun j => if j = k then x else f j
theorem cellsN_set (n : Nat) (f : Nat → Nat) (k x : Nat) : (cellsN n f).setIfInBounds k (.int .u64 (x : Nat)) = cellsN n (upd f k x) := by
  apply Array.ext_getElem?
  intro i
  rw [Array.getElem?_setIfInBounds]
  by_cases hi : i < n
  · rw [cellsN_get n f i hi, cellsN_get n _ i hi, cellsN_size]
    unfold upd
    by_cases h : k = i
    · subst h; simp [hi]
    · simp [h, Ne.symm h]
  · have e : ∀ g : Nat → Nat, (cellsN n g)[i]? = none := fun g => Array.getElem?_eq_none (by rw [cellsN_size]; omega)
    rw [e, e, cellsN_size]
    by_cases h : k = i
    · subst h; simp [hi]
    · simp [h]
theorem cellsN_congr {n : Nat} {f g : Nat → Nat} (h : ∀ i, i < n → f i = g i) : cellsN n f = cellsN n g := by
  unfold cellsN
  congr 1
  apply List.map_congr_left
  intro i hi
  rw [h i (List.mem_range.1 hi)]
/-- the words of a number -/
def wv (A : Nat) : Array Value := cellsN 6 (limb A)
theorem wv_zero : wv 0 = #[.int .u64 0, .int .u64 0, .int .u64 0, .int .u64 0, .int .u64 0, .int .u64 0] := by
  unfold wv
  rw [cellsN_congr (g := fun _ => 0) fun i _ => limb_zero i]
  rfl
theorem wv_size (A : Nat) : (wv A).size = 6 := cellsN_size _ _
theorem wv_one (A : Nat) : (wv A).all (·.oneCell') = true := cellsN_one _ _
theorem wv_get (A k : Nat) (hk : k < 6) : (wv A)[k]? = some (.int .u64 (limb A k : Nat)) := cellsN_get _ _ _ hk
theorem wv_top {S k x : Nat} (hS : S < Bk k) (hx : x < 18446744073709551616) : (wv S).setIfInBounds k (.int .u64 (x : Nat)) = wv (S + x * Bk k) := by
  unfold wv
  rw [cellsN_set]
  exact cellsN_congr fun i _ => (limb_top hS hx i).symm
theorem wv_bit {T m : Nat} (h : T.testBit m = false) : (wv T).setIfInBounds (m / 64) (.int .u64 ((limb (T + 2 ^ m) (m / 64) : Nat))) = wv (T + 2 ^ m) := by
  unfold wv
  rw [cellsN_set]
  refine cellsN_congr fun i _ => ?_
  unfold upd
  by_cases hi : i = m / 64
  · rw [if_pos hi, hi]
  · rw [if_neg hi, limb_bit_other T m i h hi]
theorem wv_inj {A B : Nat} (hA : A < W384) (hB : B < W384) (h : wv A = wv B) : A = B := by
  refine limb_ext (n := 6) hA hB fun i hi => ?_
  have h1 := wv_get A i hi
  rw [h, wv_get B i hi] at h1
  simp at h1
  omega

/-! blocks in a row, from n on -/
structure Blks (L : List (Array Value × TypeId)) (n : Nat) (w w' : World) : Prop where
  all : ∀ i x, L[i]? = some x → Blk w' (n + i) x.1 x.2
  le : Below n w w'
theorem Blks.nil (w : World) : Blks [] w.heap.size w w := ⟨fun i x h => by simp at h, Below.refl _ _⟩
theorem Blks.drew {L : List (Array Value × TypeId)} {n : Nat} {w w' : World} (h : Blks L n w w') : Blks L n w w'.drew := ⟨h.all, h.le.drew⟩
theorem Blks.drewN {L : List (Array Value × TypeId)} {n : Nat} {w w' : World} (h : Blks L n w w') (k : Nat) : Blks L n w (w'.drewN k) := ⟨h.all, below_drewN h.le⟩
theorem Blks.alloc {L : List (Array Value × TypeId)} {n : Nat} {w w' : World} (h : Blks L n w w') (hs : w'.heap.size = n + L.length) (cs : Array Value) (t : TypeId) : Blks (L ++ [(cs, t)]) n w (w'.alloc (.cells cs t)) := by
  refine ⟨fun i x hx => ?_, h.le.alloc (by omega) _⟩
  rcases Nat.lt_or_ge i L.length with hi | hi
  · rw [List.getElem?_append_left hi] at hx
    exact (h.all i x hx).alloc _
  · rw [List.getElem?_append_right hi] at hx
    have h0 : i = L.length := by
      have := (List.getElem?_eq_some_iff.1 hx).1
      simp at this; omega
    subst h0
    simp at hx
    subst hx
    rw [← hs]
    exact Blk.new w' cs t
theorem Blks.setCell {L : List (Array Value × TypeId)} {n : Nat} {w w' : World} (h : Blks L n w w') (i j : Nat) (v : Value) (cs : Array Value) (t : TypeId) (hi : L[i]? = some (cs, t)) :
    Blks (L.set i (cs.setIfInBounds j v, t)) n w (w'.setCell ⟨n + i, j, none⟩ v) := by
  refine ⟨fun k x hx => ?_, h.le.setCell (by simp) _⟩
  by_cases hk : i = k
  · subst hk
    have hl := (List.getElem?_eq_some_iff.1 hi).1
    rw [List.getElem?_set_self hl] at hx
    injection hx with hx
    subst hx
    exact (h.all i _ hi).set j v
  · rw [List.getElem?_set_ne hk] at hx
    exact (h.all k x hx).other j v (by omega)
theorem Blks.setRow {L : List (Array Value × TypeId)} {n : Nat} {w w' : World} (h : Blks L n w w') (i : Nat) (cs' cs : Array Value) (t : TypeId) (hi : L[i]? = some (cs, t)) :
    Blks (L.set i (cs', t)) n w (w'.setRow (n + i) cs') := by
  refine ⟨fun k x hx => ?_, below_setRow h.le (by omega) _⟩
  by_cases hk : i = k
  · subst hk
    have hl := (List.getElem?_eq_some_iff.1 hi).1
    rw [List.getElem?_set_self hl] at hx
    injection hx with hx
    subst hx
    exact (h.all i _ hi).row cs'
  · rw [List.getElem?_set_ne hk] at hx
    exact (h.all k x hx).rowOther cs' (by omega)
/-- another block turns -/
theorem Blks.other {L : List (Array Value × TypeId)} {n : Nat} {w w' : World} (h : Blks L n w w') (b j : Nat) (v : Value) (hb : n + L.length ≤ b) : Blks L n w (w'.setCell ⟨b, j, none⟩ v) := by
  refine ⟨fun k x hx => (h.all k x hx).other j v ?_, h.le.setCell (Nat.le_trans (Nat.le_add_right _ _) hb) _⟩
  have := (List.getElem?_eq_some_iff.1 hx).1
  omega
theorem Blks.alloc' {L : List (Array Value × TypeId)} {n : Nat} {w w' : World} (h : Blks L n w w') (hn : n ≤ w'.heap.size) (o : Obj) : Blks L n w (w'.alloc o) :=
  ⟨fun k x hx => (h.all k x hx).alloc o, h.le.alloc hn o⟩
/-- behind a callee that makes new blocks alone -/
theorem Blks.call {L : List (Array Value × TypeId)} {n : Nat} {w w' w'' : World} (h : Blks L n w w') (hn : n + L.length ≤ w'.heap.size) (hb : Below w'.heap.size w' w'') : Blks L n w w'' :=
  ⟨fun i x hx => (h.all i x hx).below hb (by have := (List.getElem?_eq_some_iff.1 hx).1; omega), below_then h.le (by omega) hb⟩
/-- an array's value, indexed -/
theorem run_index {P : Program} {t e : TypeId} {n : Nat} (hu : P.underlying t = some (.array n e)) (hue : P.underlying e = some (.int .u64)) (hi : (P.info? e).map (·.size) = some 1) (f : Nat → Nat) (k : Nat) (hk : k < n) (w : World) :
    (Instr.index t (.agg (cellsN n f)) (.int .i64 (k : Nat))).run P w = .ok (.int .u64 (f k : Nat)) w := by
  cases hq : P.info? e with
  | none => simp [hq] at hi
  | some i =>
    have hs : i.size = 1 := by simpa [hq] using hi
    have hg := cellsN_get n f k hk
    simp [Instr.index, asIntOf, run_underlying hu, run_underlying hue, sizeOf, typeInfo, hq, hs, hk, part, isAgg, hg]
section
variable {P : Program} {ops : Array Oper} {I : (Nat → Bool) → World → Prop} {Q : Act → Prop} {k : Nat} {o : Oper} {rest : List Oper} {a : Act}
/-- a whole aggregate is loaded -/
theorem sets_load_blk (hw : Region.wanted o (yielded ops a.tmps) = true) (hI : ∀ S w, S k = false → I S w → I (ins S k) w) (ty : TypeId) (x : Operand) (ho : o.op = .load ty x)
    (g : Nat) (hx : a.eval x = .pointer (some ⟨g, 0, none⟩)) (t : TypeId) (cs : Array Value) (d : TypeDesc) (hc : ∀ S w, (∀ e ∈ o.after, Region.binds .any e = true → S e.on = true) → I S w → Blk w g cs t)
    (hu : P.underlying ty = some d) (hd : isRow d = true) (hi : (P.info? ty).map (·.size) = some cs.size)
    (h : wpSets P ops I Q (k + 1) rest (a.put o.dst (.agg cs))) : wpSets P ops I Q k (o :: rest) a := by
  refine ⟨.agg cs, .inl ⟨hw, fun S w hS _ ha hIw => ?_⟩, h⟩
  have hl := run_load_blk (P := P) (ty := ty) w g t cs d (hc S w ha hIw) hu hd hi
  unfold opTo execOp
  simp only [ho, hx, run_v]
  simp [Instr.loadAt, Instr.sureAddr, hl, resTo, hI S w hS hIw]
end
section
variable {P : Program} {ops : Array Oper} {I : (Nat → Bool) → World → Prop} {Q : Act → Prop} {k : Nat} {o : Oper} {rest : List Oper} {a : Act}
/-- a load of one cell, that a later operation of the region may write -/
theorem sets_load1 (hw : Region.wanted o (yielded ops a.tmps) = true) (hI : ∀ S w, S k = false → I S w → I (ins S k) w) (ty : TypeId) (x : Operand) (ho : o.op = .load ty x)
    (ad : Addr) (hx : a.eval x = .pointer (some ad)) (v : Value) (hc : ∀ S w, S k = false → closedS ops S → I S w → w.cell? ad = some v) (d : TypeDesc) (hu : P.underlying ty = some d) (hd : isRow d = false)
    (h : wpSets P ops I Q (k + 1) rest (a.put o.dst v)) : wpSets P ops I Q k (o :: rest) a := by
  refine ⟨v, .inl ⟨hw, fun S w hS hcl ha hIw => ?_⟩, h⟩
  have hagg : (isAgg ty).run P w = .ok false w := by
    unfold isAgg
    rw [Sem.run_bind, run_underlying hu w]
    cases d <;> simp_all [isRow]
  have hcell := hc S w hS hcl hIw
  have hl : (loadVar ty ad).run P w = .ok v w := by
    simp [loadVar, Sem.run_bind, hagg, run_load, hcell]
  unfold opTo execOp
  simp only [ho, hx, run_v]
  simp [Instr.loadAt, Instr.sureAddr, hl, resTo, hI S w hS hIw]
end
theorem upd_prefix (f g : Nat → Nat) (k : Nat) : upd (fun i => if i < k then f i else g i) k (f k) = fun i => if i < k + 1 then f i else g i := by
  funext i
  show (if i = k then f k else (if i < k then f i else g i)) = _
  by_cases h : i = k
  · subst h; simp
  · rw [if_neg h]
    by_cases h2 : i < k
    · rw [if_pos h2, if_pos (by omega)]
    · rw [if_neg h2, if_neg (by omega)]
theorem upd_down (g : Nat → Nat) (k : Nat) : upd (fun i => if i < k + 1 then 0 else g i) k (g k) = fun i => if i < k then 0 else g i := by
  funext i
  show (if i = k then g k else (if i < k + 1 then 0 else g i)) = _
  by_cases h : i = k
  · subst h; simp
  · rw [if_neg h]
    by_cases h2 : i < k
    · rw [if_pos h2, if_pos (by omega)]
    · rw [if_neg h2, if_neg (by omega)]
theorem upd_up (g : Nat → Nat) (k : Nat) : upd (fun i => if i < k then g i else 0) k (g k) = fun i => if i < k + 1 then g i else 0 := by
  funext i
  show (if i = k then g k else (if i < k then g i else 0)) = _
  by_cases h : i = k
  · subst h; simp
  · rw [if_neg h]
    by_cases h2 : i < k
    · rw [if_pos h2, if_pos (by omega)]
    · rw [if_neg h2, if_neg (by omega)]
theorem upd_upd (f : Nat → Nat) (k x y : Nat) : upd (upd f k x) k y = upd f k y := by
  funext i
  unfold upd
  by_cases h : i = k
  · rw [if_pos h, if_pos h]
  · rw [if_neg h, if_neg h, if_neg h]
theorem wpList_index_cells {P : Program} {ops : Array Oper} {rest : List Oper} {o : Oper} {a : Act} {w : World} {Q : Exit → Act → World → Prop} (hgd : o.guard = none) (ty : TypeId) (x y : Operand) (ho : o.op = .index ty x y)
    (n : Nat) (f : Nat → Nat) (k : Nat) (e : TypeId) (hx : a.eval x = .agg (cellsN n f)) (hy : a.eval y = .int .i64 (k : Nat)) (hk : k < n) (hu : P.underlying ty = some (.array n e)) (hue : P.underlying e = some (.int .u64)) (hi : (P.info? e).map (·.size) = some 1)
    (h : wpList P ops Q rest (a.put o.dst (.int .u64 (f k : Nat))) w) : wpList P ops Q (o :: rest) a w :=
  wpList_plain hgd fun _ hK => by
    unfold Oper.wp execOp
    simp only [ho, hx, hy, Sem.run_bind, Sem.run_pure, run_index hu hue hi f k hk, Result.andThen_ok]
    exact hK _ _ h
theorem cellsN_zero12 : cellsN 12 (limb 0) = #[.int .u64 0, .int .u64 0, .int .u64 0, .int .u64 0, .int .u64 0, .int .u64 0, .int .u64 0, .int .u64 0, .int .u64 0, .int .u64 0, .int .u64 0, .int .u64 0] := by
  rw [cellsN_congr (g := fun _ => 0) fun i _ => limb_zero i]
  rfl
theorem cellsN_setw (n T k x : Nat) (hx : x < 18446744073709551616) : (cellsN n (limb T)).setIfInBounds k (.int .u64 (x : Nat)) = cellsN n (limb (setw T k x)) := by
  rw [cellsN_set]
  exact cellsN_congr fun i _ => (limb_setw T k x i hx).symm
/-! bytes in a row -/
def cellsB (n : Nat) (f : Nat → Nat) : Array Value := ((List.range n).map fun i => Value.int .u8 (f i : Nat)).toArray
theorem cellsB_size (n : Nat) (f : Nat → Nat) : (cellsB n f).size = n := by simp [cellsB]
theorem cellsB_get (n : Nat) (f : Nat → Nat) (k : Nat) (hk : k < n) : (cellsB n f)[k]? = some (.int .u8 (f k : Nat)) := by
  simp [cellsB, hk]
theorem cellsB_set (n : Nat) (f : Nat → Nat) (k x : Nat) : (cellsB n f).setIfInBounds k (.int .u8 (x : Nat)) = cellsB n (upd f k x) := by
  apply Array.ext_getElem?
  intro i
  rw [Array.getElem?_setIfInBounds]
  by_cases hi : i < n
  · rw [cellsB_get n f i hi, cellsB_get n _ i hi, cellsB_size]
    unfold upd
    by_cases h : k = i
    · subst h; simp [hi]
    · simp [h, Ne.symm h]
  · have e : ∀ g : Nat → Nat, (cellsB n g)[i]? = none := fun g => Array.getElem?_eq_none (by rw [cellsB_size]; omega)
    rw [e, e, cellsB_size]
    by_cases h : k = i
    · subst h; simp [hi]
    · simp [h]
theorem cellsB_congr {n : Nat} {f g : Nat → Nat} (h : ∀ i, i < n → f i = g i) : cellsB n f = cellsB n g := by
  unfold cellsB
  congr 1
  apply List.map_congr_left
  intro i hi
  rw [h i (List.mem_range.1 hi)]
theorem cellsB_made (n : Nat) : madeCells #[.int .u8 0] (n * 1) = cellsB n (fun _ => 0) := by
  apply Array.ext_getElem?
  intro i
  rw [Nat.mul_one]
  by_cases hi : i < n
  · rw [cellsB_get n _ i hi]
    simp [madeCells, hi, Nat.mod_one]
  · rw [Array.getElem?_eq_none (by rw [size_madeCells]; omega), Array.getElem?_eq_none (by rw [cellsB_size]; omega)]
theorem run_make_bytes {P : Program} {t e : TypeId} (ht : P.underlying t = some (.slice e)) (hi : (P.info? e).map (fun i => (i.size, i.bytes, i.zero)) = some (1, 1, some (.int .u8 0))) (N : Nat) (hN : N ≤ 1000000) (w : World) :
    (Instr.makeSlice t (.int .i64 (N : Nat)) (.int .i64 (N : Nat))).run P w = .ok (.slice (some ⟨w.heap.size, 0, none⟩) N N) (w.alloc (.cells (cellsB N fun _ => 0) e)) := by
  cases hq : P.info? e with
  | none => simp [hq] at hi
  | some i =>
    rw [hq] at hi
    simp only [Option.map_some, Option.some.injEq, Prod.mk.injEq] at hi
    obtain ⟨h1, h2, h3⟩ := hi
    have := run_make (P := P) w t e i (.int .u8 0) ht hq h3 .i64 .i64 N N (by omega) (by omega) (by rw [h2]; omega) (by omega)
    rw [this, h1]
    have hc : Value.cells (.int .u8 0) = #[.int .u8 0] := rfl
    rw [hc, Int.toNat_natCast, cellsB_made]
theorem digit_byte : ∀ d : Fin 16, (((⟨#[48, 49, 50, 51, 52, 53, 54, 55, 56, 57, 97, 98, 99, 100, 101, 102]⟩ : ByteArray)[d.val]?.getD 0).toNat) = digb d.val := by decide
theorem run_digit {P : Program} {t : TypeId} (h : P.underlying t = some .string) (d : Nat) (hd : d < 16) (w : World) :
    (Instr.index t (.string ⟨#[48, 49, 50, 51, 52, 53, 54, 55, 56, 57, 97, 98, 99, 100, 101, 102]⟩) (.int .u64 (d : Nat))).run P w = .ok (.int .u8 (digb d : Nat)) w := by
  have hs : (⟨#[48, 49, 50, 51, 52, 53, 54, 55, 56, 57, 97, 98, 99, 100, 101, 102]⟩ : ByteArray).size = 16 := rfl
  rw [run_index_string w t _ _ _ h, dif_pos ⟨by omega, by omega⟩]
  have := digit_byte ⟨d, hd⟩
  rw [← this]
  simp [hd, hs]
theorem cellsN_made (n : Nat) : madeCells #[.int .u64 0] (n * 1) = cellsN n (limb 0) := by
  apply Array.ext_getElem?
  intro i
  rw [Nat.mul_one]
  by_cases hi : i < n
  · rw [cellsN_get n _ i hi, limb_zero]
    simp [madeCells, hi, Nat.mod_one]
  · rw [Array.getElem?_eq_none (by rw [size_madeCells]; omega), Array.getElem?_eq_none (by rw [cellsN_size]; omega)]
theorem run_make_words {P : Program} {t e : TypeId} (ht : P.underlying t = some (.slice e)) (hi : (P.info? e).map (fun i => (i.size, i.bytes, i.zero)) = some (1, 8, some (.int .u64 0))) (N : Nat) (hN : N ≤ 1000000) (w : World) :
    (Instr.makeSlice t (.int .i64 (N : Nat)) (.int .i64 (N : Nat))).run P w = .ok (.slice (some ⟨w.heap.size, 0, none⟩) N N) (w.alloc (.cells (cellsN N (limb 0)) e)) := by
  cases hq : P.info? e with
  | none => simp [hq] at hi
  | some i =>
    rw [hq] at hi
    simp only [Option.map_some, Option.some.injEq, Prod.mk.injEq] at hi
    obtain ⟨h1, h2, h3⟩ := hi
    have := run_make (P := P) w t e i (.int .u64 0) ht hq h3 .i64 .i64 N N (by omega) (by omega) (by rw [h2]; omega) (by omega)
    rw [this, h1]
    have hc : Value.cells (.int .u64 0) = #[.int .u64 0] := rfl
    rw [hc, Int.toNat_natCast, cellsN_made]
end Go.Proofs.Yteelconabmfnkaa
