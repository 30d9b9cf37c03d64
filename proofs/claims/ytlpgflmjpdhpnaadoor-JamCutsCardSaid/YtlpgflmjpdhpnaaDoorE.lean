/- Equality of two numbers of 384 bits; blocks behind a row of steps. -/
import Derived.Test.YtlpgflmjpdhpnaaDoorH
import Derived.Laws.StructEq
namespace Go.Proofs.YtlpgflmjpdhpnaaDoor
open Go Go.RowKit
set_option linter.unusedVariables false
set_option linter.unusedSimpArgs false
theorem part_cell {P : Program} {e : TypeId} (hi : (P.info? e).map (·.size) = some 1) (hu : P.underlying e = some (.int .u64)) (n : Nat) (f : Nat → Nat) (k : Nat) (hk : k < n) (w : World) :
    (part e (cellsN n f) k).run P w = .ok (.int .u64 (f k : Nat)) w := by
  cases hq : P.info? e with
  | none => simp [hq] at hi
  | some i =>
    have hs : i.size = 1 := by simpa [hq] using hi
    have hg := cellsN_get n f k hk
    simp [part, run_underlying hu, isAgg, hg, sizeOf, typeInfo, hq, hs]
open Classical in
theorem run_equalIn_cells {P : Program} {t e : TypeId} {n : Nat} (ht : P.underlying t = some (.array n e)) (he : P.underlying e = some (.int .u64)) (hi : (P.info? e).map (·.size) = some 1) (d : Nat) (f g : Nat → Nat) (w : World) :
    (Op.equalIn (d + 2) t (.agg (cellsN n f)) (.agg (cellsN n g))).run P w = .ok (decide (∀ i, i < n → f i = g i)) w := by
  cases hq : P.info? e with
  | none => simp [hq] at hi
  | some i =>
    have hs : i.size = 1 := by simpa [hq] using hi
    rw [Op.equalIn]
    simp only [Sem.run_bind, run_underlying ht, Result.andThen_ok, sizeOf, typeInfo, hq, hs]
    simp only [run_program, hq, Sem.run_pure, Result.andThen_ok, hs, Nat.mul_one]
    rw [Std.Legacy.Range.forIn_eq_forIn_range']
    have key : ∀ m s : Nat, s + m ≤ n → (forIn (List.range' s m) ((none : Option Bool), ()) fun i __s => do
              let __do_lift ← part e (cellsN n f) i
              let __do_lift_1 ← part e (cellsN n g) i
              let __do_lift ← Op.equalIn (d + 1) e __do_lift __do_lift_1
              if (!__do_lift) = true then pure (ForInStep.done (some false, ())) else pure (ForInStep.yield (none, ()))).run P w = .ok (if (∀ i, s ≤ i → i < s + m → f i = g i) then (none, ()) else (some false, ())) w := by
      intro m
      induction m with
      | zero => 
        intro s hsm
        rw [if_pos (fun i h1 h2 => by omega)]
        simp [Sem.run_pure]
      | succ m ih =>
        intro s hsm
        rw [List.range'_succ, List.forIn_cons]
        simp only [Sem.run_bind, part_cell hi he n f s (by omega), part_cell hi he n g s (by omega), Result.andThen_ok, run_equalIn_int w d e .u64 .u64 _ _ he]
        by_cases h : f s = g s
        · have e1 : (((f s : Nat) : Int) == ((g s : Nat) : Int)) = true := by rw [h]; simp
          simp only [e1, Bool.not_true, Bool.false_eq_true, if_false, Sem.run_pure, Result.andThen_ok]
          rw [ih (s + 1) (by omega)]
          congr 1
          by_cases h2 : ∀ i, s + 1 ≤ i → i < s + 1 + m → f i = g i
          · rw [if_pos h2, if_pos]
            intro i hi1 hi2
            by_cases h3 : i = s
            · rw [h3, h]
            · exact h2 i (by omega) (by omega)
          · rw [if_neg h2, if_neg]
            intro h4
            exact h2 fun i h5 h6 => h4 i (by omega) (by omega)
        · have e1 : (((f s : Nat) : Int) == ((g s : Nat) : Int)) = false := by
            rw [beq_eq_false_iff_ne]; omega
          simp only [e1, Bool.not_false, if_true, Sem.run_pure, Result.andThen_ok]
          rw [if_neg (fun h4 => h (h4 s (by omega) (by omega)))]
    have := key n 0 (by omega)
    simp only [Std.Legacy.Range.size, Nat.sub_zero, Nat.add_sub_cancel, Nat.div_one] 
    rw [this]
    by_cases h : ∀ i, i < n → f i = g i
    · rw [decide_eq_true h, if_pos (fun i _ h2 => h i (by omega))]
      simp
    · rw [decide_eq_false h, if_neg (fun h2 => h fun i hi => h2 i (by omega) (by omega))]
      simp
theorem run_eql_wv {P : Program} {t e : TypeId} (ht : P.underlying t = some (.array 6 e)) (he : P.underlying e = some (.int .u64)) (hi : (P.info? e).map (·.size) = some 1) (A B : Nat) (hA : A < W384) (hB : B < W384) (w : World) :
    (binOp .eql t (.agg (wv A)) (.agg (wv B))).run P w = .ok (.bool (decide (A = B))) w := by
  have h' : (Op.equal t (.agg (wv A)) (.agg (wv B))).run P w = .ok (decide (A = B)) w := by
    refine (run_equalIn_cells ht he hi 9998 (limb A) (limb B) w).trans ?_
    congr 1
    exact decide_eq_decide.2 ⟨fun h2 => limb_ext (n := 6) hA hB h2, fun h i _ => by rw [h]⟩
  simp [binOp, h']

theorem run_neq_wv {P : Program} {t e : TypeId} (ht : P.underlying t = some (.array 6 e)) (he : P.underlying e = some (.int .u64)) (hi : (P.info? e).map (·.size) = some 1) (A B : Nat) (hA : A < W384) (hB : B < W384) (w : World) :
    (binOp .neq t (.agg (wv A)) (.agg (wv B))).run P w = .ok (.bool (!decide (A = B))) w := by
  have h' : (Op.equal t (.agg (wv A)) (.agg (wv B))).run P w = .ok (decide (A = B)) w := by
    refine (run_equalIn_cells ht he hi 9998 (limb A) (limb B) w).trans ?_
    congr 1
    exact decide_eq_decide.2 ⟨fun h2 => limb_ext (n := 6) hA hB h2, fun h i _ => by rw [h]⟩
  simp [binOp, h']

theorem Blk.newAt (w : World) (cs : Array Value) (t : TypeId) {b : Nat} (hb : b = w.heap.size) : Blk (w.alloc (.cells cs t)) b cs t := by subst hb; exact Blk.new w cs t
theorem below_alloc {n : Nat} {a w : World} (h : Below n a w) (hn : n ≤ w.heap.size) (o : Obj) : Below n a (w.alloc o) := h.alloc hn o
theorem wpList_load_wv {P : Program} {ops : Array Oper} {rest : List Oper} {o : Oper} {a : Act} {w : World} {Q : Exit → Act → World → Prop} (hgd : o.guard = none) (ty : TypeId) (x : Operand) (ho : o.op = .load ty x)
    (g : Nat) (hx : a.eval x = .pointer (some ⟨g, 0, none⟩)) (t : TypeId) (A : Nat) (d : TypeDesc) (hg : Blk w g (wv A) t) (hu : P.underlying ty = some d) (hd : isRow d = true) (hi : (P.info? ty).map (·.size) = some 6)
    (h : wpList P ops Q rest (a.put o.dst (.agg (wv A))) w) : wpList P ops Q (o :: rest) a w :=
  wpList_load_blk hgd ty x ho g hx t (wv A) d hg hu hd (by rw [wv_size]; exact hi) h
theorem wpList_load_wv_g {P : Program} {ops : Array Oper} {rest : List Oper} {o : Oper} {a : Act} {w : World} {Q : Exit → Act → World → Prop} (hw : Region.wanted o (yielded ops a.tmps) = true) (ty : TypeId) (x : Operand) (ho : o.op = .load ty x)
    (g : Nat) (hx : a.eval x = .pointer (some ⟨g, 0, none⟩)) (t : TypeId) (A : Nat) (d : TypeDesc) (hg : Blk w g (wv A) t) (hu : P.underlying ty = some d) (hd : isRow d = true) (hi : (P.info? ty).map (·.size) = some 6)
    (h : wpList P ops Q rest (a.put o.dst (.agg (wv A))) w) : wpList P ops Q (o :: rest) a w :=
  wpList_step fun K hK => by
    simp only [hw, if_true]
    exact wp_load_row ty x ho g hx t (wv A) (0, 0) d hg hu (by cases d <;> first | rfl | simp [isRow] at hd) (by rw [wv_size]; exact hi) (hK _ _ h)
theorem wpList_store_wv {P : Program} {ops : Array Oper} {rest : List Oper} {o : Oper} {a : Act} {w : World} {Q : Exit → Act → World → Prop} (hgd : o.guard = none) (ty : TypeId) (x y : Operand) (ho : o.op = .store ty x y)
    (g : Nat) (A : Nat) (hx : a.eval x = .pointer (some ⟨g, 0, none⟩)) (hy : a.eval y = .agg (wv A)) (t : TypeId) (B : Nat) (hg : Blk w g (wv B) t) (hi : (P.info? ty).map (·.size) = some 6)
    (h : wpList P ops Q rest (a.put o.dst undef) (w.setRow g (wv A))) : wpList P ops Q (o :: rest) a w :=
  wpList_store_blk hgd ty x y ho g (wv A) hx hy t (wv B) hg (by rw [wv_size]; exact hi) (by rw [wv_size, wv_size]) (wv_one A) h
theorem Blk.zeroAt (w : World) (t : TypeId) {b : Nat} (hb : b = w.heap.size) : Blk (w.alloc (.cells #[.int .u64 0, .int .u64 0, .int .u64 0, .int .u64 0, .int .u64 0, .int .u64 0] t)) b (wv 0) t := by subst hb; rw [wv_zero]; exact Blk.new w _ t
def Has (w : World) (b : Nat) (t : TypeId) : Prop := ∃ cs, Blk w b cs t
theorem Has.row {w : World} {b : Nat} {t : TypeId} (h : Has w b t) (cs' : Array Value) : Blk (w.setRow b cs') b cs' t := h.elim fun _ h => h.row cs'
theorem Has.drew {w : World} {b : Nat} {t : TypeId} (h : Has w b t) : Has w.drew b t := h.elim fun _ h => ⟨_, h.drew⟩
theorem Has.newAt (w : World) (cs : Array Value) (t : TypeId) {b : Nat} (hb : b = w.heap.size) : Has (w.alloc (.cells cs t)) b t := ⟨_, Blk.newAt w cs t hb⟩
theorem Has.alloc {w : World} {b : Nat} {t : TypeId} (h : Has w b t) (o : Obj) : Has (w.alloc o) b t := h.elim fun _ h => ⟨_, h.alloc o⟩
theorem Has.setRow {w : World} {b : Nat} {t : TypeId} (h : Has w b t) (b' : Nat) (cs' : Array Value) : Has (w.setRow b' cs') b t := h.elim fun _ h => by
  by_cases e : b = b'
  · subst e; exact ⟨_, h.row cs'⟩
  · exact ⟨_, h.rowOther cs' e⟩
theorem Has.below {w w' : World} {b n : Nat} {t : TypeId} (h : Has w b t) (hb : Below n w w') (hn : b < n) : Has w' b t := h.elim fun _ h => ⟨_, h.below hb hn⟩
theorem Blk.has {w : World} {b : Nat} {cs : Array Value} {t : TypeId} (h : Blk w b cs t) : Has w b t := ⟨_, h⟩
theorem below_after {n : Nat} {a w w' : World} (h' : Below w.heap.size w w') (hn : n ≤ w.heap.size) (h : Below n a w) : Below n a w' := below_then h hn h'
theorem Has.belowR {w w' : World} {b n : Nat} {t : TypeId} (hb : Below n w w') (hn : b < n) (h : Has w b t) : Has w' b t := h.below hb hn
theorem Blk.belowR {w w' : World} {b n : Nat} {cs : Array Value} {t : TypeId} (hb : Below n w w') (hn : b < n) (h : Blk w b cs t) : Blk w' b cs t := h.below hb hn
theorem below_allocR {n : Nat} {a w : World} (hn : n ≤ w.heap.size) (h : Below n a w) (o : Obj) : Below n a (w.alloc o) := h.alloc hn o
theorem below_setRowR {n b : Nat} {a w : World} (hb : n ≤ b) (h : Below n a w) (cs : Array Value) : Below n a (w.setRow b cs) := below_setRow h hb cs
/-- numbers in blocks: which block holds which number -/
structure St (L : List (Nat × Nat)) (t : TypeId) (w0 w : World) : Prop where
  all : ∀ (i : Nat) (x : Nat × Nat), L[i]? = some x → Blk w x.1 (wv x.2) t
  le : Below w0.heap.size w0 w
theorem St.nil (t : TypeId) (w : World) : St [] t w w := ⟨fun i x h => by simp at h, Below.refl _ _⟩
theorem St.box {L : List (Nat × Nat)} {t : TypeId} {w0 w : World} (h : St L t w0 w) (A : Nat) : St ((w.heap.size, A) :: L) t w0 (w.alloc (.cells (wv A) t)) := by
  refine ⟨fun i x hx => ?_, h.le.alloc h.le.size _⟩
  cases i with
  | zero => simp at hx; subst hx; exact Blk.new _ _ _
  | succ i => exact (h.all i x (by simpa using hx)).alloc _
theorem St.boxAt {L : List (Nat × Nat)} {t : TypeId} {w0 w : World} (h : St L t w0 w) (A : Nat) (b : Nat) (hb : b = w.heap.size) : St ((b, A) :: L) t w0 (w.alloc (.cells (wv A) t)) := by subst hb; exact h.box A
theorem St.call {L : List (Nat × Nat)} {t : TypeId} {w0 w w1 : World} (h : St L t w0 w) (hb : Below w.heap.size w w1) : St L t w0 w1 :=
  ⟨fun i x hx => (h.all i x hx).below hb (h.all i x hx).lt, below_then h.le h.le.size hb⟩
/-- behind a callee: its number is laid into a new block -/
theorem St.next {L : List (Nat × Nat)} {t : TypeId} {w0 w w1 : World} (h : St L t w0 w) (hb : Below w.heap.size w w1) (r : Nat) (cs : Array Value) : St ((w1.heap.size, r) :: L) t w0 ((w1.alloc (.cells cs t)).setRow w1.heap.size (wv r)) := by
  have h1 := h.call hb
  refine ⟨fun i x hx => ?_, below_setRow (h1.le.alloc h1.le.size _) h1.le.size _⟩
  cases i with
  | zero => simp at hx; subst hx; exact (Blk.new _ _ _).row _
  | succ i =>
    have := h1.all i x (by simpa using hx)
    exact (this.alloc _).rowOther _ (by have := this.lt; omega)
/-- blocks of any kind: which holds what -/
structure Bs (L : List (Nat × Array Value × TypeId)) (w0 w : World) : Prop where
  all : ∀ (i : Nat) (x : Nat × Array Value × TypeId), L[i]? = some x → Blk w x.1 x.2.1 x.2.2
  le : Below w0.heap.size w0 w
theorem Bs.nil (w : World) : Bs [] w w := ⟨fun i x h => by simp at h, Below.refl _ _⟩
theorem Bs.box {L : List (Nat × Array Value × TypeId)} {w0 w : World} (h : Bs L w0 w) (cs : Array Value) (t : TypeId) (b : Nat) (hb : b = w.heap.size) : Bs ((b, cs, t) :: L) w0 (w.alloc (.cells cs t)) := by
  subst hb
  refine ⟨fun i x hx => ?_, h.le.alloc h.le.size _⟩
  cases i with
  | zero => simp at hx; subst hx; exact Blk.new _ _ _
  | succ i => exact (h.all i x (by simpa using hx)).alloc _
theorem Bs.call {L : List (Nat × Array Value × TypeId)} {w0 w w1 : World} (h : Bs L w0 w) (hb : Below w.heap.size w w1) : Bs L w0 w1 :=
  ⟨fun i x hx => (h.all i x hx).below hb (h.all i x hx).lt, below_then h.le h.le.size hb⟩
theorem Bs.drew {L : List (Nat × Array Value × TypeId)} {w0 w : World} (h : Bs L w0 w) : Bs L w0 w.drew := ⟨fun i x hx => (h.all i x hx).drew, h.le.drew⟩
/-- behind a callee: its row is laid into a new block -/
theorem Bs.next {L : List (Nat × Array Value × TypeId)} {w0 w w1 : World} (h : Bs L w0 w) (hb : Below w.heap.size w w1) (cs old : Array Value) (t : TypeId) : Bs ((w1.heap.size, cs, t) :: L) w0 ((w1.alloc (.cells old t)).setRow w1.heap.size cs) := by
  have h1 := (h.call hb)
  refine ⟨fun i x hx => ?_, below_setRow (h1.le.alloc h1.le.size _) h1.le.size _⟩
  cases i with
  | zero => simp at hx; subst hx; exact (Blk.new _ _ _).row cs
  | succ i =>
    have h2 := h1.all i x (by simpa using hx)
    exact (h2.alloc _).rowOther cs (Nat.ne_of_lt h2.lt)
theorem Bs.nextR {L : List (Nat × Array Value × TypeId)} {w0 w : World} (h : Bs L w0 w) (cs old : Array Value) (t : TypeId) : Bs ((w.heap.size, cs, t) :: L) w0 ((w.alloc (.cells old t)).setRow w.heap.size cs) := h.next (Below.refl _ _) cs old t
end Go.Proofs.YtlpgflmjpdhpnaaDoor
