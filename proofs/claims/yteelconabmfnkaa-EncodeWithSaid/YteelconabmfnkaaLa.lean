/- abacuslaw25.lives. -/
import Derived.Test.YteelconabmfnkaaTt
import Derived.Laws.StructEq
namespace Go.Proofs.Yteelconabmfnkaa
open Go Go.RowKit
set_option maxHeartbeats 4000000
set_option maxRecDepth 100000
set_option linter.unusedVariables false
set_option linter.unusedSimpArgs false
theorem dec_add : DEC 3211475 = some ⟨7, 0, 0, 0, 1, 2, 3, 0, 0, 0, 0⟩ := by decide +kernel
theorem dec_store : DEC 4262538791 = some ⟨2, 0, 0, 0, 0, 2, 1, 0, 0, -4, 0⟩ := by decide +kernel
theorem dec_zero : DEC 0 = none := by decide +kernel
theorem dec_csr : DEC 2216179 = some ⟨29, 0, 0, 0, 1, 3, 0, 0, 0, 0, 2⟩ := by decide +kernel
section
variable {P : Program} {ops : Array Oper} {Q : Exit → Act → World → Prop} {a : Act} {w : World} {rest : List Oper} {o : Oper}
theorem wpList_on (hw : Region.wanted o (yielded ops a.tmps) = true) (h : ∀ K : Act → World → Prop, (∀ a w, wpList P ops Q rest a w → K a w) → o.wp P a w K Q) : wpList P ops Q (o :: rest) a w :=
  wpList_step fun K hK => by rw [if_pos hw]; exact h K hK
/-- a load of a whole block, by an operation that may be guarded -/
theorem wpList_load_blk_on (hw : Region.wanted o (yielded ops a.tmps) = true) (ty : TypeId) (x : Operand) (ho : o.op = .load ty x)
    (g : Nat) (hx : a.eval x = .pointer (some ⟨g, 0, none⟩)) (t : TypeId) (cs : Array Value) (d : TypeDesc) (hg : Blk w g cs t) (hu : P.underlying ty = some d) (hd : isRow d = true) (hi : (P.info? ty).map (·.size) = some cs.size)
    (h : wpList P ops Q rest (a.put o.dst (.agg cs)) w) : wpList P ops Q (o :: rest) a w :=
  wpList_on hw fun _ hK => wp_load_row ty x ho g hx t cs (0, 0) d hg hu (by cases d <;> first | rfl | simp [isRow] at hd) hi (hK _ _ h)
end
theorem Blk.call {w w' : World} {b : Nat} {cs : Array Value} {t : TypeId} (h : Blk w b cs t) (hb : Below w.heap.size w w') : Blk w' b cs t := h.below hb h.lt
theorem Blk.acall {w w' : World} {b : Nat} {cs : Array Value} {t : TypeId} {o : Obj} (h : Blk w b cs t) (hb : Below (w.alloc o).heap.size (w.alloc o) w') : Blk w' b cs t := (h.alloc o).call hb
theorem Blk.nlater {w w' : World} {cs : Array Value} {t : TypeId} (hb : Below (w.alloc (.cells cs t)).heap.size (w.alloc (.cells cs t)) w') : Blk w' w.heap.size cs t := (Blk.new w cs t).call hb
theorem below_acall {n : Nat} {w0 w w' : World} {o : Obj} (h : Below n w0 w) (hn : n ≤ w.heap.size) (hb : Below (w.alloc o).heap.size (w.alloc o) w') : Below n w0 w' := (h.alloc hn o).trans (hb.mono (by simp; omega))
theorem lives25 (W : World) : Calls Try.prog 40 #[] W fun e w' => e = .returned (.bool true) ∧ Below W.heap.size W w' := by
  have C1 : Hid (∀ X, Calls Try.prog 22 #[.int .u32 3211475] X fun e w' => e = .returned (.tuple #[.agg (instV ⟨7, 0, 0, 0, 1, 2, 3, 0, 0, 0, 0⟩), .int .i64 0]) ∧ Below X.heap.size X w') := Lib.hid fun X => by
    have := decode_c X 3211475 (by decide); unfold DecP at this; rw [dec_add] at this; exact this
  have C2 : Hid (∀ X, Calls Try.prog 22 #[.int .u32 4262538791] X fun e w' => e = .returned (.tuple #[.agg (instV ⟨2, 0, 0, 0, 0, 2, 1, 0, 0, -4, 0⟩), .int .i64 0]) ∧ Below X.heap.size X w') := Lib.hid fun X => by
    have := decode_c X 4262538791 (by decide); unfold DecP at this; rw [dec_store] at this; exact this
  have C3 : Hid (∀ X, Calls Try.prog 22 #[.int .u32 0] X fun e w' => e = .returned (.tuple #[.agg (instV zeroI), .int .i64 250]) ∧ Below X.heap.size X w') := Lib.hid fun X => by
    have := decode_c X 0 (by decide); unfold DecP at this; rw [dec_zero] at this; exact this
  have C4 : Hid (∀ X, Calls Try.prog 41 #[.int .u32 2216179] X fun e w' => e = .returned (.tuple #[.agg (useV ⟨0, 0, 2, 0⟩), .int .i64 0]) ∧ Below X.heap.size X w') := Lib.hid fun X => by
    have := uses_c X 2216179 (by decide); unfold UsesP at this; rw [dec_csr] at this; exact this
  go_enter Try.func40, Try.ntmps40
  go_wp2_with (first
    | (go_at_call 22; (with_reducible refine (C1.out _).mono ?_); rintro e w1 ⟨rfl, b1⟩; clear C1)
    | (go_at_call 22; (with_reducible refine (C2.out _).mono ?_); rintro e w2 ⟨rfl, b2⟩; clear C2)
    | (go_at_call 22; (with_reducible refine (C3.out _).mono ?_); rintro e w3 ⟨rfl, b3⟩; clear C3)
    | (go_at_call 41; (with_reducible refine (C4.out _).mono ?_); rintro e w4 ⟨rfl, b4⟩; clear C4; have q1 := (((Blk.nlater b2).acall b3).acall b4).alloc (.cells (useV ⟨0, 0, 2, 0⟩) 68); have q2 := ((Blk.nlater b3).acall b4).alloc (.cells (useV ⟨0, 0, 2, 0⟩) 68); have q4 := Blk.new w4 (useV ⟨0, 0, 2, 0⟩) 68)
    | (refine wpList_load_blk_on rfl _ _ rfl _ rfl _ _ _ q1 Try.underlying27 rfl (by kernel_rfl) ?_)
    | (refine wpList_load_blk_on rfl _ _ rfl _ rfl _ _ _ q2 Try.underlying27 rfl (by kernel_rfl) ?_)
    | (refine wpList_load_blk_on rfl _ _ rfl _ rfl _ _ _ q4 Try.underlying68 rfl (by kernel_rfl) ?_))
  go_ret
  exact ⟨rfl, (below_acall (below_acall (below_acall b1 b1.size b2) (below_acall b1 b1.size b2).size b3) (below_acall (below_acall b1 b1.size b2) (below_acall b1 b1.size b2).size b3).size b4).alloc (below_acall (below_acall (below_acall b1 b1.size b2) (below_acall b1 b1.size b2).size b3) (below_acall (below_acall b1 b1.size b2) (below_acall b1 b1.size b2).size b3).size b4).size _⟩
end Go.Proofs.Yteelconabmfnkaa
