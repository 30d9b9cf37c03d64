/- abacusref24.row: what holds on the way. -/
import Derived.Test.YteelconabmfnkaaVb
import Derived.Deep.Cut
import Derived.Deep.CutRange
namespace Go.Proofs.Yteelconabmfnkaa
open Go Go.RowKit
set_option maxHeartbeats 4000000
set_option maxRecDepth 100000
set_option linter.unusedVariables false
set_option linter.unusedSimpArgs false
structure Rs (w W : World) (l : Ln) (b : Nat) (r : R7) : Prop where
  ln : Blk W w.heap.size (lnV l) 111
  nm : Blk W (w.heap.size + 1) (entV zeroR emp) 42
  row : Blk W b (rowV r) 40
  hb : w.heap.size + 1 < b
  bel : Below w.heap.size w W
  hm : r.mask < 4294967296
  ht : r.mtch < 4294967296
section
variable {w W W' w1 : World} {l : Ln} {b : Nat} {r : R7}
theorem Rs.call (h : Rs w W l b r) (hb : Below W.heap.size W W') : Rs w W' l b r :=
  ⟨h.ln.below hb h.ln.lt, h.nm.below hb h.nm.lt, h.row.below hb h.row.lt, h.hb, h.bel.trans (hb.mono h.bel.size), h.hm, h.ht⟩
theorem Rs.acall {o : Obj} (h : Rs w W l b r) (hb : Below (W.alloc o).heap.size (W.alloc o) W') : Rs w W' l b r := (h.call ((Below.refl _ W).alloc (Nat.le_refl _) o)).call hb
theorem Rs.st (h : Rs w W l b r) (r' : R7) (hm : r'.mask < 4294967296) (ht : r'.mtch < 4294967296) : Rs w (W.setRow b (rowV r')) l b r' :=
  ⟨h.ln.rowOther _ (by have := h.hb; omega), h.nm.rowOther _ (by have := h.hb; omega), h.row.row _, h.hb, below_setRow h.bel (by have := h.hb; omega) _, hm, ht⟩
theorem Rs.st25 (h : Rs w W l b r) (v : Nat) (hv : v < 2 ^ 2) : Rs w (W.setRow b (rowV (pt25 v r))) l b (pt25 v r) := h.st _ (or_lt32 h.hm (by decide)) (or_lt32 h.ht (by omega))
theorem Rs.st27 (h : Rs w W l b r) (v : Nat) (hv : v < 2 ^ 5) : Rs w (W.setRow b (rowV (pt27 v r))) l b (pt27 v r) := h.st _ (or_lt32 h.hm (by decide)) (or_lt32 h.ht (by omega))
theorem Rs.st12 (h : Rs w W l b r) (v : Nat) (hv : v < 2 ^ 3) : Rs w (W.setRow b (rowV (pt12 v r))) l b (pt12 v r) := h.st _ (or_lt32 h.hm (by decide)) (or_lt32 h.ht (by omega))
theorem Rs.st20 (h : Rs w W l b r) (v : Nat) (hv : v < 2 ^ 5) : Rs w (W.setRow b (rowV (pt20 v r))) l b (pt20 v r) := h.st _ (or_lt32 h.hm (by decide)) (or_lt32 h.ht (by omega))
theorem Rs.start (w w1 : World) (l : Ln) (v f g k : Nat) (hv : v < 2 ^ 7) (hb : Below ((w.alloc (.cells (lnV l) 111)).alloc (.cells (entV zeroR emp) 42)).heap.size ((w.alloc (.cells (lnV l) 111)).alloc (.cells (entV zeroR emp) 42)) w1) :
    Rs w (w1.alloc (.cells (rowV (pt0 v ⟨l.op, f, g, k, 0, 0, l.lay⟩)) 40)) l w1.heap.size (pt0 v ⟨l.op, f, g, k, 0, 0, l.lay⟩) := by
  have k1 := (Blk.new w (lnV l) 111).alloc (.cells (entV zeroR emp) 42)
  have k2 := Blk.new (w.alloc (.cells (lnV l) 111)) (entV zeroR emp) 42
  rw [World.size_alloc] at k2
  have hs := hb.size
  simp only [World.size_alloc] at hs
  have kb := (((Below.refl w.heap.size w).alloc (Nat.le_refl _) (.cells (lnV l) 111)).alloc (by simp) (.cells (entV zeroR emp) 42)).trans (hb.mono (by simp only [World.size_alloc]; omega))
  exact ⟨(k1.below hb k1.lt).alloc _, (k2.below hb k2.lt).alloc _, Blk.new _ _ _, by omega, kb.alloc (by omega) _, or_lt32 (by show 0 < 4294967296; decide) (by decide), or_lt32 (by show 0 < 4294967296; decide) (by omega)⟩
theorem wpList_store_Rs {ops : Array Oper} {rest : List Oper} {o : Oper} {a : Act} {Q : Exit → Act → World → Prop} (hgd : o.guard = none) (x y : Operand) (ho : o.op = .store 40 x y)
    (hx : a.eval x = .pointer (some ⟨b, 0, none⟩)) (hS : Rs w W l b r) (r' : R7) (hm : r'.mask < 4294967296) (ht : r'.mtch < 4294967296) (hy : a.eval y = .agg (rowV r'))
    (h : ∀ V, Rs w V l b r' → wpList Try.prog ops Q rest (a.put o.dst undef) V) : wpList Try.prog ops Q (o :: rest) a W :=
  wpList_store_blk hgd _ x y ho b _ hx hy _ _ hS.row (by kernel_rfl) rfl (by simp [Value.oneCell']) (h _ (hS.st r' hm ht))
theorem Rs.cells (h : Rs w W l b r) : W.cell? ⟨w.heap.size, 0, none⟩ = some (.int .u8 (l.op : Nat)) ∧ W.cell? ⟨w.heap.size, 1, none⟩ = some (.string l.name) ∧ W.cell? ⟨w.heap.size, 3, none⟩ = some (.int .i64 l.rs3) ∧ W.cell? ⟨w.heap.size, 4, none⟩ = some (.int .i64 l.rm) ∧
    W.cell? ⟨w.heap.size, 5, none⟩ = some (.int .i64 l.rs2) ∧ W.cell? ⟨w.heap.size, 8, none⟩ = some (.bool l.frm) ∧ W.cell? ⟨w.heap.size, 10, none⟩ = some (.bool l.nof) ∧ W.cell? ⟨w.heap.size, 11, none⟩ = some (.bool l.siz) :=
  ⟨h.ln.cell 0, h.ln.cell 1, h.ln.cell 3, h.ln.cell 4, h.ln.cell 5, h.ln.cell 8, h.ln.cell 10, h.ln.cell 11⟩
end
end Go.Proofs.Yteelconabmfnkaa
