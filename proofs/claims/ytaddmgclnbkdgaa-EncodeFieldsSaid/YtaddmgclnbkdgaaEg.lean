/- encode.lays. -/
import Derived.Test.YtaddmgclnbkdgaaEf
import Derived.Laws.EntriesVeiled
namespace Go.Proofs.Ytaddmgclnbkdgaa
open Go Go.RowKit
set_option maxHeartbeats 4000000
set_option maxRecDepth 100000
set_option linter.unusedVariables false
set_option linter.unusedSimpArgs false
abbrev laysV (c1 c3 c4 c5 : Nat) : Array Value := #[.nilFunc, .func (.func 96) #[] #[.pointer (some ⟨c1, 0, none⟩), .pointer (some ⟨c5, 0, none⟩)], .func (.func 97) #[] #[.pointer (some ⟨c5, 0, none⟩)], .func (.func 98) #[] #[.pointer (some ⟨c4, 0, none⟩)],
  .func (.func 93) #[] #[.pointer (some ⟨c3, 0, none⟩)], .func (.func 92) #[] #[.pointer (some ⟨c1, 0, none⟩)], .func (.func 90) #[] #[.pointer (some ⟨c1, 0, none⟩)], .func (.func 89) #[] #[],
  .func (.func 95) #[] #[.pointer (some ⟨c1, 0, none⟩)], .func (.func 95) #[] #[.pointer (some ⟨c1, 0, none⟩)]]
abbrev l3V (c1 : Nat) : Value := .func (.func 92) #[] #[.pointer (some ⟨c1, 0, none⟩)]
abbrev l4V (c3 : Nat) : Value := .func (.func 93) #[] #[.pointer (some ⟨c3, 0, none⟩)]
abbrev l1V : Value := .func (.func 89) #[] #[]
abbrev l5V : Value := .func (.func 94) #[] #[]
theorem lays_c (W : World) : Calls Try.prog 73 #[] W fun e w' => e = .returned (.agg (laysV (W.heap.size + 1) (W.heap.size + 1 + 1) (W.heap.size + 1 + 1 + 1) (W.heap.size + 1 + 1 + 1 + 1))) ∧
    (w'.cell? ⟨W.heap.size + 1, 0, none⟩ = some l1V ∧ w'.cell? ⟨W.heap.size + 1 + 1, 0, none⟩ = some (l3V (W.heap.size + 1)) ∧ w'.cell? ⟨W.heap.size + 1 + 1 + 1, 0, none⟩ = some (l4V (W.heap.size + 1 + 1)) ∧ w'.cell? ⟨W.heap.size + 1 + 1 + 1 + 1, 0, none⟩ = some l5V) ∧ Below W.heap.size W w' := by
  go_enter Try.func73, Try.ntmps73
  go_wp2
  obtain ⟨B0, h0⟩ : ∃ B0, W.alloc (.cells (laysV (W.heap.size + 1) (W.heap.size + 1 + 1) (W.heap.size + 1 + 1 + 1) (W.heap.size + 1 + 1 + 1 + 1)) 134) = B0 := ⟨_, rfl⟩
  have s0 : B0.heap.size = W.heap.size + 1 := by rw [← h0, World.size_alloc]
  have b0 : Below W.heap.size W B0 := by rw [← h0]; exact (Below.refl _ W).alloc (Nat.le_refl _) _
  have r0 : Blk B0 W.heap.size (laysV (W.heap.size + 1) (W.heap.size + 1 + 1) (W.heap.size + 1 + 1 + 1) (W.heap.size + 1 + 1 + 1 + 1)) 134 := by rw [← h0]; exact Blk.new W _ _
  obtain ⟨B1, h1⟩ : ∃ B1, B0.alloc (.cells #[l1V] 133) = B1 := ⟨_, rfl⟩
  have s1 : B1.heap.size = W.heap.size + 1 + 1 := by rw [← h1, World.size_alloc, s0]
  have b1 : Below W.heap.size W B1 := by rw [← h1]; exact b0.alloc (by omega) _
  have r1 : Blk B1 (W.heap.size + 1) #[l1V] 133 := by rw [← h1, ← s0]; exact Blk.new B0 _ _
  obtain ⟨B2, h2⟩ : ∃ B2, B1.alloc (.cells #[l3V (W.heap.size + 1)] 133) = B2 := ⟨_, rfl⟩
  have s2 : B2.heap.size = W.heap.size + 1 + 1 + 1 := by rw [← h2, World.size_alloc, s1]
  have b2 : Below W.heap.size W B2 := by rw [← h2]; exact b1.alloc (by omega) _
  have r2 : Blk B2 (W.heap.size + 1 + 1) #[l3V (W.heap.size + 1)] 133 := by rw [← h2, ← s1]; exact Blk.new B1 _ _
  obtain ⟨B3, h3⟩ : ∃ B3, B2.alloc (.cells #[l4V (W.heap.size + 1 + 1)] 133) = B3 := ⟨_, rfl⟩
  have s3 : B3.heap.size = W.heap.size + 1 + 1 + 1 + 1 := by rw [← h3, World.size_alloc, s2]
  have b3 : Below W.heap.size W B3 := by rw [← h3]; exact b2.alloc (by omega) _
  have r3 : Blk B3 (W.heap.size + 1 + 1 + 1) #[l4V (W.heap.size + 1 + 1)] 133 := by rw [← h3, ← s2]; exact Blk.new B2 _ _
  obtain ⟨B4, h4⟩ : ∃ B4, B3.alloc (.cells #[l5V] 32) = B4 := ⟨_, rfl⟩
  have b4 : Below W.heap.size W B4 := by rw [← h4]; exact b3.alloc (by omega) _
  have r4 : Blk B4 (W.heap.size + 1 + 1 + 1 + 1) #[l5V] 32 := by rw [← h4, ← s3]; exact Blk.new B3 _ _
  have q0 : Blk B4 W.heap.size (laysV (W.heap.size + 1) (W.heap.size + 1 + 1) (W.heap.size + 1 + 1 + 1) (W.heap.size + 1 + 1 + 1 + 1)) 134 := by rw [← h4, ← h3, ← h2, ← h1]; exact (((r0.alloc _).alloc _).alloc _).alloc _
  have q1 : Blk B4 (W.heap.size + 1) #[l1V] 133 := by rw [← h4, ← h3, ← h2]; exact ((r1.alloc _).alloc _).alloc _
  have q2 : Blk B4 (W.heap.size + 1 + 1) #[l3V (W.heap.size + 1)] 133 := by rw [← h4, ← h3]; exact (r2.alloc _).alloc _
  have q3 : Blk B4 (W.heap.size + 1 + 1 + 1) #[l4V (W.heap.size + 1 + 1)] 133 := by rw [← h4]; exact r3.alloc _
  show bodyPost _ _ _ _ _ (((((W.alloc (.cells (laysV (W.heap.size + 1) (W.heap.size + 1 + 1) (W.heap.size + 1 + 1 + 1) (W.heap.size + 1 + 1 + 1 + 1)) 134)).alloc (.cells #[l1V] 133)).alloc (.cells #[l3V (W.heap.size + 1)] 133)).alloc (.cells #[l4V (W.heap.size + 1 + 1)] 133)).alloc (.cells #[l5V] 32))
  rw [h0, h1, h2, h3, h4]
  exact bodyPost_ret (results_cell rfl _ _ W.heap.size _ _ _ rfl q0 Try.underlying134 rfl (by kernel_rfl)) rfl ⟨rfl, ⟨q1.cell 0, q2.cell 0, q3.cell 0, r4.cell 0⟩, b4⟩
/-- the functions by the layout -/
def lfun : Nat → Nat
  | 1 => 96 | 2 => 97 | 3 => 98 | 4 => 93 | 5 => 92 | 6 => 90 | 7 => 89 | _ => 95
def lcap (l c1 c3 c4 c5 : Nat) : List Value := match l with
  | 1 => [.pointer (some ⟨c1, 0, none⟩), .pointer (some ⟨c5, 0, none⟩)] | 2 => [.pointer (some ⟨c5, 0, none⟩)] | 3 => [.pointer (some ⟨c4, 0, none⟩)] | 4 => [.pointer (some ⟨c3, 0, none⟩)] | 5 => [.pointer (some ⟨c1, 0, none⟩)] | 6 => [.pointer (some ⟨c1, 0, none⟩)] | 7 => [] | _ => [.pointer (some ⟨c1, 0, none⟩)]
def ownL (l : Nat) (x : I11) : I11 := match l with
  | 1 => own7 x | 2 => own8 x | 3 => own9 x | 4 => own4 x | 5 => own3 x | 6 => own2 x | 7 => ownRd x | _ => own6 x
def mayL (l : Nat) (x : I11) : Bool := match l with
  | 1 => may7 x | 2 => may8 x | 3 => may9 x | 4 => may4 x | 5 => may3 x | 6 => may2 x | 7 => may1 x | _ => may6 x
def VL (l : Nat) (x : I11) : Nat := match l with
  | 1 => V7 x | 2 => V8 x | 3 => V9 x | 4 => V4 x | 5 => V3 x | 6 => V2 x | 7 => V1 x | _ => V6 x
structure Fin11 (x : I11) : Prop where
  h0 : x.op < 256
  h1 : x.rd < 256
  h2 : x.rs1 < 256
  h3 : x.rs2 < 256
  h4 : x.rs3 < 256
  h5 : x.rm < 256
  h6 : x.csr < 256
  h7 : -32768 ≤ x.imm ∧ x.imm ≤ 32767
theorem laid_1 (X : World) (c1 c3 c4 c5 : Nat) (x : I11) (b : Fin11 x) (h : X.cell? ⟨c1, 0, none⟩ = some l1V ∧ X.cell? ⟨c3, 0, none⟩ = some (l3V c1) ∧ X.cell? ⟨c4, 0, none⟩ = some (l4V c3) ∧ X.cell? ⟨c5, 0, none⟩ = some l5V) :
    Calls Try.prog (lfun 1) (([] : List Value) ++ [Value.agg (instV x)] ++ lcap 1 c1 c3 c4 c5).toArray X (LayP X (ownL 1 x) (mayL 1 x) (VL 1 x)) := by
  obtain ⟨a1, a3, a4, a5⟩ := h
  have e := lay7_c X c1 c5 x b.h1 b.h2 b.h3 b.h4 b.h5 b.h6 b.h7 a1 a5
  have f1 : lfun 1 = 96 := rfl
  have f2 : (([] : List Value) ++ [Value.agg (instV x)] ++ lcap 1 c1 c3 c4 c5).toArray = #[.agg (instV x), .pointer (some ⟨c1, 0, none⟩), .pointer (some ⟨c5, 0, none⟩)] := rfl
  have f3 : ownL 1 x = own7 x := rfl
  have f4 : mayL 1 x = may7 x := rfl
  have f5 : VL 1 x = V7 x := rfl
  rw [f1, f2, f3, f4, f5]
  exact e
theorem laid_2 (X : World) (c1 c3 c4 c5 : Nat) (x : I11) (b : Fin11 x) (h : X.cell? ⟨c1, 0, none⟩ = some l1V ∧ X.cell? ⟨c3, 0, none⟩ = some (l3V c1) ∧ X.cell? ⟨c4, 0, none⟩ = some (l4V c3) ∧ X.cell? ⟨c5, 0, none⟩ = some l5V) :
    Calls Try.prog (lfun 2) (([] : List Value) ++ [Value.agg (instV x)] ++ lcap 2 c1 c3 c4 c5).toArray X (LayP X (ownL 2 x) (mayL 2 x) (VL 2 x)) := by
  obtain ⟨a1, a3, a4, a5⟩ := h
  have e := lay8_c X c5 x b.h1 b.h2 b.h3 b.h4 b.h5 b.h6 b.h7 a5
  have f1 : lfun 2 = 97 := rfl
  have f2 : (([] : List Value) ++ [Value.agg (instV x)] ++ lcap 2 c1 c3 c4 c5).toArray = #[.agg (instV x), .pointer (some ⟨c5, 0, none⟩)] := rfl
  have f3 : ownL 2 x = own8 x := rfl
  have f4 : mayL 2 x = may8 x := rfl
  have f5 : VL 2 x = V8 x := rfl
  rw [f1, f2, f3, f4, f5]
  exact e
theorem laid_3 (X : World) (c1 c3 c4 c5 : Nat) (x : I11) (b : Fin11 x) (h : X.cell? ⟨c1, 0, none⟩ = some l1V ∧ X.cell? ⟨c3, 0, none⟩ = some (l3V c1) ∧ X.cell? ⟨c4, 0, none⟩ = some (l4V c3) ∧ X.cell? ⟨c5, 0, none⟩ = some l5V) :
    Calls Try.prog (lfun 3) (([] : List Value) ++ [Value.agg (instV x)] ++ lcap 3 c1 c3 c4 c5).toArray X (LayP X (ownL 3 x) (mayL 3 x) (VL 3 x)) := by
  obtain ⟨a1, a3, a4, a5⟩ := h
  have e := lay9_c X c4 c3 c1 x b.h1 b.h2 b.h3 b.h4 b.h5 b.h6 b.h7 a4 a3 a1
  have f1 : lfun 3 = 98 := rfl
  have f2 : (([] : List Value) ++ [Value.agg (instV x)] ++ lcap 3 c1 c3 c4 c5).toArray = #[.agg (instV x), .pointer (some ⟨c4, 0, none⟩)] := rfl
  have f3 : ownL 3 x = own9 x := rfl
  have f4 : mayL 3 x = may9 x := rfl
  have f5 : VL 3 x = V9 x := rfl
  rw [f1, f2, f3, f4, f5]
  exact e
theorem laid_4 (X : World) (c1 c3 c4 c5 : Nat) (x : I11) (b : Fin11 x) (h : X.cell? ⟨c1, 0, none⟩ = some l1V ∧ X.cell? ⟨c3, 0, none⟩ = some (l3V c1) ∧ X.cell? ⟨c4, 0, none⟩ = some (l4V c3) ∧ X.cell? ⟨c5, 0, none⟩ = some l5V) :
    Calls Try.prog (lfun 4) (([] : List Value) ++ [Value.agg (instV x)] ++ lcap 4 c1 c3 c4 c5).toArray X (LayP X (ownL 4 x) (mayL 4 x) (VL 4 x)) := by
  obtain ⟨a1, a3, a4, a5⟩ := h
  have e := lay4_c X c3 c1 x b.h1 b.h2 b.h3 b.h4 b.h5 b.h6 b.h7 a3 a1
  have f1 : lfun 4 = 93 := rfl
  have f2 : (([] : List Value) ++ [Value.agg (instV x)] ++ lcap 4 c1 c3 c4 c5).toArray = #[.agg (instV x), .pointer (some ⟨c3, 0, none⟩)] := rfl
  have f3 : ownL 4 x = own4 x := rfl
  have f4 : mayL 4 x = may4 x := rfl
  have f5 : VL 4 x = V4 x := rfl
  rw [f1, f2, f3, f4, f5]
  exact e
theorem laid_5 (X : World) (c1 c3 c4 c5 : Nat) (x : I11) (b : Fin11 x) (h : X.cell? ⟨c1, 0, none⟩ = some l1V ∧ X.cell? ⟨c3, 0, none⟩ = some (l3V c1) ∧ X.cell? ⟨c4, 0, none⟩ = some (l4V c3) ∧ X.cell? ⟨c5, 0, none⟩ = some l5V) :
    Calls Try.prog (lfun 5) (([] : List Value) ++ [Value.agg (instV x)] ++ lcap 5 c1 c3 c4 c5).toArray X (LayP X (ownL 5 x) (mayL 5 x) (VL 5 x)) := by
  obtain ⟨a1, a3, a4, a5⟩ := h
  have e := lay3_c X c1 x b.h1 b.h2 b.h3 b.h4 b.h5 b.h6 b.h7 a1
  have f1 : lfun 5 = 92 := rfl
  have f2 : (([] : List Value) ++ [Value.agg (instV x)] ++ lcap 5 c1 c3 c4 c5).toArray = #[.agg (instV x), .pointer (some ⟨c1, 0, none⟩)] := rfl
  have f3 : ownL 5 x = own3 x := rfl
  have f4 : mayL 5 x = may3 x := rfl
  have f5 : VL 5 x = V3 x := rfl
  rw [f1, f2, f3, f4, f5]
  exact e
theorem laid_6 (X : World) (c1 c3 c4 c5 : Nat) (x : I11) (b : Fin11 x) (h : X.cell? ⟨c1, 0, none⟩ = some l1V ∧ X.cell? ⟨c3, 0, none⟩ = some (l3V c1) ∧ X.cell? ⟨c4, 0, none⟩ = some (l4V c3) ∧ X.cell? ⟨c5, 0, none⟩ = some l5V) :
    Calls Try.prog (lfun 6) (([] : List Value) ++ [Value.agg (instV x)] ++ lcap 6 c1 c3 c4 c5).toArray X (LayP X (ownL 6 x) (mayL 6 x) (VL 6 x)) := by
  obtain ⟨a1, a3, a4, a5⟩ := h
  have e := lay2_c X c1 x b.h1 b.h2 b.h3 b.h4 b.h5 b.h6 b.h7 a1
  have f1 : lfun 6 = 90 := rfl
  have f2 : (([] : List Value) ++ [Value.agg (instV x)] ++ lcap 6 c1 c3 c4 c5).toArray = #[.agg (instV x), .pointer (some ⟨c1, 0, none⟩)] := rfl
  have f3 : ownL 6 x = own2 x := rfl
  have f4 : mayL 6 x = may2 x := rfl
  have f5 : VL 6 x = V2 x := rfl
  rw [f1, f2, f3, f4, f5]
  exact e
theorem laid_7 (X : World) (c1 c3 c4 c5 : Nat) (x : I11) (b : Fin11 x) (h : X.cell? ⟨c1, 0, none⟩ = some l1V ∧ X.cell? ⟨c3, 0, none⟩ = some (l3V c1) ∧ X.cell? ⟨c4, 0, none⟩ = some (l4V c3) ∧ X.cell? ⟨c5, 0, none⟩ = some l5V) :
    Calls Try.prog (lfun 7) (([] : List Value) ++ [Value.agg (instV x)] ++ lcap 7 c1 c3 c4 c5).toArray X (LayP X (ownL 7 x) (mayL 7 x) (VL 7 x)) := by
  obtain ⟨a1, a3, a4, a5⟩ := h
  have e := lay1_c X  x b.h1 b.h2 
  have f1 : lfun 7 = 89 := rfl
  have f2 : (([] : List Value) ++ [Value.agg (instV x)] ++ lcap 7 c1 c3 c4 c5).toArray = #[.agg (instV x)] := rfl
  have f3 : ownL 7 x = ownRd x := rfl
  have f4 : mayL 7 x = may1 x := rfl
  have f5 : VL 7 x = V1 x := rfl
  rw [f1, f2, f3, f4, f5]
  exact e
theorem laid_8 (X : World) (c1 c3 c4 c5 : Nat) (x : I11) (b : Fin11 x) (h : X.cell? ⟨c1, 0, none⟩ = some l1V ∧ X.cell? ⟨c3, 0, none⟩ = some (l3V c1) ∧ X.cell? ⟨c4, 0, none⟩ = some (l4V c3) ∧ X.cell? ⟨c5, 0, none⟩ = some l5V) :
    Calls Try.prog (lfun 8) (([] : List Value) ++ [Value.agg (instV x)] ++ lcap 8 c1 c3 c4 c5).toArray X (LayP X (ownL 8 x) (mayL 8 x) (VL 8 x)) := by
  obtain ⟨a1, a3, a4, a5⟩ := h
  have e := lay6_c X c1 x b.h1 b.h2 b.h3 b.h4 b.h5 b.h6 b.h7 a1
  have f1 : lfun 8 = 95 := rfl
  have f2 : (([] : List Value) ++ [Value.agg (instV x)] ++ lcap 8 c1 c3 c4 c5).toArray = #[.agg (instV x), .pointer (some ⟨c1, 0, none⟩)] := rfl
  have f3 : ownL 8 x = own6 x := rfl
  have f4 : mayL 8 x = may6 x := rfl
  have f5 : VL 8 x = V6 x := rfl
  rw [f1, f2, f3, f4, f5]
  exact e
theorem laid_9 (X : World) (c1 c3 c4 c5 : Nat) (x : I11) (b : Fin11 x) (h : X.cell? ⟨c1, 0, none⟩ = some l1V ∧ X.cell? ⟨c3, 0, none⟩ = some (l3V c1) ∧ X.cell? ⟨c4, 0, none⟩ = some (l4V c3) ∧ X.cell? ⟨c5, 0, none⟩ = some l5V) :
    Calls Try.prog (lfun 9) (([] : List Value) ++ [Value.agg (instV x)] ++ lcap 9 c1 c3 c4 c5).toArray X (LayP X (ownL 9 x) (mayL 9 x) (VL 9 x)) := by
  obtain ⟨a1, a3, a4, a5⟩ := h
  have e := lay6_c X c1 x b.h1 b.h2 b.h3 b.h4 b.h5 b.h6 b.h7 a1
  have f1 : lfun 9 = 95 := rfl
  have f2 : (([] : List Value) ++ [Value.agg (instV x)] ++ lcap 9 c1 c3 c4 c5).toArray = #[.agg (instV x), .pointer (some ⟨c1, 0, none⟩)] := rfl
  have f3 : ownL 9 x = own6 x := rfl
  have f4 : mayL 9 x = may6 x := rfl
  have f5 : VL 9 x = V6 x := rfl
  rw [f1, f2, f3, f4, f5]
  exact e
theorem laid_c (X : World) (l c1 c3 c4 c5 : Nat) (x : I11) (hx : Fin11 x) (hl : 1 ≤ l ∧ l ≤ 9) (h : X.cell? ⟨c1, 0, none⟩ = some l1V ∧ X.cell? ⟨c3, 0, none⟩ = some (l3V c1) ∧ X.cell? ⟨c4, 0, none⟩ = some (l4V c3) ∧ X.cell? ⟨c5, 0, none⟩ = some l5V) :
    Calls Try.prog (lfun l) (([] : List Value) ++ [Value.agg (instV x)] ++ lcap l c1 c3 c4 c5).toArray X (LayP X (ownL l x) (mayL l x) (VL l x)) := by
  rcases (by omega : l = 1 ∨ l = 2 ∨ l = 3 ∨ l = 4 ∨ l = 5 ∨ l = 6 ∨ l = 7 ∨ l = 8 ∨ l = 9) with rfl | rfl | rfl | rfl | rfl | rfl | rfl | rfl | rfl
  · exact laid_1 X c1 c3 c4 c5 x hx h
  · exact laid_2 X c1 c3 c4 c5 x hx h
  · exact laid_3 X c1 c3 c4 c5 x hx h
  · exact laid_4 X c1 c3 c4 c5 x hx h
  · exact laid_5 X c1 c3 c4 c5 x hx h
  · exact laid_6 X c1 c3 c4 c5 x hx h
  · exact laid_7 X c1 c3 c4 c5 x hx h
  · exact laid_8 X c1 c3 c4 c5 x hx h
  · exact laid_9 X c1 c3 c4 c5 x hx h
theorem index_lays (l c1 c3 c4 c5 : Nat) (hl : 1 ≤ l ∧ l ≤ 9) (z : World) : (Instr.index 134 (.agg (laysV c1 c3 c4 c5)) (.int .u8 (l : Nat))).run Try.prog z = .ok (.func (.func (lfun l)) #[] (lcap l c1 c3 c4 c5).toArray) z := by
  rcases (by omega : l = 1 ∨ l = 2 ∨ l = 3 ∨ l = 4 ∨ l = 5 ∨ l = 6 ∨ l = 7 ∨ l = 8 ∨ l = 9) with rfl | rfl | rfl | rfl | rfl | rfl | rfl | rfl | rfl <;> kernel_rfl
theorem lfun_ok (l : Nat) (hl : 1 ≤ l ∧ l ≤ 9) : ∃ fn : Func, Try.prog.funcs[lfun l]? = some fn ∧ (fn.name == "runtime.NumGoroutine") = false ∧ fn.body.isNone = false := by
  rcases (by omega : l = 1 ∨ l = 2 ∨ l = 3 ∨ l = 4 ∨ l = 5 ∨ l = 6 ∨ l = 7 ∨ l = 8 ∨ l = 9) with rfl | rfl | rfl | rfl | rfl | rfl | rfl | rfl | rfl
  · exact ⟨_, Try.func96, by kernel_rfl, by kernel_rfl⟩
  · exact ⟨_, Try.func97, by kernel_rfl, by kernel_rfl⟩
  · exact ⟨_, Try.func98, by kernel_rfl, by kernel_rfl⟩
  · exact ⟨_, Try.func93, by kernel_rfl, by kernel_rfl⟩
  · exact ⟨_, Try.func92, by kernel_rfl, by kernel_rfl⟩
  · exact ⟨_, Try.func90, by kernel_rfl, by kernel_rfl⟩
  · exact ⟨_, Try.func89, by kernel_rfl, by kernel_rfl⟩
  · exact ⟨_, Try.func95, by kernel_rfl, by kernel_rfl⟩
  · exact ⟨_, Try.func95, by kernel_rfl, by kernel_rfl⟩
end Go.Proofs.Ytaddmgclnbkdgaa
