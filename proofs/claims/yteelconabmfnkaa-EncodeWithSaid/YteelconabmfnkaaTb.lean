/- The table's rows: data; contract of (*table.entry).put. -/
import Derived.Test.YteelconabmfnkaaH
import Derived.Test.YteelconabmfnkaaKka
import Derived.Test.YteelconabmfnkaaRows
import Derived.Laws.BitsAllLaws
import Derived.WalkKit
import Derived.IntWalk
import Derived.OwnWalk
import Derived.Laws.OwnMore
namespace Go.Proofs.Yteelconabmfnkaa
open Go Go.RowKit
set_option maxHeartbeats 4000000
set_option maxRecDepth 100000
set_option linter.unusedVariables false
set_option linter.unusedSimpArgs false
/-- a row of the table -/
structure R7 where
  op : Nat
  form : Nat
  frm : Nat
  kind : Nat
  mask : Nat
  mtch : Nat
  lay : Nat
deriving DecidableEq, Repr
abbrev rowV (r : R7) : Array Value := #[.int .u8 (r.op : Nat), .int .u8 (r.form : Nat), .int .u8 (r.frm : Nat), .int .u8 (r.kind : Nat), .int .u32 (r.mask : Nat), .int .u32 (r.mtch : Nat), .int .u8 (r.lay : Nat)]
abbrev entV (r : R7) (s : ByteArray) : Array Value := #[.int .u8 (r.op : Nat), .int .u8 (r.form : Nat), .int .u8 (r.frm : Nat), .int .u8 (r.kind : Nat), .int .u32 (r.mask : Nat), .int .u32 (r.mtch : Nat), .int .u8 (r.lay : Nat), .string s]
theorem or32 (a b : Nat) (ha : a < 4294967296) (hb : b < 4294967296) : bits .or .u32 (a : Int) (b : Int) = ((a ||| b : Nat) : Int) := u32_or_nat a b ha hb
theorem grown_drewN {w w1 : World} {r : Option Nat} (h : w.grownBy w1 r) (n : Nat) : w.grownBy (w1.drewN n) r := ⟨h.os, h.tape, h.output, h.size, h.block⟩
theorem grown_set_row {w w1 : World} {g : Nat} (h : w.grownBy w1 (some g)) (j : Nat) (v : Value) : w.grownBy (w1.setCell ⟨g, j, none⟩ v) (some g) :=
  ⟨h.os, h.tape, h.output, by simpa using h.size, fun k hk hne => (heap_setCell_other w1 ⟨g, j, none⟩ k v (fun e => hne (by simp [e]))).trans (h.block k hk hne)⟩
theorem put_0 (w : World) (b : Nat) (r : R7) (s : ByteArray) (v : Nat) (h : Blk w b (entV r s) 119) (hm : r.mask < 4294967296) (ht : r.mtch < 4294967296) (hv : v < 2 ^ 7) :
    Calls Try.prog 99 #[.pointer (some ⟨b, 0, none⟩), .int .i64 0, .int .i64 7, .int .u32 v] w fun e w' =>
      e = .returned (.tuple #[]) ∧ Blk w' b (entV { r with mask := r.mask ||| 127, mtch := r.mtch ||| v } s) 119 ∧ w.grownBy w' (some b) := by
  have c4 := h.cell 4
  have c5 := h.cell 5
  have f4 := h.frozen 4
  have f5 := h.frozen 5
  simp only [List.getElem?_toArray, List.getElem?_cons_succ, List.getElem?_cons_zero] at c4 c5
  have HH := Lib.hid h
  have e1 : bits .or .u32 (r.mask : Int) 127 = ((r.mask ||| 127 : Nat) : Int) := or32 _ 127 hm (by decide)
  have e2 : bits .or .u32 (r.mtch : Int) ((v : Int)) = ((r.mtch ||| v : Nat) : Int) := or32 _ (v) ht (by omega)
  clear h
  go_enter Try.func99, Try.ntmps99
  go_wp2
  refine wp_region_tail [_, _, _, _, _, _, _, _, _, _, _, _, _, _] [_] (fun _ w' => ∃ q, w' = w.drewN q) (by kernel_rfl) (by kernel_rfl) (by kernel_rfl) ⟨1, rfl⟩ ?_
  (repeat (first | (refine sets_quiet (fun w' => ∃ q, w' = w.drewN q) (fun _ _ h => h) rfl (fun _ _ _ h => h) rfl ?_; intro K hK; go_big_quiet_op; first | go_big_quiet_on | (refine ⟨_, fun _ => rfl, ?_⟩; go_big_quiet_on)) | (refine sets_nil rfl (fun _ _ _ h => h) _ rfl _ rfl ?_; simp only [Act.put, List.setIfInBounds_toArray, List.set_cons_succ, List.set_cons_zero]) | (refine sets_skip rfl (fun _ _ _ h => h) ?_; simp only [Act.put, List.setIfInBounds_toArray, List.set_cons_succ, List.set_cons_zero])))
  rintro S _ _ ⟨q, rfl⟩
  go_wp2
  have hset := (HH.out.drewN q).set 4 (.int .u32 ((r.mask ||| 127 : Nat) : Int))
  have hg := World.grownBy.refl w (some b)
  have HG := Lib.hid (grown_set_row (grown_drewN hg q) 4 (.int .u32 ((r.mask ||| 127 : Nat) : Int)))
  obtain ⟨W, hW⟩ : ∃ W, (w.drewN q).setCell ⟨b, 4, none⟩ (.int .u32 ((r.mask ||| 127 : Nat) : Int)) = W := ⟨_, rfl⟩
  rw [hW] at hset HG ⊢
  clear hW c4 c5 f4 f5 e1 hg
  simp only [List.setIfInBounds_toArray, List.set_cons_succ, List.set_cons_zero] at hset
  have c5 := hset.cell 5
  have f5 := hset.frozen 5
  simp only [List.getElem?_toArray, List.getElem?_cons_succ, List.getElem?_cons_zero] at c5
  have HS := Lib.hid hset
  clear hset
  refine wp_region_tail [_, _, _, _, _, _, _, _, _, _, _, _] [_] (fun _ w' => ∃ q, w' = W.drewN q) (by kernel_rfl) (by kernel_rfl) (by kernel_rfl) ⟨1, rfl⟩ ?_
  (repeat (first | (refine sets_quiet (fun w' => ∃ q, w' = W.drewN q) (fun _ _ h => h) rfl (fun _ _ _ h => h) rfl ?_; intro K hK; go_big_quiet_op; first | go_big_quiet_on | (refine ⟨_, fun _ => rfl, ?_⟩; go_big_quiet_on)) | (refine sets_nil rfl (fun _ _ _ h => h) _ rfl _ rfl ?_; simp only [Act.put, List.setIfInBounds_toArray, List.set_cons_succ, List.set_cons_zero]) | (refine sets_skip rfl (fun _ _ _ h => h) ?_; simp only [Act.put, List.setIfInBounds_toArray, List.set_cons_succ, List.set_cons_zero])))
  rintro S _ _ ⟨q2, rfl⟩
  go_wp2
  go_end0
  have hs2 := (HS.out.drewN q2).set 5 (.int .u32 ((r.mtch ||| v : Nat) : Int))
  simp only [List.setIfInBounds_toArray, List.set_cons_succ, List.set_cons_zero] at hs2
  exact ⟨rfl, hs2, grown_set_row (grown_drewN HG.out q2) 5 _⟩
theorem put_25 (w : World) (b : Nat) (r : R7) (s : ByteArray) (v : Nat) (h : Blk w b (entV r s) 119) (hm : r.mask < 4294967296) (ht : r.mtch < 4294967296) (hv : v < 2 ^ 2) :
    Calls Try.prog 99 #[.pointer (some ⟨b, 0, none⟩), .int .i64 25, .int .i64 2, .int .u32 v] w fun e w' =>
      e = .returned (.tuple #[]) ∧ Blk w' b (entV { r with mask := r.mask ||| 100663296, mtch := r.mtch ||| v * 33554432 } s) 119 ∧ w.grownBy w' (some b) := by
  have c4 := h.cell 4
  have c5 := h.cell 5
  have f4 := h.frozen 4
  have f5 := h.frozen 5
  simp only [List.getElem?_toArray, List.getElem?_cons_succ, List.getElem?_cons_zero] at c4 c5
  have HH := Lib.hid h
  have e1 : bits .or .u32 (r.mask : Int) 100663296 = ((r.mask ||| 100663296 : Nat) : Int) := or32 _ 100663296 hm (by decide)
  have e2 : bits .or .u32 (r.mtch : Int) ((v : Int) * 33554432) = ((r.mtch ||| v * 33554432 : Nat) : Int) := or32 _ (v * 33554432) ht (by omega)
  clear h
  go_enter Try.func99, Try.ntmps99
  go_wp2
  refine wp_region_tail [_, _, _, _, _, _, _, _, _, _, _, _, _, _] [_] (fun _ w' => ∃ q, w' = w.drewN q) (by kernel_rfl) (by kernel_rfl) (by kernel_rfl) ⟨1, rfl⟩ ?_
  (repeat (first | (refine sets_quiet (fun w' => ∃ q, w' = w.drewN q) (fun _ _ h => h) rfl (fun _ _ _ h => h) rfl ?_; intro K hK; go_big_quiet_op; first | go_big_quiet_on | (refine ⟨_, fun _ => rfl, ?_⟩; go_big_quiet_on)) | (refine sets_nil rfl (fun _ _ _ h => h) _ rfl _ rfl ?_; simp only [Act.put, List.setIfInBounds_toArray, List.set_cons_succ, List.set_cons_zero]) | (refine sets_skip rfl (fun _ _ _ h => h) ?_; simp only [Act.put, List.setIfInBounds_toArray, List.set_cons_succ, List.set_cons_zero])))
  rintro S _ _ ⟨q, rfl⟩
  go_wp2
  have hset := (HH.out.drewN q).set 4 (.int .u32 ((r.mask ||| 100663296 : Nat) : Int))
  have hg := World.grownBy.refl w (some b)
  have HG := Lib.hid (grown_set_row (grown_drewN hg q) 4 (.int .u32 ((r.mask ||| 100663296 : Nat) : Int)))
  obtain ⟨W, hW⟩ : ∃ W, (w.drewN q).setCell ⟨b, 4, none⟩ (.int .u32 ((r.mask ||| 100663296 : Nat) : Int)) = W := ⟨_, rfl⟩
  rw [hW] at hset HG ⊢
  clear hW c4 c5 f4 f5 e1 hg
  simp only [List.setIfInBounds_toArray, List.set_cons_succ, List.set_cons_zero] at hset
  have c5 := hset.cell 5
  have f5 := hset.frozen 5
  simp only [List.getElem?_toArray, List.getElem?_cons_succ, List.getElem?_cons_zero] at c5
  have HS := Lib.hid hset
  clear hset
  refine wp_region_tail [_, _, _, _, _, _, _, _, _, _, _, _] [_] (fun _ w' => ∃ q, w' = W.drewN q) (by kernel_rfl) (by kernel_rfl) (by kernel_rfl) ⟨1, rfl⟩ ?_
  (repeat (first | (refine sets_quiet (fun w' => ∃ q, w' = W.drewN q) (fun _ _ h => h) rfl (fun _ _ _ h => h) rfl ?_; intro K hK; go_big_quiet_op; first | go_big_quiet_on | (refine ⟨_, fun _ => rfl, ?_⟩; go_big_quiet_on)) | (refine sets_nil rfl (fun _ _ _ h => h) _ rfl _ rfl ?_; simp only [Act.put, List.setIfInBounds_toArray, List.set_cons_succ, List.set_cons_zero]) | (refine sets_skip rfl (fun _ _ _ h => h) ?_; simp only [Act.put, List.setIfInBounds_toArray, List.set_cons_succ, List.set_cons_zero])))
  rintro S _ _ ⟨q2, rfl⟩
  go_wp2
  go_end0
  have hs2 := (HS.out.drewN q2).set 5 (.int .u32 ((r.mtch ||| v * 33554432 : Nat) : Int))
  simp only [List.setIfInBounds_toArray, List.set_cons_succ, List.set_cons_zero] at hs2
  exact ⟨rfl, hs2, grown_set_row (grown_drewN HG.out q2) 5 _⟩
theorem put_27 (w : World) (b : Nat) (r : R7) (s : ByteArray) (v : Nat) (h : Blk w b (entV r s) 119) (hm : r.mask < 4294967296) (ht : r.mtch < 4294967296) (hv : v < 2 ^ 5) :
    Calls Try.prog 99 #[.pointer (some ⟨b, 0, none⟩), .int .i64 27, .int .i64 5, .int .u32 v] w fun e w' =>
      e = .returned (.tuple #[]) ∧ Blk w' b (entV { r with mask := r.mask ||| 4160749568, mtch := r.mtch ||| v * 134217728 } s) 119 ∧ w.grownBy w' (some b) := by
  have c4 := h.cell 4
  have c5 := h.cell 5
  have f4 := h.frozen 4
  have f5 := h.frozen 5
  simp only [List.getElem?_toArray, List.getElem?_cons_succ, List.getElem?_cons_zero] at c4 c5
  have HH := Lib.hid h
  have e1 : bits .or .u32 (r.mask : Int) 4160749568 = ((r.mask ||| 4160749568 : Nat) : Int) := or32 _ 4160749568 hm (by decide)
  have e2 : bits .or .u32 (r.mtch : Int) ((v : Int) * 134217728) = ((r.mtch ||| v * 134217728 : Nat) : Int) := or32 _ (v * 134217728) ht (by omega)
  clear h
  go_enter Try.func99, Try.ntmps99
  go_wp2
  refine wp_region_tail [_, _, _, _, _, _, _, _, _, _, _, _, _, _] [_] (fun _ w' => ∃ q, w' = w.drewN q) (by kernel_rfl) (by kernel_rfl) (by kernel_rfl) ⟨1, rfl⟩ ?_
  (repeat (first | (refine sets_quiet (fun w' => ∃ q, w' = w.drewN q) (fun _ _ h => h) rfl (fun _ _ _ h => h) rfl ?_; intro K hK; go_big_quiet_op; first | go_big_quiet_on | (refine ⟨_, fun _ => rfl, ?_⟩; go_big_quiet_on)) | (refine sets_nil rfl (fun _ _ _ h => h) _ rfl _ rfl ?_; simp only [Act.put, List.setIfInBounds_toArray, List.set_cons_succ, List.set_cons_zero]) | (refine sets_skip rfl (fun _ _ _ h => h) ?_; simp only [Act.put, List.setIfInBounds_toArray, List.set_cons_succ, List.set_cons_zero])))
  rintro S _ _ ⟨q, rfl⟩
  go_wp2
  have hset := (HH.out.drewN q).set 4 (.int .u32 ((r.mask ||| 4160749568 : Nat) : Int))
  have hg := World.grownBy.refl w (some b)
  have HG := Lib.hid (grown_set_row (grown_drewN hg q) 4 (.int .u32 ((r.mask ||| 4160749568 : Nat) : Int)))
  obtain ⟨W, hW⟩ : ∃ W, (w.drewN q).setCell ⟨b, 4, none⟩ (.int .u32 ((r.mask ||| 4160749568 : Nat) : Int)) = W := ⟨_, rfl⟩
  rw [hW] at hset HG ⊢
  clear hW c4 c5 f4 f5 e1 hg
  simp only [List.setIfInBounds_toArray, List.set_cons_succ, List.set_cons_zero] at hset
  have c5 := hset.cell 5
  have f5 := hset.frozen 5
  simp only [List.getElem?_toArray, List.getElem?_cons_succ, List.getElem?_cons_zero] at c5
  have HS := Lib.hid hset
  clear hset
  refine wp_region_tail [_, _, _, _, _, _, _, _, _, _, _, _] [_] (fun _ w' => ∃ q, w' = W.drewN q) (by kernel_rfl) (by kernel_rfl) (by kernel_rfl) ⟨1, rfl⟩ ?_
  (repeat (first | (refine sets_quiet (fun w' => ∃ q, w' = W.drewN q) (fun _ _ h => h) rfl (fun _ _ _ h => h) rfl ?_; intro K hK; go_big_quiet_op; first | go_big_quiet_on | (refine ⟨_, fun _ => rfl, ?_⟩; go_big_quiet_on)) | (refine sets_nil rfl (fun _ _ _ h => h) _ rfl _ rfl ?_; simp only [Act.put, List.setIfInBounds_toArray, List.set_cons_succ, List.set_cons_zero]) | (refine sets_skip rfl (fun _ _ _ h => h) ?_; simp only [Act.put, List.setIfInBounds_toArray, List.set_cons_succ, List.set_cons_zero])))
  rintro S _ _ ⟨q2, rfl⟩
  go_wp2
  go_end0
  have hs2 := (HS.out.drewN q2).set 5 (.int .u32 ((r.mtch ||| v * 134217728 : Nat) : Int))
  simp only [List.setIfInBounds_toArray, List.set_cons_succ, List.set_cons_zero] at hs2
  exact ⟨rfl, hs2, grown_set_row (grown_drewN HG.out q2) 5 _⟩
theorem put_12 (w : World) (b : Nat) (r : R7) (s : ByteArray) (v : Nat) (h : Blk w b (entV r s) 119) (hm : r.mask < 4294967296) (ht : r.mtch < 4294967296) (hv : v < 2 ^ 3) :
    Calls Try.prog 99 #[.pointer (some ⟨b, 0, none⟩), .int .i64 12, .int .i64 3, .int .u32 v] w fun e w' =>
      e = .returned (.tuple #[]) ∧ Blk w' b (entV { r with mask := r.mask ||| 28672, mtch := r.mtch ||| v * 4096 } s) 119 ∧ w.grownBy w' (some b) := by
  have c4 := h.cell 4
  have c5 := h.cell 5
  have f4 := h.frozen 4
  have f5 := h.frozen 5
  simp only [List.getElem?_toArray, List.getElem?_cons_succ, List.getElem?_cons_zero] at c4 c5
  have HH := Lib.hid h
  have e1 : bits .or .u32 (r.mask : Int) 28672 = ((r.mask ||| 28672 : Nat) : Int) := or32 _ 28672 hm (by decide)
  have e2 : bits .or .u32 (r.mtch : Int) ((v : Int) * 4096) = ((r.mtch ||| v * 4096 : Nat) : Int) := or32 _ (v * 4096) ht (by omega)
  clear h
  go_enter Try.func99, Try.ntmps99
  go_wp2
  refine wp_region_tail [_, _, _, _, _, _, _, _, _, _, _, _, _, _] [_] (fun _ w' => ∃ q, w' = w.drewN q) (by kernel_rfl) (by kernel_rfl) (by kernel_rfl) ⟨1, rfl⟩ ?_
  (repeat (first | (refine sets_quiet (fun w' => ∃ q, w' = w.drewN q) (fun _ _ h => h) rfl (fun _ _ _ h => h) rfl ?_; intro K hK; go_big_quiet_op; first | go_big_quiet_on | (refine ⟨_, fun _ => rfl, ?_⟩; go_big_quiet_on)) | (refine sets_nil rfl (fun _ _ _ h => h) _ rfl _ rfl ?_; simp only [Act.put, List.setIfInBounds_toArray, List.set_cons_succ, List.set_cons_zero]) | (refine sets_skip rfl (fun _ _ _ h => h) ?_; simp only [Act.put, List.setIfInBounds_toArray, List.set_cons_succ, List.set_cons_zero])))
  rintro S _ _ ⟨q, rfl⟩
  go_wp2
  have hset := (HH.out.drewN q).set 4 (.int .u32 ((r.mask ||| 28672 : Nat) : Int))
  have hg := World.grownBy.refl w (some b)
  have HG := Lib.hid (grown_set_row (grown_drewN hg q) 4 (.int .u32 ((r.mask ||| 28672 : Nat) : Int)))
  obtain ⟨W, hW⟩ : ∃ W, (w.drewN q).setCell ⟨b, 4, none⟩ (.int .u32 ((r.mask ||| 28672 : Nat) : Int)) = W := ⟨_, rfl⟩
  rw [hW] at hset HG ⊢
  clear hW c4 c5 f4 f5 e1 hg
  simp only [List.setIfInBounds_toArray, List.set_cons_succ, List.set_cons_zero] at hset
  have c5 := hset.cell 5
  have f5 := hset.frozen 5
  simp only [List.getElem?_toArray, List.getElem?_cons_succ, List.getElem?_cons_zero] at c5
  have HS := Lib.hid hset
  clear hset
  refine wp_region_tail [_, _, _, _, _, _, _, _, _, _, _, _] [_] (fun _ w' => ∃ q, w' = W.drewN q) (by kernel_rfl) (by kernel_rfl) (by kernel_rfl) ⟨1, rfl⟩ ?_
  (repeat (first | (refine sets_quiet (fun w' => ∃ q, w' = W.drewN q) (fun _ _ h => h) rfl (fun _ _ _ h => h) rfl ?_; intro K hK; go_big_quiet_op; first | go_big_quiet_on | (refine ⟨_, fun _ => rfl, ?_⟩; go_big_quiet_on)) | (refine sets_nil rfl (fun _ _ _ h => h) _ rfl _ rfl ?_; simp only [Act.put, List.setIfInBounds_toArray, List.set_cons_succ, List.set_cons_zero]) | (refine sets_skip rfl (fun _ _ _ h => h) ?_; simp only [Act.put, List.setIfInBounds_toArray, List.set_cons_succ, List.set_cons_zero])))
  rintro S _ _ ⟨q2, rfl⟩
  go_wp2
  go_end0
  have hs2 := (HS.out.drewN q2).set 5 (.int .u32 ((r.mtch ||| v * 4096 : Nat) : Int))
  simp only [List.setIfInBounds_toArray, List.set_cons_succ, List.set_cons_zero] at hs2
  exact ⟨rfl, hs2, grown_set_row (grown_drewN HG.out q2) 5 _⟩
theorem put_20 (w : World) (b : Nat) (r : R7) (s : ByteArray) (v : Nat) (h : Blk w b (entV r s) 119) (hm : r.mask < 4294967296) (ht : r.mtch < 4294967296) (hv : v < 2 ^ 5) :
    Calls Try.prog 99 #[.pointer (some ⟨b, 0, none⟩), .int .i64 20, .int .i64 5, .int .u32 v] w fun e w' =>
      e = .returned (.tuple #[]) ∧ Blk w' b (entV { r with mask := r.mask ||| 32505856, mtch := r.mtch ||| v * 1048576 } s) 119 ∧ w.grownBy w' (some b) := by
  have c4 := h.cell 4
  have c5 := h.cell 5
  have f4 := h.frozen 4
  have f5 := h.frozen 5
  simp only [List.getElem?_toArray, List.getElem?_cons_succ, List.getElem?_cons_zero] at c4 c5
  have HH := Lib.hid h
  have e1 : bits .or .u32 (r.mask : Int) 32505856 = ((r.mask ||| 32505856 : Nat) : Int) := or32 _ 32505856 hm (by decide)
  have e2 : bits .or .u32 (r.mtch : Int) ((v : Int) * 1048576) = ((r.mtch ||| v * 1048576 : Nat) : Int) := or32 _ (v * 1048576) ht (by omega)
  clear h
  go_enter Try.func99, Try.ntmps99
  go_wp2
  refine wp_region_tail [_, _, _, _, _, _, _, _, _, _, _, _, _, _] [_] (fun _ w' => ∃ q, w' = w.drewN q) (by kernel_rfl) (by kernel_rfl) (by kernel_rfl) ⟨1, rfl⟩ ?_
  (repeat (first | (refine sets_quiet (fun w' => ∃ q, w' = w.drewN q) (fun _ _ h => h) rfl (fun _ _ _ h => h) rfl ?_; intro K hK; go_big_quiet_op; first | go_big_quiet_on | (refine ⟨_, fun _ => rfl, ?_⟩; go_big_quiet_on)) | (refine sets_nil rfl (fun _ _ _ h => h) _ rfl _ rfl ?_; simp only [Act.put, List.setIfInBounds_toArray, List.set_cons_succ, List.set_cons_zero]) | (refine sets_skip rfl (fun _ _ _ h => h) ?_; simp only [Act.put, List.setIfInBounds_toArray, List.set_cons_succ, List.set_cons_zero])))
  rintro S _ _ ⟨q, rfl⟩
  go_wp2
  have hset := (HH.out.drewN q).set 4 (.int .u32 ((r.mask ||| 32505856 : Nat) : Int))
  have hg := World.grownBy.refl w (some b)
  have HG := Lib.hid (grown_set_row (grown_drewN hg q) 4 (.int .u32 ((r.mask ||| 32505856 : Nat) : Int)))
  obtain ⟨W, hW⟩ : ∃ W, (w.drewN q).setCell ⟨b, 4, none⟩ (.int .u32 ((r.mask ||| 32505856 : Nat) : Int)) = W := ⟨_, rfl⟩
  rw [hW] at hset HG ⊢
  clear hW c4 c5 f4 f5 e1 hg
  simp only [List.setIfInBounds_toArray, List.set_cons_succ, List.set_cons_zero] at hset
  have c5 := hset.cell 5
  have f5 := hset.frozen 5
  simp only [List.getElem?_toArray, List.getElem?_cons_succ, List.getElem?_cons_zero] at c5
  have HS := Lib.hid hset
  clear hset
  refine wp_region_tail [_, _, _, _, _, _, _, _, _, _, _, _] [_] (fun _ w' => ∃ q, w' = W.drewN q) (by kernel_rfl) (by kernel_rfl) (by kernel_rfl) ⟨1, rfl⟩ ?_
  (repeat (first | (refine sets_quiet (fun w' => ∃ q, w' = W.drewN q) (fun _ _ h => h) rfl (fun _ _ _ h => h) rfl ?_; intro K hK; go_big_quiet_op; first | go_big_quiet_on | (refine ⟨_, fun _ => rfl, ?_⟩; go_big_quiet_on)) | (refine sets_nil rfl (fun _ _ _ h => h) _ rfl _ rfl ?_; simp only [Act.put, List.setIfInBounds_toArray, List.set_cons_succ, List.set_cons_zero]) | (refine sets_skip rfl (fun _ _ _ h => h) ?_; simp only [Act.put, List.setIfInBounds_toArray, List.set_cons_succ, List.set_cons_zero])))
  rintro S _ _ ⟨q2, rfl⟩
  go_wp2
  go_end0
  have hs2 := (HS.out.drewN q2).set 5 (.int .u32 ((r.mtch ||| v * 1048576 : Nat) : Int))
  simp only [List.setIfInBounds_toArray, List.set_cons_succ, List.set_cons_zero] at hs2
  exact ⟨rfl, hs2, grown_set_row (grown_drewN HG.out q2) 5 _⟩
end Go.Proofs.Yteelconabmfnkaa
