/- abacusref24.fix: a field of a row is fixed. -/
import Derived.Test.YteelconabmfnkaaTc
namespace Go.Proofs.Yteelconabmfnkaa
open Go Go.RowKit
set_option maxHeartbeats 4000000
set_option maxRecDepth 100000
set_option linter.unusedVariables false
set_option linter.unusedSimpArgs false
theorem fix_0 (w : World) (r : R7) (v : Nat) (hm : r.mask < 4294967296) (ht : r.mtch < 4294967296) (hv : v < 2 ^ 7) :
    Calls Try.prog 83 #[.agg (rowV r), .int .i64 0, .int .i64 7, .int .i64 v] w fun e w' =>
      e = .returned (.agg (rowV (pt0 v r))) ∧ Below w.heap.size w w' := by
  have e1 : bits .or .u32 (r.mask : Int) 127 = ((r.mask ||| 127 : Nat) : Int) := or32 _ 127 hm (by decide)
  have e2 : bits .or .u32 (r.mtch : Int) ((v : Int)) = ((r.mtch ||| v : Nat) : Int) := or32 _ (v) ht (by omega)
  obtain ⟨A, hA⟩ : ∃ A, (w.alloc (.cells (rowV r) 40)).alloc (.cells (rowV zeroR) 40) = A := ⟨_, rfl⟩
  have kR := (Blk.new w (rowV r) 40).alloc (.cells (rowV zeroR) 40)
  have kZ := Blk.new (w.alloc (.cells (rowV r) 40)) (rowV zeroR) 40
  have kB := ((Below.refl w.heap.size w).alloc (Nat.le_refl _) (.cells (rowV r) 40)).alloc (by simp) (.cells (rowV zeroR) 40)
  rw [World.size_alloc] at kZ
  rw [hA] at kR kZ kB
  have c4 := kR.cell 4
  have c5 := kR.cell 5
  have f4 := kR.frozen 4
  have f5 := kR.frozen 5
  simp only [List.getElem?_toArray, List.getElem?_cons_succ, List.getElem?_cons_zero] at c4 c5
  have HH := Lib.hid kR
  have HZ := Lib.hid kZ
  have HB := Lib.hid kB
  clear kR kZ kB
  go_enter Try.func83, Try.ntmps83
  go_wp2
  show Code.wp _ _ _ _ ((w.alloc (.cells (rowV r) 40)).alloc (.cells (rowV zeroR) 40))
  rw [hA]
  clear hA
  refine wp_region_tail [_, _, _, _, _, _, _, _, _] [_] (fun _ w' => ∃ q, w' = A.drewN q) (by kernel_rfl) (by kernel_rfl) (by kernel_rfl) ⟨1, rfl⟩ ?_
  (repeat (first | (refine sets_quiet (fun w' => ∃ q, w' = A.drewN q) (fun _ _ h => h) rfl (fun _ _ _ h => h) rfl ?_; intro K hK; go_big_quiet_op; first | go_big_quiet_on | (refine ⟨_, fun _ => rfl, ?_⟩; go_big_quiet_on)) | (refine sets_nil rfl (fun _ _ _ h => h) _ rfl _ rfl ?_; simp only [Act.put, List.setIfInBounds_toArray, List.set_cons_succ, List.set_cons_zero]) | (refine sets_skip rfl (fun _ _ _ h => h) ?_; simp only [Act.put, List.setIfInBounds_toArray, List.set_cons_succ, List.set_cons_zero])))
  rintro S _ _ ⟨q, rfl⟩
  go_wp2
  have hset := (HH.out.drewN q).set 4 (.int .u32 ((r.mask ||| 127 : Nat) : Int))
  have hz := (HZ.out.drewN q).other (b' := w.heap.size) 4 (.int .u32 ((r.mask ||| 127 : Nat) : Int)) (by omega)
  have hb := (below_drewN (k := q) HB.out).setCell (p := ⟨w.heap.size, 4, none⟩) (Nat.le_refl _) (.int .u32 ((r.mask ||| 127 : Nat) : Int))
  obtain ⟨W, hW⟩ : ∃ W, (A.drewN q).setCell ⟨w.heap.size, 4, none⟩ (.int .u32 ((r.mask ||| 127 : Nat) : Int)) = W := ⟨_, rfl⟩
  rw [hW] at hset hz hb ⊢
  clear hW c4 c5 f4 f5 e1 HH HZ HB
  simp only [List.setIfInBounds_toArray, List.set_cons_succ, List.set_cons_zero] at hset
  have c5 := hset.cell 5
  have f5 := hset.frozen 5
  simp only [List.getElem?_toArray, List.getElem?_cons_succ, List.getElem?_cons_zero] at c5
  have HS := Lib.hid hset
  have HZ := Lib.hid hz
  have HB := Lib.hid hb
  clear hset hz hb
  refine wp_region_tail [_, _, _, _, _, _, _, _] [_] (fun _ w' => ∃ q, w' = W.drewN q) (by kernel_rfl) (by kernel_rfl) (by kernel_rfl) ⟨1, rfl⟩ ?_
  (repeat (first | (refine sets_quiet (fun w' => ∃ q, w' = W.drewN q) (fun _ _ h => h) rfl (fun _ _ _ h => h) rfl ?_; intro K hK; go_big_quiet_op; first | go_big_quiet_on | (refine ⟨_, fun _ => rfl, ?_⟩; go_big_quiet_on)) | (refine sets_nil rfl (fun _ _ _ h => h) _ rfl _ rfl ?_; simp only [Act.put, List.setIfInBounds_toArray, List.set_cons_succ, List.set_cons_zero]) | (refine sets_skip rfl (fun _ _ _ h => h) ?_; simp only [Act.put, List.setIfInBounds_toArray, List.set_cons_succ, List.set_cons_zero])))
  rintro S _ _ ⟨q2, rfl⟩
  have hs2 := (HS.out.drewN q2).set 5 (.int .u32 ((r.mtch ||| v : Nat) : Int))
  have hz2 := (HZ.out.drewN q2).other (b' := w.heap.size) 5 (.int .u32 ((r.mtch ||| v : Nat) : Int)) (by omega)
  simp only [List.setIfInBounds_toArray, List.set_cons_succ, List.set_cons_zero] at hs2
  go_wp2_with (first
    | (refine wpList_load_blk rfl _ _ rfl _ rfl _ _ _ hs2 Try.underlying40 rfl (by kernel_rfl) ?_)
    | (refine wpList_store_blk rfl _ _ _ rfl _ _ rfl rfl _ _ hz2 (by kernel_rfl) rfl (by simp [Value.oneCell']) ?_))
  exact bodyPost_ret (results_cell rfl _ _ (w.heap.size + 1) _ _ _ rfl (hz2.row _) Try.underlying40 rfl (by kernel_rfl)) rfl ⟨rfl, below_setRow ((below_drewN (k := q2) HB.out).setCell (p := ⟨w.heap.size, 5, none⟩) (Nat.le_refl _) _) (by omega) _⟩
theorem fix_25 (w : World) (r : R7) (v : Nat) (hm : r.mask < 4294967296) (ht : r.mtch < 4294967296) (hv : v < 2 ^ 2) :
    Calls Try.prog 83 #[.agg (rowV r), .int .i64 25, .int .i64 2, .int .i64 v] w fun e w' =>
      e = .returned (.agg (rowV (pt25 v r))) ∧ Below w.heap.size w w' := by
  have e1 : bits .or .u32 (r.mask : Int) 100663296 = ((r.mask ||| 100663296 : Nat) : Int) := or32 _ 100663296 hm (by decide)
  have e2 : bits .or .u32 (r.mtch : Int) ((v : Int) * 33554432) = ((r.mtch ||| v * 33554432 : Nat) : Int) := or32 _ (v * 33554432) ht (by omega)
  obtain ⟨A, hA⟩ : ∃ A, (w.alloc (.cells (rowV r) 40)).alloc (.cells (rowV zeroR) 40) = A := ⟨_, rfl⟩
  have kR := (Blk.new w (rowV r) 40).alloc (.cells (rowV zeroR) 40)
  have kZ := Blk.new (w.alloc (.cells (rowV r) 40)) (rowV zeroR) 40
  have kB := ((Below.refl w.heap.size w).alloc (Nat.le_refl _) (.cells (rowV r) 40)).alloc (by simp) (.cells (rowV zeroR) 40)
  rw [World.size_alloc] at kZ
  rw [hA] at kR kZ kB
  have c4 := kR.cell 4
  have c5 := kR.cell 5
  have f4 := kR.frozen 4
  have f5 := kR.frozen 5
  simp only [List.getElem?_toArray, List.getElem?_cons_succ, List.getElem?_cons_zero] at c4 c5
  have HH := Lib.hid kR
  have HZ := Lib.hid kZ
  have HB := Lib.hid kB
  clear kR kZ kB
  go_enter Try.func83, Try.ntmps83
  go_wp2
  show Code.wp _ _ _ _ ((w.alloc (.cells (rowV r) 40)).alloc (.cells (rowV zeroR) 40))
  rw [hA]
  clear hA
  refine wp_region_tail [_, _, _, _, _, _, _, _, _] [_] (fun _ w' => ∃ q, w' = A.drewN q) (by kernel_rfl) (by kernel_rfl) (by kernel_rfl) ⟨1, rfl⟩ ?_
  (repeat (first | (refine sets_quiet (fun w' => ∃ q, w' = A.drewN q) (fun _ _ h => h) rfl (fun _ _ _ h => h) rfl ?_; intro K hK; go_big_quiet_op; first | go_big_quiet_on | (refine ⟨_, fun _ => rfl, ?_⟩; go_big_quiet_on)) | (refine sets_nil rfl (fun _ _ _ h => h) _ rfl _ rfl ?_; simp only [Act.put, List.setIfInBounds_toArray, List.set_cons_succ, List.set_cons_zero]) | (refine sets_skip rfl (fun _ _ _ h => h) ?_; simp only [Act.put, List.setIfInBounds_toArray, List.set_cons_succ, List.set_cons_zero])))
  rintro S _ _ ⟨q, rfl⟩
  go_wp2
  have hset := (HH.out.drewN q).set 4 (.int .u32 ((r.mask ||| 100663296 : Nat) : Int))
  have hz := (HZ.out.drewN q).other (b' := w.heap.size) 4 (.int .u32 ((r.mask ||| 100663296 : Nat) : Int)) (by omega)
  have hb := (below_drewN (k := q) HB.out).setCell (p := ⟨w.heap.size, 4, none⟩) (Nat.le_refl _) (.int .u32 ((r.mask ||| 100663296 : Nat) : Int))
  obtain ⟨W, hW⟩ : ∃ W, (A.drewN q).setCell ⟨w.heap.size, 4, none⟩ (.int .u32 ((r.mask ||| 100663296 : Nat) : Int)) = W := ⟨_, rfl⟩
  rw [hW] at hset hz hb ⊢
  clear hW c4 c5 f4 f5 e1 HH HZ HB
  simp only [List.setIfInBounds_toArray, List.set_cons_succ, List.set_cons_zero] at hset
  have c5 := hset.cell 5
  have f5 := hset.frozen 5
  simp only [List.getElem?_toArray, List.getElem?_cons_succ, List.getElem?_cons_zero] at c5
  have HS := Lib.hid hset
  have HZ := Lib.hid hz
  have HB := Lib.hid hb
  clear hset hz hb
  refine wp_region_tail [_, _, _, _, _, _, _, _] [_] (fun _ w' => ∃ q, w' = W.drewN q) (by kernel_rfl) (by kernel_rfl) (by kernel_rfl) ⟨1, rfl⟩ ?_
  (repeat (first | (refine sets_quiet (fun w' => ∃ q, w' = W.drewN q) (fun _ _ h => h) rfl (fun _ _ _ h => h) rfl ?_; intro K hK; go_big_quiet_op; first | go_big_quiet_on | (refine ⟨_, fun _ => rfl, ?_⟩; go_big_quiet_on)) | (refine sets_nil rfl (fun _ _ _ h => h) _ rfl _ rfl ?_; simp only [Act.put, List.setIfInBounds_toArray, List.set_cons_succ, List.set_cons_zero]) | (refine sets_skip rfl (fun _ _ _ h => h) ?_; simp only [Act.put, List.setIfInBounds_toArray, List.set_cons_succ, List.set_cons_zero])))
  rintro S _ _ ⟨q2, rfl⟩
  have hs2 := (HS.out.drewN q2).set 5 (.int .u32 ((r.mtch ||| v * 33554432 : Nat) : Int))
  have hz2 := (HZ.out.drewN q2).other (b' := w.heap.size) 5 (.int .u32 ((r.mtch ||| v * 33554432 : Nat) : Int)) (by omega)
  simp only [List.setIfInBounds_toArray, List.set_cons_succ, List.set_cons_zero] at hs2
  go_wp2_with (first
    | (refine wpList_load_blk rfl _ _ rfl _ rfl _ _ _ hs2 Try.underlying40 rfl (by kernel_rfl) ?_)
    | (refine wpList_store_blk rfl _ _ _ rfl _ _ rfl rfl _ _ hz2 (by kernel_rfl) rfl (by simp [Value.oneCell']) ?_))
  exact bodyPost_ret (results_cell rfl _ _ (w.heap.size + 1) _ _ _ rfl (hz2.row _) Try.underlying40 rfl (by kernel_rfl)) rfl ⟨rfl, below_setRow ((below_drewN (k := q2) HB.out).setCell (p := ⟨w.heap.size, 5, none⟩) (Nat.le_refl _) _) (by omega) _⟩
theorem fix_27 (w : World) (r : R7) (v : Nat) (hm : r.mask < 4294967296) (ht : r.mtch < 4294967296) (hv : v < 2 ^ 5) :
    Calls Try.prog 83 #[.agg (rowV r), .int .i64 27, .int .i64 5, .int .i64 v] w fun e w' =>
      e = .returned (.agg (rowV (pt27 v r))) ∧ Below w.heap.size w w' := by
  have e1 : bits .or .u32 (r.mask : Int) 4160749568 = ((r.mask ||| 4160749568 : Nat) : Int) := or32 _ 4160749568 hm (by decide)
  have e2 : bits .or .u32 (r.mtch : Int) ((v : Int) * 134217728) = ((r.mtch ||| v * 134217728 : Nat) : Int) := or32 _ (v * 134217728) ht (by omega)
  obtain ⟨A, hA⟩ : ∃ A, (w.alloc (.cells (rowV r) 40)).alloc (.cells (rowV zeroR) 40) = A := ⟨_, rfl⟩
  have kR := (Blk.new w (rowV r) 40).alloc (.cells (rowV zeroR) 40)
  have kZ := Blk.new (w.alloc (.cells (rowV r) 40)) (rowV zeroR) 40
  have kB := ((Below.refl w.heap.size w).alloc (Nat.le_refl _) (.cells (rowV r) 40)).alloc (by simp) (.cells (rowV zeroR) 40)
  rw [World.size_alloc] at kZ
  rw [hA] at kR kZ kB
  have c4 := kR.cell 4
  have c5 := kR.cell 5
  have f4 := kR.frozen 4
  have f5 := kR.frozen 5
  simp only [List.getElem?_toArray, List.getElem?_cons_succ, List.getElem?_cons_zero] at c4 c5
  have HH := Lib.hid kR
  have HZ := Lib.hid kZ
  have HB := Lib.hid kB
  clear kR kZ kB
  go_enter Try.func83, Try.ntmps83
  go_wp2
  show Code.wp _ _ _ _ ((w.alloc (.cells (rowV r) 40)).alloc (.cells (rowV zeroR) 40))
  rw [hA]
  clear hA
  refine wp_region_tail [_, _, _, _, _, _, _, _, _] [_] (fun _ w' => ∃ q, w' = A.drewN q) (by kernel_rfl) (by kernel_rfl) (by kernel_rfl) ⟨1, rfl⟩ ?_
  (repeat (first | (refine sets_quiet (fun w' => ∃ q, w' = A.drewN q) (fun _ _ h => h) rfl (fun _ _ _ h => h) rfl ?_; intro K hK; go_big_quiet_op; first | go_big_quiet_on | (refine ⟨_, fun _ => rfl, ?_⟩; go_big_quiet_on)) | (refine sets_nil rfl (fun _ _ _ h => h) _ rfl _ rfl ?_; simp only [Act.put, List.setIfInBounds_toArray, List.set_cons_succ, List.set_cons_zero]) | (refine sets_skip rfl (fun _ _ _ h => h) ?_; simp only [Act.put, List.setIfInBounds_toArray, List.set_cons_succ, List.set_cons_zero])))
  rintro S _ _ ⟨q, rfl⟩
  go_wp2
  have hset := (HH.out.drewN q).set 4 (.int .u32 ((r.mask ||| 4160749568 : Nat) : Int))
  have hz := (HZ.out.drewN q).other (b' := w.heap.size) 4 (.int .u32 ((r.mask ||| 4160749568 : Nat) : Int)) (by omega)
  have hb := (below_drewN (k := q) HB.out).setCell (p := ⟨w.heap.size, 4, none⟩) (Nat.le_refl _) (.int .u32 ((r.mask ||| 4160749568 : Nat) : Int))
  obtain ⟨W, hW⟩ : ∃ W, (A.drewN q).setCell ⟨w.heap.size, 4, none⟩ (.int .u32 ((r.mask ||| 4160749568 : Nat) : Int)) = W := ⟨_, rfl⟩
  rw [hW] at hset hz hb ⊢
  clear hW c4 c5 f4 f5 e1 HH HZ HB
  simp only [List.setIfInBounds_toArray, List.set_cons_succ, List.set_cons_zero] at hset
  have c5 := hset.cell 5
  have f5 := hset.frozen 5
  simp only [List.getElem?_toArray, List.getElem?_cons_succ, List.getElem?_cons_zero] at c5
  have HS := Lib.hid hset
  have HZ := Lib.hid hz
  have HB := Lib.hid hb
  clear hset hz hb
  refine wp_region_tail [_, _, _, _, _, _, _, _] [_] (fun _ w' => ∃ q, w' = W.drewN q) (by kernel_rfl) (by kernel_rfl) (by kernel_rfl) ⟨1, rfl⟩ ?_
  (repeat (first | (refine sets_quiet (fun w' => ∃ q, w' = W.drewN q) (fun _ _ h => h) rfl (fun _ _ _ h => h) rfl ?_; intro K hK; go_big_quiet_op; first | go_big_quiet_on | (refine ⟨_, fun _ => rfl, ?_⟩; go_big_quiet_on)) | (refine sets_nil rfl (fun _ _ _ h => h) _ rfl _ rfl ?_; simp only [Act.put, List.setIfInBounds_toArray, List.set_cons_succ, List.set_cons_zero]) | (refine sets_skip rfl (fun _ _ _ h => h) ?_; simp only [Act.put, List.setIfInBounds_toArray, List.set_cons_succ, List.set_cons_zero])))
  rintro S _ _ ⟨q2, rfl⟩
  have hs2 := (HS.out.drewN q2).set 5 (.int .u32 ((r.mtch ||| v * 134217728 : Nat) : Int))
  have hz2 := (HZ.out.drewN q2).other (b' := w.heap.size) 5 (.int .u32 ((r.mtch ||| v * 134217728 : Nat) : Int)) (by omega)
  simp only [List.setIfInBounds_toArray, List.set_cons_succ, List.set_cons_zero] at hs2
  go_wp2_with (first
    | (refine wpList_load_blk rfl _ _ rfl _ rfl _ _ _ hs2 Try.underlying40 rfl (by kernel_rfl) ?_)
    | (refine wpList_store_blk rfl _ _ _ rfl _ _ rfl rfl _ _ hz2 (by kernel_rfl) rfl (by simp [Value.oneCell']) ?_))
  exact bodyPost_ret (results_cell rfl _ _ (w.heap.size + 1) _ _ _ rfl (hz2.row _) Try.underlying40 rfl (by kernel_rfl)) rfl ⟨rfl, below_setRow ((below_drewN (k := q2) HB.out).setCell (p := ⟨w.heap.size, 5, none⟩) (Nat.le_refl _) _) (by omega) _⟩
theorem fix_12 (w : World) (r : R7) (v : Nat) (hm : r.mask < 4294967296) (ht : r.mtch < 4294967296) (hv : v < 2 ^ 3) :
    Calls Try.prog 83 #[.agg (rowV r), .int .i64 12, .int .i64 3, .int .i64 v] w fun e w' =>
      e = .returned (.agg (rowV (pt12 v r))) ∧ Below w.heap.size w w' := by
  have e1 : bits .or .u32 (r.mask : Int) 28672 = ((r.mask ||| 28672 : Nat) : Int) := or32 _ 28672 hm (by decide)
  have e2 : bits .or .u32 (r.mtch : Int) ((v : Int) * 4096) = ((r.mtch ||| v * 4096 : Nat) : Int) := or32 _ (v * 4096) ht (by omega)
  obtain ⟨A, hA⟩ : ∃ A, (w.alloc (.cells (rowV r) 40)).alloc (.cells (rowV zeroR) 40) = A := ⟨_, rfl⟩
  have kR := (Blk.new w (rowV r) 40).alloc (.cells (rowV zeroR) 40)
  have kZ := Blk.new (w.alloc (.cells (rowV r) 40)) (rowV zeroR) 40
  have kB := ((Below.refl w.heap.size w).alloc (Nat.le_refl _) (.cells (rowV r) 40)).alloc (by simp) (.cells (rowV zeroR) 40)
  rw [World.size_alloc] at kZ
  rw [hA] at kR kZ kB
  have c4 := kR.cell 4
  have c5 := kR.cell 5
  have f4 := kR.frozen 4
  have f5 := kR.frozen 5
  simp only [List.getElem?_toArray, List.getElem?_cons_succ, List.getElem?_cons_zero] at c4 c5
  have HH := Lib.hid kR
  have HZ := Lib.hid kZ
  have HB := Lib.hid kB
  clear kR kZ kB
  go_enter Try.func83, Try.ntmps83
  go_wp2
  show Code.wp _ _ _ _ ((w.alloc (.cells (rowV r) 40)).alloc (.cells (rowV zeroR) 40))
  rw [hA]
  clear hA
  refine wp_region_tail [_, _, _, _, _, _, _, _, _] [_] (fun _ w' => ∃ q, w' = A.drewN q) (by kernel_rfl) (by kernel_rfl) (by kernel_rfl) ⟨1, rfl⟩ ?_
  (repeat (first | (refine sets_quiet (fun w' => ∃ q, w' = A.drewN q) (fun _ _ h => h) rfl (fun _ _ _ h => h) rfl ?_; intro K hK; go_big_quiet_op; first | go_big_quiet_on | (refine ⟨_, fun _ => rfl, ?_⟩; go_big_quiet_on)) | (refine sets_nil rfl (fun _ _ _ h => h) _ rfl _ rfl ?_; simp only [Act.put, List.setIfInBounds_toArray, List.set_cons_succ, List.set_cons_zero]) | (refine sets_skip rfl (fun _ _ _ h => h) ?_; simp only [Act.put, List.setIfInBounds_toArray, List.set_cons_succ, List.set_cons_zero])))
  rintro S _ _ ⟨q, rfl⟩
  go_wp2
  have hset := (HH.out.drewN q).set 4 (.int .u32 ((r.mask ||| 28672 : Nat) : Int))
  have hz := (HZ.out.drewN q).other (b' := w.heap.size) 4 (.int .u32 ((r.mask ||| 28672 : Nat) : Int)) (by omega)
  have hb := (below_drewN (k := q) HB.out).setCell (p := ⟨w.heap.size, 4, none⟩) (Nat.le_refl _) (.int .u32 ((r.mask ||| 28672 : Nat) : Int))
  obtain ⟨W, hW⟩ : ∃ W, (A.drewN q).setCell ⟨w.heap.size, 4, none⟩ (.int .u32 ((r.mask ||| 28672 : Nat) : Int)) = W := ⟨_, rfl⟩
  rw [hW] at hset hz hb ⊢
  clear hW c4 c5 f4 f5 e1 HH HZ HB
  simp only [List.setIfInBounds_toArray, List.set_cons_succ, List.set_cons_zero] at hset
  have c5 := hset.cell 5
  have f5 := hset.frozen 5
  simp only [List.getElem?_toArray, List.getElem?_cons_succ, List.getElem?_cons_zero] at c5
  have HS := Lib.hid hset
  have HZ := Lib.hid hz
  have HB := Lib.hid hb
  clear hset hz hb
  refine wp_region_tail [_, _, _, _, _, _, _, _] [_] (fun _ w' => ∃ q, w' = W.drewN q) (by kernel_rfl) (by kernel_rfl) (by kernel_rfl) ⟨1, rfl⟩ ?_
  (repeat (first | (refine sets_quiet (fun w' => ∃ q, w' = W.drewN q) (fun _ _ h => h) rfl (fun _ _ _ h => h) rfl ?_; intro K hK; go_big_quiet_op; first | go_big_quiet_on | (refine ⟨_, fun _ => rfl, ?_⟩; go_big_quiet_on)) | (refine sets_nil rfl (fun _ _ _ h => h) _ rfl _ rfl ?_; simp only [Act.put, List.setIfInBounds_toArray, List.set_cons_succ, List.set_cons_zero]) | (refine sets_skip rfl (fun _ _ _ h => h) ?_; simp only [Act.put, List.setIfInBounds_toArray, List.set_cons_succ, List.set_cons_zero])))
  rintro S _ _ ⟨q2, rfl⟩
  have hs2 := (HS.out.drewN q2).set 5 (.int .u32 ((r.mtch ||| v * 4096 : Nat) : Int))
  have hz2 := (HZ.out.drewN q2).other (b' := w.heap.size) 5 (.int .u32 ((r.mtch ||| v * 4096 : Nat) : Int)) (by omega)
  simp only [List.setIfInBounds_toArray, List.set_cons_succ, List.set_cons_zero] at hs2
  go_wp2_with (first
    | (refine wpList_load_blk rfl _ _ rfl _ rfl _ _ _ hs2 Try.underlying40 rfl (by kernel_rfl) ?_)
    | (refine wpList_store_blk rfl _ _ _ rfl _ _ rfl rfl _ _ hz2 (by kernel_rfl) rfl (by simp [Value.oneCell']) ?_))
  exact bodyPost_ret (results_cell rfl _ _ (w.heap.size + 1) _ _ _ rfl (hz2.row _) Try.underlying40 rfl (by kernel_rfl)) rfl ⟨rfl, below_setRow ((below_drewN (k := q2) HB.out).setCell (p := ⟨w.heap.size, 5, none⟩) (Nat.le_refl _) _) (by omega) _⟩
theorem fix_20 (w : World) (r : R7) (v : Nat) (hm : r.mask < 4294967296) (ht : r.mtch < 4294967296) (hv : v < 2 ^ 5) :
    Calls Try.prog 83 #[.agg (rowV r), .int .i64 20, .int .i64 5, .int .i64 v] w fun e w' =>
      e = .returned (.agg (rowV (pt20 v r))) ∧ Below w.heap.size w w' := by
  have e1 : bits .or .u32 (r.mask : Int) 32505856 = ((r.mask ||| 32505856 : Nat) : Int) := or32 _ 32505856 hm (by decide)
  have e2 : bits .or .u32 (r.mtch : Int) ((v : Int) * 1048576) = ((r.mtch ||| v * 1048576 : Nat) : Int) := or32 _ (v * 1048576) ht (by omega)
  obtain ⟨A, hA⟩ : ∃ A, (w.alloc (.cells (rowV r) 40)).alloc (.cells (rowV zeroR) 40) = A := ⟨_, rfl⟩
  have kR := (Blk.new w (rowV r) 40).alloc (.cells (rowV zeroR) 40)
  have kZ := Blk.new (w.alloc (.cells (rowV r) 40)) (rowV zeroR) 40
  have kB := ((Below.refl w.heap.size w).alloc (Nat.le_refl _) (.cells (rowV r) 40)).alloc (by simp) (.cells (rowV zeroR) 40)
  rw [World.size_alloc] at kZ
  rw [hA] at kR kZ kB
  have c4 := kR.cell 4
  have c5 := kR.cell 5
  have f4 := kR.frozen 4
  have f5 := kR.frozen 5
  simp only [List.getElem?_toArray, List.getElem?_cons_succ, List.getElem?_cons_zero] at c4 c5
  have HH := Lib.hid kR
  have HZ := Lib.hid kZ
  have HB := Lib.hid kB
  clear kR kZ kB
  go_enter Try.func83, Try.ntmps83
  go_wp2
  show Code.wp _ _ _ _ ((w.alloc (.cells (rowV r) 40)).alloc (.cells (rowV zeroR) 40))
  rw [hA]
  clear hA
  refine wp_region_tail [_, _, _, _, _, _, _, _, _] [_] (fun _ w' => ∃ q, w' = A.drewN q) (by kernel_rfl) (by kernel_rfl) (by kernel_rfl) ⟨1, rfl⟩ ?_
  (repeat (first | (refine sets_quiet (fun w' => ∃ q, w' = A.drewN q) (fun _ _ h => h) rfl (fun _ _ _ h => h) rfl ?_; intro K hK; go_big_quiet_op; first | go_big_quiet_on | (refine ⟨_, fun _ => rfl, ?_⟩; go_big_quiet_on)) | (refine sets_nil rfl (fun _ _ _ h => h) _ rfl _ rfl ?_; simp only [Act.put, List.setIfInBounds_toArray, List.set_cons_succ, List.set_cons_zero]) | (refine sets_skip rfl (fun _ _ _ h => h) ?_; simp only [Act.put, List.setIfInBounds_toArray, List.set_cons_succ, List.set_cons_zero])))
  rintro S _ _ ⟨q, rfl⟩
  go_wp2
  have hset := (HH.out.drewN q).set 4 (.int .u32 ((r.mask ||| 32505856 : Nat) : Int))
  have hz := (HZ.out.drewN q).other (b' := w.heap.size) 4 (.int .u32 ((r.mask ||| 32505856 : Nat) : Int)) (by omega)
  have hb := (below_drewN (k := q) HB.out).setCell (p := ⟨w.heap.size, 4, none⟩) (Nat.le_refl _) (.int .u32 ((r.mask ||| 32505856 : Nat) : Int))
  obtain ⟨W, hW⟩ : ∃ W, (A.drewN q).setCell ⟨w.heap.size, 4, none⟩ (.int .u32 ((r.mask ||| 32505856 : Nat) : Int)) = W := ⟨_, rfl⟩
  rw [hW] at hset hz hb ⊢
  clear hW c4 c5 f4 f5 e1 HH HZ HB
  simp only [List.setIfInBounds_toArray, List.set_cons_succ, List.set_cons_zero] at hset
  have c5 := hset.cell 5
  have f5 := hset.frozen 5
  simp only [List.getElem?_toArray, List.getElem?_cons_succ, List.getElem?_cons_zero] at c5
  have HS := Lib.hid hset
  have HZ := Lib.hid hz
  have HB := Lib.hid hb
  clear hset hz hb
  refine wp_region_tail [_, _, _, _, _, _, _, _] [_] (fun _ w' => ∃ q, w' = W.drewN q) (by kernel_rfl) (by kernel_rfl) (by kernel_rfl) ⟨1, rfl⟩ ?_
  (repeat (first | (refine sets_quiet (fun w' => ∃ q, w' = W.drewN q) (fun _ _ h => h) rfl (fun _ _ _ h => h) rfl ?_; intro K hK; go_big_quiet_op; first | go_big_quiet_on | (refine ⟨_, fun _ => rfl, ?_⟩; go_big_quiet_on)) | (refine sets_nil rfl (fun _ _ _ h => h) _ rfl _ rfl ?_; simp only [Act.put, List.setIfInBounds_toArray, List.set_cons_succ, List.set_cons_zero]) | (refine sets_skip rfl (fun _ _ _ h => h) ?_; simp only [Act.put, List.setIfInBounds_toArray, List.set_cons_succ, List.set_cons_zero])))
  rintro S _ _ ⟨q2, rfl⟩
  have hs2 := (HS.out.drewN q2).set 5 (.int .u32 ((r.mtch ||| v * 1048576 : Nat) : Int))
  have hz2 := (HZ.out.drewN q2).other (b' := w.heap.size) 5 (.int .u32 ((r.mtch ||| v * 1048576 : Nat) : Int)) (by omega)
  simp only [List.setIfInBounds_toArray, List.set_cons_succ, List.set_cons_zero] at hs2
  go_wp2_with (first
    | (refine wpList_load_blk rfl _ _ rfl _ rfl _ _ _ hs2 Try.underlying40 rfl (by kernel_rfl) ?_)
    | (refine wpList_store_blk rfl _ _ _ rfl _ _ rfl rfl _ _ hz2 (by kernel_rfl) rfl (by simp [Value.oneCell']) ?_))
  exact bodyPost_ret (results_cell rfl _ _ (w.heap.size + 1) _ _ _ rfl (hz2.row _) Try.underlying40 rfl (by kernel_rfl)) rfl ⟨rfl, below_setRow ((below_drewN (k := q2) HB.out).setCell (p := ⟨w.heap.size, 5, none⟩) (Nat.le_refl _) _) (by omega) _⟩
end Go.Proofs.Yteelconabmfnkaa
