/- The walk of MemNone. -/
import Derived.Test.YtdgdmhmagdjeoaaUj
namespace Go.Proofs.Ytdgdmhmagdjeoaa
open Go.RowKit
set_option maxHeartbeats 4000000
set_option maxRecDepth 100000
set_option linter.unusedVariables false
set_option linter.unusedSimpArgs false
abbrev stepW (how on wd nn : Int) (sa hi lo : Nat) (dv pv : Value) : Array Value := #[.int .i64 how, .int .i64 on, .int .i64 wd, .int .i64 nn, .int .u64 sa, .int .u64 hi, .int .u64 lo, dv, pv]
/-- what the law knows of a world X -/
structure NE (w X : World) (cs : Array Value) (mz g c : Nat) : Prop where
  step : Blk X w.heap.size cs 41
  zero : Blk X (w.heap.size + 1) #[.bool false, .slice none 0 0] 45
  arr : Blk X (w.heap.size + 1 + 1) #[.pointer none, .pointer (some ⟨w.heap.size + 1, 0, none⟩)] 46
  z : Head X mz (some ⟨g, 0, none⟩) 3 c
  below : Below w.heap.size w X
theorem NE.later {w X Y : World} {cs : Array Value} {mz g c : Nat} (h : NE w X cs mz g c) (hb : Below X.heap.size X Y) : NE w Y cs mz g c :=
  ⟨h.step.below hb h.step.lt, h.zero.below hb h.zero.lt, h.arr.below hb h.arr.lt, h.z.below hb, h.below.trans (hb.mono h.below.size)⟩
theorem NE.no {w X : World} {cs : Array Value} {mz g c : Nat} (h : NE w X cs mz g c) : NoMem X (.pointer (some ⟨w.heap.size + 1, 0, none⟩)) :=
  .inr ⟨_, rfl, by rw [h.zero.cell]; rfl⟩
theorem walk_MemNone (how on wd nn : Int) (sa hi lo : Nat) (dv pv : Value) (w : World) :
    Calls Try.prog 6 #[.agg (stepW how on wd nn sa hi lo dv pv)] w fun e w' => e = .returned (.bool true) ∧ Below w.heap.size w w' := by
  have C0 : Hid (∀ X, Blk X w.heap.size (stepW how on wd nn sa hi lo dv pv) 41 → Blk X (w.heap.size + 1) #[.bool false, .slice none 0 0] 45 → Blk X (w.heap.size + 1 + 1) #[.pointer none, .pointer (some ⟨w.heap.size + 1, 0, none⟩)] 46 → Below w.heap.size w X →
      Calls Try.prog 10 #[.int .i64 3] X fun e Y => ∃ m g c, e = .returned (.tuple #[.pointer (some ⟨m, 0, none⟩), .int .i64 0]) ∧ NE w Y (stepW how on wd nn sa hi lo dv pv) m g c) := Lib.hid (fun X h1 h2 h3 h4 => by
    refine (new_c X 3 (by decide)).mono ?_
    rintro e Y ⟨m, g, c, rfl, hM, hb⟩
    exact ⟨m, g, c, rfl, h1.below hb h1.lt, h2.below hb h2.lt, h3.below hb h3.lt, hM.hd, h4.trans (hb.mono h4.size)⟩)
  have q1 : ∀ w, (binOp .neq 35 (.agg #[.int .u64 0, .int .u64 0]) (.agg #[.int .u64 0, .int .u64 0])).run Try.prog w = .ok (.bool false) w := fun w => neq_bits w 0 0 0 0
  have hstep : Blk (((w.alloc (.cells (stepW how on wd nn sa hi lo dv pv) 41)).alloc (.cells #[.bool false, .slice none 0 0] 45)).alloc (.cells #[.pointer none, .pointer (some ⟨w.heap.size + 1, 0, none⟩)] 46)) w.heap.size (stepW how on wd nn sa hi lo dv pv) 41 := ((Blk.new w _ _).alloc _).alloc _
  have hzero : Blk (((w.alloc (.cells (stepW how on wd nn sa hi lo dv pv) 41)).alloc (.cells #[.bool false, .slice none 0 0] 45)).alloc (.cells #[.pointer none, .pointer (some ⟨w.heap.size + 1, 0, none⟩)] 46)) (w.heap.size + 1) #[.bool false, .slice none 0 0] 45 := by
    have := (Blk.new (w.alloc (.cells (stepW how on wd nn sa hi lo dv pv) 41)) #[.bool false, .slice none 0 0] 45).alloc (.cells #[.pointer none, .pointer (some ⟨w.heap.size + 1, 0, none⟩)] 46)
    rwa [World.size_alloc] at this
  have harr : Blk (((w.alloc (.cells (stepW how on wd nn sa hi lo dv pv) 41)).alloc (.cells #[.bool false, .slice none 0 0] 45)).alloc (.cells #[.pointer none, .pointer (some ⟨w.heap.size + 1, 0, none⟩)] 46)) (w.heap.size + 1 + 1) #[.pointer none, .pointer (some ⟨w.heap.size + 1, 0, none⟩)] 46 := by
    have := Blk.new ((w.alloc (.cells (stepW how on wd nn sa hi lo dv pv) 41)).alloc (.cells #[.bool false, .slice none 0 0] 45)) #[.pointer none, .pointer (some ⟨w.heap.size + 1, 0, none⟩)] 46
    rwa [World.size_alloc, World.size_alloc] at this
  have hbel := ((below_alloc w (.cells (stepW how on wd nn sa hi lo dv pv) 41)).alloc (by simp) (.cells #[.bool false, .slice none 0 0] 45)).alloc (by simp; omega) (.cells #[.pointer none, .pointer (some ⟨w.heap.size + 1, 0, none⟩)] 46)
  go_enter Try.func6, Try.ntmps6
  go_wp2_with (first
    | (go_at_call 10; (with_reducible refine (C0.out _ hstep hzero harr hbel).mono ?_); rintro e w1 ⟨m, g, c, rfl, E0⟩; clear C0 hstep hzero harr hbel))
  go_loopw [7] (fun i wr => (i = .int .i64 0 ∨ i = .int .i64 1 ∨ i = .int .i64 2) ∧ NE w wr (stepW how on wd nn sa hi lo dv pv) m g c) (fun i _ => 2 - (intOf i).toNat)
  case atStart => exact ⟨.inl rfl, E0⟩
  case round =>
    obtain ⟨hi3, E0⟩ := hrel
    rcases hi3 with rfl | rfl | rfl
    · have a0 := E0.arr.cell 0
      have s2 := E0.step.cell 2
      have s4 := E0.step.cell 4
      go_wp2_with (first
        | (go_at_call 15; (with_reducible refine (load_no _ _ sa wd (NoMem.nil _)).mono ?_); rintro e w2 ⟨rfl, h2⟩; have E2 := (E0.later h2).later (below_alloc w2 (.cells #[.int .u64 0, .int .u64 0] 35)); clear E0 h2 s2 s4; have s2 := E2.step.cell 2; have s3 := E2.step.cell 3; have s4 := E2.step.cell 4; have s5 := E2.step.cell 5; have s6 := E2.step.cell 6; have s7 := E2.step.cell 7; have s8 := E2.step.cell 8)
        | (go_at_call 18; (with_reducible refine (bytes_no _ _ sa nn (NoMem.nil _)).mono ?_); rintro e w3 ⟨rfl, rfl⟩)
        | (go_at_call 19; (with_reducible refine (changed_no1 _ (.pointer none) (.pointer (some ⟨m, 0, none⟩)) (NoMem.nil _)).mono ?_); rintro e w3 ⟨rfl, rfl⟩)
        | (go_at_call 19; (with_reducible refine (changed_no2 _ m _ _ _ (.pointer none) E2.z (NoMem.nil _)).mono ?_); rintro e w3 ⟨rfl, rfl⟩)
        | (go_at_call 11; (with_reducible refine (len_no _ _ (NoMem.nil _)).mono ?_); rintro e w3 ⟨rfl, rfl⟩)
        | (go_at_call 14; (with_reducible refine (store_no _ _ sa hi lo wd (NoMem.nil _)).mono ?_); rintro e w3 ⟨rfl, h3⟩; have E3 := E2.later h3; clear E2 s2 s3 s4 s5 s6 s7 s8; have s2 := E3.step.cell 2; have s4 := E3.step.cell 4; have s7 := E3.step.cell 7; have s8 := E3.step.cell 8; clear h3)
        | (go_at_call 17; (with_reducible refine (within_no _ _ sa wd (NoMem.nil _)).mono ?_); rintro e w4 ⟨rfl, rfl⟩)
        | (go_at_call 20; (with_reducible refine (put_no _ _ dv sa (NoMem.nil _)).mono ?_); rintro e w4 ⟨rfl, rfl⟩)
        | (go_at_call 21; (with_reducible refine (copy_no _ _ (NoMem.nil _)).mono ?_); rintro e w4 ⟨rfl, rfl⟩)
        | (go_at_call 22; (with_reducible refine (same_no _ (.pointer none) (.pointer none) (NoMem.nil _)).mono ?_); rintro e w4 ⟨rfl, k4, rfl⟩; have E4 := E3.later (below_drewN (k := k4) (Below.refl _ _)); clear E3 s2 s4 s7)
        | (go_at_call 22; (with_reducible refine (same_no _ (.pointer none) (.pointer (some ⟨m, 0, none⟩)) (NoMem.nil _)).mono ?_); rintro e w5 ⟨rfl, k5, rfl⟩; have E5 := E4.later (below_drewN (k := k5) (Below.refl _ _)); rw [World.drewN_drewN] at E5; clear E4)
        | (go_at_call 23; (with_reducible refine (change_no _ (.pointer none) pv (NoMem.nil _)).mono ?_); rintro e w6 ⟨rfl, rfl⟩)
        | (go_at_call 24; (with_reducible refine (sum_no _ (.pointer none) (NoMem.nil _)).mono ?_); rintro e w6 ⟨rfl, rfl⟩))
      go_roundw
      case rel => exact ⟨.inr (.inl rfl), E5⟩
      case measure => simp [intOf]
    · have a1 := E0.arr.cell 1
      have s2 := E0.step.cell 2
      have s4 := E0.step.cell 4
      go_wp2_with (first
        | (go_at_call 15; (with_reducible refine (load_no _ _ sa wd (E0.no)).mono ?_); rintro e w2 ⟨rfl, h2⟩; have E2 := (E0.later h2).later (below_alloc w2 (.cells #[.int .u64 0, .int .u64 0] 35)); clear E0 h2 s2 s4; have s2 := E2.step.cell 2; have s3 := E2.step.cell 3; have s4 := E2.step.cell 4; have s5 := E2.step.cell 5; have s6 := E2.step.cell 6; have s7 := E2.step.cell 7; have s8 := E2.step.cell 8)
        | (go_at_call 18; (with_reducible refine (bytes_no _ _ sa nn (E2.no)).mono ?_); rintro e w3 ⟨rfl, rfl⟩)
        | (go_at_call 19; (with_reducible refine (changed_no1 _ (.pointer (some ⟨w.heap.size + 1, 0, none⟩)) (.pointer (some ⟨m, 0, none⟩)) (E2.no)).mono ?_); rintro e w3 ⟨rfl, rfl⟩)
        | (go_at_call 19; (with_reducible refine (changed_no2 _ m _ _ _ (.pointer (some ⟨w.heap.size + 1, 0, none⟩)) E2.z (E2.no)).mono ?_); rintro e w3 ⟨rfl, rfl⟩)
        | (go_at_call 11; (with_reducible refine (len_no _ _ (E2.no)).mono ?_); rintro e w3 ⟨rfl, rfl⟩)
        | (go_at_call 14; (with_reducible refine (store_no _ _ sa hi lo wd (E2.no)).mono ?_); rintro e w3 ⟨rfl, h3⟩; have E3 := E2.later h3; clear E2 s2 s3 s4 s5 s6 s7 s8; have s2 := E3.step.cell 2; have s4 := E3.step.cell 4; have s7 := E3.step.cell 7; have s8 := E3.step.cell 8; clear h3)
        | (go_at_call 17; (with_reducible refine (within_no _ _ sa wd (E3.no)).mono ?_); rintro e w4 ⟨rfl, rfl⟩)
        | (go_at_call 20; (with_reducible refine (put_no _ _ dv sa (E3.no)).mono ?_); rintro e w4 ⟨rfl, rfl⟩)
        | (go_at_call 21; (with_reducible refine (copy_no _ _ (E3.no)).mono ?_); rintro e w4 ⟨rfl, rfl⟩)
        | (go_at_call 22; (with_reducible refine (same_no _ (.pointer (some ⟨w.heap.size + 1, 0, none⟩)) (.pointer (some ⟨w.heap.size + 1, 0, none⟩)) (E3.no)).mono ?_); rintro e w4 ⟨rfl, k4, rfl⟩; have E4 := E3.later (below_drewN (k := k4) (Below.refl _ _)); clear E3 s2 s4 s7)
        | (go_at_call 22; (with_reducible refine (same_no _ (.pointer (some ⟨w.heap.size + 1, 0, none⟩)) (.pointer (some ⟨m, 0, none⟩)) (E4.no)).mono ?_); rintro e w5 ⟨rfl, k5, rfl⟩; have E5 := E4.later (below_drewN (k := k5) (Below.refl _ _)); rw [World.drewN_drewN] at E5; clear E4)
        | (go_at_call 23; (with_reducible refine (change_no _ (.pointer (some ⟨w.heap.size + 1, 0, none⟩)) pv (E5.no)).mono ?_); rintro e w6 ⟨rfl, rfl⟩)
        | (go_at_call 24; (with_reducible refine (sum_no _ (.pointer (some ⟨w.heap.size + 1, 0, none⟩)) (E5.no)).mono ?_); rintro e w6 ⟨rfl, rfl⟩))
      go_roundw
      case rel => exact ⟨.inr (.inr rfl), E5⟩
      case measure => simp [intOf]
    · go_wp2_with (first
        | (go_at_call 9; (with_reducible refine (lives_c _).mono ?_); rintro e w9 ⟨rfl, h9⟩))
      go_ret
      exact ⟨rfl, E0.below.trans (h9.mono E0.below.size)⟩
end Go.Proofs.Ytdgdmhmagdjeoaa
