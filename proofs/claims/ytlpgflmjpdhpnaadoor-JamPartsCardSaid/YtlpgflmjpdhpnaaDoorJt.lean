/- Contracts of jam.Top and abacusref04.Top. -/
import Derived.Test.YtlpgflmjpdhpnaaDoorRows
import Derived.Test.YtlpgflmjpdhpnaaDoorG
import Derived.Test.YtlpgflmjpdhpnaaDoorB
import Derived.Test.YtlpgflmjpdhpnaaDoorJa
import Derived.Test.YtlpgflmjpdhpnaaDoorXc
import Derived.Test.YtlpgflmjpdhpnaaDoorXj
import Derived.Test.YtlpgflmjpdhpnaaDoorXk
namespace Go.Proofs.YtlpgflmjpdhpnaaDoor
open Go.RowKit
set_option maxHeartbeats 4000000
set_option maxRecDepth 100000
set_option linter.unusedVariables false
set_option linter.unusedSimpArgs false
set_option exponentiation.threshold 1000
/-- the number, moved so that its highest bit stands at place p -/
def topB (A p : Nat) : Nat := if p + 1 < lenW A then jamR A (lenW A - (p + 1)) else leftW A (p + 1 - lenW A)
def topBad (A : Nat) (p : Int) : Prop := A = 0 ∨ p < 0 ∨ 383 < p
theorem jtop_bad0 (A : Nat) (p : Int) (w : World) (hA : A < W384) (h0 : A = 0) : Calls Tryd.prog 19 #[.agg (wv (A)), .int .i64 p] w fun e w' => e = .returned (.tuple #[.agg (wv 0), .int .i64 0, .int .i64 2]) ∧ Below w.heap.size w w' := by
  have hm : Tryd.prog.eqGuardType Tryd.prog.depth 24 = false := by kernel_rfl
  have q0 : ∀ w, (binOp .eql 24 (.agg (wv A)) (.agg #[.int .u64 0, .int .u64 0, .int .u64 0, .int .u64 0, .int .u64 0, .int .u64 0])).run Tryd.prog w = .ok (.bool true) w := fun w => by
    rw [← wv_zero]
    have := run_eql_wv Tryd.underlying24 Tryd.underlying22 (by kernel_rfl) A 0 hA W384_pos w
    rwa [decide_eq_true h0] at this
  clear hA h0
  go_enter Tryd.func19, Tryd.ntmps19
  have HS0 := Lib.hid ((Ds.nil w).box (wv (A)) 24 (w.heap.size) rfl)
  have g1_0 : Blk (w.alloc (.cells (wv (A)) 24)) (w.heap.size) (wv (A)) 24 := HS0.out.all 0 _ rfl
  have H152 : Hid (Ds [(w.heap.size + 1, wv (0), 24), (w.heap.size, wv (A), 24)] w ((w.alloc (.cells (wv (A)) 24)).alloc (.cells #[.int .u64 0, .int .u64 0, .int .u64 0, .int .u64 0, .int .u64 0, .int .u64 0] 24))) := Lib.hid (HS0.out.zero 24 _ (by simp))
  have g2_0 : Blk ((w.alloc (.cells (wv (A)) 24)).alloc (.cells #[.int .u64 0, .int .u64 0, .int .u64 0, .int .u64 0, .int .u64 0, .int .u64 0] 24)) (w.heap.size + 1) (wv (0)) 24 := H152.out.all 0 _ rfl
  have g2_1 : Blk ((w.alloc (.cells (wv (A)) 24)).alloc (.cells #[.int .u64 0, .int .u64 0, .int .u64 0, .int .u64 0, .int .u64 0, .int .u64 0] 24)) (w.heap.size) (wv (A)) 24 := H152.out.all 1 _ rfl
  go_wp2_with (first
    | (refine wpList_load_wv rfl 24 _ rfl _ rfl 24 _ _ (by with_reducible assumption) Tryd.underlying24 rfl (by kernel_rfl) ?_)
    | (refine wpList_load_wv_g rfl 24 _ rfl _ rfl 24 _ _ (by with_reducible assumption) Tryd.underlying24 rfl (by kernel_rfl) ?_)
    | (refine wpList_store_blk rfl 24 _ _ rfl (w.heap.size + 1) #[.int .u64 0, .int .u64 0, .int .u64 0, .int .u64 0, .int .u64 0, .int .u64 0] rfl rfl 24 (wv (0)) (by with_reducible assumption) (by kernel_rfl) (wv_size _) zeros_one' ?_; have H153 : Hid (Ds [(w.heap.size + 1, wv (0), 24), (w.heap.size, wv (A), 24)] w (((w.alloc (.cells (wv (A)) 24)).alloc (.cells #[.int .u64 0, .int .u64 0, .int .u64 0, .int .u64 0, .int .u64 0, .int .u64 0] 24)).setRow (w.heap.size + 1) #[.int .u64 0, .int .u64 0, .int .u64 0, .int .u64 0, .int .u64 0, .int .u64 0])) := Lib.hid (H152.out.zeroRow 0 _ _ _ rfl); clear g1_0 g2_0 g2_1 H152; have g3_0 : Blk (((w.alloc (.cells (wv (A)) 24)).alloc (.cells #[.int .u64 0, .int .u64 0, .int .u64 0, .int .u64 0, .int .u64 0, .int .u64 0] 24)).setRow (w.heap.size + 1) #[.int .u64 0, .int .u64 0, .int .u64 0, .int .u64 0, .int .u64 0, .int .u64 0]) (w.heap.size + 1) (wv (0)) 24 := H153.out.all 0 _ rfl; have g3_1 : Blk (((w.alloc (.cells (wv (A)) 24)).alloc (.cells #[.int .u64 0, .int .u64 0, .int .u64 0, .int .u64 0, .int .u64 0, .int .u64 0] 24)).setRow (w.heap.size + 1) #[.int .u64 0, .int .u64 0, .int .u64 0, .int .u64 0, .int .u64 0, .int .u64 0]) (w.heap.size) (wv (A)) 24 := H153.out.all 1 _ rfl))
  refine bodyPost_ret (results_ctt rfl _ _ (w.heap.size + 1) 24 _ _ rfl (H153.out.all 0 _ rfl) Tryd.underlying24 rfl (by rw [wv_size]; kernel_rfl)) rfl ?_
  exact ⟨ret3 rfl (by rfl) (by rfl), H153.out.le⟩
theorem jtop_bad1 (A : Nat) (p : Int) (w : World) (hA : A < W384) (h0 : ¬ A = 0) (h1 : p < 0) : Calls Tryd.prog 19 #[.agg (wv (A)), .int .i64 p] w fun e w' => e = .returned (.tuple #[.agg (wv 0), .int .i64 0, .int .i64 2]) ∧ Below w.heap.size w w' := by
  have hm : Tryd.prog.eqGuardType Tryd.prog.depth 24 = false := by kernel_rfl
  have q0 : ∀ w, (binOp .eql 24 (.agg (wv A)) (.agg #[.int .u64 0, .int .u64 0, .int .u64 0, .int .u64 0, .int .u64 0, .int .u64 0])).run Tryd.prog w = .ok (.bool false) w := fun w => by
    rw [← wv_zero]
    have := run_eql_wv Tryd.underlying24 Tryd.underlying22 (by kernel_rfl) A 0 hA W384_pos w
    rwa [decide_eq_false h0] at this
  clear hA h0
  go_enter Tryd.func19, Tryd.ntmps19
  have HS0 := Lib.hid ((Ds.nil w).box (wv (A)) 24 (w.heap.size) rfl)
  have g1_0 : Blk (w.alloc (.cells (wv (A)) 24)) (w.heap.size) (wv (A)) 24 := HS0.out.all 0 _ rfl
  have H154 : Hid (Ds [(w.heap.size + 1, wv (0), 24), (w.heap.size, wv (A), 24)] w ((w.alloc (.cells (wv (A)) 24)).alloc (.cells #[.int .u64 0, .int .u64 0, .int .u64 0, .int .u64 0, .int .u64 0, .int .u64 0] 24))) := Lib.hid (HS0.out.zero 24 _ (by simp))
  have g2_0 : Blk ((w.alloc (.cells (wv (A)) 24)).alloc (.cells #[.int .u64 0, .int .u64 0, .int .u64 0, .int .u64 0, .int .u64 0, .int .u64 0] 24)) (w.heap.size + 1) (wv (0)) 24 := H154.out.all 0 _ rfl
  have g2_1 : Blk ((w.alloc (.cells (wv (A)) 24)).alloc (.cells #[.int .u64 0, .int .u64 0, .int .u64 0, .int .u64 0, .int .u64 0, .int .u64 0] 24)) (w.heap.size) (wv (A)) 24 := H154.out.all 1 _ rfl
  go_wp2_with (first
    | (refine wpList_load_wv rfl 24 _ rfl _ rfl 24 _ _ (by with_reducible assumption) Tryd.underlying24 rfl (by kernel_rfl) ?_)
    | (refine wpList_load_wv_g rfl 24 _ rfl _ rfl 24 _ _ (by with_reducible assumption) Tryd.underlying24 rfl (by kernel_rfl) ?_)
    | (refine wpList_store_blk rfl 24 _ _ rfl (w.heap.size + 1) #[.int .u64 0, .int .u64 0, .int .u64 0, .int .u64 0, .int .u64 0, .int .u64 0] rfl rfl 24 (wv (0)) (by with_reducible assumption) (by kernel_rfl) (wv_size _) zeros_one' ?_; have H155 : Hid (Ds [(w.heap.size + 1, wv (0), 24), (w.heap.size, wv (A), 24)] w (((w.alloc (.cells (wv (A)) 24)).alloc (.cells #[.int .u64 0, .int .u64 0, .int .u64 0, .int .u64 0, .int .u64 0, .int .u64 0] 24)).setRow (w.heap.size + 1) #[.int .u64 0, .int .u64 0, .int .u64 0, .int .u64 0, .int .u64 0, .int .u64 0])) := Lib.hid (H154.out.zeroRow 0 _ _ _ rfl); clear g1_0 g2_0 g2_1 H154; have g3_0 : Blk (((w.alloc (.cells (wv (A)) 24)).alloc (.cells #[.int .u64 0, .int .u64 0, .int .u64 0, .int .u64 0, .int .u64 0, .int .u64 0] 24)).setRow (w.heap.size + 1) #[.int .u64 0, .int .u64 0, .int .u64 0, .int .u64 0, .int .u64 0, .int .u64 0]) (w.heap.size + 1) (wv (0)) 24 := H155.out.all 0 _ rfl; have g3_1 : Blk (((w.alloc (.cells (wv (A)) 24)).alloc (.cells #[.int .u64 0, .int .u64 0, .int .u64 0, .int .u64 0, .int .u64 0, .int .u64 0] 24)).setRow (w.heap.size + 1) #[.int .u64 0, .int .u64 0, .int .u64 0, .int .u64 0, .int .u64 0, .int .u64 0]) (w.heap.size) (wv (A)) 24 := H155.out.all 1 _ rfl))
  refine bodyPost_ret (results_ctt rfl _ _ (w.heap.size + 1) 24 _ _ rfl (H155.out.all 0 _ rfl) Tryd.underlying24 rfl (by rw [wv_size]; kernel_rfl)) rfl ?_
  exact ⟨ret3 rfl (by rfl) (by rfl), H155.out.le⟩
theorem jtop_bad2 (A : Nat) (p : Int) (w : World) (hA : A < W384) (h0 : ¬ A = 0) (h1 : ¬ p < 0) (h2 : 383 < p) : Calls Tryd.prog 19 #[.agg (wv (A)), .int .i64 p] w fun e w' => e = .returned (.tuple #[.agg (wv 0), .int .i64 0, .int .i64 2]) ∧ Below w.heap.size w w' := by
  have hm : Tryd.prog.eqGuardType Tryd.prog.depth 24 = false := by kernel_rfl
  have h3 : ¬ (p ≤ 383) := by omega
  have q0 : ∀ w, (binOp .eql 24 (.agg (wv A)) (.agg #[.int .u64 0, .int .u64 0, .int .u64 0, .int .u64 0, .int .u64 0, .int .u64 0])).run Tryd.prog w = .ok (.bool false) w := fun w => by
    rw [← wv_zero]
    have := run_eql_wv Tryd.underlying24 Tryd.underlying22 (by kernel_rfl) A 0 hA W384_pos w
    rwa [decide_eq_false h0] at this
  clear hA h0
  go_enter Tryd.func19, Tryd.ntmps19
  have HS0 := Lib.hid ((Ds.nil w).box (wv (A)) 24 (w.heap.size) rfl)
  have g1_0 : Blk (w.alloc (.cells (wv (A)) 24)) (w.heap.size) (wv (A)) 24 := HS0.out.all 0 _ rfl
  have H156 : Hid (Ds [(w.heap.size + 1, wv (0), 24), (w.heap.size, wv (A), 24)] w ((w.alloc (.cells (wv (A)) 24)).alloc (.cells #[.int .u64 0, .int .u64 0, .int .u64 0, .int .u64 0, .int .u64 0, .int .u64 0] 24))) := Lib.hid (HS0.out.zero 24 _ (by simp))
  have g2_0 : Blk ((w.alloc (.cells (wv (A)) 24)).alloc (.cells #[.int .u64 0, .int .u64 0, .int .u64 0, .int .u64 0, .int .u64 0, .int .u64 0] 24)) (w.heap.size + 1) (wv (0)) 24 := H156.out.all 0 _ rfl
  have g2_1 : Blk ((w.alloc (.cells (wv (A)) 24)).alloc (.cells #[.int .u64 0, .int .u64 0, .int .u64 0, .int .u64 0, .int .u64 0, .int .u64 0] 24)) (w.heap.size) (wv (A)) 24 := H156.out.all 1 _ rfl
  go_wp2_with (first
    | (refine wpList_load_wv rfl 24 _ rfl _ rfl 24 _ _ (by with_reducible assumption) Tryd.underlying24 rfl (by kernel_rfl) ?_)
    | (refine wpList_load_wv_g rfl 24 _ rfl _ rfl 24 _ _ (by with_reducible assumption) Tryd.underlying24 rfl (by kernel_rfl) ?_)
    | (refine wpList_store_blk rfl 24 _ _ rfl (w.heap.size + 1) #[.int .u64 0, .int .u64 0, .int .u64 0, .int .u64 0, .int .u64 0, .int .u64 0] rfl rfl 24 (wv (0)) (by with_reducible assumption) (by kernel_rfl) (wv_size _) zeros_one' ?_; have H157 : Hid (Ds [(w.heap.size + 1, wv (0), 24), (w.heap.size, wv (A), 24)] w (((w.alloc (.cells (wv (A)) 24)).alloc (.cells #[.int .u64 0, .int .u64 0, .int .u64 0, .int .u64 0, .int .u64 0, .int .u64 0] 24)).setRow (w.heap.size + 1) #[.int .u64 0, .int .u64 0, .int .u64 0, .int .u64 0, .int .u64 0, .int .u64 0])) := Lib.hid (H156.out.zeroRow 0 _ _ _ rfl); clear g1_0 g2_0 g2_1 H156; have g3_0 : Blk (((w.alloc (.cells (wv (A)) 24)).alloc (.cells #[.int .u64 0, .int .u64 0, .int .u64 0, .int .u64 0, .int .u64 0, .int .u64 0] 24)).setRow (w.heap.size + 1) #[.int .u64 0, .int .u64 0, .int .u64 0, .int .u64 0, .int .u64 0, .int .u64 0]) (w.heap.size + 1) (wv (0)) 24 := H157.out.all 0 _ rfl; have g3_1 : Blk (((w.alloc (.cells (wv (A)) 24)).alloc (.cells #[.int .u64 0, .int .u64 0, .int .u64 0, .int .u64 0, .int .u64 0, .int .u64 0] 24)).setRow (w.heap.size + 1) #[.int .u64 0, .int .u64 0, .int .u64 0, .int .u64 0, .int .u64 0, .int .u64 0]) (w.heap.size) (wv (A)) 24 := H157.out.all 1 _ rfl))
  refine bodyPost_ret (results_ctt rfl _ _ (w.heap.size + 1) 24 _ _ rfl (H157.out.all 0 _ rfl) Tryd.underlying24 rfl (by rw [wv_size]; kernel_rfl)) rfl ?_
  exact ⟨ret3 rfl (by rfl) (by rfl), H157.out.le⟩
theorem jtop_down (A p : Nat) (w : World) (hA : A < W384) (h0 : ¬ A = 0) (hp : p ≤ 383) (hk : p + 1 < lenW A) (hT : Tab w) : Calls Tryd.prog 19 #[.agg (wv (A)), .int .i64 (p : Nat)] w fun e w' => e = .returned (.tuple #[.agg (wv (topB A p)), .int .i64 ((p : Nat) + 1 - (lenW A : Nat)), .int .i64 0]) ∧ Below w.heap.size w w' := by
  have HTab := Lib.hid hT
  clear hT
  have hm : Tryd.prog.eqGuardType Tryd.prog.depth 24 = false := by kernel_rfl
  have q0 : ∀ w, (binOp .eql 24 (.agg (wv A)) (.agg #[.int .u64 0, .int .u64 0, .int .u64 0, .int .u64 0, .int .u64 0, .int .u64 0])).run Tryd.prog w = .ok (.bool false) w := fun w => by
    rw [← wv_zero]
    have := run_eql_wv Tryd.underlying24 Tryd.underlying22 (by kernel_rfl) A 0 hA W384_pos w
    rwa [decide_eq_false h0] at this
  have hl := (lenW_spec hA).2
  obtain ⟨l, hlw⟩ : ∃ l, lenW A = l := ⟨_, rfl⟩
  rw [hlw] at hl hk
  obtain ⟨c, hc⟩ : ∃ c, l - (p + 1) = c := ⟨_, rfl⟩
  have hcc : clamp (c : Int) 384 = c := by unfold clamp; omega
  obtain ⟨x, hx⟩ : ∃ x, jamR A c = x := ⟨_, rfl⟩
  have e : topB A p = x := by unfold topB; rw [hlw, if_pos hk, hc, hx]
  rw [e, hlw]
  have K0 : (p : Int) + 1 - (l : Int) = -(c : Int) := by omega
  have K1 : (p : Int) + 1 - (l : Int) = -(c : Int) := by omega
  have c0 : 0 < c := by omega
  have K2 : -(c : Int) < 0 := by omega
  have K3 : - -(c : Int) = (c : Int) := by omega
  have C1 : Hid (∀ W, Calls Tryd.prog 21 #[.agg (wv (A))] W fun e w' => e = .returned (.int .i64 (l : Nat)) ∧ Below W.heap.size W w') := Lib.hid fun W => by have := wlen_c A W hA; rwa [hlw] at this
  have C2 : Hid (∀ W, Tab W → Calls Tryd.prog 15 #[.agg (wv (A)), .int .i64 (c : Nat)] W fun e w' => e = .returned (.agg (wv (x))) ∧ Below W.heap.size W w') := Lib.hid fun W hT => by have := jright_c A c W hA hT; rwa [hcc, hx] at this
  clear hA h0 hlw hc hcc hx e hk
  go_enter Tryd.func19, Tryd.ntmps19
  have HS0 := Lib.hid ((Ds.nil w).box (wv (A)) 24 (w.heap.size) rfl)
  have g1_0 : Blk (w.alloc (.cells (wv (A)) 24)) (w.heap.size) (wv (A)) 24 := HS0.out.all 0 _ rfl
  have tb1 : Tab (w.alloc (.cells (wv (A)) 24)) := HTab.out.below0 HS0.out.le
  have H158 : Hid (Ds [(w.heap.size + 1, wv (0), 24), (w.heap.size, wv (A), 24)] w ((w.alloc (.cells (wv (A)) 24)).alloc (.cells #[.int .u64 0, .int .u64 0, .int .u64 0, .int .u64 0, .int .u64 0, .int .u64 0] 24))) := Lib.hid (HS0.out.zero 24 _ (by simp))
  have g2_0 : Blk ((w.alloc (.cells (wv (A)) 24)).alloc (.cells #[.int .u64 0, .int .u64 0, .int .u64 0, .int .u64 0, .int .u64 0, .int .u64 0] 24)) (w.heap.size + 1) (wv (0)) 24 := H158.out.all 0 _ rfl
  have g2_1 : Blk ((w.alloc (.cells (wv (A)) 24)).alloc (.cells #[.int .u64 0, .int .u64 0, .int .u64 0, .int .u64 0, .int .u64 0, .int .u64 0] 24)) (w.heap.size) (wv (A)) 24 := H158.out.all 1 _ rfl
  have tb2 : Tab ((w.alloc (.cells (wv (A)) 24)).alloc (.cells #[.int .u64 0, .int .u64 0, .int .u64 0, .int .u64 0, .int .u64 0, .int .u64 0] 24)) := HTab.out.below0 H158.out.le
  go_wp2_with (first
    | (refine wpList_load_wv rfl 24 _ rfl _ rfl 24 _ _ (by with_reducible assumption) Tryd.underlying24 rfl (by kernel_rfl) ?_)
    | (refine wpList_load_wv_g rfl 24 _ rfl _ rfl 24 _ _ (by with_reducible assumption) Tryd.underlying24 rfl (by kernel_rfl) ?_)
    | (go_at_call 21; (with_reducible refine (C1.out _).mono ?_); rintro e wc59 ⟨rfl, bc59⟩; clear C1; have H160 : Hid (Ds [(w.heap.size + 1, wv (0), 24), (w.heap.size, wv (A), 24)] w wc59) := Lib.hid (H158.out.call bc59); clear g1_0 tb1 g2_0 g2_1 tb2 bc59 H158; have g3_0 : Blk wc59 (w.heap.size + 1) (wv (0)) 24 := H160.out.all 0 _ rfl; have g3_1 : Blk wc59 (w.heap.size) (wv (A)) 24 := H160.out.all 1 _ rfl; have tb3 : Tab wc59 := HTab.out.below0 H160.out.le)
    | (go_at_call 15; (with_reducible refine (C2.out _ (by with_reducible assumption)).mono ?_); rintro e wc61 ⟨rfl, bc61⟩; clear C2; have H162 : Hid (Ds [(w.heap.size + 1, wv (0), 24), (w.heap.size, wv (A), 24)] w wc61) := Lib.hid (H160.out.call bc61); clear g3_0 g3_1 tb3 bc61 H160; have g4_0 : Blk wc61 (w.heap.size + 1) (wv (0)) 24 := H162.out.all 0 _ rfl; have g4_1 : Blk wc61 (w.heap.size) (wv (A)) 24 := H162.out.all 1 _ rfl; have tb4 : Tab wc61 := HTab.out.below0 H162.out.le)
    | (refine wpList_store_wv rfl 24 _ _ rfl (w.heap.size + 1) (x) rfl rfl 24 (0) (by with_reducible assumption) (by kernel_rfl) ?_; have H163 : Hid (Ds [(w.heap.size + 1, wv (x), 24), (w.heap.size, wv (A), 24)] w (wc61.setRow (w.heap.size + 1) (wv (x)))) := Lib.hid (H162.out.setRow 0 (wv (x)) _ _ _ rfl); clear g4_0 g4_1 tb4 H162; have g5_0 : Blk (wc61.setRow (w.heap.size + 1) (wv (x))) (w.heap.size + 1) (wv (x)) 24 := H163.out.all 0 _ rfl; have g5_1 : Blk (wc61.setRow (w.heap.size + 1) (wv (x))) (w.heap.size) (wv (A)) 24 := H163.out.all 1 _ rfl; have tb5 : Tab (wc61.setRow (w.heap.size + 1) (wv (x))) := HTab.out.below0 H163.out.le))
  refine bodyPost_ret (results_ctt rfl _ _ (w.heap.size + 1) 24 _ _ rfl (H163.out.all 0 _ rfl) Tryd.underlying24 rfl (by rw [wv_size]; kernel_rfl)) rfl ?_
  exact ⟨ret3 rfl (by rw [K0]; try rfl) (by rfl), H163.out.le⟩
theorem jtop_up (A p : Nat) (w : World) (hA : A < W384) (h0 : ¬ A = 0) (hp : p ≤ 383) (hk : ¬ p + 1 < lenW A) (hT : Tab w) : Calls Tryd.prog 19 #[.agg (wv (A)), .int .i64 (p : Nat)] w fun e w' => e = .returned (.tuple #[.agg (wv (topB A p)), .int .i64 ((p : Nat) + 1 - (lenW A : Nat)), .int .i64 0]) ∧ Below w.heap.size w w' := by
  have HTab := Lib.hid hT
  clear hT
  have hm : Tryd.prog.eqGuardType Tryd.prog.depth 24 = false := by kernel_rfl
  have q0 : ∀ w, (binOp .eql 24 (.agg (wv A)) (.agg #[.int .u64 0, .int .u64 0, .int .u64 0, .int .u64 0, .int .u64 0, .int .u64 0])).run Tryd.prog w = .ok (.bool false) w := fun w => by
    rw [← wv_zero]
    have := run_eql_wv Tryd.underlying24 Tryd.underlying22 (by kernel_rfl) A 0 hA W384_pos w
    rwa [decide_eq_false h0] at this
  have hl := (lenW_spec hA).2
  obtain ⟨l, hlw⟩ : ∃ l, lenW A = l := ⟨_, rfl⟩
  rw [hlw] at hl hk
  obtain ⟨c, hc⟩ : ∃ c, p + 1 - l = c := ⟨_, rfl⟩
  have hcc : clamp (c : Int) 384 = c := by unfold clamp; omega
  obtain ⟨x, hx⟩ : ∃ x, leftW A c = x := ⟨_, rfl⟩
  obtain ⟨z, hz⟩ : ∃ z, decide (W384 ≤ A * 2 ^ c) = z := ⟨_, rfl⟩
  have e : topB A p = x := by unfold topB; rw [hlw, if_neg hk, hc, hx]
  rw [e, hlw]
  have K0 : (p : Int) + 1 - (l : Int) = (c : Int) := by omega
  have K1 : (p : Int) + 1 - (l : Int) = (c : Int) := by omega
  have K2 : ¬ (c : Int) < 0 := by omega
  have C1 : Hid (∀ W, Calls Tryd.prog 21 #[.agg (wv (A))] W fun e w' => e = .returned (.int .i64 (l : Nat)) ∧ Below W.heap.size W w') := Lib.hid fun W => by have := wlen_c A W hA; rwa [hlw] at this
  have C2 : Hid (∀ W, Calls Tryd.prog 23 #[.agg (wv (A)), .int .i64 (c : Nat)] W fun e w' => e = .returned (.tuple #[.agg (wv x), .bool z]) ∧ Below W.heap.size W w') := Lib.hid fun W => by have := wleft_c A c W hA; rwa [hcc, hx, hz] at this
  clear hA h0 hlw hc hcc hx hz e hk
  go_enter Tryd.func19, Tryd.ntmps19
  have HS0 := Lib.hid ((Ds.nil w).box (wv (A)) 24 (w.heap.size) rfl)
  have g1_0 : Blk (w.alloc (.cells (wv (A)) 24)) (w.heap.size) (wv (A)) 24 := HS0.out.all 0 _ rfl
  have tb1 : Tab (w.alloc (.cells (wv (A)) 24)) := HTab.out.below0 HS0.out.le
  have H164 : Hid (Ds [(w.heap.size + 1, wv (0), 24), (w.heap.size, wv (A), 24)] w ((w.alloc (.cells (wv (A)) 24)).alloc (.cells #[.int .u64 0, .int .u64 0, .int .u64 0, .int .u64 0, .int .u64 0, .int .u64 0] 24))) := Lib.hid (HS0.out.zero 24 _ (by simp))
  have g2_0 : Blk ((w.alloc (.cells (wv (A)) 24)).alloc (.cells #[.int .u64 0, .int .u64 0, .int .u64 0, .int .u64 0, .int .u64 0, .int .u64 0] 24)) (w.heap.size + 1) (wv (0)) 24 := H164.out.all 0 _ rfl
  have g2_1 : Blk ((w.alloc (.cells (wv (A)) 24)).alloc (.cells #[.int .u64 0, .int .u64 0, .int .u64 0, .int .u64 0, .int .u64 0, .int .u64 0] 24)) (w.heap.size) (wv (A)) 24 := H164.out.all 1 _ rfl
  have tb2 : Tab ((w.alloc (.cells (wv (A)) 24)).alloc (.cells #[.int .u64 0, .int .u64 0, .int .u64 0, .int .u64 0, .int .u64 0, .int .u64 0] 24)) := HTab.out.below0 H164.out.le
  go_wp2_with (first
    | (refine wpList_load_wv rfl 24 _ rfl _ rfl 24 _ _ (by with_reducible assumption) Tryd.underlying24 rfl (by kernel_rfl) ?_)
    | (refine wpList_load_wv_g rfl 24 _ rfl _ rfl 24 _ _ (by with_reducible assumption) Tryd.underlying24 rfl (by kernel_rfl) ?_)
    | (go_at_call 21; (with_reducible refine (C1.out _).mono ?_); rintro e wc65 ⟨rfl, bc65⟩; clear C1; have H166 : Hid (Ds [(w.heap.size + 1, wv (0), 24), (w.heap.size, wv (A), 24)] w wc65) := Lib.hid (H164.out.call bc65); clear g1_0 tb1 g2_0 g2_1 tb2 bc65 H164; have g3_0 : Blk wc65 (w.heap.size + 1) (wv (0)) 24 := H166.out.all 0 _ rfl; have g3_1 : Blk wc65 (w.heap.size) (wv (A)) 24 := H166.out.all 1 _ rfl; have tb3 : Tab wc65 := HTab.out.below0 H166.out.le)
    | (go_at_call 23; (with_reducible refine (C2.out _).mono ?_); rintro e wc67 ⟨rfl, bc67⟩; clear C2; have H168 : Hid (Ds [(w.heap.size + 1, wv (0), 24), (w.heap.size, wv (A), 24)] w wc67) := Lib.hid (H166.out.call bc67); clear g3_0 g3_1 tb3 bc67 H166; have g4_0 : Blk wc67 (w.heap.size + 1) (wv (0)) 24 := H168.out.all 0 _ rfl; have g4_1 : Blk wc67 (w.heap.size) (wv (A)) 24 := H168.out.all 1 _ rfl; have tb4 : Tab wc67 := HTab.out.below0 H168.out.le)
    | (refine wpList_store_wv rfl 24 _ _ rfl (w.heap.size + 1) (x) rfl rfl 24 (0) (by with_reducible assumption) (by kernel_rfl) ?_; have H169 : Hid (Ds [(w.heap.size + 1, wv (x), 24), (w.heap.size, wv (A), 24)] w (wc67.setRow (w.heap.size + 1) (wv (x)))) := Lib.hid (H168.out.setRow 0 (wv (x)) _ _ _ rfl); clear g4_0 g4_1 tb4 H168; have g5_0 : Blk (wc67.setRow (w.heap.size + 1) (wv (x))) (w.heap.size + 1) (wv (x)) 24 := H169.out.all 0 _ rfl; have g5_1 : Blk (wc67.setRow (w.heap.size + 1) (wv (x))) (w.heap.size) (wv (A)) 24 := H169.out.all 1 _ rfl; have tb5 : Tab (wc67.setRow (w.heap.size + 1) (wv (x))) := HTab.out.below0 H169.out.le)
    | (refine wpList_store_wv rfl 24 _ _ rfl (w.heap.size + 1) (x) rfl rfl 24 (x) (by with_reducible assumption) (by kernel_rfl) ?_; have H170 : Hid (Ds [(w.heap.size + 1, wv (x), 24), (w.heap.size, wv (A), 24)] w ((wc67.setRow (w.heap.size + 1) (wv (x))).setRow (w.heap.size + 1) (wv (x)))) := Lib.hid (H169.out.setRow 0 (wv (x)) _ _ _ rfl); clear g5_0 g5_1 tb5 H169; have g6_0 : Blk ((wc67.setRow (w.heap.size + 1) (wv (x))).setRow (w.heap.size + 1) (wv (x))) (w.heap.size + 1) (wv (x)) 24 := H170.out.all 0 _ rfl; have g6_1 : Blk ((wc67.setRow (w.heap.size + 1) (wv (x))).setRow (w.heap.size + 1) (wv (x))) (w.heap.size) (wv (A)) 24 := H170.out.all 1 _ rfl; have tb6 : Tab ((wc67.setRow (w.heap.size + 1) (wv (x))).setRow (w.heap.size + 1) (wv (x))) := HTab.out.below0 H170.out.le))
  refine bodyPost_ret (results_ctt rfl _ _ (w.heap.size + 1) 24 _ _ rfl (H170.out.all 0 _ rfl) Tryd.underlying24 rfl (by rw [wv_size]; kernel_rfl)) rfl ?_
  exact ⟨ret3 rfl (by rw [K0]; try rfl) (by rfl), H170.out.le⟩
theorem rtop4_bad0 (A : Nat) (p : Int) (w : World) (hA : A < W384) (h0 : A = 0) : Calls Tryd.prog 20 #[.agg (wv (A)), .int .i64 p] w fun e w' => e = .returned (.tuple #[.agg (wv 0), .int .i64 0, .int .i64 2]) ∧ Below w.heap.size w w' := by
  have hm : Tryd.prog.eqGuardType Tryd.prog.depth 24 = false := by kernel_rfl
  have q0 : ∀ w, (binOp .eql 24 (.agg (wv A)) (.agg #[.int .u64 0, .int .u64 0, .int .u64 0, .int .u64 0, .int .u64 0, .int .u64 0])).run Tryd.prog w = .ok (.bool true) w := fun w => by
    rw [← wv_zero]
    have := run_eql_wv Tryd.underlying24 Tryd.underlying22 (by kernel_rfl) A 0 hA W384_pos w
    rwa [decide_eq_true h0] at this
  clear hA h0
  go_enter Tryd.func20, Tryd.ntmps20
  have HS0 := Lib.hid ((Ds.nil w).box (wv (A)) 24 (w.heap.size) rfl)
  have g1_0 : Blk (w.alloc (.cells (wv (A)) 24)) (w.heap.size) (wv (A)) 24 := HS0.out.all 0 _ rfl
  have H171 : Hid (Ds [(w.heap.size + 1, wv (0), 24), (w.heap.size, wv (A), 24)] w ((w.alloc (.cells (wv (A)) 24)).alloc (.cells #[.int .u64 0, .int .u64 0, .int .u64 0, .int .u64 0, .int .u64 0, .int .u64 0] 24))) := Lib.hid (HS0.out.zero 24 _ (by simp))
  have g2_0 : Blk ((w.alloc (.cells (wv (A)) 24)).alloc (.cells #[.int .u64 0, .int .u64 0, .int .u64 0, .int .u64 0, .int .u64 0, .int .u64 0] 24)) (w.heap.size + 1) (wv (0)) 24 := H171.out.all 0 _ rfl
  have g2_1 : Blk ((w.alloc (.cells (wv (A)) 24)).alloc (.cells #[.int .u64 0, .int .u64 0, .int .u64 0, .int .u64 0, .int .u64 0, .int .u64 0] 24)) (w.heap.size) (wv (A)) 24 := H171.out.all 1 _ rfl
  go_wp2_with (first
    | (refine wpList_load_wv rfl 24 _ rfl _ rfl 24 _ _ (by with_reducible assumption) Tryd.underlying24 rfl (by kernel_rfl) ?_)
    | (refine wpList_load_wv_g rfl 24 _ rfl _ rfl 24 _ _ (by with_reducible assumption) Tryd.underlying24 rfl (by kernel_rfl) ?_)
    | (refine wpList_store_blk rfl 24 _ _ rfl (w.heap.size + 1) #[.int .u64 0, .int .u64 0, .int .u64 0, .int .u64 0, .int .u64 0, .int .u64 0] rfl rfl 24 (wv (0)) (by with_reducible assumption) (by kernel_rfl) (wv_size _) zeros_one' ?_; have H172 : Hid (Ds [(w.heap.size + 1, wv (0), 24), (w.heap.size, wv (A), 24)] w (((w.alloc (.cells (wv (A)) 24)).alloc (.cells #[.int .u64 0, .int .u64 0, .int .u64 0, .int .u64 0, .int .u64 0, .int .u64 0] 24)).setRow (w.heap.size + 1) #[.int .u64 0, .int .u64 0, .int .u64 0, .int .u64 0, .int .u64 0, .int .u64 0])) := Lib.hid (H171.out.zeroRow 0 _ _ _ rfl); clear g1_0 g2_0 g2_1 H171; have g3_0 : Blk (((w.alloc (.cells (wv (A)) 24)).alloc (.cells #[.int .u64 0, .int .u64 0, .int .u64 0, .int .u64 0, .int .u64 0, .int .u64 0] 24)).setRow (w.heap.size + 1) #[.int .u64 0, .int .u64 0, .int .u64 0, .int .u64 0, .int .u64 0, .int .u64 0]) (w.heap.size + 1) (wv (0)) 24 := H172.out.all 0 _ rfl; have g3_1 : Blk (((w.alloc (.cells (wv (A)) 24)).alloc (.cells #[.int .u64 0, .int .u64 0, .int .u64 0, .int .u64 0, .int .u64 0, .int .u64 0] 24)).setRow (w.heap.size + 1) #[.int .u64 0, .int .u64 0, .int .u64 0, .int .u64 0, .int .u64 0, .int .u64 0]) (w.heap.size) (wv (A)) 24 := H172.out.all 1 _ rfl))
  refine bodyPost_ret (results_ctt rfl _ _ (w.heap.size + 1) 24 _ _ rfl (H172.out.all 0 _ rfl) Tryd.underlying24 rfl (by rw [wv_size]; kernel_rfl)) rfl ?_
  exact ⟨ret3 rfl (by rfl) (by rfl), H172.out.le⟩
theorem rtop4_bad1 (A : Nat) (p : Int) (w : World) (hA : A < W384) (h0 : ¬ A = 0) (h1 : p < 0) : Calls Tryd.prog 20 #[.agg (wv (A)), .int .i64 p] w fun e w' => e = .returned (.tuple #[.agg (wv 0), .int .i64 0, .int .i64 2]) ∧ Below w.heap.size w w' := by
  have hm : Tryd.prog.eqGuardType Tryd.prog.depth 24 = false := by kernel_rfl
  have q0 : ∀ w, (binOp .eql 24 (.agg (wv A)) (.agg #[.int .u64 0, .int .u64 0, .int .u64 0, .int .u64 0, .int .u64 0, .int .u64 0])).run Tryd.prog w = .ok (.bool false) w := fun w => by
    rw [← wv_zero]
    have := run_eql_wv Tryd.underlying24 Tryd.underlying22 (by kernel_rfl) A 0 hA W384_pos w
    rwa [decide_eq_false h0] at this
  clear hA h0
  go_enter Tryd.func20, Tryd.ntmps20
  have HS0 := Lib.hid ((Ds.nil w).box (wv (A)) 24 (w.heap.size) rfl)
  have g1_0 : Blk (w.alloc (.cells (wv (A)) 24)) (w.heap.size) (wv (A)) 24 := HS0.out.all 0 _ rfl
  have H173 : Hid (Ds [(w.heap.size + 1, wv (0), 24), (w.heap.size, wv (A), 24)] w ((w.alloc (.cells (wv (A)) 24)).alloc (.cells #[.int .u64 0, .int .u64 0, .int .u64 0, .int .u64 0, .int .u64 0, .int .u64 0] 24))) := Lib.hid (HS0.out.zero 24 _ (by simp))
  have g2_0 : Blk ((w.alloc (.cells (wv (A)) 24)).alloc (.cells #[.int .u64 0, .int .u64 0, .int .u64 0, .int .u64 0, .int .u64 0, .int .u64 0] 24)) (w.heap.size + 1) (wv (0)) 24 := H173.out.all 0 _ rfl
  have g2_1 : Blk ((w.alloc (.cells (wv (A)) 24)).alloc (.cells #[.int .u64 0, .int .u64 0, .int .u64 0, .int .u64 0, .int .u64 0, .int .u64 0] 24)) (w.heap.size) (wv (A)) 24 := H173.out.all 1 _ rfl
  go_wp2_with (first
    | (refine wpList_load_wv rfl 24 _ rfl _ rfl 24 _ _ (by with_reducible assumption) Tryd.underlying24 rfl (by kernel_rfl) ?_)
    | (refine wpList_load_wv_g rfl 24 _ rfl _ rfl 24 _ _ (by with_reducible assumption) Tryd.underlying24 rfl (by kernel_rfl) ?_)
    | (refine wpList_store_blk rfl 24 _ _ rfl (w.heap.size + 1) #[.int .u64 0, .int .u64 0, .int .u64 0, .int .u64 0, .int .u64 0, .int .u64 0] rfl rfl 24 (wv (0)) (by with_reducible assumption) (by kernel_rfl) (wv_size _) zeros_one' ?_; have H174 : Hid (Ds [(w.heap.size + 1, wv (0), 24), (w.heap.size, wv (A), 24)] w (((w.alloc (.cells (wv (A)) 24)).alloc (.cells #[.int .u64 0, .int .u64 0, .int .u64 0, .int .u64 0, .int .u64 0, .int .u64 0] 24)).setRow (w.heap.size + 1) #[.int .u64 0, .int .u64 0, .int .u64 0, .int .u64 0, .int .u64 0, .int .u64 0])) := Lib.hid (H173.out.zeroRow 0 _ _ _ rfl); clear g1_0 g2_0 g2_1 H173; have g3_0 : Blk (((w.alloc (.cells (wv (A)) 24)).alloc (.cells #[.int .u64 0, .int .u64 0, .int .u64 0, .int .u64 0, .int .u64 0, .int .u64 0] 24)).setRow (w.heap.size + 1) #[.int .u64 0, .int .u64 0, .int .u64 0, .int .u64 0, .int .u64 0, .int .u64 0]) (w.heap.size + 1) (wv (0)) 24 := H174.out.all 0 _ rfl; have g3_1 : Blk (((w.alloc (.cells (wv (A)) 24)).alloc (.cells #[.int .u64 0, .int .u64 0, .int .u64 0, .int .u64 0, .int .u64 0, .int .u64 0] 24)).setRow (w.heap.size + 1) #[.int .u64 0, .int .u64 0, .int .u64 0, .int .u64 0, .int .u64 0, .int .u64 0]) (w.heap.size) (wv (A)) 24 := H174.out.all 1 _ rfl))
  refine bodyPost_ret (results_ctt rfl _ _ (w.heap.size + 1) 24 _ _ rfl (H174.out.all 0 _ rfl) Tryd.underlying24 rfl (by rw [wv_size]; kernel_rfl)) rfl ?_
  exact ⟨ret3 rfl (by rfl) (by rfl), H174.out.le⟩
theorem rtop4_bad2 (A : Nat) (p : Int) (w : World) (hA : A < W384) (h0 : ¬ A = 0) (h1 : ¬ p < 0) (h2 : 383 < p) : Calls Tryd.prog 20 #[.agg (wv (A)), .int .i64 p] w fun e w' => e = .returned (.tuple #[.agg (wv 0), .int .i64 0, .int .i64 2]) ∧ Below w.heap.size w w' := by
  have hm : Tryd.prog.eqGuardType Tryd.prog.depth 24 = false := by kernel_rfl
  have h3 : ¬ (p ≤ 383) := by omega
  have q0 : ∀ w, (binOp .eql 24 (.agg (wv A)) (.agg #[.int .u64 0, .int .u64 0, .int .u64 0, .int .u64 0, .int .u64 0, .int .u64 0])).run Tryd.prog w = .ok (.bool false) w := fun w => by
    rw [← wv_zero]
    have := run_eql_wv Tryd.underlying24 Tryd.underlying22 (by kernel_rfl) A 0 hA W384_pos w
    rwa [decide_eq_false h0] at this
  clear hA h0
  go_enter Tryd.func20, Tryd.ntmps20
  have HS0 := Lib.hid ((Ds.nil w).box (wv (A)) 24 (w.heap.size) rfl)
  have g1_0 : Blk (w.alloc (.cells (wv (A)) 24)) (w.heap.size) (wv (A)) 24 := HS0.out.all 0 _ rfl
  have H175 : Hid (Ds [(w.heap.size + 1, wv (0), 24), (w.heap.size, wv (A), 24)] w ((w.alloc (.cells (wv (A)) 24)).alloc (.cells #[.int .u64 0, .int .u64 0, .int .u64 0, .int .u64 0, .int .u64 0, .int .u64 0] 24))) := Lib.hid (HS0.out.zero 24 _ (by simp))
  have g2_0 : Blk ((w.alloc (.cells (wv (A)) 24)).alloc (.cells #[.int .u64 0, .int .u64 0, .int .u64 0, .int .u64 0, .int .u64 0, .int .u64 0] 24)) (w.heap.size + 1) (wv (0)) 24 := H175.out.all 0 _ rfl
  have g2_1 : Blk ((w.alloc (.cells (wv (A)) 24)).alloc (.cells #[.int .u64 0, .int .u64 0, .int .u64 0, .int .u64 0, .int .u64 0, .int .u64 0] 24)) (w.heap.size) (wv (A)) 24 := H175.out.all 1 _ rfl
  go_wp2_with (first
    | (refine wpList_load_wv rfl 24 _ rfl _ rfl 24 _ _ (by with_reducible assumption) Tryd.underlying24 rfl (by kernel_rfl) ?_)
    | (refine wpList_load_wv_g rfl 24 _ rfl _ rfl 24 _ _ (by with_reducible assumption) Tryd.underlying24 rfl (by kernel_rfl) ?_)
    | (refine wpList_store_blk rfl 24 _ _ rfl (w.heap.size + 1) #[.int .u64 0, .int .u64 0, .int .u64 0, .int .u64 0, .int .u64 0, .int .u64 0] rfl rfl 24 (wv (0)) (by with_reducible assumption) (by kernel_rfl) (wv_size _) zeros_one' ?_; have H176 : Hid (Ds [(w.heap.size + 1, wv (0), 24), (w.heap.size, wv (A), 24)] w (((w.alloc (.cells (wv (A)) 24)).alloc (.cells #[.int .u64 0, .int .u64 0, .int .u64 0, .int .u64 0, .int .u64 0, .int .u64 0] 24)).setRow (w.heap.size + 1) #[.int .u64 0, .int .u64 0, .int .u64 0, .int .u64 0, .int .u64 0, .int .u64 0])) := Lib.hid (H175.out.zeroRow 0 _ _ _ rfl); clear g1_0 g2_0 g2_1 H175; have g3_0 : Blk (((w.alloc (.cells (wv (A)) 24)).alloc (.cells #[.int .u64 0, .int .u64 0, .int .u64 0, .int .u64 0, .int .u64 0, .int .u64 0] 24)).setRow (w.heap.size + 1) #[.int .u64 0, .int .u64 0, .int .u64 0, .int .u64 0, .int .u64 0, .int .u64 0]) (w.heap.size + 1) (wv (0)) 24 := H176.out.all 0 _ rfl; have g3_1 : Blk (((w.alloc (.cells (wv (A)) 24)).alloc (.cells #[.int .u64 0, .int .u64 0, .int .u64 0, .int .u64 0, .int .u64 0, .int .u64 0] 24)).setRow (w.heap.size + 1) #[.int .u64 0, .int .u64 0, .int .u64 0, .int .u64 0, .int .u64 0, .int .u64 0]) (w.heap.size) (wv (A)) 24 := H176.out.all 1 _ rfl))
  refine bodyPost_ret (results_ctt rfl _ _ (w.heap.size + 1) 24 _ _ rfl (H176.out.all 0 _ rfl) Tryd.underlying24 rfl (by rw [wv_size]; kernel_rfl)) rfl ?_
  exact ⟨ret3 rfl (by rfl) (by rfl), H176.out.le⟩
theorem rtop4_down (A p : Nat) (w : World) (hA : A < W384) (h0 : ¬ A = 0) (hp : p ≤ 383) (hk : p + 1 < lenW A) : Calls Tryd.prog 20 #[.agg (wv (A)), .int .i64 (p : Nat)] w fun e w' => e = .returned (.tuple #[.agg (wv (topB A p)), .int .i64 ((p : Nat) + 1 - (lenW A : Nat)), .int .i64 0]) ∧ Below w.heap.size w w' := by
  have hm : Tryd.prog.eqGuardType Tryd.prog.depth 24 = false := by kernel_rfl
  have q0 : ∀ w, (binOp .eql 24 (.agg (wv A)) (.agg #[.int .u64 0, .int .u64 0, .int .u64 0, .int .u64 0, .int .u64 0, .int .u64 0])).run Tryd.prog w = .ok (.bool false) w := fun w => by
    rw [← wv_zero]
    have := run_eql_wv Tryd.underlying24 Tryd.underlying22 (by kernel_rfl) A 0 hA W384_pos w
    rwa [decide_eq_false h0] at this
  have hl := (lenW_spec hA).2
  obtain ⟨l, hlw⟩ : ∃ l, lenW A = l := ⟨_, rfl⟩
  rw [hlw] at hl hk
  obtain ⟨c, hc⟩ : ∃ c, l - (p + 1) = c := ⟨_, rfl⟩
  have hcc : clamp (c : Int) 384 = c := by unfold clamp; omega
  obtain ⟨x, hx⟩ : ∃ x, jamR A c = x := ⟨_, rfl⟩
  have e : topB A p = x := by unfold topB; rw [hlw, if_pos hk, hc, hx]
  rw [e, hlw]
  have K0 : (p : Int) + 1 - (l : Int) = -(c : Int) := by omega
  have K1 : (p : Int) - ((l : Int) - 1) = -(c : Int) := by omega
  have c0 : 0 < c := by omega
  have K2 : -(c : Int) < 0 := by omega
  have K3 : - -(c : Int) = (c : Int) := by omega
  have C1 : Hid (∀ W, Calls Tryd.prog 30 #[.agg (wv (A))] W fun e w' => e = .returned (.int .i64 (l : Nat)) ∧ Below W.heap.size W w') := Lib.hid fun W => by have := r2len_c A W hA; rwa [hlw] at this
  have C2 : Hid (∀ W, Calls Tryd.prog 18 #[.agg (wv (A)), .int .i64 (c : Nat)] W fun e w' => e = .returned (.agg (wv (x))) ∧ Below W.heap.size W w') := Lib.hid fun W => by have := rright4_c A c W hA; rwa [hcc, hx] at this
  clear hA h0 hlw hc hcc hx e hk
  go_enter Tryd.func20, Tryd.ntmps20
  have HS0 := Lib.hid ((Ds.nil w).box (wv (A)) 24 (w.heap.size) rfl)
  have g1_0 : Blk (w.alloc (.cells (wv (A)) 24)) (w.heap.size) (wv (A)) 24 := HS0.out.all 0 _ rfl
  have H177 : Hid (Ds [(w.heap.size + 1, wv (0), 24), (w.heap.size, wv (A), 24)] w ((w.alloc (.cells (wv (A)) 24)).alloc (.cells #[.int .u64 0, .int .u64 0, .int .u64 0, .int .u64 0, .int .u64 0, .int .u64 0] 24))) := Lib.hid (HS0.out.zero 24 _ (by simp))
  have g2_0 : Blk ((w.alloc (.cells (wv (A)) 24)).alloc (.cells #[.int .u64 0, .int .u64 0, .int .u64 0, .int .u64 0, .int .u64 0, .int .u64 0] 24)) (w.heap.size + 1) (wv (0)) 24 := H177.out.all 0 _ rfl
  have g2_1 : Blk ((w.alloc (.cells (wv (A)) 24)).alloc (.cells #[.int .u64 0, .int .u64 0, .int .u64 0, .int .u64 0, .int .u64 0, .int .u64 0] 24)) (w.heap.size) (wv (A)) 24 := H177.out.all 1 _ rfl
  go_wp2_with (first
    | (refine wpList_load_wv rfl 24 _ rfl _ rfl 24 _ _ (by with_reducible assumption) Tryd.underlying24 rfl (by kernel_rfl) ?_)
    | (refine wpList_load_wv_g rfl 24 _ rfl _ rfl 24 _ _ (by with_reducible assumption) Tryd.underlying24 rfl (by kernel_rfl) ?_)
    | (go_at_call 30; (with_reducible refine (C1.out _).mono ?_); rintro e wc78 ⟨rfl, bc78⟩; clear C1; have H179 : Hid (Ds [(w.heap.size + 1, wv (0), 24), (w.heap.size, wv (A), 24)] w wc78) := Lib.hid (H177.out.call bc78); clear g1_0 g2_0 g2_1 bc78 H177; have g3_0 : Blk wc78 (w.heap.size + 1) (wv (0)) 24 := H179.out.all 0 _ rfl; have g3_1 : Blk wc78 (w.heap.size) (wv (A)) 24 := H179.out.all 1 _ rfl)
    | (go_at_call 18; (with_reducible refine (C2.out _).mono ?_); rintro e wc80 ⟨rfl, bc80⟩; clear C2; have H181 : Hid (Ds [(w.heap.size + 1, wv (0), 24), (w.heap.size, wv (A), 24)] w wc80) := Lib.hid (H179.out.call bc80); clear g3_0 g3_1 bc80 H179; have g4_0 : Blk wc80 (w.heap.size + 1) (wv (0)) 24 := H181.out.all 0 _ rfl; have g4_1 : Blk wc80 (w.heap.size) (wv (A)) 24 := H181.out.all 1 _ rfl)
    | (refine wpList_store_wv rfl 24 _ _ rfl (w.heap.size + 1) (x) rfl rfl 24 (0) (by with_reducible assumption) (by kernel_rfl) ?_; have H182 : Hid (Ds [(w.heap.size + 1, wv (x), 24), (w.heap.size, wv (A), 24)] w (wc80.setRow (w.heap.size + 1) (wv (x)))) := Lib.hid (H181.out.setRow 0 (wv (x)) _ _ _ rfl); clear g4_0 g4_1 H181; have g5_0 : Blk (wc80.setRow (w.heap.size + 1) (wv (x))) (w.heap.size + 1) (wv (x)) 24 := H182.out.all 0 _ rfl; have g5_1 : Blk (wc80.setRow (w.heap.size + 1) (wv (x))) (w.heap.size) (wv (A)) 24 := H182.out.all 1 _ rfl))
  refine bodyPost_ret (results_ctt rfl _ _ (w.heap.size + 1) 24 _ _ rfl (H182.out.all 0 _ rfl) Tryd.underlying24 rfl (by rw [wv_size]; kernel_rfl)) rfl ?_
  exact ⟨ret3 rfl (by rw [K0]; try rfl) (by rfl), H182.out.le⟩
theorem rtop4_up (A p : Nat) (w : World) (hA : A < W384) (h0 : ¬ A = 0) (hp : p ≤ 383) (hk : ¬ p + 1 < lenW A) : Calls Tryd.prog 20 #[.agg (wv (A)), .int .i64 (p : Nat)] w fun e w' => e = .returned (.tuple #[.agg (wv (topB A p)), .int .i64 ((p : Nat) + 1 - (lenW A : Nat)), .int .i64 0]) ∧ Below w.heap.size w w' := by
  have hm : Tryd.prog.eqGuardType Tryd.prog.depth 24 = false := by kernel_rfl
  have q0 : ∀ w, (binOp .eql 24 (.agg (wv A)) (.agg #[.int .u64 0, .int .u64 0, .int .u64 0, .int .u64 0, .int .u64 0, .int .u64 0])).run Tryd.prog w = .ok (.bool false) w := fun w => by
    rw [← wv_zero]
    have := run_eql_wv Tryd.underlying24 Tryd.underlying22 (by kernel_rfl) A 0 hA W384_pos w
    rwa [decide_eq_false h0] at this
  have hl := (lenW_spec hA).2
  obtain ⟨l, hlw⟩ : ∃ l, lenW A = l := ⟨_, rfl⟩
  rw [hlw] at hl hk
  obtain ⟨c, hc⟩ : ∃ c, p + 1 - l = c := ⟨_, rfl⟩
  have hcc : clamp (c : Int) 384 = c := by unfold clamp; omega
  obtain ⟨x, hx⟩ : ∃ x, leftW A c = x := ⟨_, rfl⟩
  obtain ⟨z, hz⟩ : ∃ z, decide (W384 ≤ A * 2 ^ c) = z := ⟨_, rfl⟩
  have e : topB A p = x := by unfold topB; rw [hlw, if_neg hk, hc, hx]
  rw [e, hlw]
  have K0 : (p : Int) + 1 - (l : Int) = (c : Int) := by omega
  have K1 : (p : Int) - ((l : Int) - 1) = (c : Int) := by omega
  have K2 : ¬ (c : Int) < 0 := by omega
  have C1 : Hid (∀ W, Calls Tryd.prog 30 #[.agg (wv (A))] W fun e w' => e = .returned (.int .i64 (l : Nat)) ∧ Below W.heap.size W w') := Lib.hid fun W => by have := r2len_c A W hA; rwa [hlw] at this
  have C2 : Hid (∀ W, Calls Tryd.prog 27 #[.agg (wv (A)), .int .i64 (c : Nat)] W fun e w' => e = .returned (.tuple #[.agg (wv x), .bool z]) ∧ Below W.heap.size W w') := Lib.hid fun W => by have := rleft2_c A c W hA; rwa [hcc, hx, hz] at this
  clear hA h0 hlw hc hcc hx hz e hk
  go_enter Tryd.func20, Tryd.ntmps20
  have HS0 := Lib.hid ((Ds.nil w).box (wv (A)) 24 (w.heap.size) rfl)
  have g1_0 : Blk (w.alloc (.cells (wv (A)) 24)) (w.heap.size) (wv (A)) 24 := HS0.out.all 0 _ rfl
  have H183 : Hid (Ds [(w.heap.size + 1, wv (0), 24), (w.heap.size, wv (A), 24)] w ((w.alloc (.cells (wv (A)) 24)).alloc (.cells #[.int .u64 0, .int .u64 0, .int .u64 0, .int .u64 0, .int .u64 0, .int .u64 0] 24))) := Lib.hid (HS0.out.zero 24 _ (by simp))
  have g2_0 : Blk ((w.alloc (.cells (wv (A)) 24)).alloc (.cells #[.int .u64 0, .int .u64 0, .int .u64 0, .int .u64 0, .int .u64 0, .int .u64 0] 24)) (w.heap.size + 1) (wv (0)) 24 := H183.out.all 0 _ rfl
  have g2_1 : Blk ((w.alloc (.cells (wv (A)) 24)).alloc (.cells #[.int .u64 0, .int .u64 0, .int .u64 0, .int .u64 0, .int .u64 0, .int .u64 0] 24)) (w.heap.size) (wv (A)) 24 := H183.out.all 1 _ rfl
  go_wp2_with (first
    | (refine wpList_load_wv rfl 24 _ rfl _ rfl 24 _ _ (by with_reducible assumption) Tryd.underlying24 rfl (by kernel_rfl) ?_)
    | (refine wpList_load_wv_g rfl 24 _ rfl _ rfl 24 _ _ (by with_reducible assumption) Tryd.underlying24 rfl (by kernel_rfl) ?_)
    | (go_at_call 30; (with_reducible refine (C1.out _).mono ?_); rintro e wc84 ⟨rfl, bc84⟩; clear C1; have H185 : Hid (Ds [(w.heap.size + 1, wv (0), 24), (w.heap.size, wv (A), 24)] w wc84) := Lib.hid (H183.out.call bc84); clear g1_0 g2_0 g2_1 bc84 H183; have g3_0 : Blk wc84 (w.heap.size + 1) (wv (0)) 24 := H185.out.all 0 _ rfl; have g3_1 : Blk wc84 (w.heap.size) (wv (A)) 24 := H185.out.all 1 _ rfl)
    | (go_at_call 27; (with_reducible refine (C2.out _).mono ?_); rintro e wc86 ⟨rfl, bc86⟩; clear C2; have H187 : Hid (Ds [(w.heap.size + 1, wv (0), 24), (w.heap.size, wv (A), 24)] w wc86) := Lib.hid (H185.out.call bc86); clear g3_0 g3_1 bc86 H185; have g4_0 : Blk wc86 (w.heap.size + 1) (wv (0)) 24 := H187.out.all 0 _ rfl; have g4_1 : Blk wc86 (w.heap.size) (wv (A)) 24 := H187.out.all 1 _ rfl)
    | (refine wpList_store_wv rfl 24 _ _ rfl (wc86.heap.size) (x) rfl rfl 24 0 (Blk.zeroAt _ _ rfl) (by kernel_rfl) ?_; have H188 : Hid (Ds [(wc86.heap.size, wv (x), 24), (w.heap.size + 1, wv (0), 24), (w.heap.size, wv (A), 24)] w ((wc86.alloc (.cells #[.int .u64 0, .int .u64 0, .int .u64 0, .int .u64 0, .int .u64 0, .int .u64 0] 24)).setRow wc86.heap.size (wv (x)))) := Lib.hid ((H187.out.box #[.int .u64 0, .int .u64 0, .int .u64 0, .int .u64 0, .int .u64 0, .int .u64 0] 24 _ rfl).setRow 0 (wv (x)) _ _ _ rfl); clear g4_0 g4_1 H187; have g5_0 : Blk ((wc86.alloc (.cells #[.int .u64 0, .int .u64 0, .int .u64 0, .int .u64 0, .int .u64 0, .int .u64 0] 24)).setRow wc86.heap.size (wv (x))) (wc86.heap.size) (wv (x)) 24 := H188.out.all 0 _ rfl; have g5_1 : Blk ((wc86.alloc (.cells #[.int .u64 0, .int .u64 0, .int .u64 0, .int .u64 0, .int .u64 0, .int .u64 0] 24)).setRow wc86.heap.size (wv (x))) (w.heap.size + 1) (wv (0)) 24 := H188.out.all 1 _ rfl; have g5_2 : Blk ((wc86.alloc (.cells #[.int .u64 0, .int .u64 0, .int .u64 0, .int .u64 0, .int .u64 0, .int .u64 0] 24)).setRow wc86.heap.size (wv (x))) (w.heap.size) (wv (A)) 24 := H188.out.all 2 _ rfl)
    | (refine wpList_store_wv rfl 24 _ _ rfl (w.heap.size + 1) (x) rfl rfl 24 (0) (by with_reducible assumption) (by kernel_rfl) ?_; have H189 : Hid (Ds [(wc86.heap.size, wv (x), 24), (w.heap.size + 1, wv (x), 24), (w.heap.size, wv (A), 24)] w (((wc86.alloc (.cells #[.int .u64 0, .int .u64 0, .int .u64 0, .int .u64 0, .int .u64 0, .int .u64 0] 24)).setRow wc86.heap.size (wv (x))).setRow (w.heap.size + 1) (wv (x)))) := Lib.hid (H188.out.setRow 1 (wv (x)) _ _ _ rfl); clear g5_0 g5_1 g5_2 H188; have g6_0 : Blk (((wc86.alloc (.cells #[.int .u64 0, .int .u64 0, .int .u64 0, .int .u64 0, .int .u64 0, .int .u64 0] 24)).setRow wc86.heap.size (wv (x))).setRow (w.heap.size + 1) (wv (x))) (wc86.heap.size) (wv (x)) 24 := H189.out.all 0 _ rfl; have g6_1 : Blk (((wc86.alloc (.cells #[.int .u64 0, .int .u64 0, .int .u64 0, .int .u64 0, .int .u64 0, .int .u64 0] 24)).setRow wc86.heap.size (wv (x))).setRow (w.heap.size + 1) (wv (x))) (w.heap.size + 1) (wv (x)) 24 := H189.out.all 1 _ rfl; have g6_2 : Blk (((wc86.alloc (.cells #[.int .u64 0, .int .u64 0, .int .u64 0, .int .u64 0, .int .u64 0, .int .u64 0] 24)).setRow wc86.heap.size (wv (x))).setRow (w.heap.size + 1) (wv (x))) (w.heap.size) (wv (A)) 24 := H189.out.all 2 _ rfl))
  refine bodyPost_ret (results_ctt rfl _ _ (w.heap.size + 1) 24 _ _ rfl (H189.out.all 1 _ rfl) Tryd.underlying24 rfl (by rw [wv_size]; kernel_rfl)) rfl ?_
  exact ⟨ret3 rfl (by rw [K0]; try rfl) (by rfl), H189.out.le⟩
end Go.Proofs.YtlpgflmjpdhpnaaDoor
