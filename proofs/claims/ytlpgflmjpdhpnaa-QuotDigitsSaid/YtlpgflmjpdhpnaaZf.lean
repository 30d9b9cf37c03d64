/- The contract of abacusref03.Digits. -/
import Derived.Test.YtlpgflmjpdhpnaaRows
import Derived.Test.YtlpgflmjpdhpnaaG
import Derived.Test.YtlpgflmjpdhpnaaC
import Derived.Test.YtlpgflmjpdhpnaaXk
import Derived.Test.YtlpgflmjpdhpnaaZa
import Derived.Test.YtlpgflmjpdhpnaaZb
import Derived.Test.YtlpgflmjpdhpnaaZe
namespace Go.Proofs.Ytlpgflmjpdhpnaa
open Go.RowKit
set_option maxHeartbeats 4000000
set_option maxRecDepth 100000
set_option linter.unusedVariables false
set_option linter.unusedSimpArgs false
set_option exponentiation.threshold 1000
theorem rdigits3_c (A B : Nat) (n : Int) (w : World) (hA : A < W384) (hB : B < W384) : Calls Try.prog 27 #[.agg (wv A), .agg (wv B), .int .i64 n] w fun e w' => e = .returned (.tuple #[.agg (wv (digQ A B n)), .bool (digM A B n), .int .i64 (digE A B n : Nat)]) ∧ Below w.heap.size w w' := by
  have hm : Try.prog.eqGuardType Try.prog.depth 24 = false := by kernel_rfl
  have hs3 : Hid (Ds [(w.heap.size + 2, wv 0, 24), (w.heap.size + 1, wv B, 24), (w.heap.size, wv A, 24)] w (((w.alloc (.cells (wv A) 24)).alloc (.cells (wv B) 24)).alloc (.cells (wv 0) 24))) :=
    Lib.hid ((((Ds.nil w).box (wv A) 24 w.heap.size rfl).box (wv B) 24 (w.heap.size + 1) (by simp)).box (wv 0) 24 (w.heap.size + 2) (by simp))
  have q1 : ∀ w, (binOp .eql 24 (.agg (wv B)) (.agg #[.int .u64 0, .int .u64 0, .int .u64 0, .int .u64 0, .int .u64 0, .int .u64 0])).run Try.prog w = .ok (.bool (decide (B = 0))) w := fun w => by
    rw [← wv_zero]
    exact run_eql_wv Try.underlying24 Try.underlying22 (by kernel_rfl) B 0 hB W384_pos w
  by_cases hbad : B = 0 ∨ n < 0 ∨ 384 < n
  · obtain ⟨e1, e2, e3⟩ := digE_bad (A := A) hbad
    have E1 := Lib.hid e1
    have E2 := Lib.hid e2
    have E3 := Lib.hid e3
    clear e1 e2 e3 hA hB
    rw [wv_zero] at hs3
    by_cases h0 : B = 0
    · rw [decide_eq_true h0] at q1
      clear hbad h0
      go_enter Try.func27, Try.ntmps27
      go_wp2_with (refine wpList_load_wv rfl 24 _ rfl (w.heap.size + 1) rfl 24 B _ (hs3.out.all 1 _ rfl) Try.underlying24 rfl (by kernel_rfl) ?_)
      refine bodyPost_ret (results_ctt rfl _ _ (w.heap.size + 2) 24 _ _ rfl (hs3.out.all 0 _ rfl) Try.underlying24 rfl (by kernel_rfl)) rfl ?_
      exact ⟨ret3 (by rw [E2.out, wv_zero]) (vbool E3.out.symm) (vint (by rw [E1.out]; rfl)), hs3.out.le⟩
    · rw [decide_eq_false h0] at q1
      by_cases h1 : n < 0
      · clear hbad h0
        go_enter Try.func27, Try.ntmps27
        go_wp2_with (refine wpList_load_wv rfl 24 _ rfl (w.heap.size + 1) rfl 24 B _ (hs3.out.all 1 _ rfl) Try.underlying24 rfl (by kernel_rfl) ?_)
        refine bodyPost_ret (results_ctt rfl _ _ (w.heap.size + 2) 24 _ _ rfl (hs3.out.all 0 _ rfl) Try.underlying24 rfl (by kernel_rfl)) rfl ?_
        exact ⟨ret3 (by rw [E2.out, wv_zero]) (vbool E3.out.symm) (vint (by rw [E1.out]; rfl)), hs3.out.le⟩
      · have h2 : 384 < n := by omega
        have h3 : 0 ≤ n := by omega
        clear hbad h0 h1
        go_enter Try.func27, Try.ntmps27
        go_wp2_with (refine wpList_load_wv rfl 24 _ rfl (w.heap.size + 1) rfl 24 B _ (hs3.out.all 1 _ rfl) Try.underlying24 rfl (by kernel_rfl) ?_)
        refine bodyPost_ret (results_ctt rfl _ _ (w.heap.size + 2) 24 _ _ rfl (hs3.out.all 0 _ rfl) Try.underlying24 rfl (by kernel_rfl)) rfl ?_
        exact ⟨ret3 (by rw [E2.out, wv_zero]) (vbool E3.out.symm) (vint (by rw [E1.out]; rfl)), hs3.out.le⟩
  · have h0 : B ≠ 0 := fun h => hbad (.inl h)
    obtain ⟨c, rfl⟩ := Int.eq_ofNat_of_zero_le (by omega : 0 ≤ n)
    have hc : c ≤ 384 := by omega
    have hc0 : (0 : Int) ≤ (c : Int) := by omega
    have hc1 : (c : Int) ≤ 384 := by omega
    rw [decide_eq_false h0] at q1
    have hcl : clamp (c : Int) 384 = c := by rw [clamp_of _ _ hc0 (by omega)]; omega
    have hm2 := @leftW_lt A c
    clear hbad
    by_cases hlo : W384 ≤ A * 2 ^ c
    · obtain ⟨e1, e2, e3⟩ := digE_long h0 hc hlo
      have E1 := Lib.hid e1
      have E2 := Lib.hid e2
      have E3 := Lib.hid e3
      have C1 : Hid (∀ W, Calls Try.prog 53 #[.agg (wv (A)), .int .i64 (c : Nat)] W fun e w' => e = .returned (.tuple #[.agg (wv (leftW A c)), .bool true]) ∧ Below W.heap.size W w') := Lib.hid fun W => by have := rleft2_c A c W hA; rwa [hcl, decide_eq_true hlo] at this
      clear e1 e2 e3 hA hB h0 hc hcl hm2 hlo
      obtain ⟨x, hx⟩ : ∃ x, leftW A c = x := ⟨_, rfl⟩
      rw [hx] at C1
      clear hx
      have hs3' : Hid (Ds [(w.heap.size + 2, wv 0, 24), (w.heap.size + 1, wv B, 24), (w.heap.size, wv A, 24)] w (((w.alloc (.cells (wv A) 24)).alloc (.cells (wv B) 24)).alloc (.cells #[.int .u64 0, .int .u64 0, .int .u64 0, .int .u64 0, .int .u64 0, .int .u64 0] 24))) := Lib.hid (by have := hs3.out; rw [wv_zero] at this ⊢; exact this)
      clear hs3
      go_enter Try.func27, Try.ntmps27
      have g1_0 : Blk (((w.alloc (.cells (wv A) 24)).alloc (.cells (wv B) 24)).alloc (.cells #[.int .u64 0, .int .u64 0, .int .u64 0, .int .u64 0, .int .u64 0, .int .u64 0] 24)) (w.heap.size + 2) (wv (0)) 24 := hs3'.out.all 0 _ rfl
      have g1_1 : Blk (((w.alloc (.cells (wv A) 24)).alloc (.cells (wv B) 24)).alloc (.cells #[.int .u64 0, .int .u64 0, .int .u64 0, .int .u64 0, .int .u64 0, .int .u64 0] 24)) (w.heap.size + 1) (wv (B)) 24 := hs3'.out.all 1 _ rfl
      have g1_2 : Blk (((w.alloc (.cells (wv A) 24)).alloc (.cells (wv B) 24)).alloc (.cells #[.int .u64 0, .int .u64 0, .int .u64 0, .int .u64 0, .int .u64 0, .int .u64 0] 24)) (w.heap.size) (wv (A)) 24 := hs3'.out.all 2 _ rfl
      go_wp2_with (first
        | (refine wpList_load_wv rfl 24 _ rfl _ rfl 24 _ _ (by with_reducible assumption) Try.underlying24 rfl (by kernel_rfl) ?_)
        | (refine wpList_load_wv_g rfl 24 _ rfl _ rfl 24 _ _ (by with_reducible assumption) Try.underlying24 rfl (by kernel_rfl) ?_)
        | (go_at_call 53; (with_reducible refine (C1.out _).mono ?_); rintro e wc207 ⟨rfl, bc207⟩; clear C1; have H308 : Hid (Ds [(w.heap.size + 2, wv (0), 24), (w.heap.size + 1, wv (B), 24), (w.heap.size, wv (A), 24)] w wc207) := Lib.hid (hs3'.out.call bc207); clear g1_0 g1_1 g1_2 bc207 hs3'; have g2_0 : Blk wc207 (w.heap.size + 2) (wv (0)) 24 := H308.out.all 0 _ rfl; have g2_1 : Blk wc207 (w.heap.size + 1) (wv (B)) 24 := H308.out.all 1 _ rfl; have g2_2 : Blk wc207 (w.heap.size) (wv (A)) 24 := H308.out.all 2 _ rfl)
        | (refine wpList_store_wv rfl 24 _ _ rfl (wc207.heap.size) (x) rfl rfl 24 0 (Blk.zeroAt _ _ rfl) (by kernel_rfl) ?_; have H309 : Hid (Ds [(wc207.heap.size, wv (x), 24), (w.heap.size + 2, wv (0), 24), (w.heap.size + 1, wv (B), 24), (w.heap.size, wv (A), 24)] w ((wc207.alloc (.cells #[.int .u64 0, .int .u64 0, .int .u64 0, .int .u64 0, .int .u64 0, .int .u64 0] 24)).setRow wc207.heap.size (wv (x)))) := Lib.hid ((H308.out.box #[.int .u64 0, .int .u64 0, .int .u64 0, .int .u64 0, .int .u64 0, .int .u64 0] 24 _ rfl).setRow 0 (wv (x)) _ _ _ rfl); clear g2_0 g2_1 g2_2 H308; have g3_0 : Blk ((wc207.alloc (.cells #[.int .u64 0, .int .u64 0, .int .u64 0, .int .u64 0, .int .u64 0, .int .u64 0] 24)).setRow wc207.heap.size (wv (x))) (wc207.heap.size) (wv (x)) 24 := H309.out.all 0 _ rfl; have g3_1 : Blk ((wc207.alloc (.cells #[.int .u64 0, .int .u64 0, .int .u64 0, .int .u64 0, .int .u64 0, .int .u64 0] 24)).setRow wc207.heap.size (wv (x))) (w.heap.size + 2) (wv (0)) 24 := H309.out.all 1 _ rfl; have g3_2 : Blk ((wc207.alloc (.cells #[.int .u64 0, .int .u64 0, .int .u64 0, .int .u64 0, .int .u64 0, .int .u64 0] 24)).setRow wc207.heap.size (wv (x))) (w.heap.size + 1) (wv (B)) 24 := H309.out.all 2 _ rfl; have g3_3 : Blk ((wc207.alloc (.cells #[.int .u64 0, .int .u64 0, .int .u64 0, .int .u64 0, .int .u64 0, .int .u64 0] 24)).setRow wc207.heap.size (wv (x))) (w.heap.size) (wv (A)) 24 := H309.out.all 3 _ rfl)
        | (refine wpList_store_blk rfl 24 _ _ rfl (w.heap.size + 2) #[.int .u64 0, .int .u64 0, .int .u64 0, .int .u64 0, .int .u64 0, .int .u64 0] rfl rfl 24 (wv (0)) (by with_reducible assumption) (by kernel_rfl) (wv_size _) zeros_one' ?_; have H310 : Hid (Ds [(wc207.heap.size, wv (x), 24), (w.heap.size + 2, wv (0), 24), (w.heap.size + 1, wv (B), 24), (w.heap.size, wv (A), 24)] w (((wc207.alloc (.cells #[.int .u64 0, .int .u64 0, .int .u64 0, .int .u64 0, .int .u64 0, .int .u64 0] 24)).setRow wc207.heap.size (wv (x))).setRow (w.heap.size + 2) #[.int .u64 0, .int .u64 0, .int .u64 0, .int .u64 0, .int .u64 0, .int .u64 0])) := Lib.hid (H309.out.zeroRow 1 _ _ _ rfl); clear g3_0 g3_1 g3_2 g3_3 H309; have g4_0 : Blk (((wc207.alloc (.cells #[.int .u64 0, .int .u64 0, .int .u64 0, .int .u64 0, .int .u64 0, .int .u64 0] 24)).setRow wc207.heap.size (wv (x))).setRow (w.heap.size + 2) #[.int .u64 0, .int .u64 0, .int .u64 0, .int .u64 0, .int .u64 0, .int .u64 0]) (wc207.heap.size) (wv (x)) 24 := H310.out.all 0 _ rfl; have g4_1 : Blk (((wc207.alloc (.cells #[.int .u64 0, .int .u64 0, .int .u64 0, .int .u64 0, .int .u64 0, .int .u64 0] 24)).setRow wc207.heap.size (wv (x))).setRow (w.heap.size + 2) #[.int .u64 0, .int .u64 0, .int .u64 0, .int .u64 0, .int .u64 0, .int .u64 0]) (w.heap.size + 2) (wv (0)) 24 := H310.out.all 1 _ rfl; have g4_2 : Blk (((wc207.alloc (.cells #[.int .u64 0, .int .u64 0, .int .u64 0, .int .u64 0, .int .u64 0, .int .u64 0] 24)).setRow wc207.heap.size (wv (x))).setRow (w.heap.size + 2) #[.int .u64 0, .int .u64 0, .int .u64 0, .int .u64 0, .int .u64 0, .int .u64 0]) (w.heap.size + 1) (wv (B)) 24 := H310.out.all 2 _ rfl; have g4_3 : Blk (((wc207.alloc (.cells #[.int .u64 0, .int .u64 0, .int .u64 0, .int .u64 0, .int .u64 0, .int .u64 0] 24)).setRow wc207.heap.size (wv (x))).setRow (w.heap.size + 2) #[.int .u64 0, .int .u64 0, .int .u64 0, .int .u64 0, .int .u64 0, .int .u64 0]) (w.heap.size) (wv (A)) 24 := H310.out.all 3 _ rfl))
      refine bodyPost_ret (results_ctt rfl _ _ (w.heap.size + 2) 24 _ _ rfl (H310.out.all 1 _ rfl) Try.underlying24 rfl (by rw [wv_size]; kernel_rfl)) rfl ?_
      exact ⟨ret3 (by rw [E2.out]) (vbool E3.out.symm) (vint (by rw [E1.out]; rfl)), H310.out.le⟩
    · obtain ⟨e1, e2, e3⟩ := digE_ok h0 hc hlo
      have hx : leftW A c = A * 2 ^ c := Nat.mod_eq_of_lt (Nat.lt_of_not_le hlo)
      rw [← hx] at e2 e3
      obtain ⟨x, hxx⟩ : ∃ x, leftW A c = x := ⟨_, rfl⟩
      rw [hxx] at e2 e3 hm2
      have E1 := Lib.hid e1
      have E2 := Lib.hid e2
      have E3 := Lib.hid e3
      have C1 : Hid (∀ W, Calls Try.prog 53 #[.agg (wv (A)), .int .i64 (c : Nat)] W fun e w' => e = .returned (.tuple #[.agg (wv x), .bool false]) ∧ Below W.heap.size W w') := Lib.hid fun W => by have := rleft2_c A c W hA; rwa [hcl, decide_eq_false hlo, hxx] at this
      have C2 : Hid (∀ W, Calls Try.prog 18 #[.agg (wv (x)), .agg (wv (B))] W fun e w' => e = .returned (.tuple #[.agg (wv (x / B)), .agg (wv (x % B)), .int .i64 0]) ∧ Below W.heap.size W w') := Lib.hid fun W => by have := rdiv3_c x B W hm2 hB; rwa [show divR x B = x % B from if_neg h0, show divE B = 0 from if_neg h0] at this
      obtain ⟨q, hq⟩ : ∃ q, x / B = q := ⟨_, rfl⟩
      obtain ⟨r, hr⟩ : ∃ r, x % B = r := ⟨_, rfl⟩
      rw [hq, hr] at C2
      rw [hr] at E3
      rw [hq] at E2
      have hrW : r < W384 := by rw [← hr]; exact Nat.lt_trans (Nat.mod_lt _ (Nat.pos_of_ne_zero h0)) hB
      have q2 : ∀ w, (binOp .neq 24 (.agg (wv r)) (.agg #[.int .u64 0, .int .u64 0, .int .u64 0, .int .u64 0, .int .u64 0, .int .u64 0])).run Try.prog w = .ok (.bool (!decide (r = 0))) w := fun w => by
        rw [← wv_zero]
        exact run_neq_wv Try.underlying24 Try.underlying22 (by kernel_rfl) r 0 hrW W384_pos w
      clear e1 e2 e3 hA hB h0 hc hcl hm2 hlo hx hxx hq hr hrW
      have hs3' : Hid (Ds [(w.heap.size + 2, wv 0, 24), (w.heap.size + 1, wv B, 24), (w.heap.size, wv A, 24)] w (((w.alloc (.cells (wv A) 24)).alloc (.cells (wv B) 24)).alloc (.cells #[.int .u64 0, .int .u64 0, .int .u64 0, .int .u64 0, .int .u64 0, .int .u64 0] 24))) := Lib.hid (by have := hs3.out; rw [wv_zero] at this ⊢; exact this)
      clear hs3
      go_enter Try.func27, Try.ntmps27
      have g1_0 : Blk (((w.alloc (.cells (wv A) 24)).alloc (.cells (wv B) 24)).alloc (.cells #[.int .u64 0, .int .u64 0, .int .u64 0, .int .u64 0, .int .u64 0, .int .u64 0] 24)) (w.heap.size + 2) (wv (0)) 24 := hs3'.out.all 0 _ rfl
      have g1_1 : Blk (((w.alloc (.cells (wv A) 24)).alloc (.cells (wv B) 24)).alloc (.cells #[.int .u64 0, .int .u64 0, .int .u64 0, .int .u64 0, .int .u64 0, .int .u64 0] 24)) (w.heap.size + 1) (wv (B)) 24 := hs3'.out.all 1 _ rfl
      have g1_2 : Blk (((w.alloc (.cells (wv A) 24)).alloc (.cells (wv B) 24)).alloc (.cells #[.int .u64 0, .int .u64 0, .int .u64 0, .int .u64 0, .int .u64 0, .int .u64 0] 24)) (w.heap.size) (wv (A)) 24 := hs3'.out.all 2 _ rfl
      go_wp2_with (first
        | (refine wpList_load_wv rfl 24 _ rfl _ rfl 24 _ _ (by with_reducible assumption) Try.underlying24 rfl (by kernel_rfl) ?_)
        | (refine wpList_load_wv_g rfl 24 _ rfl _ rfl 24 _ _ (by with_reducible assumption) Try.underlying24 rfl (by kernel_rfl) ?_)
        | (go_at_call 53; (with_reducible refine (C1.out _).mono ?_); rintro e wc211 ⟨rfl, bc211⟩; clear C1; have H312 : Hid (Ds [(w.heap.size + 2, wv (0), 24), (w.heap.size + 1, wv (B), 24), (w.heap.size, wv (A), 24)] w wc211) := Lib.hid (hs3'.out.call bc211); clear g1_0 g1_1 g1_2 bc211 hs3'; have g2_0 : Blk wc211 (w.heap.size + 2) (wv (0)) 24 := H312.out.all 0 _ rfl; have g2_1 : Blk wc211 (w.heap.size + 1) (wv (B)) 24 := H312.out.all 1 _ rfl; have g2_2 : Blk wc211 (w.heap.size) (wv (A)) 24 := H312.out.all 2 _ rfl)
        | (refine wpList_store_wv rfl 24 _ _ rfl (wc211.heap.size) (x) rfl rfl 24 0 (Blk.zeroAt _ _ rfl) (by kernel_rfl) ?_; have H313 : Hid (Ds [(wc211.heap.size, wv (x), 24), (w.heap.size + 2, wv (0), 24), (w.heap.size + 1, wv (B), 24), (w.heap.size, wv (A), 24)] w ((wc211.alloc (.cells #[.int .u64 0, .int .u64 0, .int .u64 0, .int .u64 0, .int .u64 0, .int .u64 0] 24)).setRow wc211.heap.size (wv (x)))) := Lib.hid ((H312.out.box #[.int .u64 0, .int .u64 0, .int .u64 0, .int .u64 0, .int .u64 0, .int .u64 0] 24 _ rfl).setRow 0 (wv (x)) _ _ _ rfl); clear g2_0 g2_1 g2_2 H312; have g3_0 : Blk ((wc211.alloc (.cells #[.int .u64 0, .int .u64 0, .int .u64 0, .int .u64 0, .int .u64 0, .int .u64 0] 24)).setRow wc211.heap.size (wv (x))) (wc211.heap.size) (wv (x)) 24 := H313.out.all 0 _ rfl; have g3_1 : Blk ((wc211.alloc (.cells #[.int .u64 0, .int .u64 0, .int .u64 0, .int .u64 0, .int .u64 0, .int .u64 0] 24)).setRow wc211.heap.size (wv (x))) (w.heap.size + 2) (wv (0)) 24 := H313.out.all 1 _ rfl; have g3_2 : Blk ((wc211.alloc (.cells #[.int .u64 0, .int .u64 0, .int .u64 0, .int .u64 0, .int .u64 0, .int .u64 0] 24)).setRow wc211.heap.size (wv (x))) (w.heap.size + 1) (wv (B)) 24 := H313.out.all 2 _ rfl; have g3_3 : Blk ((wc211.alloc (.cells #[.int .u64 0, .int .u64 0, .int .u64 0, .int .u64 0, .int .u64 0, .int .u64 0] 24)).setRow wc211.heap.size (wv (x))) (w.heap.size) (wv (A)) 24 := H313.out.all 3 _ rfl)
        | (go_at_call 18; (with_reducible refine (C2.out _).mono ?_); rintro e wc214 ⟨rfl, bc214⟩; clear C2; have H315 : Hid (Ds [(wc211.heap.size, wv (x), 24), (w.heap.size + 2, wv (0), 24), (w.heap.size + 1, wv (B), 24), (w.heap.size, wv (A), 24)] w wc214) := Lib.hid (H313.out.call bc214); clear g3_0 g3_1 g3_2 g3_3 bc214 H313; have g4_0 : Blk wc214 (wc211.heap.size) (wv (x)) 24 := H315.out.all 0 _ rfl; have g4_1 : Blk wc214 (w.heap.size + 2) (wv (0)) 24 := H315.out.all 1 _ rfl; have g4_2 : Blk wc214 (w.heap.size + 1) (wv (B)) 24 := H315.out.all 2 _ rfl; have g4_3 : Blk wc214 (w.heap.size) (wv (A)) 24 := H315.out.all 3 _ rfl; have H316 : Hid (Ds [(wc214.heap.size, wv (0), 24), (wc211.heap.size, wv (x), 24), (w.heap.size + 2, wv (0), 24), (w.heap.size + 1, wv (B), 24), (w.heap.size, wv (A), 24)] w (wc214.alloc (.cells #[.int .u64 0, .int .u64 0, .int .u64 0, .int .u64 0, .int .u64 0, .int .u64 0] 24))) := Lib.hid (H315.out.zero 24 _ rfl); have g5_0 : Blk (wc214.alloc (.cells #[.int .u64 0, .int .u64 0, .int .u64 0, .int .u64 0, .int .u64 0, .int .u64 0] 24)) (wc214.heap.size) (wv (0)) 24 := H316.out.all 0 _ rfl; have g5_1 : Blk (wc214.alloc (.cells #[.int .u64 0, .int .u64 0, .int .u64 0, .int .u64 0, .int .u64 0, .int .u64 0] 24)) (wc211.heap.size) (wv (x)) 24 := H316.out.all 1 _ rfl; have g5_2 : Blk (wc214.alloc (.cells #[.int .u64 0, .int .u64 0, .int .u64 0, .int .u64 0, .int .u64 0, .int .u64 0] 24)) (w.heap.size + 2) (wv (0)) 24 := H316.out.all 2 _ rfl; have g5_3 : Blk (wc214.alloc (.cells #[.int .u64 0, .int .u64 0, .int .u64 0, .int .u64 0, .int .u64 0, .int .u64 0] 24)) (w.heap.size + 1) (wv (B)) 24 := H316.out.all 3 _ rfl; have g5_4 : Blk (wc214.alloc (.cells #[.int .u64 0, .int .u64 0, .int .u64 0, .int .u64 0, .int .u64 0, .int .u64 0] 24)) (w.heap.size) (wv (A)) 24 := H316.out.all 4 _ rfl; have H317 : Hid (Ds [(wc214.heap.size + 1, wv (0), 24), (wc214.heap.size, wv (0), 24), (wc211.heap.size, wv (x), 24), (w.heap.size + 2, wv (0), 24), (w.heap.size + 1, wv (B), 24), (w.heap.size, wv (A), 24)] w ((wc214.alloc (.cells #[.int .u64 0, .int .u64 0, .int .u64 0, .int .u64 0, .int .u64 0, .int .u64 0] 24)).alloc (.cells #[.int .u64 0, .int .u64 0, .int .u64 0, .int .u64 0, .int .u64 0, .int .u64 0] 24))) := Lib.hid (H316.out.zero 24 _ (by simp)); have g6_0 : Blk ((wc214.alloc (.cells #[.int .u64 0, .int .u64 0, .int .u64 0, .int .u64 0, .int .u64 0, .int .u64 0] 24)).alloc (.cells #[.int .u64 0, .int .u64 0, .int .u64 0, .int .u64 0, .int .u64 0, .int .u64 0] 24)) (wc214.heap.size + 1) (wv (0)) 24 := H317.out.all 0 _ rfl; have g6_1 : Blk ((wc214.alloc (.cells #[.int .u64 0, .int .u64 0, .int .u64 0, .int .u64 0, .int .u64 0, .int .u64 0] 24)).alloc (.cells #[.int .u64 0, .int .u64 0, .int .u64 0, .int .u64 0, .int .u64 0, .int .u64 0] 24)) (wc214.heap.size) (wv (0)) 24 := H317.out.all 1 _ rfl; have g6_2 : Blk ((wc214.alloc (.cells #[.int .u64 0, .int .u64 0, .int .u64 0, .int .u64 0, .int .u64 0, .int .u64 0] 24)).alloc (.cells #[.int .u64 0, .int .u64 0, .int .u64 0, .int .u64 0, .int .u64 0, .int .u64 0] 24)) (wc211.heap.size) (wv (x)) 24 := H317.out.all 2 _ rfl; have g6_3 : Blk ((wc214.alloc (.cells #[.int .u64 0, .int .u64 0, .int .u64 0, .int .u64 0, .int .u64 0, .int .u64 0] 24)).alloc (.cells #[.int .u64 0, .int .u64 0, .int .u64 0, .int .u64 0, .int .u64 0, .int .u64 0] 24)) (w.heap.size + 2) (wv (0)) 24 := H317.out.all 3 _ rfl; have g6_4 : Blk ((wc214.alloc (.cells #[.int .u64 0, .int .u64 0, .int .u64 0, .int .u64 0, .int .u64 0, .int .u64 0] 24)).alloc (.cells #[.int .u64 0, .int .u64 0, .int .u64 0, .int .u64 0, .int .u64 0, .int .u64 0] 24)) (w.heap.size + 1) (wv (B)) 24 := H317.out.all 4 _ rfl; have g6_5 : Blk ((wc214.alloc (.cells #[.int .u64 0, .int .u64 0, .int .u64 0, .int .u64 0, .int .u64 0, .int .u64 0] 24)).alloc (.cells #[.int .u64 0, .int .u64 0, .int .u64 0, .int .u64 0, .int .u64 0, .int .u64 0] 24)) (w.heap.size) (wv (A)) 24 := H317.out.all 5 _ rfl)
        | (refine wpList_store_wv rfl 24 _ _ rfl (wc214.heap.size) (q) rfl rfl 24 (0) (by with_reducible assumption) (by kernel_rfl) ?_; have H318 : Hid (Ds [(wc214.heap.size + 1, wv (0), 24), (wc214.heap.size, wv (q), 24), (wc211.heap.size, wv (x), 24), (w.heap.size + 2, wv (0), 24), (w.heap.size + 1, wv (B), 24), (w.heap.size, wv (A), 24)] w (((wc214.alloc (.cells #[.int .u64 0, .int .u64 0, .int .u64 0, .int .u64 0, .int .u64 0, .int .u64 0] 24)).alloc (.cells #[.int .u64 0, .int .u64 0, .int .u64 0, .int .u64 0, .int .u64 0, .int .u64 0] 24)).setRow (wc214.heap.size) (wv (q)))) := Lib.hid (H317.out.setRow 1 (wv (q)) _ _ _ rfl); clear g4_0 g4_1 g4_2 g4_3 g5_0 g5_1 g5_2 g5_3 g5_4 g6_0 g6_1 g6_2 g6_3 g6_4 g6_5 H317; have g7_0 : Blk (((wc214.alloc (.cells #[.int .u64 0, .int .u64 0, .int .u64 0, .int .u64 0, .int .u64 0, .int .u64 0] 24)).alloc (.cells #[.int .u64 0, .int .u64 0, .int .u64 0, .int .u64 0, .int .u64 0, .int .u64 0] 24)).setRow (wc214.heap.size) (wv (q))) (wc214.heap.size + 1) (wv (0)) 24 := H318.out.all 0 _ rfl; have g7_1 : Blk (((wc214.alloc (.cells #[.int .u64 0, .int .u64 0, .int .u64 0, .int .u64 0, .int .u64 0, .int .u64 0] 24)).alloc (.cells #[.int .u64 0, .int .u64 0, .int .u64 0, .int .u64 0, .int .u64 0, .int .u64 0] 24)).setRow (wc214.heap.size) (wv (q))) (wc214.heap.size) (wv (q)) 24 := H318.out.all 1 _ rfl; have g7_2 : Blk (((wc214.alloc (.cells #[.int .u64 0, .int .u64 0, .int .u64 0, .int .u64 0, .int .u64 0, .int .u64 0] 24)).alloc (.cells #[.int .u64 0, .int .u64 0, .int .u64 0, .int .u64 0, .int .u64 0, .int .u64 0] 24)).setRow (wc214.heap.size) (wv (q))) (wc211.heap.size) (wv (x)) 24 := H318.out.all 2 _ rfl; have g7_3 : Blk (((wc214.alloc (.cells #[.int .u64 0, .int .u64 0, .int .u64 0, .int .u64 0, .int .u64 0, .int .u64 0] 24)).alloc (.cells #[.int .u64 0, .int .u64 0, .int .u64 0, .int .u64 0, .int .u64 0, .int .u64 0] 24)).setRow (wc214.heap.size) (wv (q))) (w.heap.size + 2) (wv (0)) 24 := H318.out.all 3 _ rfl; have g7_4 : Blk (((wc214.alloc (.cells #[.int .u64 0, .int .u64 0, .int .u64 0, .int .u64 0, .int .u64 0, .int .u64 0] 24)).alloc (.cells #[.int .u64 0, .int .u64 0, .int .u64 0, .int .u64 0, .int .u64 0, .int .u64 0] 24)).setRow (wc214.heap.size) (wv (q))) (w.heap.size + 1) (wv (B)) 24 := H318.out.all 4 _ rfl; have g7_5 : Blk (((wc214.alloc (.cells #[.int .u64 0, .int .u64 0, .int .u64 0, .int .u64 0, .int .u64 0, .int .u64 0] 24)).alloc (.cells #[.int .u64 0, .int .u64 0, .int .u64 0, .int .u64 0, .int .u64 0, .int .u64 0] 24)).setRow (wc214.heap.size) (wv (q))) (w.heap.size) (wv (A)) 24 := H318.out.all 5 _ rfl)
        | (refine wpList_store_wv rfl 24 _ _ rfl (wc214.heap.size + 1) (r) rfl rfl 24 (0) (by with_reducible assumption) (by kernel_rfl) ?_; have H319 : Hid (Ds [(wc214.heap.size + 1, wv (r), 24), (wc214.heap.size, wv (q), 24), (wc211.heap.size, wv (x), 24), (w.heap.size + 2, wv (0), 24), (w.heap.size + 1, wv (B), 24), (w.heap.size, wv (A), 24)] w ((((wc214.alloc (.cells #[.int .u64 0, .int .u64 0, .int .u64 0, .int .u64 0, .int .u64 0, .int .u64 0] 24)).alloc (.cells #[.int .u64 0, .int .u64 0, .int .u64 0, .int .u64 0, .int .u64 0, .int .u64 0] 24)).setRow (wc214.heap.size) (wv (q))).setRow (wc214.heap.size + 1) (wv (r)))) := Lib.hid (H318.out.setRow 0 (wv (r)) _ _ _ rfl); clear g7_0 g7_1 g7_2 g7_3 g7_4 g7_5 H318; have g8_0 : Blk ((((wc214.alloc (.cells #[.int .u64 0, .int .u64 0, .int .u64 0, .int .u64 0, .int .u64 0, .int .u64 0] 24)).alloc (.cells #[.int .u64 0, .int .u64 0, .int .u64 0, .int .u64 0, .int .u64 0, .int .u64 0] 24)).setRow (wc214.heap.size) (wv (q))).setRow (wc214.heap.size + 1) (wv (r))) (wc214.heap.size + 1) (wv (r)) 24 := H319.out.all 0 _ rfl; have g8_1 : Blk ((((wc214.alloc (.cells #[.int .u64 0, .int .u64 0, .int .u64 0, .int .u64 0, .int .u64 0, .int .u64 0] 24)).alloc (.cells #[.int .u64 0, .int .u64 0, .int .u64 0, .int .u64 0, .int .u64 0, .int .u64 0] 24)).setRow (wc214.heap.size) (wv (q))).setRow (wc214.heap.size + 1) (wv (r))) (wc214.heap.size) (wv (q)) 24 := H319.out.all 1 _ rfl; have g8_2 : Blk ((((wc214.alloc (.cells #[.int .u64 0, .int .u64 0, .int .u64 0, .int .u64 0, .int .u64 0, .int .u64 0] 24)).alloc (.cells #[.int .u64 0, .int .u64 0, .int .u64 0, .int .u64 0, .int .u64 0, .int .u64 0] 24)).setRow (wc214.heap.size) (wv (q))).setRow (wc214.heap.size + 1) (wv (r))) (wc211.heap.size) (wv (x)) 24 := H319.out.all 2 _ rfl; have g8_3 : Blk ((((wc214.alloc (.cells #[.int .u64 0, .int .u64 0, .int .u64 0, .int .u64 0, .int .u64 0, .int .u64 0] 24)).alloc (.cells #[.int .u64 0, .int .u64 0, .int .u64 0, .int .u64 0, .int .u64 0, .int .u64 0] 24)).setRow (wc214.heap.size) (wv (q))).setRow (wc214.heap.size + 1) (wv (r))) (w.heap.size + 2) (wv (0)) 24 := H319.out.all 3 _ rfl; have g8_4 : Blk ((((wc214.alloc (.cells #[.int .u64 0, .int .u64 0, .int .u64 0, .int .u64 0, .int .u64 0, .int .u64 0] 24)).alloc (.cells #[.int .u64 0, .int .u64 0, .int .u64 0, .int .u64 0, .int .u64 0, .int .u64 0] 24)).setRow (wc214.heap.size) (wv (q))).setRow (wc214.heap.size + 1) (wv (r))) (w.heap.size + 1) (wv (B)) 24 := H319.out.all 4 _ rfl; have g8_5 : Blk ((((wc214.alloc (.cells #[.int .u64 0, .int .u64 0, .int .u64 0, .int .u64 0, .int .u64 0, .int .u64 0] 24)).alloc (.cells #[.int .u64 0, .int .u64 0, .int .u64 0, .int .u64 0, .int .u64 0, .int .u64 0] 24)).setRow (wc214.heap.size) (wv (q))).setRow (wc214.heap.size + 1) (wv (r))) (w.heap.size) (wv (A)) 24 := H319.out.all 5 _ rfl))
      try simp only [Act.put]
      refine wp_region_sets_lit (fun S w' => Ds [(wc214.heap.size + 1, wv (r), 24), (wc214.heap.size, wv (q), 24), (wc211.heap.size, wv (x), 24), (w.heap.size + 2, wv (bif S 4 then q else 0), 24), (w.heap.size + 1, wv (B), 24), (w.heap.size, wv (A), 24)] w w') (by kernel_rfl) (by kernel_rfl) (H319.out.drew) ?_
      obtain ⟨U, W, hW, hU⟩ := worlds (fun S w' => Ds [(wc214.heap.size + 1, wv (r), 24), (wc214.heap.size, wv (q), 24), (wc211.heap.size, wv (x), 24), (w.heap.size + 2, wv (bif S 4 then q else 0), 24), (w.heap.size + 1, wv (B), 24), (w.heap.size, wv (A), 24)] w w')
      replace hW := Lib.hid hW
      replace hU := Lib.hid hU
      repeat (refine sets_quiet (fun w' => ∃ u, w' = W u) hU.out rfl (fun _ _ _ h => h) rfl ?_; intro K hK; go_big_quiet_op; first | go_big_quiet_on | (refine ⟨_, fun _ => rfl, ?_⟩; go_big_quiet_on))
      refine sets_load_blk rfl (fun _ _ _ h => h) 24 _ rfl (wc214.heap.size) rfl 24 (wv q) _ (fun S w' _ h3 => h3.all 1 _ rfl) Try.underlying24 rfl (by first | (rw [wv_size]; kernel_rfl) | kernel_rfl) ?_
      simp only [Act.put, List.setIfInBounds_toArray, List.set_cons_succ, List.set_cons_zero]
      repeat (refine sets_quiet (fun w' => ∃ u, w' = W u) hU.out rfl (fun _ _ _ h => h) rfl ?_; intro K hK; go_big_quiet_op; first | go_big_quiet_on | (refine ⟨_, fun _ => rfl, ?_⟩; go_big_quiet_on))
      refine sets_load_blk rfl (fun _ _ _ h => h) 24 _ rfl (wc214.heap.size + 1) rfl 24 (wv r) _ (fun S w' _ h3 => h3.all 0 _ rfl) Try.underlying24 rfl (by first | (rw [wv_size]; kernel_rfl) | kernel_rfl) ?_
      simp only [Act.put, List.setIfInBounds_toArray, List.set_cons_succ, List.set_cons_zero]
      repeat (refine sets_quiet (fun w' => ∃ u, w' = W u) hU.out rfl (fun _ _ _ h => h) rfl ?_; intro K hK; go_big_quiet_op; first | go_big_quiet_on | (refine ⟨_, fun _ => rfl, ?_⟩; go_big_quiet_on))
      refine sets_store_blk rfl 24 _ _ rfl rfl (w.heap.size + 2) (wv q) rfl rfl 24 (by first | (rw [wv_size]; kernel_rfl) | kernel_rfl) (wv_one _) (fun S w' h1 hcl h2 h3 => ?_) ?_
      · refine ⟨⟨_, h3.all 3 _ rfl, by rw [wv_size, wv_size]⟩, ?_⟩
        exact h3.setRow 3 (wv q) _ _ _ rfl
      · skip
        repeat (refine sets_quiet (fun w' => ∃ u, w' = W u) hU.out rfl (fun _ _ _ h => h) rfl ?_; intro K hK; go_big_quiet_op; first | go_big_quiet_on | (refine ⟨_, fun _ => rfl, ?_⟩; go_big_quiet_on))
        intro S w' hS hI
        rw [show S 4 = true from hS 4 (by decide), cond_true] at hI
        clear hW hU
        go_wp2
        refine bodyPost_ret (results_ctt rfl _ _ (w.heap.size + 2) 24 _ _ rfl (hI.all 3 _ rfl) Try.underlying24 rfl (by rw [wv_size]; kernel_rfl)) rfl ?_
        exact ⟨ret3 (by rw [E2.out]) (vbool E3.out.symm) (vint (by rw [E1.out]; rfl)), hI.le⟩
end Go.Proofs.Ytlpgflmjpdhpnaa
