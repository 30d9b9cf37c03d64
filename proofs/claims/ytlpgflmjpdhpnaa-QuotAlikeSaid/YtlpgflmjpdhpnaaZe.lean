/- The contract of quot.Digits. -/
import Derived.Test.YtlpgflmjpdhpnaaRows
import Derived.Test.YtlpgflmjpdhpnaaG
import Derived.Test.YtlpgflmjpdhpnaaC
import Derived.Test.YtlpgflmjpdhpnaaXj
import Derived.Test.YtlpgflmjpdhpnaaZa
namespace Go.Proofs.Ytlpgflmjpdhpnaa
open Go.RowKit
set_option maxHeartbeats 4000000
set_option maxRecDepth 100000
set_option linter.unusedVariables false
set_option linter.unusedSimpArgs false
set_option exponentiation.threshold 1000
def digE (A B : Nat) (n : Int) : Nat := if B = 0 ∨ n < 0 ∨ 384 < n then 2 else if W384 ≤ A * 2 ^ n.toNat then 4 else 0
def digQ (A B : Nat) (n : Int) : Nat := if digE A B n = 0 then A * 2 ^ n.toNat / B else 0
def digM (A B : Nat) (n : Int) : Bool := decide (digE A B n = 0) && !decide (A * 2 ^ n.toNat % B = 0)
theorem digE_bad {A B : Nat} {n : Int} (h : B = 0 ∨ n < 0 ∨ 384 < n) : digE A B n = 2 ∧ digQ A B n = 0 ∧ digM A B n = false := by
  have e : digE A B n = 2 := if_pos h
  exact ⟨e, by unfold digQ; rw [e, if_neg (by decide)], by unfold digM; rw [e]; rfl⟩
theorem digE_long {A B n : Nat} (h : B ≠ 0) (hn : n ≤ 384) (hl : W384 ≤ A * 2 ^ n) : digE A B n = 4 ∧ digQ A B n = 0 ∧ digM A B n = false := by
  have e : digE A B n = 4 := by unfold digE; rw [if_neg (by omega), Int.toNat_natCast, if_pos hl]
  exact ⟨e, by unfold digQ; rw [e, if_neg (by decide)], by unfold digM; rw [e]; rfl⟩
theorem digE_ok {A B n : Nat} (h : B ≠ 0) (hn : n ≤ 384) (hl : ¬ W384 ≤ A * 2 ^ n) : digE A B n = 0 ∧ digQ A B n = A * 2 ^ n / B ∧ digM A B n = !decide (A * 2 ^ n % B = 0) := by
  have e : digE A B n = 0 := by unfold digE; rw [if_neg (by omega), Int.toNat_natCast, if_neg hl]
  exact ⟨e, by unfold digQ; rw [if_pos e, Int.toNat_natCast], by unfold digM; rw [e, Int.toNat_natCast]; rfl⟩
theorem digQ_lt (A B : Nat) (n : Int) : digQ A B n < W384 := by
  unfold digQ
  split
  · rename_i h
    refine Nat.lt_of_le_of_lt (Nat.div_le_self _ _) ?_
    unfold digE at h
    split at h
    · cases h
    · split at h
      · cases h
      · rename_i h2; exact Nat.lt_of_not_le h2
  · exact W384_pos
theorem qdigits_c (A B : Nat) (n : Int) (w : World) (hA : A < W384) (hB : B < W384) : Calls Try.prog 26 #[.agg (wv A), .agg (wv B), .int .i64 n] w fun e w' => e = .returned (.tuple #[.agg (wv (digQ A B n)), .bool (digM A B n), .int .i64 (digE A B n : Nat)]) ∧ Below w.heap.size w w' := by
  have hm : Try.prog.eqGuardType Try.prog.depth 24 = false := by kernel_rfl
  have hs3 : Hid (Ds [(w.heap.size + 2, wv 0, 24), (w.heap.size + 1, wv B, 24), (w.heap.size, wv A, 24)] w (((w.alloc (.cells (wv A) 24)).alloc (.cells (wv B) 24)).alloc (.cells (wv 0) 24))) :=
    Lib.hid ((((Ds.nil w).box (wv A) 24 w.heap.size rfl).box (wv B) 24 (w.heap.size + 1) (by simp)).box (wv 0) 24 (w.heap.size + 2) (by simp))
  have q1 : ∀ w, (binOp .eql 24 (.agg (wv B)) (.agg #[.int .u64 0, .int .u64 0, .int .u64 0, .int .u64 0, .int .u64 0, .int .u64 0])).run Try.prog w = .ok (.bool (decide (B = 0))) w := fun w => by
    rw [← wv_zero]
    exact run_eql_wv Try.underlying24 Try.underlying22 (by kernel_rfl) B 0 hB W384_pos w
  by_cases hbad : B = 0 ∨ n < 0 ∨ 384 < n
  · obtain ⟨e1, e2, e3⟩ := digE_bad (A := A) hbad
    have E1 := Lib.hid e1
    have E2 := Lib.hid e2
    have E3 := Lib.hid e3
    clear e1 e2 e3 hA hB
    rw [wv_zero] at hs3
    by_cases h0 : B = 0
    · rw [decide_eq_true h0] at q1
      clear hbad h0
      go_enter Try.func26, Try.ntmps26
      go_wp2_with (refine wpList_load_wv rfl 24 _ rfl (w.heap.size + 1) rfl 24 B _ (hs3.out.all 1 _ rfl) Try.underlying24 rfl (by kernel_rfl) ?_)
      refine bodyPost_ret (results_ctt rfl _ _ (w.heap.size + 2) 24 _ _ rfl (hs3.out.all 0 _ rfl) Try.underlying24 rfl (by kernel_rfl)) rfl ?_
      exact ⟨ret3 (by rw [E2.out, wv_zero]) (vbool E3.out.symm) (vint (by rw [E1.out]; rfl)), hs3.out.le⟩
    · rw [decide_eq_false h0] at q1
      by_cases h1 : n < 0
      · clear hbad h0
        go_enter Try.func26, Try.ntmps26
        go_wp2_with (refine wpList_load_wv rfl 24 _ rfl (w.heap.size + 1) rfl 24 B _ (hs3.out.all 1 _ rfl) Try.underlying24 rfl (by kernel_rfl) ?_)
        refine bodyPost_ret (results_ctt rfl _ _ (w.heap.size + 2) 24 _ _ rfl (hs3.out.all 0 _ rfl) Try.underlying24 rfl (by kernel_rfl)) rfl ?_
        exact ⟨ret3 (by rw [E2.out, wv_zero]) (vbool E3.out.symm) (vint (by rw [E1.out]; rfl)), hs3.out.le⟩
      · have h2 : 384 < n := by omega
        have h3 : 0 ≤ n := by omega
        clear hbad h0 h1
        go_enter Try.func26, Try.ntmps26
        go_wp2_with (refine wpList_load_wv rfl 24 _ rfl (w.heap.size + 1) rfl 24 B _ (hs3.out.all 1 _ rfl) Try.underlying24 rfl (by kernel_rfl) ?_)
        refine bodyPost_ret (results_ctt rfl _ _ (w.heap.size + 2) 24 _ _ rfl (hs3.out.all 0 _ rfl) Try.underlying24 rfl (by kernel_rfl)) rfl ?_
        exact ⟨ret3 (by rw [E2.out, wv_zero]) (vbool E3.out.symm) (vint (by rw [E1.out]; rfl)), hs3.out.le⟩
  · have h0 : B ≠ 0 := fun h => hbad (.inl h)
    obtain ⟨c, rfl⟩ := Int.eq_ofNat_of_zero_le (by omega : 0 ≤ n)
    have hc : c ≤ 384 := by omega
    have hc0 : (0 : Int) ≤ (c : Int) := by omega
    have hc1 : (c : Int) ≤ 384 := by omega
    rw [decide_eq_false h0] at q1
    have hcl : clamp (c : Int) 384 = c := by rw [clamp_of _ _ hc0 (by omega)]; omega
    have hm2 := @leftW_lt A c
    clear hbad
    by_cases hlo : W384 ≤ A * 2 ^ c
    · obtain ⟨e1, e2, e3⟩ := digE_long h0 hc hlo
      have E1 := Lib.hid e1
      have E2 := Lib.hid e2
      have E3 := Lib.hid e3
      have C1 : Hid (∀ W, Calls Try.prog 47 #[.agg (wv (A)), .int .i64 (c : Nat)] W fun e w' => e = .returned (.tuple #[.agg (wv (leftW A c)), .bool true]) ∧ Below W.heap.size W w') := Lib.hid fun W => by have := wleft_c A c W hA; rwa [hcl, decide_eq_true hlo] at this
      clear e1 e2 e3 hA hB h0 hc hcl hm2 hlo
      obtain ⟨x, hx⟩ : ∃ x, leftW A c = x := ⟨_, rfl⟩
      rw [hx] at C1
      clear hx
      have hs3' : Hid (Ds [(w.heap.size + 2, wv 0, 24), (w.heap.size + 1, wv B, 24), (w.heap.size, wv A, 24)] w (((w.alloc (.cells (wv A) 24)).alloc (.cells (wv B) 24)).alloc (.cells #[.int .u64 0, .int .u64 0, .int .u64 0, .int .u64 0, .int .u64 0, .int .u64 0] 24))) := Lib.hid (by have := hs3.out; rw [wv_zero] at this ⊢; exact this)
      clear hs3
      go_enter Try.func26, Try.ntmps26
      have g1_0 : Blk (((w.alloc (.cells (wv A) 24)).alloc (.cells (wv B) 24)).alloc (.cells #[.int .u64 0, .int .u64 0, .int .u64 0, .int .u64 0, .int .u64 0, .int .u64 0] 24)) (w.heap.size + 2) (wv (0)) 24 := hs3'.out.all 0 _ rfl
      have g1_1 : Blk (((w.alloc (.cells (wv A) 24)).alloc (.cells (wv B) 24)).alloc (.cells #[.int .u64 0, .int .u64 0, .int .u64 0, .int .u64 0, .int .u64 0, .int .u64 0] 24)) (w.heap.size + 1) (wv (B)) 24 := hs3'.out.all 1 _ rfl
      have g1_2 : Blk (((w.alloc (.cells (wv A) 24)).alloc (.cells (wv B) 24)).alloc (.cells #[.int .u64 0, .int .u64 0, .int .u64 0, .int .u64 0, .int .u64 0, .int .u64 0] 24)) (w.heap.size) (wv (A)) 24 := hs3'.out.all 2 _ rfl
      go_wp2_with (first
        | (refine wpList_load_wv rfl 24 _ rfl _ rfl 24 _ _ (by with_reducible assumption) Try.underlying24 rfl (by kernel_rfl) ?_)
        | (refine wpList_load_wv_g rfl 24 _ rfl _ rfl 24 _ _ (by with_reducible assumption) Try.underlying24 rfl (by kernel_rfl) ?_)
        | (go_at_call 47; (with_reducible refine (C1.out _).mono ?_); rintro e wc195 ⟨rfl, bc195⟩; clear C1; have H296 : Hid (Ds [(w.heap.size + 2, wv (0), 24), (w.heap.size + 1, wv (B), 24), (w.heap.size, wv (A), 24)] w wc195) := Lib.hid (hs3'.out.call bc195); clear g1_0 g1_1 g1_2 bc195 hs3'; have g2_0 : Blk wc195 (w.heap.size + 2) (wv (0)) 24 := H296.out.all 0 _ rfl; have g2_1 : Blk wc195 (w.heap.size + 1) (wv (B)) 24 := H296.out.all 1 _ rfl; have g2_2 : Blk wc195 (w.heap.size) (wv (A)) 24 := H296.out.all 2 _ rfl)
        | (refine wpList_store_wv rfl 24 _ _ rfl (wc195.heap.size) (x) rfl rfl 24 0 (Blk.zeroAt _ _ rfl) (by kernel_rfl) ?_; have H297 : Hid (Ds [(wc195.heap.size, wv (x), 24), (w.heap.size + 2, wv (0), 24), (w.heap.size + 1, wv (B), 24), (w.heap.size, wv (A), 24)] w ((wc195.alloc (.cells #[.int .u64 0, .int .u64 0, .int .u64 0, .int .u64 0, .int .u64 0, .int .u64 0] 24)).setRow wc195.heap.size (wv (x)))) := Lib.hid ((H296.out.box #[.int .u64 0, .int .u64 0, .int .u64 0, .int .u64 0, .int .u64 0, .int .u64 0] 24 _ rfl).setRow 0 (wv (x)) _ _ _ rfl); clear g2_0 g2_1 g2_2 H296; have g3_0 : Blk ((wc195.alloc (.cells #[.int .u64 0, .int .u64 0, .int .u64 0, .int .u64 0, .int .u64 0, .int .u64 0] 24)).setRow wc195.heap.size (wv (x))) (wc195.heap.size) (wv (x)) 24 := H297.out.all 0 _ rfl; have g3_1 : Blk ((wc195.alloc (.cells #[.int .u64 0, .int .u64 0, .int .u64 0, .int .u64 0, .int .u64 0, .int .u64 0] 24)).setRow wc195.heap.size (wv (x))) (w.heap.size + 2) (wv (0)) 24 := H297.out.all 1 _ rfl; have g3_2 : Blk ((wc195.alloc (.cells #[.int .u64 0, .int .u64 0, .int .u64 0, .int .u64 0, .int .u64 0, .int .u64 0] 24)).setRow wc195.heap.size (wv (x))) (w.heap.size + 1) (wv (B)) 24 := H297.out.all 2 _ rfl; have g3_3 : Blk ((wc195.alloc (.cells #[.int .u64 0, .int .u64 0, .int .u64 0, .int .u64 0, .int .u64 0, .int .u64 0] 24)).setRow wc195.heap.size (wv (x))) (w.heap.size) (wv (A)) 24 := H297.out.all 3 _ rfl)
        | (refine wpList_store_blk rfl 24 _ _ rfl (w.heap.size + 2) #[.int .u64 0, .int .u64 0, .int .u64 0, .int .u64 0, .int .u64 0, .int .u64 0] rfl rfl 24 (wv (0)) (by with_reducible assumption) (by kernel_rfl) (wv_size _) zeros_one' ?_; have H298 : Hid (Ds [(wc195.heap.size, wv (x), 24), (w.heap.size + 2, wv (0), 24), (w.heap.size + 1, wv (B), 24), (w.heap.size, wv (A), 24)] w (((wc195.alloc (.cells #[.int .u64 0, .int .u64 0, .int .u64 0, .int .u64 0, .int .u64 0, .int .u64 0] 24)).setRow wc195.heap.size (wv (x))).setRow (w.heap.size + 2) #[.int .u64 0, .int .u64 0, .int .u64 0, .int .u64 0, .int .u64 0, .int .u64 0])) := Lib.hid (H297.out.zeroRow 1 _ _ _ rfl); clear g3_0 g3_1 g3_2 g3_3 H297; have g4_0 : Blk (((wc195.alloc (.cells #[.int .u64 0, .int .u64 0, .int .u64 0, .int .u64 0, .int .u64 0, .int .u64 0] 24)).setRow wc195.heap.size (wv (x))).setRow (w.heap.size + 2) #[.int .u64 0, .int .u64 0, .int .u64 0, .int .u64 0, .int .u64 0, .int .u64 0]) (wc195.heap.size) (wv (x)) 24 := H298.out.all 0 _ rfl; have g4_1 : Blk (((wc195.alloc (.cells #[.int .u64 0, .int .u64 0, .int .u64 0, .int .u64 0, .int .u64 0, .int .u64 0] 24)).setRow wc195.heap.size (wv (x))).setRow (w.heap.size + 2) #[.int .u64 0, .int .u64 0, .int .u64 0, .int .u64 0, .int .u64 0, .int .u64 0]) (w.heap.size + 2) (wv (0)) 24 := H298.out.all 1 _ rfl; have g4_2 : Blk (((wc195.alloc (.cells #[.int .u64 0, .int .u64 0, .int .u64 0, .int .u64 0, .int .u64 0, .int .u64 0] 24)).setRow wc195.heap.size (wv (x))).setRow (w.heap.size + 2) #[.int .u64 0, .int .u64 0, .int .u64 0, .int .u64 0, .int .u64 0, .int .u64 0]) (w.heap.size + 1) (wv (B)) 24 := H298.out.all 2 _ rfl; have g4_3 : Blk (((wc195.alloc (.cells #[.int .u64 0, .int .u64 0, .int .u64 0, .int .u64 0, .int .u64 0, .int .u64 0] 24)).setRow wc195.heap.size (wv (x))).setRow (w.heap.size + 2) #[.int .u64 0, .int .u64 0, .int .u64 0, .int .u64 0, .int .u64 0, .int .u64 0]) (w.heap.size) (wv (A)) 24 := H298.out.all 3 _ rfl))
      refine bodyPost_ret (results_ctt rfl _ _ (w.heap.size + 2) 24 _ _ rfl (H298.out.all 1 _ rfl) Try.underlying24 rfl (by rw [wv_size]; kernel_rfl)) rfl ?_
      exact ⟨ret3 (by rw [E2.out]) (vbool E3.out.symm) (vint (by rw [E1.out]; rfl)), H298.out.le⟩
    · obtain ⟨e1, e2, e3⟩ := digE_ok h0 hc hlo
      have hx : leftW A c = A * 2 ^ c := Nat.mod_eq_of_lt (Nat.lt_of_not_le hlo)
      rw [← hx] at e2 e3
      obtain ⟨x, hxx⟩ : ∃ x, leftW A c = x := ⟨_, rfl⟩
      rw [hxx] at e2 e3 hm2
      have E1 := Lib.hid e1
      have E2 := Lib.hid e2
      have E3 := Lib.hid e3
      have C1 : Hid (∀ W, Calls Try.prog 47 #[.agg (wv (A)), .int .i64 (c : Nat)] W fun e w' => e = .returned (.tuple #[.agg (wv x), .bool false]) ∧ Below W.heap.size W w') := Lib.hid fun W => by have := wleft_c A c W hA; rwa [hcl, decide_eq_false hlo, hxx] at this
      have C2 : Hid (∀ W, Calls Try.prog 17 #[.agg (wv (x)), .agg (wv (B))] W fun e w' => e = .returned (.tuple #[.agg (wv (x / B)), .agg (wv (x % B)), .int .i64 0]) ∧ Below W.heap.size W w') := Lib.hid fun W => by have := qdiv_c x B W hm2 hB; rwa [show divR x B = x % B from if_neg h0, show divE B = 0 from if_neg h0] at this
      obtain ⟨q, hq⟩ : ∃ q, x / B = q := ⟨_, rfl⟩
      obtain ⟨r, hr⟩ : ∃ r, x % B = r := ⟨_, rfl⟩
      rw [hq, hr] at C2
      rw [hr] at E3
      rw [hq] at E2
      have hrW : r < W384 := by rw [← hr]; exact Nat.lt_trans (Nat.mod_lt _ (Nat.pos_of_ne_zero h0)) hB
      have q2 : ∀ w, (binOp .neq 24 (.agg (wv r)) (.agg #[.int .u64 0, .int .u64 0, .int .u64 0, .int .u64 0, .int .u64 0, .int .u64 0])).run Try.prog w = .ok (.bool (!decide (r = 0))) w := fun w => by
        rw [← wv_zero]
        exact run_neq_wv Try.underlying24 Try.underlying22 (by kernel_rfl) r 0 hrW W384_pos w
      clear e1 e2 e3 hA hB h0 hc hcl hm2 hlo hx hxx hq hr hrW
      have hs3' : Hid (Ds [(w.heap.size + 2, wv 0, 24), (w.heap.size + 1, wv B, 24), (w.heap.size, wv A, 24)] w (((w.alloc (.cells (wv A) 24)).alloc (.cells (wv B) 24)).alloc (.cells #[.int .u64 0, .int .u64 0, .int .u64 0, .int .u64 0, .int .u64 0, .int .u64 0] 24))) := Lib.hid (by have := hs3.out; rw [wv_zero] at this ⊢; exact this)
      clear hs3
      go_enter Try.func26, Try.ntmps26
      have g1_0 : Blk (((w.alloc (.cells (wv A) 24)).alloc (.cells (wv B) 24)).alloc (.cells #[.int .u64 0, .int .u64 0, .int .u64 0, .int .u64 0, .int .u64 0, .int .u64 0] 24)) (w.heap.size + 2) (wv (0)) 24 := hs3'.out.all 0 _ rfl
      have g1_1 : Blk (((w.alloc (.cells (wv A) 24)).alloc (.cells (wv B) 24)).alloc (.cells #[.int .u64 0, .int .u64 0, .int .u64 0, .int .u64 0, .int .u64 0, .int .u64 0] 24)) (w.heap.size + 1) (wv (B)) 24 := hs3'.out.all 1 _ rfl
      have g1_2 : Blk (((w.alloc (.cells (wv A) 24)).alloc (.cells (wv B) 24)).alloc (.cells #[.int .u64 0, .int .u64 0, .int .u64 0, .int .u64 0, .int .u64 0, .int .u64 0] 24)) (w.heap.size) (wv (A)) 24 := hs3'.out.all 2 _ rfl
      go_wp2_with (first
        | (refine wpList_load_wv rfl 24 _ rfl _ rfl 24 _ _ (by with_reducible assumption) Try.underlying24 rfl (by kernel_rfl) ?_)
        | (refine wpList_load_wv_g rfl 24 _ rfl _ rfl 24 _ _ (by with_reducible assumption) Try.underlying24 rfl (by kernel_rfl) ?_)
        | (go_at_call 47; (with_reducible refine (C1.out _).mono ?_); rintro e wc199 ⟨rfl, bc199⟩; clear C1; have H300 : Hid (Ds [(w.heap.size + 2, wv (0), 24), (w.heap.size + 1, wv (B), 24), (w.heap.size, wv (A), 24)] w wc199) := Lib.hid (hs3'.out.call bc199); clear g1_0 g1_1 g1_2 bc199 hs3'; have g2_0 : Blk wc199 (w.heap.size + 2) (wv (0)) 24 := H300.out.all 0 _ rfl; have g2_1 : Blk wc199 (w.heap.size + 1) (wv (B)) 24 := H300.out.all 1 _ rfl; have g2_2 : Blk wc199 (w.heap.size) (wv (A)) 24 := H300.out.all 2 _ rfl)
        | (refine wpList_store_wv rfl 24 _ _ rfl (wc199.heap.size) (x) rfl rfl 24 0 (Blk.zeroAt _ _ rfl) (by kernel_rfl) ?_; have H301 : Hid (Ds [(wc199.heap.size, wv (x), 24), (w.heap.size + 2, wv (0), 24), (w.heap.size + 1, wv (B), 24), (w.heap.size, wv (A), 24)] w ((wc199.alloc (.cells #[.int .u64 0, .int .u64 0, .int .u64 0, .int .u64 0, .int .u64 0, .int .u64 0] 24)).setRow wc199.heap.size (wv (x)))) := Lib.hid ((H300.out.box #[.int .u64 0, .int .u64 0, .int .u64 0, .int .u64 0, .int .u64 0, .int .u64 0] 24 _ rfl).setRow 0 (wv (x)) _ _ _ rfl); clear g2_0 g2_1 g2_2 H300; have g3_0 : Blk ((wc199.alloc (.cells #[.int .u64 0, .int .u64 0, .int .u64 0, .int .u64 0, .int .u64 0, .int .u64 0] 24)).setRow wc199.heap.size (wv (x))) (wc199.heap.size) (wv (x)) 24 := H301.out.all 0 _ rfl; have g3_1 : Blk ((wc199.alloc (.cells #[.int .u64 0, .int .u64 0, .int .u64 0, .int .u64 0, .int .u64 0, .int .u64 0] 24)).setRow wc199.heap.size (wv (x))) (w.heap.size + 2) (wv (0)) 24 := H301.out.all 1 _ rfl; have g3_2 : Blk ((wc199.alloc (.cells #[.int .u64 0, .int .u64 0, .int .u64 0, .int .u64 0, .int .u64 0, .int .u64 0] 24)).setRow wc199.heap.size (wv (x))) (w.heap.size + 1) (wv (B)) 24 := H301.out.all 2 _ rfl; have g3_3 : Blk ((wc199.alloc (.cells #[.int .u64 0, .int .u64 0, .int .u64 0, .int .u64 0, .int .u64 0, .int .u64 0] 24)).setRow wc199.heap.size (wv (x))) (w.heap.size) (wv (A)) 24 := H301.out.all 3 _ rfl)
        | (go_at_call 17; (with_reducible refine (C2.out _).mono ?_); rintro e wc202 ⟨rfl, bc202⟩; clear C2; have H303 : Hid (Ds [(wc199.heap.size, wv (x), 24), (w.heap.size + 2, wv (0), 24), (w.heap.size + 1, wv (B), 24), (w.heap.size, wv (A), 24)] w wc202) := Lib.hid (H301.out.call bc202); clear g3_0 g3_1 g3_2 g3_3 bc202 H301; have g4_0 : Blk wc202 (wc199.heap.size) (wv (x)) 24 := H303.out.all 0 _ rfl; have g4_1 : Blk wc202 (w.heap.size + 2) (wv (0)) 24 := H303.out.all 1 _ rfl; have g4_2 : Blk wc202 (w.heap.size + 1) (wv (B)) 24 := H303.out.all 2 _ rfl; have g4_3 : Blk wc202 (w.heap.size) (wv (A)) 24 := H303.out.all 3 _ rfl; have H304 : Hid (Ds [(wc202.heap.size, wv (0), 24), (wc199.heap.size, wv (x), 24), (w.heap.size + 2, wv (0), 24), (w.heap.size + 1, wv (B), 24), (w.heap.size, wv (A), 24)] w (wc202.alloc (.cells #[.int .u64 0, .int .u64 0, .int .u64 0, .int .u64 0, .int .u64 0, .int .u64 0] 24))) := Lib.hid (H303.out.zero 24 _ rfl); have g5_0 : Blk (wc202.alloc (.cells #[.int .u64 0, .int .u64 0, .int .u64 0, .int .u64 0, .int .u64 0, .int .u64 0] 24)) (wc202.heap.size) (wv (0)) 24 := H304.out.all 0 _ rfl; have g5_1 : Blk (wc202.alloc (.cells #[.int .u64 0, .int .u64 0, .int .u64 0, .int .u64 0, .int .u64 0, .int .u64 0] 24)) (wc199.heap.size) (wv (x)) 24 := H304.out.all 1 _ rfl; have g5_2 : Blk (wc202.alloc (.cells #[.int .u64 0, .int .u64 0, .int .u64 0, .int .u64 0, .int .u64 0, .int .u64 0] 24)) (w.heap.size + 2) (wv (0)) 24 := H304.out.all 2 _ rfl; have g5_3 : Blk (wc202.alloc (.cells #[.int .u64 0, .int .u64 0, .int .u64 0, .int .u64 0, .int .u64 0, .int .u64 0] 24)) (w.heap.size + 1) (wv (B)) 24 := H304.out.all 3 _ rfl; have g5_4 : Blk (wc202.alloc (.cells #[.int .u64 0, .int .u64 0, .int .u64 0, .int .u64 0, .int .u64 0, .int .u64 0] 24)) (w.heap.size) (wv (A)) 24 := H304.out.all 4 _ rfl)
        | (refine wpList_store_wv rfl 24 _ _ rfl (w.heap.size + 2) (q) rfl rfl 24 (0) (by with_reducible assumption) (by kernel_rfl) ?_; have H305 : Hid (Ds [(wc202.heap.size, wv (0), 24), (wc199.heap.size, wv (x), 24), (w.heap.size + 2, wv (q), 24), (w.heap.size + 1, wv (B), 24), (w.heap.size, wv (A), 24)] w ((wc202.alloc (.cells #[.int .u64 0, .int .u64 0, .int .u64 0, .int .u64 0, .int .u64 0, .int .u64 0] 24)).setRow (w.heap.size + 2) (wv (q)))) := Lib.hid (H304.out.setRow 2 (wv (q)) _ _ _ rfl); clear g4_0 g4_1 g4_2 g4_3 g5_0 g5_1 g5_2 g5_3 g5_4 H304; have g6_0 : Blk ((wc202.alloc (.cells #[.int .u64 0, .int .u64 0, .int .u64 0, .int .u64 0, .int .u64 0, .int .u64 0] 24)).setRow (w.heap.size + 2) (wv (q))) (wc202.heap.size) (wv (0)) 24 := H305.out.all 0 _ rfl; have g6_1 : Blk ((wc202.alloc (.cells #[.int .u64 0, .int .u64 0, .int .u64 0, .int .u64 0, .int .u64 0, .int .u64 0] 24)).setRow (w.heap.size + 2) (wv (q))) (wc199.heap.size) (wv (x)) 24 := H305.out.all 1 _ rfl; have g6_2 : Blk ((wc202.alloc (.cells #[.int .u64 0, .int .u64 0, .int .u64 0, .int .u64 0, .int .u64 0, .int .u64 0] 24)).setRow (w.heap.size + 2) (wv (q))) (w.heap.size + 2) (wv (q)) 24 := H305.out.all 2 _ rfl; have g6_3 : Blk ((wc202.alloc (.cells #[.int .u64 0, .int .u64 0, .int .u64 0, .int .u64 0, .int .u64 0, .int .u64 0] 24)).setRow (w.heap.size + 2) (wv (q))) (w.heap.size + 1) (wv (B)) 24 := H305.out.all 3 _ rfl; have g6_4 : Blk ((wc202.alloc (.cells #[.int .u64 0, .int .u64 0, .int .u64 0, .int .u64 0, .int .u64 0, .int .u64 0] 24)).setRow (w.heap.size + 2) (wv (q))) (w.heap.size) (wv (A)) 24 := H305.out.all 4 _ rfl)
        | (refine wpList_store_wv rfl 24 _ _ rfl (wc202.heap.size) (r) rfl rfl 24 (0) (by with_reducible assumption) (by kernel_rfl) ?_; have H306 : Hid (Ds [(wc202.heap.size, wv (r), 24), (wc199.heap.size, wv (x), 24), (w.heap.size + 2, wv (q), 24), (w.heap.size + 1, wv (B), 24), (w.heap.size, wv (A), 24)] w (((wc202.alloc (.cells #[.int .u64 0, .int .u64 0, .int .u64 0, .int .u64 0, .int .u64 0, .int .u64 0] 24)).setRow (w.heap.size + 2) (wv (q))).setRow (wc202.heap.size) (wv (r)))) := Lib.hid (H305.out.setRow 0 (wv (r)) _ _ _ rfl); clear g6_0 g6_1 g6_2 g6_3 g6_4 H305; have g7_0 : Blk (((wc202.alloc (.cells #[.int .u64 0, .int .u64 0, .int .u64 0, .int .u64 0, .int .u64 0, .int .u64 0] 24)).setRow (w.heap.size + 2) (wv (q))).setRow (wc202.heap.size) (wv (r))) (wc202.heap.size) (wv (r)) 24 := H306.out.all 0 _ rfl; have g7_1 : Blk (((wc202.alloc (.cells #[.int .u64 0, .int .u64 0, .int .u64 0, .int .u64 0, .int .u64 0, .int .u64 0] 24)).setRow (w.heap.size + 2) (wv (q))).setRow (wc202.heap.size) (wv (r))) (wc199.heap.size) (wv (x)) 24 := H306.out.all 1 _ rfl; have g7_2 : Blk (((wc202.alloc (.cells #[.int .u64 0, .int .u64 0, .int .u64 0, .int .u64 0, .int .u64 0, .int .u64 0] 24)).setRow (w.heap.size + 2) (wv (q))).setRow (wc202.heap.size) (wv (r))) (w.heap.size + 2) (wv (q)) 24 := H306.out.all 2 _ rfl; have g7_3 : Blk (((wc202.alloc (.cells #[.int .u64 0, .int .u64 0, .int .u64 0, .int .u64 0, .int .u64 0, .int .u64 0] 24)).setRow (w.heap.size + 2) (wv (q))).setRow (wc202.heap.size) (wv (r))) (w.heap.size + 1) (wv (B)) 24 := H306.out.all 3 _ rfl; have g7_4 : Blk (((wc202.alloc (.cells #[.int .u64 0, .int .u64 0, .int .u64 0, .int .u64 0, .int .u64 0, .int .u64 0] 24)).setRow (w.heap.size + 2) (wv (q))).setRow (wc202.heap.size) (wv (r))) (w.heap.size) (wv (A)) 24 := H306.out.all 4 _ rfl))
      try simp only [Act.put]
      refine wp_region_sets_lit (fun S w' => Ds [(wc202.heap.size, wv (r), 24), (wc199.heap.size, wv (x), 24), (w.heap.size + 2, wv (q), 24), (w.heap.size + 1, wv (B), 24), (w.heap.size, wv (A), 24)] w w') (by kernel_rfl) (by kernel_rfl) (H306.out.drew) ?_
      obtain ⟨U, W, hW, hU⟩ := worlds (fun S w' => Ds [(wc202.heap.size, wv (r), 24), (wc199.heap.size, wv (x), 24), (w.heap.size + 2, wv (q), 24), (w.heap.size + 1, wv (B), 24), (w.heap.size, wv (A), 24)] w w')
      replace hW := Lib.hid hW
      replace hU := Lib.hid hU
      repeat (refine sets_quiet (fun w' => ∃ u, w' = W u) hU.out rfl (fun _ _ _ h => h) rfl ?_; intro K hK; go_big_quiet_op; first | go_big_quiet_on | (refine ⟨_, fun _ => rfl, ?_⟩; go_big_quiet_on))
      refine sets_load_blk rfl (fun _ _ _ h => h) 24 _ rfl (w.heap.size + 2) rfl 24 (wv q) _ (fun S w' _ h3 => h3.all 2 _ rfl) Try.underlying24 rfl (by first | (rw [wv_size]; kernel_rfl) | kernel_rfl) ?_
      simp only [Act.put, List.setIfInBounds_toArray, List.set_cons_succ, List.set_cons_zero]
      repeat (refine sets_quiet (fun w' => ∃ u, w' = W u) hU.out rfl (fun _ _ _ h => h) rfl ?_; intro K hK; go_big_quiet_op; first | go_big_quiet_on | (refine ⟨_, fun _ => rfl, ?_⟩; go_big_quiet_on))
      refine sets_load_blk rfl (fun _ _ _ h => h) 24 _ rfl (wc202.heap.size) rfl 24 (wv r) _ (fun S w' _ h3 => h3.all 0 _ rfl) Try.underlying24 rfl (by first | (rw [wv_size]; kernel_rfl) | kernel_rfl) ?_
      simp only [Act.put, List.setIfInBounds_toArray, List.set_cons_succ, List.set_cons_zero]
      repeat (refine sets_quiet (fun w' => ∃ u, w' = W u) hU.out rfl (fun _ _ _ h => h) rfl ?_; intro K hK; go_big_quiet_op; first | go_big_quiet_on | (refine ⟨_, fun _ => rfl, ?_⟩; go_big_quiet_on))
      refine sets_store_blk rfl 24 _ _ rfl rfl (w.heap.size + 2) (wv q) rfl rfl 24 (by first | (rw [wv_size]; kernel_rfl) | kernel_rfl) (wv_one _) (fun S w' h1 hcl h2 h3 => ?_) ?_
      · exact ⟨⟨_, h3.all 2 _ rfl, rfl⟩, h3.setRow 2 _ _ _ _ rfl⟩
      · skip
        repeat (refine sets_quiet (fun w' => ∃ u, w' = W u) hU.out rfl (fun _ _ _ h => h) rfl ?_; intro K hK; go_big_quiet_op; first | go_big_quiet_on | (refine ⟨_, fun _ => rfl, ?_⟩; go_big_quiet_on))
        intro S w' hS hI
        clear hW hU
        go_wp2
        refine bodyPost_ret (results_ctt rfl _ _ (w.heap.size + 2) 24 _ _ rfl (hI.all 2 _ rfl) Try.underlying24 rfl (by rw [wv_size]; kernel_rfl)) rfl ?_
        exact ⟨ret3 (by rw [E2.out]) (vbool E3.out.symm) (vint (by rw [E1.out]; rfl)), hI.le⟩
end Go.Proofs.Ytlpgflmjpdhpnaa
