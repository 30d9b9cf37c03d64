/- The walk of the law QuotAlike. -/
import Derived.Test.YtlpgflmjpdhpnaaRows
import Derived.Test.YtlpgflmjpdhpnaaG
import Derived.Test.YtlpgflmjpdhpnaaC
import Derived.Test.YtlpgflmjpdhpnaaZg
import Derived.Test.YtlpgflmjpdhpnaaXb
import Derived.Test.YtlpgflmjpdhpnaaXd
import Derived.Test.YtlpgflmjpdhpnaaZe
namespace Go.Proofs.Ytlpgflmjpdhpnaa
open Go.RowKit
set_option maxHeartbeats 4000000
set_option maxRecDepth 100000
set_option linter.unusedVariables false
set_option linter.unusedSimpArgs false
set_option exponentiation.threshold 1000
attribute [local irreducible] wv
theorem walk_QuotAlike0 (a y : Nat) (n : Int) (ha : a < 18446744073709551616) (hy : y < 4294967296) (w : World) : Calls Try.prog 13 #[.int .u64 (a : Nat), .int .u64 0, .int .u32 (y : Nat), .int .i64 n] w fun e w' => e = .returned (.bool true) ∧ Below w.heap.size w w' := by
  have hm : Try.prog.eqGuardType Try.prog.depth 24 = false := by kernel_rfl
  obtain ⟨x1, hx1⟩ : ∃ x, mulW a y = x := ⟨_, rfl⟩
  obtain ⟨x2, hx2⟩ : ∃ x, mulW 0 y = x := ⟨_, rfl⟩
  obtain ⟨o1, ho1⟩ : ∃ x, decide (W384 ≤ a * y) = x := ⟨_, rfl⟩
  obtain ⟨o2, ho2⟩ : ∃ x, decide (W384 ≤ 0 * y) = x := ⟨_, rfl⟩
  have h64 : 18446744073709551616 ≤ W384 := by rw [W384_two, B_eq]; exact Nat.pow_le_pow_right (by decide) (by decide)
  have C1 : Hid (∀ W, Calls Try.prog 30 #[.int .u64 (a : Nat)] W fun e w' => e = .returned (.agg (wv a)) ∧ Below W.heap.size W w') := Lib.hid fun W => wof_c a W (by omega)
  have C2 : Hid (∀ W, Calls Try.prog 30 #[.int .u64 (y : Nat)] W fun e w' => e = .returned (.agg (wv y)) ∧ Below W.heap.size W w') := Lib.hid fun W => wof_c y W (by omega)
  have C3 : Hid (∀ W, Calls Try.prog 14 #[.agg (wv (a)), .agg (wv (y))] W fun e w' => e = .returned (.tuple #[.agg (wv x1), .bool o1]) ∧ Below W.heap.size W w') := Lib.hid fun W => by have := wmul_c a y W (by omega) (by omega); rwa [hx1, ho1] at this
  have C4 : Hid (∀ W, Calls Try.prog 30 #[.int .u64 0] W fun e w' => e = .returned (.agg (wv 0)) ∧ Below W.heap.size W w') := Lib.hid fun W => wof_c 0 W (by decide)
  have C5 : Hid (∀ W, Calls Try.prog 30 #[.int .u64 (y : Nat)] W fun e w' => e = .returned (.agg (wv y)) ∧ Below W.heap.size W w') := Lib.hid fun W => wof_c y W (by omega)
  have C6 : Hid (∀ W, Calls Try.prog 14 #[.agg (wv (0)), .agg (wv (y))] W fun e w' => e = .returned (.tuple #[.agg (wv x2), .bool o2]) ∧ Below W.heap.size W w') := Lib.hid fun W => by have := wmul_c 0 y W (by omega) (by omega); rwa [hx2, ho2] at this
  have CA : Hid (∀ W, Calls Try.prog 19 #[] W fun e w' => e = .returned (.bool true) ∧ Below W.heap.size W w') := Lib.hid fun W => alive3_c W
  clear hx1 hx2 ho1 ho2 h64
  go_enter Try.func13, Try.ntmps13
  have HS0 := Lib.hid (Ds.nil w)
  go_wp2_with (first
    | (refine wpList_load_wv rfl 24 _ rfl _ rfl 24 _ _ (by with_reducible assumption) Try.underlying24 rfl (by kernel_rfl) ?_)
    | (refine wpList_load_wv_g rfl 24 _ rfl _ rfl 24 _ _ (by with_reducible assumption) Try.underlying24 rfl (by kernel_rfl) ?_)
    | (go_at_call 30; (with_reducible refine (C1.out _).mono ?_); rintro e wc92 ⟨rfl, bc92⟩; clear C1; have H193 : Hid (Ds [] w wc92) := Lib.hid (HS0.out.call bc92); clear bc92 HS0)
    | (go_at_call 30; (with_reducible refine (C2.out _).mono ?_); rintro e wc94 ⟨rfl, bc94⟩; clear C2; have H195 : Hid (Ds [] w wc94) := Lib.hid (H193.out.call bc94); clear bc94 H193)
    | (go_at_call 14; (with_reducible refine (C3.out _).mono ?_); rintro e wc96 ⟨rfl, bc96⟩; clear C3; have H197 : Hid (Ds [] w wc96) := Lib.hid (H195.out.call bc96); clear bc96 H195)
    | (refine wpList_store_wv rfl 24 _ _ rfl (wc96.heap.size) (x1) rfl rfl 24 0 (Blk.zeroAt _ _ rfl) (by kernel_rfl) ?_; have H198 : Hid (Ds [(wc96.heap.size, wv (x1), 24)] w ((wc96.alloc (.cells #[.int .u64 0, .int .u64 0, .int .u64 0, .int .u64 0, .int .u64 0, .int .u64 0] 24)).setRow wc96.heap.size (wv (x1)))) := Lib.hid ((H197.out.box #[.int .u64 0, .int .u64 0, .int .u64 0, .int .u64 0, .int .u64 0, .int .u64 0] 24 _ rfl).setRow 0 (wv (x1)) _ _ _ rfl); have g5_0 : Blk ((wc96.alloc (.cells #[.int .u64 0, .int .u64 0, .int .u64 0, .int .u64 0, .int .u64 0, .int .u64 0] 24)).setRow wc96.heap.size (wv (x1))) (wc96.heap.size) (wv (x1)) 24 := H198.out.all 0 _ rfl)
    | (go_at_call 30; (with_reducible refine (C4.out _).mono ?_); rintro e wc99 ⟨rfl, bc99⟩; clear C4; have H200 : Hid (Ds [(wc96.heap.size, wv (x1), 24)] w wc99) := Lib.hid (H198.out.call bc99); clear g5_0 bc99 H198; have g6_0 : Blk wc99 (wc96.heap.size) (wv (x1)) 24 := H200.out.all 0 _ rfl)
    | (go_at_call 30; (with_reducible refine (C5.out _).mono ?_); rintro e wc101 ⟨rfl, bc101⟩; clear C5; have H202 : Hid (Ds [(wc96.heap.size, wv (x1), 24)] w wc101) := Lib.hid (H200.out.call bc101); clear g6_0 bc101 H200; have g7_0 : Blk wc101 (wc96.heap.size) (wv (x1)) 24 := H202.out.all 0 _ rfl)
    | (go_at_call 14; (with_reducible refine (C6.out _).mono ?_); rintro e wc103 ⟨rfl, bc103⟩; clear C6; have H204 : Hid (Ds [(wc96.heap.size, wv (x1), 24)] w wc103) := Lib.hid (H202.out.call bc103); clear g7_0 bc103 H202; have g8_0 : Blk wc103 (wc96.heap.size) (wv (x1)) 24 := H204.out.all 0 _ rfl)
    | (refine wpList_store_wv rfl 24 _ _ rfl (wc103.heap.size) (x2) rfl rfl 24 0 (Blk.zeroAt _ _ rfl) (by kernel_rfl) ?_; have H205 : Hid (Ds [(wc103.heap.size, wv (x2), 24), (wc96.heap.size, wv (x1), 24)] w ((wc103.alloc (.cells #[.int .u64 0, .int .u64 0, .int .u64 0, .int .u64 0, .int .u64 0, .int .u64 0] 24)).setRow wc103.heap.size (wv (x2)))) := Lib.hid ((H204.out.box #[.int .u64 0, .int .u64 0, .int .u64 0, .int .u64 0, .int .u64 0, .int .u64 0] 24 _ rfl).setRow 0 (wv (x2)) _ _ _ rfl); clear g8_0 H204; have g9_0 : Blk ((wc103.alloc (.cells #[.int .u64 0, .int .u64 0, .int .u64 0, .int .u64 0, .int .u64 0, .int .u64 0] 24)).setRow wc103.heap.size (wv (x2))) (wc103.heap.size) (wv (x2)) 24 := H205.out.all 0 _ rfl; have g9_1 : Blk ((wc103.alloc (.cells #[.int .u64 0, .int .u64 0, .int .u64 0, .int .u64 0, .int .u64 0, .int .u64 0] 24)).setRow wc103.heap.size (wv (x2))) (wc96.heap.size) (wv (x1)) 24 := H205.out.all 1 _ rfl)
    | (go_at_call 19; (with_reducible refine (CA.out _).mono ?_); rintro e wc106 ⟨rfl, bc106⟩; clear CA; have H207 : Hid (Ds [(wc103.heap.size, wv (x2), 24), (wc96.heap.size, wv (x1), 24)] w wc106) := Lib.hid (H205.out.call bc106); clear g9_0 g9_1 bc106 H205; have g10_0 : Blk wc106 (wc103.heap.size) (wv (x2)) 24 := H207.out.all 0 _ rfl; have g10_1 : Blk wc106 (wc96.heap.size) (wv (x1)) 24 := H207.out.all 1 _ rfl))
  go_ret
  exact ⟨rfl, H207.out.le⟩
theorem walk_QuotAlike1 (a b : Nat) (n : Int) (ha : a < 18446744073709551616) (hb : b < 18446744073709551616) (hb0 : ((b : Nat) : Int) ≠ 0) (w : World) : Calls Try.prog 13 #[.int .u64 (a : Nat), .int .u64 (b : Nat), .int .u32 0, .int .i64 n] w fun e w' => e = .returned (.bool true) ∧ Below w.heap.size w w' := by
  have hm : Try.prog.eqGuardType Try.prog.depth 24 = false := by kernel_rfl
  obtain ⟨x1, hx1⟩ : ∃ x, mulW a 0 = x := ⟨_, rfl⟩
  obtain ⟨x2, hx2⟩ : ∃ x, mulW b 0 = x := ⟨_, rfl⟩
  obtain ⟨o1, ho1⟩ : ∃ x, decide (W384 ≤ a * 0) = x := ⟨_, rfl⟩
  obtain ⟨o2, ho2⟩ : ∃ x, decide (W384 ≤ b * 0) = x := ⟨_, rfl⟩
  have h64 : 18446744073709551616 ≤ W384 := by rw [W384_two, B_eq]; exact Nat.pow_le_pow_right (by decide) (by decide)
  have C1 : Hid (∀ W, Calls Try.prog 30 #[.int .u64 (a : Nat)] W fun e w' => e = .returned (.agg (wv a)) ∧ Below W.heap.size W w') := Lib.hid fun W => wof_c a W (by omega)
  have C2 : Hid (∀ W, Calls Try.prog 30 #[.int .u64 0] W fun e w' => e = .returned (.agg (wv 0)) ∧ Below W.heap.size W w') := Lib.hid fun W => wof_c 0 W (by decide)
  have C3 : Hid (∀ W, Calls Try.prog 14 #[.agg (wv (a)), .agg (wv (0))] W fun e w' => e = .returned (.tuple #[.agg (wv x1), .bool o1]) ∧ Below W.heap.size W w') := Lib.hid fun W => by have := wmul_c a 0 W (by omega) (by omega); rwa [hx1, ho1] at this
  have C4 : Hid (∀ W, Calls Try.prog 30 #[.int .u64 (b : Nat)] W fun e w' => e = .returned (.agg (wv b)) ∧ Below W.heap.size W w') := Lib.hid fun W => wof_c b W (by omega)
  have C5 : Hid (∀ W, Calls Try.prog 30 #[.int .u64 0] W fun e w' => e = .returned (.agg (wv 0)) ∧ Below W.heap.size W w') := Lib.hid fun W => wof_c 0 W (by decide)
  have C6 : Hid (∀ W, Calls Try.prog 14 #[.agg (wv (b)), .agg (wv (0))] W fun e w' => e = .returned (.tuple #[.agg (wv x2), .bool o2]) ∧ Below W.heap.size W w') := Lib.hid fun W => by have := wmul_c b 0 W (by omega) (by omega); rwa [hx2, ho2] at this
  have CA : Hid (∀ W, Calls Try.prog 19 #[] W fun e w' => e = .returned (.bool true) ∧ Below W.heap.size W w') := Lib.hid fun W => alive3_c W
  clear hx1 hx2 ho1 ho2 h64
  go_enter Try.func13, Try.ntmps13
  have HS0 := Lib.hid (Ds.nil w)
  go_wp2_with (first
    | (refine wpList_load_wv rfl 24 _ rfl _ rfl 24 _ _ (by with_reducible assumption) Try.underlying24 rfl (by kernel_rfl) ?_)
    | (refine wpList_load_wv_g rfl 24 _ rfl _ rfl 24 _ _ (by with_reducible assumption) Try.underlying24 rfl (by kernel_rfl) ?_)
    | (go_at_call 30; (with_reducible refine (C1.out _).mono ?_); rintro e wc108 ⟨rfl, bc108⟩; clear C1; have H209 : Hid (Ds [] w wc108) := Lib.hid (HS0.out.call bc108); clear bc108 HS0)
    | (go_at_call 30; (with_reducible refine (C2.out _).mono ?_); rintro e wc110 ⟨rfl, bc110⟩; clear C2; have H211 : Hid (Ds [] w wc110) := Lib.hid (H209.out.call bc110); clear bc110 H209)
    | (go_at_call 14; (with_reducible refine (C3.out _).mono ?_); rintro e wc112 ⟨rfl, bc112⟩; clear C3; have H213 : Hid (Ds [] w wc112) := Lib.hid (H211.out.call bc112); clear bc112 H211)
    | (refine wpList_store_wv rfl 24 _ _ rfl (wc112.heap.size) (x1) rfl rfl 24 0 (Blk.zeroAt _ _ rfl) (by kernel_rfl) ?_; have H214 : Hid (Ds [(wc112.heap.size, wv (x1), 24)] w ((wc112.alloc (.cells #[.int .u64 0, .int .u64 0, .int .u64 0, .int .u64 0, .int .u64 0, .int .u64 0] 24)).setRow wc112.heap.size (wv (x1)))) := Lib.hid ((H213.out.box #[.int .u64 0, .int .u64 0, .int .u64 0, .int .u64 0, .int .u64 0, .int .u64 0] 24 _ rfl).setRow 0 (wv (x1)) _ _ _ rfl); have g5_0 : Blk ((wc112.alloc (.cells #[.int .u64 0, .int .u64 0, .int .u64 0, .int .u64 0, .int .u64 0, .int .u64 0] 24)).setRow wc112.heap.size (wv (x1))) (wc112.heap.size) (wv (x1)) 24 := H214.out.all 0 _ rfl)
    | (go_at_call 30; (with_reducible refine (C4.out _).mono ?_); rintro e wc115 ⟨rfl, bc115⟩; clear C4; have H216 : Hid (Ds [(wc112.heap.size, wv (x1), 24)] w wc115) := Lib.hid (H214.out.call bc115); clear g5_0 bc115 H214; have g6_0 : Blk wc115 (wc112.heap.size) (wv (x1)) 24 := H216.out.all 0 _ rfl)
    | (go_at_call 30; (with_reducible refine (C5.out _).mono ?_); rintro e wc117 ⟨rfl, bc117⟩; clear C5; have H218 : Hid (Ds [(wc112.heap.size, wv (x1), 24)] w wc117) := Lib.hid (H216.out.call bc117); clear g6_0 bc117 H216; have g7_0 : Blk wc117 (wc112.heap.size) (wv (x1)) 24 := H218.out.all 0 _ rfl)
    | (go_at_call 14; (with_reducible refine (C6.out _).mono ?_); rintro e wc119 ⟨rfl, bc119⟩; clear C6; have H220 : Hid (Ds [(wc112.heap.size, wv (x1), 24)] w wc119) := Lib.hid (H218.out.call bc119); clear g7_0 bc119 H218; have g8_0 : Blk wc119 (wc112.heap.size) (wv (x1)) 24 := H220.out.all 0 _ rfl)
    | (refine wpList_store_wv rfl 24 _ _ rfl (wc119.heap.size) (x2) rfl rfl 24 0 (Blk.zeroAt _ _ rfl) (by kernel_rfl) ?_; have H221 : Hid (Ds [(wc119.heap.size, wv (x2), 24), (wc112.heap.size, wv (x1), 24)] w ((wc119.alloc (.cells #[.int .u64 0, .int .u64 0, .int .u64 0, .int .u64 0, .int .u64 0, .int .u64 0] 24)).setRow wc119.heap.size (wv (x2)))) := Lib.hid ((H220.out.box #[.int .u64 0, .int .u64 0, .int .u64 0, .int .u64 0, .int .u64 0, .int .u64 0] 24 _ rfl).setRow 0 (wv (x2)) _ _ _ rfl); clear g8_0 H220; have g9_0 : Blk ((wc119.alloc (.cells #[.int .u64 0, .int .u64 0, .int .u64 0, .int .u64 0, .int .u64 0, .int .u64 0] 24)).setRow wc119.heap.size (wv (x2))) (wc119.heap.size) (wv (x2)) 24 := H221.out.all 0 _ rfl; have g9_1 : Blk ((wc119.alloc (.cells #[.int .u64 0, .int .u64 0, .int .u64 0, .int .u64 0, .int .u64 0, .int .u64 0] 24)).setRow wc119.heap.size (wv (x2))) (wc112.heap.size) (wv (x1)) 24 := H221.out.all 1 _ rfl)
    | (go_at_call 19; (with_reducible refine (CA.out _).mono ?_); rintro e wc122 ⟨rfl, bc122⟩; clear CA; have H223 : Hid (Ds [(wc119.heap.size, wv (x2), 24), (wc112.heap.size, wv (x1), 24)] w wc122) := Lib.hid (H221.out.call bc122); clear g9_0 g9_1 bc122 H221; have g10_0 : Blk wc122 (wc119.heap.size) (wv (x2)) 24 := H223.out.all 0 _ rfl; have g10_1 : Blk wc122 (wc112.heap.size) (wv (x1)) 24 := H223.out.all 1 _ rfl))
  go_ret
  exact ⟨rfl, H223.out.le⟩
theorem walk_QuotAlike2 (a b y : Nat) (n : Int) (ha : a < 18446744073709551616) (hb : b < 18446744073709551616) (hy : y < 4294967296) (hb0 : b ≠ 0) (hy0 : y ≠ 0) (w : World) : Calls Try.prog 13 #[.int .u64 (a : Nat), .int .u64 (b : Nat), .int .u32 (y : Nat), .int .i64 n] w fun e w' => e = .returned (.bool true) ∧ Below w.heap.size w w' := by
  have hm : Try.prog.eqGuardType Try.prog.depth 24 = false := by kernel_rfl
  have h64 : 2 ^ 250 ≤ W384 := by rw [W384_two]; exact Nat.pow_le_pow_right (by decide) (by decide)
  obtain ⟨c, hc⟩ : ∃ x, (n % 128).toNat = x := ⟨_, rfl⟩
  have hcn : bits .and .i64 n 127 = (c : Int) := by
    have := and_i64 n 7 (by decide)
    rw [← hc]
    rw [show (((2 ^ 7 - 1 : Nat)) : Int) = 127 from rfl, show ((2 : Int) ^ 7) = 128 from rfl] at this
    omega
  have hc7 : c < 128 := by omega
  have hp : 2 ^ c ≤ 2 ^ 127 := Nat.pow_le_pow_right (by decide) (by omega)
  have hab : a * y < 2 ^ 96 := by
    have := Nat.mul_lt_mul_of_lt_of_lt ha (show y < 2 ^ 32 by omega)
    rwa [B_eq, ← Nat.pow_add] at this
  have hbb : b * y < 2 ^ 96 := by
    have := Nat.mul_lt_mul_of_lt_of_lt hb (show y < 2 ^ 32 by omega)
    rwa [B_eq, ← Nat.pow_add] at this
  have hs1 : a * 2 ^ c < 2 ^ 250 := by
    have h1 : a * 2 ^ c ≤ 2 ^ 64 * 2 ^ 127 := Nat.mul_le_mul (by rw [← B_eq]; omega) hp
    have h2 : (2 : Nat) ^ 64 * 2 ^ 127 < 2 ^ 250 := by rw [← Nat.pow_add]; exact Nat.pow_lt_pow_right (by decide) (by decide)
    omega
  have hs2 : a * y * 2 ^ c < 2 ^ 250 := by
    have h1 : a * y * 2 ^ c ≤ 2 ^ 96 * 2 ^ 127 := Nat.mul_le_mul (Nat.le_of_lt hab) hp
    have h2 : (2 : Nat) ^ 96 * 2 ^ 127 < 2 ^ 250 := by rw [← Nat.pow_add]; exact Nat.pow_lt_pow_right (by decide) (by decide)
    omega
  have h96 : (2 : Nat) ^ 96 ≤ 2 ^ 250 := Nat.pow_le_pow_right (by decide) (by decide)
  have h64b : 18446744073709551616 ≤ 2 ^ 250 := by rw [B_eq]; exact Nat.pow_le_pow_right (by decide) (by decide)
  have hmx : mulW a y = a * y := Nat.mod_eq_of_lt (by omega)
  have hmy : mulW b y = b * y := Nat.mod_eq_of_lt (by omega)
  have hyb : b * y ≠ 0 := Nat.mul_ne_zero hb0 hy0
  obtain ⟨e1, e2, e3⟩ := digE_ok (A := a) hb0 (by omega : c ≤ 384) (by omega)
  obtain ⟨g1, g2, g3⟩ := digE_ok (A := a * y) hyb (by omega : c ≤ 384) (by omega)
  have hq : a * y * 2 ^ c / (b * y) = a * 2 ^ c / b := by rw [Nat.mul_right_comm, Nat.mul_div_mul_right _ _ (Nat.pos_of_ne_zero hy0)]
  have hr : a * y * 2 ^ c % (b * y) = a * 2 ^ c % b * y := by rw [Nat.mul_right_comm, Nat.mul_mod_mul_right]
  have hz : (a * 2 ^ c % b * y = 0) ↔ (a * 2 ^ c % b = 0) := by rw [Nat.mul_eq_zero]; exact ⟨fun h => h.resolve_right hy0, .inl⟩
  rw [hq, ← e2] at g2
  rw [hr] at g3
  have g3' : digM (a * y) (b * y) c = digM a b c := by rw [g3, e3]; congr 1; exact decide_eq_decide.2 hz
  obtain ⟨q, hqq⟩ : ∃ x, digQ a b c = x := ⟨_, rfl⟩
  obtain ⟨m, hmm⟩ : ∃ x, digM a b c = x := ⟨_, rfl⟩
  rw [hqq] at g2
  rw [hmm] at g3'
  have lq : q < W384 := by rw [← hqq]; exact digQ_lt _ _ _
  obtain ⟨x1, hx1⟩ : ∃ x, a * y = x := ⟨_, rfl⟩
  obtain ⟨x2, hx2⟩ : ∃ x, b * y = x := ⟨_, rfl⟩
  rw [hx1] at hmx
  rw [hx2] at hmy
  rw [hx1, hx2] at g1 g2 g3'
  obtain ⟨o1, ho1⟩ : ∃ x, decide (W384 ≤ a * y) = x := ⟨_, rfl⟩
  obtain ⟨o2, ho2⟩ : ∃ x, decide (W384 ≤ b * y) = x := ⟨_, rfl⟩
  have la : a < W384 := by omega
  have lb : b < W384 := by omega
  have ly : y < W384 := by omega
  have lx1 : x1 < W384 := by omega
  have lx2 : x2 < W384 := by omega
  have hbi : ((b : Nat) : Int) ≠ 0 := by omega
  have hyi : ((y : Nat) : Int) ≠ 0 := by omega
  have hbq : (((b : Nat) : Int) == 0) = false := by rw [beq_eq_false_iff_ne]; omega
  have hyq : (((y : Nat) : Int) == 0) = false := by rw [beq_eq_false_iff_ne]; omega
  have q0 : ∀ w, (binOp .eql 24 (.agg (wv (q))) (.agg (wv (q)))).run Try.prog w = .ok (.bool true) w := fun w => by
    have := run_eql_wv Try.underlying24 Try.underlying22 (by kernel_rfl) (q) (q) (lq) (lq) w
    rwa [decide_eq_true rfl] at this
  have C1 : Hid (∀ W, Calls Try.prog 30 #[.int .u64 (a : Nat)] W fun e w' => e = .returned (.agg (wv a)) ∧ Below W.heap.size W w') := Lib.hid fun W => wof_c a W (by omega)
  have C2 : Hid (∀ W, Calls Try.prog 30 #[.int .u64 (y : Nat)] W fun e w' => e = .returned (.agg (wv y)) ∧ Below W.heap.size W w') := Lib.hid fun W => wof_c y W (by omega)
  have C3 : Hid (∀ W, Calls Try.prog 14 #[.agg (wv (a)), .agg (wv (y))] W fun e w' => e = .returned (.tuple #[.agg (wv x1), .bool o1]) ∧ Below W.heap.size W w') := Lib.hid fun W => by have := wmul_c a y W la ly; rwa [hmx, ho1] at this
  have C4 : Hid (∀ W, Calls Try.prog 30 #[.int .u64 (b : Nat)] W fun e w' => e = .returned (.agg (wv b)) ∧ Below W.heap.size W w') := Lib.hid fun W => wof_c b W (by omega)
  have C5 : Hid (∀ W, Calls Try.prog 30 #[.int .u64 (y : Nat)] W fun e w' => e = .returned (.agg (wv y)) ∧ Below W.heap.size W w') := Lib.hid fun W => wof_c y W (by omega)
  have C6 : Hid (∀ W, Calls Try.prog 14 #[.agg (wv (b)), .agg (wv (y))] W fun e w' => e = .returned (.tuple #[.agg (wv x2), .bool o2]) ∧ Below W.heap.size W w') := Lib.hid fun W => by have := wmul_c b y W lb ly; rwa [hmy, ho2] at this
  have C7 : Hid (∀ W, Calls Try.prog 30 #[.int .u64 (a : Nat)] W fun e w' => e = .returned (.agg (wv a)) ∧ Below W.heap.size W w') := Lib.hid fun W => wof_c a W (by omega)
  have C8 : Hid (∀ W, Calls Try.prog 30 #[.int .u64 (b : Nat)] W fun e w' => e = .returned (.agg (wv b)) ∧ Below W.heap.size W w') := Lib.hid fun W => wof_c b W (by omega)
  have C9 : Hid (∀ W, Calls Try.prog 26 #[.agg (wv (a)), .agg (wv (b)), .int .i64 (c : Nat)] W fun e w' => e = .returned (.tuple #[.agg (wv q), .bool m, .int .i64 0]) ∧ Below W.heap.size W w') := Lib.hid fun W => by have := qdigits_c a b c W la lb; rwa [e1, hqq, hmm] at this
  have C10 : Hid (∀ W, Calls Try.prog 26 #[.agg (wv (x1)), .agg (wv (x2)), .int .i64 (c : Nat)] W fun e w' => e = .returned (.tuple #[.agg (wv q), .bool m, .int .i64 0]) ∧ Below W.heap.size W w') := Lib.hid fun W => by have := qdigits_c x1 x2 c W lx1 lx2; rwa [g1, g2, g3'] at this
  have CA : Hid (∀ W, Calls Try.prog 19 #[] W fun e w' => e = .returned (.bool true) ∧ Below W.heap.size W w') := Lib.hid fun W => alive3_c W
  clear h64 hc hp hab hbb hs1 hs2 h96 h64b hmx hmy hyb e1 e2 e3 g1 g2 g3 g3' hq hr hz hqq hmm lq hx1 hx2 ho1 ho2 la lb ly lx1 lx2
  go_enter Try.func13, Try.ntmps13
  have HS0 := Lib.hid (Ds.nil w)
  go_wp2_with (first
    | (refine wpList_load_wv rfl 24 _ rfl _ rfl 24 _ _ (by with_reducible assumption) Try.underlying24 rfl (by kernel_rfl) ?_)
    | (refine wpList_load_wv_g rfl 24 _ rfl _ rfl 24 _ _ (by with_reducible assumption) Try.underlying24 rfl (by kernel_rfl) ?_)
    | (go_at_call 30; (with_reducible refine (C1.out _).mono ?_); rintro e wc124 ⟨rfl, bc124⟩; clear C1; have H225 : Hid (Ds [] w wc124) := Lib.hid (HS0.out.call bc124); clear bc124 HS0)
    | (go_at_call 30; (with_reducible refine (C2.out _).mono ?_); rintro e wc126 ⟨rfl, bc126⟩; clear C2; have H227 : Hid (Ds [] w wc126) := Lib.hid (H225.out.call bc126); clear bc126 H225)
    | (go_at_call 14; (with_reducible refine (C3.out _).mono ?_); rintro e wc128 ⟨rfl, bc128⟩; clear C3; have H229 : Hid (Ds [] w wc128) := Lib.hid (H227.out.call bc128); clear bc128 H227)
    | (refine wpList_store_wv rfl 24 _ _ rfl (wc128.heap.size) (x1) rfl rfl 24 0 (Blk.zeroAt _ _ rfl) (by kernel_rfl) ?_; have H230 : Hid (Ds [(wc128.heap.size, wv (x1), 24)] w ((wc128.alloc (.cells #[.int .u64 0, .int .u64 0, .int .u64 0, .int .u64 0, .int .u64 0, .int .u64 0] 24)).setRow wc128.heap.size (wv (x1)))) := Lib.hid ((H229.out.box #[.int .u64 0, .int .u64 0, .int .u64 0, .int .u64 0, .int .u64 0, .int .u64 0] 24 _ rfl).setRow 0 (wv (x1)) _ _ _ rfl); have g5_0 : Blk ((wc128.alloc (.cells #[.int .u64 0, .int .u64 0, .int .u64 0, .int .u64 0, .int .u64 0, .int .u64 0] 24)).setRow wc128.heap.size (wv (x1))) (wc128.heap.size) (wv (x1)) 24 := H230.out.all 0 _ rfl)
    | (go_at_call 30; (with_reducible refine (C4.out _).mono ?_); rintro e wc131 ⟨rfl, bc131⟩; clear C4; have H232 : Hid (Ds [(wc128.heap.size, wv (x1), 24)] w wc131) := Lib.hid (H230.out.call bc131); clear g5_0 bc131 H230; have g6_0 : Blk wc131 (wc128.heap.size) (wv (x1)) 24 := H232.out.all 0 _ rfl)
    | (go_at_call 30; (with_reducible refine (C5.out _).mono ?_); rintro e wc133 ⟨rfl, bc133⟩; clear C5; have H234 : Hid (Ds [(wc128.heap.size, wv (x1), 24)] w wc133) := Lib.hid (H232.out.call bc133); clear g6_0 bc133 H232; have g7_0 : Blk wc133 (wc128.heap.size) (wv (x1)) 24 := H234.out.all 0 _ rfl)
    | (go_at_call 14; (with_reducible refine (C6.out _).mono ?_); rintro e wc135 ⟨rfl, bc135⟩; clear C6; have H236 : Hid (Ds [(wc128.heap.size, wv (x1), 24)] w wc135) := Lib.hid (H234.out.call bc135); clear g7_0 bc135 H234; have g8_0 : Blk wc135 (wc128.heap.size) (wv (x1)) 24 := H236.out.all 0 _ rfl)
    | (refine wpList_store_wv rfl 24 _ _ rfl (wc135.heap.size) (x2) rfl rfl 24 0 (Blk.zeroAt _ _ rfl) (by kernel_rfl) ?_; have H237 : Hid (Ds [(wc135.heap.size, wv (x2), 24), (wc128.heap.size, wv (x1), 24)] w ((wc135.alloc (.cells #[.int .u64 0, .int .u64 0, .int .u64 0, .int .u64 0, .int .u64 0, .int .u64 0] 24)).setRow wc135.heap.size (wv (x2)))) := Lib.hid ((H236.out.box #[.int .u64 0, .int .u64 0, .int .u64 0, .int .u64 0, .int .u64 0, .int .u64 0] 24 _ rfl).setRow 0 (wv (x2)) _ _ _ rfl); clear g8_0 H236; have g9_0 : Blk ((wc135.alloc (.cells #[.int .u64 0, .int .u64 0, .int .u64 0, .int .u64 0, .int .u64 0, .int .u64 0] 24)).setRow wc135.heap.size (wv (x2))) (wc135.heap.size) (wv (x2)) 24 := H237.out.all 0 _ rfl; have g9_1 : Blk ((wc135.alloc (.cells #[.int .u64 0, .int .u64 0, .int .u64 0, .int .u64 0, .int .u64 0, .int .u64 0] 24)).setRow wc135.heap.size (wv (x2))) (wc128.heap.size) (wv (x1)) 24 := H237.out.all 1 _ rfl)
    | (go_at_call 30; (with_reducible refine (C7.out _).mono ?_); rintro e wc138 ⟨rfl, bc138⟩; clear C7; have H239 : Hid (Ds [(wc135.heap.size, wv (x2), 24), (wc128.heap.size, wv (x1), 24)] w wc138) := Lib.hid (H237.out.call bc138); clear g9_0 g9_1 bc138 H237; have g10_0 : Blk wc138 (wc135.heap.size) (wv (x2)) 24 := H239.out.all 0 _ rfl; have g10_1 : Blk wc138 (wc128.heap.size) (wv (x1)) 24 := H239.out.all 1 _ rfl)
    | (go_at_call 30; (with_reducible refine (C8.out _).mono ?_); rintro e wc140 ⟨rfl, bc140⟩; clear C8; have H241 : Hid (Ds [(wc135.heap.size, wv (x2), 24), (wc128.heap.size, wv (x1), 24)] w wc140) := Lib.hid (H239.out.call bc140); clear g10_0 g10_1 bc140 H239; have g11_0 : Blk wc140 (wc135.heap.size) (wv (x2)) 24 := H241.out.all 0 _ rfl; have g11_1 : Blk wc140 (wc128.heap.size) (wv (x1)) 24 := H241.out.all 1 _ rfl)
    | (go_at_call 26; (with_reducible refine (C9.out _).mono ?_); rintro e wc142 ⟨rfl, bc142⟩; clear C9; have H243 : Hid (Ds [(wc135.heap.size, wv (x2), 24), (wc128.heap.size, wv (x1), 24)] w wc142) := Lib.hid (H241.out.call bc142); clear g11_0 g11_1 bc142 H241; have g12_0 : Blk wc142 (wc135.heap.size) (wv (x2)) 24 := H243.out.all 0 _ rfl; have g12_1 : Blk wc142 (wc128.heap.size) (wv (x1)) 24 := H243.out.all 1 _ rfl)
    | (refine wpList_store_wv rfl 24 _ _ rfl (wc142.heap.size) (q) rfl rfl 24 0 (Blk.zeroAt _ _ rfl) (by kernel_rfl) ?_; have H244 : Hid (Ds [(wc142.heap.size, wv (q), 24), (wc135.heap.size, wv (x2), 24), (wc128.heap.size, wv (x1), 24)] w ((wc142.alloc (.cells #[.int .u64 0, .int .u64 0, .int .u64 0, .int .u64 0, .int .u64 0, .int .u64 0] 24)).setRow wc142.heap.size (wv (q)))) := Lib.hid ((H243.out.box #[.int .u64 0, .int .u64 0, .int .u64 0, .int .u64 0, .int .u64 0, .int .u64 0] 24 _ rfl).setRow 0 (wv (q)) _ _ _ rfl); clear g12_0 g12_1 H243; have g13_0 : Blk ((wc142.alloc (.cells #[.int .u64 0, .int .u64 0, .int .u64 0, .int .u64 0, .int .u64 0, .int .u64 0] 24)).setRow wc142.heap.size (wv (q))) (wc142.heap.size) (wv (q)) 24 := H244.out.all 0 _ rfl; have g13_1 : Blk ((wc142.alloc (.cells #[.int .u64 0, .int .u64 0, .int .u64 0, .int .u64 0, .int .u64 0, .int .u64 0] 24)).setRow wc142.heap.size (wv (q))) (wc135.heap.size) (wv (x2)) 24 := H244.out.all 1 _ rfl; have g13_2 : Blk ((wc142.alloc (.cells #[.int .u64 0, .int .u64 0, .int .u64 0, .int .u64 0, .int .u64 0, .int .u64 0] 24)).setRow wc142.heap.size (wv (q))) (wc128.heap.size) (wv (x1)) 24 := H244.out.all 2 _ rfl)
    | (go_at_call 26; (with_reducible refine (C10.out _).mono ?_); rintro e wc145 ⟨rfl, bc145⟩; clear C10; have H246 : Hid (Ds [(wc142.heap.size, wv (q), 24), (wc135.heap.size, wv (x2), 24), (wc128.heap.size, wv (x1), 24)] w wc145) := Lib.hid (H244.out.call bc145); clear g13_0 g13_1 g13_2 bc145 H244; have g14_0 : Blk wc145 (wc142.heap.size) (wv (q)) 24 := H246.out.all 0 _ rfl; have g14_1 : Blk wc145 (wc135.heap.size) (wv (x2)) 24 := H246.out.all 1 _ rfl; have g14_2 : Blk wc145 (wc128.heap.size) (wv (x1)) 24 := H246.out.all 2 _ rfl)
    | (refine wpList_store_wv rfl 24 _ _ rfl (wc145.heap.size) (q) rfl rfl 24 0 (Blk.zeroAt _ _ rfl) (by kernel_rfl) ?_; have H247 : Hid (Ds [(wc145.heap.size, wv (q), 24), (wc142.heap.size, wv (q), 24), (wc135.heap.size, wv (x2), 24), (wc128.heap.size, wv (x1), 24)] w ((wc145.alloc (.cells #[.int .u64 0, .int .u64 0, .int .u64 0, .int .u64 0, .int .u64 0, .int .u64 0] 24)).setRow wc145.heap.size (wv (q)))) := Lib.hid ((H246.out.box #[.int .u64 0, .int .u64 0, .int .u64 0, .int .u64 0, .int .u64 0, .int .u64 0] 24 _ rfl).setRow 0 (wv (q)) _ _ _ rfl); clear g14_0 g14_1 g14_2 H246; have g15_0 : Blk ((wc145.alloc (.cells #[.int .u64 0, .int .u64 0, .int .u64 0, .int .u64 0, .int .u64 0, .int .u64 0] 24)).setRow wc145.heap.size (wv (q))) (wc145.heap.size) (wv (q)) 24 := H247.out.all 0 _ rfl; have g15_1 : Blk ((wc145.alloc (.cells #[.int .u64 0, .int .u64 0, .int .u64 0, .int .u64 0, .int .u64 0, .int .u64 0] 24)).setRow wc145.heap.size (wv (q))) (wc142.heap.size) (wv (q)) 24 := H247.out.all 1 _ rfl; have g15_2 : Blk ((wc145.alloc (.cells #[.int .u64 0, .int .u64 0, .int .u64 0, .int .u64 0, .int .u64 0, .int .u64 0] 24)).setRow wc145.heap.size (wv (q))) (wc135.heap.size) (wv (x2)) 24 := H247.out.all 2 _ rfl; have g15_3 : Blk ((wc145.alloc (.cells #[.int .u64 0, .int .u64 0, .int .u64 0, .int .u64 0, .int .u64 0, .int .u64 0] 24)).setRow wc145.heap.size (wv (q))) (wc128.heap.size) (wv (x1)) 24 := H247.out.all 3 _ rfl)
    | (go_at_call 19; (with_reducible refine (CA.out _).mono ?_); rintro e wc148 ⟨rfl, bc148⟩; clear CA; have H249 : Hid (Ds [(wc145.heap.size, wv (q), 24), (wc142.heap.size, wv (q), 24), (wc135.heap.size, wv (x2), 24), (wc128.heap.size, wv (x1), 24)] w wc148) := Lib.hid (H247.out.call bc148); clear g15_0 g15_1 g15_2 g15_3 bc148 H247; have g16_0 : Blk wc148 (wc145.heap.size) (wv (q)) 24 := H249.out.all 0 _ rfl; have g16_1 : Blk wc148 (wc142.heap.size) (wv (q)) 24 := H249.out.all 1 _ rfl; have g16_2 : Blk wc148 (wc135.heap.size) (wv (x2)) 24 := H249.out.all 2 _ rfl; have g16_3 : Blk wc148 (wc128.heap.size) (wv (x1)) 24 := H249.out.all 3 _ rfl))
  go_ret
  exact ⟨rfl, H249.out.le⟩
theorem walk_QuotAlike (a b y : Nat) (n : Int) (ha : a < 18446744073709551616) (hb : b < 18446744073709551616) (hy : y < 4294967296) (w : World) : Calls Try.prog 13 #[.int .u64 (a : Nat), .int .u64 (b : Nat), .int .u32 (y : Nat), .int .i64 n] w fun e w' => e = .returned (.bool true) ∧ Below w.heap.size w w' := by
  by_cases hb0 : b = 0
  · subst hb0; exact walk_QuotAlike0 a y n ha hy w
  · by_cases hy0 : y = 0
    · subst hy0; exact walk_QuotAlike1 a b n ha hb (by omega) w
    · exact walk_QuotAlike2 a b y n ha hb hy hb0 hy0 w
end Go.Proofs.Ytlpgflmjpdhpnaa
