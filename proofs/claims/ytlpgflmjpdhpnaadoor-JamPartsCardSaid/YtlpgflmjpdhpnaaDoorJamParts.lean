/- The walk of the law JamParts. -/
import Derived.Test.YtlpgflmjpdhpnaaDoorRows
import Derived.Test.YtlpgflmjpdhpnaaDoorG
import Derived.Test.YtlpgflmjpdhpnaaDoorJc
import Derived.Test.YtlpgflmjpdhpnaaDoorJp
import Derived.Test.YtlpgflmjpdhpnaaDoorJq
import Derived.Test.YtlpgflmjpdhpnaaDoorXa
import Derived.Test.YtlpgflmjpdhpnaaDoorXg
import Derived.Test.YtlpgflmjpdhpnaaDoorXj
import Derived.Test.YtlpgflmjpdhpnaaDoorXb
namespace Go.Proofs.YtlpgflmjpdhpnaaDoor
open Go.RowKit
set_option maxHeartbeats 4000000
set_option maxRecDepth 100000
set_option linter.unusedVariables false
set_option linter.unusedSimpArgs false
set_option exponentiation.threshold 1000
set_option exponentiation.threshold 400
attribute [local irreducible] wv
theorem walk_JamParts0 (a : Nat) (n : Int) (ha : a < W384) (hk : (n % 512).toNat % 384 = 0) (w : World) (hT : Tab w) : Calls Tryd.prog 8 #[.agg (wv (a)), .int .i64 n] w fun e w' => e = .returned (.bool true) ∧ Below w.heap.size w w' := by
  have HTab := Lib.hid hT
  clear hT
  obtain ⟨p0, hp0⟩ : ∃ m : Nat, n % 512 = (m : Int) := ⟨(n % 512).toNat, by omega⟩
  obtain ⟨p, hp⟩ : ∃ m : Nat, p0 % 384 = m := ⟨_, rfl⟩
  have lp : p ≤ 383 := by omega
  have Kp0 : bits .and .i64 n 511 = (p0 : Int) := by rw [← hp0]; exact and_i64 n 9 (by decide)
  have Kp : Int.tmod (p0 : Int) 384 = (p : Int) := by rw [Int.tmod_eq_emod_of_nonneg (by omega)]; omega
  have KEp : (p0 : Int) % 384 = (p : Int) := by omega
  have bp0 : p0 ≤ 511 := by omega
  have hn : p0 = (n % 512).toNat := by omega
  rw [show (n % 512).toNat % 384 = p by omega] at hk
  have hcp : clamp (p : Int) 385 = p := by unfold clamp; omega
  have hcq : clamp (p : Int) 384 = p := by unfold clamp; omega
  obtain ⟨hsub, hund⟩ := cut_sub (c := p) ha
  have hle : a / 2 ^ p * 2 ^ p ≤ a := Nat.div_mul_le_self _ _
  have hb : leftW (a / 2 ^ p) p = a / 2 ^ p * 2 ^ p := Nat.mod_eq_of_lt (by omega)
  have hov : decide (W384 ≤ a / 2 ^ p * 2 ^ p) = false := decide_eq_false (by omega)
  have hun : decide (a < a / 2 ^ p * 2 ^ p) = false := decide_eq_false hund
  have lkept : a / 2 ^ p < W384 := Nat.lt_of_le_of_lt (Nat.div_le_self _ _) ha
  have hlen : lenW (a % 2 ^ p) ≤ p := len_mod (by omega)
  have lr : a % 2 ^ p < W384 := Nat.lt_of_le_of_lt (Nat.mod_le _ _) ha
  obtain ⟨x, hx⟩ : ∃ x, a / 2 ^ p = x := ⟨_, rfl⟩
  obtain ⟨b, hbb⟩ : ∃ b, x * 2 ^ p = b := ⟨_, rfl⟩
  rw [hx] at hsub hle hb hov hun lkept
  rw [hbb] at hsub hle hb hov hun
  have lb : b < W384 := by omega
  have hz : a % 2 ^ p = 0 := by rw [hk, Nat.pow_zero, Nat.mod_one]
  have hcut : cutH a p = -1 := by unfold cutH; rw [if_pos (Or.inl hk)]
  have KZ : ((p : Int) == 0) = true := by rw [hk]; rfl
  rw [hz] at hsub hlen lr
  obtain ⟨r, hrr⟩ : ∃ r : Nat, r = 0 := ⟨0, rfl⟩
  obtain ⟨lz, hlz⟩ : ∃ l, lenW r = l := ⟨_, rfl⟩
  rw [← hrr] at hsub hlen lr
  rw [hlz] at hlen
  have KG : ¬ ((p : Int) < (lz : Int)) := by omega
  have hm : Tryd.prog.eqGuardType Tryd.prog.depth 24 = false := by kernel_rfl
  have q0 : ∀ w, (binOp .eql 24 (.agg (wv r)) (.agg #[.int .u64 0, .int .u64 0, .int .u64 0, .int .u64 0, .int .u64 0, .int .u64 0])).run Tryd.prog w = .ok (.bool true) w := fun w => by
    rw [← wv_zero]
    have := run_eql_wv Tryd.underlying24 Tryd.underlying22 (by kernel_rfl) r 0 lr W384_pos w
    rwa [decide_eq_true hrr] at this
  have C1 : Hid (∀ W, Tab W → Calls Tryd.prog 12 #[.agg (wv (a)), .int .i64 (p : Nat)] W fun e w' => e = .returned (.tuple #[.agg (wv x), .int .i64 (-1), .bool true]) ∧ Below W.heap.size W w') := Lib.hid fun W hT => by
    have := jcut_c a p W ha hT
    rwa [hcp, hx, hcut, decide_eq_true hz] at this
  have C2 : Hid (∀ W, Calls Tryd.prog 23 #[.agg (wv (x)), .int .i64 (p : Nat)] W fun e w' => e = .returned (.tuple #[.agg (wv b), .bool false]) ∧ Below W.heap.size W w') := Lib.hid fun W => by have := wleft_c x p W lkept; rwa [hcq, hb, hbb, hov] at this
  have C3 : Hid (∀ W, Calls Tryd.prog 24 #[.agg (wv (a)), .agg (wv (b))] W fun e w' => e = .returned (.tuple #[.agg (wv r), .bool false]) ∧ Below W.heap.size W w') := Lib.hid fun W => by have := wsub_c a b W ha lb; rwa [hsub, hun] at this
  have C4 : Hid (∀ W, Calls Tryd.prog 21 #[.agg (wv (r))] W fun e w' => e = .returned (.int .i64 (lz : Nat)) ∧ Below W.heap.size W w') := Lib.hid fun W => by have := wlen_c r W lr; rwa [hlz] at this
  have CA : Hid (∀ W, Tab W → Calls Tryd.prog 14 #[] W fun e w' => e = .returned (.bool true) ∧ Below W.heap.size W w') := Lib.hid fun W hT => alive4_c W hT
  clear hp hp0 hn hk hcp hcq hsub hund hle hb hov hun lkept hx hbb lb hlz lr hrr ha hcut hz
  go_enter Tryd.func8, Tryd.ntmps8
  have HS0 := Lib.hid ((Ds.nil w).box (wv (a)) 24 (w.heap.size) rfl)
  have g1_0 : Blk (w.alloc (.cells (wv (a)) 24)) (w.heap.size) (wv (a)) 24 := HS0.out.all 0 _ rfl
  have tb1 : Tab (w.alloc (.cells (wv (a)) 24)) := HTab.out.below0 HS0.out.le
  go_wp2_with (first
    | (refine wpList_load_wv rfl 24 _ rfl _ rfl 24 _ _ (by with_reducible assumption) Tryd.underlying24 rfl (by kernel_rfl) ?_)
    | (refine wpList_load_wv_g rfl 24 _ rfl _ rfl 24 _ _ (by with_reducible assumption) Tryd.underlying24 rfl (by kernel_rfl) ?_)
    | (go_at_call 12; (with_reducible refine (C1.out _ (by with_reducible assumption)).mono ?_); rintro e wc94 ⟨rfl, bc94⟩; clear C1; have H195 : Hid (Ds [(w.heap.size, wv (a), 24)] w wc94) := Lib.hid (HS0.out.call bc94); clear g1_0 tb1 bc94 HS0; have g2_0 : Blk wc94 (w.heap.size) (wv (a)) 24 := H195.out.all 0 _ rfl; have tb2 : Tab wc94 := HTab.out.below0 H195.out.le)
    | (refine wpList_store_wv rfl 24 _ _ rfl (wc94.heap.size) (x) rfl rfl 24 0 (Blk.zeroAt _ _ rfl) (by kernel_rfl) ?_; have H196 : Hid (Ds [(wc94.heap.size, wv (x), 24), (w.heap.size, wv (a), 24)] w ((wc94.alloc (.cells #[.int .u64 0, .int .u64 0, .int .u64 0, .int .u64 0, .int .u64 0, .int .u64 0] 24)).setRow wc94.heap.size (wv (x)))) := Lib.hid ((H195.out.box #[.int .u64 0, .int .u64 0, .int .u64 0, .int .u64 0, .int .u64 0, .int .u64 0] 24 _ rfl).setRow 0 (wv (x)) _ _ _ rfl); clear g2_0 tb2 H195; have g3_0 : Blk ((wc94.alloc (.cells #[.int .u64 0, .int .u64 0, .int .u64 0, .int .u64 0, .int .u64 0, .int .u64 0] 24)).setRow wc94.heap.size (wv (x))) (wc94.heap.size) (wv (x)) 24 := H196.out.all 0 _ rfl; have g3_1 : Blk ((wc94.alloc (.cells #[.int .u64 0, .int .u64 0, .int .u64 0, .int .u64 0, .int .u64 0, .int .u64 0] 24)).setRow wc94.heap.size (wv (x))) (w.heap.size) (wv (a)) 24 := H196.out.all 1 _ rfl; have tb3 : Tab ((wc94.alloc (.cells #[.int .u64 0, .int .u64 0, .int .u64 0, .int .u64 0, .int .u64 0, .int .u64 0] 24)).setRow wc94.heap.size (wv (x))) := HTab.out.below0 H196.out.le)
    | (go_at_call 23; (with_reducible refine (C2.out _).mono ?_); rintro e wc97 ⟨rfl, bc97⟩; clear C2; have H198 : Hid (Ds [(wc94.heap.size, wv (x), 24), (w.heap.size, wv (a), 24)] w wc97) := Lib.hid (H196.out.call bc97); clear g3_0 g3_1 tb3 bc97 H196; have g4_0 : Blk wc97 (wc94.heap.size) (wv (x)) 24 := H198.out.all 0 _ rfl; have g4_1 : Blk wc97 (w.heap.size) (wv (a)) 24 := H198.out.all 1 _ rfl; have tb4 : Tab wc97 := HTab.out.below0 H198.out.le)
    | (refine wpList_store_wv rfl 24 _ _ rfl (wc97.heap.size) (b) rfl rfl 24 0 (Blk.zeroAt _ _ rfl) (by kernel_rfl) ?_; have H199 : Hid (Ds [(wc97.heap.size, wv (b), 24), (wc94.heap.size, wv (x), 24), (w.heap.size, wv (a), 24)] w ((wc97.alloc (.cells #[.int .u64 0, .int .u64 0, .int .u64 0, .int .u64 0, .int .u64 0, .int .u64 0] 24)).setRow wc97.heap.size (wv (b)))) := Lib.hid ((H198.out.box #[.int .u64 0, .int .u64 0, .int .u64 0, .int .u64 0, .int .u64 0, .int .u64 0] 24 _ rfl).setRow 0 (wv (b)) _ _ _ rfl); clear g4_0 g4_1 tb4 H198; have g5_0 : Blk ((wc97.alloc (.cells #[.int .u64 0, .int .u64 0, .int .u64 0, .int .u64 0, .int .u64 0, .int .u64 0] 24)).setRow wc97.heap.size (wv (b))) (wc97.heap.size) (wv (b)) 24 := H199.out.all 0 _ rfl; have g5_1 : Blk ((wc97.alloc (.cells #[.int .u64 0, .int .u64 0, .int .u64 0, .int .u64 0, .int .u64 0, .int .u64 0] 24)).setRow wc97.heap.size (wv (b))) (wc94.heap.size) (wv (x)) 24 := H199.out.all 1 _ rfl; have g5_2 : Blk ((wc97.alloc (.cells #[.int .u64 0, .int .u64 0, .int .u64 0, .int .u64 0, .int .u64 0, .int .u64 0] 24)).setRow wc97.heap.size (wv (b))) (w.heap.size) (wv (a)) 24 := H199.out.all 2 _ rfl; have tb5 : Tab ((wc97.alloc (.cells #[.int .u64 0, .int .u64 0, .int .u64 0, .int .u64 0, .int .u64 0, .int .u64 0] 24)).setRow wc97.heap.size (wv (b))) := HTab.out.below0 H199.out.le)
    | (go_at_call 24; (with_reducible refine (C3.out _).mono ?_); rintro e wc100 ⟨rfl, bc100⟩; clear C3; have H201 : Hid (Ds [(wc97.heap.size, wv (b), 24), (wc94.heap.size, wv (x), 24), (w.heap.size, wv (a), 24)] w wc100) := Lib.hid (H199.out.call bc100); clear g5_0 g5_1 g5_2 tb5 bc100 H199; have g6_0 : Blk wc100 (wc97.heap.size) (wv (b)) 24 := H201.out.all 0 _ rfl; have g6_1 : Blk wc100 (wc94.heap.size) (wv (x)) 24 := H201.out.all 1 _ rfl; have g6_2 : Blk wc100 (w.heap.size) (wv (a)) 24 := H201.out.all 2 _ rfl; have tb6 : Tab wc100 := HTab.out.below0 H201.out.le)
    | (refine wpList_store_wv rfl 24 _ _ rfl (wc100.heap.size) (r) rfl rfl 24 0 (Blk.zeroAt _ _ rfl) (by kernel_rfl) ?_; have H202 : Hid (Ds [(wc100.heap.size, wv (r), 24), (wc97.heap.size, wv (b), 24), (wc94.heap.size, wv (x), 24), (w.heap.size, wv (a), 24)] w ((wc100.alloc (.cells #[.int .u64 0, .int .u64 0, .int .u64 0, .int .u64 0, .int .u64 0, .int .u64 0] 24)).setRow wc100.heap.size (wv (r)))) := Lib.hid ((H201.out.box #[.int .u64 0, .int .u64 0, .int .u64 0, .int .u64 0, .int .u64 0, .int .u64 0] 24 _ rfl).setRow 0 (wv (r)) _ _ _ rfl); clear g6_0 g6_1 g6_2 tb6 H201; have g7_0 : Blk ((wc100.alloc (.cells #[.int .u64 0, .int .u64 0, .int .u64 0, .int .u64 0, .int .u64 0, .int .u64 0] 24)).setRow wc100.heap.size (wv (r))) (wc100.heap.size) (wv (r)) 24 := H202.out.all 0 _ rfl; have g7_1 : Blk ((wc100.alloc (.cells #[.int .u64 0, .int .u64 0, .int .u64 0, .int .u64 0, .int .u64 0, .int .u64 0] 24)).setRow wc100.heap.size (wv (r))) (wc97.heap.size) (wv (b)) 24 := H202.out.all 1 _ rfl; have g7_2 : Blk ((wc100.alloc (.cells #[.int .u64 0, .int .u64 0, .int .u64 0, .int .u64 0, .int .u64 0, .int .u64 0] 24)).setRow wc100.heap.size (wv (r))) (wc94.heap.size) (wv (x)) 24 := H202.out.all 2 _ rfl; have g7_3 : Blk ((wc100.alloc (.cells #[.int .u64 0, .int .u64 0, .int .u64 0, .int .u64 0, .int .u64 0, .int .u64 0] 24)).setRow wc100.heap.size (wv (r))) (w.heap.size) (wv (a)) 24 := H202.out.all 3 _ rfl; have tb7 : Tab ((wc100.alloc (.cells #[.int .u64 0, .int .u64 0, .int .u64 0, .int .u64 0, .int .u64 0, .int .u64 0] 24)).setRow wc100.heap.size (wv (r))) := HTab.out.below0 H202.out.le)
    | (go_at_call 21; (with_reducible refine (C4.out _).mono ?_); rintro e wc103 ⟨rfl, bc103⟩; clear C4; have H204 : Hid (Ds [(wc100.heap.size, wv (r), 24), (wc97.heap.size, wv (b), 24), (wc94.heap.size, wv (x), 24), (w.heap.size, wv (a), 24)] w wc103) := Lib.hid (H202.out.call bc103); clear g7_0 g7_1 g7_2 g7_3 tb7 bc103 H202; have g8_0 : Blk wc103 (wc100.heap.size) (wv (r)) 24 := H204.out.all 0 _ rfl; have g8_1 : Blk wc103 (wc97.heap.size) (wv (b)) 24 := H204.out.all 1 _ rfl; have g8_2 : Blk wc103 (wc94.heap.size) (wv (x)) 24 := H204.out.all 2 _ rfl; have g8_3 : Blk wc103 (w.heap.size) (wv (a)) 24 := H204.out.all 3 _ rfl; have tb8 : Tab wc103 := HTab.out.below0 H204.out.le)
    | (go_at_call 14; (with_reducible refine (CA.out _ (by with_reducible assumption)).mono ?_); rintro e wc105 ⟨rfl, bc105⟩; clear CA; have H206 : Hid (Ds [(wc100.heap.size, wv (r), 24), (wc97.heap.size, wv (b), 24), (wc94.heap.size, wv (x), 24), (w.heap.size, wv (a), 24)] w wc105) := Lib.hid (H204.out.call bc105); clear g8_0 g8_1 g8_2 g8_3 tb8 bc105 H204; have g9_0 : Blk wc105 (wc100.heap.size) (wv (r)) 24 := H206.out.all 0 _ rfl; have g9_1 : Blk wc105 (wc97.heap.size) (wv (b)) 24 := H206.out.all 1 _ rfl; have g9_2 : Blk wc105 (wc94.heap.size) (wv (x)) 24 := H206.out.all 2 _ rfl; have g9_3 : Blk wc105 (w.heap.size) (wv (a)) 24 := H206.out.all 3 _ rfl; have tb9 : Tab wc105 := HTab.out.below0 H206.out.le))
  go_ret
  exact ⟨rfl, H206.out.le⟩
theorem walk_JamParts1 (a : Nat) (n : Int) (ha : a < W384) (hk : ¬ (n % 512).toNat % 384 = 0) (hr : a % 2 ^ ((n % 512).toNat % 384) = 0) (w : World) (hT : Tab w) : Calls Tryd.prog 8 #[.agg (wv (a)), .int .i64 n] w fun e w' => e = .returned (.bool true) ∧ Below w.heap.size w w' := by
  have HTab := Lib.hid hT
  clear hT
  obtain ⟨p0, hp0⟩ : ∃ m : Nat, n % 512 = (m : Int) := ⟨(n % 512).toNat, by omega⟩
  obtain ⟨p, hp⟩ : ∃ m : Nat, p0 % 384 = m := ⟨_, rfl⟩
  have lp : p ≤ 383 := by omega
  have Kp0 : bits .and .i64 n 511 = (p0 : Int) := by rw [← hp0]; exact and_i64 n 9 (by decide)
  have Kp : Int.tmod (p0 : Int) 384 = (p : Int) := by rw [Int.tmod_eq_emod_of_nonneg (by omega)]; omega
  have KEp : (p0 : Int) % 384 = (p : Int) := by omega
  have bp0 : p0 ≤ 511 := by omega
  have hn : p0 = (n % 512).toNat := by omega
  rw [show (n % 512).toNat % 384 = p by omega] at hk
  rw [show (n % 512).toNat % 384 = p by omega] at hr
  have hcp : clamp (p : Int) 385 = p := by unfold clamp; omega
  have hcq : clamp (p : Int) 384 = p := by unfold clamp; omega
  obtain ⟨hsub, hund⟩ := cut_sub (c := p) ha
  have hle : a / 2 ^ p * 2 ^ p ≤ a := Nat.div_mul_le_self _ _
  have hb : leftW (a / 2 ^ p) p = a / 2 ^ p * 2 ^ p := Nat.mod_eq_of_lt (by omega)
  have hov : decide (W384 ≤ a / 2 ^ p * 2 ^ p) = false := decide_eq_false (by omega)
  have hun : decide (a < a / 2 ^ p * 2 ^ p) = false := decide_eq_false hund
  have lkept : a / 2 ^ p < W384 := Nat.lt_of_le_of_lt (Nat.div_le_self _ _) ha
  have hlen : lenW (a % 2 ^ p) ≤ p := len_mod (by omega)
  have lr : a % 2 ^ p < W384 := Nat.lt_of_le_of_lt (Nat.mod_le _ _) ha
  obtain ⟨x, hx⟩ : ∃ x, a / 2 ^ p = x := ⟨_, rfl⟩
  obtain ⟨b, hbb⟩ : ∃ b, x * 2 ^ p = b := ⟨_, rfl⟩
  rw [hx] at hsub hle hb hov hun lkept
  rw [hbb] at hsub hle hb hov hun
  have lb : b < W384 := by omega
  obtain ⟨k, hkk⟩ : ∃ k, p - 1 = k := ⟨_, rfl⟩
  have KZ : ((p : Int) == 0) = false := by rw [beq_eq_false_iff_ne]; omega
  have KM : (p : Int) - 1 = (k : Int) := by omega
  have hck : clamp (k : Int) 384 = k := by unfold clamp; omega
  obtain ⟨h1k, l2k⟩ := left_one (show k < 384 by omega)
  have hcut : cutH a p = cmpW (a % 2 ^ p) (2 ^ k) := by
    rw [← hkk, cut_half (by omega)]; unfold cutH
    by_cases ht : a.testBit (p - 1) = false
    · rw [if_pos (Or.inr (Or.inr ht)), if_pos ht]
    · rw [if_neg (fun h => by rcases h with h | h | h <;> first | omega | exact ht h), if_neg ht]
  obtain ⟨hf, hhf⟩ : ∃ h, cutH a p = h := ⟨_, rfl⟩
  have hov2 : decide (W384 ≤ 1 * 2 ^ k) = false := decide_eq_false (by omega)
  obtain ⟨t, htt⟩ : ∃ t, 2 ^ k = t := ⟨_, rfl⟩
  rw [htt] at hcut h1k l2k hov2
  rw [hr] at hsub hlen lr hcut
  obtain ⟨r, hrr⟩ : ∃ r : Nat, r = 0 := ⟨0, rfl⟩
  obtain ⟨lz, hlz⟩ : ∃ l, lenW r = l := ⟨_, rfl⟩
  rw [← hrr] at hsub hlen lr hcut
  rw [hlz] at hlen
  have KG : ¬ ((p : Int) < (lz : Int)) := by omega
  rw [hhf] at hcut
  have hm : Tryd.prog.eqGuardType Tryd.prog.depth 24 = false := by kernel_rfl
  have q0 : ∀ w, (binOp .eql 24 (.agg (wv r)) (.agg #[.int .u64 0, .int .u64 0, .int .u64 0, .int .u64 0, .int .u64 0, .int .u64 0])).run Tryd.prog w = .ok (.bool true) w := fun w => by
    rw [← wv_zero]
    have := run_eql_wv Tryd.underlying24 Tryd.underlying22 (by kernel_rfl) r 0 lr W384_pos w
    rwa [decide_eq_true hrr] at this
  have C1 : Hid (∀ W, Tab W → Calls Tryd.prog 12 #[.agg (wv (a)), .int .i64 (p : Nat)] W fun e w' => e = .returned (.tuple #[.agg (wv x), .int .i64 hf, .bool true]) ∧ Below W.heap.size W w') := Lib.hid fun W hT => by
    have := jcut_c a p W ha hT
    rwa [hcp, hx, hhf, decide_eq_true hr] at this
  have C2 : Hid (∀ W, Calls Tryd.prog 23 #[.agg (wv (x)), .int .i64 (p : Nat)] W fun e w' => e = .returned (.tuple #[.agg (wv b), .bool false]) ∧ Below W.heap.size W w') := Lib.hid fun W => by have := wleft_c x p W lkept; rwa [hcq, hb, hbb, hov] at this
  have C3 : Hid (∀ W, Calls Tryd.prog 24 #[.agg (wv (a)), .agg (wv (b))] W fun e w' => e = .returned (.tuple #[.agg (wv r), .bool false]) ∧ Below W.heap.size W w') := Lib.hid fun W => by have := wsub_c a b W ha lb; rwa [hsub, hun] at this
  have C4 : Hid (∀ W, Calls Tryd.prog 21 #[.agg (wv (r))] W fun e w' => e = .returned (.int .i64 (lz : Nat)) ∧ Below W.heap.size W w') := Lib.hid fun W => by have := wlen_c r W lr; rwa [hlz] at this
  have C5 : Hid (∀ W, Calls Tryd.prog 25 #[.int .u64 1] W fun e w' => e = .returned (.agg (wv 1)) ∧ Below W.heap.size W w') := Lib.hid fun W => wof_c 1 W (by decide)
  have C6 : Hid (∀ W, Calls Tryd.prog 23 #[.agg (wv (1)), .int .i64 (k : Nat)] W fun e w' => e = .returned (.tuple #[.agg (wv t), .bool false]) ∧ Below W.heap.size W w') := Lib.hid fun W => by have := wleft_c 1 k W (Nat.lt_of_le_of_lt Nat.one_le_two_pow (by rw [← htt] at l2k; exact l2k)); rwa [hck, h1k, htt, hov2] at this
  have C7 : Hid (∀ W, Calls Tryd.prog 26 #[.agg (wv (r)), .agg (wv (t))] W fun e w' => e = .returned (.int .i64 hf) ∧ Below W.heap.size W w') := Lib.hid fun W => by have := wcmp_c r t W lr l2k; rwa [← hcut] at this
  have CA : Hid (∀ W, Tab W → Calls Tryd.prog 14 #[] W fun e w' => e = .returned (.bool true) ∧ Below W.heap.size W w') := Lib.hid fun W hT => alive4_c W hT
  clear hp hp0 hn hk hcp hcq hsub hund hle hb hov hun lkept hx hbb lb hlz lr hrr ha hcut hkk hck h1k l2k hhf hov2 htt hr
  go_enter Tryd.func8, Tryd.ntmps8
  have HS0 := Lib.hid ((Ds.nil w).box (wv (a)) 24 (w.heap.size) rfl)
  have g1_0 : Blk (w.alloc (.cells (wv (a)) 24)) (w.heap.size) (wv (a)) 24 := HS0.out.all 0 _ rfl
  have tb1 : Tab (w.alloc (.cells (wv (a)) 24)) := HTab.out.below0 HS0.out.le
  go_wp2_with (first
    | (refine wpList_load_wv rfl 24 _ rfl _ rfl 24 _ _ (by with_reducible assumption) Tryd.underlying24 rfl (by kernel_rfl) ?_)
    | (refine wpList_load_wv_g rfl 24 _ rfl _ rfl 24 _ _ (by with_reducible assumption) Tryd.underlying24 rfl (by kernel_rfl) ?_)
    | (go_at_call 12; (with_reducible refine (C1.out _ (by with_reducible assumption)).mono ?_); rintro e wc107 ⟨rfl, bc107⟩; clear C1; have H208 : Hid (Ds [(w.heap.size, wv (a), 24)] w wc107) := Lib.hid (HS0.out.call bc107); clear g1_0 tb1 bc107 HS0; have g2_0 : Blk wc107 (w.heap.size) (wv (a)) 24 := H208.out.all 0 _ rfl; have tb2 : Tab wc107 := HTab.out.below0 H208.out.le)
    | (refine wpList_store_wv rfl 24 _ _ rfl (wc107.heap.size) (x) rfl rfl 24 0 (Blk.zeroAt _ _ rfl) (by kernel_rfl) ?_; have H209 : Hid (Ds [(wc107.heap.size, wv (x), 24), (w.heap.size, wv (a), 24)] w ((wc107.alloc (.cells #[.int .u64 0, .int .u64 0, .int .u64 0, .int .u64 0, .int .u64 0, .int .u64 0] 24)).setRow wc107.heap.size (wv (x)))) := Lib.hid ((H208.out.box #[.int .u64 0, .int .u64 0, .int .u64 0, .int .u64 0, .int .u64 0, .int .u64 0] 24 _ rfl).setRow 0 (wv (x)) _ _ _ rfl); clear g2_0 tb2 H208; have g3_0 : Blk ((wc107.alloc (.cells #[.int .u64 0, .int .u64 0, .int .u64 0, .int .u64 0, .int .u64 0, .int .u64 0] 24)).setRow wc107.heap.size (wv (x))) (wc107.heap.size) (wv (x)) 24 := H209.out.all 0 _ rfl; have g3_1 : Blk ((wc107.alloc (.cells #[.int .u64 0, .int .u64 0, .int .u64 0, .int .u64 0, .int .u64 0, .int .u64 0] 24)).setRow wc107.heap.size (wv (x))) (w.heap.size) (wv (a)) 24 := H209.out.all 1 _ rfl; have tb3 : Tab ((wc107.alloc (.cells #[.int .u64 0, .int .u64 0, .int .u64 0, .int .u64 0, .int .u64 0, .int .u64 0] 24)).setRow wc107.heap.size (wv (x))) := HTab.out.below0 H209.out.le)
    | (go_at_call 23; (with_reducible refine (C2.out _).mono ?_); rintro e wc110 ⟨rfl, bc110⟩; clear C2; have H211 : Hid (Ds [(wc107.heap.size, wv (x), 24), (w.heap.size, wv (a), 24)] w wc110) := Lib.hid (H209.out.call bc110); clear g3_0 g3_1 tb3 bc110 H209; have g4_0 : Blk wc110 (wc107.heap.size) (wv (x)) 24 := H211.out.all 0 _ rfl; have g4_1 : Blk wc110 (w.heap.size) (wv (a)) 24 := H211.out.all 1 _ rfl; have tb4 : Tab wc110 := HTab.out.below0 H211.out.le)
    | (refine wpList_store_wv rfl 24 _ _ rfl (wc110.heap.size) (b) rfl rfl 24 0 (Blk.zeroAt _ _ rfl) (by kernel_rfl) ?_; have H212 : Hid (Ds [(wc110.heap.size, wv (b), 24), (wc107.heap.size, wv (x), 24), (w.heap.size, wv (a), 24)] w ((wc110.alloc (.cells #[.int .u64 0, .int .u64 0, .int .u64 0, .int .u64 0, .int .u64 0, .int .u64 0] 24)).setRow wc110.heap.size (wv (b)))) := Lib.hid ((H211.out.box #[.int .u64 0, .int .u64 0, .int .u64 0, .int .u64 0, .int .u64 0, .int .u64 0] 24 _ rfl).setRow 0 (wv (b)) _ _ _ rfl); clear g4_0 g4_1 tb4 H211; have g5_0 : Blk ((wc110.alloc (.cells #[.int .u64 0, .int .u64 0, .int .u64 0, .int .u64 0, .int .u64 0, .int .u64 0] 24)).setRow wc110.heap.size (wv (b))) (wc110.heap.size) (wv (b)) 24 := H212.out.all 0 _ rfl; have g5_1 : Blk ((wc110.alloc (.cells #[.int .u64 0, .int .u64 0, .int .u64 0, .int .u64 0, .int .u64 0, .int .u64 0] 24)).setRow wc110.heap.size (wv (b))) (wc107.heap.size) (wv (x)) 24 := H212.out.all 1 _ rfl; have g5_2 : Blk ((wc110.alloc (.cells #[.int .u64 0, .int .u64 0, .int .u64 0, .int .u64 0, .int .u64 0, .int .u64 0] 24)).setRow wc110.heap.size (wv (b))) (w.heap.size) (wv (a)) 24 := H212.out.all 2 _ rfl; have tb5 : Tab ((wc110.alloc (.cells #[.int .u64 0, .int .u64 0, .int .u64 0, .int .u64 0, .int .u64 0, .int .u64 0] 24)).setRow wc110.heap.size (wv (b))) := HTab.out.below0 H212.out.le)
    | (go_at_call 24; (with_reducible refine (C3.out _).mono ?_); rintro e wc113 ⟨rfl, bc113⟩; clear C3; have H214 : Hid (Ds [(wc110.heap.size, wv (b), 24), (wc107.heap.size, wv (x), 24), (w.heap.size, wv (a), 24)] w wc113) := Lib.hid (H212.out.call bc113); clear g5_0 g5_1 g5_2 tb5 bc113 H212; have g6_0 : Blk wc113 (wc110.heap.size) (wv (b)) 24 := H214.out.all 0 _ rfl; have g6_1 : Blk wc113 (wc107.heap.size) (wv (x)) 24 := H214.out.all 1 _ rfl; have g6_2 : Blk wc113 (w.heap.size) (wv (a)) 24 := H214.out.all 2 _ rfl; have tb6 : Tab wc113 := HTab.out.below0 H214.out.le)
    | (refine wpList_store_wv rfl 24 _ _ rfl (wc113.heap.size) (r) rfl rfl 24 0 (Blk.zeroAt _ _ rfl) (by kernel_rfl) ?_; have H215 : Hid (Ds [(wc113.heap.size, wv (r), 24), (wc110.heap.size, wv (b), 24), (wc107.heap.size, wv (x), 24), (w.heap.size, wv (a), 24)] w ((wc113.alloc (.cells #[.int .u64 0, .int .u64 0, .int .u64 0, .int .u64 0, .int .u64 0, .int .u64 0] 24)).setRow wc113.heap.size (wv (r)))) := Lib.hid ((H214.out.box #[.int .u64 0, .int .u64 0, .int .u64 0, .int .u64 0, .int .u64 0, .int .u64 0] 24 _ rfl).setRow 0 (wv (r)) _ _ _ rfl); clear g6_0 g6_1 g6_2 tb6 H214; have g7_0 : Blk ((wc113.alloc (.cells #[.int .u64 0, .int .u64 0, .int .u64 0, .int .u64 0, .int .u64 0, .int .u64 0] 24)).setRow wc113.heap.size (wv (r))) (wc113.heap.size) (wv (r)) 24 := H215.out.all 0 _ rfl; have g7_1 : Blk ((wc113.alloc (.cells #[.int .u64 0, .int .u64 0, .int .u64 0, .int .u64 0, .int .u64 0, .int .u64 0] 24)).setRow wc113.heap.size (wv (r))) (wc110.heap.size) (wv (b)) 24 := H215.out.all 1 _ rfl; have g7_2 : Blk ((wc113.alloc (.cells #[.int .u64 0, .int .u64 0, .int .u64 0, .int .u64 0, .int .u64 0, .int .u64 0] 24)).setRow wc113.heap.size (wv (r))) (wc107.heap.size) (wv (x)) 24 := H215.out.all 2 _ rfl; have g7_3 : Blk ((wc113.alloc (.cells #[.int .u64 0, .int .u64 0, .int .u64 0, .int .u64 0, .int .u64 0, .int .u64 0] 24)).setRow wc113.heap.size (wv (r))) (w.heap.size) (wv (a)) 24 := H215.out.all 3 _ rfl; have tb7 : Tab ((wc113.alloc (.cells #[.int .u64 0, .int .u64 0, .int .u64 0, .int .u64 0, .int .u64 0, .int .u64 0] 24)).setRow wc113.heap.size (wv (r))) := HTab.out.below0 H215.out.le)
    | (go_at_call 21; (with_reducible refine (C4.out _).mono ?_); rintro e wc116 ⟨rfl, bc116⟩; clear C4; have H217 : Hid (Ds [(wc113.heap.size, wv (r), 24), (wc110.heap.size, wv (b), 24), (wc107.heap.size, wv (x), 24), (w.heap.size, wv (a), 24)] w wc116) := Lib.hid (H215.out.call bc116); clear g7_0 g7_1 g7_2 g7_3 tb7 bc116 H215; have g8_0 : Blk wc116 (wc113.heap.size) (wv (r)) 24 := H217.out.all 0 _ rfl; have g8_1 : Blk wc116 (wc110.heap.size) (wv (b)) 24 := H217.out.all 1 _ rfl; have g8_2 : Blk wc116 (wc107.heap.size) (wv (x)) 24 := H217.out.all 2 _ rfl; have g8_3 : Blk wc116 (w.heap.size) (wv (a)) 24 := H217.out.all 3 _ rfl; have tb8 : Tab wc116 := HTab.out.below0 H217.out.le)
    | (go_at_call 25; (with_reducible refine (C5.out _).mono ?_); rintro e wc118 ⟨rfl, bc118⟩; clear C5; have H219 : Hid (Ds [(wc113.heap.size, wv (r), 24), (wc110.heap.size, wv (b), 24), (wc107.heap.size, wv (x), 24), (w.heap.size, wv (a), 24)] w wc118) := Lib.hid (H217.out.call bc118); clear g8_0 g8_1 g8_2 g8_3 tb8 bc118 H217; have g9_0 : Blk wc118 (wc113.heap.size) (wv (r)) 24 := H219.out.all 0 _ rfl; have g9_1 : Blk wc118 (wc110.heap.size) (wv (b)) 24 := H219.out.all 1 _ rfl; have g9_2 : Blk wc118 (wc107.heap.size) (wv (x)) 24 := H219.out.all 2 _ rfl; have g9_3 : Blk wc118 (w.heap.size) (wv (a)) 24 := H219.out.all 3 _ rfl; have tb9 : Tab wc118 := HTab.out.below0 H219.out.le)
    | (go_at_call 23; (with_reducible refine (C6.out _).mono ?_); rintro e wc120 ⟨rfl, bc120⟩; clear C6; have H221 : Hid (Ds [(wc113.heap.size, wv (r), 24), (wc110.heap.size, wv (b), 24), (wc107.heap.size, wv (x), 24), (w.heap.size, wv (a), 24)] w wc120) := Lib.hid (H219.out.call bc120); clear g9_0 g9_1 g9_2 g9_3 tb9 bc120 H219; have g10_0 : Blk wc120 (wc113.heap.size) (wv (r)) 24 := H221.out.all 0 _ rfl; have g10_1 : Blk wc120 (wc110.heap.size) (wv (b)) 24 := H221.out.all 1 _ rfl; have g10_2 : Blk wc120 (wc107.heap.size) (wv (x)) 24 := H221.out.all 2 _ rfl; have g10_3 : Blk wc120 (w.heap.size) (wv (a)) 24 := H221.out.all 3 _ rfl; have tb10 : Tab wc120 := HTab.out.below0 H221.out.le)
    | (refine wpList_store_wv rfl 24 _ _ rfl (wc120.heap.size) (t) rfl rfl 24 0 (Blk.zeroAt _ _ rfl) (by kernel_rfl) ?_; have H222 : Hid (Ds [(wc120.heap.size, wv (t), 24), (wc113.heap.size, wv (r), 24), (wc110.heap.size, wv (b), 24), (wc107.heap.size, wv (x), 24), (w.heap.size, wv (a), 24)] w ((wc120.alloc (.cells #[.int .u64 0, .int .u64 0, .int .u64 0, .int .u64 0, .int .u64 0, .int .u64 0] 24)).setRow wc120.heap.size (wv (t)))) := Lib.hid ((H221.out.box #[.int .u64 0, .int .u64 0, .int .u64 0, .int .u64 0, .int .u64 0, .int .u64 0] 24 _ rfl).setRow 0 (wv (t)) _ _ _ rfl); clear g10_0 g10_1 g10_2 g10_3 tb10 H221; have g11_0 : Blk ((wc120.alloc (.cells #[.int .u64 0, .int .u64 0, .int .u64 0, .int .u64 0, .int .u64 0, .int .u64 0] 24)).setRow wc120.heap.size (wv (t))) (wc120.heap.size) (wv (t)) 24 := H222.out.all 0 _ rfl; have g11_1 : Blk ((wc120.alloc (.cells #[.int .u64 0, .int .u64 0, .int .u64 0, .int .u64 0, .int .u64 0, .int .u64 0] 24)).setRow wc120.heap.size (wv (t))) (wc113.heap.size) (wv (r)) 24 := H222.out.all 1 _ rfl; have g11_2 : Blk ((wc120.alloc (.cells #[.int .u64 0, .int .u64 0, .int .u64 0, .int .u64 0, .int .u64 0, .int .u64 0] 24)).setRow wc120.heap.size (wv (t))) (wc110.heap.size) (wv (b)) 24 := H222.out.all 2 _ rfl; have g11_3 : Blk ((wc120.alloc (.cells #[.int .u64 0, .int .u64 0, .int .u64 0, .int .u64 0, .int .u64 0, .int .u64 0] 24)).setRow wc120.heap.size (wv (t))) (wc107.heap.size) (wv (x)) 24 := H222.out.all 3 _ rfl; have g11_4 : Blk ((wc120.alloc (.cells #[.int .u64 0, .int .u64 0, .int .u64 0, .int .u64 0, .int .u64 0, .int .u64 0] 24)).setRow wc120.heap.size (wv (t))) (w.heap.size) (wv (a)) 24 := H222.out.all 4 _ rfl; have tb11 : Tab ((wc120.alloc (.cells #[.int .u64 0, .int .u64 0, .int .u64 0, .int .u64 0, .int .u64 0, .int .u64 0] 24)).setRow wc120.heap.size (wv (t))) := HTab.out.below0 H222.out.le)
    | (go_at_call 26; (with_reducible refine (C7.out _).mono ?_); rintro e wc123 ⟨rfl, bc123⟩; clear C7; have H224 : Hid (Ds [(wc120.heap.size, wv (t), 24), (wc113.heap.size, wv (r), 24), (wc110.heap.size, wv (b), 24), (wc107.heap.size, wv (x), 24), (w.heap.size, wv (a), 24)] w wc123) := Lib.hid (H222.out.call bc123); clear g11_0 g11_1 g11_2 g11_3 g11_4 tb11 bc123 H222; have g12_0 : Blk wc123 (wc120.heap.size) (wv (t)) 24 := H224.out.all 0 _ rfl; have g12_1 : Blk wc123 (wc113.heap.size) (wv (r)) 24 := H224.out.all 1 _ rfl; have g12_2 : Blk wc123 (wc110.heap.size) (wv (b)) 24 := H224.out.all 2 _ rfl; have g12_3 : Blk wc123 (wc107.heap.size) (wv (x)) 24 := H224.out.all 3 _ rfl; have g12_4 : Blk wc123 (w.heap.size) (wv (a)) 24 := H224.out.all 4 _ rfl; have tb12 : Tab wc123 := HTab.out.below0 H224.out.le)
    | (go_at_call 14; (with_reducible refine (CA.out _ (by with_reducible assumption)).mono ?_); rintro e wc125 ⟨rfl, bc125⟩; clear CA; have H226 : Hid (Ds [(wc120.heap.size, wv (t), 24), (wc113.heap.size, wv (r), 24), (wc110.heap.size, wv (b), 24), (wc107.heap.size, wv (x), 24), (w.heap.size, wv (a), 24)] w wc125) := Lib.hid (H224.out.call bc125); clear g12_0 g12_1 g12_2 g12_3 g12_4 tb12 bc125 H224; have g13_0 : Blk wc125 (wc120.heap.size) (wv (t)) 24 := H226.out.all 0 _ rfl; have g13_1 : Blk wc125 (wc113.heap.size) (wv (r)) 24 := H226.out.all 1 _ rfl; have g13_2 : Blk wc125 (wc110.heap.size) (wv (b)) 24 := H226.out.all 2 _ rfl; have g13_3 : Blk wc125 (wc107.heap.size) (wv (x)) 24 := H226.out.all 3 _ rfl; have g13_4 : Blk wc125 (w.heap.size) (wv (a)) 24 := H226.out.all 4 _ rfl; have tb13 : Tab wc125 := HTab.out.below0 H226.out.le))
  go_ret
  exact ⟨rfl, H226.out.le⟩
theorem walk_JamParts2 (a : Nat) (n : Int) (ha : a < W384) (hk : ¬ (n % 512).toNat % 384 = 0) (hr : ¬ a % 2 ^ ((n % 512).toNat % 384) = 0) (w : World) (hT : Tab w) : Calls Tryd.prog 8 #[.agg (wv (a)), .int .i64 n] w fun e w' => e = .returned (.bool true) ∧ Below w.heap.size w w' := by
  have HTab := Lib.hid hT
  clear hT
  obtain ⟨p0, hp0⟩ : ∃ m : Nat, n % 512 = (m : Int) := ⟨(n % 512).toNat, by omega⟩
  obtain ⟨p, hp⟩ : ∃ m : Nat, p0 % 384 = m := ⟨_, rfl⟩
  have lp : p ≤ 383 := by omega
  have Kp0 : bits .and .i64 n 511 = (p0 : Int) := by rw [← hp0]; exact and_i64 n 9 (by decide)
  have Kp : Int.tmod (p0 : Int) 384 = (p : Int) := by rw [Int.tmod_eq_emod_of_nonneg (by omega)]; omega
  have KEp : (p0 : Int) % 384 = (p : Int) := by omega
  have bp0 : p0 ≤ 511 := by omega
  have hn : p0 = (n % 512).toNat := by omega
  rw [show (n % 512).toNat % 384 = p by omega] at hk
  rw [show (n % 512).toNat % 384 = p by omega] at hr
  have hcp : clamp (p : Int) 385 = p := by unfold clamp; omega
  have hcq : clamp (p : Int) 384 = p := by unfold clamp; omega
  obtain ⟨hsub, hund⟩ := cut_sub (c := p) ha
  have hle : a / 2 ^ p * 2 ^ p ≤ a := Nat.div_mul_le_self _ _
  have hb : leftW (a / 2 ^ p) p = a / 2 ^ p * 2 ^ p := Nat.mod_eq_of_lt (by omega)
  have hov : decide (W384 ≤ a / 2 ^ p * 2 ^ p) = false := decide_eq_false (by omega)
  have hun : decide (a < a / 2 ^ p * 2 ^ p) = false := decide_eq_false hund
  have lkept : a / 2 ^ p < W384 := Nat.lt_of_le_of_lt (Nat.div_le_self _ _) ha
  have hlen : lenW (a % 2 ^ p) ≤ p := len_mod (by omega)
  have lr : a % 2 ^ p < W384 := Nat.lt_of_le_of_lt (Nat.mod_le _ _) ha
  obtain ⟨x, hx⟩ : ∃ x, a / 2 ^ p = x := ⟨_, rfl⟩
  obtain ⟨b, hbb⟩ : ∃ b, x * 2 ^ p = b := ⟨_, rfl⟩
  rw [hx] at hsub hle hb hov hun lkept
  rw [hbb] at hsub hle hb hov hun
  have lb : b < W384 := by omega
  obtain ⟨k, hkk⟩ : ∃ k, p - 1 = k := ⟨_, rfl⟩
  have KZ : ((p : Int) == 0) = false := by rw [beq_eq_false_iff_ne]; omega
  have KM : (p : Int) - 1 = (k : Int) := by omega
  have hck : clamp (k : Int) 384 = k := by unfold clamp; omega
  obtain ⟨h1k, l2k⟩ := left_one (show k < 384 by omega)
  have hcut : cutH a p = cmpW (a % 2 ^ p) (2 ^ k) := by
    rw [← hkk, cut_half (by omega)]; unfold cutH
    by_cases ht : a.testBit (p - 1) = false
    · rw [if_pos (Or.inr (Or.inr ht)), if_pos ht]
    · rw [if_neg (fun h => by rcases h with h | h | h <;> first | omega | exact ht h), if_neg ht]
  obtain ⟨hf, hhf⟩ : ∃ h, cutH a p = h := ⟨_, rfl⟩
  have hov2 : decide (W384 ≤ 1 * 2 ^ k) = false := decide_eq_false (by omega)
  obtain ⟨t, htt⟩ : ∃ t, 2 ^ k = t := ⟨_, rfl⟩
  rw [htt] at hcut h1k l2k hov2
  obtain ⟨r, hrr⟩ : ∃ r, a % 2 ^ p = r := ⟨_, rfl⟩
  obtain ⟨lz, hlz⟩ : ∃ l, lenW r = l := ⟨_, rfl⟩
  rw [hrr] at hsub hlen lr hr hcut
  rw [hlz] at hlen
  have KG : ¬ ((p : Int) < (lz : Int)) := by omega
  rw [hhf] at hcut
  have hm : Tryd.prog.eqGuardType Tryd.prog.depth 24 = false := by kernel_rfl
  have q0 : ∀ w, (binOp .eql 24 (.agg (wv r)) (.agg #[.int .u64 0, .int .u64 0, .int .u64 0, .int .u64 0, .int .u64 0, .int .u64 0])).run Tryd.prog w = .ok (.bool false) w := fun w => by
    rw [← wv_zero]
    have := run_eql_wv Tryd.underlying24 Tryd.underlying22 (by kernel_rfl) r 0 lr W384_pos w
    rwa [decide_eq_false hr] at this
  have C1 : Hid (∀ W, Tab W → Calls Tryd.prog 12 #[.agg (wv (a)), .int .i64 (p : Nat)] W fun e w' => e = .returned (.tuple #[.agg (wv x), .int .i64 hf, .bool false]) ∧ Below W.heap.size W w') := Lib.hid fun W hT => by
    have := jcut_c a p W ha hT
    rwa [hcp, hx, hhf, decide_eq_false (show ¬ a % 2 ^ p = 0 by rw [hrr]; exact hr)] at this
  have C2 : Hid (∀ W, Calls Tryd.prog 23 #[.agg (wv (x)), .int .i64 (p : Nat)] W fun e w' => e = .returned (.tuple #[.agg (wv b), .bool false]) ∧ Below W.heap.size W w') := Lib.hid fun W => by have := wleft_c x p W lkept; rwa [hcq, hb, hbb, hov] at this
  have C3 : Hid (∀ W, Calls Tryd.prog 24 #[.agg (wv (a)), .agg (wv (b))] W fun e w' => e = .returned (.tuple #[.agg (wv r), .bool false]) ∧ Below W.heap.size W w') := Lib.hid fun W => by have := wsub_c a b W ha lb; rwa [hsub, hun] at this
  have C4 : Hid (∀ W, Calls Tryd.prog 21 #[.agg (wv (r))] W fun e w' => e = .returned (.int .i64 (lz : Nat)) ∧ Below W.heap.size W w') := Lib.hid fun W => by have := wlen_c r W lr; rwa [hlz] at this
  have C5 : Hid (∀ W, Calls Tryd.prog 25 #[.int .u64 1] W fun e w' => e = .returned (.agg (wv 1)) ∧ Below W.heap.size W w') := Lib.hid fun W => wof_c 1 W (by decide)
  have C6 : Hid (∀ W, Calls Tryd.prog 23 #[.agg (wv (1)), .int .i64 (k : Nat)] W fun e w' => e = .returned (.tuple #[.agg (wv t), .bool false]) ∧ Below W.heap.size W w') := Lib.hid fun W => by have := wleft_c 1 k W (Nat.lt_of_le_of_lt Nat.one_le_two_pow (by rw [← htt] at l2k; exact l2k)); rwa [hck, h1k, htt, hov2] at this
  have C7 : Hid (∀ W, Calls Tryd.prog 26 #[.agg (wv (r)), .agg (wv (t))] W fun e w' => e = .returned (.int .i64 hf) ∧ Below W.heap.size W w') := Lib.hid fun W => by have := wcmp_c r t W lr l2k; rwa [← hcut] at this
  have CA : Hid (∀ W, Tab W → Calls Tryd.prog 14 #[] W fun e w' => e = .returned (.bool true) ∧ Below W.heap.size W w') := Lib.hid fun W hT => alive4_c W hT
  clear hp hp0 hn hk hcp hcq hsub hund hle hb hov hun lkept hx hbb lb hlz lr hrr ha hcut hkk hck h1k l2k hhf hov2 htt hr
  go_enter Tryd.func8, Tryd.ntmps8
  have HS0 := Lib.hid ((Ds.nil w).box (wv (a)) 24 (w.heap.size) rfl)
  have g1_0 : Blk (w.alloc (.cells (wv (a)) 24)) (w.heap.size) (wv (a)) 24 := HS0.out.all 0 _ rfl
  have tb1 : Tab (w.alloc (.cells (wv (a)) 24)) := HTab.out.below0 HS0.out.le
  go_wp2_with (first
    | (refine wpList_load_wv rfl 24 _ rfl _ rfl 24 _ _ (by with_reducible assumption) Tryd.underlying24 rfl (by kernel_rfl) ?_)
    | (refine wpList_load_wv_g rfl 24 _ rfl _ rfl 24 _ _ (by with_reducible assumption) Tryd.underlying24 rfl (by kernel_rfl) ?_)
    | (go_at_call 12; (with_reducible refine (C1.out _ (by with_reducible assumption)).mono ?_); rintro e wc127 ⟨rfl, bc127⟩; clear C1; have H228 : Hid (Ds [(w.heap.size, wv (a), 24)] w wc127) := Lib.hid (HS0.out.call bc127); clear g1_0 tb1 bc127 HS0; have g2_0 : Blk wc127 (w.heap.size) (wv (a)) 24 := H228.out.all 0 _ rfl; have tb2 : Tab wc127 := HTab.out.below0 H228.out.le)
    | (refine wpList_store_wv rfl 24 _ _ rfl (wc127.heap.size) (x) rfl rfl 24 0 (Blk.zeroAt _ _ rfl) (by kernel_rfl) ?_; have H229 : Hid (Ds [(wc127.heap.size, wv (x), 24), (w.heap.size, wv (a), 24)] w ((wc127.alloc (.cells #[.int .u64 0, .int .u64 0, .int .u64 0, .int .u64 0, .int .u64 0, .int .u64 0] 24)).setRow wc127.heap.size (wv (x)))) := Lib.hid ((H228.out.box #[.int .u64 0, .int .u64 0, .int .u64 0, .int .u64 0, .int .u64 0, .int .u64 0] 24 _ rfl).setRow 0 (wv (x)) _ _ _ rfl); clear g2_0 tb2 H228; have g3_0 : Blk ((wc127.alloc (.cells #[.int .u64 0, .int .u64 0, .int .u64 0, .int .u64 0, .int .u64 0, .int .u64 0] 24)).setRow wc127.heap.size (wv (x))) (wc127.heap.size) (wv (x)) 24 := H229.out.all 0 _ rfl; have g3_1 : Blk ((wc127.alloc (.cells #[.int .u64 0, .int .u64 0, .int .u64 0, .int .u64 0, .int .u64 0, .int .u64 0] 24)).setRow wc127.heap.size (wv (x))) (w.heap.size) (wv (a)) 24 := H229.out.all 1 _ rfl; have tb3 : Tab ((wc127.alloc (.cells #[.int .u64 0, .int .u64 0, .int .u64 0, .int .u64 0, .int .u64 0, .int .u64 0] 24)).setRow wc127.heap.size (wv (x))) := HTab.out.below0 H229.out.le)
    | (go_at_call 23; (with_reducible refine (C2.out _).mono ?_); rintro e wc130 ⟨rfl, bc130⟩; clear C2; have H231 : Hid (Ds [(wc127.heap.size, wv (x), 24), (w.heap.size, wv (a), 24)] w wc130) := Lib.hid (H229.out.call bc130); clear g3_0 g3_1 tb3 bc130 H229; have g4_0 : Blk wc130 (wc127.heap.size) (wv (x)) 24 := H231.out.all 0 _ rfl; have g4_1 : Blk wc130 (w.heap.size) (wv (a)) 24 := H231.out.all 1 _ rfl; have tb4 : Tab wc130 := HTab.out.below0 H231.out.le)
    | (refine wpList_store_wv rfl 24 _ _ rfl (wc130.heap.size) (b) rfl rfl 24 0 (Blk.zeroAt _ _ rfl) (by kernel_rfl) ?_; have H232 : Hid (Ds [(wc130.heap.size, wv (b), 24), (wc127.heap.size, wv (x), 24), (w.heap.size, wv (a), 24)] w ((wc130.alloc (.cells #[.int .u64 0, .int .u64 0, .int .u64 0, .int .u64 0, .int .u64 0, .int .u64 0] 24)).setRow wc130.heap.size (wv (b)))) := Lib.hid ((H231.out.box #[.int .u64 0, .int .u64 0, .int .u64 0, .int .u64 0, .int .u64 0, .int .u64 0] 24 _ rfl).setRow 0 (wv (b)) _ _ _ rfl); clear g4_0 g4_1 tb4 H231; have g5_0 : Blk ((wc130.alloc (.cells #[.int .u64 0, .int .u64 0, .int .u64 0, .int .u64 0, .int .u64 0, .int .u64 0] 24)).setRow wc130.heap.size (wv (b))) (wc130.heap.size) (wv (b)) 24 := H232.out.all 0 _ rfl; have g5_1 : Blk ((wc130.alloc (.cells #[.int .u64 0, .int .u64 0, .int .u64 0, .int .u64 0, .int .u64 0, .int .u64 0] 24)).setRow wc130.heap.size (wv (b))) (wc127.heap.size) (wv (x)) 24 := H232.out.all 1 _ rfl; have g5_2 : Blk ((wc130.alloc (.cells #[.int .u64 0, .int .u64 0, .int .u64 0, .int .u64 0, .int .u64 0, .int .u64 0] 24)).setRow wc130.heap.size (wv (b))) (w.heap.size) (wv (a)) 24 := H232.out.all 2 _ rfl; have tb5 : Tab ((wc130.alloc (.cells #[.int .u64 0, .int .u64 0, .int .u64 0, .int .u64 0, .int .u64 0, .int .u64 0] 24)).setRow wc130.heap.size (wv (b))) := HTab.out.below0 H232.out.le)
    | (go_at_call 24; (with_reducible refine (C3.out _).mono ?_); rintro e wc133 ⟨rfl, bc133⟩; clear C3; have H234 : Hid (Ds [(wc130.heap.size, wv (b), 24), (wc127.heap.size, wv (x), 24), (w.heap.size, wv (a), 24)] w wc133) := Lib.hid (H232.out.call bc133); clear g5_0 g5_1 g5_2 tb5 bc133 H232; have g6_0 : Blk wc133 (wc130.heap.size) (wv (b)) 24 := H234.out.all 0 _ rfl; have g6_1 : Blk wc133 (wc127.heap.size) (wv (x)) 24 := H234.out.all 1 _ rfl; have g6_2 : Blk wc133 (w.heap.size) (wv (a)) 24 := H234.out.all 2 _ rfl; have tb6 : Tab wc133 := HTab.out.below0 H234.out.le)
    | (refine wpList_store_wv rfl 24 _ _ rfl (wc133.heap.size) (r) rfl rfl 24 0 (Blk.zeroAt _ _ rfl) (by kernel_rfl) ?_; have H235 : Hid (Ds [(wc133.heap.size, wv (r), 24), (wc130.heap.size, wv (b), 24), (wc127.heap.size, wv (x), 24), (w.heap.size, wv (a), 24)] w ((wc133.alloc (.cells #[.int .u64 0, .int .u64 0, .int .u64 0, .int .u64 0, .int .u64 0, .int .u64 0] 24)).setRow wc133.heap.size (wv (r)))) := Lib.hid ((H234.out.box #[.int .u64 0, .int .u64 0, .int .u64 0, .int .u64 0, .int .u64 0, .int .u64 0] 24 _ rfl).setRow 0 (wv (r)) _ _ _ rfl); clear g6_0 g6_1 g6_2 tb6 H234; have g7_0 : Blk ((wc133.alloc (.cells #[.int .u64 0, .int .u64 0, .int .u64 0, .int .u64 0, .int .u64 0, .int .u64 0] 24)).setRow wc133.heap.size (wv (r))) (wc133.heap.size) (wv (r)) 24 := H235.out.all 0 _ rfl; have g7_1 : Blk ((wc133.alloc (.cells #[.int .u64 0, .int .u64 0, .int .u64 0, .int .u64 0, .int .u64 0, .int .u64 0] 24)).setRow wc133.heap.size (wv (r))) (wc130.heap.size) (wv (b)) 24 := H235.out.all 1 _ rfl; have g7_2 : Blk ((wc133.alloc (.cells #[.int .u64 0, .int .u64 0, .int .u64 0, .int .u64 0, .int .u64 0, .int .u64 0] 24)).setRow wc133.heap.size (wv (r))) (wc127.heap.size) (wv (x)) 24 := H235.out.all 2 _ rfl; have g7_3 : Blk ((wc133.alloc (.cells #[.int .u64 0, .int .u64 0, .int .u64 0, .int .u64 0, .int .u64 0, .int .u64 0] 24)).setRow wc133.heap.size (wv (r))) (w.heap.size) (wv (a)) 24 := H235.out.all 3 _ rfl; have tb7 : Tab ((wc133.alloc (.cells #[.int .u64 0, .int .u64 0, .int .u64 0, .int .u64 0, .int .u64 0, .int .u64 0] 24)).setRow wc133.heap.size (wv (r))) := HTab.out.below0 H235.out.le)
    | (go_at_call 21; (with_reducible refine (C4.out _).mono ?_); rintro e wc136 ⟨rfl, bc136⟩; clear C4; have H237 : Hid (Ds [(wc133.heap.size, wv (r), 24), (wc130.heap.size, wv (b), 24), (wc127.heap.size, wv (x), 24), (w.heap.size, wv (a), 24)] w wc136) := Lib.hid (H235.out.call bc136); clear g7_0 g7_1 g7_2 g7_3 tb7 bc136 H235; have g8_0 : Blk wc136 (wc133.heap.size) (wv (r)) 24 := H237.out.all 0 _ rfl; have g8_1 : Blk wc136 (wc130.heap.size) (wv (b)) 24 := H237.out.all 1 _ rfl; have g8_2 : Blk wc136 (wc127.heap.size) (wv (x)) 24 := H237.out.all 2 _ rfl; have g8_3 : Blk wc136 (w.heap.size) (wv (a)) 24 := H237.out.all 3 _ rfl; have tb8 : Tab wc136 := HTab.out.below0 H237.out.le)
    | (go_at_call 25; (with_reducible refine (C5.out _).mono ?_); rintro e wc138 ⟨rfl, bc138⟩; clear C5; have H239 : Hid (Ds [(wc133.heap.size, wv (r), 24), (wc130.heap.size, wv (b), 24), (wc127.heap.size, wv (x), 24), (w.heap.size, wv (a), 24)] w wc138) := Lib.hid (H237.out.call bc138); clear g8_0 g8_1 g8_2 g8_3 tb8 bc138 H237; have g9_0 : Blk wc138 (wc133.heap.size) (wv (r)) 24 := H239.out.all 0 _ rfl; have g9_1 : Blk wc138 (wc130.heap.size) (wv (b)) 24 := H239.out.all 1 _ rfl; have g9_2 : Blk wc138 (wc127.heap.size) (wv (x)) 24 := H239.out.all 2 _ rfl; have g9_3 : Blk wc138 (w.heap.size) (wv (a)) 24 := H239.out.all 3 _ rfl; have tb9 : Tab wc138 := HTab.out.below0 H239.out.le)
    | (go_at_call 23; (with_reducible refine (C6.out _).mono ?_); rintro e wc140 ⟨rfl, bc140⟩; clear C6; have H241 : Hid (Ds [(wc133.heap.size, wv (r), 24), (wc130.heap.size, wv (b), 24), (wc127.heap.size, wv (x), 24), (w.heap.size, wv (a), 24)] w wc140) := Lib.hid (H239.out.call bc140); clear g9_0 g9_1 g9_2 g9_3 tb9 bc140 H239; have g10_0 : Blk wc140 (wc133.heap.size) (wv (r)) 24 := H241.out.all 0 _ rfl; have g10_1 : Blk wc140 (wc130.heap.size) (wv (b)) 24 := H241.out.all 1 _ rfl; have g10_2 : Blk wc140 (wc127.heap.size) (wv (x)) 24 := H241.out.all 2 _ rfl; have g10_3 : Blk wc140 (w.heap.size) (wv (a)) 24 := H241.out.all 3 _ rfl; have tb10 : Tab wc140 := HTab.out.below0 H241.out.le)
    | (refine wpList_store_wv rfl 24 _ _ rfl (wc140.heap.size) (t) rfl rfl 24 0 (Blk.zeroAt _ _ rfl) (by kernel_rfl) ?_; have H242 : Hid (Ds [(wc140.heap.size, wv (t), 24), (wc133.heap.size, wv (r), 24), (wc130.heap.size, wv (b), 24), (wc127.heap.size, wv (x), 24), (w.heap.size, wv (a), 24)] w ((wc140.alloc (.cells #[.int .u64 0, .int .u64 0, .int .u64 0, .int .u64 0, .int .u64 0, .int .u64 0] 24)).setRow wc140.heap.size (wv (t)))) := Lib.hid ((H241.out.box #[.int .u64 0, .int .u64 0, .int .u64 0, .int .u64 0, .int .u64 0, .int .u64 0] 24 _ rfl).setRow 0 (wv (t)) _ _ _ rfl); clear g10_0 g10_1 g10_2 g10_3 tb10 H241; have g11_0 : Blk ((wc140.alloc (.cells #[.int .u64 0, .int .u64 0, .int .u64 0, .int .u64 0, .int .u64 0, .int .u64 0] 24)).setRow wc140.heap.size (wv (t))) (wc140.heap.size) (wv (t)) 24 := H242.out.all 0 _ rfl; have g11_1 : Blk ((wc140.alloc (.cells #[.int .u64 0, .int .u64 0, .int .u64 0, .int .u64 0, .int .u64 0, .int .u64 0] 24)).setRow wc140.heap.size (wv (t))) (wc133.heap.size) (wv (r)) 24 := H242.out.all 1 _ rfl; have g11_2 : Blk ((wc140.alloc (.cells #[.int .u64 0, .int .u64 0, .int .u64 0, .int .u64 0, .int .u64 0, .int .u64 0] 24)).setRow wc140.heap.size (wv (t))) (wc130.heap.size) (wv (b)) 24 := H242.out.all 2 _ rfl; have g11_3 : Blk ((wc140.alloc (.cells #[.int .u64 0, .int .u64 0, .int .u64 0, .int .u64 0, .int .u64 0, .int .u64 0] 24)).setRow wc140.heap.size (wv (t))) (wc127.heap.size) (wv (x)) 24 := H242.out.all 3 _ rfl; have g11_4 : Blk ((wc140.alloc (.cells #[.int .u64 0, .int .u64 0, .int .u64 0, .int .u64 0, .int .u64 0, .int .u64 0] 24)).setRow wc140.heap.size (wv (t))) (w.heap.size) (wv (a)) 24 := H242.out.all 4 _ rfl; have tb11 : Tab ((wc140.alloc (.cells #[.int .u64 0, .int .u64 0, .int .u64 0, .int .u64 0, .int .u64 0, .int .u64 0] 24)).setRow wc140.heap.size (wv (t))) := HTab.out.below0 H242.out.le)
    | (go_at_call 26; (with_reducible refine (C7.out _).mono ?_); rintro e wc143 ⟨rfl, bc143⟩; clear C7; have H244 : Hid (Ds [(wc140.heap.size, wv (t), 24), (wc133.heap.size, wv (r), 24), (wc130.heap.size, wv (b), 24), (wc127.heap.size, wv (x), 24), (w.heap.size, wv (a), 24)] w wc143) := Lib.hid (H242.out.call bc143); clear g11_0 g11_1 g11_2 g11_3 g11_4 tb11 bc143 H242; have g12_0 : Blk wc143 (wc140.heap.size) (wv (t)) 24 := H244.out.all 0 _ rfl; have g12_1 : Blk wc143 (wc133.heap.size) (wv (r)) 24 := H244.out.all 1 _ rfl; have g12_2 : Blk wc143 (wc130.heap.size) (wv (b)) 24 := H244.out.all 2 _ rfl; have g12_3 : Blk wc143 (wc127.heap.size) (wv (x)) 24 := H244.out.all 3 _ rfl; have g12_4 : Blk wc143 (w.heap.size) (wv (a)) 24 := H244.out.all 4 _ rfl; have tb12 : Tab wc143 := HTab.out.below0 H244.out.le)
    | (go_at_call 14; (with_reducible refine (CA.out _ (by with_reducible assumption)).mono ?_); rintro e wc145 ⟨rfl, bc145⟩; clear CA; have H246 : Hid (Ds [(wc140.heap.size, wv (t), 24), (wc133.heap.size, wv (r), 24), (wc130.heap.size, wv (b), 24), (wc127.heap.size, wv (x), 24), (w.heap.size, wv (a), 24)] w wc145) := Lib.hid (H244.out.call bc145); clear g12_0 g12_1 g12_2 g12_3 g12_4 tb12 bc145 H244; have g13_0 : Blk wc145 (wc140.heap.size) (wv (t)) 24 := H246.out.all 0 _ rfl; have g13_1 : Blk wc145 (wc133.heap.size) (wv (r)) 24 := H246.out.all 1 _ rfl; have g13_2 : Blk wc145 (wc130.heap.size) (wv (b)) 24 := H246.out.all 2 _ rfl; have g13_3 : Blk wc145 (wc127.heap.size) (wv (x)) 24 := H246.out.all 3 _ rfl; have g13_4 : Blk wc145 (w.heap.size) (wv (a)) 24 := H246.out.all 4 _ rfl; have tb13 : Tab wc145 := HTab.out.below0 H246.out.le))
  go_ret
  exact ⟨rfl, H246.out.le⟩
theorem walk_JamParts (a : Nat) (n : Int) (ha : a < W384) (w : World) (hT : Tab w) : Calls Tryd.prog 8 #[.agg (wv (a)), .int .i64 n] w fun e w' => e = .returned (.bool true) ∧ Below w.heap.size w w' := by
  by_cases hk : (n % 512).toNat % 384 = 0
  · exact walk_JamParts0 a n ha hk w hT
  · by_cases hr : a % 2 ^ ((n % 512).toNat % 384) = 0
    · exact walk_JamParts1 a n ha hk hr w hT
    · exact walk_JamParts2 a n ha hk hr w hT
end Go.Proofs.YtlpgflmjpdhpnaaDoor
