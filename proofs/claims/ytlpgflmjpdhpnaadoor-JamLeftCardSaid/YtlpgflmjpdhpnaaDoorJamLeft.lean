/- The walk of the law JamLeft. -/
import Derived.Test.YtlpgflmjpdhpnaaDoorRows
import Derived.Test.YtlpgflmjpdhpnaaDoorG
import Derived.Test.YtlpgflmjpdhpnaaDoorJc
import Derived.Test.YtlpgflmjpdhpnaaDoorJp
import Derived.Test.YtlpgflmjpdhpnaaDoorJt
import Derived.Test.YtlpgflmjpdhpnaaDoorJq
namespace Go.Proofs.YtlpgflmjpdhpnaaDoor
open Go.RowKit
set_option maxHeartbeats 4000000
set_option maxRecDepth 100000
set_option linter.unusedVariables false
set_option linter.unusedSimpArgs false
set_option exponentiation.threshold 1000
set_option exponentiation.threshold 400
attribute [local irreducible] wv
theorem walk_JamLeft0 (a : Nat) (n : Int) (ha : a < W384) (h0 : a = 0) (w : World) (hT : Tab w) : Calls Tryd.prog 7 #[.agg (wv (a)), .int .i64 n] w fun e w' => e = .returned (.bool true) ∧ Below w.heap.size w w' := by
  have HTab := Lib.hid hT
  clear hT
  obtain ⟨p0, hp0⟩ : ∃ m : Nat, n % 512 = (m : Int) := ⟨(n % 512).toNat, by omega⟩
  obtain ⟨p, hp⟩ : ∃ m : Nat, p0 % 384 = m := ⟨_, rfl⟩
  have lp : p ≤ 383 := by omega
  have Kp0 : bits .and .i64 n 511 = (p0 : Int) := by rw [← hp0]; exact and_i64 n 9 (by decide)
  have Kp : Int.tmod (p0 : Int) 384 = (p : Int) := by rw [Int.tmod_eq_emod_of_nonneg (by omega)]; omega
  have KEp : (p0 : Int) % 384 = (p : Int) := by omega
  have bp0 : p0 ≤ 511 := by omega
  have hm : Tryd.prog.eqGuardType Tryd.prog.depth 24 = false := by kernel_rfl
  have q0 : ∀ w, (binOp .eql 24 (.agg (wv a)) (.agg #[.int .u64 0, .int .u64 0, .int .u64 0, .int .u64 0, .int .u64 0, .int .u64 0])).run Tryd.prog w = .ok (.bool true) w := fun w => by
    rw [← wv_zero]
    have := run_eql_wv Tryd.underlying24 Tryd.underlying22 (by kernel_rfl) a 0 ha W384_pos w
    rwa [decide_eq_true h0] at this
  have C1 : Hid (∀ W, Tab W → Calls Tryd.prog 19 #[.agg (wv (a)), .int .i64 (p : Nat)] W fun e w' => e = .returned (.tuple #[.agg (wv 0), .int .i64 0, .int .i64 2]) ∧ Below W.heap.size W w') := Lib.hid fun W hT => jtop_bad0 a p W ha h0
  have CA : Hid (∀ W, Tab W → Calls Tryd.prog 14 #[] W fun e w' => e = .returned (.bool true) ∧ Below W.heap.size W w') := Lib.hid fun W hT => alive4_c W hT
  clear hp hp0 h0 ha
  go_enter Tryd.func7, Tryd.ntmps7
  have HS0 := Lib.hid ((Ds.nil w).box (wv (a)) 24 (w.heap.size) rfl)
  have g1_0 : Blk (w.alloc (.cells (wv (a)) 24)) (w.heap.size) (wv (a)) 24 := HS0.out.all 0 _ rfl
  have tb1 : Tab (w.alloc (.cells (wv (a)) 24)) := HTab.out.below0 HS0.out.le
  go_wp2_with (first
    | (refine wpList_load_wv rfl 24 _ rfl _ rfl 24 _ _ (by with_reducible assumption) Tryd.underlying24 rfl (by kernel_rfl) ?_)
    | (refine wpList_load_wv_g rfl 24 _ rfl _ rfl 24 _ _ (by with_reducible assumption) Tryd.underlying24 rfl (by kernel_rfl) ?_)
    | (go_at_call 19; (with_reducible refine (C1.out _ (by with_reducible assumption)).mono ?_); rintro e wc68 ⟨rfl, bc68⟩; clear C1; have H169 : Hid (Ds [(w.heap.size, wv (a), 24)] w wc68) := Lib.hid (HS0.out.call bc68); clear g1_0 tb1 bc68 HS0; have g2_0 : Blk wc68 (w.heap.size) (wv (a)) 24 := H169.out.all 0 _ rfl; have tb2 : Tab wc68 := HTab.out.below0 H169.out.le)
    | (refine wpList_store_wv rfl 24 _ _ rfl (wc68.heap.size) (0) rfl rfl 24 0 (Blk.zeroAt _ _ rfl) (by kernel_rfl) ?_; have H170 : Hid (Ds [(wc68.heap.size, wv (0), 24), (w.heap.size, wv (a), 24)] w ((wc68.alloc (.cells #[.int .u64 0, .int .u64 0, .int .u64 0, .int .u64 0, .int .u64 0, .int .u64 0] 24)).setRow wc68.heap.size (wv (0)))) := Lib.hid ((H169.out.box #[.int .u64 0, .int .u64 0, .int .u64 0, .int .u64 0, .int .u64 0, .int .u64 0] 24 _ rfl).setRow 0 (wv (0)) _ _ _ rfl); clear g2_0 tb2 H169; have g3_0 : Blk ((wc68.alloc (.cells #[.int .u64 0, .int .u64 0, .int .u64 0, .int .u64 0, .int .u64 0, .int .u64 0] 24)).setRow wc68.heap.size (wv (0))) (wc68.heap.size) (wv (0)) 24 := H170.out.all 0 _ rfl; have g3_1 : Blk ((wc68.alloc (.cells #[.int .u64 0, .int .u64 0, .int .u64 0, .int .u64 0, .int .u64 0, .int .u64 0] 24)).setRow wc68.heap.size (wv (0))) (w.heap.size) (wv (a)) 24 := H170.out.all 1 _ rfl; have tb3 : Tab ((wc68.alloc (.cells #[.int .u64 0, .int .u64 0, .int .u64 0, .int .u64 0, .int .u64 0, .int .u64 0] 24)).setRow wc68.heap.size (wv (0))) := HTab.out.below0 H170.out.le)
    | (go_at_call 14; (with_reducible refine (CA.out _ (by with_reducible assumption)).mono ?_); rintro e wc71 ⟨rfl, bc71⟩; clear CA; have H172 : Hid (Ds [(wc68.heap.size, wv (0), 24), (w.heap.size, wv (a), 24)] w wc71) := Lib.hid (H170.out.call bc71); clear g3_0 g3_1 tb3 bc71 H170; have g4_0 : Blk wc71 (wc68.heap.size) (wv (0)) 24 := H172.out.all 0 _ rfl; have g4_1 : Blk wc71 (w.heap.size) (wv (a)) 24 := H172.out.all 1 _ rfl; have tb4 : Tab wc71 := HTab.out.below0 H172.out.le))
  go_ret
  exact ⟨rfl, H172.out.le⟩
theorem walk_JamLeft1 (a : Nat) (n : Int) (ha : a < W384) (h0 : ¬ a = 0) (hk : (n % 512).toNat % 384 + 1 < lenW a) (w : World) (hT : Tab w) : Calls Tryd.prog 7 #[.agg (wv (a)), .int .i64 n] w fun e w' => e = .returned (.bool true) ∧ Below w.heap.size w w' := by
  have HTab := Lib.hid hT
  clear hT
  obtain ⟨p0, hp0⟩ : ∃ m : Nat, n % 512 = (m : Int) := ⟨(n % 512).toNat, by omega⟩
  obtain ⟨p, hp⟩ : ∃ m : Nat, p0 % 384 = m := ⟨_, rfl⟩
  have lp : p ≤ 383 := by omega
  have Kp0 : bits .and .i64 n 511 = (p0 : Int) := by rw [← hp0]; exact and_i64 n 9 (by decide)
  have Kp : Int.tmod (p0 : Int) 384 = (p : Int) := by rw [Int.tmod_eq_emod_of_nonneg (by omega)]; omega
  have KEp : (p0 : Int) % 384 = (p : Int) := by omega
  have bp0 : p0 ≤ 511 := by omega
  have hlp := len_pos ha h0
  obtain ⟨hlo, hl4⟩ := lenW_spec ha
  obtain ⟨l, hlw⟩ : ∃ l, lenW a = l := ⟨_, rfl⟩
  rw [hlw] at hlo hl4 hlp
  obtain ⟨q, hq⟩ : ∃ q, p + 1 = q := ⟨_, rfl⟩
  have KQ : (p : Int) + 1 = (q : Int) := by omega
  have lq : q ≤ 384 := by omega
  have hn : p0 = (n % 512).toNat := by omega
  rw [hlw, show (n % 512).toNat % 384 + 1 = q by omega] at hk
  obtain ⟨c, hc⟩ : ∃ c, l - q = c := ⟨_, rfl⟩
  have hB : topB a p = jamR a c := by unfold topB; rw [hlw, hq, if_pos hk, hc]
  have lB : LenOf (topB a p) q := by rw [hB, show q = l - c by omega]; exact jamR_len hlo (by omega)
  have bB : topB a p < W384 := by rw [hB]; exact jamR_lt ha
  obtain ⟨x, hx⟩ : ∃ x, topB a p = x := ⟨_, rfl⟩
  rw [hx] at lB bB
  have KL : (q : Int) - (l : Int) = -(c : Int) := by omega
  have K2 : -(c : Int) < 0 := by omega
  have hm : Tryd.prog.eqGuardType Tryd.prog.depth 24 = false := by kernel_rfl
  have q0 : ∀ w, (binOp .eql 24 (.agg (wv a)) (.agg #[.int .u64 0, .int .u64 0, .int .u64 0, .int .u64 0, .int .u64 0, .int .u64 0])).run Tryd.prog w = .ok (.bool false) w := fun w => by
    rw [← wv_zero]
    have := run_eql_wv Tryd.underlying24 Tryd.underlying22 (by kernel_rfl) a 0 ha W384_pos w
    rwa [decide_eq_false h0] at this
  have C1 : Hid (∀ W, Tab W → Calls Tryd.prog 19 #[.agg (wv (a)), .int .i64 (p : Nat)] W fun e w' => e = .returned (.tuple #[.agg (wv x), .int .i64 (-(c : Int)), .int .i64 0]) ∧ Below W.heap.size W w') := Lib.hid fun W hT => by
    have := jtop_down a p W ha h0 lp (by rw [hlw]; omega) hT
    rwa [hx, show (p : Int) + 1 - (lenW a : Nat) = -(c : Int) by rw [hlw]; omega] at this
  have C2 : Hid (∀ W, Calls Tryd.prog 21 #[.agg (wv (x))] W fun e w' => e = .returned (.int .i64 (q : Nat)) ∧ Below W.heap.size W w') := Lib.hid fun W => by have := wlen_c x W bB; rwa [len_of bB lB] at this
  have C3 : Hid (∀ W, Calls Tryd.prog 21 #[.agg (wv (a))] W fun e w' => e = .returned (.int .i64 (l : Nat)) ∧ Below W.heap.size W w') := Lib.hid fun W => by have := wlen_c a W ha; rwa [hlw] at this
  have CA : Hid (∀ W, Tab W → Calls Tryd.prog 14 #[] W fun e w' => e = .returned (.bool true) ∧ Below W.heap.size W w') := Lib.hid fun W hT => alive4_c W hT
  clear hp hp0 hlp hlo hlw hq hn hk hc hB lB bB hx h0 ha
  go_enter Tryd.func7, Tryd.ntmps7
  have HS0 := Lib.hid ((Ds.nil w).box (wv (a)) 24 (w.heap.size) rfl)
  have g1_0 : Blk (w.alloc (.cells (wv (a)) 24)) (w.heap.size) (wv (a)) 24 := HS0.out.all 0 _ rfl
  have tb1 : Tab (w.alloc (.cells (wv (a)) 24)) := HTab.out.below0 HS0.out.le
  go_wp2_with (first
    | (refine wpList_load_wv rfl 24 _ rfl _ rfl 24 _ _ (by with_reducible assumption) Tryd.underlying24 rfl (by kernel_rfl) ?_)
    | (refine wpList_load_wv_g rfl 24 _ rfl _ rfl 24 _ _ (by with_reducible assumption) Tryd.underlying24 rfl (by kernel_rfl) ?_)
    | (go_at_call 19; (with_reducible refine (C1.out _ (by with_reducible assumption)).mono ?_); rintro e wc73 ⟨rfl, bc73⟩; clear C1; have H174 : Hid (Ds [(w.heap.size, wv (a), 24)] w wc73) := Lib.hid (HS0.out.call bc73); clear g1_0 tb1 bc73 HS0; have g2_0 : Blk wc73 (w.heap.size) (wv (a)) 24 := H174.out.all 0 _ rfl; have tb2 : Tab wc73 := HTab.out.below0 H174.out.le)
    | (refine wpList_store_wv rfl 24 _ _ rfl (wc73.heap.size) (x) rfl rfl 24 0 (Blk.zeroAt _ _ rfl) (by kernel_rfl) ?_; have H175 : Hid (Ds [(wc73.heap.size, wv (x), 24), (w.heap.size, wv (a), 24)] w ((wc73.alloc (.cells #[.int .u64 0, .int .u64 0, .int .u64 0, .int .u64 0, .int .u64 0, .int .u64 0] 24)).setRow wc73.heap.size (wv (x)))) := Lib.hid ((H174.out.box #[.int .u64 0, .int .u64 0, .int .u64 0, .int .u64 0, .int .u64 0, .int .u64 0] 24 _ rfl).setRow 0 (wv (x)) _ _ _ rfl); clear g2_0 tb2 H174; have g3_0 : Blk ((wc73.alloc (.cells #[.int .u64 0, .int .u64 0, .int .u64 0, .int .u64 0, .int .u64 0, .int .u64 0] 24)).setRow wc73.heap.size (wv (x))) (wc73.heap.size) (wv (x)) 24 := H175.out.all 0 _ rfl; have g3_1 : Blk ((wc73.alloc (.cells #[.int .u64 0, .int .u64 0, .int .u64 0, .int .u64 0, .int .u64 0, .int .u64 0] 24)).setRow wc73.heap.size (wv (x))) (w.heap.size) (wv (a)) 24 := H175.out.all 1 _ rfl; have tb3 : Tab ((wc73.alloc (.cells #[.int .u64 0, .int .u64 0, .int .u64 0, .int .u64 0, .int .u64 0, .int .u64 0] 24)).setRow wc73.heap.size (wv (x))) := HTab.out.below0 H175.out.le)
    | (go_at_call 21; (with_reducible refine (C2.out _).mono ?_); rintro e wc76 ⟨rfl, bc76⟩; clear C2; have H177 : Hid (Ds [(wc73.heap.size, wv (x), 24), (w.heap.size, wv (a), 24)] w wc76) := Lib.hid (H175.out.call bc76); clear g3_0 g3_1 tb3 bc76 H175; have g4_0 : Blk wc76 (wc73.heap.size) (wv (x)) 24 := H177.out.all 0 _ rfl; have g4_1 : Blk wc76 (w.heap.size) (wv (a)) 24 := H177.out.all 1 _ rfl; have tb4 : Tab wc76 := HTab.out.below0 H177.out.le)
    | (go_at_call 21; (with_reducible refine (C3.out _).mono ?_); rintro e wc78 ⟨rfl, bc78⟩; clear C3; have H179 : Hid (Ds [(wc73.heap.size, wv (x), 24), (w.heap.size, wv (a), 24)] w wc78) := Lib.hid (H177.out.call bc78); clear g4_0 g4_1 tb4 bc78 H177; have g5_0 : Blk wc78 (wc73.heap.size) (wv (x)) 24 := H179.out.all 0 _ rfl; have g5_1 : Blk wc78 (w.heap.size) (wv (a)) 24 := H179.out.all 1 _ rfl; have tb5 : Tab wc78 := HTab.out.below0 H179.out.le)
    | (go_at_call 14; (with_reducible refine (CA.out _ (by with_reducible assumption)).mono ?_); rintro e wc80 ⟨rfl, bc80⟩; clear CA; have H181 : Hid (Ds [(wc73.heap.size, wv (x), 24), (w.heap.size, wv (a), 24)] w wc80) := Lib.hid (H179.out.call bc80); clear g5_0 g5_1 tb5 bc80 H179; have g6_0 : Blk wc80 (wc73.heap.size) (wv (x)) 24 := H181.out.all 0 _ rfl; have g6_1 : Blk wc80 (w.heap.size) (wv (a)) 24 := H181.out.all 1 _ rfl; have tb6 : Tab wc80 := HTab.out.below0 H181.out.le))
  go_ret
  exact ⟨rfl, H181.out.le⟩
theorem walk_JamLeft2 (a : Nat) (n : Int) (ha : a < W384) (h0 : ¬ a = 0) (hk : ¬ (n % 512).toNat % 384 + 1 < lenW a) (w : World) (hT : Tab w) : Calls Tryd.prog 7 #[.agg (wv (a)), .int .i64 n] w fun e w' => e = .returned (.bool true) ∧ Below w.heap.size w w' := by
  have HTab := Lib.hid hT
  clear hT
  obtain ⟨p0, hp0⟩ : ∃ m : Nat, n % 512 = (m : Int) := ⟨(n % 512).toNat, by omega⟩
  obtain ⟨p, hp⟩ : ∃ m : Nat, p0 % 384 = m := ⟨_, rfl⟩
  have lp : p ≤ 383 := by omega
  have Kp0 : bits .and .i64 n 511 = (p0 : Int) := by rw [← hp0]; exact and_i64 n 9 (by decide)
  have Kp : Int.tmod (p0 : Int) 384 = (p : Int) := by rw [Int.tmod_eq_emod_of_nonneg (by omega)]; omega
  have KEp : (p0 : Int) % 384 = (p : Int) := by omega
  have bp0 : p0 ≤ 511 := by omega
  have hlp := len_pos ha h0
  obtain ⟨hlo, hl4⟩ := lenW_spec ha
  obtain ⟨l, hlw⟩ : ∃ l, lenW a = l := ⟨_, rfl⟩
  rw [hlw] at hlo hl4 hlp
  obtain ⟨q, hq⟩ : ∃ q, p + 1 = q := ⟨_, rfl⟩
  have KQ : (p : Int) + 1 = (q : Int) := by omega
  have lq : q ≤ 384 := by omega
  have hn : p0 = (n % 512).toNat := by omega
  rw [hlw, show (n % 512).toNat % 384 + 1 = q by omega] at hk
  obtain ⟨c, hc⟩ : ∃ c, q - l = c := ⟨_, rfl⟩
  have hB0 : topB a p = leftW a c := by unfold topB; rw [hlw, hq, if_neg hk, hc]
  have hB : topB a p = a * 2 ^ c := by rw [hB0]; exact left_eq hlo (by omega)
  have lB : LenOf (topB a p) q := by rw [hB, show q = l + c by omega]; exact len_mul c hlo hlp
  have bB : topB a p < W384 := by rw [hB0]; exact leftW_lt _ _
  have hR : topB a p / 2 ^ c = a := by rw [hB, Nat.mul_div_cancel _ (Nat.two_pow_pos c)]
  have hcc : clamp (c : Int) 384 = c := by unfold clamp; omega
  obtain ⟨x, hx⟩ : ∃ x, topB a p = x := ⟨_, rfl⟩
  rw [hx] at lB bB hR
  obtain ⟨u, hu⟩ : ∃ o, decide (x % 2 ^ c ≠ 0) = o := ⟨_, rfl⟩
  have KL : (q : Int) - (l : Int) = (c : Int) := by omega
  have K2 : ¬ (c : Int) < 0 := by omega
  have hm : Tryd.prog.eqGuardType Tryd.prog.depth 24 = false := by kernel_rfl
  have q0 : ∀ w, (binOp .eql 24 (.agg (wv a)) (.agg #[.int .u64 0, .int .u64 0, .int .u64 0, .int .u64 0, .int .u64 0, .int .u64 0])).run Tryd.prog w = .ok (.bool false) w := fun w => by
    rw [← wv_zero]
    have := run_eql_wv Tryd.underlying24 Tryd.underlying22 (by kernel_rfl) a 0 ha W384_pos w
    rwa [decide_eq_false h0] at this
  have q1 : ∀ w, (binOp .eql 24 (.agg (wv (a))) (.agg (wv (a)))).run Tryd.prog w = .ok (.bool true) w := fun w => by
    have := run_eql_wv Tryd.underlying24 Tryd.underlying22 (by kernel_rfl) (a) (a) (ha) (ha) w
    rwa [decide_eq_true rfl] at this
  have C1 : Hid (∀ W, Tab W → Calls Tryd.prog 19 #[.agg (wv (a)), .int .i64 (p : Nat)] W fun e w' => e = .returned (.tuple #[.agg (wv x), .int .i64 (c : Nat), .int .i64 0]) ∧ Below W.heap.size W w') := Lib.hid fun W hT => by
    have := jtop_up a p W ha h0 lp (by rw [hlw]; omega) hT
    rwa [hx, show (p : Int) + 1 - (lenW a : Nat) = (c : Int) by rw [hlw]; omega] at this
  have C2 : Hid (∀ W, Calls Tryd.prog 21 #[.agg (wv (x))] W fun e w' => e = .returned (.int .i64 (q : Nat)) ∧ Below W.heap.size W w') := Lib.hid fun W => by have := wlen_c x W bB; rwa [len_of bB lB] at this
  have C3 : Hid (∀ W, Calls Tryd.prog 21 #[.agg (wv (a))] W fun e w' => e = .returned (.int .i64 (l : Nat)) ∧ Below W.heap.size W w') := Lib.hid fun W => by have := wlen_c a W ha; rwa [hlw] at this
  have C4 : Hid (∀ W, Tab W → Calls Tryd.prog 22 #[.agg (wv (x)), .int .i64 (c : Nat)] W fun e w' => e = .returned (.tuple #[.agg (wv a), .bool u]) ∧ Below W.heap.size W w') := Lib.hid fun W hT => by have := wright_c x c W bB hT; rwa [hcc, hR, hu] at this
  have CA : Hid (∀ W, Tab W → Calls Tryd.prog 14 #[] W fun e w' => e = .returned (.bool true) ∧ Below W.heap.size W w') := Lib.hid fun W hT => alive4_c W hT
  clear hp hp0 hlp hlo hlw hq hn hk hc hB0 hB lB bB hR hcc hx hu h0 ha
  go_enter Tryd.func7, Tryd.ntmps7
  have HS0 := Lib.hid ((Ds.nil w).box (wv (a)) 24 (w.heap.size) rfl)
  have g1_0 : Blk (w.alloc (.cells (wv (a)) 24)) (w.heap.size) (wv (a)) 24 := HS0.out.all 0 _ rfl
  have tb1 : Tab (w.alloc (.cells (wv (a)) 24)) := HTab.out.below0 HS0.out.le
  go_wp2_with (first
    | (refine wpList_load_wv rfl 24 _ rfl _ rfl 24 _ _ (by with_reducible assumption) Tryd.underlying24 rfl (by kernel_rfl) ?_)
    | (refine wpList_load_wv_g rfl 24 _ rfl _ rfl 24 _ _ (by with_reducible assumption) Tryd.underlying24 rfl (by kernel_rfl) ?_)
    | (go_at_call 19; (with_reducible refine (C1.out _ (by with_reducible assumption)).mono ?_); rintro e wc82 ⟨rfl, bc82⟩; clear C1; have H183 : Hid (Ds [(w.heap.size, wv (a), 24)] w wc82) := Lib.hid (HS0.out.call bc82); clear g1_0 tb1 bc82 HS0; have g2_0 : Blk wc82 (w.heap.size) (wv (a)) 24 := H183.out.all 0 _ rfl; have tb2 : Tab wc82 := HTab.out.below0 H183.out.le)
    | (refine wpList_store_wv rfl 24 _ _ rfl (wc82.heap.size) (x) rfl rfl 24 0 (Blk.zeroAt _ _ rfl) (by kernel_rfl) ?_; have H184 : Hid (Ds [(wc82.heap.size, wv (x), 24), (w.heap.size, wv (a), 24)] w ((wc82.alloc (.cells #[.int .u64 0, .int .u64 0, .int .u64 0, .int .u64 0, .int .u64 0, .int .u64 0] 24)).setRow wc82.heap.size (wv (x)))) := Lib.hid ((H183.out.box #[.int .u64 0, .int .u64 0, .int .u64 0, .int .u64 0, .int .u64 0, .int .u64 0] 24 _ rfl).setRow 0 (wv (x)) _ _ _ rfl); clear g2_0 tb2 H183; have g3_0 : Blk ((wc82.alloc (.cells #[.int .u64 0, .int .u64 0, .int .u64 0, .int .u64 0, .int .u64 0, .int .u64 0] 24)).setRow wc82.heap.size (wv (x))) (wc82.heap.size) (wv (x)) 24 := H184.out.all 0 _ rfl; have g3_1 : Blk ((wc82.alloc (.cells #[.int .u64 0, .int .u64 0, .int .u64 0, .int .u64 0, .int .u64 0, .int .u64 0] 24)).setRow wc82.heap.size (wv (x))) (w.heap.size) (wv (a)) 24 := H184.out.all 1 _ rfl; have tb3 : Tab ((wc82.alloc (.cells #[.int .u64 0, .int .u64 0, .int .u64 0, .int .u64 0, .int .u64 0, .int .u64 0] 24)).setRow wc82.heap.size (wv (x))) := HTab.out.below0 H184.out.le)
    | (go_at_call 21; (with_reducible refine (C2.out _).mono ?_); rintro e wc85 ⟨rfl, bc85⟩; clear C2; have H186 : Hid (Ds [(wc82.heap.size, wv (x), 24), (w.heap.size, wv (a), 24)] w wc85) := Lib.hid (H184.out.call bc85); clear g3_0 g3_1 tb3 bc85 H184; have g4_0 : Blk wc85 (wc82.heap.size) (wv (x)) 24 := H186.out.all 0 _ rfl; have g4_1 : Blk wc85 (w.heap.size) (wv (a)) 24 := H186.out.all 1 _ rfl; have tb4 : Tab wc85 := HTab.out.below0 H186.out.le)
    | (go_at_call 21; (with_reducible refine (C3.out _).mono ?_); rintro e wc87 ⟨rfl, bc87⟩; clear C3; have H188 : Hid (Ds [(wc82.heap.size, wv (x), 24), (w.heap.size, wv (a), 24)] w wc87) := Lib.hid (H186.out.call bc87); clear g4_0 g4_1 tb4 bc87 H186; have g5_0 : Blk wc87 (wc82.heap.size) (wv (x)) 24 := H188.out.all 0 _ rfl; have g5_1 : Blk wc87 (w.heap.size) (wv (a)) 24 := H188.out.all 1 _ rfl; have tb5 : Tab wc87 := HTab.out.below0 H188.out.le)
    | (go_at_call 22; (with_reducible refine (C4.out _ (by with_reducible assumption)).mono ?_); rintro e wc89 ⟨rfl, bc89⟩; clear C4; have H190 : Hid (Ds [(wc82.heap.size, wv (x), 24), (w.heap.size, wv (a), 24)] w wc89) := Lib.hid (H188.out.call bc89); clear g5_0 g5_1 tb5 bc89 H188; have g6_0 : Blk wc89 (wc82.heap.size) (wv (x)) 24 := H190.out.all 0 _ rfl; have g6_1 : Blk wc89 (w.heap.size) (wv (a)) 24 := H190.out.all 1 _ rfl; have tb6 : Tab wc89 := HTab.out.below0 H190.out.le)
    | (refine wpList_store_wv rfl 24 _ _ rfl (wc89.heap.size) (a) rfl rfl 24 0 (Blk.zeroAt _ _ rfl) (by kernel_rfl) ?_; have H191 : Hid (Ds [(wc89.heap.size, wv (a), 24), (wc82.heap.size, wv (x), 24), (w.heap.size, wv (a), 24)] w ((wc89.alloc (.cells #[.int .u64 0, .int .u64 0, .int .u64 0, .int .u64 0, .int .u64 0, .int .u64 0] 24)).setRow wc89.heap.size (wv (a)))) := Lib.hid ((H190.out.box #[.int .u64 0, .int .u64 0, .int .u64 0, .int .u64 0, .int .u64 0, .int .u64 0] 24 _ rfl).setRow 0 (wv (a)) _ _ _ rfl); clear g6_0 g6_1 tb6 H190; have g7_0 : Blk ((wc89.alloc (.cells #[.int .u64 0, .int .u64 0, .int .u64 0, .int .u64 0, .int .u64 0, .int .u64 0] 24)).setRow wc89.heap.size (wv (a))) (wc89.heap.size) (wv (a)) 24 := H191.out.all 0 _ rfl; have g7_1 : Blk ((wc89.alloc (.cells #[.int .u64 0, .int .u64 0, .int .u64 0, .int .u64 0, .int .u64 0, .int .u64 0] 24)).setRow wc89.heap.size (wv (a))) (wc82.heap.size) (wv (x)) 24 := H191.out.all 1 _ rfl; have g7_2 : Blk ((wc89.alloc (.cells #[.int .u64 0, .int .u64 0, .int .u64 0, .int .u64 0, .int .u64 0, .int .u64 0] 24)).setRow wc89.heap.size (wv (a))) (w.heap.size) (wv (a)) 24 := H191.out.all 2 _ rfl; have tb7 : Tab ((wc89.alloc (.cells #[.int .u64 0, .int .u64 0, .int .u64 0, .int .u64 0, .int .u64 0, .int .u64 0] 24)).setRow wc89.heap.size (wv (a))) := HTab.out.below0 H191.out.le)
    | (go_at_call 14; (with_reducible refine (CA.out _ (by with_reducible assumption)).mono ?_); rintro e wc92 ⟨rfl, bc92⟩; clear CA; have H193 : Hid (Ds [(wc89.heap.size, wv (a), 24), (wc82.heap.size, wv (x), 24), (w.heap.size, wv (a), 24)] w wc92) := Lib.hid (H191.out.call bc92); clear g7_0 g7_1 g7_2 tb7 bc92 H191; have g8_0 : Blk wc92 (wc89.heap.size) (wv (a)) 24 := H193.out.all 0 _ rfl; have g8_1 : Blk wc92 (wc82.heap.size) (wv (x)) 24 := H193.out.all 1 _ rfl; have g8_2 : Blk wc92 (w.heap.size) (wv (a)) 24 := H193.out.all 2 _ rfl; have tb8 : Tab wc92 := HTab.out.below0 H193.out.le))
  go_ret
  exact ⟨rfl, H193.out.le⟩
theorem walk_JamLeft (a : Nat) (n : Int) (ha : a < W384) (w : World) (hT : Tab w) : Calls Tryd.prog 7 #[.agg (wv (a)), .int .i64 n] w fun e w' => e = .returned (.bool true) ∧ Below w.heap.size w w' := by
  by_cases h0 : a = 0
  · exact walk_JamLeft0 a n ha h0 w hT
  · by_cases hk : (n % 512).toNat % 384 + 1 < lenW a
    · exact walk_JamLeft1 a n ha h0 hk w hT
    · exact walk_JamLeft2 a n ha h0 hk w hT
end Go.Proofs.YtlpgflmjpdhpnaaDoor
