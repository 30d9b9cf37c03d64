/- The law DecodeNoBit: its walk. -/
import Derived.Test.YtaddmgclnbkdgaaLb
namespace Go.Proofs.Ytaddmgclnbkdgaa
open Go Go.RowKit
set_option maxHeartbeats 4000000
set_option maxRecDepth 100000
set_option linter.unusedVariables false
set_option linter.unusedSimpArgs false
theorem nobit_0 (v u t : Nat) (W : World) (hv32 : v < 4294967296) (hu32 : u < 4294967296) (ht32 : t < 4294967296) (hx : v ^^^ t = u) (hv : DEC v = none) (hu : DEC u = none) :
    Calls Try.prog 12 #[.int .u32 v, .int .u32 t] W fun e w' => e = .returned (.bool true) ∧ Below W.heap.size W w' := by
  have C1 : Hid (∀ X, Calls Try.prog 22 #[.int .u32 v] X fun e w' => e = .returned (.tuple #[.agg (instV zeroI), .int .i64 250]) ∧ Below X.heap.size X w') := Lib.hid fun X => by
    have := decode_c X v hv32; unfold DecP at this; rw [hv] at this; exact this
  have C2 : Hid (∀ X, Calls Try.prog 22 #[.int .u32 u] X fun e w' => e = .returned (.tuple #[.agg (instV zeroI), .int .i64 250]) ∧ Below X.heap.size X w') := Lib.hid fun X => by
    have := decode_c X u hu32; unfold DecP at this; rw [hu] at this; exact this
  have C3 := Lib.hid lives25
  have e1 : bits .xor .u32 (v : Int) (t : Int) = ((u : Nat) : Int) := by rw [← hx]; exact xor32 v t hv32 ht32
  clear hv hu hx
  go_enter Try.func12, Try.ntmps12
  go_wp2_with (first
    | (go_at_call 22; (with_reducible refine (C1.out _).mono ?_); rintro e w1 ⟨rfl, b1⟩; clear C1)
    | (go_at_call 22; (with_reducible refine (C2.out _).mono ?_); rintro e w2 ⟨rfl, b2⟩; clear C2; have q1 := (Blk.nlater b2).alloc (.cells (instV zeroI) 27); have q2 := Blk.new w2 (instV zeroI) 27)
    | (refine wpList_load_blk_on rfl _ _ rfl _ rfl _ _ _ q1 Try.underlying27 rfl (by kernel_rfl) ?_)
    | (refine wpList_load_blk_on rfl _ _ rfl _ rfl _ _ _ q2 Try.underlying27 rfl (by kernel_rfl) ?_)
    | (go_at_call 40; (with_reducible refine (C3.out _).mono ?_); rintro e w3 ⟨rfl, b3⟩; clear C3))
  go_ret
  have c2 := below_acall b1 b1.size b2
  exact ⟨rfl, below_acall c2 c2.size b3⟩
theorem nobit_1 (v u t : Nat) (W : World) (hv32 : v < 4294967296) (hu32 : u < 4294967296) (ht32 : t < 4294967296) (hx : v ^^^ t = u) (hv : DEC v = none) (b : I11) (hu : DEC u = some b) :
    Calls Try.prog 12 #[.int .u32 v, .int .u32 t] W fun e w' => e = .returned (.bool true) ∧ Below W.heap.size W w' := by
  have C1 : Hid (∀ X, Calls Try.prog 22 #[.int .u32 v] X fun e w' => e = .returned (.tuple #[.agg (instV zeroI), .int .i64 250]) ∧ Below X.heap.size X w') := Lib.hid fun X => by
    have := decode_c X v hv32; unfold DecP at this; rw [hv] at this; exact this
  have C2 : Hid (∀ X, Calls Try.prog 22 #[.int .u32 u] X fun e w' => e = .returned (.tuple #[.agg (instV b), .int .i64 0]) ∧ Below X.heap.size X w') := Lib.hid fun X => by
    have := decode_c X u hu32; unfold DecP at this; rw [hu] at this; exact this
  have C3 := Lib.hid lives25
  have e1 : bits .xor .u32 (v : Int) (t : Int) = ((u : Nat) : Int) := by rw [← hx]; exact xor32 v t hv32 ht32
  clear hv hu hx
  go_enter Try.func12, Try.ntmps12
  go_wp2_with (first
    | (go_at_call 22; (with_reducible refine (C1.out _).mono ?_); rintro e w1 ⟨rfl, b1⟩; clear C1)
    | (go_at_call 22; (with_reducible refine (C2.out _).mono ?_); rintro e w2 ⟨rfl, b2⟩; clear C2; have q1 := (Blk.nlater b2).alloc (.cells (instV b) 27); have q2 := Blk.new w2 (instV b) 27)
    | (refine wpList_load_blk_on rfl _ _ rfl _ rfl _ _ _ q1 Try.underlying27 rfl (by kernel_rfl) ?_)
    | (refine wpList_load_blk_on rfl _ _ rfl _ rfl _ _ _ q2 Try.underlying27 rfl (by kernel_rfl) ?_)
    | (go_at_call 40; (with_reducible refine (C3.out _).mono ?_); rintro e w3 ⟨rfl, b3⟩; clear C3))
  go_ret
  have c2 := below_acall b1 b1.size b2
  exact ⟨rfl, below_acall c2 c2.size b3⟩
theorem nobit_2 (v u t : Nat) (W : World) (hv32 : v < 4294967296) (hu32 : u < 4294967296) (ht32 : t < 4294967296) (hx : v ^^^ t = u) (a : I11) (hv : DEC v = some a) (hu : DEC u = none) :
    Calls Try.prog 12 #[.int .u32 v, .int .u32 t] W fun e w' => e = .returned (.bool true) ∧ Below W.heap.size W w' := by
  have C1 : Hid (∀ X, Calls Try.prog 22 #[.int .u32 v] X fun e w' => e = .returned (.tuple #[.agg (instV a), .int .i64 0]) ∧ Below X.heap.size X w') := Lib.hid fun X => by
    have := decode_c X v hv32; unfold DecP at this; rw [hv] at this; exact this
  have C2 : Hid (∀ X, Calls Try.prog 22 #[.int .u32 u] X fun e w' => e = .returned (.tuple #[.agg (instV zeroI), .int .i64 250]) ∧ Below X.heap.size X w') := Lib.hid fun X => by
    have := decode_c X u hu32; unfold DecP at this; rw [hu] at this; exact this
  have C3 := Lib.hid lives25
  have e1 : bits .xor .u32 (v : Int) (t : Int) = ((u : Nat) : Int) := by rw [← hx]; exact xor32 v t hv32 ht32
  clear hv hu hx
  go_enter Try.func12, Try.ntmps12
  go_wp2_with (first
    | (go_at_call 22; (with_reducible refine (C1.out _).mono ?_); rintro e w1 ⟨rfl, b1⟩; clear C1)
    | (go_at_call 22; (with_reducible refine (C2.out _).mono ?_); rintro e w2 ⟨rfl, b2⟩; clear C2; have q1 := (Blk.nlater b2).alloc (.cells (instV zeroI) 27); have q2 := Blk.new w2 (instV zeroI) 27)
    | (refine wpList_load_blk_on rfl _ _ rfl _ rfl _ _ _ q1 Try.underlying27 rfl (by kernel_rfl) ?_)
    | (refine wpList_load_blk_on rfl _ _ rfl _ rfl _ _ _ q2 Try.underlying27 rfl (by kernel_rfl) ?_)
    | (go_at_call 40; (with_reducible refine (C3.out _).mono ?_); rintro e w3 ⟨rfl, b3⟩; clear C3))
  go_ret
  have c2 := below_acall b1 b1.size b2
  exact ⟨rfl, below_acall c2 c2.size b3⟩
theorem xor_pow_ne (v k : Nat) : v ^^^ 2 ^ k ≠ v := by
  intro h
  have := congrArg (·.testBit k) h
  simp only [Nat.testBit_xor, Nat.testBit_two_pow_self] at this
  cases hv : v.testBit k <;> rw [hv] at this <;> simp at this
theorem nobit_both (v u t : Nat) (W : World) (hv32 : v < 4294967296) (hu32 : u < 4294967296) (ht32 : t < 4294967296) (hx : v ^^^ t = u) (a b : I11) (hv : DEC v = some a) (hu : DEC u = some b) :
    Calls Try.prog 12 #[.int .u32 v, .int .u32 t] W fun e w' => e = .returned (.bool true) ∧ Below W.heap.size W w' := by
  have C1 : Hid (∀ X, Calls Try.prog 22 #[.int .u32 v] X fun e w' => e = .returned (.tuple #[.agg (instV a), .int .i64 0]) ∧ Below X.heap.size X w') := Lib.hid fun X => by
    have := decode_c X v hv32; unfold DecP at this; rw [hv] at this; exact this
  have C2 : Hid (∀ X, Calls Try.prog 22 #[.int .u32 u] X fun e w' => e = .returned (.tuple #[.agg (instV b), .int .i64 0]) ∧ Below X.heap.size X w') := Lib.hid fun X => by
    have := decode_c X u hu32; unfold DecP at this; rw [hu] at this; exact this
  have C3 := Lib.hid lives25
  have e1 : bits .xor .u32 (v : Int) (t : Int) = ((u : Nat) : Int) := by rw [← hx]; exact xor32 v t hv32 ht32
  obtain ⟨same, hs⟩ : ∃ s, decide (a = b) = s := ⟨_, rfl⟩
  have hs2 : ((v : Int) == (u : Int)) = same := by
    rw [← hs, Bool.eq_iff_iff]
    simp only [beq_iff_eq, decide_eq_true_eq]
    constructor
    · intro h
      have : v = u := by omega
      subst this
      rw [hv] at hu
      exact Option.some.inj hu
    · rintro rfl
      have := dec_inj hv32 hu32 hv hu
      omega
  have hab : ∀ X, (binOp .eql 27 (.agg (instV a)) (.agg (instV b))).run Try.prog X = .ok (.bool same) X := fun X => by rw [eq_inst, hs]
  have HV := Lib.hid hv
  clear hv hu hx hs
  go_enter Try.func12, Try.ntmps12
  go_wp2_with (first
    | (go_at_call 22; (with_reducible refine (C1.out _).mono ?_); rintro e w1 ⟨rfl, b1⟩; clear C1)
    | (go_at_call 22; (with_reducible refine (C2.out _).mono ?_); rintro e w2 ⟨rfl, b2⟩; clear C2))
  have q1 := (Blk.nlater b2).alloc (.cells (instV b) 27)
  have q2 := Blk.new w2 (instV b) 27
  have c2 := below_acall b1 b1.size b2
  have kB := c2.alloc c2.size (.cells (instV b) 27)
  have Q1 := Lib.hid q1
  have Q2 := Lib.hid q2
  have KB := Lib.hid kB
  clear q1 q2 c2 kB
  go_loopw [10] (fun i wr => ∃ k : Nat, k ≤ 32 ∧ i = .int .i64 k ∧ Blk wr w1.heap.size (instV a) 27 ∧ Blk wr w2.heap.size (instV b) 27 ∧ Below W.heap.size W wr) (fun i _ => 32 - (intOf i).toNat)
  case atStart => exact ⟨0, by omega, rfl, Q1.out, Q2.out, KB.out⟩
  case round =>
    obtain ⟨k, hk, rfl, i1, i2, i3⟩ := hrel
    clear Q1 Q2 KB
    by_cases hlt : k < 32
    · obtain ⟨p, hp⟩ : ∃ p, 2 ^ k = p := ⟨_, rfl⟩
      have hp32 := pow_lt32 hlt hp
      obtain ⟨x, hx⟩ : ∃ x, v ^^^ p = x := ⟨_, rfl⟩
      have hx32 : x < 4294967296 := by rw [← hx]; exact Nat.xor_lt_two_pow (n := 32) hv32 hp32
      have e2 : bits .xor .u32 (v : Int) (p : Int) = ((x : Nat) : Int) := by rw [← hx]; exact xor32 v p hv32 hp32
      have e3 : (2 : Int) ^ k % 4294967296 = ((p : Nat) : Int) := by
        have h2 : ((2 : Int) ^ k) = ((p : Nat) : Int) := by rw [← hp]; simp
        rw [h2]; omega
      have hne : x ≠ v := by rw [← hx, ← hp]; exact xor_pow_ne v k
      have I1 := Lib.hid i1
      have I2 := Lib.hid i2
      have I3 := Lib.hid i3
      clear hx hp i1 i2 i3
      cases hd : DEC x with
      | none =>
        have C4 : Hid (∀ X, Calls Try.prog 22 #[.int .u32 x] X fun e w' => e = .returned (.tuple #[.agg (instV zeroI), .int .i64 250]) ∧ Below X.heap.size X w') := Lib.hid fun X => by
          have := decode_c X x hx32; unfold DecP at this; rw [hd] at this; exact this
        clear hd
        go_wp2_with (first
          | (go_at_call 22; (with_reducible refine (C4.out _).mono ?_); rintro e w4 ⟨rfl, b4⟩; clear C4))
        go_roundw
        case rel => exact ⟨k + 1, by omega, by go_num, (I1.out.call b4).alloc _, (I2.out.call b4).alloc _, (I3.out.trans (b4.mono I3.out.size)).alloc (Nat.le_trans I3.out.size b4.size) _⟩
        case measure => simp [intOf]; omega
      | some y =>
        have C4 : Hid (∀ X, Calls Try.prog 22 #[.int .u32 x] X fun e w' => e = .returned (.tuple #[.agg (instV y), .int .i64 0]) ∧ Below X.heap.size X w') := Lib.hid fun X => by
          have := decode_c X x hx32; unfold DecP at this; rw [hd] at this; exact this
        have hya : ∀ X, (binOp .eql 27 (.agg (instV y)) (.agg (instV a))).run Try.prog X = .ok (.bool false) X := fun X => by
          rw [eq_inst, decide_eq_false]
          rintro rfl
          exact hne (dec_inj hx32 hv32 hd HV.out)
        clear hd
        go_wp2_with (first
          | (go_at_call 22; (with_reducible refine (C4.out _).mono ?_); rintro e w4 ⟨rfl, b4⟩; clear C4; have j1 := (I1.out.call b4).alloc (.cells (instV y) 27); have j2 := Blk.new w4 (instV y) 27)
          | (refine wpList_load_blk_on rfl _ _ rfl _ rfl _ _ _ j1 Try.underlying27 rfl (by kernel_rfl) ?_)
          | (refine wpList_load_blk_on rfl _ _ rfl _ rfl _ _ _ j2 Try.underlying27 rfl (by kernel_rfl) ?_))
        go_roundw
        case rel => exact ⟨k + 1, by omega, by go_num, (I1.out.call b4).alloc _, (I2.out.call b4).alloc _, (I3.out.trans (b4.mono I3.out.size)).alloc (Nat.le_trans I3.out.size b4.size) _⟩
        case measure => simp [intOf]; omega
    · obtain rfl : k = 32 := by omega
      cases same
      all_goals
        go_wp2_with (first
          | (refine wpList_load_blk_on rfl _ _ rfl _ rfl _ _ _ i1 Try.underlying27 rfl (by kernel_rfl) ?_)
          | (refine wpList_load_blk_on rfl _ _ rfl _ rfl _ _ _ i2 Try.underlying27 rfl (by kernel_rfl) ?_)
          | (go_at_call 40; (with_reducible refine (C3.out _).mono ?_); rintro e w3 ⟨rfl, b3⟩; clear C3))
        go_ret
        exact ⟨rfl, i3.trans (b3.mono i3.size)⟩
theorem walk_DecodeNoBit (v t : Nat) (hv : v < 4294967296) (ht : t < 4294967296) (W : World) : Calls Try.prog 12 #[.int .u32 v, .int .u32 t] W fun e w' => e = .returned (.bool true) ∧ Below W.heap.size W w' := by
  obtain ⟨u, hu⟩ : ∃ u, v ^^^ t = u := ⟨_, rfl⟩
  have hu32 : u < 4294967296 := by rw [← hu]; exact Nat.xor_lt_two_pow (n := 32) hv ht
  cases h1 : DEC v with
  | none =>
    cases h2 : DEC u with
    | none => exact nobit_0 v u t W hv hu32 ht hu h1 h2
    | some b => exact nobit_1 v u t W hv hu32 ht hu h1 b h2
  | some a =>
    cases h2 : DEC u with
    | none => exact nobit_2 v u t W hv hu32 ht hu a h1 h2
    | some b => exact nobit_both v u t W hv hu32 ht hu a b h1 h2
end Go.Proofs.Ytaddmgclnbkdgaa
