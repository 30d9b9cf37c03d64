/- Contracts of mem.Load, mem.Store, abacuslaw28's reads, whatever the arguments; the plain law of pieces. -/
import Derived.Test.YtdgdmhmagdjeoaaUh
namespace Go.Proofs.Ytdgdmhmagdjeoaa
open Go.RowKit
set_option maxHeartbeats 4000000
set_option maxRecDepth 100000
set_option linter.unusedVariables false
set_option linter.unusedSimpArgs false
set_option exponentiation.threshold 1000
theorem chk_zero {n a : Nat} {k : Int} (h : chk n a k = 0) : widB k = true ∧ ∃ j : Nat, k = (j : Int) ∧ a + j ≤ n := by
  unfold chk at h
  split at h
  · omega
  split at h
  · omega
  · next h1 h2 =>
    have h3 := thB_spec (by simpa using h2 : thB n a k = true)
    exact ⟨by simpa using h1, k.toNat, by omega, by omega⟩
/-- what a piece has -/
def LV (l : List Nat) (a : Nat) (k : Int) : Nat := if chk l.length a k = 0 then leN (part l a k.toNat) else 0
theorem LV_lt {l : List Nat} (h : ∀ x ∈ l, x < 256) (a : Nat) (k : Int) : LV l a k < 256 ^ 16 := by
  unfold LV
  split
  · next h0 =>
    obtain ⟨hw, j, rfl, hj⟩ := chk_zero h0
    refine Nat.lt_of_lt_of_le (leN_lt _ (part_small h _ _)) ?_
    rw [Int.toNat_natCast, part_length hj]
    refine Nat.pow_le_pow_right (by decide) ?_
    simp only [widB, Bool.or_eq_true, beq_iff_eq] at hw; omega
  · decide
theorem load_any (w : World) (B m : Nat) (ao : Option Addr) (n cap a : Nat) (k : Int) (l : List Nat) (h : MemIs w B m (.slice ao n cap) l) (ha : a < 18446744073709551616) (hk : -9223372036854775808 ≤ k) (hk2 : k ≤ 9223372036854775807) :
    Calls Try.prog 15 #[.pointer (some ⟨m, 0, none⟩), .int .u64 a, .int .i64 k] w fun e w' =>
      e = .returned (.tuple #[.agg #[.int .u64 (LV l a k / 18446744073709551616 : Nat), .int .u64 (LV l a k % 18446744073709551616 : Nat)], .int .i64 (chk n a k)]) ∧ Below w.heap.size w w' := by
  have hn := h.own.n_eq
  by_cases h0 : chk n a k = 0
  · obtain ⟨hw, j, rfl, hj⟩ := chk_zero h0
    have e : LV l a j = leN (part l a j) := by
      unfold LV; rw [← hn, if_pos h0, Int.toNat_natCast]
    rw [e, h0]
    exact load_c w B m ao n cap a j l h hw hj
  · have e : LV l a k = 0 := by
      unfold LV; rw [← hn, if_neg h0]
    rw [e]
    exact load_bad w m ao n cap a k _ h.hd ha hk hk2 rfl (by simpa using h0)
theorem store_any (w : World) (B m : Nat) (ao : Option Addr) (n cap a hi lo : Nat) (k : Int) (l : List Nat) (h : MemIs w B m (.slice ao n cap) l) (ha : a < 18446744073709551616) (hk : -9223372036854775808 ≤ k) (hk2 : k ≤ 9223372036854775807) (h1 : hi < 18446744073709551616) (h2 : lo < 18446744073709551616) :
    Calls Try.prog 14 #[.pointer (some ⟨m, 0, none⟩), .int .u64 a, .int .i64 k, .agg #[.int .u64 hi, .int .u64 lo]] w fun e w' =>
      e = .returned (.int .i64 (chk n a k)) ∧ MemIs w' B m (.slice ao n cap) (if chk n a k = 0 then put l a (leB k.toNat (18446744073709551616 * hi + lo)) else l) ∧ w.grownBy w' (Value.slice ao n cap).ownBlock := by
  by_cases h0 : chk n a k = 0
  · obtain ⟨hw, j, rfl, hj⟩ := chk_zero h0
    rw [if_pos h0, h0, Int.toNat_natCast]
    exact store_c w B m ao n cap a j hi lo l h hw hj h1 h2
  · rw [if_neg h0]
    refine (store_bad w m ao n cap a hi lo k _ h.hd ha hk hk2 rfl (by simpa using h0)).mono ?_
    rintro e w' ⟨rfl, hb⟩
    exact ⟨rfl, h.later hb, below_grown hb _⟩
/-! the plain law -/
theorem part_other {l x : List Nat} {s a n : Nat} (h : s + x.length ≤ l.length) (hd : a + n ≤ s ∨ s + x.length ≤ a) (ha : a + n ≤ l.length) : part (put l s x) a n = part l a n := by
  apply List.ext_getElem?
  intro i
  unfold part put
  simp only [List.getElem?_take, List.getElem?_drop, List.getElem?_append, List.length_take, List.length_append]
  repeat' split
  all_goals first | rfl | omega | (congr 1; omega) | skip
  all_goals (rw [List.getElem?_eq_none (by omega)] at *; simp_all; omega)
theorem leN_append : ∀ (x y : List Nat), leN (x ++ y) = leN x + 256 ^ x.length * leN y
  | [], y => by simp [leN]
  | a :: x, y => by
    rw [List.cons_append, List.length_cons, Nat.pow_succ]
    show 256 * leN (x ++ y) + a = 256 * leN x + a + _
    rw [leN_append x y, Nat.mul_add, Nat.mul_comm (256 ^ x.length) 256, Nat.mul_assoc]; omega
theorem leN_leB : ∀ (k X : Nat), leN (leB k X) = X % 256 ^ k
  | 0, X => by simp [leB, leN, Nat.mod_one]
  | k + 1, X => by
    rw [leB_succ, leN_append, leN_leB k X, leB_length]
    show _ + 256 ^ k * (256 * 0 + X / 256 ^ k % 256) = _
    rw [Nat.pow_succ, Nat.mul_zero, Nat.zero_add, Nat.mod_mul]
theorem part_self {l x : List Nat} {s : Nat} (h : s + x.length ≤ l.length) : part (put l s x) s x.length = x := by
  have := part_put (l := l) (x := x) (a := s) (i := 0) (n := x.length) (by omega) (by omega)
  rw [Nat.add_zero] at this
  rw [this]; simp [part]
theorem part_split (l : List Nat) (a h : Nat) : part l a (2 * h) = part l a h ++ part l (a + h) h := by
  unfold part
  rw [show 2 * h = h + h by omega, List.take_add, List.drop_drop]
theorem or_low (s x y : Nat) (hx : x < 2 ^ s) (hy : y < 2 ^ s) (hs : s ≤ 32) : bits .or .u64 (x : Int) (IntKind.u64.wrap ((y : Int) * (2 ^ s : Nat))) = ((x + 2 ^ s * y : Nat) : Int) := by
  have h2 : 2 ^ s * 2 ^ s ≤ 18446744073709551616 := by
    rw [← Nat.pow_add]
    exact Nat.le_trans (Nat.pow_le_pow_right (by decide) (by omega : s + s ≤ 64)) (by decide)
  have h3 : y * 2 ^ s < 18446744073709551616 := Nat.lt_of_lt_of_le (Nat.mul_lt_mul_of_pos_right hy (Nat.two_pow_pos s)) h2
  have h4 : x < 18446744073709551616 := by
    have : 2 ^ s ≤ 2 ^ 32 := Nat.pow_le_pow_right (by decide) hs
    omega
  rw [show (y : Int) * (2 ^ s : Nat) = ((y * 2 ^ s : Nat) : Int) by rw [Int.natCast_mul], wrap_lt _ h3, or_nat _ _ h4 h3]
  have := Nat.shiftLeft_add_eq_or_of_lt (i := s) (b := x) hx y
  rw [Nat.shiftLeft_eq] at this
  rw [Nat.or_comm, ← this, Nat.mul_comm (2 ^ s) y, Nat.add_comm]
theorem or_low2 (s x y : Nat) (hx : x < 2 ^ s) (hy : y < 2 ^ s) (hs : s ≤ 32) : bits .or .u64 (x : Int) ((y : Int) * (2 ^ s : Nat)) = ((x + 2 ^ s * y : Nat) : Int) := by
  have h := or_low s x y hx hy hs
  have h2 : 2 ^ s * 2 ^ s ≤ 18446744073709551616 := by
    rw [← Nat.pow_add]
    exact Nat.le_trans (Nat.pow_le_pow_right (by decide) (by omega : s + s ≤ 64)) (by decide)
  have h3 : y * 2 ^ s < 18446744073709551616 := Nat.lt_of_lt_of_le (Nat.mul_lt_mul_of_pos_right hy (Nat.two_pow_pos s)) h2
  rw [show (y : Int) * (2 ^ s : Nat) = ((y * 2 ^ s : Nat) : Int) by rw [Int.natCast_mul]] at h ⊢
  rw [wrap_lt _ h3] at h
  exact h
theorem eq_bits (w : World) (a b c d : Nat) : (binOp .eql 35 (.agg #[.int .u64 (a : Nat), .int .u64 (b : Nat)]) (.agg #[.int .u64 (c : Nat), .int .u64 (d : Nat)])).run Try.prog w = .ok (.bool (decide (a = c ∧ b = d))) w := by
  have hs : Try.prog.stoodInHeld 35 = false := by kernel_rfl
  have hu : Try.prog.underlying 35 = some (.struct (Try.prog.fieldsOf 35)) := by kernel_rfl
  have hf : (Try.prog.fieldsOf 35).toList.map (fun f => (f.name, f.type, f.offset)) = [("Hi", 33, 0), ("Lo", 33, 1)] := by kernel_rfl
  have hi : (Try.prog.info? 33).map (·.size) = some 1 := by kernel_rfl
  rw [run_eql_struct, run_equalIn_struct w 9999 _ _ _ hu hs]
  obtain ⟨fs, hfs⟩ : ∃ fs, (Try.prog.fieldsOf 35).toList = fs := ⟨_, rfl⟩
  rw [hfs] at hf ⊢
  match fs, hf with
  | [f, g], hf =>
    simp only [List.map_cons, List.map_nil, List.cons.injEq, Prod.mk.injEq, and_true] at hf
    obtain ⟨⟨n1, t1, o1⟩, n2, t2, o2⟩ := hf
    have p0 : ∀ (w : World) (x y : Value), (Go.part 33 #[x, y] 0).run Try.prog w = .ok x w := fun w x y => by kernel_rfl
    have p1 : ∀ (w : World) (x y : Value), (Go.part 33 #[x, y] 1).run Try.prog w = .ok y w := fun w x y => by kernel_rfl
    simp only [Op.eqFields, n1, t1, o1, n2, t2, o2, Sem.run_bind, p0, p1, Result.andThen_ok, run_equalIn_int w _ _ .u64 .u64 _ _ Try.underlying33, ne_eq, String.reduceEq, not_false_eq_true, if_true, Sem.run_ite, Sem.run_pure]
    by_cases h1 : a = c
    · subst h1
      by_cases h2 : b = d
      · subst h2; simp
      · have : ((b : Int) == (d : Int)) = false := by rw [beq_eq_false_iff_ne]; omega
        simp [this, h2]
    · have : ((a : Int) == (c : Int)) = false := by rw [beq_eq_false_iff_ne]; omega
      simp [this, h1]
theorem neq_bits (w : World) (a b c d : Nat) : (binOp .neq 35 (.agg #[.int .u64 (a : Nat), .int .u64 (b : Nat)]) (.agg #[.int .u64 (c : Nat), .int .u64 (d : Nat)])).run Try.prog w = .ok (.bool (!decide (a = c ∧ b = d))) w := by
  have h := eq_bits w a b c d
  rw [run_eql_struct] at h
  rw [run_neq_struct]
  generalize (Op.equalIn 10000 35 (.agg #[.int .u64 (a : Nat), .int .u64 (b : Nat)]) (.agg #[.int .u64 (c : Nat), .int .u64 (d : Nat)])).run Try.prog w = r at *
  cases r with
  | ok b' w' =>
    simp only [Result.andThen_ok, Result.ok.injEq, Value.bool.injEq] at h ⊢
    exact ⟨by rw [h.1], h.2⟩
  | halt x w' => simp [Result.andThen] at h
end Go.Proofs.Ytdgdmhmagdjeoaa
