/- Contracts of mem.Sum, abacusref28.Sum, abacusref28.Same. -/
import Derived.Test.YtdgdmhmagdjeoaaUc
import Derived.Deep.QuietTactic
namespace Go.Proofs.Ytdgdmhmagdjeoaa
open Go.RowKit
set_option maxHeartbeats 4000000
set_option maxRecDepth 100000
set_option linter.unusedVariables false
set_option linter.unusedSimpArgs false
def fstep (s c : Nat) : Nat := 1099511628211 * (s ^^^ c) % 18446744073709551616
def fnv (l : List Nat) : Nat := l.foldl fstep 14695981039346656037
attribute [local irreducible] fstep in
theorem fnv_take (l : List Nat) (k : Nat) (h : k < l.length) : fnv (l.take (k + 1)) = fstep (fnv (l.take k)) (l[k]?.getD 0) := by
  unfold fnv
  rw [List.take_add_one, List.getElem?_eq_getElem h, List.foldl_append]
  simp only [Option.toList_some, List.foldl_cons, List.foldl_nil, Option.getD_some]
theorem fstep_lt (s c : Nat) : fstep s c < 18446744073709551616 := Nat.mod_lt _ (by decide)
attribute [local irreducible] fstep
theorem fold_lt (l : List Nat) : ∀ s, s < 18446744073709551616 → l.foldl fstep s < 18446744073709551616 := by
  induction l with
  | nil => exact fun s h => h
  | cons c l ih => exact fun s h => ih _ (fstep_lt s c)
theorem fnv_lt (l : List Nat) : fnv l < 18446744073709551616 := fold_lt l _ (by decide)
theorem getD_small {l : List Nat} (h : ∀ x ∈ l, x < 256) (k : Nat) : l[k]?.getD 0 < 256 := by
  cases hk : l[k]? with
  | none => decide
  | some x => exact h x (List.mem_of_getElem? hk)
theorem sum_step (s c : Nat) (hs : s < 18446744073709551616) (hc : c < 256) : IntKind.u64.wrap (bits .xor .u64 (s : Int) (IntKind.u64.wrap (c : Int)) * 1099511628211) = ((fstep s c : Nat) : Int) := by
  rw [wrap_lt c (by omega), xor_nat s c hs (by omega), IntKind.wrap_u64]
  unfold fstep
  generalize s ^^^ c = y
  omega
theorem sum_c (w : World) (m : Nat) (ao : Option Addr) (l : List Nat) (cap : Nat) (h : Head w m ao l.length cap) (hr : Rd w ao l) (hs : ∀ x ∈ l, x < 256) :
    Calls Try.prog 24 #[.pointer (some ⟨m, 0, none⟩)] w fun e w' => e = .returned (.int .u64 (fnv l : Nat)) ∧ w' = w := by
  obtain ⟨n, hnl⟩ : ∃ n, l.length = n := ⟨_, rfl⟩
  rw [hnl] at h
  have C1 := Lib.hid (none_c w m ao n cap h)
  have h2 := h.row
  have h3 := h.len
  have HN := Lib.hid hnl
  have HR := Lib.hid hr
  have HS := Lib.hid hs
  clear h hnl hr hs
  go_enter Try.func24, Try.ntmps24
  go_wp2_with (first
    | (go_at_call 31; (with_reducible refine C1.out.mono ?_); rintro e w' ⟨rfl, rfl⟩))
  go_loop [3, 13] (fun s i => ∃ k : Nat, k ≤ n ∧ i = .int .i64 k ∧ s = .int .u64 (fnv (l.take k) : Nat)) (fun _ i => n - (intOf i).toNat)
  case atStart => exact ⟨0, by omega, rfl, rfl⟩
  case round =>
    obtain ⟨k, hk, rfl, rfl⟩ := hrel
    by_cases hlt : k < n
    · obtain ⟨ad, rfl, hc⟩ := HR.out k (by rw [HN.out]; exact hlt)
      have H1 := Lib.hid (sum_step (fnv (l.take k)) (l[k]?.getD 0) (fnv_lt _) (getD_small HS.out k))
      have H2 := Lib.hid (fnv_take l k (by rw [HN.out]; exact hlt))
      go_wp2
      go_round
      case rel => exact ⟨k + 1, by omega, by go_num, vint (by rw [H1.out, H2.out])⟩
      case measure => simp [intOf]; omega
    · go_wp2
      go_ret
      exact ⟨ret1 (vint (by rw [List.take_of_length_le (by rw [HN.out]; omega)])), rfl⟩
theorem rsum_c (w : World) (ao : Option Addr) (l : List Nat) (cap : Nat) (hlen : l.length ≤ 140737488355328) (hr : Rd w ao l) (hs : ∀ x ∈ l, x < 256) :
    Calls Try.prog 28 #[.slice ao l.length cap] w fun e w' => e = .returned (.int .u64 (fnv l : Nat)) ∧ w' = w := by
  obtain ⟨n, hnl⟩ : ∃ n, l.length = n := ⟨_, rfl⟩
  rw [hnl] at hlen ⊢
  have HN := Lib.hid hnl
  have HR := Lib.hid hr
  have HS := Lib.hid hs
  clear hnl hr hs
  go_enter Try.func28, Try.ntmps28
  go_wp2
  go_loop [3, 4] (fun s i => ∃ k : Nat, k ≤ n ∧ i = .int .i64 k ∧ s = .int .u64 (fnv (l.take k) : Nat)) (fun _ i => n - (intOf i).toNat)
  case atStart => exact ⟨0, by omega, rfl, rfl⟩
  case round =>
    obtain ⟨k, hk, rfl, rfl⟩ := hrel
    by_cases hlt : k < n
    · obtain ⟨ad, rfl, hc⟩ := HR.out k (by rw [HN.out]; exact hlt)
      have H1 := Lib.hid (sum_step (fnv (l.take k)) (l[k]?.getD 0) (fnv_lt _) (getD_small HS.out k))
      have H2 := Lib.hid (fnv_take l k (by rw [HN.out]; exact hlt))
      go_wp2
      go_round
      case rel => exact ⟨k + 1, by omega, by go_num, vint (by rw [H1.out, H2.out])⟩
      case measure => simp [intOf]; omega
    · go_wp2
      go_ret
      exact ⟨ret1 (vint (by rw [List.take_of_length_le (by rw [HN.out]; omega)])), rfl⟩
end Go.Proofs.Ytdgdmhmagdjeoaa
