/- Contract of abacusref28.Store. -/
import Derived.Test.YtdgdmhmagdjeoaaNc
namespace Go.Proofs.Ytdgdmhmagdjeoaa
open Go.RowKit
set_option maxHeartbeats 4000000
set_option maxRecDepth 100000
set_option linter.unusedVariables false
set_option linter.unusedSimpArgs false
set_option exponentiation.threshold 1000
theorem Row.ne_blk {w : World} {B b : Nat} {v : Value} {l : List Nat} {cs : Array Value} {t : TypeId} (h : Row w B v l) (hb : Blk w b cs t) (ht : t ≠ 5) : v.ownBlock ≠ some b := by
  rcases h.2 with ⟨rfl, _⟩ | ⟨g, cap, cur, rfl, _, hg, _⟩
  · simp [Value.ownBlock]
  · simp only [Value.ownBlock, ne_eq, Option.some.injEq]
    rintro rfl
    have := hg.symm.trans hb
    simp at this
    exact ht this.2.symm
theorem Row.lower {w : World} {B B' : Nat} {v : Value} {l : List Nat} (h : Row w B v l) (hB : B' ≤ B) : Row w B' v l :=
  ⟨h.1, h.2.imp id fun ⟨g, cap, cur, h1, h2, h3⟩ => ⟨g, cap, cur, h1, Nat.le_trans hB h2, h3⟩⟩
theorem Gave.from {w w1 w2 : World} {x : List Nat} {er : Int} {e : Ending} (h : Gave w1 x er e w2) (hb : Below w.heap.size w w1) : Gave w x er e w2 := by
  obtain ⟨ao, c, h1, h2, h3, h4⟩ := h
  exact ⟨ao, c, h1, h2.lower hb.size, hb.trans (h3.mono hb.size), h4⟩
theorem byte_lo (lo hi s : Nat) (hs : s ≤ 56) : (lo / 2 ^ s) % 256 = ((18446744073709551616 * hi + lo) / 2 ^ s) % 256 := by
  have e : 18446744073709551616 = 2 ^ s * (256 * 2 ^ (56 - s)) := by
    rw [show (256 : Nat) = 2 ^ 8 from rfl, ← Nat.pow_add, ← Nat.pow_add, show s + (8 + (56 - s)) = 64 by omega]
  rw [e, show 2 ^ s * (256 * 2 ^ (56 - s)) * hi + lo = lo + 2 ^ s * (256 * 2 ^ (56 - s) * hi) by rw [Nat.mul_assoc, Nat.add_comm], Nat.add_mul_div_left _ _ (Nat.two_pow_pos s), Nat.mul_assoc, Nat.add_mul_mod_self_left]
theorem byte_hi (lo hi t : Nat) (hl : lo < 18446744073709551616) : (hi / 2 ^ t) % 256 = ((18446744073709551616 * hi + lo) / 2 ^ (64 + t)) % 256 := by
  rw [Nat.pow_add, ← Nat.div_div_eq_div_mul, show (18446744073709551616 * hi + lo) / 2 ^ 64 = hi by omega]
theorem shr_byte (x s : Nat) : ((x : Int) / 2 ^ s) % 256 = ((x / 2 ^ s % 256 : Nat) : Int) := by
  rw [show ((x : Int) / 2 ^ s) = ((x / 2 ^ s : Nat) : Int) by simp]; rfl
theorem rstore_w (w : World) (mo : Option Addr) (n cm a hi lo : Nat) (k : Int) (hk : widB k = false) :
    Calls Try.prog 36 #[.slice mo n cm, .int .u64 a, .int .i64 k, .agg #[.int .u64 hi, .int .u64 lo]] w fun e w' => e = .returned (.tuple #[.slice mo n cm, .int .i64 2]) ∧ Below w.heap.size w w' := by
  have C1 : Hid (∀ X, Calls Try.prog 41 #[.int .i64 k] X fun e w' => e = .returned (.bool false) ∧ w' = X) := Lib.hid fun X => by rw [← hk]; exact is_c X k
  clear hk
  go_enter Try.func36, Try.ntmps36
  go_wp2_with (first
    | (go_at_call 41; (with_reducible refine (C1.out _).mono ?_); rintro e w' ⟨rfl, rfl⟩))
  go_ret2
  exact ⟨rfl, below_alloc _ _⟩
theorem rstore_out (w : World) (mo : Option Addr) (n cm a hi lo : Nat) (k : Int) (hw : widB k = true) (hn : n ≤ 9223372036854775807) (ha : a < 18446744073709551616) (hk : -9223372036854775808 ≤ k) (hk2 : k ≤ 9223372036854775807) (ht : thB n a k = false) :
    Calls Try.prog 36 #[.slice mo n cm, .int .u64 a, .int .i64 k, .agg #[.int .u64 hi, .int .u64 lo]] w fun e w' => e = .returned (.tuple #[.slice mo n cm, .int .i64 280]) ∧ Below w.heap.size w w' := by
  have C1 : Hid (∀ X, Calls Try.prog 41 #[.int .i64 k] X fun e w' => e = .returned (.bool true) ∧ w' = X) := Lib.hid fun X => by rw [← hw]; exact is_c X k
  have C2 : Hid (∀ X, Calls Try.prog 42 #[.slice mo n cm, .int .u64 a, .int .i64 k] X fun e w' => e = .returned (.bool false) ∧ w' = X) := Lib.hid fun X => by rw [← ht]; exact rthere_c X mo n cm a k hn ha hk hk2
  clear hw ht hk hk2 ha hn
  go_enter Try.func36, Try.ntmps36
  go_wp2_with (first
    | (go_at_call 41; (with_reducible refine (C1.out _).mono ?_); rintro e w' ⟨rfl, rfl⟩)
    | (go_at_call 42; (with_reducible refine (C2.out _).mono ?_); rintro e w' ⟨rfl, rfl⟩))
  go_ret2
  exact ⟨rfl, below_alloc _ _⟩
theorem rstore_c (w : World) (mo : Option Addr) (cm a k hi lo : Nat) (l : List Nat) (hm : Xs w mo cm l) (hl : l.length ≤ 16777216) (hk : widB k = true) (hak : a + k ≤ l.length) (h1 : hi < 18446744073709551616) (h2 : lo < 18446744073709551616) :
    Calls Try.prog 36 #[.slice mo l.length cm, .int .u64 a, .int .i64 k, .agg #[.int .u64 hi, .int .u64 lo]] w (Gave w (put l a (leB k (18446744073709551616 * hi + lo))) 0) := by
  have hw16 : k ≤ 16 ∧ 1 ≤ k := by
    simp only [widB, Bool.or_eq_true, beq_iff_eq] at hk; omega
  obtain ⟨n, hn⟩ : ∃ n, l.length = n := ⟨_, rfl⟩
  obtain ⟨X, hX⟩ : ∃ X, 18446744073709551616 * hi + lo = X := ⟨_, rfl⟩
  have C1 : Hid (∀ X, Calls Try.prog 41 #[.int .i64 k] X fun e w' => e = .returned (.bool true) ∧ w' = X) := Lib.hid fun X => by rw [← hk]; exact is_c X k
  have C2 : Hid (∀ X, Calls Try.prog 42 #[.slice mo n cm, .int .u64 a, .int .i64 k] X fun e w' => e = .returned (.bool true) ∧ w' = X) := Lib.hid fun X => by
    have := rthere_c X mo n cm a k (by omega) (by omega) (by omega) (by omega)
    rw [thB_nat, decide_eq_true (by omega)] at this
    exact this
  have HPUT : Hid (∀ W bo cb, Below w.heap.size w W → Row W w.heap.size (.slice bo k cb) (leB k X) → Calls Try.prog 38 #[.slice mo n cm, .int .u64 a, .slice bo k cb] W (Gave w (put l a (leB k X)) 0)) := Lib.hid fun W bo cb hb hr => by
    have := rput_c W mo bo cm cb a l (leB k X) (hm.later hb) hr.xs hl (by rw [leB_length]; exact hak)
    rw [leB_length, hn] at this
    exact this.mono fun e w' h => h.from hb
  have HBY : Hid (∀ j, j < k → j < 8 → lo / 2 ^ (8 * j) % 256 = X / 256 ^ j % 256) := Lib.hid fun j _ h8 => by
    rw [← hX, show 256 ^ j = 2 ^ (8 * j) by rw [Nat.pow_mul]]; exact byte_lo lo hi (8 * j) (by omega)
  have HBH : Hid (∀ j, j < k → 8 ≤ j → hi / 2 ^ (8 * j - 64) % 256 = X / 256 ^ j % 256) := Lib.hid fun j _ h8 => by
    rw [← hX, show 256 ^ j = 2 ^ (64 + (8 * j - 64)) by rw [show 64 + (8 * j - 64) = 8 * j by omega, Nat.pow_mul]]; exact byte_hi lo hi (8 * j - 64) h2
  have HB0 := Lib.hid (Blk.new w #[.int .u64 (hi : Nat), .int .u64 (lo : Nat)] 35)
  have HBB := Lib.hid (below_alloc w (.cells #[.int .u64 (hi : Nat), .int .u64 (lo : Nat)] 35))
  rw [hn] at hl hak ⊢
  rw [hX]
  obtain ⟨hm16, hk1⟩ := hw16
  clear hm hk hn hX
  go_enter Try.func36, Try.ntmps36
  go_wp2_with (first
    | (go_at_call 41; (with_reducible refine (C1.out _).mono ?_); rintro e w' ⟨rfl, rfl⟩)
    | (go_at_call 42; (with_reducible refine (C2.out _).mono ?_); rintro e w' ⟨rfl, rfl⟩))
  go_loopw [10, 11] (fun v i wr => ∃ j : Nat, j ≤ k ∧ i = .int .i64 j ∧ Row wr w.heap.size v (leB j X) ∧ Blk wr w.heap.size #[.int .u64 (hi : Nat), .int .u64 (lo : Nat)] 35 ∧ Below w.heap.size w wr) (fun _ i _ => k - (intOf i).toNat)
  case atStart => exact ⟨0, by omega, rfl, World.ownsRow_nil _ _ _ _, HB0.out, HBB.out⟩
  case round =>
    obtain ⟨j, hj, rfl, hrow, hbx, hB⟩ := hrel
    by_cases hlt : j < k
    · have c1 := hbx.cell 0
      have c2 := hbx.cell 1
      simp only [List.getElem?_toArray, List.getElem?_cons_zero, List.getElem?_cons_succ] at c1 c2
      obtain ⟨s, hs⟩ : ∃ s, 8 * j = s := ⟨_, rfl⟩
      have KS : (8 : Int) * (j : Int) = (s : Int) := by omega
      have HSS := Lib.hid hs
      have HROW := Lib.hid hrow
      have HBX := Lib.hid hbx
      have HBE := Lib.hid hB
      obtain ⟨ao, cc, rfl, _⟩ := Row.form hrow
      rw [leB_length] at HROW ⊢
      clear hrow hbx hB hs
      rcases Nat.lt_or_ge j 8 with h8 | h8
      · have d8 : decide ((j : Int) < 8) = true := decide_eq_true (by omega)
        have hs64 : s < 64 := by have := HSS.out; omega
        have hby := HBY.out j hlt h8
        rw [HSS.out] at hby
        have K1 := shr_byte lo s
        obtain ⟨y, hy⟩ : ∃ y, lo / 2 ^ s % 256 = y := ⟨_, rfl⟩
        rw [hy] at hby K1
        have HLE : Hid (leB j X ++ [y] = leB (j + 1) X) := Lib.hid (by rw [leB_succ, hby])
        have RDY : ∀ W : World, Rd (W.alloc (.cells #[.int .u8 (y : Nat)] 5)) (some ⟨W.heap.size, 0, none⟩) [y] := fun W i hi => by
          simp only [List.length_cons, List.length_nil] at hi
          obtain rfl : i = 0 := by omega
          exact ⟨_, rfl, by rw [add0]; exact (Blk.new W #[.int .u8 (y : Nat)] 5).cell 0⟩
        clear hby hy
        go_wp2_with (first
          | (at_builtin; refine wpList_append8 rfl (.tmp 29) (.tmp 36) rfl w.heap.size _ (leB j X) rfl (HROW.out.alloc _) (some ⟨wr.heap.size, 0, none⟩) 1 1 rfl [y] rfl (fun e => by cases e) (RDY _) (by rw [leB_length]; simp only [List.length_cons, List.length_nil]; omega) (by have := HBE.out.size; simp; omega) ?_; intro v2 w2 hrow2 hg2 hnil2))
        go_roundw
        case rel =>
          rw [HLE.out] at hrow2
          have hbx := HBX.out.alloc (.cells #[.int .u8 (y : Nat)] 5)
          refine ⟨j + 1, by omega, by go_num, hrow2, grown_blk hg2 hbx ?_, row_grown (B' := 0) (HBE.out.alloc HBE.out.size _) (by have := HBE.out.size; simp; omega) (HROW.out.alloc _) hg2⟩
          exact fun e => Row.ne_blk (HROW.out.alloc _) hbx (by decide) e.symm
        case measure => (simp [intOf]; try omega)
      · have d8 : decide ((j : Int) < 8) = false := decide_eq_false (by omega)
        obtain ⟨t, ht⟩ : ∃ t, s - 64 = t := ⟨_, rfl⟩
        have HT := Lib.hid ht
        have KT : (s : Int) - 64 = (t : Int) := by have := HSS.out; omega
        have hs64 : t < 64 := by have := HSS.out; omega
        have hby := HBH.out j hlt h8
        rw [HSS.out, ht] at hby
        have K1 := shr_byte hi t
        obtain ⟨y, hy⟩ : ∃ y, hi / 2 ^ t % 256 = y := ⟨_, rfl⟩
        rw [hy] at hby K1
        have HLE : Hid (leB j X ++ [y] = leB (j + 1) X) := Lib.hid (by rw [leB_succ, hby])
        have RDY : ∀ W : World, Rd (W.alloc (.cells #[.int .u8 (y : Nat)] 5)) (some ⟨W.heap.size, 0, none⟩) [y] := fun W i hi => by
          simp only [List.length_cons, List.length_nil] at hi
          obtain rfl : i = 0 := by omega
          exact ⟨_, rfl, by rw [add0]; exact (Blk.new W #[.int .u8 (y : Nat)] 5).cell 0⟩
        clear hby hy ht
        go_wp2_with (first
          | (at_builtin; refine wpList_append8 rfl (.tmp 38) (.tmp 46) rfl w.heap.size _ (leB j X) rfl (HROW.out.alloc _) (some ⟨wr.heap.size, 0, none⟩) 1 1 rfl [y] rfl (fun e => by cases e) (RDY _) (by rw [leB_length]; simp only [List.length_cons, List.length_nil]; omega) (by have := HBE.out.size; simp; omega) ?_; intro v2 w2 hrow2 hg2 hnil2))
        go_roundw
        case rel =>
          rw [HLE.out] at hrow2
          have hbx := HBX.out.alloc (.cells #[.int .u8 (y : Nat)] 5)
          refine ⟨j + 1, by omega, by go_num, hrow2, grown_blk hg2 hbx ?_, row_grown (B' := 0) (HBE.out.alloc HBE.out.size _) (by have := HBE.out.size; simp; omega) (HROW.out.alloc _) hg2⟩
          exact fun e => Row.ne_blk (HROW.out.alloc _) hbx (by decide) e.symm
        case measure => (simp [intOf]; try omega)
    · obtain rfl : j = k := by omega
      obtain ⟨ao, cc, rfl, _⟩ := Row.form hrow
      rw [leB_length] at hrow ⊢
      have C3 := Lib.hid (HPUT.out wr ao cc hB hrow)
      clear hrow hB hbx
      go_wp2_with (first
        | (go_at_call 38; (with_reducible refine C3.out.mono ?_); rintro e w9 ⟨bo, cb, rfl, R9, B9, N9⟩))
      go_ret2
      exact ⟨bo, cb, rfl, R9, B9, N9⟩
/-- the bytes behind a store -/
def stoX (l : List Nat) (a : Nat) (k : Int) (X : Nat) : List Nat := if chk l.length a k = 0 then put l a (leB k.toNat X) else l
theorem stoX_len (l : List Nat) (a : Nat) (k : Int) (X : Nat) : (stoX l a k X).length = l.length := by
  unfold stoX
  split
  · next h =>
    obtain ⟨_, j, rfl, hj⟩ := chk_zero h
    rw [Int.toNat_natCast]
    exact put_length (by rw [leB_length]; exact hj)
  · rfl
theorem rstore_any (w : World) (mo : Option Addr) (cm a hi lo : Nat) (k : Int) (l : List Nat) (hm : Xs w mo cm l) (hl : l.length ≤ 16777216) (ha : a < 18446744073709551616) (hk : -9223372036854775808 ≤ k) (hk2 : k ≤ 9223372036854775807) (h1 : hi < 18446744073709551616) (h2 : lo < 18446744073709551616) :
    Calls Try.prog 36 #[.slice mo l.length cm, .int .u64 a, .int .i64 k, .agg #[.int .u64 hi, .int .u64 lo]] w (GaveX w mo (stoX l a k (18446744073709551616 * hi + lo)) (chk l.length a k)) := by
  by_cases h0 : chk l.length a k = 0
  · obtain ⟨hw, j, rfl, hj⟩ := chk_zero h0
    unfold stoX
    rw [if_pos h0, h0, Int.toNat_natCast]
    exact (rstore_c w mo cm a j hi lo l hm hl hw hj h1 h2).mono fun e w' h => h.gx mo
  · unfold stoX
    rw [if_neg h0]
    unfold chk at h0 ⊢
    by_cases hw : widB k = false
    · rw [if_pos hw]
      refine (rstore_w w mo _ cm a hi lo k hw).mono ?_
      rintro e w' ⟨rfl, hb⟩
      exact ⟨mo, cm, rfl, hm.later hb, hb, .inl rfl⟩
    · rw [if_neg hw] at h0 ⊢
      by_cases ht : thB l.length a k = false
      · rw [if_pos ht]
        refine (rstore_out w mo _ cm a hi lo k (by simpa using hw) (by omega) ha hk hk2 ht).mono ?_
        rintro e w' ⟨rfl, hb⟩
        exact ⟨mo, cm, rfl, hm.later hb, hb, .inl rfl⟩
      · rw [if_neg ht] at h0
        exact absurd rfl h0
end Go.Proofs.Ytdgdmhmagdjeoaa
