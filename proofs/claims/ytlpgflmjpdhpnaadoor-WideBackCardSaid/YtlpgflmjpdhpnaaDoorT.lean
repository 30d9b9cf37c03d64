/- Texts of numbers: hexadecimal digits. Plain mathematics. -/
import Derived.Test.YtlpgflmjpdhpnaaDoorB
import Derived.Test.YtlpgflmjpdhpnaaDoorM
namespace Go.Proofs.YtlpgflmjpdhpnaaDoor
set_option linter.unusedVariables false
set_option exponentiation.threshold 1000

theorem nib_eq (A k : Nat) : nib A k = A / 2 ^ (4 * k) % 16 := by
  unfold nib
  rw [show (16 : Nat) = 2 ^ 4 from rfl]
  apply Nat.eq_of_testBit_eq
  intro j
  rw [Nat.testBit_mod_two_pow, Nat.testBit_mod_two_pow, Nat.testBit_div_two_pow, Nat.testBit_div_two_pow, limb_bit]
  by_cases hj : j < 4
  · rw [decide_eq_true (by omega : j + 4 * (k % 2 ^ 4) < 64), Bool.true_and]
    congr 2
    omega
  · rw [decide_eq_false hj, Bool.false_and, Bool.false_and]
theorem nib_big {A k n : Nat} (h : A < 2 ^ (4 * n)) (hk : n ≤ k) : nib A k = 0 := by
  rw [nib_eq, Nat.div_eq_of_lt]
  exact Nat.lt_of_lt_of_le h (Nat.pow_le_pow_right (by decide) (by omega))
theorem txt_hi {A k : Nat} (hA : A < W384) (hk : txtN A ≤ k) : nib A k = 0 := by
  obtain ⟨h1, _⟩ := (lenW_spec hA).1
  refine nib_big (n := txtN A) (Nat.lt_of_lt_of_le h1 (Nat.pow_le_pow_right (by decide) ?_)) hk
  unfold txtN; omega
theorem txt_top {A : Nat} (hA : A < W384) (h : 1 < txtN A) : nib A (txtN A - 1) ≠ 0 := by
  obtain ⟨h1, h2⟩ := (lenW_spec hA).1
  have hl : 4 * (txtN A - 1) < lenW A ∧ lenW A ≤ 4 * txtN A := by unfold txtN at *; omega
  have h3 := h2 (by omega)
  have h4 : 2 ^ (4 * (txtN A - 1) + 1) ≤ 2 ^ lenW A := Nat.pow_le_pow_right (by decide) (by omega)
  rw [Nat.pow_succ] at h4
  have h5 : A < 2 ^ (4 * txtN A) := Nat.lt_of_lt_of_le h1 (Nat.pow_le_pow_right (by decide) hl.2)
  have h6 : 2 ^ (4 * txtN A) = 16 * 2 ^ (4 * (txtN A - 1)) := by
    rw [show 4 * txtN A = 4 + 4 * (txtN A - 1) by omega, Nat.pow_add]
  rw [nib_eq]
  have hp := Nat.two_pow_pos (4 * (txtN A - 1))
  generalize 2 ^ (4 * (txtN A - 1)) = p at *
  have h7 : 1 ≤ A / p := by rw [Nat.le_div_iff_mul_le hp]; omega
  have h8 : A / p < 16 := by rw [Nat.div_lt_iff_lt_mul hp]; omega
  omega
/-- the text down to place p -/
def textP (A N p : Nat) : List UInt8 := (List.range (N - p)).map fun i => UInt8.ofNat (digb (nib A (N - (1 + i))))
theorem textP_none {A N p : Nat} (h : N ≤ p) : textP A N p = [] := by
  unfold textP; rw [show N - p = 0 by omega]; rfl
theorem textP_zero (A N : Nat) : textP A N 0 = textL A N := rfl
theorem textP_next {A N p : Nat} (h : p < N) : textP A N p = textP A N (p + 1) ++ [UInt8.ofNat (digb (nib A p))] := by
  unfold textP
  rw [show N - p = N - (p + 1) + 1 by omega, List.range_succ, List.map_append, List.map_singleton, show N - (1 + (N - (p + 1))) = p by omega]
theorem textP_some {A N p : Nat} (h : p < N) : textP A N p ≠ [] := by rw [textP_next h]; simp
/-! reading -/
def hexv (c : UInt8) : Nat := if 48 ≤ c.toNat ∧ c.toNat ≤ 57 then c.toNat - 48 else if 97 ≤ c.toNat ∧ c.toNat ≤ 102 then c.toNat - 87 else 16
def horn (l : List UInt8) : Nat := l.foldl (fun v c => 16 * v + hexv c) 0
def headed (l : List UInt8) : Prop := 1 ≤ l.length ∧ l.length ≤ 96 ∧ ¬ (1 < l.length ∧ l[0]? = some 48)
instance (l : List UInt8) : Decidable (headed l) := by unfold headed; infer_instance
def okText (l : List UInt8) : Prop := headed l ∧ ∀ c ∈ l, hexv c < 16
instance (l : List UInt8) : Decidable (okText l) := by unfold okText; infer_instance
def readV (l : List UInt8) : Nat := if okText l then horn l else 0
def readE (l : List UInt8) : Nat := if okText l then 0 else 20
theorem horn_snoc (l : List UInt8) (c : UInt8) : horn (l ++ [c]) = 16 * horn l + hexv c := by unfold horn; rw [List.foldl_append]; rfl
theorem horn_lt : ∀ (n : Nat) (l : List UInt8), l.length = n → (∀ c ∈ l, hexv c < 16) → horn l < 2 ^ (4 * n)
  | 0, l, h, _ => by
    have : l = [] := List.eq_nil_of_length_eq_zero h
    subst this
    decide
  | n + 1, l, h, hc => by
    obtain ⟨m, c, rfl⟩ : ∃ m c, l = m ++ [c] := by
      have hn : l ≠ [] := by intro e; subst e; cases h
      exact ⟨l.dropLast, l.getLast hn, (List.dropLast_concat_getLast hn).symm⟩
    have ih := horn_lt n m (by simpa using h) fun c hc' => hc c (by simp [hc'])
    have h1 := hc c (by simp)
    rw [horn_snoc, show 4 * (n + 1) = 4 * n + 4 by omega, Nat.pow_add]
    omega
theorem horn_take {l : List UInt8} {k : Nat} (h : k < l.length) : horn (l.take (k + 1)) = 16 * horn (l.take k) + hexv l[k] := by
  rw [List.take_succ_eq_append_getElem h, horn_snoc]
theorem hexv_digb : ∀ d : Fin 16, hexv (UInt8.ofNat (digb d.val)) = d.val := by decide
theorem horn_text (A N : Nat) : ∀ p, p ≤ N → horn (textP A N p) = A / 2 ^ (4 * p) % 2 ^ (4 * (N - p)) := by
  have key : ∀ m p, p + m = N → horn (textP A N p) = A / 2 ^ (4 * p) % 2 ^ (4 * m) := by
    intro m
    induction m with
    | zero =>
      intro p hp
      rw [textP_none (by omega), Nat.mul_zero, Nat.pow_zero, Nat.mod_one]; rfl
    | succ m ih =>
      intro p hp
      have h1 := ih (p + 1) (by omega)
      rw [textP_next (by omega), horn_snoc, h1]
      have h2 : hexv (UInt8.ofNat (digb (nib A p))) = nib A p := hexv_digb ⟨nib A p, nib_lt A p⟩
      rw [h2, nib_eq]
      have h3 : A / 2 ^ (4 * p) = 16 * (A / 2 ^ (4 * (p + 1))) + A / 2 ^ (4 * p) % 16 := by
        rw [show 4 * (p + 1) = 4 * p + 4 by omega, Nat.pow_add, ← Nat.div_div_eq_div_mul]
        exact (Nat.div_add_mod _ _).symm
      have h4 : (2 : Nat) ^ (4 * (m + 1)) = 16 * 2 ^ (4 * m) := by rw [show 4 * (m + 1) = 4 + 4 * m by omega, Nat.pow_add]
      rw [h4, Nat.mod_mul]
      have h5 : A / 2 ^ (4 * p) / 16 = A / 2 ^ (4 * (p + 1)) := by
        rw [Nat.div_div_eq_div_mul, show 4 * (p + 1) = 4 * p + 4 by omega, Nat.pow_add]
      rw [h5]
      omega
  intro p hp
  exact key (N - p) p (by omega)
theorem text_ok {A : Nat} (hA : A < W384) : okText (textL A (txtN A)) ∧ horn (textL A (txtN A)) = A := by
  obtain ⟨hN1, hN2⟩ := txtN_le hA
  have hlen : (textL A (txtN A)).length = txtN A := by simp [textL]
  refine ⟨⟨⟨by omega, by omega, ?_⟩, ?_⟩, ?_⟩
  · rintro ⟨h1, h2⟩
    rw [hlen] at h1
    have h3 := txt_top hA h1
    have h4 : (textL A (txtN A))[0]? = some (UInt8.ofNat (digb (nib A (txtN A - 1)))) := by
      unfold textL
      simp [show 0 < txtN A by omega]
    rw [h4, Option.some.injEq] at h2
    have h5 := hexv_digb ⟨nib A (txtN A - 1), nib_lt _ _⟩
    simp only at h5
    rw [h2] at h5
    apply h3
    rw [← h5]; decide
  · intro c hc
    unfold textL at hc
    obtain ⟨i, _, rfl⟩ := List.mem_map.1 hc
    have h5 := hexv_digb ⟨nib A (txtN A - (1 + i)), nib_lt _ _⟩
    simp only at h5
    rw [h5]; exact nib_lt _ _
  · have h := horn_text A (txtN A) 0 (Nat.zero_le _)
    rw [← textP_zero, h, Nat.mul_zero, Nat.pow_zero, Nat.div_one, Nat.sub_zero]
    obtain ⟨h1, _⟩ := (lenW_spec hA).1
    refine Nat.mod_eq_of_lt (Nat.lt_of_lt_of_le h1 (Nat.pow_le_pow_right (by decide) ?_))
    unfold txtN; omega
/-- a digit more, laid at its place -/
theorem or_digit {T d k : Nat} (hT : T % 2 ^ (4 * (k + 1)) = 0) (hd : d < 16) : T ||| d * 2 ^ (4 * k) = T + d * 2 ^ (4 * k) := by
  have h1 := Nat.div_add_mod T (2 ^ (4 * (k + 1)))
  rw [hT, Nat.add_zero] at h1
  have h2 : d * 2 ^ (4 * k) < 2 ^ (4 * (k + 1)) := by
    rw [show 4 * (k + 1) = 4 + 4 * k by omega, Nat.pow_add]
    exact Nat.mul_lt_mul_of_pos_right hd (Nat.two_pow_pos _)
  have h3 := Nat.two_pow_add_eq_or_of_lt h2 (T / 2 ^ (4 * (k + 1)))
  rw [h1] at h3
  exact h3.symm
theorem limb_digit {d k : Nat} (hd : d < 16) (i : Nat) : limb (d * 2 ^ (4 * k)) i = if i = k / 16 then d * 2 ^ (4 * (k % 16)) else 0 := by
  have e : d * 2 ^ (4 * k) = d * 2 ^ (4 * (k % 16)) * 2 ^ (64 * (k / 16)) := by
    rw [Nat.mul_assoc, ← Nat.pow_add]; congr 2; omega
  have hlt : d * 2 ^ (4 * (k % 16)) < 18446744073709551616 := by
    have h1 : 2 ^ (4 * (k % 16)) ≤ 2 ^ 60 := Nat.pow_le_pow_right (by decide) (by omega)
    have h2 : d * 2 ^ (4 * (k % 16)) ≤ 15 * 2 ^ 60 := Nat.mul_le_mul (by omega) h1
    omega
  rw [e, ← Bk_two]
  have := limb_top (S := 0) (k := k / 16) (pow_pos64 _) hlt i
  rw [Nat.zero_add] at this
  rw [this]
  split
  · rfl
  · exact limb_zero i
theorem readV_lt (l : List UInt8) : readV l < W384 := by
  unfold readV
  split
  · rename_i h
    have h1 := horn_lt _ l rfl h.2
    have h2 : 2 ^ (4 * l.length) ≤ 2 ^ 384 := Nat.pow_le_pow_right (by decide) (by have := h.1.2.1; omega)
    rw [W384_two]; omega
  · exact W384_pos
end Go.Proofs.YtlpgflmjpdhpnaaDoor
