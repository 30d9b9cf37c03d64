/- The document's patches are mem's: plain facts. -/
import Derived.Test.YtdgdmhmagdjeoaaUq
namespace Go.Proofs.Ytdgdmhmagdjeoaa
open Go.RowKit
set_option linter.unusedVariables false
/-- one byte more in the last patch -/
def growL : List (Nat × List Nat) → Nat → List (Nat × List Nat)
  | [], _ => []
  | [p], y => [(p.1, p.2 ++ [y])]
  | p :: q :: ps, y => p :: growL (q :: ps) y
theorem growL_snoc : ∀ (ps : List (Nat × List Nat)) (i : Nat) (l : List Nat) (y : Nat), growL (ps ++ [(i, l)]) y = ps ++ [(i, l ++ [y])]
  | [], i, l, y => rfl
  | [p], i, l, y => rfl
  | p :: q :: ps, i, l, y => by
    show p :: growL ((q :: ps) ++ [(i, l)]) y = _
    rw [growL_snoc (q :: ps)]; rfl
/-- the patches of the first i bytes, as the document goes -/
def chgR (a b : List Nat) : Nat → List (Nat × List Nat)
  | 0 => []
  | i + 1 => if at' a i = at' b i then chgR a b i else if 0 < i ∧ at' a (i - 1) ≠ at' b (i - 1) then growL (chgR a b i) (at' b i) else chgR a b i ++ [(i, [at' b i])]
theorem chgR_eq {a b : List Nat} {i : Nat} (h : at' a i = at' b i) : chgR a b (i + 1) = chgR a b i := by rw [chgR, if_pos h]
theorem chgR_new {a b : List Nat} {i : Nat} (h : at' a i ≠ at' b i) (h2 : i = 0 ∨ at' a (i - 1) = at' b (i - 1)) : chgR a b (i + 1) = chgR a b i ++ [(i, [at' b i])] := by
  rw [chgR, if_neg h, if_neg (fun ⟨h3, h4⟩ => by rcases h2 with h2 | h2; omega; exact h4 h2)]
theorem chgR_more {a b : List Nat} {i : Nat} (h : at' a i ≠ at' b i) (h0 : 0 < i) (h2 : at' a (i - 1) ≠ at' b (i - 1)) : chgR a b (i + 1) = growL (chgR a b i) (at' b i) := by
  rw [chgR, if_neg h, if_pos ⟨h0, h2⟩]
theorem chgR_ne (a b : List Nat) : ∀ i, at' a i ≠ at' b i → ∃ qs k l, chgR a b (i + 1) = qs ++ [(k, l)]
  | 0, h => ⟨_, _, _, chgR_new h (.inl rfl)⟩
  | i + 1, h => by
    by_cases h2 : at' a i = at' b i
    · exact ⟨_, _, _, chgR_new h (.inr h2)⟩
    · obtain ⟨qs, k, l, e⟩ := chgR_ne a b i h2
      exact ⟨qs, k, l ++ [at' b (i + 1)], by rw [chgR_more h (by omega) h2, e, growL_snoc]⟩
theorem chgR_len (a b : List Nat) : ∀ i, (chgR a b i).length ≤ i
  | 0 => Nat.le_refl _
  | i + 1 => by
    have hg : ∀ (ps : List (Nat × List Nat)) (y : Nat), (growL ps y).length = ps.length := fun ps y => by
      induction ps with
      | nil => rfl
      | cons p ps ih =>
        cases ps with
        | nil => rfl
        | cons q ps => show (growL (q :: ps) y).length + 1 = _; rw [ih]; rfl
    have := chgR_len a b i
    rw [chgR]
    split
    · omega
    · split
      · rw [hg]; omega
      · rw [List.length_append]; simp; omega
theorem runEnd_mid (a b : List Nat) : ∀ (n k : Nat), a.length - k = n → ∀ j, k ≤ j → j < runEnd a b k → at' a j ≠ at' b j
  | 0, k, h, j, h1, h2 => by
    rw [runEnd_end (by omega)] at h2; omega
  | n + 1, k, h, j, h1, h2 => by
    by_cases he : at' a k = at' b k
    · rw [runEnd_eq he] at h2; omega
    · rw [runEnd_go (by omega) he] at h2
      by_cases hj : j = k
      · rw [hj]; exact he
      · exact runEnd_mid a b n (k + 1) (by omega) j (by omega) h2
theorem part_snoc {b : List Nat} {i j : Nat} (h : i ≤ j) (hj : j < b.length) : part b i (j + 1 - i) = part b i (j - i) ++ [at' b j] := by
  unfold part at'
  rw [show j + 1 - i = (j - i) + 1 by omega, List.take_add_one, List.getElem?_drop, show i + (j - i) = j by omega, List.getElem?_eq_getElem hj]
  rfl
theorem chgR_run {a b : List Nat} (hl : a.length = b.length) {i : Nat} (hi : i < a.length) (h : at' a i ≠ at' b i) (h2 : i = 0 ∨ at' a (i - 1) = at' b (i - 1)) :
    ∀ d, i + 1 + d ≤ runEnd a b i → chgR a b (i + 1 + d) = chgR a b i ++ [(i, part b i (1 + d))]
  | 0, _ => by
    rw [Nat.add_zero, chgR_new h h2]
    have := part_snoc (b := b) (Nat.le_refl i) (by omega)
    rw [show i + 1 - i = 1 by omega, Nat.sub_self] at this
    rw [show (1 : Nat) + 0 = 1 from rfl, this]; rfl
  | d + 1, hd => by
    have hle := (runEnd_spec a b (a.length - i) i rfl (by omega)).2.1
    have h3 := runEnd_mid a b _ i rfl (i + 1 + d) (by omega) (by omega)
    have h4 := runEnd_mid a b _ i rfl (i + 1 + d - 1) (by omega) (by omega)
    have h5 := part_snoc (b := b) (i := i) (j := i + 1 + d) (by omega) (by omega)
    rw [show i + 1 + d + 1 - i = 1 + (d + 1) by omega, show i + 1 + d - i = 1 + d by omega] at h5
    rw [show i + 1 + (d + 1) = i + 1 + d + 1 by omega, chgR_more h3 (by omega) h4, chgR_run hl hi h h2 d (by omega), growL_snoc, h5]
theorem chgR_chgL {a b : List Nat} (hl : a.length = b.length) : ∀ (n i : Nat), a.length - i ≤ n → i ≤ a.length → (i = 0 ∨ at' a (i - 1) = at' b (i - 1)) → chgR a b a.length = chgR a b i ++ chgL a b i
  | n, i, hn, hi, h2 => by
    by_cases hlt : i < a.length
    · by_cases he : at' a i = at' b i
      · rw [chgL_eq hlt he]
        match n, hn with
        | 0, hn => omega
        | n + 1, hn => rw [chgR_chgL hl n (i + 1) (by omega) (by omega) (.inr he), chgR_eq he]
      · obtain ⟨h3, h4, h5⟩ := runEnd_spec a b (a.length - i) i rfl (by omega)
        have h6 := runEnd_lt hlt he
        have h7 := chgR_run hl hlt he h2 (runEnd a b i - (i + 1)) (by omega)
        rw [show i + 1 + (runEnd a b i - (i + 1)) = runEnd a b i by omega, show 1 + (runEnd a b i - (i + 1)) = runEnd a b i - i by omega] at h7
        rw [chgL_run hlt he]
        rcases Nat.lt_or_ge (runEnd a b i) a.length with h8 | h8
        · have h9 := h5 h8
          rw [chgL_eq h8 h9]
          match n, hn with
          | 0, hn => omega
          | n + 1, hn => rw [chgR_chgL hl n (runEnd a b i + 1) (by omega) (by omega) (.inr h9), chgR_eq h9, h7, List.append_assoc]; rfl
        · have h9 : runEnd a b i = a.length := by omega
          rw [h9] at h7 ⊢
          rw [chgL_end (by omega), h7]
    · have : i = a.length := by omega
      subst this
      rw [chgL_end (by omega), List.append_nil]
theorem chgR_all {a b : List Nat} (hl : a.length = b.length) : chgR a b a.length = chgL a b 0 := by
  rw [chgR_chgL hl _ 0 (Nat.le_refl _) (Nat.zero_le _) (.inl rfl)]; rfl
/-- do all patches fit? -/
def fits (n : Nat) (ps : List (Nat × List Nat)) : Bool := ps.all fun p => decide (p.1 + p.2.length ≤ n)
theorem fits_yes {n : Nat} {ps : List (Nat × List Nat)} (h : fits n ps = true) : ∀ p ∈ ps, p.1 + p.2.length ≤ n := fun p hp => of_decide_eq_true (List.all_eq_true.1 h p hp)
theorem fits_no {n : Nat} {ps : List (Nat × List Nat)} {i : Nat} {p : Nat × List Nat} (hi : ps[i]? = some p) (h : ¬ p.1 + p.2.length ≤ n) : fits n ps = false := by
  cases hf : fits n ps with
  | false => rfl
  | true => exact absurd (fits_yes hf p (List.mem_of_getElem? hi)) h
theorem fits_all {n : Nat} {ps : List (Nat × List Nat)} (h : ∀ p ∈ ps, p.1 + p.2.length ≤ n) : fits n ps = true := List.all_eq_true.2 fun p hp => decide_eq_true (h p hp)
theorem putAll8_length {n : Nat} : ∀ (ps : List (Nat × List Nat)) (l : List Nat), l.length = n → (∀ p ∈ ps, p.1 + p.2.length ≤ n) → (putAll8 l ps).length = n
  | [], l, hl, _ => hl
  | p :: ps, l, hl, h => by
    rw [putAll8_cons]
    exact putAll8_length ps _ (by rw [put_length (by rw [hl]; exact h p (by simp))]; exact hl) fun q hq => h q (by simp [hq])
theorem putAll8_small : ∀ (ps : List (Nat × List Nat)) (l : List Nat), (∀ y ∈ l, y < 256) → (∀ p ∈ ps, ∀ y ∈ p.2, y < 256) → ∀ y ∈ putAll8 l ps, y < 256
  | [], l, hl, _ => hl
  | p :: ps, l, hl, h => by
    rw [putAll8_cons]
    exact putAll8_small ps _ (put_small hl (h p (by simp))) fun q hq => h q (by simp [hq])
end Go.Proofs.Ytdgdmhmagdjeoaa
