/- Patches, plain: what makes b of a. -/
import Derived.Test.YtdgdmhmagdjeoaaUj
namespace Go.Proofs.Ytdgdmhmagdjeoaa
open Go.RowKit
set_option linter.unusedVariables false
set_option linter.unusedSimpArgs false
abbrev at' (l : List Nat) (i : Nat) : Nat := l[i]?.getD 0
/-- where a run that began before ends -/
def runEnd (a b : List Nat) (k : Nat) : Nat := if k < a.length ∧ at' a k ≠ at' b k then runEnd a b (k + 1) else k
termination_by a.length - k
theorem runEnd_go {a b : List Nat} {k : Nat} (h : k < a.length) (hn : at' a k ≠ at' b k) : runEnd a b k = runEnd a b (k + 1) := by
  rw [runEnd, if_pos ⟨h, hn⟩]
theorem runEnd_end {a b : List Nat} {k : Nat} (h : ¬ k < a.length) : runEnd a b k = k := by
  rw [runEnd, if_neg (fun e => h e.1)]
theorem runEnd_eq {a b : List Nat} {k : Nat} (h : at' a k = at' b k) : runEnd a b k = k := by
  rw [runEnd, if_neg (fun e => e.2 h)]
theorem runEnd_spec (a b : List Nat) : ∀ (n k : Nat), a.length - k = n → k ≤ a.length → k ≤ runEnd a b k ∧ runEnd a b k ≤ a.length ∧ (runEnd a b k < a.length → at' a (runEnd a b k) = at' b (runEnd a b k))
  | 0, k, hn, hk => by
    rw [runEnd_end (by omega)]
    exact ⟨Nat.le_refl _, hk, fun h => by omega⟩
  | n + 1, k, hn, hk => by
    by_cases h : at' a k = at' b k
    · rw [runEnd_eq h]; exact ⟨Nat.le_refl _, hk, fun _ => h⟩
    · have := runEnd_spec a b n (k + 1) (by omega) (by omega)
      rw [← runEnd_go (by omega) h] at this
      exact ⟨by omega, this.2.1, this.2.2⟩
theorem runEnd_lt {a b : List Nat} {k : Nat} (h : k < a.length) (hn : at' a k ≠ at' b k) : k < runEnd a b k := by
  have := (runEnd_spec a b _ (k + 1) rfl (by omega)).1
  rw [runEnd_go h hn]; omega
/-- the patches from a place on -/
def chgL (a b : List Nat) (i : Nat) : List (Nat × List Nat) :=
  if h : i < a.length then
    if hn : at' a i = at' b i then chgL a b (i + 1) else (i, part b i (runEnd a b i - i)) :: chgL a b (runEnd a b i)
  else []
termination_by a.length - i
decreasing_by
  · omega
  · have := runEnd_lt h hn; omega
theorem chgL_end {a b : List Nat} {i : Nat} (h : ¬ i < a.length) : chgL a b i = [] := by rw [chgL, dif_neg h]
theorem chgL_eq {a b : List Nat} {i : Nat} (h : i < a.length) (hn : at' a i = at' b i) : chgL a b i = chgL a b (i + 1) := by rw [chgL, dif_pos h, dif_pos hn]
theorem chgL_run {a b : List Nat} {i : Nat} (h : i < a.length) (hn : at' a i ≠ at' b i) : chgL a b i = (i, part b i (runEnd a b i - i)) :: chgL a b (runEnd a b i) := by rw [chgL, dif_pos h, dif_neg hn]
/-- patches, put -/
def putAll8 (l : List Nat) (ps : List (Nat × List Nat)) : List Nat := ps.foldl (fun l p => put l p.1 p.2) l
theorem putAll8_cons (l : List Nat) (p : Nat × List Nat) (ps) : putAll8 l (p :: ps) = putAll8 (put l p.1 p.2) ps := rfl
theorem mix_eq {a b : List Nat} {i : Nat} (hl : a.length = b.length) (h : i < a.length) (hn : at' a i = at' b i) : b.take i ++ a.drop i = b.take (i + 1) ++ a.drop (i + 1) := by
  have hb : i < b.length := by omega
  rw [List.drop_eq_getElem_cons h]
  simp only [at', List.getElem?_eq_getElem h, List.getElem?_eq_getElem hb, Option.getD_some] at hn
  rw [List.take_add_one, List.getElem?_eq_getElem hb, hn]
  simp only [Option.toList_some, List.append_assoc, List.cons_append, List.nil_append]
theorem mix_put {a b : List Nat} {i k : Nat} (hl : a.length = b.length) (h : i ≤ k) (hk : k ≤ a.length) : put (b.take i ++ a.drop i) i (part b i (k - i)) = b.take k ++ a.drop k := by
  have h1 : (part b i (k - i)).length = k - i := part_length (by omega)
  unfold put
  rw [h1]
  have e1 : (b.take i ++ a.drop i).take i = b.take i := by
    rw [List.take_append_of_le_length (by simp; omega), List.take_take]; simp
  have e2 : (b.take i ++ a.drop i).drop (i + (k - i)) = a.drop k := by
    rw [List.drop_append, List.drop_of_length_le (by simp; omega)]
    simp only [List.length_take, List.nil_append, List.drop_drop]
    congr 1; omega
  rw [e1, e2, ← List.append_assoc]
  congr 1
  unfold part
  apply List.ext_getElem?
  intro j
  simp only [List.getElem?_append, List.getElem?_take, List.getElem?_drop, List.length_take]
  repeat' split
  all_goals first | rfl | omega | (congr 1; omega)
theorem chgL_spec (a b : List Nat) (hl : a.length = b.length) : ∀ (n i : Nat), a.length - i = n → i ≤ a.length →
    putAll8 (b.take i ++ a.drop i) (chgL a b i) = b ∧ (∀ p ∈ chgL a b i, p.1 + p.2.length ≤ a.length ∧ p.2 ≠ [] ∧ i ≤ p.1 ∧ (∀ x ∈ p.2, x ∈ b)) ∧
    (∀ j, j + 1 < (chgL a b i).length → ((chgL a b i)[j]?.getD (0, [])).1 + ((chgL a b i)[j]?.getD (0, [])).2.length < ((chgL a b i)[j + 1]?.getD (0, [])).1) := by
  intro n
  induction n using Nat.strongRecOn with
  | ind n ih =>
    intro i hn hi
    by_cases h : i < a.length
    · by_cases he : at' a i = at' b i
      · rw [chgL_eq h he, mix_eq hl h he]
        obtain ⟨h1, h2, h3⟩ := ih (a.length - (i + 1)) (by omega) (i + 1) rfl (by omega)
        exact ⟨h1, fun p hp => by obtain ⟨p1, p2, p3, p4⟩ := h2 p hp; exact ⟨p1, p2, by omega, p4⟩, h3⟩
      · have hlt := runEnd_lt h he
        obtain ⟨g1, g2, g3⟩ := runEnd_spec a b _ i rfl hi
        rw [chgL_run h he]
        obtain ⟨k, hk⟩ : ∃ k, runEnd a b i = k := ⟨_, rfl⟩
        rw [hk] at hlt g1 g2 g3 ⊢
        obtain ⟨h1, h2, h3⟩ := ih (a.length - k) (by omega) k rfl (by omega)
        have hpl : (part b i (k - i)).length = k - i := part_length (by omega)
        refine ⟨?_, ?_, ?_⟩
        · rw [putAll8_cons, mix_put hl g1 g2]; exact h1
        · intro p hp
          rcases List.mem_cons.1 hp with rfl | hp
          · refine ⟨by show i + (part b i (k - i)).length ≤ _; rw [hpl]; omega, fun e => by rw [show part b i (k - i) = [] from e] at hpl; simp at hpl; omega, Nat.le_refl _, fun x hx => List.mem_of_mem_drop (List.mem_of_mem_take hx)⟩
          · obtain ⟨p1, p2, p3, p4⟩ := h2 p hp; exact ⟨p1, p2, by omega, p4⟩
        · intro j hj
          cases j with
          | zero =>
            simp only [List.getElem?_cons_zero, Option.getD_some, List.getElem?_cons_succ, hpl]
            have hc0 : 0 < (chgL a b k).length := by simp at hj; omega
            have hkl : k < a.length := by
              rcases Nat.lt_or_ge k a.length with h | h
              · exact h
              · rw [chgL_end (by omega)] at hc0; simp at hc0
            have hek := g3 hkl
            rw [chgL_eq hkl hek] at hc0 ⊢
            obtain ⟨_, h2', _⟩ := ih (a.length - (k + 1)) (by omega) (k + 1) rfl (by omega)
            rw [List.getElem?_eq_getElem hc0, Option.getD_some]
            have := (h2' _ (List.getElem_mem hc0)).2.2.1
            omega
          | succ j =>
            simp only [List.getElem?_cons_succ]
            exact h3 j (by simp at hj; omega)
    · rw [chgL_end h]
      have : i = a.length := by omega
      subst this
      refine ⟨?_, (fun p hp => by simp at hp), (fun j hj => by simp at hj)⟩
      rw [List.drop_length, hl, List.take_length]; simp [putAll8]
theorem mul_back (x M a v k : Nat) (hx : x < M) (h : v * a = 1 + M * k) : v * (a * x % M) % M = x := by
  rw [Nat.mul_mod_mod, ← Nat.mul_assoc, h, Nat.add_mul, Nat.one_mul, Nat.mul_assoc, Nat.add_mul_mod_self_left, Nat.mod_eq_of_lt hx]
theorem mul_inj {x y : Nat} (h1 : x < 18446744073709551616) (h2 : y < 18446744073709551616) (h : 1099511628211 * x % 18446744073709551616 = 1099511628211 * y % 18446744073709551616) : x = y := by
  rw [← mul_back x 18446744073709551616 1099511628211 14886173955864302971 887285111055 h1 (by decide), ← mul_back y 18446744073709551616 1099511628211 14886173955864302971 887285111055 h2 (by decide), h]
theorem xor_lt64 {s c : Nat} (hs : s < 18446744073709551616) (hc : c < 256) : s ^^^ c < 18446744073709551616 :=
  Nat.xor_lt_two_pow (n := 64) hs (Nat.lt_trans hc (by decide))
theorem chgL_len (a b : List Nat) : ∀ (n i : Nat), a.length - i = n → (chgL a b i).length ≤ a.length - i := by
  intro n
  induction n using Nat.strongRecOn with
  | ind n ih =>
    intro i hn
    by_cases h : i < a.length
    · by_cases he : at' a i = at' b i
      · rw [chgL_eq h he]
        have := ih (a.length - (i + 1)) (by omega) (i + 1) rfl
        omega
      · have hlt := runEnd_lt h he
        have hle := (runEnd_spec a b _ i rfl (by omega)).2.1
        rw [chgL_run h he, List.length_cons]
        have := ih (a.length - runEnd a b i) (by omega) (runEnd a b i) rfl
        omega
    · rw [chgL_end h]; simp
theorem fstep_inj {s t : Nat} (hs : s < 18446744073709551616) (ht : t < 18446744073709551616) {c d : Nat} (hc : c < 256) (hd : d < 256) (h : fstep s c = fstep t d) : s ^^^ c = t ^^^ d := by
  unfold fstep at h
  exact mul_inj (xor_lt64 hs hc) (xor_lt64 ht hd) h
theorem xor_inj_right {s t c : Nat} (h : s ^^^ c = t ^^^ c) : s = t := by
  have := congrArg (· ^^^ c) h
  simpa [Nat.xor_assoc] using this
theorem xor_inj_left {s c d : Nat} (h : s ^^^ c = s ^^^ d) : c = d := by
  have := congrArg (s ^^^ ·) h
  simpa [← Nat.xor_assoc] using this
theorem fold_inj : ∀ (l : List Nat) (s t : Nat), s < 18446744073709551616 → t < 18446744073709551616 → (∀ x ∈ l, x < 256) → l.foldl fstep s = l.foldl fstep t → s = t
  | [], s, t, _, _, _, h => h
  | c :: l, s, t, hs, ht, hx, h => by
    have := fold_inj l _ _ (fstep_lt s c) (fstep_lt t c) (fun x h => hx x (by simp [h])) h
    exact xor_inj_right (fstep_inj hs ht (hx c (by simp)) (hx c (by simp)) this)
theorem split_at {l : List Nat} {k : Nat} (h : k < l.length) : l = l.take k ++ (at' l k :: l.drop (k + 1)) := by
  simp only [at', List.getElem?_eq_getElem h, Option.getD_some]
  rw [← List.drop_eq_getElem_cons h, List.take_append_drop]
theorem put_one {l : List Nat} {k x : Nat} : put l k [x] = l.take k ++ (x :: l.drop (k + 1)) := rfl
theorem put_one_ne {l : List Nat} {k x : Nat} (h : k < l.length) (hx : x ≠ at' l k) : put l k [x] ≠ l := fun e => by
  rw [put_one] at e
  have e2 := e.trans (split_at h)
  have := List.append_cancel_left e2
  exact hx (List.cons.inj this).1
theorem fnv_turned {l : List Nat} {k x : Nat} (h : k < l.length) (hl : ∀ y ∈ l, y < 256) (hx : x < 256) (hne : x ≠ at' l k) : fnv (put l k [x]) ≠ fnv l := fun e => by
  have e2 : fnv l = fnv (l.take k ++ (at' l k :: l.drop (k + 1))) := congrArg fnv (split_at h)
  rw [put_one, e2] at e
  unfold fnv at e
  rw [List.foldl_append, List.foldl_append, List.foldl_cons, List.foldl_cons] at e
  have hs := fold_lt (l.take k) 14695981039346656037 (by decide)
  have := fold_inj _ _ _ (fstep_lt _ _) (fstep_lt _ _) (fun y hy => hl y (List.mem_of_mem_drop hy)) e
  exact hne (xor_inj_left (fstep_inj hs hs hx (getD_small hl k) this))
theorem xor_ne {c t : Nat} (ht : t ≠ 0) : c ^^^ t ≠ c := fun e => ht (by
  have := congrArg (c ^^^ ·) e
  simpa [← Nat.xor_assoc] using this)
end Go.Proofs.Ytdgdmhmagdjeoaa
