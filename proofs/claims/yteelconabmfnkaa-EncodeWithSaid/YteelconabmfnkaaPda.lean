/- Pda: several texts in one. -/
import Derived.Test.YteelconabmfnkaaTo
/- Plain: words and the instructions that they are. -/
namespace Go.Proofs.Yteelconabmfnkaa
open Go Go.RowKit
set_option maxRecDepth 100000
set_option linter.unusedVariables false
theorem fld {w m mask : Nat} (k n : Nat) (h : (w ^^^ m) &&& mask = 0) (hm : mask / 2 ^ k % 2 ^ n = 2 ^ n - 1) : w / 2 ^ k % 2 ^ n = m / 2 ^ k % 2 ^ n := by
  apply Nat.eq_of_testBit_eq
  intro i
  have e := congrArg (·.testBit (i + k)) h
  have e1 := congrArg (·.testBit i) hm
  simp only [Nat.testBit_and, Nat.testBit_xor, Nat.zero_testBit, Nat.testBit_mod_two_pow, Nat.testBit_div_two_pow, Nat.testBit_two_pow_sub_one] at e e1 ⊢
  by_cases hi : i < n
  · rw [decide_eq_true hi, Bool.true_and] at e1 ⊢
    rw [e1, Bool.and_true] at e
    rw [Bool.true_and]
    cases h1 : w.testBit (i + k) <;> cases h2 : m.testBit (i + k) <;> rw [h1, h2] at e <;> simp_all
  · rw [decide_eq_false hi]; simp
theorem fld0 {m mask : Nat} (k n : Nat) (h : m &&& mask = m) (hm : mask / 2 ^ k % 2 ^ n = 0) : m / 2 ^ k % 2 ^ n = 0 := by
  apply Nat.eq_of_testBit_eq
  intro i
  have e := congrArg (·.testBit (i + k)) h
  have e1 := congrArg (·.testBit i) hm
  simp only [Nat.testBit_and, Nat.zero_testBit, Nat.testBit_mod_two_pow, Nat.testBit_div_two_pow] at e e1 ⊢
  by_cases hi : i < n
  · rw [decide_eq_true hi, Bool.true_and] at e1 ⊢
    rw [e1, Bool.and_false] at e
    exact e.symm
  · rw [decide_eq_false hi]; simp
/-- the mask of a layout's rows -/
def MK (l : Nat) : Nat := match l with
  | 3 => 100663423
  | 4 => 4261412991
  | 5 => 4261441663
  | 6 => 4293918847
  | 7 => 4293947519
  | _ => 28799
structure RowFine (r : R7) : Prop where
  mask : r.mask = MK r.lay
  mt : r.mtch < 4294967296
  own : r.mtch &&& r.mask = r.mtch
  op1 : 1 ≤ r.op
  op2 : r.op ≤ 31
  form : r.form < 4
  frm : r.frm < 4
  kind : r.kind < 4
  lay1 : 1 ≤ r.lay
  lay2 : r.lay ≤ 9
  store : r.lay = 2 ↔ r.op = 2
theorem row_fine : ∀ r ∈ ROWS, RowFine r := by
  have h : (ROWS.all fun r => r.mask == MK r.lay && decide (r.mtch < 4294967296) && (r.mtch &&& r.mask == r.mtch) && decide (1 ≤ r.op) && decide (r.op ≤ 31) && decide (r.form < 4) && decide (r.frm < 4) && decide (r.kind < 4) && decide (1 ≤ r.lay) && decide (r.lay ≤ 9) && decide (r.lay = 2 ↔ r.op = 2)) = true := by decide +kernel
  intro r hr
  have := List.all_eq_true.1 h r hr
  simp only [Bool.and_eq_true, beq_iff_eq, decide_eq_true_eq] at this
  obtain ⟨⟨⟨⟨⟨⟨⟨⟨⟨⟨a, b⟩, c⟩, d⟩, e⟩, f⟩, g⟩, h⟩, i⟩, j⟩, k⟩ := this
  exact ⟨a, b, c, d, e, f, g, h, i, j, k⟩
/-- a row is told by its Op, formats and kind -/
theorem row_asked : ∀ r ∈ ROWS, ∀ q ∈ ROWS, r.op = q.op → r.form = q.form → r.frm = q.frm → r.kind = q.kind → r = q := by
  have h : (ROWS.all fun r => ROWS.all fun q => !(r.op == q.op && r.form == q.form && r.frm == q.frm && r.kind == q.kind) || decide (r = q)) = true := by decide +kernel
  intro r hr q hq h1 h2 h3 h4
  have := List.all_eq_true.1 (List.all_eq_true.1 h r hr) q hq
  simpa [h1, h2, h3, h4] using this
/-- the bits of an instruction's fields -/
def FW (l : Nat) (x : I11) : Nat := match l with
  | 1 => 128 * x.rd + 32768 * x.rs1 + 1048576 * (x.imm % 4096).toNat
  | 2 => 128 * ((x.imm % 4096).toNat % 32) + 32768 * x.rs1 + 1048576 * x.rs2 + 33554432 * ((x.imm % 4096).toNat / 32)
  | 3 => 128 * x.rd + 4096 * x.rm + 32768 * x.rs1 + 1048576 * x.rs2 + 134217728 * x.rs3
  | 4 => 128 * x.rd + 4096 * x.rm + 32768 * x.rs1 + 1048576 * x.rs2
  | 5 => 128 * x.rd + 32768 * x.rs1 + 1048576 * x.rs2
  | 6 => 128 * x.rd + 4096 * x.rm + 32768 * x.rs1
  | 7 => 128 * x.rd + 32768 * x.rs1
  | 8 => 128 * x.rd + 32768 * x.rs1 + 1048576 * x.csr
  | 9 => 128 * x.rd + 32768 * x.rs1 + 1048576 * x.csr
  | _ => 0
/-- what an instruction's fields may be -/
structure Mays (l : Nat) (x : I11) : Prop where
  rd : x.rd < 32
  rs1 : x.rs1 < 32
  rs2 : x.rs2 < 32
  rs3 : x.rs3 < 32
  rm : x.rm < 8
  rm5 : x.rm ≠ 5
  rm6 : x.rm ≠ 6
  imm1 : -2048 ≤ x.imm
  imm2 : x.imm < 2048
  csr : x.csr ≤ 3
  zrd : l = 2 → x.rd = 0
  zrs2 : (l = 1 ∨ 6 ≤ l) → x.rs2 = 0
  zrs3 : l ≠ 3 → x.rs3 = 0
  zrm : (l ≠ 3 ∧ l ≠ 4 ∧ l ≠ 6) → x.rm = 0
  zimm : 3 ≤ l → x.imm = 0
  zcsr : l < 8 → x.csr = 0
  pcsr : 8 ≤ l → 1 ≤ x.csr
theorem toNat_s12 (v : Nat) (h : v < 4096) : (s12 v % 4096).toNat = v := by
  unfold s12
  split <;> omega
theorem s12_lo (v : Nat) (h : v < 4096) : -2048 ≤ s12 v ∧ s12 v < 2048 := by
  unfold s12
  split <;> omega
theorem unfld {w m : Nat} (k n : Nat) (h : w / 2 ^ k % 2 ^ n = m / 2 ^ k % 2 ^ n) : (w ^^^ m) &&& ((2 ^ n - 1) <<< k) = 0 := by
  apply Nat.eq_of_testBit_eq
  intro i
  simp only [Nat.testBit_and, Nat.testBit_xor, Nat.zero_testBit, Nat.testBit_shiftLeft, Nat.testBit_two_pow_sub_one]
  by_cases hk : k ≤ i
  · by_cases hn : i - k < n
    · have e := congrArg (·.testBit (i - k)) h
      simp only [Nat.testBit_mod_two_pow, Nat.testBit_div_two_pow, decide_eq_true hn, Bool.true_and, show i - k + k = i by omega] at e
      rw [e]; simp
    · rw [decide_eq_false hn]; simp
  · rw [decide_eq_false (show ¬ i ≥ k by omega)]; simp
/-- a word's seven parts -/
structure Parts (w a b c d e f g : Nat) : Prop where
  p0 : w % 128 = a
  p1 : w / 128 % 32 = b
  p2 : w / 4096 % 8 = c
  p3 : w / 32768 % 32 = d
  p4 : w / 1048576 % 32 = e
  p5 : w / 33554432 % 4 = f
  p6 : w / 134217728 % 32 = g
  q4 : w / 1048576 = e + 32 * f + 128 * g
  q5 : w / 33554432 = f + 4 * g
  sum : w = a + 128 * b + 4096 * c + 32768 * d + 1048576 * e + 33554432 * f + 134217728 * g
  ha : a < 128
  hb : b < 32
  hc : c < 8
  hd : d < 32
  he : e < 32
  hf : f < 4
  hg : g < 32
theorem parts_of {a b c d e f g : Nat} (ha : a < 128) (hb : b < 32) (hc : c < 8) (hd : d < 32) (he : e < 32) (hf : f < 4) (hg : g < 32) {w : Nat} (h : w = a + 128 * b + 4096 * c + 32768 * d + 1048576 * e + 33554432 * f + 134217728 * g) : Parts w a b c d e f g := by
  obtain ⟨t5, h5⟩ : ∃ t, f + 4 * g = t := ⟨_, rfl⟩
  obtain ⟨t4, h4⟩ : ∃ t, e + 32 * t5 = t := ⟨_, rfl⟩
  obtain ⟨t3, h3⟩ : ∃ t, d + 32 * t4 = t := ⟨_, rfl⟩
  obtain ⟨t2, h2⟩ : ∃ t, c + 8 * t3 = t := ⟨_, rfl⟩
  obtain ⟨t1, h1⟩ : ∃ t, b + 32 * t2 = t := ⟨_, rfl⟩
  have h0 : w = a + 128 * t1 := by omega
  have e1 : w / 128 = t1 := by clear h h1 h2 h3 h4 h5; omega
  have e2 : w / 4096 = t2 := by rw [show 4096 = 128 * 32 from rfl, ← Nat.div_div_eq_div_mul, e1]; clear h h0 e1 h2 h3 h4 h5; omega
  have e3 : w / 32768 = t3 := by rw [show 32768 = 4096 * 8 from rfl, ← Nat.div_div_eq_div_mul, e2]; clear h h0 e1 e2 h1 h3 h4 h5; omega
  have e4 : w / 1048576 = t4 := by rw [show 1048576 = 32768 * 32 from rfl, ← Nat.div_div_eq_div_mul, e3]; clear h h0 e1 e2 e3 h1 h2 h4 h5; omega
  have e5 : w / 33554432 = t5 := by rw [show 33554432 = 1048576 * 32 from rfl, ← Nat.div_div_eq_div_mul, e4]; clear h h0 e1 e2 e3 e4 h1 h2 h3 h5; omega
  have e6 : w / 134217728 = g := by rw [show 134217728 = 33554432 * 4 from rfl, ← Nat.div_div_eq_div_mul, e5]; clear h h0 e1 e2 e3 e4 e5 h1 h2 h3 h4; omega
  refine ⟨?_, ?_, ?_, ?_, ?_, ?_, ?_, ?_, ?_, h, ha, hb, hc, hd, he, hf, hg⟩
  · rw [h0]; clear h h0 e1 e2 e3 e4 e5 e6 h1 h2 h3 h4 h5; omega
  · rw [e1, ← h1]; clear h h0 e1 e2 e3 e4 e5 e6 h1 h2 h3 h4 h5; omega
  · rw [e2, ← h2]; clear h h0 e1 e2 e3 e4 e5 e6 h1 h2 h3 h4 h5; omega
  · rw [e3, ← h3]; clear h h0 e1 e2 e3 e4 e5 e6 h1 h2 h3 h4 h5; omega
  · rw [e4, ← h4]; clear h h0 e1 e2 e3 e4 e5 e6 h1 h2 h3 h4 h5; omega
  · rw [e5, ← h5]; clear h h0 e1 e2 e3 e4 e5 e6 h1 h2 h3 h4 h5; omega
  · rw [e6]; exact Nat.mod_eq_of_lt hg
  · rw [e4, ← h4, ← h5]; clear h h0 e1 e2 e3 e4 e5 e6 h1 h2 h3 h4 h5; omega
  · rw [e5, ← h5]
theorem parts (w : Nat) (hw : w < 4294967296) : ∃ a b c d e f g, Parts w a b c d e f g := by
  refine ⟨w % 128, w / 128 % 32, w / 4096 % 8, w / 32768 % 32, w / 1048576 % 32, w / 33554432 % 4, w / 134217728, parts_of ?_ ?_ ?_ ?_ ?_ ?_ ?_ ?_⟩
  · exact Nat.mod_lt _ (by decide)
  · exact Nat.mod_lt _ (by decide)
  · exact Nat.mod_lt _ (by decide)
  · exact Nat.mod_lt _ (by decide)
  · exact Nat.mod_lt _ (by decide)
  · exact Nat.mod_lt _ (by decide)
  · omega
  · have e2 : w / 4096 = w / 128 / 32 := by rw [Nat.div_div_eq_div_mul]
    have e3 : w / 32768 = w / 4096 / 8 := by rw [Nat.div_div_eq_div_mul]
    have e4 : w / 1048576 = w / 32768 / 32 := by rw [Nat.div_div_eq_div_mul]
    have e5 : w / 33554432 = w / 1048576 / 32 := by rw [Nat.div_div_eq_div_mul]
    have e6 : w / 134217728 = w / 33554432 / 4 := by rw [Nat.div_div_eq_div_mul]
    generalize w / 134217728 = t6 at *
    generalize w / 33554432 = t5 at *
    generalize w / 1048576 = t4 at *
    generalize w / 32768 = t3 at *
    generalize w / 4096 = t2 at *
    have h5 : t5 = t5 % 4 + 4 * t6 := by clear e5 e4 e3 e2; omega
    have h4 : t4 = t4 % 32 + 32 * t5 := by clear e6 e4 e3 e2 h5; omega
    have h3 : t3 = t3 % 32 + 32 * t4 := by clear e6 e5 e3 e2 h5 h4; omega
    have h2 : t2 = t2 % 8 + 8 * t3 := by clear e6 e5 e4 e2 h5 h4 h3; omega
    have h1 : w / 128 = w / 128 % 32 + 32 * t2 := by clear e6 e5 e4 e3 h5 h4 h3 h2; omega
    have h0 : w = w % 128 + 128 * (w / 128) := by clear e6 e5 e4 e3 e2 h5 h4 h3 h2 h1; omega
    clear e2 e3 e4 e5 e6
    generalize t5 % 4 = x5 at *
    generalize t4 % 32 = x4 at *
    generalize t3 % 32 = x3 at *
    generalize t2 % 8 = x2 at *
    generalize w / 128 % 32 = x1 at *
    generalize w / 128 = t1 at *
    generalize w % 128 = x0 at *
    clear hw
    omega
theorem fits_and {r : R7} {w : Nat} (h : fitsB r w = true) : (w ^^^ r.mtch) &&& r.mask = 0 := by
  unfold fitsB at h
  simp only [Bool.and_eq_true, beq_iff_eq] at h
  exact h.1
theorem fits_mod {r : R7} {w : Nat} (h : fitsB r w = true) (hm : modB r.lay = true) : w / 4096 % 8 ≠ 5 ∧ w / 4096 % 8 ≠ 6 := by
  unfold fitsB at h
  rw [hm] at h
  simpa using (Bool.and_eq_true_iff.1 h).2
theorem fits_csr {r : R7} {w : Nat} (h : fitsB r w = true) (hm : modB r.lay = false) (hc : csrB r.lay = true) : 1 ≤ w / 1048576 ∧ w / 1048576 ≤ 3 := by
  unfold fitsB at h
  rw [hm, hc] at h
  simpa using (Bool.and_eq_true_iff.1 h).2
/-- the parts of a row's match -/
theorem mtch_parts {r : R7} (hr : r ∈ ROWS) : ∃ a c e f g, Parts r.mtch a 0 c 0 e f g ∧ (modB r.lay = true → c = 0) ∧ (r.lay ≤ 5 → e = 0) ∧ (r.lay < 4 → g = 0) ∧ ((r.lay < 3 ∨ 8 ≤ r.lay) → e = 0 ∧ f = 0 ∧ g = 0) := by
  have F := row_fine r hr
  obtain ⟨a, b, c, d, e, f, g, P⟩ := parts r.mtch F.mt
  have hl := lay_rows r hr
  have h1 := F.own
  rw [F.mask] at h1
  have hb : b = 0 := by rw [← P.p1]; exact fld0 7 5 h1 (by rcases hl with h | h | h | h | h | h | h | h | h <;> rw [h] <;> decide)
  have hd : d = 0 := by rw [← P.p3]; exact fld0 15 5 h1 (by rcases hl with h | h | h | h | h | h | h | h | h <;> rw [h] <;> decide)
  subst hb hd
  refine ⟨a, c, e, f, g, P, fun h => ?_, fun h => ?_, fun h => ?_, fun h => ?_⟩
  · rw [← P.p2]; exact fld0 12 3 h1 (by unfold modB at h; simp at h; rcases h with (h | h) | h <;> rw [h] <;> decide)
  · rw [← P.p4]; exact fld0 20 5 h1 (by rcases hl with h | h | h | h | h | h | h | h | h <;> rw [h] <;> first | decide | omega)
  · rw [← P.p6]; exact fld0 27 5 h1 (by rcases hl with h | h | h | h | h | h | h | h | h <;> rw [h] <;> first | decide | omega)
  · refine ⟨?_, ?_, ?_⟩
    · rw [← P.p4]; exact fld0 20 5 h1 (by rcases hl with h | h | h | h | h | h | h | h | h <;> rw [h] <;> first | decide | omega)
    · rw [← P.p5]; exact fld0 25 2 h1 (by rcases hl with h | h | h | h | h | h | h | h | h <;> rw [h] <;> first | decide | omega)
    · rw [← P.p6]; exact fld0 27 5 h1 (by rcases hl with h | h | h | h | h | h | h | h | h <;> rw [h] <;> first | decide | omega)
/-- the parts of a word that is of a row -/
theorem word_parts {r : R7} {w : Nat} (hw : w < 4294967296) (hr : r ∈ ROWS) (hf : fitsB r w = true) : ∃ a b c d e f g c' e' f' g', Parts w a b c d e f g ∧ Parts r.mtch a 0 c' 0 e' f' g' ∧ (modB r.lay = true → c' = 0) ∧ (modB r.lay = false → c' = c) ∧
    (r.lay ≤ 5 → e' = 0) ∧ (6 ≤ r.lay → r.lay < 8 → e' = e) ∧ ((3 ≤ r.lay ∧ r.lay < 8) → f' = f) ∧ ((4 ≤ r.lay ∧ r.lay < 8) → g' = g) ∧ (r.lay < 4 → g' = 0) ∧ ((r.lay < 3 ∨ 8 ≤ r.lay) → e' = 0 ∧ f' = 0 ∧ g' = 0) := by
  obtain ⟨a, b, c, d, e, f, g, P⟩ := parts w hw
  obtain ⟨a', c', e', f', g', Q, h1, h2, h3, h4⟩ := mtch_parts hr
  have F := row_fine r hr
  have hl := lay_rows r hr
  have h := fits_and hf
  rw [F.mask] at h
  have ea : a' = a := by
    rw [← P.p0, ← Q.p0]
    have := fld 0 7 h (by rcases hl with h | h | h | h | h | h | h | h | h <;> rw [h] <;> decide)
    simpa using this.symm
  subst ea
  refine ⟨_, b, c, d, e, f, g, c', e', f', g', P, Q, h1, fun hm => ?_, h2, fun _ _ => ?_, fun _ => ?_, fun _ => ?_, h3, h4⟩
  · rw [← P.p2, ← Q.p2]; exact (fld 12 3 h (by rcases hl with h | h | h | h | h | h | h | h | h <;> rw [h] at hm ⊢ <;> first | decide | (exact absurd hm (by decide)))).symm
  · rw [← P.p4, ← Q.p4]; exact (fld 20 5 h (by rcases hl with h | h | h | h | h | h | h | h | h <;> rw [h] <;> first | decide | omega)).symm
  · rw [← P.p5, ← Q.p5]; exact (fld 25 2 h (by rcases hl with h | h | h | h | h | h | h | h | h <;> rw [h] <;> first | decide | omega)).symm
  · rw [← P.p6, ← Q.p6]; exact (fld 27 5 h (by rcases hl with h | h | h | h | h | h | h | h | h <;> rw [h] <;> first | decide | omega)).symm
theorem rg7 (w : Nat) : rg w 7 = w / 128 % 32 := rfl
theorem rg15 (w : Nat) : rg w 15 = w / 32768 % 32 := rfl
theorem rg20 (w : Nat) : rg w 20 = w / 1048576 % 32 := rfl
theorem rg27 (w : Nat) : rg w 27 = w / 134217728 % 32 := rfl
/-- P26.4, plain: a word is its instruction's -/
theorem enc_dec {w : Nat} {r : R7} (hw : w < 4294967296) (hr : r ∈ ROWS) (hf : fitsB r w = true) : r.mtch + FW r.lay (ofRow w r) = w := by
  obtain ⟨a, b, c, d, e, f, g, c', e', f', g', P, Q, m1, m2, k1, k2, k3, k4, k5, k6⟩ := word_parts hw hr hf
  have hc := fits_csr (r := r) (w := w) hf
  have hl := lay_rows r hr
  have sP := P.sum
  have sQ := Q.sum
  have ip : e + 32 * f + 128 * g < 4096 := by have := P.he; have := P.hf; have := P.hg; omega
  have ib := P.hb
  have ig := P.hg
  have ifg := P.hf
  unfold ofRow
  obtain ⟨op, form, frm, kind, mask, mtch, lay⟩ := r
  simp only [] at *
  rcases hl with rfl | rfl | rfl | rfl | rfl | rfl | rfl | rfl | rfl
  · show mtch + (128 * rg w 7 + 32768 * rg w 15 + 1048576 * (s12 (w / 1048576) % 4096).toNat) = w
    rw [rg7, rg15, P.p1, P.p3, P.q4, toNat_s12 _ ip]
    have := m2 rfl
    have := k6 (by omega)
    clear P Q m1 m2 k1 k2 k3 k4 k5 k6 hc hf hr
    omega
  · show mtch + (128 * ((s12 (32 * (w / 33554432) + rg w 7) % 4096).toNat % 32) + 32768 * rg w 15 + 1048576 * rg w 20 + 33554432 * ((s12 (32 * (w / 33554432) + rg w 7) % 4096).toNat / 32)) = w
    rw [rg7, rg15, rg20, P.p1, P.p3, P.p4, P.q5, toNat_s12 _ (by omega)]
    have := m2 rfl
    have := k6 (by omega)
    have x1 : (32 * (f + 4 * g) + b) % 32 = b := by clear sP sQ; omega
    have x2 : (32 * (f + 4 * g) + b) / 32 = f + 4 * g := by clear sP sQ; omega
    rw [x1, x2]
    clear P Q m1 m2 k1 k2 k3 k4 k5 k6 hc hf hr x1 x2
    omega
  · show mtch + (128 * rg w 7 + 4096 * (w / 4096 % 8) + 32768 * rg w 15 + 1048576 * rg w 20 + 134217728 * rg w 27) = w
    rw [rg7, rg15, rg20, rg27, P.p1, P.p2, P.p3, P.p4, P.p6]
    have := m1 rfl
    have := k1 (by omega)
    have := k3 (by omega)
    have := k5 (by omega)
    clear P Q m1 m2 k1 k2 k3 k4 k5 k6 hc hf hr
    omega
  · show mtch + (128 * rg w 7 + 4096 * (w / 4096 % 8) + 32768 * rg w 15 + 1048576 * rg w 20) = w
    rw [rg7, rg15, rg20, P.p1, P.p2, P.p3, P.p4]
    have := m1 rfl
    have := k1 (by omega)
    have := k3 (by omega)
    have := k4 (by omega)
    clear P Q m1 m2 k1 k2 k3 k4 k5 k6 hc hf hr
    omega
  · show mtch + (128 * rg w 7 + 32768 * rg w 15 + 1048576 * rg w 20) = w
    rw [rg7, rg15, rg20, P.p1, P.p3, P.p4]
    have := m2 rfl
    have := k1 (by omega)
    have := k3 (by omega)
    have := k4 (by omega)
    clear P Q m1 m2 k1 k2 k3 k4 k5 k6 hc hf hr
    omega
  · show mtch + (128 * rg w 7 + 4096 * (w / 4096 % 8) + 32768 * rg w 15) = w
    rw [rg7, rg15, P.p1, P.p2, P.p3]
    have := m1 rfl
    have := k2 (by omega) (by omega)
    have := k3 (by omega)
    have := k4 (by omega)
    clear P Q m1 m2 k1 k2 k3 k4 k5 k6 hc hf hr
    omega
  · show mtch + (128 * rg w 7 + 32768 * rg w 15) = w
    rw [rg7, rg15, P.p1, P.p3]
    have := m2 rfl
    have := k2 (by omega) (by omega)
    have := k3 (by omega)
    have := k4 (by omega)
    clear P Q m1 m2 k1 k2 k3 k4 k5 k6 hc hf hr
    omega
  all_goals
    show mtch + (128 * rg w 7 + 32768 * rg w 15 + 1048576 * (w / 1048576 % 256)) = w
    have h9 := hc rfl rfl
    rw [Nat.mod_eq_of_lt (by omega), rg7, rg15, P.p1, P.p3, P.q4]
    have := m2 rfl
    have := k6 (by omega)
    clear P Q m1 m2 k1 k2 k3 k4 k5 k6 hc hf hr h9
    omega
theorem rg_lt (w k : Nat) : rg w k < 32 := Nat.mod_lt _ (by decide)
theorem dec_row {w : Nat} {x : I11} (h : DEC w = some x) : ∃ r ∈ ROWS, fitsB r w = true ∧ FIND w = some r ∧ ofRow w r = x := by
  unfold DEC at h
  obtain ⟨r, hr, rfl⟩ := Option.map_eq_some_iff.1 h
  exact ⟨r, List.mem_of_find?_eq_some hr, by simpa using List.find?_some hr, hr, rfl⟩
theorem ofRow_op (w : Nat) (r : R7) : (ofRow w r).op = r.op ∧ (ofRow w r).form = r.form ∧ (ofRow w r).frm = r.frm ∧ (ofRow w r).kind = r.kind := by
  unfold ofRow FILL
  split <;> exact ⟨rfl, rfl, rfl, rfl⟩
theorem dec_op {w : Nat} (hw : w < 4294967296) {x : I11} (h : DEC w = some x) : 1 ≤ x.op ∧ x.op ≤ 31 := by
  obtain ⟨r, hr, hf, hF, rfl⟩ := dec_row h
  have F := row_fine r hr
  rw [(ofRow_op w r).1]
  exact ⟨F.op1, F.op2⟩
theorem dec_mays {w : Nat} (hw : w < 4294967296) {x : I11} (h : DEC w = some x) : x.rd < 32 ∧ x.rs1 < 32 ∧ x.rs2 < 32 ∧ x.rs3 < 32 := by
  obtain ⟨r, hr, hf, hF, rfl⟩ := dec_row h
  unfold ofRow FILL
  split <;> exact ⟨by first | exact rg_lt _ _ | exact Nat.zero_lt_succ _, by first | exact rg_lt _ _ | exact Nat.zero_lt_succ _, by first | exact rg_lt _ _ | exact Nat.zero_lt_succ _, by first | exact rg_lt _ _ | exact Nat.zero_lt_succ _⟩
end Go.Proofs.Yteelconabmfnkaa

/- Plain: what is decoded is within its bounds; P25.4. -/
namespace Go.Proofs.Yteelconabmfnkaa
open Go Go.RowKit
set_option maxRecDepth 100000
set_option linter.unusedVariables false
theorem dec_fine {w : Nat} (hw : w < 4294967296) {x : I11} (h : DEC w = some x) : ∃ r ∈ ROWS, fitsB r w = true ∧ FIND w = some r ∧ Mays r.lay x ∧ x.op = r.op ∧ x.form = r.form ∧ x.frm = r.frm ∧ x.kind = r.kind ∧ r.mtch + FW r.lay x = w := by
  obtain ⟨r, hr, hf, hF, rfl⟩ := dec_row h
  obtain ⟨p1, p2, p3, p4⟩ := ofRow_op w r
  refine ⟨r, hr, hf, hF, ?_, p1, p2, p3, p4, enc_dec hw hr hf⟩
  clear h hF p1 p2 p3 p4
  have hl := lay_rows r hr
  have hm := fits_mod hf
  have hc := fits_csr hf
  have b7 := rg_lt w 7
  have b15 := rg_lt w 15
  have b20 := rg_lt w 20
  have b27 := rg_lt w 27
  have i1 := s12_lo (w / 1048576) (by omega)
  have i2 := s12_lo (32 * (w / 33554432) + rg w 7) (by omega)
  have m8 : w / 4096 % 8 < 8 := Nat.mod_lt _ (by decide)
  obtain ⟨op, form, frm, kind, mask, mtch, lay⟩ := r
  simp only [] at hl hm hc
  clear hf hr
  rcases hl with rfl | rfl | rfl | rfl | rfl | rfl | rfl | rfl | rfl
  · show Mays 1 ⟨op, form, frm, kind, rg w 7, rg w 15, 0, 0, 0, s12 (w / 1048576), 0⟩
    constructor <;> simp only [] <;> first | omega | (intro hz; first | omega | (exfalso; simp at hz; done) | trivial)
  · show Mays 2 ⟨op, form, frm, kind, 0, rg w 15, rg w 20, 0, 0, s12 (32 * (w / 33554432) + rg w 7), 0⟩
    constructor <;> simp only [] <;> first | omega | (intro hz; first | omega | (exfalso; simp at hz; done) | trivial)
  · have := hm rfl
    show Mays 3 ⟨op, form, frm, kind, rg w 7, rg w 15, rg w 20, rg w 27, w / 4096 % 8, 0, 0⟩
    constructor <;> simp only [] <;> first | omega | (intro hz; first | omega | (exfalso; simp at hz; done) | trivial)
  · have := hm rfl
    show Mays 4 ⟨op, form, frm, kind, rg w 7, rg w 15, rg w 20, 0, w / 4096 % 8, 0, 0⟩
    constructor <;> simp only [] <;> first | omega | (intro hz; first | omega | (exfalso; simp at hz; done) | trivial)
  · show Mays 5 ⟨op, form, frm, kind, rg w 7, rg w 15, rg w 20, 0, 0, 0, 0⟩
    constructor <;> simp only [] <;> first | omega | (intro hz; first | omega | (exfalso; simp at hz; done) | trivial)
  · have := hm rfl
    show Mays 6 ⟨op, form, frm, kind, rg w 7, rg w 15, 0, 0, w / 4096 % 8, 0, 0⟩
    constructor <;> simp only [] <;> first | omega | (intro hz; first | omega | (exfalso; simp at hz; done) | trivial)
  · show Mays 7 ⟨op, form, frm, kind, rg w 7, rg w 15, 0, 0, 0, 0, 0⟩
    constructor <;> simp only [] <;> first | omega | (intro hz; first | omega | (exfalso; simp at hz; done) | trivial)
  · have := hc rfl rfl
    show Mays 8 ⟨op, form, frm, kind, rg w 7, rg w 15, 0, 0, 0, 0, w / 1048576 % 256⟩
    have e : w / 1048576 % 256 = w / 1048576 := Nat.mod_eq_of_lt (by omega)
    rw [e]
    constructor <;> simp only [] <;> first | omega | (intro hz; first | omega | (exfalso; simp at hz; done) | trivial)
  · have := hc rfl rfl
    show Mays 9 ⟨op, form, frm, kind, rg w 7, rg w 15, 0, 0, 0, 0, w / 1048576 % 256⟩
    have e : w / 1048576 % 256 = w / 1048576 := Nat.mod_eq_of_lt (by omega)
    rw [e]
    constructor <;> simp only [] <;> first | omega | (intro hz; first | omega | (exfalso; simp at hz; done) | trivial)
/-- P25.4, plain -/
theorem dec_inj {v w : Nat} (hv : v < 4294967296) (hw : w < 4294967296) {x : I11} (h : DEC v = some x) (k : DEC w = some x) : v = w := by
  obtain ⟨r, hr, _, _, _, a1, a2, a3, a4, a5⟩ := dec_fine hv h
  obtain ⟨q, hq, _, _, _, b1, b2, b3, b4, b5⟩ := dec_fine hw k
  have : r = q := row_asked r hr q hq (a1.symm.trans b1) (a2.symm.trans b2) (a3.symm.trans b3) (a4.symm.trans b4)
  subst this
  rw [← a5, ← b5]
end Go.Proofs.Yteelconabmfnkaa

/- decode.Uses: what an instruction reads and writes; a call of a function value in a region. -/
namespace Go.Proofs.Yteelconabmfnkaa
open Go Go.RowKit
set_option maxHeartbeats 4000000
set_option maxRecDepth 100000
set_option linter.unusedVariables false
set_option linter.unusedSimpArgs false
section
variable {P : Program} {ops : Array Oper} {I : (Nat → Bool) → World → Prop} {Q : Act → Prop} {k : Nat} {o : Oper} {rest : List Oper} {a : Act}
/-- a call of a function value -/
theorem sets_callv (v : Value) (hw : Region.wanted o (yielded ops a.tmps) = true) (x : Operand) (f : FuncId) (ba lb : List Value) (args : List Operand) (ts : Array TypeId) (ho : o.op = .call { callee := .value x, args := args.toArray, argTypes := ts })
    (hx : a.eval x = .func (.func f) ba.toArray lb.toArray)
    (fn : Func) (hf : P.funcs[f]? = some fn) (hn : (fn.name == "runtime.NumGoroutine") = false) (hb : fn.body.isNone = false) (vals : List Value) (hv : args.map a.eval = vals)
    (hc : ∀ S w, S k = false → (∀ e ∈ o.after, Region.binds .any e = true → S e.on = true) → I S w → Calls P f (ba ++ vals ++ lb).toArray w fun e w' => e = .returned v ∧ I (ins S k) w')
    (h : wpSets P ops I Q (k + 1) rest (a.put o.dst v)) : wpSets P ops I Q k (o :: rest) a := by
  refine ⟨v, .inl ⟨hw, fun S w hS _ ha hIw => ?_⟩, h⟩
  have hr : (execOp a.eval o).run P w = .ok (.enter f (ba ++ vals ++ lb).toArray) w := by
    unfold execOp
    simp [ho, hx, resolve, Deferred.ofValue, invoke, callFunc, hf]
    have hn' : ¬ fn.name = "runtime.NumGoroutine" := fun e => by rw [e] at hn; simp at hn
    have hb' : ¬ fn.body = none := fun e => by rw [e] at hb; simp at hb
    rw [if_neg hn', if_neg hb', ← hv]
  unfold opTo
  rw [hr]
  exact hc S w hS ha hIw
end
/-- what is read and written -/
structure U4 where
  rx : Nat
  rf : Nat
  wx : Nat
  wf : Nat
deriving DecidableEq
abbrev useV (u : U4) : Array Value := #[.int .u32 (u.rx : Nat), .int .u32 (u.rf : Nat), .int .u32 (u.wx : Nat), .int .u32 (u.wf : Nat)]
abbrev zeroU : U4 := ⟨0, 0, 0, 0⟩
def USE (x : I11) : U4 :=
  if x.op = 1 ∨ x.op = 22 ∨ x.op = 25 then ⟨2 ^ x.rs1, 0, 0, 2 ^ x.rd⟩
  else if x.op = 2 then ⟨2 ^ x.rs1, 2 ^ x.rs2, 0, 0⟩
  else if x.op = 26 ∨ x.op = 27 ∨ x.op = 28 then ⟨2 ^ x.rs1, 0, 2 ^ x.rd, 0⟩
  else if x.op = 29 ∨ x.op = 30 ∨ x.op = 31 then ⟨0, 0, 2 ^ x.rd, 0⟩
  else if x.op = 21 ∨ x.op = 23 ∨ x.op = 24 then ⟨0, 2 ^ x.rs1, 2 ^ x.rd, 0⟩
  else if x.op = 18 ∨ x.op = 19 ∨ x.op = 20 then ⟨0, 2 ^ x.rs1 ||| 2 ^ x.rs2, 2 ^ x.rd, 0⟩
  else if x.op = 11 ∨ x.op = 17 then ⟨0, 2 ^ x.rs1, 0, 2 ^ x.rd⟩
  else if x.op = 3 ∨ x.op = 4 ∨ x.op = 5 ∨ x.op = 6 then ⟨0, (2 ^ x.rs1 ||| 2 ^ x.rs2) ||| 2 ^ x.rs3, 0, 2 ^ x.rd⟩
  else ⟨0, 2 ^ x.rs1 ||| 2 ^ x.rs2, 0, 2 ^ x.rd⟩
def UsesP (W : World) (w : Nat) (e : Ending) (w' : World) : Prop := e = .returned (.tuple #[.agg (useV (((DEC w).map USE).getD zeroU)), .int .i64 (if (DEC w).isSome then 0 else 250)]) ∧ Below W.heap.size W w'
theorem bit_c (W : World) (n p : Nat) (hn : n < 32) (hp : 2 ^ n = p) : Calls Try.prog 68 #[.int .u8 n] W fun e w' => e = .returned (.int .u32 (p : Nat)) ∧ w' = W := by
  have e1 : (2 : Int) ^ n % 4294967296 = ((p : Nat) : Int) := by
    have h1 : 2 ^ n < 2 ^ 32 := Nat.pow_lt_pow_right (by decide) hn
    rw [hp] at h1
    have h2 : ((2 : Int) ^ n) = ((p : Nat) : Int) := by rw [← hp]; simp
    rw [h2]; omega
  go_enter Try.func68, Try.ntmps68
  go_wp2
  go_ret
  refine ⟨?_, rfl⟩
  show Ending.returned (.int .u32 ((2 : Int) ^ n % 4294967296)) = _
  rw [e1]
theorem pow_lt32 {n p : Nat} (hn : n < 32) (hp : 2 ^ n = p) : p < 4294967296 := by
  have h1 : 2 ^ n < 2 ^ 32 := Nat.pow_lt_pow_right (by decide) hn
  rw [hp] at h1; omega
end Go.Proofs.Yteelconabmfnkaa
