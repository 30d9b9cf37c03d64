/- decode.reg, the functions that fill an instruction's fields. -/
import Derived.Test.YteelconabmfnkaaTf
namespace Go.Proofs.Yteelconabmfnkaa
open Go Go.RowKit
set_option maxHeartbeats 4000000
set_option maxRecDepth 100000
set_option linter.unusedVariables false
set_option linter.unusedSimpArgs false
/-- an instruction -/
structure I11 where
  op : Nat
  form : Nat
  frm : Nat
  kind : Nat
  rd : Nat
  rs1 : Nat
  rs2 : Nat
  rs3 : Nat
  rm : Nat
  imm : Int
  csr : Nat
deriving DecidableEq
abbrev instV (x : I11) : Array Value := #[.int .u8 (x.op : Nat), .int .u8 (x.form : Nat), .int .u8 (x.frm : Nat), .int .u8 (x.kind : Nat), .int .u8 (x.rd : Nat), .int .u8 (x.rs1 : Nat), .int .u8 (x.rs2 : Nat), .int .u8 (x.rs3 : Nat), .int .u8 (x.rm : Nat), .int .i16 x.imm, .int .u8 (x.csr : Nat)]
def rg (w low : Nat) : Nat := w / 2 ^ low % 32
def fRd (w : Nat) (x : I11) : I11 := { x with rd := rg w 7, rs1 := rg w 15 }
def fMode (w : Nat) (x : I11) : I11 := { fRd w x with rm := w / 4096 % 8 }
def fCsr (w : Nat) (x : I11) : I11 := { fRd w x with csr := w / 1048576 % 256 }
def fThree (w : Nat) (x : I11) : I11 := { fRd w x with rs2 := rg w 20 }
def fThreeM (w : Nat) (x : I11) : I11 := { fMode w x with rs2 := rg w 20 }
def fFour (w : Nat) (x : I11) : I11 := { fMode w x with rs2 := rg w 20, rs3 := rg w 27 }
def s12 (v : Nat) : Int := if v < 2048 then v else (v : Int) - 4096
def fLoad (w : Nat) (x : I11) : I11 := { fRd w x with imm := s12 (w / 1048576) }
theorem wrap_s12 (w : Nat) (hw : w < 4294967296) : IntKind.i16.wrap (wrap32 (w : Int) / 1048576) = s12 (w / 1048576) := by
  have h32 : wrap32 (w : Int) = if w < 2147483648 then (w : Int) else (w : Int) - 4294967296 := by unfold wrap32; split <;> omega
  have hb : ∀ z : Int, -32768 ≤ z → z < 32768 → IntKind.i16.wrap z = z := fun z h1 h2 => by simp only [IntKind.wrap, IntKind.signed, IntKind.bits]; simp; omega
  rw [h32]
  unfold s12
  split <;> rename_i h
  · rw [if_pos (by omega), hb _ (by omega) (by omega)]; omega
  · rw [if_neg (by omega), hb _ (by omega) (by omega)]; omega
theorem reg_7 (W : World) (w : Nat) (hw : w < 4294967296) : Calls Try.prog 75 #[.int .u32 w, .int .i64 7] W fun e w' => e = .returned (.int .u8 (rg w 7 : Nat)) ∧ w' = W := by
  have e1 : bits .and .u32 ((w : Int) / 128) 31 = ((rg w 7 : Nat) : Int) := by
    have h1 : (w : Int) / 128 = ((w / 128 : Nat) : Int) := by omega
    rw [h1, show (31 : Int) = ((31 : Nat) : Int) from rfl, and32 _ 31 (by omega) (by decide)]
    congr 1
    exact Nat.and_two_pow_sub_one_eq_mod (w / 128) 5
  have hlt : rg w 7 < 32 := Nat.mod_lt _ (by decide)
  go_enter Try.func75, Try.ntmps75
  go_wp2
  go_ret
  exact ⟨rfl, rfl⟩
theorem reg_15 (W : World) (w : Nat) (hw : w < 4294967296) : Calls Try.prog 75 #[.int .u32 w, .int .i64 15] W fun e w' => e = .returned (.int .u8 (rg w 15 : Nat)) ∧ w' = W := by
  have e1 : bits .and .u32 ((w : Int) / 32768) 31 = ((rg w 15 : Nat) : Int) := by
    have h1 : (w : Int) / 32768 = ((w / 32768 : Nat) : Int) := by omega
    rw [h1, show (31 : Int) = ((31 : Nat) : Int) from rfl, and32 _ 31 (by omega) (by decide)]
    congr 1
    exact Nat.and_two_pow_sub_one_eq_mod (w / 32768) 5
  have hlt : rg w 15 < 32 := Nat.mod_lt _ (by decide)
  go_enter Try.func75, Try.ntmps75
  go_wp2
  go_ret
  exact ⟨rfl, rfl⟩
theorem reg_20 (W : World) (w : Nat) (hw : w < 4294967296) : Calls Try.prog 75 #[.int .u32 w, .int .i64 20] W fun e w' => e = .returned (.int .u8 (rg w 20 : Nat)) ∧ w' = W := by
  have e1 : bits .and .u32 ((w : Int) / 1048576) 31 = ((rg w 20 : Nat) : Int) := by
    have h1 : (w : Int) / 1048576 = ((w / 1048576 : Nat) : Int) := by omega
    rw [h1, show (31 : Int) = ((31 : Nat) : Int) from rfl, and32 _ 31 (by omega) (by decide)]
    congr 1
    exact Nat.and_two_pow_sub_one_eq_mod (w / 1048576) 5
  have hlt : rg w 20 < 32 := Nat.mod_lt _ (by decide)
  go_enter Try.func75, Try.ntmps75
  go_wp2
  go_ret
  exact ⟨rfl, rfl⟩
theorem reg_27 (W : World) (w : Nat) (hw : w < 4294967296) : Calls Try.prog 75 #[.int .u32 w, .int .i64 27] W fun e w' => e = .returned (.int .u8 (rg w 27 : Nat)) ∧ w' = W := by
  have e1 : bits .and .u32 ((w : Int) / 134217728) 31 = ((rg w 27 : Nat) : Int) := by
    have h1 : (w : Int) / 134217728 = ((w / 134217728 : Nat) : Int) := by omega
    rw [h1, show (31 : Int) = ((31 : Nat) : Int) from rfl, and32 _ 31 (by omega) (by decide)]
    congr 1
    exact Nat.and_two_pow_sub_one_eq_mod (w / 134217728) 5
  have hlt : rg w 27 < 32 := Nat.mod_lt _ (by decide)
  go_enter Try.func75, Try.ntmps75
  go_wp2
  go_ret
  exact ⟨rfl, rfl⟩
theorem fill_rd (A : World) (b : Nat) (x : I11) (w : Nat) (h : Blk A b (instV x) 27) (hw : w < 4294967296) :
    Calls Try.prog 74 #[.pointer (some ⟨b, 0, none⟩), .int .u32 w] A fun e A' => e = .returned (.tuple #[]) ∧ Blk A' b (instV (fRd w x)) 27 ∧ A.grownBy A' (some b) := by
  have c4 := h.cell 4
  have c5 := h.cell 5
  simp only [List.getElem?_toArray, List.getElem?_cons_succ, List.getElem?_cons_zero] at c4 c5
  have fz := h.frozen
  go_enter Try.func74, Try.ntmps74
  go_wp2_with (first
    | (go_at_call 75; (with_reducible refine (reg_7 _ w hw).mono ?_); rintro e w' ⟨rfl, rfl⟩)
    | (go_at_call 75; (with_reducible refine (reg_15 _ w hw).mono ?_); rintro e w' ⟨rfl, rfl⟩)
    | (go_at_call 75; (with_reducible refine (reg_20 _ w hw).mono ?_); rintro e w' ⟨rfl, rfl⟩)
    | (go_at_call 75; (with_reducible refine (reg_27 _ w hw).mono ?_); rintro e w' ⟨rfl, rfl⟩)
    | fail)
  go_end0
  have g := ((h).set 4 (.int .u8 (rg w 7 : Nat))).set 5 (.int .u8 (rg w 15 : Nat))
  simp only [List.setIfInBounds_toArray, List.set_cons_succ, List.set_cons_zero] at g
  exact ⟨rfl, g, grown_set_row (grown_set_row (World.grownBy.refl _ (some b)) 4 (.int .u8 (rg w 7 : Nat))) 5 (.int .u8 (rg w 15 : Nat))⟩
theorem fill_mode (A : World) (b c1 c2 : Nat) (x : I11) (w : Nat) (h : Blk A b (instV x) 27) (hw : w < 4294967296) (hc1 : A.cell? ⟨c1, 0, none⟩ = some (.func (.func 74) #[] #[])) :
    Calls Try.prog 76 #[.pointer (some ⟨b, 0, none⟩), .int .u32 w, .pointer (some ⟨c1, 0, none⟩)] A fun e A' => e = .returned (.tuple #[]) ∧ Blk A' b (instV (fMode w x)) 27 ∧ A.grownBy A' (some b) := by
  have C1 := fill_rd A b x w h hw
  have e1 : bits .and .u32 ((w : Int) / 4096) 7 = ((w / 4096 % 8 : Nat) : Int) := by
    have h1 : (w : Int) / 4096 = ((w / 4096 : Nat) : Int) := by omega
    rw [h1, show (7 : Int) = ((7 : Nat) : Int) from rfl, and32 _ 7 (by omega) (by decide)]
    congr 1
    exact Nat.and_two_pow_sub_one_eq_mod (w / 4096) 3
  obtain ⟨q, hq⟩ : ∃ q, w / 4096 % 8 = q := ⟨_, rfl⟩
  have hq8 : q < 8 := by rw [← hq]; exact Nat.mod_lt _ (by decide)
  have HF : ∀ y, fMode w y = { fRd w y with rm := q } := fun y => by unfold fMode; rw [hq]
  rw [hq] at e1
  rw [HF]
  clear HF hq
  go_enter Try.func76, Try.ntmps76
  go_wp2_with (first
    | (go_at_call 74; (with_reducible refine C1.mono ?_); rintro e A2 ⟨rfl, h2, hg⟩; clear C1; have c8 := h2.cell 8; have fz := h2.frozen; simp only [List.getElem?_toArray, List.getElem?_cons_succ, List.getElem?_cons_zero] at c8)
    | (go_at_call 75; (with_reducible refine (reg_7 _ w hw).mono ?_); rintro e w' ⟨rfl, hww⟩; subst hww)
    | (go_at_call 75; (with_reducible refine (reg_15 _ w hw).mono ?_); rintro e w' ⟨rfl, hww⟩; subst hww)
    | (go_at_call 75; (with_reducible refine (reg_20 _ w hw).mono ?_); rintro e w' ⟨rfl, hww⟩; subst hww)
    | (go_at_call 75; (with_reducible refine (reg_27 _ w hw).mono ?_); rintro e w' ⟨rfl, hww⟩; subst hww)
    | fail)
  go_end0
  have g := (h2).set 8 (.int .u8 (q : Nat))
  simp only [List.setIfInBounds_toArray, List.set_cons_succ, List.set_cons_zero] at g
  exact ⟨rfl, g, grown_set_row (hg) 8 (.int .u8 (q : Nat))⟩
theorem fill_three (A : World) (b c1 c2 : Nat) (x : I11) (w : Nat) (h : Blk A b (instV x) 27) (hw : w < 4294967296) (hc1 : A.cell? ⟨c1, 0, none⟩ = some (.func (.func 74) #[] #[])) :
    Calls Try.prog 82 #[.pointer (some ⟨b, 0, none⟩), .int .u32 w, .pointer (some ⟨c1, 0, none⟩)] A fun e A' => e = .returned (.tuple #[]) ∧ Blk A' b (instV (fThree w x)) 27 ∧ A.grownBy A' (some b) := by
  have C1 := fill_rd A b x w h hw
  go_enter Try.func82, Try.ntmps82
  go_wp2_with (first
    | (go_at_call 74; (with_reducible refine C1.mono ?_); rintro e A2 ⟨rfl, h2, hg⟩; clear C1; have c6 := h2.cell 6; have fz := h2.frozen; simp only [List.getElem?_toArray, List.getElem?_cons_succ, List.getElem?_cons_zero] at c6)
    | (go_at_call 75; (with_reducible refine (reg_7 _ w hw).mono ?_); rintro e w' ⟨rfl, hww⟩; subst hww)
    | (go_at_call 75; (with_reducible refine (reg_15 _ w hw).mono ?_); rintro e w' ⟨rfl, hww⟩; subst hww)
    | (go_at_call 75; (with_reducible refine (reg_20 _ w hw).mono ?_); rintro e w' ⟨rfl, hww⟩; subst hww)
    | (go_at_call 75; (with_reducible refine (reg_27 _ w hw).mono ?_); rintro e w' ⟨rfl, hww⟩; subst hww)
    | fail)
  go_end0
  have g := (h2).set 6 (.int .u8 (rg w 20 : Nat))
  simp only [List.setIfInBounds_toArray, List.set_cons_succ, List.set_cons_zero] at g
  exact ⟨rfl, g, grown_set_row (hg) 6 (.int .u8 (rg w 20 : Nat))⟩
theorem fill_threeM (A : World) (b c1 c2 : Nat) (x : I11) (w : Nat) (h : Blk A b (instV x) 27) (hw : w < 4294967296) (hc1 : A.cell? ⟨c1, 0, none⟩ = some (.func (.func 74) #[] #[])) (hc2 : A.cell? ⟨c2, 0, none⟩ = some (.func (.func 76) #[] #[.pointer (some ⟨c1, 0, none⟩)])) :
    Calls Try.prog 81 #[.pointer (some ⟨b, 0, none⟩), .int .u32 w, .pointer (some ⟨c2, 0, none⟩)] A fun e A' => e = .returned (.tuple #[]) ∧ Blk A' b (instV (fThreeM w x)) 27 ∧ A.grownBy A' (some b) := by
  have C1 := fill_mode A b c1 c2 x w h hw hc1
  go_enter Try.func81, Try.ntmps81
  go_wp2_with (first
    | (go_at_call 76; (with_reducible refine C1.mono ?_); rintro e A2 ⟨rfl, h2, hg⟩; clear C1; have c6 := h2.cell 6; have fz := h2.frozen; simp only [List.getElem?_toArray, List.getElem?_cons_succ, List.getElem?_cons_zero] at c6)
    | (go_at_call 75; (with_reducible refine (reg_7 _ w hw).mono ?_); rintro e w' ⟨rfl, hww⟩; subst hww)
    | (go_at_call 75; (with_reducible refine (reg_15 _ w hw).mono ?_); rintro e w' ⟨rfl, hww⟩; subst hww)
    | (go_at_call 75; (with_reducible refine (reg_20 _ w hw).mono ?_); rintro e w' ⟨rfl, hww⟩; subst hww)
    | (go_at_call 75; (with_reducible refine (reg_27 _ w hw).mono ?_); rintro e w' ⟨rfl, hww⟩; subst hww)
    | fail)
  go_end0
  have g := (h2).set 6 (.int .u8 (rg w 20 : Nat))
  simp only [List.setIfInBounds_toArray, List.set_cons_succ, List.set_cons_zero] at g
  exact ⟨rfl, g, grown_set_row (hg) 6 (.int .u8 (rg w 20 : Nat))⟩
theorem fill_four (A : World) (b c1 c2 : Nat) (x : I11) (w : Nat) (h : Blk A b (instV x) 27) (hw : w < 4294967296) (hc1 : A.cell? ⟨c1, 0, none⟩ = some (.func (.func 74) #[] #[])) (hc2 : A.cell? ⟨c2, 0, none⟩ = some (.func (.func 76) #[] #[.pointer (some ⟨c1, 0, none⟩)])) :
    Calls Try.prog 80 #[.pointer (some ⟨b, 0, none⟩), .int .u32 w, .pointer (some ⟨c2, 0, none⟩)] A fun e A' => e = .returned (.tuple #[]) ∧ Blk A' b (instV (fFour w x)) 27 ∧ A.grownBy A' (some b) := by
  have C1 := fill_mode A b c1 c2 x w h hw hc1
  go_enter Try.func80, Try.ntmps80
  go_wp2_with (first
    | (go_at_call 76; (with_reducible refine C1.mono ?_); rintro e A2 ⟨rfl, h2, hg⟩; clear C1; have c6 := h2.cell 6; have c7 := h2.cell 7; have fz := h2.frozen; simp only [List.getElem?_toArray, List.getElem?_cons_succ, List.getElem?_cons_zero] at c6 c7)
    | (go_at_call 75; (with_reducible refine (reg_7 _ w hw).mono ?_); rintro e w' ⟨rfl, hww⟩; subst hww)
    | (go_at_call 75; (with_reducible refine (reg_15 _ w hw).mono ?_); rintro e w' ⟨rfl, hww⟩; subst hww)
    | (go_at_call 75; (with_reducible refine (reg_20 _ w hw).mono ?_); rintro e w' ⟨rfl, hww⟩; subst hww)
    | (go_at_call 75; (with_reducible refine (reg_27 _ w hw).mono ?_); rintro e w' ⟨rfl, hww⟩; subst hww)
    | fail)
  go_end0
  have g := ((h2).set 6 (.int .u8 (rg w 20 : Nat))).set 7 (.int .u8 (rg w 27 : Nat))
  simp only [List.setIfInBounds_toArray, List.set_cons_succ, List.set_cons_zero] at g
  exact ⟨rfl, g, grown_set_row (grown_set_row (hg) 6 (.int .u8 (rg w 20 : Nat))) 7 (.int .u8 (rg w 27 : Nat))⟩
theorem fill_csr (A : World) (b c1 c2 : Nat) (x : I11) (w : Nat) (h : Blk A b (instV x) 27) (hw : w < 4294967296) (hc1 : A.cell? ⟨c1, 0, none⟩ = some (.func (.func 74) #[] #[])) :
    Calls Try.prog 77 #[.pointer (some ⟨b, 0, none⟩), .int .u32 w, .pointer (some ⟨c1, 0, none⟩)] A fun e A' => e = .returned (.tuple #[]) ∧ Blk A' b (instV (fCsr w x)) 27 ∧ A.grownBy A' (some b) := by
  have C1 := fill_rd A b x w h hw
  obtain ⟨q, hq⟩ : ∃ q, w / 1048576 % 256 = q := ⟨_, rfl⟩
  have hq8 : q < 256 := by rw [← hq]; exact Nat.mod_lt _ (by decide)
  have e1 : (w : Int) / 1048576 % 256 = (q : Int) := by omega
  have HF : ∀ y, fCsr w y = { fRd w y with csr := q } := fun y => by unfold fCsr; rw [hq]
  rw [HF]
  clear HF hq
  go_enter Try.func77, Try.ntmps77
  go_wp2_with (first
    | (go_at_call 74; (with_reducible refine C1.mono ?_); rintro e A2 ⟨rfl, h2, hg⟩; clear C1; have c10 := h2.cell 10; have fz := h2.frozen; simp only [List.getElem?_toArray, List.getElem?_cons_succ, List.getElem?_cons_zero] at c10)
    | (go_at_call 75; (with_reducible refine (reg_7 _ w hw).mono ?_); rintro e w' ⟨rfl, hww⟩; subst hww)
    | (go_at_call 75; (with_reducible refine (reg_15 _ w hw).mono ?_); rintro e w' ⟨rfl, hww⟩; subst hww)
    | (go_at_call 75; (with_reducible refine (reg_20 _ w hw).mono ?_); rintro e w' ⟨rfl, hww⟩; subst hww)
    | (go_at_call 75; (with_reducible refine (reg_27 _ w hw).mono ?_); rintro e w' ⟨rfl, hww⟩; subst hww)
    | fail)
  go_end0
  have g := (h2).set 10 (.int .u8 (q : Nat))
  simp only [List.setIfInBounds_toArray, List.set_cons_succ, List.set_cons_zero] at g
  exact ⟨rfl, g, grown_set_row (hg) 10 (.int .u8 (q : Nat))⟩
theorem fill_load (A : World) (b c1 c2 : Nat) (x : I11) (w : Nat) (h : Blk A b (instV x) 27) (hw : w < 4294967296) (hc1 : A.cell? ⟨c1, 0, none⟩ = some (.func (.func 74) #[] #[])) :
    Calls Try.prog 78 #[.pointer (some ⟨b, 0, none⟩), .int .u32 w, .pointer (some ⟨c1, 0, none⟩)] A fun e A' => e = .returned (.tuple #[]) ∧ Blk A' b (instV (fLoad w x)) 27 ∧ A.grownBy A' (some b) := by
  have C1 := fill_rd A b x w h hw
  obtain ⟨q, hq⟩ : ∃ q, s12 (w / 1048576) = q := ⟨_, rfl⟩
  have HF : ∀ y, fLoad w y = { fRd w y with imm := q } := fun y => by unfold fLoad; rw [hq]
  rw [HF]
  have e1 : IntKind.i16.wrap (wrap32 (w : Int) / 1048576) = q := by rw [← hq]; exact wrap_s12 w hw
  clear HF hq
  go_enter Try.func78, Try.ntmps78
  go_wp2_with (first
    | (go_at_call 74; (with_reducible refine C1.mono ?_); rintro e A2 ⟨rfl, h2, hg⟩; clear C1; have c9 := h2.cell 9; have fz := h2.frozen; simp only [List.getElem?_toArray, List.getElem?_cons_succ, List.getElem?_cons_zero] at c9)
    | (go_at_call 75; (with_reducible refine (reg_7 _ w hw).mono ?_); rintro e w' ⟨rfl, hww⟩; subst hww)
    | (go_at_call 75; (with_reducible refine (reg_15 _ w hw).mono ?_); rintro e w' ⟨rfl, hww⟩; subst hww)
    | (go_at_call 75; (with_reducible refine (reg_20 _ w hw).mono ?_); rintro e w' ⟨rfl, hww⟩; subst hww)
    | (go_at_call 75; (with_reducible refine (reg_27 _ w hw).mono ?_); rintro e w' ⟨rfl, hww⟩; subst hww)
    | fail)
  go_end0
  have g := (h2).set 9 (.int .i16 q)
  simp only [List.setIfInBounds_toArray, List.set_cons_succ, List.set_cons_zero] at g
  exact ⟨rfl, g, grown_set_row (hg) 9 (.int .i16 q)⟩
end Go.Proofs.Yteelconabmfnkaa
