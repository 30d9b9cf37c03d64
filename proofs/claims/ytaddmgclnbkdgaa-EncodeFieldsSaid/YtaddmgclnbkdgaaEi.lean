/- encode.May, Encode, With. -/
import Derived.Test.YtaddmgclnbkdgaaEh
namespace Go.Proofs.Ytaddmgclnbkdgaa
open Go Go.RowKit
set_option maxHeartbeats 4000000
set_option maxRecDepth 100000
set_option linter.unusedVariables false
set_option linter.unusedSimpArgs false
/-- the word of an instruction, if it has one -/
def MAY (x : I11) : Bool := mayE x (OFS x.op x.form x.frm x.kind)
def WORD (x : I11) : Nat := (rowE (OFS x.op x.form x.frm x.kind)).mtch ^^^ valE x (OFS x.op x.form x.frm x.kind)
def encV (x : I11) : Nat := if MAY x then WORD x else 0
def encE (x : I11) : Int := if MAY x then 0 else 260
theorem lay_is (X : World) (x : I11) (hx : Fin11 x) : Calls Try.prog 56 #[.agg (instV x)] X fun e w' => ∃ z : Nat, e = .returned (.tuple #[.agg (rowV (rowE (OFS x.op x.form x.frm x.kind))), .int .u32 (z : Nat), .bool (MAY x)]) ∧ (MAY x = true → z = valE x (OFS x.op x.form x.frm x.kind)) ∧ z < 4294967296 ∧ Below X.heap.size X w' := lay_c X x hx
theorem mtch_lt (x : I11) : (rowE (OFS x.op x.form x.frm x.kind)).mtch < 4294967296 := by
  cases ho : OFS x.op x.form x.frm x.kind with
  | none => show (0 : Nat) < _; decide
  | some r =>
    have := (ofs_lay ho).1
    unfold ROWS at this
    obtain ⟨s, hs, hr⟩ := List.mem_flatMap.1 this
    exact (mask_opc s hs r hr).2.2.2
theorem may_c (W : World) (x : I11) (hx : Fin11 x) : Calls Try.prog 21 #[.agg (instV x)] W fun e w' => e = .returned (.bool (MAY x)) ∧ Below W.heap.size W w' := by
  have HL := Lib.hid (fun X => lay_is X x hx)
  obtain ⟨m, hm⟩ : ∃ m, MAY x = m := ⟨_, rfl⟩
  obtain ⟨r, hr⟩ : ∃ r, rowE (OFS x.op x.form x.frm x.kind) = r := ⟨_, rfl⟩
  rw [hm, hr] at HL
  rw [hm]
  clear hm hr hx
  obtain ⟨rop, rform, rfrm, rkind, rmask, rmtch, lay⟩ := r
  obtain ⟨op, form, frm, kind, rd, rs1, rs2, rs3, rm, imm, csr⟩ := x
  go_enter Try.func21, Try.ntmps21
  go_wp2_with (first
    | (go_at_call 56; (with_reducible refine (HL.out _).mono ?_); rintro e w1 ⟨z, rfl, hz, hz2, hb⟩; clear hz))
  go_ret
  have c1 := below_acall (Below.refl W.heap.size W) (Nat.le_refl _) hb
  exact ⟨rfl, c1.alloc c1.size _⟩
theorem encode_c (W : World) (x : I11) (hx : Fin11 x) : Calls Try.prog 20 #[.agg (instV x)] W fun e w' => e = .returned (.tuple #[.int .u32 (encV x : Nat), .int .i64 (encE x)]) ∧ Below W.heap.size W w' := by
  have HL := Lib.hid (fun X => lay_is X x hx)
  have hmt := mtch_lt x
  unfold encV encE WORD
  obtain ⟨v, hv⟩ : ∃ v, valE x (OFS x.op x.form x.frm x.kind) = v := ⟨_, rfl⟩
  obtain ⟨r, hr⟩ : ∃ r, rowE (OFS x.op x.form x.frm x.kind) = r := ⟨_, rfl⟩
  rw [hr] at HL hmt
  rw [hv] at HL
  rw [hv, hr]
  clear hv hr hx
  obtain ⟨rop, rform, rfrm, rkind, rmask, rmtch, lay⟩ := r
  simp only [] at hmt
  cases hm : MAY x
  all_goals
    rw [hm] at HL
    clear hm
    obtain ⟨op, form, frm, kind, rd, rs1, rs2, rs3, rm, imm, csr⟩ := x
  · clear hmt
    go_enter Try.func20, Try.ntmps20
    go_wp2_with (first
      | (go_at_call 56; (with_reducible refine (HL.out _).mono ?_); rintro e w1 ⟨z, rfl, hz, hz2, hb⟩; clear hz))
    go_ret2
    have c1 := below_acall (Below.refl W.heap.size W) (Nat.le_refl _) hb
    exact ⟨rfl, c1.alloc c1.size _⟩
  · go_enter Try.func20, Try.ntmps20
    go_wp2_with (first
      | (go_at_call 56; (with_reducible refine (HL.out _).mono ?_); rintro e w1 ⟨z, rfl, hz, hz2, hb⟩; have hz3 := hz rfl; subst hz3; clear hz; have e1 := xor32 rmtch z hmt hz2; have c5 := (Blk.new w1 (rowV ⟨rop, rform, rfrm, rkind, rmask, rmtch, lay⟩) 40).cell 5))
    go_ret2
    have c1 := below_acall (Below.refl W.heap.size W) (Nat.le_refl _) hb
    exact ⟨rfl, c1.alloc c1.size _⟩
end Go.Proofs.Ytaddmgclnbkdgaa
