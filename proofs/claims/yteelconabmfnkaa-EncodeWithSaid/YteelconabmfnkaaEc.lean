/- decode.Layout, decode.Same. -/
import Derived.Test.YteelconabmfnkaaEb
import Derived.Test.YteelconabmfnkaaLb
namespace Go.Proofs.Yteelconabmfnkaa
open Go Go.RowKit
set_option maxHeartbeats 4000000
set_option maxRecDepth 100000
set_option linter.unusedVariables false
set_option linter.unusedSimpArgs false
/-- the row of an Op, formats and a kind, if there is one -/
def OFS (op f g k : Nat) : Option R7 := if op = 0 ∨ 31 < op then none else OF op f g k
def lay2 (o : Option R7) : Nat := match o with | some r => r.lay | none => 0
def err2 {α : Type} (o : Option α) (c : Int) : Int := match o with | some _ => 0 | none => c
def isOf (o : Option R7) (r : R7) (c : Int) : Prop := match o with | some q => r = q ∧ c = 0 | none => c = 2 ∨ c = 240
theorem layout_c (W : World) (x : I11) : Calls Try.prog 54 #[.agg (instV x)] W fun e w' => e = .returned (.tuple #[.int .u8 (lay2 (OFS x.op x.form x.frm x.kind) : Nat), .int .i64 (err2 (OFS x.op x.form x.frm x.kind) 2)]) ∧ Below W.heap.size W w' := by
  have C0 := fun X => of_c X x.op x.form x.frm x.kind
  obtain ⟨o, ho⟩ : ∃ o, OFS x.op x.form x.frm x.kind = o := ⟨_, rfl⟩
  rw [ho]
  have C1 : ∀ X, Calls Try.prog 46 #[.int .u8 (x.op : Nat), .int .u8 (x.form : Nat), .int .u8 (x.frm : Nat), .int .u8 (x.kind : Nat)] X fun e w' => (∃ r c, e = .returned (.tuple #[.agg (rowV r), .int .i64 c]) ∧ isOf o r c) ∧ Below X.heap.size X w' := fun X => by
    refine (C0 X).mono ?_
    rintro e w' ⟨rfl, hb⟩
    refine ⟨?_, hb⟩
    unfold OFS at ho
    by_cases h : x.op = 0 ∨ 31 < x.op
    · rw [if_pos h] at ho ⊢
      subst ho
      exact ⟨_, _, rfl, .inl rfl⟩
    · rw [if_neg h] at ho ⊢
      cases hO : OF x.op x.form x.frm x.kind with
      | none => rw [hO] at ho; subst ho; exact ⟨_, _, rfl, .inr rfl⟩
      | some q => rw [hO] at ho; subst ho; exact ⟨_, _, rfl, rfl, rfl⟩
  have HC := Lib.hid C1
  clear C0 C1 ho
  obtain ⟨op, form, frm, kind, rd, rs1, rs2, rs3, rm, imm, csr⟩ := x
  simp only [] at HC
  cases o with
  | none =>
    go_enter Try.func54, Try.ntmps54
    go_wp2_with (first
      | (go_at_call 46; (with_reducible refine (HC.out _).mono ?_); rintro e w1 ⟨⟨r, c, rfl, hc⟩, hb⟩; have hz : (c != 0) = true := (by rcases hc with rfl | rfl <;> rfl); clear hc))
    go_ret2
    have c1 := below_acall (Below.refl W.heap.size W) (Nat.le_refl _) hb
    exact ⟨rfl, c1.alloc c1.size _⟩
  | some q =>
    go_enter Try.func54, Try.ntmps54
    go_wp2_with (first
      | (go_at_call 46; (with_reducible refine (HC.out _).mono ?_); rintro e w1 ⟨⟨r, c, rfl, rfl, rfl⟩, hb⟩))
    go_ret2
    have c1 := below_acall (Below.refl W.heap.size W) (Nat.le_refl _) hb
    exact ⟨rfl, c1.alloc c1.size _⟩
/-- by which bits two words may differ -/
def samO (a b : Option R7) : Nat × Int := match a, b with
  | some r, some q => if r = q then (if r.lay = 7 ∨ r.lay = 6 then (4294967295 ^^^ r.mask) &&& 1048448 else 4294967295 ^^^ r.mask, 0) else (0, 2)
  | _, _ => (0, 250)
def samV (v w : Nat) : Nat × Int := samO (FIND v) (FIND w)
theorem samO_none (b : Option R7) : samO none b = (0, 250) := rfl
theorem samO_none2 (r : R7) : samO (some r) none = (0, 250) := rfl
theorem samO_same (r : R7) : samO (some r) (some r) = (if r.lay = 7 ∨ r.lay = 6 then (4294967295 ^^^ r.mask) &&& 1048448 else 4294967295 ^^^ r.mask, 0) := if_pos rfl
theorem samO_other (r q : R7) (h : r ≠ q) : samO (some r) (some q) = (0, 2) := if_neg h
theorem same_c (W : World) (v w : Nat) (hv : v < 4294967296) (hw : w < 4294967296) : Calls Try.prog 53 #[.int .u32 v, .int .u32 w] W fun e w' => e = .returned (.tuple #[.int .u32 ((samV v w).1 : Nat), .int .i64 (samV v w).2]) ∧ Below W.heap.size W w' := by
  have C1 : Hid (∀ X, Calls Try.prog 34 #[.int .u32 v] X (FindP X v)) := Lib.hid fun X => find_c X v hv
  have C2 : Hid (∀ X, Calls Try.prog 34 #[.int .u32 w] X (FindP X w)) := Lib.hid fun X => find_c X w hw
  unfold FindP at C1 C2
  unfold samV
  have HM : ∀ r, FIND v = some r → r.mask < 4294967296 := fun r h => (by
    have := List.mem_of_find?_eq_some h
    unfold ROWS at this
    obtain ⟨s, hs, hr⟩ := List.mem_flatMap.1 this
    exact (mask_opc s hs r hr).2.2.1)
  cases h1 : FIND v with
  | none =>
    rw [h1] at C1
    obtain ⟨r2, hr2⟩ : ∃ r, (FIND w).getD zeroR = r := ⟨_, rfl⟩
    obtain ⟨b2, hb2⟩ : ∃ b, (FIND w).isSome = b := ⟨_, rfl⟩
    rw [hr2, hb2] at C2
    rw [samO_none]
    clear h1 hr2 hb2 HM
    go_enter Try.func53, Try.ntmps53
    go_wp2_with (first
      | (go_at_call 34; (with_reducible refine (C1.out _).mono ?_); rintro e w1 ⟨rfl, b1⟩; clear C1)
      | (go_at_call 34; (with_reducible refine (C2.out _).mono ?_); rintro e w2 ⟨rfl, b2⟩; clear C2))
    go_ret2
    have c1 := below_acall b1 b1.size b2
    exact ⟨rfl, c1.alloc c1.size _⟩
  | some r =>
    have hm := HM r h1
    rw [h1] at C1
    cases h2 : FIND w with
    | none =>
      rw [h2] at C2
      rw [samO_none2]
      clear h1 h2 HM
      go_enter Try.func53, Try.ntmps53
      go_wp2_with (first
        | (go_at_call 34; (with_reducible refine (C1.out _).mono ?_); rintro e w1 ⟨rfl, b1⟩; clear C1)
        | (go_at_call 34; (with_reducible refine (C2.out _).mono ?_); rintro e w2 ⟨rfl, b2⟩; clear C2))
      go_ret2
      have c1 := below_acall b1 b1.size b2
      exact ⟨rfl, c1.alloc c1.size _⟩
    | some q =>
      rw [h2] at C2
      clear h1 h2 HM
      by_cases hrq : r = q
      · subst hrq
        have hne : ∀ X, (binOp .neq 40 (.agg (rowV r)) (.agg (rowV r))).run Try.prog X = .ok (.bool false) X := fun X => by rw [neq_row, decide_eq_true rfl]; rfl
        obtain ⟨m, hmm⟩ : ∃ m, 4294967295 ^^^ r.mask = m := ⟨_, rfl⟩
        have e1 : bits .xor .u32 IntKind.u32.max (r.mask : Int) = ((m : Nat) : Int) := by rw [← hmm]; exact xor32 4294967295 r.mask (by decide) hm
        have hm32 : m < 4294967296 := by rw [← hmm]; exact Nat.xor_lt_two_pow (n := 32) (by decide) hm
        have e2 : bits .and .u32 (m : Int) 1048448 = ((m &&& 1048448 : Nat) : Int) := and32 m 1048448 hm32 (by decide)
        obtain ⟨m2, hm2⟩ : ∃ x, m &&& 1048448 = x := ⟨_, rfl⟩
        rw [hm2] at e2
        have HR : Hid ((if r.lay = 7 ∨ r.lay = 6 then (4294967295 ^^^ r.mask) &&& 1048448 else 4294967295 ^^^ r.mask) = if r.lay = 7 ∨ r.lay = 6 then m2 else m) := Lib.hid (by rw [hmm, hm2])
        rw [samO_same, HR.out]
        have z7 := beq_cast r.lay 7
        have z6 := beq_cast r.lay 6
        have y7 : ((r.lay : Int) == 7) = (r.lay == 7) := z7
        have y6 : ((r.lay : Int) == 6) = (r.lay == 6) := z6
        have HQ : Hid ((if r.lay = 7 ∨ r.lay = 6 then m2 else m) = if (r.lay == 7 || r.lay == 6) = true then m2 else m) := Lib.hid (by simp)
        rw [HQ.out]
        clear hmm hm2 HR HQ z6 z7
        cases h7 : (r.lay == 7) <;> cases h6 : (r.lay == 6) <;> rw [h7] at y7 <;> rw [h6] at y6 <;>
        · go_enter Try.func53, Try.ntmps53
          go_wp2_with (first
            | (go_at_call 34; (with_reducible refine (C1.out _).mono ?_); rintro e w1 ⟨rfl, b1⟩; clear C1)
            | (go_at_call 34; (with_reducible refine (C2.out _).mono ?_); rintro e w2 ⟨rfl, b2⟩; clear C2; have q1 := (Blk.nlater b2).alloc (.cells (rowV r) 40); have q2 := Blk.new w2 (rowV r) 40; have d4 := q1.cell 4; have d6 := q1.cell 6; simp only [List.getElem?_toArray, List.getElem?_cons_succ, List.getElem?_cons_zero] at d4 d6)
            | (refine wpList_load_blk_on rfl _ _ rfl _ rfl _ _ _ q1 Try.underlying40 rfl (by kernel_rfl) ?_)
            | (refine wpList_load_blk_on rfl _ _ rfl _ rfl _ _ _ q2 Try.underlying40 rfl (by kernel_rfl) ?_))
          go_ret2
          have c1 := below_acall b1 b1.size b2
          exact ⟨rfl, c1.alloc c1.size _⟩
      · have hne : ∀ X, (binOp .neq 40 (.agg (rowV r)) (.agg (rowV q))).run Try.prog X = .ok (.bool true) X := fun X => by rw [neq_row, decide_eq_false hrq]; rfl
        rw [samO_other r q hrq]
        clear hrq
        go_enter Try.func53, Try.ntmps53
        go_wp2_with (first
          | (go_at_call 34; (with_reducible refine (C1.out _).mono ?_); rintro e w1 ⟨rfl, b1⟩; clear C1)
          | (go_at_call 34; (with_reducible refine (C2.out _).mono ?_); rintro e w2 ⟨rfl, b2⟩; clear C2; have q1 := (Blk.nlater b2).alloc (.cells (rowV q) 40); have q2 := Blk.new w2 (rowV q) 40)
          | (refine wpList_load_blk_on rfl _ _ rfl _ rfl _ _ _ q1 Try.underlying40 rfl (by kernel_rfl) ?_)
          | (refine wpList_load_blk_on rfl _ _ rfl _ rfl _ _ _ q2 Try.underlying40 rfl (by kernel_rfl) ?_))
        go_ret2
        have c1 := below_acall b1 b1.size b2
        exact ⟨rfl, c1.alloc c1.size _⟩
end Go.Proofs.Yteelconabmfnkaa
