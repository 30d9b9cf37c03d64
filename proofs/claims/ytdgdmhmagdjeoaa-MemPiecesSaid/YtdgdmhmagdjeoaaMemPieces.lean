/- The walk of MemPieces. -/
import Derived.Test.YtdgdmhmagdjeoaaUi
import Derived.Test.YtdgdmhmagdjeoaaKt
import Derived.Deep.CutRange
namespace Go.Proofs.Ytdgdmhmagdjeoaa
open Go.RowKit
set_option maxHeartbeats 4000000
set_option maxRecDepth 100000
set_option linter.unusedVariables false
set_option linter.unusedSimpArgs false
set_option exponentiation.threshold 1000
abbrev stepV (how on wd nn : Int) (sa hi lo : Nat) (dv pv : Value) : Array Value := #[.int .i64 how, .int .i64 on, .int .i64 wd, .int .i64 nn, .int .u64 sa, .int .u64 hi, .int .u64 lo, dv, pv]
/-- what the law knows of a world X: its boxed step, its memory -/
structure PE (w X : World) (cs : Array Value) (m g n c : Nat) (l : List Nat) : Prop where
  step : Blk X w.heap.size cs 41
  mem : MemIs X (w.heap.size + 1) m (.slice (some ⟨g, 0, none⟩) n c) l
  below : Below w.heap.size w X
section
variable {w X Y : World} {cs : Array Value} {m g n c : Nat} {l l' : List Nat}
theorem PE.later (h : PE w X cs m g n c l) (hb : Below X.heap.size X Y) : PE w Y cs m g n c l :=
  ⟨h.step.below hb h.step.lt, h.mem.later hb, h.below.trans (hb.mono h.below.size)⟩
theorem PE.alloc (h : PE w X cs m g n c l) (o : Obj) : PE w (X.alloc o) cs m g n c l := h.later (below_alloc X o)
theorem PE.gN (h : PE w X cs m g n c l) : w.heap.size + 1 ≤ g := (h.mem.own.lt g rfl).1
theorem PE.gX (h : PE w X cs m g n c l) : g < X.heap.size := (h.mem.own.lt g rfl).2
theorem PE.setTop (h : PE w X cs m g n c l) {b : Nat} (j : Nat) (v : Value) (h1 : w.heap.size < b) (h2 : m < b) (h3 : g < b) : PE w (X.setCell ⟨b, j, none⟩ v) cs m g n c l :=
  have hg := grown_set_row (World.grownBy.refl X (some b)) j v
  ⟨h.step.other j v (by omega), h.mem.kept hg (by simp only [ne_eq, Option.some.injEq]; omega) (.inr (by simp only [Value.ownBlock, ne_eq, Option.some.injEq]; omega)), h.below.setCell (p := ⟨b, j, none⟩) (by show w.heap.size ≤ b; omega) v⟩
theorem PE.store (h : PE w X cs m g n c l) (hm : MemIs Y (w.heap.size + 1) m (.slice (some ⟨g, 0, none⟩) n c) l') (hg : X.grownBy Y (some g)) : PE w Y cs m g n c l' :=
  ⟨grown_blk hg h.step (by have := h.gN; simp; omega), hm, h.below.grown hg h.below.size (fun k hk => by cases hk; have := h.gN; omega)⟩
end
theorem walk_MemPieces_big (w : World) (ao : Option Addr) (n c : Nat) (how on wd nn k : Int) (sa hi lo a : Nat) (dv pv : Value) (hn : 2000 < n) :
    Calls Try.prog 5 #[.slice ao n c, .agg (stepV how on wd nn sa hi lo dv pv), .int .u64 a, .int .i64 k] w fun e w' => e = .returned (.bool true) ∧ Below w.heap.size w w' := by
  go_enter Try.func5, Try.ntmps5
  go_wp2_with (first
    | (go_at_call 9; (with_reducible refine (lives_c _).mono ?_); rintro e w8 ⟨rfl, h8⟩))
  go_ret
  exact ⟨rfl, (below_alloc w _).trans (h8.mono (by simp))⟩
theorem walk_MemPieces_no (w : World) (ao : Option Addr) (n c : Nat) (l : List Nat) (how on wd nn k : Int) (sa hi lo a : Nat) (dv pv : Value) (hn : n ≤ 2000) (hnl : l.length = n) (hr : Rd w ao l) (hs : ∀ x ∈ l, x < 256)
    (hsa : sa < 18446744073709551616) (hhi : hi < 18446744073709551616) (hlo : lo < 18446744073709551616) (ha : a < 18446744073709551616) (hw1 : -9223372036854775808 ≤ wd) (hw2 : wd ≤ 9223372036854775807) (hk1 : -9223372036854775808 ≤ k) (hk2 : k ≤ 9223372036854775807)
    (hc : ¬ chk n sa wd = 0) :
    Calls Try.prog 5 #[.slice ao n c, .agg (stepV how on wd nn sa hi lo dv pv), .int .u64 a, .int .i64 k] w fun e w' => e = .returned (.bool true) ∧ Below w.heap.size w w' := by
  have C0 : Hid (Calls Try.prog 16 #[.slice ao n c] (w.alloc (.cells (stepV how on wd nn sa hi lo dv pv) 41)) fun e X => ∃ m g c, e = .returned (.tuple #[.pointer (some ⟨m, 0, none⟩), .int .i64 0]) ∧ PE w X (stepV how on wd nn sa hi lo dv pv) m g n c l) := Lib.hid (by
    have := of_c (w.alloc (.cells (stepV how on wd nn sa hi lo dv pv) 41)) ao c l (by omega) hs (hr.later (below_alloc w _))
    rw [hnl] at this
    refine this.mono ?_
    rintro e X ⟨m, g, c, rfl, hM, hb⟩
    rw [hnl] at hM
    exact ⟨m, g, c, rfl, (Blk.new w _ _).below hb (by simp), by simpa using hM, (below_alloc w _).trans (hb.mono (by simp))⟩)
  obtain ⟨er, her⟩ : ∃ er, chk n a k = er := ⟨_, rfl⟩
  obtain ⟨es, hes⟩ : ∃ es, chk n sa wd = es := ⟨_, rfl⟩
  obtain ⟨vh, hvh⟩ : ∃ x, LV l a k / 18446744073709551616 = x := ⟨_, rfl⟩
  obtain ⟨vl, hvl⟩ : ∃ x, LV l a k % 18446744073709551616 = x := ⟨_, rfl⟩
  have L1 : Hid (∀ X m g d, PE w X (stepV how on wd nn sa hi lo dv pv) m g n d l → Calls Try.prog 15 #[.pointer (some ⟨m, 0, none⟩), .int .u64 a, .int .i64 k] X fun e Y =>
      e = .returned (.tuple #[.agg #[.int .u64 (vh : Nat), .int .u64 (vl : Nat)], .int .i64 er]) ∧ PE w Y (stepV how on wd nn sa hi lo dv pv) m g n d l ∧ Below X.heap.size X Y) := Lib.hid fun X m g d h => by
    have := load_any X _ m _ n d a k l h.mem ha hk1 hk2
    rw [hvh, hvl, her] at this
    exact this.mono fun e Y ⟨h1, h2⟩ => ⟨h1, h.later h2, h2⟩
  have S1 : Hid (∀ X m g d, PE w X (stepV how on wd nn sa hi lo dv pv) m g n d l → Calls Try.prog 14 #[.pointer (some ⟨m, 0, none⟩), .int .u64 sa, .int .i64 wd, .agg #[.int .u64 hi, .int .u64 lo]] X fun e Y =>
      e = .returned (.int .i64 es) ∧ PE w Y (stepV how on wd nn sa hi lo dv pv) m g n d l ∧ X.grownBy Y (some g)) := Lib.hid fun X m g d h => by
    have := store_any X _ m _ n d sa hi lo wd l h.mem hsa hw1 hw2 hhi hlo
    rw [if_neg hc, hes] at this
    exact this.mono fun e Y ⟨h1, h2, h3⟩ => ⟨h1, h.store h2 h3, h3⟩
  have W1 : Hid (∀ X m g d, PE w X (stepV how on wd nn sa hi lo dv pv) m g n d l → Calls Try.prog 17 #[.pointer (some ⟨m, 0, none⟩), .int .u64 sa, .int .i64 wd] X fun e Y =>
      e = .returned (.bool false) ∧ Y = X) := Lib.hid fun X m g d h => by
    have := within_c X m _ n d sa wd h.mem.hd hsa hw1 hw2
    rwa [show (chk n sa wd == 0) = false by simpa using hc] at this
  have hz : (es == 0) = false := by rw [← hes]; simpa using hc
  have hz2 : (es != 0) = true := by rw [bne, hz]; rfl
  have q1 : ∀ w, (binOp .eql 35 (.agg #[.int .u64 (vh : Nat), .int .u64 (vl : Nat)]) (.agg #[.int .u64 (vh : Nat), .int .u64 (vl : Nat)])).run Try.prog w = .ok (.bool true) w := fun w => by rw [eq_bits]; simp
  clear hc hr hs hnl her hes hvh hvl hsa hhi hlo ha hw1 hw2 hk1 hk2
  go_enter Try.func5, Try.ntmps5
  go_wp2_with (first
    | (go_at_call 16; (with_reducible refine C0.out.mono ?_); rintro e w1 ⟨m, g, d, rfl, E1⟩; clear C0)
    | (go_at_call 15; (with_reducible refine (L1.out _ _ _ _ E1).mono ?_); rintro e w2 ⟨rfl, E2, h2⟩; have hb2 := Blk.new w2 #[.int .u64 (vh : Nat), .int .u64 (vl : Nat)] 35; have E2' := E2.alloc (.cells #[.int .u64 (vh : Nat), .int .u64 (vl : Nat)] 35); have s2 := E2'.step.cell 2; have s4 := E2'.step.cell 4; have s5 := E2'.step.cell 5; have s6 := E2'.step.cell 6; have hgn := E2.gX; clear E1 h2 E2)
    | (go_at_call 14; (with_reducible refine (S1.out _ _ _ _ E2').mono ?_); rintro e w3 ⟨rfl, E3, hg3⟩; have hb3 := grown_blk hg3 hb2 (by simp only [ne_eq, Option.some.injEq]; omega); clear E2' s2 s4 s5 s6 hb2 hg3)
    | (go_at_call 15; (with_reducible refine (L1.out _ _ _ _ E3).mono ?_); rintro e w4 ⟨rfl, E4, h4⟩; have hb4 := (hb3.below h4 hb3.lt).alloc (.cells #[.int .u64 (vh : Nat), .int .u64 (vl : Nat)] 35); have E4' := E4.alloc (.cells #[.int .u64 (vh : Nat), .int .u64 (vl : Nat)] 35); have s2 := E4'.step.cell 2; have s4 := E4'.step.cell 4; have b0 := hb4.cell 0; have b1 := hb4.cell 1; clear E3 hb3 h4 E4)
    | (go_at_call 17; (with_reducible refine (W1.out _ _ _ _ E4').mono ?_); rintro e w5 ⟨rfl, rfl⟩)
    | (go_at_call 9; (with_reducible refine (lives_c _).mono ?_); rintro e w8 ⟨rfl, h8⟩))
  go_ret
  exact ⟨rfl, E4'.below.trans (h8.mono E4'.below.size)⟩
/-- what Of makes of the law's bytes -/
theorem pieces_of (w : World) (ao : Option Addr) (n c : Nat) (l : List Nat) (cs : Array Value) (hn : n ≤ 2000) (hnl : l.length = n) (hr : Rd w ao l) (hs : ∀ x ∈ l, x < 256) :
    Calls Try.prog 16 #[.slice ao n c] (w.alloc (.cells cs 41)) fun e X => ∃ m g c, e = .returned (.tuple #[.pointer (some ⟨m, 0, none⟩), .int .i64 0]) ∧ PE w X cs m g n c l := by
  have := of_c (w.alloc (.cells cs 41)) ao c l (by omega) hs (hr.later (below_alloc w _))
  rw [hnl] at this
  refine this.mono ?_
  rintro e X ⟨m, g, c, rfl, hM, hb⟩
  rw [hnl] at hM
  exact ⟨m, g, c, rfl, (Blk.new w _ _).below hb (by simp), by simpa using hM, (below_alloc w _).trans (hb.mono (by simp))⟩
theorem walk_MemPieces_yes (w : World) (ao : Option Addr) (n c j : Nat) (l : List Nat) (how on nn k : Int) (sa hi lo a : Nat) (dv pv : Value) (hn : n ≤ 2000) (hnl : l.length = n) (hr : Rd w ao l) (hs : ∀ x ∈ l, x < 256)
    (hsa : sa < 18446744073709551616) (hhi : hi < 18446744073709551616) (hlo : lo < 18446744073709551616) (ha : a < 18446744073709551616) (hk1 : -9223372036854775808 ≤ k) (hk2 : k ≤ 9223372036854775807)
    (hj : j = 1 ∨ j = 2 ∨ j = 4 ∨ j = 8 ∨ j = 16) (hc : chk n sa j = 0) (hsj : sa + j ≤ n) :
    Calls Try.prog 5 #[.slice ao n c, .agg (stepV how on j nn sa hi lo dv pv), .int .u64 a, .int .i64 k] w fun e w' => e = .returned (.bool true) ∧ Below w.heap.size w w' := by
  have C0 := Lib.hid (pieces_of w ao n c l (stepV how on j nn sa hi lo dv pv) hn hnl hr hs)
  obtain ⟨er, her⟩ : ∃ er, chk n a k = er := ⟨_, rfl⟩
  obtain ⟨X0, hX0⟩ : ∃ X0, 18446744073709551616 * hi + lo = X0 := ⟨_, rfl⟩
  obtain ⟨l', hl'⟩ : ∃ l', put l sa (leB j X0) = l' := ⟨_, rfl⟩
  have hll : l'.length = n := by rw [← hl', put_length (by rw [leB_length, hnl]; exact hsj)]; exact hnl
  obtain ⟨vh, hvh⟩ : ∃ x, LV l a k / 18446744073709551616 = x := ⟨_, rfl⟩
  obtain ⟨vl, hvl⟩ : ∃ x, LV l a k % 18446744073709551616 = x := ⟨_, rfl⟩
  obtain ⟨uh, huh⟩ : ∃ x, LV l' a k / 18446744073709551616 = x := ⟨_, rfl⟩
  obtain ⟨ul, hul⟩ : ∃ x, LV l' a k % 18446744073709551616 = x := ⟨_, rfl⟩
  obtain ⟨gh, hgh⟩ : ∃ x, X0 % 256 ^ j / 18446744073709551616 = x := ⟨_, rfl⟩
  obtain ⟨gl, hgl⟩ : ∃ x, X0 % 256 ^ j % 18446744073709551616 = x := ⟨_, rfl⟩
  have L1 : Hid (∀ X m g d, PE w X (stepV how on j nn sa hi lo dv pv) m g n d l → Calls Try.prog 15 #[.pointer (some ⟨m, 0, none⟩), .int .u64 a, .int .i64 k] X fun e Y =>
      e = .returned (.tuple #[.agg #[.int .u64 (vh : Nat), .int .u64 (vl : Nat)], .int .i64 er]) ∧ PE w Y (stepV how on j nn sa hi lo dv pv) m g n d l ∧ Below X.heap.size X Y) := Lib.hid fun X m g d h => by
    have := load_any X _ m _ n d a k l h.mem ha hk1 hk2
    rw [hvh, hvl, her] at this
    exact this.mono fun e Y ⟨h1, h2⟩ => ⟨h1, h.later h2, h2⟩
  have S1 : Hid (∀ X m g d, PE w X (stepV how on j nn sa hi lo dv pv) m g n d l → Calls Try.prog 14 #[.pointer (some ⟨m, 0, none⟩), .int .u64 sa, .int .i64 (j : Nat), .agg #[.int .u64 hi, .int .u64 lo]] X fun e Y =>
      e = .returned (.int .i64 0) ∧ PE w Y (stepV how on j nn sa hi lo dv pv) m g n d l' ∧ X.grownBy Y (some g)) := Lib.hid fun X m g d h => by
    have := store_any X _ m _ n d sa hi lo j l h.mem hsa (by omega) (by omega) hhi hlo
    rw [if_pos hc, hc, Int.toNat_natCast, hX0, hl'] at this
    exact this.mono fun e Y ⟨h1, h2, h3⟩ => ⟨h1, h.store h2 h3, h3⟩
  have L2 : Hid (∀ X m g d, PE w X (stepV how on j nn sa hi lo dv pv) m g n d l' → Calls Try.prog 15 #[.pointer (some ⟨m, 0, none⟩), .int .u64 a, .int .i64 k] X fun e Y =>
      e = .returned (.tuple #[.agg #[.int .u64 (uh : Nat), .int .u64 (ul : Nat)], .int .i64 er]) ∧ PE w Y (stepV how on j nn sa hi lo dv pv) m g n d l' ∧ Below X.heap.size X Y) := Lib.hid fun X m g d h => by
    have := load_any X _ m _ n d a k l' h.mem ha hk1 hk2
    rw [huh, hul, her] at this
    exact this.mono fun e Y ⟨h1, h2⟩ => ⟨h1, h.later h2, h2⟩
  have hself : leN (part l' sa j) = X0 % 256 ^ j := by
    have := part_self (l := l) (x := leB j X0) (s := sa) (by rw [leB_length, hnl]; exact hsj)
    rw [leB_length, hl'] at this
    rw [this, leN_leB]
  have L3 : Hid (∀ X m g d, PE w X (stepV how on j nn sa hi lo dv pv) m g n d l' → Calls Try.prog 15 #[.pointer (some ⟨m, 0, none⟩), .int .u64 sa, .int .i64 (j : Nat)] X fun e Y =>
      e = .returned (.tuple #[.agg #[.int .u64 (gh : Nat), .int .u64 (gl : Nat)], .int .i64 0]) ∧ PE w Y (stepV how on j nn sa hi lo dv pv) m g n d l' ∧ Below X.heap.size X Y) := Lib.hid fun X m g d h => by
    have := load_any X _ m _ n d sa j l' h.mem hsa (by omega) (by omega)
    rw [show LV l' sa j = X0 % 256 ^ j by unfold LV; rw [hll, if_pos hc, Int.toNat_natCast, hself], hgh, hgl, hc] at this
    exact this.mono fun e Y ⟨h1, h2⟩ => ⟨h1, h.later h2, h2⟩
  /- the test of the third answer -/
  have hT : er = 0 → ∃ kk : Nat, k = (kk : Int) ∧ a + kk ≤ n ∧ (a + kk ≤ sa ∨ sa + j ≤ a → uh = vh ∧ ul = vl) := fun h0 => by
    rw [h0] at her
    obtain ⟨_, kk, rfl, hkn⟩ := chk_zero her
    refine ⟨kk, rfl, hkn, fun hd => ?_⟩
    have e : LV l' a kk = LV l a kk := by
      unfold LV
      rw [hll, hnl, if_pos her, if_pos her, Int.toNat_natCast, ← hl', part_other (by rw [leB_length, hnl]; exact hsj) (by rw [leB_length]; exact hd) (by rw [hnl]; exact hkn)]
    rw [e] at huh hul
    exact ⟨huh.symm.trans hvh, hul.symm.trans hvl⟩
  have HSM : Hid (∀ x ∈ l', x < 256) := Lib.hid (by rw [← hl']; exact put_small hs (leB_small _ _))
  have hgot := Lib.hid (And.intro hgh hgl)
  have HT := Lib.hid hT
  have HX0 := Lib.hid hX0
  have HS := Lib.hid hself
  have HLL := Lib.hid hll
  clear hc hr hs hnl her hvh hvl huh hul hgh hgl hl' hX0 hself hT hll
  go_enter Try.func5, Try.ntmps5
  go_upto_region 13 with (first
    | (go_at_call 16; (with_reducible refine C0.out.mono ?_); rintro e w1 ⟨m, g, d, rfl, E1⟩; clear C0)
    | (go_at_call 15; (with_reducible refine (L1.out _ _ _ _ E1).mono ?_); rintro e w2 ⟨rfl, E2, h2⟩; have hb2 := Blk.new w2 #[.int .u64 (vh : Nat), .int .u64 (vl : Nat)] 35; have E2' := E2.alloc (.cells #[.int .u64 (vh : Nat), .int .u64 (vl : Nat)] 35); have s2 := E2'.step.cell 2; have s4 := E2'.step.cell 4; have s5 := E2'.step.cell 5; have s6 := E2'.step.cell 6; have hgn := E2.gX; clear E1 h2 E2)
    | (go_at_call 14; (with_reducible refine (S1.out _ _ _ _ E2').mono ?_); rintro e w3 ⟨rfl, E3, hg3⟩; have hb3 := grown_blk hg3 hb2 (by simp only [ne_eq, Option.some.injEq]; omega); clear E2' s2 s4 s5 s6 hb2 hg3)
    | (go_at_call 15; (with_reducible refine (L2.out _ _ _ _ E3).mono ?_); rintro e w4 ⟨rfl, E4, h4⟩; have hb4 := (hb3.below h4 hb3.lt).alloc (.cells #[.int .u64 (uh : Nat), .int .u64 (ul : Nat)] 35); have E4' := E4.alloc (.cells #[.int .u64 (uh : Nat), .int .u64 (ul : Nat)] 35); have s2 := E4'.step.cell 2; have s4 := E4'.step.cell 4; have b0 := hb4.cell 0; have b1 := hb4.cell 1; clear E3 hb3 h4 E4))
  go_cut [102] from 77 to 102 (fun c wx => c = .bool false ∧ wx = w4.alloc (.cells #[.int .u64 (uh : Nat), .int .u64 (ul : Nat)] 35))
  case first =>
    by_cases h0 : er = 0
    · obtain ⟨kk, rfl, hkn, hd⟩ := HT.out h0
      subst h0
      by_cases hdd : a + kk ≤ sa ∨ sa + j ≤ a
      · obtain ⟨rfl, rfl⟩ := hd hdd
        have q1 : ∀ w, (binOp .neq 35 (.agg #[.int .u64 (uh : Nat), .int .u64 (ul : Nat)]) (.agg #[.int .u64 (uh : Nat), .int .u64 (ul : Nat)])).run Try.prog w = .ok (.bool false) w := fun w => by rw [neq_bits]; simp
        clear hd
        by_cases hd1 : a + kk ≤ sa
        · go_wp2
          go_meet
          exact ⟨rfl, rfl⟩
        · have hd2 : sa + j ≤ a := by omega
          clear hdd
          go_wp2
          go_meet
          exact ⟨rfl, rfl⟩
      · have hd1 : ¬ a + kk ≤ sa := by omega
        have hd2 : ¬ sa + j ≤ a := by omega
        clear hdd hd
        go_wp2
        go_meet
        exact ⟨rfl, rfl⟩
    · have h0' : (er == 0) = false := by simpa using h0
      go_wp2
      go_meet
      exact ⟨rfl, rfl⟩
  case rest =>
    obtain ⟨rfl, rfl⟩ := hcut
    rcases hj with hje | hje | hje | hje | hje
    · have hgot2 := hgot.out
      rw [hje] at hgot2
      have hgot := Lib.hid hgot2
      have HS2 := HS.out
      rw [hje] at HS2
      have HS := Lib.hid HS2
      clear hgot2 HS2
      have hjl : 1 ≤ j := by omega
      have hju : j ≤ 1 := by omega
      /- width 1 -/
      obtain ⟨hgh, hgl⟩ := hgot.out
      have eh : gh = 0 := by rw [← hgh]; omega
      have el : gl = lo % 256 := by rw [← hgl, ← HX0.out]; omega
      have ela := el
      have hglt : gl < 18446744073709551616 := by rw [← hgl]; exact Nat.mod_lt _ (by decide)
      have hsm : gh * 18446744073709551616 + gl = X0 % 256 ^ 1 := by rw [← hgh, ← hgl, Nat.mul_comm]; exact Nat.div_add_mod _ _
      clear hgh hgl hgot
      have q2 : ∀ w, (binOp .neq 35 (.agg #[.int .u64 (gh : Nat), .int .u64 (gl : Nat)]) (.agg #[.int .u64 ((0 : Nat) : Nat), .int .u64 (gl : Nat)])).run Try.prog w = .ok (.bool false) w := fun w => by rw [neq_bits, decide_eq_true (by omega)]; rfl
      have q2 : ∀ w, (binOp .neq 35 (.agg #[.int .u64 (gh : Nat), .int .u64 (gl : Nat)]) (.agg #[.int .u64 0, .int .u64 (gl : Nat)])).run Try.prog w = .ok (.bool false) w := q2
      have hj1 : ((j : Int) == 1) = true := by rw [hje]; rfl
      clear hje hsm eh el
      have K8 : 8 * (j : Int) = 8 := by omega
      have KL : (lo : Int) % 256 = (gl : Int) := by rw [ela]; omega
      clear ela
      go_upto_region 20 with (first
        | (go_at_call 15; (refine (L3.out _ _ _ _ E4').mono ?_); rintro e w5 ⟨rfl, E5, h5⟩; have hN := E5.step.lt; (have hN1 : w.heap.size < w5.heap.size + 1 := by omega); have s2 := E5.step.cell 2; have s4 := E5.step.cell 4; have s5 := E5.step.cell 5; have s6 := E5.step.cell 6; (clear E4' b0 b1 L3)))
      have EB := (E5.alloc (.cells #[.int .u64 (gh : Nat), .int .u64 (gl : Nat)] 35)).alloc (.cells #[.int .u64 0, .int .u64 (lo : Nat)] 35)
      have gb := (Blk.new w5 #[.int .u64 (gh : Nat), .int .u64 (gl : Nat)] 35).alloc (.cells #[.int .u64 0, .int .u64 (lo : Nat)] 35)
      have wb := Blk.new (w5.alloc (.cells #[.int .u64 (gh : Nat), .int .u64 (gl : Nat)] 35)) #[.int .u64 0, .int .u64 (lo : Nat)] 35
      rw [World.size_alloc] at wb
      clear s2 s4 s5 s6 h5
      generalize (w5.alloc (.cells #[.int .u64 (gh : Nat), .int .u64 (gl : Nat)] 35)).alloc (.cells #[.int .u64 0, .int .u64 (lo : Nat)] 35) = wx at *
      have s2 := EB.step.cell 2
      have d1 := wb.cell 1
      have f1 := wb.frozen 1
      simp only [List.getElem?_toArray, List.getElem?_cons_zero, List.getElem?_cons_succ] at d1 s2
      have hgx := E5.gX
      have hmx := E5.mem.head.lt
      have HEB := Lib.hid EB
      have HGB := Lib.hid gb
      have hwB := Lib.hid wb
      clear EB gb wb E5
      refine wp_region_tail [_, _, _, _, _, _, _] [_, _] (fun _ w' => ∃ q, w' = wx.drewN q) (by kernel_rfl) (by kernel_rfl) (by kernel_rfl) ⟨1, rfl⟩ ?_
      (repeat (first | (refine sets_quiet (fun w' => ∃ q, w' = wx.drewN q) (fun _ _ h => h) rfl (fun _ _ _ h => h) rfl ?_; intro K hK; go_big_quiet_op; first | go_big_quiet_on | (refine ⟨_, fun _ => rfl, ?_⟩; go_big_quiet_on)) | (refine sets_nil rfl (fun _ _ _ h => h) _ rfl _ rfl ?_; simp only [Act.put, List.setIfInBounds_toArray, List.set_cons_succ, List.set_cons_zero])))
      rintro S _ _ ⟨q, rfl⟩
      have EE := (HEB.out.later (below_drewN (k := q) (Below.refl _ wx))).setTop (b := w5.heap.size + 1) 1 (.int .u64 (gl : Nat)) (by omega) (by omega) (by omega)
      have gg := (HGB.out.drewN q).other (b' := w5.heap.size + 1) 1 (.int .u64 (gl : Nat)) (by omega)
      have ww := (hwB.out.drewN q).set 1 (.int .u64 (gl : Nat))
      have s2 := EE.step.cell 2
      have s4 := EE.step.cell 4
      have c0 := gg.cell 0
      have c1 := gg.cell 1
      have d0 := ww.cell 0
      have d1 := ww.cell 1
      have HG5 := Lib.hid gg
      clear gg ww HEB HGB hwB
      simp only [List.getElem?_toArray, List.getElem?_cons_zero, List.getElem?_cons_succ, List.setIfInBounds_toArray, List.set_cons_succ, List.set_cons_zero] at c0 c1 d0 d1 s2 s4
      go_wp2_with (first
        | (go_at_call 9; (with_reducible refine (lives_c _).mono ?_); rintro e w9 ⟨rfl, h9⟩))
      go_ret
      have hd := EE.below
      exact ⟨rfl, hd.trans (h9.mono hd.size)⟩
    · have hgot2 := hgot.out
      rw [hje] at hgot2
      have hgot := Lib.hid hgot2
      have HS2 := HS.out
      rw [hje] at HS2
      have HS := Lib.hid HS2
      clear hgot2 HS2
      have hjl : 2 ≤ j := by omega
      have hju : j ≤ 2 := by omega
      /- width 2 -/
      obtain ⟨hgh, hgl⟩ := hgot.out
      have eh : gh = 0 := by rw [← hgh]; omega
      have el : gl = lo % 65536 := by rw [← hgl, ← HX0.out]; omega
      have ela := el
      have hglt : gl < 18446744073709551616 := by rw [← hgl]; exact Nat.mod_lt _ (by decide)
      have hsm : gh * 18446744073709551616 + gl = X0 % 256 ^ 2 := by rw [← hgh, ← hgl, Nat.mul_comm]; exact Nat.div_add_mod _ _
      clear hgh hgl hgot
      have q2 : ∀ w, (binOp .neq 35 (.agg #[.int .u64 (gh : Nat), .int .u64 (gl : Nat)]) (.agg #[.int .u64 ((0 : Nat) : Nat), .int .u64 (gl : Nat)])).run Try.prog w = .ok (.bool false) w := fun w => by rw [neq_bits, decide_eq_true (by omega)]; rfl
      have q2 : ∀ w, (binOp .neq 35 (.agg #[.int .u64 (gh : Nat), .int .u64 (gl : Nat)]) (.agg #[.int .u64 0, .int .u64 (gl : Nat)])).run Try.prog w = .ok (.bool false) w := q2
      have hsp : part l' sa 2 = part l' sa 1 ++ part l' (sa + 1) 1 := part_split l' sa 1
      obtain ⟨lw, hlw⟩ : ∃ x, leN (part l' sa 1) = x := ⟨_, rfl⟩
      obtain ⟨hw, hhw⟩ : ∃ x, leN (part l' (sa + 1) 1) = x := ⟨_, rfl⟩
      have hsum : gh * 18446744073709551616 + gl = lw + 256 * hw := by
        have := HS.out
        rw [hsp, leN_append, part_length (by rw [HLL.out]; omega), hlw, hhw] at this
        rw [hsm, ← this]
      have hblw : lw < 256 := by
        rw [← hlw]
        refine Nat.lt_of_lt_of_le (leN_lt _ (part_small HSM.out _ _)) ?_
        rw [part_length (by rw [HLL.out]; omega)]; decide
      have hbhw : hw < 256 := by
        rw [← hhw]
        refine Nat.lt_of_lt_of_le (leN_lt _ (part_small HSM.out _ _)) ?_
        rw [part_length (by rw [HLL.out]; omega)]; decide
      have KOR : bits .or .u64 (lw : Int) ((hw : Int) * 256) = (gl : Int) := (or_low2 8 lw hw hblw hbhw (by decide)).trans (congrArg _ (by omega))
      have hgz : ((gh : Int) == 0) = true := by rw [eh]; rfl
      have hj1 : ((j : Int) == 1) = false := by rw [beq_eq_false_iff_ne]; omega
      have K2 : (j : Int) / 2 = 1 := by omega
      obtain ⟨sb, hsb⟩ : ∃ sb, sa + 1 = sb := ⟨_, rfl⟩
      have KB : (sa : Int) + 1 = (sb : Int) := by omega
      have L5 : Hid (∀ X m g d, PE w X (stepV how on j nn sa hi lo dv pv) m g n d l' → Calls Try.prog 15 #[.pointer (some ⟨m, 0, none⟩), .int .u64 (sa : Nat), .int .i64 1] X fun e Y =>
          e = .returned (.tuple #[.agg #[.int .u64 0, .int .u64 (lw : Nat)], .int .i64 0]) ∧ lw < 256 ∧ PE w Y (stepV how on j nn sa hi lo dv pv) m g n d l' ∧ Below X.heap.size X Y) := Lib.hid fun X m g d h => by
        have hv : lw < 256 := by
          rw [← hlw]
          refine Nat.lt_of_lt_of_le (leN_lt _ (part_small h.mem.small _ _)) ?_
          rw [part_length (by rw [HLL.out]; omega)]; decide
        have h0 : chk n sa (1 : Nat) = 0 := by unfold chk; rw [thB_nat, decide_eq_true (by omega)]; rfl
        have := load_any X _ m _ n d sa (1 : Nat) l' h.mem (by omega) (by omega) (by omega)
        rw [show LV l' sa (1 : Nat) = lw by unfold LV; rw [HLL.out, if_pos h0, Int.toNat_natCast]; exact hlw, h0, show lw / 18446744073709551616 = 0 by omega, show lw % 18446744073709551616 = lw by omega] at this
        exact this.mono fun e Y ⟨h1, h2⟩ => ⟨h1, hv, h.later h2, h2⟩
      have L6 : Hid (∀ X m g d, PE w X (stepV how on j nn sa hi lo dv pv) m g n d l' → Calls Try.prog 15 #[.pointer (some ⟨m, 0, none⟩), .int .u64 (sb : Nat), .int .i64 1] X fun e Y =>
          e = .returned (.tuple #[.agg #[.int .u64 0, .int .u64 (hw : Nat)], .int .i64 0]) ∧ hw < 256 ∧ PE w Y (stepV how on j nn sa hi lo dv pv) m g n d l' ∧ Below X.heap.size X Y) := Lib.hid fun X m g d h => by
        have hv : hw < 256 := by
          rw [← hhw]
          refine Nat.lt_of_lt_of_le (leN_lt _ (part_small h.mem.small _ _)) ?_
          rw [part_length (by rw [HLL.out]; omega)]; decide
        have h0 : chk n sb (1 : Nat) = 0 := by unfold chk; rw [thB_nat, decide_eq_true (by omega)]; rfl
        have := load_any X _ m _ n d sb (1 : Nat) l' h.mem (by omega) (by omega) (by omega)
        rw [show LV l' sb (1 : Nat) = hw by unfold LV; rw [HLL.out, if_pos h0, Int.toNat_natCast]; rw [← hsb]; exact hhw, h0, show hw / 18446744073709551616 = 0 by omega, show hw % 18446744073709551616 = hw by omega] at this
        exact this.mono fun e Y ⟨h1, h2⟩ => ⟨h1, hv, h.later h2, h2⟩
      clear hsp hsb hsum
      clear hje hsm eh el
      clear hlw hhw
      have K8 : 8 * (j : Int) = 16 := by omega
      have KL : (lo : Int) % 65536 = (gl : Int) := by rw [ela]; omega
      clear ela
      go_upto_region 20 with (first
        | (go_at_call 15; (refine (L3.out _ _ _ _ E4').mono ?_); rintro e w5 ⟨rfl, E5, h5⟩; have hN := E5.step.lt; (have hN1 : w.heap.size < w5.heap.size + 1 := by omega); have s2 := E5.step.cell 2; have s4 := E5.step.cell 4; have s5 := E5.step.cell 5; have s6 := E5.step.cell 6; (clear E4' b0 b1 L3)))
      have EB := (E5.alloc (.cells #[.int .u64 (gh : Nat), .int .u64 (gl : Nat)] 35)).alloc (.cells #[.int .u64 0, .int .u64 (lo : Nat)] 35)
      have gb := (Blk.new w5 #[.int .u64 (gh : Nat), .int .u64 (gl : Nat)] 35).alloc (.cells #[.int .u64 0, .int .u64 (lo : Nat)] 35)
      have wb := Blk.new (w5.alloc (.cells #[.int .u64 (gh : Nat), .int .u64 (gl : Nat)] 35)) #[.int .u64 0, .int .u64 (lo : Nat)] 35
      rw [World.size_alloc] at wb
      clear s2 s4 s5 s6 h5
      generalize (w5.alloc (.cells #[.int .u64 (gh : Nat), .int .u64 (gl : Nat)] 35)).alloc (.cells #[.int .u64 0, .int .u64 (lo : Nat)] 35) = wx at *
      have s2 := EB.step.cell 2
      have d1 := wb.cell 1
      have f1 := wb.frozen 1
      simp only [List.getElem?_toArray, List.getElem?_cons_zero, List.getElem?_cons_succ] at d1 s2
      have hgx := E5.gX
      have hmx := E5.mem.head.lt
      have HEB := Lib.hid EB
      have HGB := Lib.hid gb
      have hwB := Lib.hid wb
      clear EB gb wb E5
      refine wp_region_tail [_, _, _, _, _, _, _] [_, _] (fun _ w' => ∃ q, w' = wx.drewN q) (by kernel_rfl) (by kernel_rfl) (by kernel_rfl) ⟨1, rfl⟩ ?_
      (repeat (first | (refine sets_quiet (fun w' => ∃ q, w' = wx.drewN q) (fun _ _ h => h) rfl (fun _ _ _ h => h) rfl ?_; intro K hK; go_big_quiet_op; first | go_big_quiet_on | (refine ⟨_, fun _ => rfl, ?_⟩; go_big_quiet_on)) | (refine sets_nil rfl (fun _ _ _ h => h) _ rfl _ rfl ?_; simp only [Act.put, List.setIfInBounds_toArray, List.set_cons_succ, List.set_cons_zero])))
      rintro S _ _ ⟨q, rfl⟩
      have EE := (HEB.out.later (below_drewN (k := q) (Below.refl _ wx))).setTop (b := w5.heap.size + 1) 1 (.int .u64 (gl : Nat)) (by omega) (by omega) (by omega)
      have gg := (HGB.out.drewN q).other (b' := w5.heap.size + 1) 1 (.int .u64 (gl : Nat)) (by omega)
      have ww := (hwB.out.drewN q).set 1 (.int .u64 (gl : Nat))
      have s2 := EE.step.cell 2
      have s4 := EE.step.cell 4
      have c0 := gg.cell 0
      have c1 := gg.cell 1
      have d0 := ww.cell 0
      have d1 := ww.cell 1
      have HG5 := Lib.hid gg
      clear gg ww HEB HGB hwB
      simp only [List.getElem?_toArray, List.getElem?_cons_zero, List.getElem?_cons_succ, List.setIfInBounds_toArray, List.set_cons_succ, List.set_cons_zero] at c0 c1 d0 d1 s2 s4
      go_wp2_with (first
        | (go_at_call 15; (refine (L5.out _ _ _ _ EE).mono ?_); rintro e w6 ⟨rfl, hv6, E6, h6⟩; have g6 := HG5.out.below h6 HG5.out.lt; have b6 := (Blk.new w6 #[.int .u64 0, .int .u64 (lw : Nat)] 35); have E6' := E6.alloc (.cells #[.int .u64 0, .int .u64 (lw : Nat)] 35); have g6' := g6.alloc (.cells #[.int .u64 0, .int .u64 (lw : Nat)] 35); have s4 := E6'.step.cell 4; clear EE h6 E6 g6 L5 hN hN1 s2 c0 c1 d0 d1)
        | (go_at_call 15; (refine (L6.out _ _ _ _ E6').mono ?_); rintro e w7 ⟨rfl, hv7, E7, h7⟩; have g7 := (g6'.below h7 g6'.lt).alloc (.cells #[.int .u64 0, .int .u64 (hw : Nat)] 35); have b7 := (b6.below h7 b6.lt).alloc (.cells #[.int .u64 0, .int .u64 (hw : Nat)] 35); have E7' := E7.alloc (.cells #[.int .u64 0, .int .u64 (hw : Nat)] 35); have g70 := g7.cell 0; have g71 := g7.cell 1; have b71 := b7.cell 1; have b72 := (Blk.new w7 #[.int .u64 0, .int .u64 (hw : Nat)] 35).cell 1; have E7b := E7'.below; clear E6' g6' b6 h7 E7 g7 b7 L6 s4))
      clear E7'
      generalize w7.alloc (.cells #[.int .u64 0, .int .u64 (hw : Nat)] 35) = wz at *
      simp only [List.getElem?_toArray, List.getElem?_cons_zero, List.getElem?_cons_succ] at g70 g71 b71 b72
      have HE := Lib.hid E7b
      clear E7b
      refine wp_region_tail [_, _, _, _, _, _, _, _, _, _, _, _] [_, _, _, _, _, _, _, _] (fun _ w' => ∃ q, w' = wz.drewN q) (by kernel_rfl) (by kernel_rfl) (by kernel_rfl) ⟨1, rfl⟩ ?_
      (repeat (first | (refine sets_quiet (fun w' => ∃ q, w' = wz.drewN q) (fun _ _ h => h) rfl (fun _ _ _ h => h) rfl ?_; intro K hK; go_big_quiet_op; first | go_big_quiet_on | (refine ⟨_, fun _ => rfl, ?_⟩; go_big_quiet_on)) | (refine sets_nil rfl (fun _ _ _ h => h) _ rfl _ rfl ?_; simp only [Act.put, List.setIfInBounds_toArray, List.set_cons_succ, List.set_cons_zero])))
      rintro S _ _ ⟨q, rfl⟩
      go_wp2_with (first
        | (go_at_call 9; (with_reducible refine (lives_c _).mono ?_); rintro e w9 ⟨rfl, h9⟩))
      go_ret
      have hd := below_drewN (k := q) HE.out
      exact ⟨rfl, hd.trans (h9.mono hd.size)⟩
    · have hgot2 := hgot.out
      rw [hje] at hgot2
      have hgot := Lib.hid hgot2
      have HS2 := HS.out
      rw [hje] at HS2
      have HS := Lib.hid HS2
      clear hgot2 HS2
      have hjl : 4 ≤ j := by omega
      have hju : j ≤ 4 := by omega
      /- width 4 -/
      obtain ⟨hgh, hgl⟩ := hgot.out
      have eh : gh = 0 := by rw [← hgh]; omega
      have el : gl = lo % 4294967296 := by rw [← hgl, ← HX0.out]; omega
      have ela := el
      have hglt : gl < 18446744073709551616 := by rw [← hgl]; exact Nat.mod_lt _ (by decide)
      have hsm : gh * 18446744073709551616 + gl = X0 % 256 ^ 4 := by rw [← hgh, ← hgl, Nat.mul_comm]; exact Nat.div_add_mod _ _
      clear hgh hgl hgot
      have q2 : ∀ w, (binOp .neq 35 (.agg #[.int .u64 (gh : Nat), .int .u64 (gl : Nat)]) (.agg #[.int .u64 ((0 : Nat) : Nat), .int .u64 (gl : Nat)])).run Try.prog w = .ok (.bool false) w := fun w => by rw [neq_bits, decide_eq_true (by omega)]; rfl
      have q2 : ∀ w, (binOp .neq 35 (.agg #[.int .u64 (gh : Nat), .int .u64 (gl : Nat)]) (.agg #[.int .u64 0, .int .u64 (gl : Nat)])).run Try.prog w = .ok (.bool false) w := q2
      have hsp : part l' sa 4 = part l' sa 2 ++ part l' (sa + 2) 2 := part_split l' sa 2
      obtain ⟨lw, hlw⟩ : ∃ x, leN (part l' sa 2) = x := ⟨_, rfl⟩
      obtain ⟨hw, hhw⟩ : ∃ x, leN (part l' (sa + 2) 2) = x := ⟨_, rfl⟩
      have hsum : gh * 18446744073709551616 + gl = lw + 65536 * hw := by
        have := HS.out
        rw [hsp, leN_append, part_length (by rw [HLL.out]; omega), hlw, hhw] at this
        rw [hsm, ← this]
      have hblw : lw < 65536 := by
        rw [← hlw]
        refine Nat.lt_of_lt_of_le (leN_lt _ (part_small HSM.out _ _)) ?_
        rw [part_length (by rw [HLL.out]; omega)]; decide
      have hbhw : hw < 65536 := by
        rw [← hhw]
        refine Nat.lt_of_lt_of_le (leN_lt _ (part_small HSM.out _ _)) ?_
        rw [part_length (by rw [HLL.out]; omega)]; decide
      have KOR : bits .or .u64 (lw : Int) ((hw : Int) * 65536) = (gl : Int) := (or_low2 16 lw hw hblw hbhw (by decide)).trans (congrArg _ (by omega))
      have hgz : ((gh : Int) == 0) = true := by rw [eh]; rfl
      have hj1 : ((j : Int) == 1) = false := by rw [beq_eq_false_iff_ne]; omega
      have K2 : (j : Int) / 2 = 2 := by omega
      obtain ⟨sb, hsb⟩ : ∃ sb, sa + 2 = sb := ⟨_, rfl⟩
      have KB : (sa : Int) + 2 = (sb : Int) := by omega
      have L5 : Hid (∀ X m g d, PE w X (stepV how on j nn sa hi lo dv pv) m g n d l' → Calls Try.prog 15 #[.pointer (some ⟨m, 0, none⟩), .int .u64 (sa : Nat), .int .i64 2] X fun e Y =>
          e = .returned (.tuple #[.agg #[.int .u64 0, .int .u64 (lw : Nat)], .int .i64 0]) ∧ lw < 65536 ∧ PE w Y (stepV how on j nn sa hi lo dv pv) m g n d l' ∧ Below X.heap.size X Y) := Lib.hid fun X m g d h => by
        have hv : lw < 65536 := by
          rw [← hlw]
          refine Nat.lt_of_lt_of_le (leN_lt _ (part_small h.mem.small _ _)) ?_
          rw [part_length (by rw [HLL.out]; omega)]; decide
        have h0 : chk n sa (2 : Nat) = 0 := by unfold chk; rw [thB_nat, decide_eq_true (by omega)]; rfl
        have := load_any X _ m _ n d sa (2 : Nat) l' h.mem (by omega) (by omega) (by omega)
        rw [show LV l' sa (2 : Nat) = lw by unfold LV; rw [HLL.out, if_pos h0, Int.toNat_natCast]; exact hlw, h0, show lw / 18446744073709551616 = 0 by omega, show lw % 18446744073709551616 = lw by omega] at this
        exact this.mono fun e Y ⟨h1, h2⟩ => ⟨h1, hv, h.later h2, h2⟩
      have L6 : Hid (∀ X m g d, PE w X (stepV how on j nn sa hi lo dv pv) m g n d l' → Calls Try.prog 15 #[.pointer (some ⟨m, 0, none⟩), .int .u64 (sb : Nat), .int .i64 2] X fun e Y =>
          e = .returned (.tuple #[.agg #[.int .u64 0, .int .u64 (hw : Nat)], .int .i64 0]) ∧ hw < 65536 ∧ PE w Y (stepV how on j nn sa hi lo dv pv) m g n d l' ∧ Below X.heap.size X Y) := Lib.hid fun X m g d h => by
        have hv : hw < 65536 := by
          rw [← hhw]
          refine Nat.lt_of_lt_of_le (leN_lt _ (part_small h.mem.small _ _)) ?_
          rw [part_length (by rw [HLL.out]; omega)]; decide
        have h0 : chk n sb (2 : Nat) = 0 := by unfold chk; rw [thB_nat, decide_eq_true (by omega)]; rfl
        have := load_any X _ m _ n d sb (2 : Nat) l' h.mem (by omega) (by omega) (by omega)
        rw [show LV l' sb (2 : Nat) = hw by unfold LV; rw [HLL.out, if_pos h0, Int.toNat_natCast]; rw [← hsb]; exact hhw, h0, show hw / 18446744073709551616 = 0 by omega, show hw % 18446744073709551616 = hw by omega] at this
        exact this.mono fun e Y ⟨h1, h2⟩ => ⟨h1, hv, h.later h2, h2⟩
      clear hsp hsb hsum
      clear hje hsm eh el
      clear hlw hhw
      have K8 : 8 * (j : Int) = 32 := by omega
      have KL : (lo : Int) % 4294967296 = (gl : Int) := by rw [ela]; omega
      clear ela
      go_upto_region 20 with (first
        | (go_at_call 15; (refine (L3.out _ _ _ _ E4').mono ?_); rintro e w5 ⟨rfl, E5, h5⟩; have hN := E5.step.lt; (have hN1 : w.heap.size < w5.heap.size + 1 := by omega); have s2 := E5.step.cell 2; have s4 := E5.step.cell 4; have s5 := E5.step.cell 5; have s6 := E5.step.cell 6; (clear E4' b0 b1 L3)))
      have EB := (E5.alloc (.cells #[.int .u64 (gh : Nat), .int .u64 (gl : Nat)] 35)).alloc (.cells #[.int .u64 0, .int .u64 (lo : Nat)] 35)
      have gb := (Blk.new w5 #[.int .u64 (gh : Nat), .int .u64 (gl : Nat)] 35).alloc (.cells #[.int .u64 0, .int .u64 (lo : Nat)] 35)
      have wb := Blk.new (w5.alloc (.cells #[.int .u64 (gh : Nat), .int .u64 (gl : Nat)] 35)) #[.int .u64 0, .int .u64 (lo : Nat)] 35
      rw [World.size_alloc] at wb
      clear s2 s4 s5 s6 h5
      generalize (w5.alloc (.cells #[.int .u64 (gh : Nat), .int .u64 (gl : Nat)] 35)).alloc (.cells #[.int .u64 0, .int .u64 (lo : Nat)] 35) = wx at *
      have s2 := EB.step.cell 2
      have d1 := wb.cell 1
      have f1 := wb.frozen 1
      simp only [List.getElem?_toArray, List.getElem?_cons_zero, List.getElem?_cons_succ] at d1 s2
      have hgx := E5.gX
      have hmx := E5.mem.head.lt
      have HEB := Lib.hid EB
      have HGB := Lib.hid gb
      have hwB := Lib.hid wb
      clear EB gb wb E5
      refine wp_region_tail [_, _, _, _, _, _, _] [_, _] (fun _ w' => ∃ q, w' = wx.drewN q) (by kernel_rfl) (by kernel_rfl) (by kernel_rfl) ⟨1, rfl⟩ ?_
      (repeat (first | (refine sets_quiet (fun w' => ∃ q, w' = wx.drewN q) (fun _ _ h => h) rfl (fun _ _ _ h => h) rfl ?_; intro K hK; go_big_quiet_op; first | go_big_quiet_on | (refine ⟨_, fun _ => rfl, ?_⟩; go_big_quiet_on)) | (refine sets_nil rfl (fun _ _ _ h => h) _ rfl _ rfl ?_; simp only [Act.put, List.setIfInBounds_toArray, List.set_cons_succ, List.set_cons_zero])))
      rintro S _ _ ⟨q, rfl⟩
      have EE := (HEB.out.later (below_drewN (k := q) (Below.refl _ wx))).setTop (b := w5.heap.size + 1) 1 (.int .u64 (gl : Nat)) (by omega) (by omega) (by omega)
      have gg := (HGB.out.drewN q).other (b' := w5.heap.size + 1) 1 (.int .u64 (gl : Nat)) (by omega)
      have ww := (hwB.out.drewN q).set 1 (.int .u64 (gl : Nat))
      have s2 := EE.step.cell 2
      have s4 := EE.step.cell 4
      have c0 := gg.cell 0
      have c1 := gg.cell 1
      have d0 := ww.cell 0
      have d1 := ww.cell 1
      have HG5 := Lib.hid gg
      clear gg ww HEB HGB hwB
      simp only [List.getElem?_toArray, List.getElem?_cons_zero, List.getElem?_cons_succ, List.setIfInBounds_toArray, List.set_cons_succ, List.set_cons_zero] at c0 c1 d0 d1 s2 s4
      go_wp2_with (first
        | (go_at_call 15; (refine (L5.out _ _ _ _ EE).mono ?_); rintro e w6 ⟨rfl, hv6, E6, h6⟩; have g6 := HG5.out.below h6 HG5.out.lt; have b6 := (Blk.new w6 #[.int .u64 0, .int .u64 (lw : Nat)] 35); have E6' := E6.alloc (.cells #[.int .u64 0, .int .u64 (lw : Nat)] 35); have g6' := g6.alloc (.cells #[.int .u64 0, .int .u64 (lw : Nat)] 35); have s4 := E6'.step.cell 4; clear EE h6 E6 g6 L5 hN hN1 s2 c0 c1 d0 d1)
        | (go_at_call 15; (refine (L6.out _ _ _ _ E6').mono ?_); rintro e w7 ⟨rfl, hv7, E7, h7⟩; have g7 := (g6'.below h7 g6'.lt).alloc (.cells #[.int .u64 0, .int .u64 (hw : Nat)] 35); have b7 := (b6.below h7 b6.lt).alloc (.cells #[.int .u64 0, .int .u64 (hw : Nat)] 35); have E7' := E7.alloc (.cells #[.int .u64 0, .int .u64 (hw : Nat)] 35); have g70 := g7.cell 0; have g71 := g7.cell 1; have b71 := b7.cell 1; have b72 := (Blk.new w7 #[.int .u64 0, .int .u64 (hw : Nat)] 35).cell 1; have E7b := E7'.below; clear E6' g6' b6 h7 E7 g7 b7 L6 s4))
      clear E7'
      generalize w7.alloc (.cells #[.int .u64 0, .int .u64 (hw : Nat)] 35) = wz at *
      simp only [List.getElem?_toArray, List.getElem?_cons_zero, List.getElem?_cons_succ] at g70 g71 b71 b72
      have HE := Lib.hid E7b
      clear E7b
      refine wp_region_tail [_, _, _, _, _, _, _, _, _, _, _, _] [_, _, _, _, _, _, _, _] (fun _ w' => ∃ q, w' = wz.drewN q) (by kernel_rfl) (by kernel_rfl) (by kernel_rfl) ⟨1, rfl⟩ ?_
      (repeat (first | (refine sets_quiet (fun w' => ∃ q, w' = wz.drewN q) (fun _ _ h => h) rfl (fun _ _ _ h => h) rfl ?_; intro K hK; go_big_quiet_op; first | go_big_quiet_on | (refine ⟨_, fun _ => rfl, ?_⟩; go_big_quiet_on)) | (refine sets_nil rfl (fun _ _ _ h => h) _ rfl _ rfl ?_; simp only [Act.put, List.setIfInBounds_toArray, List.set_cons_succ, List.set_cons_zero])))
      rintro S _ _ ⟨q, rfl⟩
      go_wp2_with (first
        | (go_at_call 9; (with_reducible refine (lives_c _).mono ?_); rintro e w9 ⟨rfl, h9⟩))
      go_ret
      have hd := below_drewN (k := q) HE.out
      exact ⟨rfl, hd.trans (h9.mono hd.size)⟩
    · have hgot2 := hgot.out
      rw [hje] at hgot2
      have hgot := Lib.hid hgot2
      have HS2 := HS.out
      rw [hje] at HS2
      have HS := Lib.hid HS2
      clear hgot2 HS2
      have hjl : 8 ≤ j := by omega
      have hju : j ≤ 8 := by omega
      /- width 8 -/
      obtain ⟨hgh, hgl⟩ := hgot.out
      have eh : gh = 0 := by rw [← hgh, ← HX0.out]; omega
      have el : gl = lo := by rw [← hgl, ← HX0.out]; omega
      have hglt : gl < 18446744073709551616 := by rw [← hgl]; exact Nat.mod_lt _ (by decide)
      have hsm : gh * 18446744073709551616 + gl = X0 % 256 ^ 8 := by rw [← hgh, ← hgl, Nat.mul_comm]; exact Nat.div_add_mod _ _
      clear hgh hgl hgot
      have q2 : ∀ w, (binOp .neq 35 (.agg #[.int .u64 (gh : Nat), .int .u64 (gl : Nat)]) (.agg #[.int .u64 ((0 : Nat) : Nat), .int .u64 (lo : Nat)])).run Try.prog w = .ok (.bool false) w := fun w => by rw [neq_bits, decide_eq_true (by omega)]; rfl
      have q2 : ∀ w, (binOp .neq 35 (.agg #[.int .u64 (gh : Nat), .int .u64 (gl : Nat)]) (.agg #[.int .u64 0, .int .u64 (lo : Nat)])).run Try.prog w = .ok (.bool false) w := q2
      have hsp : part l' sa 8 = part l' sa 4 ++ part l' (sa + 4) 4 := part_split l' sa 4
      obtain ⟨lw, hlw⟩ : ∃ x, leN (part l' sa 4) = x := ⟨_, rfl⟩
      obtain ⟨hw, hhw⟩ : ∃ x, leN (part l' (sa + 4) 4) = x := ⟨_, rfl⟩
      have hsum : gh * 18446744073709551616 + gl = lw + 4294967296 * hw := by
        have := HS.out
        rw [hsp, leN_append, part_length (by rw [HLL.out]; omega), hlw, hhw] at this
        rw [hsm, ← this]
      have hblw : lw < 4294967296 := by
        rw [← hlw]
        refine Nat.lt_of_lt_of_le (leN_lt _ (part_small HSM.out _ _)) ?_
        rw [part_length (by rw [HLL.out]; omega)]; decide
      have hbhw : hw < 4294967296 := by
        rw [← hhw]
        refine Nat.lt_of_lt_of_le (leN_lt _ (part_small HSM.out _ _)) ?_
        rw [part_length (by rw [HLL.out]; omega)]; decide
      have KOR : bits .or .u64 (lw : Int) ((hw : Int) * 4294967296) = (gl : Int) := (or_low2 32 lw hw hblw hbhw (by decide)).trans (congrArg _ (by omega))
      have hgz : ((gh : Int) == 0) = true := by rw [eh]; rfl
      have hj1 : ((j : Int) == 1) = false := by rw [beq_eq_false_iff_ne]; omega
      have K2 : (j : Int) / 2 = 4 := by omega
      obtain ⟨sb, hsb⟩ : ∃ sb, sa + 4 = sb := ⟨_, rfl⟩
      have KB : (sa : Int) + 4 = (sb : Int) := by omega
      have L5 : Hid (∀ X m g d, PE w X (stepV how on j nn sa hi lo dv pv) m g n d l' → Calls Try.prog 15 #[.pointer (some ⟨m, 0, none⟩), .int .u64 (sa : Nat), .int .i64 4] X fun e Y =>
          e = .returned (.tuple #[.agg #[.int .u64 0, .int .u64 (lw : Nat)], .int .i64 0]) ∧ lw < 4294967296 ∧ PE w Y (stepV how on j nn sa hi lo dv pv) m g n d l' ∧ Below X.heap.size X Y) := Lib.hid fun X m g d h => by
        have hv : lw < 4294967296 := by
          rw [← hlw]
          refine Nat.lt_of_lt_of_le (leN_lt _ (part_small h.mem.small _ _)) ?_
          rw [part_length (by rw [HLL.out]; omega)]; decide
        have h0 : chk n sa (4 : Nat) = 0 := by unfold chk; rw [thB_nat, decide_eq_true (by omega)]; rfl
        have := load_any X _ m _ n d sa (4 : Nat) l' h.mem (by omega) (by omega) (by omega)
        rw [show LV l' sa (4 : Nat) = lw by unfold LV; rw [HLL.out, if_pos h0, Int.toNat_natCast]; exact hlw, h0, show lw / 18446744073709551616 = 0 by omega, show lw % 18446744073709551616 = lw by omega] at this
        exact this.mono fun e Y ⟨h1, h2⟩ => ⟨h1, hv, h.later h2, h2⟩
      have L6 : Hid (∀ X m g d, PE w X (stepV how on j nn sa hi lo dv pv) m g n d l' → Calls Try.prog 15 #[.pointer (some ⟨m, 0, none⟩), .int .u64 (sb : Nat), .int .i64 4] X fun e Y =>
          e = .returned (.tuple #[.agg #[.int .u64 0, .int .u64 (hw : Nat)], .int .i64 0]) ∧ hw < 4294967296 ∧ PE w Y (stepV how on j nn sa hi lo dv pv) m g n d l' ∧ Below X.heap.size X Y) := Lib.hid fun X m g d h => by
        have hv : hw < 4294967296 := by
          rw [← hhw]
          refine Nat.lt_of_lt_of_le (leN_lt _ (part_small h.mem.small _ _)) ?_
          rw [part_length (by rw [HLL.out]; omega)]; decide
        have h0 : chk n sb (4 : Nat) = 0 := by unfold chk; rw [thB_nat, decide_eq_true (by omega)]; rfl
        have := load_any X _ m _ n d sb (4 : Nat) l' h.mem (by omega) (by omega) (by omega)
        rw [show LV l' sb (4 : Nat) = hw by unfold LV; rw [HLL.out, if_pos h0, Int.toNat_natCast]; rw [← hsb]; exact hhw, h0, show hw / 18446744073709551616 = 0 by omega, show hw % 18446744073709551616 = hw by omega] at this
        exact this.mono fun e Y ⟨h1, h2⟩ => ⟨h1, hv, h.later h2, h2⟩
      clear hsp hsb hsum
      clear hje hsm eh el
      clear hlw hhw
      go_wp2_with (first
        | (go_at_call 15; (refine (L3.out _ _ _ _ E4').mono ?_); rintro e w5 ⟨rfl, E5, h5⟩; have hN := E5.step.lt; (have hN1 : w.heap.size < w5.heap.size + 1 := by omega); have s2 := E5.step.cell 2; have s4 := E5.step.cell 4; have s5 := E5.step.cell 5; have s6 := E5.step.cell 6; (clear E4' b0 b1 L3))
        | (go_at_call 15; have E5' := (E5.alloc (.cells #[.int .u64 (gh : Nat), .int .u64 (gl : Nat)] 35)).alloc (.cells #[.int .u64 0, .int .u64 (lo : Nat)] 35); have g5 := (Blk.new w5 #[.int .u64 (gh : Nat), .int .u64 (gl : Nat)] 35).alloc (.cells #[.int .u64 0, .int .u64 (lo : Nat)] 35); (refine (L5.out _ _ _ _ E5').mono ?_); rintro e w6 ⟨rfl, hv6, E6, h6⟩; have g6 := g5.below h6 g5.lt; have b6 := (Blk.new w6 #[.int .u64 0, .int .u64 (lw : Nat)] 35); have E6' := E6.alloc (.cells #[.int .u64 0, .int .u64 (lw : Nat)] 35); have g6' := g6.alloc (.cells #[.int .u64 0, .int .u64 (lw : Nat)] 35); have s4 := E6'.step.cell 4; clear E5 E5' g5 h6 E6 g6 L5 hN hN1 s2 s5 s6)
        | (go_at_call 15; (refine (L6.out _ _ _ _ E6').mono ?_); rintro e w7 ⟨rfl, hv7, E7, h7⟩; have g7 := (g6'.below h7 g6'.lt).alloc (.cells #[.int .u64 0, .int .u64 (hw : Nat)] 35); have b7 := (b6.below h7 b6.lt).alloc (.cells #[.int .u64 0, .int .u64 (hw : Nat)] 35); have E7' := E7.alloc (.cells #[.int .u64 0, .int .u64 (hw : Nat)] 35); have g70 := g7.cell 0; have g71 := g7.cell 1; have b71 := b7.cell 1; have b72 := (Blk.new w7 #[.int .u64 0, .int .u64 (hw : Nat)] 35).cell 1; have E7b := E7'.below; clear E6' g6' b6 h7 E7 g7 b7 L6 s4)
        | (go_at_call 9; (with_reducible refine (lives_c _).mono ?_); rintro e w9 ⟨rfl, h9⟩))
      clear E7'
      generalize w7.alloc (.cells #[.int .u64 0, .int .u64 (hw : Nat)] 35) = wz at *
      simp only [List.getElem?_toArray, List.getElem?_cons_zero, List.getElem?_cons_succ] at g70 g71 b71 b72
      have HE := Lib.hid E7b
      clear E7b
      refine wp_region_tail [_, _, _, _, _, _, _, _, _, _, _, _] [_, _, _, _, _, _, _, _] (fun _ w' => ∃ q, w' = wz.drewN q) (by kernel_rfl) (by kernel_rfl) (by kernel_rfl) ⟨1, rfl⟩ ?_
      (repeat (first | (refine sets_quiet (fun w' => ∃ q, w' = wz.drewN q) (fun _ _ h => h) rfl (fun _ _ _ h => h) rfl ?_; intro K hK; go_big_quiet_op; first | go_big_quiet_on | (refine ⟨_, fun _ => rfl, ?_⟩; go_big_quiet_on)) | (refine sets_nil rfl (fun _ _ _ h => h) _ rfl _ rfl ?_; simp only [Act.put, List.setIfInBounds_toArray, List.set_cons_succ, List.set_cons_zero])))
      rintro S _ _ ⟨q, rfl⟩
      go_wp2_with (first
        | (go_at_call 9; (with_reducible refine (lives_c _).mono ?_); rintro e w9 ⟨rfl, h9⟩))
      go_ret
      have hd := below_drewN (k := q) HE.out
      exact ⟨rfl, hd.trans (h9.mono hd.size)⟩
    · have hgot2 := hgot.out
      rw [hje] at hgot2
      have hgot := Lib.hid hgot2
      have HS2 := HS.out
      rw [hje] at HS2
      have HS := Lib.hid HS2
      clear hgot2 HS2
      have hjl : 16 ≤ j := by omega
      have hju : j ≤ 16 := by omega
      /- width 16 -/
      obtain ⟨hgh, hgl⟩ := hgot.out
      have eh : gh = hi := by rw [← hgh, ← HX0.out]; omega
      have el : gl = lo := by rw [← hgl, ← HX0.out]; omega
      have hglt : gl < 18446744073709551616 := by rw [← hgl]; exact Nat.mod_lt _ (by decide)
      have hsm : gh * 18446744073709551616 + gl = X0 % 256 ^ 16 := by rw [← hgh, ← hgl, Nat.mul_comm]; exact Nat.div_add_mod _ _
      clear hgh hgl hgot
      have q2 : ∀ w, (binOp .neq 35 (.agg #[.int .u64 (gh : Nat), .int .u64 (gl : Nat)]) (.agg #[.int .u64 (hi : Nat), .int .u64 (lo : Nat)])).run Try.prog w = .ok (.bool false) w := fun w => by rw [neq_bits, decide_eq_true (by omega)]; rfl
      have hsp : part l' sa 16 = part l' sa 8 ++ part l' (sa + 8) 8 := part_split l' sa 8
      obtain ⟨lw, hlw⟩ : ∃ x, leN (part l' sa 8) = x := ⟨_, rfl⟩
      obtain ⟨hw, hhw⟩ : ∃ x, leN (part l' (sa + 8) 8) = x := ⟨_, rfl⟩
      have hsum : gh * 18446744073709551616 + gl = lw + 18446744073709551616 * hw := by
        have := HS.out
        rw [hsp, leN_append, part_length (by rw [HLL.out]; omega), hlw, hhw] at this
        rw [hsm, ← this]
      have hblw : lw < 18446744073709551616 := by
        rw [← hlw]
        refine Nat.lt_of_lt_of_le (leN_lt _ (part_small HSM.out _ _)) ?_
        rw [part_length (by rw [HLL.out]; omega)]; decide
      have hbhw : hw < 18446744073709551616 := by
        rw [← hhw]
        refine Nat.lt_of_lt_of_le (leN_lt _ (part_small HSM.out _ _)) ?_
        rw [part_length (by rw [HLL.out]; omega)]; decide
      obtain ⟨rfl, rfl⟩ : lw = gl ∧ hw = gh := by omega
      have hj1 : ((j : Int) == 1) = false := by rw [beq_eq_false_iff_ne]; omega
      have K2 : (j : Int) / 2 = 8 := by omega
      obtain ⟨sb, hsb⟩ : ∃ sb, sa + 8 = sb := ⟨_, rfl⟩
      have KB : (sa : Int) + 8 = (sb : Int) := by omega
      have L5 : Hid (∀ X m g d, PE w X (stepV how on j nn sa hi lo dv pv) m g n d l' → Calls Try.prog 15 #[.pointer (some ⟨m, 0, none⟩), .int .u64 (sa : Nat), .int .i64 8] X fun e Y =>
          e = .returned (.tuple #[.agg #[.int .u64 0, .int .u64 (lw : Nat)], .int .i64 0]) ∧ lw < 18446744073709551616 ∧ PE w Y (stepV how on j nn sa hi lo dv pv) m g n d l' ∧ Below X.heap.size X Y) := Lib.hid fun X m g d h => by
        have hv : lw < 18446744073709551616 := by
          rw [← hlw]
          refine Nat.lt_of_lt_of_le (leN_lt _ (part_small h.mem.small _ _)) ?_
          rw [part_length (by rw [HLL.out]; omega)]; decide
        have h0 : chk n sa (8 : Nat) = 0 := by unfold chk; rw [thB_nat, decide_eq_true (by omega)]; rfl
        have := load_any X _ m _ n d sa (8 : Nat) l' h.mem (by omega) (by omega) (by omega)
        rw [show LV l' sa (8 : Nat) = lw by unfold LV; rw [HLL.out, if_pos h0, Int.toNat_natCast]; exact hlw, h0, show lw / 18446744073709551616 = 0 by omega, show lw % 18446744073709551616 = lw by omega] at this
        exact this.mono fun e Y ⟨h1, h2⟩ => ⟨h1, hv, h.later h2, h2⟩
      have L6 : Hid (∀ X m g d, PE w X (stepV how on j nn sa hi lo dv pv) m g n d l' → Calls Try.prog 15 #[.pointer (some ⟨m, 0, none⟩), .int .u64 (sb : Nat), .int .i64 8] X fun e Y =>
          e = .returned (.tuple #[.agg #[.int .u64 0, .int .u64 (hw : Nat)], .int .i64 0]) ∧ hw < 18446744073709551616 ∧ PE w Y (stepV how on j nn sa hi lo dv pv) m g n d l' ∧ Below X.heap.size X Y) := Lib.hid fun X m g d h => by
        have hv : hw < 18446744073709551616 := by
          rw [← hhw]
          refine Nat.lt_of_lt_of_le (leN_lt _ (part_small h.mem.small _ _)) ?_
          rw [part_length (by rw [HLL.out]; omega)]; decide
        have h0 : chk n sb (8 : Nat) = 0 := by unfold chk; rw [thB_nat, decide_eq_true (by omega)]; rfl
        have := load_any X _ m _ n d sb (8 : Nat) l' h.mem (by omega) (by omega) (by omega)
        rw [show LV l' sb (8 : Nat) = hw by unfold LV; rw [HLL.out, if_pos h0, Int.toNat_natCast]; rw [← hsb]; exact hhw, h0, show hw / 18446744073709551616 = 0 by omega, show hw % 18446744073709551616 = hw by omega] at this
        exact this.mono fun e Y ⟨h1, h2⟩ => ⟨h1, hv, h.later h2, h2⟩
      clear hsp hsb hsum
      clear hje hsm eh el
      clear hlw hhw
      go_wp2_with (first
        | (go_at_call 15; (refine (L3.out _ _ _ _ E4').mono ?_); rintro e w5 ⟨rfl, E5, h5⟩; have hN := E5.step.lt; (have hN1 : w.heap.size < w5.heap.size + 1 := by omega); have s2 := E5.step.cell 2; have s4 := E5.step.cell 4; have s5 := E5.step.cell 5; have s6 := E5.step.cell 6; (clear E4' b0 b1 L3))
        | (go_at_call 15; have E5' := (E5.alloc (.cells #[.int .u64 (hw : Nat), .int .u64 (lw : Nat)] 35)).alloc (.cells #[.int .u64 (hi : Nat), .int .u64 (lo : Nat)] 35); have g5 := (Blk.new w5 #[.int .u64 (hw : Nat), .int .u64 (lw : Nat)] 35).alloc (.cells #[.int .u64 (hi : Nat), .int .u64 (lo : Nat)] 35); (refine (L5.out _ _ _ _ E5').mono ?_); rintro e w6 ⟨rfl, hv6, E6, h6⟩; have g6 := g5.below h6 g5.lt; have b6 := (Blk.new w6 #[.int .u64 0, .int .u64 (lw : Nat)] 35); have E6' := E6.alloc (.cells #[.int .u64 0, .int .u64 (lw : Nat)] 35); have g6' := g6.alloc (.cells #[.int .u64 0, .int .u64 (lw : Nat)] 35); have s4 := E6'.step.cell 4; clear E5 E5' g5 h6 E6 g6 L5 hN hN1 s2 s5 s6)
        | (go_at_call 15; (refine (L6.out _ _ _ _ E6').mono ?_); rintro e w7 ⟨rfl, hv7, E7, h7⟩; have g7 := (g6'.below h7 g6'.lt).alloc (.cells #[.int .u64 0, .int .u64 (hw : Nat)] 35); have b7 := (b6.below h7 b6.lt).alloc (.cells #[.int .u64 0, .int .u64 (hw : Nat)] 35); have E7' := E7.alloc (.cells #[.int .u64 0, .int .u64 (hw : Nat)] 35); have g70 := g7.cell 0; have g71 := g7.cell 1; have b71 := b7.cell 1; have b72 := (Blk.new w7 #[.int .u64 0, .int .u64 (hw : Nat)] 35).cell 1; have E7b := E7'.below; clear E6' g6' b6 h7 E7 g7 b7 L6 s4)
        | (go_at_call 9; (with_reducible refine (lives_c _).mono ?_); rintro e w9 ⟨rfl, h9⟩))
      go_ret
      exact ⟨rfl, E7b.trans (h9.mono E7b.size)⟩
theorem walk_MemPieces (ao : Option Addr) (n c : Nat) (l : List Nat) (how on wd nn k : Int) (sa hi lo a : Nat) (dv pv : Value) (w : World) (hnl : l.length = n) (hr : Rd w ao l) (hs : ∀ x ∈ l, x < 256)
    (hsa : sa < 18446744073709551616) (hhi : hi < 18446744073709551616) (hlo : lo < 18446744073709551616) (ha : a < 18446744073709551616) (hw1 : -9223372036854775808 ≤ wd) (hw2 : wd ≤ 9223372036854775807) (hk1 : -9223372036854775808 ≤ k) (hk2 : k ≤ 9223372036854775807) :
    Calls Try.prog 5 #[.slice ao n c, .agg (stepV how on wd nn sa hi lo dv pv), .int .u64 a, .int .i64 k] w fun e w' => e = .returned (.bool true) ∧ Below w.heap.size w w' := by
  by_cases hn : 2000 < n
  · exact walk_MemPieces_big w ao n c how on wd nn k sa hi lo a dv pv hn
  · by_cases hc : chk n sa wd = 0
    · obtain ⟨hw, j, rfl, hj⟩ := chk_zero hc
      have hj5 : j = 1 ∨ j = 2 ∨ j = 4 ∨ j = 8 ∨ j = 16 := by
        simp only [widB, Bool.or_eq_true, beq_iff_eq] at hw; omega
      exact walk_MemPieces_yes w ao n c j l how on nn k sa hi lo a dv pv (by omega) hnl hr hs hsa hhi hlo ha hk1 hk2 hj5 hc hj
    · exact walk_MemPieces_no w ao n c l how on wd nn k sa hi lo a dv pv (by omega) hnl hr hs hsa hhi hlo ha hw1 hw2 hk1 hk2 hc
end Go.Proofs.Ytdgdmhmagdjeoaa
