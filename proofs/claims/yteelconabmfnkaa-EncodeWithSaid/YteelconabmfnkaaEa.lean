/- table.Each, what it hands out. -/
import Derived.Test.YteelconabmfnkaaRfa
import Derived.Test.YteelconabmfnkaaTk
namespace Go.Proofs.Yteelconabmfnkaa
open Go Go.RowKit Go.Shelf
attribute [local go_sem] Oper.semAt_some
set_option maxHeartbeats 4000000
set_option maxRecDepth 100000
set_option linter.unusedVariables false
set_option linter.unusedSimpArgs false
/-- the rows of an Op -/
def RLO (o : Nat) : List R7 := (SPECS.filter fun s => s.op == o).flatMap RL
/-- its row k -/
def rk (o k : Nat) : R7 := (RLO o)[k]?.getD zeroR
theorem spec_op : ∀ i, i < 31 → ∀ s, SPECS[i]? = some s → s.op = i + 1 := by
  intro i hi s hs
  have h : (List.range 31).all (fun i => match SPECS[i]? with | some s => s.op == i + 1 | none => true) = true := by decide +kernel
  have := List.all_eq_true.1 h i (List.mem_range.2 hi)
  rw [hs] at this
  simpa using this
theorem rlo_in : ∀ i, i < 31 → ∀ s, SPECS[i]? = some s → RLO (i + 1) = RL s := by
  intro i hi s hs
  have h : (List.range 31).all (fun i => match SPECS[i]? with | some s => decide (RLO (i + 1) = RL s) | none => true) = true := by decide +kernel
  have := List.all_eq_true.1 h i (List.mem_range.2 hi)
  rw [hs] at this
  simpa using this
theorem rlo_out (o : Nat) (h : o = 0 ∨ 31 < o) : RLO o = [] := by
  unfold RLO
  rw [List.filter_eq_nil_iff.2]
  · rfl
  · intro s hs
    obtain ⟨i, hi, hsi⟩ := List.mem_iff_getElem.1 hs
    have := spec_op i hi s (by rw [List.getElem?_eq_getElem hi, hsi])
    have hi' : i < 31 := hi
    simp only [beq_iff_eq]
    omega
theorem rlo_rows : ∀ r ∈ ROWS, 1 ≤ r.op ∧ r.op ≤ 31 ∧ RLO r.op = ROWS.filter fun q => q.op == r.op := by
  have h : (ROWS.all fun r => decide (1 ≤ r.op) && decide (r.op ≤ 31)) = true := by decide +kernel
  have h2 : ((List.range 31).all fun i => decide (RLO (i + 1) = ROWS.filter fun q => q.op == i + 1)) = true := by decide +kernel
  intro r hr
  have a := List.all_eq_true.1 h r hr
  simp only [Bool.and_eq_true, decide_eq_true_eq] at a
  have b := List.all_eq_true.1 h2 (r.op - 1) (List.mem_range.2 (by omega))
  rw [show r.op - 1 + 1 = r.op by omega] at b
  exact ⟨a.1, a.2, by simpa using b⟩
theorem each_c (W : World) (o : Nat) : Calls Try.prog 50 #[.int .u8 o] W fun e w' => e = .returned (.func (.func 71) #[] #[.pointer (some ⟨W.heap.size, 0, none⟩)]) ∧ w' = W.alloc (.cells #[.int .u8 (o : Nat)] 22) := by
  go_enter Try.func50, Try.ntmps50
  go_wp2
  go_ret
  exact ⟨rfl, rfl⟩
/-- what holds between two lines -/
def EachAt (J Jx : Nat → (Nat → Prop) → World → Prop) (len o m : Nat) (X2 : Nat → Prop) (wr : World) : Prop :=
  (¬ (1 ≤ o ∧ o ≤ m) ∧ J 0 X2 wr) ∨ ((1 ≤ o ∧ o ≤ m) ∧ ∃ X', (∀ b, X2 b → X' b) ∧ (J len X' wr ∨ ∃ k, k ≤ len ∧ 1 ≤ k ∧ Jx k X' wr))
theorem EachAt.later {J Jx : Nat → (Nat → Prop) → World → Prop} {len o m : Nat} {X2 : Nat → Prop} {wr w1 : World} (hJ : Out J) (hJx : Out Jx) (h : EachAt J Jx len o m X2 wr) (hb : Below wr.heap.size wr w1) : EachAt J Jx len o m X2 w1 := by
  rcases h with ⟨h1, h2⟩ | ⟨h1, X', h2, h3 | ⟨k, h3, h4, h5⟩⟩
  · exact .inl ⟨h1, (hJ _ _ _ _ h2 hb).1⟩
  · exact .inr ⟨h1, X', h2, .inl (hJ _ _ _ _ h3 hb).1⟩
  · exact .inr ⟨h1, X', h2, .inr ⟨k, h3, h4, (hJx _ _ _ _ h5 hb).1⟩⟩
theorem EachAt.c {C : World → Prop} {J Jx : Nat → (Nat → Prop) → World → Prop} {len o m : Nat} {X2 : Nat → Prop} {wr : World} (h : EachAt J Jx len o m X2 wr) (hJC : ∀ k X W, J k X W → C W) (hJxC : ∀ k X W, Jx k X W → C W) : C wr := by
  rcases h with ⟨_, h2⟩ | ⟨_, X', _, h3 | ⟨k, _, _, h5⟩⟩
  · exact hJC _ _ _ h2
  · exact hJC _ _ _ h3
  · exact hJxC _ _ _ h5
theorem EachAt.next {J Jx : Nat → (Nat → Prop) → World → Prop} {len o m : Nat} {X2 : Nat → Prop} {wr : World} (h : EachAt J Jx len o m X2 wr) (hne : o ≠ m + 1) : EachAt J Jx len o (m + 1) X2 wr := by
  rcases h with ⟨h1, h2⟩ | ⟨h1, h2⟩
  · exact .inl ⟨by omega, h2⟩
  · exact .inr ⟨by omega, h2⟩
theorem each_iter (o bo : Nat) (n : Nat) (hn : 4 ≤ n) (n₀ : Nat) (w : World) (hn0 : n₀ ≤ w.heap.size) :
    IterC (fun W => W.cell? ⟨bo, 0, none⟩ = some (.int .u8 (o : Nat))) Fence.wide n Try.prog 71 #[] #[.pointer (some ⟨bo, 0, none⟩)] (fun k => #[.agg (rowV (rk o k))]) (RLO o).length n₀ w := by
  intro l J Jx X W hb hXl hJ hJx hJC hJxC hY h0
  have HW := Lib.hid (Nat.le_trans hn0 hb.size)
  have h1n : 1 ≤ n := by omega
  clear hb
  obtain ⟨len, hlen⟩ : ∃ len, (RLO o).length = len := ⟨_, rfl⟩
  rw [hlen] at hY ⊢
  have HLEN := Lib.hid hlen
  clear hlen
  show CallsIn Fence.wide n Try.prog 71 #[.func (.yield l) #[] #[], .pointer (some ⟨bo, 0, none⟩)] W _
  refine callsIn_of_wp Try.func71 rfl trivial ?_ rfl
  simp only [Try.ntmps71, List.size_toArray, List.length_cons, List.length_nil, Nat.reduceAdd, Nat.reduceSub, Array.replicate_succ, Array.replicate_zero, List.push_toArray, List.append_toArray, List.nil_append, List.cons_append]
  gi_wp2_with (first
    | (refine ⟨trivial, ?_⟩; gi_at_call 62; refine (callsIn_wide.2 (specs_c _)).mono ?_; rintro e W2 ⟨rfl, hblk, hbel⟩))
  have hJ0 := (hJ _ _ _ _ h0 hbel).2
  have hXW : ∀ b, X b → more X W W2 b := fun b h => .inl h
  have hXo : more X W W2 W.heap.size := .inr ⟨Nat.le_refl _, hblk.lt⟩
  have hXl2 : ∀ b, more X W W2 b → b < W2.heap.size := fun b h => h.elim (fun h => Nat.lt_of_lt_of_le (hXl b h) hbel.size) (fun h => h.2)
  obtain ⟨X2, hX2⟩ : ∃ X2, more X W W2 = X2 := ⟨_, rfl⟩
  rw [hX2] at hJ0 hXW hXo hXl2
  have HK0 : Hid (KX X W W2) := Lib.hid (KX.below hXl hbel)
  have HBL := Lib.hid hblk
  have HB0 := Lib.hid (hbel.mono HW.out)
  have HE0 : Hid (EachAt J Jx len o 0 X2 W2) := Lib.hid (.inl ⟨by omega, hJ0⟩)
  clear hX2 hbel hblk h0 hJ0
  gi_loopw [7] (fun i wr => ∃ m : Nat, m ≤ 31 ∧ i = .int .i64 m ∧ EachAt J Jx len o m X2 wr ∧ KX X2 W2 wr ∧ Below n₀ W wr ∧ W2.heap.size ≤ wr.heap.size) (fun i _ => 31 - (intOf i).toNat)
  case atStart => exact ⟨0, by omega, rfl, HE0.out, KX.refl _ _, HB0.out, Nat.le_refl _⟩
  case round =>
    obtain ⟨m, hm, rfl, hE, hK, hB, hsz⟩ := hrel
    clear HE0
    have hT := hK.blk hXo HBL.out
    have co := hE.c hJC hJxC
    have HE := Lib.hid hE
    have HK := Lib.hid hK
    have HB := Lib.hid hB
    have HSZ := Lib.hid hsz
    clear hE hK hB hsz
    by_cases hlt : m < 31
    · obtain ⟨s, hs⟩ : ∃ s, SPECS[m]? = some s := ⟨_, List.getElem?_eq_getElem (show m < SPECS.length from hlt)⟩
      have hsm : s ∈ SPECS := List.mem_of_getElem? hs
      have hop := spec_op m hlt s hs
      have hrl := rlo_in m hlt s hs
      obtain ⟨g0, g1, g2, g3, g4, g5, g6⟩ := speccells_get SPECS m s hs
      have d0 : wr.cell? ⟨W.heap.size, m * 7, none⟩ = some (.int .u8 (s.op : Nat)) := (hT.cell _).trans (by unfold specCells; rw [List.getElem?_toArray]; exact g0)
      have d1 : wr.cell? ⟨W.heap.size, m * 7 + 1, none⟩ = some (.string s.name) := (hT.cell _).trans (by unfold specCells; rw [List.getElem?_toArray]; exact g1)
      have d2 : wr.cell? ⟨W.heap.size, m * 7 + 2, none⟩ = some (.int .u32 (s.code : Nat)) := (hT.cell _).trans (by unfold specCells; rw [List.getElem?_toArray]; exact g2)
      have d3 : wr.cell? ⟨W.heap.size, m * 7 + 3, none⟩ = some (.int .i64 s.top) := (hT.cell _).trans (by unfold specCells; rw [List.getElem?_toArray]; exact g3)
      have d4 : wr.cell? ⟨W.heap.size, m * 7 + 4, none⟩ = some (.int .i64 s.rm) := (hT.cell _).trans (by unfold specCells; rw [List.getElem?_toArray]; exact g4)
      have d5 : wr.cell? ⟨W.heap.size, m * 7 + 5, none⟩ = some (.int .i64 s.rs2) := (hT.cell _).trans (by unfold specCells; rw [List.getElem?_toArray]; exact g5)
      have d6 : wr.cell? ⟨W.heap.size, m * 7 + 6, none⟩ = some (.int .u8 (s.lay : Nat)) := (hT.cell _).trans (by unfold specCells; rw [List.getElem?_toArray]; exact g6)
      have hnew := (Below.refl wr.heap.size wr).alloc (Nat.le_refl _) (.cells (specV s) 116)
      have hE2 := HE.out.later hJ hJx hnew
      have hK2 : KX X2 W2 (wr.alloc (.cells (specV s) 116)) := HK.out.trans (KX.below (fun b h => Nat.lt_of_lt_of_le (hXl2 b h) HSZ.out) hnew)
      have hB2 := HB.out.trans (hnew.mono (Nat.le_trans HW.out HB.out.size))
      have hsz2 : W2.heap.size ≤ (wr.alloc (.cells (specV s) 116)).heap.size := Nat.le_trans HSZ.out hnew.size
      have co2 : ∀ ob, (wr.alloc ob).cell? ⟨bo, 0, none⟩ = some (.int .u8 (o : Nat)) := fun ob =>
        (World.cell?_of_block (Below.heap_alloc wr ob bo (World.block_lt_of_cell? wr _ co))).trans co
      have HE2 := Lib.hid hE2
      have HK2 := Lib.hid hK2
      have HB2 := Lib.hid hB2
      have HSZ2 := Lib.hid hsz2
      have hk8 := Blk.new wr (specV s) 116
      have HOP := Lib.hid hop
      have HRL := Lib.hid hrl
      clear g0 g1 g2 g3 g4 g5 g6 hs hnew hE2 hK2 hB2 hsz2 hT hop hrl
      by_cases hmo : o = m + 1
      · have hz : ((s.op : Int) == (o : Int)) = true := by rw [beq_iff_eq, HOP.out, hmo]
        have HMO := Lib.hid hmo
        have hj0 : J 0 X2 (wr.alloc (.cells (specV s) 116)) := by
          rcases HE2.out with ⟨_, h⟩ | ⟨h, _⟩
          · exact h
          · omega
        have hG := gives_all s hsm (n - 1) (by omega) n₀ (wr.alloc (.cells (specV s) 116)) (Nat.le_trans HW.out HB2.out.size) l J Jx X2 (wr.alloc (.cells (specV s) 116)) (Below.refl _ _) (fun b h => Nat.lt_of_lt_of_le (hXl2 b h) HSZ2.out) hJ hJx
        have hlen2 : (RL s).length = len := by rw [← HLEN.out, hmo, HRL.out]
        rw [hlen2] at hG
        have hG2 := hG (fun k X W1 hj hk => by
          have := hY k X W1 hj hk
          unfold rk at this
          rw [hmo, HRL.out] at this
          exact yieldAt_depth rfl _ this) hj0
        have HG2 := Lib.hid hG2
        clear hmo hG hG2 hj0 hlen2
        gi_wp2_with (first
          | (refine ⟨trivial, ?_⟩; gi_at_call 64; refine HG2.out.mono ?_; rintro e W4 ⟨⟨v, rfl⟩, hk4, hb4, X', hX', hfin⟩))
        have hE4 : EachAt J Jx len o (m + 1) X2 W4 := .inr ⟨by have := HMO.out; omega, X', hX', hfin⟩
        have hsz4 : W2.heap.size ≤ W4.heap.size := Nat.le_trans HSZ2.out hb4.size
        go_roundw
        case rel => exact ⟨m + 1, by omega, by go_num, hE4, HK2.out.trans hk4, HB2.out.trans hb4, hsz4⟩
        case measure => simp [intOf]; omega
      · have hz : ((s.op : Int) == (o : Int)) = false := by rw [beq_eq_false_iff_ne, HOP.out]; omega
        have HE3 := Lib.hid (HE2.out.next hmo)
        clear hmo
        gi_wp2
        go_roundw
        case rel => exact ⟨m + 1, by omega, by go_num, HE3.out, HK2.out, HB2.out, HSZ2.out⟩
        case measure => simp [intOf]; omega
    · obtain rfl : m = 31 := by omega
      gi_wp2
      go_end0
      refine ⟨⟨_, rfl⟩, HK0.out.trans (fun b h => HK.out b (hXW b h)), HB.out, ?_⟩
      rcases HE.out with ⟨h1, h2⟩ | ⟨h1, X', h2, h3⟩
      · refine ⟨X2, hXW, .inl ?_⟩
        have : len = 0 := by rw [← HLEN.out, rlo_out o (by omega)]; rfl
        rw [this]
        exact h2
      · exact ⟨X', fun b h => h2 b (hXW b h), h3⟩
end Go.Proofs.Yteelconabmfnkaa
