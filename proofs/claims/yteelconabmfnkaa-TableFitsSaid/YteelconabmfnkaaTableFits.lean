/- The law TableFits: its walk. -/
import Derived.Test.YteelconabmfnkaaWf
namespace Go.Proofs.Yteelconabmfnkaa
open Go Go.RowKit
set_option maxHeartbeats 4000000
set_option maxRecDepth 100000
set_option linter.unusedVariables false
set_option linter.unusedSimpArgs false
theorem walk_TableFits (x : R7) (w : Nat) (W : World) (bx : x.op < 256 ∧ x.form < 256 ∧ x.frm < 256 ∧ x.kind < 256 ∧ x.mask < 4294967296 ∧ x.mtch < 4294967296 ∧ x.lay < 256) (hw : w < 4294967296) : Calls Try.prog 8 #[.agg (rowV x), .int .u32 w] W fun e w' => e = .returned (.bool true) ∧ Below W.heap.size W w' := by
  obtain ⟨_, _, _, _, hm, ht, _⟩ := bx
  have C1 := Lib.hid (fun X => fits_c X x w hm ht hw)
  have C2 := Lib.hid (fun X => rfits_c X x w hm ht hw)
  have C3 := Lib.hid (fun X => moded_c X x.lay)
  have C4 := Lib.hid (fun X => rmoded_c X x.lay)
  obtain ⟨b, hb⟩ : ∃ b, fitsB x w = b := ⟨_, rfl⟩
  obtain ⟨m, hm2⟩ : ∃ m, modB x.lay = m := ⟨_, rfl⟩
  rw [hb] at C1 C2
  rw [hm2] at C3 C4
  clear hb hm2 hm ht hw
  have hbb : (b == b) = true := by cases b <;> rfl
  have hmm : (m == m) = true := by cases m <;> rfl
  obtain ⟨op, form, frm, kind, mask, mtch, lay⟩ := x
  simp only [] at C1 C2 C3 C4
  have k0 := Blk.new W (rowV ⟨op, form, frm, kind, mask, mtch, lay⟩) 40
  have kB := (Below.refl W.heap.size W).alloc (Nat.le_refl _) (.cells (rowV ⟨op, form, frm, kind, mask, mtch, lay⟩) 40)
  go_enter Try.func8, Try.ntmps8
  go_wp2
  refine wp_region_sets_lit (fun S Y => Blk Y W.heap.size (rowV ⟨op, form, frm, kind, mask, mtch, lay⟩) 40 ∧ Below W.heap.size W Y) (by kernel_rfl) (by kernel_rfl) ⟨k0, kB.drew⟩ ?_
  obtain ⟨U, V, hV, hU⟩ := worlds (fun S Y => Blk Y W.heap.size (rowV ⟨op, form, frm, kind, mask, mtch, lay⟩) 40 ∧ Below W.heap.size W Y)
  have y6 : ∀ u, (V u).cell? ⟨W.heap.size, 6, none⟩ = some (.int .u8 (lay : Nat)) := fun u => by obtain ⟨S, h, _⟩ := hV u; exact h.cell 6
  replace hV := Lib.hid hV
  replace hU := Lib.hid hU
  clear k0 kB
  refine sets_load_blk rfl (fun _ _ _ h => h) _ _ rfl W.heap.size rfl 40 (rowV ⟨op, form, frm, kind, mask, mtch, lay⟩) _ (fun S Y _ h => h.1) Try.underlying40 rfl (by kernel_rfl) ?_
  simp only [Act.put, List.setIfInBounds_toArray, List.set_cons_succ, List.set_cons_zero]
  (repeat (first | (refine sets_quiet (fun w' => ∃ u, w' = V u) hU.out rfl (fun _ _ _ h => h) rfl ?_; intro K hK; go_big_quiet_op; first | go_big_quiet_on | (refine ⟨_, fun _ => rfl, ?_⟩; go_big_quiet_on)) | (refine sets_skip rfl (fun _ _ _ h => h) ?_; simp only [Act.put, List.setIfInBounds_toArray, List.set_cons_succ, List.set_cons_zero])))
  refine sets_call (.bool b) rfl 35 [_, _] _ rfl Try.f35 Try.func35 (by kernel_rfl) (by kernel_rfl) [.agg (rowV ⟨op, form, frm, kind, mask, mtch, lay⟩), .int .u32 w] rfl (fun S Y h1 h2 h3 => ?_) ?_
  · refine (C1.out Y).mono ?_
    rintro e Y2 ⟨rfl, b⟩
    exact ⟨rfl, h3.1.call b, below_call' h3.2 b⟩
  simp only [Act.put, List.setIfInBounds_toArray, List.set_cons_succ, List.set_cons_zero]
  refine sets_load_blk rfl (fun _ _ _ h => h) _ _ rfl W.heap.size rfl 40 (rowV ⟨op, form, frm, kind, mask, mtch, lay⟩) _ (fun S Y _ h => h.1) Try.underlying40 rfl (by kernel_rfl) ?_
  simp only [Act.put, List.setIfInBounds_toArray, List.set_cons_succ, List.set_cons_zero]
  (repeat (first | (refine sets_quiet (fun w' => ∃ u, w' = V u) hU.out rfl (fun _ _ _ h => h) rfl ?_; intro K hK; go_big_quiet_op; first | go_big_quiet_on | (refine ⟨_, fun _ => rfl, ?_⟩; go_big_quiet_on)) | (refine sets_skip rfl (fun _ _ _ h => h) ?_; simp only [Act.put, List.setIfInBounds_toArray, List.set_cons_succ, List.set_cons_zero])))
  refine sets_call (.bool b) rfl 36 [_, _] _ rfl Try.f36 Try.func36 (by kernel_rfl) (by kernel_rfl) [.agg (rowV ⟨op, form, frm, kind, mask, mtch, lay⟩), .int .u32 w] rfl (fun S Y h1 h2 h3 => ?_) ?_
  · refine (C2.out Y).mono ?_
    rintro e Y2 ⟨rfl, b⟩
    exact ⟨rfl, h3.1.call b, below_call' h3.2 b⟩
  simp only [Act.put, List.setIfInBounds_toArray, List.set_cons_succ, List.set_cons_zero]
  (repeat (first | (refine sets_quiet (fun w' => ∃ u, w' = V u) hU.out rfl (fun _ _ _ h => h) rfl ?_; intro K hK; go_big_quiet_op; first | go_big_quiet_on | (refine ⟨_, fun _ => rfl, ?_⟩; go_big_quiet_on)) | (refine sets_skip rfl (fun _ _ _ h => h) ?_; simp only [Act.put, List.setIfInBounds_toArray, List.set_cons_succ, List.set_cons_zero])))
  refine sets_call (.bool m) rfl 37 [_] _ rfl Try.f37 Try.func37 (by kernel_rfl) (by kernel_rfl) [.int .u8 (lay : Nat)] rfl (fun S Y h1 h2 h3 => ?_) ?_
  · refine (C3.out Y).mono ?_
    rintro e Y2 ⟨rfl, rfl⟩
    exact ⟨rfl, h3⟩
  simp only [Act.put, List.setIfInBounds_toArray, List.set_cons_succ, List.set_cons_zero]
  (repeat (first | (refine sets_quiet (fun w' => ∃ u, w' = V u) hU.out rfl (fun _ _ _ h => h) rfl ?_; intro K hK; go_big_quiet_op; first | go_big_quiet_on | (refine ⟨_, fun _ => rfl, ?_⟩; go_big_quiet_on)) | (refine sets_skip rfl (fun _ _ _ h => h) ?_; simp only [Act.put, List.setIfInBounds_toArray, List.set_cons_succ, List.set_cons_zero])))
  refine sets_call (.bool m) rfl 38 [_] _ rfl Try.f38 Try.func38 (by kernel_rfl) (by kernel_rfl) [.int .u8 (lay : Nat)] rfl (fun S Y h1 h2 h3 => ?_) ?_
  · refine (C4.out Y).mono ?_
    rintro e Y2 ⟨rfl, rfl⟩
    exact ⟨rfl, h3⟩
  simp only [Act.put, List.setIfInBounds_toArray, List.set_cons_succ, List.set_cons_zero]
  (repeat (first | (refine sets_quiet (fun w' => ∃ u, w' = V u) hU.out rfl (fun _ _ _ h => h) rfl ?_; intro K hK; go_big_quiet_op; first | go_big_quiet_on | (refine ⟨_, fun _ => rfl, ?_⟩; go_big_quiet_on)) | (refine sets_skip rfl (fun _ _ _ h => h) ?_; simp only [Act.put, List.setIfInBounds_toArray, List.set_cons_succ, List.set_cons_zero])))
  refine sets_call (.bool true) rfl 33 [] _ rfl Try.f33 Try.func33 (by kernel_rfl) (by kernel_rfl) [] rfl (fun S Y h1 h2 h3 => ?_) ?_
  · refine (lives24 Y).mono ?_
    rintro e Y2 ⟨rfl, b⟩
    exact ⟨rfl, h3.1.call b, below_call' h3.2 b⟩
  simp only [Act.put, List.setIfInBounds_toArray, List.set_cons_succ, List.set_cons_zero]
  (repeat (first | (refine sets_quiet (fun w' => ∃ u, w' = V u) hU.out rfl (fun _ _ _ h => h) rfl ?_; intro K hK; go_big_quiet_op; first | go_big_quiet_on | (refine ⟨_, fun _ => rfl, ?_⟩; go_big_quiet_on)) | (refine sets_skip rfl (fun _ _ _ h => h) ?_; simp only [Act.put, List.setIfInBounds_toArray, List.set_cons_succ, List.set_cons_zero])))
  rintro S Y _ ⟨_, hb⟩
  go_wp2
  go_ret
  exact ⟨rfl, hb⟩
end Go.Proofs.Yteelconabmfnkaa
