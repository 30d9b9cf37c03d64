/- The law EncodeInsts: its walk. -/
import Derived.Test.YteelconabmfnkaaVta
import Derived.Test.YteelconabmfnkaaLd
import Derived.Test.YteelconabmfnkaaKka
namespace Go.Proofs.Yteelconabmfnkaa
open Go Go.RowKit
set_option maxHeartbeats 4000000
set_option maxRecDepth 100000
set_option linter.unusedVariables false
set_option linter.unusedSimpArgs false
theorem walk_EncodeInsts (x : I11) (W : World) (bx : Bx x) : Calls Try.prog 5 #[.agg (instV x)] W fun e w' => e = .returned (.bool true) ∧ Below W.heap.size W w' := by
  have CE := Lib.hid (fun X => encode_c X x (fin_of bx))
  have CR := Lib.hid (fun X => renc_c X x)
  have CM := Lib.hid (fun X => may_c X x (fin_of bx))
  have CN := Lib.hid (fun X => rmay_c X x)
  obtain ⟨v, hv⟩ : ∃ v, encV x = v := ⟨_, rfl⟩
  obtain ⟨c, hc⟩ : ∃ c, encE x = c := ⟨_, rfl⟩
  obtain ⟨m, hm⟩ : ∃ m, MAY x = m := ⟨_, rfl⟩
  rw [hv, hc] at CE CR
  rw [hm] at CM CN
  clear hv hc hm bx
  have hmm : (m == m) = true := by cases m <;> rfl
  obtain ⟨op, form, frm, kind, rd, rs1, rs2, rs3, rm, imm, csr⟩ := x
  have K0 := Lib.hid (Blk.new W (instV ⟨op, form, frm, kind, rd, rs1, rs2, rs3, rm, imm, csr⟩) 27)
  have B0 := Lib.hid ((Below.refl W.heap.size W).alloc (Nat.le_refl _) (.cells (instV ⟨op, form, frm, kind, rd, rs1, rs2, rs3, rm, imm, csr⟩) 27))
  go_enter Try.func5, Try.ntmps5
  go_wp2_with (first
    | (go_at_call 20; (with_reducible refine (CE.out _).mono ?_); rintro e w1 ⟨rfl, b1⟩; clear CE; have k1 := K0.out.call b1)
    | (go_at_call 26; (with_reducible refine (CR.out _).mono ?_); rintro e w2 ⟨rfl, b2⟩; clear CR; have k2 := k1.call b2)
    | (refine wpList_load_blk rfl _ _ rfl _ rfl _ _ _ K0.out Try.underlying27 rfl (by kernel_rfl) ?_)
    | (refine wpList_load_blk rfl _ _ rfl _ rfl _ _ _ k1 Try.underlying27 rfl (by kernel_rfl) ?_))
  have e2 := below_call (below_call B0.out b1) b2
  have E2 := Lib.hid e2
  have K2 := Lib.hid k2
  clear e2 k2 k1 b1 b2 K0 B0
  refine wp_region_sets_lit (fun S Y => Blk Y W.heap.size (instV ⟨op, form, frm, kind, rd, rs1, rs2, rs3, rm, imm, csr⟩) 27 ∧ Below W.heap.size W Y) (by kernel_rfl) (by kernel_rfl) ⟨K2.out, E2.out.drew⟩ ?_
  obtain ⟨U, V, hV, hU⟩ := worlds (fun S Y => Blk Y W.heap.size (instV ⟨op, form, frm, kind, rd, rs1, rs2, rs3, rm, imm, csr⟩) 27 ∧ Below W.heap.size W Y)
  replace hV := Lib.hid hV
  replace hU := Lib.hid hU
  (repeat (first | (refine sets_quiet (fun w' => ∃ u, w' = V u) hU.out rfl (fun _ _ _ h => h) rfl ?_; intro K hK; go_big_quiet_op; first | go_big_quiet_on | (refine ⟨_, fun _ => rfl, ?_⟩; go_big_quiet_on)) | (refine sets_skip rfl (fun _ _ _ h => h) ?_; simp only [Act.put, List.setIfInBounds_toArray, List.set_cons_succ, List.set_cons_zero])))
  refine sets_load_blk rfl (fun _ _ _ h => h) _ _ rfl W.heap.size rfl 27 (instV ⟨op, form, frm, kind, rd, rs1, rs2, rs3, rm, imm, csr⟩) _ (fun S Y _ h => h.1) Try.underlying27 rfl (by kernel_rfl) ?_
  simp only [Act.put, List.setIfInBounds_toArray, List.set_cons_succ, List.set_cons_zero]
  refine sets_call (.bool m) rfl 21 [_] _ rfl Try.f21 Try.func21 (by kernel_rfl) (by kernel_rfl) [.agg (instV ⟨op, form, frm, kind, rd, rs1, rs2, rs3, rm, imm, csr⟩)] rfl (fun S Y h1 h2 h3 => ?_) ?_
  · refine (CM.out Y).mono ?_
    rintro e Y2 ⟨rfl, b⟩
    exact ⟨rfl, h3.1.call b, below_call h3.2 b⟩
  simp only [Act.put, List.setIfInBounds_toArray, List.set_cons_succ, List.set_cons_zero]
  refine sets_load_blk rfl (fun _ _ _ h => h) _ _ rfl W.heap.size rfl 27 (instV ⟨op, form, frm, kind, rd, rs1, rs2, rs3, rm, imm, csr⟩) _ (fun S Y _ h => h.1) Try.underlying27 rfl (by kernel_rfl) ?_
  simp only [Act.put, List.setIfInBounds_toArray, List.set_cons_succ, List.set_cons_zero]
  refine sets_call (.bool m) rfl 27 [_] _ rfl Try.f27 Try.func27 (by kernel_rfl) (by kernel_rfl) [.agg (instV ⟨op, form, frm, kind, rd, rs1, rs2, rs3, rm, imm, csr⟩)] rfl (fun S Y h1 h2 h3 => ?_) ?_
  · refine (CN.out Y).mono ?_
    rintro e Y2 ⟨rfl, b⟩
    exact ⟨rfl, h3.1.call b, below_call h3.2 b⟩
  simp only [Act.put, List.setIfInBounds_toArray, List.set_cons_succ, List.set_cons_zero]
  (repeat (first | (refine sets_quiet (fun w' => ∃ u, w' = V u) hU.out rfl (fun _ _ _ h => h) rfl ?_; intro K hK; go_big_quiet_op; first | go_big_quiet_on | (refine ⟨_, fun _ => rfl, ?_⟩; go_big_quiet_on)) | (refine sets_skip rfl (fun _ _ _ h => h) ?_; simp only [Act.put, List.setIfInBounds_toArray, List.set_cons_succ, List.set_cons_zero])))
  refine sets_call (.bool true) rfl 23 [] _ rfl Try.f23 Try.func23 (by kernel_rfl) (by kernel_rfl) [] rfl (fun S Y h1 h2 h3 => ?_) ?_
  · refine (lives26 Y).mono ?_
    rintro e Y2 ⟨rfl, b⟩
    exact ⟨rfl, h3.1.call b, below_call h3.2 b⟩
  simp only [Act.put, List.setIfInBounds_toArray, List.set_cons_succ, List.set_cons_zero]
  (repeat (first | (refine sets_quiet (fun w' => ∃ u, w' = V u) hU.out rfl (fun _ _ _ h => h) rfl ?_; intro K hK; go_big_quiet_op; first | go_big_quiet_on | (refine ⟨_, fun _ => rfl, ?_⟩; go_big_quiet_on)) | (refine sets_skip rfl (fun _ _ _ h => h) ?_; simp only [Act.put, List.setIfInBounds_toArray, List.set_cons_succ, List.set_cons_zero])))
  rintro S Y _ ⟨_, hb⟩
  go_wp2
  go_ret
  exact ⟨rfl, hb⟩
end Go.Proofs.Yteelconabmfnkaa
