/- (table.spec).rows at a line of conversions between formats. -/
import Derived.Test.YteelconabmfnkaaRfa
import Derived.Test.YteelconabmfnkaaTe
namespace Go.Proofs.Yteelconabmfnkaa
open Go Go.RowKit Go.Shelf
attribute [local go_sem] Oper.semAt_some
set_option maxHeartbeats 4000000
set_option maxRecDepth 100000
set_option linter.unusedVariables false
set_option linter.unusedSimpArgs false
theorem rows_C (s : Sp) (hl8 : ((s.lay : Int) == 8) = false) (hl9 : ((s.lay : Int) == 9) = false) (ho17 : ((s.op : Int) == 17) = true) (ho21 : ((s.op : Int) == 21) = false) (ho22 : ((s.op : Int) == 22) = false) (hn17 : ((s.op : Int) != 17) = false) (hOne : ∀ (W : World) (f m : Nat), f < 4 → m < 4 → Calls Try.prog 87 #[.agg (specV s), .int .u8 f, .int .i64 m] W (OneP W (ONE s f m)))
    (n : Nat) (hn : 2 ≤ n) (n₀ : Nat) (w : World) (hn0 : n₀ ≤ w.heap.size) : Iter Fence.wide n Try.prog 64 #[.agg (specV s)] #[] (fun q => #[.agg (rowV (ONE s (q / 3) (if q % 3 < q / 3 then q % 3 else q % 3 + 1)))]) 12 n₀ w := by
  intro l J Jx X W hb hXl hJ hJx hY h0
  have hfd := run_rowOf
  have HW := Lib.hid (Nat.le_trans hn0 hb.size)
  have h1n : 1 ≤ n := by omega
  clear hb
  show CallsIn Fence.wide n Try.prog 64 #[.agg (specV s), .func (.yield l) #[] #[]] W _
  refine callsIn_of_wp Try.func64 rfl trivial ?_ rfl
  simp only [Try.ntmps64, List.size_toArray, List.length_cons, List.length_nil, Nat.reduceAdd, Nat.reduceSub, Array.replicate_succ, Array.replicate_zero, List.push_toArray, List.append_toArray, List.nil_append, List.cons_append]
  gi_wp2
  obtain ⟨W2, hW2⟩ : ∃ W2, W.alloc (.cells (specV s) 116) = W2 := ⟨_, rfl⟩
  have hbel : Below W.heap.size W W2 := by rw [← hW2]; exact (Below.refl _ W).alloc (Nat.le_refl _) _
  have hblk : Blk W2 W.heap.size (specV s) 116 := by rw [← hW2]; exact Blk.new W _ _
  have hsz : W2.heap.size = W.heap.size + 1 := by rw [← hW2]; simp
  have hJ0 := (hJ _ _ _ _ h0 hbel).2
  have hXW : ∀ b, X b → more X W W2 b := fun b h => .inl h
  have hXo : more X W W2 W.heap.size := .inr ⟨Nat.le_refl _, by omega⟩
  obtain ⟨X2, hX2⟩ : ∃ X2, more X W W2 = X2 := ⟨_, rfl⟩
  have hXl2 : ∀ b, more X W W2 b → b < W2.heap.size := fun b h => h.elim (fun h => by have := hXl b h; omega) (fun h => h.2)
  rw [hX2] at hJ0 hXW hXo hXl2
  have HK0 : Hid (KX X W W2) := Lib.hid (KX.below hXl hbel)
  have HBL := Lib.hid hblk
  have HB0 := Lib.hid (hbel.mono HW.out)
  show Code.wpIn _ _ _ _ _ _ (W.alloc (.cells (specV s) 116))
  rw [hW2]
  clear hW2 hX2 hbel hblk hsz h0
  gi_loopw [6] (fun i wr => ∃ k : Nat, k ≤ 4 ∧ i = .int .u8 k ∧ J (3 * k) X2 wr ∧ KX X2 W2 wr ∧ Below n₀ W wr ∧ W2.heap.size ≤ wr.heap.size) (fun i _ => 4 - (intOf i).toNat)
  case atStart => exact ⟨0, by omega, rfl, by simpa using hJ0, KX.refl _ _, HB0.out, Nat.le_refl _⟩
  case round =>
    obtain ⟨k, hk, rfl, hJk, hKk, hBk, hszk⟩ := hrel
    have hb1 := hKk.blk hXo HBL.out
    obtain ⟨c0, c1, c2, c3, c4, c5, c6⟩ := spec_cells hb1
    by_cases hlt : k < 4
    · have HJK := Lib.hid hJk
      have HKK := Lib.hid hKk
      have HBK := Lib.hid hBk
      have HSZ := Lib.hid hszk
      clear hJk hKk hBk hszk
      have hdk : decide ((k : Int) < 4) = true := decide_eq_true (by omega)
      gi_wp2
      gi_loopw [5, 43] (fun v i wr => ∃ m : Nat, m ≤ 4 ∧ i = .int .i64 m ∧ J (3 * k + (if m ≤ k then m else m - 1)) X2 wr ∧ KX X2 W2 wr ∧ Below n₀ W wr ∧ W2.heap.size ≤ wr.heap.size) (fun v i _ => 4 - (intOf i).toNat)
      case atStart => exact ⟨0, by omega, rfl, by simpa using HJK.out, HKK.out, HBK.out, HSZ.out⟩
      case round =>
        obtain ⟨m, hm, rfl, hJk, hKk, hBk, hszk⟩ := hrel
        have hb1 := hKk.blk hXo HBL.out
        obtain ⟨c0, c1, c2, c3, c4, c5, c6⟩ := spec_cells hb1
        by_cases hltm : m < 4
        · have HJK := Lib.hid hJk
          have HKK := Lib.hid hKk
          have HBK := Lib.hid hBk
          have HSZ := Lib.hid hszk
          clear hJk hKk hBk hszk
          by_cases hmk : m = k
          · subst hmk
            gi_wp2
            refine ⟨trivial, ?_⟩
            gi_wp2
            refine ⟨fun _ h => (by cases h), ?_⟩
            gi_wp2
            go_roundw
            case rel => exact ⟨m + 1, by omega, by go_num, by have h := HJK.out; rw [if_pos (Nat.le_refl _)] at h; rw [if_neg (by omega), Nat.add_sub_cancel]; exact h, HKK.out, HBK.out, HSZ.out⟩
            case measure => first | trivial | (simp [intOf]; done) | (simp [intOf]; omega)
          · have hnk : ((m : Int) != (k : Int)) = true := by rw [bne_iff_ne]; omega
            have hnk0 : ((m : Int) == (k : Int)) = false := by rw [beq_eq_false_iff_ne]; omega
            obtain ⟨q, hq⟩ : ∃ q, (if m ≤ k then m else m - 1) = q := ⟨_, rfl⟩
            have hq2 : (if m + 1 ≤ k then m + 1 else m + 1 - 1) = q + 1 := by rw [← hq]; split <;> split <;> omega
            have hqm : (if q < k then q else q + 1) = m := by rw [← hq]; split <;> split <;> omega
            have hq3 : q < 3 := by rw [← hq]; split <;> omega
            have HQ2 := Lib.hid hq2
            rw [hq] at HJK
            clear hq hq2
            have hdv : (3 * k + q) / 3 = k := by omega
            have hmd : (3 * k + q) % 3 = q := by omega
            gi_wp2_with (first
              | (refine ⟨trivial, ?_⟩; gi_at_call 87; refine (callsIn_wide.2 (hOne _ _ _ hlt hltm)).mono ?_; rintro e W3 ⟨rfl, hb3⟩; obtain ⟨fn, tmps, assign, body, hy, hR⟩ := hY (3 * k + q) X2 W3 (hJ _ _ _ _ HJK.out hb3).1 (by omega); simp only [hdv, hmd, hqm] at hy))
            have HB3 := Lib.hid hb3
            have HK3 : Hid (KX X2 wr W3) := Lib.hid (KX.below (fun b h => Nat.lt_of_lt_of_le (hXl2 b h) HSZ.out) hb3)
            clear hb3
            refine hR.mono ?_
            rintro e W4 (⟨rfl, hJ4, hk4, hb4⟩ | ⟨rfl, hJ4, hk4, hb4⟩)
            · gi_wp2
              go_roundw
              case rel => first | trivial | exact ⟨m + 1, by omega, by go_num, by rw [HQ2.out]; exact hJ4, (HKK.out.trans HK3.out).trans hk4, (HBK.out.trans (HB3.out.mono (Nat.le_trans HW.out HBK.out.size))).trans hb4, Nat.le_trans HSZ.out (Nat.le_trans HB3.out.size hb4.size)⟩
              case measure => first | trivial | (simp [intOf]; done) | (simp [intOf]; omega)
            · gi_wp2
              refine bodyPost_ret (results_none rfl _ _ _) rfl ?_
              exact ⟨⟨_, rfl⟩, HK0.out.trans (fun b h => ((HKK.out.trans HK3.out).trans hk4) b (hXW b h)), (HBK.out.trans (HB3.out.mono (Nat.le_trans HW.out HBK.out.size))).trans hb4, X2, hXW, .inr ⟨_, by omega, by omega, hJ4⟩⟩
        · obtain rfl : m = 4 := by omega
          have HJK := Lib.hid hJk
          have HKK := Lib.hid hKk
          have HBK := Lib.hid hBk
          have HSZ := Lib.hid hszk
          clear hJk hKk hBk hszk
          gi_wp2
          go_roundw
          case rel => exact ⟨k + 1, by omega, by go_num, by have h := HJK.out; rw [if_neg (by omega)] at h; simpa [Nat.mul_add] using h, HKK.out, HBK.out, HSZ.out⟩
          case measure => simp [intOf]; omega
    · obtain rfl : k = 4 := by omega
      gi_wp2
      go_end0
      exact ⟨⟨_, rfl⟩, HK0.out.trans (fun b h => hKk b (hXW b h)), hBk, X2, hXW, .inl (by simpa using hJk)⟩
end Go.Proofs.Yteelconabmfnkaa
