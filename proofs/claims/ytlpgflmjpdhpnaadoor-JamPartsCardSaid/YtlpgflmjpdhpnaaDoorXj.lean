/- The contract of wide.Left. -/
import Derived.Test.YtlpgflmjpdhpnaaDoorRows
import Derived.Test.YtlpgflmjpdhpnaaDoorE
import Derived.Test.YtlpgflmjpdhpnaaDoorB
import Derived.Test.YtlpgflmjpdhpnaaDoorXc
import Derived.Test.YtlpgflmjpdhpnaaDoorXi
import Derived.IntWalk
namespace Go.Proofs.YtlpgflmjpdhpnaaDoor
open Go.RowKit
set_option maxHeartbeats 4000000
set_option maxRecDepth 100000
set_option linter.unusedVariables false
set_option linter.unusedSimpArgs false
theorem wleft_c (A : Nat) (n : Int) (w : World) (hA : A < W384) : Calls Tryd.prog 23 #[.agg (wv A), .int .i64 n] w fun e w' => e = .returned (.tuple #[.agg (wv (leftW A (clamp n 384))), .bool (decide (W384 ≤ A * 2 ^ clamp n 384))]) ∧ Below w.heap.size w w' := by
  have hc := clamp_le n 384
  obtain ⟨c, hcc⟩ : ∃ c, clamp n 384 = c := ⟨_, rfl⟩
  have C1 : Hid (∀ W, Calls Tryd.prog 46 #[.int .i64 n] W fun e w' => e = .returned (.int .i64 (c : Nat)) ∧ w' = W) := Lib.hid fun W => by rw [← hcc]; exact wcount_c n W
  rw [hcc] at hc ⊢
  clear hcc
  have hov := left_over c (lenW_spec hA).1
  have hl := (lenW_spec hA).2
  have C2 : Hid (∀ W, Calls Tryd.prog 21 #[.agg (wv A)] W fun e w' => e = .returned (.int .i64 (lenW A : Nat)) ∧ Below W.heap.size W w') := Lib.hid fun W => wlen_c A W hA
  have hl0 : A = 0 → lenW A = 0 := by
    rintro rfl
    exact LenOf.unique (lenW_spec hA).1 LenOf.zero
  obtain ⟨l, hle⟩ : ∃ l, lenW A = l := ⟨_, rfl⟩
  rw [hle] at hov hl C2 hl0
  clear hle
  obtain ⟨q, hq⟩ : ∃ q, c / 64 = q := ⟨_, rfl⟩
  obtain ⟨r, hr⟩ : ∃ r, c % 64 = r := ⟨_, rfl⟩
  have hq6 : q ≤ 6 := by omega
  have hr64 : r < 64 := by omega
  have hcq : c = 64 * q + r := by omega
  have HCQ := Lib.hid hcq
  have K1 : (c : Int) / 64 = (q : Int) := by omega
  have K2 : (c : Int) % 64 = (r : Int) := by omega
  have hlim : ∀ j, limb (A * 2 ^ c) j = if j < q then 0 else if j = q then limb A 0 * 2 ^ r % 18446744073709551616 else (limb A (j - q) * 2 ^ r % 18446744073709551616 ||| limb A (j - q - 1) / 2 ^ (64 - r)) := fun j => by
    rw [hcq]; exact limb_left A q r j hr64
  have HL := Lib.hid hlim
  have HZ : Hid (cellsN 6 (fun j => if j < q then 0 else limb (A * 2 ^ c) j) = wv (leftW A c)) := Lib.hid (cellsN_congr fun j hj => by
    show (if j < q then 0 else limb (A * 2 ^ c) j) = limb (leftW A c) j
    rw [leftW, limb_mod384 _ _ hj]
    by_cases h : j < q
    · rw [if_pos h, hlim, if_pos h]
    · rw [if_neg h])
  clear hlim hcq hq hr
  by_cases ho : 384 < l + c
  · have hA0 : A ≠ 0 := fun h => by have := hl0 h; omega
    have HO : Hid (decide (W384 ≤ A * 2 ^ c) = true) := Lib.hid (decide_eq_true (hov.1 ⟨ho, hA0⟩))
    have ho' : (384 : Int) < (l : Int) + (c : Int) := by omega
    have hm : Tryd.prog.eqGuardType Tryd.prog.depth 24 = false := by kernel_rfl
    have q1 : ∀ w, (binOp .neq 24 (.agg (wv A)) (.agg #[.int .u64 0, .int .u64 0, .int .u64 0, .int .u64 0, .int .u64 0, .int .u64 0])).run Tryd.prog w = .ok (.bool true) w := fun w => by
      rw [← wv_zero]
      have := run_neq_wv Tryd.underlying24 Tryd.underlying22 (by kernel_rfl) A 0 hA W384_pos w
      rwa [decide_eq_false hA0] at this
    clear hov hl0 hA0 ho hA
    go_enter Tryd.func23, Tryd.ntmps23
    have HS : Hid (Blks [(wv A, 24), (wv 0, 24)] w.heap.size w ((w.alloc (.cells (wv A) 24)).alloc (.cells (wv 0) 24))) := Lib.hid (((Blks.nil w).alloc rfl _ _).alloc (by simp) _ _)
    rw [wv_zero] at HS
    go_wp2_with (first
      | (go_at_call 46; (with_reducible refine (C1.out _).mono ?_); rintro e w' ⟨rfl, rfl⟩)
      | (refine wpList_load_blk rfl 24 _ rfl (w.heap.size) rfl 24 (wv A) _ (HS.out.all 0 _ rfl) Tryd.underlying24 rfl (by kernel_rfl) ?_)
      | (go_at_call 21; (with_reducible refine (C2.out _).mono ?_); rintro e w1 ⟨rfl, hb⟩; have H1 := Lib.hid (HS.out.call (by simp) hb); clear hb HS)
      | (refine wpList_load_wv_g rfl 24 _ rfl (w.heap.size) rfl 24 A _ (H1.out.all 0 _ rfl) Tryd.underlying24 rfl (by kernel_rfl) ?_))
    rw [← wv_zero] at H1
    go_loopw [8] (fun i wr => ∃ (p : Nat), q ≤ p ∧ p ≤ 6 ∧ i = .int .i64 ((p : Int) - 1) ∧ Blks [(wv A, 24), (cellsN 6 (fun j => if j < p then 0 else limb (A * 2 ^ c) j), 24)] w.heap.size w wr) (fun i _ => (intOf i + 1).toNat)
    case atStart =>
      refine ⟨6, by omega, by omega, by first | rfl | go_num, ?_⟩
      have := H1.out
      rwa [show wv 0 = cellsN 6 (fun j => if j < 6 then 0 else limb (A * 2 ^ c) j) from cellsN_congr fun j hj => by rw [if_pos hj]; exact limb_zero j] at this
    case round =>
      clear H1
      obtain ⟨p1, hqp, hp6, rfl, HT⟩ := hrel
      replace HT := Lib.hid HT
      by_cases hlt : q < p1
      · obtain ⟨p, rfl⟩ : ∃ p, p1 = p + 1 := ⟨p1 - 1, by omega⟩
        obtain ⟨d, hd⟩ : ∃ d, p - q = d := ⟨_, rfl⟩
        have hpq : q ≤ p := by omega
        have hpqi : (q : Int) ≤ (p : Int) := by omega
        have K3 : (p : Int) - (q : Int) = (d : Int) := by omega
        have K0 : ((p + 1 : Nat) : Int) - 1 = (p : Int) := by omega
        rw [K0]
        clear K0
        have hp6' : p < 6 := by omega
        have hp6 : p < 6 := hp6'
        have hd6' : d < 6 := by omega
        obtain ⟨x, hx⟩ : ∃ x, limb A d * 2 ^ r % 18446744073709551616 = x := ⟨_, rfl⟩
        have hxl : x < 18446744073709551616 := by rw [← hx]; exact Nat.mod_lt _ (by decide)
        have K4 : IntKind.u64.wrap (((limb A d : Nat) : Int) * 2 ^ r) = (x : Int) := by rw [← hx, ← wrap_nat]; simp
        have c1 : wr.cell? ⟨w.heap.size, d, none⟩ = some (.int .u64 (limb A d : Nat)) := ((HT.out.all 0 _ rfl).cell d).trans (wv_get _ _ hd6')
        have c2 : wr.frozen? ⟨w.heap.size + 1, p, none⟩ = false := (HT.out.all 1 _ rfl).frozen p
        have c3 : wr.cell? ⟨w.heap.size + 1, p, none⟩ = some _ := ((HT.out.all 1 _ rfl).cell p).trans (cellsN_get _ _ _ hp6)
        have HV : Hid (Blks [(wv A, 24), (cellsN 6 (upd (fun j => if j < p + 1 then 0 else limb (A * 2 ^ c) j) p x), 24)] w.heap.size w (wr.setCell ⟨w.heap.size + 1, p, none⟩ (.int .u64 (x : Nat)))) := Lib.hid (by
          have := HT.out.setCell 1 p (.int .u64 (x : Nat)) _ _ rfl
          rwa [cellsN_set] at this)
        by_cases hpe : p = q
        · have HX : Hid (x = limb (A * 2 ^ c) p) := Lib.hid (by rw [HL.out, if_neg (by omega), if_pos hpe, ← hx, show d = 0 by omega])
          have hpe' : ¬ (q : Int) < (p : Int) := by omega
          rw [HX.out, upd_down, ← HX.out] at HV
          clear hx HT hd hpe hlt
          go_wp2
          go_roundw
          case rel => exact ⟨p, by omega, by omega, by go_num, HV.out⟩
          case measure => (simp [intOf]; try omega)
        · obtain ⟨y, hy⟩ : ∃ y, (x ||| limb A (d - 1) / 2 ^ (64 - r)) = y := ⟨_, rfl⟩
          have HY : Hid (y = limb (A * 2 ^ c) p) := Lib.hid (by rw [HL.out p, if_neg (by omega), if_neg hpe, hd, hx, hy])
          have hpe' : (q : Int) < (p : Int) := by omega
          obtain ⟨e, he⟩ : ∃ e, d - 1 = e := ⟨_, rfl⟩
          have he6 : e < 6 := by omega
          have K5 : (d : Int) - 1 = (e : Int) := by omega
          have K3' : IntKind.i64.wrap ((p : Int) - (q : Int)) = (d : Int) := by rw [K3]; exact IntWalk.i64_in _ (by omega)
          have K5' : IntKind.i64.wrap ((d : Int) - 1) = (e : Int) := by rw [K5]; exact IntWalk.i64_in _ (by omega)
          obtain ⟨s, hs⟩ : ∃ s, 64 - r = s := ⟨_, rfl⟩
          have K6 : IntKind.u64.wrap (64 - (r : Int)) = (s : Int) := by rw [IntKind.wrap_u64]; omega
          rw [he, hs] at hy
          obtain ⟨g, hg⟩ : ∃ g, limb A e / 2 ^ s = g := ⟨_, rfl⟩
          have K7 : ((limb A e : Nat) : Int) / 2 ^ min s 64 = (g : Int) := by rw [← hg, Nat.min_eq_left (by omega)]; simp
          have hgl : g < 18446744073709551616 := by rw [← hg]; exact Nat.lt_of_le_of_lt (Nat.div_le_self _ _) (limb_lt _ _)
          rw [hg] at hy
          have K8 : bits .or .u64 (x : Int) (g : Int) = (y : Int) := by rw [or_nat x g hxl hgl, hy]
          clear hx HT hd hpe hlt hgl hg hs he hy
          go_wp2
          refine wp_region_sets_lit (fun S w' => Blks [(wv A, 24), (cellsN 6 (upd (fun j => if j < p + 1 then 0 else limb (A * 2 ^ c) j) p (bif S 14 then y else x)), 24)] w.heap.size w w') (by kernel_rfl) (by kernel_rfl) (HV.out.drew) ?_
          obtain ⟨U, W, hW, hU⟩ := worlds (fun S w' => Blks [(wv A, 24), (cellsN 6 (upd (fun j => if j < p + 1 then 0 else limb (A * 2 ^ c) j) p (bif S 14 then y else x)), 24)] w.heap.size w w')
          have k2 : ∀ u, (W u).cell? ⟨w.heap.size, e, none⟩ = some (.int .u64 (limb A e : Nat)) := fun u => by obtain ⟨S, h⟩ := hW u; exact ((h.all 0 _ rfl).cell e).trans (wv_get _ _ he6)
          replace hW := Lib.hid hW
          replace hU := Lib.hid hU
          repeat (refine sets_quiet (fun w' => ∃ u, w' = W u) hU.out rfl (fun _ _ _ h => h) rfl ?_; intro K hK; go_big_quiet_op; first | go_big_quiet_on | (refine ⟨_, fun _ => rfl, ?_⟩; go_big_quiet_on))
          refine sets_load1 rfl (fun _ _ _ h => h) 22 _ rfl ⟨w.heap.size + 1, p, none⟩ rfl (.int .u64 (x : Nat)) (fun S w' h1 hcl h3 => ?_) _ Tryd.underlying22 rfl ?_
          · have hS14 : S 14 = false := by
              cases hS : S 14
              · rfl
              · exact absurd (hcl.chain 8 14 2 (by kernel_rfl) hS) (by rw [h1]; simp)
            rw [hS14] at h3
            refine ((h3.all 1 _ rfl).cell p).trans ((cellsN_get _ _ _ hp6).trans ?_)
            simp [upd]
          · simp only [Act.put, List.setIfInBounds_toArray, List.set_cons_succ, List.set_cons_zero]
            repeat (refine sets_quiet (fun w' => ∃ u, w' = W u) hU.out rfl (fun _ _ _ h => h) rfl ?_; intro K hK; go_big_quiet_op; first | go_big_quiet_on | (refine ⟨_, fun _ => rfl, ?_⟩; go_big_quiet_on))
            refine sets_store rfl 22 _ _ rfl rfl ⟨w.heap.size + 1, p, none⟩ rfl _ rfl rfl (by kernel_rfl) ?_ ?_
            · intro S w' h1 h2 h3
              have h1' : S 14 = false := h1
              rw [h1'] at h3
              refine ⟨⟨_, ((h3.all 1 _ rfl).cell p).trans (cellsN_get _ _ _ hp6)⟩, (h3.all 1 _ rfl).frozen p, ?_⟩
              have := h3.setCell 1 p (.int .u64 (y : Nat)) _ _ rfl
              rw [cellsN_set, upd_upd] at this
              exact this
            · skip
              repeat (refine sets_quiet (fun w' => ∃ u, w' = W u) hU.out rfl (fun _ _ _ h => h) rfl ?_; intro K hK; go_big_quiet_op; first | go_big_quiet_on | (refine ⟨_, fun _ => rfl, ?_⟩; go_big_quiet_on))
              intro S w' hS hI
              rw [show S 14 = true from hS 14 (by decide), cond_true, HY.out, upd_down] at hI
              clear k2 hW hU HV
              replace hI := Lib.hid hI
              go_wp2
              go_roundw
              case rel => exact ⟨p, by omega, by omega, by go_num, hI.out⟩
              case measure => (simp [intOf]; try omega)
      · obtain rfl : p1 = q := by omega
        rw [HZ.out] at HT
        have hlt' : ¬ (p1 : Int) ≤ (p1 : Int) - 1 := by omega
        go_wp2_with (first
          | (refine wpList_load_blk rfl 24 _ rfl (w.heap.size + 1) rfl 24 (wv (leftW A c)) _ (HT.out.all 1 _ rfl) Tryd.underlying24 rfl (by kernel_rfl) ?_)
          | (refine wpList_store_blk rfl 24 _ _ rfl (w.heap.size + 1) (wv (leftW A c)) rfl rfl 24 (wv (leftW A c)) (HT.out.all 1 _ rfl) (by kernel_rfl) rfl (wv_one _) ?_))
        refine bodyPost_ret (results_cell_tmp rfl _ _ (w.heap.size + 1) 24 (wv (leftW A c)) _ rfl ((HT.out.setRow 1 (wv (leftW A c)) _ _ rfl).all 1 _ rfl) Tryd.underlying24 rfl (by kernel_rfl)) rfl ?_
        exact ⟨ret2 rfl (vbool HO.out.symm), (HT.out.setRow 1 (wv (leftW A c)) _ _ rfl).le⟩
  · have HO : Hid (decide (W384 ≤ A * 2 ^ c) = false) := Lib.hid (decide_eq_false (fun h => by have := (hov.2 h).1; omega))
    have ho' : ¬ (384 : Int) < (l : Int) + (c : Int) := by omega
    clear hov hl0 ho hA
    go_enter Tryd.func23, Tryd.ntmps23
    have HS : Hid (Blks [(wv A, 24), (wv 0, 24)] w.heap.size w ((w.alloc (.cells (wv A) 24)).alloc (.cells (wv 0) 24))) := Lib.hid (((Blks.nil w).alloc rfl _ _).alloc (by simp) _ _)
    rw [wv_zero] at HS
    go_wp2_with (first
      | (go_at_call 46; (with_reducible refine (C1.out _).mono ?_); rintro e w' ⟨rfl, rfl⟩)
      | (refine wpList_load_blk rfl 24 _ rfl (w.heap.size) rfl 24 (wv A) _ (HS.out.all 0 _ rfl) Tryd.underlying24 rfl (by kernel_rfl) ?_)
      | (go_at_call 21; (with_reducible refine (C2.out _).mono ?_); rintro e w1 ⟨rfl, hb⟩; have H1 := Lib.hid (HS.out.call (by simp) hb); clear hb HS)
      | (refine wpList_load_wv_g rfl 24 _ rfl (w.heap.size) rfl 24 A _ (H1.out.all 0 _ rfl) Tryd.underlying24 rfl (by kernel_rfl) ?_))
    rw [← wv_zero] at H1
    go_loopw [8] (fun i wr => ∃ (p : Nat), q ≤ p ∧ p ≤ 6 ∧ i = .int .i64 ((p : Int) - 1) ∧ Blks [(wv A, 24), (cellsN 6 (fun j => if j < p then 0 else limb (A * 2 ^ c) j), 24)] w.heap.size w wr) (fun i _ => (intOf i + 1).toNat)
    case atStart =>
      refine ⟨6, by omega, by omega, by first | rfl | go_num, ?_⟩
      have := H1.out
      rwa [show wv 0 = cellsN 6 (fun j => if j < 6 then 0 else limb (A * 2 ^ c) j) from cellsN_congr fun j hj => by rw [if_pos hj]; exact limb_zero j] at this
    case round =>
      clear H1
      obtain ⟨p1, hqp, hp6, rfl, HT⟩ := hrel
      replace HT := Lib.hid HT
      by_cases hlt : q < p1
      · obtain ⟨p, rfl⟩ : ∃ p, p1 = p + 1 := ⟨p1 - 1, by omega⟩
        obtain ⟨d, hd⟩ : ∃ d, p - q = d := ⟨_, rfl⟩
        have hpq : q ≤ p := by omega
        have hpqi : (q : Int) ≤ (p : Int) := by omega
        have K3 : (p : Int) - (q : Int) = (d : Int) := by omega
        have K0 : ((p + 1 : Nat) : Int) - 1 = (p : Int) := by omega
        rw [K0]
        clear K0
        have hp6' : p < 6 := by omega
        have hp6 : p < 6 := hp6'
        have hd6' : d < 6 := by omega
        obtain ⟨x, hx⟩ : ∃ x, limb A d * 2 ^ r % 18446744073709551616 = x := ⟨_, rfl⟩
        have hxl : x < 18446744073709551616 := by rw [← hx]; exact Nat.mod_lt _ (by decide)
        have K4 : IntKind.u64.wrap (((limb A d : Nat) : Int) * 2 ^ r) = (x : Int) := by rw [← hx, ← wrap_nat]; simp
        have c1 : wr.cell? ⟨w.heap.size, d, none⟩ = some (.int .u64 (limb A d : Nat)) := ((HT.out.all 0 _ rfl).cell d).trans (wv_get _ _ hd6')
        have c2 : wr.frozen? ⟨w.heap.size + 1, p, none⟩ = false := (HT.out.all 1 _ rfl).frozen p
        have c3 : wr.cell? ⟨w.heap.size + 1, p, none⟩ = some _ := ((HT.out.all 1 _ rfl).cell p).trans (cellsN_get _ _ _ hp6)
        have HV : Hid (Blks [(wv A, 24), (cellsN 6 (upd (fun j => if j < p + 1 then 0 else limb (A * 2 ^ c) j) p x), 24)] w.heap.size w (wr.setCell ⟨w.heap.size + 1, p, none⟩ (.int .u64 (x : Nat)))) := Lib.hid (by
          have := HT.out.setCell 1 p (.int .u64 (x : Nat)) _ _ rfl
          rwa [cellsN_set] at this)
        by_cases hpe : p = q
        · have HX : Hid (x = limb (A * 2 ^ c) p) := Lib.hid (by rw [HL.out, if_neg (by omega), if_pos hpe, ← hx, show d = 0 by omega])
          have hpe' : ¬ (q : Int) < (p : Int) := by omega
          rw [HX.out, upd_down, ← HX.out] at HV
          clear hx HT hd hpe hlt
          go_wp2
          go_roundw
          case rel => exact ⟨p, by omega, by omega, by go_num, HV.out⟩
          case measure => (simp [intOf]; try omega)
        · obtain ⟨y, hy⟩ : ∃ y, (x ||| limb A (d - 1) / 2 ^ (64 - r)) = y := ⟨_, rfl⟩
          have HY : Hid (y = limb (A * 2 ^ c) p) := Lib.hid (by rw [HL.out p, if_neg (by omega), if_neg hpe, hd, hx, hy])
          have hpe' : (q : Int) < (p : Int) := by omega
          obtain ⟨e, he⟩ : ∃ e, d - 1 = e := ⟨_, rfl⟩
          have he6 : e < 6 := by omega
          have K5 : (d : Int) - 1 = (e : Int) := by omega
          have K3' : IntKind.i64.wrap ((p : Int) - (q : Int)) = (d : Int) := by rw [K3]; exact IntWalk.i64_in _ (by omega)
          have K5' : IntKind.i64.wrap ((d : Int) - 1) = (e : Int) := by rw [K5]; exact IntWalk.i64_in _ (by omega)
          obtain ⟨s, hs⟩ : ∃ s, 64 - r = s := ⟨_, rfl⟩
          have K6 : IntKind.u64.wrap (64 - (r : Int)) = (s : Int) := by rw [IntKind.wrap_u64]; omega
          rw [he, hs] at hy
          obtain ⟨g, hg⟩ : ∃ g, limb A e / 2 ^ s = g := ⟨_, rfl⟩
          have K7 : ((limb A e : Nat) : Int) / 2 ^ min s 64 = (g : Int) := by rw [← hg, Nat.min_eq_left (by omega)]; simp
          have hgl : g < 18446744073709551616 := by rw [← hg]; exact Nat.lt_of_le_of_lt (Nat.div_le_self _ _) (limb_lt _ _)
          rw [hg] at hy
          have K8 : bits .or .u64 (x : Int) (g : Int) = (y : Int) := by rw [or_nat x g hxl hgl, hy]
          clear hx HT hd hpe hlt hgl hg hs he hy
          go_wp2
          refine wp_region_sets_lit (fun S w' => Blks [(wv A, 24), (cellsN 6 (upd (fun j => if j < p + 1 then 0 else limb (A * 2 ^ c) j) p (bif S 14 then y else x)), 24)] w.heap.size w w') (by kernel_rfl) (by kernel_rfl) (HV.out.drew) ?_
          obtain ⟨U, W, hW, hU⟩ := worlds (fun S w' => Blks [(wv A, 24), (cellsN 6 (upd (fun j => if j < p + 1 then 0 else limb (A * 2 ^ c) j) p (bif S 14 then y else x)), 24)] w.heap.size w w')
          have k2 : ∀ u, (W u).cell? ⟨w.heap.size, e, none⟩ = some (.int .u64 (limb A e : Nat)) := fun u => by obtain ⟨S, h⟩ := hW u; exact ((h.all 0 _ rfl).cell e).trans (wv_get _ _ he6)
          replace hW := Lib.hid hW
          replace hU := Lib.hid hU
          repeat (refine sets_quiet (fun w' => ∃ u, w' = W u) hU.out rfl (fun _ _ _ h => h) rfl ?_; intro K hK; go_big_quiet_op; first | go_big_quiet_on | (refine ⟨_, fun _ => rfl, ?_⟩; go_big_quiet_on))
          refine sets_load1 rfl (fun _ _ _ h => h) 22 _ rfl ⟨w.heap.size + 1, p, none⟩ rfl (.int .u64 (x : Nat)) (fun S w' h1 hcl h3 => ?_) _ Tryd.underlying22 rfl ?_
          · have hS14 : S 14 = false := by
              cases hS : S 14
              · rfl
              · exact absurd (hcl.chain 8 14 2 (by kernel_rfl) hS) (by rw [h1]; simp)
            rw [hS14] at h3
            refine ((h3.all 1 _ rfl).cell p).trans ((cellsN_get _ _ _ hp6).trans ?_)
            simp [upd]
          · simp only [Act.put, List.setIfInBounds_toArray, List.set_cons_succ, List.set_cons_zero]
            repeat (refine sets_quiet (fun w' => ∃ u, w' = W u) hU.out rfl (fun _ _ _ h => h) rfl ?_; intro K hK; go_big_quiet_op; first | go_big_quiet_on | (refine ⟨_, fun _ => rfl, ?_⟩; go_big_quiet_on))
            refine sets_store rfl 22 _ _ rfl rfl ⟨w.heap.size + 1, p, none⟩ rfl _ rfl rfl (by kernel_rfl) ?_ ?_
            · intro S w' h1 h2 h3
              have h1' : S 14 = false := h1
              rw [h1'] at h3
              refine ⟨⟨_, ((h3.all 1 _ rfl).cell p).trans (cellsN_get _ _ _ hp6)⟩, (h3.all 1 _ rfl).frozen p, ?_⟩
              have := h3.setCell 1 p (.int .u64 (y : Nat)) _ _ rfl
              rw [cellsN_set, upd_upd] at this
              exact this
            · skip
              repeat (refine sets_quiet (fun w' => ∃ u, w' = W u) hU.out rfl (fun _ _ _ h => h) rfl ?_; intro K hK; go_big_quiet_op; first | go_big_quiet_on | (refine ⟨_, fun _ => rfl, ?_⟩; go_big_quiet_on))
              intro S w' hS hI
              rw [show S 14 = true from hS 14 (by decide), cond_true, HY.out, upd_down] at hI
              clear k2 hW hU HV
              replace hI := Lib.hid hI
              go_wp2
              go_roundw
              case rel => exact ⟨p, by omega, by omega, by go_num, hI.out⟩
              case measure => (simp [intOf]; try omega)
      · obtain rfl : p1 = q := by omega
        rw [HZ.out] at HT
        have hlt' : ¬ (p1 : Int) ≤ (p1 : Int) - 1 := by omega
        go_wp2_with (first
          | (refine wpList_load_blk rfl 24 _ rfl (w.heap.size + 1) rfl 24 (wv (leftW A c)) _ (HT.out.all 1 _ rfl) Tryd.underlying24 rfl (by kernel_rfl) ?_)
          | (refine wpList_store_blk rfl 24 _ _ rfl (w.heap.size + 1) (wv (leftW A c)) rfl rfl 24 (wv (leftW A c)) (HT.out.all 1 _ rfl) (by kernel_rfl) rfl (wv_one _) ?_))
        refine bodyPost_ret (results_cell_tmp rfl _ _ (w.heap.size + 1) 24 (wv (leftW A c)) _ rfl ((HT.out.setRow 1 (wv (leftW A c)) _ _ rfl).all 1 _ rfl) Tryd.underlying24 rfl (by kernel_rfl)) rfl ?_
        exact ⟨ret2 rfl (vbool HO.out.symm), (HT.out.setRow 1 (wv (leftW A c)) _ _ rfl).le⟩
end Go.Proofs.YtlpgflmjpdhpnaaDoor
