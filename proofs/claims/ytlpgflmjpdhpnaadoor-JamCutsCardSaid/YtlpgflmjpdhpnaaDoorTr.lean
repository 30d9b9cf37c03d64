/- The contract of wide.Right. -/
import Derived.Test.YtlpgflmjpdhpnaaDoorRows
import Derived.Test.YtlpgflmjpdhpnaaDoorE
import Derived.Test.YtlpgflmjpdhpnaaDoorB
import Derived.Test.YtlpgflmjpdhpnaaDoorTw
import Derived.Test.YtlpgflmjpdhpnaaDoorXi
import Derived.IntWalk
namespace Go.Proofs.YtlpgflmjpdhpnaaDoor
open Go.RowKit
set_option maxHeartbeats 4000000
set_option maxRecDepth 100000
set_option linter.unusedVariables false
set_option linter.unusedSimpArgs false
set_option exponentiation.threshold 1000
theorem wright_c (A : Nat) (n : Int) (w : World) (hA : A < W384) (hT : Tab w) : Calls Tryd.prog 22 #[.agg (wv A), .int .i64 n] w fun e w' => e = .returned (.tuple #[.agg (wv (A / 2 ^ clamp n 384)), .bool (decide (A % 2 ^ clamp n 384 ≠ 0))]) ∧ Below w.heap.size w w' := by
  have hc := clamp_le n 384
  obtain ⟨c, hcc⟩ : ∃ c, clamp n 384 = c := ⟨_, rfl⟩
  have C1 : Hid (∀ W, Calls Tryd.prog 46 #[.int .i64 n] W fun e w' => e = .returned (.int .i64 (c : Nat)) ∧ w' = W) := Lib.hid fun W => by rw [← hcc]; exact wcount_c n W
  rw [hcc] at hc ⊢
  clear hcc
  have hlo := right_lost (c := c) hA
  have hl := lowW_le hA
  obtain ⟨l, hle⟩ : ∃ l, lowW A = l := ⟨_, rfl⟩
  have hbw : Below w.heap.size w ((w.alloc (.cells (wv A) 24)).alloc (.cells #[.int .u64 0, .int .u64 0, .int .u64 0, .int .u64 0, .int .u64 0, .int .u64 0] 24)) := ((Below.refl _ _).alloc (Nat.le_refl _) _).alloc (by simp) _
  have C2 : Hid (Calls Tryd.prog 31 #[.agg (wv A)] ((w.alloc (.cells (wv A) 24)).alloc (.cells #[.int .u64 0, .int .u64 0, .int .u64 0, .int .u64 0, .int .u64 0, .int .u64 0] 24)) fun e w' => e = .returned (.int .i64 (l : Nat)) ∧ Below (w.heap.size + 1 + 1) ((w.alloc (.cells (wv A) 24)).alloc (.cells #[.int .u64 0, .int .u64 0, .int .u64 0, .int .u64 0, .int .u64 0, .int .u64 0] 24)) w') := Lib.hid (by
    have := wlow_c A _ hA (hT.below hbw)
    rw [hle] at this
    simpa using this)
  rw [hle] at hlo hl
  clear hle hbw hT
  obtain ⟨q, hq⟩ : ∃ q, c / 64 = q := ⟨_, rfl⟩
  obtain ⟨r, hr⟩ : ∃ r, c % 64 = r := ⟨_, rfl⟩
  have hq6 : q ≤ 6 := by omega
  have hr64 : r < 64 := by omega
  have hcq : c = 64 * q + r := by omega
  have K1 : (c : Int) / 64 = (q : Int) := by omega
  have K2 : (c : Int) % 64 = (r : Int) := by omega
  have hlim : ∀ j, limb (A / 2 ^ c) j = (limb A (j + q) / 2 ^ r ||| limb A (j + q + 1) * 2 ^ (64 - r) % 18446744073709551616) := fun j => by
    rw [hcq]; exact limb_right A q r j hr64
  have HL := Lib.hid hlim
  have hbig : ∀ j, 6 ≤ j → limb A j = 0 := fun j hj => limb_big hA hj
  have HG := Lib.hid hbig
  have HZ : Hid (cellsN 6 (fun j => if j < (6 - q) then limb (A / 2 ^ c) j else 0) = wv (A / 2 ^ c)) := Lib.hid (cellsN_congr fun j hj => by
    by_cases h : j < 6 - q
    · rw [if_pos h]
    · rw [if_neg h, hlim, hbig (j + q) (by omega), hbig (j + q + 1) (by omega)]; simp)
  clear hlim hbig hcq hq hr
  have hm : Tryd.prog.eqGuardType Tryd.prog.depth 24 = false := by kernel_rfl
  by_cases hA0 : A = 0
  · have HO : Hid (decide (A % 2 ^ c ≠ 0) = false) := Lib.hid (decide_eq_false (fun h => (hlo.1 h).1 hA0))
    have q1 : ∀ w, (binOp .neq 24 (.agg (wv A)) (.agg #[.int .u64 0, .int .u64 0, .int .u64 0, .int .u64 0, .int .u64 0, .int .u64 0])).run Tryd.prog w = .ok (.bool false) w := fun w => by
      rw [← wv_zero]
      have := run_neq_wv Tryd.underlying24 Tryd.underlying22 (by kernel_rfl) A 0 hA W384_pos w
      rwa [decide_eq_true hA0] at this
    clear hlo hA0 hA
    go_enter Tryd.func22, Tryd.ntmps22
    have HS : Hid (Blks [(wv A, 24), (cellsN 6 (limb 0), 24)] w.heap.size w ((w.alloc (.cells (wv A) 24)).alloc (.cells #[.int .u64 0, .int .u64 0, .int .u64 0, .int .u64 0, .int .u64 0, .int .u64 0] 24))) := Lib.hid (by
      have h := (((Blks.nil w).alloc rfl (wv A) 24).alloc (by simp) (wv 0) 24)
      rw [wv_zero] at h
      rw [show cellsN 6 (limb 0) = #[.int .u64 0, .int .u64 0, .int .u64 0, .int .u64 0, .int .u64 0, .int .u64 0] from wv_zero]
      exact h)
    go_wp2_with (first
      | (go_at_call 46; (with_reducible refine (C1.out _).mono ?_); rintro e w' ⟨rfl, rfl⟩)
      | (refine wpList_load_blk rfl 24 _ rfl (w.heap.size) rfl 24 (wv A) _ (HS.out.all 0 _ rfl) Tryd.underlying24 rfl (by kernel_rfl) ?_))
    have H1 := HS
    clear HS
    go_loopw [8] (fun i wr => ∃ (p : Nat), p + q ≤ 6 ∧ i = .int .i64 (p : Nat) ∧ Blks [(wv A, 24), (cellsN 6 (fun j => if j < p then limb (A / 2 ^ c) j else 0), 24)] w.heap.size w wr) (fun i _ => 6 - (intOf i).toNat)
    case atStart =>
      refine ⟨0, by omega, rfl, ?_⟩
      have := H1.out
      rwa [show cellsN 6 (limb 0) = cellsN 6 (fun j => if j < 0 then limb (A / 2 ^ c) j else 0) from cellsN_congr fun j hj => by rw [if_neg (by omega)]; exact limb_zero j] at this
    case round =>
      clear H1
      obtain ⟨p, hpq, rfl, HT⟩ := hrel
      replace HT := Lib.hid HT
      by_cases hlt : p + q < 6
      · obtain ⟨d, hd⟩ : ∃ d, p + q = d := ⟨_, rfl⟩
        have K3 : (p : Int) + (q : Int) = (d : Int) := by omega
        have hp6 : p < 6 := by omega
        have hd6 : d < 6 := by omega
        have hd6i : (d : Int) < 6 := by omega
        obtain ⟨x, hx⟩ : ∃ x, limb A d / 2 ^ r = x := ⟨_, rfl⟩
        have hxl : x < 18446744073709551616 := by rw [← hx]; exact Nat.lt_of_le_of_lt (Nat.div_le_self _ _) (limb_lt _ _)
        have K4 : ((limb A d : Nat) : Int) / 2 ^ r = (x : Int) := by rw [← hx]; simp
        have K4' : ((limb A d : Nat) : Int) / 2 ^ min r 64 = (x : Int) := by rw [Nat.min_eq_left (by omega)]; exact K4
        have c1 : wr.cell? ⟨w.heap.size, d, none⟩ = some (.int .u64 (limb A d : Nat)) := ((HT.out.all 0 _ rfl).cell d).trans (wv_get _ _ hd6)
        have c2 : wr.frozen? ⟨w.heap.size + 1, p, none⟩ = false := (HT.out.all 1 _ rfl).frozen p
        have c3 : wr.cell? ⟨w.heap.size + 1, p, none⟩ = some _ := ((HT.out.all 1 _ rfl).cell p).trans (cellsN_get _ _ _ hp6)
        have HV : Hid (Blks [(wv A, 24), (cellsN 6 (upd (fun j => if j < p then limb (A / 2 ^ c) j else 0) p x), 24)] w.heap.size w (wr.setCell ⟨w.heap.size + 1, p, none⟩ (.int .u64 (x : Nat)))) := Lib.hid (by
          have := HT.out.setCell 1 p (.int .u64 (x : Nat)) _ _ rfl
          rwa [cellsN_set] at this)
        by_cases hd5 : d = 5
        · have HX : Hid (x = limb (A / 2 ^ c) p) := Lib.hid (by rw [HL.out, hd, hx, HG.out (d + 1) (by omega)]; simp)
          have hd5i : ¬ (d : Int) < 5 := by omega
          rw [HX.out, upd_up, ← HX.out] at HV
          clear hx HT hlt hd5
          go_wp2
          go_roundw
          case rel => exact ⟨p + 1, by omega, by go_num, HV.out⟩
          case measure => (simp [intOf]; try omega)
        · obtain ⟨e, he⟩ : ∃ e, d + 1 = e := ⟨_, rfl⟩
          have he6 : e < 6 := by omega
          obtain ⟨s, hs⟩ : ∃ s, 64 - r = s := ⟨_, rfl⟩
          have hs64 : s ≤ 64 := by omega
          obtain ⟨g, hg⟩ : ∃ g, limb A e * 2 ^ s % 18446744073709551616 = g := ⟨_, rfl⟩
          have hgl : g < 18446744073709551616 := by rw [← hg]; exact Nat.mod_lt _ (by decide)
          obtain ⟨y, hy⟩ : ∃ y, (x ||| g) = y := ⟨_, rfl⟩
          have HY : Hid (y = limb (A / 2 ^ c) p) := Lib.hid (by rw [HL.out p, hd, hx, he, hs, hg, hy])
          have hd5i : (d : Int) < 5 := by omega
          have K5 : (d : Int) + 1 = (e : Int) := by omega
          have K3' : IntKind.i64.wrap ((p : Int) + (q : Int)) = (d : Int) := by rw [K3]; exact IntWalk.i64_in _ (by omega)
          have K5' : IntKind.i64.wrap ((d : Int) + 1) = (e : Int) := by rw [K5]; exact IntWalk.i64_in _ (by omega)
          have K6 : IntKind.u64.wrap (64 - (r : Int)) = (s : Int) := by rw [IntKind.wrap_u64]; omega
          have K7 : IntKind.u64.wrap (((limb A e : Nat) : Int) * 2 ^ s) = (g : Int) := by rw [← hg, ← wrap_nat]; simp
          have K7' : IntKind.u64.wrap (((limb A e : Nat) : Int) * 2 ^ min s 64) = (g : Int) := by rw [Nat.min_eq_left hs64]; exact K7
          have K8 : bits .or .u64 (x : Int) (g : Int) = (y : Int) := by rw [or_nat x g hxl hgl, hy]
          clear hx HT hlt hgl hg hs hy hd5
          go_wp2
          refine wp_region_sets_lit (fun S w' => Blks [(wv A, 24), (cellsN 6 (upd (fun j => if j < p then limb (A / 2 ^ c) j else 0) p (bif S 14 then y else x)), 24)] w.heap.size w w') (by kernel_rfl) (by kernel_rfl) (HV.out.drew) ?_
          obtain ⟨U, W, hW, hU⟩ := worlds (fun S w' => Blks [(wv A, 24), (cellsN 6 (upd (fun j => if j < p then limb (A / 2 ^ c) j else 0) p (bif S 14 then y else x)), 24)] w.heap.size w w')
          have k2 : ∀ u, (W u).cell? ⟨w.heap.size, e, none⟩ = some (.int .u64 (limb A e : Nat)) := fun u => by obtain ⟨S, h⟩ := hW u; exact ((h.all 0 _ rfl).cell e).trans (wv_get _ _ he6)
          replace hW := Lib.hid hW
          replace hU := Lib.hid hU
          repeat (refine sets_quiet (fun w' => ∃ u, w' = W u) hU.out rfl (fun _ _ _ h => h) rfl ?_; intro K hK; go_big_quiet_op; first | go_big_quiet_on | (refine ⟨_, fun _ => rfl, ?_⟩; go_big_quiet_on))
          refine sets_load1 rfl (fun _ _ _ h => h) 22 _ rfl ⟨w.heap.size + 1, p, none⟩ rfl (.int .u64 (x : Nat)) (fun S w' h1 hcl h3 => ?_) _ Tryd.underlying22 rfl ?_
          · have hS14 : S 14 = false := by
              cases hS : S 14
              · rfl
              · exact absurd (hcl.chain 8 14 2 (by kernel_rfl) hS) (by rw [h1]; simp)
            rw [hS14] at h3
            refine ((h3.all 1 _ rfl).cell p).trans ((cellsN_get _ _ _ hp6).trans ?_)
            simp [upd]
          · simp only [Act.put, List.setIfInBounds_toArray, List.set_cons_succ, List.set_cons_zero]
            repeat (refine sets_quiet (fun w' => ∃ u, w' = W u) hU.out rfl (fun _ _ _ h => h) rfl ?_; intro K hK; go_big_quiet_op; first | go_big_quiet_on | (refine ⟨_, fun _ => rfl, ?_⟩; go_big_quiet_on))
            refine sets_store rfl 22 _ _ rfl rfl ⟨w.heap.size + 1, p, none⟩ rfl _ rfl rfl (by kernel_rfl) ?_ ?_
            · intro S w' h1 h2 h3
              have h1' : S 14 = false := h1
              rw [h1'] at h3
              refine ⟨⟨_, ((h3.all 1 _ rfl).cell p).trans (cellsN_get _ _ _ hp6)⟩, (h3.all 1 _ rfl).frozen p, ?_⟩
              have := h3.setCell 1 p (.int .u64 (y : Nat)) _ _ rfl
              rw [cellsN_set, upd_upd] at this
              exact this
            · skip
              repeat (refine sets_quiet (fun w' => ∃ u, w' = W u) hU.out rfl (fun _ _ _ h => h) rfl ?_; intro K hK; go_big_quiet_op; first | go_big_quiet_on | (refine ⟨_, fun _ => rfl, ?_⟩; go_big_quiet_on))
              intro S w' hS hI
              rw [show S 14 = true from hS 14 (by decide), cond_true, HY.out, upd_up] at hI
              clear k2 hW hU HV
              replace hI := Lib.hid hI
              go_wp2
              go_roundw
              case rel => exact ⟨p + 1, by omega, by go_num, hI.out⟩
              case measure => (simp [intOf]; try omega)
      · obtain rfl : p = 6 - q := by omega
        rw [HZ.out] at HT
        have K9 : ((6 - q : Nat) : Int) + (q : Int) = 6 := by omega
        go_wp2_with (first
          | (refine wpList_load_blk rfl 24 _ rfl (w.heap.size + 1) rfl 24 (wv (A / 2 ^ c)) _ (HT.out.all 1 _ rfl) Tryd.underlying24 rfl (by kernel_rfl) ?_)
          | (refine wpList_store_blk rfl 24 _ _ rfl (w.heap.size + 1) (wv (A / 2 ^ c)) rfl rfl 24 (wv (A / 2 ^ c)) (HT.out.all 1 _ rfl) (by kernel_rfl) rfl (wv_one _) ?_))
        refine bodyPost_ret (results_cell_tmp rfl _ _ (w.heap.size + 1) 24 (wv (A / 2 ^ c)) _ rfl ((HT.out.setRow 1 (wv (A / 2 ^ c)) _ _ rfl).all 1 _ rfl) Tryd.underlying24 rfl (by kernel_rfl)) rfl ?_
        exact ⟨ret2 rfl (vbool HO.out.symm), (HT.out.setRow 1 (wv (A / 2 ^ c)) _ _ rfl).le⟩
  · have q1 : ∀ w, (binOp .neq 24 (.agg (wv A)) (.agg #[.int .u64 0, .int .u64 0, .int .u64 0, .int .u64 0, .int .u64 0, .int .u64 0])).run Tryd.prog w = .ok (.bool true) w := fun w => by
      rw [← wv_zero]
      have := run_neq_wv Tryd.underlying24 Tryd.underlying22 (by kernel_rfl) A 0 hA W384_pos w
      rwa [decide_eq_false hA0] at this
    by_cases hlc : l < c
    · have HO : Hid (decide (A % 2 ^ c ≠ 0) = true) := Lib.hid (decide_eq_true (hlo.2 ⟨hA0, hlc⟩))
      have hlc' : (l : Int) < (c : Int) := by omega
      clear hlo hA0 hA hlc
      go_enter Tryd.func22, Tryd.ntmps22
      have HS : Hid (Blks [(wv A, 24), (cellsN 6 (limb 0), 24)] w.heap.size w ((w.alloc (.cells (wv A) 24)).alloc (.cells #[.int .u64 0, .int .u64 0, .int .u64 0, .int .u64 0, .int .u64 0, .int .u64 0] 24))) := Lib.hid (by
        have h := (((Blks.nil w).alloc rfl (wv A) 24).alloc (by simp) (wv 0) 24)
        rw [wv_zero] at h
        rw [show cellsN 6 (limb 0) = #[.int .u64 0, .int .u64 0, .int .u64 0, .int .u64 0, .int .u64 0, .int .u64 0] from wv_zero]
        exact h)
      go_wp2_with (first
        | (go_at_call 46; (with_reducible refine (C1.out _).mono ?_); rintro e w' ⟨rfl, rfl⟩)
        | (refine wpList_load_blk rfl 24 _ rfl (w.heap.size) rfl 24 (wv A) _ (HS.out.all 0 _ rfl) Tryd.underlying24 rfl (by kernel_rfl) ?_)
        | (refine wpList_load_wv_g rfl 24 _ rfl (w.heap.size) rfl 24 A _ (HS.out.all 0 _ rfl) Tryd.underlying24 rfl (by kernel_rfl) ?_)
        | (go_at_call 31; (with_reducible refine C2.out.mono ?_); rintro e w1 ⟨rfl, hb⟩; have H1 := Lib.hid (HS.out.call (by simp) (by simpa using hb)); clear hb HS))
      go_loopw [8] (fun i wr => ∃ (p : Nat), p + q ≤ 6 ∧ i = .int .i64 (p : Nat) ∧ Blks [(wv A, 24), (cellsN 6 (fun j => if j < p then limb (A / 2 ^ c) j else 0), 24)] w.heap.size w wr) (fun i _ => 6 - (intOf i).toNat)
      case atStart =>
        refine ⟨0, by omega, rfl, ?_⟩
        have := H1.out
        rwa [show cellsN 6 (limb 0) = cellsN 6 (fun j => if j < 0 then limb (A / 2 ^ c) j else 0) from cellsN_congr fun j hj => by rw [if_neg (by omega)]; exact limb_zero j] at this
      case round =>
        clear H1
        obtain ⟨p, hpq, rfl, HT⟩ := hrel
        replace HT := Lib.hid HT
        by_cases hlt : p + q < 6
        · obtain ⟨d, hd⟩ : ∃ d, p + q = d := ⟨_, rfl⟩
          have K3 : (p : Int) + (q : Int) = (d : Int) := by omega
          have hp6 : p < 6 := by omega
          have hd6 : d < 6 := by omega
          have hd6i : (d : Int) < 6 := by omega
          obtain ⟨x, hx⟩ : ∃ x, limb A d / 2 ^ r = x := ⟨_, rfl⟩
          have hxl : x < 18446744073709551616 := by rw [← hx]; exact Nat.lt_of_le_of_lt (Nat.div_le_self _ _) (limb_lt _ _)
          have K4 : ((limb A d : Nat) : Int) / 2 ^ r = (x : Int) := by rw [← hx]; simp
          have K4' : ((limb A d : Nat) : Int) / 2 ^ min r 64 = (x : Int) := by rw [Nat.min_eq_left (by omega)]; exact K4
          have c1 : wr.cell? ⟨w.heap.size, d, none⟩ = some (.int .u64 (limb A d : Nat)) := ((HT.out.all 0 _ rfl).cell d).trans (wv_get _ _ hd6)
          have c2 : wr.frozen? ⟨w.heap.size + 1, p, none⟩ = false := (HT.out.all 1 _ rfl).frozen p
          have c3 : wr.cell? ⟨w.heap.size + 1, p, none⟩ = some _ := ((HT.out.all 1 _ rfl).cell p).trans (cellsN_get _ _ _ hp6)
          have HV : Hid (Blks [(wv A, 24), (cellsN 6 (upd (fun j => if j < p then limb (A / 2 ^ c) j else 0) p x), 24)] w.heap.size w (wr.setCell ⟨w.heap.size + 1, p, none⟩ (.int .u64 (x : Nat)))) := Lib.hid (by
            have := HT.out.setCell 1 p (.int .u64 (x : Nat)) _ _ rfl
            rwa [cellsN_set] at this)
          by_cases hd5 : d = 5
          · have HX : Hid (x = limb (A / 2 ^ c) p) := Lib.hid (by rw [HL.out, hd, hx, HG.out (d + 1) (by omega)]; simp)
            have hd5i : ¬ (d : Int) < 5 := by omega
            rw [HX.out, upd_up, ← HX.out] at HV
            clear hx HT hlt hd5
            go_wp2
            go_roundw
            case rel => exact ⟨p + 1, by omega, by go_num, HV.out⟩
            case measure => (simp [intOf]; try omega)
          · obtain ⟨e, he⟩ : ∃ e, d + 1 = e := ⟨_, rfl⟩
            have he6 : e < 6 := by omega
            obtain ⟨s, hs⟩ : ∃ s, 64 - r = s := ⟨_, rfl⟩
            have hs64 : s ≤ 64 := by omega
            obtain ⟨g, hg⟩ : ∃ g, limb A e * 2 ^ s % 18446744073709551616 = g := ⟨_, rfl⟩
            have hgl : g < 18446744073709551616 := by rw [← hg]; exact Nat.mod_lt _ (by decide)
            obtain ⟨y, hy⟩ : ∃ y, (x ||| g) = y := ⟨_, rfl⟩
            have HY : Hid (y = limb (A / 2 ^ c) p) := Lib.hid (by rw [HL.out p, hd, hx, he, hs, hg, hy])
            have hd5i : (d : Int) < 5 := by omega
            have K5 : (d : Int) + 1 = (e : Int) := by omega
            have K3' : IntKind.i64.wrap ((p : Int) + (q : Int)) = (d : Int) := by rw [K3]; exact IntWalk.i64_in _ (by omega)
            have K5' : IntKind.i64.wrap ((d : Int) + 1) = (e : Int) := by rw [K5]; exact IntWalk.i64_in _ (by omega)
            have K6 : IntKind.u64.wrap (64 - (r : Int)) = (s : Int) := by rw [IntKind.wrap_u64]; omega
            have K7 : IntKind.u64.wrap (((limb A e : Nat) : Int) * 2 ^ s) = (g : Int) := by rw [← hg, ← wrap_nat]; simp
            have K7' : IntKind.u64.wrap (((limb A e : Nat) : Int) * 2 ^ min s 64) = (g : Int) := by rw [Nat.min_eq_left hs64]; exact K7
            have K8 : bits .or .u64 (x : Int) (g : Int) = (y : Int) := by rw [or_nat x g hxl hgl, hy]
            clear hx HT hlt hgl hg hs hy hd5
            go_wp2
            refine wp_region_sets_lit (fun S w' => Blks [(wv A, 24), (cellsN 6 (upd (fun j => if j < p then limb (A / 2 ^ c) j else 0) p (bif S 14 then y else x)), 24)] w.heap.size w w') (by kernel_rfl) (by kernel_rfl) (HV.out.drew) ?_
            obtain ⟨U, W, hW, hU⟩ := worlds (fun S w' => Blks [(wv A, 24), (cellsN 6 (upd (fun j => if j < p then limb (A / 2 ^ c) j else 0) p (bif S 14 then y else x)), 24)] w.heap.size w w')
            have k2 : ∀ u, (W u).cell? ⟨w.heap.size, e, none⟩ = some (.int .u64 (limb A e : Nat)) := fun u => by obtain ⟨S, h⟩ := hW u; exact ((h.all 0 _ rfl).cell e).trans (wv_get _ _ he6)
            replace hW := Lib.hid hW
            replace hU := Lib.hid hU
            repeat (refine sets_quiet (fun w' => ∃ u, w' = W u) hU.out rfl (fun _ _ _ h => h) rfl ?_; intro K hK; go_big_quiet_op; first | go_big_quiet_on | (refine ⟨_, fun _ => rfl, ?_⟩; go_big_quiet_on))
            refine sets_load1 rfl (fun _ _ _ h => h) 22 _ rfl ⟨w.heap.size + 1, p, none⟩ rfl (.int .u64 (x : Nat)) (fun S w' h1 hcl h3 => ?_) _ Tryd.underlying22 rfl ?_
            · have hS14 : S 14 = false := by
                cases hS : S 14
                · rfl
                · exact absurd (hcl.chain 8 14 2 (by kernel_rfl) hS) (by rw [h1]; simp)
              rw [hS14] at h3
              refine ((h3.all 1 _ rfl).cell p).trans ((cellsN_get _ _ _ hp6).trans ?_)
              simp [upd]
            · simp only [Act.put, List.setIfInBounds_toArray, List.set_cons_succ, List.set_cons_zero]
              repeat (refine sets_quiet (fun w' => ∃ u, w' = W u) hU.out rfl (fun _ _ _ h => h) rfl ?_; intro K hK; go_big_quiet_op; first | go_big_quiet_on | (refine ⟨_, fun _ => rfl, ?_⟩; go_big_quiet_on))
              refine sets_store rfl 22 _ _ rfl rfl ⟨w.heap.size + 1, p, none⟩ rfl _ rfl rfl (by kernel_rfl) ?_ ?_
              · intro S w' h1 h2 h3
                have h1' : S 14 = false := h1
                rw [h1'] at h3
                refine ⟨⟨_, ((h3.all 1 _ rfl).cell p).trans (cellsN_get _ _ _ hp6)⟩, (h3.all 1 _ rfl).frozen p, ?_⟩
                have := h3.setCell 1 p (.int .u64 (y : Nat)) _ _ rfl
                rw [cellsN_set, upd_upd] at this
                exact this
              · skip
                repeat (refine sets_quiet (fun w' => ∃ u, w' = W u) hU.out rfl (fun _ _ _ h => h) rfl ?_; intro K hK; go_big_quiet_op; first | go_big_quiet_on | (refine ⟨_, fun _ => rfl, ?_⟩; go_big_quiet_on))
                intro S w' hS hI
                rw [show S 14 = true from hS 14 (by decide), cond_true, HY.out, upd_up] at hI
                clear k2 hW hU HV
                replace hI := Lib.hid hI
                go_wp2
                go_roundw
                case rel => exact ⟨p + 1, by omega, by go_num, hI.out⟩
                case measure => (simp [intOf]; try omega)
        · obtain rfl : p = 6 - q := by omega
          rw [HZ.out] at HT
          have K9 : ((6 - q : Nat) : Int) + (q : Int) = 6 := by omega
          go_wp2_with (first
            | (refine wpList_load_blk rfl 24 _ rfl (w.heap.size + 1) rfl 24 (wv (A / 2 ^ c)) _ (HT.out.all 1 _ rfl) Tryd.underlying24 rfl (by kernel_rfl) ?_)
            | (refine wpList_store_blk rfl 24 _ _ rfl (w.heap.size + 1) (wv (A / 2 ^ c)) rfl rfl 24 (wv (A / 2 ^ c)) (HT.out.all 1 _ rfl) (by kernel_rfl) rfl (wv_one _) ?_))
          refine bodyPost_ret (results_cell_tmp rfl _ _ (w.heap.size + 1) 24 (wv (A / 2 ^ c)) _ rfl ((HT.out.setRow 1 (wv (A / 2 ^ c)) _ _ rfl).all 1 _ rfl) Tryd.underlying24 rfl (by kernel_rfl)) rfl ?_
          exact ⟨ret2 rfl (vbool HO.out.symm), (HT.out.setRow 1 (wv (A / 2 ^ c)) _ _ rfl).le⟩
    · have HO : Hid (decide (A % 2 ^ c ≠ 0) = false) := Lib.hid (decide_eq_false (fun h => hlc (hlo.1 h).2))
      have hlc' : ¬ (l : Int) < (c : Int) := by omega
      have hlcd : decide (l < c) = false := decide_eq_false hlc
      clear hlo hA0 hA hlc
      go_enter Tryd.func22, Tryd.ntmps22
      have HS : Hid (Blks [(wv A, 24), (cellsN 6 (limb 0), 24)] w.heap.size w ((w.alloc (.cells (wv A) 24)).alloc (.cells #[.int .u64 0, .int .u64 0, .int .u64 0, .int .u64 0, .int .u64 0, .int .u64 0] 24))) := Lib.hid (by
        have h := (((Blks.nil w).alloc rfl (wv A) 24).alloc (by simp) (wv 0) 24)
        rw [wv_zero] at h
        rw [show cellsN 6 (limb 0) = #[.int .u64 0, .int .u64 0, .int .u64 0, .int .u64 0, .int .u64 0, .int .u64 0] from wv_zero]
        exact h)
      go_wp2_with (first
        | (go_at_call 46; (with_reducible refine (C1.out _).mono ?_); rintro e w' ⟨rfl, rfl⟩)
        | (refine wpList_load_blk rfl 24 _ rfl (w.heap.size) rfl 24 (wv A) _ (HS.out.all 0 _ rfl) Tryd.underlying24 rfl (by kernel_rfl) ?_)
        | (refine wpList_load_wv_g rfl 24 _ rfl (w.heap.size) rfl 24 A _ (HS.out.all 0 _ rfl) Tryd.underlying24 rfl (by kernel_rfl) ?_)
        | (go_at_call 31; (with_reducible refine C2.out.mono ?_); rintro e w1 ⟨rfl, hb⟩; have H1 := Lib.hid (HS.out.call (by simp) (by simpa using hb)); clear hb HS))
      go_loopw [8] (fun i wr => ∃ (p : Nat), p + q ≤ 6 ∧ i = .int .i64 (p : Nat) ∧ Blks [(wv A, 24), (cellsN 6 (fun j => if j < p then limb (A / 2 ^ c) j else 0), 24)] w.heap.size w wr) (fun i _ => 6 - (intOf i).toNat)
      case atStart =>
        refine ⟨0, by omega, rfl, ?_⟩
        have := H1.out
        rwa [show cellsN 6 (limb 0) = cellsN 6 (fun j => if j < 0 then limb (A / 2 ^ c) j else 0) from cellsN_congr fun j hj => by rw [if_neg (by omega)]; exact limb_zero j] at this
      case round =>
        clear H1
        obtain ⟨p, hpq, rfl, HT⟩ := hrel
        replace HT := Lib.hid HT
        by_cases hlt : p + q < 6
        · obtain ⟨d, hd⟩ : ∃ d, p + q = d := ⟨_, rfl⟩
          have K3 : (p : Int) + (q : Int) = (d : Int) := by omega
          have hp6 : p < 6 := by omega
          have hd6 : d < 6 := by omega
          have hd6i : (d : Int) < 6 := by omega
          obtain ⟨x, hx⟩ : ∃ x, limb A d / 2 ^ r = x := ⟨_, rfl⟩
          have hxl : x < 18446744073709551616 := by rw [← hx]; exact Nat.lt_of_le_of_lt (Nat.div_le_self _ _) (limb_lt _ _)
          have K4 : ((limb A d : Nat) : Int) / 2 ^ r = (x : Int) := by rw [← hx]; simp
          have K4' : ((limb A d : Nat) : Int) / 2 ^ min r 64 = (x : Int) := by rw [Nat.min_eq_left (by omega)]; exact K4
          have c1 : wr.cell? ⟨w.heap.size, d, none⟩ = some (.int .u64 (limb A d : Nat)) := ((HT.out.all 0 _ rfl).cell d).trans (wv_get _ _ hd6)
          have c2 : wr.frozen? ⟨w.heap.size + 1, p, none⟩ = false := (HT.out.all 1 _ rfl).frozen p
          have c3 : wr.cell? ⟨w.heap.size + 1, p, none⟩ = some _ := ((HT.out.all 1 _ rfl).cell p).trans (cellsN_get _ _ _ hp6)
          have HV : Hid (Blks [(wv A, 24), (cellsN 6 (upd (fun j => if j < p then limb (A / 2 ^ c) j else 0) p x), 24)] w.heap.size w (wr.setCell ⟨w.heap.size + 1, p, none⟩ (.int .u64 (x : Nat)))) := Lib.hid (by
            have := HT.out.setCell 1 p (.int .u64 (x : Nat)) _ _ rfl
            rwa [cellsN_set] at this)
          by_cases hd5 : d = 5
          · have HX : Hid (x = limb (A / 2 ^ c) p) := Lib.hid (by rw [HL.out, hd, hx, HG.out (d + 1) (by omega)]; simp)
            have hd5i : ¬ (d : Int) < 5 := by omega
            rw [HX.out, upd_up, ← HX.out] at HV
            clear hx HT hlt hd5
            go_wp2
            go_roundw
            case rel => exact ⟨p + 1, by omega, by go_num, HV.out⟩
            case measure => (simp [intOf]; try omega)
          · obtain ⟨e, he⟩ : ∃ e, d + 1 = e := ⟨_, rfl⟩
            have he6 : e < 6 := by omega
            obtain ⟨s, hs⟩ : ∃ s, 64 - r = s := ⟨_, rfl⟩
            have hs64 : s ≤ 64 := by omega
            obtain ⟨g, hg⟩ : ∃ g, limb A e * 2 ^ s % 18446744073709551616 = g := ⟨_, rfl⟩
            have hgl : g < 18446744073709551616 := by rw [← hg]; exact Nat.mod_lt _ (by decide)
            obtain ⟨y, hy⟩ : ∃ y, (x ||| g) = y := ⟨_, rfl⟩
            have HY : Hid (y = limb (A / 2 ^ c) p) := Lib.hid (by rw [HL.out p, hd, hx, he, hs, hg, hy])
            have hd5i : (d : Int) < 5 := by omega
            have K5 : (d : Int) + 1 = (e : Int) := by omega
            have K3' : IntKind.i64.wrap ((p : Int) + (q : Int)) = (d : Int) := by rw [K3]; exact IntWalk.i64_in _ (by omega)
            have K5' : IntKind.i64.wrap ((d : Int) + 1) = (e : Int) := by rw [K5]; exact IntWalk.i64_in _ (by omega)
            have K6 : IntKind.u64.wrap (64 - (r : Int)) = (s : Int) := by rw [IntKind.wrap_u64]; omega
            have K7 : IntKind.u64.wrap (((limb A e : Nat) : Int) * 2 ^ s) = (g : Int) := by rw [← hg, ← wrap_nat]; simp
            have K7' : IntKind.u64.wrap (((limb A e : Nat) : Int) * 2 ^ min s 64) = (g : Int) := by rw [Nat.min_eq_left hs64]; exact K7
            have K8 : bits .or .u64 (x : Int) (g : Int) = (y : Int) := by rw [or_nat x g hxl hgl, hy]
            clear hx HT hlt hgl hg hs hy hd5
            go_wp2
            refine wp_region_sets_lit (fun S w' => Blks [(wv A, 24), (cellsN 6 (upd (fun j => if j < p then limb (A / 2 ^ c) j else 0) p (bif S 14 then y else x)), 24)] w.heap.size w w') (by kernel_rfl) (by kernel_rfl) (HV.out.drew) ?_
            obtain ⟨U, W, hW, hU⟩ := worlds (fun S w' => Blks [(wv A, 24), (cellsN 6 (upd (fun j => if j < p then limb (A / 2 ^ c) j else 0) p (bif S 14 then y else x)), 24)] w.heap.size w w')
            have k2 : ∀ u, (W u).cell? ⟨w.heap.size, e, none⟩ = some (.int .u64 (limb A e : Nat)) := fun u => by obtain ⟨S, h⟩ := hW u; exact ((h.all 0 _ rfl).cell e).trans (wv_get _ _ he6)
            replace hW := Lib.hid hW
            replace hU := Lib.hid hU
            repeat (refine sets_quiet (fun w' => ∃ u, w' = W u) hU.out rfl (fun _ _ _ h => h) rfl ?_; intro K hK; go_big_quiet_op; first | go_big_quiet_on | (refine ⟨_, fun _ => rfl, ?_⟩; go_big_quiet_on))
            refine sets_load1 rfl (fun _ _ _ h => h) 22 _ rfl ⟨w.heap.size + 1, p, none⟩ rfl (.int .u64 (x : Nat)) (fun S w' h1 hcl h3 => ?_) _ Tryd.underlying22 rfl ?_
            · have hS14 : S 14 = false := by
                cases hS : S 14
                · rfl
                · exact absurd (hcl.chain 8 14 2 (by kernel_rfl) hS) (by rw [h1]; simp)
              rw [hS14] at h3
              refine ((h3.all 1 _ rfl).cell p).trans ((cellsN_get _ _ _ hp6).trans ?_)
              simp [upd]
            · simp only [Act.put, List.setIfInBounds_toArray, List.set_cons_succ, List.set_cons_zero]
              repeat (refine sets_quiet (fun w' => ∃ u, w' = W u) hU.out rfl (fun _ _ _ h => h) rfl ?_; intro K hK; go_big_quiet_op; first | go_big_quiet_on | (refine ⟨_, fun _ => rfl, ?_⟩; go_big_quiet_on))
              refine sets_store rfl 22 _ _ rfl rfl ⟨w.heap.size + 1, p, none⟩ rfl _ rfl rfl (by kernel_rfl) ?_ ?_
              · intro S w' h1 h2 h3
                have h1' : S 14 = false := h1
                rw [h1'] at h3
                refine ⟨⟨_, ((h3.all 1 _ rfl).cell p).trans (cellsN_get _ _ _ hp6)⟩, (h3.all 1 _ rfl).frozen p, ?_⟩
                have := h3.setCell 1 p (.int .u64 (y : Nat)) _ _ rfl
                rw [cellsN_set, upd_upd] at this
                exact this
              · skip
                repeat (refine sets_quiet (fun w' => ∃ u, w' = W u) hU.out rfl (fun _ _ _ h => h) rfl ?_; intro K hK; go_big_quiet_op; first | go_big_quiet_on | (refine ⟨_, fun _ => rfl, ?_⟩; go_big_quiet_on))
                intro S w' hS hI
                rw [show S 14 = true from hS 14 (by decide), cond_true, HY.out, upd_up] at hI
                clear k2 hW hU HV
                replace hI := Lib.hid hI
                go_wp2
                go_roundw
                case rel => exact ⟨p + 1, by omega, by go_num, hI.out⟩
                case measure => (simp [intOf]; try omega)
        · obtain rfl : p = 6 - q := by omega
          rw [HZ.out] at HT
          have K9 : ((6 - q : Nat) : Int) + (q : Int) = 6 := by omega
          go_wp2_with (first
            | (refine wpList_load_blk rfl 24 _ rfl (w.heap.size + 1) rfl 24 (wv (A / 2 ^ c)) _ (HT.out.all 1 _ rfl) Tryd.underlying24 rfl (by kernel_rfl) ?_)
            | (refine wpList_store_blk rfl 24 _ _ rfl (w.heap.size + 1) (wv (A / 2 ^ c)) rfl rfl 24 (wv (A / 2 ^ c)) (HT.out.all 1 _ rfl) (by kernel_rfl) rfl (wv_one _) ?_))
          refine bodyPost_ret (results_cell_tmp rfl _ _ (w.heap.size + 1) 24 (wv (A / 2 ^ c)) _ rfl ((HT.out.setRow 1 (wv (A / 2 ^ c)) _ _ rfl).all 1 _ rfl) Tryd.underlying24 rfl (by kernel_rfl)) rfl ?_
          exact ⟨ret2 rfl (vbool HO.out.symm), (HT.out.setRow 1 (wv (A / 2 ^ c)) _ _ rfl).le⟩
end Go.Proofs.YtlpgflmjpdhpnaaDoor
