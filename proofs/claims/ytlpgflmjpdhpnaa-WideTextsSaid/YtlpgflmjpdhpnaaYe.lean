/- Contracts of abacusref02.Digit and abacusref02.Read. -/
import Derived.Test.YtlpgflmjpdhpnaaRows
import Derived.Test.YtlpgflmjpdhpnaaU
import Derived.Test.YtlpgflmjpdhpnaaXk
import Derived.Laws.Strings2
namespace Go.Proofs.Ytlpgflmjpdhpnaa
open Go.RowKit
set_option maxHeartbeats 4000000
set_option maxRecDepth 100000
set_option linter.unusedVariables false
set_option linter.unusedSimpArgs false
set_option exponentiation.threshold 1000
theorem digit_ok (c : Nat) (w : World) (hc : c < 256) (h : hexN c < 16) : Calls Try.prog 54 #[.int .u8 (c : Nat)] w fun e w' => e = .returned (.tuple #[.int .u64 (hexN c : Nat), .bool true]) ∧ w' = w := by
  obtain ⟨d, hd⟩ : ∃ d, hexN c = d := ⟨_, rfl⟩
  have hd' := hd
  unfold hexN at hd'
  rw [hd] at h ⊢
  by_cases r1 : 48 ≤ c ∧ c ≤ 57
  · rw [if_pos r1] at hd'
    have K2 : (c : Int) - 48 = (d : Int) := by omega
    have g1 : 48 ≤ (c : Int) := by omega
    have g2 : (c : Int) ≤ 57 := by omega
    clear hd hd' r1
    go_enter Try.func54, Try.ntmps54
    go_wp2
    go_ret2
    exact ⟨rfl, rfl⟩
  · rw [if_neg r1] at hd'
    by_cases r2 : 97 ≤ c ∧ c ≤ 102
    · rw [if_pos r2] at hd'
      obtain ⟨e, he⟩ : ∃ e, c - 97 = e := ⟨_, rfl⟩
      have K2 : (c : Int) - 97 = (e : Int) := by omega
      have K3 : (e : Int) + 10 = (d : Int) := by omega
      have g1 : 48 ≤ (c : Int) := by omega
      have g2 : ¬ (c : Int) ≤ 57 := by omega
      have g3 : 97 ≤ (c : Int) := by omega
      have g4 : (c : Int) ≤ 102 := by omega
      have he6 : e < 6 := by omega
      clear hd hd' he r1 r2
      go_enter Try.func54, Try.ntmps54
      go_wp2
      go_ret2
      exact ⟨rfl, rfl⟩
    · rw [if_neg r2] at hd'
      omega
theorem digit_no (c : Nat) (w : World) (hc : c < 256) (h : ¬ hexN c < 16) : Calls Try.prog 54 #[.int .u8 (c : Nat)] w fun e w' => e = .returned (.tuple #[.int .u64 0, .bool false]) ∧ w' = w := by
  unfold hexN at h
  have r1 : ¬ (48 ≤ c ∧ c ≤ 57) := fun r => h (by rw [if_pos r]; omega)
  have r2 : ¬ (97 ≤ c ∧ c ≤ 102) := fun r => h (by rw [if_neg r1, if_pos r]; omega)
  clear h
  go_enter Try.func54, Try.ntmps54
  go_wp2
  all_goals first
    | (exfalso; omega)
    | (go_ret2; exact ⟨rfl, rfl⟩)
theorem rread2_c (s : ByteArray) (w : World) (hs : s.size ≤ maxLen) : Calls Try.prog 37 #[.string s] w fun e w' => e = .returned (.tuple #[.agg (wv (readV s.data.toList)), .int .i64 (readE s.data.toList : Nat)]) ∧ Below w.heap.size w w' := by
  unfold maxLen at hs
  have hlen : s.data.toList.length = s.size := by simp
  by_cases h1 : s.size < 1
  · skip
    have hno : ¬ okText s.data.toList := fun h => by have := h.1.1; omega
    have HV : Hid (readV s.data.toList = 0) := Lib.hid (if_neg hno)
    have HE : Hid (readE s.data.toList = 20) := Lib.hid (if_neg hno)
    clear hno
    clear hlen
    go_enter Try.func37, Try.ntmps37
    have HS : Hid (Blks [(wv 0, 24), (wv 0, 24)] w.heap.size w ((w.alloc (.cells (wv 0) 24)).alloc (.cells (wv 0) 24))) := Lib.hid (((Blks.nil w).alloc rfl _ _).alloc (by simp) _ _)
    rw [wv_zero] at HS
    go_wp2
    refine bodyPost_ret (results_cell_tmp rfl _ _ w.heap.size 24 _ _ rfl (HS.out.all 0 _ rfl) Try.underlying24 rfl (by kernel_rfl)) rfl ?_
    exact ⟨ret2 (by rw [HV.out, wv_zero]) (vint (by rw [HE.out]; rfl)), HS.out.le⟩
  · by_cases h2 : 96 < s.size
    · skip
      have hno : ¬ okText s.data.toList := fun h => by have := h.1.2.1; omega
      have HV : Hid (readV s.data.toList = 0) := Lib.hid (if_neg hno)
      have HE : Hid (readE s.data.toList = 20) := Lib.hid (if_neg hno)
      clear hno
      clear hlen
      go_enter Try.func37, Try.ntmps37
      have HS : Hid (Blks [(wv 0, 24), (wv 0, 24)] w.heap.size w ((w.alloc (.cells (wv 0) 24)).alloc (.cells (wv 0) 24))) := Lib.hid (((Blks.nil w).alloc rfl _ _).alloc (by simp) _ _)
      rw [wv_zero] at HS
      go_wp2
      refine bodyPost_ret (results_cell_tmp rfl _ _ w.heap.size 24 _ _ rfl (HS.out.all 0 _ rfl) Try.underlying24 rfl (by kernel_rfl)) rfl ?_
      exact ⟨ret2 (by rw [HV.out, wv_zero]) (vint (by rw [HE.out]; rfl)), HS.out.le⟩
    · have h96 : s.size ≤ 96 := by omega
      have h0 : 0 < s.size := by omega
      clear h1 h2
      have h00 : s.data.toList[0]? = some s[0] := by rw [List.getElem?_eq_getElem (by simpa using h0)]; simp [ByteArray.getElem_eq_getElem_data]
      have h48 : s[0] = 48 ↔ s[0].toNat = 48 := ⟨fun h => by rw [h]; rfl, fun h => UInt8.toNat_inj.1 (by rw [h]; rfl)⟩
      by_cases h4 : s[0].toNat = 48
      · have h4' : ((s[0].toNat : Int) == 48) = true := by rw [h4]; rfl
        by_cases h3 : 1 < s.size
        · skip
          have hno : ¬ okText s.data.toList := fun h => h.1.2.2 ⟨by omega, by rw [h00, h48.2 h4]⟩
          have HV : Hid (readV s.data.toList = 0) := Lib.hid (if_neg hno)
          have HE : Hid (readE s.data.toList = 20) := Lib.hid (if_neg hno)
          clear hno
          clear hlen h00 h48 h4
          go_enter Try.func37, Try.ntmps37
          have HS : Hid (Blks [(wv 0, 24), (wv 0, 24)] w.heap.size w ((w.alloc (.cells (wv 0) 24)).alloc (.cells (wv 0) 24))) := Lib.hid (((Blks.nil w).alloc rfl _ _).alloc (by simp) _ _)
          rw [wv_zero] at HS
          go_wp2
          refine bodyPost_ret (results_cell_tmp rfl _ _ w.heap.size 24 _ _ rfl (HS.out.all 0 _ rfl) Try.underlying24 rfl (by kernel_rfl)) rfl ?_
          exact ⟨ret2 (by rw [HV.out, wv_zero]) (vint (by rw [HE.out]; rfl)), HS.out.le⟩
        · have HH : Hid (headed s.data.toList) := Lib.hid ⟨by omega, by omega, fun h => h3 (by have := h.1; omega)⟩
          have h3' : ¬ (1 : Int) < (s.size : Int) := by omega
          clear hlen h00 h48 h4
          go_enter Try.func37, Try.ntmps37
          have HS : Hid (Blks [(wv 0, 24), (wv 0, 24)] w.heap.size w ((w.alloc (.cells (wv 0) 24)).alloc (.cells (wv 0) 24))) := Lib.hid (((Blks.nil w).alloc rfl _ _).alloc (by simp) _ _)
          rw [wv_zero] at HS
          go_wp2
          go_loopw [5] (fun i wr => ∃ (k : Nat), k ≤ s.size ∧ i = .int .i64 k ∧ Blks [(wv 0, 24), (wv (horn (s.data.toList.take k)), 24)] w.heap.size w wr ∧ Hid (∀ c ∈ s.data.toList.take k, hexv c < 16)) (fun i _ => s.size - (intOf i).toNat)
          case atStart =>
            refine ⟨0, by omega, rfl, ?_, Lib.hid (by intro c hc; simp at hc)⟩
            rw [show horn (s.data.toList.take 0) = 0 by simp [horn], wv_zero]
            exact HS.out
          case round =>
            clear HS
            obtain ⟨k, hk, rfl, HB, HA⟩ := hrel
            replace HB := Lib.hid HB
            by_cases hlt : k < s.size
            · have hkl : k < s.data.toList.length := by simpa using hlt
              have hgl : s.data.toList[k] = s[k] := by simp [ByteArray.getElem_eq_getElem_data]
              obtain ⟨c, hc⟩ : ∃ c, s[k].toNat = c := ⟨_, rfl⟩
              have hcl : c < 256 := by rw [← hc]; exact UInt8.toNat_lt _
              have hd0 : hexv s.data.toList[k] = hexN c := by rw [hgl, hexv_hexN, hc]
              clear hgl
              by_cases r1 : hexN c < 16
              · have HD := Lib.hid hd0
                obtain ⟨d, hd⟩ : ∃ d, hexN c = d := ⟨_, rfl⟩
                have C1 : Hid (∀ W, Calls Try.prog 54 #[.int .u8 (c : Nat)] W fun e w' => e = .returned (.tuple #[.int .u64 (d : Nat), .bool true]) ∧ w' = W) := Lib.hid fun W => by
                  have := digit_ok c W hcl r1
                  rwa [hd] at this
                rw [hd] at HD r1
                obtain ⟨V, hV⟩ : ∃ V, horn (s.data.toList.take k) = V := ⟨_, rfl⟩
                have hVl : V < 2 ^ (4 * 95) := by
                  rw [← hV]
                  refine Nat.lt_of_lt_of_le (horn_lt k _ (by rw [List.length_take]; omega) HA.out) (Nat.pow_le_pow_right (by decide) (by omega))
                have hW : W384 = 16 * 2 ^ (4 * 95) := by rw [W384_two, ← show (2 : Nat) ^ 4 = 16 from rfl, ← Nat.pow_add]
                have hV16 : 16 * V < W384 := by rw [hW]; omega
                have hVW : V < W384 := by omega
                have hlf : leftW V 4 = 16 * V := by unfold leftW; rw [Nat.mul_comm V, Nat.mod_eq_of_lt hV16]
                have hnl : decide (W384 ≤ V * 2 ^ 4) = false := decide_eq_false (by rw [Nat.mul_comm]; exact Nat.not_le_of_lt hV16)
                have C2 : Hid (∀ W, Calls Try.prog 53 #[.agg (wv V), .int .i64 4] W fun e w' => e = .returned (.tuple #[.agg (wv (16 * V)), .bool false]) ∧ Below W.heap.size W w') := Lib.hid fun W => by
                  have := rleft2_c V 4 W hVW
                  rwa [show clamp 4 384 = 4 from rfl, hlf, hnl] at this
                have hT : (16 * V) % 2 ^ (4 * (0 + 1)) = 0 := Nat.mul_mod_right 16 V
                obtain ⟨y, hy⟩ : ∃ y, limb (16 * V + d) 0 = y := ⟨_, rfl⟩
                have f3 : bits .or .u64 ((limb (16 * V) 0 : Nat) : Int) (d : Int) = (y : Int) := by
                  have e := or_digit (k := 0) hT r1
                  rw [Nat.mul_zero, Nat.pow_zero, Nat.mul_one] at e
                  have e2 : limb d 0 = d := by have := limb_digit (k := 0) r1 0; simpa using this
                  rw [or_nat _ _ (limb_lt _ _) (by omega), ← hy, ← e, limb_or, e2]
                have hset : (wv (16 * V)).setIfInBounds 0 (.int .u64 (y : Nat)) = wv (16 * V + d) := by
                  have e := wv_digit (k := 0) hT r1
                  rw [Nat.mul_zero, Nat.pow_zero, Nat.mul_one, Nat.zero_div, hy] at e
                  exact e
                have HSET := Lib.hid hset
                have HN : Hid (horn (s.data.toList.take (k + 1)) = 16 * V + d) := Lib.hid (by rw [horn_take hkl, hV, HD.out])
                have HA2 : Hid (∀ c ∈ s.data.toList.take (k + 1), hexv c < 16) := Lib.hid (by
                  rw [List.take_succ_eq_append_getElem hkl]
                  intro z hz
                  rcases List.mem_append.1 hz with h | h
                  · exact HA.out z h
                  · rw [List.mem_singleton.1 h, HD.out]; exact r1)
                rw [hV] at HB
                obtain ⟨U, hU⟩ : ∃ U, 16 * V = U := ⟨_, rfl⟩
                rw [hU] at C2 f3 HSET HN
                clear hV hVl hW hV16 hVW hlf hnl hT hy hset hd0 HD HA hU hd r1 hcl
                go_wp2_with (first
                  | (go_at_call 54; (with_reducible refine (C1.out _).mono ?_); rintro e w' ⟨rfl, rfl⟩; clear C1)
                  | (refine wpList_load_wv rfl 24 _ rfl (w.heap.size + 1) rfl 24 V _ (HB.out.all 1 _ rfl) Try.underlying24 rfl (by kernel_rfl) ?_)
                  | (go_at_call 53; (with_reducible refine (C2.out _).mono ?_); rintro e w1 ⟨rfl, b1⟩; clear C2; have H1 := Lib.hid (HB.out.call (HB.out.all 1 _ rfl).lt b1); clear HB b1)
                  | (refine wpList_store_wv rfl 24 _ _ rfl (w.heap.size + 1) U rfl rfl 24 V (H1.out.all 1 _ rfl) (by kernel_rfl) ?_; have H2 := Lib.hid (H1.out.setRow 1 (wv U) _ _ rfl); have c1 : (w1.setRow (w.heap.size + 1) (wv U)).cell? ⟨w.heap.size + 1, 0, none⟩ = some (.int .u64 (limb U 0 : Nat)) := ((H2.out.all 1 _ rfl).cell 0).trans (wv_get _ _ (by decide)); have c2 : (w1.setRow (w.heap.size + 1) (wv U)).frozen? ⟨w.heap.size + 1, 0, none⟩ = false := (H2.out.all 1 _ rfl).frozen 0; have H3 := Lib.hid (H2.out.setCell 1 0 (.int .u64 (y : Nat)) _ _ rfl); clear H1 H2))
                go_roundw
                case rel => exact ⟨k + 1, by omega, by go_num, by rw [HN.out, ← HSET.out]; exact H3.out, HA2⟩
                case measure => (simp [intOf]; try omega)
              · have hno : ¬ okText s.data.toList := fun h => by
                  have := h.2 s.data.toList[k] (List.getElem_mem hkl)
                  rw [hd0] at this
                  exact r1 this
                have C1 : Hid (∀ W, Calls Try.prog 54 #[.int .u8 (c : Nat)] W fun e w' => e = .returned (.tuple #[.int .u64 0, .bool false]) ∧ w' = W) := Lib.hid fun W => digit_no c W hcl r1
                have HV : Hid (readV s.data.toList = 0) := Lib.hid (if_neg hno)
                have HE : Hid (readE s.data.toList = 20) := Lib.hid (if_neg hno)
                clear hno
                clear hd0 r1 hcl
                go_wp2_with (first
                  | (go_at_call 54; (with_reducible refine (C1.out _).mono ?_); rintro e w' ⟨rfl, rfl⟩; clear C1)
                  | (refine wpList_store_blk rfl 24 _ _ rfl w.heap.size #[.int .u64 0, .int .u64 0, .int .u64 0, .int .u64 0, .int .u64 0, .int .u64 0] rfl rfl 24 (wv 0) (HB.out.all 0 _ rfl) (by kernel_rfl) (wv_size 0) zeros_one ?_))
                refine bodyPost_ret (results_cell_tmp rfl _ _ w.heap.size 24 _ _ rfl ((HB.out.setRow 0 #[.int .u64 0, .int .u64 0, .int .u64 0, .int .u64 0, .int .u64 0, .int .u64 0] _ _ rfl).all 0 _ rfl) Try.underlying24 rfl (by kernel_rfl)) rfl ?_
                exact ⟨ret2 (by rw [HV.out, wv_zero]) (vint (by rw [HE.out]; rfl)), (HB.out.setRow 0 #[.int .u64 0, .int .u64 0, .int .u64 0, .int .u64 0, .int .u64 0, .int .u64 0] _ _ rfl).le⟩
            · obtain rfl : k = s.size := by omega
              have hall : s.data.toList.take s.size = s.data.toList := List.take_of_length_le (by simp)
              rw [hall] at HA HB
              have hok : okText s.data.toList := ⟨HH.out, HA.out⟩
              have HV : Hid (readV s.data.toList = horn s.data.toList) := Lib.hid (if_pos hok)
              have HE : Hid (readE s.data.toList = 0) := Lib.hid (if_pos hok)
              clear hall hok hlt
              go_wp2_with (first
                | (refine wpList_load_blk rfl 24 _ rfl (w.heap.size + 1) rfl 24 (wv (horn s.data.toList)) _ (HB.out.all 1 _ rfl) Try.underlying24 rfl (by kernel_rfl) ?_)
                | (refine wpList_store_blk rfl 24 _ _ rfl (w.heap.size) (wv (horn s.data.toList)) rfl rfl 24 (wv 0) (HB.out.all 0 _ rfl) (by kernel_rfl) rfl (wv_one _) ?_))
              refine bodyPost_ret (results_cell_tmp rfl _ _ w.heap.size 24 (wv (horn s.data.toList)) _ rfl ((HB.out.setRow 0 (wv (horn s.data.toList)) _ _ rfl).all 0 _ rfl) Try.underlying24 rfl (by kernel_rfl)) rfl ?_
              exact ⟨ret2 (by rw [HV.out]) (vint (by rw [HE.out]; rfl)), (HB.out.setRow 0 (wv (horn s.data.toList)) _ _ rfl).le⟩
      · have HH : Hid (headed s.data.toList) := Lib.hid ⟨by omega, by omega, fun h => h4 (h48.1 (by have := h.2; rw [h00] at this; exact Option.some.inj this))⟩
        have h4' : ((s[0].toNat : Int) == 48) = false := by rw [beq_eq_false_iff_ne]; omega
        clear hlen h00 h48 h4
        go_enter Try.func37, Try.ntmps37
        have HS : Hid (Blks [(wv 0, 24), (wv 0, 24)] w.heap.size w ((w.alloc (.cells (wv 0) 24)).alloc (.cells (wv 0) 24))) := Lib.hid (((Blks.nil w).alloc rfl _ _).alloc (by simp) _ _)
        rw [wv_zero] at HS
        go_wp2
        go_loopw [5] (fun i wr => ∃ (k : Nat), k ≤ s.size ∧ i = .int .i64 k ∧ Blks [(wv 0, 24), (wv (horn (s.data.toList.take k)), 24)] w.heap.size w wr ∧ Hid (∀ c ∈ s.data.toList.take k, hexv c < 16)) (fun i _ => s.size - (intOf i).toNat)
        case atStart =>
          refine ⟨0, by omega, rfl, ?_, Lib.hid (by intro c hc; simp at hc)⟩
          rw [show horn (s.data.toList.take 0) = 0 by simp [horn], wv_zero]
          exact HS.out
        case round =>
          clear HS
          obtain ⟨k, hk, rfl, HB, HA⟩ := hrel
          replace HB := Lib.hid HB
          by_cases hlt : k < s.size
          · have hkl : k < s.data.toList.length := by simpa using hlt
            have hgl : s.data.toList[k] = s[k] := by simp [ByteArray.getElem_eq_getElem_data]
            obtain ⟨c, hc⟩ : ∃ c, s[k].toNat = c := ⟨_, rfl⟩
            have hcl : c < 256 := by rw [← hc]; exact UInt8.toNat_lt _
            have hd0 : hexv s.data.toList[k] = hexN c := by rw [hgl, hexv_hexN, hc]
            clear hgl
            by_cases r1 : hexN c < 16
            · have HD := Lib.hid hd0
              obtain ⟨d, hd⟩ : ∃ d, hexN c = d := ⟨_, rfl⟩
              have C1 : Hid (∀ W, Calls Try.prog 54 #[.int .u8 (c : Nat)] W fun e w' => e = .returned (.tuple #[.int .u64 (d : Nat), .bool true]) ∧ w' = W) := Lib.hid fun W => by
                have := digit_ok c W hcl r1
                rwa [hd] at this
              rw [hd] at HD r1
              obtain ⟨V, hV⟩ : ∃ V, horn (s.data.toList.take k) = V := ⟨_, rfl⟩
              have hVl : V < 2 ^ (4 * 95) := by
                rw [← hV]
                refine Nat.lt_of_lt_of_le (horn_lt k _ (by rw [List.length_take]; omega) HA.out) (Nat.pow_le_pow_right (by decide) (by omega))
              have hW : W384 = 16 * 2 ^ (4 * 95) := by rw [W384_two, ← show (2 : Nat) ^ 4 = 16 from rfl, ← Nat.pow_add]
              have hV16 : 16 * V < W384 := by rw [hW]; omega
              have hVW : V < W384 := by omega
              have hlf : leftW V 4 = 16 * V := by unfold leftW; rw [Nat.mul_comm V, Nat.mod_eq_of_lt hV16]
              have hnl : decide (W384 ≤ V * 2 ^ 4) = false := decide_eq_false (by rw [Nat.mul_comm]; exact Nat.not_le_of_lt hV16)
              have C2 : Hid (∀ W, Calls Try.prog 53 #[.agg (wv V), .int .i64 4] W fun e w' => e = .returned (.tuple #[.agg (wv (16 * V)), .bool false]) ∧ Below W.heap.size W w') := Lib.hid fun W => by
                have := rleft2_c V 4 W hVW
                rwa [show clamp 4 384 = 4 from rfl, hlf, hnl] at this
              have hT : (16 * V) % 2 ^ (4 * (0 + 1)) = 0 := Nat.mul_mod_right 16 V
              obtain ⟨y, hy⟩ : ∃ y, limb (16 * V + d) 0 = y := ⟨_, rfl⟩
              have f3 : bits .or .u64 ((limb (16 * V) 0 : Nat) : Int) (d : Int) = (y : Int) := by
                have e := or_digit (k := 0) hT r1
                rw [Nat.mul_zero, Nat.pow_zero, Nat.mul_one] at e
                have e2 : limb d 0 = d := by have := limb_digit (k := 0) r1 0; simpa using this
                rw [or_nat _ _ (limb_lt _ _) (by omega), ← hy, ← e, limb_or, e2]
              have hset : (wv (16 * V)).setIfInBounds 0 (.int .u64 (y : Nat)) = wv (16 * V + d) := by
                have e := wv_digit (k := 0) hT r1
                rw [Nat.mul_zero, Nat.pow_zero, Nat.mul_one, Nat.zero_div, hy] at e
                exact e
              have HSET := Lib.hid hset
              have HN : Hid (horn (s.data.toList.take (k + 1)) = 16 * V + d) := Lib.hid (by rw [horn_take hkl, hV, HD.out])
              have HA2 : Hid (∀ c ∈ s.data.toList.take (k + 1), hexv c < 16) := Lib.hid (by
                rw [List.take_succ_eq_append_getElem hkl]
                intro z hz
                rcases List.mem_append.1 hz with h | h
                · exact HA.out z h
                · rw [List.mem_singleton.1 h, HD.out]; exact r1)
              rw [hV] at HB
              obtain ⟨U, hU⟩ : ∃ U, 16 * V = U := ⟨_, rfl⟩
              rw [hU] at C2 f3 HSET HN
              clear hV hVl hW hV16 hVW hlf hnl hT hy hset hd0 HD HA hU hd r1 hcl
              go_wp2_with (first
                | (go_at_call 54; (with_reducible refine (C1.out _).mono ?_); rintro e w' ⟨rfl, rfl⟩; clear C1)
                | (refine wpList_load_wv rfl 24 _ rfl (w.heap.size + 1) rfl 24 V _ (HB.out.all 1 _ rfl) Try.underlying24 rfl (by kernel_rfl) ?_)
                | (go_at_call 53; (with_reducible refine (C2.out _).mono ?_); rintro e w1 ⟨rfl, b1⟩; clear C2; have H1 := Lib.hid (HB.out.call (HB.out.all 1 _ rfl).lt b1); clear HB b1)
                | (refine wpList_store_wv rfl 24 _ _ rfl (w.heap.size + 1) U rfl rfl 24 V (H1.out.all 1 _ rfl) (by kernel_rfl) ?_; have H2 := Lib.hid (H1.out.setRow 1 (wv U) _ _ rfl); have c1 : (w1.setRow (w.heap.size + 1) (wv U)).cell? ⟨w.heap.size + 1, 0, none⟩ = some (.int .u64 (limb U 0 : Nat)) := ((H2.out.all 1 _ rfl).cell 0).trans (wv_get _ _ (by decide)); have c2 : (w1.setRow (w.heap.size + 1) (wv U)).frozen? ⟨w.heap.size + 1, 0, none⟩ = false := (H2.out.all 1 _ rfl).frozen 0; have H3 := Lib.hid (H2.out.setCell 1 0 (.int .u64 (y : Nat)) _ _ rfl); clear H1 H2))
              go_roundw
              case rel => exact ⟨k + 1, by omega, by go_num, by rw [HN.out, ← HSET.out]; exact H3.out, HA2⟩
              case measure => (simp [intOf]; try omega)
            · have hno : ¬ okText s.data.toList := fun h => by
                have := h.2 s.data.toList[k] (List.getElem_mem hkl)
                rw [hd0] at this
                exact r1 this
              have C1 : Hid (∀ W, Calls Try.prog 54 #[.int .u8 (c : Nat)] W fun e w' => e = .returned (.tuple #[.int .u64 0, .bool false]) ∧ w' = W) := Lib.hid fun W => digit_no c W hcl r1
              have HV : Hid (readV s.data.toList = 0) := Lib.hid (if_neg hno)
              have HE : Hid (readE s.data.toList = 20) := Lib.hid (if_neg hno)
              clear hno
              clear hd0 r1 hcl
              go_wp2_with (first
                | (go_at_call 54; (with_reducible refine (C1.out _).mono ?_); rintro e w' ⟨rfl, rfl⟩; clear C1)
                | (refine wpList_store_blk rfl 24 _ _ rfl w.heap.size #[.int .u64 0, .int .u64 0, .int .u64 0, .int .u64 0, .int .u64 0, .int .u64 0] rfl rfl 24 (wv 0) (HB.out.all 0 _ rfl) (by kernel_rfl) (wv_size 0) zeros_one ?_))
              refine bodyPost_ret (results_cell_tmp rfl _ _ w.heap.size 24 _ _ rfl ((HB.out.setRow 0 #[.int .u64 0, .int .u64 0, .int .u64 0, .int .u64 0, .int .u64 0, .int .u64 0] _ _ rfl).all 0 _ rfl) Try.underlying24 rfl (by kernel_rfl)) rfl ?_
              exact ⟨ret2 (by rw [HV.out, wv_zero]) (vint (by rw [HE.out]; rfl)), (HB.out.setRow 0 #[.int .u64 0, .int .u64 0, .int .u64 0, .int .u64 0, .int .u64 0, .int .u64 0] _ _ rfl).le⟩
          · obtain rfl : k = s.size := by omega
            have hall : s.data.toList.take s.size = s.data.toList := List.take_of_length_le (by simp)
            rw [hall] at HA HB
            have hok : okText s.data.toList := ⟨HH.out, HA.out⟩
            have HV : Hid (readV s.data.toList = horn s.data.toList) := Lib.hid (if_pos hok)
            have HE : Hid (readE s.data.toList = 0) := Lib.hid (if_pos hok)
            clear hall hok hlt
            go_wp2_with (first
              | (refine wpList_load_blk rfl 24 _ rfl (w.heap.size + 1) rfl 24 (wv (horn s.data.toList)) _ (HB.out.all 1 _ rfl) Try.underlying24 rfl (by kernel_rfl) ?_)
              | (refine wpList_store_blk rfl 24 _ _ rfl (w.heap.size) (wv (horn s.data.toList)) rfl rfl 24 (wv 0) (HB.out.all 0 _ rfl) (by kernel_rfl) rfl (wv_one _) ?_))
            refine bodyPost_ret (results_cell_tmp rfl _ _ w.heap.size 24 (wv (horn s.data.toList)) _ rfl ((HB.out.setRow 0 (wv (horn s.data.toList)) _ _ rfl).all 0 _ rfl) Try.underlying24 rfl (by kernel_rfl)) rfl ?_
            exact ⟨ret2 (by rw [HV.out]) (vint (by rw [HE.out]; rfl)), (HB.out.setRow 0 (wv (horn s.data.toList)) _ _ rfl).le⟩
end Go.Proofs.Ytlpgflmjpdhpnaa
