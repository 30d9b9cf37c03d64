/- The contract of wide.Read. -/
import Derived.Test.YtlpgflmjpdhpnaaDoorRows
import Derived.Test.YtlpgflmjpdhpnaaDoorU
import Derived.Laws.Strings2
namespace Go.Proofs.YtlpgflmjpdhpnaaDoor
open Go.RowKit
set_option maxHeartbeats 4000000
set_option maxRecDepth 100000
set_option linter.unusedVariables false
set_option linter.unusedSimpArgs false
theorem wread_c (s : ByteArray) (w : World) (hs : s.size ≤ maxLen) : Calls Tryd.prog 43 #[.string s] w fun e w' => e = .returned (.tuple #[.agg (wv (readV s.data.toList)), .int .i64 (readE s.data.toList : Nat)]) ∧ Below w.heap.size w w' := by
  unfold maxLen at hs
  have hlen : s.data.toList.length = s.size := by simp
  by_cases h1 : s.size < 1
  · skip
    have hno : ¬ okText s.data.toList := fun h => by have := h.1.1; omega
    have HV : Hid (readV s.data.toList = 0) := Lib.hid (if_neg hno)
    have HE : Hid (readE s.data.toList = 20) := Lib.hid (if_neg hno)
    clear hno
    clear hlen
    go_enter Tryd.func43, Tryd.ntmps43
    have HS : Hid (Blks [(wv 0, 24), (wv 0, 24)] w.heap.size w ((w.alloc (.cells (wv 0) 24)).alloc (.cells (wv 0) 24))) := Lib.hid (((Blks.nil w).alloc rfl _ _).alloc (by simp) _ _)
    rw [wv_zero] at HS
    go_wp2
    refine bodyPost_ret (results_cell_tmp rfl _ _ w.heap.size 24 _ _ rfl (HS.out.all 0 _ rfl) Tryd.underlying24 rfl (by kernel_rfl)) rfl ?_
    exact ⟨ret2 (by rw [HV.out, wv_zero]) (vint (by rw [HE.out]; rfl)), HS.out.le⟩
  · by_cases h2 : 96 < s.size
    · skip
      have hno : ¬ okText s.data.toList := fun h => by have := h.1.2.1; omega
      have HV : Hid (readV s.data.toList = 0) := Lib.hid (if_neg hno)
      have HE : Hid (readE s.data.toList = 20) := Lib.hid (if_neg hno)
      clear hno
      clear hlen
      go_enter Tryd.func43, Tryd.ntmps43
      have HS : Hid (Blks [(wv 0, 24), (wv 0, 24)] w.heap.size w ((w.alloc (.cells (wv 0) 24)).alloc (.cells (wv 0) 24))) := Lib.hid (((Blks.nil w).alloc rfl _ _).alloc (by simp) _ _)
      rw [wv_zero] at HS
      go_wp2
      refine bodyPost_ret (results_cell_tmp rfl _ _ w.heap.size 24 _ _ rfl (HS.out.all 0 _ rfl) Tryd.underlying24 rfl (by kernel_rfl)) rfl ?_
      exact ⟨ret2 (by rw [HV.out, wv_zero]) (vint (by rw [HE.out]; rfl)), HS.out.le⟩
    · have h96 : s.size ≤ 96 := by omega
      have h0 : 0 < s.size := by omega
      clear h1 h2
      have h00 : s.data.toList[0]? = some s[0] := by rw [List.getElem?_eq_getElem (by simpa using h0)]; simp [ByteArray.getElem_eq_getElem_data]
      have h48 : s[0] = 48 ↔ s[0].toNat = 48 := ⟨fun h => by rw [h]; rfl, fun h => UInt8.toNat_inj.1 (by rw [h]; rfl)⟩
      by_cases h3 : 1 < s.size
      · by_cases h4 : s[0].toNat = 48
        · skip
          have hno : ¬ okText s.data.toList := fun h => h.1.2.2 ⟨by omega, by rw [h00, h48.2 h4]⟩
          have HV : Hid (readV s.data.toList = 0) := Lib.hid (if_neg hno)
          have HE : Hid (readE s.data.toList = 20) := Lib.hid (if_neg hno)
          clear hno
          have h4' : ((s[0].toNat : Int) == 48) = true := by rw [h4]; rfl
          clear hlen h00 h48 h4
          go_enter Tryd.func43, Tryd.ntmps43
          have HS : Hid (Blks [(wv 0, 24), (wv 0, 24)] w.heap.size w ((w.alloc (.cells (wv 0) 24)).alloc (.cells (wv 0) 24))) := Lib.hid (((Blks.nil w).alloc rfl _ _).alloc (by simp) _ _)
          rw [wv_zero] at HS
          go_wp2
          refine bodyPost_ret (results_cell_tmp rfl _ _ w.heap.size 24 _ _ rfl (HS.out.all 0 _ rfl) Tryd.underlying24 rfl (by kernel_rfl)) rfl ?_
          exact ⟨ret2 (by rw [HV.out, wv_zero]) (vint (by rw [HE.out]; rfl)), HS.out.le⟩
        · have HH : Hid (headed s.data.toList) := Lib.hid ⟨by omega, by omega, fun h => h4 (h48.1 (by have := h.2; rw [h00] at this; exact Option.some.inj this))⟩
          have h4' : ((s[0].toNat : Int) == 48) = false := by rw [beq_eq_false_iff_ne]; omega
          clear hlen h00 h48 h4
          go_enter Tryd.func43, Tryd.ntmps43
          have HS : Hid (Blks [(wv 0, 24), (wv 0, 24)] w.heap.size w ((w.alloc (.cells (wv 0) 24)).alloc (.cells (wv 0) 24))) := Lib.hid (((Blks.nil w).alloc rfl _ _).alloc (by simp) _ _)
          rw [wv_zero] at HS
          go_wp2
          go_loopw [5] (fun i wr => ∃ (k : Nat), k ≤ s.size ∧ i = .int .i64 k ∧ Blks [(wv 0, 24), (wv (horn (s.data.toList.take k) * 2 ^ (4 * (s.size - k))), 24)] w.heap.size w wr ∧ Hid (∀ c ∈ s.data.toList.take k, hexv c < 16)) (fun i _ => s.size - (intOf i).toNat)
          case atStart =>
            refine ⟨0, by omega, rfl, ?_, Lib.hid (by intro c hc; simp at hc)⟩
            rw [show horn (s.data.toList.take 0) * 2 ^ (4 * (s.size - 0)) = 0 by simp [horn], wv_zero]
            exact HS.out
          case round =>
            clear HS
            obtain ⟨k, hk, rfl, HB, HA⟩ := hrel
            replace HB := Lib.hid HB
            by_cases hlt : k < s.size
            · obtain ⟨K, hK⟩ : ∃ K, s.size - 1 - k = K := ⟨_, rfl⟩
              have hKn : K + 1 + k = s.size := by omega
              have K1 : (s.size : Int) - 1 - (k : Int) = (K : Int) := by omega
              have hK96 : K < 96 := by omega
              have hkl : k < s.data.toList.length := by simpa using hlt
              obtain ⟨T, hT0⟩ : ∃ T, horn (s.data.toList.take k) * 2 ^ (4 * (s.size - k)) = T := ⟨_, rfl⟩
              have hT : T % 2 ^ (4 * (K + 1)) = 0 := by rw [← hT0, show s.size - k = K + 1 by omega]; exact Nat.mul_mod_left _ _
              have HT : Hid (T = horn (s.data.toList.take k) * 2 ^ (4 * (s.size - k))) := Lib.hid hT0.symm
              rw [hT0] at HB
              clear hT0 hK
              have hc1 : wr.cell? ⟨w.heap.size + 1, K / 16, none⟩ = some (.int .u64 (limb T (K / 16) : Nat)) := ((HB.out.all 1 _ rfl).cell _).trans (wv_get _ _ (by omega))
              have hc2 : wr.frozen? ⟨w.heap.size + 1, K / 16, none⟩ = false := (HB.out.all 1 _ rfl).frozen _
              have hgl : s.data.toList[k] = s[k] := by simp [ByteArray.getElem_eq_getElem_data]
              obtain ⟨c, hc⟩ : ∃ c, s[k].toNat = c := ⟨_, rfl⟩
              have hcl : c < 256 := by rw [← hc]; exact UInt8.toNat_lt _
              have hd0 : hexv s.data.toList[k] = if 48 ≤ c ∧ c ≤ 57 then c - 48 else if 97 ≤ c ∧ c ≤ 102 then c - 87 else 16 := by rw [hgl]; unfold hexv; rw [hc]
              clear hgl
              by_cases r1 : 48 ≤ c ∧ c ≤ 57
              · rw [if_pos r1] at hd0
                have HD := Lib.hid hd0
                obtain ⟨d, hd⟩ : ∃ d, c - 48 = d := ⟨_, rfl⟩
                rw [hd] at HD
                have hd16 : d < 16 := by omega
                have K2 : (c : Int) - 48 = (d : Int) := by omega
                have g1 : 48 ≤ (c : Int) := by omega
                have g2 : (c : Int) ≤ 57 := by omega
                clear hd0 hd r1
                obtain ⟨x, hx⟩ : ∃ x, d * 2 ^ (4 * (K % 16)) = x := ⟨_, rfl⟩
                have hxl : x < 18446744073709551616 := by
                  have h1 : 2 ^ (4 * (K % 16)) ≤ 2 ^ 60 := Nat.pow_le_pow_right (by decide) (by omega)
                  have h2 : d * 2 ^ (4 * (K % 16)) ≤ 15 * 2 ^ 60 := Nat.mul_le_mul (by omega) h1
                  omega
                have f2 : IntKind.u64.wrap ((d : Int) * 2 ^ (4 * (K % 16))) = (x : Int) := by rw [show (d : Int) * 2 ^ (4 * (K % 16)) = ((d * 2 ^ (4 * (K % 16)) : Nat) : Int) by simp, hx, wrap_lt _ hxl]
                obtain ⟨y, hy⟩ : ∃ y, limb (T + d * 2 ^ (4 * K)) (K / 16) = y := ⟨_, rfl⟩
                have f3 : bits .or .u64 ((limb T (K / 16) : Nat) : Int) (x : Int) = (y : Int) := by
                  rw [or_nat _ _ (limb_lt _ _) hxl, ← hy, ← or_digit hT hd16, limb_or, limb_digit hd16, if_pos rfl, hx]
                have HV : Hid (Blks [(wv 0, 24), (wv (T + d * 2 ^ (4 * K)), 24)] w.heap.size w (wr.setCell ⟨w.heap.size + 1, K / 16, none⟩ (.int .u64 (y : Nat)))) := Lib.hid (by
                  have := HB.out.setCell 1 (K / 16) (.int .u64 (y : Nat)) _ _ rfl
                  rw [← hy, wv_digit hT hd16] at this
                  rw [← hy]
                  exact this)
                have HN : Hid (horn (s.data.toList.take (k + 1)) * 2 ^ (4 * (s.size - (k + 1))) = T + d * 2 ^ (4 * K)) := Lib.hid (by
                  rw [HT.out, horn_take hkl, HD.out, show s.size - (k + 1) = K by omega, show s.size - k = K + 1 by omega, show 4 * (K + 1) = 4 + 4 * K by omega, Nat.pow_add, Nat.add_mul]
                  congr 1
                  rw [Nat.mul_comm 16, Nat.mul_assoc])
                have HA2 : Hid (∀ c ∈ s.data.toList.take (k + 1), hexv c < 16) := Lib.hid (by
                  rw [List.take_succ_eq_append_getElem hkl]
                  intro z hz
                  rcases List.mem_append.1 hz with h | h
                  · exact HA.out z h
                  · rw [List.mem_singleton.1 h, HD.out]; exact hd16)
                clear hx hy hxl hT HB HT HD HA
                go_wp2
                go_roundw
                case rel => exact ⟨k + 1, by omega, by go_num, by rw [HN.out]; exact HV.out, HA2⟩
                case measure => (simp [intOf]; try omega)
              · by_cases r2 : 97 ≤ c ∧ c ≤ 102
                · rw [if_neg r1, if_pos r2] at hd0
                  have HD := Lib.hid hd0
                  obtain ⟨d, hd⟩ : ∃ d, c - 87 = d := ⟨_, rfl⟩
                  rw [hd] at HD
                  have hd16 : d < 16 := by omega
                  obtain ⟨e, he⟩ : ∃ e, c - 97 = e := ⟨_, rfl⟩
                  have K2 : (c : Int) - 97 = (e : Int) := by omega
                  have K3 : (e : Int) + 10 = (d : Int) := by omega
                  have g1 : 48 ≤ (c : Int) := by omega
                  have g2 : ¬ (c : Int) ≤ 57 := by omega
                  have g3 : 97 ≤ (c : Int) := by omega
                  have g4 : (c : Int) ≤ 102 := by omega
                  have he6 : e < 6 := by omega
                  clear hd0 hd he r1 r2
                  obtain ⟨x, hx⟩ : ∃ x, d * 2 ^ (4 * (K % 16)) = x := ⟨_, rfl⟩
                  have hxl : x < 18446744073709551616 := by
                    have h1 : 2 ^ (4 * (K % 16)) ≤ 2 ^ 60 := Nat.pow_le_pow_right (by decide) (by omega)
                    have h2 : d * 2 ^ (4 * (K % 16)) ≤ 15 * 2 ^ 60 := Nat.mul_le_mul (by omega) h1
                    omega
                  have f2 : IntKind.u64.wrap ((d : Int) * 2 ^ (4 * (K % 16))) = (x : Int) := by rw [show (d : Int) * 2 ^ (4 * (K % 16)) = ((d * 2 ^ (4 * (K % 16)) : Nat) : Int) by simp, hx, wrap_lt _ hxl]
                  obtain ⟨y, hy⟩ : ∃ y, limb (T + d * 2 ^ (4 * K)) (K / 16) = y := ⟨_, rfl⟩
                  have f3 : bits .or .u64 ((limb T (K / 16) : Nat) : Int) (x : Int) = (y : Int) := by
                    rw [or_nat _ _ (limb_lt _ _) hxl, ← hy, ← or_digit hT hd16, limb_or, limb_digit hd16, if_pos rfl, hx]
                  have HV : Hid (Blks [(wv 0, 24), (wv (T + d * 2 ^ (4 * K)), 24)] w.heap.size w (wr.setCell ⟨w.heap.size + 1, K / 16, none⟩ (.int .u64 (y : Nat)))) := Lib.hid (by
                    have := HB.out.setCell 1 (K / 16) (.int .u64 (y : Nat)) _ _ rfl
                    rw [← hy, wv_digit hT hd16] at this
                    rw [← hy]
                    exact this)
                  have HN : Hid (horn (s.data.toList.take (k + 1)) * 2 ^ (4 * (s.size - (k + 1))) = T + d * 2 ^ (4 * K)) := Lib.hid (by
                    rw [HT.out, horn_take hkl, HD.out, show s.size - (k + 1) = K by omega, show s.size - k = K + 1 by omega, show 4 * (K + 1) = 4 + 4 * K by omega, Nat.pow_add, Nat.add_mul]
                    congr 1
                    rw [Nat.mul_comm 16, Nat.mul_assoc])
                  have HA2 : Hid (∀ c ∈ s.data.toList.take (k + 1), hexv c < 16) := Lib.hid (by
                    rw [List.take_succ_eq_append_getElem hkl]
                    intro z hz
                    rcases List.mem_append.1 hz with h | h
                    · exact HA.out z h
                    · rw [List.mem_singleton.1 h, HD.out]; exact hd16)
                  clear hx hy hxl hT HB HT HD HA
                  go_wp2
                  go_roundw
                  case rel => exact ⟨k + 1, by omega, by go_num, by rw [HN.out]; exact HV.out, HA2⟩
                  case measure => (simp [intOf]; try omega)
                · rw [if_neg r1, if_neg r2] at hd0
                  have hno : ¬ okText s.data.toList := fun h => by
                    have := h.2 s.data.toList[k] (List.getElem_mem hkl)
                    rw [hd0] at this
                    omega
                  have HV : Hid (readV s.data.toList = 0) := Lib.hid (if_neg hno)
                  have HE : Hid (readE s.data.toList = 20) := Lib.hid (if_neg hno)
                  clear hno hd0
                  go_wp2_with (refine wpList_store_blk rfl 24 _ _ rfl w.heap.size #[.int .u64 0, .int .u64 0, .int .u64 0, .int .u64 0, .int .u64 0, .int .u64 0] rfl rfl 24 (wv 0) (HB.out.all 0 _ rfl) (by kernel_rfl) (wv_size 0) zeros_one ?_)
                  all_goals
                    refine bodyPost_ret (results_cell_tmp rfl _ _ w.heap.size 24 _ _ rfl ((HB.out.setRow 0 #[.int .u64 0, .int .u64 0, .int .u64 0, .int .u64 0, .int .u64 0, .int .u64 0] _ _ rfl).all 0 _ rfl) Tryd.underlying24 rfl (by kernel_rfl)) rfl ?_
                    exact ⟨ret2 (by rw [HV.out, wv_zero]) (vint (by rw [HE.out]; rfl)), (HB.out.setRow 0 #[.int .u64 0, .int .u64 0, .int .u64 0, .int .u64 0, .int .u64 0, .int .u64 0] _ _ rfl).le⟩
            · obtain rfl : k = s.size := by omega
              have hall : s.data.toList.take s.size = s.data.toList := List.take_of_length_le (by simp)
              rw [hall] at HA HB
              rw [show horn s.data.toList * 2 ^ (4 * (s.size - s.size)) = horn s.data.toList by simp] at HB
              have hok : okText s.data.toList := ⟨HH.out, HA.out⟩
              have HV : Hid (readV s.data.toList = horn s.data.toList) := Lib.hid (if_pos hok)
              have HE : Hid (readE s.data.toList = 0) := Lib.hid (if_pos hok)
              clear hall hok hlt
              go_wp2_with (first
                | (refine wpList_load_blk rfl 24 _ rfl (w.heap.size + 1) rfl 24 (wv (horn s.data.toList)) _ (HB.out.all 1 _ rfl) Tryd.underlying24 rfl (by kernel_rfl) ?_)
                | (refine wpList_store_blk rfl 24 _ _ rfl (w.heap.size) (wv (horn s.data.toList)) rfl rfl 24 (wv 0) (HB.out.all 0 _ rfl) (by kernel_rfl) rfl (wv_one _) ?_))
              refine bodyPost_ret (results_cell_tmp rfl _ _ w.heap.size 24 (wv (horn s.data.toList)) _ rfl ((HB.out.setRow 0 (wv (horn s.data.toList)) _ _ rfl).all 0 _ rfl) Tryd.underlying24 rfl (by kernel_rfl)) rfl ?_
              exact ⟨ret2 (by rw [HV.out]) (vint (by rw [HE.out]; rfl)), (HB.out.setRow 0 (wv (horn s.data.toList)) _ _ rfl).le⟩
      · have HH : Hid (headed s.data.toList) := Lib.hid ⟨by omega, by omega, fun h => h3 (by have := h.1; omega)⟩
        clear hlen h00 h48
        go_enter Tryd.func43, Tryd.ntmps43
        have HS : Hid (Blks [(wv 0, 24), (wv 0, 24)] w.heap.size w ((w.alloc (.cells (wv 0) 24)).alloc (.cells (wv 0) 24))) := Lib.hid (((Blks.nil w).alloc rfl _ _).alloc (by simp) _ _)
        rw [wv_zero] at HS
        go_wp2
        go_loopw [5] (fun i wr => ∃ (k : Nat), k ≤ s.size ∧ i = .int .i64 k ∧ Blks [(wv 0, 24), (wv (horn (s.data.toList.take k) * 2 ^ (4 * (s.size - k))), 24)] w.heap.size w wr ∧ Hid (∀ c ∈ s.data.toList.take k, hexv c < 16)) (fun i _ => s.size - (intOf i).toNat)
        case atStart =>
          refine ⟨0, by omega, rfl, ?_, Lib.hid (by intro c hc; simp at hc)⟩
          rw [show horn (s.data.toList.take 0) * 2 ^ (4 * (s.size - 0)) = 0 by simp [horn], wv_zero]
          exact HS.out
        case round =>
          clear HS
          obtain ⟨k, hk, rfl, HB, HA⟩ := hrel
          replace HB := Lib.hid HB
          by_cases hlt : k < s.size
          · obtain ⟨K, hK⟩ : ∃ K, s.size - 1 - k = K := ⟨_, rfl⟩
            have hKn : K + 1 + k = s.size := by omega
            have K1 : (s.size : Int) - 1 - (k : Int) = (K : Int) := by omega
            have hK96 : K < 96 := by omega
            have hkl : k < s.data.toList.length := by simpa using hlt
            obtain ⟨T, hT0⟩ : ∃ T, horn (s.data.toList.take k) * 2 ^ (4 * (s.size - k)) = T := ⟨_, rfl⟩
            have hT : T % 2 ^ (4 * (K + 1)) = 0 := by rw [← hT0, show s.size - k = K + 1 by omega]; exact Nat.mul_mod_left _ _
            have HT : Hid (T = horn (s.data.toList.take k) * 2 ^ (4 * (s.size - k))) := Lib.hid hT0.symm
            rw [hT0] at HB
            clear hT0 hK
            have hc1 : wr.cell? ⟨w.heap.size + 1, K / 16, none⟩ = some (.int .u64 (limb T (K / 16) : Nat)) := ((HB.out.all 1 _ rfl).cell _).trans (wv_get _ _ (by omega))
            have hc2 : wr.frozen? ⟨w.heap.size + 1, K / 16, none⟩ = false := (HB.out.all 1 _ rfl).frozen _
            have hgl : s.data.toList[k] = s[k] := by simp [ByteArray.getElem_eq_getElem_data]
            obtain ⟨c, hc⟩ : ∃ c, s[k].toNat = c := ⟨_, rfl⟩
            have hcl : c < 256 := by rw [← hc]; exact UInt8.toNat_lt _
            have hd0 : hexv s.data.toList[k] = if 48 ≤ c ∧ c ≤ 57 then c - 48 else if 97 ≤ c ∧ c ≤ 102 then c - 87 else 16 := by rw [hgl]; unfold hexv; rw [hc]
            clear hgl
            by_cases r1 : 48 ≤ c ∧ c ≤ 57
            · rw [if_pos r1] at hd0
              have HD := Lib.hid hd0
              obtain ⟨d, hd⟩ : ∃ d, c - 48 = d := ⟨_, rfl⟩
              rw [hd] at HD
              have hd16 : d < 16 := by omega
              have K2 : (c : Int) - 48 = (d : Int) := by omega
              have g1 : 48 ≤ (c : Int) := by omega
              have g2 : (c : Int) ≤ 57 := by omega
              clear hd0 hd r1
              obtain ⟨x, hx⟩ : ∃ x, d * 2 ^ (4 * (K % 16)) = x := ⟨_, rfl⟩
              have hxl : x < 18446744073709551616 := by
                have h1 : 2 ^ (4 * (K % 16)) ≤ 2 ^ 60 := Nat.pow_le_pow_right (by decide) (by omega)
                have h2 : d * 2 ^ (4 * (K % 16)) ≤ 15 * 2 ^ 60 := Nat.mul_le_mul (by omega) h1
                omega
              have f2 : IntKind.u64.wrap ((d : Int) * 2 ^ (4 * (K % 16))) = (x : Int) := by rw [show (d : Int) * 2 ^ (4 * (K % 16)) = ((d * 2 ^ (4 * (K % 16)) : Nat) : Int) by simp, hx, wrap_lt _ hxl]
              obtain ⟨y, hy⟩ : ∃ y, limb (T + d * 2 ^ (4 * K)) (K / 16) = y := ⟨_, rfl⟩
              have f3 : bits .or .u64 ((limb T (K / 16) : Nat) : Int) (x : Int) = (y : Int) := by
                rw [or_nat _ _ (limb_lt _ _) hxl, ← hy, ← or_digit hT hd16, limb_or, limb_digit hd16, if_pos rfl, hx]
              have HV : Hid (Blks [(wv 0, 24), (wv (T + d * 2 ^ (4 * K)), 24)] w.heap.size w (wr.setCell ⟨w.heap.size + 1, K / 16, none⟩ (.int .u64 (y : Nat)))) := Lib.hid (by
                have := HB.out.setCell 1 (K / 16) (.int .u64 (y : Nat)) _ _ rfl
                rw [← hy, wv_digit hT hd16] at this
                rw [← hy]
                exact this)
              have HN : Hid (horn (s.data.toList.take (k + 1)) * 2 ^ (4 * (s.size - (k + 1))) = T + d * 2 ^ (4 * K)) := Lib.hid (by
                rw [HT.out, horn_take hkl, HD.out, show s.size - (k + 1) = K by omega, show s.size - k = K + 1 by omega, show 4 * (K + 1) = 4 + 4 * K by omega, Nat.pow_add, Nat.add_mul]
                congr 1
                rw [Nat.mul_comm 16, Nat.mul_assoc])
              have HA2 : Hid (∀ c ∈ s.data.toList.take (k + 1), hexv c < 16) := Lib.hid (by
                rw [List.take_succ_eq_append_getElem hkl]
                intro z hz
                rcases List.mem_append.1 hz with h | h
                · exact HA.out z h
                · rw [List.mem_singleton.1 h, HD.out]; exact hd16)
              clear hx hy hxl hT HB HT HD HA
              go_wp2
              go_roundw
              case rel => exact ⟨k + 1, by omega, by go_num, by rw [HN.out]; exact HV.out, HA2⟩
              case measure => (simp [intOf]; try omega)
            · by_cases r2 : 97 ≤ c ∧ c ≤ 102
              · rw [if_neg r1, if_pos r2] at hd0
                have HD := Lib.hid hd0
                obtain ⟨d, hd⟩ : ∃ d, c - 87 = d := ⟨_, rfl⟩
                rw [hd] at HD
                have hd16 : d < 16 := by omega
                obtain ⟨e, he⟩ : ∃ e, c - 97 = e := ⟨_, rfl⟩
                have K2 : (c : Int) - 97 = (e : Int) := by omega
                have K3 : (e : Int) + 10 = (d : Int) := by omega
                have g1 : 48 ≤ (c : Int) := by omega
                have g2 : ¬ (c : Int) ≤ 57 := by omega
                have g3 : 97 ≤ (c : Int) := by omega
                have g4 : (c : Int) ≤ 102 := by omega
                have he6 : e < 6 := by omega
                clear hd0 hd he r1 r2
                obtain ⟨x, hx⟩ : ∃ x, d * 2 ^ (4 * (K % 16)) = x := ⟨_, rfl⟩
                have hxl : x < 18446744073709551616 := by
                  have h1 : 2 ^ (4 * (K % 16)) ≤ 2 ^ 60 := Nat.pow_le_pow_right (by decide) (by omega)
                  have h2 : d * 2 ^ (4 * (K % 16)) ≤ 15 * 2 ^ 60 := Nat.mul_le_mul (by omega) h1
                  omega
                have f2 : IntKind.u64.wrap ((d : Int) * 2 ^ (4 * (K % 16))) = (x : Int) := by rw [show (d : Int) * 2 ^ (4 * (K % 16)) = ((d * 2 ^ (4 * (K % 16)) : Nat) : Int) by simp, hx, wrap_lt _ hxl]
                obtain ⟨y, hy⟩ : ∃ y, limb (T + d * 2 ^ (4 * K)) (K / 16) = y := ⟨_, rfl⟩
                have f3 : bits .or .u64 ((limb T (K / 16) : Nat) : Int) (x : Int) = (y : Int) := by
                  rw [or_nat _ _ (limb_lt _ _) hxl, ← hy, ← or_digit hT hd16, limb_or, limb_digit hd16, if_pos rfl, hx]
                have HV : Hid (Blks [(wv 0, 24), (wv (T + d * 2 ^ (4 * K)), 24)] w.heap.size w (wr.setCell ⟨w.heap.size + 1, K / 16, none⟩ (.int .u64 (y : Nat)))) := Lib.hid (by
                  have := HB.out.setCell 1 (K / 16) (.int .u64 (y : Nat)) _ _ rfl
                  rw [← hy, wv_digit hT hd16] at this
                  rw [← hy]
                  exact this)
                have HN : Hid (horn (s.data.toList.take (k + 1)) * 2 ^ (4 * (s.size - (k + 1))) = T + d * 2 ^ (4 * K)) := Lib.hid (by
                  rw [HT.out, horn_take hkl, HD.out, show s.size - (k + 1) = K by omega, show s.size - k = K + 1 by omega, show 4 * (K + 1) = 4 + 4 * K by omega, Nat.pow_add, Nat.add_mul]
                  congr 1
                  rw [Nat.mul_comm 16, Nat.mul_assoc])
                have HA2 : Hid (∀ c ∈ s.data.toList.take (k + 1), hexv c < 16) := Lib.hid (by
                  rw [List.take_succ_eq_append_getElem hkl]
                  intro z hz
                  rcases List.mem_append.1 hz with h | h
                  · exact HA.out z h
                  · rw [List.mem_singleton.1 h, HD.out]; exact hd16)
                clear hx hy hxl hT HB HT HD HA
                go_wp2
                go_roundw
                case rel => exact ⟨k + 1, by omega, by go_num, by rw [HN.out]; exact HV.out, HA2⟩
                case measure => (simp [intOf]; try omega)
              · rw [if_neg r1, if_neg r2] at hd0
                have hno : ¬ okText s.data.toList := fun h => by
                  have := h.2 s.data.toList[k] (List.getElem_mem hkl)
                  rw [hd0] at this
                  omega
                have HV : Hid (readV s.data.toList = 0) := Lib.hid (if_neg hno)
                have HE : Hid (readE s.data.toList = 20) := Lib.hid (if_neg hno)
                clear hno hd0
                go_wp2_with (refine wpList_store_blk rfl 24 _ _ rfl w.heap.size #[.int .u64 0, .int .u64 0, .int .u64 0, .int .u64 0, .int .u64 0, .int .u64 0] rfl rfl 24 (wv 0) (HB.out.all 0 _ rfl) (by kernel_rfl) (wv_size 0) zeros_one ?_)
                all_goals
                  refine bodyPost_ret (results_cell_tmp rfl _ _ w.heap.size 24 _ _ rfl ((HB.out.setRow 0 #[.int .u64 0, .int .u64 0, .int .u64 0, .int .u64 0, .int .u64 0, .int .u64 0] _ _ rfl).all 0 _ rfl) Tryd.underlying24 rfl (by kernel_rfl)) rfl ?_
                  exact ⟨ret2 (by rw [HV.out, wv_zero]) (vint (by rw [HE.out]; rfl)), (HB.out.setRow 0 #[.int .u64 0, .int .u64 0, .int .u64 0, .int .u64 0, .int .u64 0, .int .u64 0] _ _ rfl).le⟩
          · obtain rfl : k = s.size := by omega
            have hall : s.data.toList.take s.size = s.data.toList := List.take_of_length_le (by simp)
            rw [hall] at HA HB
            rw [show horn s.data.toList * 2 ^ (4 * (s.size - s.size)) = horn s.data.toList by simp] at HB
            have hok : okText s.data.toList := ⟨HH.out, HA.out⟩
            have HV : Hid (readV s.data.toList = horn s.data.toList) := Lib.hid (if_pos hok)
            have HE : Hid (readE s.data.toList = 0) := Lib.hid (if_pos hok)
            clear hall hok hlt
            go_wp2_with (first
              | (refine wpList_load_blk rfl 24 _ rfl (w.heap.size + 1) rfl 24 (wv (horn s.data.toList)) _ (HB.out.all 1 _ rfl) Tryd.underlying24 rfl (by kernel_rfl) ?_)
              | (refine wpList_store_blk rfl 24 _ _ rfl (w.heap.size) (wv (horn s.data.toList)) rfl rfl 24 (wv 0) (HB.out.all 0 _ rfl) (by kernel_rfl) rfl (wv_one _) ?_))
            refine bodyPost_ret (results_cell_tmp rfl _ _ w.heap.size 24 (wv (horn s.data.toList)) _ rfl ((HB.out.setRow 0 (wv (horn s.data.toList)) _ _ rfl).all 0 _ rfl) Tryd.underlying24 rfl (by kernel_rfl)) rfl ?_
            exact ⟨ret2 (by rw [HV.out]) (vint (by rw [HE.out]; rfl)), (HB.out.setRow 0 (wv (horn s.data.toList)) _ _ rfl).le⟩
end Go.Proofs.YtlpgflmjpdhpnaaDoor
