/- Contracts of abacusref28.Same, bytes.Equal, abacuslaw28.spoil. -/
import Derived.Test.YtdgdmhmagdjeoaaUd
import Derived.Laws.BytesArg
import Derived.Lib.Bytes
import Derived.Deep.QuietTactic
import Derived.BigQuiet
namespace Go.Proofs.Ytdgdmhmagdjeoaa
open Go.RowKit
set_option maxHeartbeats 4000000
set_option maxRecDepth 100000
set_option linter.unusedVariables false
set_option linter.unusedSimpArgs false
theorem take_same {l m : List Nat} {k : Nat} (hl : k < l.length) (hm : k < m.length) (h : l.take k = m.take k) (he : l[k]?.getD 0 = m[k]?.getD 0) : l.take (k + 1) = m.take (k + 1) := by
  rw [List.take_add_one, List.take_add_one, h]
  rw [List.getElem?_eq_getElem hl, List.getElem?_eq_getElem hm] at he ⊢
  simp only [Option.getD_some] at he
  rw [he]
theorem take_other {l m : List Nat} {k : Nat} (he : ¬ l[k]?.getD 0 = m[k]?.getD 0) : l ≠ m := fun h => he (by rw [h])
theorem same_len (w : World) (ao bo : Option Addr) (n m c d : Nat) (hn : ¬ n = m) :
    Calls Try.prog 12 #[.slice ao n c, .slice bo m d] w fun e w' => e = .returned (.bool false) ∧ ∃ k, w' = w.drewN k := by
  have h : ((n : Int) == (m : Int)) = false := by rw [beq_eq_false_iff_ne]; omega
  go_enter Try.func12, Try.ntmps12
  go_wp2
  go_ret
  exact ⟨rfl, 0, rfl⟩
theorem same_c (w : World) (ao bo : Option Addr) (l m : List Nat) (c d : Nat) (hl : l.length = m.length) (hlen : l.length ≤ 9223372036854775807) (hr : Rd w ao l) (hr2 : Rd w bo m) :
    Calls Try.prog 12 #[.slice ao l.length c, .slice bo l.length d] w fun e w' => e = .returned (.bool (decide (l = m))) ∧ ∃ k, w' = w.drewN k := by
  obtain ⟨n, hnl⟩ : ∃ n, l.length = n := ⟨_, rfl⟩
  rw [hnl] at hl hlen ⊢
  have HN := Lib.hid hnl
  have HM := Lib.hid hl.symm
  have HR := Lib.hid hr
  have HR2 := Lib.hid hr2
  clear hnl hl hr hr2
  go_enter Try.func12, Try.ntmps12
  go_wp2
  go_loopw [5] (fun i wr => ∃ k q : Nat, k ≤ n ∧ i = .int .i64 k ∧ l.take k = m.take k ∧ wr = w.drewN q) (fun i _ => n - (intOf i).toNat)
  case atStart => exact ⟨0, 0, by omega, rfl, rfl, rfl⟩
  case round =>
    obtain ⟨k, q, hk, rfl, ht, rfl⟩ := hrel
    have HT := Lib.hid ht
    clear ht
    by_cases hlt : k < n
    · obtain ⟨a, rfl, hc⟩ := HR.out k (by rw [HN.out]; exact hlt)
      obtain ⟨b, rfl, hc2⟩ := HR2.out k (by rw [HM.out]; exact hlt)
      obtain ⟨x, hx⟩ : ∃ x, l[k]?.getD 0 = x := ⟨_, rfl⟩
      obtain ⟨y, hy⟩ : ∃ y, m[k]?.getD 0 = y := ⟨_, rfl⟩
      rw [hx] at hc
      rw [hy] at hc2
      have HX := Lib.hid hx
      have HY := Lib.hid hy
      clear hx hy
      by_cases hxy : x = y
      · obtain rfl := hxy
        have H1 := Lib.hid (take_same (by rw [HN.out]; exact hlt) (by rw [HM.out]; exact hlt) HT.out (HX.out.trans HY.out.symm))
        go_wp2_with fail
        go_quiet (fail)
        go_wp2
        go_roundw
        case rel => exact ⟨k + 1, _, by omega, by go_num, H1.out, rfl⟩
        case measure => simp [intOf]; omega
      · have h1 : ((x : Int) == (y : Int)) = false := by rw [beq_eq_false_iff_ne]; omega
        have h2 : ((x : Int) != (y : Int)) = true := by rw [bne, h1]; rfl
        have H1 := Lib.hid (take_other (l := l) (m := m) (k := k) (by rw [HX.out, HY.out]; exact hxy))
        go_wp2_with fail
        go_quiet (fail)
        go_wp2
        go_ret
        exact ⟨ret1 (vbool (decide_eq_false H1.out).symm), _, World.drewN_drewN _ _ _⟩
    · go_wp2
      go_ret
      refine ⟨ret1 (vbool (decide_eq_true ?_).symm), _, rfl⟩
      have := HT.out
      rwa [List.take_of_length_le (by rw [HN.out]; omega), List.take_of_length_le (by rw [HM.out]; omega)] at this
/-- whatever two -/
theorem same_any (w : World) (ao bo : Option Addr) (l m : List Nat) (c d : Nat) (hlen : l.length ≤ 9223372036854775807) (hr : Rd w ao l) (hr2 : Rd w bo m) :
    Calls Try.prog 12 #[.slice ao l.length c, .slice bo m.length d] w fun e w' => e = .returned (.bool (decide (l = m))) ∧ ∃ k, w' = w.drewN k := by
  by_cases h : l.length = m.length
  · have := same_c w ao bo l m c d h hlen hr hr2
    rwa [← h]
  · rw [decide_eq_false (fun e => h (by rw [e]))]
    exact same_len w ao bo _ _ c d h
/-! bytes.Equal -/
def strOf (l : List Nat) : ByteArray := strOfNums (l.map fun (x : Nat) => (x : Int))
theorem strOf_list (l : List Nat) : (strOf l).toList = l.map fun x => UInt8.ofNat x := by
  unfold strOf
  rw [Lib.strOfNums_toList]
  unfold Lib.bytesOf
  rw [List.map_map]; rfl
theorem map_u8_inj : ∀ {l m : List Nat}, (∀ x ∈ l, x < 256) → (∀ x ∈ m, x < 256) → (l.map fun x => UInt8.ofNat x) = (m.map fun x => UInt8.ofNat x) → l = m
  | [], [], _, _, _ => rfl
  | [], _ :: _, _, _, h => by simp at h
  | _ :: _, [], _, _, h => by simp at h
  | x :: l, y :: m, hl, hm, h => by
    simp only [List.map_cons, List.cons.injEq] at h
    have hx := hl x (by simp)
    have hy := hm y (by simp)
    have e : x = y := by
      have := congrArg UInt8.toNat h.1
      simpa [UInt8.toNat_ofNat', Nat.mod_eq_of_lt hx, Nat.mod_eq_of_lt hy] using this
    rw [e, map_u8_inj (fun z hz => hl z (by simp [hz])) (fun z hz => hm z (by simp [hz])) h.2]
theorem Rd.conv {w : World} {ao : Option Addr} {l : List Nat} (h : Rd w ao l) (hp : ∀ a, ao = some a → a.spot = none) (c : Nat) : (convert 29 9 (.slice ao l.length c)).run Try.prog w = .ok (.string (strOf l)) w := by
  cases l with
  | nil =>
    show (convert 29 9 (.slice ao 0 c)).run Try.prog w = _
    rw [run_convert_bytes_string w 29 9 5 _ 0 c Try.underlying29 Try.underlying5 Try.underlying9]
    cases ao <;> simp [Conv.bytesToString, loadCells] <;> rfl
  | cons x l =>
    obtain ⟨⟨b, o, s⟩, rfl, _⟩ := h 0 (by simp)
    obtain rfl : s = none := hp _ rfl
    refine run_convert_bytes_arg (P := Try.prog) w _ 5 Try.underlying29 Try.underlying5 b o _ c _ (by simp) (fun i hi => ?_) _ Try.underlying9
    obtain ⟨a, ha, hc⟩ := h i hi
    cases ha
    have e : (⟨b, o, none⟩ : Addr).add i = ⟨b, o + i, none⟩ := by unfold Addr.add; split <;> simp_all
    rw [e] at hc
    rw [hc]
    congr 2
    rw [List.getD_eq_getElem?_getD, List.getElem?_map, List.getElem?_eq_getElem hi]; rfl
theorem equal_c (w : World) (ao bo : Option Addr) (l m : List Nat) (c d : Nat) (hr : Rd w ao l) (hr2 : Rd w bo m) (hp : ∀ a, ao = some a → a.spot = none) (hp2 : ∀ a, bo = some a → a.spot = none) (hl : ∀ x ∈ l, x < 256) (hm : ∀ x ∈ m, x < 256) :
    Calls Try.prog 34 #[.slice ao l.length c, .slice bo m.length d] w fun e w' => e = .returned (.bool (decide (l = m))) ∧ w' = w := by
  have h1 := hr.conv hp c
  have h2 := hr2.conv hp2 d
  have HE : Hid (((strOf l).toList == (strOf m).toList) = decide (l = m)) := Lib.hid (by
    rw [strOf_list, strOf_list]
    by_cases h : l = m
    · rw [decide_eq_true h, h]; simp
    · rw [decide_eq_false h, beq_eq_false_iff_ne]
      exact fun e => h (map_u8_inj hl hm e))
  obtain ⟨n, hn⟩ : ∃ n, l.length = n := ⟨_, rfl⟩
  obtain ⟨k, hk⟩ : ∃ n, m.length = n := ⟨_, rfl⟩
  rw [hn] at h1 ⊢
  rw [hk] at h2 ⊢
  clear hr hr2 hp hp2 hl hm hn hk
  go_enter Try.func34, Try.ntmps34
  go_wp2
  go_ret
  exact ⟨ret1 (vbool HE.out), rfl⟩
def spoilt (l : List Nat) (k : Nat) : List Nat := List.replicate k 77 ++ l.drop k
theorem spoilt_length {l : List Nat} {k : Nat} (h : k ≤ l.length) : (spoilt l k).length = l.length := by simp [spoilt]; omega
theorem spoilt_set {l : List Nat} {k : Nat} (h : k < l.length) : (spoilt l k).set k 77 = spoilt l (k + 1) := by
  unfold spoilt
  rw [List.set_append_right _ _ (by simp), List.length_replicate, Nat.sub_self, List.drop_eq_getElem_cons h, List.set_cons_zero, List.replicate_succ', List.append_assoc]
  rfl
theorem spoilt_all (l : List Nat) : spoilt l l.length = List.replicate l.length 77 := by simp [spoilt]
theorem spoil_nil (w : World) : Calls Try.prog 26 #[.slice none 0 0] w fun e w' => e = .returned (.tuple #[]) ∧ w' = w := by
  go_enter Try.func26, Try.ntmps26
  go_wp2
  refine wp_loop_rounds 1 ?_
  rw [rounds_succ]
  go_wp2
  go_end0
  exact ⟨rfl, rfl⟩
theorem spoil_some (w : World) (B g cap : Nat) (l : List Nat) (hlen : l.length ≤ 9223372036854775807) (h : Row w B (.slice (some ⟨g, 0, none⟩) l.length cap) l) :
    Calls Try.prog 26 #[.slice (some ⟨g, 0, none⟩) l.length cap] w fun e w' => e = .returned (.tuple #[]) ∧ Row w' B (.slice (some ⟨g, 0, none⟩) l.length cap) (List.replicate l.length 77) ∧ w.grownBy w' (some g) := by
  have hall := Lib.hid (spoilt_all l)
  obtain ⟨n, hnl⟩ : ∃ n, l.length = n := ⟨_, rfl⟩
  rw [hnl] at hlen h hall ⊢
  have HN := Lib.hid hnl
  have H0 := Lib.hid h
  clear hnl h
  go_enter Try.func26, Try.ntmps26
  go_wp2
  go_loopw [2] (fun i wr => ∃ k : Nat, k ≤ n ∧ i = .int .i64 k ∧ Row wr B (.slice (some ⟨g, 0, none⟩) n cap) (spoilt l k) ∧ w.grownBy wr (some g)) (fun i _ => n - (intOf i).toNat)
  case atStart => exact ⟨0, by omega, rfl, H0.out, World.grownBy.refl _ _⟩
  case round =>
    obtain ⟨k, hk, rfl, hrow, hg⟩ := hrel
    have hsl : (spoilt l k).length = n := (spoilt_length (by rw [HN.out]; exact hk)).trans HN.out
    have HL := Lib.hid hsl
    by_cases hlt : k < n
    · have hc := hrow.cell k (by rw [HL.out]; exact hlt)
      have hf := hrow.frozen k
      have hset := hrow.set k 77
      rw [spoilt_set (by rw [HN.out]; exact hlt)] at hset
      have HSET := Lib.hid hset
      have HG := Lib.hid (grown_set_row hg k (.int .u8 77))
      clear hset hrow hg hsl
      go_wp2
      go_roundw
      case rel => exact ⟨k + 1, by omega, by go_num, HSET.out, HG.out⟩
      case measure => simp [intOf]; omega
    · obtain rfl : k = n := by omega
      clear hsl
      go_wp2
      go_end0
      exact ⟨rfl, by rw [← hall.out]; exact hrow, hg⟩
end Go.Proofs.Ytdgdmhmagdjeoaa
