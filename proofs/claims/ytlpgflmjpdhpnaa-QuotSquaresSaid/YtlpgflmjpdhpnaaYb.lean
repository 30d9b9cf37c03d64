/- The contract of abacusref02.into: a word is added at a place of a row, with its carries. -/
import Derived.Test.YtlpgflmjpdhpnaaRows
import Derived.Test.YtlpgflmjpdhpnaaH
import Derived.Test.YtlpgflmjpdhpnaaR
namespace Go.Proofs.Ytlpgflmjpdhpnaa
open Go.RowKit
set_option maxHeartbeats 4000000
set_option maxRecDepth 100000
set_option linter.unusedVariables false
set_option linter.unusedSimpArgs false
theorem into_c (b T p x : Nat) (w : World) (hb : Blk w b (cellsN 13 (limb T)) 22) (hT : T + x * Bk p < Bk 13) (hp : p < 13) (hx : x < 18446744073709551616) :
    Calls Try.prog 43 #[.slice (some ⟨b, 0, none⟩) 13 13, .int .i64 p, .int .u64 x] w fun e w' => e = .returned (.slice (some ⟨b, 0, none⟩) 13 13) ∧ w' = w.setRow b (cellsN 13 (limb (T + x * Bk p))) := by
  have HG := Lib.hid hT
  have HF := Lib.hid (IntoW.first (T := T) (x := x) (k := p) (by have : 0 ≤ x * Bk p := Nat.zero_le _; omega) hp hx)
  obtain ⟨G, hG⟩ : ∃ G, T + x * Bk p = G := ⟨_, rfl⟩
  rw [hG] at HF HG
  rw [hG]
  clear hT hG
  have HB := Lib.hid hb
  have c1 : w.cell? ⟨b, p, none⟩ = some (.int .u64 (limb T p : Nat)) := (hb.cell p).trans (cellsN_get _ _ _ hp)
  have c2 : w.frozen? ⟨b, p, none⟩ = false := hb.frozen p
  clear hb
  have ht := limb_lt T p
  have HW : Hid (w.setCell ⟨b, p, none⟩ (.int .u64 (addv (limb T p) x false : Nat)) = w.setRow b (cellsN 13 (limb (setw T p (addv (limb T p) x false))))) := Lib.hid (by
    have := setCell_eq_setRow w b p _ _ _ (.int .u64 (addv (limb T p) x false : Nat)) HB.out
    rwa [cellsN_setw _ _ _ _ (addv_lt _ _ _)] at this)
  have C1 : Hid (∀ W, Calls Try.prog 50 #[.int .u64 (limb T p : Nat), .int .u64 (x : Nat), .bool false] W fun e w' => e = .returned (.tuple #[.int .u64 (addv (limb T p) x false : Nat), .bool (addc (limb T p) x false)]) ∧ w' = W) := Lib.hid (fun W => radd_c _ _ _ W ht hx)
  clear hx ht
  go_enter Try.func43, Try.ntmps43
  go_wp2_with (go_at_call 50; (with_reducible refine (C1.out _).mono ?_); rintro e w' ⟨rfl, hw⟩; rw [hw]; clear hw w')
  go_loopw [8, 9] (fun c i wr => ∃ (k S : Nat) (cr : Bool), k ≤ 13 ∧ i = .int .i64 k ∧ c = .bool cr ∧ wr = w.setRow b (cellsN 13 (limb S)) ∧ Hid (IntoW G k S cr)) (fun _ i _ => 13 - (intOf i).toNat)
  case atStart => exact ⟨p + 1, _, _, by omega, by go_num, rfl, HW.out, HF⟩
  case round =>
    clear HW HF C1 c1 c2
    obtain ⟨k, S, cr, hk, rfl, rfl, rfl, HI⟩ := hrel
    by_cases hc : cr = true ∧ k < 13
    · obtain ⟨rfl, hlt⟩ := hc
      have HN := Lib.hid (HI.out.step hlt)
      have hB : Blk (w.setRow b (cellsN 13 (limb S))) b (cellsN 13 (limb S)) 22 := HB.out.row _
      have c1 : (w.setRow b (cellsN 13 (limb S))).cell? ⟨b, k, none⟩ = some (.int .u64 (limb S k : Nat)) := (hB.cell k).trans (cellsN_get _ _ _ hlt)
      have c2 : (w.setRow b (cellsN 13 (limb S))).frozen? ⟨b, k, none⟩ = false := hB.frozen k
      have HW : Hid ((w.setRow b (cellsN 13 (limb S))).setCell ⟨b, k, none⟩ (.int .u64 ((limb S k + 1) % 18446744073709551616 : Nat)) = w.setRow b (cellsN 13 (limb (setw S k ((limb S k + 1) % 18446744073709551616))))) := Lib.hid (by
        have := setCell_eq_setRow _ b k _ _ _ (.int .u64 ((limb S k + 1) % 18446744073709551616 : Nat)) hB
        rwa [cellsN_setw _ _ _ _ (Nat.mod_lt _ (by decide)), setRow_setRow] at this)
      have c3 : IntKind.u64.wrap ((limb S k : Nat) + 1) = (((limb S k + 1) % 18446744073709551616 : Nat) : Int) := by rw [IntKind.wrap_u64]; omega
      clear hB HI
      obtain ⟨y, hy⟩ : ∃ y, (limb S k + 1) % 18446744073709551616 = y := ⟨_, rfl⟩
      rw [hy] at HN HW c3
      clear hy
      go_wp2
      go_roundw
      case rel => exact ⟨k + 1, _, _, by omega, by go_num, vbool (by by_cases h : y = 0 <;> simp [h] <;> omega), HW.out, HN⟩
      case measure => (simp [intOf]; try omega)
    · have HD : Hid (S = G) := Lib.hid (HI.out.done HG.out (by cases cr with | false => exact .inl rfl | true => exact .inr (by have := hc; simp at this; omega)))
      cases cr with
      | false =>
        clear hc HI
        go_wp2
        go_ret
        exact ⟨rfl, by rw [HD.out]⟩
      | true =>
        have h13 : k = 13 := by simp at hc; omega
        subst h13
        clear hc HI
        go_wp2
        go_ret
        exact ⟨rfl, by rw [HD.out]⟩
end Go.Proofs.Ytlpgflmjpdhpnaa
