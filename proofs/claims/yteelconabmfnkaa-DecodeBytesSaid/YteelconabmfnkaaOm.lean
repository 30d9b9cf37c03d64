/- Bytes that came in, opened for a row. -/
import Derived.Test.YteelconabmfnkaaOi
import Derived.Test.YteelconabmfnkaaUa
namespace Go.Proofs.Yteelconabmfnkaa
open Go Go.RowKit Go.ChangeShapes Go.WideShapes
set_option linter.unusedVariables false
set_option linter.unusedSimpArgs false
theorem cellsU8 : Try.prog.cellsOf 5 = 1 := by kernel_rfl
section
variable {H : Type} {enc : TypeId × Value → H} {P : Program} {w : World} {base : Nat} {spare : Nat → Bool} {held : Bool} {fuel : Nat}
theorem wf_b8 {z : Int} (h : (Lit.int .u8 z).wf = true) : 0 ≤ z ∧ z < 256 := by
  have : 0 ≤ z ∧ z ≤ 255 := by simpa [Lit.wf, IntKind.min, IntKind.max, IntKind.signed, IntKind.bits] using h
  omega
/-- bytes that came in -/
theorem open_bytes {t e : TypeId} {v : Value} {x : DataW H × List MemPlace} (ht : P.underlying t = some (.slice e)) (he : P.underlying e = some (.int .u8)) (hc : P.cellsOf e = 1) (h : DataW.trod enc P w base spare held fuel t [v] = some x) :
    ∃ (ao : Option Addr) (c : Nat) (l : List Nat), v = .slice ao l.length c ∧ Rd w ao l ∧ (∀ y ∈ l, y < 256) ∧ l.length ≤ c ∧ c ≤ maxLen ∧ (ao = none → l.length = 0 ∧ c = 0) := by
  rcases open_ints ht he hc h with ⟨hcs, _⟩ | ⟨a, len, cap, zs, hcs, _, hl, hm, hz, _, hcell, hwz⟩
  · obtain rfl : v = .slice none 0 0 := by simpa using hcs
    exact ⟨none, 0, [], rfl, Rd.nil _ _, by simp, Nat.le_refl _, by unfold maxLen; omega, fun _ => ⟨rfl, rfl⟩⟩
  · obtain rfl : v = .slice (some a) len cap := by simpa using hcs
    have hle : len ≤ zs.length := by rw [hz]; split <;> omega
    have hlen : ((zs.take len).map Int.toNat).length = len := by simp; omega
    refine ⟨some a, cap, (zs.take len).map Int.toNat, by rw [hlen], fun i hi => ⟨a, rfl, ?_⟩, fun y hy => ?_, by omega, hm, fun e => by cases e⟩
    · rw [hlen] at hi
      rw [hcell i (by omega)]
      have hiz : i < zs.length := by omega
      have hw := wf_b8 (hwz zs[i] (List.getElem_mem hiz))
      congr 2
      rw [List.getD_eq_getElem?_getD, List.getElem?_map, List.getElem?_take, if_pos hi, List.getElem?_eq_getElem hiz]
      simp only [Option.getD_some, Option.map_some]
      omega
    · obtain ⟨z, hz2, rfl⟩ := List.mem_map.1 hy
      have := wf_b8 (hwz z (List.mem_of_mem_take hz2))
      omega
end
end Go.Proofs.Yteelconabmfnkaa
