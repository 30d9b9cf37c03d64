/- Words that came in, opened for a row. -/
import Derived.Test.YteelconabmfnkaaOi
import Derived.Test.YteelconabmfnkaaWg
import Derived.OpenShut
import Derived.ProofKit
namespace Go.Proofs.Yteelconabmfnkaa
open Go Go.RowKit Go.ChangeShapes Go.WideShapes
set_option linter.unusedVariables false
set_option linter.unusedSimpArgs false
theorem wf_w32 {z : Int} (h : (Lit.int .u32 z).wf = true) : 0 ≤ z ∧ z < 4294967296 := by
  have : 0 ≤ z ∧ z ≤ 4294967295 := by simpa [Lit.wf, IntKind.min, IntKind.max, IntKind.signed, IntKind.bits] using h
  omega
theorem open_words {H : Type} {enc : TypeId × Value → H} {w : World} {base : Nat} {spare : Nat → Bool} {held : Bool} {fuel : Nat} {v : Value} {x : DataW H × List MemPlace} (h : DataW.trod enc Try.prog w base spare held fuel 82 [v] = some x) :
    ∃ (c : Nat) (l : List Nat), (∃ ao, v = .slice ao l.length c ∧ Rw w ao l ∧ (ao = none → l.length = 0 ∧ c = 0)) ∧ (∀ y ∈ l, y < 4294967296) := by
  rcases open_ints Try.underlying82 Try.underlying28 (by kernel_rfl) h with ⟨hcs, _⟩ | ⟨a, len, cap, zs, hcs, _, hl, hm, hz, _, hcell, hwz⟩
  · obtain rfl : v = .slice none 0 0 := by simpa using hcs
    exact ⟨0, [], ⟨none, rfl, fun i hi => by simp at hi, fun _ => ⟨rfl, rfl⟩⟩, by simp⟩
  · obtain rfl : v = .slice (some a) len cap := by simpa using hcs
    have hle : len ≤ zs.length := by rw [hz]; split <;> omega
    have hlen : ((zs.take len).map Int.toNat).length = len := by simp; omega
    refine ⟨cap, (zs.take len).map Int.toNat, ⟨some a, by rw [hlen], fun i hi => ⟨a, rfl, ?_⟩, fun e => by cases e⟩, fun y hy => ?_⟩
    · rw [hlen] at hi
      rw [hcell i (by omega)]
      have hiz : i < zs.length := by omega
      have hw := wf_w32 (hwz zs[i] (List.getElem_mem hiz))
      congr 2
      rw [List.getD_eq_getElem?_getD, List.getElem?_map, List.getElem?_take, if_pos hi, List.getElem?_eq_getElem hiz]
      simp only [Option.getD_some, Option.map_some]
      omega
    · obtain ⟨z, hz2, rfl⟩ := List.mem_map.1 hy
      have := wf_w32 (hwz z (List.mem_of_mem_take hz2))
      omega
end Go.Proofs.Yteelconabmfnkaa
