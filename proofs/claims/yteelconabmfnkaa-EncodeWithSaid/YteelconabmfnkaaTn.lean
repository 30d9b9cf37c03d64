/- decode.fills. -/
import Derived.Test.YteelconabmfnkaaTm
import Derived.Laws.EntriesVeiled
namespace Go.Proofs.Yteelconabmfnkaa
open Go Go.RowKit
set_option maxHeartbeats 4000000
set_option maxRecDepth 100000
set_option linter.unusedVariables false
set_option linter.unusedSimpArgs false
abbrev fillsV (c1 c2 : Nat) : Array Value := #[.nilFunc, .func (.func 78) #[] #[.pointer (some ⟨c1, 0, none⟩)], .func (.func 79) #[] #[], .func (.func 80) #[] #[.pointer (some ⟨c2, 0, none⟩)], .func (.func 81) #[] #[.pointer (some ⟨c2, 0, none⟩)],
  .func (.func 82) #[] #[.pointer (some ⟨c1, 0, none⟩)], .func (.func 76) #[] #[.pointer (some ⟨c1, 0, none⟩)], .func (.func 74) #[] #[], .func (.func 77) #[] #[.pointer (some ⟨c1, 0, none⟩)], .func (.func 77) #[] #[.pointer (some ⟨c1, 0, none⟩)]]
theorem fills_c (W : World) : Calls Try.prog 57 #[] W fun e w' => e = .returned (.agg (fillsV (W.heap.size + 1) (W.heap.size + 1 + 1))) ∧ w'.cell? ⟨W.heap.size + 1, 0, none⟩ = some (.func (.func 74) #[] #[]) ∧
    w'.cell? ⟨W.heap.size + 1 + 1, 0, none⟩ = some (.func (.func 76) #[] #[.pointer (some ⟨W.heap.size + 1, 0, none⟩)]) ∧ Below W.heap.size W w' := by
  go_enter Try.func57, Try.ntmps57
  go_wp2
  have k0 := ((Blk.new W (fillsV (W.heap.size + 1) (W.heap.size + 1 + 1)) 101).alloc (.cells #[.func (.func 74) #[] #[]] 100)).alloc (.cells #[.func (.func 76) #[] #[.pointer (some ⟨W.heap.size + 1, 0, none⟩)]] 100)
  have k1 := (Blk.new (W.alloc (.cells (fillsV (W.heap.size + 1) (W.heap.size + 1 + 1)) 101)) #[.func (.func 74) #[] #[]] 100).alloc (.cells #[.func (.func 76) #[] #[.pointer (some ⟨W.heap.size + 1, 0, none⟩)]] 100)
  have k2 := Blk.new ((W.alloc (.cells (fillsV (W.heap.size + 1) (W.heap.size + 1 + 1)) 101)).alloc (.cells #[.func (.func 74) #[] #[]] 100)) #[.func (.func 76) #[] #[.pointer (some ⟨W.heap.size + 1, 0, none⟩)]] 100
  have kb := (((Below.refl _ W).alloc (Nat.le_refl _) (.cells (fillsV (W.heap.size + 1) (W.heap.size + 1 + 1)) 101)).alloc (by simp) (.cells #[.func (.func 74) #[] #[]] 100)).alloc (by simp; omega) (.cells #[.func (.func 76) #[] #[.pointer (some ⟨W.heap.size + 1, 0, none⟩)]] 100)
  simp only [World.size_alloc] at k1 k2
  exact bodyPost_ret (results_cell rfl _ _ W.heap.size _ _ _ rfl k0 Try.underlying101 rfl (by kernel_rfl)) rfl ⟨rfl, k1.cell 0, k2.cell 0, kb⟩
end Go.Proofs.Yteelconabmfnkaa
