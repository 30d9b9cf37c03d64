/- The marks that loops over functions have left among a frame's deferred calls: the way out. -/
import Derived.Test.YtaddmgclnbkdgaaRf
namespace Go.Proofs.Ytaddmgclnbkdgaa
open Go Go.RowKit
set_option linter.unusedVariables false
/-- a mark -/
abbrev mark (D : Nat) : Deferred := { target := .collected D, args := #[] }
/-- what the taking up of marks from n₀ on leaves: whatever lay below n₀, and whatever holds cells -/
structure Took (n₀ : Nat) (W W' : World) : Prop where
  bel : Below n₀ W W'
  cells : ∀ (k : Nat) (o : Obj), W.heap[k]? = some o → o.isCells = true → W'.heap[k]? = some o
theorem Took.refl (n₀ : Nat) (W : World) : Took n₀ W W := ⟨Below.refl _ _, fun _ _ h _ => h⟩
theorem Took.trans {n₀ : Nat} {A B C : World} (h : Took n₀ A B) (k : Took n₀ B C) : Took n₀ A C := ⟨h.bel.trans k.bel, fun i o h1 h2 => k.cells i o (h.cells i o h1 h2) h2⟩
theorem Took.put {n₀ : Nat} {W : World} {D : Nat} (h : W.heap[D]? = some (.deferred (some []))) (hn : n₀ ≤ D) : Took n₀ W (W.putObj D (.deferred none)) :=
  ⟨below_put _ hn h, fun k o hk ho => (World.putObj_heap_other (fun e => by subst e; rw [h] at hk; cases hk; cases ho)).trans hk⟩
/-- marks that can be taken up -/
def Marks (n₀ : Nat) (Ds : List Nat) (W : World) : Prop := Ds.Nodup ∧ ∀ D ∈ Ds, n₀ ≤ D ∧ W.heap[D]? = some (.deferred (some []))
theorem Marks.nil (n₀ : Nat) (W : World) : Marks n₀ [] W := ⟨List.nodup_nil, fun D h => by simp at h⟩
theorem Marks.kept {n₀ : Nat} {Ds : List Nat} {W W' : World} (h : Marks n₀ Ds W) (hk : ∀ D ∈ Ds, W'.heap[D]? = W.heap[D]?) : Marks n₀ Ds W' := ⟨h.1, fun D hD => ⟨(h.2 D hD).1, (hk D hD).trans (h.2 D hD).2⟩⟩
theorem Marks.later {n₀ : Nat} {Ds : List Nat} {W W' : World} (h : Marks n₀ Ds W) (hb : Below W.heap.size W W') : Marks n₀ Ds W' := h.kept fun D hD => hb.block D (Array.getElem?_eq_some_iff.1 (h.2 D hD).2).1
theorem Marks.cons {n₀ : Nat} {Ds : List Nat} {W : World} {D : Nat} (h : Marks n₀ Ds W) (hD : n₀ ≤ D) (hk : W.heap[D]? = some (.deferred (some []))) (hn : D ∉ Ds) : Marks n₀ (D :: Ds) W :=
  ⟨List.nodup_cons.2 ⟨hn, h.1⟩, fun E hE => by
    rcases List.mem_cons.1 hE with rfl | hE
    · exact ⟨hD, hk⟩
    · exact h.2 E hE⟩
theorem Marks.set {n₀ : Nat} {Ds : List Nat} {W : World} (h : Marks n₀ Ds W) {b : Nat} {cs : Array Value} {t : TypeId} {fz : Nat × Nat} (hb : W.heap[b]? = some (.cells cs t fz)) (j : Nat) (v : Value) : Marks n₀ Ds (W.setCell ⟨b, j, none⟩ v) :=
  h.kept fun D hD => heap_setCell_other W ⟨b, j, none⟩ D v (fun e => by subst e; rw [(h.2 _ hD).2] at hb; cases hb)
/-- the way out: all marks are taken up -/
theorem leaves_marks {F : Fence} {n : Nat} {P : Program} {fn : Func} {tmps : Array Value} {R : Ending → World → Prop} {n₀ : Nat} : ∀ (Ds : List Nat) (W : World), Marks n₀ Ds W →
    (∀ W', Took n₀ W W' → ∃ v, (results fn tmps).run P W' = .ok v W' ∧ R (.returned v) W') → LeavesInM F n P fn tmps R (Ds.map mark) .returning W
  | [], W, _, h => h W (Took.refl _ _)
  | D :: Ds, W, hm, h => by
    obtain ⟨h1, h2⟩ := hm
    obtain ⟨hD, hk⟩ := h2 D (by simp)
    rw [List.nodup_cons] at h1
    have tk := Took.put hk hD
    refine ⟨by simp, .inl ⟨D, _, rfl, run_takeDeferred hk, leaves_marks Ds _ ⟨h1.2, fun E hE => ?_⟩ fun W' hW' => h W' (tk.trans hW')⟩⟩
    refine ⟨(h2 E (by simp [hE])).1, (World.putObj_heap_other (fun e => h1.1 (by rw [← e]; exact hE))).trans (h2 E (by simp [hE])).2⟩
end Go.Proofs.Ytaddmgclnbkdgaa
