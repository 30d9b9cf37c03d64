/- 'for .. := range f' once more: the iterator may lean on that the caller's fact outlives what the iterator writes into objects of its own, and on that a round keeps them. -/
import Derived.Test.YteelconabmfnkaaRfa
namespace Go.Proofs.Yteelconabmfnkaa
open Go Go.RowKit
set_option linter.unusedVariables false
theorem Abide.mono {B B' : Nat} {I : World → Prop} (h : Abide B I) (hB : B ≤ B') : Abide B' I := fun W W' row hI hg hr => h W W' row hI hg fun r e => ⟨Nat.le_trans hB (hr r e).1, (hr r e).2⟩
theorem keeps_mono {B B' : Nat} {W W' : World} (h : KeepsFrom B W W') (hB : B ≤ B') : KeepsFrom B' W W' := ⟨h.size, fun k o hk => h.same k o (Nat.le_trans hB hk)⟩
theorem Abide.inX {B : Nat} (X : Nat → Prop) (c d : Nat) : Abide B (fun W => ∀ b, X b → c + d ≤ b ∧ b < W.heap.size) := fun W W' row h hg _ b hb => ⟨(h b hb).1, Nat.lt_of_lt_of_le (h b hb).2 hg.size⟩
theorem Abide.ex2 {B : Nat} {α : Type} {I : α → World → Prop} (h : ∀ x, Abide B (I x)) : Abide B (fun W => ∃ x, I x W) := fun W W' row ⟨x, hx⟩ hg hr => ⟨x, h x W W' row hx hg hr⟩
section
variable {F : Fence} {n : Nat} {P : Program}
/-- as IterC; J and Jx outlive what is written into objects that are no cells, from the call on, and each round keeps such objects -/
def IterA (C : World → Prop) (F : Fence) (n : Nat) (P : Program) (g : Nat) (ba lb : Array Value) (encs : Nat → Array Value) (len n₀ : Nat) (w : World) : Prop :=
  ∀ (l : Nat) (J Jx : Nat → (Nat → Prop) → World → Prop) (X : Nat → Prop) (W : World), Below n₀ w W → (∀ b, X b → b < W.heap.size) → Out J → Out Jx → (∀ k X W, J k X W → C W) → (∀ k X W, Jx k X W → C W) → (∀ k X, Abide W.heap.size (J k X)) → (∀ k X, Abide W.heap.size (Jx k X)) →
    (∀ k X W1, J k X W1 → k < len → YieldAt F (n - 1) P l (encs k) W1 fun e W' =>
      (e = .returned (.bool true) ∧ J (k + 1) X W' ∧ KX X W1 W' ∧ Below n₀ W1 W' ∧ KeepsFrom W.heap.size W1 W') ∨ (e = .returned (.bool false) ∧ Jx (k + 1) X W' ∧ KX X W1 W' ∧ Below n₀ W1 W' ∧ KeepsFrom W.heap.size W1 W')) →
    J 0 X W → CallsIn F n P g (ba ++ #[.func (.yield l) #[] #[]] ++ lb) W fun e W' => (∃ v, e = .returned v) ∧ KX X W W' ∧ Below n₀ W W' ∧ ∃ X', (∀ b, X b → X' b) ∧ (J len X' W' ∨ ∃ k, k ≤ len ∧ 1 ≤ k ∧ Jx k X' W')
theorem wpIn_rangeA {g : Operand} {ps : Array Tmp} {assign body : Code} {Q : Exit → Act → World → Prop} {a : Act} {w : World}
    (hro : F.round = none) (h1 : 1 ≤ n) {gf : Nat} {ba lb : Array Value} (hg : a.eval g = .func (.func gf) ba lb) (hF : F.fn gf) (eg : ∀ args w, (callFunc gf args).run P w = .ok (.enter gf args) w)
    {encs : Nat → Array Value} {len n₀ : Nat} {w0 : World} {C : World → Prop} (hseq : IterA C F (n - 1) P gf ba lb encs len n₀ w0) (hb0 : Below n₀ w0 w) (hn0 : n₀ ≤ w.heap.size) (hps : ∀ k, (encs k).size = ps.size)
    (I : Nat → (Nat → Prop) → World → Prop) (Ix : Code → Nat → (Nat → Prop) → World → Prop) (hI : ∀ k X, Abide w.heap.size (I k X)) (hIx : ∀ c k X, Abide w.heap.size (Ix c k X))
    (hIm : ∀ k X W W', I k X W → Below W.heap.size W W' → w.heap.size ≤ W.heap.size → I k (more X W W') W') (hIxm : ∀ c k X W W', Ix c k X W → Below W.heap.size W W' → w.heap.size ≤ W.heap.size → Ix c k (more X W W') W') (hC : ∀ k X W, I k X W → C W) (hCx : ∀ c k X W, Ix c k X W → C W) (h0 : I 0 (fun _ => False) w)
    (Ax : Nat → Act → World → Prop) (hAx : ∀ k a', Abide w.heap.size (Ax k a'))
    (hassign : ∀ (l k : Nat) (X : Nat → Prop) (W : World) (K : Act → World → Prop), (∀ b, X b → w.heap.size + 2 ≤ b ∧ b < W.heap.size) → I k X W → k < len → (∀ a' W', KeepsFrom w.heap.size W W' → KX X W W' → Below n₀ W W' → I k X W' → Ax k a' W' → K a' W') →
      assign.wpIn (F.inRound l) (n - 1 - 1) P (Exit.then K (fun _ _ _ => False)) { tmps := (ps.zip (encs k)).foldl (fun t (p, v) => t.setIfInBounds p v) a.tmps, defers := [] } W)
    (hbody : ∀ (l k : Nat) (X : Nat → Prop) (a' : Act) (W : World), w.heap.size ≤ l → (∀ b, X b → w.heap.size + 2 ≤ b ∧ b < W.heap.size) → I k X W → Ax k a' W → k < len → body.wpIn (F.inRound l) (n - 1 - 1) P (leftR w.heap.size n₀ I Ix (k + 1) X W) a' W)
    (hdone : ∀ (D : Nat) (W : World), w.heap.size ≤ D → (∃ X, I len X W) → W.heap[D]? = some (.deferred (some [])) → Q .normal { a with defers := { target := .collected D, args := #[] } :: a.defers } W)
    (hstop : ∀ (D : Nat) (c : Code) (k : Nat) (W : World), w.heap.size ≤ D → 1 ≤ k → k ≤ len → (∃ X, Ix c k X W) → W.heap[D]? = some (.deferred (some [])) → c.wpIn F n P Q { a with defers := { target := .collected D, args := #[] } :: a.defers } W) :
    (Code.rangeFunc g ps assign body).wpIn F n P Q a w := by
  refine wpIn_rangeFunc fun fn hfn => ?_
  rw [hro]
  let rec' : LoopState → Option Code → Loop := fun st pe => { state := st, pending := pe, fn, tmps := a.tmps, params := ps, assign, body, defers := w.heap.size }
  have hps' : ∀ st pe, (rec' st pe).params = ps := fun _ _ => rfl
  let L := w.heap.size + 1
  /- the two blocks of the loop's own -/
  let Mine : LoopState → Option Code → World → Prop := fun st pe W => W.heap[L]? = some (.loop (rec' st pe)) ∧ W.heap[w.heap.size]? = some (.deferred (some []))
  have mineAb : ∀ st pe W W', Mine st pe W → Below W.heap.size W W' → Mine st pe W' := fun st pe W W' h hb =>
    ⟨(hb.block L (Array.getElem?_eq_some_iff.1 h.1).1).trans h.1, (hb.block _ (Array.getElem?_eq_some_iff.1 h.2).1).trans h.2⟩
  have minePut : ∀ st pe st' pe' W, Mine st pe W → Mine st' pe' (W.putObj L (.loop (rec' st' pe'))) := fun st pe st' pe' W h =>
    ⟨World.putObj_heap_same (Array.getElem?_eq_some_iff.1 h.1).1, (World.putObj_heap_other (by show w.heap.size ≠ w.heap.size + 1; omega)).trans h.2⟩
  have mineKeep : ∀ st pe W W', Mine st pe W → KeepsFrom w.heap.size W W' → Mine st pe W' := fun st pe W W' h hk =>
    ⟨hk.same L _ (by show w.heap.size ≤ w.heap.size + 1; omega) h.1 rfl, hk.same _ _ (Nat.le_refl _) h.2 rfl⟩
  have mineAbide : ∀ st pe, Abide (w.heap.size + 2) (Mine st pe) := fun st pe W W' row h hg hr =>
    ⟨(hg.block L (Array.getElem?_eq_some_iff.1 h.1).1 (fun e => by have := (hr L e.symm).1; have : L = w.heap.size + 1 := rfl; omega)).trans h.1, (hg.block _ (Array.getElem?_eq_some_iff.1 h.2).1 (fun e => by have := (hr _ e.symm).1; omega)).trans h.2⟩
  have kfPut : ∀ (W : World) (o : Obj), KeepsFrom (w.heap.size + 2) W (W.putObj L o) := fun W o => ⟨by simp [World.putObj], fun k o' hk hk2 _ => (World.putObj_heap_other (by show k ≠ w.heap.size + 1; omega)).trans hk2⟩
  obtain ⟨W1, hW1⟩ : ∃ W1, (w.alloc (.deferred (some []))).alloc (.loop (rec' .ready none)) = W1 := ⟨_, rfl⟩
  have hs1 : W1.heap.size = w.heap.size + 2 := by rw [← hW1]; simp only [World.size_alloc]
  have bel1 : Below w.heap.size w W1 := by rw [← hW1]; exact ((Below.refl _ w).alloc (Nat.le_refl _) _).alloc (by simp) _
  have mine1 : Mine .ready none W1 := by
    rw [← hW1]
    refine ⟨?_, (Below.heap_alloc _ _ _ (by simp)).trans (World.alloc_heap_new w _)⟩
    have := World.alloc_heap_new (w.alloc (.deferred (some []))) (.loop (rec' .ready none))
    rwa [World.size_alloc] at this
  refine ⟨L, [{ target := .collected w.heap.size, args := #[] }], W1, { target := .fn (.func gf) lb, args := ba ++ #[.func (.yield L) #[] #[]] }, W1, gf, ba ++ #[.func (.yield L) #[] #[]] ++ lb, W1, ?_, ?_, ?_, ?_, fun _ => h1, ?_⟩
  · rw [← hW1]; exact run_enterLoop_outer _ _ _ _ _
  · simp only [resolve, hg]
    simp [go_sem]
  · intro f' hf'; simp [Target.leads] at hf'; subst hf'; exact hF
  · simp [invoke, go_sem, eg]
  · have hXp : ∀ (X : Nat → Prop) (A B : World), (∀ b, X b → w.heap.size + 2 ≤ b ∧ b < A.heap.size) → w.heap.size + 2 ≤ A.heap.size → A.heap.size ≤ B.heap.size → ∀ b, more X A B b → w.heap.size + 2 ≤ b ∧ b < B.heap.size := fun X A B h hA hAB b hb => hb.elim (fun hx => ⟨(h b hx).1, Nat.lt_of_lt_of_le (h b hx).2 hAB⟩) (fun h => ⟨by omega, h.2⟩)
    have hXs : ∀ (X : Nat → Prop) (A B : World), (∀ b, X b → w.heap.size + 2 ≤ b ∧ b < A.heap.size) → A.heap.size ≤ B.heap.size → ∀ b, X b → w.heap.size + 2 ≤ b ∧ b < B.heap.size := fun X A B h hAB b hx => ⟨(h b hx).1, Nat.lt_of_lt_of_le (h b hx).2 hAB⟩
    have hsz1 : ∀ st pe W, Mine st pe W → w.heap.size + 2 ≤ W.heap.size := fun st pe W h => by have : w.heap.size + 1 < W.heap.size := (Array.getElem?_eq_some_iff.1 h.1).1; omega
    have kxPut : ∀ (X : Nat → Prop) (W : World) (o : Obj), (∀ b, X b → w.heap.size + 2 ≤ b) → KX X W (W.putObj L o) := fun X W o hX b hb =>
      World.putObj_heap_other (by have := hX b hb; show b ≠ w.heap.size + 1; omega)
    refine (hseq L (fun k X W => I k X W ∧ (∀ b, X b → w.heap.size + 2 ≤ b ∧ b < W.heap.size) ∧ Mine .ready none W) (fun k X W => ∃ c, Ix c k X W ∧ (∀ b, X b → w.heap.size + 2 ≤ b ∧ b < W.heap.size) ∧ Mine .done (some c) W) (fun _ => False) W1 (hb0.trans (bel1.mono hn0)) (fun b h => h.elim)
      (fun k X W W' ⟨h1, h2, h3⟩ hb => ⟨⟨(hI k X).grown h1 hb, hXs X W W' h2 hb.size, mineAb _ _ _ _ h3 hb⟩, hIm k X W W' h1 hb (by have := hsz1 _ _ _ h3; omega), hXp X W W' h2 (hsz1 _ _ _ h3) hb.size, mineAb _ _ _ _ h3 hb⟩)
      (fun k X W W' ⟨c, h1, h2, h3⟩ hb => ⟨⟨c, (hIx c k X).grown h1 hb, hXs X W W' h2 hb.size, mineAb _ _ _ _ h3 hb⟩, c, hIxm c k X W W' h1 hb (by have := hsz1 _ _ _ h3; omega), hXp X W W' h2 (hsz1 _ _ _ h3) hb.size, mineAb _ _ _ _ h3 hb⟩)
      (fun k X W h => hC k X W h.1) (fun k X W ⟨c, h, _⟩ => hCx c k X W h)
      (fun k X => by rw [hs1]; exact ((hI k X).mono (Nat.le_add_right _ 2)).and ((Abide.inX X _ _).and (mineAbide _ _)))
      (fun k X => by rw [hs1]; exact Abide.ex2 fun c => ((hIx c k X).mono (Nat.le_add_right _ 2)).and ((Abide.inX X _ _).and (mineAbide _ _)))
      ?_ ⟨(hI 0 _).grown h0 bel1, (fun b h => h.elim), mine1⟩).mono ?_
    · rintro k X W ⟨hi, hX, hm⟩ hk
      refine ⟨fn, _, assign, body, run_yield hm.1 (hps k), roundIn_of_wpIn hfn (hassign L k X W _ hX hi hk ?_)⟩
      intro a' W' hkf hkx hbl hi' hax
      have hm' := mineKeep _ _ _ _ hm hkf
      refine ⟨_, run_beginRound hm'.1 rfl, ?_⟩
      have hm2 : Mine .busy none (W'.putObj L (.loop (rec' .busy none))) := minePut _ _ _ _ _ hm'
      have hL : w.heap.size ≤ L := Nat.le_succ _
      have hb2 : Below n₀ W (W'.putObj L (.loop (rec' .busy none))) := hbl.trans (below_put _ (Nat.le_trans hn0 hL) hm'.1)
      have hkx2 : KX X W (W'.putObj L (.loop (rec' .busy none))) := hkx.trans (kxPut X W' _ fun b h => (hX b h).1)
      have hX2 : ∀ b, X b → w.heap.size + 2 ≤ b ∧ b < (W'.putObj L (.loop (rec' .busy none))).heap.size := hXs X W _ hX hb2.size
      refine wpIn_mono (hbody L k X a' _ hL hX2 ((hI k X).put _ hi' hL hm'.1 rfl) ((hAx k a').put _ hax hL hm'.1 rfl) hk) ?_
      have fin : ∀ (j : Option Code) (W3 : World), Mine .busy none W3 → (Instr.endRound L j).run P W3 = .ok (.bool j.isNone) (W3.putObj L (.loop (rec' (if j.isNone then .ready else .done) j))) := fun j W3 h => run_endRound j h.1
      rintro e a3 W3 hp
      cases e with
      | normal =>
        obtain ⟨k1, kx, k2, k3⟩ := hp
        have hm3 := mineKeep _ _ _ _ hm2 k1
        exact ⟨_, _, fin none W3 hm3, .inl ⟨rfl, ⟨(hI _ _).put _ k3 hL hm3.1 rfl, hXs X _ _ hX2 (Nat.le_trans k2.size (below_put (n₀ := 0) _ (Nat.zero_le _) hm3.1).size), minePut _ _ _ _ _ hm3⟩, (hkx2.trans kx).trans (kxPut X _ _ fun b h => (hX b h).1), (hb2.trans k2).trans (below_put _ (Nat.le_trans hn0 hL) hm3.1), by rw [hs1]; exact (((keeps_mono hkf (Nat.le_add_right _ 2)).trans (kfPut _ _)).trans (keeps_mono k1 (Nat.le_add_right _ 2))).trans (kfPut _ _)⟩⟩
      | ret =>
        obtain ⟨k1, kx, k2, k3⟩ := hp
        have hm3 := mineKeep _ _ _ _ hm2 k1
        exact ⟨_, _, fin (some .ret) W3 hm3, .inr ⟨rfl, ⟨.ret, (hIx _ _ _).put _ k3 hL hm3.1 rfl, hXs X _ _ hX2 (Nat.le_trans k2.size (below_put (n₀ := 0) _ (Nat.zero_le _) hm3.1).size), minePut _ _ _ _ _ hm3⟩, (hkx2.trans kx).trans (kxPut X _ _ fun b h => (hX b h).1), (hb2.trans k2).trans (below_put _ (Nat.le_trans hn0 hL) hm3.1), by rw [hs1]; exact (((keeps_mono hkf (Nat.le_add_right _ 2)).trans (kfPut _ _)).trans (keeps_mono k1 (Nat.le_add_right _ 2))).trans (kfPut _ _)⟩⟩
      | exit id =>
        obtain ⟨k1, kx, k2, k3⟩ := hp
        have hm3 := mineKeep _ _ _ _ hm2 k1
        exact ⟨_, _, fin (some (.exit id)) W3 hm3, .inr ⟨rfl, ⟨.exit id, (hIx _ _ _).put _ k3 hL hm3.1 rfl, hXs X _ _ hX2 (Nat.le_trans k2.size (below_put (n₀ := 0) _ (Nat.zero_le _) hm3.1).size), minePut _ _ _ _ _ hm3⟩, (hkx2.trans kx).trans (kxPut X _ _ fun b h => (hX b h).1), (hb2.trans k2).trans (below_put _ (Nat.le_trans hn0 hL) hm3.1), by rw [hs1]; exact (((keeps_mono hkf (Nat.le_add_right _ 2)).trans (kfPut _ _)).trans (keeps_mono k1 (Nat.le_add_right _ 2))).trans (kfPut _ _)⟩⟩
      | goto t => exact hp.elim
      | panic ch => exact hp.elim
      | outgrown => exact hp.elim
    · rintro e W2 ⟨⟨v, rfl⟩, _, _, X', _, (⟨hi, hX, hm⟩ | ⟨k, hk, hk1, c, hi, hX, hm⟩)⟩
      · exact ⟨none, _, run_endLoop hm.1 (by simp [rec']), hdone _ _ (Nat.le_refl _) ⟨_, (hI _ _).put _ hi (Nat.le_succ _) hm.1 rfl⟩ (minePut _ _ .exhausted none _ hm).2⟩
      · exact ⟨some c, _, run_endLoop hm.1 (by simp [rec']), hstop _ c k _ (Nat.le_refl _) hk1 hk ⟨_, (hIx c k _).put _ hi (Nat.le_succ _) hm.1 rfl⟩ (minePut _ _ .exhausted (some c) _ hm).2⟩
end
end Go.Proofs.Yteelconabmfnkaa
