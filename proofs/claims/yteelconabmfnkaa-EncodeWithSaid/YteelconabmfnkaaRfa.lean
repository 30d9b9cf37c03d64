/- Rfa: several texts in one. -/
import Derived.Test.YteelconabmfnkaaRows
import Derived.RangeFuncNested
import Derived.RangeFuncBound
import Derived.RangeFuncCalls
import Derived.RangeFuncLeaves
import Derived.Shelf.Abstract
import Derived.Shelf.RegionOpen
import Derived.WalkKit
import Derived.OwnWalkIn
import Derived.TacticsInMore
import Derived.LoopNIn
import Derived.LoopIn
/- 'for .. := range f': f may bear bound arguments (a method value). The iterator's word, and the statement's rule; the elements are told by their number. -/
namespace Go.Proofs.Yteelconabmfnkaa
open Go Go.RowKit
set_option linter.unusedVariables false
/-- a fact that new blocks do not turn, nor the turn of a block from B on that holds no cells -/
def Abide (B : Nat) (I : World → Prop) : Prop :=
  ∀ W W' row, I W → W.grownBy W' row → (∀ r, row = some r → B ≤ r ∧ ∃ o : Obj, W.heap[r]? = some o ∧ o.isCells = false) → I W'
theorem Abide.and {B : Nat} {I J : World → Prop} (h : Abide B I) (k : Abide B J) : Abide B (fun W => I W ∧ J W) := fun W W' row hs hg hr => ⟨h W W' row hs.1 hg hr, k W W' row hs.2 hg hr⟩
theorem Abide.pure {B : Nat} {p : Prop} : Abide B (fun _ => p) := fun _ _ _ h _ _ => h
theorem Abide.below {n₀ B : Nat} {w : World} (hn : n₀ ≤ w.heap.size) (hB : n₀ ≤ B) : Abide B (fun W => Below n₀ w W) :=
  fun _ _ _ hs hg hr => hs.grown hg (Nat.le_trans hn hs.size) (fun k e => Nat.le_trans hB (hr k e).1)
theorem Abide.grown {B : Nat} {I : World → Prop} (h : Abide B I) {W W' : World} (hs : I W) (hb : Below W.heap.size W W') : I W' :=
  h W W' none hs ⟨hb.os, hb.tape, hb.output, hb.size, fun k hk _ => hb.block k hk⟩ (fun r e => by cases e)
theorem Abide.put {B : Nat} {I : World → Prop} (h : Abide B I) {W : World} {l : Nat} {o : Obj} (o' : Obj) (hs : I W) (hB : B ≤ l) (hl : W.heap[l]? = some o) (ho : o.isCells = false) : I (W.putObj l o') :=
  h W _ (some l) hs (grownBy_putObj' W l o') (fun r e => by cases e; exact ⟨hB, o, hl, ho⟩)
theorem below_put {n₀ : Nat} {W : World} {l : Nat} {o : Obj} (o' : Obj) (hn : n₀ ≤ l) (hl : W.heap[l]? = some o) : Below n₀ W (W.putObj l o') :=
  (Below.refl n₀ W).grown (grownBy_putObj' W l o') (by have := (Array.getElem?_eq_some_iff.1 hl).1; omega) (fun k e => by cases e; exact hn)
section
variable {F : Fence} {n : Nat} {P : Program}
/-- the blocks of X lie as they lay -/
def KX (X : Nat → Prop) (W W' : World) : Prop := ∀ b, X b → W'.heap[b]? = W.heap[b]?
theorem KX.refl (X : Nat → Prop) (W : World) : KX X W W := fun _ _ => rfl
theorem KX.trans {X : Nat → Prop} {A B C : World} (h : KX X A B) (k : KX X B C) : KX X A C := fun b hb => (k b hb).trans (h b hb)
/-- new blocks are the iterator's, too -/
def more (X : Nat → Prop) (W W' : World) : Nat → Prop := fun b => X b ∨ W.heap.size ≤ b ∧ b < W'.heap.size
/-- what the iterator may rely on: J, a fact of the caller's, outlives new blocks, which may become the iterator's own (the set X) -/
def Out (J : Nat → (Nat → Prop) → World → Prop) : Prop := ∀ k X W W', J k X W → Below W.heap.size W W' → J k X W' ∧ J k (more X W W') W'
/-- THE ITERATOR's WORD: it hands out encs 0, encs 1 .. encs (len - 1), and stops when it is told to; a round leaves the iterator's own blocks (X) as they lay. -/
def Iter (F : Fence) (n : Nat) (P : Program) (g : Nat) (ba lb : Array Value) (encs : Nat → Array Value) (len n₀ : Nat) (w : World) : Prop :=
  ∀ (l : Nat) (J Jx : Nat → (Nat → Prop) → World → Prop) (X : Nat → Prop) (W : World), Below n₀ w W → (∀ b, X b → b < W.heap.size) → Out J → Out Jx →
    (∀ k X W1, J k X W1 → k < len → YieldAt F (n - 1) P l (encs k) W1 fun e W' =>
      (e = .returned (.bool true) ∧ J (k + 1) X W' ∧ KX X W1 W' ∧ Below n₀ W1 W') ∨ (e = .returned (.bool false) ∧ Jx (k + 1) X W' ∧ KX X W1 W' ∧ Below n₀ W1 W')) →
    J 0 X W → CallsIn F n P g (ba ++ #[.func (.yield l) #[] #[]] ++ lb) W fun e W' => (∃ v, e = .returned v) ∧ KX X W W' ∧ Below n₀ W W' ∧ ∃ X', (∀ b, X b → X' b) ∧ (J len X' W' ∨ ∃ k, k ≤ len ∧ 1 ≤ k ∧ Jx k X' W')
/-- how a round's body is left -/
def leftR (B n₀ : Nat) (I : Nat → (Nat → Prop) → World → Prop) (Ix : Code → Nat → (Nat → Prop) → World → Prop) (k : Nat) (X : Nat → Prop) (W : World) : Exit → Act → World → Prop
  | .normal, _, W' => KeepsFrom B W W' ∧ KX X W W' ∧ Below n₀ W W' ∧ I k X W'
  | .ret, _, W' => KeepsFrom B W W' ∧ KX X W W' ∧ Below n₀ W W' ∧ Ix .ret k X W'
  | .exit id, _, W' => KeepsFrom B W W' ∧ KX X W W' ∧ Below n₀ W W' ∧ Ix (.exit id) k X W'
  | _, _, _ => False
theorem wpIn_range {g : Operand} {ps : Array Tmp} {assign body : Code} {Q : Exit → Act → World → Prop} {a : Act} {w : World}
    (hro : F.round = none) (h1 : 1 ≤ n) {gf : Nat} {ba lb : Array Value} (hg : a.eval g = .func (.func gf) ba lb) (hF : F.fn gf) (eg : ∀ args w, (callFunc gf args).run P w = .ok (.enter gf args) w)
    {encs : Nat → Array Value} {len n₀ : Nat} {w0 : World} (hseq : Iter F (n - 1) P gf ba lb encs len n₀ w0) (hb0 : Below n₀ w0 w) (hn0 : n₀ ≤ w.heap.size) (hps : ∀ k, (encs k).size = ps.size)
    (I : Nat → (Nat → Prop) → World → Prop) (Ix : Code → Nat → (Nat → Prop) → World → Prop) (hI : ∀ k X, Abide w.heap.size (I k X)) (hIx : ∀ c k X, Abide w.heap.size (Ix c k X))
    (hIm : ∀ k X W W', I k X W → Below W.heap.size W W' → w.heap.size ≤ W.heap.size → I k (more X W W') W') (hIxm : ∀ c k X W W', Ix c k X W → Below W.heap.size W W' → w.heap.size ≤ W.heap.size → Ix c k (more X W W') W') (h0 : I 0 (fun _ => False) w)
    (Ax : Nat → Act → World → Prop) (hAx : ∀ k a', Abide w.heap.size (Ax k a'))
    (hassign : ∀ (l k : Nat) (X : Nat → Prop) (W : World) (K : Act → World → Prop), (∀ b, X b → w.heap.size + 2 ≤ b ∧ b < W.heap.size) → I k X W → k < len → (∀ a' W', KeepsFrom w.heap.size W W' → KX X W W' → Below n₀ W W' → I k X W' → Ax k a' W' → K a' W') →
      assign.wpIn (F.inRound l) (n - 1 - 1) P (Exit.then K (fun _ _ _ => False)) { tmps := (ps.zip (encs k)).foldl (fun t (p, v) => t.setIfInBounds p v) a.tmps, defers := [] } W)
    (hbody : ∀ (l k : Nat) (X : Nat → Prop) (a' : Act) (W : World), w.heap.size ≤ l → (∀ b, X b → w.heap.size + 2 ≤ b ∧ b < W.heap.size) → I k X W → Ax k a' W → k < len → body.wpIn (F.inRound l) (n - 1 - 1) P (leftR w.heap.size n₀ I Ix (k + 1) X W) a' W)
    (hdone : ∀ (D : Nat) (W : World), w.heap.size ≤ D → (∃ X, I len X W) → W.heap[D]? = some (.deferred (some [])) → Q .normal { a with defers := { target := .collected D, args := #[] } :: a.defers } W)
    (hstop : ∀ (D : Nat) (c : Code) (k : Nat) (W : World), w.heap.size ≤ D → 1 ≤ k → k ≤ len → (∃ X, Ix c k X W) → W.heap[D]? = some (.deferred (some [])) → c.wpIn F n P Q { a with defers := { target := .collected D, args := #[] } :: a.defers } W) :
    (Code.rangeFunc g ps assign body).wpIn F n P Q a w := by
  refine wpIn_rangeFunc fun fn hfn => ?_
  rw [hro]
  let rec' : LoopState → Option Code → Loop := fun st pe => { state := st, pending := pe, fn, tmps := a.tmps, params := ps, assign, body, defers := w.heap.size }
  have hps' : ∀ st pe, (rec' st pe).params = ps := fun _ _ => rfl
  let L := w.heap.size + 1
  /- the two blocks of the loop's own -/
  let Mine : LoopState → Option Code → World → Prop := fun st pe W => W.heap[L]? = some (.loop (rec' st pe)) ∧ W.heap[w.heap.size]? = some (.deferred (some []))
  have mineAb : ∀ st pe W W', Mine st pe W → Below W.heap.size W W' → Mine st pe W' := fun st pe W W' h hb =>
    ⟨(hb.block L (Array.getElem?_eq_some_iff.1 h.1).1).trans h.1, (hb.block _ (Array.getElem?_eq_some_iff.1 h.2).1).trans h.2⟩
  have minePut : ∀ st pe st' pe' W, Mine st pe W → Mine st' pe' (W.putObj L (.loop (rec' st' pe'))) := fun st pe st' pe' W h =>
    ⟨World.putObj_heap_same (Array.getElem?_eq_some_iff.1 h.1).1, (World.putObj_heap_other (by show w.heap.size ≠ w.heap.size + 1; omega)).trans h.2⟩
  have mineKeep : ∀ st pe W W', Mine st pe W → KeepsFrom w.heap.size W W' → Mine st pe W' := fun st pe W W' h hk =>
    ⟨hk.same L _ (by show w.heap.size ≤ w.heap.size + 1; omega) h.1 rfl, hk.same _ _ (Nat.le_refl _) h.2 rfl⟩
  obtain ⟨W1, hW1⟩ : ∃ W1, (w.alloc (.deferred (some []))).alloc (.loop (rec' .ready none)) = W1 := ⟨_, rfl⟩
  have bel1 : Below w.heap.size w W1 := by rw [← hW1]; exact ((Below.refl _ w).alloc (Nat.le_refl _) _).alloc (by simp) _
  have mine1 : Mine .ready none W1 := by
    rw [← hW1]
    refine ⟨?_, (Below.heap_alloc _ _ _ (by simp)).trans (World.alloc_heap_new w _)⟩
    have := World.alloc_heap_new (w.alloc (.deferred (some []))) (.loop (rec' .ready none))
    rwa [World.size_alloc] at this
  refine ⟨L, [{ target := .collected w.heap.size, args := #[] }], W1, { target := .fn (.func gf) lb, args := ba ++ #[.func (.yield L) #[] #[]] }, W1, gf, ba ++ #[.func (.yield L) #[] #[]] ++ lb, W1, ?_, ?_, ?_, ?_, fun _ => h1, ?_⟩
  · rw [← hW1]; exact run_enterLoop_outer _ _ _ _ _
  · simp only [resolve, hg]
    simp [go_sem]
  · intro f' hf'; simp [Target.leads] at hf'; subst hf'; exact hF
  · simp [invoke, go_sem, eg]
  · have hXp : ∀ (X : Nat → Prop) (A B : World), (∀ b, X b → w.heap.size + 2 ≤ b ∧ b < A.heap.size) → w.heap.size + 2 ≤ A.heap.size → A.heap.size ≤ B.heap.size → ∀ b, more X A B b → w.heap.size + 2 ≤ b ∧ b < B.heap.size := fun X A B h hA hAB b hb => hb.elim (fun hx => ⟨(h b hx).1, Nat.lt_of_lt_of_le (h b hx).2 hAB⟩) (fun h => ⟨by omega, h.2⟩)
    have hXs : ∀ (X : Nat → Prop) (A B : World), (∀ b, X b → w.heap.size + 2 ≤ b ∧ b < A.heap.size) → A.heap.size ≤ B.heap.size → ∀ b, X b → w.heap.size + 2 ≤ b ∧ b < B.heap.size := fun X A B h hAB b hx => ⟨(h b hx).1, Nat.lt_of_lt_of_le (h b hx).2 hAB⟩
    have hsz1 : ∀ st pe W, Mine st pe W → w.heap.size + 2 ≤ W.heap.size := fun st pe W h => by have : w.heap.size + 1 < W.heap.size := (Array.getElem?_eq_some_iff.1 h.1).1; omega
    have kxPut : ∀ (X : Nat → Prop) (W : World) (o : Obj), (∀ b, X b → w.heap.size + 2 ≤ b) → KX X W (W.putObj L o) := fun X W o hX b hb =>
      World.putObj_heap_other (by have := hX b hb; show b ≠ w.heap.size + 1; omega)
    refine (hseq L (fun k X W => I k X W ∧ (∀ b, X b → w.heap.size + 2 ≤ b ∧ b < W.heap.size) ∧ Mine .ready none W) (fun k X W => ∃ c, Ix c k X W ∧ (∀ b, X b → w.heap.size + 2 ≤ b ∧ b < W.heap.size) ∧ Mine .done (some c) W) (fun _ => False) W1 (hb0.trans (bel1.mono hn0)) (fun b h => h.elim)
      (fun k X W W' ⟨h1, h2, h3⟩ hb => ⟨⟨(hI k X).grown h1 hb, hXs X W W' h2 hb.size, mineAb _ _ _ _ h3 hb⟩, hIm k X W W' h1 hb (by have := hsz1 _ _ _ h3; omega), hXp X W W' h2 (hsz1 _ _ _ h3) hb.size, mineAb _ _ _ _ h3 hb⟩)
      (fun k X W W' ⟨c, h1, h2, h3⟩ hb => ⟨⟨c, (hIx c k X).grown h1 hb, hXs X W W' h2 hb.size, mineAb _ _ _ _ h3 hb⟩, c, hIxm c k X W W' h1 hb (by have := hsz1 _ _ _ h3; omega), hXp X W W' h2 (hsz1 _ _ _ h3) hb.size, mineAb _ _ _ _ h3 hb⟩)
      ?_ ⟨(hI 0 _).grown h0 bel1, (fun b h => h.elim), mine1⟩).mono ?_
    · rintro k X W ⟨hi, hX, hm⟩ hk
      refine ⟨fn, _, assign, body, run_yield hm.1 (hps k), roundIn_of_wpIn hfn (hassign L k X W _ hX hi hk ?_)⟩
      intro a' W' hkf hkx hbl hi' hax
      have hm' := mineKeep _ _ _ _ hm hkf
      refine ⟨_, run_beginRound hm'.1 rfl, ?_⟩
      have hm2 : Mine .busy none (W'.putObj L (.loop (rec' .busy none))) := minePut _ _ _ _ _ hm'
      have hL : w.heap.size ≤ L := Nat.le_succ _
      have hb2 : Below n₀ W (W'.putObj L (.loop (rec' .busy none))) := hbl.trans (below_put _ (Nat.le_trans hn0 hL) hm'.1)
      have hkx2 : KX X W (W'.putObj L (.loop (rec' .busy none))) := hkx.trans (kxPut X W' _ fun b h => (hX b h).1)
      have hX2 : ∀ b, X b → w.heap.size + 2 ≤ b ∧ b < (W'.putObj L (.loop (rec' .busy none))).heap.size := hXs X W _ hX hb2.size
      refine wpIn_mono (hbody L k X a' _ hL hX2 ((hI k X).put _ hi' hL hm'.1 rfl) ((hAx k a').put _ hax hL hm'.1 rfl) hk) ?_
      have fin : ∀ (j : Option Code) (W3 : World), Mine .busy none W3 → (Instr.endRound L j).run P W3 = .ok (.bool j.isNone) (W3.putObj L (.loop (rec' (if j.isNone then .ready else .done) j))) := fun j W3 h => run_endRound j h.1
      rintro e a3 W3 hp
      cases e with
      | normal =>
        obtain ⟨k1, kx, k2, k3⟩ := hp
        have hm3 := mineKeep _ _ _ _ hm2 k1
        exact ⟨_, _, fin none W3 hm3, .inl ⟨rfl, ⟨(hI _ _).put _ k3 hL hm3.1 rfl, hXs X _ _ hX2 (Nat.le_trans k2.size (below_put (n₀ := 0) _ (Nat.zero_le _) hm3.1).size), minePut _ _ _ _ _ hm3⟩, (hkx2.trans kx).trans (kxPut X _ _ fun b h => (hX b h).1), (hb2.trans k2).trans (below_put _ (Nat.le_trans hn0 hL) hm3.1)⟩⟩
      | ret =>
        obtain ⟨k1, kx, k2, k3⟩ := hp
        have hm3 := mineKeep _ _ _ _ hm2 k1
        exact ⟨_, _, fin (some .ret) W3 hm3, .inr ⟨rfl, ⟨.ret, (hIx _ _ _).put _ k3 hL hm3.1 rfl, hXs X _ _ hX2 (Nat.le_trans k2.size (below_put (n₀ := 0) _ (Nat.zero_le _) hm3.1).size), minePut _ _ _ _ _ hm3⟩, (hkx2.trans kx).trans (kxPut X _ _ fun b h => (hX b h).1), (hb2.trans k2).trans (below_put _ (Nat.le_trans hn0 hL) hm3.1)⟩⟩
      | exit id =>
        obtain ⟨k1, kx, k2, k3⟩ := hp
        have hm3 := mineKeep _ _ _ _ hm2 k1
        exact ⟨_, _, fin (some (.exit id)) W3 hm3, .inr ⟨rfl, ⟨.exit id, (hIx _ _ _).put _ k3 hL hm3.1 rfl, hXs X _ _ hX2 (Nat.le_trans k2.size (below_put (n₀ := 0) _ (Nat.zero_le _) hm3.1).size), minePut _ _ _ _ _ hm3⟩, (hkx2.trans kx).trans (kxPut X _ _ fun b h => (hX b h).1), (hb2.trans k2).trans (below_put _ (Nat.le_trans hn0 hL) hm3.1)⟩⟩
      | goto t => exact hp.elim
      | panic ch => exact hp.elim
      | outgrown => exact hp.elim
    · rintro e W2 ⟨⟨v, rfl⟩, _, _, X', _, (⟨hi, hX, hm⟩ | ⟨k, hk, hk1, c, hi, hX, hm⟩)⟩
      · exact ⟨none, _, run_endLoop hm.1 (by simp [rec']), hdone _ _ (Nat.le_refl _) ⟨_, (hI _ _).put _ hi (Nat.le_succ _) hm.1 rfl⟩ (minePut _ _ .exhausted none _ hm).2⟩
      · exact ⟨some c, _, run_endLoop hm.1 (by simp [rec']), hstop _ c k _ (Nat.le_refl _) hk1 hk ⟨_, (hIx c k _).put _ hi (Nat.le_succ _) hm.1 rfl⟩ (minePut _ _ .exhausted (some c) _ hm).2⟩
end
end Go.Proofs.Yteelconabmfnkaa

/- The marks that loops over functions have left among a frame's deferred calls: the way out. -/
namespace Go.Proofs.Yteelconabmfnkaa
open Go Go.RowKit
set_option linter.unusedVariables false
/-- a mark -/
abbrev mark (D : Nat) : Deferred := { target := .collected D, args := #[] }
/-- what the taking up of marks from n₀ on leaves: whatever lay below n₀, and whatever holds cells -/
structure Took (n₀ : Nat) (W W' : World) : Prop where
  bel : Below n₀ W W'
  cells : ∀ (k : Nat) (o : Obj), W.heap[k]? = some o → o.isCells = true → W'.heap[k]? = some o
theorem Took.refl (n₀ : Nat) (W : World) : Took n₀ W W := ⟨Below.refl _ _, fun _ _ h _ => h⟩
theorem Took.trans {n₀ : Nat} {A B C : World} (h : Took n₀ A B) (k : Took n₀ B C) : Took n₀ A C := ⟨h.bel.trans k.bel, fun i o h1 h2 => k.cells i o (h.cells i o h1 h2) h2⟩
theorem Took.put {n₀ : Nat} {W : World} {D : Nat} (h : W.heap[D]? = some (.deferred (some []))) (hn : n₀ ≤ D) : Took n₀ W (W.putObj D (.deferred none)) :=
  ⟨below_put _ hn h, fun k o hk ho => (World.putObj_heap_other (fun e => by subst e; rw [h] at hk; cases hk; cases ho)).trans hk⟩
/-- marks that can be taken up -/
def Marks (n₀ : Nat) (Ds : List Nat) (W : World) : Prop := Ds.Nodup ∧ ∀ D ∈ Ds, n₀ ≤ D ∧ W.heap[D]? = some (.deferred (some []))
theorem Marks.nil (n₀ : Nat) (W : World) : Marks n₀ [] W := ⟨List.nodup_nil, fun D h => by simp at h⟩
theorem Marks.kept {n₀ : Nat} {Ds : List Nat} {W W' : World} (h : Marks n₀ Ds W) (hk : ∀ D ∈ Ds, W'.heap[D]? = W.heap[D]?) : Marks n₀ Ds W' := ⟨h.1, fun D hD => ⟨(h.2 D hD).1, (hk D hD).trans (h.2 D hD).2⟩⟩
theorem Marks.later {n₀ : Nat} {Ds : List Nat} {W W' : World} (h : Marks n₀ Ds W) (hb : Below W.heap.size W W') : Marks n₀ Ds W' := h.kept fun D hD => hb.block D (Array.getElem?_eq_some_iff.1 (h.2 D hD).2).1
theorem Marks.cons {n₀ : Nat} {Ds : List Nat} {W : World} {D : Nat} (h : Marks n₀ Ds W) (hD : n₀ ≤ D) (hk : W.heap[D]? = some (.deferred (some []))) (hn : D ∉ Ds) : Marks n₀ (D :: Ds) W :=
  ⟨List.nodup_cons.2 ⟨hn, h.1⟩, fun E hE => by
    rcases List.mem_cons.1 hE with rfl | hE
    · exact ⟨hD, hk⟩
    · exact h.2 E hE⟩
theorem Marks.set {n₀ : Nat} {Ds : List Nat} {W : World} (h : Marks n₀ Ds W) {b : Nat} {cs : Array Value} {t : TypeId} {fz : Nat × Nat} (hb : W.heap[b]? = some (.cells cs t fz)) (j : Nat) (v : Value) : Marks n₀ Ds (W.setCell ⟨b, j, none⟩ v) :=
  h.kept fun D hD => heap_setCell_other W ⟨b, j, none⟩ D v (fun e => by subst e; rw [(h.2 _ hD).2] at hb; cases hb)
/-- the way out: all marks are taken up -/
theorem leaves_marks {F : Fence} {n : Nat} {P : Program} {fn : Func} {tmps : Array Value} {R : Ending → World → Prop} {n₀ : Nat} : ∀ (Ds : List Nat) (W : World), Marks n₀ Ds W →
    (∀ W', Took n₀ W W' → ∃ v, (results fn tmps).run P W' = .ok v W' ∧ R (.returned v) W') → LeavesInM F n P fn tmps R (Ds.map mark) .returning W
  | [], W, _, h => h W (Took.refl _ _)
  | D :: Ds, W, hm, h => by
    obtain ⟨h1, h2⟩ := hm
    obtain ⟨hD, hk⟩ := h2 D (by simp)
    rw [List.nodup_cons] at h1
    have tk := Took.put hk hD
    refine ⟨by simp, .inl ⟨D, _, rfl, run_takeDeferred hk, leaves_marks Ds _ ⟨h1.2, fun E hE => ?_⟩ fun W' hW' => h W' (tk.trans hW')⟩⟩
    refine ⟨(h2 E (by simp [hE])).1, (World.putObj_heap_other (fun e => h1.1 (by rw [← e]; exact hE))).trans (h2 E (by simp [hE])).2⟩
end Go.Proofs.Yteelconabmfnkaa

/- 'for .. := range f' where the iterator rests on a fact that holds between the rounds (a captured variable). -/
namespace Go.Proofs.Yteelconabmfnkaa
open Go Go.RowKit
set_option linter.unusedVariables false
section
variable {F : Fence} {n : Nat} {P : Program}
/-- THE ITERATOR's WORD, where it rests on a fact C that holds between its rounds (what it has captured lies as it lay): it hands out encs 0, encs 1 .. encs (len - 1), and stops when it is told to; a round leaves the iterator's own blocks (X) as they lay. -/
def IterC (C : World → Prop) (F : Fence) (n : Nat) (P : Program) (g : Nat) (ba lb : Array Value) (encs : Nat → Array Value) (len n₀ : Nat) (w : World) : Prop :=
  ∀ (l : Nat) (J Jx : Nat → (Nat → Prop) → World → Prop) (X : Nat → Prop) (W : World), Below n₀ w W → (∀ b, X b → b < W.heap.size) → Out J → Out Jx → (∀ k X W, J k X W → C W) → (∀ k X W, Jx k X W → C W) →
    (∀ k X W1, J k X W1 → k < len → YieldAt F (n - 1) P l (encs k) W1 fun e W' =>
      (e = .returned (.bool true) ∧ J (k + 1) X W' ∧ KX X W1 W' ∧ Below n₀ W1 W') ∨ (e = .returned (.bool false) ∧ Jx (k + 1) X W' ∧ KX X W1 W' ∧ Below n₀ W1 W')) →
    J 0 X W → CallsIn F n P g (ba ++ #[.func (.yield l) #[] #[]] ++ lb) W fun e W' => (∃ v, e = .returned v) ∧ KX X W W' ∧ Below n₀ W W' ∧ ∃ X', (∀ b, X b → X' b) ∧ (J len X' W' ∨ ∃ k, k ≤ len ∧ 1 ≤ k ∧ Jx k X' W')
theorem IterC.mono {C C' : World → Prop} {g : Nat} {ba lb : Array Value} {encs : Nat → Array Value} {len n₀ : Nat} {w : World} (h : IterC C F n P g ba lb encs len n₀ w) (hc : ∀ W, C' W → C W) : IterC C' F n P g ba lb encs len n₀ w :=
  fun l J Jx X W h1 h2 h3 h4 h5 h6 h7 h8 => h l J Jx X W h1 h2 h3 h4 (fun k X W hj => hc W (h5 k X W hj)) (fun k X W hj => hc W (h6 k X W hj)) h7 h8
theorem Iter.C {g : Nat} {ba lb : Array Value} {encs : Nat → Array Value} {len n₀ : Nat} {w : World} (h : Iter F n P g ba lb encs len n₀ w) (C : World → Prop) : IterC C F n P g ba lb encs len n₀ w :=
  fun l J Jx X W h1 h2 h3 h4 _ _ h7 h8 => h l J Jx X W h1 h2 h3 h4 h7 h8
theorem room_none {F : Fence} (hd : F.depth = none) (k : Nat) : F.room k := fun d h => by rw [hd] at h; cases h
/-- where no depth is asked the figures are all one -/
theorem yieldAt_depth (hd : F.depth = none) {m : Nat} (m' : Nat) {l : Nat} {args : Array Value} {W : World} {R : Ending → World → Prop} (h : YieldAt F m P l args W R) : YieldAt F m' P l args W R := by
  obtain ⟨fn, tmps, assign, body, hy, hR⟩ := h
  exact ⟨fn, tmps, assign, body, hy, hR.1, fun c cs _ => hR.2 c cs (room_none hd _)⟩
theorem wpIn_rangeC {g : Operand} {ps : Array Tmp} {assign body : Code} {Q : Exit → Act → World → Prop} {a : Act} {w : World}
    (hro : F.round = none) (h1 : 1 ≤ n) {gf : Nat} {ba lb : Array Value} (hg : a.eval g = .func (.func gf) ba lb) (hF : F.fn gf) (eg : ∀ args w, (callFunc gf args).run P w = .ok (.enter gf args) w)
    {encs : Nat → Array Value} {len n₀ : Nat} {w0 : World} {C : World → Prop} (hseq : IterC C F (n - 1) P gf ba lb encs len n₀ w0) (hb0 : Below n₀ w0 w) (hn0 : n₀ ≤ w.heap.size) (hps : ∀ k, (encs k).size = ps.size)
    (I : Nat → (Nat → Prop) → World → Prop) (Ix : Code → Nat → (Nat → Prop) → World → Prop) (hI : ∀ k X, Abide w.heap.size (I k X)) (hIx : ∀ c k X, Abide w.heap.size (Ix c k X))
    (hIm : ∀ k X W W', I k X W → Below W.heap.size W W' → w.heap.size ≤ W.heap.size → I k (more X W W') W') (hIxm : ∀ c k X W W', Ix c k X W → Below W.heap.size W W' → w.heap.size ≤ W.heap.size → Ix c k (more X W W') W') (hC : ∀ k X W, I k X W → C W) (hCx : ∀ c k X W, Ix c k X W → C W) (h0 : I 0 (fun _ => False) w)
    (Ax : Nat → Act → World → Prop) (hAx : ∀ k a', Abide w.heap.size (Ax k a'))
    (hassign : ∀ (l k : Nat) (X : Nat → Prop) (W : World) (K : Act → World → Prop), (∀ b, X b → w.heap.size + 2 ≤ b ∧ b < W.heap.size) → I k X W → k < len → (∀ a' W', KeepsFrom w.heap.size W W' → KX X W W' → Below n₀ W W' → I k X W' → Ax k a' W' → K a' W') →
      assign.wpIn (F.inRound l) (n - 1 - 1) P (Exit.then K (fun _ _ _ => False)) { tmps := (ps.zip (encs k)).foldl (fun t (p, v) => t.setIfInBounds p v) a.tmps, defers := [] } W)
    (hbody : ∀ (l k : Nat) (X : Nat → Prop) (a' : Act) (W : World), w.heap.size ≤ l → (∀ b, X b → w.heap.size + 2 ≤ b ∧ b < W.heap.size) → I k X W → Ax k a' W → k < len → body.wpIn (F.inRound l) (n - 1 - 1) P (leftR w.heap.size n₀ I Ix (k + 1) X W) a' W)
    (hdone : ∀ (D : Nat) (W : World), w.heap.size ≤ D → (∃ X, I len X W) → W.heap[D]? = some (.deferred (some [])) → Q .normal { a with defers := { target := .collected D, args := #[] } :: a.defers } W)
    (hstop : ∀ (D : Nat) (c : Code) (k : Nat) (W : World), w.heap.size ≤ D → 1 ≤ k → k ≤ len → (∃ X, Ix c k X W) → W.heap[D]? = some (.deferred (some [])) → c.wpIn F n P Q { a with defers := { target := .collected D, args := #[] } :: a.defers } W) :
    (Code.rangeFunc g ps assign body).wpIn F n P Q a w := by
  refine wpIn_rangeFunc fun fn hfn => ?_
  rw [hro]
  let rec' : LoopState → Option Code → Loop := fun st pe => { state := st, pending := pe, fn, tmps := a.tmps, params := ps, assign, body, defers := w.heap.size }
  have hps' : ∀ st pe, (rec' st pe).params = ps := fun _ _ => rfl
  let L := w.heap.size + 1
  /- the two blocks of the loop's own -/
  let Mine : LoopState → Option Code → World → Prop := fun st pe W => W.heap[L]? = some (.loop (rec' st pe)) ∧ W.heap[w.heap.size]? = some (.deferred (some []))
  have mineAb : ∀ st pe W W', Mine st pe W → Below W.heap.size W W' → Mine st pe W' := fun st pe W W' h hb =>
    ⟨(hb.block L (Array.getElem?_eq_some_iff.1 h.1).1).trans h.1, (hb.block _ (Array.getElem?_eq_some_iff.1 h.2).1).trans h.2⟩
  have minePut : ∀ st pe st' pe' W, Mine st pe W → Mine st' pe' (W.putObj L (.loop (rec' st' pe'))) := fun st pe st' pe' W h =>
    ⟨World.putObj_heap_same (Array.getElem?_eq_some_iff.1 h.1).1, (World.putObj_heap_other (by show w.heap.size ≠ w.heap.size + 1; omega)).trans h.2⟩
  have mineKeep : ∀ st pe W W', Mine st pe W → KeepsFrom w.heap.size W W' → Mine st pe W' := fun st pe W W' h hk =>
    ⟨hk.same L _ (by show w.heap.size ≤ w.heap.size + 1; omega) h.1 rfl, hk.same _ _ (Nat.le_refl _) h.2 rfl⟩
  obtain ⟨W1, hW1⟩ : ∃ W1, (w.alloc (.deferred (some []))).alloc (.loop (rec' .ready none)) = W1 := ⟨_, rfl⟩
  have bel1 : Below w.heap.size w W1 := by rw [← hW1]; exact ((Below.refl _ w).alloc (Nat.le_refl _) _).alloc (by simp) _
  have mine1 : Mine .ready none W1 := by
    rw [← hW1]
    refine ⟨?_, (Below.heap_alloc _ _ _ (by simp)).trans (World.alloc_heap_new w _)⟩
    have := World.alloc_heap_new (w.alloc (.deferred (some []))) (.loop (rec' .ready none))
    rwa [World.size_alloc] at this
  refine ⟨L, [{ target := .collected w.heap.size, args := #[] }], W1, { target := .fn (.func gf) lb, args := ba ++ #[.func (.yield L) #[] #[]] }, W1, gf, ba ++ #[.func (.yield L) #[] #[]] ++ lb, W1, ?_, ?_, ?_, ?_, fun _ => h1, ?_⟩
  · rw [← hW1]; exact run_enterLoop_outer _ _ _ _ _
  · simp only [resolve, hg]
    simp [go_sem]
  · intro f' hf'; simp [Target.leads] at hf'; subst hf'; exact hF
  · simp [invoke, go_sem, eg]
  · have hXp : ∀ (X : Nat → Prop) (A B : World), (∀ b, X b → w.heap.size + 2 ≤ b ∧ b < A.heap.size) → w.heap.size + 2 ≤ A.heap.size → A.heap.size ≤ B.heap.size → ∀ b, more X A B b → w.heap.size + 2 ≤ b ∧ b < B.heap.size := fun X A B h hA hAB b hb => hb.elim (fun hx => ⟨(h b hx).1, Nat.lt_of_lt_of_le (h b hx).2 hAB⟩) (fun h => ⟨by omega, h.2⟩)
    have hXs : ∀ (X : Nat → Prop) (A B : World), (∀ b, X b → w.heap.size + 2 ≤ b ∧ b < A.heap.size) → A.heap.size ≤ B.heap.size → ∀ b, X b → w.heap.size + 2 ≤ b ∧ b < B.heap.size := fun X A B h hAB b hx => ⟨(h b hx).1, Nat.lt_of_lt_of_le (h b hx).2 hAB⟩
    have hsz1 : ∀ st pe W, Mine st pe W → w.heap.size + 2 ≤ W.heap.size := fun st pe W h => by have : w.heap.size + 1 < W.heap.size := (Array.getElem?_eq_some_iff.1 h.1).1; omega
    have kxPut : ∀ (X : Nat → Prop) (W : World) (o : Obj), (∀ b, X b → w.heap.size + 2 ≤ b) → KX X W (W.putObj L o) := fun X W o hX b hb =>
      World.putObj_heap_other (by have := hX b hb; show b ≠ w.heap.size + 1; omega)
    refine (hseq L (fun k X W => I k X W ∧ (∀ b, X b → w.heap.size + 2 ≤ b ∧ b < W.heap.size) ∧ Mine .ready none W) (fun k X W => ∃ c, Ix c k X W ∧ (∀ b, X b → w.heap.size + 2 ≤ b ∧ b < W.heap.size) ∧ Mine .done (some c) W) (fun _ => False) W1 (hb0.trans (bel1.mono hn0)) (fun b h => h.elim)
      (fun k X W W' ⟨h1, h2, h3⟩ hb => ⟨⟨(hI k X).grown h1 hb, hXs X W W' h2 hb.size, mineAb _ _ _ _ h3 hb⟩, hIm k X W W' h1 hb (by have := hsz1 _ _ _ h3; omega), hXp X W W' h2 (hsz1 _ _ _ h3) hb.size, mineAb _ _ _ _ h3 hb⟩)
      (fun k X W W' ⟨c, h1, h2, h3⟩ hb => ⟨⟨c, (hIx c k X).grown h1 hb, hXs X W W' h2 hb.size, mineAb _ _ _ _ h3 hb⟩, c, hIxm c k X W W' h1 hb (by have := hsz1 _ _ _ h3; omega), hXp X W W' h2 (hsz1 _ _ _ h3) hb.size, mineAb _ _ _ _ h3 hb⟩)
      (fun k X W h => hC k X W h.1) (fun k X W ⟨c, h, _⟩ => hCx c k X W h)
      ?_ ⟨(hI 0 _).grown h0 bel1, (fun b h => h.elim), mine1⟩).mono ?_
    · rintro k X W ⟨hi, hX, hm⟩ hk
      refine ⟨fn, _, assign, body, run_yield hm.1 (hps k), roundIn_of_wpIn hfn (hassign L k X W _ hX hi hk ?_)⟩
      intro a' W' hkf hkx hbl hi' hax
      have hm' := mineKeep _ _ _ _ hm hkf
      refine ⟨_, run_beginRound hm'.1 rfl, ?_⟩
      have hm2 : Mine .busy none (W'.putObj L (.loop (rec' .busy none))) := minePut _ _ _ _ _ hm'
      have hL : w.heap.size ≤ L := Nat.le_succ _
      have hb2 : Below n₀ W (W'.putObj L (.loop (rec' .busy none))) := hbl.trans (below_put _ (Nat.le_trans hn0 hL) hm'.1)
      have hkx2 : KX X W (W'.putObj L (.loop (rec' .busy none))) := hkx.trans (kxPut X W' _ fun b h => (hX b h).1)
      have hX2 : ∀ b, X b → w.heap.size + 2 ≤ b ∧ b < (W'.putObj L (.loop (rec' .busy none))).heap.size := hXs X W _ hX hb2.size
      refine wpIn_mono (hbody L k X a' _ hL hX2 ((hI k X).put _ hi' hL hm'.1 rfl) ((hAx k a').put _ hax hL hm'.1 rfl) hk) ?_
      have fin : ∀ (j : Option Code) (W3 : World), Mine .busy none W3 → (Instr.endRound L j).run P W3 = .ok (.bool j.isNone) (W3.putObj L (.loop (rec' (if j.isNone then .ready else .done) j))) := fun j W3 h => run_endRound j h.1
      rintro e a3 W3 hp
      cases e with
      | normal =>
        obtain ⟨k1, kx, k2, k3⟩ := hp
        have hm3 := mineKeep _ _ _ _ hm2 k1
        exact ⟨_, _, fin none W3 hm3, .inl ⟨rfl, ⟨(hI _ _).put _ k3 hL hm3.1 rfl, hXs X _ _ hX2 (Nat.le_trans k2.size (below_put (n₀ := 0) _ (Nat.zero_le _) hm3.1).size), minePut _ _ _ _ _ hm3⟩, (hkx2.trans kx).trans (kxPut X _ _ fun b h => (hX b h).1), (hb2.trans k2).trans (below_put _ (Nat.le_trans hn0 hL) hm3.1)⟩⟩
      | ret =>
        obtain ⟨k1, kx, k2, k3⟩ := hp
        have hm3 := mineKeep _ _ _ _ hm2 k1
        exact ⟨_, _, fin (some .ret) W3 hm3, .inr ⟨rfl, ⟨.ret, (hIx _ _ _).put _ k3 hL hm3.1 rfl, hXs X _ _ hX2 (Nat.le_trans k2.size (below_put (n₀ := 0) _ (Nat.zero_le _) hm3.1).size), minePut _ _ _ _ _ hm3⟩, (hkx2.trans kx).trans (kxPut X _ _ fun b h => (hX b h).1), (hb2.trans k2).trans (below_put _ (Nat.le_trans hn0 hL) hm3.1)⟩⟩
      | exit id =>
        obtain ⟨k1, kx, k2, k3⟩ := hp
        have hm3 := mineKeep _ _ _ _ hm2 k1
        exact ⟨_, _, fin (some (.exit id)) W3 hm3, .inr ⟨rfl, ⟨.exit id, (hIx _ _ _).put _ k3 hL hm3.1 rfl, hXs X _ _ hX2 (Nat.le_trans k2.size (below_put (n₀ := 0) _ (Nat.zero_le _) hm3.1).size), minePut _ _ _ _ _ hm3⟩, (hkx2.trans kx).trans (kxPut X _ _ fun b h => (hX b h).1), (hb2.trans k2).trans (below_put _ (Nat.le_trans hn0 hL) hm3.1)⟩⟩
      | goto t => exact hp.elim
      | panic ch => exact hp.elim
      | outgrown => exact hp.elim
    · rintro e W2 ⟨⟨v, rfl⟩, _, _, X', _, (⟨hi, hX, hm⟩ | ⟨k, hk, hk1, c, hi, hX, hm⟩)⟩
      · exact ⟨none, _, run_endLoop hm.1 (by simp [rec']), hdone _ _ (Nat.le_refl _) ⟨_, (hI _ _).put _ hi (Nat.le_succ _) hm.1 rfl⟩ (minePut _ _ .exhausted none _ hm).2⟩
      · exact ⟨some c, _, run_endLoop hm.1 (by simp [rec']), hstop _ c k _ (Nat.le_refl _) hk1 hk ⟨_, (hIx c k _).put _ hi (Nat.le_succ _) hm.1 rfl⟩ (minePut _ _ .exhausted (some c) _ hm).2⟩
end
end Go.Proofs.Yteelconabmfnkaa
