/- For the plays of two memories: Changed of any two, the lowest bit, what holds between two steps. -/
import Derived.Test.YtdgdmhmagdjeoaaNm
import Derived.Test.YtdgdmhmagdjeoaaUh
namespace Go.Proofs.Ytdgdmhmagdjeoaa
open Go.RowKit
set_option maxHeartbeats 4000000
set_option maxRecDepth 100000
set_option linter.unusedVariables false
set_option linter.unusedSimpArgs false
theorem and_one (x : Int) : ∃ k : Nat, k < 2 ∧ bits .and .i64 x 1 = (k : Int) := by
  have h : BitVec.ofInt 64 x &&& BitVec.ofInt 64 1 = BitVec.ofInt 64 0 ∨ BitVec.ofInt 64 x &&& BitVec.ofInt 64 1 = BitVec.ofInt 64 1 := by
    have e : BitVec.ofInt 64 x &&& 1 = BitVec.setWidth 64 (BitVec.ofBool ((BitVec.ofInt 64 x).getLsbD 0)) := BitVec.and_one_eq_setWidth_ofBool_getLsbD
    rw [show BitVec.ofInt 64 1 = 1 from rfl, e]
    cases (BitVec.ofInt 64 x).getLsbD 0
    · left; rfl
    · right; rfl
  unfold bits
  rcases h with h | h
  · refine ⟨0, by omega, ?_⟩
    show IntKind.i64.wrap (((BitVec.ofInt 64 x &&& BitVec.ofInt 64 1).toNat : Nat) : Int) = _
    rw [h]; rfl
  · refine ⟨1, by omega, ?_⟩
    show IntKind.i64.wrap (((BitVec.ofInt 64 x &&& BitVec.ofInt 64 1).toNat : Nat) : Int) = _
    rw [h]; rfl
theorem changed_len (w : World) (B m k : Nat) (v u : Value) (x y : List Nat) (h1 : MemIs w B m v x) (h2 : MemIs w B k u y) (hl : x.length ≠ y.length) :
    Calls Try.prog 19 #[.pointer (some ⟨m, 0, none⟩), .pointer (some ⟨k, 0, none⟩)] w fun e w' => e = .returned (.tuple #[.slice none 0 0, .int .i64 2]) ∧ ∃ q, w' = w.drewN q := by
  obtain ⟨ao, ca, rfl, _⟩ := Row.form h1.own
  obtain ⟨bo, cb, rfl, _⟩ := Row.form h2.own
  have C1 := Lib.hid (none_c w m ao _ ca h1.hd)
  have C2 := Lib.hid (none_c w k bo _ cb h2.hd)
  have f1 := h1.hd.row
  have f2 := h2.hd.row
  have hne : ((x.length : Int) == (y.length : Int)) = false := by rw [beq_eq_false_iff_ne]; omega
  have hne2 : ((x.length : Int) != (y.length : Int)) = true := by rw [bne, hne]; rfl
  clear h1 h2 hl
  go_enter Try.func19, Try.ntmps19
  go_wp2
  refine wp_scope_straight ?_
  go_wp2_with (first
    | (go_at_call 31; (with_reducible refine C1.out.mono ?_); rintro e w' ⟨rfl, rfl⟩; clear C1)
    | (go_at_call 31; (with_reducible refine C2.out.mono ?_); rintro e w' ⟨rfl, rfl⟩; clear C2))
  go_quiet (fail)
  go_wp2
  simp only [Exit.noGoto]
  go_ret2
  exact ⟨rfl, _, rfl⟩
/-- the patches of any two lists -/
def chgA (x y : List Nat) : List (Nat × List Nat) := if x.length = y.length then chgL x y 0 else []
def chgN (x y : List Nat) : Int := if x.length = y.length then 0 else 2
def ChgP (w : World) (x y : List Nat) (e : Ending) (w' : World) : Prop := ∃ io ic, e = .returned (.tuple #[.slice io (chgA x y).length ic, .int .i64 (chgN x y)]) ∧ PIs w' w.heap.size (.slice io (chgA x y).length ic) (chgA x y) ∧ Below w.heap.size w w'
theorem changed_any (w : World) (B m k : Nat) (v u : Value) (x y : List Nat) (h1 : MemIs w B m v x) (h2 : MemIs w B k u y) :
    Calls Try.prog 19 #[.pointer (some ⟨m, 0, none⟩), .pointer (some ⟨k, 0, none⟩)] w (ChgP w x y) := by
  unfold ChgP chgA chgN
  by_cases h : x.length = y.length
  · rw [if_pos h, if_pos h]
    refine (changed_c w B m k v u x y h1 h2 h).mono ?_
    rintro e w' ⟨v', rfl, hp, hb⟩
    obtain ⟨io, ic, rfl, _⟩ := hp.shape
    exact ⟨io, ic, rfl, hp, hb⟩
  · rw [if_neg h, if_neg h]
    refine (changed_len w B m k v u x y h1 h2 h).mono ?_
    rintro e w' ⟨rfl, q, rfl⟩
    exact ⟨none, 0, rfl, PIs.nil _ _, below_drewN (Below.refl _ _)⟩
theorem rchanged_any (w : World) (ao bo : Option Addr) (ca cb : Nat) (x y : List Nat) (h1 : Rd w ao x) (h2 : Rd w bo y) (hlen : x.length ≤ 16777216) :
    Calls Try.prog 29 #[.slice ao x.length ca, .slice bo y.length cb] w (ChgP w x y) := by
  unfold ChgP chgA chgN
  by_cases h : x.length = y.length
  · rw [if_pos h, if_pos h]
    have := rchanged_c w ao bo ca cb x y h1 h2 h hlen
    rw [h] at this ⊢
    refine this.mono ?_
    rintro e w' ⟨v', rfl, hp, hb⟩
    obtain ⟨io, ic, rfl, _⟩ := hp.shape
    exact ⟨io, ic, rfl, hp, hb⟩
  · rw [if_neg h, if_neg h]
    refine (rchanged_len w ao bo _ _ ca cb h).mono ?_
    rintro e w' ⟨rfl, rfl⟩
    exact ⟨none, 0, rfl, PIs.nil _ _, Below.refl _ _⟩
theorem chgL_wid (a b : List Nat) (h : a.length = b.length) : ∀ p ∈ chgL a b 0, p.2.length ≤ a.length := fun p hp => by
  rw [← chgR_all h] at hp
  exact chgR_wid a b _ p hp
theorem chgA_len (x y : List Nat) : (chgA x y).length ≤ x.length := by
  unfold chgA
  split
  · have := chgL_len x y x.length 0 (by omega); omega
  · simp
theorem chgA_wid (x y : List Nat) : ∀ p ∈ chgA x y, p.2.length ≤ x.length := fun p hp => by
  unfold chgA at hp
  split at hp
  · next h => exact chgL_wid x y h p hp
  · simp at hp
def updA {α : Type} (f : Nat → α) (k : Nat) (y : α) : Nat → α := fun j => if j = k then y else f j
theorem updA_same {α : Type} (f : Nat → α) (k : Nat) (y : α) : updA f k y k = y := if_pos rfl
theorem updA_other {α : Type} (f : Nat → α) {k j : Nat} (y : α) (h : j ≠ k) : updA f k y j = f j := if_neg h
theorem blk_ne' {w : World} {b b' : Nat} {cs cs' : Array Value} {t t' : TypeId} (h : Blk w b cs t) (h' : Blk w b' cs' t') (ht : t ≠ t') : b ≠ b' := fun e => by
  subst e
  have := h.symm.trans h'
  simp at this
  exact ht this.2
/-- what holds between two steps: the two memories, and the bytes that the document tells of each -/
structure PI (W wr : World) (pw px : Nat) (m : Nat → Nat) (v : Nat → Value) (l : Nat → List Nat) (x : Nat → Option Addr) (c : Nat → Nat) : Prop where
  bw : Blk wr pw #[.pointer (some ⟨m 0, 0, none⟩), .pointer (some ⟨m 1, 0, none⟩)] 46
  bx : Blk wr px #[.slice (x 0) (l 0).length (c 0), .slice (x 1) (l 1).length (c 1)] 63
  M : ∀ i, i < 2 → MemIs wr W.heap.size (m i) (v i) (l i)
  X : ∀ i, i < 2 → Xs wr (x i) (c i) (l i)
  ne : m 0 ≠ m 1
  nv : ∀ i j, i < 2 → j < 2 → i ≠ j → (v i).ownBlock = none ∨ (v i).ownBlock ≠ (v j).ownBlock
  ap : ∀ i j, i < 2 → j < 2 → ∀ a, x i = some a → l i ≠ [] → some a.block ≠ (v j).ownBlock
  ax : ∀ i, i < 2 → ∀ a, x i = some a → l i ≠ [] → a.block ≠ pw ∧ a.block ≠ px
  bel : Below W.heap.size W wr
  hw : W.heap.size ≤ pw ∧ W.heap.size ≤ px
section
variable {W wr w' : World} {pw px : Nat} {m : Nat → Nat} {v : Nat → Value} {l : Nat → List Nat} {x : Nat → Option Addr} {c : Nat → Nat}
theorem PI.later (h : PI W wr pw px m v l x c) (hb : Below wr.heap.size wr w') : PI W w' pw px m v l x c :=
  ⟨blkc h.bw hb, blkc h.bx hb, fun i hi => (h.M i hi).later hb, fun i hi => (h.X i hi).later hb, h.ne, h.nv, h.ap, h.ax, h.bel.trans (hb.mono h.bel.size), h.hw⟩
theorem PI.wc (h : PI W wr pw px m v l x c) {i : Nat} (hi : i < 2) : wr.cell? ⟨pw, i, none⟩ = some (.pointer (some ⟨m i, 0, none⟩)) := by
  match i, hi with
  | 0, _ => exact h.bw.cell 0
  | 1, _ => exact h.bw.cell 1
theorem PI.xc (h : PI W wr pw px m v l x c) {i : Nat} (hi : i < 2) : wr.cell? ⟨px, i, none⟩ = some (.slice (x i) (l i).length (c i)) := by
  match i, hi with
  | 0, _ => exact h.bx.cell 0
  | 1, _ => exact h.bx.cell 1
theorem PI.neq (h : PI W wr pw px m v l x c) : pw ≠ px := blk_ne' h.bw h.bx (by decide)
/-- a cell of one of the two boxes is written: memories and bytes are kept -/
theorem mem_box {B b i : Nat} {mm : Nat} {vv : Value} {ll : List Nat} {cs : Array Value} {t : TypeId} (h : MemIs wr B mm vv ll) (hb : Blk wr b cs t) (h1 : t ≠ 5) (h2 : t ≠ 45) (u : Value) : MemIs (wr.setCell ⟨b, i, none⟩ u) B mm vv ll :=
  h.kept (grown_set_row (World.grownBy.refl _ _) i u) (fun e => blk_ne' h.head hb (fun e => h2 e.symm) (by simpa using e)) (.inr (Row.ne_blk h.own hb h1))
theorem xs_box {b i : Nat} {xo : Option Addr} {cc : Nat} {ll : List Nat} (h : Xs wr xo cc ll) (hne : ∀ a, xo = some a → ll ≠ [] → a.block ≠ b) (u : Value) : Xs (wr.setCell ⟨b, i, none⟩ u) xo cc ll :=
  h.kept' (grown_set_row (World.grownBy.refl _ _) i u) fun a ha hl e => hne a ha hl (by simpa using e)
theorem PI.both (h : PI W wr pw px m v l x c) {k : Nat} (hk : k < 2) {l' : List Nat} {xo' : Option Addr} {c' : Nat} (hg : wr.grownBy w' (v k).ownBlock) (hM : MemIs w' W.heap.size (m k) (v k) l') (hl : l'.length = (l k).length) (hX : Xs w' xo' c' l') (ho : xo' = x k ∨ ∀ a, xo' = some a → wr.heap.size ≤ a.block) :
    PI W (w'.setCell ⟨px, k, none⟩ (.slice xo' (l k).length c')) pw px m v (updA l k l') (updA x k xo') (updA c k c') := by
  have hn0 : l' ≠ [] → l k ≠ [] := fun hne e => hne (List.eq_nil_of_length_eq_zero (by rw [hl, e]; rfl))
  have bw' := grown_blk hg h.bw (fun e => Row.ne_blk (h.M k hk).own h.bw (by decide) e.symm)
  have bx' := grown_blk hg h.bx (fun e => Row.ne_blk (h.M k hk).own h.bx (by decide) e.symm)
  have hax : ∀ a, xo' = some a → l' ≠ [] → a.block ≠ pw ∧ a.block ≠ px := fun a ha hne => by
    rcases ho with rfl | ho
    · exact h.ax k hk a ha (hn0 hne)
    · have h1 := ho a ha
      have h2 := h.bw.lt
      have h3 := h.bx.lt
      exact ⟨by omega, by omega⟩
  have hXi : ∀ i, i < 2 → i ≠ k → Xs w' (x i) (c i) (l i) := fun i hi hne => (h.X i hi).kept' hg (h.ap i k hi hk)
  have hMi : ∀ i, i < 2 → i ≠ k → MemIs w' W.heap.size (m i) (v i) (l i) := fun i hi hne => (h.M i hi).kept hg (fun e => Row.ne_blk (h.M k hk).own (h.M i hi).head (by decide) e.symm) (h.nv i k hi hk hne)
  refine ⟨bw'.other k _ h.neq, ?_, fun i hi => ?_, fun i hi => ?_, h.ne, h.nv, fun i j hi hj a ha hne => ?_, fun i hi a ha hne => ?_, (h.bel.grown hg h.bel.size fun b hb => ((h.M k hk).own.lt b hb).1).setCell (p := ⟨px, k, none⟩) h.hw.2 _, h.hw⟩
  · have := bx'.set k (.slice xo' (l k).length c')
    match k, hk with
    | 0, _ => simpa [updA, hl] using this
    | 1, _ => simpa [updA, hl] using this
  · by_cases e : i = k
    · subst e
      rw [updA_same]
      exact mem_box hM bx' (by decide) (by decide) _
    · rw [updA_other _ _ e]
      exact mem_box (hMi i hi e) bx' (by decide) (by decide) _
  · by_cases e : i = k
    · subst e
      rw [updA_same, updA_same, updA_same]
      exact xs_box hX (fun a ha hne => (hax a ha hne).2) _
    · rw [updA_other _ _ e, updA_other _ _ e, updA_other _ _ e]
      exact xs_box (hXi i hi e) (fun a ha hne => (h.ax i hi a ha hne).2) _
  · by_cases e : i = k
    · subst e
      rw [updA_same] at ha hne
      rcases ho with rfl | ho
      · exact h.ap i j hi hj a ha (hn0 hne)
      · intro e
        have h1 := ho a ha
        have h2 := ((h.M j hj).own.lt a.block e.symm).2
        omega
    · rw [updA_other _ _ e] at ha hne
      exact h.ap i j hi hj a ha hne
  · by_cases e : i = k
    · subst e
      rw [updA_same] at ha hne
      exact hax a ha hne
    · rw [updA_other _ _ e] at ha hne
      exact h.ax i hi a ha hne
theorem PI.copy (h : PI W wr pw px m v l x c) {k k' : Nat} (hk : k < 2) (hk' : k' < 2) (hkk : k ≠ k') {m' : Nat} {v' : Value} (hb : Below wr.heap.size wr w') (hM : MemIs w' wr.heap.size m' v' (l k')) :
    PI W ((w'.setCell ⟨pw, k, none⟩ (.pointer (some ⟨m', 0, none⟩))).setCell ⟨px, k, none⟩ (.slice (x k') (l k').length (c k'))) pw px (updA m k m') (updA v k v') (updA l k (l k')) (updA x k (x k')) (updA c k (c k')) := by
  have hi' : ∀ i, i < 2 → i ≠ k → i = k' := fun i hi hne => by omega
  have bw' := blkc h.bw hb
  have bx' := blkc h.bx hb
  have bx2 := bx'.other k (.pointer (some ⟨m', 0, none⟩)) h.neq.symm
  have hlt := fun i hi => (h.M i hi).head.lt
  have hX : Xs w' (x k') (c k') (l k') := (h.X k' hk').later hb
  have hX2 : Xs ((w'.setCell ⟨pw, k, none⟩ (.pointer (some ⟨m', 0, none⟩))).setCell ⟨px, k, none⟩ (.slice (x k') (l k').length (c k'))) (x k') (c k') (l k') :=
    xs_box (xs_box hX (fun a ha hne => (h.ax k' hk' a ha hne).1) _) (fun a ha hne => (h.ax k' hk' a ha hne).2) _
  have hfr : ∀ b, v'.ownBlock = some b → wr.heap.size ≤ b := fun b hb => (hM.own.lt b hb).1
  have hap : ∀ j, j < 2 → ∀ a, x k' = some a → l k' ≠ [] → some a.block ≠ (updA v k v' j).ownBlock := fun j hj a ha hne => by
    by_cases e : j = k
    · rw [e, updA_same]
      intro e2
      have h1 := hfr a.block e2.symm
      have h2 := (h.X k' hk').lt hne a ha
      omega
    · rw [updA_other _ _ e]
      exact h.ap k' j hk' hj a ha hne
  have bww := (bw'.set k (.pointer (some ⟨m', 0, none⟩))).other k (.slice (x k') (l k').length (c k')) h.neq
  refine ⟨?_, ?_, fun i hi => ?_, fun i hi => ?_, ?_, fun i j hi hj hne => ?_, fun i j hi hj a ha hne => ?_, fun i hi a ha hne => ?_, ((h.bel.trans (hb.mono h.bel.size)).setCell (p := ⟨pw, k, none⟩) h.hw.1 _).setCell (p := ⟨px, k, none⟩) h.hw.2 _, h.hw⟩
  · match k, hk with
    | 0, _ => simpa [updA] using bww
    | 1, _ => simpa [updA] using bww
  · have := bx2.set k (.slice (x k') (l k').length (c k'))
    match k, hk with
    | 0, _ => simpa [updA] using this
    | 1, _ => simpa [updA] using this
  · by_cases e : i = k
    · subst e
      rw [updA_same, updA_same, updA_same]
      exact mem_box (mem_box (hM.mono h.bel.size) bw' (by decide) (by decide) _) bx2 (by decide) (by decide) _
    · rw [updA_other _ _ e, updA_other _ _ e, updA_other _ _ e]
      exact mem_box (mem_box ((h.M i hi).later hb) bw' (by decide) (by decide) _) bx2 (by decide) (by decide) _
  · by_cases e : i = k
    · subst e
      rw [updA_same, updA_same, updA_same]
      exact hX2
    · rw [updA_other _ _ e, updA_other _ _ e, updA_other _ _ e, hi' i hi e]
      exact hX2
  · have h1 := hM.le
    have h2 := hlt k' hk'
    match k, hk, k', hk' with
    | 0, _, 1, _ => simp [updA]; omega
    | 1, _, 0, _ => simp [updA]; omega
    | 0, _, 0, _ => exact absurd rfl hkk
    | 1, _, 1, _ => exact absurd rfl hkk
  · have key : ∀ i, i < 2 → ∀ b, (v i).ownBlock = some b → v'.ownBlock ≠ some b := fun i hi b hb e => by
      have h1 := hfr b e
      have h2 := ((h.M i hi).own.lt b hb).2
      omega
    by_cases e : i = k
    · by_cases e2 : j = k
      · exact absurd (e.trans e2.symm) hne
      · rw [e, updA_same, updA_other _ _ e2]
        cases hv : v'.ownBlock with
        | none => exact .inl rfl
        | some b => exact .inr fun e3 => key j hj b e3.symm hv
    · by_cases e2 : j = k
      · rw [e2, updA_same, updA_other _ _ e]
        cases hv : (v i).ownBlock with
        | none => exact .inl rfl
        | some b => exact .inr fun e3 => key i hi b hv e3.symm
      · rw [updA_other _ _ e, updA_other _ _ e2]
        exact h.nv i j hi hj hne
  · by_cases e : i = k
    · rw [e, updA_same] at ha hne
      exact hap j hj a ha hne
    · rw [updA_other _ _ e] at ha hne
      rw [hi' i hi e] at ha hne
      exact hap j hj a ha hne
  · by_cases e : i = k
    · rw [e, updA_same] at ha hne
      exact h.ax k' hk' a ha hne
    · rw [updA_other _ _ e] at ha hne
      exact h.ax i hi a ha hne
end
end Go.Proofs.Ytdgdmhmagdjeoaa
