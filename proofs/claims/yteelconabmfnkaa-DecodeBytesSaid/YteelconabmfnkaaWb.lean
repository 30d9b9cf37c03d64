/- table.entries. -/
import Derived.Test.YteelconabmfnkaaWa
import Derived.Test.YteelconabmfnkaaRi
import Derived.Test.YteelconabmfnkaaTk
import Derived.Test.YteelconabmfnkaaVga
import Derived.Maps.AppendAt
namespace Go.Proofs.Yteelconabmfnkaa
open Go Go.RowKit Go.Shelf
attribute [local go_sem] Oper.semAt_some
set_option maxHeartbeats 4000000
set_option maxRecDepth 100000
set_option linter.unusedVariables false
set_option linter.unusedSimpArgs false
/-- the entries of a line -/
def EN (s : Sp) : List (R7 × ByteArray) := (RL s).map fun r => (r, LAB s r)
theorem en_all : SPECS.flatMap EN = ALLN := by decide +kernel
theorem row_small : ∀ s ∈ SPECS, ∀ r ∈ RL s, r.form < 4 ∧ r.frm < 4 ∧ r.kind < 4 := by
  have h : (SPECS.all fun s => (RL s).all fun r => decide (r.form < 4) && decide (r.frm < 4) && decide (r.kind < 4)) = true := by decide +kernel
  intro s hs r hr
  have := List.all_eq_true.1 (List.all_eq_true.1 h s hs) r hr
  simp only [Bool.and_eq_true, decide_eq_true_eq] at this
  exact ⟨this.1.1, this.1.2, this.2⟩
theorem rl_len : ∀ s ∈ SPECS, (RL s).length ≤ 16 := by
  have h : (SPECS.all fun s => decide ((RL s).length ≤ 16)) = true := by decide +kernel
  intro s hs
  exact of_decide_eq_true (List.all_eq_true.1 h s hs)
theorem infoE : (Try.prog.info? 119).map (fun i => (i.zero, i.size, i.bytes)) = some (some (.agg (entV zeroR emp)), 8, 32) := by kernel_rfl
section
variable {w w' : World} {base : Nat} {e : TypeId} {size : Nat} {v : Value} {n : Nat} {xs : List Value}
/-- a row stays while another block turns -/
theorem own_kept {row : Option Nat} (h : w.ownsRow base e size v n xs) (hg : w.grownBy w' row) (hr : ∀ b, row = some b → some b ≠ v.ownBlock) : w'.ownsRow base e size v n xs := by
  rcases h.2 with ⟨rfl, h0⟩ | ⟨g, cap, cur, rfl, h1, hgb, h2⟩
  · exact ⟨h.1, .inl ⟨rfl, h0⟩⟩
  · exact ⟨h.1, .inr ⟨g, cap, cur, rfl, h1, (hg.block g (Array.getElem?_eq_some_iff.1 hgb).1 (fun e => hr g e.symm rfl)).trans hgb, h2⟩⟩
theorem own_cells (h : w.ownsRow base e size v n xs) {b : Nat} (hb : v.ownBlock = some b) : ∃ cur, w.heap[b]? = some (.cells cur e (0, 0)) := by
  rcases h.2 with ⟨rfl, _⟩ | ⟨g, cap, cur, rfl, _, hg, _⟩
  · simp [Value.ownBlock] at hb
  · simp only [Value.ownBlock, Option.some.injEq] at hb
    subst hb
    exact ⟨cur, hg⟩
theorem own_slice (h : w.ownsRow base e size v (n + 1) xs) : ∃ g cap, v = .slice (some ⟨g, 0, none⟩) (n + 1) cap := by
  rcases h.2 with ⟨_, h0⟩ | ⟨g, cap, cur, rfl, _⟩
  · omega
  · exact ⟨g, cap, rfl⟩
theorem Abide.own {B : Nat} : Abide B (fun W => W.ownsRow base e size v n xs) := fun W W' row h hg hr => own_kept h hg fun b hb hk => by
  obtain ⟨_, o, ho, hc⟩ := hr b hb
  obtain ⟨cur, hcu⟩ := own_cells h hk.symm
  rw [ho] at hcu
  cases hcu; cases hc
theorem keeps_own {B : Nat} (h : w.ownsRow base e size v n xs) (hg : w.grownBy w' v.ownBlock) : KeepsFrom B w w' := ⟨hg.size, fun k o _ hk ho => (hg.block k (Array.getElem?_eq_some_iff.1 hk).1 (fun e => by
  obtain ⟨cur, hcu⟩ := own_cells h e.symm
  rw [hk] at hcu
  cases hcu; cases ho)).trans hk⟩
theorem kx_own {X : Nat → Prop} (hX : ∀ b, X b → b < w.heap.size) (hn : ∀ b, v.ownBlock = some b → ¬ X b) (hg : w.grownBy w' v.ownBlock) : KX X w w' := fun b hb => hg.block b (hX b hb) (fun e => hn b e.symm hb)
theorem Marks.own {n₀ : Nat} {Ds : List Nat} (h : Marks n₀ Ds w) (ho : w.ownsRow base e size v n xs) (hg : w.grownBy w' v.ownBlock) : Marks n₀ Ds w' := h.kept fun D hD => hg.block D (Array.getElem?_eq_some_iff.1 (h.2 D hD).2).1 (fun e => by
  obtain ⟨cur, hcu⟩ := own_cells ho e.symm
  rw [(h.2 D hD).2] at hcu
  cases hcu)
theorem own_took {n₀ : Nat} (h : w.ownsRow base e size v n xs) (hT : Took n₀ w w') : w'.ownsRow base e size v n xs := by
  rcases h.2 with ⟨rfl, h0⟩ | ⟨g, cap, cur, rfl, h1, hg, h2⟩
  · exact ⟨h.1, .inl ⟨rfl, h0⟩⟩
  · exact ⟨h.1, .inr ⟨g, cap, cur, rfl, h1, hT.cells g _ hg rfl, h2⟩⟩
theorem own_mono (h : w.ownsRow base e size v n xs) {b2 : Nat} (hb : b2 ≤ base) : w.ownsRow b2 e size v n xs := by
  rcases h.2 with ⟨rfl, h0⟩ | ⟨g, cap, cur, rfl, h1, hg, h2⟩
  · exact ⟨h.1, .inl ⟨rfl, h0⟩⟩
  · exact ⟨h.1, .inr ⟨g, cap, cur, rfl, Nat.le_trans hb h1, hg, h2⟩⟩
end
/-- one struct more; where the row lies then -/
theorem wpList_append1_at {P : Program} {w : World} {ops : Array Oper} {rest : List Oper} {o : Oper} {a : Act} {Q : Exit → Act → World → Prop} (hgd : o.guard = none) (s x : Operand) (t : TypeId)
    (ho : o.op = .call { callee := .builtin .append, args := #[s, x], argTypes := #[t, t] })
    (base : Nat) (e : TypeId) (size bytes : Nat) (z : Value) (ht : P.underlying t = some (.slice e)) (hi : (P.info? e).map (fun i => (i.zero, i.size, i.bytes)) = some (some z, size, bytes)) (hzs : z.cells.size = size) (hsz : 0 < size) (hby : bytes ≤ 1024)
    (v : Value) (n : Nat) (xs : List Value) (hs : a.eval s = v) (hown : w.ownsRow base e size v n xs) (b c : Nat) (cs : Array Value) (te : TypeId) (hb : Blk w b cs te) (hcs : cs.size = size) (hx : a.eval x = .slice (some ⟨b, 0, none⟩) 1 c) (h1 : cs.all (·.oneCell') = true)
    (hn : n ≤ 1000000) (hbase : base ≤ w.heap.size)
    (h : ∀ v' w', w'.ownsRow base e size v' (n + 1) (xs ++ cs.toList) → w.grownBy w' v.ownBlock → (v'.ownBlock = v.ownBlock ∨ v'.ownBlock = some w.heap.size) → wpList P ops Q rest (a.put o.dst v') w') : wpList P ops Q (o :: rest) a w := by
  cases hq : P.info? e with
  | none => simp [hq] at hi
  | some i =>
    simp only [hq, Option.map_some, Option.some.injEq, Prod.mk.injEq] at hi
    obtain ⟨hi1, hi2, hi3⟩ := hi
    refine wpList_append_own_at (w := w) hgd s x t ho base e i z size bytes ht hq hi1 hi2 hi3 hzs hsz v n xs hs hown ⟨b, 0, none⟩ 1 c cs.toList hx (by simpa using hcs) (fun j u hj => ?_) (fun u hu => ?_) ?_ ?_ hbase fun v' w' h2 h3 _ h4 => h v' w' h2 h3 h4
    · have e1 : (⟨b, 0, none⟩ : Addr).add j = ⟨b, j, none⟩ := by
        unfold Addr.add
        by_cases hj0 : j = 0
        · subst hj0; rfl
        · simp [hj0]
      rw [e1, hb.cell j]
      simpa using hj
    · exact Array.all_eq_true'.1 h1 u (by simpa using hu)
    · simp only [maxLen]; omega
    · have : (n + 1) * bytes ≤ 1000001 * 1024 := Nat.mul_le_mul (by omega) hby
      omega
/-- a row of entries, of a call's own -/
abbrev OwnE (B : Nat) (w : World) (o : Value) (xs : List (R7 × ByteArray)) : Prop := w.ownsRow B 119 8 o xs.length (ents xs)
/-- what holds between two lines -/
structure ES (W wr : World) (xs : List (R7 × ByteArray)) (v : Value) : Prop where
  lc : Blk wr W.heap.size #[v] 125
  tab : Blk wr (W.heap.size + 1) specCells 116
  own : OwnE (W.heap.size + 2) wr v xs
  bel : Below W.heap.size W wr
theorem ES.later {W wr w1 : World} {xs : List (R7 × ByteArray)} {v : Value} (h : ES W wr xs v) (hb : Below wr.heap.size wr w1) : ES W w1 xs v :=
  ⟨h.lc.below hb h.lc.lt, h.tab.below hb h.tab.lt, own_later h.own hb, h.bel.trans (hb.mono h.bel.size)⟩
theorem Abide.ES {W : World} {xs : List (R7 × ByteArray)} {v : Value} {B : Nat} (hB : W.heap.size ≤ B) : Abide B (fun W' => ES W W' xs v) := fun A A' row h hg hr =>
  ⟨Abide.blk A A' row h.lc hg hr, Abide.blk A A' row h.tab hg hr, Abide.own A A' row h.own hg hr, Abide.below (Nat.le_refl _) hB A A' row h.bel hg hr⟩
theorem Abide.ex {B : Nat} {α : Type} {I : α → World → Prop} (h : ∀ x, Abide B (I x)) : Abide B (fun W => ∃ x, I x W) := fun W W' row ⟨x, hx⟩ hg hr => ⟨x, h x W W' row hx hg hr⟩
/-- one entry more -/
theorem ES.more {W A A1 : World} {xs : List (R7 × ByteArray)} {v v' : Value} {p : R7 × ByteArray} (h : ES W A xs v) (hO : A1.ownsRow (W.heap.size + 2) 119 8 v' (xs.length + 1) (ents xs ++ (entV p.1 p.2).toList)) (hg : A.grownBy A1 v.ownBlock) : ES W (A1.setCell ⟨W.heap.size, 0, none⟩ v') (xs ++ [p]) v' := by
  have h1 := own_blk h.own hg h.lc (by decide)
  have h2 := own_blk h.own hg h.tab (by decide)
  have hb := own_below h.own hg h.bel (Nat.le_add_right _ 2) h.bel.size
  refine ⟨h1.set 0 v', h2.other 0 v' (by omega), ?_, hb.setCell (p := ⟨W.heap.size, 0, none⟩) (Nat.le_refl _) v'⟩
  show World.ownsRow _ _ _ _ _ _ _
  rw [ents_append, List.length_append, ents_one]
  refine own_kept hO (row := some W.heap.size) ⟨rfl, rfl, rfl, by simp, fun k _ hk => heap_setCell_other A1 ⟨W.heap.size, 0, none⟩ k v' (fun e => hk (by rw [e]))⟩ fun b hb hk => ?_
  cases hb
  exact own_ne hO h1 (by decide) hk
def EntP (W : World) (e : Ending) (w' : World) : Prop := ∃ g cap, e = .returned (.slice (some ⟨g, 0, none⟩) 136 cap) ∧ OwnE W.heap.size w' (.slice (some ⟨g, 0, none⟩) 136 cap) ALLN ∧ Below W.heap.size W w'
theorem en_bound {i k : Nat} {s : Sp} (hi : i ≤ 31) (hs : s ∈ SPECS) (hk : k ≤ (RL s).length) : ((SPECS.take i).flatMap EN ++ (EN s).take k).length ≤ 1000000 := by
  have lsum : ∀ l : List Sp, (∀ x ∈ l, x ∈ SPECS) → (l.flatMap EN).length ≤ l.length * 16 := by
    intro l h
    induction l with
    | nil => simp
    | cons x l ih =>
      rw [List.flatMap_cons, List.length_append]
      have := ih fun y hy => h y (by simp [hy])
      have h2 := rl_len x (h x (by simp))
      have : (EN x).length ≤ 16 := by unfold EN; rw [List.length_map]; exact h2
      rw [List.length_cons, Nat.add_mul]; omega
  have a1 := lsum (SPECS.take i) fun x hx => List.mem_of_mem_take hx
  have h2 := rl_len s hs
  rw [List.length_take] at a1
  rw [List.length_append, List.length_take]
  have : SPECS.length = 31 := rfl
  omega
theorem en_take {s : Sp} {k : Nat} (h : k < (RL s).length) : (EN s).take (k + 1) = (EN s).take k ++ [(rowAt s k, LAB s (rowAt s k))] := by
  have : (EN s)[k]? = some (rowAt s k, LAB s (rowAt s k)) := by
    unfold EN rowAt
    rw [List.getElem?_map, List.getElem?_eq_getElem h]
    rfl
  rw [List.take_add_one, this]
  rfl
theorem entries_c (W : World) : Calls Try.prog 66 #[] W (EntP W) := by
  refine (callsIn_wide (n := 6)).1 ?_
  refine callsIn_of_wp_marks Try.func66 rfl trivial ?_ rfl
  simp only [Try.ntmps66, List.size_toArray, List.length_cons, List.length_nil, Nat.reduceAdd, Nat.reduceSub, Array.replicate_succ, Array.replicate_zero, List.push_toArray, List.append_toArray, List.nil_append, List.cons_append]
  gi_wp2_with (first
    | (refine ⟨trivial, ?_⟩; gi_at_call 62; refine (callsIn_wide.2 (specs_c _)).mono ?_; rintro e w1 ⟨rfl, hB, hb⟩))
  refine wpIn_loop (fun a wr => ∃ (i : Nat) (Ds : List Nat) (v : Value) (u2 u3 u4 u8 u9 u10 u11 u12 u13 u14 u15 u16 u17 u18 u19 u20 u21 u22 u23 : Value), a = { tmps := #[.slice none 0 0, .pointer (some ⟨W.heap.size, 0, none⟩), u2, u3, u4, .slice (some ⟨W.heap.size + 1, 0, none⟩) 31 31, .int .i64 31, .int .i64 i, u8, u9, u10, u11, u12, u13, u14, u15, u16, u17, u18, u19, u20, u21, u22, u23], defers := Ds.map mark } ∧ i ≤ 31 ∧ ES W wr ((SPECS.take i).flatMap EN) v ∧ Marks W.heap.size Ds wr) (fun a _ => 31 - (intOf (a.tmps.getD 7 undef)).toNat) ?_ ?_
  · refine ⟨0, [], .slice none 0 0, _, _, _, _, _, _, _, _, _, _, _, _, _, _, _, _, _, _, _, rfl, by omega, ?_, Marks.nil _ _⟩
    have k1 := Blk.new W #[.slice none 0 0] 125
    have kb : Below W.heap.size W (W.alloc (.cells #[.slice none 0 0] 125)) := (Below.refl _ W).alloc (Nat.le_refl _) _
    simp only [World.size_alloc] at hB
    exact ⟨k1.below hb (by simp), hB, World.ownsRow_nil _ _ _ _, kb.trans (hb.mono kb.size)⟩
  · rintro a wr ⟨i, Ds, v, u2, u3, u4, u8, u9, u10, u11, u12, u13, u14, u15, u16, u17, u18, u19, u20, u21, u22, u23, rfl, hi31, hS, hM⟩
    have HS := Lib.hid hS
    have HM := Lib.hid hM
    rcases Nat.lt_or_ge i 31 with hi | hi
    · obtain ⟨s, hs⟩ : ∃ s, SPECS[i]? = some s := ⟨_, List.getElem?_eq_getElem (show i < SPECS.length from hi)⟩
      have hsm : s ∈ SPECS := List.mem_of_getElem? hs
      obtain ⟨g0, g1, g2, g3, g4, g5, g6⟩ := speccells_get SPECS i s hs
      have d0 : wr.cell? ⟨W.heap.size + 1, i * 7, none⟩ = some (.int .u8 (s.op : Nat)) := (hS.tab.cell _).trans (by unfold specCells; rw [List.getElem?_toArray]; exact g0)
      have d1 : wr.cell? ⟨W.heap.size + 1, i * 7 + 1, none⟩ = some (.string s.name) := (hS.tab.cell _).trans (by unfold specCells; rw [List.getElem?_toArray]; exact g1)
      have d2 : wr.cell? ⟨W.heap.size + 1, i * 7 + 2, none⟩ = some (.int .u32 (s.code : Nat)) := (hS.tab.cell _).trans (by unfold specCells; rw [List.getElem?_toArray]; exact g2)
      have d3 : wr.cell? ⟨W.heap.size + 1, i * 7 + 3, none⟩ = some (.int .i64 s.top) := (hS.tab.cell _).trans (by unfold specCells; rw [List.getElem?_toArray]; exact g3)
      have d4 : wr.cell? ⟨W.heap.size + 1, i * 7 + 4, none⟩ = some (.int .i64 s.rm) := (hS.tab.cell _).trans (by unfold specCells; rw [List.getElem?_toArray]; exact g4)
      have d5 : wr.cell? ⟨W.heap.size + 1, i * 7 + 5, none⟩ = some (.int .i64 s.rs2) := (hS.tab.cell _).trans (by unfold specCells; rw [List.getElem?_toArray]; exact g5)
      have d6 : wr.cell? ⟨W.heap.size + 1, i * 7 + 6, none⟩ = some (.int .u8 (s.lay : Nat)) := (hS.tab.cell _).trans (by unfold specCells; rw [List.getElem?_toArray]; exact g6)
      have HG := Lib.hid hs
      clear g0 g1 g2 g3 g4 g5 g6 hs hS hM
      gi_wp2
      have hnew := (Below.refl wr.heap.size wr).alloc (Nat.le_refl _) (.cells (specV s) 116)
      have HS0 := HS.out.later hnew
      have HM0 := HM.out.later hnew
      have hk3 := Blk.new wr (specV s) 116
      have hlw : wr.heap.size < (wr.alloc (.cells (specV s) 116)).heap.size := by simp
      show Code.wpIn _ _ _ _ _ _ (wr.alloc (.cells (specV s) 116))
      obtain ⟨w0, hw0⟩ : ∃ w0, wr.alloc (.cells (specV s) 116) = w0 := ⟨_, rfl⟩
      rw [hw0] at HS0 HM0 hlw hk3 ⊢
      clear hw0 hnew
      have hn0 : W.heap.size ≤ w0.heap.size := HS0.bel.size
      have hlw2 : W.heap.size + 1 < wr.heap.size := HS.out.tab.lt
      have hD : ∀ D ∈ Ds, D < w0.heap.size := fun D hD => (Array.getElem?_eq_some_iff.1 (HM0.2 D hD).2).1
      have HSm := Lib.hid hsm
      have hI : ∀ (k : Nat) (X : Nat → Prop), Abide w0.heap.size (fun W' => (∃ v, ES W W' ((SPECS.take i).flatMap EN ++ (EN s).take k) v ∧ ∀ b, v.ownBlock = some b → ¬ X b) ∧ Blk W' wr.heap.size (specV s) 116 ∧ Marks W.heap.size Ds W') := fun k X =>
        (Abide.ex fun v => (Abide.ES hn0).and Abide.pure).and (Abide.blk.and (Abide.marks hD))
      refine wpIn_range rfl (by decide) (gf := 64) (ba := #[.agg (specV s)]) (lb := #[]) rfl trivial (enters_of Try.func64 (by kernel_rfl) rfl) (gives_all s hsm (6 - 1) (by decide) W.heap.size w0 hn0) (Below.refl _ _) hn0 (fun _ => rfl)
        (fun k X W' => (∃ v, ES W W' ((SPECS.take i).flatMap EN ++ (EN s).take k) v ∧ ∀ b, v.ownBlock = some b → ¬ X b) ∧ Blk W' wr.heap.size (specV s) 116 ∧ Marks W.heap.size Ds W')
        (fun c k X W' => False)
        hI (fun c k X => Abide.pure)
        (fun k X A B ⟨⟨v, h1, h4⟩, h2, h3⟩ hb _ => ⟨⟨v, h1.later hb, fun b hb2 hx => hx.elim (h4 b hb2) (fun h => by
          obtain ⟨cur, hcu⟩ := own_cells h1.own hb2
          have := (Array.getElem?_eq_some_iff.1 hcu).1
          omega)⟩, h2.below hb h2.lt, h3.later hb⟩) (fun c k X A B h hb _ => h.elim)
        ⟨⟨v, by rw [List.take_zero, List.append_nil]; exact HS0, fun b _ h => h⟩, hk3, HM0⟩
        (fun k a' W' => ∃ (B4 : Nat) (z8 z9 : Value), Blk W' B4 (rowV (rowAt s k)) 40 ∧ a' =
          { tmps := #[.slice none 0 0, .pointer (some ⟨W.heap.size, 0, none⟩), u2, .pointer (some ⟨wr.heap.size, 0, none⟩), .pointer (some ⟨B4, 0, none⟩), .slice (some ⟨W.heap.size + 1, 0, none⟩) 31 31, .int .i64 31, .int .i64 i, z8, z9, .agg (specV s), .agg (specV s), .func (.func 64) #[.agg (specV s)] #[], .agg (rowV (rowAt s k)), u14, u15, u16, u17, u18, u19, u20, u21, u22, u23], defers := [] })
        (fun k a' A B row ⟨B4, z8, z9, h2, h3⟩ hg hr => ⟨B4, z8, z9, Abide.blk A B row h2 hg hr, h3⟩) ?assign ?body ?done ?stop
      case assign =>
        rintro l k X A K hX h1 hk hK
        gi_wp2
        have hnew := (Below.refl A.heap.size A).alloc (Nat.le_refl _) (.cells (rowV (rowAt s k)) 40)
        obtain ⟨⟨v, h4, h5⟩, h2, h3⟩ := h1
        exact hK _ _ ((KeepsOthers.alloc _ _).from _) (KX.below (fun b h => (hX b h).2) hnew) (hnew.mono h4.bel.size) ⟨⟨v, h4.later hnew, h5⟩, h2.below hnew h2.lt, h3.later hnew⟩ ⟨A.heap.size, _, _, Blk.new _ _ _, rfl⟩
      case body =>
        rintro l k X a' A hl hX ⟨⟨v, h1, hv⟩, h2, h3⟩ ⟨B4, z8, z9, hb4, rfl⟩ hk
        have hmem := rowAt_mem hk
        obtain ⟨rf, rg, rk⟩ := row_small s HSm.out _ hmem
        have hen := en_take hk
        obtain ⟨r, hr⟩ : ∃ r, rowAt s k = r := ⟨_, rfl⟩
        rw [hr] at hb4 rf rg rk hen ⊢
        have CL : Hid (∀ X, Calls Try.prog 88 #[.agg (specV s), .agg (rowV r)] X fun e w' => e = .returned (.string (LAB s r)) ∧ Below X.heap.size X w') := Lib.hid fun X => label_c X s HSm.out r rf rg rk
        obtain ⟨lb, hlb⟩ : ∃ lb, LAB s r = lb := ⟨_, rfl⟩
        rw [hlb] at CL hen
        obtain ⟨xs, hxs⟩ : ∃ xs, (SPECS.take i).flatMap EN ++ (EN s).take k = xs := ⟨_, rfl⟩
        have hbnd : xs.length ≤ 1000000 := by rw [← hxs]; exact en_bound (by omega) HSm.out (Nat.le_of_lt hk)
        have hstep : (SPECS.take i).flatMap EN ++ (EN s).take (k + 1) = xs ++ [(r, lb)] := by rw [hen, ← List.append_assoc, hxs]
        rw [hxs] at h1
        have HR := Lib.hid hr
        have H1 := Lib.hid h1
        have H2 := Lib.hid h2
        have H3 := Lib.hid h3
        have HB4 := Lib.hid hb4
        have HV := Lib.hid hv
        have HST := Lib.hid hstep
        clear h1 h2 h3 hb4 hr hlb hxs hen hstep rf rg rk hv
        gi_wp2
        refine wpIn_region_ghosts [_, _, _, _, _, _, _] [_, _] (fun k => k == 6) (fun x S Y => Below A.heap.size A Y ∧ (S 6 = true → ∃ b, x 6 = .slice (some ⟨b, 0, none⟩) 1 1 ∧ Blk Y b (entV r lb) 119)) (by kernel_rfl) (by kernel_rfl) (fun _ _ h => h) (by kernel_rfl) (by kernel_rfl) (by kernel_rfl) (fun x => ⟨(Below.refl _ A).drew, fun h => by cases h⟩) ?_
        refine gs_load1 rfl rfl (fun _ _ _ h ⟨h1, h2⟩ => ⟨h1, fun h => h2 h⟩) _ _ rfl ⟨W.heap.size, 0, none⟩ rfl v (fun x S Y hS _ h => (h.1.cell H1.out.lc.lt).trans (H1.out.lc.cell 0)) _ Try.underlying125 rfl ?_
        simp only [Act.put, List.setIfInBounds_toArray, List.set_cons_succ, List.set_cons_zero]
        refine gs_load_blk rfl rfl (fun _ _ _ h ⟨h1, h2⟩ => ⟨h1, fun h => h2 h⟩) _ _ rfl B4 rfl 40 (rowV r) _ (fun x S Y hS h => HB4.out.below h.1 HB4.out.lt) Try.underlying40 rfl (by kernel_rfl) ?_
        simp only [Act.put, List.setIfInBounds_toArray, List.set_cons_succ, List.set_cons_zero]
        refine gs_load_blk rfl rfl (fun _ _ _ h ⟨h1, h2⟩ => ⟨h1, fun h => h2 h⟩) _ _ rfl wr.heap.size rfl 116 (specV s) _ (fun x S Y hS h => H2.out.below h.1 H2.out.lt) Try.underlying116 rfl (by kernel_rfl) ?_
        simp only [Act.put, List.setIfInBounds_toArray, List.set_cons_succ, List.set_cons_zero]
        refine gs_load_blk rfl rfl (fun _ _ _ h ⟨h1, h2⟩ => ⟨h1, fun h => h2 h⟩) _ _ rfl B4 rfl 40 (rowV r) _ (fun x S Y hS h => HB4.out.below h.1 HB4.out.lt) Try.underlying40 rfl (by kernel_rfl) ?_
        simp only [Act.put, List.setIfInBounds_toArray, List.set_cons_succ, List.set_cons_zero]
        refine gs_call (.string lb) rfl rfl 88 [_, _] _ rfl Try.f88 Try.func88 (by kernel_rfl) (by kernel_rfl) [.agg (specV s), .agg (rowV r)] rfl ?_ ?_
        · rintro x S Y h1 hcl ha ⟨h3, h4⟩
          refine (CL.out Y).mono ?_
          rintro e Y2 ⟨rfl, hb⟩
          exact ⟨rfl, h3.trans (hb.mono h3.size), fun h => by obtain ⟨b, h5, h6⟩ := h4 h; exact ⟨b, h5, h6.below hb h6.lt⟩⟩
        simp only [Act.put, List.setIfInBounds_toArray, List.set_cons_succ, List.set_cons_zero]
        obtain ⟨U, Wd, hU⟩ : ∃ (U : Type) (Wd : U → World), ∀ w', ∃ u, w' = Wd u := ⟨World, id, fun w => ⟨w, rfl⟩⟩
        refine gs_quiet (fun w' => ∃ u, w' = Wd u) (fun _ _ w' _ => hU w') rfl rfl (fun _ _ _ h ⟨h1, h2⟩ => ⟨h1, fun h => h2 h⟩) rfl ?_
        intro K hK
        go_big_quiet_op
        first | go_big_quiet_on | (refine ⟨_, fun _ => rfl, ?_⟩; go_big_quiet_on)
        refine gs_val rfl rfl ?_ ?_
        · rintro x S Y h1 hcl ha ⟨h3, h4⟩
          refine ⟨.slice (some ⟨Y.heap.size, 0, none⟩) 1 1, Y.alloc (.cells (entV r lb) 119), ?_, ?_⟩
          · first
            | (simp [go_sem, execOp, Act.eval]; done)
            | kernel_rfl
          · exact ⟨h3.alloc h3.size _, fun _ => ⟨_, rfl, Blk.new _ _ _⟩⟩
        rintro x S Y hS ⟨h3, h4⟩
        obtain ⟨b, e6, hbk⟩ := h4 (hS 6 (by decide))
        change wpList _ _ _ _ (Act.put _ (some 20) (x 6)) _
        rw [e6]
        clear h4 hS e6
        simp only [Act.put, List.setIfInBounds_toArray, List.set_cons_succ, List.set_cons_zero]
        have h5 := H1.out.later h3
        refine wpList_append1_at rfl _ _ 125 rfl (W.heap.size + 2) 119 8 32 _ Try.underlying125 infoE rfl (by decide) (by decide) v _ _ rfl h5.own b 1 (entV r lb) _ hbk rfl rfl (by simp [Value.oneCell']) hbnd (by have := h5.tab.lt; omega) ?_
        intro v2 Y2 hO hG hat
        obtain ⟨g2, cap2, hv2⟩ := own_slice hO
        obtain ⟨len, hlen⟩ : ∃ len, xs.length + 1 = len := ⟨_, rfl⟩
        rw [hlen] at hv2
        have HLN := Lib.hid hlen
        subst hv2
        clear hlen
        have c1 := own_blk h5.own hG h5.lc (by decide)
        have c2 := c1.cell 0
        have c3 := c1.frozen
        simp only [List.getElem?_toArray, List.getElem?_cons_zero] at c2
        have HO := Lib.hid hO
        have HG2 := Lib.hid hG
        have H5 := Lib.hid h5
        have HY := Lib.hid h3
        have HBK := Lib.hid hbk
        clear hO hG h5 h3 hbk c1
        have HAT := Lib.hid hat
        clear hat
        go_wp2
        have hG := HG2.out
        have hO2 := HO.out
        rw [← HLN.out] at hO2
        have k1 : KeepsFrom w0.heap.size A Y := keeps_below HY.out
        have hX2 : ∀ b, X b → b < Y.heap.size := fun b h => Nat.lt_of_lt_of_le (hX b h).2 HY.out.size
        have hXn : ∀ b, X b → b ≠ W.heap.size := fun b h => by have := (hX b h).1; omega
        have kx := (KX.below (fun b h => (hX b h).2) HY.out).trans (kx_own hX2 HV.out hG)
        have l1 := own_blk H5.out.own hG H5.out.lc (by decide)
        have s3 := own_blk H5.out.own hG (H2.out.below HY.out H2.out.lt) (by decide)
        have m3 := (H3.out.later HY.out).own H5.out.own hG
        have hes := H5.out.more (p := (r, lb)) hO2 hG
        rw [HLN.out] at hes
        refine ⟨(k1.trans (keeps_own H5.out.own hG)).trans ((KeepsOthers.setCell _ _ _).from _), kx.trans (fun b h => heap_setCell_other _ _ b _ (hXn b h)), ?_, ⟨⟨_, by rw [HST.out]; exact hes, fun b hb hx => ?_⟩, s3.other 0 _ (by omega), m3.set l1 0 _⟩⟩
        · exact (own_below H5.out.own hG (HY.out.mono H1.out.bel.size) (Nat.le_add_right _ 2) H5.out.bel.size).setCell (p := ⟨W.heap.size, 0, none⟩) (Nat.le_refl _) _
        · rcases HAT.out with h | h
          · rw [h] at hb; exact HV.out b hb hx
          · rw [h] at hb
            cases hb
            have := hX2 _ hx
            omega
      case done =>
        rintro D A hDw ⟨X, ⟨v, h1, h4⟩, h2, h3⟩ hK
        have hmk := h3.cons (Nat.le_trans hn0 hDw) hK (fun h => by have := hD D h; omega)
        rw [List.take_of_length_le (show (EN s).length ≤ (RL s).length by unfold EN; rw [List.length_map]; exact Nat.le_refl _), ← flat_step EN SPECS i s HG.out] at h1
        gi_wp2
        refine ⟨⟨i + 1, D :: Ds, v, _, _, _, _, _, _, _, _, _, _, _, _, _, _, _, _, _, _, _, rfl, by omega, h1, hmk⟩, ?_⟩
        simp [intOf]; omega
      case stop =>
        rintro D c k A hDw hk1 hkl ⟨X, h⟩ hK
        exact h.elim
    · have h31 : i = 31 := by omega
      subst h31
      have hall : (SPECS.take 31).flatMap EN = ALLN := by rw [List.take_of_length_le (by decide)]; exact en_all
      have hS2 := HS.out
      rw [hall] at hS2
      have ho := hS2.own
      have h136 : (ALLN.length : Nat) = 135 + 1 := alln_136
      have ho2 : wr.ownsRow (W.heap.size + 2) 119 8 v (135 + 1) (ents ALLN) := by rw [← h136]; exact ho
      obtain ⟨g, cap, rfl⟩ := own_slice ho2
      have c1 := hS2.lc.cell 0
      simp only [List.getElem?_toArray, List.getElem?_cons_zero] at c1
      have HO := Lib.hid ho2
      have HS3 := Lib.hid hS2
      clear ho ho2 hS2 h136 hall
      gi_wp2
      show LeavesInM _ _ _ _ _ _ (List.map mark Ds) _ _
      refine leaves_marks (n₀ := W.heap.size) Ds _ HM.out fun W' hT => ?_
      refine ⟨_, results_tmp rfl _ _ _, g, cap, rfl, ?_, HS3.out.bel.trans hT.bel⟩
      show World.ownsRow _ _ _ _ _ _ _
      rw [alln_136]
      exact own_mono (own_took HO.out hT) (by omega)
end Go.Proofs.Yteelconabmfnkaa
