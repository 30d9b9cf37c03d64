/- table.Find. -/
import Derived.Test.YteelconabmfnkaaTj
import Derived.Test.YteelconabmfnkaaTg
import Derived.Test.YteelconabmfnkaaRfa
namespace Go.Proofs.Yteelconabmfnkaa
open Go Go.RowKit Go.Shelf
attribute [local go_sem] Oper.semAt_some
set_option maxHeartbeats 4000000
set_option maxRecDepth 100000
set_option linter.unusedVariables false
set_option linter.unusedSimpArgs false
def FindP (W : World) (x : Nat) (e : Ending) (w' : World) : Prop :=
  e = .returned (.tuple #[.agg (rowV ((FIND x).getD zeroR)), .bool (FIND x).isSome]) ∧ Below W.heap.size W w'
theorem speccells_get : ∀ (l : List Sp) (i : Nat) (s : Sp), l[i]? = some s → (l.flatMap fun s => (specV s).toList)[i * 7]? = some (.int .u8 (s.op : Nat)) ∧ (l.flatMap fun s => (specV s).toList)[i * 7 + 1]? = some (.string s.name) ∧ (l.flatMap fun s => (specV s).toList)[i * 7 + 2]? = some (.int .u32 (s.code : Nat)) ∧
    (l.flatMap fun s => (specV s).toList)[i * 7 + 3]? = some (.int .i64 s.top) ∧ (l.flatMap fun s => (specV s).toList)[i * 7 + 4]? = some (.int .i64 s.rm) ∧ (l.flatMap fun s => (specV s).toList)[i * 7 + 5]? = some (.int .i64 s.rs2) ∧ (l.flatMap fun s => (specV s).toList)[i * 7 + 6]? = some (.int .u8 (s.lay : Nat))
  | [], i, s, h => by simp at h
  | p :: l, 0, s, h => by
    simp at h
    subst h
    exact ⟨rfl, rfl, rfl, rfl, rfl, rfl, rfl⟩
  | p :: l, i + 1, s, h => by
    have := speccells_get l i s (by simpa using h)
    rw [show (i + 1) * 7 = i * 7 + 7 by omega]
    exact this
/-- what holds between two lines -/
structure FS (W wr : World) (x i : Nat) : Prop where
  b1 : Blk wr W.heap.size #[.int .u32 (x : Nat)] 28
  b2 : Blk wr (W.heap.size + 1) (rowV zeroR) 40
  b3 : Blk wr (W.heap.size + 1 + 1) #[.bool false] 4
  b4 : Blk wr (W.heap.size + 1 + 1 + 1) specCells 116
  bel : Below W.heap.size W wr
  hi : i ≤ 31
  no : ∀ s ∈ SPECS.take i, ∀ r ∈ RL s, fitsB r x = false
theorem FS.later {W wr w1 : World} {x i : Nat} (h : FS W wr x i) (hb : Below wr.heap.size wr w1) : FS W w1 x i :=
  ⟨h.b1.below hb h.b1.lt, h.b2.below hb h.b2.lt, h.b3.below hb h.b3.lt, h.b4.below hb h.b4.lt, h.bel.trans (hb.mono h.bel.size), h.hi, h.no⟩
theorem Abide.blk {B b : Nat} {cs : Array Value} {t : TypeId} : Abide B (fun W => Blk W b cs t) := fun W W' row h hg hr => (hg.block b h.lt (fun e => by
  obtain ⟨_, o, ho, hc⟩ := hr b e.symm
  rw [show W.heap[b]? = _ from h] at ho
  cases ho; cases hc)).trans h
theorem Abide.FS {W : World} {x i B : Nat} (hB : W.heap.size ≤ B) : Abide B (fun W' => FS W W' x i) := fun A A' row h hg hr =>
  ⟨Abide.blk A A' row h.b1 hg hr, Abide.blk A A' row h.b2 hg hr, Abide.blk A A' row h.b3 hg hr, Abide.blk A A' row h.b4 hg hr, Abide.below (Nat.le_refl _) hB A A' row h.bel hg hr, h.hi, h.no⟩
theorem Abide.marks {n₀ B : Nat} {Ds : List Nat} (h : ∀ D ∈ Ds, D < B) : Abide B (fun W => Marks n₀ Ds W) := fun W W' row hm hg hr =>
  hm.kept fun D hD => hg.block D (Array.getElem?_eq_some_iff.1 (hm.2 D hD).2).1 (fun e => by have := (hr D e.symm).1; have := h D hD; omega)
/-- behind the round that has found the row -/
structure FX (W wr : World) (x : Nat) (r : R7) : Prop where
  b2 : Blk wr (W.heap.size + 1) (rowV r) 40
  b3 : Blk wr (W.heap.size + 1 + 1) #[.bool true] 4
  bel : Below W.heap.size W wr
  fit : fitsB r x = true
theorem Abide.FX {W : World} {x B : Nat} {r : R7} (hB : W.heap.size ≤ B) : Abide B (fun W' => FX W W' x r) := fun A A' row h hg hr =>
  ⟨Abide.blk A A' row h.b2 hg hr, Abide.blk A A' row h.b3 hg hr, Abide.below (Nat.le_refl _) hB A A' row h.bel hg hr, h.fit⟩
theorem rowAt_mem {s : Sp} {k : Nat} (h : k < (RL s).length) : rowAt s k ∈ RL s := by
  unfold rowAt
  rw [List.getElem?_eq_getElem h]
  exact List.getElem_mem h
/-- what a round's stores leave -/
structure GS (W : World) (B : Nat) (X : Nat → Prop) (Ds : List Nat) (A A' : World) (cs2 cs3 : Array Value) : Prop where
  kf : KeepsFrom B A A'
  kx : KX X A A'
  bel : Below W.heap.size A A'
  b2 : Blk A' (W.heap.size + 1) cs2 40
  b3 : Blk A' (W.heap.size + 1 + 1) cs3 4
  mrk : Marks W.heap.size Ds A'
section
variable {W A A' : World} {B : Nat} {X : Nat → Prop} {Ds : List Nat} {cs2 cs3 : Array Value}
theorem GS.set2 (h : GS W B X Ds A A' cs2 cs3) (hX : ∀ b, X b → W.heap.size + 1 + 1 < b) (j : Nat) (v : Value) : GS W B X Ds A (A'.setCell ⟨W.heap.size + 1, j, none⟩ v) (cs2.setIfInBounds j v) cs3 :=
  ⟨h.kf.trans ((KeepsOthers.setCell _ _ _).from _), h.kx.trans (fun b hb => heap_setCell_other _ _ b v (by have := hX b hb; show b ≠ W.heap.size + 1; omega)), h.bel.setCell (p := ⟨W.heap.size + 1, j, none⟩) (Nat.le_succ _) v, h.b2.set j v, h.b3.other j v (by omega), h.mrk.set h.b2 j v⟩
theorem GS.set3 (h : GS W B X Ds A A' cs2 cs3) (hX : ∀ b, X b → W.heap.size + 1 + 1 < b) (j : Nat) (v : Value) : GS W B X Ds A (A'.setCell ⟨W.heap.size + 1 + 1, j, none⟩ v) cs2 (cs3.setIfInBounds j v) :=
  ⟨h.kf.trans ((KeepsOthers.setCell _ _ _).from _), h.kx.trans (fun b hb => heap_setCell_other _ _ b v (by have := hX b hb; show b ≠ W.heap.size + 1 + 1; omega)), h.bel.setCell (p := ⟨W.heap.size + 1 + 1, j, none⟩) (by show W.heap.size ≤ W.heap.size + 1 + 1; omega) v, h.b2.other j v (by omega), h.b3.set j v, h.mrk.set h.b3 j v⟩
end
theorem keeps_below {B : Nat} {A A' : World} (hb : Below A.heap.size A A') : KeepsFrom B A A' := ⟨hb.size, fun k o _ hk _ => (hb.block k (Array.getElem?_eq_some_iff.1 hk).1).trans hk⟩
theorem FS.step {W wr : World} {x i : Nat} {s : Sp} (h : FS W wr x i) (hs : SPECS[i]? = some s) (hi : i < 31) (hno : ∀ r ∈ RL s, fitsB r x = false) : FS W wr x (i + 1) :=
  ⟨h.b1, h.b2, h.b3, h.b4, h.bel, hi, fun s' hs' r hr => by
    rw [List.take_add_one, hs] at hs'
    rcases List.mem_append.1 hs' with h1 | h1
    · exact h.no s' h1 r hr
    · simp at h1; subst h1; exact hno r hr⟩
theorem rowAt_of {s : Sp} {r : R7} (h : r ∈ RL s) : ∃ j, j < (RL s).length ∧ rowAt s j = r := by
  obtain ⟨j, hj, rfl⟩ := List.mem_iff_getElem.1 h
  exact ⟨j, hj, by unfold rowAt; rw [List.getElem?_eq_getElem hj]; rfl⟩
theorem find_none {x : Nat} (h : ∀ s ∈ SPECS.take 31, ∀ r ∈ RL s, fitsB r x = false) : FIND x = none := by
  unfold FIND ROWS
  rw [List.find?_eq_none]
  intro r hr
  obtain ⟨s, hs, hr⟩ := List.mem_flatMap.1 hr
  rw [h s (by rw [List.take_of_length_le (by decide)]; exact hs) r hr]
  simp
theorem find_some {x i m : Nat} {s : Sp} (h : ∀ s ∈ SPECS.take i, ∀ r ∈ RL s, fitsB r x = false) (hs : SPECS[i]? = some s) (hm : m < (RL s).length) (hf : fitsB (rowAt s m) x = true) (hno : ∀ j, j < m → fitsB (rowAt s j) x = false) : FIND x = some (rowAt s m) := by
  have e1 : SPECS = SPECS.take i ++ (s :: SPECS.drop (i + 1)) := by
    obtain ⟨hi, hsi⟩ := List.getElem?_eq_some_iff.1 hs
    rw [← hsi, ← List.drop_eq_getElem_cons hi, List.take_append_drop]
  have e2 : RL s = (RL s).take m ++ (rowAt s m :: (RL s).drop (m + 1)) := by
    have : rowAt s m = (RL s)[m] := by unfold rowAt; rw [List.getElem?_eq_getElem hm]; rfl
    rw [this, ← List.drop_eq_getElem_cons hm, List.take_append_drop]
  unfold FIND ROWS
  rw [e1, List.flatMap_append, List.flatMap_cons, List.find?_append]
  have n1 : ((SPECS.take i).flatMap RL).find? (fun r => fitsB r x) = none := by
    rw [List.find?_eq_none]
    intro r hr
    obtain ⟨s', hs', hr⟩ := List.mem_flatMap.1 hr
    rw [h s' hs' r hr]; simp
  have n2 : ((RL s).take m).find? (fun r => fitsB r x) = none := by
    rw [List.find?_eq_none]
    intro r hr
    obtain ⟨j, hj, rfl⟩ := List.mem_iff_getElem.1 hr
    rw [List.length_take] at hj
    have := hno j (by omega)
    unfold rowAt at this
    rw [List.getElem?_eq_getElem (by omega)] at this
    rw [List.getElem_take]
    simp only [Option.getD_some] at this
    rw [this]; simp
  rw [n1, Option.none_or, List.find?_append]
  have n3 : (RL s).find? (fun r => fitsB r x) = some (rowAt s m) := by
    rw [e2, List.find?_append, n2, Option.none_or, List.find?_cons_of_pos (by rw [hf])]
  rw [n3]; rfl
theorem results_two {P : Program} {fn : Func} {p q ty t2 : Nat} (h : fn.results = #[.cell p ty, .cell q t2]) (tmps : Array Value) (w : World) (g g2 : Nat) (tt : TypeId) (cs : Array Value) (d : TypeDesc) (v : Value)
    (hp : tmps.getD p undef = .pointer (some ⟨g, 0, none⟩)) (hq : tmps.getD q undef = .pointer (some ⟨g2, 0, none⟩)) (hg : Blk w g cs tt) (hu : P.underlying ty = some d) (hd : isRow d = true) (hi : (P.info? ty).map (·.size) = some cs.size)
    (h2 : (loadVar t2 ⟨g2, 0, none⟩).run P w = .ok v w) : (results fn tmps).run P w = .ok (.tuple #[.agg cs, v]) w := by
  have := run_load_blk (P := P) w g tt cs d hg hu hd hi
  have hp' : tmps[p]?.getD undef = .pointer (some ⟨g, 0, none⟩) := by simpa using hp
  have hq' : tmps[q]?.getD undef = .pointer (some ⟨g2, 0, none⟩) := by simpa using hq
  simp [results, h, asAddr, hp', hq', this, h2]
theorem run_load_bool (w : World) (g : Nat) (b : Bool) (tt : TypeId) (h : Blk w g #[.bool b] tt) : (loadVar 4 ⟨g, 0, none⟩).run Try.prog w = .ok (.bool b) w := by
  have hc := h.cell 0
  simp only [List.getElem?_toArray, List.getElem?_cons_zero] at hc
  have hu := Try.underlying4
  simp [go_sem, hc, hu]
theorem find_c (W : World) (x : Nat) (hx : x < 4294967296) : Calls Try.prog 34 #[.int .u32 x] W (FindP W x) := by
  refine (callsIn_wide (n := 6)).1 ?_
  refine callsIn_of_wp_marks Try.func34 rfl trivial ?_ rfl
  simp only [Try.ntmps34, List.size_toArray, List.length_cons, List.length_nil, Nat.reduceAdd, Nat.reduceSub, Array.replicate_succ, Array.replicate_zero, List.push_toArray, List.append_toArray, List.nil_append, List.cons_append]
  gi_wp2_with (first
    | (refine ⟨trivial, ?_⟩; gi_at_call 62; refine (callsIn_wide.2 (specs_c _)).mono ?_; rintro e w1 ⟨rfl, hB, hb⟩))
  refine wpIn_loop (fun a wr => ∃ (i : Nat) (Ds : List Nat) (u4 u5 u6 u10 u11 u12 u13 u14 u15 u16 u17 u18 u19 u20 u21 u22 u23 u24 u25 u26 : Value), a = { tmps := #[.int .u32 x, .pointer (some ⟨W.heap.size, 0, none⟩), .pointer (some ⟨W.heap.size + 1, 0, none⟩), .pointer (some ⟨W.heap.size + 1 + 1, 0, none⟩), u4, u5, u6,
      .slice (some ⟨W.heap.size + 1 + 1 + 1, 0, none⟩) 31 31, .int .i64 31, .int .i64 i, u10, u11, u12, u13, u14, u15, u16, u17, u18, u19, u20, u21, u22, u23, u24, u25, u26], defers := Ds.map mark } ∧ FS W wr x i ∧ Marks W.heap.size Ds wr) (fun a _ => 31 - (intOf (a.tmps.getD 9 undef)).toNat) ?_ ?_
  · refine ⟨0, [], _, _, _, _, _, _, _, _, _, _, _, _, _, _, _, _, _, _, _, _, rfl, ?_, Marks.nil _ _⟩
    have k1 := ((Blk.new W #[.int .u32 (x : Nat)] 28).alloc (.cells (rowV zeroR) 40)).alloc (.cells #[.bool false] 4)
    have k2 := (Blk.new (W.alloc (.cells #[.int .u32 (x : Nat)] 28)) (rowV zeroR) 40).alloc (.cells #[.bool false] 4)
    have k3 := Blk.new ((W.alloc (.cells #[.int .u32 (x : Nat)] 28)).alloc (.cells (rowV zeroR) 40)) #[.bool false] 4
    have kb : Below W.heap.size W (((W.alloc (.cells #[.int .u32 (x : Nat)] 28)).alloc (.cells (rowV zeroR) 40)).alloc (.cells #[.bool false] 4)) := (((Below.refl _ W).alloc (Nat.le_refl _) _).alloc (by simp) _).alloc (by simp; omega) _
    simp only [World.size_alloc] at k1 k2 k3 hB
    exact ⟨k1.below hb (by simp only [World.size_alloc]; omega), k2.below hb (by simp only [World.size_alloc]; omega), k3.below hb (by simp only [World.size_alloc]; omega), hB, kb.trans (hb.mono kb.size), by omega, fun s hs => by simp at hs⟩
  · rintro a wr ⟨i, Ds, u4, u5, u6, u10, u11, u12, u13, u14, u15, u16, u17, u18, u19, u20, u21, u22, u23, u24, u25, u26, rfl, hS, hM⟩
    have HS := Lib.hid hS
    have HM := Lib.hid hM
    have c1 : ∀ o, (wr.alloc o).cell? ⟨W.heap.size, 0, none⟩ = some (.int .u32 (x : Nat)) := fun o => (hS.b1.alloc o).cell 0
    rcases Nat.lt_or_ge i 31 with hi | hi
    · obtain ⟨s, hs⟩ : ∃ s, SPECS[i]? = some s := ⟨_, List.getElem?_eq_getElem (show i < SPECS.length from hi)⟩
      have hsm : s ∈ SPECS := List.mem_of_getElem? hs
      obtain ⟨g0, g1, g2, g3, g4, g5, g6⟩ := speccells_get SPECS i s hs
      have d0 : wr.cell? ⟨W.heap.size + 1 + 1 + 1, i * 7, none⟩ = some (.int .u8 (s.op : Nat)) := (hS.b4.cell _).trans (by unfold specCells; rw [List.getElem?_toArray]; exact g0)
      have d1 : wr.cell? ⟨W.heap.size + 1 + 1 + 1, i * 7 + 1, none⟩ = some (.string s.name) := (hS.b4.cell _).trans (by unfold specCells; rw [List.getElem?_toArray]; exact g1)
      have d2 : wr.cell? ⟨W.heap.size + 1 + 1 + 1, i * 7 + 2, none⟩ = some (.int .u32 (s.code : Nat)) := (hS.b4.cell _).trans (by unfold specCells; rw [List.getElem?_toArray]; exact g2)
      have d3 : wr.cell? ⟨W.heap.size + 1 + 1 + 1, i * 7 + 3, none⟩ = some (.int .i64 s.top) := (hS.b4.cell _).trans (by unfold specCells; rw [List.getElem?_toArray]; exact g3)
      have d4 : wr.cell? ⟨W.heap.size + 1 + 1 + 1, i * 7 + 4, none⟩ = some (.int .i64 s.rm) := (hS.b4.cell _).trans (by unfold specCells; rw [List.getElem?_toArray]; exact g4)
      have d5 : wr.cell? ⟨W.heap.size + 1 + 1 + 1, i * 7 + 5, none⟩ = some (.int .i64 s.rs2) := (hS.b4.cell _).trans (by unfold specCells; rw [List.getElem?_toArray]; exact g5)
      have d6 : wr.cell? ⟨W.heap.size + 1 + 1 + 1, i * 7 + 6, none⟩ = some (.int .u8 (s.lay : Nat)) := (hS.b4.cell _).trans (by unfold specCells; rw [List.getElem?_toArray]; exact g6)
      obtain ⟨xc, hxc⟩ : ∃ xc, x &&& 127 = xc := ⟨_, rfl⟩
      have e127 : bits .and .u32 (x : Int) 127 = ((xc : Nat) : Int) := by rw [← hxc]; exact and32 x 127 hx (by decide)
      have HG := Lib.hid hs
      have HXC := Lib.hid hxc
      clear g0 g1 g2 g3 g4 g5 g6 hs hS hM hxc
      by_cases hcd : s.code = xc
      · have hn : ((s.code : Int) != ((xc : Nat) : Int)) = false := by rw [hcd]; simp
        have HCD := Lib.hid hcd
        clear hcd
        gi_wp2
        have hnew := (Below.refl wr.heap.size wr).alloc (Nat.le_refl _) (.cells (specV s) 116)
        have HS0 := HS.out.later hnew
        have HM0 := HM.out.later hnew
        have hlw : wr.heap.size < (wr.alloc (.cells (specV s) 116)).heap.size := by simp
        show Code.wpIn _ _ _ _ _ _ (wr.alloc (.cells (specV s) 116))
        obtain ⟨w0, hw0⟩ : ∃ w0, wr.alloc (.cells (specV s) 116) = w0 := ⟨_, rfl⟩
        rw [hw0] at HS0 HM0 hlw ⊢
        clear hw0 hnew
        have hn0 : W.heap.size ≤ w0.heap.size := HS0.bel.size
        have hD : ∀ D ∈ Ds, D < w0.heap.size := fun D hD => (Array.getElem?_eq_some_iff.1 (HM0.2 D hD).2).1
        have HSm := Lib.hid hsm
        have hw03 := HS0.b4.lt
        refine wpIn_range rfl (by decide) (gf := 64) (ba := #[.agg (specV s)]) (lb := #[]) rfl trivial (enters_of Try.func64 (by kernel_rfl) rfl) (gives_all s hsm (6 - 1) (by decide) W.heap.size w0 hn0) (Below.refl _ _) hn0 (fun _ => rfl)
          (fun k X W' => FS W W' x i ∧ Marks W.heap.size Ds W' ∧ ∀ j, j < k → fitsB (rowAt s j) x = false)
          (fun c k X W' => FX W W' x (rowAt s (k - 1)) ∧ Marks W.heap.size Ds W' ∧ c = .ret ∧ ∀ j, j < k - 1 → fitsB (rowAt s j) x = false)
          (fun k X => (Abide.FS hn0).and ((Abide.marks hD).and Abide.pure)) (fun c k X => (Abide.FX hn0).and ((Abide.marks hD).and Abide.pure))
          (fun k X A B ⟨h1, h2, h3⟩ hb _ => ⟨h1.later hb, h2.later hb, h3⟩) (fun c k X A B h hb _ => ((Abide.FX hn0).and ((Abide.marks hD).and Abide.pure)).grown h hb)
          ⟨HS0, HM0, fun j h => by omega⟩
          (fun k a' W' => ∃ (B6 : Nat) (z10 : Value), W.heap.size + 1 + 1 + 1 < B6 ∧ Blk W' B6 (rowV (rowAt s k)) 40 ∧ a' =
            { tmps := #[.int .u32 x, .pointer (some ⟨W.heap.size, 0, none⟩), .pointer (some ⟨W.heap.size + 1, 0, none⟩), .pointer (some ⟨W.heap.size + 1 + 1, 0, none⟩), u4, .pointer (some ⟨wr.heap.size, 0, none⟩), .pointer (some ⟨B6, 0, none⟩),
            .slice (some ⟨W.heap.size + 1 + 1 + 1, 0, none⟩) 31 31, .int .i64 31, .int .i64 i, z10, .pointer (some ⟨W.heap.size + 1 + 1 + 1, i * 7, none⟩), .agg (specV s), .pointer (some ⟨wr.heap.size, 2, none⟩), .int .u32 (s.code : Nat), .int .u32 x, .int .u32 (xc : Nat), .bool false, .agg (specV s),
            .func (.func 64) #[.agg (specV s)] #[], .agg (rowV (rowAt s k)), u21, u22, u23, u24, u25, u26], defers := [] })
          (fun k a' A B row ⟨B6, z10, h1, h2, h3⟩ hg hr => ⟨B6, z10, h1, Abide.blk A B row h2 hg hr, h3⟩) ?assign ?body ?done ?stop
        case assign =>
          rintro l k X A K hX ⟨h1, h2, h3⟩ hk hK
          gi_wp2
          have hnew := (Below.refl A.heap.size A).alloc (Nat.le_refl _) (.cells (rowV (rowAt s k)) 40)
          exact hK _ _ ((KeepsOthers.alloc _ _).from _) (KX.below (fun b h => (hX b h).2) hnew) (hnew.mono h1.bel.size) ⟨h1.later hnew, h2.later hnew, h3⟩ ⟨A.heap.size, _, h1.b4.lt, Blk.new _ _ _, rfl⟩
        case body =>
          rintro l k X a' A hl hX ⟨h1, h2, h3⟩ ⟨B6, z10, hB6, hb6, rfl⟩ hk
          have hmem := rowAt_mem hk
          obtain ⟨_, _, hm32, ht32⟩ := mask_opc s HSm.out _ hmem
          obtain ⟨r, hr⟩ : ∃ r, rowAt s k = r := ⟨_, rfl⟩
          rw [hr] at hb6 hm32 ht32 ⊢
          have HRK := Lib.hid hr
          have hXl : ∀ b, X b → W.heap.size + 1 + 1 < b := fun b hb => by have := (hX b hb).1; omega
          have cx := h1.b1.cell 0
          simp only [List.getElem?_toArray, List.getElem?_cons_zero] at cx
          have r0 : A.cell? ⟨B6, 0, none⟩ = some (.int .u8 (r.op : Nat)) := hb6.cell 0
          have r1 : A.cell? ⟨B6, 1, none⟩ = some (.int .u8 (r.form : Nat)) := hb6.cell 1
          have r2 : A.cell? ⟨B6, 2, none⟩ = some (.int .u8 (r.frm : Nat)) := hb6.cell 2
          have r3 : A.cell? ⟨B6, 3, none⟩ = some (.int .u8 (r.kind : Nat)) := hb6.cell 3
          have r4 : A.cell? ⟨B6, 4, none⟩ = some (.int .u32 (r.mask : Nat)) := hb6.cell 4
          have r5 : A.cell? ⟨B6, 5, none⟩ = some (.int .u32 (r.mtch : Nat)) := hb6.cell 5
          have r6 : A.cell? ⟨B6, 6, none⟩ = some (.int .u8 (r.lay : Nat)) := hb6.cell 6
          have H1 := Lib.hid h1
          have H2 := Lib.hid h2
          have CF := fits_c A r x hm32 ht32 hx
          have HB6 := Lib.hid hb6
          clear h1 h2 hr hb6
          have h15 : 1 ≤ 6 - 1 - 1 := by decide
          cases hfb : fitsB r x
          · rw [hfb] at CF
            gi_wp2_with (first
              | (refine ⟨trivial, ?_⟩; gi_at_call 35; refine (CallsIn.inRound l (callsIn_wide.2 CF)).mono ?_; rintro e A2 ⟨rfl, hb2⟩))
            exact ⟨keeps_below hb2, KX.below (fun b h => (hX b h).2) hb2, hb2.mono H1.out.bel.size, H1.out.later hb2, H2.out.later hb2, fun j hj => by
              rcases Nat.lt_succ_iff_lt_or_eq.1 hj with h | rfl
              · exact h3 j h
              · rw [HRK.out]; exact hfb⟩
          · rw [hfb] at CF
            gi_wp2_with (first
              | (refine ⟨trivial, ?_⟩; gi_at_call 35; refine (CallsIn.inRound l (callsIn_wide.2 CF)).mono ?_; rintro e A2 ⟨rfl, hb2⟩; have h2' := H1.out.later hb2; have v0 := h2'.b2.cell 0; have v1 := h2'.b2.cell 1; have v2 := h2'.b2.cell 2; have v3 := h2'.b2.cell 3; have v4 := h2'.b2.cell 4; have v5 := h2'.b2.cell 5; have v6 := h2'.b2.cell 6; have v7 := h2'.b3.cell 0; have z0 := h2'.b2.frozen; have z1 := h2'.b3.frozen; have rb6 := HB6.out.below hb2 HB6.out.lt; have t0 : A2.cell? ⟨B6, 0, none⟩ = some (.int .u8 (r.op : Nat)) := rb6.cell 0; have t1 : A2.cell? ⟨B6, 1, none⟩ = some (.int .u8 (r.form : Nat)) := rb6.cell 1; have t2 : A2.cell? ⟨B6, 2, none⟩ = some (.int .u8 (r.frm : Nat)) := rb6.cell 2; have t3 : A2.cell? ⟨B6, 3, none⟩ = some (.int .u8 (r.kind : Nat)) := rb6.cell 3; have t4 : A2.cell? ⟨B6, 4, none⟩ = some (.int .u32 (r.mask : Nat)) := rb6.cell 4; have t5 : A2.cell? ⟨B6, 5, none⟩ = some (.int .u32 (r.mtch : Nat)) := rb6.cell 5; have t6 : A2.cell? ⟨B6, 6, none⟩ = some (.int .u8 (r.lay : Nat)) := rb6.cell 6; simp only [List.getElem?_toArray, List.getElem?_cons_succ, List.getElem?_cons_zero] at v0 v1 v2 v3 v4 v5 v6 v7))
            have g0 : GS W w0.heap.size X Ds A A2 (rowV zeroR) #[.bool false] := ⟨keeps_below hb2, KX.below (fun b h => (hX b h).2) hb2, hb2.mono H1.out.bel.size, h2'.b2, h2'.b3, H2.out.later hb2⟩
            have g8 := (((((((g0.set2 hXl 0 (.int .u8 (r.op : Nat))).set2 hXl 1 (.int .u8 (r.form : Nat))).set2 hXl 2 (.int .u8 (r.frm : Nat))).set2 hXl 3 (.int .u8 (r.kind : Nat))).set2 hXl 4 (.int .u32 (r.mask : Nat))).set2 hXl 5 (.int .u32 (r.mtch : Nat))).set2 hXl 6 (.int .u8 (r.lay : Nat))).set3 hXl 0 (.bool true)
            have q2 := g8.b2
            have q3 := g8.b3
            simp only [List.setIfInBounds_toArray, List.set_cons_succ, List.set_cons_zero] at q2 q3
            refine ⟨g8.kf, g8.kx, g8.bel, ?_, g8.mrk, rfl, fun j hj => h3 j hj⟩
            rw [show rowAt s (k + 1 - 1) = r from HRK.out]
            exact ⟨q2, q3, H1.out.bel.trans g8.bel, hfb⟩
        case done =>
          rintro D A hDw ⟨X, h1, h2, h3⟩ hK
          have hnx := h1.step HG.out hi (fun r hr => by obtain ⟨j, hj, rfl⟩ := rowAt_of hr; exact h3 j hj)
          have hmk := h2.cons (Nat.le_trans hn0 hDw) hK (fun h => by have := hD D h; omega)
          gi_wp2
          refine ⟨⟨i + 1, D :: Ds, _, _, _, _, _, _, _, _, _, _, _, _, _, _, _, _, _, _, _, _, rfl, hnx, hmk⟩, ?_⟩
          simp [intOf]; omega
        case stop =>
          rintro D c k A hDw hk1 hkl ⟨X, h1, h2, rfl, h3⟩ hK
          have hmk := h2.cons (Nat.le_trans hn0 hDw) hK (fun h => by have := hD D h; omega)
          have hfd : FIND x = some (rowAt s (k - 1)) := find_some HS.out.no HG.out (by omega) h1.fit h3
          gi_wp2
          show LeavesInM _ _ _ _ _ _ (List.map mark (D :: Ds)) _ _
          refine leaves_marks (n₀ := W.heap.size) (D :: Ds) _ hmk fun W' hT => ?_
          have q2 : Blk W' (W.heap.size + 1) _ _ := hT.cells _ _ h1.b2 rfl
          have q3 : Blk W' (W.heap.size + 1 + 1) _ _ := hT.cells _ _ h1.b3 rfl
          refine ⟨_, results_two rfl _ _ (W.heap.size + 1) (W.heap.size + 1 + 1) _ _ _ (.bool true) rfl rfl q2 Try.underlying40 rfl (by kernel_rfl) (run_load_bool _ _ true _ q3), ?_⟩
          unfold FindP
          rw [hfd]
          exact ⟨rfl, h1.bel.trans hT.bel⟩
      · have hn : ((s.code : Int) != ((xc : Nat) : Int)) = true := by rw [bne_iff_ne]; omega
        have HCD := Lib.hid hcd
        clear hcd
        have hnew := (Below.refl wr.heap.size wr).alloc (Nat.le_refl _) (.cells (specV s) 116)
        have hnx := (HS.out.later hnew).step HG.out hi (fun r hr => by
          cases hf : fitsB r x with
          | false => rfl
          | true => exact absurd ((fits_opc hsm hr hf).symm.trans HXC.out) HCD.out)
        have hmk := HM.out.later hnew
        gi_wp2
        refine ⟨⟨i + 1, Ds, _, _, _, _, _, _, _, _, _, _, _, _, _, _, _, _, _, _, _, _, rfl, hnx, hmk⟩, ?_⟩
        simp [intOf]; omega
    · have hi31 : i = 31 := by have := hS.hi; omega
      subst hi31
      have v0 := hS.b2.cell 0
      have v1 := hS.b2.cell 1
      have v2 := hS.b2.cell 2
      have v3 := hS.b2.cell 3
      have v4 := hS.b2.cell 4
      have v5 := hS.b2.cell 5
      have v6 := hS.b2.cell 6
      have v7 := hS.b3.cell 0
      have z0 := hS.b2.frozen
      have z1 := hS.b3.frozen
      simp only [List.getElem?_toArray, List.getElem?_cons_succ, List.getElem?_cons_zero] at v0 v1 v2 v3 v4 v5 v6 v7
      gi_wp2
      have hXl : ∀ b, (fun _ : Nat => False) b → W.heap.size + 1 + 1 < b := fun b h => h.elim
      have g0 : GS W 0 (fun _ => False) Ds wr wr (rowV zeroR) #[.bool false] := ⟨KeepsFrom.refl _ _, KX.refl _ _, Below.refl _ _, HS.out.b2, HS.out.b3, HM.out⟩
      have g8 := (((((((g0.set2 hXl 0 (.int .u8 0)).set2 hXl 1 (.int .u8 0)).set2 hXl 2 (.int .u8 0)).set2 hXl 3 (.int .u8 0)).set2 hXl 4 (.int .u32 0)).set2 hXl 5 (.int .u32 0)).set2 hXl 6 (.int .u8 0)).set3 hXl 0 (.bool false)
      have hfd : FIND x = none := find_none HS.out.no
      show LeavesInM _ _ _ _ _ _ (List.map mark Ds) _ _
      refine leaves_marks (n₀ := W.heap.size) Ds _ g8.mrk fun W' hT => ?_
      have q2 : Blk W' (W.heap.size + 1) (rowV zeroR) _ := hT.cells _ _ g8.b2 rfl
      have q3 : Blk W' (W.heap.size + 1 + 1) #[.bool false] _ := hT.cells _ _ g8.b3 rfl
      refine ⟨_, results_two rfl _ _ (W.heap.size + 1) (W.heap.size + 1 + 1) _ _ _ (.bool false) rfl rfl q2 Try.underlying40 rfl (by kernel_rfl) (run_load_bool _ _ false _ q3), ?_⟩
      unfold FindP
      rw [hfd]
      exact ⟨rfl, HS.out.bel.trans (g8.bel.trans hT.bel)⟩
end Go.Proofs.Yteelconabmfnkaa
