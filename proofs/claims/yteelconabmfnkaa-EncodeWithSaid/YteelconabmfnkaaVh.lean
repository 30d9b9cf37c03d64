/- abacusref24.All. -/
import Derived.Test.YteelconabmfnkaaVga
import Derived.Test.YteelconabmfnkaaVf
namespace Go.Proofs.Yteelconabmfnkaa
open Go Go.RowKit
set_option maxHeartbeats 4000000
set_option maxRecDepth 100000
set_option linter.unusedVariables false
set_option linter.unusedSimpArgs false
theorem lncells_get : ∀ (l : List Ln) (i j : Nat) (s : Ln), l[i]? = some s → j < 12 → (l.flatMap fun s => (lnV s).toList)[i * 12 + j]? = (lnV s)[j]?
  | [], i, j, p, h, _ => by simp at h
  | q :: l, 0, j, p, h, hj => by
    simp at h
    subst h
    rw [List.flatMap_cons, List.getElem?_append_left (by show 0 * 12 + j < 12; omega)]
    simp
  | q :: l, i + 1, j, p, h, hj => by
    have := lncells_get l i j p (by simpa using h) hj
    rw [List.flatMap_cons, List.getElem?_append_right (by show 12 ≤ (i + 1) * 12 + j; omega), ← this]
    congr 1
    show (i + 1) * 12 + j - 12 = i * 12 + j
    omega
theorem ln_flags : ∀ s ∈ LINES, (s.noq = false ∧ s.frm = false ∧ s.knd = false ∧ s.nof = false) ∨ (s.noq = false ∧ s.frm = true ∧ s.knd = false ∧ s.nof = false) ∨ (s.noq = false ∧ s.frm = false ∧ s.knd = true ∧ s.nof = false) ∨
    (s.noq = true ∧ s.frm = false ∧ s.knd = false ∧ s.nof = false) ∨ (s.noq = false ∧ s.frm = false ∧ s.knd = false ∧ s.nof = true) := by
  have h : (LINES.all fun s => (!s.noq && !s.frm && !s.knd && !s.nof) || (!s.noq && s.frm && !s.knd && !s.nof) || (!s.noq && !s.frm && s.knd && !s.nof) || (s.noq && !s.frm && !s.knd && !s.nof) || (!s.noq && !s.frm && !s.knd && s.nof)) = true := by decide +kernel
  intro s hs
  have := List.all_eq_true.1 h s hs
  cases h1 : s.noq <;> cases h2 : s.frm <;> cases h3 : s.knd <;> cases h4 : s.nof <;> rw [h1, h2, h3, h4] at this <;> simp at this ⊢
/-- a row of rows with their names, of a call's own -/
abbrev Own (B : Nat) (w : World) (o : Value) (xs : List (R7 × ByteArray)) : Prop := w.ownsRow B 42 8 o xs.length (ents xs)
def AllP (W : World) (e : Ending) (w' : World) : Prop := ∃ g cap, e = .returned (.slice (some ⟨g, 0, none⟩) 136 cap) ∧ Own W.heap.size w' (.slice (some ⟨g, 0, none⟩) 136 cap) ALLN ∧ Below W.heap.size W w'
theorem infoN : (Try.prog.info? 42).map (fun i => (i.zero, i.size, i.bytes)) = some (some (.agg (entV zeroR emp)), 8, 32) := by kernel_rfl
/-- the world in the loops -/
structure AW (W wr : World) (o : Value) (xs : List (R7 × ByteArray)) : Prop where
  own : Own W.heap.size wr o xs
  tab : Blk wr W.heap.size lineCells 111
  bel : Below W.heap.size W wr
theorem AW.later {W wr w' : World} {o : Value} {xs : List (R7 × ByteArray)} (h : AW W wr o xs) (hb : Below wr.heap.size wr w') : AW W w' o xs := ⟨own_later h.own hb, h.tab.below hb h.tab.lt, h.bel.trans (hb.mono h.bel.size)⟩
theorem AW.more {W wr w' : World} {o o' : Value} {xs ys : List (R7 × ByteArray)} (h : AW W wr o xs) (hO : Own W.heap.size w' o' ys) (hg : wr.grownBy w' o.ownBlock) : AW W w' o' ys :=
  ⟨hO, own_blk h.own hg h.tab (by decide), own_below h.own hg h.bel (Nat.le_refl _) h.bel.size⟩
theorem allP_of {W wr : World} {o : Value} (h : AW W wr o ALLN) : AllP W (.returned o) wr := by
  have hn : (ALLN.length : Nat) = 136 := alln_136
  rcases h.own.2 with ⟨_, h0⟩ | ⟨g, cap, cur, rfl, _⟩
  · rw [hn] at h0; omega
  · have ho := h.own
    have : (ALLN.length : Nat) = 136 := alln_136
    rw [this] at ho
    exact ⟨g, cap, by rw [this], by show World.ownsRow _ _ _ _ _ _ _; rw [this]; exact ho, h.bel⟩
theorem alln_bound {pre pre2 : List (R7 × ByteArray)} {s : Ln} {fN i m : Nat} (h1 : pre2 ++ (List.range fN).flatMap (LR2 s) = pre) (h2 : (LINES.take i).flatMap LR = pre2) (h3 : LINES.length = 31) (hf : fN < 4) (hi : i ≤ 31) (hm : m ≤ 4) : (pre ++ (List.range m).flatMap (LR1 s fN)).length ≤ 1000000 := by
  have l1 : ∀ f n, (LR1 s f n).length ≤ 1 := fun f n => by
    unfold LR1
    repeat' split
    all_goals simp
  have lsum : ∀ {α β : Type} (f : α → List β) (c : Nat) (l : List α), (∀ x, (f x).length ≤ c) → (l.flatMap f).length ≤ l.length * c := by
    intro α β f c l h
    induction l with
    | nil => simp
    | cons x l ih => rw [List.flatMap_cons, List.length_append]; have := h x; rw [List.length_cons, Nat.add_mul]; omega
  have l1' : ∀ (s : Ln) f n, (LR1 s f n).length ≤ 1 := fun s f n => by
    unfold LR1
    repeat' split
    all_goals simp
  have l2 : ∀ (s : Ln) f, (LR2 s f).length ≤ 4 := fun s f => by
    unfold LR2
    split
    · simp
    · have := lsum (LR1 s f) 1 (List.range 4) (l1' s f); rw [List.length_range] at this; omega
  have l3 : ∀ s : Ln, (LR s).length ≤ 16 := fun s => by
    unfold LR
    have := lsum (LR2 s) 4 (List.range 4) (l2 s); rw [List.length_range] at this; omega
  have a1 := lsum LR 16 (LINES.take i) l3
  have a2 := lsum (LR2 s) 4 (List.range fN) (l2 s)
  have a3 := lsum (LR1 s fN) 1 (List.range m) (l1 fN)
  rw [List.length_take] at a1
  rw [List.length_range] at a2 a3
  rw [← h1, List.length_append, List.length_append, ← h2]
  omega
theorem all_c (W : World) : Calls Try.prog 28 #[] W (AllP W) := by
  go_enter Try.func28, Try.ntmps28
  go_wp2_with (first
    | (go_at_call 60; (with_reducible refine (lines_c _).mono ?_); rintro e w1 ⟨rfl, hB, hb⟩))
  have H0 : Hid (AW W w1 (.slice none 0 0) ((LINES.take 0).flatMap LR)) := Lib.hid ⟨World.ownsRow_nil _ _ _ _, hB, hb⟩
  clear hB hb
  go_loopw [1, 3] (fun o i wr => ∃ k : Nat, k ≤ 31 ∧ i = .int .i64 k ∧ AW W wr o ((LINES.take k).flatMap LR)) (fun _ i _ => 31 - (intOf i).toNat)
  case atStart => exact ⟨0, by omega, rfl, H0.out⟩
  case round =>
    obtain ⟨i, hi, rfl, hA⟩ := hrel
    clear H0
    by_cases hlt31 : i < 31
    · obtain ⟨s, hs⟩ : ∃ s, LINES[i]? = some s := ⟨_, List.getElem?_eq_getElem (show i < LINES.length from hlt31)⟩
      have hsm : s ∈ LINES := List.mem_of_getElem? hs
      have d0 : wr.cell? ⟨W.heap.size, i * 12, none⟩ = some (.int .u8 (s.op : Nat)) := (hA.tab.cell _).trans (by unfold lineCells; rw [List.getElem?_toArray]; exact lncells_get LINES i 0 s hs (by decide))
      have d1 : wr.cell? ⟨W.heap.size, i * 12 + 1, none⟩ = some (.string s.name) := (hA.tab.cell _).trans (by unfold lineCells; rw [List.getElem?_toArray]; exact lncells_get LINES i 1 s hs (by decide))
      have d2 : wr.cell? ⟨W.heap.size, i * 12 + 2, none⟩ = some (.int .i64 (s.code : Nat)) := (hA.tab.cell _).trans (by unfold lineCells; rw [List.getElem?_toArray]; exact lncells_get LINES i 2 s hs (by decide))
      have d3 : wr.cell? ⟨W.heap.size, i * 12 + 3, none⟩ = some (.int .i64 s.rs3) := (hA.tab.cell _).trans (by unfold lineCells; rw [List.getElem?_toArray]; exact lncells_get LINES i 3 s hs (by decide))
      have d4 : wr.cell? ⟨W.heap.size, i * 12 + 4, none⟩ = some (.int .i64 s.rm) := (hA.tab.cell _).trans (by unfold lineCells; rw [List.getElem?_toArray]; exact lncells_get LINES i 4 s hs (by decide))
      have d5 : wr.cell? ⟨W.heap.size, i * 12 + 5, none⟩ = some (.int .i64 s.rs2) := (hA.tab.cell _).trans (by unfold lineCells; rw [List.getElem?_toArray]; exact lncells_get LINES i 5 s hs (by decide))
      have d6 : wr.cell? ⟨W.heap.size, i * 12 + 6, none⟩ = some (.int .u8 (s.lay : Nat)) := (hA.tab.cell _).trans (by unfold lineCells; rw [List.getElem?_toArray]; exact lncells_get LINES i 6 s hs (by decide))
      have d7 : wr.cell? ⟨W.heap.size, i * 12 + 7, none⟩ = some (.bool s.noq) := (hA.tab.cell _).trans (by unfold lineCells; rw [List.getElem?_toArray]; exact lncells_get LINES i 7 s hs (by decide))
      have d8 : wr.cell? ⟨W.heap.size, i * 12 + 8, none⟩ = some (.bool s.frm) := (hA.tab.cell _).trans (by unfold lineCells; rw [List.getElem?_toArray]; exact lncells_get LINES i 8 s hs (by decide))
      have d9 : wr.cell? ⟨W.heap.size, i * 12 + 9, none⟩ = some (.bool s.knd) := (hA.tab.cell _).trans (by unfold lineCells; rw [List.getElem?_toArray]; exact lncells_get LINES i 9 s hs (by decide))
      have d10 : wr.cell? ⟨W.heap.size, i * 12 + 10, none⟩ = some (.bool s.nof) := (hA.tab.cell _).trans (by unfold lineCells; rw [List.getElem?_toArray]; exact lncells_get LINES i 10 s hs (by decide))
      have d11 : wr.cell? ⟨W.heap.size, i * 12 + 11, none⟩ = some (.bool s.siz) := (hA.tab.cell _).trans (by unfold lineCells; rw [List.getElem?_toArray]; exact lncells_get LINES i 11 s hs (by decide))
      have HSM := Lib.hid hsm
      have HG := Lib.hid hs
      have HLN : Hid (LINES.length = 31) := Lib.hid rfl
      have hfl := ln_flags s hsm
      have HA9 := Lib.hid hA
      clear hs hsm hA
      go_wp2
      have hnew := (Below.refl wr.heap.size wr).alloc (Nat.le_refl _) (.cells (lnV s) 111)
      have hAW := HA9.out.later hnew
      have hB4 := Blk.new wr (lnV s) 111
      show Code.wp _ _ _ _ (wr.alloc (.cells (lnV s) 111))
      obtain ⟨w0, hw0⟩ : ∃ w0, wr.alloc (.cells (lnV s) 111) = w0 := ⟨_, rfl⟩
      obtain ⟨b4, hb4⟩ : ∃ b4, wr.heap.size = b4 := ⟨_, rfl⟩
      rw [hw0] at hAW hB4 ⊢
      rw [hb4] at hB4 ⊢
      clear hw0 hnew HA9 d0 d1 d2 d3 d4 d5 d6 d7 d8 d9 d10 d11
      obtain ⟨pre2, hpre2⟩ : ∃ p, (LINES.take i).flatMap LR = p := ⟨_, rfl⟩
      rw [hpre2] at hAW
      have HPRE2 := Lib.hid hpre2
      have HAW := Lib.hid hAW
      have HB4 := Lib.hid hB4
      clear hpre2 hAW hB4 hb4
      rcases hfl with ⟨h1, h2, h3, h4⟩ | ⟨h1, h2, h3, h4⟩ | ⟨h1, h2, h3, h4⟩ | ⟨h1, h2, h3, h4⟩ | ⟨h1, h2, h3, h4⟩
      · go_loopw [1, 5] (fun o f wf => ∃ fN : Nat, fN ≤ 4 ∧ f = .int .u8 fN ∧ AW W wf o (pre2 ++ (List.range fN).flatMap (LR2 s)) ∧ Blk wf b4 (lnV s) 111) (fun _ i _ => 4 - (intOf i).toNat)
        case atStart => exact ⟨0, by omega, rfl, by simpa using HAW.out, HB4.out⟩
        case round =>
          obtain ⟨fN, hfN, rfl, hA, hX⟩ := hrel
          have c7 : wr.cell? ⟨b4, 7, none⟩ = some (.bool false) := by have := hX.cell 7; rw [show (lnV s)[7]? = some (.bool s.noq) from rfl, h1] at this; exact this
          have c8 : wr.cell? ⟨b4, 8, none⟩ = some (.bool false) := by have := hX.cell 8; rw [show (lnV s)[8]? = some (.bool s.frm) from rfl, h2] at this; exact this
          have c9 : wr.cell? ⟨b4, 9, none⟩ = some (.bool false) := by have := hX.cell 9; rw [show (lnV s)[9]? = some (.bool s.knd) from rfl, h3] at this; exact this
          have c10 : wr.cell? ⟨b4, 10, none⟩ = some (.bool false) := by have := hX.cell 10; rw [show (lnV s)[10]? = some (.bool s.nof) from rfl, h4] at this; exact this
          clear HAW HB4
          by_cases hlt : fN < 4
          · obtain ⟨pre, hpre⟩ : ∃ pre, pre2 ++ (List.range fN).flatMap (LR2 s) = pre := ⟨_, rfl⟩
            rw [hpre] at hA
            have HPRE := Lib.hid hpre
            have HA0 := Lib.hid hA
            have HX0 := Lib.hid hX
            clear hpre hA hX
            go_wp2
            go_loopw [1, 6] (fun o i wx => ∃ m : Nat, m ≤ 4 ∧ i = .int .i64 m ∧ AW W wx o (pre ++ (List.range m).flatMap (LR1 s fN)) ∧ Blk wx b4 (lnV s) 111) (fun _ i _ => 4 - (intOf i).toNat)
            case atStart => exact ⟨0, by omega, rfl, by simpa using HA0.out, HX0.out⟩
            case round =>
              obtain ⟨m, hm, rfl, hA, hX⟩ := hrel
              have c7 : wr.cell? ⟨b4, 7, none⟩ = some (.bool false) := by have := hX.cell 7; rw [show (lnV s)[7]? = some (.bool s.noq) from rfl, h1] at this; exact this
              have c8 : wr.cell? ⟨b4, 8, none⟩ = some (.bool false) := by have := hX.cell 8; rw [show (lnV s)[8]? = some (.bool s.frm) from rfl, h2] at this; exact this
              have c9 : wr.cell? ⟨b4, 9, none⟩ = some (.bool false) := by have := hX.cell 9; rw [show (lnV s)[9]? = some (.bool s.knd) from rfl, h3] at this; exact this
              have c10 : wr.cell? ⟨b4, 10, none⟩ = some (.bool false) := by have := hX.cell 10; rw [show (lnV s)[10]? = some (.bool s.nof) from rfl, h4] at this; exact this
              have HA := Lib.hid hA
              have HX := Lib.hid hX
              clear hA hX HA0 HX0
              by_cases hltm : m < 4
              · have HL : Hid ((pre ++ (List.range m).flatMap (LR1 s fN)).length ≤ 1000000) := Lib.hid (by
                  have h := HA.out.own.1
                  have := alln_bound HPRE.out HPRE2.out HLN.out (by omega) (by omega) (by omega) (m := m)
                  omega)
                by_cases hm0 : m = 0
                · have hn1 : decide ((0 : Int) < (m : Int)) = false := decide_eq_false (by omega)
                  have hn9 : decide (0 < m) = false := decide_eq_false (by omega)
                  obtain ⟨⟨r, nm⟩, hp⟩ : ∃ p, ROWN s fN 0 0 = p := ⟨_, rfl⟩
                  have hrow : ∀ X, Calls Try.prog 61 #[.agg (lnV s), .int .u8 fN, .int .u8 0, .int .u8 0] X fun e w' => e = .returned (.agg (entV r nm)) ∧ Below X.heap.size X w' := fun X => by
                    have := rowg_all s HSM.out X fN 0 0 hlt (by omega) (by omega)
                    unfold RowNP at this
                    rw [hp] at this
                    exact this
                  have hstep : LR1 s fN m = [(r, nm)] := by unfold LR1; rw [h2, h3, ← hp]; simp; try omega
                  have HSTEP := Lib.hid hstep
                  clear hp hstep hm0
                  go_wp2_with (first
                    | (go_at_call 61; (with_reducible refine (hrow _).mono ?_); rintro e w5 ⟨rfl, hb5⟩; have hA5 := (HA.out.later hb5).later ((Below.refl _ w5).alloc (Nat.le_refl _) (.cells (entV r nm) 42)); have hN5 := Blk.new w5 (entV r nm) 42; have hX5 := (HX.out.below hb5 HX.out.lt).alloc (.cells (entV r nm) 42))
                    | (refine wpList_load_blk rfl _ _ rfl _ rfl _ _ _ HX.out Try.underlying111 rfl (by kernel_rfl) ?_)
                    | (refine wpList_append1 rfl _ _ 46 rfl W.heap.size 42 8 32 _ Try.underlying46 infoN rfl (by decide) (by decide) u1 _ _ rfl hA5.own w5.heap.size 1 (entV r nm) _ hN5 rfl rfl (by simp [Value.oneCell']) HL.out hA5.bel.size ?_; intro o2 w6 hO6 hG6; have hX6 := own_blk hA5.own hG6 hX5 (by decide)))
                  have hO7 : Own W.heap.size w6 o2 (pre ++ (List.range (m + 1)).flatMap (LR1 s fN)) := by
                    rw [range_step, HSTEP.out, ← List.append_assoc]
                    show World.ownsRow _ _ _ _ _ _ _
                    rw [ents_append, List.length_append, ents_one]
                    exact hO6
                  first
                  | exact ⟨⟨m + 1, by omega, by omega, hA5.more hO7 hG6⟩, by simp [intOf]; omega⟩
                  | exact ⟨⟨m + 1, by omega, by go_num, hA5.more hO7 hG6, hX6⟩, by simp [intOf]; omega⟩
                · have hn1 : decide ((0 : Int) < (m : Int)) = true := decide_eq_true (by omega)
                  have hn9 : decide (0 < m) = true := decide_eq_true (by omega)
                  have hstep : LR1 s fN m = [] := by unfold LR1; rw [h2, h3]; simp; try omega
                  have hA7 : AW W wr u1 (pre ++ (List.range (m + 1)).flatMap (LR1 s fN)) := by rw [range_step, hstep, List.append_nil]; exact HA.out
                  go_wp2
                  go_roundw
                  case rel => exact ⟨m + 1, by omega, by go_num, hA7, HX.out⟩
                  case measure => simp [intOf]; omega
              · obtain rfl : m = 4 := by omega
                have hl2 : LR2 s fN = (List.range 4).flatMap (LR1 s fN) := by unfold LR2; rw [h1, h4]; simp; try omega
                have hA7 : AW W wr u1 (pre2 ++ (List.range (fN + 1)).flatMap (LR2 s)) := by rw [range_step, hl2, ← List.append_assoc, HPRE.out]; exact HA.out
                go_wp2
                go_roundw
                case rel => exact ⟨fN + 1, by omega, by go_num, hA7, HX.out⟩
                case measure => simp [intOf]; omega
          · obtain rfl : fN = 4 := by omega
            have hA7 : AW W wr u1 ((LINES.take (i + 1)).flatMap LR) := by rw [flat_step LR LINES i s HG.out, HPRE2.out]; exact hA
            have HA7 := Lib.hid hA7
            clear hA hA7
            go_wp2
            go_roundw
            case rel => exact ⟨i + 1, by omega, by go_num, HA7.out⟩
            case measure => simp [intOf]; omega
      · go_loopw [1, 5] (fun o f wf => ∃ fN : Nat, fN ≤ 4 ∧ f = .int .u8 fN ∧ AW W wf o (pre2 ++ (List.range fN).flatMap (LR2 s)) ∧ Blk wf b4 (lnV s) 111) (fun _ i _ => 4 - (intOf i).toNat)
        case atStart => exact ⟨0, by omega, rfl, by simpa using HAW.out, HB4.out⟩
        case round =>
          obtain ⟨fN, hfN, rfl, hA, hX⟩ := hrel
          have c7 : wr.cell? ⟨b4, 7, none⟩ = some (.bool false) := by have := hX.cell 7; rw [show (lnV s)[7]? = some (.bool s.noq) from rfl, h1] at this; exact this
          have c8 : wr.cell? ⟨b4, 8, none⟩ = some (.bool true) := by have := hX.cell 8; rw [show (lnV s)[8]? = some (.bool s.frm) from rfl, h2] at this; exact this
          have c9 : wr.cell? ⟨b4, 9, none⟩ = some (.bool false) := by have := hX.cell 9; rw [show (lnV s)[9]? = some (.bool s.knd) from rfl, h3] at this; exact this
          have c10 : wr.cell? ⟨b4, 10, none⟩ = some (.bool false) := by have := hX.cell 10; rw [show (lnV s)[10]? = some (.bool s.nof) from rfl, h4] at this; exact this
          clear HAW HB4
          by_cases hlt : fN < 4
          · obtain ⟨pre, hpre⟩ : ∃ pre, pre2 ++ (List.range fN).flatMap (LR2 s) = pre := ⟨_, rfl⟩
            rw [hpre] at hA
            have HPRE := Lib.hid hpre
            have HA0 := Lib.hid hA
            have HX0 := Lib.hid hX
            clear hpre hA hX
            go_wp2
            go_loopw [1, 6] (fun o i wx => ∃ m : Nat, m ≤ 4 ∧ i = .int .i64 m ∧ AW W wx o (pre ++ (List.range m).flatMap (LR1 s fN)) ∧ Blk wx b4 (lnV s) 111) (fun _ i _ => 4 - (intOf i).toNat)
            case atStart => exact ⟨0, by omega, rfl, by simpa using HA0.out, HX0.out⟩
            case round =>
              obtain ⟨m, hm, rfl, hA, hX⟩ := hrel
              have c7 : wr.cell? ⟨b4, 7, none⟩ = some (.bool false) := by have := hX.cell 7; rw [show (lnV s)[7]? = some (.bool s.noq) from rfl, h1] at this; exact this
              have c8 : wr.cell? ⟨b4, 8, none⟩ = some (.bool true) := by have := hX.cell 8; rw [show (lnV s)[8]? = some (.bool s.frm) from rfl, h2] at this; exact this
              have c9 : wr.cell? ⟨b4, 9, none⟩ = some (.bool false) := by have := hX.cell 9; rw [show (lnV s)[9]? = some (.bool s.knd) from rfl, h3] at this; exact this
              have c10 : wr.cell? ⟨b4, 10, none⟩ = some (.bool false) := by have := hX.cell 10; rw [show (lnV s)[10]? = some (.bool s.nof) from rfl, h4] at this; exact this
              have HA := Lib.hid hA
              have HX := Lib.hid hX
              clear hA hX HA0 HX0
              by_cases hltm : m < 4
              · have HL : Hid ((pre ++ (List.range m).flatMap (LR1 s fN)).length ≤ 1000000) := Lib.hid (by
                  have h := HA.out.own.1
                  have := alln_bound HPRE.out HPRE2.out HLN.out (by omega) (by omega) (by omega) (m := m)
                  omega)
                by_cases hmf : m = fN
                · have hn1 : ((m : Int) != (fN : Int)) = false := by rw [hmf]; simp
                  have hn2 : ((m : Int) == (fN : Int)) = true := by rw [hmf]; simp
                  have HMF := Lib.hid hmf
                  have hstep : LR1 s fN m = [] := by unfold LR1; rw [h2, h3]; simp; try omega
                  have hA7 : AW W wr u1 (pre ++ (List.range (m + 1)).flatMap (LR1 s fN)) := by rw [range_step, hstep, List.append_nil]; exact HA.out
                  clear hmf
                  go_wp2
                  go_roundw
                  case rel => exact ⟨m + 1, by omega, by go_num, hA7, HX.out⟩
                  case measure => simp [intOf]; omega
                · have hn1 : ((m : Int) != (fN : Int)) = true := by rw [bne_iff_ne]; omega
                  have hn2 : ((m : Int) == (fN : Int)) = false := by rw [beq_eq_false_iff_ne]; omega
                  obtain ⟨⟨r, nm⟩, hp⟩ : ∃ p, ROWN s fN m 0 = p := ⟨_, rfl⟩
                  have hrow : ∀ X, Calls Try.prog 61 #[.agg (lnV s), .int .u8 fN, .int .u8 ((m : Nat) : Int), .int .u8 0] X fun e w' => e = .returned (.agg (entV r nm)) ∧ Below X.heap.size X w' := fun X => by
                    have := rowg_all s HSM.out X fN m 0 hlt (by omega) (by omega)
                    unfold RowNP at this
                    rw [hp] at this
                    exact this
                  have hstep : LR1 s fN m = [(r, nm)] := by unfold LR1; rw [h2, h3, ← hp]; simp; try omega
                  have HSTEP := Lib.hid hstep
                  clear hp hstep
                  go_wp2_with (first
                    | (go_at_call 61; (with_reducible refine (hrow _).mono ?_); rintro e w5 ⟨rfl, hb5⟩; have hA5 := (HA.out.later hb5).later ((Below.refl _ w5).alloc (Nat.le_refl _) (.cells (entV r nm) 42)); have hN5 := Blk.new w5 (entV r nm) 42; have hX5 := (HX.out.below hb5 HX.out.lt).alloc (.cells (entV r nm) 42))
                    | (refine wpList_load_blk rfl _ _ rfl _ rfl _ _ _ HX.out Try.underlying111 rfl (by kernel_rfl) ?_)
                    | (refine wpList_append1 rfl _ _ 46 rfl W.heap.size 42 8 32 _ Try.underlying46 infoN rfl (by decide) (by decide) u1 _ _ rfl hA5.own w5.heap.size 1 (entV r nm) _ hN5 rfl rfl (by simp [Value.oneCell']) HL.out hA5.bel.size ?_; intro o2 w6 hO6 hG6; have hX6 := own_blk hA5.own hG6 hX5 (by decide)))
                  have hO7 : Own W.heap.size w6 o2 (pre ++ (List.range (m + 1)).flatMap (LR1 s fN)) := by
                    rw [range_step, HSTEP.out, ← List.append_assoc]
                    show World.ownsRow _ _ _ _ _ _ _
                    rw [ents_append, List.length_append, ents_one]
                    exact hO6
                  first
                  | exact ⟨⟨m + 1, by omega, by omega, hA5.more hO7 hG6⟩, by simp [intOf]; omega⟩
                  | exact ⟨⟨m + 1, by omega, by go_num, hA5.more hO7 hG6, hX6⟩, by simp [intOf]; omega⟩
              · obtain rfl : m = 4 := by omega
                have hl2 : LR2 s fN = (List.range 4).flatMap (LR1 s fN) := by unfold LR2; rw [h1, h4]; simp; try omega
                have hA7 : AW W wr u1 (pre2 ++ (List.range (fN + 1)).flatMap (LR2 s)) := by rw [range_step, hl2, ← List.append_assoc, HPRE.out]; exact HA.out
                go_wp2
                go_roundw
                case rel => exact ⟨fN + 1, by omega, by go_num, hA7, HX.out⟩
                case measure => simp [intOf]; omega
          · obtain rfl : fN = 4 := by omega
            have hA7 : AW W wr u1 ((LINES.take (i + 1)).flatMap LR) := by rw [flat_step LR LINES i s HG.out, HPRE2.out]; exact hA
            have HA7 := Lib.hid hA7
            clear hA hA7
            go_wp2
            go_roundw
            case rel => exact ⟨i + 1, by omega, by go_num, HA7.out⟩
            case measure => simp [intOf]; omega
      · go_loopw [1, 5] (fun o f wf => ∃ fN : Nat, fN ≤ 4 ∧ f = .int .u8 fN ∧ AW W wf o (pre2 ++ (List.range fN).flatMap (LR2 s)) ∧ Blk wf b4 (lnV s) 111) (fun _ i _ => 4 - (intOf i).toNat)
        case atStart => exact ⟨0, by omega, rfl, by simpa using HAW.out, HB4.out⟩
        case round =>
          obtain ⟨fN, hfN, rfl, hA, hX⟩ := hrel
          have c7 : wr.cell? ⟨b4, 7, none⟩ = some (.bool false) := by have := hX.cell 7; rw [show (lnV s)[7]? = some (.bool s.noq) from rfl, h1] at this; exact this
          have c8 : wr.cell? ⟨b4, 8, none⟩ = some (.bool false) := by have := hX.cell 8; rw [show (lnV s)[8]? = some (.bool s.frm) from rfl, h2] at this; exact this
          have c9 : wr.cell? ⟨b4, 9, none⟩ = some (.bool true) := by have := hX.cell 9; rw [show (lnV s)[9]? = some (.bool s.knd) from rfl, h3] at this; exact this
          have c10 : wr.cell? ⟨b4, 10, none⟩ = some (.bool false) := by have := hX.cell 10; rw [show (lnV s)[10]? = some (.bool s.nof) from rfl, h4] at this; exact this
          clear HAW HB4
          by_cases hlt : fN < 4
          · obtain ⟨pre, hpre⟩ : ∃ pre, pre2 ++ (List.range fN).flatMap (LR2 s) = pre := ⟨_, rfl⟩
            rw [hpre] at hA
            have HPRE := Lib.hid hpre
            have HA0 := Lib.hid hA
            have HX0 := Lib.hid hX
            clear hpre hA hX
            go_wp2
            go_loopw [1, 6] (fun o i wx => ∃ m : Nat, m ≤ 4 ∧ i = .int .i64 m ∧ AW W wx o (pre ++ (List.range m).flatMap (LR1 s fN)) ∧ Blk wx b4 (lnV s) 111) (fun _ i _ => 4 - (intOf i).toNat)
            case atStart => exact ⟨0, by omega, rfl, by simpa using HA0.out, HX0.out⟩
            case round =>
              obtain ⟨m, hm, rfl, hA, hX⟩ := hrel
              have c7 : wr.cell? ⟨b4, 7, none⟩ = some (.bool false) := by have := hX.cell 7; rw [show (lnV s)[7]? = some (.bool s.noq) from rfl, h1] at this; exact this
              have c8 : wr.cell? ⟨b4, 8, none⟩ = some (.bool false) := by have := hX.cell 8; rw [show (lnV s)[8]? = some (.bool s.frm) from rfl, h2] at this; exact this
              have c9 : wr.cell? ⟨b4, 9, none⟩ = some (.bool true) := by have := hX.cell 9; rw [show (lnV s)[9]? = some (.bool s.knd) from rfl, h3] at this; exact this
              have c10 : wr.cell? ⟨b4, 10, none⟩ = some (.bool false) := by have := hX.cell 10; rw [show (lnV s)[10]? = some (.bool s.nof) from rfl, h4] at this; exact this
              have HA := Lib.hid hA
              have HX := Lib.hid hX
              clear hA hX HA0 HX0
              by_cases hltm : m < 4
              · have HL : Hid ((pre ++ (List.range m).flatMap (LR1 s fN)).length ≤ 1000000) := Lib.hid (by
                  have h := HA.out.own.1
                  have := alln_bound HPRE.out HPRE2.out HLN.out (by omega) (by omega) (by omega) (m := m)
                  omega)
                obtain ⟨⟨r, nm⟩, hp⟩ : ∃ p, ROWN s fN 0 m = p := ⟨_, rfl⟩
                have hrow : ∀ X, Calls Try.prog 61 #[.agg (lnV s), .int .u8 fN, .int .u8 0, .int .u8 ((m : Nat) : Int)] X fun e w' => e = .returned (.agg (entV r nm)) ∧ Below X.heap.size X w' := fun X => by
                  have := rowg_all s HSM.out X fN 0 m hlt (by omega) (by omega)
                  unfold RowNP at this
                  rw [hp] at this
                  exact this
                have hstep : LR1 s fN m = [(r, nm)] := by unfold LR1; rw [h2, h3, ← hp]; simp; try omega
                have HSTEP := Lib.hid hstep
                clear hp hstep
                go_wp2_with (first
                  | (go_at_call 61; (with_reducible refine (hrow _).mono ?_); rintro e w5 ⟨rfl, hb5⟩; have hA5 := (HA.out.later hb5).later ((Below.refl _ w5).alloc (Nat.le_refl _) (.cells (entV r nm) 42)); have hN5 := Blk.new w5 (entV r nm) 42; have hX5 := (HX.out.below hb5 HX.out.lt).alloc (.cells (entV r nm) 42))
                  | (refine wpList_load_blk rfl _ _ rfl _ rfl _ _ _ HX.out Try.underlying111 rfl (by kernel_rfl) ?_)
                  | (refine wpList_append1 rfl _ _ 46 rfl W.heap.size 42 8 32 _ Try.underlying46 infoN rfl (by decide) (by decide) u1 _ _ rfl hA5.own w5.heap.size 1 (entV r nm) _ hN5 rfl rfl (by simp [Value.oneCell']) HL.out hA5.bel.size ?_; intro o2 w6 hO6 hG6; have hX6 := own_blk hA5.own hG6 hX5 (by decide)))
                have hO7 : Own W.heap.size w6 o2 (pre ++ (List.range (m + 1)).flatMap (LR1 s fN)) := by
                  rw [range_step, HSTEP.out, ← List.append_assoc]
                  show World.ownsRow _ _ _ _ _ _ _
                  rw [ents_append, List.length_append, ents_one]
                  exact hO6
                first
                | exact ⟨⟨m + 1, by omega, by omega, hA5.more hO7 hG6⟩, by simp [intOf]; omega⟩
                | exact ⟨⟨m + 1, by omega, by go_num, hA5.more hO7 hG6, hX6⟩, by simp [intOf]; omega⟩
              · obtain rfl : m = 4 := by omega
                have hl2 : LR2 s fN = (List.range 4).flatMap (LR1 s fN) := by unfold LR2; rw [h1, h4]; simp; try omega
                have hA7 : AW W wr u1 (pre2 ++ (List.range (fN + 1)).flatMap (LR2 s)) := by rw [range_step, hl2, ← List.append_assoc, HPRE.out]; exact HA.out
                go_wp2
                go_roundw
                case rel => exact ⟨fN + 1, by omega, by go_num, hA7, HX.out⟩
                case measure => simp [intOf]; omega
          · obtain rfl : fN = 4 := by omega
            have hA7 : AW W wr u1 ((LINES.take (i + 1)).flatMap LR) := by rw [flat_step LR LINES i s HG.out, HPRE2.out]; exact hA
            have HA7 := Lib.hid hA7
            clear hA hA7
            go_wp2
            go_roundw
            case rel => exact ⟨i + 1, by omega, by go_num, HA7.out⟩
            case measure => simp [intOf]; omega
      · go_loopw [1, 5] (fun o f wf => ∃ fN : Nat, fN ≤ 4 ∧ f = .int .u8 fN ∧ AW W wf o (pre2 ++ (List.range fN).flatMap (LR2 s)) ∧ Blk wf b4 (lnV s) 111) (fun _ i _ => 4 - (intOf i).toNat)
        case atStart => exact ⟨0, by omega, rfl, by simpa using HAW.out, HB4.out⟩
        case round =>
          obtain ⟨fN, hfN, rfl, hA, hX⟩ := hrel
          have c7 : wr.cell? ⟨b4, 7, none⟩ = some (.bool true) := by have := hX.cell 7; rw [show (lnV s)[7]? = some (.bool s.noq) from rfl, h1] at this; exact this
          have c8 : wr.cell? ⟨b4, 8, none⟩ = some (.bool false) := by have := hX.cell 8; rw [show (lnV s)[8]? = some (.bool s.frm) from rfl, h2] at this; exact this
          have c9 : wr.cell? ⟨b4, 9, none⟩ = some (.bool false) := by have := hX.cell 9; rw [show (lnV s)[9]? = some (.bool s.knd) from rfl, h3] at this; exact this
          have c10 : wr.cell? ⟨b4, 10, none⟩ = some (.bool false) := by have := hX.cell 10; rw [show (lnV s)[10]? = some (.bool s.nof) from rfl, h4] at this; exact this
          clear HAW HB4
          by_cases hlt : fN < 4
          · by_cases hf3 : fN = 3
            · have hq1 : ((fN : Int) == 3) = true := by rw [hf3]; rfl
              have hl2 : LR2 s fN = [] := by unfold LR2; rw [h1, h4]; simp; try omega
              have hA7 : AW W wr u1 (pre2 ++ (List.range (fN + 1)).flatMap (LR2 s)) := by rw [range_step, hl2, List.append_nil]; exact hA
              have HA := Lib.hid hA7
              have HX := Lib.hid hX
              clear hA hA7 hX
              clear hf3
              go_wp2
              go_roundw
              case rel => exact ⟨fN + 1, by omega, by go_num, HA.out, HX.out⟩
              case measure => simp [intOf]; omega
            · have hq1 : ((fN : Int) == 3) = false := by rw [beq_eq_false_iff_ne]; omega
              obtain ⟨pre, hpre⟩ : ∃ pre, pre2 ++ (List.range fN).flatMap (LR2 s) = pre := ⟨_, rfl⟩
              rw [hpre] at hA
              have HPRE := Lib.hid hpre
              have HA0 := Lib.hid hA
              have HX0 := Lib.hid hX
              clear hpre hA hX
              go_wp2
              go_loopw [1, 6] (fun o i wx => ∃ m : Nat, m ≤ 4 ∧ i = .int .i64 m ∧ AW W wx o (pre ++ (List.range m).flatMap (LR1 s fN)) ∧ Blk wx b4 (lnV s) 111) (fun _ i _ => 4 - (intOf i).toNat)
              case atStart => exact ⟨0, by omega, rfl, by simpa using HA0.out, HX0.out⟩
              case round =>
                obtain ⟨m, hm, rfl, hA, hX⟩ := hrel
                have c7 : wr.cell? ⟨b4, 7, none⟩ = some (.bool true) := by have := hX.cell 7; rw [show (lnV s)[7]? = some (.bool s.noq) from rfl, h1] at this; exact this
                have c8 : wr.cell? ⟨b4, 8, none⟩ = some (.bool false) := by have := hX.cell 8; rw [show (lnV s)[8]? = some (.bool s.frm) from rfl, h2] at this; exact this
                have c9 : wr.cell? ⟨b4, 9, none⟩ = some (.bool false) := by have := hX.cell 9; rw [show (lnV s)[9]? = some (.bool s.knd) from rfl, h3] at this; exact this
                have c10 : wr.cell? ⟨b4, 10, none⟩ = some (.bool false) := by have := hX.cell 10; rw [show (lnV s)[10]? = some (.bool s.nof) from rfl, h4] at this; exact this
                have HA := Lib.hid hA
                have HX := Lib.hid hX
                clear hA hX HA0 HX0
                by_cases hltm : m < 4
                · have HL : Hid ((pre ++ (List.range m).flatMap (LR1 s fN)).length ≤ 1000000) := Lib.hid (by
                    have h := HA.out.own.1
                    have := alln_bound HPRE.out HPRE2.out HLN.out (by omega) (by omega) (by omega) (m := m)
                    omega)
                  by_cases hm0 : m = 0
                  · have hn1 : decide ((0 : Int) < (m : Int)) = false := decide_eq_false (by omega)
                    have hn9 : decide (0 < m) = false := decide_eq_false (by omega)
                    obtain ⟨⟨r, nm⟩, hp⟩ : ∃ p, ROWN s fN 0 0 = p := ⟨_, rfl⟩
                    have hrow : ∀ X, Calls Try.prog 61 #[.agg (lnV s), .int .u8 fN, .int .u8 0, .int .u8 0] X fun e w' => e = .returned (.agg (entV r nm)) ∧ Below X.heap.size X w' := fun X => by
                      have := rowg_all s HSM.out X fN 0 0 hlt (by omega) (by omega)
                      unfold RowNP at this
                      rw [hp] at this
                      exact this
                    have hstep : LR1 s fN m = [(r, nm)] := by unfold LR1; rw [h2, h3, ← hp]; simp; try omega
                    have HSTEP := Lib.hid hstep
                    clear hp hstep hm0
                    go_wp2_with (first
                      | (go_at_call 61; (with_reducible refine (hrow _).mono ?_); rintro e w5 ⟨rfl, hb5⟩; have hA5 := (HA.out.later hb5).later ((Below.refl _ w5).alloc (Nat.le_refl _) (.cells (entV r nm) 42)); have hN5 := Blk.new w5 (entV r nm) 42; have hX5 := (HX.out.below hb5 HX.out.lt).alloc (.cells (entV r nm) 42))
                      | (refine wpList_load_blk rfl _ _ rfl _ rfl _ _ _ HX.out Try.underlying111 rfl (by kernel_rfl) ?_)
                      | (refine wpList_append1 rfl _ _ 46 rfl W.heap.size 42 8 32 _ Try.underlying46 infoN rfl (by decide) (by decide) u1 _ _ rfl hA5.own w5.heap.size 1 (entV r nm) _ hN5 rfl rfl (by simp [Value.oneCell']) HL.out hA5.bel.size ?_; intro o2 w6 hO6 hG6; have hX6 := own_blk hA5.own hG6 hX5 (by decide)))
                    have hO7 : Own W.heap.size w6 o2 (pre ++ (List.range (m + 1)).flatMap (LR1 s fN)) := by
                      rw [range_step, HSTEP.out, ← List.append_assoc]
                      show World.ownsRow _ _ _ _ _ _ _
                      rw [ents_append, List.length_append, ents_one]
                      exact hO6
                    first
                    | exact ⟨⟨m + 1, by omega, by omega, hA5.more hO7 hG6⟩, by simp [intOf]; omega⟩
                    | exact ⟨⟨m + 1, by omega, by go_num, hA5.more hO7 hG6, hX6⟩, by simp [intOf]; omega⟩
                  · have hn1 : decide ((0 : Int) < (m : Int)) = true := decide_eq_true (by omega)
                    have hn9 : decide (0 < m) = true := decide_eq_true (by omega)
                    have hstep : LR1 s fN m = [] := by unfold LR1; rw [h2, h3]; simp; try omega
                    have hA7 : AW W wr u1 (pre ++ (List.range (m + 1)).flatMap (LR1 s fN)) := by rw [range_step, hstep, List.append_nil]; exact HA.out
                    go_wp2
                    go_roundw
                    case rel => exact ⟨m + 1, by omega, by go_num, hA7, HX.out⟩
                    case measure => simp [intOf]; omega
                · obtain rfl : m = 4 := by omega
                  have hl2 : LR2 s fN = (List.range 4).flatMap (LR1 s fN) := by unfold LR2; rw [h1, h4]; simp; try omega
                  have hA7 : AW W wr u1 (pre2 ++ (List.range (fN + 1)).flatMap (LR2 s)) := by rw [range_step, hl2, ← List.append_assoc, HPRE.out]; exact HA.out
                  go_wp2
                  go_roundw
                  case rel => exact ⟨fN + 1, by omega, by go_num, hA7, HX.out⟩
                  case measure => simp [intOf]; omega
          · obtain rfl : fN = 4 := by omega
            have hA7 : AW W wr u1 ((LINES.take (i + 1)).flatMap LR) := by rw [flat_step LR LINES i s HG.out, HPRE2.out]; exact hA
            have HA7 := Lib.hid hA7
            clear hA hA7
            go_wp2
            go_roundw
            case rel => exact ⟨i + 1, by omega, by go_num, HA7.out⟩
            case measure => simp [intOf]; omega
      · go_loopw [1, 5] (fun o f wf => ∃ fN : Nat, fN ≤ 4 ∧ f = .int .u8 fN ∧ AW W wf o (pre2 ++ (List.range fN).flatMap (LR2 s)) ∧ Blk wf b4 (lnV s) 111) (fun _ i _ => 4 - (intOf i).toNat)
        case atStart => exact ⟨0, by omega, rfl, by simpa using HAW.out, HB4.out⟩
        case round =>
          obtain ⟨fN, hfN, rfl, hA, hX⟩ := hrel
          have c7 : wr.cell? ⟨b4, 7, none⟩ = some (.bool false) := by have := hX.cell 7; rw [show (lnV s)[7]? = some (.bool s.noq) from rfl, h1] at this; exact this
          have c8 : wr.cell? ⟨b4, 8, none⟩ = some (.bool false) := by have := hX.cell 8; rw [show (lnV s)[8]? = some (.bool s.frm) from rfl, h2] at this; exact this
          have c9 : wr.cell? ⟨b4, 9, none⟩ = some (.bool false) := by have := hX.cell 9; rw [show (lnV s)[9]? = some (.bool s.knd) from rfl, h3] at this; exact this
          have c10 : wr.cell? ⟨b4, 10, none⟩ = some (.bool true) := by have := hX.cell 10; rw [show (lnV s)[10]? = some (.bool s.nof) from rfl, h4] at this; exact this
          clear HAW HB4
          by_cases hlt : fN < 4
          · by_cases hf0 : fN = 0
            · have hq1 : decide ((0 : Int) < (fN : Int)) = false := decide_eq_false (by omega)
              have hq9 : decide (0 < fN) = false := decide_eq_false (by omega)
              have HF0 := Lib.hid hf0
              clear hf0
              obtain ⟨pre, hpre⟩ : ∃ pre, pre2 ++ (List.range fN).flatMap (LR2 s) = pre := ⟨_, rfl⟩
              rw [hpre] at hA
              have HPRE := Lib.hid hpre
              have HA0 := Lib.hid hA
              have HX0 := Lib.hid hX
              clear hpre hA hX
              go_wp2
              go_loopw [1, 6] (fun o i wx => ∃ m : Nat, m ≤ 4 ∧ i = .int .i64 m ∧ AW W wx o (pre ++ (List.range m).flatMap (LR1 s fN)) ∧ Blk wx b4 (lnV s) 111) (fun _ i _ => 4 - (intOf i).toNat)
              case atStart => exact ⟨0, by omega, rfl, by simpa using HA0.out, HX0.out⟩
              case round =>
                obtain ⟨m, hm, rfl, hA, hX⟩ := hrel
                have c7 : wr.cell? ⟨b4, 7, none⟩ = some (.bool false) := by have := hX.cell 7; rw [show (lnV s)[7]? = some (.bool s.noq) from rfl, h1] at this; exact this
                have c8 : wr.cell? ⟨b4, 8, none⟩ = some (.bool false) := by have := hX.cell 8; rw [show (lnV s)[8]? = some (.bool s.frm) from rfl, h2] at this; exact this
                have c9 : wr.cell? ⟨b4, 9, none⟩ = some (.bool false) := by have := hX.cell 9; rw [show (lnV s)[9]? = some (.bool s.knd) from rfl, h3] at this; exact this
                have c10 : wr.cell? ⟨b4, 10, none⟩ = some (.bool true) := by have := hX.cell 10; rw [show (lnV s)[10]? = some (.bool s.nof) from rfl, h4] at this; exact this
                have HA := Lib.hid hA
                have HX := Lib.hid hX
                clear hA hX HA0 HX0
                by_cases hltm : m < 4
                · have HL : Hid ((pre ++ (List.range m).flatMap (LR1 s fN)).length ≤ 1000000) := Lib.hid (by
                    have h := HA.out.own.1
                    have := alln_bound HPRE.out HPRE2.out HLN.out (by omega) (by omega) (by omega) (m := m)
                    omega)
                  by_cases hm0 : m = 0
                  · have hn1 : decide ((0 : Int) < (m : Int)) = false := decide_eq_false (by omega)
                    have hn9 : decide (0 < m) = false := decide_eq_false (by omega)
                    obtain ⟨⟨r, nm⟩, hp⟩ : ∃ p, ROWN s fN 0 0 = p := ⟨_, rfl⟩
                    have hrow : ∀ X, Calls Try.prog 61 #[.agg (lnV s), .int .u8 fN, .int .u8 0, .int .u8 0] X fun e w' => e = .returned (.agg (entV r nm)) ∧ Below X.heap.size X w' := fun X => by
                      have := rowg_all s HSM.out X fN 0 0 hlt (by omega) (by omega)
                      unfold RowNP at this
                      rw [hp] at this
                      exact this
                    have hstep : LR1 s fN m = [(r, nm)] := by unfold LR1; rw [h2, h3, ← hp]; simp; try omega
                    have HSTEP := Lib.hid hstep
                    clear hp hstep hm0
                    go_wp2_with (first
                      | (go_at_call 61; (with_reducible refine (hrow _).mono ?_); rintro e w5 ⟨rfl, hb5⟩; have hA5 := (HA.out.later hb5).later ((Below.refl _ w5).alloc (Nat.le_refl _) (.cells (entV r nm) 42)); have hN5 := Blk.new w5 (entV r nm) 42; have hX5 := (HX.out.below hb5 HX.out.lt).alloc (.cells (entV r nm) 42))
                      | (refine wpList_load_blk rfl _ _ rfl _ rfl _ _ _ HX.out Try.underlying111 rfl (by kernel_rfl) ?_)
                      | (refine wpList_append1 rfl _ _ 46 rfl W.heap.size 42 8 32 _ Try.underlying46 infoN rfl (by decide) (by decide) u1 _ _ rfl hA5.own w5.heap.size 1 (entV r nm) _ hN5 rfl rfl (by simp [Value.oneCell']) HL.out hA5.bel.size ?_; intro o2 w6 hO6 hG6; have hX6 := own_blk hA5.own hG6 hX5 (by decide)))
                    have hO7 : Own W.heap.size w6 o2 (pre ++ (List.range (m + 1)).flatMap (LR1 s fN)) := by
                      rw [range_step, HSTEP.out, ← List.append_assoc]
                      show World.ownsRow _ _ _ _ _ _ _
                      rw [ents_append, List.length_append, ents_one]
                      exact hO6
                    first
                    | exact ⟨⟨m + 1, by omega, by omega, hA5.more hO7 hG6⟩, by simp [intOf]; omega⟩
                    | exact ⟨⟨m + 1, by omega, by go_num, hA5.more hO7 hG6, hX6⟩, by simp [intOf]; omega⟩
                  · have hn1 : decide ((0 : Int) < (m : Int)) = true := decide_eq_true (by omega)
                    have hn9 : decide (0 < m) = true := decide_eq_true (by omega)
                    have hstep : LR1 s fN m = [] := by unfold LR1; rw [h2, h3]; simp; try omega
                    have hA7 : AW W wr u1 (pre ++ (List.range (m + 1)).flatMap (LR1 s fN)) := by rw [range_step, hstep, List.append_nil]; exact HA.out
                    go_wp2
                    go_roundw
                    case rel => exact ⟨m + 1, by omega, by go_num, hA7, HX.out⟩
                    case measure => simp [intOf]; omega
                · obtain rfl : m = 4 := by omega
                  have hl2 : LR2 s fN = (List.range 4).flatMap (LR1 s fN) := by unfold LR2; rw [h1, h4, HF0.out]; simp
                  have hA7 : AW W wr u1 (pre2 ++ (List.range (fN + 1)).flatMap (LR2 s)) := by rw [range_step, hl2, ← List.append_assoc, HPRE.out]; exact HA.out
                  go_wp2
                  go_roundw
                  case rel => exact ⟨fN + 1, by omega, by go_num, hA7, HX.out⟩
                  case measure => simp [intOf]; omega
            · have hq1 : decide ((0 : Int) < (fN : Int)) = true := decide_eq_true (by omega)
              have hq9 : decide (0 < fN) = true := decide_eq_true (by omega)
              have hl2 : LR2 s fN = [] := by unfold LR2; rw [h1, h4]; simp; try omega
              have hA7 : AW W wr u1 (pre2 ++ (List.range (fN + 1)).flatMap (LR2 s)) := by rw [range_step, hl2, List.append_nil]; exact hA
              have HA := Lib.hid hA7
              have HX := Lib.hid hX
              clear hA hA7 hX
              go_wp2
              go_roundw
              case rel => exact ⟨fN + 1, by omega, by go_num, HA.out, HX.out⟩
              case measure => simp [intOf]; omega
          · obtain rfl : fN = 4 := by omega
            have hA7 : AW W wr u1 ((LINES.take (i + 1)).flatMap LR) := by rw [flat_step LR LINES i s HG.out, HPRE2.out]; exact hA
            have HA7 := Lib.hid hA7
            clear hA hA7
            go_wp2
            go_roundw
            case rel => exact ⟨i + 1, by omega, by go_num, HA7.out⟩
            case measure => simp [intOf]; omega
    · obtain rfl : i = 31 := by omega
      have hO := hA.own
      have hx : (LINES.take 31).flatMap LR = ALLN := rfl
      rw [hx] at hA
      have HA9 := Lib.hid hA
      clear hA hO hx
      go_wp2
      go_ret
      exact allP_of HA9.out
end Go.Proofs.Yteelconabmfnkaa
