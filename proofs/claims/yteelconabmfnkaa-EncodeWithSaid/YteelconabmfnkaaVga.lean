/- Vga: several texts in one. -/
import Derived.Test.YteelconabmfnkaaVea
import Derived.Test.YteelconabmfnkaaTh
import Derived.OwnWalk
import Derived.Laws.AppendOwn
import Derived.Laws.OwnMore
/- abacusref24.row at every line. -/
namespace Go.Proofs.Yteelconabmfnkaa
open Go Go.RowKit
set_option maxHeartbeats 4000000
set_option maxRecDepth 100000
set_option linter.unusedVariables false
set_option linter.unusedSimpArgs false
/-- a row of the reference with its name -/
def ROWN (l : Ln) (f g k : Nat) : R7 × ByteArray :=
  let r := pt0 l.code ⟨l.op, f, g, k, 0, 0, l.lay⟩
  let r := if 0 ≤ l.rs3 then pt27 l.rs3.toNat r else r
  let r := if l.siz || l.nof then r else pt25 f r
  let r := if l.siz then pt12 (match f with | 0 => 2 | 1 => 3 | 2 => 1 | _ => 4) r else if 0 ≤ l.rm then pt12 l.rm.toNat r else r
  let r := if l.frm then pt20 g r else if l.op = 21 ∨ l.op = 22 then pt20 k r else if 0 ≤ l.rs2 then pt20 l.rs2.toNat r else r
  (r, if l.siz then l.name ++ SIZ f else if l.nof then l.name else if l.frm then l.name ++ ⟨#[46]⟩ ++ LET f ++ ⟨#[46]⟩ ++ LET g
    else if l.op = 21 then l.name ++ ⟨#[46]⟩ ++ KIN k ++ ⟨#[46]⟩ ++ LET f else if l.op = 22 then l.name ++ ⟨#[46]⟩ ++ LET f ++ ⟨#[46]⟩ ++ KIN k
    else if l.op = 23 then l.name ++ ⟨#[46]⟩ ++ SIZ f else if l.op = 25 then l.name ++ ⟨#[46]⟩ ++ SIZ f ++ ⟨#[46, 120]⟩ else l.name ++ ⟨#[46]⟩ ++ LET f)
def RowNP (w : World) (l : Ln) (f g k : Nat) (e : Ending) (w' : World) : Prop := e = .returned (.agg (entV (ROWN l f g k).1 (ROWN l f g k).2)) ∧ Below w.heap.size w w'
abbrev RowGood (l : Ln) : Prop := ∀ (w : World) (f g k : Nat), f < 4 → g < 4 → k < 4 → Calls Try.prog 61 #[.agg (lnV l), .int .u8 f, .int .u8 g, .int .u8 k] w (RowNP w l f g k)
theorem rowg_1 : RowGood ln1 := fun w f g k hf hg hk => by
  rcases (by omega : f = 0 ∨ f = 1 ∨ f = 2 ∨ f = 3) with rfl | rfl | rfl | rfl
  · exact row_c1 w 1 7 1 0 0 0 0 g k ⟨#[102, 108]⟩ false false (by decide) (by decide) (by decide) (by decide) hf hg hk (by decide) (by decide) (by decide) (by decide) (by decide) 2 (by decide)
  · exact row_c1 w 1 7 1 0 0 0 1 g k ⟨#[102, 108]⟩ false false (by decide) (by decide) (by decide) (by decide) hf hg hk (by decide) (by decide) (by decide) (by decide) (by decide) 3 (by decide)
  · exact row_c1 w 1 7 1 0 0 0 2 g k ⟨#[102, 108]⟩ false false (by decide) (by decide) (by decide) (by decide) hf hg hk (by decide) (by decide) (by decide) (by decide) (by decide) 1 (by decide)
  · exact row_c1 w 1 7 1 0 0 0 3 g k ⟨#[102, 108]⟩ false false (by decide) (by decide) (by decide) (by decide) hf hg hk (by decide) (by decide) (by decide) (by decide) (by decide) 4 (by decide)
theorem rowg_2 : RowGood ln2 := fun w f g k hf hg hk => by
  rcases (by omega : f = 0 ∨ f = 1 ∨ f = 2 ∨ f = 3) with rfl | rfl | rfl | rfl
  · exact row_c1 w 2 39 2 0 0 0 0 g k ⟨#[102, 115]⟩ false false (by decide) (by decide) (by decide) (by decide) hf hg hk (by decide) (by decide) (by decide) (by decide) (by decide) 2 (by decide)
  · exact row_c1 w 2 39 2 0 0 0 1 g k ⟨#[102, 115]⟩ false false (by decide) (by decide) (by decide) (by decide) hf hg hk (by decide) (by decide) (by decide) (by decide) (by decide) 3 (by decide)
  · exact row_c1 w 2 39 2 0 0 0 2 g k ⟨#[102, 115]⟩ false false (by decide) (by decide) (by decide) (by decide) hf hg hk (by decide) (by decide) (by decide) (by decide) (by decide) 1 (by decide)
  · exact row_c1 w 2 39 2 0 0 0 3 g k ⟨#[102, 115]⟩ false false (by decide) (by decide) (by decide) (by decide) hf hg hk (by decide) (by decide) (by decide) (by decide) (by decide) 4 (by decide)
theorem rowg_3 : RowGood ln3 := fun w f g k hf hg hk => by
  exact row_c2 w 3 67 3 0 0 0 f g k ⟨#[102, 109, 97, 100, 100]⟩ false false (by decide) (by decide) (by decide) (by decide) hf hg hk (by decide) (by decide) (by decide) (by decide) (by decide)
theorem rowg_4 : RowGood ln4 := fun w f g k hf hg hk => by
  exact row_c2 w 4 71 3 0 0 0 f g k ⟨#[102, 109, 115, 117, 98]⟩ false false (by decide) (by decide) (by decide) (by decide) hf hg hk (by decide) (by decide) (by decide) (by decide) (by decide)
theorem rowg_5 : RowGood ln5 := fun w f g k hf hg hk => by
  exact row_c2 w 5 75 3 0 0 0 f g k ⟨#[102, 110, 109, 115, 117, 98]⟩ false false (by decide) (by decide) (by decide) (by decide) hf hg hk (by decide) (by decide) (by decide) (by decide) (by decide)
theorem rowg_6 : RowGood ln6 := fun w f g k hf hg hk => by
  exact row_c2 w 6 79 3 0 0 0 f g k ⟨#[102, 110, 109, 97, 100, 100]⟩ false false (by decide) (by decide) (by decide) (by decide) hf hg hk (by decide) (by decide) (by decide) (by decide) (by decide)
theorem rowg_7 : RowGood ln7 := fun w f g k hf hg hk => by
  exact row_c3 w 7 83 4 0 0 0 f g k ⟨#[102, 97, 100, 100]⟩ false false (by decide) (by decide) (by decide) (by decide) hf hg hk (by decide) (by decide) (by decide) (by decide) (by decide)
theorem rowg_8 : RowGood ln8 := fun w f g k hf hg hk => by
  exact row_c3 w 8 83 4 1 0 0 f g k ⟨#[102, 115, 117, 98]⟩ false false (by decide) (by decide) (by decide) (by decide) hf hg hk (by decide) (by decide) (by decide) (by decide) (by decide)
theorem rowg_9 : RowGood ln9 := fun w f g k hf hg hk => by
  exact row_c3 w 9 83 4 2 0 0 f g k ⟨#[102, 109, 117, 108]⟩ false false (by decide) (by decide) (by decide) (by decide) hf hg hk (by decide) (by decide) (by decide) (by decide) (by decide)
theorem rowg_10 : RowGood ln10 := fun w f g k hf hg hk => by
  exact row_c3 w 10 83 4 3 0 0 f g k ⟨#[102, 100, 105, 118]⟩ false false (by decide) (by decide) (by decide) (by decide) hf hg hk (by decide) (by decide) (by decide) (by decide) (by decide)
theorem rowg_11 : RowGood ln11 := fun w f g k hf hg hk => by
  exact row_c4 w 11 83 6 11 0 0 f g k ⟨#[102, 115, 113, 114, 116]⟩ false false (by decide) (by decide) (by decide) (by decide) hf hg hk (by decide) (by decide) (by decide) (by decide) (by decide)
theorem rowg_12 : RowGood ln12 := fun w f g k hf hg hk => by
  exact row_c5 w 12 83 5 4 0 0 f g k ⟨#[102, 115, 103, 110, 106]⟩ false false (by decide) (by decide) (by decide) (by decide) hf hg hk (by decide) (by decide) (by decide) (by decide) (by decide)
theorem rowg_13 : RowGood ln13 := fun w f g k hf hg hk => by
  exact row_c5 w 13 83 5 4 1 0 f g k ⟨#[102, 115, 103, 110, 106, 110]⟩ false false (by decide) (by decide) (by decide) (by decide) hf hg hk (by decide) (by decide) (by decide) (by decide) (by decide)
theorem rowg_14 : RowGood ln14 := fun w f g k hf hg hk => by
  exact row_c5 w 14 83 5 4 2 0 f g k ⟨#[102, 115, 103, 110, 106, 120]⟩ false false (by decide) (by decide) (by decide) (by decide) hf hg hk (by decide) (by decide) (by decide) (by decide) (by decide)
theorem rowg_15 : RowGood ln15 := fun w f g k hf hg hk => by
  exact row_c5 w 15 83 5 5 0 0 f g k ⟨#[102, 109, 105, 110]⟩ false false (by decide) (by decide) (by decide) (by decide) hf hg hk (by decide) (by decide) (by decide) (by decide) (by decide)
theorem rowg_16 : RowGood ln16 := fun w f g k hf hg hk => by
  exact row_c5 w 16 83 5 5 1 0 f g k ⟨#[102, 109, 97, 120]⟩ false false (by decide) (by decide) (by decide) (by decide) hf hg hk (by decide) (by decide) (by decide) (by decide) (by decide)
theorem rowg_17 : RowGood ln17 := fun w f g k hf hg hk => by
  exact row_c6 w 17 83 6 8 0 0 f g k ⟨#[102, 99, 118, 116]⟩ false false (by decide) (by decide) (by decide) (by decide) hf hg hk (by decide)
theorem rowg_18 : RowGood ln18 := fun w f g k hf hg hk => by
  exact row_c5 w 18 83 5 20 2 0 f g k ⟨#[102, 101, 113]⟩ false false (by decide) (by decide) (by decide) (by decide) hf hg hk (by decide) (by decide) (by decide) (by decide) (by decide)
theorem rowg_19 : RowGood ln19 := fun w f g k hf hg hk => by
  exact row_c5 w 19 83 5 20 1 0 f g k ⟨#[102, 108, 116]⟩ false false (by decide) (by decide) (by decide) (by decide) hf hg hk (by decide) (by decide) (by decide) (by decide) (by decide)
theorem rowg_20 : RowGood ln20 := fun w f g k hf hg hk => by
  exact row_c5 w 20 83 5 20 0 0 f g k ⟨#[102, 108, 101]⟩ false false (by decide) (by decide) (by decide) (by decide) hf hg hk (by decide) (by decide) (by decide) (by decide) (by decide)
theorem rowg_21 : RowGood ln21 := fun w f g k hf hg hk => by
  exact row_c7 w 21 83 6 24 0 0 f g k ⟨#[102, 99, 118, 116]⟩ false true (by decide) (by decide) (by decide) (by decide) hf hg hk (by decide) (by decide)
theorem rowg_22 : RowGood ln22 := fun w f g k hf hg hk => by
  exact row_c8 w 22 83 6 26 0 0 f g k ⟨#[102, 99, 118, 116]⟩ false true (by decide) (by decide) (by decide) (by decide) hf hg hk (by decide) (by decide) (by decide)
theorem rowg_23 : RowGood ln23 := fun w f g k hf hg hk => by
  exact row_c9 w 23 83 7 28 0 0 f g k ⟨#[102, 109, 118, 46, 120]⟩ true false (by decide) (by decide) (by decide) (by decide) hf hg hk (by decide) (by decide) (by decide) (by decide)
theorem rowg_24 : RowGood ln24 := fun w f g k hf hg hk => by
  exact row_c10 w 24 83 7 28 1 0 f g k ⟨#[102, 99, 108, 97, 115, 115]⟩ false false (by decide) (by decide) (by decide) (by decide) hf hg hk (by decide) (by decide) (by decide) (by decide) (by decide)
theorem rowg_25 : RowGood ln25 := fun w f g k hf hg hk => by
  exact row_c11 w 25 83 7 30 0 0 f g k ⟨#[102, 109, 118]⟩ true false (by decide) (by decide) (by decide) (by decide) hf hg hk (by decide) (by decide) (by decide) (by decide) (by decide)
theorem rowg_26 : RowGood ln26 := fun w f g k hf hg hk => by
  exact row_c12 w 26 115 8 0 1 0 f g k ⟨#[99, 115, 114, 114, 119]⟩ false false (by decide) (by decide) (by decide) (by decide) hf hg hk (by decide) (by decide) (by decide) (by decide) (by decide)
theorem rowg_27 : RowGood ln27 := fun w f g k hf hg hk => by
  exact row_c12 w 27 115 8 0 2 0 f g k ⟨#[99, 115, 114, 114, 115]⟩ false false (by decide) (by decide) (by decide) (by decide) hf hg hk (by decide) (by decide) (by decide) (by decide) (by decide)
theorem rowg_28 : RowGood ln28 := fun w f g k hf hg hk => by
  exact row_c12 w 28 115 8 0 3 0 f g k ⟨#[99, 115, 114, 114, 99]⟩ false false (by decide) (by decide) (by decide) (by decide) hf hg hk (by decide) (by decide) (by decide) (by decide) (by decide)
theorem rowg_29 : RowGood ln29 := fun w f g k hf hg hk => by
  exact row_c12 w 29 115 9 0 5 0 f g k ⟨#[99, 115, 114, 114, 119, 105]⟩ false false (by decide) (by decide) (by decide) (by decide) hf hg hk (by decide) (by decide) (by decide) (by decide) (by decide)
theorem rowg_30 : RowGood ln30 := fun w f g k hf hg hk => by
  exact row_c12 w 30 115 9 0 6 0 f g k ⟨#[99, 115, 114, 114, 115, 105]⟩ false false (by decide) (by decide) (by decide) (by decide) hf hg hk (by decide) (by decide) (by decide) (by decide) (by decide)
theorem rowg_31 : RowGood ln31 := fun w f g k hf hg hk => by
  exact row_c12 w 31 115 9 0 7 0 f g k ⟨#[99, 115, 114, 114, 99, 105]⟩ false false (by decide) (by decide) (by decide) (by decide) hf hg hk (by decide) (by decide) (by decide) (by decide) (by decide)
theorem rowg_all : ∀ l ∈ LINES, RowGood l := by
  intro l hl
  simp only [LINES, List.mem_cons, List.not_mem_nil, or_false] at hl
  rcases hl with rfl | rfl | rfl | rfl | rfl | rfl | rfl | rfl | rfl | rfl | rfl | rfl | rfl | rfl | rfl | rfl | rfl | rfl | rfl | rfl | rfl | rfl | rfl | rfl | rfl | rfl | rfl | rfl | rfl | rfl | rfl
  · exact rowg_1
  · exact rowg_2
  · exact rowg_3
  · exact rowg_4
  · exact rowg_5
  · exact rowg_6
  · exact rowg_7
  · exact rowg_8
  · exact rowg_9
  · exact rowg_10
  · exact rowg_11
  · exact rowg_12
  · exact rowg_13
  · exact rowg_14
  · exact rowg_15
  · exact rowg_16
  · exact rowg_17
  · exact rowg_18
  · exact rowg_19
  · exact rowg_20
  · exact rowg_21
  · exact rowg_22
  · exact rowg_23
  · exact rowg_24
  · exact rowg_25
  · exact rowg_26
  · exact rowg_27
  · exact rowg_28
  · exact rowg_29
  · exact rowg_30
  · exact rowg_31
end Go.Proofs.Yteelconabmfnkaa

/- Rows of structs that a call makes, appended to one by one; abacusref24.All's rows, as data. -/
namespace Go.Proofs.Yteelconabmfnkaa
open Go Go.RowKit
set_option maxRecDepth 100000
set_option linter.unusedVariables false
set_option linter.unusedSimpArgs false
/-- a block of another type is not the row's -/
theorem own_ne {w : World} {base : Nat} {e : TypeId} {size : Nat} {v : Value} {n : Nat} {xs : List Value} (h : w.ownsRow base e size v n xs) {b : Nat} {cs : Array Value} {t : TypeId} (hb : Blk w b cs t) (hne : t ≠ e) : some b ≠ v.ownBlock := by
  intro hk
  rcases h.2 with ⟨rfl, _⟩ | ⟨g, cap, cur, rfl, _, hg, _⟩
  · simp [Value.ownBlock] at hk
  · simp only [Value.ownBlock, Option.some.injEq] at hk
    subst hk
    rw [show w.heap[b]? = _ from hb] at hg
    injection hg with hg
    injection hg with _ ht
    exact hne ht
theorem own_later {w w' : World} {base : Nat} {e : TypeId} {size : Nat} {v : Value} {n : Nat} {xs : List Value} (h : w.ownsRow base e size v n xs) (hb : Below w.heap.size w w') : w'.ownsRow base e size v n xs := by
  rcases h.2 with ⟨rfl, h0⟩ | ⟨g, cap, cur, rfl, h1, hg, h2⟩
  · exact ⟨h.1, .inl ⟨rfl, h0⟩⟩
  · exact ⟨h.1, .inr ⟨g, cap, cur, rfl, h1, (hb.block g (Array.getElem?_eq_some_iff.1 hg).1).trans hg, h2⟩⟩
theorem own_blk {w w' : World} {base : Nat} {e : TypeId} {size : Nat} {v : Value} {n : Nat} {xs : List Value} (h : w.ownsRow base e size v n xs) (hg : w.grownBy w' v.ownBlock) {b : Nat} {cs : Array Value} {t : TypeId} (hb : Blk w b cs t) (hne : t ≠ e) : Blk w' b cs t :=
  (hg.block b hb.lt (own_ne h hb hne)).trans hb
theorem own_below {w0 w w' : World} {n0 base : Nat} {e : TypeId} {size : Nat} {v : Value} {n : Nat} {xs : List Value} (h : w.ownsRow base e size v n xs) (hg : w.grownBy w' v.ownBlock) (hb : Below n0 w0 w) (hn : n0 ≤ base) (hs : n0 ≤ w.heap.size) : Below n0 w0 w' :=
  hb.grown hg hs fun k hk => Nat.le_trans hn (h.lt k hk).1
/-- the cells of a slice of the call's own -/
theorem own_cell {w : World} {base : Nat} {e : TypeId} {size : Nat} {n : Nat} {xs : List Value} {a : Addr} {m c : Nat} (h : w.ownsRow base e size (.slice (some a) m c) n xs) : a = ⟨a.block, 0, none⟩ ∧ m = n ∧ ∀ j u, xs[j]? = some u → w.cell? ⟨a.block, j, none⟩ = some u := by
  rcases h.2 with ⟨h1, _⟩ | ⟨g, cap, cur, h1, _, hg, _, _, _, hx⟩
  · simp at h1
  · simp only [Value.slice.injEq, Option.some.injEq] at h1
    obtain ⟨rfl, rfl, rfl⟩ := h1
    refine ⟨rfl, rfl, fun j u hj => ?_⟩
    rw [cell_of_row w g j cur e (0, 0) hg]
    rw [← hx] at hj
    rw [List.getElem?_take] at hj
    split at hj
    · simpa using hj
    · cases hj
/-- one struct more -/
theorem wpList_append1 {P : Program} {w : World} {ops : Array Oper} {rest : List Oper} {o : Oper} {a : Act} {Q : Exit → Act → World → Prop} (hgd : o.guard = none) (s x : Operand) (t : TypeId)
    (ho : o.op = .call { callee := .builtin .append, args := #[s, x], argTypes := #[t, t] })
    (base : Nat) (e : TypeId) (size bytes : Nat) (z : Value) (ht : P.underlying t = some (.slice e)) (hi : (P.info? e).map (fun i => (i.zero, i.size, i.bytes)) = some (some z, size, bytes)) (hzs : z.cells.size = size) (hsz : 0 < size) (hby : bytes ≤ 1024)
    (v : Value) (n : Nat) (xs : List Value) (hs : a.eval s = v) (hown : w.ownsRow base e size v n xs) (b c : Nat) (cs : Array Value) (te : TypeId) (hb : Blk w b cs te) (hcs : cs.size = size) (hx : a.eval x = .slice (some ⟨b, 0, none⟩) 1 c) (h1 : cs.all (·.oneCell') = true)
    (hn : n ≤ 1000000) (hbase : base ≤ w.heap.size)
    (h : ∀ v' w', w'.ownsRow base e size v' (n + 1) (xs ++ cs.toList) → w.grownBy w' v.ownBlock → wpList P ops Q rest (a.put o.dst v') w') : wpList P ops Q (o :: rest) a w := by
  cases hq : P.info? e with
  | none => simp [hq] at hi
  | some i =>
    simp only [hq, Option.map_some, Option.some.injEq, Prod.mk.injEq] at hi
    obtain ⟨hi1, hi2, hi3⟩ := hi
    refine wpList_append_own (w := w) hgd s x t ho base e i z size bytes ht hq hi1 hi2 hi3 hzs hsz v n xs hs hown ⟨b, 0, none⟩ 1 c cs.toList hx (by simpa using hcs) (fun j u hj => ?_) (fun u hu => ?_) ?_ ?_ hbase fun v' w' h2 h3 _ => h v' w' h2 h3
    · have e1 : (⟨b, 0, none⟩ : Addr).add j = ⟨b, j, none⟩ := by
        unfold Addr.add
        by_cases hj0 : j = 0
        · subst hj0; rfl
        · simp [hj0]
      rw [e1, hb.cell j]
      simpa using hj
    · exact Array.all_eq_true'.1 h1 u (by simpa using hu)
    · simp only [maxLen]; omega
    · have : (n + 1) * bytes ≤ 1000001 * 1024 := Nat.mul_le_mul (by omega) hby
      omega
/-- rows with their names, as cells -/
def ents (l : List (R7 × ByteArray)) : List Value := l.flatMap fun p => (entV p.1 p.2).toList
theorem ents_append (l m : List (R7 × ByteArray)) : ents (l ++ m) = ents l ++ ents m := by simp [ents]
theorem ents_one (p : R7 × ByteArray) : ents [p] = (entV p.1 p.2).toList := by simp [ents]
theorem ents_get : ∀ (l : List (R7 × ByteArray)) (i j : Nat) (p : R7 × ByteArray), l[i]? = some p → j < 8 → (ents l)[i * 8 + j]? = (entV p.1 p.2)[j]?
  | [], i, j, p, h, _ => by simp at h
  | q :: l, 0, j, p, h, hj => by
    simp at h
    subst h
    rw [show ents (q :: l) = (entV q.1 q.2).toList ++ ents l from rfl, List.getElem?_append_left (by show 0 * 8 + j < 8; omega)]
    simp
  | q :: l, i + 1, j, p, h, hj => by
    have := ents_get l i j p (by simpa using h) hj
    rw [show ents (q :: l) = (entV q.1 q.2).toList ++ ents l from rfl, List.getElem?_append_right (by show 8 ≤ (i + 1) * 8 + j; omega), ← this]
    congr 1
    show (i + 1) * 8 + j - 8 = i * 8 + j
    omega
theorem ents_length (l : List (R7 × ByteArray)) : (ents l).length = l.length * 8 := by
  induction l with
  | nil => rfl
  | cons p l ih => rw [show ents (p :: l) = (entV p.1 p.2).toList ++ ents l from rfl, List.length_append, ih]; show 8 + l.length * 8 = (l.length + 1) * 8; omega
def LR1 (l : Ln) (f n : Nat) : List (R7 × ByteArray) :=
  if l.frm && n != f then [ROWN l f n 0] else if l.knd then [ROWN l f 0 n] else if l.frm || n != 0 then [] else [ROWN l f 0 0]
def LR2 (l : Ln) (f : Nat) : List (R7 × ByteArray) := if (l.noq && f == 3) || (l.nof && f != 0) then [] else (List.range 4).flatMap (LR1 l f)
def LR (l : Ln) : List (R7 × ByteArray) := (List.range 4).flatMap (LR2 l)
def ALLN : List (R7 × ByteArray) := LINES.flatMap LR
theorem alln_rows : ALLN.map (·.1) = ROWS := by decide +kernel
theorem alln_136 : ALLN.length = 136 := by decide +kernel
theorem flat_step {α β : Type} (f : α → List β) (l : List α) (i : Nat) (x : α) (h : l[i]? = some x) : (l.take (i + 1)).flatMap f = (l.take i).flatMap f ++ f x := by
  rw [List.take_add_one, h, List.flatMap_append]
  simp
theorem range_step {β : Type} (f : Nat → List β) (i : Nat) : (List.range (i + 1)).flatMap f = (List.range i).flatMap f ++ f i := by
  rw [List.range_succ, List.flatMap_append]
  simp
end Go.Proofs.Yteelconabmfnkaa
