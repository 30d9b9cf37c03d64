/- Rows of bytes, memories; worlds that have grown. -/
import Derived.Test.YteelconabmfnkaaH
import Derived.OwnWalk
import Derived.Test.YteelconabmfnkaaM
import Derived.Laws.AppendOwn
import Derived.Laws.OwnMore
namespace Go.Proofs.Yteelconabmfnkaa
open Go Go.RowKit
set_option linter.unusedVariables false

section grown
variable {w w1 w2 : World} {r : Option Nat}
theorem grown_trans (h : w.grownBy w1 r) (k : w1.grownBy w2 r) : w.grownBy w2 r :=
  ⟨k.os.trans h.os, k.tape.trans h.tape, k.output.trans h.output, Nat.le_trans h.size k.size, fun i hi hne => (k.block i (Nat.lt_of_lt_of_le hi h.size) hne).trans (h.block i hi hne)⟩
theorem grown_any (h : w.grownBy w1 none) (r : Option Nat) : w.grownBy w1 r := ⟨h.os, h.tape, h.output, h.size, fun k hk _ => h.block k hk (by simp)⟩
theorem grown_below (h : w.grownBy w1 none) : Below w.heap.size w w1 := ⟨h.os, h.tape, h.output, h.size, fun k hk => h.block k hk (by simp)⟩
theorem below_grown (h : Below w.heap.size w w1) (r : Option Nat) : w.grownBy w1 r := ⟨h.os, h.tape, h.output, h.size, fun k hk _ => h.block k hk⟩
theorem grown_drew (h : w.grownBy w1 r) : w.grownBy w1.drew r := ⟨h.os, h.tape, h.output, h.size, h.block⟩
theorem grown_drewN (h : w.grownBy w1 r) (n : Nat) : w.grownBy (w1.drewN n) r := ⟨h.os, h.tape, h.output, h.size, h.block⟩
theorem grown_alloc (h : w.grownBy w1 r) (o : Obj) : w.grownBy (w1.alloc o) r := grown_trans h (World.grownBy_alloc w1 o r)
theorem grown_set_new (h : w.grownBy w1 r) {p : Addr} (hp : w.heap.size ≤ p.block) (v : Value) : w.grownBy (w1.setCell p v) r :=
  ⟨h.os, h.tape, h.output, by simpa using h.size, fun k hk hne => (heap_setCell_other w1 p k v (by omega)).trans (h.block k hk hne)⟩
theorem grown_set_row {g : Nat} (h : w.grownBy w1 (some g)) (j : Nat) (v : Value) : w.grownBy (w1.setCell ⟨g, j, none⟩ v) (some g) :=
  ⟨h.os, h.tape, h.output, by simpa using h.size, fun k hk hne => (heap_setCell_other w1 ⟨g, j, none⟩ k v (fun e => hne (by simp [e]))).trans (h.block k hk hne)⟩
theorem grown_blk {b : Nat} {cs : Array Value} {t : TypeId} (h : w.grownBy w1 r) (hb : Blk w b cs t) (hne : some b ≠ r) : Blk w1 b cs t := (h.block b hb.lt hne).trans hb
theorem grown_to_below {B : Nat} {w0 : World} (h : w.grownBy w1 r) (h0 : Below B w0 w) (hB : B ≤ w.heap.size) (hr : ∀ k, r = some k → B ≤ k) : Below B w0 w1 := h0.grown h hB hr
end grown

theorem cell_later {w w1 : World} (hb : Below w.heap.size w w1) {p : Addr} {v : Value} (h : w.cell? p = some v) : w1.cell? p = some v := (hb.cell (World.block_lt_of_cell? w _ h)).trans h
theorem cell_alloc {w : World} {p : Addr} {v : Value} (h : w.cell? p = some v) (o : Obj) : (w.alloc o).cell? p = some v := cell_later ((Below.refl _ w).alloc (Nat.le_refl _) o) h
theorem below_alloc (w : World) (o : Obj) : Below w.heap.size w (w.alloc o) := (Below.refl _ w).alloc (Nat.le_refl _) o
/-- bytes, as cells -/
def u8s (l : List Nat) : List Value := l.map fun x => .int .u8 (x : Nat)
theorem u8s_length (l : List Nat) : (u8s l).length = l.length := by simp [u8s]
theorem u8s_get (l : List Nat) (i : Nat) : (u8s l)[i]? = l[i]?.map fun x => .int .u8 (x : Nat) := by simp [u8s]
theorem u8s_append (l m : List Nat) : u8s (l ++ m) = u8s l ++ u8s m := by simp [u8s]
theorem u8s_one (l : List Nat) : ∀ u ∈ u8s l, u.oneCell' = true := by
  intro u hu
  obtain ⟨x, _, rfl⟩ := List.mem_map.1 hu
  rfl
theorem u8s_set (l : List Nat) (i x : Nat) : (u8s l).set i (.int .u8 (x : Nat)) = u8s (l.set i x) := by simp [u8s, List.map_set]
theorem u8s_take (l : List Nat) (n : Nat) : (u8s l).take n = u8s (l.take n) := by simp [u8s]
theorem u8s_drop (l : List Nat) (n : Nat) : (u8s l).drop n = u8s (l.drop n) := by simp [u8s]

/-- a slice value of bytes that reads as l, wherever it lies -/
def Rd (w : World) (ao : Option Addr) (l : List Nat) : Prop := ∀ i, i < l.length → ∃ a, ao = some a ∧ w.cell? (a.add i) = some (.int .u8 (l[i]?.getD 0 : Nat))
theorem add_block (a : Addr) (i : Nat) : (a.add i).block = a.block := by unfold Addr.add; split <;> rfl
theorem Rd.kept {w w1 : World} {r : Option Nat} {ao : Option Addr} {l : List Nat} (h : Rd w ao l) (hg : w.grownBy w1 r) (hne : ∀ a, ao = some a → some a.block ≠ r) : Rd w1 ao l := fun i hi => by
  obtain ⟨a, ha, hc⟩ := h i hi
  exact ⟨a, ha, hg.cell hc (by rw [add_block]; exact hne a ha)⟩
theorem Rd.later {w w1 : World} {ao : Option Addr} {l : List Nat} (h : Rd w ao l) (hb : Below w.heap.size w w1) : Rd w1 ao l := h.kept (below_grown hb none) (by simp)
theorem add_add (a : Addr) (k i : Nat) : (a.add k).add i = a.add (k + i) := by
  unfold Addr.add
  by_cases hk : k = 0 <;> by_cases hi : i = 0 <;> simp [hk, hi, Nat.add_assoc]
theorem Rd.piece {w : World} {a : Addr} {l : List Nat} (h : Rd w (some a) l) (k n : Nat) (hk : k + n ≤ l.length) : Rd w (some (a.add k)) ((l.drop k).take n) := fun i hi => by
  simp only [List.length_take, List.length_drop] at hi
  obtain ⟨b, hb, hc⟩ := h (k + i) (by omega)
  cases hb
  refine ⟨_, rfl, ?_⟩
  rw [add_add, hc, List.getElem?_take, if_pos (by omega), List.getElem?_drop]
theorem Rd.nil (w : World) (ao : Option Addr) : Rd w ao [] := fun i hi => by simp at hi
/-- a row of bytes of the call's own -/
abbrev Row (w : World) (B : Nat) (v : Value) (l : List Nat) : Prop := w.ownsRow B 5 1 v l.length (u8s l)
theorem Row.shape {w : World} {B : Nat} {v : Value} {l : List Nat} (h : Row w B v l) : (v = .slice none 0 0 ∧ l = []) ∨ ∃ g cap, v = .slice (some ⟨g, 0, none⟩) l.length cap ∧ l.length ≤ cap ∧ cap ≤ maxLen ∧ B ≤ g := by
  rcases h.2 with ⟨h1, h2⟩ | ⟨g, cap, cur, h1, h2, h3, h4, h5, _⟩
  · exact .inl ⟨h1, List.eq_nil_of_length_eq_zero h2⟩
  · exact .inr ⟨g, cap, h1, h4, h5, h2⟩
theorem Row.n_eq {w : World} {B n cap : Nat} {ao : Option Addr} {l : List Nat} (h : Row w B (.slice ao n cap) l) : n = l.length := by
  rcases h.shape with ⟨h1, rfl⟩ | ⟨g, c, h1, _⟩
  · simp at h1; simp [h1]
  · simp at h1; simp [h1]
theorem Row.cell {w : World} {B g n cap : Nat} {l : List Nat} (h : Row w B (.slice (some ⟨g, 0, none⟩) n cap) l) (j : Nat) (hj : j < l.length) : w.cell? ⟨g, j, none⟩ = some (.int .u8 (l[j]?.getD 0 : Nat)) := by
  obtain rfl := h.n_eq
  rw [h.cellAt j (by omega), u8s_get, List.getElem?_eq_getElem hj]; rfl
theorem add0 (g j : Nat) : (⟨g, 0, none⟩ : Addr).add j = ⟨g, j, none⟩ := by unfold Addr.add; split <;> simp_all
theorem Row.frozen {w : World} {B g n cap : Nat} {l : List Nat} (h : Row w B (.slice (some ⟨g, 0, none⟩) n cap) l) (j : Nat) : w.frozen? ⟨g, j, none⟩ = false := by
  obtain rfl := h.n_eq
  exact World.ownsRow.frozenAt h j
theorem Row.set {w : World} {B g n cap : Nat} {l : List Nat} (h : Row w B (.slice (some ⟨g, 0, none⟩) n cap) l) (j x : Nat) :
    Row (w.setCell ⟨g, j, none⟩ (.int .u8 (x : Nat))) B (.slice (some ⟨g, 0, none⟩) n cap) (l.set j x) := by
  obtain rfl := h.n_eq
  have := (World.ownsRow.stored h j (.int .u8 (x : Nat))).1
  show World.ownsRow _ _ _ _ _ _ _
  rw [u8s_set] at this
  rw [List.length_set]; exact this
theorem Row.drewN {w : World} {B : Nat} {v : Value} {l : List Nat} (h : Row w B v l) (q : Nat) : Row (w.drewN q) B v l := h
theorem Row.other {w : World} {B : Nat} {v : Value} {l : List Nat} (h : Row w B v l) {b : Nat} (hne : v.ownBlock ≠ some b) (j : Nat) (u : Value) : Row (w.setCell ⟨b, j, none⟩ u) B v l :=
  h.kept (grown_set_row (World.grownBy.refl w _) j u) (.inr hne)
theorem Row.rd {w : World} {B : Nat} {ao : Option Addr} {n cap : Nat} {l : List Nat} (h : Row w B (.slice ao n cap) l) : Rd w ao l := fun i hi => by
  rcases h.shape with ⟨_, rfl⟩ | ⟨g, c, e, _⟩
  · simp at hi
  · simp only [Value.slice.injEq] at e
    obtain ⟨rfl, rfl, rfl⟩ := e
    exact ⟨_, rfl, by rw [add0]; exact h.cell i hi⟩

end Go.Proofs.Yteelconabmfnkaa
