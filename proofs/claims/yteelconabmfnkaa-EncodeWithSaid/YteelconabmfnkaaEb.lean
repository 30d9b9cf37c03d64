/- table.Of. -/
import Derived.Test.YteelconabmfnkaaEa
import Derived.Test.YteelconabmfnkaaPf
namespace Go.Proofs.Yteelconabmfnkaa
open Go Go.RowKit Go.Shelf
attribute [local go_sem] Oper.semAt_some
set_option maxHeartbeats 4000000
set_option maxRecDepth 100000
set_option linter.unusedVariables false
set_option linter.unusedSimpArgs false
def OF (op f g k : Nat) : Option R7 := ROWS.find? fun r => r.op == op && (r.form == f && (r.frm == g && r.kind == k))
def OfP (W : World) (op f g k : Nat) (e : Ending) (w' : World) : Prop := e = .returned (.tuple (if op = 0 ∨ 31 < op then #[.agg (rowV zeroR), .int .i64 2] else #[.agg (rowV ((OF op f g k).getD zeroR)), .int .i64 (errOf (OF op f g k))])) ∧ Below W.heap.size W w'
def asks (f g k : Nat) (r : R7) : Bool := r.form == f && (r.frm == g && r.kind == k)
theorem rlo_eq (o : Nat) (h1 : 1 ≤ o) (h2 : o ≤ 31) : RLO o = ROWS.filter fun q => q.op == o := by
  have h2' : ((List.range 31).all fun i => decide (RLO (i + 1) = ROWS.filter fun q => q.op == i + 1)) = true := by decide +kernel
  have b := List.all_eq_true.1 h2' (o - 1) (List.mem_range.2 (by omega))
  rw [show o - 1 + 1 = o by omega] at b
  simpa using b
theorem of_rlo (op f g k : Nat) (h1 : 1 ≤ op) (h2 : op ≤ 31) : OF op f g k = (RLO op).find? (asks f g k) := by
  rw [rlo_eq op h1 h2]
  unfold OF
  rw [List.find?_filter]
  congr 1
  funext r
  unfold asks
  cases r.op == op <;> cases r.form == f <;> cases r.frm == g <;> cases r.kind == k <;> rfl
theorem find_first {α : Type} (q : α → Bool) (l : List α) (d : α) (m : Nat) (hm : m < l.length) (hq : q (l[m]?.getD d) = true) (hno : ∀ j, j < m → q (l[j]?.getD d) = false) : l.find? q = some (l[m]?.getD d) := by
  have e : l = l.take m ++ (l[m] :: l.drop (m + 1)) := by rw [← List.drop_eq_getElem_cons hm, List.take_append_drop]
  have hg : l[m]?.getD d = l[m] := by rw [List.getElem?_eq_getElem hm]; rfl
  rw [hg] at hq ⊢
  have : (l.take m ++ (l[m] :: l.drop (m + 1))).find? q = some l[m] := by
    rw [List.find?_append, List.find?_eq_none.2, Option.none_or, List.find?_cons_of_pos hq]
    intro y hy
    obtain ⟨j, hj, rfl⟩ := List.mem_iff_getElem.1 hy
    rw [List.length_take] at hj
    have := hno j (by omega)
    rw [List.getElem?_eq_getElem (by omega)] at this
    rw [List.getElem_take]
    simpa using this
  rw [← e] at this
  exact this
theorem find_never {α : Type} (q : α → Bool) (l : List α) (d : α) (hno : ∀ j, j < l.length → q (l[j]?.getD d) = false) : l.find? q = none := by
  rw [List.find?_eq_none]
  intro y hy
  obtain ⟨j, hj, rfl⟩ := List.mem_iff_getElem.1 hy
  have := hno j hj
  rw [List.getElem?_eq_getElem hj] at this
  simpa using this
/-- what holds between two rounds -/
structure OS (W wr : World) (op f g k : Nat) : Prop where
  b5 : Blk wr (W.heap.size) #[.int .u8 (f : Nat)] 23
  b6 : Blk wr (W.heap.size + 1) #[.int .u8 (g : Nat)] 23
  b7 : Blk wr (W.heap.size + 1 + 1) #[.int .u8 (k : Nat)] 24
  b8 : Blk wr (W.heap.size + 1 + 1 + 1) (rowV zeroR) 40
  b9 : Blk wr (W.heap.size + 1 + 1 + 1 + 1) #[.int .i64 0] 29
  bo : Blk wr (W.heap.size + 1 + 1 + 1 + 1 + 1) #[.int .u8 (op : Nat)] 22
  bel : Below W.heap.size W wr
theorem OS.later {W wr w1 : World} {op f g k : Nat} (h : OS W wr op f g k) (hb : Below wr.heap.size wr w1) : OS W w1 op f g k :=
  ⟨h.b5.below hb h.b5.lt, h.b6.below hb h.b6.lt, h.b7.below hb h.b7.lt, h.b8.below hb h.b8.lt, h.b9.below hb h.b9.lt, h.bo.below hb h.bo.lt, h.bel.trans (hb.mono h.bel.size)⟩
theorem Abide.OS {W : World} {op f g k B : Nat} (hB : W.heap.size ≤ B) : Abide B (fun W' => OS W W' op f g k) := fun A A' row h hg hr =>
  ⟨Abide.blk A A' row h.b5 hg hr, Abide.blk A A' row h.b6 hg hr, Abide.blk A A' row h.b7 hg hr, Abide.blk A A' row h.b8 hg hr, Abide.blk A A' row h.b9 hg hr, Abide.blk A A' row h.bo hg hr, Abide.below (Nat.le_refl _) hB A A' row h.bel hg hr⟩
/-- behind the round that has found the row -/
structure OX (W wr : World) (op f g k : Nat) (r : R7) : Prop where
  b8 : Blk wr (W.heap.size + 1 + 1 + 1) (rowV r) 40
  b9 : Blk wr (W.heap.size + 1 + 1 + 1 + 1) #[.int .i64 0] 29
  bo : Blk wr (W.heap.size + 1 + 1 + 1 + 1 + 1) #[.int .u8 (op : Nat)] 22
  bel : Below W.heap.size W wr
  fit : asks f g k r = true
theorem Abide.OX {W : World} {op f g k B : Nat} {r : R7} (hB : W.heap.size ≤ B) : Abide B (fun W' => OX W W' op f g k r) := fun A A' row h hg hr =>
  ⟨Abide.blk A A' row h.b8 hg hr, Abide.blk A A' row h.b9 hg hr, Abide.blk A A' row h.bo hg hr, Abide.below (Nat.le_refl _) hB A A' row h.bel hg hr, h.fit⟩
/-- what stores into two blocks leave -/
structure G2 (W : World) (B : Nat) (X : Nat → Prop) (A A' : World) (p q : Nat) (c2 c3 : Array Value) (t2 t3 : TypeId) : Prop where
  kf : KeepsFrom B A A'
  kx : KX X A A'
  bel : Below W.heap.size A A'
  b2 : Blk A' p c2 t2
  b3 : Blk A' q c3 t3
  oth : ∀ b, b ≠ p → b ≠ q → A'.heap[b]? = A.heap[b]?
section
variable {W A A' : World} {B p q : Nat} {X : Nat → Prop} {c2 c3 : Array Value} {t2 t3 : TypeId}
theorem G2.set2 (h : G2 W B X A A' p q c2 c3 t2 t3) (hX : ∀ b, X b → b ≠ p) (hp : W.heap.size ≤ p) (hpq : q ≠ p) (j : Nat) (v : Value) : G2 W B X A (A'.setCell ⟨p, j, none⟩ v) p q (c2.setIfInBounds j v) c3 t2 t3 :=
  ⟨h.kf.trans ((KeepsOthers.setCell _ _ _).from _), h.kx.trans (fun b hb => heap_setCell_other _ _ b v (hX b hb)), h.bel.setCell (p := ⟨p, j, none⟩) hp v, h.b2.set j v, h.b3.other j v hpq, fun b h1 h2 => (heap_setCell_other _ _ b v h1).trans (h.oth b h1 h2)⟩
theorem G2.set3 (h : G2 W B X A A' p q c2 c3 t2 t3) (hX : ∀ b, X b → b ≠ q) (hq : W.heap.size ≤ q) (hpq : p ≠ q) (j : Nat) (v : Value) : G2 W B X A (A'.setCell ⟨q, j, none⟩ v) p q c2 (c3.setIfInBounds j v) t2 t3 :=
  ⟨h.kf.trans ((KeepsOthers.setCell _ _ _).from _), h.kx.trans (fun b hb => heap_setCell_other _ _ b v (hX b hb)), h.bel.setCell (p := ⟨q, j, none⟩) hq v, h.b2.other j v hpq, h.b3.set j v, fun b h1 h2 => (heap_setCell_other _ _ b v h2).trans (h.oth b h1 h2)⟩
end
theorem run_load_errno (w : World) (g : Nat) (b : Int) (tt : TypeId) (h : Blk w g #[.int .i64 b] tt) : (loadVar 29 ⟨g, 0, none⟩).run Try.prog w = .ok (.int .i64 b) w := by
  have hc := h.cell 0
  simp only [List.getElem?_toArray, List.getElem?_cons_zero] at hc
  have hu := Try.underlying29
  simp [go_sem, hc, hu]
theorem of_arg (W : World) (op f g k : Nat) (ho : op = 0 ∨ 31 < op) : Calls Try.prog 46 #[.int .u8 op, .int .u8 f, .int .u8 g, .int .u8 k] W (OfP W op f g k) := by
  unfold OfP
  rw [if_pos ho]
  refine (callsIn_wide (n := 9)).1 ?_
  refine callsIn_of_wp_marks Try.func46 rfl trivial ?_ rfl
  simp only [Try.ntmps46, List.size_toArray, List.length_cons, List.length_nil, Nat.reduceAdd, Nat.reduceSub, Array.replicate_succ, Array.replicate_zero, List.push_toArray, List.append_toArray, List.nil_append, List.cons_append]
  rcases ho with ho | ho
  · have z1 : ((op : Int) == 0) = true := by rw [beq_iff_eq]; omega
    clear ho
    gi_wp2
    have k8 := (Blk.new (((W.alloc (.cells #[.int .u8 (f : Nat)] 23)).alloc (.cells #[.int .u8 (g : Nat)] 23)).alloc (.cells #[.int .u8 (k : Nat)] 24)) (rowV zeroR) 40).alloc (.cells #[.int .i64 2] 29)
    have k9 := Blk.new ((((W.alloc (.cells #[.int .u8 (f : Nat)] 23)).alloc (.cells #[.int .u8 (g : Nat)] 23)).alloc (.cells #[.int .u8 (k : Nat)] 24)).alloc (.cells (rowV zeroR) 40)) #[.int .i64 2] 29
    have kb := (((((Below.refl W.heap.size W).alloc (Nat.le_refl _) (.cells #[.int .u8 (f : Nat)] 23)).alloc (by simp) (.cells #[.int .u8 (g : Nat)] 23)).alloc (by simp; omega) (.cells #[.int .u8 (k : Nat)] 24)).alloc (by simp; omega) (.cells (rowV zeroR) 40)).alloc (by simp; omega) (.cells #[.int .i64 2] 29)
    simp only [World.size_alloc] at k8 k9
    show LeavesInM _ _ _ _ _ _ (List.map mark []) _ _
    refine leaves_marks (n₀ := W.heap.size) [] _ (Marks.nil _ _) fun W' hT => ?_
    have q2 : Blk W' (W.heap.size + 1 + 1 + 1) (rowV zeroR) _ := hT.cells _ _ k8 rfl
    have q3 : Blk W' (W.heap.size + 1 + 1 + 1 + 1) #[.int .i64 2] _ := hT.cells _ _ k9 rfl
    refine ⟨_, results_two rfl _ _ (W.heap.size + 1 + 1 + 1) (W.heap.size + 1 + 1 + 1 + 1) _ _ _ (.int .i64 2) rfl rfl q2 Try.underlying40 rfl (by kernel_rfl) (run_load_errno _ _ 2 _ q3), ?_⟩
    exact ⟨rfl, kb.trans hT.bel⟩
  · have z1 : ((op : Int) == 0) = false := by rw [beq_eq_false_iff_ne]; omega
    have z2 : decide (31 < (op : Int)) = true := decide_eq_true (by omega)
    clear ho
    gi_wp2
    have k8 := (Blk.new (((W.alloc (.cells #[.int .u8 (f : Nat)] 23)).alloc (.cells #[.int .u8 (g : Nat)] 23)).alloc (.cells #[.int .u8 (k : Nat)] 24)) (rowV zeroR) 40).alloc (.cells #[.int .i64 2] 29)
    have k9 := Blk.new ((((W.alloc (.cells #[.int .u8 (f : Nat)] 23)).alloc (.cells #[.int .u8 (g : Nat)] 23)).alloc (.cells #[.int .u8 (k : Nat)] 24)).alloc (.cells (rowV zeroR) 40)) #[.int .i64 2] 29
    have kb := (((((Below.refl W.heap.size W).alloc (Nat.le_refl _) (.cells #[.int .u8 (f : Nat)] 23)).alloc (by simp) (.cells #[.int .u8 (g : Nat)] 23)).alloc (by simp; omega) (.cells #[.int .u8 (k : Nat)] 24)).alloc (by simp; omega) (.cells (rowV zeroR) 40)).alloc (by simp; omega) (.cells #[.int .i64 2] 29)
    simp only [World.size_alloc] at k8 k9
    show LeavesInM _ _ _ _ _ _ (List.map mark []) _ _
    refine leaves_marks (n₀ := W.heap.size) [] _ (Marks.nil _ _) fun W' hT => ?_
    have q2 : Blk W' (W.heap.size + 1 + 1 + 1) (rowV zeroR) _ := hT.cells _ _ k8 rfl
    have q3 : Blk W' (W.heap.size + 1 + 1 + 1 + 1) #[.int .i64 2] _ := hT.cells _ _ k9 rfl
    refine ⟨_, results_two rfl _ _ (W.heap.size + 1 + 1 + 1) (W.heap.size + 1 + 1 + 1 + 1) _ _ _ (.int .i64 2) rfl rfl q2 Try.underlying40 rfl (by kernel_rfl) (run_load_errno _ _ 2 _ q3), ?_⟩
    exact ⟨rfl, kb.trans hT.bel⟩
theorem of_c (W : World) (op f g k : Nat) : Calls Try.prog 46 #[.int .u8 op, .int .u8 f, .int .u8 g, .int .u8 k] W (OfP W op f g k) := by
  by_cases ho : op = 0 ∨ 31 < op
  · exact of_arg W op f g k ho
  unfold OfP
  rw [if_neg ho, of_rlo op f g k (by omega) (by omega)]
  have z1 : ((op : Int) == 0) = false := by rw [beq_eq_false_iff_ne]; omega
  have z2 : decide (31 < (op : Int)) = false := decide_eq_false (by omega)
  clear ho
  refine (callsIn_wide (n := 9)).1 ?_
  refine callsIn_of_wp_marks Try.func46 rfl trivial ?_ rfl
  simp only [Try.ntmps46, List.size_toArray, List.length_cons, List.length_nil, Nat.reduceAdd, Nat.reduceSub, Array.replicate_succ, Array.replicate_zero, List.push_toArray, List.append_toArray, List.nil_append, List.cons_append]
  gi_wp2_with (first
    | (refine ⟨trivial, ?_⟩; gi_at_call 50; refine (callsIn_wide.2 (each_c _ op)).mono ?_; rintro e w1 ⟨rfl, rfl⟩))
  clear z1 z2
  have k5 := ((((Blk.new W #[.int .u8 (f : Nat)] 23).alloc (.cells #[.int .u8 (g : Nat)] 23)).alloc (.cells #[.int .u8 (k : Nat)] 24)).alloc (.cells (rowV zeroR) 40)).alloc (.cells #[.int .i64 0] 29)
  have k6 := (((Blk.new (W.alloc (.cells #[.int .u8 (f : Nat)] 23)) #[.int .u8 (g : Nat)] 23).alloc (.cells #[.int .u8 (k : Nat)] 24)).alloc (.cells (rowV zeroR) 40)).alloc (.cells #[.int .i64 0] 29)
  have k7 := ((Blk.new ((W.alloc (.cells #[.int .u8 (f : Nat)] 23)).alloc (.cells #[.int .u8 (g : Nat)] 23)) #[.int .u8 (k : Nat)] 24).alloc (.cells (rowV zeroR) 40)).alloc (.cells #[.int .i64 0] 29)
  have k8 := (Blk.new (((W.alloc (.cells #[.int .u8 (f : Nat)] 23)).alloc (.cells #[.int .u8 (g : Nat)] 23)).alloc (.cells #[.int .u8 (k : Nat)] 24)) (rowV zeroR) 40).alloc (.cells #[.int .i64 0] 29)
  have k9 := Blk.new ((((W.alloc (.cells #[.int .u8 (f : Nat)] 23)).alloc (.cells #[.int .u8 (g : Nat)] 23)).alloc (.cells #[.int .u8 (k : Nat)] 24)).alloc (.cells (rowV zeroR) 40)) #[.int .i64 0] 29
  have kb := (((((Below.refl W.heap.size W).alloc (Nat.le_refl _) (.cells #[.int .u8 (f : Nat)] 23)).alloc (by simp) (.cells #[.int .u8 (g : Nat)] 23)).alloc (by simp; omega) (.cells #[.int .u8 (k : Nat)] 24)).alloc (by simp; omega) (.cells (rowV zeroR) 40)).alloc (by simp; omega) (.cells #[.int .i64 0] 29)
  simp only [World.size_alloc] at k6 k7 k8 k9
  obtain ⟨w5, hw5⟩ : ∃ w5, ((((W.alloc (.cells #[.int .u8 (f : Nat)] 23)).alloc (.cells #[.int .u8 (g : Nat)] 23)).alloc (.cells #[.int .u8 (k : Nat)] 24)).alloc (.cells (rowV zeroR) 40)).alloc (.cells #[.int .i64 0] 29) = w5 := ⟨_, rfl⟩
  have hs5 : w5.heap.size = W.heap.size + 1 + 1 + 1 + 1 + 1 := by rw [← hw5]; simp only [World.size_alloc]
  show Code.wpIn _ _ _ _ _ _ ((((((W.alloc (.cells #[.int .u8 (f : Nat)] 23)).alloc (.cells #[.int .u8 (g : Nat)] 23)).alloc (.cells #[.int .u8 (k : Nat)] 24)).alloc (.cells (rowV zeroR) 40)).alloc (.cells #[.int .i64 0] 29)).alloc (.cells #[.int .u8 (op : Nat)] 22))
  rw [hw5] at k5 k6 k7 k8 k9 kb ⊢
  have ko := Blk.new w5 #[.int .u8 (op : Nat)] 22
  rw [hs5] at ko
  have hS : OS W (w5.alloc (.cells #[.int .u8 (op : Nat)] 22)) op f g k := ⟨k5.alloc _, k6.alloc _, k7.alloc _, k8.alloc _, k9.alloc _, ko, kb.alloc kb.size _⟩
  obtain ⟨w0, hw0⟩ : ∃ w0, w5.alloc (.cells #[.int .u8 (op : Nat)] 22) = w0 := ⟨_, rfl⟩
  have hs0 : w0.heap.size = W.heap.size + 1 + 1 + 1 + 1 + 1 + 1 := by rw [← hw0, World.size_alloc, hs5]
  rw [hw0] at hS ⊢
  clear hw0 hw5 k5 k6 k7 k8 k9 kb ko hs5
  have hn0 : W.heap.size ≤ w0.heap.size := hS.bel.size
  obtain ⟨L, hL⟩ : ∃ L, (RLO op).length = L := ⟨_, rfl⟩
  have HL := Lib.hid hL
  have HS0 := Lib.hid hs0
  have hit := each_iter op (W.heap.size + 1 + 1 + 1 + 1 + 1) (9 - 1) (by decide) W.heap.size w0 hn0
  rw [hL] at hit
  refine wpIn_rangeC rfl (by decide) (gf := 71) (ba := #[]) (lb := #[.pointer (some ⟨W.heap.size + 1 + 1 + 1 + 1 + 1, 0, none⟩)]) rfl trivial (enters_of Try.func71 (by kernel_rfl) rfl) hit (Below.refl _ _) hn0 (fun _ => rfl)
    (fun j X W' => OS W W' op f g k ∧ ∀ i, i < j → asks f g k (rk op i) = false)
    (fun c j X W' => OX W W' op f g k (rk op (j - 1)) ∧ c = .ret ∧ ∀ i, i < j - 1 → asks f g k (rk op i) = false)
    (fun j X => (Abide.OS hn0).and Abide.pure) (fun c j X => (Abide.OX hn0).and Abide.pure)
    (fun j X A B ⟨h1, h2⟩ hb _ => ⟨h1.later hb, h2⟩) (fun c j X A B h hb _ => ((Abide.OX hn0).and Abide.pure).grown h hb)
    (fun j X W' h => h.1.bo.cell 0) (fun c j X W' h => h.1.bo.cell 0)
    ⟨hS, fun j h => by omega⟩
    (fun j a' W' => ∃ B6 : Nat, W.heap.size + 1 + 1 + 1 + 1 + 1 < B6 ∧ Blk W' B6 (rowV (rk op j)) 40 ∧ a' = { tmps := #[.int .u8 op, .int .u8 f, .int .u8 g, .int .u8 k, undef, .pointer (some ⟨W.heap.size, 0, none⟩), .pointer (some ⟨W.heap.size + 1, 0, none⟩), .pointer (some ⟨W.heap.size + 1 + 1, 0, none⟩), .pointer (some ⟨W.heap.size + 1 + 1 + 1, 0, none⟩), .pointer (some ⟨W.heap.size + 1 + 1 + 1 + 1, 0, none⟩), .pointer (some ⟨B6, 0, none⟩), .int .u8 op, .bool false, .bool false, .int .u8 op, .bool false, .bool false, undef, .int .u8 op, .func (.func 71) #[] #[.pointer (some ⟨W.heap.size + 1 + 1 + 1 + 1 + 1, 0, none⟩)], .agg (rowV (rk op j)), undef, undef, undef, undef, undef, undef, undef, undef, undef, undef, undef, undef, undef, undef, undef, undef, undef, undef], defers := [] })
    (fun j a' A B row ⟨B6, h1, h2, h3⟩ hg hr => ⟨B6, h1, Abide.blk A B row h2 hg hr, h3⟩) ?assign ?body ?done ?stop
  case assign =>
    rintro l j X A K hX ⟨h1, h2⟩ hj hK
    gi_wp2
    have hnew := (Below.refl A.heap.size A).alloc (Nat.le_refl _) (.cells (rowV (rk op j)) 40)
    exact hK _ _ ((KeepsOthers.alloc _ _).from _) (KX.below (fun b h => (hX b h).2) hnew) (hnew.mono h1.bel.size) ⟨h1.later hnew, h2⟩ ⟨A.heap.size, h1.bo.lt, Blk.new _ _ _, rfl⟩
  case body =>
    rintro l j X a' A hl hX ⟨h1, h2⟩ ⟨B6, hB6, hb6, rfl⟩ hj
    obtain ⟨r, hr⟩ : ∃ r, rk op j = r := ⟨_, rfl⟩
    rw [hr] at hb6 ⊢
    have HRK := Lib.hid hr
    have hXl : ∀ b, X b → W.heap.size + 1 + 1 + 1 + 1 + 1 < b := fun b hb => by have := (hX b hb).1; have := HS0.out; omega
    have x5 : A.cell? ⟨W.heap.size, 0, none⟩ = some (.int .u8 (f : Nat)) := h1.b5.cell 0
    have x6 : A.cell? ⟨W.heap.size + 1, 0, none⟩ = some (.int .u8 (g : Nat)) := h1.b6.cell 0
    have x7 : A.cell? ⟨W.heap.size + 1 + 1, 0, none⟩ = some (.int .u8 (k : Nat)) := h1.b7.cell 0
    have t0 : A.cell? ⟨B6, 0, none⟩ = some (.int .u8 (r.op : Nat)) := hb6.cell 0
    have t1 : A.cell? ⟨B6, 1, none⟩ = some (.int .u8 (r.form : Nat)) := hb6.cell 1
    have t2 : A.cell? ⟨B6, 2, none⟩ = some (.int .u8 (r.frm : Nat)) := hb6.cell 2
    have t3 : A.cell? ⟨B6, 3, none⟩ = some (.int .u8 (r.kind : Nat)) := hb6.cell 3
    have t4 : A.cell? ⟨B6, 4, none⟩ = some (.int .u32 (r.mask : Nat)) := hb6.cell 4
    have t5 : A.cell? ⟨B6, 5, none⟩ = some (.int .u32 (r.mtch : Nat)) := hb6.cell 5
    have t6 : A.cell? ⟨B6, 6, none⟩ = some (.int .u8 (r.lay : Nat)) := hb6.cell 6
    have v0 := h1.b8.cell 0
    have v1 := h1.b8.cell 1
    have v2 := h1.b8.cell 2
    have v3 := h1.b8.cell 3
    have v4 := h1.b8.cell 4
    have v5 := h1.b8.cell 5
    have v6 := h1.b8.cell 6
    have v7 := h1.b9.cell 0
    have z0 := h1.b8.frozen
    have z1 := h1.b9.frozen
    simp only [List.getElem?_toArray, List.getElem?_cons_succ, List.getElem?_cons_zero] at v0 v1 v2 v3 v4 v5 v6 v7
    have H1 := Lib.hid h1
    have y2 := beq_cast r.form f
    have y3 := beq_cast r.frm g
    have y4 := beq_cast r.kind k
    have HAS : Hid (asks f g k r = (r.form == f && (r.frm == g && r.kind == k))) := Lib.hid rfl
    clear h1 hr hb6
    have h15 : 1 ≤ 9 - 1 - 1 := by decide
    generalize (r.form == f) = b2 at *
    generalize (r.frm == g) = b3 at *
    generalize (r.kind == k) = b4 at *
    rcases (by cases b2 <;> cases b3 <;> cases b4 <;> simp : b2 = false ∨ (b2 = true ∧ b3 = false) ∨ (b2 = true ∧ b3 = true ∧ b4 = false) ∨ (b2 = true ∧ b3 = true ∧ b4 = true)) with rfl | ⟨rfl, rfl⟩ | ⟨rfl, rfl, rfl⟩ | ⟨rfl, rfl, rfl⟩
    rotate_right
    · have g0 : G2 W w0.heap.size X A A (W.heap.size + 1 + 1 + 1) (W.heap.size + 1 + 1 + 1 + 1) (rowV zeroR) #[.int .i64 0] 40 29 := ⟨KeepsFrom.refl _ _, KX.refl _ _, Below.refl _ _, H1.out.b8, H1.out.b9, fun _ _ _ => rfl⟩
      have q2 : ∀ b, X b → b ≠ W.heap.size + 1 + 1 + 1 := fun b hb => by have := hXl b hb; omega
      have q3 : ∀ b, X b → b ≠ W.heap.size + 1 + 1 + 1 + 1 := fun b hb => by have := hXl b hb; omega
      have g8 := (((((((g0.set2 q2 (by omega) (by omega) 0 (.int .u8 (r.op : Nat))).set2 q2 (by omega) (by omega) 1 (.int .u8 (r.form : Nat))).set2 q2 (by omega) (by omega) 2 (.int .u8 (r.frm : Nat))).set2 q2 (by omega) (by omega) 3 (.int .u8 (r.kind : Nat))).set2 q2 (by omega) (by omega) 4 (.int .u32 (r.mask : Nat))).set2 q2 (by omega) (by omega) 5 (.int .u32 (r.mtch : Nat))).set2 q2 (by omega) (by omega) 6 (.int .u8 (r.lay : Nat))).set3 q3 (by omega) (by omega) 0 (.int .i64 0)
      have G8 := Lib.hid g8
      clear g0 g8 q2 q3
      gi_wp2
      have q2 := G8.out.b2
      have q3 := G8.out.b3
      simp only [List.setIfInBounds_toArray, List.set_cons_succ, List.set_cons_zero] at q2 q3
      refine ⟨G8.out.kf, G8.out.kx, G8.out.bel, ?_, rfl, fun i hi => h2 i hi⟩
      rw [show rk op (j + 1 - 1) = r from HRK.out]
      exact ⟨q2, q3, (G8.out.oth _ (by omega) (by omega)).trans H1.out.bo, H1.out.bel.trans G8.out.bel, by rw [HAS.out]; rfl⟩
    all_goals
      have HF : Hid (asks f g k r = false) := Lib.hid (by rw [HAS.out]; simp)
      gi_wp2
      exact ⟨KeepsFrom.refl _ _, KX.refl _ _, Below.refl _ _, H1.out, fun i hi => by
        rcases Nat.lt_succ_iff_lt_or_eq.1 hi with h | rfl
        · exact h2 i h
        · rw [HRK.out]; exact HF.out⟩
  case done =>
    rintro D A hDw ⟨X, h1, h2⟩ hK
    have HF := Lib.hid (find_never (asks f g k) (RLO op) zeroR (fun i hi => h2 i (by have := HL.out; omega)))
    have v0 := h1.b8.cell 0
    have v1 := h1.b8.cell 1
    have v2 := h1.b8.cell 2
    have v3 := h1.b8.cell 3
    have v4 := h1.b8.cell 4
    have v5 := h1.b8.cell 5
    have v6 := h1.b8.cell 6
    have v7 := h1.b9.cell 0
    have z0 := h1.b8.frozen
    have z1 := h1.b9.frozen
    simp only [List.getElem?_toArray, List.getElem?_cons_succ, List.getElem?_cons_zero] at v0 v1 v2 v3 v4 v5 v6 v7
    have hm : Marks W.heap.size [D] A := (Marks.nil _ _).cons (Nat.le_trans hn0 hDw) hK (by simp)
    have hDs : W.heap.size + 1 + 1 + 1 + 1 + 1 < D := by have := HS0.out; omega
    have HM := Lib.hid hm
    have H1 := Lib.hid h1
    clear h1 h2 hm hK
    have g0 : G2 W 0 (fun _ => False) A A (W.heap.size + 1 + 1 + 1) (W.heap.size + 1 + 1 + 1 + 1) (rowV zeroR) #[.int .i64 0] 40 29 := ⟨KeepsFrom.refl _ _, KX.refl _ _, Below.refl _ _, H1.out.b8, H1.out.b9, fun _ _ _ => rfl⟩
    have q2 : ∀ b, (fun _ : Nat => False) b → b ≠ W.heap.size + 1 + 1 + 1 := fun b h => h.elim
    have q3 : ∀ b, (fun _ : Nat => False) b → b ≠ W.heap.size + 1 + 1 + 1 + 1 := fun b h => h.elim
    have g8 := (((((((g0.set2 q2 (by omega) (by omega) 0 (.int .u8 0)).set2 q2 (by omega) (by omega) 1 (.int .u8 0)).set2 q2 (by omega) (by omega) 2 (.int .u8 0)).set2 q2 (by omega) (by omega) 3 (.int .u8 0)).set2 q2 (by omega) (by omega) 4 (.int .u32 0)).set2 q2 (by omega) (by omega) 5 (.int .u32 0)).set2 q2 (by omega) (by omega) 6 (.int .u8 0)).set3 q3 (by omega) (by omega) 0 (.int .i64 240)
    have G8 := Lib.hid g8
    clear g0 g8 q2 q3
    gi_wp2
    show LeavesInM _ _ _ _ _ _ (List.map mark [D]) _ _
    refine leaves_marks (n₀ := W.heap.size) [D] _ (HM.out.kept fun E hE => G8.out.oth E (by simp at hE; omega) (by simp at hE; omega)) fun W' hT => ?_
    have q2 : Blk W' (W.heap.size + 1 + 1 + 1) (rowV zeroR) _ := hT.cells _ _ G8.out.b2 rfl
    have q3 : Blk W' (W.heap.size + 1 + 1 + 1 + 1) #[.int .i64 240] _ := hT.cells _ _ G8.out.b3 rfl
    refine ⟨_, results_two rfl _ _ (W.heap.size + 1 + 1 + 1) (W.heap.size + 1 + 1 + 1 + 1) _ _ _ (.int .i64 240) rfl rfl q2 Try.underlying40 rfl (by kernel_rfl) (run_load_errno _ _ 240 _ q3), ?_⟩
    rw [HF.out]
    exact ⟨rfl, H1.out.bel.trans (G8.out.bel.trans hT.bel)⟩
  case stop =>
    rintro D c j A hDw hj1 hjl ⟨X, h1, rfl, h3⟩ hK
    have hm : Marks W.heap.size [D] A := (Marks.nil _ _).cons (Nat.le_trans hn0 hDw) hK (by simp)
    have HF := Lib.hid (find_first (asks f g k) (RLO op) zeroR (j - 1) (by have := HL.out; omega) h1.fit h3)
    have HM := Lib.hid hm
    have H1 := Lib.hid h1
    clear h1 h3 hm hK
    gi_wp2
    show LeavesInM _ _ _ _ _ _ (List.map mark [D]) _ _
    refine leaves_marks (n₀ := W.heap.size) [D] _ HM.out fun W' hT => ?_
    have q2 : Blk W' (W.heap.size + 1 + 1 + 1) _ _ := hT.cells _ _ H1.out.b8 rfl
    have q3 : Blk W' (W.heap.size + 1 + 1 + 1 + 1) _ _ := hT.cells _ _ H1.out.b9 rfl
    refine ⟨_, results_two rfl _ _ (W.heap.size + 1 + 1 + 1) (W.heap.size + 1 + 1 + 1 + 1) _ _ _ (.int .i64 0) rfl rfl q2 Try.underlying40 rfl (by kernel_rfl) (run_load_errno _ _ 0 _ q3), ?_⟩
    rw [HF.out]
    exact ⟨rfl, H1.out.bel.trans hT.bel⟩
end Go.Proofs.Yteelconabmfnkaa
