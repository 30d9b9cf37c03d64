/- The law TableAsks: its walk. -/
import Derived.Test.YteelconabmfnkaaWf
import Derived.Test.YteelconabmfnkaaEb
import Derived.Test.YteelconabmfnkaaOk
import Derived.Test.YteelconabmfnkaaRj
namespace Go.Proofs.Yteelconabmfnkaa
open Go Go.RowKit Go.Shelf
attribute [local go_sem] Oper.semAt_some
set_option maxHeartbeats 16000000
set_option maxRecDepth 100000
set_option linter.unusedVariables false
set_option linter.unusedSimpArgs false
theorem sets_run {P : Program} {ops : Array Oper} {I : (Nat → Bool) → World → Prop} {Q : Act → Prop} {k : Nat} {o : Oper} {rest : List Oper} {a : Act} (v : Value) (hw : Region.wanted o (yielded ops a.tmps) = true) (hI : ∀ S w, S k = false → I S w → I (ins S k) w)
    (hr : ∀ w, (execOp a.eval o).run P w = .ok (.value v) w) (h : wpSets P ops I Q (k + 1) rest (a.put o.dst v)) : wpSets P ops I Q k (o :: rest) a := by
  refine ⟨v, .inl ⟨hw, fun S w hS _ _ hIw => ?_⟩, h⟩
  unfold opTo
  rw [hr w]
  exact ⟨rfl, hI S w hS hIw⟩
/-- both tell the same row -/
theorem asks_of (op f g k : Nat) : ∃ (r : R7) (nm : ByteArray) (c : Int), (∀ X, Calls Try.prog 46 #[.int .u8 op, .int .u8 f, .int .u8 g, .int .u8 k] X fun e w' => e = .returned (.tuple #[.agg (rowV r), .int .i64 c]) ∧ Below X.heap.size X w') ∧
    (∀ X, Calls Try.prog 47 #[.int .u8 op, .int .u8 f, .int .u8 g, .int .u8 k] X fun e w' => e = .returned (.tuple #[.agg (entV r nm), .int .i64 c]) ∧ Below X.heap.size X w') := by
  by_cases h : op = 0 ∨ 31 < op
  · refine ⟨zeroR, emp, 2, fun X => ?_, fun X => ?_⟩
    · have := of_c X op f g k
      unfold OfP at this
      rw [if_pos h] at this
      exact this
    · have := rof_c X op f g k
      unfold ROfP at this
      rw [if_pos (by omega)] at this
      exact this
  · have hmap : (OFN op f g k).map (·.1) = OF op f g k := by
      unfold OFN OF
      rw [← alln_rows]
      exact find_map (fun p : R7 × ByteArray => p.1) (fun r => r.op == op && (r.form == f && (r.frm == g && r.kind == k))) ALLN
    refine ⟨((OFN op f g k).getD NONE2).1, ((OFN op f g k).getD NONE2).2, errOf (OFN op f g k), fun X => ?_, fun X => ?_⟩
    · have := of_c X op f g k
      unfold OfP at this
      rw [if_neg h, ← hmap] at this
      cases hO : OFN op f g k with
      | none => rw [hO] at this; exact this
      | some p => rw [hO] at this; exact this
    · have := rof_c X op f g k
      unfold ROfP at this
      rw [if_neg (by omega)] at this
      exact this
theorem rlo_all (o : Nat) : ROWS.filter (fun q => q.op == o) = RLO o := by
  by_cases h : 1 ≤ o ∧ o ≤ 31
  · exact (rlo_eq o h.1 h.2).symm
  · rw [rlo_out o (by omega), List.filter_eq_nil_iff]
    intro r hr
    have := rlo_rows r hr
    simp only [beq_iff_eq]
    omega
/-- All's row in a later world -/
abbrev OwnN (B : Nat) (w : World) (g cap : Nat) : Prop := Own B w (.slice (some ⟨g, 0, none⟩) 136 cap) ALLN
theorem alln_cell {w : World} {B g cap k j : Nat} {p : R7 × ByteArray} {v : Value} (h : OwnN B w g cap) (hp : ALLN[k]? = some p) (hj : j < 8) (hv : (entV p.1 p.2)[j]? = some v) : w.cell? ⟨g, k * 8 + j, none⟩ = some v :=
  (own_cell h).2.2 (k * 8 + j) v (by rw [ents_get ALLN k j p hp hj]; exact hv)
/-- what holds while the wanted rows are gathered -/
structure TA (W wr : World) (x : A7) (Bw B g cap : Nat) (xs : List R7) (v : Value) : Prop where
  ask : Blk wr W.heap.size (askV x) 74
  res : Blk wr (W.heap.size + 1) #[.bool false] 4
  lc : Blk wr Bw #[v] 48
  own : OwnR B wr v xs
  all : OwnN B wr g cap
  bel : Below W.heap.size W wr
  hB : W.heap.size + 2 ≤ B
  hw : W.heap.size + 2 ≤ Bw
theorem TA.later {W wr w1 : World} {x : A7} {Bw B g cap : Nat} {xs : List R7} {v : Value} (h : TA W wr x Bw B g cap xs v) (hb : Below wr.heap.size wr w1) : TA W w1 x Bw B g cap xs v :=
  ⟨h.ask.below hb h.ask.lt, h.res.below hb h.res.lt, h.lc.below hb h.lc.lt, own_later h.own hb, own_later h.all hb, h.bel.trans (hb.mono h.bel.size), h.hB, h.hw⟩
theorem TA.more {W A A1 : World} {x : A7} {Bw B g cap : Nat} {xs : List R7} {v v' : Value} {r : R7} (h : TA W A x Bw B g cap xs v) (hO : A1.ownsRow B 40 7 v' (xs.length + 1) (rws xs ++ (rowV r).toList)) (hg : A.grownBy A1 v.ownBlock) : TA W (A1.setCell ⟨Bw, 0, none⟩ v') x Bw B g cap (xs ++ [r]) v' := by
  have h1 := own_blk h.own hg h.lc (by decide)
  have h2 := own_blk h.own hg h.ask (by decide)
  have h3 := own_blk h.own hg h.res (by decide)
  have hset : A1.grownBy (A1.setCell ⟨Bw, 0, none⟩ v') (some Bw) := ⟨rfl, rfl, rfl, by simp, fun k _ hk => heap_setCell_other A1 ⟨Bw, 0, none⟩ k v' (fun e => hk (by rw [e]))⟩
  have ha : OwnN B A1 g cap := own_kept h.all hg fun b hb hk => by
    obtain ⟨c1, e1⟩ := own_cells h.own hb
    obtain ⟨c2, e2⟩ := own_cells h.all hk.symm
    rw [e1] at e2
    have e3 := Obj.cells.inj (Option.some.inj e2)
    exact absurd e3.2.1 (by decide)
  have hw := h.hw
  have hbl := own_below h.own hg h.bel (by have := h.hB; omega) h.bel.size
  refine ⟨h2.other 0 v' (by omega), h3.other 0 v' (by omega), h1.set 0 v', ?_, own_kept ha hset fun b hb hk => ?_, hbl.setCell (p := ⟨Bw, 0, none⟩) (show W.heap.size ≤ Bw by omega) v', h.hB, hw⟩
  · show World.ownsRow _ _ _ _ _ _ _
    rw [rws_append, List.length_append, rws_one]
    refine own_kept hO hset fun b hb hk => ?_
    cases hb
    exact own_ne hO h1 (by decide) hk
  · cases hb
    exact own_ne ha h1 (by decide) hk
/-- what holds between two turns -/
structure TS (W wr : World) (x : A7) (bw bo pt : Nat) (xs : List R7) (v : Value) (n : Nat) : Prop where
  ask : Blk wr W.heap.size (askV x) 74
  res : Blk wr (W.heap.size + 1) #[.bool false] 4
  lc : Blk wr bw #[v] 48
  own : OwnR (W.heap.size + 2) wr v xs
  opc : Blk wr bo #[.int .u8 (x.op : Nat)] 22
  tc : Blk wr pt #[.int .i64 (n : Nat)] 3
  bel : Below W.heap.size W wr
  hpt : W.heap.size + 2 ≤ pt
theorem TS.later {W wr w1 : World} {x : A7} {bw bo pt : Nat} {xs : List R7} {v : Value} {n : Nat} (h : TS W wr x bw bo pt xs v n) (hb : Below wr.heap.size wr w1) : TS W w1 x bw bo pt xs v n :=
  ⟨h.ask.below hb h.ask.lt, h.res.below hb h.res.lt, h.lc.below hb h.lc.lt, own_later h.own hb, h.opc.below hb h.opc.lt, h.tc.below hb h.tc.lt, h.bel.trans (hb.mono h.bel.size), h.hpt⟩
theorem Abide.TS {W : World} {x : A7} {bw bo pt : Nat} {xs : List R7} {v : Value} {n B : Nat} (hB : W.heap.size ≤ B) : Abide B (fun W' => TS W W' x bw bo pt xs v n) := fun A A' row h hg hr =>
  ⟨Abide.blk A A' row h.ask hg hr, Abide.blk A A' row h.res hg hr, Abide.blk A A' row h.lc hg hr, Abide.own A A' row h.own hg hr, Abide.blk A A' row h.opc hg hr, Abide.blk A A' row h.tc hg hr, Abide.below (Nat.le_refl _) hB A A' row h.bel hg hr, h.hpt⟩
/-- a cell of whole numbers, not the turn's, is written -/
theorem TS.set {W wr : World} {x : A7} {bw bo pt p : Nat} {xs : List R7} {v : Value} {n : Nat} (h : TS W wr x bw bo pt xs v n) {cs : Array Value} (hp : Blk wr p cs 3) (hne : p ≠ pt) (hlt : W.heap.size ≤ p) (u : Value) : TS W (wr.setCell ⟨p, 0, none⟩ u) x bw bo pt xs v n := by
  have hset : wr.grownBy (wr.setCell ⟨p, 0, none⟩ u) (some p) := ⟨rfl, rfl, rfl, by simp, fun k _ hk => heap_setCell_other wr ⟨p, 0, none⟩ k u (fun e => hk (by rw [e]))⟩
  refine ⟨h.ask.other 0 u (blk_ne h.ask hp (by decide)), h.res.other 0 u (blk_ne h.res hp (by decide)), h.lc.other 0 u (blk_ne h.lc hp (by decide)), own_kept h.own hset fun b hb hk => ?_, h.opc.other 0 u (blk_ne h.opc hp (by decide)), h.tc.other 0 u (fun e => hne e.symm), h.bel.setCell (p := ⟨p, 0, none⟩) hlt u, h.hpt⟩
  cases hb
  exact own_ne h.own hp (by decide) hk
theorem own_len {w : World} {base : Nat} {e : TypeId} {size : Nat} {v : Value} {n : Nat} {xs : List Value} (h : w.ownsRow base e size v n xs) : ∃ (ao : Option Addr) (c : Nat), v = .slice ao n c ∧ (0 < n → ∃ g, ao = some ⟨g, 0, none⟩) := by
  rcases h.2 with ⟨rfl, h0⟩ | ⟨g, cap, cur, rfl, _⟩
  · exact ⟨none, 0, by rw [h0], fun h => by omega⟩
  · exact ⟨_, _, rfl, fun _ => ⟨g, rfl⟩⟩
/-- the next turn's cell -/
theorem TS.next {W A : World} {x : A7} {bw bo pt : Nat} {xs : List R7} {v : Value} {n : Nat} (h : TS W A x bw bo pt xs v n) (b : Value) (hb : b = .int .i64 ((n + 1 : Nat) : Int)) : TS W (A.alloc (.cells #[b] 3)) x bw bo A.heap.size xs v (n + 1) := by
  subst hb
  have h1 := h.later ((Below.refl A.heap.size A).alloc (Nat.le_refl _) (.cells #[.int .i64 ((n + 1 : Nat) : Int)] 3))
  have hlt := h.tc.lt
  have hp := h.hpt
  exact ⟨h1.ask, h1.res, h1.lc, h1.own, h1.opc, Blk.new _ _ _, h1.bel, by omega⟩
theorem turn_lt {wx A : World} {pt n : Nat} {b : Value} (h : wx.cell? ⟨pt, 0, none⟩ = some (.int .i64 (n : Nat))) (hn : n < 2) (hb : b = .int .i64 ((n + 1 : Nat) : Int)) : 2 - (intOf (((A.alloc (.cells #[b] 3)).cell? ⟨A.heap.size, 0, none⟩).getD undef)).toNat < 2 - (intOf ((wx.cell? ⟨pt, 0, none⟩).getD undef)).toNat := by
  subst hb
  have h2 : (A.alloc (.cells #[.int .i64 ((n + 1 : Nat) : Int)] 3)).cell? ⟨A.heap.size, 0, none⟩ = some (.int .i64 ((n + 1 : Nat) : Int)) := (Blk.new A #[.int .i64 ((n + 1 : Nat) : Int)] 3).cell 0
  rw [h, h2]
  simp only [Option.getD_some, intOf, Int.toNat_natCast]
  omega
def nthV : List Value → Nat → Value
  | [], _ => undef
  | v :: _, 0 => v
  | _ :: l, k + 1 => nthV l k
def TI (W : World) (x : A7) (bw bo L cap3 : Nat) (ao : Option Addr) (f : Nat → Value) (a : Act) (wx : World) : Prop := ∃ (n pt : Nat) (Ds : List Nat), a = { tmps := #[f 0, .pointer (some ⟨W.heap.size, 0, none⟩), .pointer (some ⟨W.heap.size + 1, 0, none⟩), f 3, f 4, f 5, f 6, f 7, f 8, f 9, f 10, f 11, f 12, f 13, f 14, .pointer (some ⟨bw, 0, none⟩), f 16, f 17, .func (.func 71) #[] #[.pointer (some ⟨bo, 0, none⟩)], .pointer (some ⟨pt, 0, none⟩), f 20, f 21, f 22, f 23, f 24, f 25, f 26, f 27, f 28, f 29, f 30, f 31, f 32, f 33, f 34, f 35, f 36, f 37, f 38, f 39, f 40, f 41, f 42, f 43, f 44, f 45, f 46, f 47, f 48, f 49, f 50, f 51, f 52, f 53, f 54, f 55, f 56, f 57, f 58, f 59, f 60, f 61, f 62, f 63, f 64, f 65, f 66, f 67, f 68, f 69, f 70, f 71, f 72, f 73, f 74, f 75, f 76, f 77, f 78, f 79, f 80, f 81, f 82, f 83, f 84, f 85, f 86, f 87, f 88, f 89, f 90, f 91, f 92, f 93, f 94, f 95, f 96, f 97, f 98, f 99, f 100, f 101, f 102, f 103, f 104, f 105, f 106, f 107, f 108, f 109, f 110, f 111, f 112, f 113, f 114, f 115, f 116, f 117, f 118, f 119, f 120, f 121, f 122, f 123, f 124, f 125, f 126, f 127, f 128, f 129, f 130, f 131, f 132, f 133, f 134, f 135, f 136, f 137, f 138, f 139, f 140, f 141, f 142, f 143, f 144, f 145, f 146, f 147, f 148, f 149, f 150, f 151, f 152, f 153, f 154, f 155, f 156, f 157, f 158, f 159, f 160, f 161, f 162, f 163, f 164, f 165, f 166, f 167, f 168, f 169, f 170, f 171, f 172, f 173], defers := Ds.map mark } ∧ n ≤ 2 ∧ TS W wx x bw bo pt (RLO x.op) (.slice ao L cap3) n ∧ Marks W.heap.size Ds wx
theorem TI.in {W : World} {x : A7} {bw bo L cap3 : Nat} {ao : Option Addr} {a : Act} {wx : World} (h : TI W x bw bo L cap3 ao (nthV a.tmps.toList) a wx) : ∃ f, TI W x bw bo L cap3 ao f a wx := ⟨_, h⟩
theorem filt_step {o k : Nat} {r : R7} (hr : ROWS[k]? = some r) : (ROWS.take (k + 1)).filter (fun q => q.op == o) = (ROWS.take k).filter (fun q => q.op == o) ++ (if r.op == o then [r] else []) := by
  rw [List.take_add_one, hr, List.filter_append]
  congr 1
  show List.filter _ [r] = _
  cases h : r.op == o <;> simp [h]
theorem walk_TableAsks (x : A7) (W : World) (bx : BA x) : Calls Try.prog 15 #[.agg (askV x)] W fun e w' => e = .returned (.bool true) ∧ Below W.heap.size W w' := by
  obtain ⟨b0, b1, b2, b3, ⟨_, _, _, _, hmk, hmt, _⟩, _⟩ := bx
  obtain ⟨or, onm, oc, hof, hrof⟩ := asks_of x.op x.form x.frm x.kind
  have CO := Lib.hid hof
  have CR := Lib.hid hrof
  have CN := Lib.hid (fun X => name_c X x.row hmk hmt)
  have CM := Lib.hid (fun X => rname_c X x.row)
  have CD := Lib.hid (fun X => named_c X x.name)
  have CB := Lib.hid (fun X => rbyname_c X x.name)
  unfold NameP at CN CM
  unfold NamedP at CD CB
  obtain ⟨ns, hns⟩ : ∃ s, ((NAMEOF x.row).getD NONE2).2 = s := ⟨_, rfl⟩
  obtain ⟨nc, hnc⟩ : ∃ c, errOf (NAMEOF x.row) = c := ⟨_, rfl⟩
  obtain ⟨dr, hdr⟩ : ∃ r, ((NAMED x.name).getD NONE2).1 = r := ⟨_, rfl⟩
  obtain ⟨dc, hdc⟩ : ∃ c, errOf (NAMED x.name) = c := ⟨_, rfl⟩
  rw [hns, hnc] at CN CM
  rw [hdr, hdc] at CD CB
  clear hof hrof hns hnc hdr hdc hmk hmt b1 b2 b3
  obtain ⟨op, form, frm, kind, ⟨rop, rform, rfrm, rkind, rmask, rmtch, rlay⟩, name, leave⟩ := x
  simp only [] at CO CR CN CM CD CB b0
  have hne1 : ∀ X, (binOp .neq 40 (.agg (rowV or)) (.agg (rowV or))).run Try.prog X = .ok (.bool false) X := fun X => by rw [neq_row, decide_eq_true rfl]; rfl
  have hne2 : ∀ X, (binOp .neq 40 (.agg (rowV dr)) (.agg (rowV dr))).run Try.prog X = .ok (.bool false) X := fun X => by rw [neq_row, decide_eq_true rfl]; rfl
  obtain ⟨oop, oform, ofrm, okind, omask, omtch, olay⟩ := or
  obtain ⟨dop, dform, dfrm, dkind, dmask, dmtch, dlay⟩ := dr
  refine (callsIn_wide (n := 9)).1 ?_
  refine callsIn_of_wp_marks Try.func15 rfl trivial ?_ rfl
  simp only [Try.ntmps15, List.size_toArray, List.length_cons, List.length_nil, Nat.reduceAdd, Nat.reduceSub, Array.replicate_succ, Array.replicate_zero, List.push_toArray, List.append_toArray, List.nil_append, List.cons_append]
  refine wpIn_wide.2 ?_
  have k0 := (Blk.new W (askV ⟨op, form, frm, kind, ⟨rop, rform, rfrm, rkind, rmask, rmtch, rlay⟩, name, leave⟩) 74).alloc (.cells #[.bool false] 4)
  have k1 := Blk.new (W.alloc (.cells (askV ⟨op, form, frm, kind, ⟨rop, rform, rfrm, rkind, rmask, rmtch, rlay⟩, name, leave⟩) 74)) #[.bool false] 4
  rw [World.size_alloc] at k1
  have kB := ((Below.refl W.heap.size W).alloc (Nat.le_refl _) (.cells (askV ⟨op, form, frm, kind, ⟨rop, rform, rfrm, rkind, rmask, rmtch, rlay⟩, name, leave⟩) 74)).alloc (by simp) (.cells #[.bool false] 4)
  have K0 := Lib.hid k0
  have K1 := Lib.hid k1
  have KB := Lib.hid kB
  clear k0 k1 kB
  go_upto_region 3 with (first
    | (go_at_call 33; (with_reducible refine (lives24 _).mono ?_); rintro e w1 ⟨rfl, b1⟩))
  have k0 := K0.out.call b1
  have k1 := K1.out.call b1
  have kB := KB.out.trans (b1.mono KB.out.size)
  have a0 := k0.cell 0
  have a1 := k0.cell 1
  have a2 := k0.cell 2
  have a3 := k0.cell 3
  have a4 := k0.cell 4
  have a5 := k0.cell 5
  have a6 := k0.cell 6
  have a7 := k0.cell 7
  have a8 := k0.cell 8
  have a9 := k0.cell 9
  have a10 := k0.cell 10
  have a11 := k0.cell 11
  have a12 := k0.cell 12
  simp only [List.getElem?_toArray, List.getElem?_cons_succ, List.getElem?_cons_zero] at a0 a1 a2 a3 a4 a5 a6 a7 a8 a9 a10 a11 a12
  go_upto_region 9 with (first
    | (go_at_call 46; (with_reducible refine (CO.out _).mono ?_); rintro e v0 ⟨rfl, c0⟩; clear CO; clear a0 a1 a2 a3 a4 a5 a6 a7 a8 a9 a10 a11 a12; replace k0 := (k0.call c0).alloc (.cells (rowV ⟨oop, oform, ofrm, okind, omask, omtch, olay⟩) 40); replace k1 := (k1.call c0).alloc (.cells (rowV ⟨oop, oform, ofrm, okind, omask, omtch, olay⟩) 40); replace kB := kB.trans (c0.mono kB.size); replace kB := kB.alloc kB.size (.cells (rowV ⟨oop, oform, ofrm, okind, omask, omtch, olay⟩) 40); have qO1 := Blk.new v0 (rowV ⟨oop, oform, ofrm, okind, omask, omtch, olay⟩) 40; have a0 := k0.cell 0; have a1 := k0.cell 1; have a2 := k0.cell 2; have a3 := k0.cell 3; have a4 := k0.cell 4; have a5 := k0.cell 5; have a6 := k0.cell 6; have a7 := k0.cell 7; have a8 := k0.cell 8; have a9 := k0.cell 9; have a10 := k0.cell 10; have a11 := k0.cell 11; have a12 := k0.cell 12; simp only [List.getElem?_toArray, List.getElem?_cons_succ, List.getElem?_cons_zero] at a0 a1 a2 a3 a4 a5 a6 a7 a8 a9 a10 a11 a12)
    | (go_at_call 47; (with_reducible refine (CR.out _).mono ?_); rintro e v1 ⟨rfl, c1⟩; clear CR; clear a0 a1 a2 a3 a4 a5 a6 a7 a8 a9 a10 a11 a12; replace k0 := (k0.call c1).alloc (.cells (entV ⟨oop, oform, ofrm, okind, omask, omtch, olay⟩ onm) 42); replace k1 := (k1.call c1).alloc (.cells (entV ⟨oop, oform, ofrm, okind, omask, omtch, olay⟩ onm) 42); replace qO1 := (qO1.call c1).alloc (.cells (entV ⟨oop, oform, ofrm, okind, omask, omtch, olay⟩ onm) 42); replace kB := kB.trans (c1.mono kB.size); replace kB := kB.alloc kB.size (.cells (entV ⟨oop, oform, ofrm, okind, omask, omtch, olay⟩ onm) 42); have qR1 := Blk.new v1 (entV ⟨oop, oform, ofrm, okind, omask, omtch, olay⟩ onm) 42; have a0 := k0.cell 0; have a1 := k0.cell 1; have a2 := k0.cell 2; have a3 := k0.cell 3; have a4 := k0.cell 4; have a5 := k0.cell 5; have a6 := k0.cell 6; have a7 := k0.cell 7; have a8 := k0.cell 8; have a9 := k0.cell 9; have a10 := k0.cell 10; have a11 := k0.cell 11; have a12 := k0.cell 12; simp only [List.getElem?_toArray, List.getElem?_cons_succ, List.getElem?_cons_zero] at a0 a1 a2 a3 a4 a5 a6 a7 a8 a9 a10 a11 a12)
    | (go_at_call 31; (with_reducible refine (CN.out _).mono ?_); rintro e v2 ⟨rfl, c2⟩; clear CN; clear a0 a1 a2 a3 a4 a5 a6 a7 a8 a9 a10 a11 a12; replace k0 := (k0.call c2); replace k1 := (k1.call c2); replace qO1 := (qO1.call c2); replace qR1 := (qR1.call c2); replace kB := kB.trans (c2.mono kB.size); have a0 := k0.cell 0; have a1 := k0.cell 1; have a2 := k0.cell 2; have a3 := k0.cell 3; have a4 := k0.cell 4; have a5 := k0.cell 5; have a6 := k0.cell 6; have a7 := k0.cell 7; have a8 := k0.cell 8; have a9 := k0.cell 9; have a10 := k0.cell 10; have a11 := k0.cell 11; have a12 := k0.cell 12; simp only [List.getElem?_toArray, List.getElem?_cons_succ, List.getElem?_cons_zero] at a0 a1 a2 a3 a4 a5 a6 a7 a8 a9 a10 a11 a12)
    | (go_at_call 48; (with_reducible refine (CM.out _).mono ?_); rintro e v3 ⟨rfl, c3⟩; clear CM; clear a0 a1 a2 a3 a4 a5 a6 a7 a8 a9 a10 a11 a12; replace k0 := (k0.call c3); replace k1 := (k1.call c3); replace qO1 := (qO1.call c3); replace qR1 := (qR1.call c3); replace kB := kB.trans (c3.mono kB.size); have a0 := k0.cell 0; have a1 := k0.cell 1; have a2 := k0.cell 2; have a3 := k0.cell 3; have a4 := k0.cell 4; have a5 := k0.cell 5; have a6 := k0.cell 6; have a7 := k0.cell 7; have a8 := k0.cell 8; have a9 := k0.cell 9; have a10 := k0.cell 10; have a11 := k0.cell 11; have a12 := k0.cell 12; simp only [List.getElem?_toArray, List.getElem?_cons_succ, List.getElem?_cons_zero] at a0 a1 a2 a3 a4 a5 a6 a7 a8 a9 a10 a11 a12)
    | (go_at_call 32; (with_reducible refine (CD.out _).mono ?_); rintro e v4 ⟨rfl, c4⟩; clear CD; clear a0 a1 a2 a3 a4 a5 a6 a7 a8 a9 a10 a11 a12; replace k0 := (k0.call c4).alloc (.cells (rowV ⟨dop, dform, dfrm, dkind, dmask, dmtch, dlay⟩) 40); replace k1 := (k1.call c4).alloc (.cells (rowV ⟨dop, dform, dfrm, dkind, dmask, dmtch, dlay⟩) 40); replace qO1 := (qO1.call c4).alloc (.cells (rowV ⟨dop, dform, dfrm, dkind, dmask, dmtch, dlay⟩) 40); replace qR1 := (qR1.call c4).alloc (.cells (rowV ⟨dop, dform, dfrm, dkind, dmask, dmtch, dlay⟩) 40); replace kB := kB.trans (c4.mono kB.size); replace kB := kB.alloc kB.size (.cells (rowV ⟨dop, dform, dfrm, dkind, dmask, dmtch, dlay⟩) 40); have qD1 := Blk.new v4 (rowV ⟨dop, dform, dfrm, dkind, dmask, dmtch, dlay⟩) 40; have a0 := k0.cell 0; have a1 := k0.cell 1; have a2 := k0.cell 2; have a3 := k0.cell 3; have a4 := k0.cell 4; have a5 := k0.cell 5; have a6 := k0.cell 6; have a7 := k0.cell 7; have a8 := k0.cell 8; have a9 := k0.cell 9; have a10 := k0.cell 10; have a11 := k0.cell 11; have a12 := k0.cell 12; simp only [List.getElem?_toArray, List.getElem?_cons_succ, List.getElem?_cons_zero] at a0 a1 a2 a3 a4 a5 a6 a7 a8 a9 a10 a11 a12)
    | (go_at_call 49; (with_reducible refine (CB.out _).mono ?_); rintro e v5 ⟨rfl, c5⟩; clear CB; clear a0 a1 a2 a3 a4 a5 a6 a7 a8 a9 a10 a11 a12; replace k0 := (k0.call c5).alloc (.cells (rowV ⟨dop, dform, dfrm, dkind, dmask, dmtch, dlay⟩) 40); replace k1 := (k1.call c5).alloc (.cells (rowV ⟨dop, dform, dfrm, dkind, dmask, dmtch, dlay⟩) 40); replace qO1 := (qO1.call c5).alloc (.cells (rowV ⟨dop, dform, dfrm, dkind, dmask, dmtch, dlay⟩) 40); replace qR1 := (qR1.call c5).alloc (.cells (rowV ⟨dop, dform, dfrm, dkind, dmask, dmtch, dlay⟩) 40); replace qD1 := (qD1.call c5).alloc (.cells (rowV ⟨dop, dform, dfrm, dkind, dmask, dmtch, dlay⟩) 40); replace kB := kB.trans (c5.mono kB.size); replace kB := kB.alloc kB.size (.cells (rowV ⟨dop, dform, dfrm, dkind, dmask, dmtch, dlay⟩) 40); have qE1 := Blk.new v5 (rowV ⟨dop, dform, dfrm, dkind, dmask, dmtch, dlay⟩) 40; have a0 := k0.cell 0; have a1 := k0.cell 1; have a2 := k0.cell 2; have a3 := k0.cell 3; have a4 := k0.cell 4; have a5 := k0.cell 5; have a6 := k0.cell 6; have a7 := k0.cell 7; have a8 := k0.cell 8; have a9 := k0.cell 9; have a10 := k0.cell 10; have a11 := k0.cell 11; have a12 := k0.cell 12; simp only [List.getElem?_toArray, List.getElem?_cons_succ, List.getElem?_cons_zero] at a0 a1 a2 a3 a4 a5 a6 a7 a8 a9 a10 a11 a12))
  show Code.wp _ _ _ _ (v5.alloc (.cells (rowV ⟨dop, dform, dfrm, dkind, dmask, dmtch, dlay⟩) 40))
  obtain ⟨V, hV⟩ : ∃ V, v5.alloc (.cells (rowV ⟨dop, dform, dfrm, dkind, dmask, dmtch, dlay⟩) 40) = V := ⟨_, rfl⟩
  obtain ⟨ge, hge⟩ : ∃ ge, v5.heap.size = ge := ⟨_, rfl⟩
  rw [hV] at k0 k1 kB qO1 qR1 qD1 qE1 ⊢
  rw [hge] at qE1 ⊢
  clear hV hge c0 c1 c2 c3 c4 c5 b1 K0 K1 KB a0 a1 a2 a3 a4 a5 a6 a7 a8 a9 a10 a11 a12
  have y0 := qR1.cell 0
  have y1 := qR1.cell 1
  have y2 := qR1.cell 2
  have y3 := qR1.cell 3
  have y4 := qR1.cell 4
  have y5 := qR1.cell 5
  have y6 := qR1.cell 6
  simp only [List.getElem?_toArray, List.getElem?_cons_succ, List.getElem?_cons_zero] at y0 y1 y2 y3 y4 y5 y6
  go_upto_region 12 with (first
    | (refine wpList_load_blk_on rfl _ _ rfl _ rfl _ _ _ qO1 Try.underlying40 rfl (by kernel_rfl) ?_)
    | (refine wpList_load_blk_on rfl _ _ rfl _ rfl _ _ _ qD1 Try.underlying40 rfl (by kernel_rfl) ?_)
    | (refine wpList_load_blk_on rfl _ _ rfl _ rfl _ _ _ qE1 Try.underlying40 rfl (by kernel_rfl) ?_))
  have kw := Blk.new V #[.slice none 0 0] 48
  have hw : W.heap.size + 2 ≤ V.heap.size := k1.lt
  replace k0 := k0.alloc (.cells #[.slice none 0 0] 48)
  replace k1 := k1.alloc (.cells #[.slice none 0 0] 48)
  replace kB := kB.alloc kB.size (.cells #[.slice none 0 0] 48)
  clear qO1 qR1 qD1 qE1 y0 y1 y2 y3 y4 y5 y6 hne1 hne2
  show Code.wp _ _ _ _ (V.alloc (.cells #[.slice none 0 0] 48))
  obtain ⟨V2, hV2⟩ : ∃ V2, V.alloc (.cells #[.slice none 0 0] 48) = V2 := ⟨_, rfl⟩
  obtain ⟨bw, hbw⟩ : ∃ bw, V.heap.size = bw := ⟨_, rfl⟩
  rw [hV2] at k0 k1 kB kw ⊢
  rw [hbw] at kw hw ⊢
  clear hV2 hbw
  go_wp2_with (first
    | (go_at_call 28; (with_reducible refine (all_c _).mono ?_); rintro e w2 ⟨g, cap, rfl, hO, hB⟩))
  have hT : TA W w2 ⟨op, form, frm, kind, ⟨rop, rform, rfrm, rkind, rmask, rmtch, rlay⟩, name, leave⟩ bw (W.heap.size + 2) g cap ((ROWS.take 0).filter fun q => q.op == op) (.slice none 0 0) :=
    ⟨k0.call hB, k1.call hB, kw.call hB, World.ownsRow_nil _ _ _ _, own_mono hO (by have := k1.lt; omega), kB.trans (hB.mono kB.size), Nat.le_refl _, hw⟩
  have HT := Lib.hid hT
  clear k0 k1 kB kw hO hB hT
  go_loopw [17] (fun i wr => ∃ (k : Nat) (v : Value), k ≤ 136 ∧ i = .int .i64 k ∧ TA W wr ⟨op, form, frm, kind, ⟨rop, rform, rfrm, rkind, rmask, rmtch, rlay⟩, name, leave⟩ bw (W.heap.size + 2) g cap ((ROWS.take k).filter fun q => q.op == op) v) (fun i _ => 136 - (intOf i).toNat)
  case atStart => exact ⟨0, _, by omega, rfl, HT.out⟩
  case round =>
    obtain ⟨k, v, hk, rfl, hT⟩ := hrel
    clear HT
    by_cases hlt : k < 136
    · obtain ⟨p, hp⟩ : ∃ p, ALLN[k]? = some p := ⟨_, List.getElem?_eq_getElem (by rw [alln_136]; exact hlt)⟩
      have hr : ROWS[k]? = some p.1 := by rw [← alln_rows, List.getElem?_map, hp]; rfl
      have hst := filt_step (o := op) hr
      have hln : ((ROWS.take k).filter fun q => q.op == op).length ≤ 1000000 := Nat.le_trans (List.length_filter_le _ _) (by rw [List.length_take]; omega)
      obtain ⟨xs, hxs⟩ : ∃ xs, (ROWS.take k).filter (fun q => q.op == op) = xs := ⟨_, rfl⟩
      rw [hxs] at hT hst hln
      obtain ⟨r, nm⟩ := p
      simp only [] at hst
      have d0 : wr.cell? ⟨g, k * 8, none⟩ = some (.int .u8 (r.op : Nat)) := alln_cell (j := 0) hT.all hp (by decide) rfl
      have d1 : wr.cell? ⟨g, k * 8 + 1, none⟩ = some (.int .u8 (r.form : Nat)) := alln_cell (j := 1) hT.all hp (by decide) rfl
      have d2 : wr.cell? ⟨g, k * 8 + 2, none⟩ = some (.int .u8 (r.frm : Nat)) := alln_cell (j := 2) hT.all hp (by decide) rfl
      have d3 : wr.cell? ⟨g, k * 8 + 3, none⟩ = some (.int .u8 (r.kind : Nat)) := alln_cell (j := 3) hT.all hp (by decide) rfl
      have d4 : wr.cell? ⟨g, k * 8 + 4, none⟩ = some (.int .u32 (r.mask : Nat)) := alln_cell (j := 4) hT.all hp (by decide) rfl
      have d5 : wr.cell? ⟨g, k * 8 + 5, none⟩ = some (.int .u32 (r.mtch : Nat)) := alln_cell (j := 5) hT.all hp (by decide) rfl
      have d6 : wr.cell? ⟨g, k * 8 + 6, none⟩ = some (.int .u8 (r.lay : Nat)) := alln_cell (j := 6) hT.all hp (by decide) rfl
      have a0 := hT.ask.cell 0
      simp only [List.getElem?_toArray, List.getElem?_cons_succ, List.getElem?_cons_zero] at a0
      have yb := beq_cast r.op op
      obtain ⟨b, hb⟩ : ∃ b, (r.op == op) = b := ⟨_, rfl⟩
      rw [hb] at yb hst
      have HTT := Lib.hid hT
      have HLN := Lib.hid hln
      have HP := Lib.hid hp
      clear hp hr hxs hT hln hb
      cases b
      · simp only [Bool.false_eq_true, if_false, List.append_nil] at hst
        have HST := Lib.hid hst
        clear hst
        go_wp2
        go_quiet (fail)
        go_wp2
        go_roundw
        case rel => exact ⟨k + 1, v, by omega, by go_num, by rw [HST.out]; exact HTT.out.later (below_drewN (Below.refl _ _))⟩
        case measure => simp [intOf]; omega
      · simp only [if_true] at hst
        have HST := Lib.hid hst
        clear hst
        go_wp2
        go_quiet (fail)
        go_upto_region 17 with fail
        have hA : TA W (wr.drewN nq) ⟨op, form, frm, kind, ⟨rop, rform, rfrm, rkind, rmask, rmtch, rlay⟩, name, leave⟩ bw (W.heap.size + 2) g cap xs v := HTT.out.later (below_drewN (Below.refl wr.heap.size wr))
        obtain ⟨A, hAA⟩ : ∃ A, wr.drewN nq = A := ⟨_, rfl⟩
        rw [hAA] at hA ⊢
        have HA := Lib.hid hA
        clear hAA hA d0 d1 d2 d3 d4 d5 d6 a0
        obtain ⟨U, Wd, hW, hU⟩ : ∃ (U : Type) (Wd : U → World), (∀ u, Below A.heap.size A (Wd u)) ∧ (∀ w', Below A.heap.size A w' → ∃ u, w' = Wd u) := ⟨{ w // Below A.heap.size A w }, Subtype.val, fun u => u.2, fun w h => ⟨⟨w, h⟩, rfl⟩⟩
        have t0 : ∀ u, (Wd u).cell? ⟨g, k * 8, none⟩ = some (.int .u8 (r.op : Nat)) := fun u => by have h := alln_cell (j := 0) HA.out.all HP.out (by decide) rfl; exact ((hW u).cell (World.block_lt_of_cell? A _ h)).trans h
        have t1 : ∀ u, (Wd u).cell? ⟨g, k * 8 + 1, none⟩ = some (.int .u8 (r.form : Nat)) := fun u => by have h := alln_cell (j := 1) HA.out.all HP.out (by decide) rfl; exact ((hW u).cell (World.block_lt_of_cell? A _ h)).trans h
        have t2 : ∀ u, (Wd u).cell? ⟨g, k * 8 + 2, none⟩ = some (.int .u8 (r.frm : Nat)) := fun u => by have h := alln_cell (j := 2) HA.out.all HP.out (by decide) rfl; exact ((hW u).cell (World.block_lt_of_cell? A _ h)).trans h
        have t3 : ∀ u, (Wd u).cell? ⟨g, k * 8 + 3, none⟩ = some (.int .u8 (r.kind : Nat)) := fun u => by have h := alln_cell (j := 3) HA.out.all HP.out (by decide) rfl; exact ((hW u).cell (World.block_lt_of_cell? A _ h)).trans h
        have t4 : ∀ u, (Wd u).cell? ⟨g, k * 8 + 4, none⟩ = some (.int .u32 (r.mask : Nat)) := fun u => by have h := alln_cell (j := 4) HA.out.all HP.out (by decide) rfl; exact ((hW u).cell (World.block_lt_of_cell? A _ h)).trans h
        have t5 : ∀ u, (Wd u).cell? ⟨g, k * 8 + 5, none⟩ = some (.int .u32 (r.mtch : Nat)) := fun u => by have h := alln_cell (j := 5) HA.out.all HP.out (by decide) rfl; exact ((hW u).cell (World.block_lt_of_cell? A _ h)).trans h
        have t6 : ∀ u, (Wd u).cell? ⟨g, k * 8 + 6, none⟩ = some (.int .u8 (r.lay : Nat)) := fun u => by have h := alln_cell (j := 6) HA.out.all HP.out (by decide) rfl; exact ((hW u).cell (World.block_lt_of_cell? A _ h)).trans h
        replace hW := Lib.hid hW
        refine wp_region_ghosts [_, _, _, _, _, _, _] [_, _] (fun k => k == 6) (fun x S Y => Below A.heap.size A Y ∧ (S 6 = true → ∃ b, x 6 = .slice (some ⟨b, 0, none⟩) 1 1 ∧ Blk Y b (rowV r) 40)) (by kernel_rfl) (by kernel_rfl) (by kernel_rfl) (by kernel_rfl) (fun x => ⟨(Below.refl _ A).drew, fun h => by cases h⟩) ?_
        refine gs_load1 rfl rfl (fun _ _ _ h ⟨h1, h2⟩ => ⟨h1, fun h => h2 h⟩) _ _ rfl ⟨bw, 0, none⟩ rfl v (fun x S Y hS _ h => (h.1.cell HA.out.lc.lt).trans (HA.out.lc.cell 0)) _ Try.underlying48 rfl ?_
        simp only [Act.put, List.setIfInBounds_toArray, List.set_cons_succ, List.set_cons_zero]
        iterate 5
          refine gs_quiet (fun w' => ∃ u, w' = Wd u) (fun x S w' h => hU w' h.1) rfl rfl (fun _ _ _ _ h => h) rfl ?_
          intro K hK
          go_big_quiet_op
          first | go_big_quiet_on | (refine ⟨_, fun _ => rfl, ?_⟩; go_big_quiet_on)
        refine gs_val rfl rfl ?_ ?_
        · rintro x S Y h1 hcl ha ⟨h3, h4⟩
          refine ⟨.slice (some ⟨Y.heap.size, 0, none⟩) 1 1, Y.alloc (.cells (rowV r) 40), ?_, ?_⟩
          · first
            | (simp [go_sem, execOp, Act.eval]; done)
            | kernel_rfl
          · exact ⟨h3.alloc h3.size _, fun _ => ⟨_, rfl, Blk.new _ _ _⟩⟩
        rintro x S Y hS ⟨h3, h4⟩
        obtain ⟨bb, e6, hbk⟩ := h4 (hS 6 (by decide))
        change wpList _ _ _ _ (Act.put _ (some 123) (x 6)) _
        rw [e6]
        clear h4 hS e6
        simp only [Act.put, List.setIfInBounds_toArray, List.set_cons_succ, List.set_cons_zero]
        have h5 := HA.out.later h3
        refine wpList_append1 rfl _ _ 48 rfl (W.heap.size + 2) 40 7 16 _ Try.underlying48 infoR rfl (by decide) (by decide) v _ _ rfl h5.own bb 1 (rowV r) _ hbk rfl rfl (by simp [Value.oneCell']) HLN.out (by have := h5.res.lt; omega) ?_
        intro v2 Y2 hO hG
        obtain ⟨g2, cap2, hv2⟩ := own_slice hO
        obtain ⟨len, hlen⟩ : ∃ len, xs.length + 1 = len := ⟨_, rfl⟩
        rw [hlen] at hv2
        have HL2 := Lib.hid hlen
        subst hv2
        clear hlen
        have c1 := own_blk h5.own hG h5.lc (by decide)
        have c2 := c1.cell 0
        have c3 := c1.frozen
        simp only [List.getElem?_toArray, List.getElem?_cons_zero] at c2
        have HO := Lib.hid hO
        have HG := Lib.hid hG
        have H5 := Lib.hid h5
        clear hO hG h5 h3 hbk c1
        go_wp2
        have hO2 := HO.out
        rw [← HL2.out] at hO2
        have hm := H5.out.more (r := r) hO2 HG.out
        rw [HL2.out] at hm
        go_roundw
        case rel => exact ⟨k + 1, _, by omega, by go_num, by rw [HST.out]; exact hm⟩
        case measure => simp [intOf]; omega
    · obtain rfl : k = 136 := by omega
      rw [List.take_of_length_le (by rw [rows_136]; exact Nat.le_refl _), rlo_all] at hT
      have a0 := hT.ask.cell 0
      simp only [List.getElem?_toArray, List.getElem?_cons_succ, List.getElem?_cons_zero] at a0
      obtain ⟨ao, cap3, hv, hao⟩ := own_len hT.own
      obtain ⟨L, hL⟩ : ∃ L, (RLO op).length = L := ⟨_, rfl⟩
      rw [hL] at hv hao
      subst hv
      have HAO := Lib.hid hao
      have HL := Lib.hid hL
      have HLN : Hid (L ≤ 1000000) := Lib.hid (by rw [← hL, ← rlo_all]; exact Nat.le_trans (List.length_filter_le _ _) (by rw [rows_136]; decide))
      have HTT := Lib.hid hT
      clear hT hao hL
      have hnf : ∀ X p, (binOp .eql 79 (.func (.func 71) #[] #[p]) .nilFunc).run Try.prog X = .ok (.bool false) X := fun X p => by kernel_rfl
      go_wp2_with (first
        | (go_at_call 50; (with_reducible refine (each_c _ op).mono ?_); rintro e w3 ⟨rfl, rfl⟩))
      have kop := (Blk.new wr #[.int .u8 (op : Nat)] 22).alloc (.cells #[.int .i64 0] 3)
      have ktn := Blk.new (wr.alloc (.cells #[.int .u8 (op : Nat)] 22)) #[.int .i64 0] 3
      rw [World.size_alloc] at ktn
      have hl2 := HTT.out.later (((Below.refl wr.heap.size wr).alloc (Nat.le_refl _) (.cells #[.int .u8 (op : Nat)] 22)).alloc (by simp) (.cells #[.int .i64 0] 3))
      have hres := HTT.out.res.lt
      show Code.wp _ _ _ _ ((wr.alloc (.cells #[.int .u8 (op : Nat)] 22)).alloc (.cells #[.int .i64 0] 3))
      obtain ⟨w4, hw4⟩ : ∃ w4, (wr.alloc (.cells #[.int .u8 (op : Nat)] 22)).alloc (.cells #[.int .i64 0] 3) = w4 := ⟨_, rfl⟩
      obtain ⟨bo, hbo⟩ : ∃ bo, wr.heap.size = bo := ⟨_, rfl⟩
      rw [hw4] at kop ktn hl2 ⊢
      rw [hbo] at kop ktn hres ⊢
      have hTS : TS W w4 ⟨op, form, frm, kind, ⟨rop, rform, rfrm, rkind, rmask, rmtch, rlay⟩, name, leave⟩ bw bo (bo + 1) (RLO op) (.slice ao L cap3) 0 := ⟨hl2.ask, hl2.res, hl2.lc, hl2.own, kop, ktn, hl2.bel, by omega⟩
      have HTS := Lib.hid hTS
      clear hw4 hbo kop ktn hl2 hres hTS HTT a0 hnf
      refine (wpIn_wide (n := 9)).1 ?_
      refine wpIn_loop (fun a wx => ∃ f, TI W ⟨op, form, frm, kind, ⟨rop, rform, rfrm, rkind, rmask, rmtch, rlay⟩, name, leave⟩ bw bo L cap3 ao f a wx) (fun a wx => 2 - (intOf ((wx.cell? (ptrOf (a.tmps.getD 19 undef))).getD undef)).toNat) ?_ ?_
      · exact TI.in ⟨0, bo + 1, [], by kernel_rfl, by omega, HTS.out, Marks.nil _ _⟩
      · rintro a wx ⟨f, n, pt, Ds, rfl, hn2, hTS, hM⟩
        dsimp only at hTS
        have tc := hTS.tc.cell 0
        simp only [List.getElem?_toArray, List.getElem?_cons_zero] at tc
        have HNC := Lib.hid tc
        have HN2 := Lib.hid hn2
        rcases Nat.lt_or_ge n 2 with hlt | hge
        · have dn : decide ((n : Int) < 2) = true := decide_eq_true (by omega)
          have HS := Lib.hid hTS
          have HM := Lib.hid hM
          clear hTS hM
          gi_wp2
          have hlow := (Below.refl wx.heap.size wx).alloc (Nat.le_refl _) (.cells #[.int .i64 0] 3)
          have hl2 := HS.out.later hlow
          have hm2 := HM.out.later hlow
          have kn := Blk.new wx #[.int .i64 0] 3
          have hnp : wx.heap.size ≠ pt := fun e => by have := HS.out.tc.lt; omega
          have hpn1 : W.heap.size + 2 ≤ wx.heap.size := by have := HS.out.tc.lt; have := HS.out.hpt; omega
          show Code.wpIn _ _ _ _ _ _ (wx.alloc (.cells #[.int .i64 0] 3))
          obtain ⟨w0, hw0⟩ : ∃ w0, wx.alloc (.cells #[.int .i64 0] 3) = w0 := ⟨_, rfl⟩
          obtain ⟨pn, hpn⟩ : ∃ pn, wx.heap.size = pn := ⟨_, rfl⟩
          have hps : w0.heap.size = pn + 1 := by rw [← hw0, World.size_alloc, hpn]
          rw [hw0] at hl2 hm2 kn ⊢
          rw [hpn] at kn hnp hpn1 ⊢
          clear hw0 hlow tc
          have hn0 : W.heap.size ≤ w0.heap.size := hl2.bel.size
          have hDs : ∀ D ∈ Ds, D < w0.heap.size := fun D hD => (Array.getElem?_eq_some_iff.1 (hm2.2 D hD).2).1
          have hit := each_iter op bo (9 - 1) (by decide) W.heap.size w0 hn0
          rw [HL.out] at hit
          have HDS := Lib.hid hDs
          have HPS := Lib.hid hps
          have HNP := Lib.hid hnp
          have HPN := Lib.hid hpn1
          have HPW := Lib.hid hpn
          have HLT : Hid (n < 2) := Lib.hid hlt
          refine wpIn_rangeC rfl (by decide) (gf := 71) (ba := #[]) (lb := #[.pointer (some ⟨bo, 0, none⟩)]) rfl trivial (enters_of Try.func71 (by kernel_rfl) rfl) hit (Below.refl _ _) hn0 (fun _ => rfl)
            (fun j X W' => TS W W' ⟨op, form, frm, kind, ⟨rop, rform, rfrm, rkind, rmask, rmtch, rlay⟩, name, leave⟩ bw bo pt (RLO op) (.slice ao L cap3) n ∧ Blk W' pn #[.int .i64 (j : Nat)] 3 ∧ Marks W.heap.size Ds W')
            (fun c j X W' => (TS W W' ⟨op, form, frm, kind, ⟨rop, rform, rfrm, rkind, rmask, rmtch, rlay⟩, name, leave⟩ bw bo pt (RLO op) (.slice ao L cap3) n ∧ Blk W' pn #[.int .i64 (j : Nat)] 3 ∧ Marks W.heap.size Ds W') ∧ c = .exit 4 ∧ n = 0 ∧ (j : Int) = leave)
            (fun j X => (Abide.TS hn0).and (Abide.blk.and (Abide.marks hDs))) (fun c j X => ((Abide.TS hn0).and (Abide.blk.and (Abide.marks hDs))).and Abide.pure)
            (fun j X A B ⟨h1, h2, h3⟩ hb _ => ⟨h1.later hb, h2.below hb h2.lt, h3.later hb⟩) (fun c j X A B ⟨⟨h1, h2, h3⟩, h4⟩ hb _ => ⟨⟨h1.later hb, h2.below hb h2.lt, h3.later hb⟩, h4⟩)
            (fun j X W' h => h.1.opc.cell 0) (fun c j X W' h => h.1.1.opc.cell 0)
            ⟨hl2, kn, hm2⟩
            (fun j a' W' => ∃ B6 : Nat, Blk W' B6 (rowV (rk op j)) 40 ∧ a' = { tmps := #[f 0, .pointer (some ⟨W.heap.size, 0, none⟩), .pointer (some ⟨W.heap.size + 1, 0, none⟩), f 3, f 4, f 5, f 6, f 7, f 8, f 9, f 10, f 11, f 12, f 13, f 14, .pointer (some ⟨bw, 0, none⟩), f 16, f 17, .func (.func 71) #[] #[.pointer (some ⟨bo, 0, none⟩)], .pointer (some ⟨pt, 0, none⟩), .pointer (some ⟨pn, 0, none⟩), .pointer (some ⟨B6, 0, none⟩), f 22, f 23, f 24, f 25, f 26, f 27, f 28, f 29, f 30, f 31, f 32, f 33, f 34, f 35, f 36, f 37, f 38, f 39, f 40, f 41, f 42, f 43, f 44, f 45, f 46, f 47, f 48, f 49, f 50, f 51, f 52, f 53, f 54, f 55, f 56, f 57, f 58, f 59, f 60, f 61, f 62, f 63, f 64, f 65, f 66, f 67, f 68, f 69, f 70, f 71, f 72, f 73, f 74, f 75, f 76, f 77, f 78, f 79, f 80, f 81, f 82, f 83, f 84, f 85, f 86, f 87, f 88, f 89, f 90, f 91, f 92, f 93, f 94, f 95, f 96, f 97, f 98, f 99, f 100, f 101, f 102, f 103, f 104, f 105, f 106, f 107, f 108, f 109, f 110, f 111, f 112, f 113, f 114, f 115, f 116, f 117, f 118, f 119, f 120, f 121, f 122, f 123, f 124, f 125, f 126, f 127, f 128, f 129, .int .i64 (n : Nat), .bool true, f 132, f 133, .func (.func 71) #[] #[.pointer (some ⟨bo, 0, none⟩)], .agg (rowV (rk op j)), f 136, f 137, f 138, f 139, f 140, f 141, f 142, f 143, f 144, f 145, f 146, f 147, f 148, f 149, f 150, f 151, f 152, f 153, f 154, f 155, f 156, f 157, f 158, f 159, f 160, f 161, f 162, f 163, f 164, f 165, f 166, f 167, f 168, f 169, f 170, f 171, f 172, f 173], defers := [] })
            (fun j a' A B row ⟨B6, h2, h3⟩ hg hr => ⟨B6, Abide.blk A B row h2 hg hr, h3⟩) ?assign ?body ?done ?stop
          case assign =>
            rintro l j X A K hX ⟨h1, h2, h3⟩ hj hK
            gi_wp2
            have hnew := (Below.refl A.heap.size A).alloc (Nat.le_refl _) (.cells (rowV (rk op j)) 40)
            exact hK _ _ ((KeepsOthers.alloc _ _).from _) (KX.below (fun b h => (hX b h).2) hnew) (hnew.mono h1.bel.size) ⟨h1.later hnew, h2.below hnew h2.lt, h3.later hnew⟩ ⟨A.heap.size, Blk.new _ _ _, rfl⟩
          case body =>
            rintro l j X a' A hl hX ⟨h1, h2, h3⟩ ⟨B6, hb6, rfl⟩ hj
            obtain ⟨g3, rfl⟩ := HAO.out (by omega)
            obtain ⟨r, hr⟩ : ∃ r, rk op j = r := ⟨_, rfl⟩
            rw [hr] at hb6 ⊢
            have HRG : Hid ((RLO op)[j]? = some r) := Lib.hid (by rw [← hr]; unfold rk; rw [List.getElem?_eq_getElem (by have := HL.out; omega)]; rfl)
            have t0 : A.cell? ⟨B6, 0, none⟩ = some (.int .u8 (r.op : Nat)) := hb6.cell 0
            have t1 : A.cell? ⟨B6, 1, none⟩ = some (.int .u8 (r.form : Nat)) := hb6.cell 1
            have t2 : A.cell? ⟨B6, 2, none⟩ = some (.int .u8 (r.frm : Nat)) := hb6.cell 2
            have t3 : A.cell? ⟨B6, 3, none⟩ = some (.int .u8 (r.kind : Nat)) := hb6.cell 3
            have t4 : A.cell? ⟨B6, 4, none⟩ = some (.int .u32 (r.mask : Nat)) := hb6.cell 4
            have t5 : A.cell? ⟨B6, 5, none⟩ = some (.int .u32 (r.mtch : Nat)) := hb6.cell 5
            have t6 : A.cell? ⟨B6, 6, none⟩ = some (.int .u8 (r.lay : Nat)) := hb6.cell 6
            have e0 : A.cell? ⟨g3, j * 7, none⟩ = some (.int .u8 (r.op : Nat)) := (own_cell h1.own).2.2 (j * 7 + 0) _ (by rw [rws_get (RLO op) j 0 r HRG.out (by decide)]; rfl)
            have e1 : A.cell? ⟨g3, j * 7 + 1, none⟩ = some (.int .u8 (r.form : Nat)) := (own_cell h1.own).2.2 (j * 7 + 1) _ (by rw [rws_get (RLO op) j 1 r HRG.out (by decide)]; rfl)
            have e2 : A.cell? ⟨g3, j * 7 + 2, none⟩ = some (.int .u8 (r.frm : Nat)) := (own_cell h1.own).2.2 (j * 7 + 2) _ (by rw [rws_get (RLO op) j 2 r HRG.out (by decide)]; rfl)
            have e3 : A.cell? ⟨g3, j * 7 + 3, none⟩ = some (.int .u8 (r.kind : Nat)) := (own_cell h1.own).2.2 (j * 7 + 3) _ (by rw [rws_get (RLO op) j 3 r HRG.out (by decide)]; rfl)
            have e4 : A.cell? ⟨g3, j * 7 + 4, none⟩ = some (.int .u32 (r.mask : Nat)) := (own_cell h1.own).2.2 (j * 7 + 4) _ (by rw [rws_get (RLO op) j 4 r HRG.out (by decide)]; rfl)
            have e5 : A.cell? ⟨g3, j * 7 + 5, none⟩ = some (.int .u32 (r.mtch : Nat)) := (own_cell h1.own).2.2 (j * 7 + 5) _ (by rw [rws_get (RLO op) j 5 r HRG.out (by decide)]; rfl)
            have e6 : A.cell? ⟨g3, j * 7 + 6, none⟩ = some (.int .u8 (r.lay : Nat)) := (own_cell h1.own).2.2 (j * 7 + 6) _ (by rw [rws_get (RLO op) j 6 r HRG.out (by decide)]; rfl)
            have lc0 := h1.lc.cell 0
            have n0 := h2.cell 0
            have nf := h2.frozen
            simp only [List.getElem?_toArray, List.getElem?_cons_succ, List.getElem?_cons_zero] at lc0 n0
            have hpl : ∀ q v, ((A.drewN q).setCell ⟨pn, 0, none⟩ v).cell? ⟨pn, 0, none⟩ = some v := fun q v => by
              have hb : Blk (A.drewN q) pn _ _ := h2.below (below_drewN (Below.refl _ _)) h2.lt
              have := (hb.set 0 v).cell 0
              simpa using this
            have hpo : ∀ q v, ((A.drewN q).setCell ⟨pn, 0, none⟩ v).cell? ⟨pt, 0, none⟩ = some (.int .i64 (n : Nat)) := fun q v => by
              have hb : Blk (A.drewN q) pt _ _ := h1.tc.below (below_drewN (Below.refl _ _)) h1.tc.lt
              exact (hb.other 0 v (fun e => HNP.out e.symm)).cell 0
            have hpa : ∀ q v, ((A.drewN q).setCell ⟨pn, 0, none⟩ v).cell? ⟨W.heap.size, 12, none⟩ = some (.int .i64 leave) := fun q v => by
              have hb : Blk (A.drewN q) W.heap.size _ _ := h1.ask.below (below_drewN (Below.refl _ _)) h1.ask.lt
              exact (hb.other 0 v (fun e => by have := HPN.out; omega)).cell 12
            have hgo : ∀ q v, v = .int .i64 ((j + 1 : Nat) : Int) → KeepsFrom w0.heap.size A ((A.drewN q).setCell ⟨pn, 0, none⟩ v) ∧ KX X A ((A.drewN q).setCell ⟨pn, 0, none⟩ v) ∧ Below W.heap.size A ((A.drewN q).setCell ⟨pn, 0, none⟩ v) ∧ TS W ((A.drewN q).setCell ⟨pn, 0, none⟩ v) ⟨op, form, frm, kind, ⟨rop, rform, rfrm, rkind, rmask, rmtch, rlay⟩, name, leave⟩ bw bo pt (RLO op) (.slice (some ⟨g3, 0, none⟩) L cap3) n ∧ Blk ((A.drewN q).setCell ⟨pn, 0, none⟩ v) pn #[.int .i64 ((j + 1 : Nat) : Int)] 3 ∧ Marks W.heap.size Ds ((A.drewN q).setCell ⟨pn, 0, none⟩ v) := fun q v hv => by
              subst hv
              have hd : Below A.heap.size A (A.drewN q) := below_drewN (Below.refl _ _)
              have hb : Blk (A.drewN q) pn _ _ := h2.below hd h2.lt
              exact ⟨(keeps_below hd).trans ((KeepsOthers.setCell _ _ _).from _), (KX.below (fun b h => (hX b h).2) hd).trans (fun b hb => heap_setCell_other _ ⟨pn, 0, none⟩ b _ (fun e => by have := (hX b hb).1; have := HPS.out; have e' : b = pn := e; omega)), (hd.mono h1.bel.size).setCell (p := ⟨pn, 0, none⟩) (show W.heap.size ≤ pn by have := HPN.out; omega) _, (h1.later hd).set hb HNP.out (by have := HPN.out; omega) _, hb.set 0 _, (h3.later hd).set hb 0 _⟩
            have HGO := Lib.hid hgo
            have hne : ∀ X, (binOp .neq 40 (.agg (rowV r)) (.agg (rowV r))).run Try.prog X = .ok (.bool false) X := fun X => by rw [neq_row, decide_eq_true rfl]; rfl
            have hge2 : decide (L ≤ j) = false := decide_eq_false (by omega)
            have h1M := HLN.out
            clear h1 h2 h3 hb6 hr hgo
            gi_wp2
            refine wpIn_region_sets_lit (fun _ w' => ∃ q, w' = A.drewN q) (by kernel_rfl) (by kernel_rfl) (fun _ _ h => h) (by kernel_rfl) ⟨1, rfl⟩ ?_
            (repeat (first | (refine sets_quiet (fun w' => ∃ q, w' = A.drewN q) (fun _ _ h => h) rfl (fun _ _ _ h => h) rfl ?_; intro K hK; go_big_quiet_op; first | go_big_quiet_on | (refine ⟨_, fun _ => rfl, ?_⟩; go_big_quiet_on)) | (refine sets_nil rfl (fun _ _ _ h => h) _ rfl _ rfl ?_; simp only [Act.put, List.setIfInBounds_toArray, List.set_cons_succ, List.set_cons_zero]) | (refine sets_skip rfl (fun _ _ _ h => h) ?_; simp only [Act.put, List.setIfInBounds_toArray, List.set_cons_succ, List.set_cons_zero])))
            refine sets_run (.int .i64 (L : Nat)) rfl (fun _ _ _ h => h) (fun w => by simp [execOp, Act.eval, resolve, invoke, builtin, Result.andThen, run_len_slice (P := Try.prog) (t := 48) (h := Try.underlying48), goInt]) ?_
            simp only [Act.put, List.setIfInBounds_toArray, List.set_cons_succ, List.set_cons_zero]
            (repeat (first | (refine sets_quiet (fun w' => ∃ q, w' = A.drewN q) (fun _ _ h => h) rfl (fun _ _ _ h => h) rfl ?_; intro K hK; go_big_quiet_op; first | go_big_quiet_on | (refine ⟨_, fun _ => rfl, ?_⟩; go_big_quiet_on)) | (refine sets_nil rfl (fun _ _ _ h => h) _ rfl _ rfl ?_; simp only [Act.put, List.setIfInBounds_toArray, List.set_cons_succ, List.set_cons_zero]) | (refine sets_skip rfl (fun _ _ _ h => h) ?_; simp only [Act.put, List.setIfInBounds_toArray, List.set_cons_succ, List.set_cons_zero])))
            rintro S _ _ ⟨nq, rfl⟩
            clear t0 t1 t2 t3 t4 t5 t6 e0 e1 e2 e3 e4 e5 e6 lc0 hne hge2
            rcases Nat.eq_zero_or_pos n with hz | hz
            · have z1 : ((n : Int) == 0) = true := by rw [beq_iff_eq]; omega
              by_cases hlv : ((j : Int) + 1 = leave)
              · have z2 : ((j : Int) + 1 == leave) = true := by rw [beq_iff_eq]; exact hlv
                gi_wp2
                obtain ⟨k1, k2, k3, k4⟩ := HGO.out nq (.int .i64 leave) (by rw [← hlv]; rfl)
                exact ⟨k1, k2, k3, k4, rfl, by omega, by omega⟩
              · have z2 : ((j : Int) + 1 == leave) = false := by rw [beq_eq_false_iff_ne]; exact hlv
                gi_wp2
                exact HGO.out _ _ rfl
            · have z1 : ((n : Int) == 0) = false := by rw [beq_eq_false_iff_ne]; omega
              gi_wp2
              exact HGO.out _ _ rfl
          case done =>
            rintro D A hDw ⟨X, h1, h2, h3⟩ hK
            have hmk := h3.cons (Nat.le_trans hn0 hDw) hK (fun h => by have := HDS.out D h; omega)
            have lc0 := h1.lc.cell 0
            have n0 := h2.cell 0
            have tc1 := h1.tc.cell 0
            simp only [List.getElem?_toArray, List.getElem?_cons_succ, List.getElem?_cons_zero] at lc0 n0 tc1
            have z3 : ((L : Int) != (L : Int)) = false := by simp
            have H1 := Lib.hid h1
            have HMK := Lib.hid hmk
            clear h1 h2 h3 hmk
            gi_wp2
            refine ⟨TI.in ⟨n + 1, A.heap.size, D :: Ds, by kernel_rfl, by omega, H1.out.next _ rfl, HMK.out.later ((Below.refl A.heap.size A).alloc (Nat.le_refl _) _)⟩, ?_⟩
            exact turn_lt HNC.out HLT.out rfl
          case stop =>
            rintro D c j A hDw hj1 hjl ⟨X, ⟨h1, h2, h3⟩, rfl, rfl, hlv⟩ hK
            have hmk := h3.cons (Nat.le_trans hn0 hDw) hK (fun h => by have := HDS.out D h; omega)
            have lc0 := h1.lc.cell 0
            have n0 := h2.cell 0
            have tc1 := h1.tc.cell 0
            have as0 := h1.ask.cell 12
            simp only [List.getElem?_toArray, List.getElem?_cons_succ, List.getElem?_cons_zero] at lc0 n0 tc1 as0
            have H1 := Lib.hid h1
            have HMK := Lib.hid hmk
            clear h1 h2 h3 hmk
            subst hlv
            by_cases hjL : j = L
            · subst hjL
              have z3 : ((j : Int) != (j : Int)) = false := by simp
              gi_wp2
              refine ⟨TI.in ⟨0 + 1, A.heap.size, D :: Ds, by kernel_rfl, by omega, H1.out.next _ rfl, HMK.out.later ((Below.refl A.heap.size A).alloc (Nat.le_refl _) _)⟩, ?_⟩
              exact turn_lt HNC.out HLT.out rfl
            · have z3 : ((j : Int) != (L : Int)) = true := by rw [bne_iff_ne]; omega
              have z4 : ((j : Int) != (j : Int)) = false := by simp
              gi_wp2
              refine ⟨TI.in ⟨0 + 1, A.heap.size, D :: Ds, by kernel_rfl, by omega, H1.out.next _ rfl, HMK.out.later ((Below.refl A.heap.size A).alloc (Nat.le_refl _) _)⟩, ?_⟩
              exact turn_lt HNC.out HLT.out rfl
        · obtain rfl : n = 2 := by omega
          have HS := Lib.hid hTS
          have HM := Lib.hid hM
          clear hTS hM
          have dn : decide (((2 : Nat) : Int) < 2) = false := rfl
          gi_wp2
          go_wp2_with (first
            | (go_at_call 33; (with_reducible refine (lives24 _).mono ?_); rintro e w5 ⟨rfl, b5⟩; have f0 := (HS.out.later b5).res.frozen; have e0 := (HS.out.later b5).res.cell 0; simp only [List.getElem?_toArray, List.getElem?_cons_zero] at e0))
          show LeavesInM _ _ _ _ _ _ (List.map mark Ds) _ _
          have k5 := HS.out.later b5
          refine leaves_marks (n₀ := W.heap.size) Ds _ ((HM.out.later b5).set k5.res 0 _) fun W' hT => ?_
          have q2 : Blk W' (W.heap.size + 1) #[.bool true] _ := hT.cells _ _ (k5.res.set 0 _) rfl
          exact ⟨_, results_bool rfl _ _ (W.heap.size + 1) true _ rfl q2, rfl, (k5.bel.setCell (p := ⟨W.heap.size + 1, 0, none⟩) (Nat.le_succ _) _).trans hT.bel⟩
end Go.Proofs.Yteelconabmfnkaa
