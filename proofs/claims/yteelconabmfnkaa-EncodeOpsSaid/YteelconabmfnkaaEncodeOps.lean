/- The law EncodeOps: its walk. -/
import Derived.Test.YteelconabmfnkaaWk
import Derived.Test.YteelconabmfnkaaWg
import Derived.Test.YteelconabmfnkaaVh
import Derived.Test.YteelconabmfnkaaLd
import Derived.Test.YteelconabmfnkaaLb
import Derived.Test.YteelconabmfnkaaEb
import Derived.Test.YteelconabmfnkaaRj
namespace Go.Proofs.Yteelconabmfnkaa
open Go Go.RowKit Go.Shelf
attribute [local go_sem] Oper.semAt_some
set_option maxHeartbeats 16000000
set_option maxRecDepth 100000
set_option linter.unusedVariables false
set_option linter.unusedSimpArgs false
theorem rlo_all (o : Nat) : ROWS.filter (fun q => q.op == o) = RLO o := by
  by_cases h : 1 ≤ o ∧ o ≤ 31
  · exact (rlo_eq o h.1 h.2).symm
  · rw [rlo_out o (by omega), List.filter_eq_nil_iff]
    intro r hr
    have := rlo_rows r hr
    simp only [beq_iff_eq]
    omega
abbrev OwnN (B : Nat) (w : World) (g cap : Nat) : Prop := Own B w (.slice (some ⟨g, 0, none⟩) 136 cap) ALLN
theorem alln_cell {w : World} {B g cap k j : Nat} {p : R7 × ByteArray} {v : Value} (h : OwnN B w g cap) (hp : ALLN[k]? = some p) (hj : j < 8) (hv : (entV p.1 p.2)[j]? = some v) : w.cell? ⟨g, k * 8 + j, none⟩ = some v :=
  (own_cell h).2.2 (k * 8 + j) v (by rw [ents_get ALLN k j p hp hj]; exact hv)
/-- what holds while the wanted instructions are gathered -/
structure EA (W wr : World) (leave : Int) (Bw B g cap : Nat) (xs : List I11) (v : Value) : Prop where
  lv : Blk wr W.heap.size #[.int .i64 leave] 3
  res : Blk wr (W.heap.size + 1) #[.bool false] 4
  lc : Blk wr Bw #[v] 61
  own : OwnI B wr v xs
  all : OwnN B wr g cap
  bel : Below W.heap.size W wr
  hB : W.heap.size + 2 ≤ B
  hw : W.heap.size + 2 ≤ Bw
theorem EA.later {W wr w1 : World} {leave : Int} {Bw B g cap : Nat} {xs : List I11} {v : Value} (h : EA W wr leave Bw B g cap xs v) (hb : Below wr.heap.size wr w1) : EA W w1 leave Bw B g cap xs v :=
  ⟨h.lv.below hb h.lv.lt, h.res.below hb h.res.lt, h.lc.below hb h.lc.lt, own_later h.own hb, own_later h.all hb, h.bel.trans (hb.mono h.bel.size), h.hB, h.hw⟩
theorem EA.more {W A A1 : World} {leave : Int} {Bw B g cap : Nat} {xs : List I11} {v v' : Value} {x : I11} (h : EA W A leave Bw B g cap xs v) (hO : A1.ownsRow B 27 11 v' (xs.length + 1) (isv xs ++ (instV x).toList)) (hg : A.grownBy A1 v.ownBlock) : EA W (A1.setCell ⟨Bw, 0, none⟩ v') leave Bw B g cap (xs ++ [x]) v' := by
  have h1 := own_blk h.own hg h.lc (by decide)
  have h2 := own_blk h.own hg h.lv (by decide)
  have h3 := own_blk h.own hg h.res (by decide)
  have hset : A1.grownBy (A1.setCell ⟨Bw, 0, none⟩ v') (some Bw) := ⟨rfl, rfl, rfl, by simp, fun k _ hk => heap_setCell_other A1 ⟨Bw, 0, none⟩ k v' (fun e => hk (by rw [e]))⟩
  have ha : OwnN B A1 g cap := own_kept h.all hg fun b hb hk => by
    obtain ⟨c1, e1⟩ := own_cells h.own hb
    obtain ⟨c2, e2⟩ := own_cells h.all hk.symm
    rw [e1] at e2
    have e3 := Obj.cells.inj (Option.some.inj e2)
    exact absurd e3.2.1 (by decide)
  have hw := h.hw
  have hbl := own_below h.own hg h.bel (by have := h.hB; omega) h.bel.size
  refine ⟨h2.other 0 v' (by omega), h3.other 0 v' (by omega), h1.set 0 v', ?_, own_kept ha hset fun b hb hk => ?_, hbl.setCell (p := ⟨Bw, 0, none⟩) (show W.heap.size ≤ Bw by omega) v', h.hB, hw⟩
  · show World.ownsRow _ _ _ _ _ _ _
    rw [isv_append, List.length_append, isv_one]
    refine own_kept hO hset fun b hb hk => ?_
    cases hb
    exact own_ne hO h1 (by decide) hk
  · cases hb
    exact own_ne ha h1 (by decide) hk
def WANT (o k : Nat) : List I11 := ((ROWS.take k).filter fun q => q.op == o).map leastI
theorem want_step {o k : Nat} {r : R7} (hr : ROWS[k]? = some r) : WANT o (k + 1) = WANT o k ++ (if r.op == o then [leastI r] else []) := by
  unfold WANT
  rw [List.take_add_one, hr, List.filter_append, List.map_append]
  congr 1
  show List.map leastI (List.filter _ [r]) = _
  cases h : r.op == o <;> simp [h]
theorem own_len3 {w : World} {base : Nat} {e : TypeId} {size : Nat} {v : Value} {n : Nat} {xs : List Value} (h : w.ownsRow base e size v n xs) : ∃ (ao : Option Addr) (c : Nat), v = .slice ao n c ∧ (0 < n → ∃ g, ao = some ⟨g, 0, none⟩) := by
  rcases h.2 with ⟨rfl, h0⟩ | ⟨g, cap, cur, rfl, _⟩
  · exact ⟨none, 0, by rw [h0], fun h => by omega⟩
  · exact ⟨_, _, rfl, fun _ => ⟨g, rfl⟩⟩
/-- what holds between two turns -/
structure EB (W wr : World) (op : Nat) (leave : Int) (bw bo pt : Nat) (xs : List I11) (v : Value) (n : Nat) : Prop where
  lv : Blk wr W.heap.size #[.int .i64 leave] 3
  res : Blk wr (W.heap.size + 1) #[.bool false] 4
  lc : Blk wr bw #[v] 61
  own : OwnI (W.heap.size + 2) wr v xs
  opc : Blk wr bo #[.int .u8 (op : Nat)] 22
  tc : Blk wr pt #[.int .i64 (n : Nat)] 3
  bel : Below W.heap.size W wr
  hpt : W.heap.size + 2 ≤ pt
theorem EB.later {W wr w1 : World} {op : Nat} {leave : Int} {bw bo pt : Nat} {xs : List I11} {v : Value} {n : Nat} (h : EB W wr op leave bw bo pt xs v n) (hb : Below wr.heap.size wr w1) : EB W w1 op leave bw bo pt xs v n :=
  ⟨h.lv.below hb h.lv.lt, h.res.below hb h.res.lt, h.lc.below hb h.lc.lt, own_later h.own hb, h.opc.below hb h.opc.lt, h.tc.below hb h.tc.lt, h.bel.trans (hb.mono h.bel.size), h.hpt⟩
theorem Abide.EB {W : World} {op : Nat} {leave : Int} {bw bo pt : Nat} {xs : List I11} {v : Value} {n B : Nat} (hB : W.heap.size ≤ B) : Abide B (fun W' => EB W W' op leave bw bo pt xs v n) := fun A A' row h hg hr =>
  ⟨Abide.blk A A' row h.lv hg hr, Abide.blk A A' row h.res hg hr, Abide.blk A A' row h.lc hg hr, Abide.own A A' row h.own hg hr, Abide.blk A A' row h.opc hg hr, Abide.blk A A' row h.tc hg hr, Abide.below (Nat.le_refl _) hB A A' row h.bel hg hr, h.hpt⟩
/-- a cell of whole numbers, not the turn's, is written -/
theorem EB.set {W wr : World} {op : Nat} {leave : Int} {bw bo pt p : Nat} {xs : List I11} {v : Value} {n : Nat} (h : EB W wr op leave bw bo pt xs v n) {cs : Array Value} (hp : Blk wr p cs 3) (hne : p ≠ pt) (hlt : W.heap.size + 2 ≤ p) (u : Value) : EB W (wr.setCell ⟨p, 0, none⟩ u) op leave bw bo pt xs v n := by
  have hset : wr.grownBy (wr.setCell ⟨p, 0, none⟩ u) (some p) := ⟨rfl, rfl, rfl, by simp, fun k _ hk => heap_setCell_other wr ⟨p, 0, none⟩ k u (fun e => hk (by rw [e]))⟩
  refine ⟨h.lv.other 0 u (by omega), h.res.other 0 u (by omega), h.lc.other 0 u (blk_ne h.lc hp (by decide)), own_kept h.own hset fun b hb hk => ?_, h.opc.other 0 u (blk_ne h.opc hp (by decide)), h.tc.other 0 u (fun e => hne e.symm), h.bel.setCell (p := ⟨p, 0, none⟩) (show W.heap.size ≤ p by omega) u, h.hpt⟩
  cases hb
  exact own_ne h.own hp (by decide) hk
/-- the next turn's cell -/
theorem EB.next {W A : World} {op : Nat} {leave : Int} {bw bo pt : Nat} {xs : List I11} {v : Value} {n : Nat} (h : EB W A op leave bw bo pt xs v n) (b : Value) (hb : b = .int .i64 ((n + 1 : Nat) : Int)) : EB W (A.alloc (.cells #[b] 3)) op leave bw bo A.heap.size xs v (n + 1) := by
  subst hb
  have h1 := h.later ((Below.refl A.heap.size A).alloc (Nat.le_refl _) (.cells #[.int .i64 ((n + 1 : Nat) : Int)] 3))
  have hlt := h.tc.lt
  have hp := h.hpt
  exact ⟨h1.lv, h1.res, h1.lc, h1.own, h1.opc, Blk.new _ _ _, h1.bel, by omega⟩
theorem turne_lt {wx A : World} {pt n : Nat} {b : Value} (h : wx.cell? ⟨pt, 0, none⟩ = some (.int .i64 (n : Nat))) (hn : n < 2) (hb : b = .int .i64 ((n + 1 : Nat) : Int)) : 2 - (intOf (((A.alloc (.cells #[b] 3)).cell? ⟨A.heap.size, 0, none⟩).getD undef)).toNat < 2 - (intOf ((wx.cell? ⟨pt, 0, none⟩).getD undef)).toNat := by
  subst hb
  have h2 : (A.alloc (.cells #[.int .i64 ((n + 1 : Nat) : Int)] 3)).cell? ⟨A.heap.size, 0, none⟩ = some (.int .i64 ((n + 1 : Nat) : Int)) := (Blk.new A #[.int .i64 ((n + 1 : Nat) : Int)] 3).cell 0
  rw [h, h2]
  simp only [Option.getD_some, intOf, Int.toNat_natCast]
  omega
def nthE : List Value → Nat → Value
  | [], _ => undef
  | v :: _, 0 => v
  | _ :: l, k + 1 => nthE l k
def EI (W : World) (op : Nat) (leave : Int) (bw bo L cap3 : Nat) (ao : Option Addr) (xs : List I11) (f : Nat → Value) (a : Act) (wx : World) : Prop := ∃ (n pt : Nat) (Ds : List Nat), a = { tmps := #[f 0, f 1, f 2, .pointer (some ⟨W.heap.size, 0, none⟩), .pointer (some ⟨W.heap.size + 1, 0, none⟩), .pointer (some ⟨bw, 0, none⟩), f 6, f 7, f 8, f 9, .func (.func 67) #[] #[.pointer (some ⟨bo, 0, none⟩)], .pointer (some ⟨pt, 0, none⟩), f 12, f 13, f 14, f 15, f 16, f 17, f 18, f 19, f 20, f 21, f 22, f 23, f 24, f 25, f 26, f 27, f 28, f 29, f 30, f 31, f 32, f 33, f 34, f 35, f 36, f 37, f 38, f 39, f 40, f 41, f 42, f 43, f 44, f 45, f 46, f 47, f 48, f 49, f 50, f 51, f 52, f 53, f 54, f 55, f 56, f 57, f 58, f 59, f 60, f 61, f 62, f 63, f 64, f 65, f 66, f 67, f 68, f 69, f 70, f 71, f 72, f 73, f 74, f 75, f 76, f 77, f 78, f 79, f 80, f 81, f 82, f 83, f 84, f 85, f 86, f 87, f 88, f 89, f 90, f 91, f 92, f 93, f 94, f 95, f 96, f 97, f 98, f 99], defers := Ds.map mark } ∧ n ≤ 2 ∧ EB W wx op leave bw bo pt xs (.slice ao L cap3) n ∧ Marks W.heap.size Ds wx
theorem EI.in {W : World} {op : Nat} {leave : Int} {bw bo L cap3 : Nat} {ao : Option Addr} {xs : List I11} {a : Act} {wx : World} (h : EI W op leave bw bo L cap3 ao xs (nthE a.tmps.toList) a wx) : ∃ f, EI W op leave bw bo L cap3 ao xs f a wx := ⟨_, h⟩
theorem setse_run {P : Program} {ops : Array Oper} {I : (Nat → Bool) → World → Prop} {Q : Act → Prop} {k : Nat} {o : Oper} {rest : List Oper} {a : Act} (v : Value) (hw : Region.wanted o (yielded ops a.tmps) = true) (hI : ∀ S w, S k = false → I S w → I (ins S k) w)
    (hr : ∀ w, (execOp a.eval o).run P w = .ok (.value v) w) (h : wpSets P ops I Q (k + 1) rest (a.put o.dst v)) : wpSets P ops I Q k (o :: rest) a := by
  refine ⟨v, .inl ⟨hw, fun S w hS _ _ hIw => ?_⟩, h⟩
  unfold opTo
  rw [hr w]
  exact ⟨rfl, hI S w hS hIw⟩
theorem walk_EncodeOps (op : Nat) (leave : Int) (W : World) (hop : op < 256) (hlv : -9223372036854775808 ≤ leave) (hlv2 : leave ≤ 9223372036854775807) :
    Calls Try.prog 11 #[.int .u8 op, .int .i64 leave] W fun e w' => e = .returned (.bool true) ∧ Below W.heap.size W w' := by
  refine (callsIn_wide (n := 12)).1 ?_
  refine callsIn_of_wp_marks Try.func11 rfl trivial ?_ rfl
  simp only [Try.ntmps11, List.size_toArray, List.length_cons, List.length_nil, Nat.reduceAdd, Nat.reduceSub, Array.replicate_succ, Array.replicate_zero, List.push_toArray, List.append_toArray, List.nil_append, List.cons_append]
  refine wpIn_wide.2 ?_
  have k0 := (Blk.new W #[.int .i64 leave] 3).alloc (.cells #[.bool false] 4)
  have k1 := Blk.new (W.alloc (.cells #[.int .i64 leave] 3)) #[.bool false] 4
  rw [World.size_alloc] at k1
  have kB := ((Below.refl W.heap.size W).alloc (Nat.le_refl _) (.cells #[.int .i64 leave] 3)).alloc (by simp) (.cells #[.bool false] 4)
  have K0 := Lib.hid k0
  have K1 := Lib.hid k1
  have KB := Lib.hid kB
  clear k0 k1 kB
  go_wp2_with (first
    | (go_at_call 23; (with_reducible refine (lives26 _).mono ?_); rintro e w1 ⟨rfl, b1⟩)
    | (go_at_call 28; (with_reducible refine (all_c _).mono ?_); rintro e w2 ⟨g, cap, rfl, hO, hB⟩))
  have b2 := b1.alloc b1.size (.cells #[.slice none 0 0] 61)
  have k0 := (K0.out.call b2).call hB
  have k1 := (K1.out.call b2).call hB
  have kB := KB.out.trans (b2.mono KB.out.size)
  have kw := (Blk.new w1 #[.slice none 0 0] 61).call hB
  have hw : W.heap.size + 2 ≤ w1.heap.size := by have := b1.size; simp only [World.size_alloc] at this; omega
  have hT : EA W w2 leave w1.heap.size (W.heap.size + 2) g cap (WANT op 0) (.slice none 0 0) :=
    ⟨k0, k1, kw, World.ownsRow_nil _ _ _ _, own_mono hO (by simp only [World.size_alloc]; omega), kB.trans (hB.mono kB.size), Nat.le_refl _, hw⟩
  obtain ⟨bw, hbw⟩ : ∃ bw, w1.heap.size = bw := ⟨_, rfl⟩
  rw [hbw] at hT ⊢
  have HT := Lib.hid hT
  clear k0 k1 kB kw hO hB hT b1 b2 hbw hw K0 K1 KB
  go_loopw [7] (fun i wr => ∃ (k : Nat) (v : Value), k ≤ 136 ∧ i = .int .i64 k ∧ EA W wr leave bw (W.heap.size + 2) g cap (WANT op k) v) (fun i _ => 136 - (intOf i).toNat)
  case atStart => exact ⟨0, _, by omega, rfl, HT.out⟩
  case round =>
    obtain ⟨k, v, hk, rfl, hT⟩ := hrel
    clear HT
    by_cases hlt : k < 136
    · obtain ⟨p, hp⟩ : ∃ p, ALLN[k]? = some p := ⟨_, List.getElem?_eq_getElem (by rw [alln_136]; exact hlt)⟩
      have hr : ROWS[k]? = some p.1 := by rw [← alln_rows, List.getElem?_map, hp]; rfl
      have hst := want_step (o := op) hr
      have hln : (WANT op k).length ≤ 1000000 := by unfold WANT; rw [List.length_map]; exact Nat.le_trans (List.length_filter_le _ _) (by rw [List.length_take]; omega)
      obtain ⟨xs, hxs⟩ : ∃ xs, WANT op k = xs := ⟨_, rfl⟩
      rw [hxs] at hT hst hln
      obtain ⟨r, nm⟩ := p
      simp only [] at hst
      have d0 : wr.cell? ⟨g, k * 8, none⟩ = some (.int .u8 (r.op : Nat)) := alln_cell (j := 0) hT.all hp (by decide) rfl
      have d1 : wr.cell? ⟨g, k * 8 + 1, none⟩ = some (.int .u8 (r.form : Nat)) := alln_cell (j := 1) hT.all hp (by decide) rfl
      have d2 : wr.cell? ⟨g, k * 8 + 2, none⟩ = some (.int .u8 (r.frm : Nat)) := alln_cell (j := 2) hT.all hp (by decide) rfl
      have d3 : wr.cell? ⟨g, k * 8 + 3, none⟩ = some (.int .u8 (r.kind : Nat)) := alln_cell (j := 3) hT.all hp (by decide) rfl
      have d4 : wr.cell? ⟨g, k * 8 + 4, none⟩ = some (.int .u32 (r.mask : Nat)) := alln_cell (j := 4) hT.all hp (by decide) rfl
      have d5 : wr.cell? ⟨g, k * 8 + 5, none⟩ = some (.int .u32 (r.mtch : Nat)) := alln_cell (j := 5) hT.all hp (by decide) rfl
      have d6 : wr.cell? ⟨g, k * 8 + 6, none⟩ = some (.int .u8 (r.lay : Nat)) := alln_cell (j := 6) hT.all hp (by decide) rfl
      obtain ⟨ao, cp, rfl, _⟩ := own_len3 hT.own
      obtain ⟨nn, hnn⟩ : ∃ nn, xs.length = nn := ⟨_, rfl⟩
      have yb := beq_cast r.op op
      obtain ⟨b, hb⟩ : ∃ b, (r.op == op) = b := ⟨_, rfl⟩
      rw [hb] at yb hst
      have hst0 : b = false → WANT op (k + 1) = xs := fun h => by rw [hst, h]; simp
      have hst1 : b = true → WANT op (k + 1) = xs ++ [leastI r] := fun h => by rw [hst, h]; simp
      rw [hnn] at hT
      have HTT := Lib.hid hT
      have HLN := Lib.hid hln
      have HP := Lib.hid hp
      have HNN := Lib.hid hnn
      clear hp hr hxs hT hln hb hst hnn
      rcases Nat.lt_trichotomy r.lay 8 with hy8 | hy8 | hy8
      · have z8 : ((r.lay : Int) == 8) = false := by rw [beq_eq_false_iff_ne]; omega
        have z9 : ((r.lay : Int) == 9) = false := by rw [beq_eq_false_iff_ne]; omega
        cases b
        · have HST := Lib.hid (hst0 rfl)
          clear hst0 hst1
          go_wp2
          go_roundw
          case rel => exact ⟨k + 1, _, by omega, by go_num, by rw [HST.out]; exact HTT.out.later (((Below.refl wr.heap.size wr).alloc (Nat.le_refl _) _).alloc (by simp) _)⟩
          case measure => simp [intOf]; omega
        · have HST := Lib.hid (hst1 rfl)
          clear hst0 hst1
          have hle : leastI r = ⟨r.op, r.form, r.frm, r.kind, 0, 0, 0, 0, 0, 0, 0⟩ := by unfold leastI; rw [if_neg (by omega)]
          have b3 := (((Below.refl wr.heap.size wr).alloc (Nat.le_refl _) (.cells (rowV r) 40)).alloc (by simp) (.cells #[.int .u8 (r.op : Nat), .int .u8 (r.form : Nat), .int .u8 (r.frm : Nat), .int .u8 (r.kind : Nat), .int .u8 0, .int .u8 0, .int .u8 0, .int .u8 0, .int .u8 0, .int .i16 0, .int .u8 0] 27)).alloc (by simp; omega) (.cells #[.int .u8 (r.op : Nat), .int .u8 (r.form : Nat), .int .u8 (r.frm : Nat), .int .u8 (r.kind : Nat), .int .u8 0, .int .u8 0, .int .u8 0, .int .u8 0, .int .u8 0, .int .i16 0, .int .u8 0] 27)
          have hT5 := HTT.out.later b3
          have q1 : Blk (((wr.alloc (.cells (rowV r) 40)).alloc (.cells #[.int .u8 (r.op : Nat), .int .u8 (r.form : Nat), .int .u8 (r.frm : Nat), .int .u8 (r.kind : Nat), .int .u8 0, .int .u8 0, .int .u8 0, .int .u8 0, .int .u8 0, .int .i16 0, .int .u8 0] 27)).alloc (.cells #[.int .u8 (r.op : Nat), .int .u8 (r.form : Nat), .int .u8 (r.frm : Nat), .int .u8 (r.kind : Nat), .int .u8 0, .int .u8 0, .int .u8 0, .int .u8 0, .int .u8 0, .int .i16 0, .int .u8 0] 27)) (wr.heap.size + 1 + 1) #[.int .u8 (r.op : Nat), .int .u8 (r.form : Nat), .int .u8 (r.frm : Nat), .int .u8 (r.kind : Nat), .int .u8 0, .int .u8 0, .int .u8 0, .int .u8 0, .int .u8 0, .int .i16 0, .int .u8 0] 27 := (by have h := Blk.new ((wr.alloc (.cells (rowV r) 40)).alloc (.cells #[.int .u8 (r.op : Nat), .int .u8 (r.form : Nat), .int .u8 (r.frm : Nat), .int .u8 (r.kind : Nat), .int .u8 0, .int .u8 0, .int .u8 0, .int .u8 0, .int .u8 0, .int .i16 0, .int .u8 0] 27)) #[.int .u8 (r.op : Nat), .int .u8 (r.form : Nat), .int .u8 (r.frm : Nat), .int .u8 (r.kind : Nat), .int .u8 0, .int .u8 0, .int .u8 0, .int .u8 0, .int .u8 0, .int .i16 0, .int .u8 0] 27; simpa only [World.size_alloc] using h)
          have q0 : Blk ((wr.alloc (.cells (rowV r) 40)).alloc (.cells #[.int .u8 (r.op : Nat), .int .u8 (r.form : Nat), .int .u8 (r.frm : Nat), .int .u8 (r.kind : Nat), .int .u8 0, .int .u8 0, .int .u8 0, .int .u8 0, .int .u8 0, .int .i16 0, .int .u8 0] 27)) (wr.heap.size + 1) #[.int .u8 (r.op : Nat), .int .u8 (r.form : Nat), .int .u8 (r.frm : Nat), .int .u8 (r.kind : Nat), .int .u8 0, .int .u8 0, .int .u8 0, .int .u8 0, .int .u8 0, .int .i16 0, .int .u8 0] 27 := (by have h := Blk.new (wr.alloc (.cells (rowV r) 40)) #[.int .u8 (r.op : Nat), .int .u8 (r.form : Nat), .int .u8 (r.frm : Nat), .int .u8 (r.kind : Nat), .int .u8 0, .int .u8 0, .int .u8 0, .int .u8 0, .int .u8 0, .int .i16 0, .int .u8 0] 27; simpa only [World.size_alloc] using h)
          have lcA : ∀ o1 o2, ((wr.alloc o1).alloc o2).cell? ⟨bw, 0, none⟩ = some (.slice ao nn cp) := fun o1 o2 => by
            have h := ((HTT.out.lc.alloc o1).alloc o2).cell 0
            simpa using h
          have HLE := Lib.hid hle
          have H5 := Lib.hid hT5
          clear hle hT5 b3
          go_wp2_with (first
            | (refine wpList_load_blk_on rfl _ _ rfl _ rfl _ _ _ q0 Try.underlying27 rfl (by kernel_rfl) ?_)
            | (at_builtin; refine wpList_append1 rfl _ _ 61 rfl (W.heap.size + 2) 27 11 14 _ Try.underlying61 infoI rfl (by decide) (by decide) _ _ _ rfl H5.out.own _ 1 #[.int .u8 (r.op : Nat), .int .u8 (r.form : Nat), .int .u8 (r.frm : Nat), .int .u8 (r.kind : Nat), .int .u8 0, .int .u8 0, .int .u8 0, .int .u8 0, .int .u8 0, .int .i16 0, .int .u8 0] 27 q1 rfl rfl (by simp [Value.oneCell']) HLN.out H5.out.res.lt ?_; intro v2 Y2 hO hG; obtain ⟨g2, cap2, hv2⟩ := own_slice hO; obtain ⟨len, hlen⟩ : ∃ len, xs.length + 1 = len := ⟨_, rfl⟩; rw [hlen] at hv2; have HL2 := Lib.hid hlen; subst hv2; clear hlen; have c1 := own_blk H5.out.own hG H5.out.lc (by decide); have c2 := c1.cell 0; have c3 := c1.frozen; simp only [List.getElem?_toArray, List.getElem?_cons_zero] at c2; have HO := Lib.hid hO; have HG := Lib.hid hG; clear hO hG c1))
          have hO2 := HO.out
          rw [← HL2.out] at hO2
          have hm := H5.out.more (x := leastI r) (by rw [HLE.out]; exact hO2) HG.out
          rw [HL2.out] at hm
          go_roundw
          case rel => exact ⟨k + 1, _, by omega, by go_num, by rw [HST.out]; exact hm⟩
          case measure => simp [intOf]; omega
      · have z8 : ((r.lay : Int) == 8) = true := by rw [beq_iff_eq]; omega
        have HY8 := Lib.hid hy8
        clear hy8
        cases b
        · have HST := Lib.hid (hst0 rfl)
          clear hst0 hst1
          go_wp2
          go_roundw
          case rel => exact ⟨k + 1, _, by omega, by go_num, by rw [HST.out]; exact HTT.out.later (((Below.refl wr.heap.size wr).alloc (Nat.le_refl _) _).alloc (by simp) _)⟩
          case measure => simp [intOf]; omega
        · have HST := Lib.hid (hst1 rfl)
          clear hst0 hst1
          have hle : leastI r = ⟨r.op, r.form, r.frm, r.kind, 0, 0, 0, 0, 0, 0, 1⟩ := by unfold leastI; rw [if_pos (by have := HY8.out; omega)]
          have b3 := (((Below.refl wr.heap.size wr).alloc (Nat.le_refl _) (.cells (rowV r) 40)).alloc (by simp) (.cells #[.int .u8 (r.op : Nat), .int .u8 (r.form : Nat), .int .u8 (r.frm : Nat), .int .u8 (r.kind : Nat), .int .u8 0, .int .u8 0, .int .u8 0, .int .u8 0, .int .u8 0, .int .i16 0, .int .u8 1] 27)).alloc (by simp; omega) (.cells #[.int .u8 (r.op : Nat), .int .u8 (r.form : Nat), .int .u8 (r.frm : Nat), .int .u8 (r.kind : Nat), .int .u8 0, .int .u8 0, .int .u8 0, .int .u8 0, .int .u8 0, .int .i16 0, .int .u8 1] 27)
          have hT5 := HTT.out.later b3
          have q1 : Blk (((wr.alloc (.cells (rowV r) 40)).alloc (.cells #[.int .u8 (r.op : Nat), .int .u8 (r.form : Nat), .int .u8 (r.frm : Nat), .int .u8 (r.kind : Nat), .int .u8 0, .int .u8 0, .int .u8 0, .int .u8 0, .int .u8 0, .int .i16 0, .int .u8 1] 27)).alloc (.cells #[.int .u8 (r.op : Nat), .int .u8 (r.form : Nat), .int .u8 (r.frm : Nat), .int .u8 (r.kind : Nat), .int .u8 0, .int .u8 0, .int .u8 0, .int .u8 0, .int .u8 0, .int .i16 0, .int .u8 1] 27)) (wr.heap.size + 1 + 1) #[.int .u8 (r.op : Nat), .int .u8 (r.form : Nat), .int .u8 (r.frm : Nat), .int .u8 (r.kind : Nat), .int .u8 0, .int .u8 0, .int .u8 0, .int .u8 0, .int .u8 0, .int .i16 0, .int .u8 1] 27 := (by have h := Blk.new ((wr.alloc (.cells (rowV r) 40)).alloc (.cells #[.int .u8 (r.op : Nat), .int .u8 (r.form : Nat), .int .u8 (r.frm : Nat), .int .u8 (r.kind : Nat), .int .u8 0, .int .u8 0, .int .u8 0, .int .u8 0, .int .u8 0, .int .i16 0, .int .u8 1] 27)) #[.int .u8 (r.op : Nat), .int .u8 (r.form : Nat), .int .u8 (r.frm : Nat), .int .u8 (r.kind : Nat), .int .u8 0, .int .u8 0, .int .u8 0, .int .u8 0, .int .u8 0, .int .i16 0, .int .u8 1] 27; simpa only [World.size_alloc] using h)
          have q0 : Blk ((wr.alloc (.cells (rowV r) 40)).alloc (.cells #[.int .u8 (r.op : Nat), .int .u8 (r.form : Nat), .int .u8 (r.frm : Nat), .int .u8 (r.kind : Nat), .int .u8 0, .int .u8 0, .int .u8 0, .int .u8 0, .int .u8 0, .int .i16 0, .int .u8 1] 27)) (wr.heap.size + 1) #[.int .u8 (r.op : Nat), .int .u8 (r.form : Nat), .int .u8 (r.frm : Nat), .int .u8 (r.kind : Nat), .int .u8 0, .int .u8 0, .int .u8 0, .int .u8 0, .int .u8 0, .int .i16 0, .int .u8 1] 27 := (by have h := Blk.new (wr.alloc (.cells (rowV r) 40)) #[.int .u8 (r.op : Nat), .int .u8 (r.form : Nat), .int .u8 (r.frm : Nat), .int .u8 (r.kind : Nat), .int .u8 0, .int .u8 0, .int .u8 0, .int .u8 0, .int .u8 0, .int .i16 0, .int .u8 1] 27; simpa only [World.size_alloc] using h)
          have lcA : ∀ o1 o2, ((wr.alloc o1).alloc o2).cell? ⟨bw, 0, none⟩ = some (.slice ao nn cp) := fun o1 o2 => by
            have h := ((HTT.out.lc.alloc o1).alloc o2).cell 0
            simpa using h
          have HLE := Lib.hid hle
          have H5 := Lib.hid hT5
          clear hle hT5 b3
          go_wp2_with (first
            | (refine wpList_load_blk_on rfl _ _ rfl _ rfl _ _ _ q0 Try.underlying27 rfl (by kernel_rfl) ?_)
            | (at_builtin; refine wpList_append1 rfl _ _ 61 rfl (W.heap.size + 2) 27 11 14 _ Try.underlying61 infoI rfl (by decide) (by decide) _ _ _ rfl H5.out.own _ 1 #[.int .u8 (r.op : Nat), .int .u8 (r.form : Nat), .int .u8 (r.frm : Nat), .int .u8 (r.kind : Nat), .int .u8 0, .int .u8 0, .int .u8 0, .int .u8 0, .int .u8 0, .int .i16 0, .int .u8 1] 27 q1 rfl rfl (by simp [Value.oneCell']) HLN.out H5.out.res.lt ?_; intro v2 Y2 hO hG; obtain ⟨g2, cap2, hv2⟩ := own_slice hO; obtain ⟨len, hlen⟩ : ∃ len, xs.length + 1 = len := ⟨_, rfl⟩; rw [hlen] at hv2; have HL2 := Lib.hid hlen; subst hv2; clear hlen; have c1 := own_blk H5.out.own hG H5.out.lc (by decide); have c2 := c1.cell 0; have c3 := c1.frozen; simp only [List.getElem?_toArray, List.getElem?_cons_zero] at c2; have HO := Lib.hid hO; have HG := Lib.hid hG; clear hO hG c1))
          have hO2 := HO.out
          rw [← HL2.out] at hO2
          have hm := H5.out.more (x := leastI r) (by rw [HLE.out]; exact hO2) HG.out
          rw [HL2.out] at hm
          go_roundw
          case rel => exact ⟨k + 1, _, by omega, by go_num, by rw [HST.out]; exact hm⟩
          case measure => simp [intOf]; omega
      · by_cases hy9 : r.lay = 9
        · have z8 : ((r.lay : Int) == 8) = false := by rw [beq_eq_false_iff_ne]; omega
          have z9 : ((r.lay : Int) == 9) = true := by rw [beq_iff_eq]; omega
          have HY8 := Lib.hid hy9
          clear hy9
          cases b
          · have HST := Lib.hid (hst0 rfl)
            clear hst0 hst1
            go_wp2
            go_roundw
            case rel => exact ⟨k + 1, _, by omega, by go_num, by rw [HST.out]; exact HTT.out.later (((Below.refl wr.heap.size wr).alloc (Nat.le_refl _) _).alloc (by simp) _)⟩
            case measure => simp [intOf]; omega
          · have HST := Lib.hid (hst1 rfl)
            clear hst0 hst1
            have hle : leastI r = ⟨r.op, r.form, r.frm, r.kind, 0, 0, 0, 0, 0, 0, 1⟩ := by unfold leastI; rw [if_pos (by have := HY8.out; omega)]
            have b3 := (((Below.refl wr.heap.size wr).alloc (Nat.le_refl _) (.cells (rowV r) 40)).alloc (by simp) (.cells #[.int .u8 (r.op : Nat), .int .u8 (r.form : Nat), .int .u8 (r.frm : Nat), .int .u8 (r.kind : Nat), .int .u8 0, .int .u8 0, .int .u8 0, .int .u8 0, .int .u8 0, .int .i16 0, .int .u8 1] 27)).alloc (by simp; omega) (.cells #[.int .u8 (r.op : Nat), .int .u8 (r.form : Nat), .int .u8 (r.frm : Nat), .int .u8 (r.kind : Nat), .int .u8 0, .int .u8 0, .int .u8 0, .int .u8 0, .int .u8 0, .int .i16 0, .int .u8 1] 27)
            have hT5 := HTT.out.later b3
            have q1 : Blk (((wr.alloc (.cells (rowV r) 40)).alloc (.cells #[.int .u8 (r.op : Nat), .int .u8 (r.form : Nat), .int .u8 (r.frm : Nat), .int .u8 (r.kind : Nat), .int .u8 0, .int .u8 0, .int .u8 0, .int .u8 0, .int .u8 0, .int .i16 0, .int .u8 1] 27)).alloc (.cells #[.int .u8 (r.op : Nat), .int .u8 (r.form : Nat), .int .u8 (r.frm : Nat), .int .u8 (r.kind : Nat), .int .u8 0, .int .u8 0, .int .u8 0, .int .u8 0, .int .u8 0, .int .i16 0, .int .u8 1] 27)) (wr.heap.size + 1 + 1) #[.int .u8 (r.op : Nat), .int .u8 (r.form : Nat), .int .u8 (r.frm : Nat), .int .u8 (r.kind : Nat), .int .u8 0, .int .u8 0, .int .u8 0, .int .u8 0, .int .u8 0, .int .i16 0, .int .u8 1] 27 := (by have h := Blk.new ((wr.alloc (.cells (rowV r) 40)).alloc (.cells #[.int .u8 (r.op : Nat), .int .u8 (r.form : Nat), .int .u8 (r.frm : Nat), .int .u8 (r.kind : Nat), .int .u8 0, .int .u8 0, .int .u8 0, .int .u8 0, .int .u8 0, .int .i16 0, .int .u8 1] 27)) #[.int .u8 (r.op : Nat), .int .u8 (r.form : Nat), .int .u8 (r.frm : Nat), .int .u8 (r.kind : Nat), .int .u8 0, .int .u8 0, .int .u8 0, .int .u8 0, .int .u8 0, .int .i16 0, .int .u8 1] 27; simpa only [World.size_alloc] using h)
            have q0 : Blk ((wr.alloc (.cells (rowV r) 40)).alloc (.cells #[.int .u8 (r.op : Nat), .int .u8 (r.form : Nat), .int .u8 (r.frm : Nat), .int .u8 (r.kind : Nat), .int .u8 0, .int .u8 0, .int .u8 0, .int .u8 0, .int .u8 0, .int .i16 0, .int .u8 1] 27)) (wr.heap.size + 1) #[.int .u8 (r.op : Nat), .int .u8 (r.form : Nat), .int .u8 (r.frm : Nat), .int .u8 (r.kind : Nat), .int .u8 0, .int .u8 0, .int .u8 0, .int .u8 0, .int .u8 0, .int .i16 0, .int .u8 1] 27 := (by have h := Blk.new (wr.alloc (.cells (rowV r) 40)) #[.int .u8 (r.op : Nat), .int .u8 (r.form : Nat), .int .u8 (r.frm : Nat), .int .u8 (r.kind : Nat), .int .u8 0, .int .u8 0, .int .u8 0, .int .u8 0, .int .u8 0, .int .i16 0, .int .u8 1] 27; simpa only [World.size_alloc] using h)
            have lcA : ∀ o1 o2, ((wr.alloc o1).alloc o2).cell? ⟨bw, 0, none⟩ = some (.slice ao nn cp) := fun o1 o2 => by
              have h := ((HTT.out.lc.alloc o1).alloc o2).cell 0
              simpa using h
            have HLE := Lib.hid hle
            have H5 := Lib.hid hT5
            clear hle hT5 b3
            go_wp2_with (first
              | (refine wpList_load_blk_on rfl _ _ rfl _ rfl _ _ _ q0 Try.underlying27 rfl (by kernel_rfl) ?_)
              | (at_builtin; refine wpList_append1 rfl _ _ 61 rfl (W.heap.size + 2) 27 11 14 _ Try.underlying61 infoI rfl (by decide) (by decide) _ _ _ rfl H5.out.own _ 1 #[.int .u8 (r.op : Nat), .int .u8 (r.form : Nat), .int .u8 (r.frm : Nat), .int .u8 (r.kind : Nat), .int .u8 0, .int .u8 0, .int .u8 0, .int .u8 0, .int .u8 0, .int .i16 0, .int .u8 1] 27 q1 rfl rfl (by simp [Value.oneCell']) HLN.out H5.out.res.lt ?_; intro v2 Y2 hO hG; obtain ⟨g2, cap2, hv2⟩ := own_slice hO; obtain ⟨len, hlen⟩ : ∃ len, xs.length + 1 = len := ⟨_, rfl⟩; rw [hlen] at hv2; have HL2 := Lib.hid hlen; subst hv2; clear hlen; have c1 := own_blk H5.out.own hG H5.out.lc (by decide); have c2 := c1.cell 0; have c3 := c1.frozen; simp only [List.getElem?_toArray, List.getElem?_cons_zero] at c2; have HO := Lib.hid hO; have HG := Lib.hid hG; clear hO hG c1))
            have hO2 := HO.out
            rw [← HL2.out] at hO2
            have hm := H5.out.more (x := leastI r) (by rw [HLE.out]; exact hO2) HG.out
            rw [HL2.out] at hm
            go_roundw
            case rel => exact ⟨k + 1, _, by omega, by go_num, by rw [HST.out]; exact hm⟩
            case measure => simp [intOf]; omega
        · have z8 : ((r.lay : Int) == 8) = false := by rw [beq_eq_false_iff_ne]; omega
          have z9 : ((r.lay : Int) == 9) = false := by rw [beq_eq_false_iff_ne]; omega
          cases b
          · have HST := Lib.hid (hst0 rfl)
            clear hst0 hst1
            go_wp2
            go_roundw
            case rel => exact ⟨k + 1, _, by omega, by go_num, by rw [HST.out]; exact HTT.out.later (((Below.refl wr.heap.size wr).alloc (Nat.le_refl _) _).alloc (by simp) _)⟩
            case measure => simp [intOf]; omega
          · have HST := Lib.hid (hst1 rfl)
            clear hst0 hst1
            have hle : leastI r = ⟨r.op, r.form, r.frm, r.kind, 0, 0, 0, 0, 0, 0, 0⟩ := by unfold leastI; rw [if_neg (by omega)]
            have b3 := (((Below.refl wr.heap.size wr).alloc (Nat.le_refl _) (.cells (rowV r) 40)).alloc (by simp) (.cells #[.int .u8 (r.op : Nat), .int .u8 (r.form : Nat), .int .u8 (r.frm : Nat), .int .u8 (r.kind : Nat), .int .u8 0, .int .u8 0, .int .u8 0, .int .u8 0, .int .u8 0, .int .i16 0, .int .u8 0] 27)).alloc (by simp; omega) (.cells #[.int .u8 (r.op : Nat), .int .u8 (r.form : Nat), .int .u8 (r.frm : Nat), .int .u8 (r.kind : Nat), .int .u8 0, .int .u8 0, .int .u8 0, .int .u8 0, .int .u8 0, .int .i16 0, .int .u8 0] 27)
            have hT5 := HTT.out.later b3
            have q1 : Blk (((wr.alloc (.cells (rowV r) 40)).alloc (.cells #[.int .u8 (r.op : Nat), .int .u8 (r.form : Nat), .int .u8 (r.frm : Nat), .int .u8 (r.kind : Nat), .int .u8 0, .int .u8 0, .int .u8 0, .int .u8 0, .int .u8 0, .int .i16 0, .int .u8 0] 27)).alloc (.cells #[.int .u8 (r.op : Nat), .int .u8 (r.form : Nat), .int .u8 (r.frm : Nat), .int .u8 (r.kind : Nat), .int .u8 0, .int .u8 0, .int .u8 0, .int .u8 0, .int .u8 0, .int .i16 0, .int .u8 0] 27)) (wr.heap.size + 1 + 1) #[.int .u8 (r.op : Nat), .int .u8 (r.form : Nat), .int .u8 (r.frm : Nat), .int .u8 (r.kind : Nat), .int .u8 0, .int .u8 0, .int .u8 0, .int .u8 0, .int .u8 0, .int .i16 0, .int .u8 0] 27 := (by have h := Blk.new ((wr.alloc (.cells (rowV r) 40)).alloc (.cells #[.int .u8 (r.op : Nat), .int .u8 (r.form : Nat), .int .u8 (r.frm : Nat), .int .u8 (r.kind : Nat), .int .u8 0, .int .u8 0, .int .u8 0, .int .u8 0, .int .u8 0, .int .i16 0, .int .u8 0] 27)) #[.int .u8 (r.op : Nat), .int .u8 (r.form : Nat), .int .u8 (r.frm : Nat), .int .u8 (r.kind : Nat), .int .u8 0, .int .u8 0, .int .u8 0, .int .u8 0, .int .u8 0, .int .i16 0, .int .u8 0] 27; simpa only [World.size_alloc] using h)
            have q0 : Blk ((wr.alloc (.cells (rowV r) 40)).alloc (.cells #[.int .u8 (r.op : Nat), .int .u8 (r.form : Nat), .int .u8 (r.frm : Nat), .int .u8 (r.kind : Nat), .int .u8 0, .int .u8 0, .int .u8 0, .int .u8 0, .int .u8 0, .int .i16 0, .int .u8 0] 27)) (wr.heap.size + 1) #[.int .u8 (r.op : Nat), .int .u8 (r.form : Nat), .int .u8 (r.frm : Nat), .int .u8 (r.kind : Nat), .int .u8 0, .int .u8 0, .int .u8 0, .int .u8 0, .int .u8 0, .int .i16 0, .int .u8 0] 27 := (by have h := Blk.new (wr.alloc (.cells (rowV r) 40)) #[.int .u8 (r.op : Nat), .int .u8 (r.form : Nat), .int .u8 (r.frm : Nat), .int .u8 (r.kind : Nat), .int .u8 0, .int .u8 0, .int .u8 0, .int .u8 0, .int .u8 0, .int .i16 0, .int .u8 0] 27; simpa only [World.size_alloc] using h)
            have lcA : ∀ o1 o2, ((wr.alloc o1).alloc o2).cell? ⟨bw, 0, none⟩ = some (.slice ao nn cp) := fun o1 o2 => by
              have h := ((HTT.out.lc.alloc o1).alloc o2).cell 0
              simpa using h
            have HLE := Lib.hid hle
            have H5 := Lib.hid hT5
            clear hle hT5 b3
            go_wp2_with (first
              | (refine wpList_load_blk_on rfl _ _ rfl _ rfl _ _ _ q0 Try.underlying27 rfl (by kernel_rfl) ?_)
              | (at_builtin; refine wpList_append1 rfl _ _ 61 rfl (W.heap.size + 2) 27 11 14 _ Try.underlying61 infoI rfl (by decide) (by decide) _ _ _ rfl H5.out.own _ 1 #[.int .u8 (r.op : Nat), .int .u8 (r.form : Nat), .int .u8 (r.frm : Nat), .int .u8 (r.kind : Nat), .int .u8 0, .int .u8 0, .int .u8 0, .int .u8 0, .int .u8 0, .int .i16 0, .int .u8 0] 27 q1 rfl rfl (by simp [Value.oneCell']) HLN.out H5.out.res.lt ?_; intro v2 Y2 hO hG; obtain ⟨g2, cap2, hv2⟩ := own_slice hO; obtain ⟨len, hlen⟩ : ∃ len, xs.length + 1 = len := ⟨_, rfl⟩; rw [hlen] at hv2; have HL2 := Lib.hid hlen; subst hv2; clear hlen; have c1 := own_blk H5.out.own hG H5.out.lc (by decide); have c2 := c1.cell 0; have c3 := c1.frozen; simp only [List.getElem?_toArray, List.getElem?_cons_zero] at c2; have HO := Lib.hid hO; have HG := Lib.hid hG; clear hO hG c1))
            have hO2 := HO.out
            rw [← HL2.out] at hO2
            have hm := H5.out.more (x := leastI r) (by rw [HLE.out]; exact hO2) HG.out
            rw [HL2.out] at hm
            go_roundw
            case rel => exact ⟨k + 1, _, by omega, by go_num, by rw [HST.out]; exact hm⟩
            case measure => simp [intOf]; omega
    · obtain rfl : k = 136 := by omega
      have hwa : WANT op 136 = ((RLO op).map leastI) := by unfold WANT; rw [List.take_of_length_le (by rw [rows_136]; exact Nat.le_refl _), rlo_all]
      rw [hwa] at hT
      obtain ⟨ao, cap3, hv, hao⟩ := own_len3 hT.own
      obtain ⟨L, hL⟩ : ∃ L, (RLO op).length = L := ⟨_, rfl⟩
      rw [List.length_map, hL] at hv hao
      subst hv
      have HAO := Lib.hid hao
      have HL := Lib.hid hL
      have HLN : Hid (L ≤ 1000000) := Lib.hid (by rw [← hL, ← rlo_all]; exact Nat.le_trans (List.length_filter_le _ _) (by rw [rows_136]; decide))
      have HTT := Lib.hid hT
      clear hT hao hL hwa
      have hnf : ∀ X p, (binOp .eql 63 (.func (.func 67) #[] #[p]) .nilFunc).run Try.prog X = .ok (.bool false) X := fun X p => by kernel_rfl
      go_wp2_with (first
        | (go_at_call 39; (with_reducible refine (eeach_c _ op).mono ?_); rintro e w3 ⟨rfl, rfl⟩))
      have kop := (Blk.new wr #[.int .u8 (op : Nat)] 22).alloc (.cells #[.int .i64 0] 3)
      have ktn := Blk.new (wr.alloc (.cells #[.int .u8 (op : Nat)] 22)) #[.int .i64 0] 3
      rw [World.size_alloc] at ktn
      have hl2 := HTT.out.later (((Below.refl wr.heap.size wr).alloc (Nat.le_refl _) (.cells #[.int .u8 (op : Nat)] 22)).alloc (by simp) (.cells #[.int .i64 0] 3))
      have hres := HTT.out.res.lt
      show Code.wp _ _ _ _ ((wr.alloc (.cells #[.int .u8 (op : Nat)] 22)).alloc (.cells #[.int .i64 0] 3))
      obtain ⟨w4, hw4⟩ : ∃ w4, (wr.alloc (.cells #[.int .u8 (op : Nat)] 22)).alloc (.cells #[.int .i64 0] 3) = w4 := ⟨_, rfl⟩
      obtain ⟨bo, hbo⟩ : ∃ bo, wr.heap.size = bo := ⟨_, rfl⟩
      rw [hw4] at kop ktn hl2 ⊢
      rw [hbo] at kop ktn hres ⊢
      have hTS : EB W w4 op leave bw bo (bo + 1) ((RLO op).map leastI) (.slice ao L cap3) 0 := ⟨hl2.lv, hl2.res, hl2.lc, hl2.own, kop, ktn, hl2.bel, by omega⟩
      have HTS := Lib.hid hTS
      clear hw4 hbo kop ktn hl2 hres hTS HTT hnf
      refine (wpIn_wide (n := 12)).1 ?_
      refine wpIn_loop (fun a wx => ∃ f, EI W op leave bw bo L cap3 ao ((RLO op).map leastI) f a wx) (fun a wx => 2 - (intOf ((wx.cell? (ptrOf (a.tmps.getD 11 undef))).getD undef)).toNat) ?_ ?_
      · exact EI.in ⟨0, bo + 1, [], by kernel_rfl, by omega, HTS.out, Marks.nil _ _⟩
      · rintro a wx ⟨f, n, pt, Ds, rfl, hn2, hTS, hM⟩
        clear HTS
        have tc := hTS.tc.cell 0
        simp only [List.getElem?_toArray, List.getElem?_cons_zero] at tc
        have HNC := Lib.hid tc
        have HN2 := Lib.hid hn2
        rcases Nat.lt_or_ge n 2 with hlt | hge
        · have dn : decide ((n : Int) < 2) = true := decide_eq_true (by omega)
          have HS := Lib.hid hTS
          have HM := Lib.hid hM
          clear hTS hM
          gi_wp2
          have hlow := (Below.refl wx.heap.size wx).alloc (Nat.le_refl _) (.cells #[.int .i64 0] 3)
          have hl2 := HS.out.later hlow
          have hm2 := HM.out.later hlow
          have kn := Blk.new wx #[.int .i64 0] 3
          have hnp : wx.heap.size ≠ pt := fun e => by have := HS.out.tc.lt; omega
          have hpn1 : W.heap.size + 2 ≤ wx.heap.size := by have := HS.out.tc.lt; have := HS.out.hpt; omega
          show Code.wpIn _ _ _ _ _ _ (wx.alloc (.cells #[.int .i64 0] 3))
          obtain ⟨w0, hw0⟩ : ∃ w0, wx.alloc (.cells #[.int .i64 0] 3) = w0 := ⟨_, rfl⟩
          obtain ⟨pn, hpn⟩ : ∃ pn, wx.heap.size = pn := ⟨_, rfl⟩
          have hps : w0.heap.size = pn + 1 := by rw [← hw0, World.size_alloc, hpn]
          rw [hw0] at hl2 hm2 kn ⊢
          rw [hpn] at kn hnp hpn1 ⊢
          clear hw0 hlow tc
          have hn0 : W.heap.size ≤ w0.heap.size := hl2.bel.size
          have hDs : ∀ D ∈ Ds, D < w0.heap.size := fun D hD => (Array.getElem?_eq_some_iff.1 (hm2.2 D hD).2).1
          have hit := eeach_iter op bo (12 - 1) (by decide) W.heap.size w0 hn0
          rw [HL.out] at hit
          have HDS := Lib.hid hDs
          have HPS := Lib.hid hps
          have HNP := Lib.hid hnp
          have HPN := Lib.hid hpn1
          have HPW := Lib.hid hpn
          have HLT : Hid (n < 2) := Lib.hid hlt
          refine wpIn_rangeA rfl (by decide) (gf := 67) (ba := #[]) (lb := #[.pointer (some ⟨bo, 0, none⟩)]) rfl trivial (enters_of Try.func67 (by kernel_rfl) rfl) hit (Below.refl _ _) hn0 (fun _ => rfl)
            (fun j X W' => EB W W' op leave bw bo pt ((RLO op).map leastI) (.slice ao L cap3) n ∧ Blk W' pn #[.int .i64 (j : Nat)] 3 ∧ Marks W.heap.size Ds W')
            (fun c j X W' => (EB W W' op leave bw bo pt ((RLO op).map leastI) (.slice ao L cap3) n ∧ Blk W' pn #[.int .i64 (j : Nat)] 3 ∧ Marks W.heap.size Ds W') ∧ c = .exit 4 ∧ n = 0 ∧ (j : Int) = leave)
            (fun j X => (Abide.EB hn0).and (Abide.blk.and (Abide.marks hDs))) (fun c j X => ((Abide.EB hn0).and (Abide.blk.and (Abide.marks hDs))).and Abide.pure)
            (fun j X A B ⟨h1, h2, h3⟩ hb _ => ⟨h1.later hb, h2.below hb h2.lt, h3.later hb⟩) (fun c j X A B ⟨⟨h1, h2, h3⟩, h4⟩ hb _ => ⟨⟨h1.later hb, h2.below hb h2.lt, h3.later hb⟩, h4⟩)
            (fun j X W' h => h.1.opc.cell 0) (fun c j X W' h => h.1.1.opc.cell 0)
            ⟨hl2, kn, hm2⟩
            (fun j a' W' => ∃ B6 : Nat, Blk W' B6 (instV (leastI (rk op j))) 27 ∧ a' = { tmps := #[f 0, f 1, f 2, .pointer (some ⟨W.heap.size, 0, none⟩), .pointer (some ⟨W.heap.size + 1, 0, none⟩), .pointer (some ⟨bw, 0, none⟩), f 6, f 7, f 8, f 9, .func (.func 67) #[] #[.pointer (some ⟨bo, 0, none⟩)], .pointer (some ⟨pt, 0, none⟩), .pointer (some ⟨pn, 0, none⟩), .pointer (some ⟨B6, 0, none⟩), f 14, f 15, f 16, f 17, f 18, f 19, f 20, f 21, f 22, f 23, f 24, f 25, f 26, f 27, f 28, f 29, f 30, f 31, f 32, f 33, f 34, f 35, f 36, f 37, f 38, f 39, f 40, f 41, f 42, f 43, f 44, f 45, f 46, f 47, f 48, f 49, f 50, f 51, f 52, f 53, f 54, f 55, f 56, f 57, .int .i64 (n : Nat), .bool true, f 60, f 61, .func (.func 67) #[] #[.pointer (some ⟨bo, 0, none⟩)], .agg (instV (leastI (rk op j))), f 64, f 65, f 66, f 67, f 68, f 69, f 70, f 71, f 72, f 73, f 74, f 75, f 76, f 77, f 78, f 79, f 80, f 81, f 82, f 83, f 84, f 85, f 86, f 87, f 88, f 89, f 90, f 91, f 92, f 93, f 94, f 95, f 96, f 97, f 98, f 99], defers := [] })
            (fun j a' A B row ⟨B6, h2, h3⟩ hg hr => ⟨B6, Abide.blk A B row h2 hg hr, h3⟩) ?assign ?body ?done ?stop
          case assign =>
            rintro l j X A K hX ⟨h1, h2, h3⟩ hj hK
            gi_wp2
            have hnew := (Below.refl A.heap.size A).alloc (Nat.le_refl _) (.cells (instV (leastI (rk op j))) 27)
            exact hK _ _ ((KeepsOthers.alloc _ _).from _) (KX.below (fun b h => (hX b h).2) hnew) (hnew.mono h1.bel.size) ⟨h1.later hnew, h2.below hnew h2.lt, h3.later hnew⟩ ⟨A.heap.size, Blk.new _ _ _, rfl⟩
          case body =>
            rintro l j X a' A hl hX ⟨h1, h2, h3⟩ ⟨B6, hb6, rfl⟩ hj
            obtain ⟨g3, rfl⟩ := HAO.out (by omega)
            obtain ⟨x, hr⟩ : ∃ x, leastI (rk op j) = x := ⟨_, rfl⟩
            rw [hr] at hb6 ⊢
            have HRG : Hid (((RLO op).map leastI)[j]? = some x) := Lib.hid (by rw [← hr, List.getElem?_map]; unfold rk; rw [List.getElem?_eq_getElem (by have := HL.out; omega)]; rfl)
            have t0 : A.cell? ⟨B6, 0, none⟩ = some (.int .u8 (x.op : Nat)) := hb6.cell 0
            have t1 : A.cell? ⟨B6, 1, none⟩ = some (.int .u8 (x.form : Nat)) := hb6.cell 1
            have t2 : A.cell? ⟨B6, 2, none⟩ = some (.int .u8 (x.frm : Nat)) := hb6.cell 2
            have t3 : A.cell? ⟨B6, 3, none⟩ = some (.int .u8 (x.kind : Nat)) := hb6.cell 3
            have t4 : A.cell? ⟨B6, 4, none⟩ = some (.int .u8 (x.rd : Nat)) := hb6.cell 4
            have t5 : A.cell? ⟨B6, 5, none⟩ = some (.int .u8 (x.rs1 : Nat)) := hb6.cell 5
            have t6 : A.cell? ⟨B6, 6, none⟩ = some (.int .u8 (x.rs2 : Nat)) := hb6.cell 6
            have t7 : A.cell? ⟨B6, 7, none⟩ = some (.int .u8 (x.rs3 : Nat)) := hb6.cell 7
            have t8 : A.cell? ⟨B6, 8, none⟩ = some (.int .u8 (x.rm : Nat)) := hb6.cell 8
            have t9 : A.cell? ⟨B6, 9, none⟩ = some (.int .i16 x.imm) := hb6.cell 9
            have t10 : A.cell? ⟨B6, 10, none⟩ = some (.int .u8 (x.csr : Nat)) := hb6.cell 10
            have e0 : A.cell? ⟨g3, j * 11, none⟩ = some (.int .u8 (x.op : Nat)) := (own_cell h1.own).2.2 (j * 11 + 0) _ (by rw [isv_get ((RLO op).map leastI) j 0 x HRG.out (by decide)]; rfl)
            have e1 : A.cell? ⟨g3, j * 11 + 1, none⟩ = some (.int .u8 (x.form : Nat)) := (own_cell h1.own).2.2 (j * 11 + 1) _ (by rw [isv_get ((RLO op).map leastI) j 1 x HRG.out (by decide)]; rfl)
            have e2 : A.cell? ⟨g3, j * 11 + 2, none⟩ = some (.int .u8 (x.frm : Nat)) := (own_cell h1.own).2.2 (j * 11 + 2) _ (by rw [isv_get ((RLO op).map leastI) j 2 x HRG.out (by decide)]; rfl)
            have e3 : A.cell? ⟨g3, j * 11 + 3, none⟩ = some (.int .u8 (x.kind : Nat)) := (own_cell h1.own).2.2 (j * 11 + 3) _ (by rw [isv_get ((RLO op).map leastI) j 3 x HRG.out (by decide)]; rfl)
            have e4 : A.cell? ⟨g3, j * 11 + 4, none⟩ = some (.int .u8 (x.rd : Nat)) := (own_cell h1.own).2.2 (j * 11 + 4) _ (by rw [isv_get ((RLO op).map leastI) j 4 x HRG.out (by decide)]; rfl)
            have e5 : A.cell? ⟨g3, j * 11 + 5, none⟩ = some (.int .u8 (x.rs1 : Nat)) := (own_cell h1.own).2.2 (j * 11 + 5) _ (by rw [isv_get ((RLO op).map leastI) j 5 x HRG.out (by decide)]; rfl)
            have e6 : A.cell? ⟨g3, j * 11 + 6, none⟩ = some (.int .u8 (x.rs2 : Nat)) := (own_cell h1.own).2.2 (j * 11 + 6) _ (by rw [isv_get ((RLO op).map leastI) j 6 x HRG.out (by decide)]; rfl)
            have e7 : A.cell? ⟨g3, j * 11 + 7, none⟩ = some (.int .u8 (x.rs3 : Nat)) := (own_cell h1.own).2.2 (j * 11 + 7) _ (by rw [isv_get ((RLO op).map leastI) j 7 x HRG.out (by decide)]; rfl)
            have e8 : A.cell? ⟨g3, j * 11 + 8, none⟩ = some (.int .u8 (x.rm : Nat)) := (own_cell h1.own).2.2 (j * 11 + 8) _ (by rw [isv_get ((RLO op).map leastI) j 8 x HRG.out (by decide)]; rfl)
            have e9 : A.cell? ⟨g3, j * 11 + 9, none⟩ = some (.int .i16 x.imm) := (own_cell h1.own).2.2 (j * 11 + 9) _ (by rw [isv_get ((RLO op).map leastI) j 9 x HRG.out (by decide)]; rfl)
            have e10 : A.cell? ⟨g3, j * 11 + 10, none⟩ = some (.int .u8 (x.csr : Nat)) := (own_cell h1.own).2.2 (j * 11 + 10) _ (by rw [isv_get ((RLO op).map leastI) j 10 x HRG.out (by decide)]; rfl)
            have lc0 := h1.lc.cell 0
            have n0 := h2.cell 0
            have nf := h2.frozen
            simp only [List.getElem?_toArray, List.getElem?_cons_succ, List.getElem?_cons_zero] at lc0 n0
            have hpl : ∀ q v, ((A.drewN q).setCell ⟨pn, 0, none⟩ v).cell? ⟨pn, 0, none⟩ = some v := fun q v => by
              have hb : Blk (A.drewN q) pn _ _ := h2.below (below_drewN (Below.refl _ _)) h2.lt
              have := (hb.set 0 v).cell 0
              simpa using this
            have hpo : ∀ q v, ((A.drewN q).setCell ⟨pn, 0, none⟩ v).cell? ⟨pt, 0, none⟩ = some (.int .i64 (n : Nat)) := fun q v => by
              have hb : Blk (A.drewN q) pt _ _ := h1.tc.below (below_drewN (Below.refl _ _)) h1.tc.lt
              exact (hb.other 0 v (fun e => HNP.out e.symm)).cell 0
            have hpa : ∀ q v, ((A.drewN q).setCell ⟨pn, 0, none⟩ v).cell? ⟨W.heap.size, 0, none⟩ = some (.int .i64 leave) := fun q v => by
              have hb : Blk (A.drewN q) W.heap.size _ _ := h1.lv.below (below_drewN (Below.refl _ _)) h1.lv.lt
              exact (hb.other 0 v (fun e => by have := HPN.out; omega)).cell 0
            have hgo : ∀ q v, v = .int .i64 ((j + 1 : Nat) : Int) → KeepsFrom w0.heap.size A ((A.drewN q).setCell ⟨pn, 0, none⟩ v) ∧ KX X A ((A.drewN q).setCell ⟨pn, 0, none⟩ v) ∧ Below W.heap.size A ((A.drewN q).setCell ⟨pn, 0, none⟩ v) ∧ EB W ((A.drewN q).setCell ⟨pn, 0, none⟩ v) op leave bw bo pt ((RLO op).map leastI) (.slice (some ⟨g3, 0, none⟩) L cap3) n ∧ Blk ((A.drewN q).setCell ⟨pn, 0, none⟩ v) pn #[.int .i64 ((j + 1 : Nat) : Int)] 3 ∧ Marks W.heap.size Ds ((A.drewN q).setCell ⟨pn, 0, none⟩ v) := fun q v hv => by
              subst hv
              have hd : Below A.heap.size A (A.drewN q) := below_drewN (Below.refl _ _)
              have hb : Blk (A.drewN q) pn _ _ := h2.below hd h2.lt
              exact ⟨(keeps_below hd).trans ((KeepsOthers.setCell _ _ _).from _), (KX.below (fun b h => (hX b h).2) hd).trans (fun b hb => heap_setCell_other _ ⟨pn, 0, none⟩ b _ (fun e => by have := (hX b hb).1; have := HPS.out; have e' : b = pn := e; omega)), (hd.mono h1.bel.size).setCell (p := ⟨pn, 0, none⟩) (show W.heap.size ≤ pn by have := HPN.out; omega) _, (h1.later hd).set hb HNP.out HPN.out _, hb.set 0 _, (h3.later hd).set hb 0 _⟩
            have HGO := Lib.hid hgo
            have hne : ∀ X, (binOp .neq 27 (.agg (instV x)) (.agg (instV x))).run Try.prog X = .ok (.bool false) X := fun X => by rw [neq_inst, decide_eq_true rfl]; rfl
            have hge2 : decide (L ≤ j) = false := decide_eq_false (by omega)
            have h1M := HLN.out
            clear h1 h2 h3 hb6 hr hgo
            gi_wp2
            refine wpIn_region_sets_lit (fun _ w' => ∃ q, w' = A.drewN q) (by kernel_rfl) (by kernel_rfl) (fun _ _ h => h) (by kernel_rfl) ⟨1, rfl⟩ ?_
            (repeat (first | (refine sets_quiet (fun w' => ∃ q, w' = A.drewN q) (fun _ _ h => h) rfl (fun _ _ _ h => h) rfl ?_; intro K hK; go_big_quiet_op; first | go_big_quiet_on | (refine ⟨_, fun _ => rfl, ?_⟩; go_big_quiet_on)) | (refine sets_nil rfl (fun _ _ _ h => h) _ rfl _ rfl ?_; simp only [Act.put, List.setIfInBounds_toArray, List.set_cons_succ, List.set_cons_zero]) | (refine sets_skip rfl (fun _ _ _ h => h) ?_; simp only [Act.put, List.setIfInBounds_toArray, List.set_cons_succ, List.set_cons_zero])))
            refine setse_run (.int .i64 (L : Nat)) rfl (fun _ _ _ h => h) (fun w => by simp [execOp, Act.eval, resolve, invoke, builtin, Result.andThen, run_len_slice (P := Try.prog) (t := 61) (h := Try.underlying61), goInt]) ?_
            simp only [Act.put, List.setIfInBounds_toArray, List.set_cons_succ, List.set_cons_zero]
            (repeat (first | (refine sets_quiet (fun w' => ∃ q, w' = A.drewN q) (fun _ _ h => h) rfl (fun _ _ _ h => h) rfl ?_; intro K hK; go_big_quiet_op; first | go_big_quiet_on | (refine ⟨_, fun _ => rfl, ?_⟩; go_big_quiet_on)) | (refine sets_nil rfl (fun _ _ _ h => h) _ rfl _ rfl ?_; simp only [Act.put, List.setIfInBounds_toArray, List.set_cons_succ, List.set_cons_zero]) | (refine sets_skip rfl (fun _ _ _ h => h) ?_; simp only [Act.put, List.setIfInBounds_toArray, List.set_cons_succ, List.set_cons_zero])))
            rintro S _ _ ⟨nq, rfl⟩
            clear t0 t1 t2 t3 t4 t5 t6 t7 t8 t9 t10 e0 e1 e2 e3 e4 e5 e6 e7 e8 e9 e10 lc0 hne hge2
            rcases Nat.eq_zero_or_pos n with hz | hz
            · have z1 : ((n : Int) == 0) = true := by rw [beq_iff_eq]; omega
              by_cases hlv3 : ((j : Int) + 1 = leave)
              · have z2 : ((j : Int) + 1 == leave) = true := by rw [beq_iff_eq]; exact hlv3
                gi_wp2
                obtain ⟨k1, k2, k3, k4⟩ := HGO.out nq (.int .i64 leave) (by rw [← hlv3]; rfl)
                exact ⟨k1, k2, k3, k4, rfl, by omega, by omega⟩
              · have z2 : ((j : Int) + 1 == leave) = false := by rw [beq_eq_false_iff_ne]; exact hlv3
                gi_wp2
                exact HGO.out _ _ rfl
            · have z1 : ((n : Int) == 0) = false := by rw [beq_eq_false_iff_ne]; omega
              gi_wp2
              exact HGO.out _ _ rfl
          case done =>
            rintro D A hDw ⟨X, h1, h2, h3⟩ hK
            have hmk := h3.cons (Nat.le_trans hn0 hDw) hK (fun h => by have := HDS.out D h; omega)
            have lc0 := h1.lc.cell 0
            have n0 := h2.cell 0
            have tc1 := h1.tc.cell 0
            simp only [List.getElem?_toArray, List.getElem?_cons_succ, List.getElem?_cons_zero] at lc0 n0 tc1
            have z3 : ((L : Int) != (L : Int)) = false := by simp
            have H1 := Lib.hid h1
            have HMK := Lib.hid hmk
            clear h1 h2 h3 hmk
            gi_wp2
            refine ⟨EI.in ⟨n + 1, A.heap.size, D :: Ds, by kernel_rfl, by omega, H1.out.next _ rfl, HMK.out.later ((Below.refl A.heap.size A).alloc (Nat.le_refl _) _)⟩, ?_⟩
            exact turne_lt HNC.out HLT.out rfl
          case stop =>
            rintro D c j A hDw hj1 hjl ⟨X, ⟨h1, h2, h3⟩, rfl, rfl, hlv3⟩ hK
            have hmk := h3.cons (Nat.le_trans hn0 hDw) hK (fun h => by have := HDS.out D h; omega)
            have lc0 := h1.lc.cell 0
            have n0 := h2.cell 0
            have tc1 := h1.tc.cell 0
            have as0 := h1.lv.cell 0
            simp only [List.getElem?_toArray, List.getElem?_cons_succ, List.getElem?_cons_zero] at lc0 n0 tc1 as0
            have H1 := Lib.hid h1
            have HMK := Lib.hid hmk
            clear h1 h2 h3 hmk
            subst hlv3
            by_cases hjL : j = L
            · subst hjL
              have z3 : ((j : Int) != (j : Int)) = false := by simp
              gi_wp2
              refine ⟨EI.in ⟨0 + 1, A.heap.size, D :: Ds, by kernel_rfl, by omega, H1.out.next _ rfl, HMK.out.later ((Below.refl A.heap.size A).alloc (Nat.le_refl _) _)⟩, ?_⟩
              exact turne_lt HNC.out HLT.out rfl
            · have z3 : ((j : Int) != (L : Int)) = true := by rw [bne_iff_ne]; omega
              have z4 : ((j : Int) != (j : Int)) = false := by simp
              gi_wp2
              refine ⟨EI.in ⟨0 + 1, A.heap.size, D :: Ds, by kernel_rfl, by omega, H1.out.next _ rfl, HMK.out.later ((Below.refl A.heap.size A).alloc (Nat.le_refl _) _)⟩, ?_⟩
              exact turne_lt HNC.out HLT.out rfl
        · obtain rfl : n = 2 := by omega
          have HS := Lib.hid hTS
          have HM := Lib.hid hM
          clear hTS hM
          have dn : decide (((2 : Nat) : Int) < 2) = false := rfl
          gi_wp2
          go_wp2_with (first
            | (go_at_call 23; (with_reducible refine (lives26 _).mono ?_); rintro e w5 ⟨rfl, b5⟩; have f0 := (HS.out.later b5).res.frozen; have e0 := (HS.out.later b5).res.cell 0; simp only [List.getElem?_toArray, List.getElem?_cons_zero] at e0))
          show LeavesInM _ _ _ _ _ _ (List.map mark Ds) _ _
          have k5 := HS.out.later b5
          refine leaves_marks (n₀ := W.heap.size) Ds _ ((HM.out.later b5).set k5.res 0 _) fun W' hT => ?_
          have q2 : Blk W' (W.heap.size + 1) #[.bool true] _ := hT.cells _ _ (k5.res.set 0 _) rfl
          exact ⟨_, results_bool rfl _ _ (W.heap.size + 1) true _ rfl q2, rfl, (k5.bel.setCell (p := ⟨W.heap.size + 1, 0, none⟩) (Nat.le_succ _) _).trans hT.bel⟩
end Go.Proofs.Yteelconabmfnkaa
