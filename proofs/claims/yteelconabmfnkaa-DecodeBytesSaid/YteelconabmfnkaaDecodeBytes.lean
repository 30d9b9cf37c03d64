/- The law DecodeBytes: its walk. -/
import Derived.Test.YteelconabmfnkaaWi
import Derived.Test.YteelconabmfnkaaLa
import Derived.Test.YteelconabmfnkaaRj
namespace Go.Proofs.Yteelconabmfnkaa
open Go Go.RowKit Go.Shelf
attribute [local go_sem] Oper.semAt_some
set_option maxHeartbeats 16000000
set_option maxRecDepth 100000
set_option linter.unusedVariables false
set_option linter.unusedSimpArgs false
theorem setb_run {P : Program} {ops : Array Oper} {I : (Nat → Bool) → World → Prop} {Q : Act → Prop} {k : Nat} {o : Oper} {rest : List Oper} {a : Act} (v : Value) (hw : Region.wanted o (yielded ops a.tmps) = true) (hI : ∀ S w, S k = false → I S w → I (ins S k) w)
    (hr : ∀ w, (execOp a.eval o).run P w = .ok (.value v) w) (h : wpSets P ops I Q (k + 1) rest (a.put o.dst v)) : wpSets P ops I Q k (o :: rest) a := by
  refine ⟨v, .inl ⟨hw, fun S w hS _ _ hIw => ?_⟩, h⟩
  unfold opTo
  rw [hr w]
  exact ⟨rfl, hI S w hS hIw⟩
/-- what holds between two turns -/
structure TB (W wr : World) (ao : Option Addr) (cap : Nat) (l : List Nat) (leave : Int) (pb pt n : Nat) : Prop where
  bx : Blk wr W.heap.size #[.slice ao l.length cap] 86
  lv : Blk wr (W.heap.size + 1) #[.int .i64 leave] 3
  res : Blk wr (W.heap.size + 2) #[.bool false] 4
  pbx : Blk wr pb #[.slice ao l.length cap] 86
  tc : Blk wr pt #[.int .i64 (n : Nat)] 3
  bel : Below W.heap.size W wr
  hpt : W.heap.size + 3 ≤ pt
theorem TB.later {W wr w1 : World} {ao : Option Addr} {cap : Nat} {l : List Nat} {leave : Int} {pb pt n : Nat} (h : TB W wr ao cap l leave pb pt n) (hb : Below wr.heap.size wr w1) : TB W w1 ao cap l leave pb pt n :=
  ⟨h.bx.below hb h.bx.lt, h.lv.below hb h.lv.lt, h.res.below hb h.res.lt, h.pbx.below hb h.pbx.lt, h.tc.below hb h.tc.lt, h.bel.trans (hb.mono h.bel.size), h.hpt⟩
theorem Abide.TB {W : World} {ao : Option Addr} {cap : Nat} {l : List Nat} {leave : Int} {pb pt n B : Nat} (hB : W.heap.size ≤ B) : Abide B (fun W' => TB W W' ao cap l leave pb pt n) := fun A A' row h hg hr =>
  ⟨Abide.blk A A' row h.bx hg hr, Abide.blk A A' row h.lv hg hr, Abide.blk A A' row h.res hg hr, Abide.blk A A' row h.pbx hg hr, Abide.blk A A' row h.tc hg hr, Abide.below (Nat.le_refl _) hB A A' row h.bel hg hr, h.hpt⟩
theorem TB.set {W wr : World} {ao : Option Addr} {cap : Nat} {l : List Nat} {leave : Int} {pb pt n p : Nat} (h : TB W wr ao cap l leave pb pt n) {cs : Array Value} (hp : Blk wr p cs 3) (hne : p ≠ pt) (hlt : W.heap.size + 2 ≤ p) (u : Value) : TB W (wr.setCell ⟨p, 0, none⟩ u) ao cap l leave pb pt n :=
  ⟨h.bx.other 0 u (blk_ne h.bx hp (by decide)), h.lv.other 0 u (by omega), h.res.other 0 u (blk_ne h.res hp (by decide)), h.pbx.other 0 u (blk_ne h.pbx hp (by decide)), h.tc.other 0 u (fun e => hne e.symm), h.bel.setCell (p := ⟨p, 0, none⟩) (show W.heap.size ≤ p by omega) u, h.hpt⟩
theorem TB.next {W A : World} {ao : Option Addr} {cap : Nat} {l : List Nat} {leave : Int} {pb pt n : Nat} (h : TB W A ao cap l leave pb pt n) (b : Value) (hb : b = .int .i64 ((n + 1 : Nat) : Int)) : TB W (A.alloc (.cells #[b] 3)) ao cap l leave pb A.heap.size (n + 1) := by
  subst hb
  have h1 := h.later ((Below.refl A.heap.size A).alloc (Nat.le_refl _) (.cells #[.int .i64 ((n + 1 : Nat) : Int)] 3))
  have hlt := h.tc.lt
  have hp := h.hpt
  exact ⟨h1.bx, h1.lv, h1.res, h1.pbx, Blk.new _ _ _, h1.bel, by omega⟩
theorem turnb_lt {wx A : World} {pt n : Nat} {b : Value} (h : wx.cell? ⟨pt, 0, none⟩ = some (.int .i64 (n : Nat))) (hn : n < 2) (hb : b = .int .i64 ((n + 1 : Nat) : Int)) : 2 - (intOf (((A.alloc (.cells #[b] 3)).cell? ⟨A.heap.size, 0, none⟩).getD undef)).toNat < 2 - (intOf ((wx.cell? ⟨pt, 0, none⟩).getD undef)).toNat := by
  subst hb
  have h2 : (A.alloc (.cells #[.int .i64 ((n + 1 : Nat) : Int)] 3)).cell? ⟨A.heap.size, 0, none⟩ = some (.int .i64 ((n + 1 : Nat) : Int)) := (Blk.new A #[.int .i64 ((n + 1 : Nat) : Int)] 3).cell 0
  rw [h, h2]
  simp only [Option.getD_some, intOf, Int.toNat_natCast]
  omega
def nthV : List Value → Nat → Value
  | [], _ => undef
  | v :: _, 0 => v
  | _ :: l, k + 1 => nthV l k
def TJ (W : World) (ao : Option Addr) (cap : Nat) (l : List Nat) (leave : Int) (pb : Nat) (f : Nat → Value) (a : Act) (wx : World) : Prop := ∃ (n pt : Nat) (Ds : List Nat), a = { tmps := #[f 0, f 1, .pointer (some ⟨W.heap.size, 0, none⟩), .pointer (some ⟨W.heap.size + 1, 0, none⟩), .pointer (some ⟨W.heap.size + 2, 0, none⟩), .func (.func 72) #[] #[.pointer (some ⟨pb, 0, none⟩)], .pointer (some ⟨pt, 0, none⟩), f 7, f 8, f 9, f 10, f 11, f 12, f 13, f 14, f 15, f 16, f 17, f 18, f 19, f 20, f 21, f 22, f 23, f 24, f 25, f 26, f 27, f 28, f 29, f 30, f 31, f 32, f 33, f 34, f 35, f 36, f 37, f 38, f 39, f 40, f 41, f 42, f 43, f 44, f 45, f 46, f 47, f 48, f 49, f 50, f 51, f 52, f 53, f 54, f 55, f 56, f 57, f 58, f 59, f 60, f 61, f 62, f 63, f 64, f 65, f 66, f 67, f 68, f 69, f 70, f 71, f 72, f 73, f 74, f 75, f 76, f 77, f 78, f 79, f 80, f 81, f 82, f 83, f 84, f 85, f 86, f 87, f 88, f 89, f 90, f 91, f 92, f 93, f 94, f 95], defers := Ds.map mark } ∧ n ≤ 2 ∧ TB W wx ao cap l leave pb pt n ∧ Marks W.heap.size Ds wx
theorem TJ.in {W : World} {ao : Option Addr} {cap : Nat} {l : List Nat} {leave : Int} {pb : Nat} {a : Act} {wx : World} (h : TJ W ao cap l leave pb (nthV a.tmps.toList) a wx) : ∃ f, TJ W ao cap l leave pb f a wx := ⟨_, h⟩
theorem walk_DecodeBytes (ao : Option Addr) (cap : Nat) (l : List Nat) (leave : Int) (W : World) (hr : Rd W ao l) (h8 : ∀ y ∈ l, y < 256) (hnone : ao = none → l.length = 0 ∧ cap = 0) (hlv : -9223372036854775808 ≤ leave) (hlv2 : leave ≤ 9223372036854775807) :
    Calls Try.prog 17 #[.slice ao l.length cap, .int .i64 leave] W fun e w' => e = .returned (.bool true) ∧ Below W.heap.size W w' := by
  have HR := Lib.hid hr
  have H8 := Lib.hid h8
  have HNO := Lib.hid hnone
  clear hr h8 hnone
  refine (callsIn_wide (n := 9)).1 ?_
  refine callsIn_of_wp_marks Try.func17 rfl trivial ?_ rfl
  simp only [Try.ntmps17, List.size_toArray, List.length_cons, List.length_nil, Nat.reduceAdd, Nat.reduceSub, Array.replicate_succ, Array.replicate_zero, List.push_toArray, List.append_toArray, List.nil_append, List.cons_append]
  refine wpIn_wide.2 ?_
  have k0 := ((Blk.new W #[.slice ao l.length cap] 86).alloc (.cells #[.int .i64 leave] 3)).alloc (.cells #[.bool false] 4)
  have k1 := (Blk.new (W.alloc (.cells #[.slice ao l.length cap] 86)) #[.int .i64 leave] 3).alloc (.cells #[.bool false] 4)
  have k2 := Blk.new ((W.alloc (.cells #[.slice ao l.length cap] 86)).alloc (.cells #[.int .i64 leave] 3)) #[.bool false] 4
  simp only [World.size_alloc] at k1 k2
  have kB := (((Below.refl W.heap.size W).alloc (Nat.le_refl _) (.cells #[.slice ao l.length cap] 86)).alloc (by simp) (.cells #[.int .i64 leave] 3)).alloc (by simp; omega) (.cells #[.bool false] 4)
  have K0 := Lib.hid k0
  have K1 := Lib.hid k1
  have K2 := Lib.hid k2
  have KB := Lib.hid kB
  clear k0 k1 k2 kB
  have hnf : ∀ X p, (binOp .eql 88 (.func (.func 72) #[] #[p]) .nilFunc).run Try.prog X = .ok (.bool false) X := fun X p => by kernel_rfl
  by_cases hbig : 20000 < l.length
  · have dn1 : decide (20000 < l.length) = true := decide_eq_true hbig
    have dn2 : decide ((20000 : Int) < (l.length : Int)) = true := decide_eq_true (by omega)
    go_wp2_with (first
      | (go_at_call 40; (with_reducible refine (lives25 _).mono ?_); first
          | (rintro e w1 ⟨rfl, b1⟩; clear b1; fail)
          | (rintro e w1 ⟨rfl, b1⟩; have c0 := (K0.out.call b1).cell 0; have g1 := Lib.hid (K2.out.call b1); have g0 := Lib.hid (KB.out.trans (b1.mono KB.out.size)); simp only [List.getElem?_toArray, List.getElem?_cons_zero] at c0; clear K0 K2 KB)
          | (rintro e w2 ⟨rfl, b2⟩; have f2 := g1.out.call b2; have f0 := f2.frozen; have e0 := f2.cell 0; simp only [List.getElem?_toArray, List.getElem?_cons_zero] at e0; have f3 := Lib.hid f2; clear f2)))
    show LeavesInM _ _ _ _ _ _ (List.map mark []) _ _
    have gB := g0.out.trans (b2.mono g0.out.size)
    refine leaves_marks (n₀ := W.heap.size) [] _ (Marks.nil _ _) fun W' hT => ?_
    have q2 : Blk W' (W.heap.size + 2) #[.bool true] _ := hT.cells _ _ (f3.out.set 0 _) rfl
    exact ⟨_, results_bool rfl _ _ (W.heap.size + 2) true _ rfl q2, rfl, (gB.setCell (p := ⟨W.heap.size + 2, 0, none⟩) (Nat.le_add_right _ 2) _).trans hT.bel⟩
  · have dn1 : decide (20000 < l.length) = false := decide_eq_false hbig
    have dn2 : decide ((20000 : Int) < (l.length : Int)) = false := decide_eq_false (by omega)
    go_wp2_with (first
      | (go_at_call 40; (with_reducible refine (lives25 _).mono ?_); rintro e w1 ⟨rfl, b1⟩; have c0 := (K0.out.call b1).cell 0; simp only [List.getElem?_toArray, List.getElem?_cons_zero] at c0)
      | (go_at_call 52; (with_reducible refine (words_c _ ao l.length cap).mono ?_); rintro e w3 ⟨rfl, rfl⟩))
    have b1' := (b1.alloc b1.size (.cells #[.slice ao l.length cap] 86))
    have b1'' := b1'.alloc b1'.size (.cells #[.int .i64 0] 3)
    have j0 := K0.out.call b1''
    have j1 := K1.out.call b1''
    have j2 := K2.out.call b1''
    have jB := KB.out.trans (b1''.mono KB.out.size)
    have jpb := (Blk.new w1 #[.slice ao l.length cap] 86).alloc (.cells #[.int .i64 0] 3)
    have jt := Blk.new (w1.alloc (.cells #[.slice ao l.length cap] 86)) #[.int .i64 0] 3
    rw [World.size_alloc] at jt
    have hge : W.heap.size + 3 ≤ w1.heap.size := by
      have := b1.size
      simp only [World.size_alloc] at this
      omega
    show Code.wp _ _ _ _ ((w1.alloc (.cells #[.slice ao l.length cap] 86)).alloc (.cells #[.int .i64 0] 3))
    obtain ⟨w4, hw4⟩ : ∃ w4, (w1.alloc (.cells #[.slice ao l.length cap] 86)).alloc (.cells #[.int .i64 0] 3) = w4 := ⟨_, rfl⟩
    obtain ⟨pb, hpb⟩ : ∃ pb, w1.heap.size = pb := ⟨_, rfl⟩
    rw [hw4] at j0 j1 j2 jB jpb jt ⊢
    rw [hpb] at jpb jt hge ⊢
    have hTB : TB W w4 ao cap l leave pb (pb + 1) 0 := ⟨j0, j1, j2, jpb, jt, jB, by omega⟩
    have HTS := Lib.hid hTB
    clear b1' b1'' j0 j1 j2 jB jpb jt hge hw4 hpb hTB K0 K1 K2 KB c0 b1 hnf
    refine (wpIn_wide (n := 9)).1 ?_
    refine wpIn_loop (fun a wx => ∃ f, TJ W ao cap l leave pb f a wx) (fun a wx => 2 - (intOf ((wx.cell? (ptrOf (a.tmps.getD 6 undef))).getD undef)).toNat) ?_ ?_
    · exact TJ.in ⟨0, pb + 1, [], by kernel_rfl, by omega, HTS.out, Marks.nil _ _⟩
    · rintro a wx ⟨f, n, pt, Ds, rfl, hn2, hTS, hM⟩
      clear HTS
      have tc := hTS.tc.cell 0
      simp only [List.getElem?_toArray, List.getElem?_cons_zero] at tc
      have HNC := Lib.hid tc
      have HN2 := Lib.hid hn2
      rcases Nat.lt_or_ge n 2 with hlt | hge
      · have dn : decide ((n : Int) < 2) = true := decide_eq_true (by omega)
        have HS := Lib.hid hTS
        have HM := Lib.hid hM
        clear hTS hM
        gi_wp2
        have hlow := (Below.refl wx.heap.size wx).alloc (Nat.le_refl _) (.cells #[.int .i64 0] 3)
        have hl2 := HS.out.later hlow
        have hm2 := HM.out.later hlow
        have kn := Blk.new wx #[.int .i64 0] 3
        have hnp : wx.heap.size ≠ pt := fun e => by have := HS.out.tc.lt; omega
        have hpn1 : W.heap.size + 3 ≤ wx.heap.size := by have := HS.out.tc.lt; have := HS.out.hpt; omega
        show Code.wpIn _ _ _ _ _ _ (wx.alloc (.cells #[.int .i64 0] 3))
        obtain ⟨w0, hw0⟩ : ∃ w0, wx.alloc (.cells #[.int .i64 0] 3) = w0 := ⟨_, rfl⟩
        obtain ⟨pn, hpn⟩ : ∃ pn, wx.heap.size = pn := ⟨_, rfl⟩
        have hps : w0.heap.size = pn + 1 := by rw [← hw0, World.size_alloc, hpn]
        rw [hw0] at hl2 hm2 kn ⊢
        rw [hpn] at kn hnp hpn1 ⊢
        clear hw0 hlow tc
        have hn0 : W.heap.size ≤ w0.heap.size := hl2.bel.size
        have hDs : ∀ D ∈ Ds, D < w0.heap.size := fun D hD => (Array.getElem?_eq_some_iff.1 (hm2.2 D hD).2).1
        have hit := words_iter pb ao cap l H8.out (by omega) HNO.out (9 - 1) (by decide) W.heap.size w0 hn0
        obtain ⟨L, hL⟩ : ∃ L, l.length / 4 = L := ⟨_, rfl⟩
        rw [hL] at hit
        have HL := Lib.hid hL
        have HDS := Lib.hid hDs
        have HPS := Lib.hid hps
        have HNP := Lib.hid hnp
        have HPN := Lib.hid hpn1
        have HPW := Lib.hid hpn
        have HLT : Hid (n < 2) := Lib.hid hlt
        clear hL
        refine wpIn_rangeC rfl (by decide) (gf := 72) (ba := #[]) (lb := #[.pointer (some ⟨pb, 0, none⟩)]) rfl trivial (enters_of Try.func72 (by kernel_rfl) rfl) hit (Below.refl _ _) hn0 (fun _ => rfl)
          (fun j X W' => TB W W' ao cap l leave pb pt n ∧ Blk W' pn #[.int .i64 (j : Nat)] 3 ∧ Marks W.heap.size Ds W')
          (fun c j X W' => (TB W W' ao cap l leave pb pt n ∧ Blk W' pn #[.int .i64 (j : Nat)] 3 ∧ Marks W.heap.size Ds W') ∧ c = .exit 2 ∧ n = 0 ∧ (j : Int) = leave)
          (fun j X => (Abide.TB hn0).and (Abide.blk.and (Abide.marks hDs))) (fun c j X => ((Abide.TB hn0).and (Abide.blk.and (Abide.marks hDs))).and Abide.pure)
          (fun j X A B ⟨h1, h2, h3⟩ hb _ => ⟨h1.later hb, h2.below hb h2.lt, h3.later hb⟩) (fun c j X A B ⟨⟨h1, h2, h3⟩, h4⟩ hb _ => ⟨⟨h1.later hb, h2.below hb h2.lt, h3.later hb⟩, h4⟩)
          (fun j X W' h => ⟨h.1.pbx.cell 0, HR.out.later h.1.bel⟩) (fun c j X W' h => ⟨h.1.1.pbx.cell 0, HR.out.later h.1.1.bel⟩)
          ⟨hl2, kn, hm2⟩
          (fun j a' W' => a' = { tmps := #[f 0, f 1, .pointer (some ⟨W.heap.size, 0, none⟩), .pointer (some ⟨W.heap.size + 1, 0, none⟩), .pointer (some ⟨W.heap.size + 2, 0, none⟩), .func (.func 72) #[] #[.pointer (some ⟨pb, 0, none⟩)], .pointer (some ⟨pt, 0, none⟩), .pointer (some ⟨pn, 0, none⟩), .int .i64 ((4 * j : Nat) : Int), .int .u32 (WRD l j : Nat), f 10, f 11, f 12, f 13, f 14, f 15, f 16, f 17, f 18, f 19, .int .i64 (n : Nat), .bool true, f 22, f 23, .func (.func 72) #[] #[.pointer (some ⟨pb, 0, none⟩)], .int .i64 ((4 * j : Nat) : Int), .int .u32 (WRD l j : Nat), f 27, f 28, f 29, f 30, f 31, f 32, f 33, f 34, f 35, f 36, f 37, f 38, f 39, f 40, f 41, f 42, f 43, f 44, f 45, f 46, f 47, f 48, f 49, f 50, f 51, f 52, f 53, f 54, f 55, f 56, f 57, f 58, f 59, f 60, f 61, f 62, f 63, f 64, f 65, f 66, f 67, f 68, f 69, f 70, f 71, f 72, f 73, f 74, f 75, f 76, f 77, f 78, f 79, f 80, f 81, f 82, f 83, f 84, f 85, f 86, f 87, f 88, f 89, f 90, f 91, f 92, f 93, f 94, f 95], defers := [] })
          (fun j a' A B row h3 hg hr => h3) ?assign ?body ?done ?stop
        case assign =>
          rintro l' j X A K hX ⟨h1, h2, h3⟩ hj hK
          obtain ⟨i4, hi4⟩ : ∃ i4, 4 * j = i4 := ⟨_, rfl⟩
          have hK' := hK
          rw [hi4] at hK' ⊢
          gi_wp2
          exact hK' _ _ (KeepsFrom.refl _ _) (KX.refl _ _) (Below.refl _ _) ⟨h1, h2, h3⟩ rfl
        case body =>
          rintro l' j X a' A hl hX ⟨h1, h2, h3⟩ rfl hj
          have hjl : 4 * j + 4 ≤ l.length := by have := HL.out; omega
          obtain ⟨i, hi⟩ : ∃ i, 4 * j = i := ⟨_, rfl⟩
          have hwd : WRD l j = B8 l i + 256 * B8 l (i + 1) + 65536 * B8 l (i + 2) + 16777216 * B8 l (i + 3) := by unfold WRD; rw [hi]
          rw [hi] at hjl ⊢
          rw [hwd]
          obtain ⟨ad, rfl, _⟩ := HR.out 0 (by omega)
          have hcb : ∀ q, q < l.length → A.cell? (ad.add q) = some (.int .u8 (B8 l q : Nat)) := fun q hq => by
            obtain ⟨a2, e, hc⟩ := HR.out.later h1.bel q hq
            cases e
            exact hc
          have e0 := hcb i (by omega)
          have e1 := hcb (i + 1) (by omega)
          have e2 := hcb (i + 2) (by omega)
          have e3 := hcb (i + 3) (by omega)
          have d1 : A.cell? ⟨ad.block, ad.off + (i + 1), none⟩ = some (.int .u8 (B8 l (i + 1) : Nat)) := by have h := hcb (i + 1) (by omega); rwa [show ad.add (i + 1) = ⟨ad.block, ad.off + (i + 1), none⟩ from (by unfold Addr.add; simp)] at h
          have d2 : A.cell? ⟨ad.block, ad.off + (i + 2), none⟩ = some (.int .u8 (B8 l (i + 2) : Nat)) := by have h := hcb (i + 2) (by omega); rwa [show ad.add (i + 2) = ⟨ad.block, ad.off + (i + 2), none⟩ from (by unfold Addr.add; simp)] at h
          have d3 : A.cell? ⟨ad.block, ad.off + (i + 3), none⟩ = some (.int .u8 (B8 l (i + 3) : Nat)) := by have h := hcb (i + 3) (by omega); rwa [show ad.add (i + 3) = ⟨ad.block, ad.off + (i + 3), none⟩ from (by unfold Addr.add; simp)] at h
          have hb : ∀ j, B8 l j < 256 := fun j => by
            unfold B8
            cases h : l[j]? with
            | none => decide
            | some x => exact H8.out x (List.mem_of_getElem? h)
          have l0 := hb i
          have l1 := hb (i + 1)
          have l2 := hb (i + 2)
          have l3 := hb (i + 3)
          clear hb hcb hwd
          generalize B8 l i = x0 at *
          generalize B8 l (i + 1) = x1 at *
          generalize B8 l (i + 2) = x2 at *
          generalize B8 l (i + 3) = x3 at *
          have bx0 := h1.bx.cell 0
          have n0 := h2.cell 0
          have nf := h2.frozen
          simp only [List.getElem?_toArray, List.getElem?_cons_succ, List.getElem?_cons_zero] at bx0 n0
          have hpl : ∀ q v, ((A.drewN q).setCell ⟨pn, 0, none⟩ v).cell? ⟨pn, 0, none⟩ = some v := fun q v => by
            have hb : Blk (A.drewN q) pn _ _ := h2.below (below_drewN (Below.refl _ _)) h2.lt
            have := (hb.set 0 v).cell 0
            simpa using this
          have hpo : ∀ q v, ((A.drewN q).setCell ⟨pn, 0, none⟩ v).cell? ⟨pt, 0, none⟩ = some (.int .i64 (n : Nat)) := fun q v => by
            have hb : Blk (A.drewN q) pt _ _ := h1.tc.below (below_drewN (Below.refl _ _)) h1.tc.lt
            exact (hb.other 0 v (fun e => HNP.out e.symm)).cell 0
          have hpa : ∀ q v, ((A.drewN q).setCell ⟨pn, 0, none⟩ v).cell? ⟨W.heap.size + 1, 0, none⟩ = some (.int .i64 leave) := fun q v => by
            have hb : Blk (A.drewN q) (W.heap.size + 1) _ _ := h1.lv.below (below_drewN (Below.refl _ _)) h1.lv.lt
            exact (hb.other 0 v (fun e => by have := HPN.out; omega)).cell 0
          have hgo : ∀ q v, v = .int .i64 ((j + 1 : Nat) : Int) → KeepsFrom w0.heap.size A ((A.drewN q).setCell ⟨pn, 0, none⟩ v) ∧ KX X A ((A.drewN q).setCell ⟨pn, 0, none⟩ v) ∧ Below W.heap.size A ((A.drewN q).setCell ⟨pn, 0, none⟩ v) ∧ TB W ((A.drewN q).setCell ⟨pn, 0, none⟩ v) (some ad) cap l leave pb pt n ∧ Blk ((A.drewN q).setCell ⟨pn, 0, none⟩ v) pn #[.int .i64 ((j + 1 : Nat) : Int)] 3 ∧ Marks W.heap.size Ds ((A.drewN q).setCell ⟨pn, 0, none⟩ v) := fun q v hv => by
            subst hv
            have hd : Below A.heap.size A (A.drewN q) := below_drewN (Below.refl _ _)
            have hb : Blk (A.drewN q) pn _ _ := h2.below hd h2.lt
            exact ⟨(keeps_below hd).trans ((KeepsOthers.setCell _ _ _).from _), (KX.below (fun b h => (hX b h).2) hd).trans (fun b hb => heap_setCell_other _ ⟨pn, 0, none⟩ b _ (fun e => by have := (hX b hb).1; have := HPS.out; have e' : b = pn := e; omega)), (hd.mono h1.bel.size).setCell (p := ⟨pn, 0, none⟩) (show W.heap.size ≤ pn by have := HPN.out; omega) _, (h1.later hd).set hb HNP.out (by have := HPN.out; omega) _, hb.set 0 _, (h3.later hd).set hb 0 _⟩
          have HGO := Lib.hid hgo
          have hneq : ((i : Int) != 4 * (j : Int)) = false := by rw [bne_eq_false_iff_eq]; omega
          have hgt : decide ((l.length : Int) < (i : Int) + 4) = false := decide_eq_false (by omega)
          have hgt2 : decide (l.length < i + 4) = false := decide_eq_false (by omega)
          have hfin : ((x0 : Int) + 256 * (x1 : Int) + 65536 * (x2 : Int) + 16777216 * (x3 : Int) != (x0 : Int) + (x1 : Int) * 256 + (x2 : Int) * 65536 + (x3 : Int) * 16777216) = false := by rw [bne_eq_false_iff_eq]; omega
          clear h1 h2 h3 hgo
          gi_wp2
          refine wpIn_region_sets_lit (fun _ w' => ∃ q, w' = A.drewN q) (by kernel_rfl) (by kernel_rfl) (fun _ _ h => h) (by kernel_rfl) ⟨1, rfl⟩ ?_
          (repeat (first | (refine sets_quiet (fun w' => ∃ q, w' = A.drewN q) (fun _ _ h => h) rfl (fun _ _ _ h => h) rfl ?_; intro K hK; go_big_quiet_op; first | go_big_quiet_on | (refine ⟨_, fun _ => rfl, ?_⟩; go_big_quiet_on)) | (refine sets_nil rfl (fun _ _ _ h => h) _ rfl _ rfl ?_; simp only [Act.put, List.setIfInBounds_toArray, List.set_cons_succ, List.set_cons_zero]) | (refine sets_skip rfl (fun _ _ _ h => h) ?_; simp only [Act.put, List.setIfInBounds_toArray, List.set_cons_succ, List.set_cons_zero])))
          refine setb_run (.int .i64 (l.length : Nat)) rfl (fun _ _ _ h => h) (fun w => by simp [execOp, Act.eval, resolve, invoke, builtin, Result.andThen, run_len_slice (P := Try.prog) (t := 86) (h := Try.underlying86), goInt]) ?_
          simp only [Act.put, List.setIfInBounds_toArray, List.set_cons_succ, List.set_cons_zero]
          (repeat (first | (refine sets_quiet (fun w' => ∃ q, w' = A.drewN q) (fun _ _ h => h) rfl (fun _ _ _ h => h) rfl ?_; intro K hK; go_big_quiet_op; first | go_big_quiet_on | (refine ⟨_, fun _ => rfl, ?_⟩; go_big_quiet_on)) | (refine sets_nil rfl (fun _ _ _ h => h) _ rfl _ rfl ?_; simp only [Act.put, List.setIfInBounds_toArray, List.set_cons_succ, List.set_cons_zero]) | (refine sets_skip rfl (fun _ _ _ h => h) ?_; simp only [Act.put, List.setIfInBounds_toArray, List.set_cons_succ, List.set_cons_zero])))
          rintro S _ _ ⟨nq, rfl⟩
          clear e0 e1 e2 e3 d1 d2 d3 hfin hneq hgt hgt2 bx0
          rcases Nat.eq_zero_or_pos n with hz | hz
          · have z1 : ((n : Int) == 0) = true := by rw [beq_iff_eq]; omega
            by_cases hlv3 : ((j : Int) + 1 = leave)
            · have z2 : ((j : Int) + 1 == leave) = true := by rw [beq_iff_eq]; exact hlv3
              gi_wp2
              obtain ⟨k1, k2, k3, k4⟩ := HGO.out nq (.int .i64 leave) (by rw [← hlv3]; rfl)
              exact ⟨k1, k2, k3, k4, rfl, by omega, by omega⟩
            · have z2 : ((j : Int) + 1 == leave) = false := by rw [beq_eq_false_iff_ne]; exact hlv3
              gi_wp2
              exact HGO.out _ _ rfl
          · have z1 : ((n : Int) == 0) = false := by rw [beq_eq_false_iff_ne]; omega
            gi_wp2
            exact HGO.out _ _ rfl
        case done =>
          rintro D A hDw ⟨X, h1, h2, h3⟩ hK
          have hmk := h3.cons (Nat.le_trans hn0 hDw) hK (fun h => by have := HDS.out D h; omega)
          have bx0 := h1.bx.cell 0
          have n0 := h2.cell 0
          have tc1 := h1.tc.cell 0
          simp only [List.getElem?_toArray, List.getElem?_cons_succ, List.getElem?_cons_zero] at bx0 n0 tc1
          have hdv : Int.tdiv (l.length : Int) 4 = (L : Int) := by rw [← HL.out]; rfl
          have hdv2 : (l.length : Int) / 4 = (L : Int) := by rw [← HL.out]; rfl
          have z3 : ((L : Int) != (L : Int)) = false := by simp
          have H1 := Lib.hid h1
          have HMK := Lib.hid hmk
          clear h1 h2 h3 hmk
          gi_wp2
          refine ⟨TJ.in ⟨n + 1, A.heap.size, D :: Ds, by kernel_rfl, by omega, H1.out.next _ rfl, HMK.out.later ((Below.refl A.heap.size A).alloc (Nat.le_refl _) _)⟩, ?_⟩
          exact turnb_lt HNC.out HLT.out rfl
        case stop =>
          rintro D c j A hDw hj1 hjl ⟨X, ⟨h1, h2, h3⟩, rfl, rfl, hlv3⟩ hK
          have hmk := h3.cons (Nat.le_trans hn0 hDw) hK (fun h => by have := HDS.out D h; omega)
          have bx0 := h1.bx.cell 0
          have n0 := h2.cell 0
          have tc1 := h1.tc.cell 0
          have as0 := h1.lv.cell 0
          simp only [List.getElem?_toArray, List.getElem?_cons_succ, List.getElem?_cons_zero] at bx0 n0 tc1 as0
          have hdv : Int.tdiv (l.length : Int) 4 = (L : Int) := by rw [← HL.out]; rfl
          have hdv2 : (l.length : Int) / 4 = (L : Int) := by rw [← HL.out]; rfl
          have H1 := Lib.hid h1
          have HMK := Lib.hid hmk
          clear h1 h2 h3 hmk
          subst hlv3
          by_cases hjL : j = L
          · subst hjL
            have z3 : ((j : Int) != (j : Int)) = false := by simp
            gi_wp2
            refine ⟨TJ.in ⟨0 + 1, A.heap.size, D :: Ds, by kernel_rfl, by omega, H1.out.next _ rfl, HMK.out.later ((Below.refl A.heap.size A).alloc (Nat.le_refl _) _)⟩, ?_⟩
            exact turnb_lt HNC.out HLT.out rfl
          · have z3 : ((j : Int) != (L : Int)) = true := by rw [bne_iff_ne]; omega
            have z4 : ((j : Int) != (j : Int)) = false := by simp
            gi_wp2
            refine ⟨TJ.in ⟨0 + 1, A.heap.size, D :: Ds, by kernel_rfl, by omega, H1.out.next _ rfl, HMK.out.later ((Below.refl A.heap.size A).alloc (Nat.le_refl _) _)⟩, ?_⟩
            exact turnb_lt HNC.out HLT.out rfl
      · obtain rfl : n = 2 := by omega
        have HS := Lib.hid hTS
        have HM := Lib.hid hM
        clear hTS hM
        have dn : decide (((2 : Nat) : Int) < 2) = false := rfl
        gi_wp2
        go_wp2_with (first
          | (go_at_call 40; (with_reducible refine (lives25 _).mono ?_); rintro e w5 ⟨rfl, b5⟩; have f0 := (HS.out.later b5).res.frozen; have e0 := (HS.out.later b5).res.cell 0; simp only [List.getElem?_toArray, List.getElem?_cons_zero] at e0))
        show LeavesInM _ _ _ _ _ _ (List.map mark Ds) _ _
        have k5 := HS.out.later b5
        refine leaves_marks (n₀ := W.heap.size) Ds _ ((HM.out.later b5).set k5.res 0 _) fun W' hT => ?_
        have q2 : Blk W' (W.heap.size + 2) #[.bool true] _ := hT.cells _ _ (k5.res.set 0 _) rfl
        exact ⟨_, results_bool rfl _ _ (W.heap.size + 2) true _ rfl q2, rfl, (k5.bel.setCell (p := ⟨W.heap.size + 2, 0, none⟩) (Nat.le_add_right _ 2) _).trans hT.bel⟩
end Go.Proofs.Yteelconabmfnkaa
