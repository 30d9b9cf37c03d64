/- Contract of abacuslaw28.both, case by case: Bytes, Put. -/
import Derived.Test.YtdgdmhmagdjeoaaNk
import Derived.Deep.Cut
namespace Go.Proofs.Ytdgdmhmagdjeoaa
open Go.RowKit
set_option maxHeartbeats 4000000
set_option maxRecDepth 100000
set_option linter.unusedVariables false
set_option linter.unusedSimpArgs false
theorem row_later {w w1 : World} {B : Nat} {v : Value} {l : List Nat} (h : Row w B v l) (hb : Below w.heap.size w w1) : Row w1 B v l := h.kept (below_grown hb none) (by cases v.ownBlock <;> simp)
theorem same_true (X : World) (a1 a2 : Option Addr) (n c1 c2 : Nat) (b : List Nat) (hn : b.length = n) (hb : n ≤ 9223372036854775807) (h1 : Rd X a1 b) (h2 : Rd X a2 b) :
    Calls Try.prog 12 #[.slice a1 n c1, .slice a2 n c2] X fun e w' => e = .returned (.bool true) ∧ ∃ q, w' = X.drewN q := by
  subst hn
  have := same_c X a1 a2 b b c1 c2 rfl hb h1 h2
  rwa [decide_eq_true rfl] at this
theorem BV_len {l : List Nat} {a : Nat} {k : Int} : (BV l a k).length ≤ l.length := by
  unfold BV
  split
  · simp [part]; omega
  · simp
theorem grown_new {w w1 w2 : World} {r r2 : Option Nat} (h : w.grownBy w1 r) (g : w1.grownBy w2 r2) (hr : ∀ k, r2 = some k → w.heap.size ≤ k) : w.grownBy w2 r :=
  ⟨g.os.trans h.os, g.tape.trans h.tape, g.output.trans h.output, Nat.le_trans h.size g.size, fun i hi hne => (g.block i (Nat.lt_of_lt_of_le hi h.size) (fun e => by have := hr i e.symm; omega)).trans (h.block i hi hne)⟩
/-- a row that came behind the memory is kept where the memory's row is written -/
theorem BothI.kr {w X Y : World} {B m c : Nat} {v : Value} {l : List Nat} {xo : Option Addr} {s : St} (h : BothI w B m v l xo c s) {u : Value} {d : List Nat} (hr : Row X w.heap.size u d) (hg : X.grownBy Y v.ownBlock) : Row Y w.heap.size u d := hr.kept hg (by
  cases hu : u.ownBlock with
  | none => exact .inl rfl
  | some b =>
    refine .inr fun e => ?_
    have h1 := (hr.lt b hu).1
    have h2 := (h.mem.own.lt b e.symm).2
    omega)
theorem BothI.neb {w : World} {B m c : Nat} {v : Value} {l : List Nat} {xo : Option Addr} {s : St} (h : BothI w B m v l xo c s) {b : Nat} (hb : w.heap.size ≤ b) : some b ≠ v.ownBlock := fun e => by
  have := (h.mem.own.lt b e.symm).2
  omega
/-- the memory is kept where a row behind it is written -/
theorem BothI.km {w X Y : World} {B m c : Nat} {v : Value} {l l' : List Nat} {xo : Option Addr} {s : St} (h : BothI w B m v l xo c s) {r : Option Nat} (hm : MemIs X B m v l') (hg : X.grownBy Y r) (hr : ∀ k, r = some k → w.heap.size ≤ k) : MemIs Y B m v l' := hm.kept hg (fun e => by
    have h1 := hr m e.symm
    have h2 := h.mem.head.lt
    omega) (by
  cases hv : v.ownBlock with
  | none => exact .inl rfl
  | some b =>
    refine .inr fun e => ?_
    have h1 := hr b e.symm
    have h2 := (h.mem.own.lt b hv).2
    omega)
/-- what was handed back is kept where a row that lies between is written -/
theorem BothI.kx {w w2 X Y : World} {B m c c' : Nat} {v : Value} {l l' : List Nat} {xo xo' : Option Addr} {s : St} (h : BothI w B m v l xo c s) {r : Option Nat} (hx : Xs X xo' c' l') (hl : l'.length = l.length) (ho : xo' = xo ∨ ∀ a, xo' = some a → w2.heap.size ≤ a.block) (hg : X.grownBy Y r) (hr : ∀ k, r = some k → w.heap.size ≤ k ∧ k < w2.heap.size) : Xs Y xo' c' l' := hx.kept' hg fun a ha hne e => by
  obtain ⟨h1, h2⟩ := hr a.block e.symm
  rcases ho with rfl | ho
  · have := h.xs.lt (fun e => hne (List.eq_nil_of_length_eq_zero (by rw [hl, e]; rfl))) a ha
    omega
  · have := ho a ha
    omega
theorem both2 (w : World) (B m c : Nat) (v : Value) (l : List Nat) (xo : Option Addr) (s : St) (h : BothI w B m v l xo c s) (h0 : s.how = 2) :
    Calls Try.prog 27 #[.pointer (some ⟨m, 0, none⟩), .slice xo l.length c, .agg (stepV s)] w (BothP w B m v l.length xo) := by
  have hin := h.st w (World.grownBy.refl _ _)
  have h16 := h.mem.len
  obtain ⟨er, her⟩ : ∃ V, bchk l.length s.sa s.nn = V := ⟨_, rfl⟩
  obtain ⟨b, hb⟩ : ∃ V, BV l s.sa s.nn = V := ⟨_, rfl⟩
  obtain ⟨bl, hbl⟩ : ∃ V, b.length = V := ⟨_, rfl⟩
  have hbl2 : bl ≤ 16777216 := by have := @BV_len l s.sa s.nn; rw [hb, hbl] at this; omega
  have C1 : Hid (∀ X, Below w.heap.size w X → Calls Try.prog 18 #[.pointer (some ⟨m, 0, none⟩), .int .u64 (s.sa : Nat), .int .i64 s.nn] X fun e w' => ∃ ao c, e = .returned (.tuple #[.slice ao bl c, .int .i64 er]) ∧ Row w' X.heap.size (.slice ao bl c) b ∧ Below X.heap.size X w') := Lib.hid fun X hX => by
    obtain ⟨ao, cap, hv, _⟩ := Row.form h.mem.own
    have hm := h.mem
    rw [hv] at hm
    have := bytes_any X B m ao l.length cap s.sa s.nn l (hm.later hX) hin.sa hin.nn.1 hin.nn.2
    rw [her, hb] at this
    unfold Gave at this
    rw [hbl] at this
    exact this.mono fun e w' ⟨a, c, h1, h2, h3, _⟩ => ⟨a, c, h1, h2, h3⟩
  obtain ⟨n, hn⟩ : ∃ n, l.length = n := ⟨_, rfl⟩
  have HN := Lib.hid hn
  have H := Lib.hid h
  have C2 : Hid (∀ X, Below w.heap.size w X → Calls Try.prog 37 #[.slice xo n c, .int .u64 (s.sa : Nat), .int .i64 s.nn] X fun e w' => ∃ ao c, e = .returned (.tuple #[.slice ao bl c, .int .i64 er]) ∧ Row w' X.heap.size (.slice ao bl c) b ∧ Below X.heap.size X w') := Lib.hid fun X hX => by
    have := rbytes_any X xo c s.sa s.nn l (h.xs.later hX) h16 hin.sa hin.nn.1 hin.nn.2
    rw [her, hb, hn] at this
    unfold Gave at this
    rw [hbl] at this
    exact this.mono fun e w' ⟨a, c, h1, h2, h3, _⟩ => ⟨a, c, h1, h2, h3⟩
  have HBL := Lib.hid hbl
  have hckk : (er == er) = true := by simp
  rw [hn]
  obtain ⟨how, on, wd, nn, sa, hi, lo, dao, dc, data, pao, pc, pats⟩ := s
  simp only [] at h0 C1 C2
  subst h0
  have hb1 := below_alloc w (.cells (stepV ⟨2, on, wd, nn, sa, hi, lo, dao, dc, data, pao, pc, pats⟩) 41)
  have hk1 := Blk.new w (stepV ⟨2, on, wd, nn, sa, hi, lo, dao, dc, data, pao, pc, pats⟩) 41
  have HB1 := Lib.hid hb1
  have HK1 := Lib.hid hk1
  clear h hin her hb hbl hn h16 hb1 hk1
  go_enter Try.func27, Try.ntmps27
  go_wp2_with (first
    | (go_at_call 18; (with_reducible refine (C1.out _ HB1.out).mono ?_); rintro e w2 ⟨a1, c1, rfl, r1, b2⟩; have k2 := blkc HK1.out b2; have d3 := k2.cell 3; have d4 := k2.cell 4; simp only [List.getElem?_toArray, List.getElem?_cons_succ, List.getElem?_cons_zero] at d3 d4; have B2 := Lib.hid (HB1.out.trans (b2.mono HB1.out.size)); have R1 := Lib.hid (Row.lower r1 HB1.out.size); clear k2 b2 r1)
    | (go_at_call 37; (with_reducible refine (C2.out _ B2.out).mono ?_); rintro e w3 ⟨a2, c2, rfl, r2, b3⟩; have R3 := Lib.hid (row_later R1.out b3); have S3 := Lib.hid r2; have B3 := Lib.hid (B2.out.trans (b3.mono B2.out.size)); clear b3 r2)
    | (go_at_call 12; (with_reducible refine (same_true _ _ _ _ _ _ b HBL.out (by omega) R3.out.rd S3.out.rd).mono ?_); rintro e w4 ⟨rfl, q4, rfl⟩; have R4 := Lib.hid (R3.out.drewN q4); have B4 := Lib.hid (below_drewN B3.out (k := q4)))
    | (go_at_call 26; (with_reducible refine (spoil_any _ _ _ b (by have := HBL.out; omega) R4.out).mono ?_); rintro e w5 ⟨rfl, g5, k5⟩; have B5 := Lib.hid (row_grown (B' := 0) B4.out B4.out.size R4.out g5); clear g5 k5))
  go_ret2
  have hg := below_grown B5.out v.ownBlock
  exact ⟨xo, c, l, rfl, HN.out, H.out.mem.later B5.out, H.out.xk hg, hg, .inl rfl⟩
theorem both3 (w : World) (B m c : Nat) (v : Value) (l : List Nat) (xo : Option Addr) (s : St) (h : BothI w B m v l xo c s) (h0 : s.how = 3) :
    Calls Try.prog 27 #[.pointer (some ⟨m, 0, none⟩), .slice xo l.length c, .agg (stepV s)] w (BothP w B m v l.length xo) := by
  have hin := h.st w (World.grownBy.refl _ _)
  have h16 := h.mem.len
  obtain ⟨er, her⟩ : ∃ V, putE l s.sa s.data = V := ⟨_, rfl⟩
  obtain ⟨l', hl'⟩ : ∃ V, putX l s.sa s.data = V := ⟨_, rfl⟩
  have hll : l'.length = l.length := by rw [← hl', putX_len]
  obtain ⟨dl, hdl⟩ : ∃ V, s.data.length = V := ⟨_, rfl⟩
  have hdb := hin.dlen
  obtain ⟨n, hn⟩ : ∃ n, l.length = n := ⟨_, rfl⟩
  have HN := Lib.hid (hll.trans hn)
  have HLL := Lib.hid hll
  have H := Lib.hid h
  have C1 : Hid (∀ X, w.grownBy X v.ownBlock → Below w.heap.size w X → Calls Try.prog 38 #[.slice xo n c, .int .u64 (s.sa : Nat), .slice s.dao dl s.dc] X fun e w' => ∃ ao c, e = .returned (.tuple #[.slice ao n c, .int .i64 er]) ∧ Xs w' ao c l' ∧ Below X.heap.size X w' ∧ (ao = xo ∨ ∀ a, ao = some a → X.heap.size ≤ a.block)) := Lib.hid fun X hg hX => by
    have := rput_any X xo s.dao c s.dc s.sa l s.data (h.xs.later hX) (h.st X hg).xs h16 (by omega) hin.sa
    rw [her, hl', hn, hdl] at this
    unfold GaveX at this
    rw [hll, hn] at this
    exact this
  have C2 : Hid (∀ X io ic, w.grownBy X v.ownBlock → MemIs X B m v l → Rd X io s.data → Calls Try.prog 20 #[.pointer (some ⟨m, 0, none⟩), .int .u64 (s.sa : Nat), .slice io dl ic] X fun e w' => e = .returned (.int .i64 er) ∧ MemIs w' B m v l' ∧ X.grownBy w' v.ownBlock) := Lib.hid fun X io ic hX hm hr => by
    obtain ⟨ao, cap, hv, _⟩ := Row.form h.mem.own
    rw [hv] at hm
    have := put_any X B m ao io l.length cap s.sa ic l s.data hm (by omega) hin.small hr hin.sa
    rw [her, hl', hdl] at this
    rw [hv]
    exact this
  have HDL := Lib.hid hdl
  have HX0 := Lib.hid (fun X hX => (h.st X hX).xs)
  have hckk : (er == er) = true := by simp
  rw [hdl] at hdb
  rw [hn]
  obtain ⟨how, on, wd, nn, sa, hi, lo, dao, dc, data, pao, pc, pats⟩ := s
  simp only [] at h0 C1 C2 hdl HDL HX0
  subst h0
  have hb1 := below_alloc w (.cells (stepV ⟨3, on, wd, nn, sa, hi, lo, dao, dc, data, pao, pc, pats⟩) 41)
  have hk1 := Blk.new w (stepV ⟨3, on, wd, nn, sa, hi, lo, dao, dc, data, pao, pc, pats⟩) 41
  obtain ⟨W, hW⟩ : ∃ W, w.alloc (.cells (stepV ⟨3, on, wd, nn, sa, hi, lo, dao, dc, data, pao, pc, pats⟩) 41) = W := ⟨_, rfl⟩
  rw [hW] at hb1 hk1
  have d0 := hk1.cell 0
  have d7 := hk1.cell 7
  simp only [List.getElem?_toArray, List.getElem?_cons_succ, List.getElem?_cons_zero] at d0 d7
  rw [hdl] at d7
  have HB1 := Lib.hid hb1
  have HK1 := Lib.hid hk1
  have HD7 := Lib.hid d7
  have HXW := Lib.hid (HX0.out W (below_grown hb1 _))
  have HW := Lib.hid hW
  clear h hin her hl' hll hdl hn h16 hb1 hk1 hW d0 d7
  go_enter Try.func27, Try.ntmps27
  go_upto_region 16 with fail
  change Code.wp _ _ _ _ (w.alloc (.cells (stepV ⟨3, on, wd, nn, sa, hi, lo, dao, dc, data, pao, pc, pats⟩) 41))
  rw [HW.out]
  have d7 := HD7.out
  clear HD7 HW
  go_wp2_with (first
    | (at_builtin; refine wpList_append8 rfl (.const (.slice none 0 0)) (.tmp 120) rfl w.heap.size (.slice none 0 0) [] rfl (World.ownsRow_nil _ _ _ _) _ _ _ rfl data HDL.out (fun e => by have := HXW.out.nil e; have := HDL.out; omega) HXW.out.rd (by have := HDL.out; simp only [List.length_nil]; omega) HB1.out.size ?_; intro v2 w2 hrow2 hg2 hnil2; rw [List.nil_append] at hrow2; obtain ⟨io, ic, rfl, _⟩ := Row.form hrow2; rw [HDL.out] at hrow2; simp only [HDL.out]; have b2 := grown_below hg2; have k2 := blkc HK1.out b2; have d4 := k2.cell 4; have d7 := k2.cell 7; simp only [List.getElem?_toArray, List.getElem?_cons_succ, List.getElem?_cons_zero, HDL.out] at d4 d7; have K2 := Lib.hid k2; have R2 := Lib.hid hrow2; have B2 := Lib.hid (HB1.out.trans (b2.mono HB1.out.size)); clear hrow2 hg2 hnil2 b2 k2)
    | (go_at_call 38; (with_reducible refine (C1.out _ (below_grown B2.out _) B2.out).mono ?_); rintro e w3 ⟨xo3, c3, rfl, x3, b3, o3⟩; have k3 := blkc K2.out b3; have d4 := k3.cell 4; simp only [List.getElem?_toArray, List.getElem?_cons_succ, List.getElem?_cons_zero] at d4; have K3 := Lib.hid k3; have R3 := Lib.hid (row_later R2.out b3); have B3 := Lib.hid (B2.out.trans (b3.mono B2.out.size)); have X3 := Lib.hid x3; have O3 := Lib.hid o3; clear k3 b3 x3 o3)
    | (go_at_call 20; (with_reducible refine (C2.out _ _ _ (below_grown B3.out _) (H.out.mem.later B3.out) R3.out.rd).mono ?_); rintro e w4 ⟨rfl, m4, g4⟩; have k4 := grown_blk g4 K3.out (H.out.neb (Nat.le_refl _)); have d7 := k4.cell 7; simp only [List.getElem?_toArray, List.getElem?_cons_succ, List.getElem?_cons_zero, HDL.out] at d7; have R4 := Lib.hid (H.out.kr R3.out g4); have M4 := Lib.hid m4; have G4 := Lib.hid (grown_trans (below_grown B3.out _) g4); have X4 := Lib.hid (X3.out.kept' g4 (H.out.ap' B2.out.size HLL.out O3.out)); clear k4 m4 g4)
    | (go_at_call 12; (with_reducible refine (same_true _ _ _ _ _ _ data HDL.out (by omega) R4.out.rd (HX0.out _ G4.out).rd).mono ?_); rintro e w5 ⟨rfl, q5, rfl⟩; have R5 := Lib.hid (R4.out.drewN q5))
    | (go_at_call 26; (with_reducible refine (spoil_any _ _ _ data (by have := HDL.out; omega) R5.out).mono ?_); rintro e w6 ⟨rfl, g6, k6⟩; have G6 := Lib.hid g6; clear g6 k6))
  go_ret2
  have hr : ∀ k, (Value.slice io dl ic).ownBlock = some k → w.heap.size ≤ k ∧ k < w2.heap.size := fun k hk => R2.out.lt k hk
  refine ⟨xo3, c3, l', rfl, HN.out, H.out.km (M4.out.later (below_drewN (Below.refl _ _) (k := q5))) G6.out fun k hk => (hr k hk).1, H.out.kx (w2 := w2) (X4.out.later (below_drewN (Below.refl _ _) (k := q5))) HLL.out O3.out G6.out hr, grown_new (grown_drewN G4.out q5) G6.out fun k hk => (hr k hk).1, O3.out.imp id fun ho a ha => Nat.le_trans B2.out.size (ho a ha)⟩
end Go.Proofs.Ytdgdmhmagdjeoaa
