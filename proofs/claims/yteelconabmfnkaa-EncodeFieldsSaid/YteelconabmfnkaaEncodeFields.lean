/- The law EncodeFields: its walk. -/
import Derived.Test.YteelconabmfnkaaLd
import Derived.Test.YteelconabmfnkaaPj
namespace Go.Proofs.Yteelconabmfnkaa
open Go Go.RowKit
set_option maxHeartbeats 4000000
set_option maxRecDepth 100000
set_option linter.unusedVariables false
set_option linter.unusedSimpArgs false
theorem efld_n (W : World) (x y : I11) (hx : Fin11 x) (hy : Fin11 y) (d : Nat) (hd : d < 256) (h : MAY x = false) (k : MAY y = false) : Calls Try.prog 18 #[.agg (instV x), .agg (instV y), .int .u8 (d : Nat)] W fun e w' => e = .returned (.bool true) ∧ Below W.heap.size W w' := by
  have CE := Lib.hid (enc_false x hx h)
  have CY := Lib.hid (enc_false y hy k)
  clear h k hx hy
  obtain ⟨op, form, frm, kind, rd, rs1, rs2, rs3, rm, imm, csr⟩ := x
  obtain ⟨yop, yform, yfrm, ykind, yrd, yrs1, yrs2, yrs3, yrm, yimm, ycsr⟩ := y
  have kx := (Blk.new W (instV ⟨op, form, frm, kind, rd, rs1, rs2, rs3, rm, imm, csr⟩) 27).alloc (.cells (instV ⟨yop, yform, yfrm, ykind, yrd, yrs1, yrs2, yrs3, yrm, yimm, ycsr⟩) 27)
  have ky := Blk.new (W.alloc (.cells (instV ⟨op, form, frm, kind, rd, rs1, rs2, rs3, rm, imm, csr⟩) 27)) (instV ⟨yop, yform, yfrm, ykind, yrd, yrs1, yrs2, yrs3, yrm, yimm, ycsr⟩) 27
  rw [World.size_alloc] at ky
  have B0 := ((Below.refl W.heap.size W).alloc (Nat.le_refl _) (.cells (instV ⟨op, form, frm, kind, rd, rs1, rs2, rs3, rm, imm, csr⟩) 27)).alloc (by simp) (.cells (instV ⟨yop, yform, yfrm, ykind, yrd, yrs1, yrs2, yrs3, yrm, yimm, ycsr⟩) 27)
  have KX := Lib.hid kx
  have KY := Lib.hid ky
  have HB := Lib.hid B0
  clear kx ky B0
  go_enter Try.func18, Try.ntmps18
  go_wp2_with (first
    | (go_at_call 20; (with_reducible refine (CE.out _).mono ?_); rintro e w1 ⟨rfl, b1⟩; clear CE; have k1 := KX.out.call b1; have l1 := KY.out.call b1)
    | (go_at_call 20; (with_reducible refine (CY.out _).mono ?_); rintro e w2 ⟨rfl, b2⟩; clear CY; have k2 := k1.call b2; have l2 := l1.call b2)
    | (go_at_call 23; (with_reducible refine (lives26 _).mono ?_); rintro e w7 ⟨rfl, b7⟩)
    | (refine wpList_load_blk_on rfl _ _ rfl _ rfl _ _ _ KX.out Try.underlying27 rfl (by kernel_rfl) ?_)
    | (refine wpList_load_blk_on rfl _ _ rfl _ rfl _ _ _ KY.out Try.underlying27 rfl (by kernel_rfl) ?_)
    | (refine wpList_load_blk_on rfl _ _ rfl _ rfl _ _ _ k1 Try.underlying27 rfl (by kernel_rfl) ?_)
    | (refine wpList_load_blk_on rfl _ _ rfl _ rfl _ _ _ l1 Try.underlying27 rfl (by kernel_rfl) ?_)
    | (refine wpList_load_blk_on rfl _ _ rfl _ rfl _ _ _ k2 Try.underlying27 rfl (by kernel_rfl) ?_)
    | (refine wpList_load_blk_on rfl _ _ rfl _ rfl _ _ _ l2 Try.underlying27 rfl (by kernel_rfl) ?_))
  go_ret
  have e1 := below_call HB.out b1
  have e2 := below_call e1 b2
  exact ⟨rfl, below_call e2 b7⟩
theorem efld_ny (W : World) (x y : I11) (hx : Fin11 x) (hy : Fin11 y) (d : Nat) (hd : d < 256) (h : MAY x = false) (k : MAY y = true) : Calls Try.prog 18 #[.agg (instV x), .agg (instV y), .int .u8 (d : Nat)] W fun e w' => e = .returned (.bool true) ∧ Below W.heap.size W w' := by
  have CE := Lib.hid (enc_false x hx h)
  obtain ⟨t, ht⟩ : ∃ t, WORD y = t := ⟨_, rfl⟩
  have CY := Lib.hid (enc_true y hy k t ht)
  clear ht
  clear h k hx hy
  obtain ⟨op, form, frm, kind, rd, rs1, rs2, rs3, rm, imm, csr⟩ := x
  obtain ⟨yop, yform, yfrm, ykind, yrd, yrs1, yrs2, yrs3, yrm, yimm, ycsr⟩ := y
  have kx := (Blk.new W (instV ⟨op, form, frm, kind, rd, rs1, rs2, rs3, rm, imm, csr⟩) 27).alloc (.cells (instV ⟨yop, yform, yfrm, ykind, yrd, yrs1, yrs2, yrs3, yrm, yimm, ycsr⟩) 27)
  have ky := Blk.new (W.alloc (.cells (instV ⟨op, form, frm, kind, rd, rs1, rs2, rs3, rm, imm, csr⟩) 27)) (instV ⟨yop, yform, yfrm, ykind, yrd, yrs1, yrs2, yrs3, yrm, yimm, ycsr⟩) 27
  rw [World.size_alloc] at ky
  have B0 := ((Below.refl W.heap.size W).alloc (Nat.le_refl _) (.cells (instV ⟨op, form, frm, kind, rd, rs1, rs2, rs3, rm, imm, csr⟩) 27)).alloc (by simp) (.cells (instV ⟨yop, yform, yfrm, ykind, yrd, yrs1, yrs2, yrs3, yrm, yimm, ycsr⟩) 27)
  have KX := Lib.hid kx
  have KY := Lib.hid ky
  have HB := Lib.hid B0
  clear kx ky B0
  go_enter Try.func18, Try.ntmps18
  go_wp2_with (first
    | (go_at_call 20; (with_reducible refine (CE.out _).mono ?_); rintro e w1 ⟨rfl, b1⟩; clear CE; have k1 := KX.out.call b1; have l1 := KY.out.call b1)
    | (go_at_call 20; (with_reducible refine (CY.out _).mono ?_); rintro e w2 ⟨rfl, b2⟩; clear CY; have k2 := k1.call b2; have l2 := l1.call b2)
    | (go_at_call 23; (with_reducible refine (lives26 _).mono ?_); rintro e w7 ⟨rfl, b7⟩)
    | (refine wpList_load_blk_on rfl _ _ rfl _ rfl _ _ _ KX.out Try.underlying27 rfl (by kernel_rfl) ?_)
    | (refine wpList_load_blk_on rfl _ _ rfl _ rfl _ _ _ KY.out Try.underlying27 rfl (by kernel_rfl) ?_)
    | (refine wpList_load_blk_on rfl _ _ rfl _ rfl _ _ _ k1 Try.underlying27 rfl (by kernel_rfl) ?_)
    | (refine wpList_load_blk_on rfl _ _ rfl _ rfl _ _ _ l1 Try.underlying27 rfl (by kernel_rfl) ?_)
    | (refine wpList_load_blk_on rfl _ _ rfl _ rfl _ _ _ k2 Try.underlying27 rfl (by kernel_rfl) ?_)
    | (refine wpList_load_blk_on rfl _ _ rfl _ rfl _ _ _ l2 Try.underlying27 rfl (by kernel_rfl) ?_))
  go_ret
  have e1 := below_call HB.out b1
  have e2 := below_call e1 b2
  exact ⟨rfl, below_call e2 b7⟩
theorem efld_y (W : World) (x y : I11) (hx : Fin11 x) (hy : Fin11 y) (d : Nat) (hd : d < 256) (h : MAY x = true) (k : MAY y = false) : Calls Try.prog 18 #[.agg (instV x), .agg (instV y), .int .u8 (d : Nat)] W fun e w' => e = .returned (.bool true) ∧ Below W.heap.size W w' := by
  obtain ⟨v, hv⟩ : ∃ v, WORD x = v := ⟨_, rfl⟩
  have CE := Lib.hid (enc_true x hx h v hv)
  obtain ⟨s, hs⟩ : ∃ s, d % 32 = s := ⟨_, rfl⟩
  have hs32 : s < 32 := by omega
  obtain ⟨hz, m, hm1, hm2, hu, hv32, hq1, hq2⟩ := turn_field h hs32
  obtain ⟨u, hu'⟩ : ∃ u, WORD { x with rs1 := s } = u := ⟨_, rfl⟩
  have hfz : Fin11 { x with rs1 := s } := ⟨hx.h0, hx.h1, by show s < 256; omega, hx.h3, hx.h4, hx.h5, hx.h6, hx.h7⟩
  have CZ := Lib.hid (enc_true { x with rs1 := s } hfz hz u hu')
  rw [hv, hu'] at hm1 hq1 hq2
  rw [hv] at hv32
  rw [hu'] at hu
  have CS : Hid (∀ X, Calls Try.prog 53 #[.int .u32 (v : Nat), .int .u32 (u : Nat)] X fun e w' => e = .returned (.tuple #[.int .u32 (m : Nat), .int .i64 0]) ∧ Below X.heap.size X w') := Lib.hid fun X => by
    have := same_c X v u hv32 hu
    rwa [hm1] at this
  have hq32 : v ^^^ u < 4294967296 := Nat.xor_lt_two_pow (n := 32) hv32 hu
  obtain ⟨q, hq⟩ : ∃ q, v ^^^ u = q := ⟨_, rfl⟩
  have e8 : bits .xor .u32 (v : Int) (u : Int) = ((q : Nat) : Int) := by rw [← hq]; exact xor32 v u hv32 hu
  rw [hq] at hq1 hq2 hq32
  have e9 : bits .andNot .u32 (q : Int) (m : Int) = 0 := by rw [u32_andNot_nat q m hq32 hm2, hq1]; rfl
  have e10 : bits .andNot .u32 (q : Int) 1015808 = 0 := by have := u32_andNot_nat q 1015808 hq32 (by decide); rw [hq2] at this; exact this
  have es : (d : Int) % 32 = (s : Int) := by omega
  have es2 : (d : Int).tmod 32 = (s : Int) := by rw [Int.tmod_eq_emod_of_nonneg (by omega)]; exact es
  have CY := Lib.hid (enc_false y hy k)
  clear hq hq1 hq2 hq32 hm1 hm2 hu hu' hv hv32 hfz hz hs
  clear h k hx hy
  obtain ⟨op, form, frm, kind, rd, rs1, rs2, rs3, rm, imm, csr⟩ := x
  obtain ⟨yop, yform, yfrm, ykind, yrd, yrs1, yrs2, yrs3, yrm, yimm, ycsr⟩ := y
  simp only [] at CZ
  have kx := (Blk.new W (instV ⟨op, form, frm, kind, rd, rs1, rs2, rs3, rm, imm, csr⟩) 27).alloc (.cells (instV ⟨yop, yform, yfrm, ykind, yrd, yrs1, yrs2, yrs3, yrm, yimm, ycsr⟩) 27)
  have ky := Blk.new (W.alloc (.cells (instV ⟨op, form, frm, kind, rd, rs1, rs2, rs3, rm, imm, csr⟩) 27)) (instV ⟨yop, yform, yfrm, ykind, yrd, yrs1, yrs2, yrs3, yrm, yimm, ycsr⟩) 27
  rw [World.size_alloc] at ky
  have B0 := ((Below.refl W.heap.size W).alloc (Nat.le_refl _) (.cells (instV ⟨op, form, frm, kind, rd, rs1, rs2, rs3, rm, imm, csr⟩) 27)).alloc (by simp) (.cells (instV ⟨yop, yform, yfrm, ykind, yrd, yrs1, yrs2, yrs3, yrm, yimm, ycsr⟩) 27)
  have KX := Lib.hid kx
  have KY := Lib.hid ky
  have HB := Lib.hid B0
  clear kx ky B0
  go_enter Try.func18, Try.ntmps18
  go_wp2_with (first
    | (go_at_call 20; (with_reducible refine (CE.out _).mono ?_); rintro e w1 ⟨rfl, b1⟩; clear CE; have k1 := KX.out.call b1; have l1 := KY.out.call b1)
    | (go_at_call 20; (with_reducible refine (CY.out _).mono ?_); rintro e w2 ⟨rfl, b2⟩; clear CY; have k2 := k1.call b2; have l2 := l1.call b2; have z2 := Blk.new w2 (instV ⟨op, form, frm, kind, rd, s, rs2, rs3, rm, imm, csr⟩) 27)
    | (go_at_call 20; (with_reducible refine (CZ.out _).mono ?_); rintro e w3 ⟨rfl, b3⟩; clear CZ)
    | (go_at_call 53; (with_reducible refine (CS.out _).mono ?_); rintro e w4 ⟨rfl, b4⟩; clear CS)
    | (go_at_call 23; (with_reducible refine (lives26 _).mono ?_); rintro e w7 ⟨rfl, b7⟩)
    | (refine wpList_load_blk_on rfl _ _ rfl _ rfl _ _ _ KX.out Try.underlying27 rfl (by kernel_rfl) ?_)
    | (refine wpList_load_blk_on rfl _ _ rfl _ rfl _ _ _ KY.out Try.underlying27 rfl (by kernel_rfl) ?_)
    | (refine wpList_load_blk_on rfl _ _ rfl _ rfl _ _ _ k1 Try.underlying27 rfl (by kernel_rfl) ?_)
    | (refine wpList_load_blk_on rfl _ _ rfl _ rfl _ _ _ l1 Try.underlying27 rfl (by kernel_rfl) ?_)
    | (refine wpList_load_blk_on rfl _ _ rfl _ rfl _ _ _ k2 Try.underlying27 rfl (by kernel_rfl) ?_)
    | (refine wpList_load_blk_on rfl _ _ rfl _ rfl _ _ _ l2 Try.underlying27 rfl (by kernel_rfl) ?_)
    | (refine wpList_load_blk_on rfl _ _ rfl _ rfl _ _ _ z2 Try.underlying27 rfl (by kernel_rfl) ?_))
  go_ret
  have e1 := below_call HB.out b1
  have e2 := below_call e1 b2
  have e3 := below_call (e2.alloc e2.size (.cells (instV ⟨op, form, frm, kind, rd, s, rs2, rs3, rm, imm, csr⟩) 27)) b3
  have e4 := below_call e3 b4
  exact ⟨rfl, below_call e4 b7⟩
theorem efld_yt (W : World) (x y : I11) (hx : Fin11 x) (hy : Fin11 y) (d : Nat) (hd : d < 256) (h : MAY x = true) (k : MAY y = true) (hc : decide (x = y) = true) : Calls Try.prog 18 #[.agg (instV x), .agg (instV y), .int .u8 (d : Nat)] W fun e w' => e = .returned (.bool true) ∧ Below W.heap.size W w' := by
  obtain ⟨v, hv⟩ : ∃ v, WORD x = v := ⟨_, rfl⟩
  have CE := Lib.hid (enc_true x hx h v hv)
  obtain ⟨s, hs⟩ : ∃ s, d % 32 = s := ⟨_, rfl⟩
  have hs32 : s < 32 := by omega
  obtain ⟨hz, m, hm1, hm2, hu, hv32, hq1, hq2⟩ := turn_field h hs32
  obtain ⟨u, hu'⟩ : ∃ u, WORD { x with rs1 := s } = u := ⟨_, rfl⟩
  have hfz : Fin11 { x with rs1 := s } := ⟨hx.h0, hx.h1, by show s < 256; omega, hx.h3, hx.h4, hx.h5, hx.h6, hx.h7⟩
  have CZ := Lib.hid (enc_true { x with rs1 := s } hfz hz u hu')
  rw [hv, hu'] at hm1 hq1 hq2
  rw [hv] at hv32
  rw [hu'] at hu
  have CS : Hid (∀ X, Calls Try.prog 53 #[.int .u32 (v : Nat), .int .u32 (u : Nat)] X fun e w' => e = .returned (.tuple #[.int .u32 (m : Nat), .int .i64 0]) ∧ Below X.heap.size X w') := Lib.hid fun X => by
    have := same_c X v u hv32 hu
    rwa [hm1] at this
  have hq32 : v ^^^ u < 4294967296 := Nat.xor_lt_two_pow (n := 32) hv32 hu
  obtain ⟨q, hq⟩ : ∃ q, v ^^^ u = q := ⟨_, rfl⟩
  have e8 : bits .xor .u32 (v : Int) (u : Int) = ((q : Nat) : Int) := by rw [← hq]; exact xor32 v u hv32 hu
  rw [hq] at hq1 hq2 hq32
  have e9 : bits .andNot .u32 (q : Int) (m : Int) = 0 := by rw [u32_andNot_nat q m hq32 hm2, hq1]; rfl
  have e10 : bits .andNot .u32 (q : Int) 1015808 = 0 := by have := u32_andNot_nat q 1015808 hq32 (by decide); rw [hq2] at this; exact this
  have es : (d : Int) % 32 = (s : Int) := by omega
  have es2 : (d : Int).tmod 32 = (s : Int) := by rw [Int.tmod_eq_emod_of_nonneg (by omega)]; exact es
  obtain ⟨t, ht⟩ : ∃ t, WORD y = t := ⟨_, rfl⟩
  have CY := Lib.hid (enc_true y hy k t ht)
  have heq := eq_inst x y
  rw [hc] at heq
  have hw : ((v : Int) == (t : Int)) = true := by
    have := of_decide_eq_true hc
    subst this
    rw [hv] at ht; subst ht; simp
  clear hc
  clear hq hq1 hq2 hq32 hm1 hm2 hu hu' hv hv32 hfz hz hs
  clear ht
  clear h k hx hy
  obtain ⟨op, form, frm, kind, rd, rs1, rs2, rs3, rm, imm, csr⟩ := x
  obtain ⟨yop, yform, yfrm, ykind, yrd, yrs1, yrs2, yrs3, yrm, yimm, ycsr⟩ := y
  simp only [] at CZ
  have kx := (Blk.new W (instV ⟨op, form, frm, kind, rd, rs1, rs2, rs3, rm, imm, csr⟩) 27).alloc (.cells (instV ⟨yop, yform, yfrm, ykind, yrd, yrs1, yrs2, yrs3, yrm, yimm, ycsr⟩) 27)
  have ky := Blk.new (W.alloc (.cells (instV ⟨op, form, frm, kind, rd, rs1, rs2, rs3, rm, imm, csr⟩) 27)) (instV ⟨yop, yform, yfrm, ykind, yrd, yrs1, yrs2, yrs3, yrm, yimm, ycsr⟩) 27
  rw [World.size_alloc] at ky
  have B0 := ((Below.refl W.heap.size W).alloc (Nat.le_refl _) (.cells (instV ⟨op, form, frm, kind, rd, rs1, rs2, rs3, rm, imm, csr⟩) 27)).alloc (by simp) (.cells (instV ⟨yop, yform, yfrm, ykind, yrd, yrs1, yrs2, yrs3, yrm, yimm, ycsr⟩) 27)
  have KX := Lib.hid kx
  have KY := Lib.hid ky
  have HB := Lib.hid B0
  clear kx ky B0
  go_enter Try.func18, Try.ntmps18
  go_wp2_with (first
    | (go_at_call 20; (with_reducible refine (CE.out _).mono ?_); rintro e w1 ⟨rfl, b1⟩; clear CE; have k1 := KX.out.call b1; have l1 := KY.out.call b1)
    | (go_at_call 20; (with_reducible refine (CY.out _).mono ?_); rintro e w2 ⟨rfl, b2⟩; clear CY; have k2 := k1.call b2; have l2 := l1.call b2; have z2 := Blk.new w2 (instV ⟨op, form, frm, kind, rd, s, rs2, rs3, rm, imm, csr⟩) 27)
    | (go_at_call 20; (with_reducible refine (CZ.out _).mono ?_); rintro e w3 ⟨rfl, b3⟩; clear CZ)
    | (go_at_call 53; (with_reducible refine (CS.out _).mono ?_); rintro e w4 ⟨rfl, b4⟩; clear CS)
    | (go_at_call 23; (with_reducible refine (lives26 _).mono ?_); rintro e w7 ⟨rfl, b7⟩)
    | (refine wpList_load_blk_on rfl _ _ rfl _ rfl _ _ _ KX.out Try.underlying27 rfl (by kernel_rfl) ?_)
    | (refine wpList_load_blk_on rfl _ _ rfl _ rfl _ _ _ KY.out Try.underlying27 rfl (by kernel_rfl) ?_)
    | (refine wpList_load_blk_on rfl _ _ rfl _ rfl _ _ _ k1 Try.underlying27 rfl (by kernel_rfl) ?_)
    | (refine wpList_load_blk_on rfl _ _ rfl _ rfl _ _ _ l1 Try.underlying27 rfl (by kernel_rfl) ?_)
    | (refine wpList_load_blk_on rfl _ _ rfl _ rfl _ _ _ k2 Try.underlying27 rfl (by kernel_rfl) ?_)
    | (refine wpList_load_blk_on rfl _ _ rfl _ rfl _ _ _ l2 Try.underlying27 rfl (by kernel_rfl) ?_)
    | (refine wpList_load_blk_on rfl _ _ rfl _ rfl _ _ _ z2 Try.underlying27 rfl (by kernel_rfl) ?_))
  go_ret
  have e1 := below_call HB.out b1
  have e2 := below_call e1 b2
  have e3 := below_call (e2.alloc e2.size (.cells (instV ⟨op, form, frm, kind, rd, s, rs2, rs3, rm, imm, csr⟩) 27)) b3
  have e4 := below_call e3 b4
  exact ⟨rfl, below_call e4 b7⟩
theorem efld_yf (W : World) (x y : I11) (hx : Fin11 x) (hy : Fin11 y) (d : Nat) (hd : d < 256) (h : MAY x = true) (k : MAY y = true) (hc : decide (x = y) = false) : Calls Try.prog 18 #[.agg (instV x), .agg (instV y), .int .u8 (d : Nat)] W fun e w' => e = .returned (.bool true) ∧ Below W.heap.size W w' := by
  obtain ⟨v, hv⟩ : ∃ v, WORD x = v := ⟨_, rfl⟩
  have CE := Lib.hid (enc_true x hx h v hv)
  obtain ⟨s, hs⟩ : ∃ s, d % 32 = s := ⟨_, rfl⟩
  have hs32 : s < 32 := by omega
  obtain ⟨hz, m, hm1, hm2, hu, hv32, hq1, hq2⟩ := turn_field h hs32
  obtain ⟨u, hu'⟩ : ∃ u, WORD { x with rs1 := s } = u := ⟨_, rfl⟩
  have hfz : Fin11 { x with rs1 := s } := ⟨hx.h0, hx.h1, by show s < 256; omega, hx.h3, hx.h4, hx.h5, hx.h6, hx.h7⟩
  have CZ := Lib.hid (enc_true { x with rs1 := s } hfz hz u hu')
  rw [hv, hu'] at hm1 hq1 hq2
  rw [hv] at hv32
  rw [hu'] at hu
  have CS : Hid (∀ X, Calls Try.prog 53 #[.int .u32 (v : Nat), .int .u32 (u : Nat)] X fun e w' => e = .returned (.tuple #[.int .u32 (m : Nat), .int .i64 0]) ∧ Below X.heap.size X w') := Lib.hid fun X => by
    have := same_c X v u hv32 hu
    rwa [hm1] at this
  have hq32 : v ^^^ u < 4294967296 := Nat.xor_lt_two_pow (n := 32) hv32 hu
  obtain ⟨q, hq⟩ : ∃ q, v ^^^ u = q := ⟨_, rfl⟩
  have e8 : bits .xor .u32 (v : Int) (u : Int) = ((q : Nat) : Int) := by rw [← hq]; exact xor32 v u hv32 hu
  rw [hq] at hq1 hq2 hq32
  have e9 : bits .andNot .u32 (q : Int) (m : Int) = 0 := by rw [u32_andNot_nat q m hq32 hm2, hq1]; rfl
  have e10 : bits .andNot .u32 (q : Int) 1015808 = 0 := by have := u32_andNot_nat q 1015808 hq32 (by decide); rw [hq2] at this; exact this
  have es : (d : Int) % 32 = (s : Int) := by omega
  have es2 : (d : Int).tmod 32 = (s : Int) := by rw [Int.tmod_eq_emod_of_nonneg (by omega)]; exact es
  obtain ⟨t, ht⟩ : ∃ t, WORD y = t := ⟨_, rfl⟩
  have CY := Lib.hid (enc_true y hy k t ht)
  have heq := eq_inst x y
  rw [hc] at heq
  have hw : ((v : Int) == (t : Int)) = false := by
    rw [beq_cast]
    have := of_decide_eq_false hc
    rw [beq_eq_false_iff_ne]
    intro e
    exact this (word_inj h k (hv.trans (e.trans ht.symm)))
  clear hc
  clear hq hq1 hq2 hq32 hm1 hm2 hu hu' hv hv32 hfz hz hs
  clear ht
  clear h k hx hy
  obtain ⟨op, form, frm, kind, rd, rs1, rs2, rs3, rm, imm, csr⟩ := x
  obtain ⟨yop, yform, yfrm, ykind, yrd, yrs1, yrs2, yrs3, yrm, yimm, ycsr⟩ := y
  simp only [] at CZ
  have kx := (Blk.new W (instV ⟨op, form, frm, kind, rd, rs1, rs2, rs3, rm, imm, csr⟩) 27).alloc (.cells (instV ⟨yop, yform, yfrm, ykind, yrd, yrs1, yrs2, yrs3, yrm, yimm, ycsr⟩) 27)
  have ky := Blk.new (W.alloc (.cells (instV ⟨op, form, frm, kind, rd, rs1, rs2, rs3, rm, imm, csr⟩) 27)) (instV ⟨yop, yform, yfrm, ykind, yrd, yrs1, yrs2, yrs3, yrm, yimm, ycsr⟩) 27
  rw [World.size_alloc] at ky
  have B0 := ((Below.refl W.heap.size W).alloc (Nat.le_refl _) (.cells (instV ⟨op, form, frm, kind, rd, rs1, rs2, rs3, rm, imm, csr⟩) 27)).alloc (by simp) (.cells (instV ⟨yop, yform, yfrm, ykind, yrd, yrs1, yrs2, yrs3, yrm, yimm, ycsr⟩) 27)
  have KX := Lib.hid kx
  have KY := Lib.hid ky
  have HB := Lib.hid B0
  clear kx ky B0
  go_enter Try.func18, Try.ntmps18
  go_wp2_with (first
    | (go_at_call 20; (with_reducible refine (CE.out _).mono ?_); rintro e w1 ⟨rfl, b1⟩; clear CE; have k1 := KX.out.call b1; have l1 := KY.out.call b1)
    | (go_at_call 20; (with_reducible refine (CY.out _).mono ?_); rintro e w2 ⟨rfl, b2⟩; clear CY; have k2 := k1.call b2; have l2 := l1.call b2; have z2 := Blk.new w2 (instV ⟨op, form, frm, kind, rd, s, rs2, rs3, rm, imm, csr⟩) 27)
    | (go_at_call 20; (with_reducible refine (CZ.out _).mono ?_); rintro e w3 ⟨rfl, b3⟩; clear CZ)
    | (go_at_call 53; (with_reducible refine (CS.out _).mono ?_); rintro e w4 ⟨rfl, b4⟩; clear CS)
    | (go_at_call 23; (with_reducible refine (lives26 _).mono ?_); rintro e w7 ⟨rfl, b7⟩)
    | (refine wpList_load_blk_on rfl _ _ rfl _ rfl _ _ _ KX.out Try.underlying27 rfl (by kernel_rfl) ?_)
    | (refine wpList_load_blk_on rfl _ _ rfl _ rfl _ _ _ KY.out Try.underlying27 rfl (by kernel_rfl) ?_)
    | (refine wpList_load_blk_on rfl _ _ rfl _ rfl _ _ _ k1 Try.underlying27 rfl (by kernel_rfl) ?_)
    | (refine wpList_load_blk_on rfl _ _ rfl _ rfl _ _ _ l1 Try.underlying27 rfl (by kernel_rfl) ?_)
    | (refine wpList_load_blk_on rfl _ _ rfl _ rfl _ _ _ k2 Try.underlying27 rfl (by kernel_rfl) ?_)
    | (refine wpList_load_blk_on rfl _ _ rfl _ rfl _ _ _ l2 Try.underlying27 rfl (by kernel_rfl) ?_)
    | (refine wpList_load_blk_on rfl _ _ rfl _ rfl _ _ _ z2 Try.underlying27 rfl (by kernel_rfl) ?_))
  go_ret
  have e1 := below_call HB.out b1
  have e2 := below_call e1 b2
  have e3 := below_call (e2.alloc e2.size (.cells (instV ⟨op, form, frm, kind, rd, s, rs2, rs3, rm, imm, csr⟩) 27)) b3
  have e4 := below_call e3 b4
  exact ⟨rfl, below_call e4 b7⟩
theorem walk_EncodeFields (x y : I11) (d : Nat) (W : World) (bx : Bx x) (by' : Bx y) (hd : d < 256) : Calls Try.prog 18 #[.agg (instV x), .agg (instV y), .int .u8 (d : Nat)] W fun e w' => e = .returned (.bool true) ∧ Below W.heap.size W w' := by
  cases h : MAY x <;> cases k : MAY y
  · exact efld_n W x y (fin_of bx) (fin_of by') d hd h k
  · exact efld_ny W x y (fin_of bx) (fin_of by') d hd h k
  · exact efld_y W x y (fin_of bx) (fin_of by') d hd h k
  · cases hc : decide (x = y)
    · exact efld_yf W x y (fin_of bx) (fin_of by') d hd h k hc
    · exact efld_yt W x y (fin_of bx) (fin_of by') d hd h k hc
end Go.Proofs.Yteelconabmfnkaa
