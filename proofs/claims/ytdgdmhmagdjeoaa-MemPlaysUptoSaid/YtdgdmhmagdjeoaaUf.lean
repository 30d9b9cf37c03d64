/- Contracts of mem.Load, mem.Store. -/
import Derived.Test.YtdgdmhmagdjeoaaUe
import Derived.Test.YtdgdmhmagdjeoaaKka
namespace Go.Proofs.Ytdgdmhmagdjeoaa
open Go.RowKit
set_option maxHeartbeats 4000000
set_option maxRecDepth 100000
set_option linter.unusedVariables false
set_option linter.unusedSimpArgs false
set_option exponentiation.threshold 1000
/-- the number whose bytes, the lowest first, are l -/
def leN : List Nat → Nat
  | [] => 0
  | x :: l => 256 * leN l + x
theorem leN_lt : ∀ (l : List Nat), (∀ x ∈ l, x < 256) → leN l < 256 ^ l.length
  | [], _ => by decide
  | x :: l, h => by
    have h1 := leN_lt l fun y hy => h y (by simp [hy])
    have h2 := h x (by simp)
    rw [List.length_cons, Nat.pow_succ]
    show 256 * leN l + x < _
    omega
def part (l : List Nat) (a n : Nat) : List Nat := (l.drop a).take n
theorem part_zero (l : List Nat) (a : Nat) : part l a 0 = [] := by simp [part]
theorem part_length {l : List Nat} {a n : Nat} (h : a + n ≤ l.length) : (part l a n).length = n := by simp [part]; omega
theorem part_small {l : List Nat} (h : ∀ x ∈ l, x < 256) (a n : Nat) : ∀ x ∈ part l a n, x < 256 := fun x hx => h x (List.mem_of_mem_drop (List.mem_of_mem_take hx))
theorem part_step {l : List Nat} {a n : Nat} (h : a < l.length) : leN (part l a (n + 1)) = 256 * leN (part l (a + 1) n) + l[a]?.getD 0 := by
  unfold part
  rw [List.drop_eq_getElem_cons h, List.take_succ_cons, List.getElem?_eq_getElem h]
  rfl
/-- two words of a number -/
theorem or_add (x y : Nat) (h : y < 256) : 256 * x ||| y = 256 * x + y := by
  have := Nat.shiftLeft_add_eq_or_of_lt (i := 8) (b := y) h x
  rw [Nat.shiftLeft_eq] at this
  rw [show 256 * x = x * 2 ^ 8 by omega]; exact this.symm
theorem or_add_int (x y : Nat) (hx : x < 72057594037927936) (h : y < 256) : bits .or .u64 ((x : Int) * 256) (y : Int) = ((256 * x + y : Nat) : Int) := by
  rw [show (x : Int) * 256 = ((256 * x : Nat) : Int) by omega, or_nat _ _ (by omega) (by omega), or_add x y h]
theorem shift_hi (B b : Nat) (hB : B < 256 ^ 15) (hb : b < 256) :
    bits .or .u64 (IntKind.u64.wrap (((B / 18446744073709551616 : Nat) : Int) * 256)) (((B % 18446744073709551616 : Nat) : Int) / 72057594037927936) = (((256 * B + b) / 18446744073709551616 : Nat) : Int) := by
  obtain ⟨q, hq⟩ : ∃ q, B / 18446744073709551616 = q := ⟨_, rfl⟩
  obtain ⟨r, hr⟩ : ∃ r, B % 18446744073709551616 = r := ⟨_, rfl⟩
  have hd := Nat.div_add_mod B 18446744073709551616
  have hrl : r < 18446744073709551616 := by rw [← hr]; exact Nat.mod_lt _ (by decide)
  rw [hq, hr] at hd
  have hql : q < 72057594037927936 := by
    rw [← hq]; exact Nat.div_lt_of_lt_mul (Nat.lt_of_lt_of_le hB (by decide))
  rw [hq, hr]
  clear hq hr hB
  subst hd
  obtain ⟨t, ht⟩ : ∃ t, r / 72057594037927936 = t := ⟨_, rfl⟩
  obtain ⟨u, hu⟩ : ∃ u, r % 72057594037927936 = u := ⟨_, rfl⟩
  have hd2 := Nat.div_add_mod r 72057594037927936
  have hul : u < 72057594037927936 := by rw [← hu]; exact Nat.mod_lt _ (by decide)
  rw [ht, hu] at hd2
  have e1 : (r : Int) / 72057594037927936 = ((t : Nat) : Int) := by rw [← ht]; omega
  have htl : t < 256 := by omega
  have e2 : IntKind.u64.wrap ((q : Int) * 256) = (q : Int) * 256 := by rw [IntKind.wrap_u64]; omega
  rw [e1, e2, or_add_int q t hql htl]
  clear e1 e2 ht hu
  subst hd2
  congr 1
  symm
  exact Nat.div_eq_of_lt_le (by omega) (by omega)
theorem shift_lo (B b : Nat) (hb : b < 256) :
    bits .or .u64 (IntKind.u64.wrap (((B % 18446744073709551616 : Nat) : Int) * 256)) (b : Int) = (((256 * B + b) % 18446744073709551616 : Nat) : Int) := by
  obtain ⟨t, ht⟩ : ∃ t, B / 72057594037927936 = t := ⟨_, rfl⟩
  obtain ⟨u, hu⟩ : ∃ u, B % 72057594037927936 = u := ⟨_, rfl⟩
  have hd2 := Nat.div_add_mod B 72057594037927936
  have hul : u < 72057594037927936 := by rw [← hu]; exact Nat.mod_lt _ (by decide)
  rw [ht, hu] at hd2
  clear ht hu
  subst hd2
  have e : IntKind.u64.wrap ((((72057594037927936 * t + u) % 18446744073709551616 : Nat) : Int) * 256) = (u : Int) * 256 := by
    rw [IntKind.wrap_u64]; omega
  rw [e, or_add_int u b hul hb]
  congr 1
  omega
theorem bits_one (x y : Nat) : (#[.int .u64 (x : Nat), .int .u64 (y : Nat)] : Array Value).all (·.oneCell') = true := by simp [Value.oneCell']
theorem load_bad (w : World) (m : Nat) (ao : Option Addr) (n cap a : Nat) (k x : Int) (h : Head w m ao n cap) (ha : a < 18446744073709551616) (hk : -9223372036854775808 ≤ k) (hk2 : k ≤ 9223372036854775807) (hx : chk n a k = x) (hx0 : (x != 0) = true) :
    Calls Try.prog 15 #[.pointer (some ⟨m, 0, none⟩), .int .u64 a, .int .i64 k] w fun e w' => e = .returned (.tuple #[.agg #[.int .u64 0, .int .u64 0], .int .i64 x]) ∧ Below w.heap.size w w' := by
  have C1 : Hid (∀ W, Head W m ao n cap → Calls Try.prog 32 #[.pointer (some ⟨m, 0, none⟩), .int .u64 a, .int .i64 k] W fun e w' => e = .returned (.int .i64 x) ∧ w' = W) := Lib.hid fun W hW => by rw [← hx]; exact check_c W m ao n cap a k hW ha hk hk2
  have hh := h.alloc (.cells #[.int .u64 0, .int .u64 0] 35)
  clear h hx ha hk hk2
  go_enter Try.func15, Try.ntmps15
  go_wp2_with (first
    | (go_at_call 32; (with_reducible refine (C1.out _ hh).mono ?_); rintro e w' ⟨rfl, rfl⟩))
  exact bodyPost_ret (results_cell_tmp rfl _ _ w.heap.size 35 _ _ rfl (Blk.new _ _ _) Try.underlying35 rfl (by kernel_rfl)) rfl ⟨rfl, (Below.refl _ w).alloc (Nat.le_refl _) _⟩
def idx (j : Nat) : Int := (j : Int) - 1
theorem idx_succ (j : Nat) : idx (j + 1) = (j : Int) := by unfold idx; omega
theorem idx_zero : idx 0 = -1 := rfl
theorem load_c (w : World) (B m : Nat) (ao : Option Addr) (n cap a k : Nat) (l : List Nat) (h : MemIs w B m (.slice ao n cap) l) (hk : widB k = true) (hak : a + k ≤ n) :
    Calls Try.prog 15 #[.pointer (some ⟨m, 0, none⟩), .int .u64 a, .int .i64 k] w fun e w' =>
      e = .returned (.tuple #[.agg #[.int .u64 (leN (part l a k) / 18446744073709551616 : Nat), .int .u64 (leN (part l a k) % 18446744073709551616 : Nat)], .int .i64 0]) ∧ Below w.heap.size w w' := by
  have hw16 : k ≤ 16 ∧ 1 ≤ k := by
    simp only [widB, Bool.or_eq_true, beq_iff_eq] at hk; omega
  have hchk : chk n a k = 0 := by
    unfold chk; rw [hk, thB_nat, decide_eq_true hak]; rfl
  have hd := h.hd
  have hlen := hd.len
  have hsm := Lib.hid h.small
  have HN := Lib.hid h.own.n_eq
  have HRD := Lib.hid h.own.rd
  have hh := hd.alloc (.cells #[.int .u64 0, .int .u64 0] 35)
  have C1 : Hid (∀ W, Head W m ao n cap → Calls Try.prog 32 #[.pointer (some ⟨m, 0, none⟩), .int .u64 a, .int .i64 k] W fun e w' => e = .returned (.int .i64 0) ∧ w' = W) := Lib.hid fun W hW => by rw [← hchk]; exact check_c W m ao n cap a k hW (by omega) (by omega) (by omega)
  have HD := Lib.hid hd
  obtain ⟨hm, hk1⟩ := hw16
  clear h hk hchk hd
  go_enter Try.func15, Try.ntmps15
  go_wp2_with (first
    | (go_at_call 32; (with_reducible refine (C1.out _ hh).mono ?_); rintro e w' ⟨rfl, rfl⟩))
  have hmN : m < w.heap.size := World.block_lt_of_cell? w _ HD.out.made
  go_loopw [10] (fun i wr => ∃ j hi lo : Nat, j ≤ k ∧ i = .int .i64 (idx j) ∧ Blk wr (w.heap.size + 1) #[.int .u64 hi, .int .u64 lo] 35 ∧ Blk wr w.heap.size #[.int .u64 0, .int .u64 0] 35 ∧ Below w.heap.size w wr ∧
      Hid (leN (part l (a + j) (k - j)) / 18446744073709551616 = hi ∧ leN (part l (a + j) (k - j)) % 18446744073709551616 = lo)) (fun i _ => (intOf i + 1).toNat)
  case atStart => exact ⟨k, 0, 0, by omega, rfl, by have := Blk.new (w.alloc (.cells #[.int .u64 0, .int .u64 0] 35)) #[.int .u64 0, .int .u64 0] 35; simpa using this, (Blk.new _ _ _).alloc _, ((Below.refl _ w).alloc (Nat.le_refl _) _).alloc (by simp) _, Lib.hid (by rw [Nat.sub_self, part_zero]; exact ⟨rfl, rfl⟩)⟩
  case round =>
    obtain ⟨j, hi, lo, hj, rfl, hb1, hb0, hB, HP⟩ := hrel
    rcases j with _ | j
    · rw [idx_zero]
      have c1 := hb1.cell 0
      have c2 := hb1.cell 1
      have HB1 := Lib.hid hb1
      have HB0 := Lib.hid hb0
      have HBB := Lib.hid hB
      clear hb1 hb0 hB
      go_wp2_with (first
        | (refine wpList_load_blk rfl 35 _ rfl (w.heap.size + 1) rfl 35 _ _ HB1.out Try.underlying35 rfl (by kernel_rfl) ?_)
        | (refine wpList_store_blk rfl 35 _ _ rfl w.heap.size #[.int .u64 hi, .int .u64 lo] rfl rfl 35 _ HB0.out (by kernel_rfl) rfl (bits_one _ _) ?_))
      have hP := HP.out
      rw [Nat.sub_zero, Nat.add_zero] at hP
      rw [hP.1, hP.2]
      exact bodyPost_ret (results_cell_tmp rfl _ _ w.heap.size 35 _ _ rfl (Blk.row HB0.out _) Try.underlying35 rfl (by kernel_rfl)) rfl ⟨rfl, below_setRow HBB.out (Nat.le_refl _) _⟩
    · rw [idx_succ]
      obtain ⟨r, hr⟩ : ∃ r, k - (j + 1) = r := ⟨_, rfl⟩
      have hkr : k - j = r + 1 := by omega
      obtain ⟨e, he⟩ : ∃ e, a + j = e := ⟨_, rfl⟩
      have hen : e < n := by omega
      obtain ⟨ad, had, hcd⟩ := HRD.out e (by rw [← HN.out]; exact hen)
      obtain ⟨b, hbb⟩ : ∃ b, l[e]?.getD 0 = b := ⟨_, rfl⟩
      have hb8 : b < 256 := by rw [← hbb]; exact getD_small hsm.out e
      have hst := part_step (l := l) (a := e) (n := r) (by rw [← HN.out]; exact hen)
      rw [hbb] at hst hcd
      obtain ⟨V, hV⟩ : ∃ V, leN (part l (e + 1) r) = V := ⟨_, rfl⟩
      have hVlt : V < 256 ^ 15 := by
        rw [← hV]
        refine Nat.lt_of_lt_of_le (leN_lt _ (part_small hsm.out _ _)) ?_
        rw [part_length (by rw [← HN.out]; omega)]
        exact Nat.pow_le_pow_right (by decide) (by omega)
      have hP := HP.out
      rw [show a + (j + 1) = e + 1 by omega, hr, hV] at hP
      rw [hV] at hst
      have K1 := shift_hi V b hVlt hb8
      have K2 := shift_lo V b hb8
      rw [hP.1, hP.2] at K1
      rw [hP.2] at K2
      obtain ⟨hi2, hh1⟩ : ∃ x, (256 * V + b) / 18446744073709551616 = x := ⟨_, rfl⟩
      obtain ⟨lo2, hh2⟩ : ∃ x, (256 * V + b) % 18446744073709551616 = x := ⟨_, rfl⟩
      rw [hh1] at K1
      rw [hh2] at K2
      have HNX : Hid (leN (part l (a + j) (k - j)) / 18446744073709551616 = hi2 ∧ leN (part l (a + j) (k - j)) % 18446744073709551616 = lo2) := Lib.hid (by
        rw [he, hkr, hst]; exact ⟨hh1, hh2⟩)
      have HK1 := Lib.hid K1
      have HK2 := Lib.hid K2
      have KE : (a : Int) + (j : Int) = (e : Int) := by omega
      have c1 := hb1.cell 0
      have c2 := hb1.cell 1
      have f1 := hb1.frozen 0
      have hcr := (hB.cell (p := ad.add e) (World.block_lt_of_cell? w _ hcd)).trans hcd
      have hmr := (hB.cell (p := ⟨m, 1, none⟩) hmN).trans HD.out.row
      simp only [List.getElem?_toArray, List.getElem?_cons_zero, List.getElem?_cons_succ] at c1 c2
      have HCD := Lib.hid hcd
      have HB1 := Lib.hid hb1
      have HB0 := Lib.hid hb0
      have HBB := Lib.hid hB
      subst had
      clear hb1 hb0 hB hP HP hst hV hVlt hbb hcd K1 K2 hh1 hh2 hr hkr he
      go_wp2
      rw [HK1.out]
      have hB2 : Blk (wr.setCell ⟨w.heap.size + 1, 0, none⟩ (.int .u64 (hi2 : Nat))) (w.heap.size + 1) #[.int .u64 (hi2 : Nat), .int .u64 (lo : Nat)] 35 := HB1.out.set 0 _
      have hB0 := HB0.out.other (b' := w.heap.size + 1) 0 (.int .u64 (hi2 : Nat)) (by omega)
      have hBB := HBB.out.setCell (p := ⟨w.heap.size + 1, 0, none⟩) (by simp) (.int .u64 (hi2 : Nat))
      clear c1 c2 f1 hcr hmr HB1 HB0 HBB
      generalize wr.setCell ⟨w.heap.size + 1, 0, none⟩ (.int .u64 (hi2 : Nat)) = w2 at *
      have c2 := hB2.cell 1
      have f2 := hB2.frozen 1
      have hcr := (hBB.cell (p := ad.add e) (World.block_lt_of_cell? w _ HCD.out)).trans HCD.out
      have hmr := (hBB.cell (p := ⟨m, 1, none⟩) hmN).trans HD.out.row
      simp only [List.getElem?_toArray, List.getElem?_cons_zero, List.getElem?_cons_succ] at c2
      have HB2 := Lib.hid hB2
      have HB0 := Lib.hid hB0
      have HBB := Lib.hid hBB
      clear hB2 hB0 hBB
      refine wp_region_tail [_, _, _, _, _, _, _, _, _, _, _, _, _, _, _] [_, _] (fun _ w' => ∃ q, w' = w2.drewN q) (by kernel_rfl) (by kernel_rfl) (by kernel_rfl) ⟨1, rfl⟩ ?_
      (repeat (first | (refine sets_quiet (fun w' => ∃ q, w' = w2.drewN q) (fun _ _ h => h) rfl (fun _ _ _ h => h) rfl ?_; intro K hK; go_big_quiet_op; first | go_big_quiet_on | (refine ⟨_, fun _ => rfl, ?_⟩; go_big_quiet_on)) | (refine sets_nil rfl (fun _ _ _ h => h) _ rfl _ rfl ?_; simp only [Act.put, List.setIfInBounds_toArray, List.set_cons_succ, List.set_cons_zero]) | (refine sets_skip rfl (fun _ _ _ h => h) ?_; simp only [Act.put, List.setIfInBounds_toArray, List.set_cons_succ, List.set_cons_zero])))
      rintro S _ _ ⟨q, rfl⟩
      rw [HK2.out]
      go_wp2
      go_roundw
      case rel => exact ⟨j, hi2, lo2, by omega, rfl, (HB2.out.drewN q).set 1 _, (HB0.out.drewN q).other 1 _ (by omega), (below_drewN HBB.out).setCell (by simp) _, HNX⟩
      case measure => (simp [intOf]; try omega)
/-! Store -/
/-- the n lowest bytes of X, the lowest first -/
def leB (n X : Nat) : List Nat := (List.range n).map fun i => X / 256 ^ i % 256
theorem leB_length (n X : Nat) : (leB n X).length = n := by simp [leB]
theorem leB_small (n X : Nat) : ∀ x ∈ leB n X, x < 256 := by
  intro x hx
  obtain ⟨i, _, rfl⟩ := List.mem_map.1 hx
  exact Nat.mod_lt _ (by decide)
theorem leB_succ (n X : Nat) : leB (n + 1) X = leB n X ++ [X / 256 ^ n % 256] := by simp [leB, List.range_succ]
theorem put_snoc {l x : List Nat} {a b : Nat} (h : a + x.length < l.length) : put l a (x ++ [b]) = (put l a x).set (a + x.length) b := by
  unfold put
  rw [List.set_append_right _ _ (by rw [List.length_take]; omega), List.set_append_right _ _ (by rw [List.length_take]; omega), List.length_take, Nat.min_eq_left (by omega), Nat.add_sub_cancel_left, Nat.sub_self, List.drop_eq_getElem_cons h, List.set_cons_zero, List.append_assoc, List.length_append]
  rfl
theorem put_nil (l : List Nat) (a : Nat) : put l a [] = l := by simp [put]
theorem part_put {l x : List Nat} {a i n : Nat} (ha : a ≤ l.length) (h : i + n ≤ x.length) : part (put l a x) (a + i) n = part x i n := by
  unfold part put
  rw [List.drop_append, List.length_take, Nat.min_eq_left ha, List.drop_eq_nil_of_le (by rw [List.length_take]; omega), List.nil_append, Nat.add_sub_cancel_left, List.drop_append_of_le_length (by omega), List.take_append_of_le_length (by rw [List.length_drop]; omega)]
theorem shr_lo (hi lo : Nat) (h1 : hi < 18446744073709551616) (h2 : lo < 18446744073709551616) :
    bits .or .u64 ((lo : Int) / 256) (IntKind.u64.wrap ((hi : Int) * 72057594037927936)) = (((18446744073709551616 * hi + lo) / 256 % 18446744073709551616 : Nat) : Int) := by
  have e1 : (lo : Int) / 256 = ((lo / 256 : Nat) : Int) := by omega
  obtain ⟨t, ht⟩ : ∃ t, lo / 256 = t := ⟨_, rfl⟩
  obtain ⟨u, hu⟩ : ∃ u, lo % 256 = u := ⟨_, rfl⟩
  have hd2 := Nat.div_add_mod lo 256
  have hul : u < 256 := by rw [← hu]; exact Nat.mod_lt _ (by decide)
  rw [ht] at e1
  rw [ht, hu] at hd2
  clear ht hu
  subst hd2
  obtain ⟨q, hq⟩ : ∃ q, hi / 256 = q := ⟨_, rfl⟩
  obtain ⟨r, hr⟩ : ∃ r, hi % 256 = r := ⟨_, rfl⟩
  have hd := Nat.div_add_mod hi 256
  have hrl : r < 256 := by rw [← hr]; exact Nat.mod_lt _ (by decide)
  rw [hq, hr] at hd
  clear hq hr
  subst hd
  have e2 : IntKind.u64.wrap (((256 * q + r : Nat) : Int) * 72057594037927936) = ((72057594037927936 * r : Nat) : Int) := by
    rw [IntKind.wrap_u64]; omega
  have ho : t ||| 72057594037927936 * r = 72057594037927936 * r + t := by
    have := Nat.shiftLeft_add_eq_or_of_lt (i := 56) (b := t) (by omega) r
    rw [Nat.shiftLeft_eq, Nat.or_comm] at this
    rw [show 72057594037927936 * r = r * 2 ^ 56 by omega]; exact this.symm
  rw [e1, e2, or_nat _ _ (by omega) (by omega), ho]
  congr 1
  omega
theorem wrap8 (lo : Nat) : IntKind.u8.wrap (lo : Int) = ((lo % 256 : Nat) : Int) := by rw [IntKind.wrap_u8]; omega
theorem store_bad (w : World) (m : Nat) (ao : Option Addr) (n cap a hi lo : Nat) (k x : Int) (h : Head w m ao n cap) (ha : a < 18446744073709551616) (hk : -9223372036854775808 ≤ k) (hk2 : k ≤ 9223372036854775807) (hx : chk n a k = x) (hx0 : (x != 0) = true) :
    Calls Try.prog 14 #[.pointer (some ⟨m, 0, none⟩), .int .u64 a, .int .i64 k, .agg #[.int .u64 hi, .int .u64 lo]] w fun e w' => e = .returned (.int .i64 x) ∧ Below w.heap.size w w' := by
  have C1 : Hid (∀ W, Head W m ao n cap → Calls Try.prog 32 #[.pointer (some ⟨m, 0, none⟩), .int .u64 a, .int .i64 k] W fun e w' => e = .returned (.int .i64 x) ∧ w' = W) := Lib.hid fun W hW => by rw [← hx]; exact check_c W m ao n cap a k hW ha hk hk2
  have hh := h.alloc (.cells #[.int .u64 (hi : Nat), .int .u64 (lo : Nat)] 35)
  clear h hx ha hk hk2
  go_enter Try.func14, Try.ntmps14
  go_wp2_with (first
    | (go_at_call 32; (with_reducible refine (C1.out _ hh).mono ?_); rintro e w' ⟨rfl, rfl⟩))
  go_ret
  exact ⟨rfl, (Below.refl _ w).alloc (Nat.le_refl _) _⟩
theorem store_c (w : World) (B m : Nat) (ao : Option Addr) (n cap a k hi lo : Nat) (l : List Nat) (h : MemIs w B m (.slice ao n cap) l) (hk : widB k = true) (hak : a + k ≤ n) (h1 : hi < 18446744073709551616) (h2 : lo < 18446744073709551616) :
    Calls Try.prog 14 #[.pointer (some ⟨m, 0, none⟩), .int .u64 a, .int .i64 k, .agg #[.int .u64 hi, .int .u64 lo]] w fun e w' =>
      e = .returned (.int .i64 0) ∧ MemIs w' B m (.slice ao n cap) (put l a (leB k (18446744073709551616 * hi + lo))) ∧ w.grownBy w' (Value.slice ao n cap).ownBlock := by
  have hw16 : k ≤ 16 ∧ 1 ≤ k := by
    simp only [widB, Bool.or_eq_true, beq_iff_eq] at hk; omega
  obtain ⟨g, rfl⟩ : ∃ g, ao = some ⟨g, 0, none⟩ := by
    rcases h.own.shape with ⟨e, rfl⟩ | ⟨g, c, e, _⟩
    · have := h.own.n_eq; simp at this; omega
    · simp only [Value.slice.injEq] at e; exact ⟨g, e.1⟩
  show Calls _ _ _ _ fun e w' => e = _ ∧ _ ∧ w.grownBy w' (some g)
  have hchk : chk n a k = 0 := by
    unfold chk; rw [hk, thB_nat, decide_eq_true hak]; rfl
  have hd := h.hd
  have hlen := hd.len
  have hsm := Lib.hid h.small
  have HN := Lib.hid h.own.n_eq
  have hgm : g ≠ m := fun e => h.ne (by rw [e]; rfl)
  have hmN := h.head.lt
  have hgN := (h.own.lt g rfl).2
  have HLE := h.le
  have hh := hd.alloc (.cells #[.int .u64 (hi : Nat), .int .u64 (lo : Nat)] 35)
  have C1 : Hid (∀ W, Head W m (some ⟨g, 0, none⟩) n cap → Calls Try.prog 32 #[.pointer (some ⟨m, 0, none⟩), .int .u64 a, .int .i64 k] W fun e w' => e = .returned (.int .i64 0) ∧ w' = W) := Lib.hid fun W hW => by rw [← hchk]; exact check_c W m _ n cap a k hW (by omega) (by omega) (by omega)
  have HH := Lib.hid h.head
  have HO := Lib.hid h.own
  obtain ⟨X, hX⟩ : ∃ X, 18446744073709551616 * hi + lo = X := ⟨_, rfl⟩
  have HX := Lib.hid hX
  rw [hX]
  obtain ⟨hm, hk1⟩ := hw16
  have hBB := (Below.refl w.heap.size w).alloc (Nat.le_refl _) (.cells #[.int .u64 (hi : Nat), .int .u64 (lo : Nat)] 35)
  clear h hk hchk hd hX
  go_enter Try.func14, Try.ntmps14
  go_wp2_with (first
    | (go_at_call 32; (with_reducible refine (C1.out _ hh).mono ?_); rintro e w' ⟨rfl, rfl⟩))
  go_loopw [19] (fun i wr => ∃ j hi lo : Nat, j ≤ k ∧ i = .int .i64 j ∧ hi < 18446744073709551616 ∧ lo < 18446744073709551616 ∧ Blk wr w.heap.size #[.int .u64 hi, .int .u64 lo] 35 ∧ Blk wr m #[.bool true, .slice (some ⟨g, 0, none⟩) n cap] 45 ∧
      Row wr B (.slice (some ⟨g, 0, none⟩) n cap) (put l a (leB j X)) ∧ w.grownBy wr (some g) ∧ Hid (18446744073709551616 * hi + lo = X / 256 ^ j)) (fun i _ => k - (intOf i).toNat)
  case atStart => exact ⟨0, hi, lo, by omega, rfl, h1, h2, Blk.new _ _ _, HH.out.alloc _, by
      show Row _ _ _ (put l a [])
      rw [put_nil]; exact HO.out.alloc _, World.grownBy_alloc _ _ _, Lib.hid (by rw [HX.out]; simp)⟩
  case round =>
    obtain ⟨j, hi, lo, hj, rfl, h1, h2, hb, hbm, hrow, hg, HV⟩ := hrel
    by_cases hlt : j < k
    · obtain ⟨e, he⟩ : ∃ e, a + j = e := ⟨_, rfl⟩
      have hen : e < n := by omega
      have KE : (a : Int) + (j : Int) = (e : Int) := by omega
      have hpl : (put l a (leB j X)).length = n := by rw [put_length (by rw [leB_length, ← HN.out]; omega)]; exact HN.out.symm
      have hcg := hrow.cell e (by rw [hpl]; exact hen)
      have hfg := hrow.frozen e
      have HSET : Hid (∀ q, Row ((wr.drewN q).setCell ⟨g, e, none⟩ (.int .u8 (lo % 256 : Nat))) B (.slice (some ⟨g, 0, none⟩) n cap) (put l a (leB (j + 1) X))) := Lib.hid (fun q => by
        have h3 := (hrow.drewN q).set e (lo % 256)
        have h4 : X / 256 ^ j % 256 = lo % 256 := by rw [← HV.out]; omega
        rw [leB_succ, put_snoc (by rw [leB_length, ← HN.out]; omega), leB_length, he, h4]
        exact h3)
      have HNX : Hid (18446744073709551616 * (hi / 256) + (18446744073709551616 * hi + lo) / 256 % 18446744073709551616 = X / 256 ^ (j + 1)) := Lib.hid (by
        rw [Nat.pow_succ, ← Nat.div_div_eq_div_mul, ← HV.out]; omega)
      have hl2 : (18446744073709551616 * hi + lo) / 256 % 18446744073709551616 < 18446744073709551616 := Nat.mod_lt _ (by decide)
      have HK8 : Hid ((lo : Int) % 256 = ((lo % 256 : Nat) : Int)) := Lib.hid (by omega)
      have HKL := Lib.hid (shr_lo hi lo h1 h2)
      have HKH : Hid ((hi : Int) / 256 = ((hi / 256 : Nat) : Int)) := Lib.hid (by omega)
      obtain ⟨b8, hb8⟩ : ∃ x, lo % 256 = x := ⟨_, rfl⟩
      obtain ⟨lo2, hlo2⟩ : ∃ x, (18446744073709551616 * hi + lo) / 256 % 18446744073709551616 = x := ⟨_, rfl⟩
      obtain ⟨hi2, hhi2⟩ : ∃ x, hi / 256 = x := ⟨_, rfl⟩
      rw [hb8] at HSET HK8
      rw [hlo2] at HNX hl2 HKL
      rw [hhi2] at HNX HKH
      have hhl : hi2 < 18446744073709551616 := by omega
      have c1 := hb.cell 0
      have c2 := hb.cell 1
      have hmr := hbm.cell 1
      simp only [List.getElem?_toArray, List.getElem?_cons_zero, List.getElem?_cons_succ] at c1 c2 hmr
      have HB := Lib.hid hb
      have HBM := Lib.hid hbm
      have HG := Lib.hid hg
      clear hb hbm hrow hg HV hb8 hlo2 hhi2 hpl he
      go_wp2
      refine wp_region_tail [_, _, _, _, _, _, _, _, _, _, _] [_, _] (fun _ w' => ∃ q, w' = wr.drewN q) (by kernel_rfl) (by kernel_rfl) (by kernel_rfl) ⟨1, rfl⟩ ?_
      (repeat (first | (refine sets_quiet (fun w' => ∃ q, w' = wr.drewN q) (fun _ _ h => h) rfl (fun _ _ _ h => h) rfl ?_; intro K hK; go_big_quiet_op; first | go_big_quiet_on | (refine ⟨_, fun _ => rfl, ?_⟩; go_big_quiet_on)) | (refine sets_nil rfl (fun _ _ _ h => h) _ rfl _ rfl ?_; simp only [Act.put, List.setIfInBounds_toArray, List.set_cons_succ, List.set_cons_zero]) | (refine sets_skip rfl (fun _ _ _ h => h) ?_; simp only [Act.put, List.setIfInBounds_toArray, List.set_cons_succ, List.set_cons_zero])))
      rintro S _ _ ⟨q, rfl⟩
      rw [HK8.out]
      have hb3 := (HB.out.drewN q).other (b' := g) e (.int .u8 (b8 : Nat)) (by omega)
      have c1 := hb3.cell 0
      have c2 := hb3.cell 1
      have f1 := hb3.frozen 0
      have f2 := hb3.frozen 1
      simp only [List.getElem?_toArray, List.getElem?_cons_zero, List.getElem?_cons_succ] at c1 c2
      have HB3 := Lib.hid hb3
      clear hb3 HB
      go_wp2
      rw [HKL.out, HKH.out]
      go_roundw
      case rel =>
        have hN : (Value.slice (some ⟨g, 0, none⟩) n cap).ownBlock ≠ some w.heap.size := by simp only [Value.ownBlock, ne_eq, Option.some.injEq]; omega
        exact ⟨j + 1, hi2, lo2, by omega, by go_num, hhl, hl2, (HB3.out.set 1 _).set 0 _, (((HBM.out.drewN q).other (b' := g) e _ (Ne.symm hgm)).other (b' := w.heap.size) 1 _ (by omega)).other (b' := w.heap.size) 0 _ (by omega),
          ((HSET.out q).other hN 1 _).other hN 0 _, grown_set_new (grown_set_new (grown_set_row (grown_drewN HG.out q) e _) (by simp) _) (by simp) _, HNX⟩
      case measure => (simp [intOf]; try omega)
    · obtain rfl : j = k := by omega
      have hpl : (put l a (leB j X)).length = l.length := put_length (by rw [leB_length, ← HN.out]; omega)
      have HPL := Lib.hid hpl
      have hs2 := put_small hsm.out (leB_small j X) (a := a)
      clear hpl
      go_wp2
      go_ret
      exact ⟨rfl, ⟨hbm, HLE, hrow, hs2, by rw [HPL.out, ← HN.out]; exact hlen⟩, hg⟩
end Go.Proofs.Ytdgdmhmagdjeoaa
