/- Contract of abacuslaw28.both, case by case: Load, Store, Within. -/
import Derived.Test.YtdgdmhmagdjeoaaNj
import Derived.Test.YtdgdmhmagdjeoaaUi
namespace Go.Proofs.Ytdgdmhmagdjeoaa
open Go.RowKit
set_option maxHeartbeats 4000000
set_option maxRecDepth 100000
set_option linter.unusedVariables false
set_option linter.unusedSimpArgs false
theorem blkc {w w1 : World} {b : Nat} {cs : Array Value} {t : TypeId} (h : Blk w b cs t) (hb : Below w.heap.size w w1) : Blk w1 b cs t := h.below hb h.lt
theorem Xs.kept' {w w1 : World} {r : Option Nat} {ao : Option Addr} {c : Nat} {l : List Nat} (h : Xs w ao c l) (hg : w.grownBy w1 r) (hne : ∀ a, ao = some a → l ≠ [] → some a.block ≠ r) : Xs w1 ao c l := by
  by_cases hl : l = []
  · subst hl
    exact ⟨Rd.nil _ _, h.cap, h.nil⟩
  · exact h.kept hg fun a ha => hne a ha hl
theorem Xs.lt {w : World} {ao : Option Addr} {c : Nat} {l : List Nat} (h : Xs w ao c l) (hl : l ≠ []) : ∀ a, ao = some a → a.block < w.heap.size := fun a ha => by
  obtain ⟨a', e, hc⟩ := h.rd 0 (by cases l with | nil => exact absurd rfl hl | cons x l => simp)
  rw [ha] at e
  cases e
  have := World.block_lt_of_cell? w _ hc
  rwa [add_block] at this
/-- what a call of both hands back: the bytes behind the call, true; the memory has the same -/
def BothP (w : World) (B m : Nat) (v : Value) (n : Nat) (xo : Option Addr) (e : Ending) (w' : World) : Prop :=
  ∃ xo' c' l', e = .returned (.tuple #[.slice xo' n c', .bool true]) ∧ l'.length = n ∧ MemIs w' B m v l' ∧ Xs w' xo' c' l' ∧ w.grownBy w' v.ownBlock ∧ (xo' = xo ∨ ∀ a, xo' = some a → w.heap.size ≤ a.block)
/-- ahead of a call of both -/
structure BothI (w : World) (B m : Nat) (v : Value) (l : List Nat) (xo : Option Addr) (c : Nat) (s : St) : Prop where
  mem : MemIs w B m v l
  xs : Xs w xo c l
  ap : ∀ a, xo = some a → l ≠ [] → some a.block ≠ v.ownBlock
  st : ∀ X, w.grownBy X v.ownBlock → StIn X s
theorem BothI.xk {w X : World} {B m c : Nat} {v : Value} {l : List Nat} {xo : Option Addr} {s : St} (h : BothI w B m v l xo c s) (hg : w.grownBy X v.ownBlock) : Xs X xo c l := h.xs.kept' hg h.ap
/-- what was handed back lies apart from the memory's row -/
theorem BothI.ap' {w w1 : World} {B m c : Nat} {v : Value} {l l' : List Nat} {xo xo' : Option Addr} {s : St} (h : BothI w B m v l xo c s) (hb : w.heap.size ≤ w1.heap.size) (hl : l'.length = l.length) (ho : xo' = xo ∨ ∀ a, xo' = some a → w1.heap.size ≤ a.block) : ∀ a, xo' = some a → l' ≠ [] → some a.block ≠ v.ownBlock := fun a ha hne e => by
  rcases ho with rfl | ho
  · exact h.ap a ha (fun e => hne (List.eq_nil_of_length_eq_zero (by rw [hl, e]; rfl))) e
  · have h1 := ho a ha
    have h2 := (h.mem.own.lt a.block e.symm).2
    omega
theorem both0 (w : World) (B m c : Nat) (v : Value) (l : List Nat) (xo : Option Addr) (s : St) (h : BothI w B m v l xo c s) (h0 : s.how = 0) :
    Calls Try.prog 27 #[.pointer (some ⟨m, 0, none⟩), .slice xo l.length c, .agg (stepV s)] w (BothP w B m v l.length xo) := by
  have hin := h.st w (World.grownBy.refl _ _)
  have h16 := h.mem.len
  obtain ⟨V, hV⟩ : ∃ V, LV l s.sa s.wd = V := ⟨_, rfl⟩
  obtain ⟨ck, hck⟩ : ∃ V, chk l.length s.sa s.wd = V := ⟨_, rfl⟩
  obtain ⟨vh, hvh⟩ : ∃ x, V / 18446744073709551616 = x := ⟨_, rfl⟩
  obtain ⟨vl, hvl⟩ : ∃ x, V % 18446744073709551616 = x := ⟨_, rfl⟩
  have C1 : Hid (∀ X, Below w.heap.size w X → Calls Try.prog 15 #[.pointer (some ⟨m, 0, none⟩), .int .u64 (s.sa : Nat), .int .i64 s.wd] X fun e w' => e = .returned (.tuple #[.agg #[.int .u64 (vh : Nat), .int .u64 (vl : Nat)], .int .i64 ck]) ∧ Below X.heap.size X w') := Lib.hid fun X hX => by
    obtain ⟨ao, cap, hv, _⟩ := Row.form h.mem.own
    have hm := h.mem
    rw [hv] at hm
    have := load_any X B m ao l.length cap s.sa s.wd l (hm.later hX) hin.sa hin.wd.1 hin.wd.2
    rwa [hV, hck, hvh, hvl] at this
  obtain ⟨n, hn⟩ : ∃ n, l.length = n := ⟨_, rfl⟩
  have HN := Lib.hid hn
  have H := Lib.hid h
  have C2 : Hid (∀ X, Below w.heap.size w X → Calls Try.prog 35 #[.slice xo n c, .int .u64 (s.sa : Nat), .int .i64 s.wd] X fun e w' => e = .returned (.tuple #[.agg #[.int .u64 (vh : Nat), .int .u64 (vl : Nat)], .int .i64 ck]) ∧ Below X.heap.size X w') := Lib.hid fun X hX => by
    have := rload_any X xo c s.sa s.wd l (h.xs.later hX) h.mem.small h16 hin.sa hin.wd.1 hin.wd.2
    rwa [hV, hck, hvh, hvl, hn] at this
  have HEQ : ∀ X, (binOp .eql 35 (.agg #[.int .u64 (vh : Nat), .int .u64 (vl : Nat)]) (.agg #[.int .u64 (vh : Nat), .int .u64 (vl : Nat)])).run Try.prog X = .ok (.bool true) X := fun X => by rw [eq_bits]; simp
  have hckk : (ck == ck) = true := by simp
  rw [hn]
  obtain ⟨how, on, wd, nn, sa, hi, lo, dao, dc, data, pao, pc, pats⟩ := s
  simp only [] at h0 C1 C2
  subst h0
  have hb1 := below_alloc w (.cells (stepV ⟨0, on, wd, nn, sa, hi, lo, dao, dc, data, pao, pc, pats⟩) 41)
  have hk1 := Blk.new w (stepV ⟨0, on, wd, nn, sa, hi, lo, dao, dc, data, pao, pc, pats⟩) 41
  have HB1 := Lib.hid hb1
  have HK1 := Lib.hid hk1
  clear h hin hV hck hvh hvl hn h16 hb1 hk1
  go_enter Try.func27, Try.ntmps27
  go_wp2_with (first
    | (go_at_call 15; (with_reducible refine (C1.out _ HB1.out).mono ?_); rintro e w2 ⟨rfl, b2⟩; have k2 := (blkc HK1.out b2).alloc (.cells #[.int .u64 (vh : Nat), .int .u64 (vl : Nat)] 35); have d2 := k2.cell 2; have d4 := k2.cell 4; simp only [List.getElem?_toArray, List.getElem?_cons_succ, List.getElem?_cons_zero] at d2 d4; have B2 := Lib.hid ((HB1.out.trans (b2.mono HB1.out.size)).alloc (Nat.le_trans HB1.out.size b2.size) (.cells #[.int .u64 (vh : Nat), .int .u64 (vl : Nat)] 35)); have J2 := Lib.hid (Blk.new w2 #[.int .u64 (vh : Nat), .int .u64 (vl : Nat)] 35); clear k2 b2)
    | (go_at_call 35; (with_reducible refine (C2.out _ B2.out).mono ?_); rintro e w4 ⟨rfl, b4⟩; have J4 := Lib.hid ((blkc J2.out b4).alloc (.cells #[.int .u64 (vh : Nat), .int .u64 (vl : Nat)] 35)); have J5 := Lib.hid (Blk.new w4 #[.int .u64 (vh : Nat), .int .u64 (vl : Nat)] 35); have B4 := Lib.hid ((B2.out.trans (b4.mono B2.out.size)).alloc (Nat.le_trans B2.out.size b4.size) (.cells #[.int .u64 (vh : Nat), .int .u64 (vl : Nat)] 35)); clear b4)
    | (refine wpList_load_blk rfl 35 _ rfl _ rfl 35 _ _ J4.out Try.underlying35 rfl (by kernel_rfl) ?_)
    | (refine wpList_load_blk rfl 35 _ rfl _ rfl 35 _ _ J5.out Try.underlying35 rfl (by kernel_rfl) ?_))
  go_ret2
  have hg := below_grown B4.out v.ownBlock
  exact ⟨xo, c, l, rfl, HN.out, H.out.mem.later B4.out, H.out.xk hg, hg, .inl rfl⟩
theorem both1 (w : World) (B m c : Nat) (v : Value) (l : List Nat) (xo : Option Addr) (s : St) (h : BothI w B m v l xo c s) (h0 : s.how = 1) :
    Calls Try.prog 27 #[.pointer (some ⟨m, 0, none⟩), .slice xo l.length c, .agg (stepV s)] w (BothP w B m v l.length xo) := by
  have hin := h.st w (World.grownBy.refl _ _)
  have h16 := h.mem.len
  obtain ⟨ck, hck⟩ : ∃ V, chk l.length s.sa s.wd = V := ⟨_, rfl⟩
  obtain ⟨l', hl'⟩ : ∃ V, stoX l s.sa s.wd (18446744073709551616 * s.hi + s.lo) = V := ⟨_, rfl⟩
  have hll : l'.length = l.length := by rw [← hl', stoX_len]
  have C2 : Hid (∀ X, w.grownBy X v.ownBlock → MemIs X B m v l → Calls Try.prog 14 #[.pointer (some ⟨m, 0, none⟩), .int .u64 (s.sa : Nat), .int .i64 s.wd, .agg #[.int .u64 (s.hi : Nat), .int .u64 (s.lo : Nat)]] X fun e w' => e = .returned (.int .i64 ck) ∧ MemIs w' B m v l' ∧ X.grownBy w' v.ownBlock) := Lib.hid fun X hX hm => by
    obtain ⟨ao, cap, hv, _⟩ := Row.form h.mem.own
    rw [hv] at hm
    have := store_any X B m ao l.length cap s.sa s.hi s.lo s.wd l hm hin.sa hin.wd.1 hin.wd.2 hin.hi hin.lo
    rw [hck] at this
    rw [hv]
    refine this.mono ?_
    rintro e w' ⟨h1, h2, h3⟩
    refine ⟨h1, ?_, h3⟩
    rw [← hl']; unfold stoX; rw [hck]; exact h2
  obtain ⟨n, hn⟩ : ∃ n, l.length = n := ⟨_, rfl⟩
  have HN := Lib.hid (hll.trans hn)
  have HLL := Lib.hid hll
  have H := Lib.hid h
  have C1 : Hid (∀ X, Below w.heap.size w X → Calls Try.prog 36 #[.slice xo n c, .int .u64 (s.sa : Nat), .int .i64 s.wd, .agg #[.int .u64 (s.hi : Nat), .int .u64 (s.lo : Nat)]] X fun e w' => ∃ ao c, e = .returned (.tuple #[.slice ao n c, .int .i64 ck]) ∧ Xs w' ao c l' ∧ Below X.heap.size X w' ∧ (ao = xo ∨ ∀ a, ao = some a → X.heap.size ≤ a.block)) := Lib.hid fun X hX => by
    have := rstore_any X xo c s.sa s.hi s.lo s.wd l (h.xs.later hX) h16 hin.sa hin.wd.1 hin.wd.2 hin.hi hin.lo
    rw [hck, hl', hn] at this
    unfold GaveX at this
    rw [hll, hn] at this
    exact this
  have hckk : (ck == ck) = true := by simp
  rw [hn]
  obtain ⟨how, on, wd, nn, sa, hi, lo, dao, dc, data, pao, pc, pats⟩ := s
  simp only [] at h0 C1 C2
  subst h0
  have hb1 := below_alloc w (.cells (stepV ⟨1, on, wd, nn, sa, hi, lo, dao, dc, data, pao, pc, pats⟩) 41)
  have hk1 := Blk.new w (stepV ⟨1, on, wd, nn, sa, hi, lo, dao, dc, data, pao, pc, pats⟩) 41
  have HB1 := Lib.hid hb1
  have HK1 := Lib.hid hk1
  clear h hin hck hl' hll hn h16 hb1 hk1
  go_enter Try.func27, Try.ntmps27
  go_wp2_with (first
    | (go_at_call 36; (with_reducible refine (C1.out _ HB1.out).mono ?_); rintro e w2 ⟨xo2, c2, rfl, x2, b2, o2⟩; have k2 := blkc HK1.out b2; have d2 := k2.cell 2; have d4 := k2.cell 4; have d5 := k2.cell 5; have d6 := k2.cell 6; simp only [List.getElem?_toArray, List.getElem?_cons_succ, List.getElem?_cons_zero] at d2 d4 d5 d6; have B2 := Lib.hid (HB1.out.trans (b2.mono HB1.out.size)); have X2 := Lib.hid x2; have O2 := Lib.hid o2; clear k2 b2 x2 o2)
    | (go_at_call 14; (with_reducible refine (C2.out _ (below_grown B2.out _) (H.out.mem.later B2.out)).mono ?_); rintro e w4 ⟨rfl, m4, g4⟩; have M4 := Lib.hid m4; have G4 := Lib.hid g4; clear m4 g4))
  go_ret2
  exact ⟨xo2, c2, l', rfl, HN.out, M4.out, X2.out.kept' G4.out (H.out.ap' HB1.out.size HLL.out O2.out), grown_trans (below_grown B2.out _) G4.out, O2.out.imp id fun ho a ha => Nat.le_trans HB1.out.size (ho a ha)⟩
theorem chk_and (n a : Nat) (k : Int) : (chk n a k == 0) = (widB k && thB n a k) := by
  unfold chk
  cases widB k <;> cases thB n a k <;> rfl
theorem bothE (w : World) (B m c : Nat) (v : Value) (l : List Nat) (xo : Option Addr) (s : St) (h : BothI w B m v l xo c s) (h0 : s.how ≠ 0) (h1 : s.how ≠ 1) (h2 : s.how ≠ 2) (h3 : s.how ≠ 3) (h4 : s.how ≠ 4) :
    Calls Try.prog 27 #[.pointer (some ⟨m, 0, none⟩), .slice xo l.length c, .agg (stepV s)] w (BothP w B m v l.length xo) := by
  have hin := h.st w (World.grownBy.refl _ _)
  have h16 := h.mem.len
  have z0 : (s.how == 0) = false := by rw [beq_eq_false_iff_ne]; exact h0
  have z1 : (s.how == 1) = false := by rw [beq_eq_false_iff_ne]; exact h1
  have z2 : (s.how == 2) = false := by rw [beq_eq_false_iff_ne]; exact h2
  have z3 : (s.how == 3) = false := by rw [beq_eq_false_iff_ne]; exact h3
  have z4 : (s.how == 4) = false := by rw [beq_eq_false_iff_ne]; exact h4
  have hca := chk_and l.length s.sa s.wd
  have C1 : Hid (∀ X, Below w.heap.size w X → Calls Try.prog 17 #[.pointer (some ⟨m, 0, none⟩), .int .u64 (s.sa : Nat), .int .i64 s.wd] X fun e w' => e = .returned (.bool (widB s.wd && thB l.length s.sa s.wd)) ∧ w' = X) := Lib.hid fun X hX => by
    obtain ⟨ao, cap, hv, _⟩ := Row.form h.mem.own
    have hm := h.mem
    rw [hv] at hm
    have := within_c X m ao l.length cap s.sa s.wd (hm.later hX).hd hin.sa hin.wd.1 hin.wd.2
    rwa [hca] at this
  have C2 : Hid (∀ X, Calls Try.prog 41 #[.int .i64 s.wd] X fun e w' => e = .returned (.bool (widB s.wd)) ∧ w' = X) := Lib.hid fun X => is_c X s.wd
  obtain ⟨n, hn⟩ : ∃ n, l.length = n := ⟨_, rfl⟩
  have HN := Lib.hid hn
  have H := Lib.hid h
  have C3 : Hid (∀ X, Calls Try.prog 42 #[.slice xo n c, .int .u64 (s.sa : Nat), .int .i64 s.wd] X fun e w' => e = .returned (.bool (thB n s.sa s.wd)) ∧ w' = X) := Lib.hid fun X => rthere_c X xo n c s.sa s.wd (by omega) hin.sa hin.wd.1 hin.wd.2
  rw [hn] at C1 ⊢
  obtain ⟨th, hth⟩ : ∃ b, thB n s.sa s.wd = b := ⟨_, rfl⟩
  obtain ⟨wi, hwi⟩ : ∃ b, widB s.wd = b := ⟨_, rfl⟩
  rw [hth, hwi] at C1
  rw [hth] at C3
  rw [hwi] at C2
  obtain ⟨how, on, wd, nn, sa, hi, lo, dao, dc, data, pao, pc, pats⟩ := s
  simp only [] at z0 z1 z2 z3 z4 C1 C2 C3
  obtain ⟨W, hW⟩ : ∃ W, w.alloc (.cells (stepV ⟨how, on, wd, nn, sa, hi, lo, dao, dc, data, pao, pc, pats⟩) 41) = W := ⟨_, rfl⟩
  have hb1 := below_alloc w (.cells (stepV ⟨how, on, wd, nn, sa, hi, lo, dao, dc, data, pao, pc, pats⟩) 41)
  have hk1 := Blk.new w (stepV ⟨how, on, wd, nn, sa, hi, lo, dao, dc, data, pao, pc, pats⟩) 41
  rw [hW] at hb1 hk1
  have HB1 := Lib.hid hb1
  have HW := Lib.hid hW
  have d2 := hk1.cell 2
  have d4 := hk1.cell 4
  have d0 := hk1.cell 0
  simp only [List.getElem?_toArray, List.getElem?_cons_succ, List.getElem?_cons_zero] at d0 d2 d4
  have HD0 := Lib.hid d0
  have HD2 := Lib.hid d2
  have HD4 := Lib.hid d4
  clear h hin hn h16 hb1 hk1 hca hth hwi h0 h1 h2 h3 h4 d0 d2 d4 hW
  cases wi
  · go_enter Try.func27, Try.ntmps27
    go_wp2
    change Code.wp _ _ _ _ (w.alloc (.cells (stepV ⟨how, on, wd, nn, sa, hi, lo, dao, dc, data, pao, pc, pats⟩) 41))
    rw [HW.out]
    have d2 := HD2.out
    have d4 := HD4.out
    clear HD0 HD2 HD4 HW
    refine wp_region_tail [_, _, _, _, _, _, _, _, _, _, _, _, _, _, _, _, _, _, _, _, _] [] (fun _ w' => ∃ q, w' = W.drewN q) (by kernel_rfl) (by kernel_rfl) (by kernel_rfl) ⟨1, rfl⟩ ?_
    (repeat (first | (refine sets_quiet (fun w' => ∃ q, w' = W.drewN q) (fun _ _ h => h) rfl (fun _ _ _ h => h) rfl ?_; intro K hK; go_big_quiet_op; first | go_big_quiet_on | (refine ⟨_, fun _ => rfl, ?_⟩; go_big_quiet_on)) | (refine sets_nil rfl (fun _ _ _ h => h) _ rfl _ rfl ?_; simp only [Act.put, List.setIfInBounds_toArray, List.set_cons_succ, List.set_cons_zero]) | (refine sets_skip rfl (fun _ _ _ h => h) ?_; simp only [Act.put, List.setIfInBounds_toArray, List.set_cons_succ, List.set_cons_zero])))
    refine sets_call (.bool (false && th)) rfl 17 [_, _, _] _ rfl Try.f17 Try.func17 (by kernel_rfl) (by kernel_rfl) [.pointer (some ⟨m, 0, none⟩), .int .u64 (sa : Nat), .int .i64 wd] rfl ?_ ?_
    · rintro S w' h1 h2 ⟨q, rfl⟩
      exact (C1.out _ (below_drewN HB1.out)).mono fun e w'' ⟨he, hw⟩ => ⟨he, q, hw⟩
    simp only [Act.put, List.setIfInBounds_toArray, List.set_cons_succ, List.set_cons_zero]
    (repeat (first | (refine sets_quiet (fun w' => ∃ q, w' = W.drewN q) (fun _ _ h => h) rfl (fun _ _ _ h => h) rfl ?_; intro K hK; go_big_quiet_op; first | go_big_quiet_on | (refine ⟨_, fun _ => rfl, ?_⟩; go_big_quiet_on)) | (refine sets_nil rfl (fun _ _ _ h => h) _ rfl _ rfl ?_; simp only [Act.put, List.setIfInBounds_toArray, List.set_cons_succ, List.set_cons_zero]) | (refine sets_skip rfl (fun _ _ _ h => h) ?_; simp only [Act.put, List.setIfInBounds_toArray, List.set_cons_succ, List.set_cons_zero])))
    refine sets_call (.bool false) rfl 41 [_] _ rfl Try.f41 Try.func41 (by kernel_rfl) (by kernel_rfl) [.int .i64 wd] rfl ?_ ?_
    · rintro S w' h1 h2 ⟨q, rfl⟩
      exact (C2.out _).mono fun e w'' ⟨he, hw⟩ => ⟨he, q, hw⟩
    simp only [Act.put, List.setIfInBounds_toArray, List.set_cons_succ, List.set_cons_zero]
    (repeat (first | (refine sets_quiet (fun w' => ∃ q, w' = W.drewN q) (fun _ _ h => h) rfl (fun _ _ _ h => h) rfl ?_; intro K hK; go_big_quiet_op; first | go_big_quiet_on | (refine ⟨_, fun _ => rfl, ?_⟩; go_big_quiet_on)) | (refine sets_nil rfl (fun _ _ _ h => h) _ rfl _ rfl ?_; simp only [Act.put, List.setIfInBounds_toArray, List.set_cons_succ, List.set_cons_zero]) | (refine sets_skip rfl (fun _ _ _ h => h) ?_; simp only [Act.put, List.setIfInBounds_toArray, List.set_cons_succ, List.set_cons_zero])))
    rintro S _ _ ⟨q, rfl⟩
    go_wp2
    go_ret2
    have hg := below_grown (below_drewN HB1.out (k := q)) v.ownBlock
    refine ⟨xo, c, l, ?_, HN.out, H.out.mem.later (below_drewN HB1.out), H.out.xk hg, hg, .inl rfl⟩
    cases th <;> rfl
  · go_enter Try.func27, Try.ntmps27
    go_wp2
    change Code.wp _ _ _ _ (w.alloc (.cells (stepV ⟨how, on, wd, nn, sa, hi, lo, dao, dc, data, pao, pc, pats⟩) 41))
    rw [HW.out]
    have d2 := HD2.out
    have d4 := HD4.out
    clear HD0 HD2 HD4 HW
    refine wp_region_tail [_, _, _, _, _, _, _, _, _, _, _, _, _, _, _, _, _, _, _, _, _] [] (fun _ w' => ∃ q, w' = W.drewN q) (by kernel_rfl) (by kernel_rfl) (by kernel_rfl) ⟨1, rfl⟩ ?_
    (repeat (first | (refine sets_quiet (fun w' => ∃ q, w' = W.drewN q) (fun _ _ h => h) rfl (fun _ _ _ h => h) rfl ?_; intro K hK; go_big_quiet_op; first | go_big_quiet_on | (refine ⟨_, fun _ => rfl, ?_⟩; go_big_quiet_on)) | (refine sets_nil rfl (fun _ _ _ h => h) _ rfl _ rfl ?_; simp only [Act.put, List.setIfInBounds_toArray, List.set_cons_succ, List.set_cons_zero]) | (refine sets_skip rfl (fun _ _ _ h => h) ?_; simp only [Act.put, List.setIfInBounds_toArray, List.set_cons_succ, List.set_cons_zero])))
    refine sets_call (.bool (true && th)) rfl 17 [_, _, _] _ rfl Try.f17 Try.func17 (by kernel_rfl) (by kernel_rfl) [.pointer (some ⟨m, 0, none⟩), .int .u64 (sa : Nat), .int .i64 wd] rfl ?_ ?_
    · rintro S w' h1 h2 ⟨q, rfl⟩
      exact (C1.out _ (below_drewN HB1.out)).mono fun e w'' ⟨he, hw⟩ => ⟨he, q, hw⟩
    simp only [Act.put, List.setIfInBounds_toArray, List.set_cons_succ, List.set_cons_zero]
    (repeat (first | (refine sets_quiet (fun w' => ∃ q, w' = W.drewN q) (fun _ _ h => h) rfl (fun _ _ _ h => h) rfl ?_; intro K hK; go_big_quiet_op; first | go_big_quiet_on | (refine ⟨_, fun _ => rfl, ?_⟩; go_big_quiet_on)) | (refine sets_nil rfl (fun _ _ _ h => h) _ rfl _ rfl ?_; simp only [Act.put, List.setIfInBounds_toArray, List.set_cons_succ, List.set_cons_zero]) | (refine sets_skip rfl (fun _ _ _ h => h) ?_; simp only [Act.put, List.setIfInBounds_toArray, List.set_cons_succ, List.set_cons_zero])))
    refine sets_call (.bool true) rfl 41 [_] _ rfl Try.f41 Try.func41 (by kernel_rfl) (by kernel_rfl) [.int .i64 wd] rfl ?_ ?_
    · rintro S w' h1 h2 ⟨q, rfl⟩
      exact (C2.out _).mono fun e w'' ⟨he, hw⟩ => ⟨he, q, hw⟩
    simp only [Act.put, List.setIfInBounds_toArray, List.set_cons_succ, List.set_cons_zero]
    (repeat (first | (refine sets_quiet (fun w' => ∃ q, w' = W.drewN q) (fun _ _ h => h) rfl (fun _ _ _ h => h) rfl ?_; intro K hK; go_big_quiet_op; first | go_big_quiet_on | (refine ⟨_, fun _ => rfl, ?_⟩; go_big_quiet_on)) | (refine sets_nil rfl (fun _ _ _ h => h) _ rfl _ rfl ?_; simp only [Act.put, List.setIfInBounds_toArray, List.set_cons_succ, List.set_cons_zero]) | (refine sets_skip rfl (fun _ _ _ h => h) ?_; simp only [Act.put, List.setIfInBounds_toArray, List.set_cons_succ, List.set_cons_zero])))
    refine sets_call (.bool th) rfl 42 [_, _, _] _ rfl Try.f42 Try.func42 (by kernel_rfl) (by kernel_rfl) [.slice xo n c, .int .u64 (sa : Nat), .int .i64 wd] rfl ?_ ?_
    · rintro S w' h1 h2 ⟨q, rfl⟩
      exact (C3.out _).mono fun e w'' ⟨he, hw⟩ => ⟨he, q, hw⟩
    simp only [Act.put, List.setIfInBounds_toArray, List.set_cons_succ, List.set_cons_zero]
    (repeat (first | (refine sets_quiet (fun w' => ∃ q, w' = W.drewN q) (fun _ _ h => h) rfl (fun _ _ _ h => h) rfl ?_; intro K hK; go_big_quiet_op; first | go_big_quiet_on | (refine ⟨_, fun _ => rfl, ?_⟩; go_big_quiet_on)) | (refine sets_nil rfl (fun _ _ _ h => h) _ rfl _ rfl ?_; simp only [Act.put, List.setIfInBounds_toArray, List.set_cons_succ, List.set_cons_zero]) | (refine sets_skip rfl (fun _ _ _ h => h) ?_; simp only [Act.put, List.setIfInBounds_toArray, List.set_cons_succ, List.set_cons_zero])))
    rintro S _ _ ⟨q, rfl⟩
    go_wp2
    go_ret2
    have hg := below_grown (below_drewN HB1.out (k := q)) v.ownBlock
    refine ⟨xo, c, l, ?_, HN.out, H.out.mem.later (below_drewN HB1.out), H.out.xk hg, hg, .inl rfl⟩
    cases th <;> rfl
end Go.Proofs.Ytdgdmhmagdjeoaa
