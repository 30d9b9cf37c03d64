/- The walk of MemBack. -/
import Derived.Test.YtdgdmhmagdjeoaaUs
import Derived.Test.YtdgdmhmagdjeoaaKg
import Derived.Test.YtdgdmhmagdjeoaaUh
import Derived.Deep.CutRange
namespace Go.Proofs.Ytdgdmhmagdjeoaa
open Go.RowKit
set_option maxHeartbeats 4000000
set_option maxRecDepth 100000
set_option linter.unusedVariables false
set_option linter.unusedSimpArgs false
theorem gs_run {P : Program} {ops : Array Oper} {gs : Nat → Bool} {I : (Nat → Value) → (Nat → Bool) → World → Prop} {Q : Act → Prop} {k : Nat} {o : Oper} {rest : List Oper} {a : Act} (v : Value) (hg : gs k = false) (hw : Region.wanted o (yielded ops a.tmps) = true) (hI : ∀ x S w, S k = false → I x S w → I x (ins S k) w)
    (hr : ∀ w, (execOp a.eval o).run P w = .ok (.value v) w) (h : wpGs P ops gs I Q (k + 1) rest (a.put o.dst v)) : wpGs P ops gs I Q k (o :: rest) a := by
  refine .inr ⟨hg, v, fun x => .inl ⟨hw, fun S w hS _ _ hIw => ?_⟩, h⟩
  unfold opTo
  rw [hr w]
  exact ⟨rfl, hI x S w hS hIw⟩
theorem Rd.pre {w : World} {ao : Option Addr} {l : List Nat} (h : Rd w ao l) (k : Nat) : Rd w ao (part l 0 k) := fun i hi => by
  have e : part l 0 k = l.take k := by simp [part]
  rw [e] at hi ⊢
  rw [List.length_take] at hi
  obtain ⟨a, ha, hc⟩ := h i (by omega)
  exact ⟨a, ha, by rw [List.getElem?_take, if_pos (by omega)]; exact hc⟩
theorem walk_MemBack_big (w : World) (ao bo : Option Addr) (n k ca cb at' turn : Nat) (hn : 2000 < n ∨ 2000 < k) :
    Calls Try.prog 7 #[.slice ao n ca, .slice bo k cb, .int .u64 at', .int .u8 turn] w fun e w' => e = .returned (.bool true) ∧ Below w.heap.size w w' := by
  rcases Nat.lt_or_ge 2000 n with h1 | h1
  · go_enter Try.func7, Try.ntmps7
    go_wp2_with (first
      | (go_at_call 9; (with_reducible refine (lives_c _).mono ?_); rintro e w8 ⟨rfl, h8⟩))
    go_ret
    exact ⟨rfl, h8⟩
  · have h2 : 2000 < k := by omega
    have h3 : ¬ 2000 < n := by omega
    go_enter Try.func7, Try.ntmps7
    go_wp2_with (first
      | (go_at_call 9; (with_reducible refine (lives_c _).mono ?_); rintro e w8 ⟨rfl, h8⟩))
    go_ret
    exact ⟨rfl, h8⟩
theorem walk_MemBack_small (w : World) (ao bo : Option Addr) (n k ca cb at' turn : Nat) (la lb : List Nat) (hn : n ≤ 2000) (hk : k ≤ 2000) (hla : la.length = n) (hlb : lb.length = k) (hr : Rd w ao la) (hr2 : Rd w bo lb)
    (hs : ∀ x ∈ la, x < 256) (hs2 : ∀ x ∈ lb, x < 256) (hc : n ≤ ca) (hc2 : k ≤ cb) (hat : at' < 18446744073709551616) (htn : turn < 256) :
    Calls Try.prog 7 #[.slice ao n ca, .slice bo k cb, .int .u64 at', .int .u8 turn] w fun e w' => e = .returned (.bool true) ∧ Below w.heap.size w w' := by
  have HA := Lib.hid hla
  have HR := Lib.hid hr
  have HR2 := Lib.hid hr2
  have HS := Lib.hid hs
  have HS2 := Lib.hid hs2
  have HB := Lib.hid hlb
  have hx1 : ¬ 2000 < n := by omega
  have hx2 : ¬ 2000 < k := by omega
  clear hla hlb hr hr2 hs hs2
  go_enter Try.func7, Try.ntmps7
  go_upto_if 32 with (fail)
  go_cut [1] from 33 to 36 (fun v wx => wx = w ∧ ∃ b1 K c1 L, v = .slice b1 K c1 ∧ K ≤ n ∧ Hid (L.length = K) ∧ Hid (Rd w b1 L) ∧ Hid (∀ x ∈ L, x < 256))
  case first =>
    rcases Nat.lt_or_ge n k with h | h
    · have hcap : n ≤ cb := by omega
      go_wp2
      go_meet
      exact ⟨rfl, bo, n, cb, part lb 0 n, rfl, Nat.le_refl _, Lib.hid (part_length (l := lb) (a := 0) (n := n) (by rw [HB.out]; omega)), Lib.hid (HR2.out.pre n), Lib.hid (part_small HS2.out _ _)⟩
    · have h' : ¬ n < k := by omega
      go_wp2
      go_meet
      exact ⟨rfl, _, _, _, lb, rfl, h, HB, HR2, HS2⟩
  case rest =>
    obtain ⟨hwx, b1, K, c1, L, rfl, hKn, HL, HRL, HSL⟩ := hcut
    rw [hwx]
    clear hwx
    obtain ⟨A, hA⟩ : ∃ A, part la 0 K = A := ⟨_, rfl⟩
    have HAL : Hid (A.length = K) := Lib.hid (by rw [← hA]; exact part_length (by rw [HA.out]; omega))
    have HAS : Hid (∀ x ∈ A, x < 256) := Lib.hid (by rw [← hA]; exact part_small HS.out _ _)
    have HRA : Hid (Rd w ao A) := Lib.hid (by rw [← hA]; exact HR.out.pre K)
    clear hA HA HR HS HB HR2 HS2
    have C1 : Hid (Calls Try.prog 16 #[.slice ao K ca] w fun e w' => ∃ m v, e = .returned (.tuple #[.pointer (some ⟨m, 0, none⟩), .int .i64 0]) ∧ MemIs w' w.heap.size m v A ∧ Below w.heap.size w w') := Lib.hid (by
      have := of_c w ao ca A (by rw [HAL.out]; omega) HAS.out HRA.out
      rw [HAL.out] at this
      exact this.mono fun e w' ⟨m, g, cap, h1, h2, h3⟩ => ⟨m, _, h1, h2, h3⟩)
    have C2 : Hid (∀ X, Below w.heap.size w X → Calls Try.prog 16 #[.slice b1 K c1] X fun e w' => ∃ m v, e = .returned (.tuple #[.pointer (some ⟨m, 0, none⟩), .int .i64 0]) ∧ MemIs w' X.heap.size m v L ∧ Below X.heap.size X w') := Lib.hid (fun X hX => by
      have := of_c X b1 c1 L (by rw [HL.out]; omega) HSL.out (HRL.out.later hX)
      rw [HL.out] at this
      exact this.mono fun e w' ⟨m, g, cap, h1, h2, h3⟩ => ⟨m, _, h1, h2, h3⟩)
    go_wp2_with (first
      | (go_at_call 16; (with_reducible refine C1.out.mono ?_); rintro e w1 ⟨m1, v1, rfl, M1, b1'⟩; clear C1)
      | (go_at_call 16; (with_reducible refine (C2.out _ b1').mono ?_); rintro e w2 ⟨m2, v2, rfl, M2, b2'⟩; have N1 := Lib.hid (M1.later b2'); have N2 := Lib.hid (M2.mono b1'.size); have B2 := Lib.hid (b1'.trans (b2'.mono b1'.size)); clear M1 M2 b1' b2' C2)
      | (go_at_call 19; (with_reducible refine (changed_c _ _ _ _ _ _ _ _ N1.out N2.out (HAL.out.trans HL.out.symm)).mono ?_); rintro e w3 ⟨pv, rfl, hP, b3'⟩; have P1 := Lib.hid hP; have O1 := Lib.hid (N1.out.later b3'); have O2 := Lib.hid (N2.out.later b3'); have B3 := Lib.hid (B2.out.trans (b3'.mono B2.out.size)); clear hP b3')
      | (go_at_call 21; obtain ⟨x1, y1, rfl, _⟩ := Row.form O1.out.own; (with_reducible refine (copy_c _ _ _ _ _ _ _ O1.out).mono ?_); rintro e w4 ⟨m3, x3, y3, rfl, M3, b4'⟩; have Q3 := Lib.hid M3; have B4 := Lib.hid b4'; clear M3 b4'))
    obtain ⟨lo, lc, rfl, hlo⟩ := P1.out.shape
    obtain ⟨x2, y2, rfl, _⟩ := Row.form O2.out.own
    have hLK := HL.out
    rw [hLK] at O2
    clear hLK
    obtain ⟨SP1, SP2, SP3⟩ := chgL_spec A L (HAL.out.trans HL.out.symm) A.length 0 rfl (Nat.zero_le _)
    rw [List.take_zero, List.nil_append, List.drop_zero] at SP1
    obtain ⟨ps, hps⟩ : ∃ ps, chgL A L 0 = ps := ⟨_, rfl⟩
    rw [hps] at P1 SP1 SP2 SP3 ⊢
    obtain ⟨pn, hpn⟩ : ∃ pn, ps.length = pn := ⟨_, rfl⟩
    have HPN := Lib.hid hpn
    rw [hpn] at P1 SP3 ⊢
    have hget : ∀ i, i < pn → pget ps i ∈ ps := fun i hi => by
      have hi' : i < ps.length := by rw [hpn]; exact hi
      show ps[i]?.getD (0, []) ∈ ps
      rw [List.getElem?_eq_getElem hi']
      exact List.getElem_mem hi'
    have HPIN := Lib.hid hget
    have HSP1 := Lib.hid SP1
    have HSP2 := Lib.hid SP2
    have HSP3 := Lib.hid SP3
    have HFIT : Hid (∀ i, i < ps.length → (pget ps i).1 + (pget ps i).2.length ≤ A.length) := Lib.hid fun i hi => (SP2 _ (hget i (by rw [← hpn]; exact hi))).1
    have HPS : Hid (∀ i, i < ps.length → ∀ y ∈ (pget ps i).2, y < 256) := Lib.hid fun i hi y hy => HSL.out y ((SP2 _ (hget i (by rw [← hpn]; exact hi))).2.2.2 y hy)
    have hpl : pn ≤ 2000 := by
      have := chgL_len A L A.length 0 rfl
      rw [hps, hpn, HAL.out] at this; omega
    clear SP1 SP2 SP3 hpn hget hps
    have hKc : K ≤ ca := by omega
    have hAK := HAL.out
    rw [hAK] at Q3 N1 O1
    have HO1 : Hid (∀ X, Below w3.heap.size w3 X → MemIs X w.heap.size m1 (.slice x1 K y1) A) := Lib.hid fun X hX => O1.out.later hX
    have HO2 : Hid (∀ X, Below w3.heap.size w3 X → MemIs X w.heap.size m2 (.slice x2 K y2) L) := Lib.hid fun X hX => O2.out.later hX
    have HP : Hid (∀ X, Below w3.heap.size w3 X → PRd X lo ps) := Lib.hid fun X hX => (P1.out.later hX).rd
    have Q3lt : Hid (∀ k, (Value.slice x3 K y3).ownBlock = some k → w3.heap.size ≤ k) := Lib.hid fun k hk => (Q3.out.own.lt k hk).1
    clear hAK O1 O2 N1 N2 P1
    obtain ⟨U, W, hU⟩ : ∃ (U : Type) (W : U → World), ∀ w', ∃ u, w' = W u := ⟨World, id, fun w => ⟨w, rfl⟩⟩
    refine wp_region_ghosts [_, _, _, _, _, _, _, _, _, _, _, _, _, _, _, _, _, _, _, _, _] [_, _, _] (fun k => k == 16) (fun x S X => Below w3.heap.size w3 X ∧ (S 5 = false → MemIs X w3.heap.size m3 (.slice x3 K y3) A) ∧ (S 5 = true → MemIs X w3.heap.size m3 (.slice x3 K y3) L) ∧
      (S 16 = true → ∃ a3 c3, x 16 = .slice a3 K c3 ∧ Rd X a3 A))
      (by kernel_rfl) (by kernel_rfl) (by kernel_rfl) (by kernel_rfl) (fun x => ⟨B4.out.drew, (fun _ => Q3.out.later (below_drewN (Below.refl _ w4) (k := 1))), (fun h => by cases h), (fun h => by cases h)⟩) ?_
    (repeat (first | (refine gs_quiet (fun w' => ∃ u, w' = W u) (fun _ _ w' _ => hU w') rfl rfl (fun _ _ _ _ h => h) rfl ?_; intro K hK; go_big_quiet_op; first | go_big_quiet_on | (refine ⟨_, fun _ => rfl, ?_⟩; go_big_quiet_on)) | (refine gs_nil rfl rfl (fun _ _ _ _ h => h) _ rfl _ rfl ?_; simp only [Act.put, List.setIfInBounds_toArray, List.set_cons_succ, List.set_cons_zero])))
    refine gs_call (.int .i64 0) rfl rfl 23 [_, _] _ rfl Try.f23 Try.func23 (by kernel_rfl) (by kernel_rfl) [.pointer (some ⟨m3, 0, none⟩), .slice lo pn lc] rfl ?_ ?_
    · rintro x S X h1 hcl ha ⟨hB, h5a, h5b, h16⟩
      have hM := h5a h1
      have := change_c X w3.heap.size m3 (.slice x3 K y3) A lo lc ps hM (by rw [HPN.out]; omega) HFIT.out HPS.out (fun wr hg => HP.out _ (hB.grown hg hB.size Q3lt.out))
      rw [HPN.out, HSP1.out] at this
      refine this.mono ?_
      rintro e X2 ⟨rfl, hM2, hg⟩
      exact ⟨rfl, hB.grown hg hB.size Q3lt.out, (fun h => by cases h), fun _ => hM2, fun h => by have := hcl.chain 9 16 5 (by kernel_rfl) h; rw [h1] at this; cases this⟩
    simp only [Act.put, List.setIfInBounds_toArray, List.set_cons_succ, List.set_cons_zero]
    (repeat (first | (refine gs_quiet (fun w' => ∃ u, w' = W u) (fun _ _ w' _ => hU w') rfl rfl (fun _ _ _ _ h => h) rfl ?_; intro K hK; go_big_quiet_op; first | go_big_quiet_on | (refine ⟨_, fun _ => rfl, ?_⟩; go_big_quiet_on)) | (refine gs_nil rfl rfl (fun _ _ _ _ h => h) _ rfl _ rfl ?_; simp only [Act.put, List.setIfInBounds_toArray, List.set_cons_succ, List.set_cons_zero])))
    refine gs_call (.bool true) rfl rfl 22 [_, _] _ rfl Try.f22 Try.func22 (by kernel_rfl) (by kernel_rfl) [.pointer (some ⟨m3, 0, none⟩), .pointer (some ⟨m2, 0, none⟩)] rfl ?_ ?_
    · rintro x S X h1 hcl ha ⟨hB, h5a, h5b, h16⟩
      have h5 : S 5 = true := hcl.chain 9 9 5 (by kernel_rfl) (ha ⟨9, .data⟩ (by simp) (by rfl))
      have hM := h5b h5
      have := same2_c X w.heap.size m3 m2 (.slice x3 K y3) (.slice x2 K y2) L L (hM.mono B3.out.size) (HO2.out _ hB)
      rw [decide_eq_true rfl] at this
      refine this.mono ?_
      rintro e X2 ⟨rfl, q, rfl⟩
      exact ⟨rfl, below_drewN hB, (fun h => by have h' : S 5 = false := h; rw [h5] at h'; cases h'), fun _ => hM.later (below_drewN (Below.refl _ X)), fun h => by obtain ⟨a3, c3, e1, e2⟩ := h16 h; exact ⟨a3, c3, e1, e2.later (below_drewN (Below.refl _ X))⟩⟩
    simp only [Act.put, List.setIfInBounds_toArray, List.set_cons_succ, List.set_cons_zero]
    (repeat (first | (refine gs_quiet (fun w' => ∃ u, w' = W u) (fun _ _ w' _ => hU w') rfl rfl (fun _ _ _ _ h => h) rfl ?_; intro K hK; go_big_quiet_op; first | go_big_quiet_on | (refine ⟨_, fun _ => rfl, ?_⟩; go_big_quiet_on)) | (refine gs_nil rfl rfl (fun _ _ _ _ h => h) _ rfl _ rfl ?_; simp only [Act.put, List.setIfInBounds_toArray, List.set_cons_succ, List.set_cons_zero])))
    refine gs_call_ghost rfl rfl 13 [_] _ rfl Try.f13 Try.func13 (by kernel_rfl) (by kernel_rfl) [.pointer (some ⟨m1, 0, none⟩)] rfl ?_ ?_
    · rintro x S X h1 hcl ha ⟨hB, h5a, h5b, h16⟩
      refine (all_c X w.heap.size m1 x1 K y1 A (HO1.out _ hB)).mono ?_
      rintro e X2 ⟨a3, c3, rfl, hr, hb⟩
      rw [HAL.out] at hr ⊢
      exact ⟨_, rfl, hB.trans (hb.mono hB.size), (fun h => (h5a h).later hb), (fun h => (h5b h).later hb), fun _ => ⟨a3, c3, rfl, hr.rd⟩⟩
    simp only [Act.put, List.setIfInBounds_toArray, List.set_cons_succ, List.set_cons_zero]
    (repeat (first | (refine gs_quiet (fun w' => ∃ u, w' = W u) (fun _ _ w' _ => hU w') rfl rfl (fun _ _ _ _ h => h) rfl ?_; intro K hK; go_big_quiet_op; first | go_big_quiet_on | (refine ⟨_, fun _ => rfl, ?_⟩; go_big_quiet_on)) | (refine gs_nil rfl rfl (fun _ _ _ _ h => h) _ rfl _ rfl ?_; simp only [Act.put, List.setIfInBounds_toArray, List.set_cons_succ, List.set_cons_zero])))
    refine gs_run (.int .i64 (K : Nat)) rfl rfl (fun _ _ _ _ h => h) (fun w => by simp [execOp, Act.eval, resolve, invoke, builtin, Result.andThen, run_len_slice (P := Try.prog) (t := 29) (h := Try.underlying29), goInt]) ?_
    simp only [Act.put, List.setIfInBounds_toArray, List.set_cons_succ, List.set_cons_zero]
    (repeat (first | (refine gs_quiet (fun w' => ∃ u, w' = W u) (fun _ _ w' _ => hU w') rfl rfl (fun _ _ _ _ h => h) rfl ?_; intro K hK; go_big_quiet_op; first | go_big_quiet_on | (refine ⟨_, fun _ => rfl, ?_⟩; go_big_quiet_on)) | (refine gs_nil rfl rfl (fun _ _ _ _ h => h) _ rfl _ rfl ?_; simp only [Act.put, List.setIfInBounds_toArray, List.set_cons_succ, List.set_cons_zero])))
    rintro x S X hS ⟨hB, h5a, h5b, h16⟩
    obtain ⟨a3, c3, e16, hr3⟩ := h16 (hS 16 (by decide))
    have M5 := Lib.hid (h5b (hS 5 (by decide)))
    change wpList _ _ _ _ (Act.put _ (some 80) (x 16)) _
    rw [e16]
    clear h5a h5b h16 hS e16
    have B5 := Lib.hid hB
    clear hB
    simp only [Act.put, List.setIfInBounds_toArray, List.set_cons_succ, List.set_cons_zero]
    have C9 : Hid (∀ X a3 c3, Rd X a3 A → Rd X ao A → Calls Try.prog 12 #[.slice a3 K c3, .slice ao K ca] X fun e w' => e = .returned (.bool true) ∧ ∃ q, w' = X.drewN q) := Lib.hid fun X a3 c3 h1 h2 => by
      have := same_any X a3 ao A A c3 ca (by rw [HAL.out]; omega) h1 h2
      rw [decide_eq_true rfl, HAL.out] at this
      exact this
    have B7 := Lib.hid (B3.out.trans (B5.out.mono B3.out.size))
    go_wp2_with (first
      | (go_at_call 12; (with_reducible refine (C9.out _ _ _ hr3 (HRA.out.later B7.out)).mono ?_); rintro e w7 ⟨rfl, q7, rfl⟩; clear C9))
    go_loopw [16, 17] (fun lv i wr => ∃ (j last q : Nat), j ≤ pn ∧ i = .int .i64 j ∧ lv = .int .u64 last ∧ wr = X.drewN q ∧ last ≤ 2000 ∧ Hid (j ≠ 0 → last = (pget ps (j - 1)).1 + (pget ps (j - 1)).2.length)) (fun _ i _ => pn - (intOf i).toNat)
    case atStart => exact ⟨0, 0, q7, by omega, rfl, rfl, rfl, by omega, Lib.hid fun h => absurd rfl h⟩
    case round =>
      obtain ⟨j, last, q, hj, rfl, rfl, rfl, hlast, hprev⟩ := hrel
      by_cases hlt : j < pn
      · obtain ⟨a, b, o, so, c, rfl, f0, f1, f2, f3⟩ := HP.out X B5.out j (by rw [HPN.out]; exact hlt)
        have hin := HPIN.out j hlt
        obtain ⟨g1, g2, g3, _⟩ := HSP2.out _ hin
        have HPRE : Hid (j ≠ 0 → last < (pget ps j).1) := Lib.hid fun h0 => by
          have := HSP3.out (j - 1) (by omega)
          rw [show j - 1 + 1 = j by omega] at this
          rw [hprev.out h0]; exact this
        obtain ⟨p, hp⟩ : ∃ p, pget ps j = p := ⟨_, rfl⟩
        have HP' := Lib.hid hp
        rw [hp] at f1 f2 f3 g1 g2 HPRE
        obtain ⟨pa, pl⟩ := p
        simp only [] at f1 f2 f3 g1 g2 HPRE
        obtain ⟨le, hle⟩ : ∃ x, pl.length = x := ⟨_, rfl⟩
        have HLE := Lib.hid hle
        rw [hle] at f2 g1
        rw [HAL.out] at g1
        have hle0 : ¬ le = 0 := fun e => g2 (List.eq_nil_of_length_eq_zero (by rw [hle, e]))
        have hle1 : ((le : Int) == 0) = false := by rw [beq_eq_false_iff_ne]; omega
        have hpa : pa + le ≤ 2000 := by omega
        clear hp hle g2 hin g3 f3 hprev
        by_cases hj0 : j = 0
        · subst hj0
          go_wp2_with fail
          go_quiet (fail)
          go_wp2
          go_roundw
          case rel => exact ⟨1, pa + le, _, by omega, rfl, by simp, rfl, hpa, Lib.hid fun _ => by show pa + le = (pget ps 0).1 + (pget ps 0).2.length; rw [HP'.out]; show pa + le = pa + pl.length; rw [HLE.out]⟩
          case measure => simp [intOf]; omega
        · have h6 := HPRE.out hj0
          have h7 : ¬ pa ≤ last := by omega
          have h8 : 0 < j := by omega
          go_wp2_with fail
          go_quiet (fail)
          go_wp2
          go_roundw
          case rel => exact ⟨j + 1, pa + le, _, by omega, by go_num, by simp, rfl, hpa, Lib.hid fun _ => by rw [Nat.add_sub_cancel, HP'.out]; show pa + le = pa + pl.length; rw [HLE.out]⟩
          case measure => simp [intOf]; omega
      · have B8 : Hid (Below w.heap.size w (X.drewN q)) := Lib.hid (below_drewN B7.out)
        rcases Nat.eq_zero_or_pos K with hK0 | hK0
        · have hk0 : ((K : Int) == 0) = true := by rw [hK0]; rfl
          go_wp2_with (first
            | (go_at_call 9; (with_reducible refine (lives_c _).mono ?_); rintro e w8 ⟨rfl, h8⟩))
          go_ret
          exact ⟨rfl, B8.out.trans (h8.mono B8.out.size)⟩
        · have hk0 : ((K : Int) == 0) = false := by rw [beq_eq_false_iff_ne]; omega
          rcases Nat.eq_zero_or_pos turn with ht0 | ht0
          · have ht1 : ((turn : Int) == 0) = true := by rw [ht0]; rfl
            go_wp2_with (first
              | (go_at_call 9; (with_reducible refine (lives_c _).mono ?_); rintro e w8 ⟨rfl, h8⟩))
            go_ret
            exact ⟨rfl, B8.out.trans (h8.mono B8.out.size)⟩
          · have ht1 : ((turn : Int) == 0) = false := by rw [beq_eq_false_iff_ne]; omega
            obtain ⟨p, hp⟩ : ∃ p, at' % K = p := ⟨_, rfl⟩
            have hpK : p < K := by rw [← hp]; exact Nat.mod_lt _ hK0
            have e1 : (at' : Int) % (K : Int) = (p : Int) := by rw [← hp]; rfl
            clear hp
            obtain ⟨ab, rfl, hcell⟩ := (HRL.out.later B7.out) p (by rw [HL.out]; exact hpK)
            obtain ⟨y, hy⟩ : ∃ y, L[p]?.getD 0 = y := ⟨_, rfl⟩
            have hy256 : y < 256 := by rw [← hy]; exact getD_small HSL.out p
            rw [hy] at hcell
            have HY := Lib.hid hy
            clear hy
            have hne0 : turn ≠ 0 := by omega
            obtain ⟨xv, hxv⟩ : ∃ xv, y ^^^ turn = xv := ⟨_, rfl⟩
            have ex : bits .xor .u8 (y : Int) (turn : Int) = ((xv : Nat) : Int) := by rw [← hxv]; exact u8_xor_nat y turn hy256 htn
            have hx256 : xv < 256 := by rw [← hxv]; exact Nat.xor_lt_two_pow (n := 8) hy256 htn
            have hxy : xv ≠ y := by rw [← hxv]; exact xor_ne hne0
            clear hxv hne0
            have HNE : Hid (put L p [xv] ≠ L) := Lib.hid (put_one_ne (by rw [HL.out]; exact hpK) (by show xv ≠ L[p]?.getD 0; rw [HY.out]; exact hxy))
            have HFN : Hid (fnv (put L p [xv]) ≠ fnv L) := Lib.hid (fnv_turned (by rw [HL.out]; exact hpK) HSL.out hx256 (by show xv ≠ L[p]?.getD 0; rw [HY.out]; exact hxy))
            have PUT : Hid (Calls Try.prog 20 #[.pointer (some ⟨m3, 0, none⟩), .int .u64 p, .slice (some ⟨X.heap.size, 0, none⟩) 1 1] ((X.drewN q).alloc (.cells #[.int .u8 (xv : Nat)] 5)) fun e w' =>
                e = .returned (.int .i64 0) ∧ MemIs w' w3.heap.size m3 (.slice x3 K y3) (put L p [xv]) ∧ Below w3.heap.size w3 w') := Lib.hid (by
              have hbw := (below_drewN (Below.refl X.heap.size X) (k := q)).trans (below_alloc (X.drewN q) (.cells #[.int .u8 (xv : Nat)] 5))
              have := put_c _ w3.heap.size m3 x3 (some ⟨X.heap.size, 0, none⟩) K y3 p 1 1 L [xv] (M5.out.later hbw) rfl (by omega) (fun y hy => by simp at hy; omega) (fun i hi => by
                simp only [List.length_cons, List.length_nil] at hi
                obtain rfl : i = 0 := by omega
                exact ⟨_, rfl, by rw [add0]; exact (Blk.new (X.drewN q) #[.int .u8 (xv : Nat)] 5).cell 0⟩)
              refine this.mono ?_
              rintro e w' ⟨rfl, h1, h2⟩
              exact ⟨rfl, h1, (B5.out.trans (hbw.mono B5.out.size)).grown h2 (Nat.le_trans B5.out.size hbw.size) Q3lt.out⟩)
            obtain ⟨L', hL'⟩ : ∃ L', put L p [xv] = L' := ⟨_, rfl⟩
            rw [hL'] at PUT HNE HFN
            clear hL'
            obtain ⟨F1, hF1⟩ : ∃ F, fnv L' = F := ⟨_, rfl⟩
            obtain ⟨F2, hF2⟩ : ∃ F, fnv L = F := ⟨_, rfl⟩
            have S1 : Hid (∀ W9, MemIs W9 w3.heap.size m3 (.slice x3 K y3) L' → Calls Try.prog 24 #[.pointer (some ⟨m3, 0, none⟩)] W9 fun e w' => e = .returned (.int .u64 (F1 : Nat)) ∧ w' = W9) := Lib.hid fun W9 h => by
              have := sum_c W9 m3 x3 L' y3 (by rw [← h.own.n_eq]; exact h.hd) h.own.rd h.small
              rw [hF1] at this; exact this
            have S2 : Hid (∀ W9, Below w3.heap.size w3 W9 → Calls Try.prog 24 #[.pointer (some ⟨m2, 0, none⟩)] W9 fun e w' => e = .returned (.int .u64 (F2 : Nat)) ∧ w' = W9) := Lib.hid fun W9 hb => by
              have h := HO2.out W9 hb
              have := sum_c W9 m2 x2 L y2 (by rw [← h.own.n_eq]; exact h.hd) h.own.rd h.small
              rw [hF2] at this; exact this
            have S3 : Hid (∀ W9, MemIs W9 w3.heap.size m3 (.slice x3 K y3) L' → Below w3.heap.size w3 W9 → Calls Try.prog 22 #[.pointer (some ⟨m3, 0, none⟩), .pointer (some ⟨m2, 0, none⟩)] W9 fun e w' => e = .returned (.bool false) ∧ ∃ q, w' = W9.drewN q) := Lib.hid fun W9 h hb => by
              have := same2_c W9 w.heap.size m3 m2 (.slice x3 K y3) (.slice x2 K y2) L' L (h.mono B3.out.size) (HO2.out W9 hb)
              rw [decide_eq_false HNE.out] at this; exact this
            have hF0 : ((F1 : Int) == (F2 : Int)) = false := by
              rw [beq_eq_false_iff_ne]
              have := HFN.out
              rw [hF1, hF2] at this
              omega
            have hF : ((F1 : Int) != (F2 : Int)) = true := by rw [bne, hF0]; rfl
            clear hF1 hF2 HNE HFN
            go_wp2_with (first
              | (go_at_call 20; (with_reducible refine PUT.out.mono ?_); rintro e w9 ⟨rfl, M9, b9⟩; clear PUT)
              | (go_at_call 24; (with_reducible refine (S1.out _ M9).mono ?_); rintro e w10 ⟨rfl, rfl⟩; clear S1)
              | (go_at_call 24; (with_reducible refine (S2.out _ b9).mono ?_); rintro e w11 ⟨rfl, rfl⟩)
              | (go_at_call 22; (with_reducible refine (S3.out _ M9 b9).mono ?_); rintro e w12 ⟨rfl, q12, rfl⟩; have b12 := Lib.hid (B3.out.trans ((below_drewN b9 (k := q12)).mono B3.out.size)))
              | (go_at_call 9; (with_reducible refine (lives_c _).mono ?_); rintro e w8 ⟨rfl, h8⟩))
            go_ret
            exact ⟨rfl, b12.out.trans (h8.mono b12.out.size)⟩
theorem walk_MemBack (ao bo : Option Addr) (n k ca cb at' turn : Nat) (la lb : List Nat) (w : World) (hla : la.length = n) (hlb : lb.length = k) (hr : Rd w ao la) (hr2 : Rd w bo lb)
    (hs : ∀ x ∈ la, x < 256) (hs2 : ∀ x ∈ lb, x < 256) (hc : n ≤ ca) (hc2 : k ≤ cb) (hat : at' < 18446744073709551616) (htn : turn < 256) :
    Calls Try.prog 7 #[.slice ao n ca, .slice bo k cb, .int .u64 at', .int .u8 turn] w fun e w' => e = .returned (.bool true) ∧ Below w.heap.size w w' := by
  by_cases h : 2000 < n ∨ 2000 < k
  · exact walk_MemBack_big w ao bo n k ca cb at' turn h
  · exact walk_MemBack_small w ao bo n k ca cb at' turn la lb (by omega) (by omega) hla hlb hr hr2 hs hs2 hc hc2 hat htn
end Go.Proofs.Ytdgdmhmagdjeoaa
