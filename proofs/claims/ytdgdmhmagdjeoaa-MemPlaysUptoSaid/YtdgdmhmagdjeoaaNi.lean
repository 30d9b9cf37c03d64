/- Contract of abacusref28.Changed: the walk; mem.Changed of memories of unlike lengths. -/
import Derived.Test.YtdgdmhmagdjeoaaNh
namespace Go.Proofs.Ytdgdmhmagdjeoaa
open Go.RowKit
set_option maxHeartbeats 4000000
set_option maxRecDepth 100000
set_option linter.unusedVariables false
set_option linter.unusedSimpArgs false
theorem growL_mem : ∀ (ps : List (Nat × List Nat)) (y : Nat) (p : Nat × List Nat), p ∈ growL ps y → ∃ q ∈ ps, p.2.length ≤ q.2.length + 1
  | [], y, p, h => by simp [growL] at h
  | [q], y, p, h => by
    simp only [growL, List.mem_singleton] at h
    subst h
    exact ⟨q, by simp, by simp⟩
  | q :: r :: ps, y, p, h => by
    have h' : p = q ∨ p ∈ growL (r :: ps) y := by simpa [growL] using h
    rcases h' with rfl | h'
    · exact ⟨p, by simp, by omega⟩
    · obtain ⟨t, h1, h2⟩ := growL_mem (r :: ps) y p h'
      exact ⟨t, List.mem_cons_of_mem _ h1, h2⟩
theorem chgR_wid (a b : List Nat) : ∀ i, ∀ p ∈ chgR a b i, p.2.length ≤ i
  | 0, p, h => by simp [chgR] at h
  | i + 1, p, h => by
    rw [chgR] at h
    split at h
    · have := chgR_wid a b i p h; omega
    · split at h
      · obtain ⟨q, h1, h2⟩ := growL_mem _ _ _ h
        have := chgR_wid a b i q h1; omega
      · rcases List.mem_append.1 h with h | h
        · have := chgR_wid a b i p h; omega
        · simp only [List.mem_singleton] at h
          subst h
          simp
theorem run_append_op {A : Act} {o : Oper} {X w' : World} {v' : Value} (s x : Operand) (ho : o.op = .call { callee := .builtin .append, args := #[s, x], argTypes := #[29, 29] }) (v1 v2 : Value) (h1 : A.eval s = v1) (h2 : A.eval x = v2)
    (r : (Builtin.append_ #[29, 29] o.type #[v1, v2]).run Try.prog X = .ok v' w') : (execOp A.eval o).run Try.prog X = .ok (.value v') w' := by
  simp [execOp, ho, resolve, invoke, builtin, h1, h2, r, Result.andThen]
theorem rchanged_len (w : World) (ao bo : Option Addr) (n k ca cb : Nat) (h : n ≠ k) :
    Calls Try.prog 29 #[.slice ao n ca, .slice bo k cb] w fun e w' => e = .returned (.tuple #[.slice none 0 0, .int .i64 2]) ∧ w' = w := by
  have hne : ((n : Int) == (k : Int)) = false := by rw [beq_eq_false_iff_ne]; omega
  have hne2 : ((n : Int) != (k : Int)) = true := by rw [bne, hne]; rfl
  go_enter Try.func29, Try.ntmps29
  go_wp2
  go_ret2
  exact ⟨rfl, rfl⟩
theorem rchanged_c (w : World) (ao bo : Option Addr) (ca cb : Nat) (x y : List Nat) (h1 : Rd w ao x) (h2 : Rd w bo y) (hl : x.length = y.length) (hlen : x.length ≤ 16777216) :
    Calls Try.prog 29 #[.slice ao x.length ca, .slice bo x.length cb] w fun e w' => ∃ v, e = .returned (.tuple #[v, .int .i64 0]) ∧ PIs w' w.heap.size v (chgL x y 0) ∧ Below w.heap.size w w' := by
  have HALL := Lib.hid (chgR_all hl)
  obtain ⟨n, hn⟩ : ∃ n, x.length = n := ⟨_, rfl⟩
  rw [hn] at hlen hl ⊢
  have HN := Lib.hid hn
  have HM := Lib.hid hl.symm
  have H1 := Lib.hid h1
  have H2 := Lib.hid h2
  have hnn : ((n : Int) != (n : Int)) = false := by simp
  clear h1 h2 hl hn
  go_enter Try.func29, Try.ntmps29
  go_wp2
  go_loopw [6, 7] (fun v i wr => ∃ (j s : Nat), j ≤ n ∧ i = .int .i64 j ∧ PGs wr w.heap.size s v (chgR x y j) ∧ Below w.heap.size w wr) (fun _ i _ => n - (intOf i).toNat)
  case atStart => exact ⟨0, w.heap.size, by omega, rfl, PGs.nil _ _ (Nat.le_refl _), Below.refl _ _⟩
  case round =>
    obtain ⟨j, s, hj, rfl, hP, hB⟩ := hrel
    have HP := Lib.hid hP
    have HB := Lib.hid hB
    by_cases hlt : j < n
    · obtain ⟨a, rfl, hc1⟩ := (H1.out.later hB) j (by rw [HN.out]; exact hlt)
      obtain ⟨b, rfl, hc2⟩ := (H2.out.later hB) j (by rw [HM.out]; exact hlt)
      have HD1 : Hid (∀ i, i < n → ∀ X, Below w.heap.size w X → X.cell? (a.add i) = some (.int .u8 (at' x i : Nat))) := Lib.hid fun i hi X hX => by
        obtain ⟨a', e, hc⟩ := (H1.out.later hX) i (by rw [HN.out]; exact hi)
        cases e; exact hc
      have HD2 : Hid (∀ i, i < n → ∀ X, Below w.heap.size w X → X.cell? (b.add i) = some (.int .u8 (at' y i : Nat))) := Lib.hid fun i hi X hX => by
        obtain ⟨a', e, hc⟩ := (H2.out.later hX) i (by rw [HM.out]; exact hi)
        cases e; exact hc
      have HLN := Lib.hid (chgR_len x y j)
      obtain ⟨c, hx⟩ : ∃ c, x[j]?.getD 0 = c := ⟨_, rfl⟩
      obtain ⟨d, hy⟩ : ∃ c, y[j]?.getD 0 = c := ⟨_, rfl⟩
      rw [hx] at hc1
      rw [hy] at hc2
      have HX := Lib.hid hx
      have HY := Lib.hid hy
      clear hP hB hx hy
      by_cases hxy : c = d
      · obtain rfl := hxy
        have H3 : Hid (chgR x y (j + 1) = chgR x y j) := Lib.hid (chgR_eq (HX.out.trans HY.out.symm))
        obtain ⟨ps, hps⟩ : ∃ ps, chgR x y j = ps := ⟨_, rfl⟩
        rw [hps] at HP H3 HLN
        obtain ⟨lo, lc, rfl, _⟩ := HP.out.pis.shape
        clear hps
        go_wp2_with fail
        go_quiet (fail)
        go_wp2
        go_roundw
        case rel => exact ⟨j + 1, s, by omega, by go_num, by rw [H3.out]; exact HP.out.later (below_drewN (Below.refl _ _)), below_drewN HB.out⟩
        case measure => simp [intOf]; omega
      · have e1 : ((c : Int) == (d : Int)) = false := by rw [beq_eq_false_iff_ne]; omega
        have HNE : Hid (at' x j ≠ at' y j) := Lib.hid (by show x[j]?.getD 0 ≠ y[j]?.getD 0; rw [HX.out, HY.out]; exact hxy)
        have NEW : Hid ((j = 0 ∨ at' x (j - 1) = at' y (j - 1)) → chgR x y (j + 1) = chgR x y j ++ [(j, [d])]) := Lib.hid fun h => by
          rw [chgR_new HNE.out h]; show _ ++ [(j, [y[j]?.getD 0])] = _; rw [HY.out]
        have MORE : Hid (0 < j → at' x (j - 1) ≠ at' y (j - 1) → ∃ qs k l, chgR x y j = qs ++ [(k, l)] ∧ chgR x y (j + 1) = qs ++ [(k, l ++ [d])]) := Lib.hid fun h0 h => by
          obtain ⟨qs, k, l, e⟩ := chgR_ne x y (j - 1) h
          rw [show j - 1 + 1 = j by omega] at e
          refine ⟨qs, k, l, e, ?_⟩
          rw [chgR_more HNE.out h0 h, e, growL_snoc]; show _ ++ [(k, l ++ [y[j]?.getD 0])] = _; rw [HY.out]
        have hend : ∀ X v' ps', chgR x y (j + 1) = ps' → PGs X w.heap.size s v' ps' → PGs X w.heap.size s v' (chgR x y (j + 1)) := fun X v' ps' e h => by rw [e]; exact h
        clear hend
        by_cases hnew : j = 0 ∨ at' x (j - 1) = at' y (j - 1)
        · have H3 := Lib.hid (NEW.out hnew)
          obtain ⟨ps, hps⟩ : ∃ ps, chgR x y j = ps := ⟨_, rfl⟩
          rw [hps] at HP H3 HLN
          obtain ⟨lo, lc, rfl, _⟩ := HP.out.pis.shape
          clear hps NEW MORE HNE
          have HPL : Hid (ps.length ≤ 1000000000) := Lib.hid (by have := HLN.out; omega)
          have HPQ : Hid (∀ q, PGs (wr.drewN q) w.heap.size s (.slice lo ps.length lc) ps) := Lib.hid fun q => HP.out.later (below_drewN (Below.refl _ _))
          have BB : Hid (∀ q, Below (wr.drewN q).heap.size (wr.drewN q) (((wr.drewN q).alloc (.cells #[.int .u8 (d : Nat)] 5)).alloc (.cells #[.int .u64 (j : Nat), .slice (some ⟨wr.heap.size, 0, none⟩) 1 1] 58))) := Lib.hid fun q => ((Below.refl _ _).alloc (Nat.le_refl _) _).alloc (by simp) _
          have BC : Hid (∀ q, Blk (((wr.drewN q).alloc (.cells #[.int .u8 (d : Nat)] 5)).alloc (.cells #[.int .u64 (j : Nat), .slice (some ⟨wr.heap.size, 0, none⟩) 1 1] 58)) (wr.heap.size + 1) #[.int .u64 (j : Nat), .slice (some ⟨wr.heap.size, 0, none⟩) 1 1] 58) := Lib.hid fun q => by have := Blk.new ((wr.drewN q).alloc (.cells #[.int .u8 (d : Nat)] 5)) #[.int .u64 (j : Nat), .slice (some ⟨wr.heap.size, 0, none⟩) 1 1] 58; simpa using this
          have RR : Hid (∀ q, Row (((wr.drewN q).alloc (.cells #[.int .u8 (d : Nat)] 5)).alloc (.cells #[.int .u64 (j : Nat), .slice (some ⟨wr.heap.size, 0, none⟩) 1 1] 58)) wr.heap.size (.slice (some ⟨wr.heap.size, 0, none⟩) 1 1) [d]) := Lib.hid fun q => World.ownsRow.alloc (row_one (wr.drewN q) d) _
          have BW : Hid (∀ q, Below w.heap.size w (((wr.drewN q).alloc (.cells #[.int .u8 (d : Nat)] 5)).alloc (.cells #[.int .u64 (j : Nat), .slice (some ⟨wr.heap.size, 0, none⟩) 1 1] 58))) := Lib.hid fun q => ((below_drewN HB.out).alloc HB.out.size _).alloc (Nat.le_trans HB.out.size (by simp)) _
          by_cases hj0 : j = 0
          · have d0 : decide ((0 : Int) < (j : Int)) = false := decide_eq_false (by omega)
            have d1 : decide (0 < j) = false := decide_eq_false (by omega)
            clear hj0 hnew
            go_wp2_with fail
            go_quiet (fail)
            go_wp2
            go_quiet (fail)
            go_wp2_with (first
              | (at_builtin; refine wpList_appendG rfl (.tmp 62) (.tmp 71) rfl w.heap.size s wr.heap.size _ ps rfl (HPQ.out _) (BB.out _) (Nat.le_refl _) (BB.out _).size HB.out.size (wr.heap.size + 1) 1 1 j (some ⟨wr.heap.size, 0, none⟩) 1 1 rfl [d] rfl ((BC.out _).cell 0) ((BC.out _).cell 1) (RR.out _) HPL.out (BW.out _).size ?_; intro v3 w3 hP3 hb3; have HB3 := Lib.hid ((BW.out _).trans hb3); have HP3 := Lib.hid hP3; clear hP3 hb3))
            go_roundw
            case rel => exact ⟨j + 1, wr.heap.size, by omega, by go_num, by rw [H3.out]; exact HP3.out, HB3.out⟩
            case measure => simp [intOf]; omega
          · have d0 : decide ((0 : Int) < (j : Int)) = true := decide_eq_true (by omega)
            have d1 : decide (0 < j) = true := decide_eq_true (by omega)
            have hq := hnew.resolve_left hj0
            obtain ⟨j1, hj1⟩ : ∃ j1, j - 1 = j1 := ⟨_, rfl⟩
            have K1 : (j : Int) - 1 = (j1 : Int) := by omega
            have hj1n : j1 < n := by omega
            rw [hj1] at hq
            have f1 := HD1.out j1 hj1n wr HB.out
            have f2 := HD2.out j1 hj1n wr HB.out
            rw [hq] at f1
            obtain ⟨z, hz⟩ : ∃ z, at' y j1 = z := ⟨_, rfl⟩
            rw [hz] at f1 f2
            have hzz : ((z : Int) != (z : Int)) = false := by simp
            clear hj0 hnew hq hz hj1
            go_wp2_with fail
            go_quiet (fail)
            go_wp2
            go_quiet (fail)
            go_wp2_with (first
              | (at_builtin; refine wpList_appendG rfl (.tmp 62) (.tmp 71) rfl w.heap.size s wr.heap.size _ ps rfl (HPQ.out _) (BB.out _) (Nat.le_refl _) (BB.out _).size HB.out.size (wr.heap.size + 1) 1 1 j (some ⟨wr.heap.size, 0, none⟩) 1 1 rfl [d] rfl ((BC.out _).cell 0) ((BC.out _).cell 1) (RR.out _) HPL.out (BW.out _).size ?_; intro v3 w3 hP3 hb3; have HB3 := Lib.hid ((BW.out _).trans hb3); have HP3 := Lib.hid hP3; clear hP3 hb3))
            go_roundw
            case rel => exact ⟨j + 1, wr.heap.size, by omega, by go_num, by rw [H3.out]; exact HP3.out, HB3.out⟩
            case measure => simp [intOf]; omega
        · have hjp : 0 < j := Nat.pos_of_ne_zero fun e => hnew (.inl e)
          have hq : ¬ at' x (j - 1) = at' y (j - 1) := fun e => hnew (.inr e)
          obtain ⟨qs, kk, l0, hq1, hq2⟩ := MORE.out hjp hq
          have H3 := Lib.hid hq2
          have HLW : Hid (l0.length ≤ 16777216) := Lib.hid (by have := chgR_wid x y j (kk, l0) (by rw [hq1]; simp); simp only [] at this; omega)
          rw [hq1] at HP HLN
          obtain ⟨g, cap, so, c2, rfl, hcell, hfz, hrow, hng⟩ := HP.out.last
          have d0 : decide ((0 : Int) < (j : Int)) = true := decide_eq_true (by omega)
          have d1 : decide (0 < j) = true := decide_eq_true (by omega)
          obtain ⟨j1, hj1⟩ : ∃ j1, j - 1 = j1 := ⟨_, rfl⟩
          have K1 : (j : Int) - 1 = (j1 : Int) := by omega
          have hj1n : j1 < n := by omega
          rw [hj1] at hq
          obtain ⟨z, hz⟩ : ∃ z, at' x j1 = z := ⟨_, rfl⟩
          obtain ⟨z2, hz2⟩ : ∃ z, at' y j1 = z := ⟨_, rfl⟩
          have hzz : ((z : Int) != (z2 : Int)) = true := by rw [bne_iff_ne]; intro e; exact hq (by rw [hz, hz2]; omega)
          have hzz2 : ((z : Int) == (z2 : Int)) = false := by rw [beq_eq_false_iff_ne]; intro e; exact hq (by rw [hz, hz2]; omega)
          have HZ := Lib.hid hz
          have HZ2 := Lib.hid hz2
          obtain ⟨m, hm⟩ : ∃ m, qs.length = m := ⟨_, rfl⟩
          obtain ⟨le, hle⟩ : ∃ le, l0.length = le := ⟨_, rfl⟩
          have HM0 := Lib.hid hm
          have HLE := Lib.hid hle
          rw [hm] at hcell hfz ⊢
          rw [hle] at hcell hrow hng
          obtain ⟨m2, hm2⟩ : ∃ m2, m + 1 = m2 := ⟨_, rfl⟩
          rw [hm2]
          have KM : (m2 : Int) - 1 = (m : Int) := by omega
          have hmm : m < m2 := by omega
          have hmb : m2 ≤ 16777217 := by have := HLN.out; rw [List.length_append, List.length_singleton, HM0.out] at this; omega
          have HM2 := Lib.hid hm2
          have HROW := Lib.hid hrow
          have HCELL := Lib.hid hcell
          have HNG := Lib.hid hng
          clear hnew hjp hq hq1 hq2 NEW MORE HNE hj1 hz hz2 hm hle hm2 hrow hcell hng hfz
          go_wp2_with fail
          go_quiet (fail)
          go_wp2
          obtain ⟨W1, hW1⟩ : ∃ W1, wr.drewN nq = W1 := ⟨_, rfl⟩
          have hb1 : Below wr.heap.size wr W1 := by rw [← hW1]; exact below_drewN (Below.refl _ _)
          rw [hW1]
          have f1 := HD1.out j1 hj1n W1 (HB.out.trans (hb1.mono HB.out.size))
          have f2 := HD2.out j1 hj1n W1 (HB.out.trans (hb1.mono HB.out.size))
          rw [HZ.out] at f1
          rw [HZ2.out] at f2
          have HB1 := Lib.hid hb1
          clear hW1 hb1 hc1 hc2
          go_quiet (fail)
          go_wp2
          obtain ⟨W, hW⟩ : ∃ W, W1.drewN nq = W := ⟨_, rfl⟩
          have hb2 : Below W1.heap.size W1 W := by rw [← hW]; exact below_drewN (Below.refl _ _)
          rw [hW]
          have hbW : Below wr.heap.size wr W := HB1.out.trans (hb2.mono HB1.out.size)
          have HBW := Lib.hid (HB.out.trans (hbW.mono HB.out.size))
          have BND := Lib.hid (HP.out.later hbW).hs
          have hPW := HP.out.later hbW
          have hcW := cell_later hbW HCELL.out
          have hrW : Row W s (.slice so le c2) l0 := HROW.out.kept (below_grown hbW none) (by cases (Value.slice so le c2).ownBlock <;> simp)
          obtain ⟨r, hr⟩ : ∃ r, (Value.slice so le c2).ownBlock = r := ⟨_, rfl⟩
          have hbs : ∀ X, W.grownBy X r → Below w.heap.size w X := fun X hX => HBW.out.grown hX HBW.out.size fun k hk => by
            rw [← hr] at hk; exact Nat.le_trans HP.out.hB (hrW.lt k hk).1
          obtain ⟨U, Wd, hWd, hU⟩ : ∃ (U : Type) (Wd : U → World), (∀ u, W.grownBy (Wd u) r) ∧ (∀ w', W.grownBy w' r → ∃ u, w' = Wd u) := ⟨{ w' // W.grownBy w' r }, Subtype.val, fun u => u.2, fun w' h => ⟨⟨w', h⟩, rfl⟩⟩
          have t1 : ∀ u, (Wd u).cell? ⟨g, m * 2 + 1, none⟩ = some (.slice so le c2) := fun u => (hWd u).cell hcW (by rw [← hr]; exact fun e => HNG.out e.symm)
          have t2 : ∀ u, (Wd u).cell? (b.add j) = some (.int .u8 (d : Nat)) := fun u => by
            have := HD2.out j hlt _ (hbs _ (hWd u))
            rwa [show at' y j = d from HY.out] at this
          have HU := Lib.hid hU
          have HPW := Lib.hid hPW
          have HRW := Lib.hid hrW
          have HBS := Lib.hid hbs
          have HRR := Lib.hid hr
          replace hWd := Lib.hid hWd
          have HHCW := Lib.hid hcW
          clear hW hb2 hbW hPW hcW hrW hbs hU hr f1 f2
          refine wp_region_gz [_, _, _, _, _, _, _, _, _, _, _, _, _, _, _, _, _, _, _] [_] (fun j => [15, 16].contains j) (fun j => [16].contains j) (fun x S X => W.grownBy X r ∧ (S 16 = false → Row X s (.slice so le c2) l0) ∧ (S 15 = true → ∃ g1, x 15 = .slice (some ⟨g1, 0, none⟩) 1 1 ∧ (S 16 = false → X.cell? ⟨g1, 0, none⟩ = some (.int .u8 (d : Nat)))) ∧ (S 16 = true → ∃ so2 c3, x 16 = .slice so2 (le + 1) c3 ∧ Row X s (.slice so2 (le + 1) c3) (l0 ++ [d])))
            (by kernel_rfl) (by kernel_rfl) (by kernel_rfl) (by kernel_rfl) (fun x => ⟨grown_drew (World.grownBy.refl _ _), fun _ => HRW.out, (fun h => by cases h), fun h => by cases h⟩) ?_
          iterate 2
            refine gz_quiet (fun w' => ∃ u, w' = Wd u) (fun x S w' h => HU.out w' h.1) rfl rfl rfl (fun _ _ _ _ h => h) rfl ?_
            intro K hK
            go_big_quiet_op
            first | go_big_quiet_on | (refine ⟨_, fun _ => rfl, ?_⟩; go_big_quiet_on)
          refine gz_run (.int .i64 (m2 : Nat)) rfl rfl rfl (fun _ _ _ _ h => h) (fun w => by simp [execOp, Act.eval, resolve, invoke, builtin, Result.andThen, run_len_slice (P := Try.prog) (t := 39) (h := Try.underlying39), goInt]) ?_
          simp only [Act.put, List.setIfInBounds_toArray, List.set_cons_succ, List.set_cons_zero]
          iterate 3
            refine gz_quiet (fun w' => ∃ u, w' = Wd u) (fun x S w' h => HU.out w' h.1) rfl rfl rfl (fun _ _ _ _ h => h) rfl ?_
            intro K hK
            go_big_quiet_op
            first | go_big_quiet_on | (refine ⟨_, fun _ => rfl, ?_⟩; go_big_quiet_on)
          refine gz_run (.int .i64 (m2 : Nat)) rfl rfl rfl (fun _ _ _ _ h => h) (fun w => by simp [execOp, Act.eval, resolve, invoke, builtin, Result.andThen, run_len_slice (P := Try.prog) (t := 39) (h := Try.underlying39), goInt]) ?_
          simp only [Act.put, List.setIfInBounds_toArray, List.set_cons_succ, List.set_cons_zero]
          iterate 8
            refine gz_quiet (fun w' => ∃ u, w' = Wd u) (fun x S w' h => HU.out w' h.1) rfl rfl rfl (fun _ _ _ _ h => h) rfl ?_
            intro K hK
            go_big_quiet_op
            first | go_big_quiet_on | (refine ⟨_, fun _ => rfl, ?_⟩; go_big_quiet_on)
          refine gz_val0 rfl rfl rfl ?_ ?_
          · rintro x S X h1 hcl ha ⟨hX, hx1, hx2, hx3⟩
            have h16 : S 16 = false := by
              cases h : S 16 with
              | false => rfl
              | true => have := hcl.chain 9 16 15 (by kernel_rfl) h; rw [h1] at this; cases this
            refine ⟨.slice (some ⟨X.heap.size, 0, none⟩) 1 1, X.alloc (.cells #[.int .u8 (d : Nat)] 5), by kernel_rfl, grown_alloc hX _, fun _ => (hx1 h16).alloc _, fun _ => ⟨_, rfl, fun _ => (Blk.new X #[.int .u8 (d : Nat)] 5).cell 0⟩, fun h => ?_⟩
            have h' : S 16 = true := h
            rw [h16] at h'; cases h'
          simp only [Act.put, List.setIfInBounds_toArray, List.set_cons_succ, List.set_cons_zero]
          refine gz_val rfl rfl ?_ ?_
          · rintro x S X h1 hcl ha ⟨hX, hx1, hx2, hx3⟩
            have d15 : S 15 = true := ha ⟨15, .data⟩ (by simp) rfl
            obtain ⟨g1, e15, hg1⟩ := hx2 d15
            have hrX := hx1 h1
            obtain ⟨v', w', r1, r2, r3, _⟩ := run_append8 s 29 (.slice so le c2) l0 hrX (some ⟨g1, 0, none⟩) 1 1 [d] rfl (fun e => by cases e) (fun i hi => by
              simp only [List.length_cons, List.length_nil] at hi
              obtain rfl : i = 0 := by omega
              exact ⟨_, rfl, by rw [add0]; exact hg1 h1⟩) (by have := HLW.out; simp only [List.length_cons, List.length_nil]; omega) (Nat.le_trans BND.out hX.size)
            obtain ⟨so2, c3, rfl, _⟩ := Row.form r2
            have hll : (l0 ++ [d]).length = le + 1 := by rw [List.length_append, HLE.out]; rfl
            rw [hll] at r1 r2
            refine ⟨by kernel_rfl, .slice so2 (le + 1) c3, w', ?_, grown_trans hX (by rw [HRR.out] at r3; exact r3), (fun h => by simp [ins] at h), fun _ => ⟨g1, e15, fun h => by simp [ins] at h⟩, fun _ => ⟨so2, c3, rfl, r2⟩⟩
            exact run_append_op (.tmp 53) (.tmp 58) rfl (.slice so le c2) (x 15) (by kernel_rfl) (by kernel_rfl) (by rw [e15]; exact r1)
          simp only [Act.put, List.setIfInBounds_toArray, List.set_cons_succ, List.set_cons_zero]
          iterate 2
            refine gz_quiet (fun w' => ∃ u, w' = Wd u) (fun x S w' h => HU.out w' h.1) rfl rfl rfl (fun _ _ _ _ h => h) rfl ?_
            intro K hK
            go_big_quiet_op
            first | go_big_quiet_on | (refine ⟨_, fun _ => rfl, ?_⟩; go_big_quiet_on)
          rintro x S X hS ⟨hX, hx1, hx2, hx3⟩
          obtain ⟨so2, c3, e16, hr2⟩ := hx3 (hS 16 (by decide))
          change wpList _ _ _ _ (Act.put (Act.put _ (some 58) (x 15)) (some 59) (x 16)) _
          rw [e16]
          have hcX : X.cell? ⟨g, m * 2 + 1, none⟩ = some (.slice so le c2) := hX.cell HHCW.out (by rw [← HRR.out]; exact fun e => HNG.out e.symm)
          have HGR : Hid (PGs (X.setCell ⟨g, m * 2 + 1, none⟩ (.slice so2 (le + 1) c3)) w.heap.size s (.slice (some ⟨g, 0, none⟩) m2 cap) (qs ++ [(kk, l0 ++ [d])]) ∧ X.frozen? ⟨g, m * 2 + 1, none⟩ = false) := Lib.hid (by
            have h1 := HPW.out
            have h2 := h1.grow (X := X) (v' := .slice so2 (le + 1) c3) (l' := l0 ++ [d]) (so := so) (c := c2) (by rw [HM0.out, HLE.out]; exact HHCW.out) (by rw [HLE.out, HRR.out]; exact hX) hr2
            rw [HM0.out, HM2.out] at h2
            refine ⟨h2, ?_⟩
            obtain ⟨us, _, k2, _⟩ := h1.ex
            have k3 := k2.kept hX (by
              refine .inr fun e => HNG.out ?_
              rw [HRR.out, ← e]; rfl)
            have hn : (qs ++ [(kk, l0)]).length = qs.length + 1 := by simp
            rw [hn] at k3
            exact World.ownsRow.frozenAt k3 _)
          have HBX := Lib.hid ((HBS.out X hX).setCell (p := ⟨g, m * 2 + 1, none⟩) (by
            obtain ⟨us, _, k2, _⟩ := HPW.out.ex
            exact (k2.lt g rfl).1) (.slice so2 (le + 1) c3))
          have hfX := HGR.out.2
          clear hx1 hx2 hx3 hS e16 hr2 hX
          simp only [Act.put, List.setIfInBounds_toArray, List.set_cons_succ, List.set_cons_zero]
          go_wp2
          go_roundw
          case rel => exact ⟨j + 1, s, by omega, by go_num, by rw [H3.out]; exact HGR.out.1, HBX.out⟩
          case measure => simp [intOf]; omega
    · obtain rfl : j = n := by omega
      go_wp2
      go_ret2
      refine ⟨_, rfl, ?_, hB⟩
      rw [← HALL.out, HN.out]
      exact hP.pis
end Go.Proofs.Ytdgdmhmagdjeoaa
