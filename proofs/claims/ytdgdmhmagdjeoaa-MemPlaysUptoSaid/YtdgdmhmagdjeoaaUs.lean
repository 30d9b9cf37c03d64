/- Rows of patches; contract of mem.Changed. -/
import Derived.Test.YtdgdmhmagdjeoaaUr
namespace Go.Proofs.Ytdgdmhmagdjeoaa
open Go.RowKit
set_option maxHeartbeats 4000000
set_option maxRecDepth 100000
set_option linter.unusedVariables false
set_option linter.unusedSimpArgs false
def pcells (qs : List (Nat × Value)) : List Value := qs.flatMap fun q => [.int .u64 (q.1 : Nat), q.2]
theorem pcells_get : ∀ (qs : List (Nat × Value)) (i : Nat) (q : Nat × Value), qs[i]? = some q → (pcells qs)[i * 2]? = some (.int .u64 (q.1 : Nat)) ∧ (pcells qs)[i * 2 + 1]? = some q.2
  | [], i, q, h => by simp at h
  | p :: qs, 0, q, h => by
    simp at h
    subst h
    exact ⟨rfl, rfl⟩
  | p :: qs, i + 1, q, h => by
    have := pcells_get qs i q (by simpa using h)
    rw [show (i + 1) * 2 = i * 2 + 2 by omega]
    exact this
theorem pcells_append (a b : List (Nat × Value)) : pcells (a ++ b) = pcells a ++ pcells b := by simp [pcells]
theorem pcells_length (a : List (Nat × Value)) : (pcells a).length = a.length * 2 := by
  induction a with
  | nil => rfl
  | cons p a ih =>
    show (pcells a).length + 2 = (a.length + 1) * 2
    omega
/-- a row of patches of the call's own, the bytes of each in a row of the call's own -/
structure PIs (w : World) (B : Nat) (v : Value) (ps : List (Nat × List Nat)) : Prop where
  ex : ∃ qs : List (Nat × Value), qs.length = ps.length ∧ w.ownsRow B 58 2 v ps.length (pcells qs) ∧ ∀ (i : Nat) (p : Nat × List Nat), ps[i]? = some p → ∃ so c, qs[i]? = some (p.1, Value.slice so p.2.length c) ∧ Row w B (.slice so p.2.length c) p.2
theorem PIs.nil (w : World) (B : Nat) : PIs w B (.slice none 0 0) [] := ⟨[], rfl, World.ownsRow_nil _ _ _ _, fun i p h => by simp at h⟩
/-- a row of bytes does not lie in a row of patches -/
theorem Row.apartP {w : World} {B B' : Nat} {v u : Value} {l : List Nat} {n : Nat} {cs : List Value} (h : Row w B v l) (hp : w.ownsRow B' 58 2 u n cs) : v.ownBlock = none ∨ v.ownBlock ≠ u.ownBlock := by
  rcases h.2 with ⟨rfl, _⟩ | ⟨g, cap, cur, rfl, _, hg, _⟩
  · exact .inl rfl
  · right
    rcases hp.2 with ⟨rfl, _⟩ | ⟨g', cap', cur', rfl, _, hg', _⟩
    · simp [Value.ownBlock]
    · simp only [Value.ownBlock, ne_eq, Option.some.injEq]
      rintro rfl
      have := hg.symm.trans hg'
      simp at this
theorem PIs.kept {w w1 : World} {r : Option Nat} {B : Nat} {v : Value} {ps : List (Nat × List Nat)} (h : PIs w B v ps) (hg : w.grownBy w1 r) (hr : ∀ k, r = some k → k < B ∨ w.heap.size ≤ k) : PIs w1 B v ps := by
  obtain ⟨qs, h1, h2, h3⟩ := h.ex
  have key : ∀ u : Value, (∀ k, u.ownBlock = some k → B ≤ k ∧ k < w.heap.size) → u.ownBlock = none ∨ u.ownBlock ≠ r := fun u hu => by
    cases hb : u.ownBlock with
    | none => exact .inl rfl
    | some k =>
      right
      rintro rfl
      have := hu k hb
      rcases hr k rfl with h | h <;> omega
  refine ⟨qs, h1, h2.kept hg (key _ h2.lt), fun i p hp => ?_⟩
  obtain ⟨so, c, h4, h5⟩ := h3 i p hp
  exact ⟨so, c, h4, h5.kept hg (key _ h5.lt)⟩
theorem PIs.later {w w1 : World} {B : Nat} {v : Value} {ps : List (Nat × List Nat)} (h : PIs w B v ps) (hb : Below w.heap.size w w1) : PIs w1 B v ps := h.kept (below_grown hb none) (by simp)
theorem PIs.shape {w : World} {B : Nat} {v : Value} {ps : List (Nat × List Nat)} (h : PIs w B v ps) : ∃ ao c, v = .slice ao ps.length c ∧ ∀ a, ao = some a → ∃ g, a = ⟨g, 0, none⟩ := by
  obtain ⟨qs, h1, h2, h3⟩ := h.ex
  rcases h2.2 with ⟨rfl, e⟩ | ⟨g, cap, cur, rfl, _⟩
  · exact ⟨none, 0, by rw [e], fun a h => by cases h⟩
  · exact ⟨_, cap, rfl, fun a h => by cases h; exact ⟨g, rfl⟩⟩
theorem PIs.rd {w : World} {B : Nat} {ao : Option Addr} {n c : Nat} {ps : List (Nat × List Nat)} (h : PIs w B (.slice ao n c) ps) : PRd w ao ps := fun i hi => by
  obtain ⟨qs, h1, h2, h3⟩ := h.ex
  obtain ⟨so, d, h4, h5⟩ := h3 i _ (List.getElem?_eq_getElem hi)
  have e : pget ps i = ps[i] := by simp [pget, List.getElem?_eq_getElem hi]
  rcases h2.2 with ⟨e1, e2⟩ | ⟨g, cap, cur, e1, _⟩
  · omega
  · simp only [Value.slice.injEq] at e1
    obtain ⟨rfl, rfl, rfl⟩ := e1
    obtain ⟨c1, c2⟩ := pcells_get qs i _ h4
    refine ⟨_, g, i * 2, so, d, rfl, add0 _ _, ?_, ?_, ?_⟩
    · rw [h2.cellAt (i * 2) (by omega), c1, e]
    · rw [h2.cellAt (i * 2 + 1) (by omega), c2, e]
    · rw [e]; exact h5.rd
theorem infoP : (Try.prog.info? 58).map (fun i => (i.zero, i.size, i.bytes)) = some (some (.agg #[.int .u64 0, .slice none 0 0]), 2, 32) := by kernel_rfl
/-- one patch more -/
theorem wpList_appendP {w : World} {ops : Array Oper} {rest : List Oper} {o : Oper} {a : Act} {Q : Exit → Act → World → Prop} (hgd : o.guard = none) (s x : Operand)
    (ho : o.op = .call { callee := .builtin .append, args := #[s, x], argTypes := #[39, 39] })
    (B : Nat) (v : Value) (ps : List (Nat × List Nat)) (hs : a.eval s = v) (hown : PIs w B v ps) (g m c at' : Nat) (so : Option Addr) (d le : Nat) (hx : a.eval x = .slice (some ⟨g, 0, none⟩) 1 c) (l : List Nat) (hle : l.length = le)
    (hc1 : w.cell? ⟨g, 0, none⟩ = some (.int .u64 (at' : Nat))) (hc2 : w.cell? ⟨g, 1, none⟩ = some (.slice so le d)) (hrow : Row w B (.slice so le d) l)
    (hlen : ps.length ≤ 1000000000) (hB : B ≤ w.heap.size)
    (h : ∀ v' w', PIs w' B v' (ps ++ [(at', l)]) → Below B w w' → wpList Try.prog ops Q rest (a.put o.dst v') w') : wpList Try.prog ops Q (o :: rest) a w := by
  subst hle
  refine wpList_plain hgd fun K hK => ?_
  obtain ⟨i5, hi, hz0, hz1, hz2⟩ := info_parts infoP
  obtain ⟨qs, h1, h2, h3⟩ := hown.ex
  obtain ⟨v', w', r1, r2, r3, r4⟩ := run_append_own (P := Try.prog) w B 39 o.type 58 i5 (.agg #[.int .u64 0, .slice none 0 0]) 2 32 Try.underlying39 hi hz0 hz1 hz2 rfl (by decide) v ps.length (pcells qs) h2 ⟨g, 0, none⟩ 1 c
    [.int .u64 (at' : Nat), .slice so l.length d] rfl (fun j u hj => by
      rw [add0]
      match j, hj with
      | 0, hj => simp at hj; rw [hc1, hj]
      | 1, hj => simp at hj; rw [hc2, hj]
      | j + 2, hj => simp at hj) (fun u hu => by simp at hu; rcases hu with rfl | rfl <;> rfl) (by unfold maxLen; omega) (by omega) hB
  have hP : PIs w' B v' (ps ++ [(at', l)]) := by
    refine ⟨qs ++ [(at', .slice so l.length d)], by simp [h1], ?_, fun i p hp => ?_⟩
    · rw [pcells_append, List.length_append]; exact r2
    · rcases Nat.lt_or_ge i ps.length with hlt | hge
      · rw [List.getElem?_append_left hlt] at hp
        obtain ⟨so', c', h4, h5⟩ := h3 i p hp
        exact ⟨so', c', by rw [List.getElem?_append_left (by omega)]; exact h4, h5.kept r3 (h5.apartP h2)⟩
      · rw [List.getElem?_append_right hge] at hp
        obtain ⟨hi0, rfl⟩ : i - ps.length = 0 ∧ p = (at', l) := by
          cases hk : i - ps.length with
          | zero => rw [hk] at hp; simp at hp; exact ⟨rfl, hp.symm⟩
          | succ k => rw [hk] at hp; simp at hp
        exact ⟨so, d, by rw [List.getElem?_append_right (by omega), h1, hi0]; rfl, hrow.kept r3 (hrow.apartP h2)⟩
  have hb : Below B w w' := (Below.refl B w).grown r3 hB (fun k hk => (h2.lt k hk).1)
  unfold Oper.wp
  simp [execOp, ho, resolve, invoke, builtin, hs, hx, r1, Result.andThen]
  exact hK _ _ (h v' w' hP hb)
theorem changed_c (w : World) (B m k : Nat) (v u : Value) (x y : List Nat) (h1 : MemIs w B m v x) (h2 : MemIs w B k u y) (hl : x.length = y.length) :
    Calls Try.prog 19 #[.pointer (some ⟨m, 0, none⟩), .pointer (some ⟨k, 0, none⟩)] w fun e w' => ∃ v', e = .returned (.tuple #[v', .int .i64 0]) ∧ PIs w' w.heap.size v' (chgL x y 0) ∧ Below w.heap.size w w' := by
  obtain ⟨ao, ca, rfl, _⟩ := Row.form h1.own
  obtain ⟨bo, cb, rfl, _⟩ := Row.form h2.own
  obtain ⟨n, hn⟩ : ∃ n, x.length = n := ⟨_, rfl⟩
  rw [← hl] at h2
  rw [hn] at h1 h2 hl
  have C1 := Lib.hid (none_c w m ao n ca h1.hd)
  have C2 := Lib.hid (none_c w k bo n cb h2.hd)
  have H1 := Lib.hid h1
  have H2 := Lib.hid h2
  have HN := Lib.hid hn
  have HM := Lib.hid hl.symm
  have f1 := h1.hd.row
  have f2 := h2.hd.row
  have hm16 := h1.hd.len
  have HCB : Hid (n ≤ cb) := Lib.hid (by
    rcases h2.own.shape with ⟨e, e2⟩ | ⟨g, c, e, h1, _⟩
    · rw [e2] at hl; simp at hl; omega
    · simp at e; omega)
  clear h1 h2 hl hn
  go_enter Try.func19, Try.ntmps19
  go_wp2
  refine wp_scope_straight ?_
  go_wp2_with (first
    | (go_at_call 31; (with_reducible refine C1.out.mono ?_); rintro e w' ⟨rfl, rfl⟩; clear C1)
    | (go_at_call 31; (with_reducible refine C2.out.mono ?_); rintro e w' ⟨rfl, rfl⟩; clear C2))
  go_quiet (fail)
  go_wp2
  refine wp_label ?_
  go_wp2
  have HY : Hid (y.length = x.length) := Lib.hid (HM.out.trans HN.out.symm)
  go_loopw [6, 7] (fun lv i wr => ∃ (j : Nat) (ps : List (Nat × List Nat)), j ≤ n ∧ i = .int .i64 j ∧ PIs wr w'.heap.size lv ps ∧ Below w'.heap.size w' wr ∧ Hid (ps.length ≤ j ∧ ps ++ chgL x y j = chgL x y 0)) (fun _ i _ => n - (intOf i).toNat)
  case atStart => exact ⟨0, [], by omega, rfl, PIs.nil _ _, below_drewN (Below.refl _ _), Lib.hid ⟨by simp, rfl⟩⟩
  case round =>
    obtain ⟨j, ps, hj, rfl, hP, hb, hc⟩ := hrel
    obtain ⟨lo, lc, rfl, _⟩ := hP.shape
    have f1' := (H1.out.later hb).hd.row
    have f2' := (H2.out.later hb).hd.row
    have HP := Lib.hid hP
    have HB := Lib.hid hb
    clear hP hb
    by_cases hlt : j < n
    · obtain ⟨a, rfl, hc1⟩ := (H1.out.later HB.out).own.rd j (by rw [HN.out]; exact hlt)
      obtain ⟨b, rfl, hc2⟩ := (H2.out.later HB.out).own.rd j (by rw [HM.out]; exact hlt)
      obtain ⟨c, hx⟩ : ∃ c, x[j]?.getD 0 = c := ⟨_, rfl⟩
      obtain ⟨d, hy⟩ : ∃ c, y[j]?.getD 0 = c := ⟨_, rfl⟩
      rw [hx] at hc1
      rw [hy] at hc2
      have HX := Lib.hid hx
      have HY' := Lib.hid hy
      clear hx hy
      by_cases hxy : c = d
      · obtain rfl := hxy
        have H3 := Lib.hid (chgL_eq (a := x) (b := y) (by rw [HN.out]; exact hlt) (HX.out.trans HY'.out.symm))
        go_wp2_with fail
        go_quiet (fail)
        go_wp2
        go_roundw
        case rel => exact ⟨j + 1, ps, by omega, by go_num, HP.out.later (below_drewN (Below.refl _ _)), below_drewN HB.out, Lib.hid ⟨by have := hc.out.1; omega, by rw [← H3.out]; exact hc.out.2⟩⟩
        case measure => simp [intOf]; omega
      · have h1 : ((c : Int) == (d : Int)) = false := by rw [beq_eq_false_iff_ne]; omega
        have H3 := Lib.hid (chgL_run (a := x) (b := y) (i := j) (by rw [HN.out]; exact hlt) (by show x[j]?.getD 0 ≠ y[j]?.getD 0; rw [HX.out, HY'.out]; exact hxy))
        go_wp2_with fail
        go_quiet (fail)
        go_wp2
        go_loopw [8] (fun i ws => ∃ (e q : Nat), j ≤ e ∧ e ≤ n ∧ i = .int .i64 e ∧ ws = wr.drewN q ∧ Hid (runEnd x y e = runEnd x y j)) (fun i _ => n - (intOf i).toNat)
        case atStart => exact ⟨j, _, by omega, by omega, rfl, rfl, Lib.hid rfl⟩
        case round =>
          obtain ⟨e, q, hje, hen, rfl, rfl, hre⟩ := hrel
          by_cases hle : e < n
          · obtain ⟨a', ha', hc1⟩ := (H1.out.later HB.out).own.rd e (by rw [HN.out]; exact hle)
            obtain ⟨b', hb', hc2⟩ := (H2.out.later HB.out).own.rd e (by rw [HM.out]; exact hle)
            cases ha'
            cases hb'
            obtain ⟨c', hx⟩ : ∃ c, x[e]?.getD 0 = c := ⟨_, rfl⟩
            obtain ⟨d', hy⟩ : ∃ c, y[e]?.getD 0 = c := ⟨_, rfl⟩
            rw [hx] at hc1
            rw [hy] at hc2
            have HX2 := Lib.hid hx
            have HY2 := Lib.hid hy
            clear hx hy
            by_cases hxy2 : c' = d'
            · obtain rfl := hxy2
              have H4 : Hid (runEnd x y e = e) := Lib.hid (runEnd_eq (HX2.out.trans HY2.out.symm))
              go_wp2_with fail
              go_quiet (fail)
              have HRE : Hid (runEnd x y j = e) := Lib.hid (hre.out.symm.trans H4.out)
              have hjl : j < e := by rw [← HRE.out]; exact runEnd_lt (by rw [HN.out]; exact hlt) (by show x[j]?.getD 0 ≠ y[j]?.getD 0; rw [HX.out, HY'.out]; exact hxy)
              have hec : e ≤ cb := by have := HCB.out; omega
              obtain ⟨le, hle2⟩ : ∃ x, e - j = x := ⟨_, rfl⟩
              have HLE := Lib.hid hle2
              have HPL : Hid ((part y j le).length = le) := Lib.hid (part_length (by rw [HM.out]; omega))
              have HRB := Lib.hid ((H2.out.later HB.out).own.rd.cut (lo := j) (n := le) (cap := cb) (by rw [HM.out]; omega) (by rw [HM.out]; exact HCB.out))
              have hle3 : le ≤ n := by omega
              have HPSL : Hid (ps.length ≤ 1000000000) := Lib.hid (by have := hc.out.1; omega)
              clear hle2
              go_wp2_with (first
                | (refine wpList_cut_lh rfl (.tmp 85) (.tmp 86) (.tmp 87) rfl (some b) n cb rfl .i64 .i64 j e rfl rfl hje hec le _ HLE.out rfl ?_)
                | (at_builtin; refine wpList_append8 rfl (.const (.slice none 0 0)) (.tmp 88) rfl w'.heap.size (.slice none 0 0) [] rfl (World.ownsRow_nil _ _ _ _) _ _ _ rfl (part y j le) HPL.out (fun e => by unfold cutA at e; split at e <;> simp at e) HRB.out (by rw [HPL.out]; simp only [List.length_nil]; omega) HB.out.size ?_; intro v w2 hrow hg hnil; obtain ⟨ao2, c2, rfl, h0⟩ := Row.form hrow; simp only [List.nil_append] at hrow ⊢; rw [HPL.out] at hrow ⊢; have hP3 : Hid (∀ o, PIs (w2.alloc o) w'.heap.size (.slice lo ps.length lc) ps) := Lib.hid (fun o => ((HP.out.later (below_drewN (Below.refl _ _))).later (grown_below hg)).later (below_alloc _ _)); have hrow3 : Hid (∀ o, Row (w2.alloc o) w'.heap.size (.slice ao2 le c2) (part y j le)) := Lib.hid (fun o => hrow.alloc o); have hB2 := Lib.hid (HB.out.trans ((below_drewN (Below.refl _ _)).trans ((grown_below hg).mono HB.out.size))); clear hrow hg hnil h0)
                | (at_builtin; refine wpList_appendP rfl (.tmp 79) (.tmp 91) rfl w'.heap.size _ ps rfl (hP3.out _) w2.heap.size 1 1 j ao2 c2 le rfl (part y j le) HPL.out (by exact (Blk.new w2 _ _).cell 0) (by exact (Blk.new w2 _ _).cell 1) (hrow3.out _) HPSL.out (by have := hB2.out.size; simp; omega) ?_; intro v3 w3 hP4 hb4))
              go_roundw
              case rel =>
                refine ⟨e, ps ++ [(j, part y j le)], hen, rfl, hP4, (hB2.out.trans ((below_alloc _ _).mono hB2.out.size)).trans hb4, Lib.hid ⟨by have := hc.out.1; simp; omega, ?_⟩⟩
                rw [← hc.out.2, H3.out, HRE.out, HLE.out, List.append_assoc]; rfl
              case measure => simp [intOf]; omega
            · have h2 : ((c' : Int) == (d' : Int)) = false := by rw [beq_eq_false_iff_ne]; omega
              have h3 : ((c' : Int) != (d' : Int)) = true := by rw [bne, h2]; rfl
              have H4 : Hid (runEnd x y e = runEnd x y (e + 1)) := Lib.hid (runEnd_go (by rw [HN.out]; exact hle) (by show x[e]?.getD 0 ≠ y[e]?.getD 0; rw [HX2.out, HY2.out]; exact hxy2))
              go_wp2_with fail
              go_quiet (fail)
              go_wp2
              go_roundw
              case rel => exact ⟨e + 1, _, by omega, by omega, by go_num, rfl, Lib.hid (by rw [← H4.out]; exact hre.out)⟩
              case measure => simp [intOf]; omega
          · have HRE : Hid (runEnd x y j = e) := Lib.hid (hre.out.symm.trans (runEnd_end (by rw [HN.out]; exact hle)))
            have hjl : j < e := by rw [← HRE.out]; exact runEnd_lt (by rw [HN.out]; exact hlt) (by show x[j]?.getD 0 ≠ y[j]?.getD 0; rw [HX.out, HY'.out]; exact hxy)
            go_wp2_with fail
            go_quiet (fail)
            have hec : e ≤ cb := by have := HCB.out; omega
            obtain ⟨le, hle2⟩ : ∃ x, e - j = x := ⟨_, rfl⟩
            have HLE := Lib.hid hle2
            have HPL : Hid ((part y j le).length = le) := Lib.hid (part_length (by rw [HM.out]; omega))
            have HRB := Lib.hid ((H2.out.later HB.out).own.rd.cut (lo := j) (n := le) (cap := cb) (by rw [HM.out]; omega) (by rw [HM.out]; exact HCB.out))
            have hle3 : le ≤ n := by omega
            have HPSL : Hid (ps.length ≤ 1000000000) := Lib.hid (by have := hc.out.1; omega)
            clear hle2
            go_wp2_with (first
              | (refine wpList_cut_lh rfl (.tmp 85) (.tmp 86) (.tmp 87) rfl (some b) n cb rfl .i64 .i64 j e rfl rfl hje hec le _ HLE.out rfl ?_)
              | (at_builtin; refine wpList_append8 rfl (.const (.slice none 0 0)) (.tmp 88) rfl w'.heap.size (.slice none 0 0) [] rfl (World.ownsRow_nil _ _ _ _) _ _ _ rfl (part y j le) HPL.out (fun e => by unfold cutA at e; split at e <;> simp at e) HRB.out (by rw [HPL.out]; simp only [List.length_nil]; omega) HB.out.size ?_; intro v w2 hrow hg hnil; obtain ⟨ao2, c2, rfl, h0⟩ := Row.form hrow; simp only [List.nil_append] at hrow ⊢; rw [HPL.out] at hrow ⊢; have hP3 : Hid (∀ o, PIs (w2.alloc o) w'.heap.size (.slice lo ps.length lc) ps) := Lib.hid (fun o => ((HP.out.later (below_drewN (Below.refl _ _))).later (grown_below hg)).later (below_alloc _ _)); have hrow3 : Hid (∀ o, Row (w2.alloc o) w'.heap.size (.slice ao2 le c2) (part y j le)) := Lib.hid (fun o => hrow.alloc o); have hB2 := Lib.hid (HB.out.trans ((below_drewN (Below.refl _ _)).trans ((grown_below hg).mono HB.out.size))); clear hrow hg hnil h0)
              | (at_builtin; refine wpList_appendP rfl (.tmp 79) (.tmp 91) rfl w'.heap.size _ ps rfl (hP3.out _) w2.heap.size 1 1 j ao2 c2 le rfl (part y j le) HPL.out (by exact (Blk.new w2 _ _).cell 0) (by exact (Blk.new w2 _ _).cell 1) (hrow3.out _) HPSL.out (by have := hB2.out.size; simp; omega) ?_; intro v3 w3 hP4 hb4))
            go_roundw
            case rel =>
              refine ⟨e, ps ++ [(j, part y j le)], hen, rfl, hP4, (hB2.out.trans ((below_alloc _ _).mono hB2.out.size)).trans hb4, Lib.hid ⟨by have := hc.out.1; simp; omega, ?_⟩⟩
              rw [← hc.out.2, H3.out, HRE.out, HLE.out, List.append_assoc]; rfl
            case measure => simp [intOf]; omega
    · go_wp2
      simp only [Exit.noGoto]
      go_ret2
      refine ⟨_, rfl, ?_, HB.out⟩
      have h5 := hc.out.2
      rw [chgL_end (by rw [HN.out]; omega), List.append_nil] at h5
      rw [← h5]; exact HP.out
end Go.Proofs.Ytdgdmhmagdjeoaa
