/- Contract of abacusref28.Changed. -/
import Derived.Test.YtdgdmhmagdjeoaaNg
namespace Go.Proofs.Ytdgdmhmagdjeoaa
open Go.RowKit
set_option maxHeartbeats 4000000
set_option maxRecDepth 100000
set_option linter.unusedVariables false
set_option linter.unusedSimpArgs false
/-- a row of patches whose last one's bytes lie behind s, the others' ahead of it -/
structure PGs (w : World) (B s : Nat) (v : Value) (ps : List (Nat × List Nat)) : Prop where
  ex : ∃ qs : List (Nat × Value), qs.length = ps.length ∧ w.ownsRow B 58 2 v ps.length (pcells qs) ∧ ∀ (i : Nat) (p : Nat × List Nat), ps[i]? = some p → ∃ so c, qs[i]? = some (p.1, Value.slice so p.2.length c) ∧ Row w B (.slice so p.2.length c) p.2 ∧
    (i + 1 = ps.length → Row w s (.slice so p.2.length c) p.2) ∧ (i + 1 < ps.length → ∀ b, (Value.slice so p.2.length c).ownBlock = some b → b < s)
  hB : B ≤ s
  hs : s ≤ w.heap.size
theorem PGs.pis {w : World} {B s : Nat} {v : Value} {ps : List (Nat × List Nat)} (h : PGs w B s v ps) : PIs w B v ps := by
  obtain ⟨qs, h1, h2, h3⟩ := h.ex
  exact ⟨qs, h1, h2, fun i p hp => by obtain ⟨so, c, a, b, _⟩ := h3 i p hp; exact ⟨so, c, a, b⟩⟩
theorem PGs.nil (w : World) (B : Nat) (hB : B ≤ w.heap.size) : PGs w B B (.slice none 0 0) [] := ⟨⟨[], rfl, World.ownsRow_nil _ _ _ _, fun i p h => by simp at h⟩, Nat.le_refl _, hB⟩
theorem PGs.later {w w1 : World} {B s : Nat} {v : Value} {ps : List (Nat × List Nat)} (h : PGs w B s v ps) (hb : Below w.heap.size w w1) : PGs w1 B s v ps := by
  obtain ⟨qs, h1, h2, h3⟩ := h.ex
  have key : ∀ u : Value, u.ownBlock = none ∨ u.ownBlock ≠ none := fun u => by cases u.ownBlock <;> simp
  refine ⟨⟨qs, h1, h2.kept (below_grown hb none) (key _), fun i p hp => ?_⟩, h.hB, Nat.le_trans h.hs hb.size⟩
  obtain ⟨so, c, h4, h5, h6, h7⟩ := h3 i p hp
  exact ⟨so, c, h4, h5.kept (below_grown hb none) (key _), fun e => (h6 e).kept (below_grown hb none) (key _), h7⟩
theorem row_one (W : World) (y : Nat) : Row (W.alloc (.cells #[.int .u8 (y : Nat)] 5)) W.heap.size (.slice (some ⟨W.heap.size, 0, none⟩) 1 1) [y] :=
  ⟨rfl, .inr ⟨W.heap.size, 1, #[.int .u8 (y : Nat)], rfl, Nat.le_refl _, Blk.new W #[.int .u8 (y : Nat)] 5, Nat.le_refl _, by unfold maxLen; omega, rfl, rfl⟩⟩
/-- one patch more, its bytes behind all others' -/
theorem wpList_appendG {w w0 : World} {ops : Array Oper} {rest : List Oper} {o : Oper} {a : Act} {Q : Exit → Act → World → Prop} (hgd : o.guard = none) (s x : Operand)
    (ho : o.op = .call { callee := .builtin .append, args := #[s, x], argTypes := #[39, 39] })
    (B s0 s1 : Nat) (v : Value) (ps : List (Nat × List Nat)) (hs : a.eval s = v) (h0 : PGs w0 B s0 v ps) (hb0 : Below w0.heap.size w0 w) (hs1 : w0.heap.size ≤ s1) (hs2 : s1 ≤ w.heap.size) (hBs : B ≤ s1) (g m c at' : Nat) (so : Option Addr) (d le : Nat) (hx : a.eval x = .slice (some ⟨g, 0, none⟩) 1 c) (l : List Nat) (hle : l.length = le)
    (hc1 : w.cell? ⟨g, 0, none⟩ = some (.int .u64 (at' : Nat))) (hc2 : w.cell? ⟨g, 1, none⟩ = some (.slice so le d)) (hrow : Row w s1 (.slice so le d) l)
    (hlen : ps.length ≤ 1000000000) (hB : B ≤ w.heap.size)
    (h : ∀ v' w', PGs w' B s1 v' (ps ++ [(at', l)]) → Below B w w' → wpList Try.prog ops Q rest (a.put o.dst v') w') : wpList Try.prog ops Q (o :: rest) a w := by
  subst hle
  refine wpList_plain hgd fun K hK => ?_
  obtain ⟨i5, hi, hz0, hz1, hz2⟩ := info_parts infoP
  obtain ⟨qs, h1, h2, h3⟩ := (h0.later hb0).ex
  obtain ⟨qs', _, _, h3'⟩ := h0.ex
  obtain ⟨v', w', r1, r2, r3, r4⟩ := run_append_own (P := Try.prog) w B 39 o.type 58 i5 (.agg #[.int .u64 0, .slice none 0 0]) 2 32 Try.underlying39 hi hz0 hz1 hz2 rfl (by decide) v ps.length (pcells qs) h2 ⟨g, 0, none⟩ 1 c
    [.int .u64 (at' : Nat), .slice so l.length d] rfl (fun j u hj => by
      rw [add0]
      match j, hj with
      | 0, hj => simp at hj; rw [hc1, hj]
      | 1, hj => simp at hj; rw [hc2, hj]
      | j + 2, hj => simp at hj) (fun u hu => by simp at hu; rcases hu with rfl | rfl <;> rfl) (by unfold maxLen; omega) (by omega) hB
  have hP : PGs w' B s1 v' (ps ++ [(at', l)]) := by
    refine ⟨⟨qs ++ [(at', .slice so l.length d)], by simp [h1], ?_, fun i p hp => ?_⟩, hBs, Nat.le_trans hs2 r3.size⟩
    · rw [pcells_append, List.length_append]; exact r2
    · rcases Nat.lt_or_ge i ps.length with hlt | hge
      · rw [List.getElem?_append_left hlt] at hp
        obtain ⟨so', c', h4, h5, _⟩ := h3 i p hp
        refine ⟨so', c', by rw [List.getElem?_append_left (by omega)]; exact h4, h5.kept r3 (h5.apartP h2), fun e => by simp at e; omega, fun _ b hb => ?_⟩
        have hlt2 : b < w0.heap.size := by
          obtain ⟨qs2, k1, k2, k3⟩ := h0.ex
          obtain ⟨so2, c2, k4, k5, _⟩ := k3 i p hp
          have e1 : (w.ownsRow B 58 2 v ps.length (pcells qs2)) := k2.kept (below_grown hb0 none) (by cases v.ownBlock <;> simp)
          have e2 : pcells qs2 = pcells qs := by
            apply List.ext_getElem?
            intro j
            rcases Nat.lt_or_ge j (ps.length * 2) with hj | hj
            · rcases h2.2 with ⟨q1, q2⟩ | ⟨g', cap', cur', q1, _⟩
              · omega
              · subst q1
                have a1 := h2.cellAt j (by omega)
                have a2 := e1.cellAt j (by omega)
                have n1 : j < (pcells qs).length := by rw [pcells_length]; omega
                have n2 : j < (pcells qs2).length := by rw [pcells_length]; omega
                exact a2.symm.trans a1
            · rw [List.getElem?_eq_none (by rw [pcells_length]; omega), List.getElem?_eq_none (by rw [pcells_length]; omega)]
          have e3 := (pcells_get qs2 i _ k4).2
          have e4 := (pcells_get qs i _ h4).2
          rw [e2, e4] at e3
          simp only [Option.some.injEq] at e3
          rw [e3] at hb
          exact (k5.lt b hb).2
        omega
      · rw [List.getElem?_append_right hge] at hp
        obtain ⟨hi0, rfl⟩ : i - ps.length = 0 ∧ p = (at', l) := by
          cases hk : i - ps.length with
          | zero => rw [hk] at hp; simp at hp; exact ⟨rfl, hp.symm⟩
          | succ k => rw [hk] at hp; simp at hp
        have hr := hrow.kept r3 (hrow.apartP h2)
        exact ⟨so, d, by rw [List.getElem?_append_right (by omega), h1, hi0]; rfl, Row.lower hr hBs, fun _ => hr, fun e => by simp at e; omega⟩
  have hb : Below B w w' := (Below.refl B w).grown r3 hB (fun k hk => (h2.lt k hk).1)
  unfold Oper.wp
  simp [execOp, ho, resolve, invoke, builtin, hs, hx, r1, Result.andThen]
  exact hK _ _ (h v' w' hP hb)
/-- the last patch -/
theorem PGs.last {w : World} {B s k : Nat} {v : Value} {qs : List (Nat × List Nat)} {l : List Nat} (h : PGs w B s v (qs ++ [(k, l)])) :
    ∃ g cap so c, v = .slice (some ⟨g, 0, none⟩) (qs.length + 1) cap ∧ w.cell? ⟨g, qs.length * 2 + 1, none⟩ = some (.slice so l.length c) ∧ w.frozen? ⟨g, qs.length * 2 + 1, none⟩ = false ∧ Row w s (.slice so l.length c) l ∧ (Value.slice so l.length c).ownBlock ≠ some g := by
  obtain ⟨us, h1, h2, h3⟩ := h.ex
  obtain ⟨so, c, h4, h5, h6, _⟩ := h3 qs.length (k, l) (by simp)
  rcases h2.2 with ⟨e1, e2⟩ | ⟨g, cap, cur, e1, _⟩
  · simp at e2
  · subst e1
    have hn : (qs ++ [(k, l)]).length = qs.length + 1 := by simp
    refine ⟨g, cap, so, c, by rw [hn], ?_, World.ownsRow.frozenAt h2 _, h6 (by simp), ?_⟩
    · rw [h2.cellAt (qs.length * 2 + 1) (by rw [hn]; omega), (pcells_get us _ _ h4).2]
    · rcases h5.apartP h2 with h | h
      · simp only [] at h; rw [h]; simp
      · exact h
theorem pcells_set : ∀ (qs : List (Nat × Value)) (i k : Nat) (u v : Value), qs[i]? = some (k, u) → (pcells qs).set (i * 2 + 1) v = pcells (qs.set i (k, v))
  | [], i, k, u, v, h => by simp at h
  | q :: qs, 0, k, u, v, h => by
    simp at h; subst h
    show List.set (.int .u64 (k : Nat) :: u :: pcells qs) 1 v = _
    rfl
  | q :: qs, i + 1, k, u, v, h => by
    have := pcells_set qs i k u v (by simpa using h)
    show List.set (.int .u64 (q.1 : Nat) :: q.2 :: pcells qs) ((i + 1) * 2 + 1) v = .int .u64 (q.1 : Nat) :: q.2 :: pcells (qs.set i (k, v))
    rw [← this, show (i + 1) * 2 + 1 = i * 2 + 1 + 1 + 1 by omega]
    rfl
/-- one byte more in the last patch -/
theorem PGs.grow {w X : World} {B s k g cap c : Nat} {so : Option Addr} {v' : Value} {qs : List (Nat × List Nat)} {l l' : List Nat} (h : PGs w B s (.slice (some ⟨g, 0, none⟩) (qs.length + 1) cap) (qs ++ [(k, l)]))
    (hc : w.cell? ⟨g, qs.length * 2 + 1, none⟩ = some (.slice so l.length c)) (hg : w.grownBy X (Value.slice so l.length c).ownBlock) (hr : Row X s v' l') : PGs (X.setCell ⟨g, qs.length * 2 + 1, none⟩ v') B s (.slice (some ⟨g, 0, none⟩) (qs.length + 1) cap) (qs ++ [(k, l')]) := by
  obtain ⟨us, h1, h2, h3⟩ := h.ex
  have hn : (qs ++ [(k, l)]).length = qs.length + 1 := by simp
  have hn' : (qs ++ [(k, l')]).length = qs.length + 1 := by simp
  obtain ⟨so1, c1, h4, h5, h6, _⟩ := h3 qs.length (k, l) (by simp)
  have e := (show w.ownsRow B 58 2 (.slice (some ⟨g, 0, none⟩) (qs.length + 1) cap) (qs.length + 1) (pcells us) from hn ▸ h2).cellAt (qs.length * 2 + 1) (by omega)
  rw [(pcells_get us _ _ h4).2, hc] at e
  simp only [Option.some.injEq, Value.slice.injEq, true_and] at e
  obtain ⟨rfl, rfl⟩ := e
  have hs := h6 (by simp)
  simp only [] at hs h4 h5
  rw [hn] at h1 h2
  have h2X : X.ownsRow B 58 2 (.slice (some ⟨g, 0, none⟩) (qs.length + 1) cap) (qs.length + 1) (pcells us) := h2.kept hg (by
    rcases h5.apartP h2 with h | h
    · rw [h]; exact .inr (by simp [Value.ownBlock])
    · exact .inr fun e => h e.symm)
  have hne : ∀ {B' : Nat} {u : Value} {m : List Nat}, Row X B' u m → u.ownBlock ≠ some g := fun hu => by
    rcases hu.apartP h2X with h | h
    · rw [h]; simp
    · exact h
  obtain ⟨ao', c', rfl, _⟩ := Row.form hr
  refine ⟨⟨us.set qs.length (k, .slice ao' l'.length c'), by rw [List.length_set, hn', h1], ?_, fun i p hp => ?_⟩, h.hB, Nat.le_trans h.hs (by simpa using hg.size)⟩
  · rw [hn', ← pcells_set us qs.length k _ _ h4]
    exact (World.ownsRow.stored h2X (qs.length * 2 + 1) _).1
  · have hi : i < qs.length + 1 := by have := (List.getElem?_eq_some_iff.1 hp).1; rwa [hn'] at this
    rcases Nat.lt_or_ge i qs.length with hlt | hge
    · rw [List.getElem?_append_left hlt] at hp
      obtain ⟨so2, c2, k4, k5, k6, k7⟩ := h3 i p (by rw [List.getElem?_append_left hlt]; exact hp)
      have hb := k7 (by rw [hn]; omega)
      have hkX : Row X B (.slice so2 p.2.length c2) p.2 := k5.kept hg (by
        cases hq : (Value.slice so2 p.2.length c2).ownBlock with
        | none => exact .inl rfl
        | some b =>
          refine .inr fun e => ?_
          have h8 := hb b hq
          have h9 := (hs.lt b e.symm).1
          omega)
      refine ⟨so2, c2, by rw [List.getElem?_set_ne (by omega)]; exact k4, hkX.other (hne hkX) _ _, fun e => by rw [hn'] at e; omega, fun _ => hb⟩
    · obtain rfl : i = qs.length := by omega
      simp at hp
      subst hp
      have hr2 := hr.other (hne hr) (qs.length * 2 + 1) (.slice ao' l'.length c')
      exact ⟨ao', c', by rw [List.getElem?_set_self (by omega)], Row.lower hr2 h.hB, fun _ => hr2, fun e => by rw [hn'] at e; omega⟩
end Go.Proofs.Ytdgdmhmagdjeoaa
