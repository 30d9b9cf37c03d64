/- A script that came in, opened for a row, with the bound on its bulk. -/
import Derived.Test.YtdgdmhmagdjeoaaUo
import Derived.Test.YtdgdmhmagdjeoaaNj
import Derived.Deep.SlicePairs
namespace Go.Proofs.Ytdgdmhmagdjeoaa
open Go Go.RowKit Go.ChangeShapes Go.WideShapes
set_option linter.unusedVariables false
set_option linter.unusedSimpArgs false
section
variable {H : Type}
theorem bulk_one (d : DataW H) : 1 ≤ Rows.uptoBulk d := by
  cases d with
  | lit l => cases l <;> simp [Rows.uptoBulk]
  | nil => simp [Rows.uptoBulk]
  | ptr d => simp [Rows.uptoBulk]
  | slice elems spare => simp [Rows.uptoBulk]
  | agg parts => simp [Rows.uptoBulk]
  | iface t d => simp [Rows.uptoBulk]
  | map entries => simp [Rows.uptoBulk]
  | held h => simp [Rows.uptoBulk]
theorem bulk_part {d : DataW H} {l : List (DataW H)} (h : d ∈ l) : Rows.uptoBulk d ≤ Rows.uptoBulkAll l := by
  induction l with
  | nil => cases h
  | cons x r ih =>
    simp only [Rows.uptoBulkAll]
    cases List.mem_cons.1 h with
    | inl e => subst e; omega
    | inr e => have := ih e; omega
theorem bulk_len (l : List (DataW H)) : l.length ≤ Rows.uptoBulkAll l := by
  induction l with
  | nil => simp [Rows.uptoBulkAll]
  | cons x r ih => have := bulk_one x; simp only [Rows.uptoBulkAll, List.length_cons]; omega
theorem bulk_slice (elems spare : List (DataW H)) : elems.length ≤ Rows.uptoBulk (.slice elems spare) := by
  have h1 := bulk_len elems
  simp only [Rows.uptoBulk]
  omega
theorem bulk_elem {elems spare : List (DataW H)} {d : DataW H} (h : d ∈ elems) : Rows.uptoBulk d ≤ Rows.uptoBulk (.slice elems spare) := by
  have h1 := bulk_part h
  simp only [Rows.uptoBulk]
  omega
theorem bulk_agg {parts : List (DataW H)} {d : DataW H} (h : d ∈ parts) : Rows.uptoBulk d ≤ Rows.uptoBulk (.agg parts) := by
  have h1 := bulk_part h
  simp only [Rows.uptoBulk]
  omega
end
section
variable {H : Type} {enc : TypeId × Value → H} {P : Program} {w : World} {base : Nat} {spare : Nat → Bool} {held : Bool} {fuel : Nat}
/-- the addresses behind a place that can be read -/
theorem addr_at {a : Addr} {k : Nat} {v : Value} (h : w.cell? (a.add k) = some v) : ∃ b o, ∀ j, a.add (k + j) = ⟨b, o + j, none⟩ := by
  have hs := World.cell?_spot h
  obtain ⟨⟨b, o, s⟩, e⟩ : ∃ p, a.add k = p := ⟨_, rfl⟩
  rw [e] at hs
  simp only [] at hs
  subst hs
  refine ⟨b, o, fun j => ?_⟩
  rw [← add_add, e]
  unfold Addr.add
  split <;> simp_all
theorem open_bytesB {v : Value} {x : DataW H × List MemPlace} (h : DataW.trod enc Try.prog w base spare held fuel 29 [v] = some x) :
    ∃ (ao : Option Addr) (c : Nat) (l : List Nat), v = .slice ao l.length c ∧ Xs w ao c l ∧ (∀ y ∈ l, y < 256) ∧ l.length ≤ Rows.uptoBulk x.1 := by
  obtain ⟨ao, c, l, rfl, h1, h2, h3, _, h4⟩ := open_bytes Try.underlying29 Try.underlying5 cellsU8 h
  refine ⟨ao, c, l, rfl, ⟨h1, h3, h4⟩, h2, ?_⟩
  rcases DataW.trod_slice Try.underlying29 h with ⟨hcs, hx⟩ | ⟨a, len, cap, elems, rest, n, _, hcs, hx, _, _, _, hl, _⟩
  · simp only [List.cons.injEq, Value.slice.injEq, and_true] at hcs
    omega
  · simp only [List.cons.injEq, Value.slice.injEq, and_true] at hcs
    rw [hx]
    have := bulk_slice (elems.map (·.1)) (rest.map (·.1))
    rw [List.length_map, hl] at this
    exact Nat.le_trans (by omega) this
/-- a field of one cell, with its bulk -/
theorem field_oneB {t : TypeId} {fs : Array Field} {cs : Array Value} {x : DataW H × List MemPlace} (ht : P.underlying t = some (.struct fs)) (h : DataW.trod enc P w base spare held fuel t cs.toList = some x)
    (i : Nat) (f : Field) (o e : Nat) (hf : fs[i]? = some f) (ho : f.offset = o) (he : f.type = e) (hc : P.cellsOf e = 1) (hoc : o < cs.size) : ∃ v m y, cs[o]? = some v ∧ DataW.trod enc P w base spare held m e [v] = some y ∧ Rows.uptoBulk (H := H) y.1 ≤ Rows.uptoBulk x.1 := by
  obtain ⟨xs, n, _, hx, hl, hlen, hel⟩ := DataW.trod_struct ht h
  have h1 := hel i f hf
  rw [ho, he, hc] at h1
  have hi : i < fs.size := (Array.getElem?_eq_some_iff.1 hf).1
  rw [List.getElem?_eq_getElem (by omega : i < xs.length)] at h1
  refine ⟨cs[o], n, xs[i], Array.getElem?_eq_getElem hoc, ?_, ?_⟩
  · rw [← h1]
    congr 1
    have : o < cs.toList.length := by simpa using hoc
    rw [List.drop_eq_getElem_cons this]
    simp
  · rw [hx]
    exact bulk_agg (List.mem_map.2 ⟨xs[i], List.getElem_mem _, rfl⟩)
end
section
variable {H : Type} {enc : TypeId × Value → H} {w : World} {base : Nat} {spare : Nat → Bool} {held : Bool} {fuel : Nat}
theorem open_patchesB {v : Value} {x : DataW H × List MemPlace} (h : DataW.trod enc Try.prog w base spare held fuel 39 [v] = some x) :
    ∃ (ao : Option Addr) (c : Nat) (ps : List (Nat × List Nat)), v = .slice ao ps.length c ∧ PXd w ao ps ∧ (∀ p ∈ ps, p.1 < 18446744073709551616 ∧ ∀ y ∈ p.2, y < 256) ∧ ps.length ≤ Rows.uptoBulk x.1 ∧ ∀ p ∈ ps, p.2.length ≤ Rows.uptoBulk x.1 := by
  rcases Go.Deep.open_slice_pairs Try.underlying39 Try.underlying58 (by kernel_rfl) rfl rfl (by kernel_rfl) (by kernel_rfl) h with ⟨hcs, hx⟩ | ⟨a, len, cap, m, n, V0, V1, D0, D1, P0, P1, hcs, _, hlc, hcm, hm, hx, hel⟩
  · simp only [List.cons.injEq, and_true] at hcs
    subst hcs
    exact ⟨none, 0, [], rfl, fun i hi => by simp at hi, by simp, by simp, by simp⟩
  · simp only [List.cons.injEq, and_true] at hcs
    subst hcs
    have hlm : len ≤ m := by rw [hm]; split <;> omega
    have each : ∀ i, i < len → ∃ q : Nat × List Nat, q.1 < 18446744073709551616 ∧ (∀ y ∈ q.2, y < 256) ∧ q.2.length ≤ Rows.uptoBulk x.1 ∧ ∃ b o so c, a.add (i * 2) = ⟨b, o, none⟩ ∧ w.cell? ⟨b, o, none⟩ = some (.int .u64 (q.1 : Nat)) ∧ w.cell? ⟨b, o + 1, none⟩ = some (.slice so q.2.length c) ∧ Xs w so c q.2 := fun i hi => by
      obtain ⟨c0, c1, t0, t1⟩ := hel i (by omega)
      obtain ⟨z, e0, _, hw⟩ := DataW.trod_int Try.underlying33 t0
      simp only [List.cons.injEq, and_true] at e0
      obtain ⟨nz, rfl, hnz⟩ := wf_u64 hw
      obtain ⟨so, c, l, e1, h1, h2, h3⟩ := open_bytesB t1
      obtain ⟨b, o, hao⟩ := addr_at c0
      have ha0 := hao 0
      have ha1 := hao 1
      simp only [Nat.add_zero] at ha0
      rw [ha0, e0] at c0
      rw [ha1, e1] at c1
      refine ⟨(nz, l), hnz, h2, Nat.le_trans h3 ?_, b, o, so, c, ha0, c0, c1, h1⟩
      rw [hx]
      refine Nat.le_trans (bulk_agg (parts := [D0 i, D1 i]) (d := D1 i) (by simp)) (bulk_elem ?_)
      exact List.mem_map.2 ⟨i, List.mem_range.2 hi, rfl⟩
    obtain ⟨q, hq⟩ := Go.Deep.choose_lt each
    have hl : ((List.range len).map q).length = len := by simp
    have hget : ∀ i, i < len → pget ((List.range len).map q) i = q i := fun i hi => by
      simp [pget, hi]
    have hmem : ∀ p ∈ (List.range len).map q, ∃ i, i < len ∧ q i = p := fun p hp => by
      obtain ⟨i, hi, e⟩ := List.mem_map.1 hp
      exact ⟨i, List.mem_range.1 hi, e⟩
    refine ⟨some a, cap, (List.range len).map q, by rw [hl], fun i hi => ?_, fun p hp => ?_, ?_, fun p hp => ?_⟩
    · rw [hl] at hi
      rw [hget i hi]
      obtain ⟨_, _, _, b, o, so, c, h1, h2, h3, h4⟩ := hq i hi
      exact ⟨a, b, o, so, c, rfl, h1, h2, h3, h4⟩
    · obtain ⟨i, hi, rfl⟩ := hmem p hp
      exact ⟨(hq i hi).1, (hq i hi).2.1⟩
    · rw [hl, hx]
      have := bulk_slice ((List.range len).map fun i => DataW.agg [D0 i, D1 i]) ((List.range (m - len)).map fun j => .agg [D0 (len + j), D1 (len + j)])
      rw [List.length_map, List.length_range] at this
      exact this
    · obtain ⟨i, hi, rfl⟩ := hmem p hp
      exact (hq i hi).2.2.1
theorem open_cellsB {cs : Array Value} {x : DataW H × List MemPlace} (hcs : cs.size = 9) (hf : DataW.trod enc Try.prog w base spare held fuel 41 cs.toList = some x) (hbk : Rows.uptoBulk x.1 ≤ 1048576) : ∃ s : St, cs = stepV s ∧ StIn w s := by
  obtain ⟨fs, hu⟩ : ∃ fs, Try.prog.underlying 41 = some (.struct fs) := ⟨_, Try.underlying41⟩
  obtain ⟨gs, hg⟩ : ∃ gs, Try.prog.underlying 35 = some (.struct gs) := ⟨_, Try.underlying35⟩
  have hfs : fs.toList.map (fun f => (f.offset, f.type)) = [(0, 3), (1, 3), (2, 3), (3, 3), (4, 33), (5, 35), (7, 29), (8, 39)] := by
    have e := Try.underlying41.symm.trans hu
    simp only [Option.some.injEq, TypeDesc.struct.injEq] at e
    rw [← e]; rfl
  have hgs : gs.toList.map (fun f => (f.offset, f.type)) = [(0, 33), (1, 33)] := by
    have e := Try.underlying35.symm.trans hg
    simp only [Option.some.injEq, TypeDesc.struct.injEq] at e
    rw [← e]; rfl
  have hfi : ∀ (i : Nat) (p : Nat × Nat), ([(0, 3), (1, 3), (2, 3), (3, 3), (4, 33), (5, 35), (7, 29), (8, 39)] : List (Nat × Nat))[i]? = some p → ∃ f, fs[i]? = some f ∧ f.offset = p.1 ∧ f.type = p.2 := fun i p hp => by
    rw [← hfs, List.getElem?_map] at hp
    obtain ⟨f, hf, e⟩ := Option.map_eq_some_iff.1 hp
    exact ⟨f, by simpa using hf, by rw [← e], by rw [← e]⟩
  have hgi : ∀ (i : Nat) (p : Nat × Nat), ([(0, 33), (1, 33)] : List (Nat × Nat))[i]? = some p → ∃ f, gs[i]? = some f ∧ f.offset = p.1 ∧ f.type = p.2 := fun i p hp => by
    rw [← hgs, List.getElem?_map] at hp
    obtain ⟨f, hf, e⟩ := Option.map_eq_some_iff.1 hp
    exact ⟨f, by simpa using hf, by rw [← e], by rw [← e]⟩
  have k1 : Try.prog.cellsOf 3 = 1 := by kernel_rfl
  have k2 : Try.prog.cellsOf 33 = 1 := by kernel_rfl
  have k3 : Try.prog.cellsOf 35 = 2 := by kernel_rfl
  have k4 : Try.prog.cellsOf 29 = 1 := by kernel_rfl
  have k5 : Try.prog.cellsOf 39 = 1 := by kernel_rfl
  obtain ⟨f0, a0, b0, c0⟩ := hfi 0 _ rfl
  obtain ⟨f1, a1, b1, c1⟩ := hfi 1 _ rfl
  obtain ⟨f2, a2, b2, c2⟩ := hfi 2 _ rfl
  obtain ⟨f3, a3, b3, c3⟩ := hfi 3 _ rfl
  obtain ⟨f4, a4, b4, c4⟩ := hfi 4 _ rfl
  obtain ⟨f5, a5, b5, c5⟩ := hfi 5 _ rfl
  obtain ⟨f6, a6, b6, c6⟩ := hfi 6 _ rfl
  obtain ⟨f7, a7, b7, c7⟩ := hfi 7 _ rfl
  obtain ⟨z0, e0, w0⟩ := field_int hu hf 0 f0 0 _ a0 b0 c0 Try.underlying3 k1
  obtain ⟨z1, e1, w1⟩ := field_int hu hf 1 f1 1 _ a1 b1 c1 Try.underlying3 k1
  obtain ⟨z2, e2, w2⟩ := field_int hu hf 2 f2 2 _ a2 b2 c2 Try.underlying3 k1
  obtain ⟨z3, e3, w3⟩ := field_int hu hf 3 f3 3 _ a3 b3 c3 Try.underlying3 k1
  obtain ⟨z4, e4, w4⟩ := field_int hu hf 4 f4 4 _ a4 b4 c4 Try.underlying33 k2
  obtain ⟨m5, y5, h5⟩ := field_struct hu hf 5 f5 5 _ 2 a5 b5 c5 k3
  obtain ⟨g0, p0, q0, s0⟩ := hgi 0 _ rfl
  obtain ⟨g1, p1, q1, s1⟩ := hgi 1 _ rfl
  obtain ⟨z5, e5, w5⟩ := field_int hg h5 0 g0 0 _ p0 q0 s0 Try.underlying33 k2
  obtain ⟨z6, e6, w6⟩ := field_int hg h5 1 g1 1 _ p1 q1 s1 Try.underlying33 k2
  obtain ⟨dv, m7, y7, e7, h7, l7⟩ := field_oneB hu hf 6 f6 7 _ a6 b6 c6 k4 (by omega)
  obtain ⟨pv, m8, y8, e8, h8, l8⟩ := field_oneB hu hf 7 f7 8 _ a7 b7 c7 k5 (by omega)
  obtain ⟨sa, rfl, hsa⟩ := wf_u64 w4
  obtain ⟨hi, rfl, hhi⟩ := wf_u64 w5
  obtain ⟨lo, rfl, hlo⟩ := wf_u64 w6
  obtain ⟨dao, dc, data, rfl, x1, x2, x3⟩ := open_bytesB h7
  obtain ⟨pao, pc, pats, rfl, y1, y2, y3, y4⟩ := open_patchesB h8
  refine ⟨⟨z0, z1, z2, z3, sa, hi, lo, dao, dc, data, pao, pc, pats⟩, ?_, ⟨wf_i64 w0, wf_i64 w1, wf_i64 w2, wf_i64 w3, hsa, hhi, hlo, x1, x2, y1, y2, Nat.le_trans x3 (by omega), Nat.le_trans y3 (by omega), fun p hp => Nat.le_trans (y4 p hp) (by omega)⟩⟩
  apply Array.ext_getElem?
  intro i
  have e5' : cs[5]? = some (.int .u64 (hi : Nat)) := by
    rw [Array.getElem?_extract] at e5; simpa [hcs] using e5
  have e6' : cs[6]? = some (.int .u64 (lo : Nat)) := by
    rw [Array.getElem?_extract] at e6; simpa [hcs] using e6
  rcases i with _ | _ | _ | _ | _ | _ | _ | _ | _ | i
  · exact e0
  · exact e1
  · exact e2
  · exact e3
  · exact e4
  · exact e5'
  · exact e6'
  · exact e7
  · exact e8
  · rw [Array.getElem?_eq_none (by omega)]; simp
instance : Inhabited St := ⟨zeroSt⟩
theorem open_stepsB {v : Value} {x : DataW H × List MemPlace} (h : DataW.trod enc Try.prog w base spare held fuel 60 [v] = some x) (hbk : Rows.uptoBulk x.1 ≤ 1048576) :
    ∃ (sp : Option Addr) (c : Nat) (ss : List St), v = .slice sp ss.length c ∧ SRd w sp ss ∧ ss.length ≤ 1048576 := by
  have kS : Try.prog.cellsOf 41 = 9 := by kernel_rfl
  rcases Go.Deep.open_slice Try.underlying60 h with ⟨hcs, hx⟩ | ⟨a, len, cap, m, n, D, Pl, hcs, _, hlc, hcm, hm, hx, hel⟩
  · simp only [List.cons.injEq, and_true] at hcs
    subst hcs
    exact ⟨none, 0, [], rfl, fun i hi => by simp at hi, by simp⟩
  · simp only [List.cons.injEq, and_true] at hcs
    subst hcs
    have hlm : len ≤ m := by rw [hm]; split <;> omega
    have each : ∀ i, i < len → ∃ s : St, StIn w s ∧ ∃ b o, a.add (i * 9) = ⟨b, o, none⟩ ∧ ∀ j v, (stepV s)[j]? = some v → w.cell? ⟨b, o + j, none⟩ = some v := fun i hi => by
      obtain ⟨cs', h1, h2⟩ := hel i (by omega)
      rw [kS] at h1
      obtain ⟨_, hlen, hcell⟩ := World.cells?_some h1
      obtain ⟨s, e, hst⟩ := open_cellsB (cs := cs'.toArray) (by simpa using hlen) (by simpa using h2) (by
        refine Nat.le_trans ?_ hbk
        rw [hx]
        exact bulk_elem (List.mem_map.2 ⟨i, List.mem_range.2 hi, rfl⟩))
      have e' : cs' = (stepV s).toList := by rw [← e]
      have c0 := hcell 0 (by omega)
      rw [e', add_add, Nat.add_zero] at c0
      obtain ⟨b, o, hao⟩ := addr_at (v := .int .i64 s.how) (by rw [c0]; rfl)
      refine ⟨s, hst, b, o, by have := hao 0; simpa using this, fun j v hv => ?_⟩
      have hj : j < 9 := by have := (Array.getElem?_eq_some_iff.1 hv).1; simpa using this
      have := hcell j hj
      rw [add_add, hao j, e'] at this
      rw [this, ← hv]
      simp
    obtain ⟨q, hq⟩ := Go.Deep.choose_lt each
    have hl : ((List.range len).map q).length = len := by simp
    have hget : ∀ i, i < len → sget ((List.range len).map q) i = q i := fun i hi => by
      simp [sget, hi]
    refine ⟨some a, cap, (List.range len).map q, by rw [hl], fun i hi => ?_, ?_⟩
    · rw [hl] at hi
      rw [hget i hi]
      obtain ⟨h1, b, o, h2, h3⟩ := hq i hi
      exact ⟨h1, a, b, o, rfl, h2, h3⟩
    · rw [hl]
      refine Nat.le_trans ?_ hbk
      rw [hx]
      have := bulk_slice ((List.range len).map D) ((List.range (m - len)).map fun j => D (len + j))
      rw [List.length_map, List.length_range] at this
      exact this
end
end Go.Proofs.Ytdgdmhmagdjeoaa
