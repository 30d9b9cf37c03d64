/- Arguments that are rows of the table, or that ask for some, opened for a row. -/
import Derived.Test.YteelconabmfnkaaOi
namespace Go.Proofs.Yteelconabmfnkaa
open Go Go.RowKit Go.ChangeShapes Go.WideShapes
set_option maxRecDepth 100000
set_option linter.unusedVariables false
set_option linter.unusedSimpArgs false
section
variable {H : Type} {enc : TypeId × Value → H} {P : Program} {w : World} {base : Nat} {spare : Nat → Bool} {held : Bool} {fuel : Nat}
theorem field_one {t : TypeId} {fs : Array Field} {cs : Array Value} {x : DataW H × List MemPlace} (ht : P.underlying t = some (.struct fs)) (h : DataW.trod enc P w base spare held fuel t cs.toList = some x)
    (i : Nat) (f : Field) (o e : Nat) (hf : fs[i]? = some f) (ho : f.offset = o) (he : f.type = e) (hc : P.cellsOf e = 1) (hoc : o < cs.size) : ∃ v m y, cs[o]? = some v ∧ DataW.trod enc P w base spare held m e [v] = some y := by
  obtain ⟨xs, n, _, _, hl, hlen, hel⟩ := DataW.trod_struct ht h
  have h1 := hel i f hf
  rw [ho, he, hc] at h1
  have hi : i < fs.size := (Array.getElem?_eq_some_iff.1 hf).1
  rw [List.getElem?_eq_getElem (by omega : i < xs.length)] at h1
  refine ⟨cs[o], n, xs[i], Array.getElem?_eq_getElem hoc, ?_⟩
  rw [← h1]
  congr 1
  have : o < cs.toList.length := by simpa using hoc
  rw [List.drop_eq_getElem_cons this]
  simp
/-- a field that is itself a struct: its own reading -/
theorem field_struct {t : TypeId} {fs : Array Field} {cs : Array Value} {x : DataW H × List MemPlace} (ht : P.underlying t = some (.struct fs)) (h : DataW.trod enc P w base spare held fuel t cs.toList = some x)
    (i : Nat) (f : Field) (o e c : Nat) (hf : fs[i]? = some f) (ho : f.offset = o) (he : f.type = e) (hc : P.cellsOf e = c) : ∃ m y, DataW.trod enc P w base spare held m e (cs.extract o (o + c)).toList = some y := by
  obtain ⟨xs, n, _, _, hl, hlen, hel⟩ := DataW.trod_struct ht h
  have h1 := hel i f hf
  rw [ho, he, hc] at h1
  have hi : i < fs.size := (Array.getElem?_eq_some_iff.1 hf).1
  rw [List.getElem?_eq_getElem (by omega : i < xs.length)] at h1
  refine ⟨n, xs[i], ?_⟩
  rw [← h1]
  congr 1
  simp [List.take_drop]
theorem open_str {t : TypeId} {v : Value} {x : DataW H × List MemPlace} (ht : P.underlying t = some .string) (h : DataW.trod enc P w base spare held fuel t [v] = some x) : ∃ s : ByteArray, v = .string s := by
  cases fuel with
  | zero => simp [DataW.trod] at h
  | succ n =>
    unfold DataW.trod at h
    rw [ht] at h
    cases v <;> simp at h
    exact ⟨_, rfl⟩
end
section
variable {H : Type} {enc : TypeId × Value → H} {w : World} {base : Nat} {spare : Nat → Bool} {held : Bool} {r : Reach} {b0 : Nat}
/-- the cells of a row -/
theorem row_cells {fuel : Nat} {cs : Array Value} {x : DataW H × List MemPlace} (hf : DataW.trod enc Try.prog w base spare held fuel 40 cs.toList = some x) :
    ∃ q : R7, cs[0]? = some (.int .u8 (q.op : Nat)) ∧ cs[1]? = some (.int .u8 (q.form : Nat)) ∧ cs[2]? = some (.int .u8 (q.frm : Nat)) ∧ cs[3]? = some (.int .u8 (q.kind : Nat)) ∧ cs[4]? = some (.int .u32 (q.mask : Nat)) ∧ cs[5]? = some (.int .u32 (q.mtch : Nat)) ∧ cs[6]? = some (.int .u8 (q.lay : Nat)) ∧
      q.op < 256 ∧ q.form < 256 ∧ q.frm < 256 ∧ q.kind < 256 ∧ q.mask < 4294967296 ∧ q.mtch < 4294967296 ∧ q.lay < 256 := by
  obtain ⟨fs, hu⟩ : ∃ fs, Try.prog.underlying 40 = some (.struct fs) := ⟨_, Try.underlying40⟩
  have hfs : fs.toList.map (fun f => (f.offset, f.type)) = [(0, 22), (1, 23), (2, 23), (3, 24), (4, 28), (5, 28), (6, 38)] := by
    have e := Try.underlying40.symm.trans hu
    simp only [Option.some.injEq, TypeDesc.struct.injEq] at e
    rw [← e]; rfl
  have hfi : ∀ (i : Nat) (p : Nat × Nat), ([(0, 22), (1, 23), (2, 23), (3, 24), (4, 28), (5, 28), (6, 38)] : List (Nat × Nat))[i]? = some p → ∃ f, fs[i]? = some f ∧ f.offset = p.1 ∧ f.type = p.2 := fun i p hp => by
    rw [← hfs, List.getElem?_map] at hp
    obtain ⟨f, hf, e⟩ := Option.map_eq_some_iff.1 hp
    exact ⟨f, by simpa using hf, by rw [← e], by rw [← e]⟩
  obtain ⟨f0, a0, b0, c0⟩ := hfi 0 _ rfl
  obtain ⟨z0, e0, w0⟩ := field_int hu hf 0 f0 0 _ a0 b0 c0 Try.underlying22 (by kernel_rfl)
  obtain ⟨n0, rfl, l0⟩ := wf_u8 w0
  obtain ⟨f1, a1, b1, c1⟩ := hfi 1 _ rfl
  obtain ⟨z1, e1, w1⟩ := field_int hu hf 1 f1 1 _ a1 b1 c1 Try.underlying23 (by kernel_rfl)
  obtain ⟨n1, rfl, l1⟩ := wf_u8 w1
  obtain ⟨f2, a2, b2, c2⟩ := hfi 2 _ rfl
  obtain ⟨z2, e2, w2⟩ := field_int hu hf 2 f2 2 _ a2 b2 c2 Try.underlying23 (by kernel_rfl)
  obtain ⟨n2, rfl, l2⟩ := wf_u8 w2
  obtain ⟨f3, a3, b3, c3⟩ := hfi 3 _ rfl
  obtain ⟨z3, e3, w3⟩ := field_int hu hf 3 f3 3 _ a3 b3 c3 Try.underlying24 (by kernel_rfl)
  obtain ⟨n3, rfl, l3⟩ := wf_u8 w3
  obtain ⟨f4, a4, b4, c4⟩ := hfi 4 _ rfl
  obtain ⟨z4, e4, w4⟩ := field_int hu hf 4 f4 4 _ a4 b4 c4 Try.underlying28 (by kernel_rfl)
  obtain ⟨n4, rfl, l4⟩ := wf_u32 w4
  obtain ⟨f5, a5, b5, c5⟩ := hfi 5 _ rfl
  obtain ⟨z5, e5, w5⟩ := field_int hu hf 5 f5 5 _ a5 b5 c5 Try.underlying28 (by kernel_rfl)
  obtain ⟨n5, rfl, l5⟩ := wf_u32 w5
  obtain ⟨f6, a6, b6, c6⟩ := hfi 6 _ rfl
  obtain ⟨z6, e6, w6⟩ := field_int hu hf 6 f6 6 _ a6 b6 c6 Try.underlying38 (by kernel_rfl)
  obtain ⟨n6, rfl, l6⟩ := wf_u8 w6
  exact ⟨⟨n0, n1, n2, n3, n4, n5, n6⟩, e0, e1, e2, e3, e4, e5, e6, l0, l1, l2, l3, l4, l5, l6⟩
abbrev BR (x : R7) : Prop := x.op < 256 ∧ x.form < 256 ∧ x.frm < 256 ∧ x.kind < 256 ∧ x.mask < 4294967296 ∧ x.mtch < 4294967296 ∧ x.lay < 256
/-- a row that came in -/
theorem open_row {v : Value} {d : DataW H} {ps : List MemPlace} (hv : Value.okWide Try.prog w r b0 40 v) (h : DataW.Trod enc Try.prog w base spare held 40 v d ps) : ∃ x : R7, v = .agg (rowV x) ∧ BR x := by
  obtain ⟨fs, hu⟩ : ∃ fs, Try.prog.underlying 40 = some (.struct fs) := ⟨_, Try.underlying40⟩
  obtain ⟨cs, rfl, hsz⟩ := okWide_struct hu hv
  have hsz9 : cs.size = 7 := hsz.trans (by kernel_rfl)
  obtain ⟨fuel, hf⟩ := h
  have hf : DataW.trod enc Try.prog w base spare held fuel 40 cs.toList = some (d, ps) := hf
  obtain ⟨q, e0, e1, e2, e3, e4, e5, e6, hq⟩ := row_cells hf
  refine ⟨q, ?_, hq⟩
  congr 1
  apply Array.ext_getElem?
  intro i
  rcases i with _ | _ | _ | _ | _ | _ | _ | i
  · exact e0
  · exact e1
  · exact e2
  · exact e3
  · exact e4
  · exact e5
  · exact e6
  · rw [Array.getElem?_eq_none (by omega)]
    rfl
/-- what the calls are asked -/
structure A7 where
  op : Nat
  form : Nat
  frm : Nat
  kind : Nat
  row : R7
  name : ByteArray
  leave : Int
abbrev askV (x : A7) : Array Value := #[.int .u8 (x.op : Nat), .int .u8 (x.form : Nat), .int .u8 (x.frm : Nat), .int .u8 (x.kind : Nat), .int .u8 (x.row.op : Nat), .int .u8 (x.row.form : Nat), .int .u8 (x.row.frm : Nat), .int .u8 (x.row.kind : Nat), .int .u32 (x.row.mask : Nat), .int .u32 (x.row.mtch : Nat), .int .u8 (x.row.lay : Nat), .string x.name, .int .i64 x.leave]
abbrev BA (x : A7) : Prop := x.op < 256 ∧ x.form < 256 ∧ x.frm < 256 ∧ x.kind < 256 ∧ BR x.row ∧ (-9223372036854775808 ≤ x.leave ∧ x.leave ≤ 9223372036854775807)
theorem open_ask {v : Value} {d : DataW H} {ps : List MemPlace} (hv : Value.okWide Try.prog w r b0 74 v) (h : DataW.Trod enc Try.prog w base spare held 74 v d ps) : ∃ x : A7, v = .agg (askV x) ∧ BA x := by
  obtain ⟨fs, hu⟩ : ∃ fs, Try.prog.underlying 74 = some (.struct fs) := ⟨_, Try.underlying74⟩
  have hfs : fs.toList.map (fun f => (f.offset, f.type)) = [(0, 22), (1, 23), (2, 23), (3, 24), (4, 40), (11, 9), (12, 3)] := by
    have e := Try.underlying74.symm.trans hu
    simp only [Option.some.injEq, TypeDesc.struct.injEq] at e
    rw [← e]; rfl
  have hfi : ∀ (i : Nat) (p : Nat × Nat), ([(0, 22), (1, 23), (2, 23), (3, 24), (4, 40), (11, 9), (12, 3)] : List (Nat × Nat))[i]? = some p → ∃ f, fs[i]? = some f ∧ f.offset = p.1 ∧ f.type = p.2 := fun i p hp => by
    rw [← hfs, List.getElem?_map] at hp
    obtain ⟨f, hf, e⟩ := Option.map_eq_some_iff.1 hp
    exact ⟨f, by simpa using hf, by rw [← e], by rw [← e]⟩
  obtain ⟨cs, rfl, hsz⟩ := okWide_struct hu hv
  have hsz9 : cs.size = 13 := hsz.trans (by kernel_rfl)
  obtain ⟨fuel, hf⟩ := h
  have hf : DataW.trod enc Try.prog w base spare held fuel 74 cs.toList = some (d, ps) := hf
  obtain ⟨f0, a0, b0, c0⟩ := hfi 0 _ rfl
  obtain ⟨z0, e0, w0⟩ := field_int hu hf 0 f0 0 _ a0 b0 c0 Try.underlying22 (by kernel_rfl)
  obtain ⟨n0, rfl, l0⟩ := wf_u8 w0
  obtain ⟨f1, a1, b1, c1⟩ := hfi 1 _ rfl
  obtain ⟨z1, e1, w1⟩ := field_int hu hf 1 f1 1 _ a1 b1 c1 Try.underlying23 (by kernel_rfl)
  obtain ⟨n1, rfl, l1⟩ := wf_u8 w1
  obtain ⟨f2, a2, b2, c2⟩ := hfi 2 _ rfl
  obtain ⟨z2, e2, w2⟩ := field_int hu hf 2 f2 2 _ a2 b2 c2 Try.underlying23 (by kernel_rfl)
  obtain ⟨n2, rfl, l2⟩ := wf_u8 w2
  obtain ⟨f3, a3, b3, c3⟩ := hfi 3 _ rfl
  obtain ⟨z3, e3, w3⟩ := field_int hu hf 3 f3 3 _ a3 b3 c3 Try.underlying24 (by kernel_rfl)
  obtain ⟨n3, rfl, l3⟩ := wf_u8 w3
  obtain ⟨f4, a4, b4, c4⟩ := hfi 4 _ rfl
  obtain ⟨m4, y4, h4⟩ := field_struct hu hf 4 f4 4 _ 7 a4 b4 c4 (by kernel_rfl)
  obtain ⟨q, q0, q1, q2, q3, q4, q5, q6, hq⟩ := row_cells h4
  obtain ⟨f5, a5, b5, c5⟩ := hfi 5 _ rfl
  obtain ⟨v5, m5, y5, e5, h5⟩ := field_one hu hf 5 f5 11 _ a5 b5 c5 (by kernel_rfl) (by omega)
  obtain ⟨s, rfl⟩ := open_str Try.underlying9 h5
  obtain ⟨f6, a6, b6, c6⟩ := hfi 6 _ rfl
  obtain ⟨z6, e6, w6⟩ := field_int hu hf 6 f6 12 _ a6 b6 c6 Try.underlying3 (by kernel_rfl)
  have ex : ∀ (j : Nat) (u : Value), (cs.extract 4 (4 + 7))[j]? = some u → cs[4 + j]? = some u := fun j u hj => by
    rw [Array.getElem?_extract] at hj
    split at hj
    · exact hj
    · cases hj
  refine ⟨⟨n0, n1, n2, n3, q, s, z6⟩, ?_, l0, l1, l2, l3, hq, wf_int w6⟩
  congr 1
  apply Array.ext_getElem?
  intro i
  rcases i with _ | _ | _ | _ | _ | _ | _ | _ | _ | _ | _ | _ | _ | i
  · exact e0
  · exact e1
  · exact e2
  · exact e3
  · exact ex 0 _ q0
  · exact ex 1 _ q1
  · exact ex 2 _ q2
  · exact ex 3 _ q3
  · exact ex 4 _ q4
  · exact ex 5 _ q5
  · exact ex 6 _ q6
  · exact e5
  · exact e6
  · rw [Array.getElem?_eq_none (by omega)]
    rfl
end
end Go.Proofs.Yteelconabmfnkaa
