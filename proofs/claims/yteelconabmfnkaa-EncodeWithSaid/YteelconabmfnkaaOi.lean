/- Arguments that are structs of whole numbers, opened for a row. -/
import Derived.Test.YteelconabmfnkaaRows
import Derived.Test.YteelconabmfnkaaTo
import Derived.ChangeShapes
import Derived.OpenShut
import Derived.Lib.SmallJoins
import Derived.ProofKit
namespace Go.Proofs.Yteelconabmfnkaa
open Go Go.RowKit Go.ChangeShapes Go.WideShapes
set_option maxRecDepth 100000
set_option linter.unusedVariables false
set_option linter.unusedSimpArgs false
theorem laidOut : laidOutB Try.prog = true := by kernel_rfl
section
variable {H : Type} {enc : TypeId × Value → H} {P : Program} {w : World} {base : Nat} {spare : Nat → Bool} {held : Bool} {fuel : Nat}
theorem wf_u8 {z : Int} (h : (Lit.int .u8 z).wf = true) : ∃ n : Nat, z = n ∧ n < 256 := by
  have h' : 0 ≤ z ∧ z ≤ 255 := by simpa [Lit.wf, IntKind.min, IntKind.max, IntKind.signed, IntKind.bits] using h
  exact ⟨z.toNat, by omega, by omega⟩
theorem wf_u32 {z : Int} (h : (Lit.int .u32 z).wf = true) : ∃ n : Nat, z = n ∧ n < 4294967296 := by
  have h' : 0 ≤ z ∧ z ≤ 4294967295 := by simpa [Lit.wf, IntKind.min, IntKind.max, IntKind.signed, IntKind.bits] using h
  exact ⟨z.toNat, by omega, by omega⟩
theorem wf_i16 {z : Int} (h : (Lit.int .i16 z).wf = true) : -32768 ≤ z ∧ z ≤ 32767 := by
  simpa [Lit.wf, IntKind.min, IntKind.max, IntKind.signed, IntKind.bits] using h
theorem wf_int {z : Int} (h : (Lit.int .i64 z).wf = true) : -9223372036854775808 ≤ z ∧ z ≤ 9223372036854775807 := by
  simpa [Lit.wf, IntKind.min, IntKind.max, IntKind.signed, IntKind.bits] using h
theorem field_int {t : TypeId} {fs : Array Field} {k : IntKind} {cs : Array Value} {x : DataW H × List MemPlace} (ht : P.underlying t = some (.struct fs)) (h : DataW.trod enc P w base spare held fuel t cs.toList = some x)
    (i : Nat) (f : Field) (o e : Nat) (hf : fs[i]? = some f) (ho : f.offset = o) (he : f.type = e) (hu : P.underlying e = some (.int k)) (hc : P.cellsOf e = 1) : ∃ z, cs[o]? = some (.int k z) ∧ (Lit.int k z).wf = true := by
  obtain ⟨xs, n, _, _, hl, hlen, hel⟩ := DataW.trod_struct ht h
  have h1 := hel i f hf
  rw [ho, he, hc] at h1
  have hi : i < fs.size := (Array.getElem?_eq_some_iff.1 hf).1
  rw [List.getElem?_eq_getElem (by omega : i < xs.length)] at h1
  obtain ⟨z, e1, _, hw⟩ := DataW.trod_int hu h1
  refine ⟨z, ?_, hw⟩
  have h0 : ((cs.toList.drop o).take 1)[0]? = some (.int k z) := by rw [e1]; rfl
  simpa using h0
end
section
variable {H : Type} {enc : TypeId × Value → H} {w : World} {base : Nat} {spare : Nat → Bool} {held : Bool} {r : Reach} {b0 : Nat}
/-- an instruction that came in -/
theorem open_inst {v : Value} {d : DataW H} {ps : List MemPlace} (hv : Value.okWide Try.prog w r b0 27 v) (h : DataW.Trod enc Try.prog w base spare held 27 v d ps) :
    ∃ x : I11, v = .agg (instV x) ∧ x.op < 256 ∧ x.form < 256 ∧ x.frm < 256 ∧ x.kind < 256 ∧ x.rd < 256 ∧ x.rs1 < 256 ∧ x.rs2 < 256 ∧ x.rs3 < 256 ∧ x.rm < 256 ∧ (-32768 ≤ x.imm ∧ x.imm ≤ 32767) ∧ x.csr < 256 := by
  obtain ⟨fs, hu⟩ : ∃ fs, Try.prog.underlying 27 = some (.struct fs) := ⟨_, Try.underlying27⟩
  have hfs : fs.toList.map (fun f => (f.offset, f.type)) = [(0, 22), (1, 23), (2, 23), (3, 24), (4, 5), (5, 5), (6, 5), (7, 5), (8, 5), (9, 25), (10, 5)] := by
    have e := Try.underlying27.symm.trans hu
    simp only [Option.some.injEq, TypeDesc.struct.injEq] at e
    rw [← e]; rfl
  have hfi : ∀ (i : Nat) (p : Nat × Nat), ([(0, 22), (1, 23), (2, 23), (3, 24), (4, 5), (5, 5), (6, 5), (7, 5), (8, 5), (9, 25), (10, 5)] : List (Nat × Nat))[i]? = some p → ∃ f, fs[i]? = some f ∧ f.offset = p.1 ∧ f.type = p.2 := fun i p hp => by
    rw [← hfs, List.getElem?_map] at hp
    obtain ⟨f, hf, e⟩ := Option.map_eq_some_iff.1 hp
    exact ⟨f, by simpa using hf, by rw [← e], by rw [← e]⟩
  obtain ⟨cs, rfl, hsz⟩ := okWide_struct hu hv
  have hsz9 : cs.size = 11 := hsz.trans (by kernel_rfl)
  obtain ⟨fuel, hf⟩ := h
  have hf : DataW.trod enc Try.prog w base spare held fuel 27 cs.toList = some (d, ps) := hf
  obtain ⟨f0, a0, b0, c0⟩ := hfi 0 _ rfl
  obtain ⟨z0, e0, w0⟩ := field_int hu hf 0 f0 0 _ a0 b0 c0 Try.underlying22 (by kernel_rfl)
  obtain ⟨n0, rfl, l0⟩ := wf_u8 w0
  obtain ⟨f1, a1, b1, c1⟩ := hfi 1 _ rfl
  obtain ⟨z1, e1, w1⟩ := field_int hu hf 1 f1 1 _ a1 b1 c1 Try.underlying23 (by kernel_rfl)
  obtain ⟨n1, rfl, l1⟩ := wf_u8 w1
  obtain ⟨f2, a2, b2, c2⟩ := hfi 2 _ rfl
  obtain ⟨z2, e2, w2⟩ := field_int hu hf 2 f2 2 _ a2 b2 c2 Try.underlying23 (by kernel_rfl)
  obtain ⟨n2, rfl, l2⟩ := wf_u8 w2
  obtain ⟨f3, a3, b3, c3⟩ := hfi 3 _ rfl
  obtain ⟨z3, e3, w3⟩ := field_int hu hf 3 f3 3 _ a3 b3 c3 Try.underlying24 (by kernel_rfl)
  obtain ⟨n3, rfl, l3⟩ := wf_u8 w3
  obtain ⟨f4, a4, b4, c4⟩ := hfi 4 _ rfl
  obtain ⟨z4, e4, w4⟩ := field_int hu hf 4 f4 4 _ a4 b4 c4 Try.underlying5 (by kernel_rfl)
  obtain ⟨n4, rfl, l4⟩ := wf_u8 w4
  obtain ⟨f5, a5, b5, c5⟩ := hfi 5 _ rfl
  obtain ⟨z5, e5, w5⟩ := field_int hu hf 5 f5 5 _ a5 b5 c5 Try.underlying5 (by kernel_rfl)
  obtain ⟨n5, rfl, l5⟩ := wf_u8 w5
  obtain ⟨f6, a6, b6, c6⟩ := hfi 6 _ rfl
  obtain ⟨z6, e6, w6⟩ := field_int hu hf 6 f6 6 _ a6 b6 c6 Try.underlying5 (by kernel_rfl)
  obtain ⟨n6, rfl, l6⟩ := wf_u8 w6
  obtain ⟨f7, a7, b7, c7⟩ := hfi 7 _ rfl
  obtain ⟨z7, e7, w7⟩ := field_int hu hf 7 f7 7 _ a7 b7 c7 Try.underlying5 (by kernel_rfl)
  obtain ⟨n7, rfl, l7⟩ := wf_u8 w7
  obtain ⟨f8, a8, b8, c8⟩ := hfi 8 _ rfl
  obtain ⟨z8, e8, w8⟩ := field_int hu hf 8 f8 8 _ a8 b8 c8 Try.underlying5 (by kernel_rfl)
  obtain ⟨n8, rfl, l8⟩ := wf_u8 w8
  obtain ⟨f9, a9, b9, c9⟩ := hfi 9 _ rfl
  obtain ⟨z9, e9, w9⟩ := field_int hu hf 9 f9 9 _ a9 b9 c9 Try.underlying25 (by kernel_rfl)
  obtain ⟨f10, a10, b10, c10⟩ := hfi 10 _ rfl
  obtain ⟨z10, e10, w10⟩ := field_int hu hf 10 f10 10 _ a10 b10 c10 Try.underlying5 (by kernel_rfl)
  obtain ⟨n10, rfl, l10⟩ := wf_u8 w10
  refine ⟨⟨n0, n1, n2, n3, n4, n5, n6, n7, n8, z9, n10⟩, ?_, l0, l1, l2, l3, l4, l5, l6, l7, l8, wf_i16 w9, l10⟩
  congr 1
  apply Array.ext_getElem?
  intro i
  rcases i with _ | _ | _ | _ | _ | _ | _ | _ | _ | _ | _ | i
  · exact e0
  · exact e1
  · exact e2
  · exact e3
  · exact e4
  · exact e5
  · exact e6
  · exact e7
  · exact e8
  · exact e9
  · exact e10
  · rw [Array.getElem?_eq_none (by omega)]
    rfl
end
end Go.Proofs.Yteelconabmfnkaa
