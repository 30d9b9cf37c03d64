/- Arguments that lie in memory, opened for a row: bytes; a step. -/
import Derived.Test.YtdgdmhmagdjeoaaRows
import Derived.Test.YtdgdmhmagdjeoaaUa
import Derived.ChangeShapes
import Derived.OpenShut
import Derived.Lib.SmallJoins
import Derived.ProofKit
namespace Go.Proofs.Ytdgdmhmagdjeoaa
open Go Go.RowKit Go.ChangeShapes Go.WideShapes
set_option linter.unusedVariables false
set_option linter.unusedSimpArgs false
theorem laidOut : laidOutB Try.prog = true := by kernel_rfl
theorem cellsU8 : Try.prog.cellsOf 5 = 1 := by kernel_rfl
section
variable {H : Type} {enc : TypeId × Value → H} {P : Program} {w : World} {base : Nat} {spare : Nat → Bool} {held : Bool} {fuel : Nat}
theorem wf_u8 {z : Int} (h : (Lit.int .u8 z).wf = true) : 0 ≤ z ∧ z < 256 := by
  have : 0 ≤ z ∧ z ≤ 255 := by simpa [Lit.wf, IntKind.min, IntKind.max, IntKind.signed, IntKind.bits] using h
  omega
/-- bytes that came in -/
theorem open_bytes {t e : TypeId} {v : Value} {x : DataW H × List MemPlace} (ht : P.underlying t = some (.slice e)) (he : P.underlying e = some (.int .u8)) (hc : P.cellsOf e = 1) (h : DataW.trod enc P w base spare held fuel t [v] = some x) :
    ∃ (ao : Option Addr) (c : Nat) (l : List Nat), v = .slice ao l.length c ∧ Rd w ao l ∧ (∀ y ∈ l, y < 256) ∧ l.length ≤ c ∧ c ≤ maxLen ∧ (ao = none → l.length = 0 ∧ c = 0) := by
  rcases open_ints ht he hc h with ⟨hcs, _⟩ | ⟨a, len, cap, zs, hcs, _, hl, hm, hz, _, hcell, hwz⟩
  · obtain rfl : v = .slice none 0 0 := by simpa using hcs
    exact ⟨none, 0, [], rfl, Rd.nil _ _, by simp, Nat.le_refl _, by unfold maxLen; omega, fun _ => ⟨rfl, rfl⟩⟩
  · obtain rfl : v = .slice (some a) len cap := by simpa using hcs
    have hle : len ≤ zs.length := by rw [hz]; split <;> omega
    have hlen : ((zs.take len).map Int.toNat).length = len := by simp; omega
    refine ⟨some a, cap, (zs.take len).map Int.toNat, by rw [hlen], fun i hi => ⟨a, rfl, ?_⟩, fun y hy => ?_, by omega, hm, fun e => by cases e⟩
    · rw [hlen] at hi
      rw [hcell i (by omega)]
      have hiz : i < zs.length := by omega
      have hw := wf_u8 (hwz zs[i] (List.getElem_mem hiz))
      congr 2
      rw [List.getD_eq_getElem?_getD, List.getElem?_map, List.getElem?_take, if_pos hi, List.getElem?_eq_getElem hiz]
      simp only [Option.getD_some, Option.map_some]
      omega
    · obtain ⟨z, hz2, rfl⟩ := List.mem_map.1 hy
      have := wf_u8 (hwz z (List.mem_of_mem_take hz2))
      omega
theorem field_int {t : TypeId} {fs : Array Field} {k : IntKind} {cs : Array Value} {x : DataW H × List MemPlace} (ht : P.underlying t = some (.struct fs)) (h : DataW.trod enc P w base spare held fuel t cs.toList = some x)
    (i : Nat) (f : Field) (o e : Nat) (hf : fs[i]? = some f) (ho : f.offset = o) (he : f.type = e) (hu : P.underlying e = some (.int k)) (hc : P.cellsOf e = 1) : ∃ z, cs[o]? = some (.int k z) ∧ (Lit.int k z).wf = true := by
  obtain ⟨xs, n, _, _, hl, hlen, hel⟩ := DataW.trod_struct ht h
  have h1 := hel i f hf
  rw [ho, he, hc] at h1
  have hi : i < fs.size := (Array.getElem?_eq_some_iff.1 hf).1
  rw [List.getElem?_eq_getElem (by omega : i < xs.length)] at h1
  obtain ⟨z, e1, _, hw⟩ := DataW.trod_int hu h1
  refine ⟨z, ?_, hw⟩
  have h0 : ((cs.toList.drop o).take 1)[0]? = some (.int k z) := by rw [e1]; rfl
  simpa using h0
theorem field_one {t : TypeId} {fs : Array Field} {cs : Array Value} {x : DataW H × List MemPlace} (ht : P.underlying t = some (.struct fs)) (h : DataW.trod enc P w base spare held fuel t cs.toList = some x)
    (i : Nat) (f : Field) (o e : Nat) (hf : fs[i]? = some f) (ho : f.offset = o) (he : f.type = e) (hc : P.cellsOf e = 1) (hoc : o < cs.size) : ∃ v m y, cs[o]? = some v ∧ DataW.trod enc P w base spare held m e [v] = some y := by
  obtain ⟨xs, n, _, _, hl, hlen, hel⟩ := DataW.trod_struct ht h
  have h1 := hel i f hf
  rw [ho, he, hc] at h1
  have hi : i < fs.size := (Array.getElem?_eq_some_iff.1 hf).1
  rw [List.getElem?_eq_getElem (by omega : i < xs.length)] at h1
  refine ⟨cs[o], n, xs[i], Array.getElem?_eq_getElem hoc, ?_⟩
  rw [← h1]
  congr 1
  have : o < cs.toList.length := by simpa using hoc
  rw [List.drop_eq_getElem_cons this]
  simp
/-- a field that is itself a struct: its own reading -/
theorem field_struct {t : TypeId} {fs : Array Field} {cs : Array Value} {x : DataW H × List MemPlace} (ht : P.underlying t = some (.struct fs)) (h : DataW.trod enc P w base spare held fuel t cs.toList = some x)
    (i : Nat) (f : Field) (o e c : Nat) (hf : fs[i]? = some f) (ho : f.offset = o) (he : f.type = e) (hc : P.cellsOf e = c) : ∃ m y, DataW.trod enc P w base spare held m e (cs.extract o (o + c)).toList = some y := by
  obtain ⟨xs, n, _, _, hl, hlen, hel⟩ := DataW.trod_struct ht h
  have h1 := hel i f hf
  rw [ho, he, hc] at h1
  have hi : i < fs.size := (Array.getElem?_eq_some_iff.1 hf).1
  rw [List.getElem?_eq_getElem (by omega : i < xs.length)] at h1
  refine ⟨n, xs[i], ?_⟩
  rw [← h1]
  congr 1
  simp [List.take_drop]
end
section
variable {H : Type} {enc : TypeId × Value → H} {w : World} {base : Nat} {spare : Nat → Bool} {held : Bool} {r : Reach} {b0 : Nat}
theorem wf_i64 {z : Int} (h : (Lit.int .i64 z).wf = true) : -9223372036854775808 ≤ z ∧ z ≤ 9223372036854775807 := by
  simpa [Lit.wf, IntKind.min, IntKind.max, IntKind.signed, IntKind.bits] using h
theorem wf_u64 {z : Int} (h : (Lit.int .u64 z).wf = true) : ∃ n : Nat, z = n ∧ n < 18446744073709551616 := by
  have h' : 0 ≤ z ∧ z ≤ 18446744073709551615 := by simpa [Lit.wf, IntKind.min, IntKind.max, IntKind.signed, IntKind.bits] using h
  exact ⟨z.toNat, by omega, by omega⟩
theorem wf_nat8 {z : Int} (h : (Lit.int .u8 z).wf = true) : ∃ n : Nat, z = n ∧ n < 256 := by
  have := wf_u8 h
  exact ⟨z.toNat, by omega, by omega⟩
/-- a step that came in: its cells -/
theorem open_step {v : Value} {d : DataW H} {ps : List MemPlace} (hv : Value.okWide Try.prog w r b0 41 v) (h : DataW.Trod enc Try.prog w base spare held 41 v d ps) :
    ∃ (how on wd nn : Int) (sa hi lo : Nat) (dv pv : Value) (fuel fuel2 : Nat) (y y2 : DataW H × List MemPlace), v = .agg #[.int .i64 how, .int .i64 on, .int .i64 wd, .int .i64 nn, .int .u64 sa, .int .u64 hi, .int .u64 lo, dv, pv] ∧
      (-9223372036854775808 ≤ wd ∧ wd ≤ 9223372036854775807) ∧ (-9223372036854775808 ≤ nn ∧ nn ≤ 9223372036854775807) ∧ sa < 18446744073709551616 ∧ hi < 18446744073709551616 ∧ lo < 18446744073709551616 ∧
      DataW.trod enc Try.prog w base spare held fuel 29 [dv] = some y ∧ DataW.trod enc Try.prog w base spare held fuel2 39 [pv] = some y2 := by
  obtain ⟨fs, hu⟩ : ∃ fs, Try.prog.underlying 41 = some (.struct fs) := ⟨_, Try.underlying41⟩
  obtain ⟨gs, hg⟩ : ∃ gs, Try.prog.underlying 35 = some (.struct gs) := ⟨_, Try.underlying35⟩
  have hfs : fs.toList.map (fun f => (f.offset, f.type)) = [(0, 3), (1, 3), (2, 3), (3, 3), (4, 33), (5, 35), (7, 29), (8, 39)] := by
    have e := Try.underlying41.symm.trans hu
    simp only [Option.some.injEq, TypeDesc.struct.injEq] at e
    rw [← e]; rfl
  have hgs : gs.toList.map (fun f => (f.offset, f.type)) = [(0, 33), (1, 33)] := by
    have e := Try.underlying35.symm.trans hg
    simp only [Option.some.injEq, TypeDesc.struct.injEq] at e
    rw [← e]; rfl
  have hfi : ∀ (i : Nat) (p : Nat × Nat), ([(0, 3), (1, 3), (2, 3), (3, 3), (4, 33), (5, 35), (7, 29), (8, 39)] : List (Nat × Nat))[i]? = some p → ∃ f, fs[i]? = some f ∧ f.offset = p.1 ∧ f.type = p.2 := fun i p hp => by
    rw [← hfs, List.getElem?_map] at hp
    obtain ⟨f, hf, e⟩ := Option.map_eq_some_iff.1 hp
    exact ⟨f, by simpa using hf, by rw [← e], by rw [← e]⟩
  have hgi : ∀ (i : Nat) (p : Nat × Nat), ([(0, 33), (1, 33)] : List (Nat × Nat))[i]? = some p → ∃ f, gs[i]? = some f ∧ f.offset = p.1 ∧ f.type = p.2 := fun i p hp => by
    rw [← hgs, List.getElem?_map] at hp
    obtain ⟨f, hf, e⟩ := Option.map_eq_some_iff.1 hp
    exact ⟨f, by simpa using hf, by rw [← e], by rw [← e]⟩
  obtain ⟨cs, rfl, hsz⟩ := okWide_struct hu hv
  have hsz9 : cs.size = 9 := hsz.trans (by kernel_rfl)
  obtain ⟨fuel, hf⟩ := h
  have hf : DataW.trod enc Try.prog w base spare held fuel 41 cs.toList = some (d, ps) := hf
  have k1 : Try.prog.cellsOf 3 = 1 := by kernel_rfl
  have k2 : Try.prog.cellsOf 33 = 1 := by kernel_rfl
  have k3 : Try.prog.cellsOf 35 = 2 := by kernel_rfl
  have k4 : Try.prog.cellsOf 29 = 1 := by kernel_rfl
  have k5 : Try.prog.cellsOf 39 = 1 := by kernel_rfl
  obtain ⟨f0, a0, b0, c0⟩ := hfi 0 _ rfl
  obtain ⟨f1, a1, b1, c1⟩ := hfi 1 _ rfl
  obtain ⟨f2, a2, b2, c2⟩ := hfi 2 _ rfl
  obtain ⟨f3, a3, b3, c3⟩ := hfi 3 _ rfl
  obtain ⟨f4, a4, b4, c4⟩ := hfi 4 _ rfl
  obtain ⟨f5, a5, b5, c5⟩ := hfi 5 _ rfl
  obtain ⟨f6, a6, b6, c6⟩ := hfi 6 _ rfl
  obtain ⟨f7, a7, b7, c7⟩ := hfi 7 _ rfl
  obtain ⟨z0, e0, w0⟩ := field_int hu hf 0 f0 0 _ a0 b0 c0 Try.underlying3 k1
  obtain ⟨z1, e1, w1⟩ := field_int hu hf 1 f1 1 _ a1 b1 c1 Try.underlying3 k1
  obtain ⟨z2, e2, w2⟩ := field_int hu hf 2 f2 2 _ a2 b2 c2 Try.underlying3 k1
  obtain ⟨z3, e3, w3⟩ := field_int hu hf 3 f3 3 _ a3 b3 c3 Try.underlying3 k1
  obtain ⟨z4, e4, w4⟩ := field_int hu hf 4 f4 4 _ a4 b4 c4 Try.underlying33 k2
  obtain ⟨m5, y5, h5⟩ := field_struct hu hf 5 f5 5 _ 2 a5 b5 c5 k3
  obtain ⟨g0, p0, q0, s0⟩ := hgi 0 _ rfl
  obtain ⟨g1, p1, q1, s1⟩ := hgi 1 _ rfl
  obtain ⟨z5, e5, w5⟩ := field_int hg h5 0 g0 0 _ p0 q0 s0 Try.underlying33 k2
  obtain ⟨z6, e6, w6⟩ := field_int hg h5 1 g1 1 _ p1 q1 s1 Try.underlying33 k2
  obtain ⟨dv, m7, y7, e7, h7⟩ := field_one hu hf 6 f6 7 _ a6 b6 c6 k4 (by omega)
  obtain ⟨pv, m8, y8, e8, h8⟩ := field_one hu hf 7 f7 8 _ a7 b7 c7 k5 (by omega)
  obtain ⟨sa, rfl, hsa⟩ := wf_u64 w4
  obtain ⟨hi, rfl, hhi⟩ := wf_u64 w5
  obtain ⟨lo, rfl, hlo⟩ := wf_u64 w6
  refine ⟨z0, z1, z2, z3, sa, hi, lo, dv, pv, m7, m8, y7, y8, ?_, wf_i64 w2, wf_i64 w3, hsa, hhi, hlo, h7, h8⟩
  congr 1
  apply Array.ext_getElem?
  intro i
  have e5' : cs[5]? = some (.int .u64 (hi : Nat)) := by
    rw [Array.getElem?_extract] at e5; simpa [hsz9] using e5
  have e6' : cs[6]? = some (.int .u64 (lo : Nat)) := by
    rw [Array.getElem?_extract] at e6; simpa [hsz9] using e6
  rcases i with _ | _ | _ | _ | _ | _ | _ | _ | _ | i
  · exact e0
  · exact e1
  · exact e2
  · exact e3
  · exact e4
  · exact e5'
  · exact e6'
  · exact e7
  · exact e8
  · rw [Array.getElem?_eq_none (by omega)]; simp
end
end Go.Proofs.Ytdgdmhmagdjeoaa
