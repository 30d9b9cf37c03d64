/- The row of the law MemPlays: its walk is proved in YtdgdmhmagdjeoaaMemPlays; here it is joined to the given statement. -/
import Derived.Test.YtdgdmhmagdjeoaaRows
import Derived.Test.YtdgdmhmagdjeoaaMemPlays
import Derived.Test.YtdgdmhmagdjeoaaNo
import Derived.Test.YtdgdmhmagdjeoaaUo
import Derived.ProofKit
import Derived.JoinedCond
import Derived.SizedLaws
import Derived.OpenShut
import Derived.Carry
namespace Go.Proofs.Ytdgdmhmagdjeoaa.memPlays
open Go.ChangeShapes Go.WideShapes Go.ChangeAt Go.RowKit
set_option linter.unusedVariables false
set_option maxHeartbeats 1000000
theorem own : ownKnob Try.prog.godebug = none := by kernel_rfl
theorem walk (w : World) (ao bo sp : Option Addr) (ca cb sc : Nat) (la lb : List Nat) (ss : List St) (ha : Xs w ao ca la) (hb : Xs w bo cb lb) (hs : SRd w sp ss) (ha8 : ∀ y ∈ la, y < 256) (hb8 : ∀ y ∈ lb, y < 256) (hn : la.length ≤ 1048576) (hL : ss.length ≤ 1048576) :
    Calls Try.prog 8 #[.slice ao la.length ca, .slice bo lb.length cb, .slice sp ss.length sc] w fun e w' => e = .returned (.bool true) ∧ Below w.heap.size w w' := by
  by_cases h : smallB la.length ss = false ∨ 2000 < lb.length
  · exact walk_MemPlays_big w ao bo sp ca cb sc la.length lb.length ss hs hn hL h
  · cases hsm : smallB la.length ss with
    | false => exact absurd (Or.inl hsm) h
    | true => exact walk_MemPlays_small w ao bo sp ca cb sc la lb ss ha hb hs ha8 hb8 hn hL hsm (fun hk => h (Or.inr hk))
theorem short {H : Type} {d0 d1 d2 : DataW H} {gs : List (DataW H)} (hk : Rows.uptoSmall H ([d0, d1, d2] ++ gs) = true) : Rows.uptoBulk d0 ≤ 1048576 ∧ Rows.uptoBulk d1 ≤ 1048576 ∧ Rows.uptoBulk d2 ≤ 1048576 := by
  have h : Rows.uptoBulkAll ([d0, d1, d2] ++ gs) ≤ 1048576 := of_decide_eq_true hk
  have h0 := bulk_part (d := d0) (l := [d0, d1, d2] ++ gs) (by simp)
  have h1 := bulk_part (d := d1) (l := [d0, d1, d2] ++ gs) (by simp)
  have h2 := bulk_part (d := d2) (l := [d0, d1, d2] ++ gs) (by simp)
  exact ⟨by omega, by omega, by omega⟩
set_option maxRecDepth 100000 in
theorem lifted (os : Os) (started : os.Started) (H : Type) (enc : TypeId × Value → H) (F : Stop.Interp) :
    ReturnsInHanded {} Try.checked os 8 .any ((Rows.OpenSpec.upto Rows.memPlaysSpec).pre6 enc Try.prog Try.f8 Rows.memPlaysUptoRow.domain false) (((Rows.OpenSpec.upto Rows.memPlaysSpec).at F).post enc Try.prog Try.f8 false true false false) := by
  refine returnsInHanded_of_cond (C := Try.checked) (s := Rows.OpenSpec.upto Rows.memPlaysSpec) (k := Rows.uptoSmall) rfl own started (by kernel_rfl) Try.func8
    (OpenSpec.witness (enc := enc) (C := Try.checked) (s := Rows.OpenSpec.upto Rows.memPlaysSpec) (k := Rows.uptoSmall) rfl false ⟨#[], #[.slice none 0 0, .slice none 0 0, .slice none 0 0], []⟩ 8 (by kernel_rfl) (by kernel_rfl) (by kernel_rfl)
      (x := ([.nil, .nil, .nil], [], [])) (by kernel_rfl) rfl (by kernel_rfl)) ?_
  intro W base args ds gs before hval0 hW _ hkb _
  have hval : ∀ (j : Nat) t v, Try.f8.params[j]? = some t → args[j]? = some v → Value.okWide Try.prog W .any base t v := hval0
  have hW' := hW
  obtain ⟨p, q, hA0, hV, rfl, hfz, hnd⟩ := hW
  have hA : DataW.TrodAll enc Try.prog W 0 (fun _ => true) true Try.f8.params.toList args.toList ds p := hA0
  rw [Try.params8] at hA hval
  obtain ⟨v0, vs0, d0, ds0, p0, q0, hargs, rfl, rfl, h0, r0⟩ := trodAll_cons hA
  obtain ⟨v1, vs1, d1, ds1, p1, q1, rfl, rfl, rfl, h1, r1⟩ := trodAll_cons r0
  obtain ⟨v2, vs2, d2, ds2, p2, q2, rfl, rfl, rfl, h2, r2⟩ := trodAll_cons r1
  obtain ⟨rfl, rfl, rfl⟩ := trodAll_nil r2
  obtain rfl : args = #[v0, v1, v2] := by cases args; simp_all
  obtain ⟨rfl, rfl⟩ := trodVars_none hV
  obtain ⟨k0, k1, k2⟩ := short hkb
  have hk0 := h0
  have hlt0 : ∀ x ∈ p0, x.block < W.heap.size := fun x hx => by simpa using hW'.lt x (by simp [hx])
  have hk1 := h1
  have hlt1 : ∀ x ∈ p1, x.block < W.heap.size := fun x hx => by simpa using hW'.lt x (by simp [hx])
  have hk2 := h2
  have hlt2 : ∀ x ∈ p2, x.block < W.heap.size := fun x hx => by simpa using hW'.lt x (by simp [hx])
  obtain ⟨ao0, le0, cp0, rfl⟩ := okWide_slice Try.underlying29 (hval 0 29 v0 rfl rfl)
  obtain ⟨fu0, hf0⟩ := h0
  obtain ⟨ax0, c0, l0, e0, hx0, hm0, hn0⟩ := open_bytesB (v := .slice ao0 le0 cp0) hf0
  simp only [Value.slice.injEq] at e0
  obtain ⟨rfl, rfl, rfl⟩ := e0
  obtain ⟨ao1, le1, cp1, rfl⟩ := okWide_slice Try.underlying29 (hval 1 29 v1 rfl rfl)
  obtain ⟨fu1, hf1⟩ := h1
  obtain ⟨ax1, c1, l1, e1, hx1, hm1, hn1⟩ := open_bytesB (v := .slice ao1 le1 cp1) hf1
  simp only [Value.slice.injEq] at e1
  obtain ⟨rfl, rfl, rfl⟩ := e1
  obtain ⟨ao2, le2, cp2, rfl⟩ := okWide_slice Try.underlying60 (hval 2 60 v2 rfl rfl)
  obtain ⟨fu2, hf2⟩ := h2
  obtain ⟨ax2, c2, ss, e2, hs2, hL⟩ := open_stepsB (v := .slice ao2 le2 cp2) hf2 k2
  simp only [Value.slice.injEq] at e2
  obtain ⟨rfl, rfl, rfl⟩ := e2
  clear hA0 hval0 hkb
  refine (walk W ao0 ao1 ao2 _ _ _ l0 l1 ss hx0 hx1 hs2 hm0 hm1 (Nat.le_trans hn0 k0) hL).mono fun e W' ⟨he, bel⟩ => ?_
  subst he
  exact ⟨_, rfl, _, _, _, [], _, [], hW', trodAll_mk1 (shut_bool Try.underlying4 _), (trodAll_cons_mk (Below.trod laidOut (by kernel_rfl) (of_decide_eq_true (by kernel_rfl)) hk0 bel hlt0) (trodAll_cons_mk (Below.trod laidOut (by kernel_rfl) (of_decide_eq_true (by kernel_rfl)) hk1 bel hlt1) (trodAll_cons_mk (Below.trod laidOut (by kernel_rfl) (of_decide_eq_true (by kernel_rfl)) hk2 bel hlt2) trodAll_mk0))), rfl, bel.frame _, fun h => by cases h⟩
theorem over : Rows.memPlaysUptoRow.holds Try.pinned (Rows.OpenSpec.upto Rows.memPlaysSpec) :=
  OpenClaim.holds_of_cond 8 Try.f8 rfl rfl rfl rfl rfl rfl rfl ⟨rfl, rfl, rfl, rfl, rfl⟩ rfl rfl rfl rfl rfl (by kernel_rfl) Try.func8 (by kernel_rfl)
    (of_decide_eq_true (by kernel_rfl)) (by unfold Func.isWrapper; first | (rw [if_pos (by decide +kernel)]; kernel_rfl) | (rw [if_neg (by decide +kernel)]; exact ⟨rfl, rfl⟩))
    (fun os started H enc _ F => lifted os started H enc F)
end Go.Proofs.Ytdgdmhmagdjeoaa.memPlays
namespace Go.Proofs.Ytdgdmhmagdjeoaa
/-- The given statement of the law MemPlays, where what it reads is of bulk at most 1048576. -/
theorem memPlays_holds : Rows.MemPlaysUptoSaid := memPlays.over
end Go.Proofs.Ytdgdmhmagdjeoaa
