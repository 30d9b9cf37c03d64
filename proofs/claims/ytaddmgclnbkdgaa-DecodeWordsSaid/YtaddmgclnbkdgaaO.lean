/- An argument of type api.Wide, opened and shut for a row. -/
import Derived.Test.YtaddmgclnbkdgaaH
import Derived.ChangeShapes
import Derived.OpenShut
import Derived.Lib.SmallJoins
namespace Go.Proofs.Ytaddmgclnbkdgaa
open Go Go.RowKit Go.ChangeShapes Go.WideShapes
set_option linter.unusedVariables false
set_option linter.unusedSimpArgs false
theorem mapM_six {α : Type _} (g : Nat → Option α) (xs : List α) (hl : xs.length = 6) (h : ∀ i, i < 6 → g i = xs[i]?) : (List.range 6).mapM g = some xs := by
  match xs, hl, h with
  | [x0, x1, x2, x3, x4, x5], _, h =>
    have E0 : g 0 = some x0 := h 0 (by omega)
    have E1 : g 1 = some x1 := h 1 (by omega)
    have E2 : g 2 = some x2 := h 2 (by omega)
    have E3 : g 3 = some x3 := h 3 (by omega)
    have E4 : g 4 = some x4 := h 4 (by omega)
    have E5 : g 5 = some x5 := h 5 (by omega)
    show ([0, 1, 2, 3, 4, 5] : List Nat).mapM g = _
    simp [List.mapM_cons, E0, E1, E2, E3, E4, E5]
theorem open_wide {H : Type} {enc : TypeId × Value → H} {P : Program} {w : World} {base : Nat} {spare : Nat → Bool} {held : Bool} {r : Reach} {b0 : Nat} {t e : TypeId} {v : Value} {d : DataW H} {ps : List MemPlace}
    (ht : P.underlying t = some (.array 6 e)) (he : P.underlying e = some (.int .u64)) (c1 : P.cellsOf e = 1) (c6 : P.cellsOf t = 6)
    (hval : Value.okWide P w r b0 t v) (hd : DataW.Trod enc P w base spare held t v d ps) :
    ∃ A, v = .agg (wv A) ∧ ps = [] ∧ A < W384 ∧ ∀ w' base' spare' held', DataW.Trod enc P w' base' spare' held' t (.agg (wv A)) d [] := by
  simp only [Value.okWide, ht] at hval
  obtain ⟨cs, rfl, hsz, _⟩ := hval
  obtain ⟨fuel, hf⟩ := hd
  obtain ⟨xs, m, rfl, hx, hlen, hl, hel⟩ := DataW.trod_array ht hf
  have hcs : (Value.agg cs).cells.toList = cs.toList := rfl
  rw [hcs] at hel hlen
  rw [c1] at hel
  have key : ∀ i, ∃ n : Nat, i < 6 → cs[i]? = some (.int .u64 n) ∧ n < 18446744073709551616 ∧ xs[i]? = some (.lit (.int .u64 n), []) := by
    intro i
    by_cases hi : i < 6
    · have h1 := hel i hi
      rw [Nat.mul_one, List.getElem?_eq_getElem (by omega : i < xs.length)] at h1
      obtain ⟨z, e1, e2, hw⟩ := DataW.trod_int he h1
      obtain ⟨n, rfl, hn⟩ := nat_u64 hw
      refine ⟨n, fun _ => ⟨?_, hn, by rw [List.getElem?_eq_getElem (by omega : i < xs.length), e2]⟩⟩
      have h0 : ((cs.toList.drop i).take 1)[0]? = some (.int .u64 n) := by rw [e1]; rfl
      simpa using h0
    · exact ⟨0, fun h => absurd h hi⟩
  obtain ⟨f, hf2⟩ := Classical.axiomOfChoice key
  have hlt : ∀ i, (fun i => f i % 18446744073709551616) i < 18446744073709551616 := fun i => Nat.mod_lt _ (by decide)
  have hA := numOf_lt hlt 6
  have hlim := limb_numOf hlt 6
  have hwv : cs = wv (numOf (fun i => f i % 18446744073709551616) 6) := by
    apply Array.ext_getElem?
    intro i
    by_cases hi : i < 6
    · rw [wv_get _ _ hi, hlim i hi, (hf2 i hi).1, Nat.mod_eq_of_lt (hf2 i hi).2.1]
    · rw [Array.getElem?_eq_none (by omega), Array.getElem?_eq_none (by rw [wv_size]; omega)]
  generalize numOf (fun i => f i % 18446744073709551616) 6 = A at *
  refine ⟨A, by rw [hwv], ?_, hA, fun w' base' spare' held' => ⟨m + 1, ?_⟩⟩
  · rw [(Prod.mk.inj hx).2]
    rw [List.flatMap_eq_nil_iff]
    intro x hxm
    obtain ⟨i, hi, rfl⟩ := List.getElem_of_mem hxm
    have := (hf2 i (by omega)).2.2
    rw [List.getElem?_eq_getElem hi] at this
    rw [Option.some.inj this]
  · have hm : ∃ k, m = k + 1 := by
      cases m with
      | zero =>
        have h1 := hel 0 (by omega)
        rw [(hf2 0 (by omega)).2.2] at h1
        simp [DataW.trod] at h1
      | succ k => exact ⟨k, rfl⟩
    obtain ⟨k, rfl⟩ := hm
    have hE : ∀ i, i < 6 → DataW.trod enc P w' base' spare' held' (k + 1) e ((cs.toList.drop i).take 1) = xs[i]? := by
      intro i hi
      rw [(hf2 i hi).2.2]
      have hc : (cs.toList.drop i).take 1 = [.int .u64 (f i : Nat)] := by
        have h1 := (hf2 i hi).1
        have h2 : i < cs.toList.length := by simp; omega
        rw [List.drop_eq_getElem_cons h2]
        simp only [List.take_succ_cons, List.take_zero]
        have h3 : cs.toList[i] = .int .u64 (f i : Nat) := by
          have h4 : cs.toList[i]? = some (.int .u64 (f i : Nat)) := by rw [Array.getElem?_toList]; exact h1
          rwa [List.getElem?_eq_getElem h2, Option.some.injEq] at h4
        rw [h3]
      rw [hc]
      have hw : (Lit.int .u64 (f i : Nat)).wf = true := by
        have := (hf2 i hi).2.1
        simp [Lit.wf, IntKind.min, IntKind.max, IntKind.signed, IntKind.bits]
        omega
      simp [DataW.trod, he, hw]
    have hcs2 : (Value.agg (wv A)).cells.toList = cs.toList := by rw [hwv]; rfl
    rw [hcs2]
    have h0 : DataW.trod enc P w' base' spare' held' (k + 1 + 1) t cs.toList = ((List.range 6).mapM fun i => DataW.trod enc P w' base' spare' held' (k + 1) e ((cs.toList.drop (i * P.cellsOf e)).take (P.cellsOf e))).map fun xs => (.agg (xs.map (·.1)), xs.flatMap (·.2)) := by
      conv => lhs; unfold DataW.trod
      rw [ht]
      simp only []
      rw [if_pos hlen]
    rw [h0, c1]
    have hd2 : d = .agg (xs.map (·.1)) := (Prod.mk.inj hx).1
    have hfl : xs.flatMap (·.2) = [] := by
      rw [List.flatMap_eq_nil_iff]
      intro x hxm
      obtain ⟨i, hi, rfl⟩ := List.getElem_of_mem hxm
      have := (hf2 i (by omega)).2.2
      rw [List.getElem?_eq_getElem hi] at this
      rw [Option.some.inj this]
    have hM : ((List.range 6).mapM fun i => DataW.trod enc P w' base' spare' held' (k + 1) e ((cs.toList.drop (i * 1)).take 1)) = some xs := mapM_six _ xs hl fun i hi => by rw [Nat.mul_one]; exact hE i hi
    rw [hM]
    simp [hd2, hfl]
theorem nat_u32 {a : Int} (h : (Lit.int .u32 a).wf = true) : ∃ n : Nat, a = n ∧ n < 4294967296 := by
  have h' : 0 ≤ a ∧ a ≤ 4294967295 := by simpa [Lit.wf, IntKind.min, IntKind.max, IntKind.signed, IntKind.bits] using h
  exact ⟨a.toNat, by omega, by omega⟩
open Go.Joins Go.Deep in
theorem open_bits {H : Type} {enc : TypeId × Value → H} {P : Program} {w : World} {base : Nat} {spare : Nat → Bool} {held : Bool} {r : Reach} {b0 : Nat} {t e : TypeId} {f0 f1 : Field} {v : Value} {d : DataW H} {ps : List MemPlace}
    (ht : P.underlying t = some (.struct #[f0, f1])) (e0 : f0.type = e) (e1 : f1.type = e) (he : P.underlying e = some (.int .u64)) (hone : oneCellFields P #[f0, f1] = true) (hC : P.cellsOf t = 2)
    (hval : Value.okWide P w r b0 t v) (hd : DataW.Trod enc P w base spare held t v d ps) :
    ∃ h l : Nat, v = .agg #[.int .u64 h, .int .u64 l] ∧ ps = [] ∧ h < 18446744073709551616 ∧ l < 18446744073709551616 ∧
      ∀ w' base' spare' held', DataW.Trod enc P w' base' spare' held' t (.agg #[.int .u64 h, .int .u64 l]) d [] := by
  obtain ⟨v0, v1, y0, y1, n, rfl, rfl, rfl, h0, h1⟩ := open_agg2 ht hone hC hval hd
  rw [e0] at h0
  rw [e1] at h1
  obtain ⟨z0, c0, rfl, w0⟩ := DataW.trod_int he h0
  obtain ⟨z1, c1, rfl, w1⟩ := DataW.trod_int he h1
  obtain ⟨a, rfl, ha⟩ := nat_u64 w0
  obtain ⟨b, rfl, hb⟩ := nat_u64 w1
  obtain rfl : v0 = .int .u64 a := by simpa using c0
  obtain rfl : v1 = .int .u64 b := by simpa using c1
  refine ⟨a, b, rfl, rfl, ha, hb, fun w' base' spare' held' => ?_⟩
  exact shut_agg2 (y0 := (.lit (.int .u64 a), [])) (y1 := (.lit (.int .u64 b), [])) ht hone hC ⟨1, by rw [e0]; simp [DataW.trod, he, w0]⟩ ⟨1, by rw [e1]; simp [DataW.trod, he, w1]⟩
end Go.Proofs.Ytaddmgclnbkdgaa
