/- Contracts of abacuslaw28.own, of spoil over rows. -/
import Derived.Test.YtdgdmhmagdjeoaaNf
namespace Go.Proofs.Ytdgdmhmagdjeoaa
open Go.RowKit
set_option maxHeartbeats 4000000
set_option maxRecDepth 100000
set_option linter.unusedVariables false
set_option linter.unusedSimpArgs false
theorem row_keep {w : World} {B g j x : Nat} {u : Value} {l : List Nat} (h : Row w B u l) : ∃ l', l'.length = l.length ∧ Row (w.setCell ⟨g, j, none⟩ (.int .u8 (x : Nat))) B u l' := by
  by_cases he : u.ownBlock = some g
  · rcases h.shape with ⟨rfl, rfl⟩ | ⟨g', cap, rfl, _⟩
    · simp [Value.ownBlock] at he
    · simp only [Value.ownBlock, Option.some.injEq] at he
      subst he
      exact ⟨l.set j x, by simp, h.set j x⟩
  · exact ⟨l, rfl, h.other he j _⟩
/-- rows of bytes go on to be rows -/
def RowsKept (w w' : World) : Prop := ∀ (B : Nat) (u : Value) (l : List Nat), Row w B u l → ∃ l', l'.length = l.length ∧ Row w' B u l'
theorem spoil_keep (w : World) (B g cap : Nat) (l : List Nat) (hlen : l.length ≤ 9223372036854775807) (h : Row w B (.slice (some ⟨g, 0, none⟩) l.length cap) l) :
    Calls Try.prog 26 #[.slice (some ⟨g, 0, none⟩) l.length cap] w fun e w' => e = .returned (.tuple #[]) ∧ w.grownBy w' (some g) ∧ RowsKept w w' := by
  obtain ⟨n, hnl⟩ : ∃ n, l.length = n := ⟨_, rfl⟩
  rw [hnl] at hlen h ⊢
  have HN := Lib.hid hnl
  have H0 := Lib.hid h
  clear hnl h
  go_enter Try.func26, Try.ntmps26
  go_wp2
  go_loopw [2] (fun i wr => ∃ k : Nat, k ≤ n ∧ i = .int .i64 k ∧ Row wr B (.slice (some ⟨g, 0, none⟩) n cap) (spoilt l k) ∧ w.grownBy wr (some g) ∧ RowsKept w wr) (fun i _ => n - (intOf i).toNat)
  case atStart => exact ⟨0, by omega, rfl, H0.out, World.grownBy.refl _ _, fun B u l h => ⟨l, rfl, h⟩⟩
  case round =>
    obtain ⟨k, hk, rfl, hrow, hg, hkp⟩ := hrel
    have hsl : (spoilt l k).length = n := (spoilt_length (by rw [HN.out]; exact hk)).trans HN.out
    have HL := Lib.hid hsl
    by_cases hlt : k < n
    · have hc := hrow.cell k (by rw [HL.out]; exact hlt)
      have hf := hrow.frozen k
      have hset := hrow.set k 77
      rw [spoilt_set (by rw [HN.out]; exact hlt)] at hset
      have HSET := Lib.hid hset
      have HG := Lib.hid (grown_set_row hg k (.int .u8 77))
      have HKP : Hid (RowsKept w (wr.setCell ⟨g, k, none⟩ (.int .u8 77))) := Lib.hid fun B u l h => by
        obtain ⟨l1, h1, h2⟩ := hkp B u l h
        obtain ⟨l2, h3, h4⟩ := row_keep (g := g) (j := k) (x := 77) h2
        exact ⟨l2, h3.trans h1, h4⟩
      clear hset hrow hg hsl hkp
      go_wp2
      go_roundw
      case rel => exact ⟨k + 1, by omega, by go_num, HSET.out, HG.out, HKP.out⟩
      case measure => simp [intOf]; omega
    · obtain rfl : k = n := by omega
      clear hsl
      go_wp2
      go_end0
      exact ⟨rfl, hg, hkp⟩
theorem spoil_any (w : World) (B : Nat) (v : Value) (l : List Nat) (hlen : l.length ≤ 9223372036854775807) (h : Row w B v l) :
    Calls Try.prog 26 #[v] w fun e w' => e = .returned (.tuple #[]) ∧ w.grownBy w' v.ownBlock ∧ RowsKept w w' := by
  rcases h.shape with ⟨rfl, rfl⟩ | ⟨g, cap, rfl, _⟩
  · refine (spoil_nil w).mono ?_
    rintro e w' ⟨rfl, rfl⟩
    exact ⟨rfl, World.grownBy.refl _ _, fun B u l h => ⟨l, rfl, h⟩⟩
  · exact spoil_keep w B g cap l hlen h
/-- rows of patches whose bytes lie in rows, whatever they are -/
structure WIs (w : World) (B : Nat) (v : Value) (n : Nat) : Prop where
  ex : ∃ qs : List (Nat × Value), qs.length = n ∧ w.ownsRow B 58 2 v n (pcells qs) ∧ ∀ (i : Nat) (q : Nat × Value), qs[i]? = some q → ∃ l, Row w B q.2 l ∧ l.length ≤ 16777216
theorem PIs.wis {w : World} {B : Nat} {v : Value} {ps : List (Nat × List Nat)} (h : PIs w B v ps) (hx : ∀ p ∈ ps, p.2.length ≤ 16777216) : WIs w B v ps.length := by
  obtain ⟨qs, h1, h2, h3⟩ := h.ex
  refine ⟨qs, h1, h2, fun i q hq => ?_⟩
  have hi : i < ps.length := by rw [← h1]; exact (List.getElem?_eq_some_iff.1 hq).1
  obtain ⟨so, c, h4, h5⟩ := h3 i _ (List.getElem?_eq_getElem hi)
  rw [hq] at h4
  cases h4
  exact ⟨_, h5, hx _ (List.getElem_mem hi)⟩
theorem WIs.at {w : World} {B n c k : Nat} {ao : Option Addr} (h : WIs w B (.slice ao n c) n) (hk : k < n) : ∃ g v l, ao = some ⟨g, 0, none⟩ ∧ w.cell? ⟨g, k * 2 + 1, none⟩ = some v ∧ Row w B v l ∧ l.length ≤ 16777216 := by
  obtain ⟨qs, h1, h2, h3⟩ := h.ex
  obtain ⟨q, hq⟩ : ∃ q, qs[k]? = some q := ⟨_, List.getElem?_eq_getElem (by omega)⟩
  obtain ⟨l, h4, h5⟩ := h3 k q hq
  rcases h2.2 with ⟨e1, e2⟩ | ⟨g, cap, cur, e1, _⟩
  · omega
  · simp only [Value.slice.injEq] at e1
    obtain ⟨rfl, _, rfl⟩ := e1
    exact ⟨g, q.2, l, rfl, by rw [h2.cellAt (k * 2 + 1) (by omega), (pcells_get qs k _ hq).2], h4, h5⟩
theorem WIs.spoilt {w w' : World} {B n : Nat} {v u : Value} {l : List Nat} (h : WIs w B v n) (hu : Row w B u l) (hg : w.grownBy w' u.ownBlock) (hk : RowsKept w w') : WIs w' B v n := by
  obtain ⟨qs, h1, h2, h3⟩ := h.ex
  refine ⟨qs, h1, h2.kept hg ?_, fun i q hq => ?_⟩
  · rcases hu.apartP h2 with h | h
    · rw [h]; cases v.ownBlock <;> simp
    · cases hv : v.ownBlock with
      | none => exact .inl rfl
      | some b => exact .inr fun e => h (by rw [hv, e])
  · obtain ⟨l1, h4, h5⟩ := h3 i q hq
    obtain ⟨l2, h6, h7⟩ := hk _ _ _ h4
    exact ⟨l2, h7, by omega⟩
theorem WIs.later {w w1 : World} {B n : Nat} {v : Value} (h : WIs w B v n) (hb : Below w.heap.size w w1) : WIs w1 B v n := by
  obtain ⟨qs, h1, h2, h3⟩ := h.ex
  have key : ∀ u : Value, u.ownBlock = none ∨ u.ownBlock ≠ none := fun u => by cases u.ownBlock <;> simp
  refine ⟨qs, h1, h2.kept (below_grown hb none) (key _), fun i q hq => ?_⟩
  obtain ⟨l, h4, h5⟩ := h3 i q hq
  exact ⟨l, h4.kept (below_grown hb none) (key _), h5⟩
theorem own_c (w : World) (po : Option Addr) (pc : Nat) (ps : List (Nat × List Nat)) (hp : PXd w po ps) (hlen : ps.length ≤ 16777216) (hx : ∀ p ∈ ps, p.2.length ≤ 16777216) :
    Calls Try.prog 39 #[.slice po ps.length pc] w fun e w' => ∃ v, e = .returned v ∧ PIs w' w.heap.size v ps ∧ Below w.heap.size w w' := by
  have HBD : Hid (∀ i, i < ps.length → (pget ps i).2.length ≤ 16777216) := Lib.hid fun i hi => hx _ (List.mem_of_getElem? (pget_at hi))
  obtain ⟨pn, hn⟩ : ∃ n, ps.length = n := ⟨_, rfl⟩
  have HN := Lib.hid hn
  have HP := Lib.hid hp
  rw [hn] at hlen ⊢
  clear hp hn hx
  go_enter Try.func39, Try.ntmps39
  go_wp2
  go_loopw [3, 4] (fun v i wr => ∃ k : Nat, k ≤ pn ∧ i = .int .i64 k ∧ PIs wr w.heap.size v (ps.take k) ∧ Below w.heap.size w wr) (fun _ i _ => pn - (intOf i).toNat)
  case atStart => exact ⟨0, by omega, rfl, PIs.nil _ _, Below.refl _ _⟩
  case round =>
    obtain ⟨k, hk, rfl, hP, hB⟩ := hrel
    by_cases hlt : k < pn
    · obtain ⟨a, b, o, so, c, rfl, f0, f1, f2, f3⟩ := (HP.out.later hB) k (by rw [HN.out]; exact hlt)
      have hbd := HBD.out k (by rw [HN.out]; exact hlt)
      have hst : ps.take (k + 1) = ps.take k ++ [pget ps k] := by rw [List.take_add_one, pget_at (by rw [HN.out]; exact hlt)]; rfl
      obtain ⟨p, hp⟩ : ∃ p, pget ps k = p := ⟨_, rfl⟩
      rw [hp] at f1 f2 f3 hbd hst
      obtain ⟨pa, pl⟩ := p
      simp only [] at f1 f2 f3 hbd hst
      obtain ⟨le, hle⟩ : ∃ x, pl.length = x := ⟨_, rfl⟩
      have HLE := Lib.hid hle
      rw [hle] at f2 hbd
      obtain ⟨qs, hqs⟩ : ∃ qs, ps.take k = qs := ⟨_, rfl⟩
      rw [hqs] at hst hP
      have HQL : Hid (qs.length ≤ 1000000000) := Lib.hid (by rw [← hqs, List.length_take]; omega)
      have HST := Lib.hid hst
      have HPP := Lib.hid hP
      have HBB := Lib.hid hB
      have HF3 := Lib.hid f3
      obtain ⟨po1, pc1, rfl, _⟩ := hP.shape
      obtain ⟨U, Wd, hW, hU⟩ : ∃ (U : Type) (Wd : U → World), (∀ u, Below wr.heap.size wr (Wd u)) ∧ (∀ w', Below wr.heap.size wr w' → ∃ u, w' = Wd u) := ⟨{ w' // Below wr.heap.size wr w' }, Subtype.val, fun u => u.2, fun w' h => ⟨⟨w', h⟩, rfl⟩⟩
      have t1 : ∀ u, (Wd u).cell? ⟨b, o, none⟩ = some (.int .u64 (pa : Nat)) := fun u => cell_later (hW u) f1
      have t2 : ∀ u, (Wd u).cell? ⟨b, o + 1, none⟩ = some (.slice so le c) := fun u => cell_later (hW u) f2
      have HU := Lib.hid hU
      replace hW := Lib.hid hW
      clear hst hP hB f3 hp hle hqs f1 f2
      go_wp2_with fail
      refine wp_region_gz [_, _, _, _, _, _, _, _, _, _, _, _, _, _] [_, _] (fun j => [11, 12, 13].contains j) (fun j => [12, 13].contains j) (fun x S X => Below wr.heap.size wr X ∧ (S 11 = true → ∃ so2 c2, x 11 = .slice so2 le c2 ∧ Row X wr.heap.size (.slice so2 le c2) pl ∧ (S 12 = true → x 12 = .agg #[.int .u64 (pa : Nat), .slice so2 le c2]) ∧ (S 13 = true → ∃ g, x 13 = .slice (some ⟨g, 0, none⟩) 1 1 ∧ Blk X g #[.int .u64 (pa : Nat), .slice so2 le c2] 58)))
        (by kernel_rfl) (by kernel_rfl) (by kernel_rfl) (by kernel_rfl) (fun x => ⟨(Below.refl _ wr).drew, fun h => by cases h⟩) ?_
      iterate 11
        refine gz_quiet (fun w' => ∃ u, w' = Wd u) (fun x S w' h => HU.out w' h.1) rfl rfl rfl (fun _ _ _ _ h => h) rfl ?_
        intro K hK
        go_big_quiet_op
        first | go_big_quiet_on | (refine ⟨_, fun _ => rfl, ?_⟩; go_big_quiet_on)
      refine gz_val0 rfl rfl rfl ?_ ?_
      · rintro x S X h1 hcl ha ⟨hX, _⟩
        have h12 : S 12 = false := by
          cases h : S 12 with
          | false => rfl
          | true => have := hcl.chain 9 12 11 (by kernel_rfl) h; rw [h1] at this; cases this
        have h13 : S 13 = false := by
          cases h : S 13 with
          | false => rfl
          | true => have := hcl.chain 9 13 11 (by kernel_rfl) h; rw [h1] at this; cases this
        obtain ⟨v', w', r1, r2, r3, _⟩ := run_append8 wr.heap.size 29 (.slice none 0 0) [] (World.ownsRow_nil X wr.heap.size _ _) so le c pl HLE.out (fun e => by have := HF3.out.nil e; have := HLE.out; omega) (HF3.out.rd.later hX) (by rw [HLE.out]; simp only [List.length_nil]; omega) hX.size
        rw [List.nil_append] at r2
        obtain ⟨so2, c2, rfl, _⟩ := Row.form r2
        rw [HLE.out] at r1 r2
        refine ⟨_, w', ?_, hX.trans ((grown_below r3).mono hX.size), fun _ => ⟨so2, c2, rfl, r2, fun h => ?_, fun h => ?_⟩⟩
        · simp [execOp, Act.eval, resolve, invoke, builtin, Result.andThen, r1]
        · have h' : S 12 = true := h; rw [h12] at h'; cases h'
        · have h' : S 13 = true := h; rw [h13] at h'; cases h'
      simp only [Act.put, List.setIfInBounds_toArray, List.set_cons_succ, List.set_cons_zero]
      refine gz_val rfl rfl ?_ ?_
      · rintro x S X h1 hcl ha ⟨hX, h11⟩
        have d11 : S 11 = true := ha ⟨11, .data⟩ (by simp) rfl
        obtain ⟨so2, c2, e11, hr, h12, h13⟩ := h11 d11
        have s13 : S 13 = false := by
          cases h : S 13 with
          | false => rfl
          | true => have := hcl.chain 9 13 12 (by kernel_rfl) h; rw [h1] at this; cases this
        refine ⟨by kernel_rfl, .agg #[.int .u64 (pa : Nat), .slice so2 le c2], X, ?_, hX, fun _ => ⟨so2, c2, e11, hr, fun _ => rfl, fun h => ?_⟩⟩
        · refine ex_v _ rfl ?_
          refine Eq.trans (b := Sem.run Try.prog (Instr.build 58 #[(0, .int .u64 (pa : Nat)), (1, x 11)]) X) (by kernel_rfl) ?_
          rw [e11]; kernel_rfl
        · have h' : S 13 = true := h; rw [s13] at h'; cases h'
      simp only [Act.put, List.setIfInBounds_toArray, List.set_cons_succ, List.set_cons_zero]
      refine gz_val rfl rfl ?_ ?_
      · rintro x S X h1 hcl ha ⟨hX, h11⟩
        have d12 : S 12 = true := ha ⟨12, .data⟩ (by simp) rfl
        have d11 : S 11 = true := hcl.chain 9 12 11 (by kernel_rfl) d12
        obtain ⟨so2, c2, e11, hr, h12, h13⟩ := h11 d11
        have e12 := h12 d12
        refine ⟨by kernel_rfl, .slice (some ⟨X.heap.size, 0, none⟩) 1 1, X.alloc (.cells #[.int .u64 (pa : Nat), .slice so2 le c2] 58), ?_, hX.alloc hX.size _, fun _ => ⟨so2, c2, e11, hr.alloc _, fun _ => e12, fun _ => ⟨_, rfl, Blk.new _ _ _⟩⟩⟩
        refine ex_v _ rfl ?_
        refine Eq.trans (b := Sem.run Try.prog (Instr.buildSlice 39 1 #[(0, x 12)]) X) (by kernel_rfl) ?_
        rw [e12]; kernel_rfl
      simp only [Act.put, List.setIfInBounds_toArray, List.set_cons_succ, List.set_cons_zero]
      rintro x S X hS ⟨hX, h11⟩
      obtain ⟨so2, c2, e11, hr, h12, h13⟩ := h11 (hS 11 (by decide))
      have e12 := h12 (hS 12 (by decide))
      obtain ⟨g, e13, hbk⟩ := h13 (hS 13 (by decide))
      change wpList _ _ _ _ (Act.put (Act.put (Act.put _ (some 22) (x 11)) (some 23) (x 12)) (some 24) (x 13)) _
      rw [e11, e12, e13]
      have hB2 := HBB.out.trans (hX.mono HBB.out.size)
      have hP2 := HPP.out.later hX
      have hr2 := hr.lower HBB.out.size
      clear h11 h12 h13 hS e11 e12 e13
      simp only [Act.put, List.setIfInBounds_toArray, List.set_cons_succ, List.set_cons_zero]
      refine wpList_appendP rfl _ _ rfl w.heap.size _ qs rfl hP2 g 1 1 pa so2 c2 le rfl pl HLE.out (hbk.cell 0) (hbk.cell 1) hr2 HQL.out hB2.size ?_
      intro v3 w3 hP3 hb3
      have HP3 := Lib.hid hP3
      have HB3 := Lib.hid (hB2.trans hb3)
      clear hP3 hb3 hP2 hr2 hbk hB2
      go_wp2
      go_roundw
      case rel => exact ⟨k + 1, by omega, by go_num, by rw [HST.out]; exact HP3.out, HB3.out⟩
      case measure => simp [intOf]; omega
    · rw [List.take_of_length_le (by rw [HN.out]; omega)] at hP
      go_wp2
      go_ret
      exact ⟨_, rfl, hP, hB⟩
end Go.Proofs.Ytdgdmhmagdjeoaa
