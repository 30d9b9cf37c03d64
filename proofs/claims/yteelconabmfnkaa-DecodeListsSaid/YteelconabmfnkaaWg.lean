/- Rows of instructions and of words; decode.All. -/
import Derived.Test.YteelconabmfnkaaWe
import Derived.Test.YteelconabmfnkaaTo
import Derived.Laws.AppendOwnNone
import Derived.OwnWalk
namespace Go.Proofs.Yteelconabmfnkaa
open Go Go.RowKit Go.Shelf
set_option maxHeartbeats 4000000
set_option maxRecDepth 100000
set_option linter.unusedVariables false
set_option linter.unusedSimpArgs false
/-- instructions, as cells -/
def isv (l : List I11) : List Value := l.flatMap fun r => (instV r).toList
theorem isv_append (l m : List I11) : isv (l ++ m) = isv l ++ isv m := by simp [isv]
theorem isv_one (r : I11) : isv [r] = (instV r).toList := by simp [isv]
theorem isv_get : ∀ (l : List I11) (i j : Nat) (r : I11), l[i]? = some r → j < 11 → (isv l)[i * 11 + j]? = (instV r)[j]?
  | [], i, j, p, h, _ => by simp at h
  | q :: l, 0, j, p, h, hj => by
    simp at h
    subst h
    rw [show isv (q :: l) = (instV q).toList ++ isv l from rfl, List.getElem?_append_left (by show 0 * 11 + j < 11; omega)]
    simp
  | q :: l, i + 1, j, p, h, hj => by
    have := isv_get l i j p (by simpa using h) hj
    rw [show isv (q :: l) = (instV q).toList ++ isv l from rfl, List.getElem?_append_right (by show 11 ≤ (i + 1) * 11 + j; omega), ← this]
    congr 1
    show (i + 1) * 11 + j - 11 = i * 11 + j
    omega
abbrev OwnI (B : Nat) (w : World) (o : Value) (xs : List I11) : Prop := w.ownsRow B 27 11 o xs.length (isv xs)
theorem infoI : (Try.prog.info? 27).map (fun i => (i.zero, i.size, i.bytes)) = some (some (.agg (instV zeroI)), 11, 14) := by kernel_rfl
/-- words, as cells -/
def u32s (l : List Nat) : List Value := l.map fun x => .int .u32 (x : Nat)
theorem u32s_length (l : List Nat) : (u32s l).length = l.length := by simp [u32s]
theorem u32s_get (l : List Nat) (i : Nat) : (u32s l)[i]? = l[i]?.map fun x => .int .u32 (x : Nat) := by simp [u32s]
theorem u32s_append (l m : List Nat) : u32s (l ++ m) = u32s l ++ u32s m := by simp [u32s]
theorem u32s_all (l : List Nat) : ∀ u ∈ u32s l, u.oneCell' = true := by
  intro u hu
  obtain ⟨x, _, rfl⟩ := List.mem_map.1 hu
  rfl
/-- a slice value of words that reads as l, wherever it lies -/
def Rw (w : World) (ao : Option Addr) (l : List Nat) : Prop := ∀ i, i < l.length → ∃ a, ao = some a ∧ w.cell? (a.add i) = some (.int .u32 (l[i]?.getD 0 : Nat))
theorem Rw.later {w w1 : World} {ao : Option Addr} {l : List Nat} (h : Rw w ao l) (hb : Below w.heap.size w w1) : Rw w1 ao l := fun i hi => by
  obtain ⟨a, ha, hc⟩ := h i hi
  exact ⟨a, ha, (hb.cell (World.block_lt_of_cell? w _ hc)).trans hc⟩
abbrev RowW (w : World) (B : Nat) (v : Value) (l : List Nat) : Prop := w.ownsRow B 28 1 v l.length (u32s l)
theorem info32 : (Try.prog.info? 28).map (fun i => (i.zero, i.size, i.bytes)) = some (some (.int .u32 0), 1, 4) := by kernel_rfl
theorem addw (g j : Nat) : (⟨g, 0, none⟩ : Addr).add j = ⟨g, j, none⟩ := by unfold Addr.add; split <;> simp_all
theorem RowW.cell {w : World} {B g n cap : Nat} {l : List Nat} (h : RowW w B (.slice (some ⟨g, 0, none⟩) n cap) l) (j : Nat) (hj : j < l.length) : w.cell? ⟨g, j, none⟩ = some (.int .u32 (l[j]?.getD 0 : Nat)) := by
  have hn : n = l.length := by
    rcases h.2 with ⟨h1, h2⟩ | ⟨_, _, _, h1, _⟩
    · cases h1
    · cases h1; rfl
  subst hn
  exact (own_cell h).2.2 j _ (by rw [u32s_get, List.getElem?_eq_getElem hj]; rfl)
theorem RowW.reads {w : World} {B g n cap : Nat} {l m : List Nat} (h : RowW w B (.slice (some ⟨g, 0, none⟩) n cap) (l ++ m)) : Rw w (some ⟨g, 0, none⟩) l := fun i hi => ⟨_, rfl, by
  rw [addw, h.cell i (by rw [List.length_append]; omega), List.getElem?_append_left hi]⟩
/-- append of words, wherever they lie, to none -/
theorem run_append32 {w : World} (ty : TypeId) (ao : Option Addr) (c : Nat) (l : List Nat) (hnone : ao = none → l.length = 0 ∧ c = 0) (hr : Rw w ao l) (hlen : l.length ≤ 1000000) :
    ∃ v' w', (Builtin.append_ #[82, 82] ty #[.slice none 0 0, .slice ao l.length c]).run Try.prog w = .ok v' w' ∧ RowW w' w.heap.size v' l ∧ w.grownBy w' none := by
  have hown : RowW w w.heap.size (.slice none 0 0) [] := World.ownsRow_nil _ _ _ _
  cases hq : Try.prog.info? 28 with
  | none => have := info32; simp [hq] at this
  | some i5 =>
    have hi := info32
    simp only [hq, Option.map_some, Option.some.injEq, Prod.mk.injEq] at hi
    obtain ⟨hz0, hz1, hz2⟩ := hi
    cases ao with
    | none =>
      obtain ⟨h0, rfl⟩ := hnone rfl
      have : l = [] := List.eq_nil_of_length_eq_zero h0
      subst this
      exact ⟨.slice none 0 0, w, run_append_owned_none w w.heap.size _ ty _ i5 1 Try.underlying82 hq (.slice none 0 0) _ _ hown, hown, World.grownBy.refl w _⟩
    | some ad =>
      obtain ⟨v', w', h1, h2, h3, h4⟩ := run_append_own (P := Try.prog) w w.heap.size _ ty _ i5 (.int .u32 0) 1 4 Try.underlying82 hq hz0 hz1 hz2 rfl (by decide) (.slice none 0 0) _ _ hown ad l.length c (u32s l) (by rw [u32s_length]; omega)
        (fun j u hj => by
          rw [u32s_get] at hj
          obtain ⟨x, hx, rfl⟩ := Option.map_eq_some_iff.1 hj
          have hjl := (List.getElem?_eq_some_iff.1 hx).1
          obtain ⟨a, ha, hc⟩ := hr j hjl
          cases ha
          rw [hc, hx]; rfl) (u32s_all l) (by simp only [List.length_nil]; unfold maxLen; omega) (by simp only [List.length_nil]; omega) (Nat.le_refl _)
      refine ⟨v', w', h1, ?_, h3⟩
      show World.ownsRow _ _ _ _ _ _ _
      simpa [u32s] using h2
theorem wpList_append32 {w : World} {ops : Array Oper} {rest : List Oper} {o : Oper} {a : Act} {Q : Exit → Act → World → Prop} (hgd : o.guard = none) (s x : Operand)
    (ho : o.op = .call { callee := .builtin .append, args := #[s, x], argTypes := #[82, 82] })
    (hs : a.eval s = .slice none 0 0) (ao : Option Addr) (c : Nat) (l : List Nat) (hx : a.eval x = .slice ao l.length c) (hnone : ao = none → l.length = 0 ∧ c = 0) (hr : Rw w ao l) (hlen : l.length ≤ 1000000)
    (h : ∀ v' w', RowW w' w.heap.size v' l → w.grownBy w' none → wpList Try.prog ops Q rest (a.put o.dst v') w') : wpList Try.prog ops Q (o :: rest) a w := by
  refine wpList_plain hgd fun K hK => ?_
  obtain ⟨v', w', h1, h2, h3⟩ := run_append32 o.type ao c l hnone hr hlen
  unfold Oper.wp
  simp [execOp, ho, resolve, invoke, builtin, hs, hx, h1, Result.andThen]
  exact hK _ _ (h v' w' h2 h3)
def DG (x : Nat) : I11 := (DEC x).getD zeroI
/-- what All tells -/
def DAllP (X : World) (l : List Nat) (e : Ending) (w' : World) : Prop := Below X.heap.size X w' ∧
  ((∃ v, e = .returned (.tuple #[v, .int .i64 (l.length : Nat), .int .i64 0]) ∧ OwnI X.heap.size w' v (l.map DG) ∧ ∀ j, j < l.length → (DEC (l[j]?.getD 0)).isSome = true) ∨
   ∃ k, k < l.length ∧ e = .returned (.tuple #[.slice none 0 0, .int .i64 (k : Nat), .int .i64 250]) ∧ (∀ j, j < k → (DEC (l[j]?.getD 0)).isSome = true) ∧ (DEC (l[k]?.getD 0)).isSome = false)
theorem dall_c (X : World) (ao : Option Addr) (cap : Nat) (l : List Nat) (hl : ∀ x ∈ l, x < 4294967296) (hlen : l.length ≤ 2000) (hr : Rw X ao l) : Calls Try.prog 51 #[.slice ao l.length cap] X (DAllP X l) := by
  have HL := Lib.hid hl
  have HR := Lib.hid hr
  clear hl hr
  go_enter Try.func51, Try.ntmps51
  obtain ⟨n, hn⟩ : ∃ n, l.length = n := ⟨_, rfl⟩
  rw [hn] at hlen ⊢
  have HN := Lib.hid hn
  clear hn
  go_wp2
  go_loopw [2, 11] (fun v i wr => ∃ k : Nat, k ≤ n ∧ i = .int .i64 k ∧ OwnI X.heap.size wr v ((l.take k).map DG) ∧ Below X.heap.size X wr ∧ ∀ j, j < k → (DEC (l[j]?.getD 0)).isSome = true) (fun v i _ => n - (intOf i).toNat)
  case atStart => exact ⟨0, by omega, rfl, World.ownsRow_nil _ _ _ _, Below.refl _ _, fun j h => by omega⟩
  case round =>
    obtain ⟨k, hk, rfl, hO, hB, hS⟩ := hrel
    by_cases hlt : k < n
    · have hkl : k < l.length := by rw [HN.out]; exact hlt
      obtain ⟨x, hx⟩ : ∃ x, l[k]? = some x := ⟨_, List.getElem?_eq_getElem hkl⟩
      have hx32 := HL.out x (List.mem_of_getElem? hx)
      obtain ⟨ad, rfl, hc0⟩ := HR.out k hkl
      rw [hx, Option.getD_some] at hc0
      have hc : wr.cell? (ad.add k) = some (.int .u32 (x : Nat)) := (hB.cell (World.block_lt_of_cell? X _ hc0)).trans hc0
      have hst : ∀ y, DEC x = some y → (l.take (k + 1)).map DG = (l.take k).map DG ++ [y] := fun y hy => by
        rw [List.take_add_one, hx, List.map_append]
        simp [DG, hy]
      have hdx : (DEC (l[k]?.getD 0)) = DEC x := by rw [hx]; rfl
      have hln : ((l.take k).map DG).length ≤ 1000000 := by rw [List.length_map, List.length_take]; omega
      obtain ⟨xs, hxs⟩ : ∃ xs, (l.take k).map DG = xs := ⟨_, rfl⟩
      rw [hxs] at hO hst hln
      have CD := fun X => decode_c X x hx32
      unfold DecP at CD
      have HX := Lib.hid hx
      have HDX := Lib.hid hdx
      clear hx hc0 hxs hx32 hdx
      have hkn : (k : Int) < (n : Int) := by omega
      have dn : decide ((k : Int) < (n : Int)) = true := decide_eq_true hkn
      cases hd : DEC x with
      | none =>
        rw [hd] at CD
        have HS := Lib.hid hS
        have HB := Lib.hid hB
        have HD := Lib.hid hd
        have CDD := Lib.hid CD
        clear hS hB hd CD hst hO
        go_wp2_with (first
          | (go_at_call 22; (with_reducible refine (CDD.out _).mono ?_); rintro e w1 ⟨rfl, b1⟩))
        go_ret3
        have hB2 := HB.out.trans (b1.mono HB.out.size)
        exact ⟨hB2.alloc hB2.size _, .inr ⟨k, by rw [HN.out]; exact hlt, rfl, HS.out, by rw [HDX.out, HD.out]; rfl⟩⟩
      | some y =>
        rw [hd] at CD
        have hst2 := hst y hd
        have HS := Lib.hid hS
        have HB := Lib.hid hB
        have HO := Lib.hid hO
        have HD := Lib.hid hd
        have CDD := Lib.hid CD
        have HST := Lib.hid hst2
        have HLN := Lib.hid hln
        clear hS hB hd CD hst hst2 hO hln
        go_wp2_with (first
          | (go_at_call 22; (with_reducible refine (CDD.out _).mono ?_); rintro e w1 ⟨rfl, b1⟩; have b2 := (b1.alloc b1.size (.cells (instV y) 27)); have b3 := b2.alloc b2.size (.cells (instV y) 27); have q1 := Blk.new w1 (instV y) 27; have q2 : Blk ((w1.alloc (.cells (instV y) 27)).alloc (.cells (instV y) 27)) (w1.heap.size + 1) (instV y) 27 := (by have h := Blk.new (w1.alloc (.cells (instV y) 27)) (instV y) 27; rwa [World.size_alloc] at h); have hO5 := own_later HO.out b3; have hB5 := HB.out.trans (b3.mono HB.out.size))
          | (refine wpList_load_blk_on rfl _ _ rfl _ rfl _ _ _ q1 Try.underlying27 rfl (by kernel_rfl) ?_)
          | (refine wpList_append1 rfl _ _ 61 rfl X.heap.size 27 11 14 _ Try.underlying61 infoI rfl (by decide) (by decide) _ _ _ rfl hO5 _ 1 (instV y) _ q2 rfl rfl (by simp [Value.oneCell']) HLN.out hB5.size ?_; intro v2 w6 hO6 hG6; have hB6 := own_below hO5 hG6 hB5 (Nat.le_refl _) hB5.size))
        go_roundw
        case rel =>
          refine ⟨k + 1, by omega, by go_num, ?_, hB6, fun j hj => ?_⟩
          · rw [HST.out]
            show World.ownsRow _ _ _ _ _ _ _
            rw [isv_append, List.length_append, isv_one]
            exact hO6
          · rcases Nat.lt_succ_iff_lt_or_eq.1 hj with h | rfl
            · exact HS.out j h
            · rw [HDX.out, HD.out]; rfl
        case measure => simp [intOf]; omega
    · obtain rfl : k = n := by omega
      have dn : decide ((k : Int) < (k : Int)) = false := decide_eq_false (by omega)
      have HO := Lib.hid hO
      clear hO
      go_wp2
      go_ret3
      have hO := HO.out
      have e : l.take k = l := List.take_of_length_le (by rw [HN.out]; exact Nat.le_refl _)
      rw [e] at hO
      exact ⟨hB, .inl ⟨u2, by rw [HN.out]; rfl, hO, fun j hj => hS j (by rw [← HN.out]; exact hj)⟩⟩
end Go.Proofs.Yteelconabmfnkaa
