/- Contracts of mem.New, mem.Of; append of bytes to bytes. -/
import Derived.Test.YtdgdmhmagdjeoaaUb
import Derived.Laws.AppendOwnNone
import Derived.Laws.CopyOwn
namespace Go.Proofs.Ytdgdmhmagdjeoaa
open Go.RowKit
set_option maxHeartbeats 4000000
set_option maxRecDepth 100000
set_option linter.unusedVariables false
set_option linter.unusedSimpArgs false
theorem infoB : (Try.prog.info? 5).map (fun i => (i.zero, i.size, i.bytes)) = some (some (.int .u8 0), 1, 1) := by kernel_rfl
theorem infoB_size : (Try.prog.info? 5).map (·.size) = some 1 := by kernel_rfl
/-- append of bytes, wherever they lie, to a row of bytes of the call's own -/
theorem run_append8 {w : World} (B : Nat) (ty : TypeId) (v : Value) (xs : List Nat) (hown : Row w B v xs) (ao : Option Addr) (m c : Nat) (l : List Nat) (hm : l.length = m) (hnone : ao = none → m = 0 ∧ c = 0) (hr : Rd w ao l)
    (hlen : xs.length + l.length ≤ 140737488355328) (hB : B ≤ w.heap.size) :
    ∃ v' w', (Builtin.append_ #[29, 29] ty #[v, .slice ao m c]).run Try.prog w = .ok v' w' ∧ Row w' B v' (xs ++ l) ∧ w.grownBy w' v.ownBlock ∧ (v' = .slice none 0 0 ↔ v = .slice none 0 0 ∧ l = []) := by
  obtain ⟨i5, hi, hz0, hz1, hz2⟩ := info_parts infoB
  cases ao with
  | none =>
    obtain ⟨rfl, rfl⟩ := hnone rfl
    have : l = [] := List.eq_nil_of_length_eq_zero hm
    subst this
    refine ⟨v, w, run_append_owned_none w B _ ty _ i5 1 Try.underlying29 hi v _ _ hown, ?_, World.grownBy.refl w _, by simp⟩
    simpa using hown
  | some ad =>
    obtain ⟨v', w', h1, h2, h3, h4⟩ := run_append_own (P := Try.prog) w B _ ty _ i5 (.int .u8 0) 1 1 Try.underlying29 hi hz0 hz1 hz2 rfl (by decide) v _ _ hown ad m c (u8s l) (by rw [u8s_length]; omega)
      (fun j u hj => by
        rw [u8s_get] at hj
        obtain ⟨x, hx, rfl⟩ := Option.map_eq_some_iff.1 hj
        have hjl := (List.getElem?_eq_some_iff.1 hx).1
        obtain ⟨a, ha, hc⟩ := hr j hjl
        cases ha
        rw [hc, hx]; rfl) (u8s_one l) (by unfold maxLen; omega) (by omega) hB
    refine ⟨v', w', h1, ?_, h3, ?_⟩
    · show World.ownsRow _ _ _ _ _ _ _
      rw [u8s_append, List.length_append, hm]; exact h2
    · rw [h4]; exact ⟨fun ⟨a, b⟩ => ⟨a, List.eq_nil_of_length_eq_zero (by omega)⟩, fun ⟨a, b⟩ => ⟨a, by rw [b] at hm; exact hm.symm⟩⟩
theorem wpList_append8 {w : World} {ops : Array Oper} {rest : List Oper} {o : Oper} {a : Act} {Q : Exit → Act → World → Prop} (hgd : o.guard = none) (s x : Operand)
    (ho : o.op = .call { callee := .builtin .append, args := #[s, x], argTypes := #[29, 29] })
    (B : Nat) (v : Value) (xs : List Nat) (hs : a.eval s = v) (hown : Row w B v xs) (ao : Option Addr) (m c : Nat) (hx : a.eval x = .slice ao m c) (l : List Nat) (hm : l.length = m) (hnone : ao = none → m = 0 ∧ c = 0) (hr : Rd w ao l)
    (hlen : xs.length + l.length ≤ 140737488355328) (hB : B ≤ w.heap.size)
    (h : ∀ v' w', Row w' B v' (xs ++ l) → w.grownBy w' v.ownBlock → (v' = .slice none 0 0 ↔ v = .slice none 0 0 ∧ l = []) → wpList Try.prog ops Q rest (a.put o.dst v') w') : wpList Try.prog ops Q (o :: rest) a w := by
  refine wpList_plain hgd fun K hK => ?_
  obtain ⟨v', w', h1, h2, h3, h4⟩ := run_append8 B o.type v xs hown ao m c l hm hnone hr hlen hB
  unfold Oper.wp
  simp [execOp, ho, resolve, invoke, builtin, hs, hx, h1, Result.andThen]
  exact hK _ _ (h v' w' h2 h3 h4)
/-- what New and Of hand back -/
def Made (w : World) (l : List Nat) (e : Ending) (w' : World) : Prop :=
  ∃ m g cap, e = .returned (.tuple #[.pointer (some ⟨m, 0, none⟩), .int .i64 0]) ∧ MemIs w' w.heap.size m (.slice (some ⟨g, 0, none⟩) l.length cap) l ∧ Below w.heap.size w w'
theorem new_neg (w : World) (n : Int) (h : n < 0) : Calls Try.prog 10 #[.int .i64 n] w fun e w' => e = .returned (.tuple #[.pointer none, .int .i64 2]) ∧ w' = w := by
  go_enter Try.func10, Try.ntmps10
  go_wp2
  go_ret2
  exact ⟨rfl, rfl⟩
theorem new_big (w : World) (n : Int) (h : 16777216 < n) : Calls Try.prog 10 #[.int .i64 n] w fun e w' => e = .returned (.tuple #[.pointer none, .int .i64 4]) ∧ w' = w := by
  have h0 : ¬ n < 0 := by omega
  go_enter Try.func10, Try.ntmps10
  go_wp2
  go_ret2
  exact ⟨rfl, rfl⟩
theorem u8s_zero (n : Nat) : List.replicate n (Value.int .u8 0) = u8s (List.replicate n 0) := by simp [u8s]
theorem new_c (w : World) (n : Nat) (h : n ≤ 16777216) : Calls Try.prog 10 #[.int .i64 n] w (Made w (List.replicate n 0)) := by
  obtain ⟨i5, hi, hz0, hz1, hz2⟩ := info_parts infoB
  go_enter Try.func10, Try.ntmps10
  go_wp2_with (first
    | (at_make; refine wpList_make_full _ rfl _ _ 29 rfl w.heap.size 5 i5 (.int .u8 0) 1 Try.underlying29 hi hz0 hz1 _ _ _ _ n rfl rfl rfl rfl (by rw [hz2]; omega) (by unfold maxLen; omega) (Nat.le_refl _) ?_; intro w1 hown1 hgrow1))
  go_ret2
  have hl : (List.replicate n 0).length = n := List.length_replicate ..
  have hrow : Row w1 w.heap.size (.slice (some ⟨w.heap.size, 0, none⟩) n n) (List.replicate n 0) := by
    show World.ownsRow _ _ _ _ _ _ _
    rw [← u8s_zero, hl, ← toList_madeCells_one]
    rw [Nat.mul_one] at hown1; exact hown1
  have hs : ∀ x ∈ List.replicate n 0, x < 256 := fun x hx => by rw [List.eq_of_mem_replicate hx]; decide
  exact ⟨w1.heap.size, w.heap.size, n, rfl, by rw [hl]; exact ⟨Blk.new _ _ _, hgrow1.size, hrow.alloc _, hs, by omega⟩, (grown_below hgrow1).alloc hgrow1.size _⟩
/-- bytes laid over others, from a place on -/
def put (l : List Nat) (a : Nat) (x : List Nat) : List Nat := l.take a ++ (x ++ l.drop (a + x.length))
theorem put_length {l x : List Nat} {a : Nat} (h : a + x.length ≤ l.length) : (put l a x).length = l.length := by simp [put]; omega
theorem put_small {l x : List Nat} {a : Nat} (hl : ∀ y ∈ l, y < 256) (hx : ∀ y ∈ x, y < 256) : ∀ y ∈ put l a x, y < 256 := by
  intro y hy
  simp only [put, List.mem_append] at hy
  rcases hy with h | h | h
  · exact hl y (List.mem_of_mem_take h)
  · exact hx y h
  · exact hl y (List.mem_of_mem_drop h)
theorem u8s_put (l x : List Nat) (a : Nat) : splice (u8s l) a (u8s x) = u8s (put l a x) := by
  unfold splice put
  rw [u8s_append, u8s_append, u8s_take, u8s_drop, u8s_length]
/-- the row behind a copy into it -/
theorem Row.copied {w : World} {B g n cap : Nat} {l : List Nat} (h : Row w B (.slice (some ⟨g, 0, none⟩) n cap) l) : ∃ cur : List Value, w.heap[g]? = some (.cells cur.toArray 5 (0, 0)) ∧ cur.take l.length = u8s l ∧ l.length ≤ cur.length ∧ cur.length = cap ∧ B ≤ g ∧ l.length ≤ cap ∧ cap ≤ maxLen := by
  rcases h.2 with ⟨h1, h2⟩ | ⟨g', c, cur, h1, h2, h3, h4, h5, h6, h7⟩
  · simp at h1
  · simp only [Value.slice.injEq, Option.some.injEq, Addr.mk.injEq, and_true, true_and] at h1
    obtain ⟨rfl, rfl, rfl⟩ := h1
    exact ⟨cur.toList, by simpa using h3, by simpa using h7, by simp; omega, by simpa using h6, h2, h4, h5⟩
theorem Row.splice {w : World} {B g cap : Nat} {l x : List Nat} {a : Nat} (hlen : l.length ≤ cap) (hcap : cap ≤ maxLen) (hB : B ≤ g) (cur : List Value) (hc : cur.take l.length = u8s l) (hcl : cur.length = cap) (hfit : a + x.length ≤ l.length)
    (h : w.heap[g]? = some (.cells (splice cur a (u8s x)).toArray 5 (0, 0))) : Row w B (.slice (some ⟨g, 0, none⟩) l.length cap) (put l a x) := by
  have hl := put_length hfit
  refine ⟨by rw [u8s_length, Nat.mul_one], .inr ⟨g, cap, _, by rw [hl], hB, h, by omega, hcap, ?_, ?_⟩⟩
  · have := length_splice cur a (u8s x) (by rw [u8s_length]; omega)
    simp only [List.size_toArray, this, hcl, Nat.mul_one]
  · rw [hl, Nat.mul_one, ← u8s_put, ← hc, List.toList_toArray]
    unfold Go.splice
    rw [u8s_length]
    apply List.ext_getElem?
    intro i
    simp only [List.getElem?_take, List.getElem?_append, List.length_take, List.getElem?_drop, u8s_length]
    repeat' split
    all_goals first | rfl | omega | (congr 1; omega)
theorem of_big (w : World) (ao : Option Addr) (n cap : Nat) (h : 16777216 < n) (hn : n ≤ 9223372036854775807) : Calls Try.prog 16 #[.slice ao n cap] w fun e w' => e = .returned (.tuple #[.pointer none, .int .i64 4]) ∧ w' = w := by
  have C1 := Lib.hid (new_big w n (by omega))
  go_enter Try.func16, Try.ntmps16
  go_wp2_with (first
    | (go_at_call 10; (with_reducible refine C1.out.mono ?_); rintro e w' ⟨rfl, rfl⟩))
  go_ret2
  exact ⟨rfl, rfl⟩
/-- copy of bytes, wherever they lie, into a row of the call's own -/
theorem run_copy8 {w : World} (B g cap : Nat) (L : List Nat) (hrow : Row w B (.slice (some ⟨g, 0, none⟩) L.length cap) L) (ty : TypeId) (dp sp : Option Addr) (dLen dCap sCap a : Nat) (x : List Nat) (hx : x.length ≤ dLen) (hfit : a + x.length ≤ L.length)
    (hdp : 0 < x.length → dp = some ⟨g, a, none⟩) (hr : Rd w sp x) :
    ∃ w', (Builtin.copy_ #[29, 29] ty #[.slice dp dLen dCap, .slice sp x.length sCap]).run Try.prog w = .ok (goInt x.length) w' ∧ Row w' B (.slice (some ⟨g, 0, none⟩) L.length cap) (put L a x) ∧ w.grownBy w' (some g) := by
  have hmin : Nat.min x.length dLen = x.length := Nat.min_eq_left hx
  obtain ⟨cur, hg, hcur, hcl, hcc, hBg, hlc, hcm⟩ := hrow.copied
  by_cases h0 : x.length = 0
  · have : x = [] := List.eq_nil_of_length_eq_zero h0
    subst this
    refine ⟨w, run_copy_none (P := Try.prog) w _ 29 ty _ dp sp dLen dCap _ sCap Try.underlying29 infoB_size hmin, ?_, World.grownBy.refl w _⟩
    simp [put]; exact hrow
  · obtain ⟨ad, had, _⟩ := hr 0 (by omega)
    rw [hdp (by omega), had]
    have hsrc : ∀ j v, (u8s x)[j]? = some v → w.cell? (ad.add j) = some v := fun j v hj => by
      rw [u8s_get] at hj
      obtain ⟨y, hy, rfl⟩ := Option.map_eq_some_iff.1 hj
      have hjl := (List.getElem?_eq_some_iff.1 hy).1
      obtain ⟨a', ha', hc⟩ := hr j hjl
      rw [had] at ha'
      cases ha'
      rw [hc, hy]; rfl
    have h1 := run_copy_row (P := Try.prog) w 29 29 ty _ g a dLen dCap ad x.length sCap cur.toArray _ (u8s x) Try.underlying29 infoB_size hg (by rw [u8s_length, hmin]) hsrc (by rw [u8s_length]; simp; omega) (u8s_one x)
    rw [u8s_length] at h1
    simp only [List.toList_toArray, List.append_assoc] at h1
    refine ⟨_, h1, Row.splice hlc hcm hBg cur hcur hcc hfit ?_, ⟨rfl, rfl, rfl, by simp [World.setRow], fun k hk hne => setRow_other w g k _ (fun e => hne (by rw [e]))⟩⟩
    have := setRow_heap w g cur.toArray (cur.take a ++ (u8s x ++ cur.drop (a + x.length))).toArray 5 (0, 0) hg
    unfold Go.splice
    rw [u8s_length]
    exact this
theorem wpList_copy8 {w : World} {ops : Array Oper} {rest : List Oper} {o : Oper} {a : Act} {Q : Exit → Act → World → Prop} (hgd : o.guard = none) (d s : Operand)
    (ho : o.op = .call { callee := .builtin .copy, args := #[d, s], argTypes := #[29, 29] })
    (B g cap : Nat) (L : List Nat) (hrow : Row w B (.slice (some ⟨g, 0, none⟩) L.length cap) L) (dp sp : Option Addr) (dLen dCap sLen sCap : Nat) (hd : a.eval d = .slice dp dLen dCap) (hs : a.eval s = .slice sp sLen sCap) (off : Nat) (x : List Nat) (hsl : x.length = sLen) (hx : x.length ≤ dLen) (hfit : off + x.length ≤ L.length)
    (hdp : 0 < x.length → dp = some ⟨g, off, none⟩) (hr : Rd w sp x)
    (h : ∀ w', Row w' B (.slice (some ⟨g, 0, none⟩) L.length cap) (put L off x) → w.grownBy w' (some g) → wpList Try.prog ops Q rest (a.put o.dst (goInt sLen)) w') : wpList Try.prog ops Q (o :: rest) a w := by
  subst hsl
  refine wpList_plain hgd fun K hK => ?_
  obtain ⟨w', h1, h2, h3⟩ := run_copy8 B g cap L hrow o.type dp sp dLen dCap sCap off x hx hfit hdp hr
  unfold Oper.wp
  simp [execOp, ho, resolve, invoke, builtin, hd, hs, h1, Result.andThen]
  exact hK _ _ (h w' h2 h3)
theorem put_all {l x : List Nat} (h : l.length = x.length) : put l 0 x = x := by
  simp [put, h.symm]
theorem of_c (w : World) (ao : Option Addr) (cap : Nat) (l : List Nat) (hn : l.length ≤ 16777216) (hl : ∀ x ∈ l, x < 256) (hr : Rd w ao l) : Calls Try.prog 16 #[.slice ao l.length cap] w (Made w l) := by
  obtain ⟨n, hnl⟩ : ∃ n, l.length = n := ⟨_, rfl⟩
  rw [hnl] at hn ⊢
  have HN := Lib.hid hnl
  clear hnl
  have C1 := Lib.hid (new_c w n hn)
  go_enter Try.func16, Try.ntmps16
  go_wp2_with (first
    | (go_at_call 10; (with_reducible refine C1.out.mono ?_); rintro e w1 ⟨m, g, c1, rfl, hM, hb⟩; have hM2 := hM; rw [List.length_replicate] at hM2; have hc := hM2.head.cell 1; simp only [List.getElem?_toArray, List.getElem?_cons_succ, List.getElem?_cons_zero] at hc)
    | (refine wpList_copy8 rfl (.tmp 18) (.tmp 19) rfl w.heap.size g c1 _ hM.own (some ⟨g, 0, none⟩) ao n c1 n cap rfl rfl 0 l HN.out (by rw [HN.out]; exact Nat.le_refl _) (by rw [HN.out, List.length_replicate]; omega) (fun _ => rfl) ?_ ?_))
  · exact hr.later hb
  · intro w2 hR hG
    go_wp2
    go_ret2
    have hlen : (List.replicate n 0).length = l.length := by rw [HN.out, List.length_replicate]
    rw [put_all hlen] at hR
    refine ⟨m, g, c1, rfl, ⟨?_, hM.le, by rw [HN.out]; exact hR, hl, by rw [HN.out]; exact hn⟩, hb.grown hG hb.size ?_⟩
    · rw [HN.out]
      exact grown_blk hG hM2.head (fun e => hM.ne (by simpa [Value.ownBlock] using e.symm))
    · intro k hk
      cases hk
      exact hM.own.shape.elim (fun h => by simp at h) fun ⟨g', c', e, _, _, h⟩ => by simp at e; omega
end Go.Proofs.Ytdgdmhmagdjeoaa
