/- slices.AppendSeq at a line's rows; table.Rows, Len. -/
import Derived.Test.YteelconabmfnkaaWb
import Derived.Maps.OwnIn
namespace Go.Proofs.Yteelconabmfnkaa
open Go Go.RowKit Go.Shelf
attribute [local go_sem] Oper.semAt_some
set_option maxHeartbeats 4000000
set_option maxRecDepth 100000
set_option linter.unusedVariables false
set_option linter.unusedSimpArgs false
/-- rows, as cells -/
def rws (l : List R7) : List Value := l.flatMap fun r => (rowV r).toList
theorem rws_append (l m : List R7) : rws (l ++ m) = rws l ++ rws m := by simp [rws]
theorem rws_one (r : R7) : rws [r] = (rowV r).toList := by simp [rws]
theorem rws_get : ∀ (l : List R7) (i j : Nat) (r : R7), l[i]? = some r → j < 7 → (rws l)[i * 7 + j]? = (rowV r)[j]?
  | [], i, j, p, h, _ => by simp at h
  | q :: l, 0, j, p, h, hj => by
    simp at h
    subst h
    rw [show rws (q :: l) = (rowV q).toList ++ rws l from rfl, List.getElem?_append_left (by show 0 * 7 + j < 7; omega)]
    simp
  | q :: l, i + 1, j, p, h, hj => by
    have := rws_get l i j p (by simpa using h) hj
    rw [show rws (q :: l) = (rowV q).toList ++ rws l from rfl, List.getElem?_append_right (by show 7 ≤ (i + 1) * 7 + j; omega), ← this]
    congr 1
    show (i + 1) * 7 + j - 7 = i * 7 + j
    omega
abbrev OwnR (B : Nat) (w : World) (o : Value) (xs : List R7) : Prop := w.ownsRow B 40 7 o xs.length (rws xs)
theorem infoR : (Try.prog.info? 40).map (fun i => (i.zero, i.size, i.bytes)) = some (some (.agg (rowV zeroR)), 7, 16) := by kernel_rfl
/-- one struct more, in a round -/
theorem wpListIn_append1_at {F : Fence} {nF : Nat} {P : Program} {w : World} {ops : Array Oper} {rest : List Oper} {o : Oper} {a : Act} {Q : Exit → Act → World → Prop} (hgd : o.guard = none) (s x : Operand) (t : TypeId)
    (ho : o.op = .call { callee := .builtin .append, args := #[s, x], argTypes := #[t, t] })
    (base : Nat) (e : TypeId) (size bytes : Nat) (z : Value) (ht : P.underlying t = some (.slice e)) (hi : (P.info? e).map (fun i => (i.zero, i.size, i.bytes)) = some (some z, size, bytes)) (hzs : z.cells.size = size) (hsz : 0 < size) (hby : bytes ≤ 1024)
    (v : Value) (n : Nat) (xs : List Value) (hs : a.eval s = v) (hown : w.ownsRow base e size v n xs) (b c : Nat) (cs : Array Value) (te : TypeId) (hb : Blk w b cs te) (hcs : cs.size = size) (hx : a.eval x = .slice (some ⟨b, 0, none⟩) 1 c) (h1 : cs.all (·.oneCell') = true)
    (hn : n ≤ 1000000) (hbase : base ≤ w.heap.size)
    (h : ∀ v' w', w'.ownsRow base e size v' (n + 1) (xs ++ cs.toList) → w.grownBy w' v.ownBlock → (v'.ownBlock = v.ownBlock ∨ v'.ownBlock = some w.heap.size) → wpListIn F nF P ops Q rest (a.put o.dst v') w') : wpListIn F nF P ops Q (o :: rest) a w := by
  cases hq : P.info? e with
  | none => simp [hq] at hi
  | some i =>
    simp only [hq, Option.map_some, Option.some.injEq, Prod.mk.injEq] at hi
    obtain ⟨hi1, hi2, hi3⟩ := hi
    refine wpListIn_append_own_at (w := w) hgd s x t ho base e i z size bytes ht hq hi1 hi2 hi3 hzs hsz v n xs hs hown ⟨b, 0, none⟩ 1 c cs.toList hx (by simpa using hcs) (fun j u hj => ?_) (fun u hu => ?_) ?_ ?_ hbase fun v' w' h2 h3 _ h4 => h v' w' h2 h3 h4
    · have e1 : (⟨b, 0, none⟩ : Addr).add j = ⟨b, j, none⟩ := by
        unfold Addr.add
        by_cases hj0 : j = 0
        · subst hj0; rfl
        · simp [hj0]
      rw [e1, hb.cell j]
      simpa using hj
    · exact Array.all_eq_true'.1 h1 u (by simpa using hu)
    · simp only [maxLen]; omega
    · have : (n + 1) * bytes ≤ 1000001 * 1024 := Nat.mul_le_mul (by omega) hby
      omega
theorem grown_then {a b c : World} {r s : Option Nat} (h : a.grownBy b r) (k : b.grownBy c s) (hs : ∀ x, s = some x → x < a.heap.size → s = r) : a.grownBy c r :=
  ⟨k.os.trans h.os, k.tape.trans h.tape, k.output.trans h.output, Nat.le_trans h.size k.size, fun i hi hne => (k.block i (Nat.lt_of_lt_of_le hi h.size) (fun e => hne (by rw [hs i e.symm hi] at e; exact e))).trans (h.block i hi hne)⟩
theorem Abide.grownBy {B : Nat} {w : World} {r : Option Nat} (hB : w.heap.size ≤ B) : Abide B (fun W => w.grownBy W r) := fun W W' row h hg hr => grown_then h hg fun x hx hlt => by have := (hr x hx).1; omega
theorem grown_of_below {w w' : World} (h : Below w.heap.size w w') (r : Option Nat) : w.grownBy w' r := ⟨h.os, h.tape, h.output, h.size, fun k hk _ => h.block k hk⟩
/-- what holds between two rounds of AppendSeq -/
structure AS (W wr : World) (B : Nat) (v0 : Value) (xs : List R7) (v : Value) : Prop where
  lc : Blk wr W.heap.size #[v] 48
  own : OwnR B wr v xs
  grw : W.grownBy wr v0.ownBlock
  wh : v.ownBlock = v0.ownBlock ∨ ∃ g, v.ownBlock = some g ∧ W.heap.size < g
theorem AS.later {W wr w1 : World} {B : Nat} {v0 v : Value} {xs : List R7} (h : AS W wr B v0 xs v) (hb : Below wr.heap.size wr w1) : AS W w1 B v0 xs v :=
  ⟨h.lc.below hb h.lc.lt, own_later h.own hb, grown_then h.grw (grown_of_below hb none) (fun x hx _ => by cases hx), h.wh⟩
theorem Abide.AS {W : World} {B : Nat} {v0 v : Value} {xs : List R7} {C : Nat} (hC : W.heap.size ≤ C) : Abide C (fun W' => AS W W' B v0 xs v) := fun A A' row h hg hr =>
  ⟨Abide.blk A A' row h.lc hg hr, Abide.own A A' row h.own hg hr, Abide.grownBy hC A A' row h.grw hg hr, h.wh⟩
theorem AS.more {W A A1 : World} {B : Nat} {v0 v v' : Value} {xs : List R7} {r : R7} (h : AS W A B v0 xs v) (hO : A1.ownsRow B 40 7 v' (xs.length + 1) (rws xs ++ (rowV r).toList)) (hg : A.grownBy A1 v.ownBlock) (hat : v'.ownBlock = v.ownBlock ∨ v'.ownBlock = some A.heap.size) : AS W (A1.setCell ⟨W.heap.size, 0, none⟩ v') B v0 (xs ++ [r]) v' := by
  have h1 := own_blk h.own hg h.lc (by decide)
  have hsz := h.lc.lt
  have hset : A1.grownBy (A1.setCell ⟨W.heap.size, 0, none⟩ v') (some W.heap.size) := ⟨rfl, rfl, rfl, by simp, fun k _ hk => heap_setCell_other A1 ⟨W.heap.size, 0, none⟩ k v' (fun e => hk (by rw [e]))⟩
  have hg2 : W.grownBy A1 v0.ownBlock := grown_then h.grw hg fun x hx hlt => by
    rcases h.wh with e | ⟨g, e, hg⟩
    · exact e
    · rw [e] at hx; cases hx; omega
  refine ⟨h1.set 0 v', ?_, grown_then hg2 hset (fun x hx hlt => by cases hx; omega), ?_⟩
  · show World.ownsRow _ _ _ _ _ _ _
    rw [rws_append, List.length_append, rws_one]
    refine own_kept hO hset fun b hb hk => ?_
    cases hb
    exact own_ne hO h1 (by decide) hk
  · rcases hat with e | e
    · rw [e]; exact h.wh
    · exact .inr ⟨_, e, hsz⟩
theorem own_is {w : World} {base : Nat} {e : TypeId} {size : Nat} {v : Value} {n : Nat} {xs : List Value} (h : w.ownsRow base e size v n xs) : ∃ ao n c, v = .slice ao n c := by
  rcases h.2 with ⟨rfl, _⟩ | ⟨g, cap, cur, rfl, _⟩
  · exact ⟨_, _, _, rfl⟩
  · exact ⟨_, _, _, rfl⟩
theorem grown_took {W A W' : World} {r : Option Nat} (h : W.grownBy A r) (hT : Took W.heap.size A W') : W.grownBy W' r := ⟨hT.bel.os.trans h.os, hT.bel.tape.trans h.tape, hT.bel.output.trans h.output, Nat.le_trans h.size hT.bel.size, fun k hk hne => (hT.bel.block k hk).trans (h.block k hk hne)⟩
theorem rl_take {s : Sp} {k : Nat} (h : k < (RL s).length) : (RL s).take (k + 1) = (RL s).take k ++ [rowAt s k] := by
  have : (RL s)[k]? = some (rowAt s k) := by
    unfold rowAt
    rw [List.getElem?_eq_getElem h]
    rfl
  rw [List.take_add_one, this]
  rfl
def ASeqP (W : World) (B : Nat) (v : Value) (xs : List R7) (s : Sp) (e : Ending) (w' : World) : Prop := ∃ v', e = .returned v' ∧ OwnR B w' v' (xs ++ RL s) ∧ W.grownBy w' v.ownBlock
theorem aseq_c (W : World) (B : Nat) (hB : B ≤ W.heap.size) (v : Value) (xs : List R7) (hv : OwnR B W v xs) (hxs : xs.length ≤ 900000) (s : Sp) (hs : s ∈ SPECS) :
    Calls Try.prog 63 #[v, .func (.func 64) #[.agg (specV s)] #[]] W (ASeqP W B v xs s) := by
  have HSm := Lib.hid hs
  have hrl := rl_len s hs
  obtain ⟨ao, n1, c1, rfl⟩ := own_is hv
  refine (callsIn_wide (n := 6)).1 ?_
  refine callsIn_of_wp_marks Try.func63 rfl trivial ?_ rfl
  simp only [Try.ntmps63, List.size_toArray, List.length_cons, List.length_nil, Nat.reduceAdd, Nat.reduceSub, Array.replicate_succ, Array.replicate_zero, List.push_toArray, List.append_toArray, List.nil_append, List.cons_append]
  gi_wp2
  have hnew := (Below.refl W.heap.size W).alloc (Nat.le_refl _) (.cells #[.slice ao n1 c1] 48)
  have hS0 : AS W (W.alloc (.cells #[.slice ao n1 c1] 48)) B (.slice ao n1 c1) (xs ++ (RL s).take 0) (.slice ao n1 c1) := by
    rw [List.take_zero, List.append_nil]
    exact ⟨Blk.new _ _ _, own_later hv hnew, grown_of_below hnew _, .inl rfl⟩
  show Code.wpIn _ _ _ _ _ _ (W.alloc (.cells #[.slice ao n1 c1] 48))
  have hlw : W.heap.size < (W.alloc (.cells #[.slice ao n1 c1] 48)).heap.size := by simp
  obtain ⟨w0, hw0⟩ : ∃ w0, W.alloc (.cells #[.slice ao n1 c1] 48) = w0 := ⟨_, rfl⟩
  rw [hw0] at hS0 hlw ⊢
  clear hw0 hnew hv
  have hn0 : B ≤ w0.heap.size := by omega
  have hI : ∀ (k : Nat) (X : Nat → Prop), Abide w0.heap.size (fun W' => Below B w0 W' ∧ ∃ v', AS W W' B (.slice ao n1 c1) (xs ++ (RL s).take k) v' ∧ ∀ b, v'.ownBlock = some b → ¬ X b) := fun k X =>
    (Abide.below hn0 hn0).and (Abide.ex fun v => (Abide.AS (Nat.le_of_lt hlw)).and Abide.pure)
  refine wpIn_range rfl (by decide) (gf := 64) (ba := #[.agg (specV s)]) (lb := #[]) rfl trivial (enters_of Try.func64 (by kernel_rfl) rfl) (gives_all s hs (6 - 1) (by decide) B w0 hn0) (Below.refl _ _) hn0 (fun _ => rfl)
    (fun k X W' => Below B w0 W' ∧ ∃ v', AS W W' B (.slice ao n1 c1) (xs ++ (RL s).take k) v' ∧ ∀ b, v'.ownBlock = some b → ¬ X b)
    (fun c k X W' => False)
    hI (fun c k X => Abide.pure)
    (fun k X A A2 ⟨h0, v', h1, h4⟩ hb _ => ⟨h0.trans (hb.mono (Nat.le_trans hn0 h0.size)), v', h1.later hb, fun b hb2 hx => hx.elim (h4 b hb2) (fun h => by
      obtain ⟨cur, hcu⟩ := own_cells h1.own hb2
      have := (Array.getElem?_eq_some_iff.1 hcu).1
      omega)⟩) (fun c k X A B h hb _ => h.elim)
    ⟨Below.refl _ _, (.slice ao n1 c1), hS0, fun b _ h => h⟩
    (fun k a' W' => ∃ (B5 : Nat), Blk W' B5 (rowV (rowAt s k)) 40 ∧ a' =
      { tmps := #[.slice ao n1 c1, .func (.func 64) #[.agg (specV s)] #[], .pointer (some ⟨W.heap.size, 0, none⟩), undef, .slice none 0 0, .pointer (some ⟨B5, 0, none⟩), .func (.func 64) #[.agg (specV s)] #[], .agg (rowV (rowAt s k)), undef, undef, undef, undef, undef], defers := [] })
    (fun k a' A B row ⟨B5, h2, h3⟩ hg hr => ⟨B5, Abide.blk A B row h2 hg hr, h3⟩) ?assign ?body ?done ?stop
  case assign =>
    rintro l k X A K hX h1 hk hK
    gi_wp2
    have hnew := (Below.refl A.heap.size A).alloc (Nat.le_refl _) (.cells (rowV (rowAt s k)) 40)
    obtain ⟨h0, v', h4, h5⟩ := h1
    have hBA := Nat.le_trans hn0 h0.size
    exact hK _ _ ((KeepsOthers.alloc _ _).from _) (KX.below (fun b h => (hX b h).2) hnew) (hnew.mono hBA) ⟨h0.trans (hnew.mono hBA), v', h4.later hnew, h5⟩ ⟨A.heap.size, Blk.new _ _ _, rfl⟩
  case body =>
    rintro l k X a' A hl hX ⟨h0, v1, h1, hv⟩ ⟨B5, hb5, rfl⟩ hk
    have hst := rl_take hk
    obtain ⟨r, hr⟩ : ∃ r, rowAt s k = r := ⟨_, rfl⟩
    rw [hr] at hb5 hst ⊢
    obtain ⟨ys, hys⟩ : ∃ ys, xs ++ (RL s).take k = ys := ⟨_, rfl⟩
    have hbnd : ys.length ≤ 1000000 := by rw [← hys, List.length_append, List.length_take]; omega
    have hstep : xs ++ (RL s).take (k + 1) = ys ++ [r] := by rw [hst, ← List.append_assoc, hys]
    rw [hys] at h1
    have r0 := hb5.cell 0
    have r1 := hb5.cell 1
    have r2 := hb5.cell 2
    have r3 := hb5.cell 3
    have r4 := hb5.cell 4
    have r5 := hb5.cell 5
    have r6 := hb5.cell 6
    have c1 := h1.lc.cell 0
    simp only [List.getElem?_toArray, List.getElem?_cons_succ, List.getElem?_cons_zero] at r0 r1 r2 r3 r4 r5 r6 c1
    have h2 := h1.later ((Below.refl A.heap.size A).alloc (Nat.le_refl _) (.cells (rowV r) 40))
    have hnb := Blk.new A (rowV r) 40
    have H0 := Lib.hid h0
    have H1 := Lib.hid h1
    have H2 := Lib.hid h2
    have HV := Lib.hid hv
    have HST := Lib.hid hstep
    clear hst hr hys hstep h0 h1 h2 hv hb5
    gi_wp2_with (first
      | (refine wpListIn_append1_at rfl _ _ 48 rfl B 40 7 16 _ Try.underlying48 infoR rfl (by decide) (by decide) v1 _ _ rfl H2.out.own A.heap.size 1 (rowV r) _ hnb rfl rfl (by simp [Value.oneCell']) hbnd (by have := H0.out.size; simp only [World.size_alloc]; omega) ?_; intro v2 Y2 hO hG hat; obtain ⟨g2, cap2, hv2⟩ := own_slice hO; obtain ⟨len, hlen⟩ : ∃ len, ys.length + 1 = len := ⟨_, rfl⟩; rw [hlen] at hv2; have HLN := Lib.hid hlen; subst hv2; clear hlen; have l1 := own_blk H2.out.own hG H2.out.lc (by decide); have c2 := l1.cell 0; have c3 := l1.frozen; simp only [List.getElem?_toArray, List.getElem?_cons_zero] at c2; have HO := Lib.hid hO; have HG := Lib.hid hG; have HAT := Lib.hid hat; clear hO hG hat))
    have hG := HG.out
    have hO2 := HO.out
    rw [← HLN.out] at hO2
    have hs2 := H2.out.more (r := r) hO2 hG HAT.out
    rw [HLN.out] at hs2
    have bal := (Below.refl A.heap.size A).alloc (Nat.le_refl _) (.cells (rowV r) 40)
    have hBA := Nat.le_trans hn0 H0.out.size
    have hX2 : ∀ b, X b → b < (A.alloc (.cells (rowV r) 40)).heap.size := fun b h => Nat.lt_of_lt_of_le (hX b h).2 bal.size
    have hXn : ∀ b, X b → b ≠ W.heap.size := fun b h => by have := (hX b h).1; omega
    have kf := ((keeps_below bal).trans (keeps_own H2.out.own hG)).trans ((KeepsOthers.setCell Y2 ⟨W.heap.size, 0, none⟩ (.slice (some ⟨g2, 0, none⟩) len cap2)).from w0.heap.size)
    have kx := ((KX.below (fun b h => (hX b h).2) bal).trans (kx_own hX2 HV.out hG)).trans (fun b h => heap_setCell_other Y2 ⟨W.heap.size, 0, none⟩ b (.slice (some ⟨g2, 0, none⟩) len cap2) (hXn b h))
    have bb := (own_below H2.out.own hG (bal.mono hBA) (Nat.le_refl _) (Nat.le_trans hBA bal.size)).setCell (p := ⟨W.heap.size, 0, none⟩) hB (.slice (some ⟨g2, 0, none⟩) len cap2)
    refine ⟨kf, kx, bb, H0.out.trans bb, _, by rw [HST.out]; exact hs2, fun b hb hx => ?_⟩
    rcases HAT.out with h | h
    · rw [h] at hb; exact HV.out b hb hx
    · rw [h] at hb
      cases hb
      exact absurd (hX2 _ hx) (Nat.lt_irrefl _)
  case done =>
    rintro D A hDw ⟨X, h0, v1, h1, h4⟩ hK
    rw [List.take_of_length_le (Nat.le_refl _)] at h1
    obtain ⟨ao2, n2, c2, rfl⟩ := own_is h1.own
    have hmk := (Marks.nil W.heap.size A).cons (D := D) (by omega) hK (by simp)
    have cc := h1.lc.cell 0
    simp only [List.getElem?_toArray, List.getElem?_cons_zero] at cc
    have H1 := Lib.hid h1
    clear h1 h4
    gi_wp2
    show LeavesInM _ _ _ _ _ _ (List.map mark [D]) _ _
    refine leaves_marks (n₀ := W.heap.size) [D] _ hmk fun W' hT => ?_
    exact ⟨_, results_tmp rfl _ _ _, _, rfl, own_took H1.out.own hT, grown_took H1.out.grw hT⟩
  case stop =>
    rintro D c k A hDw hk1 hkl ⟨X, h⟩ hK
    exact h.elim
/-- what holds between two lines of Rows -/
structure RS (W wr : World) (xs : List R7) (v : Value) : Prop where
  tab : Blk wr W.heap.size specCells 116
  own : OwnR (W.heap.size + 1) wr v xs
  bel : Below W.heap.size W wr
theorem RS.later {W wr w1 : World} {xs : List R7} {v : Value} (h : RS W wr xs v) (hb : Below wr.heap.size wr w1) : RS W w1 xs v := ⟨h.tab.below hb h.tab.lt, own_later h.own hb, h.bel.trans (hb.mono h.bel.size)⟩
def RowsP (W : World) (e : Ending) (w' : World) : Prop := ∃ g cap, e = .returned (.slice (some ⟨g, 0, none⟩) 136 cap) ∧ OwnR W.heap.size w' (.slice (some ⟨g, 0, none⟩) 136 cap) ROWS ∧ Below W.heap.size W w'
theorem rl_bound (i : Nat) : ((SPECS.take i).flatMap RL).length ≤ 900000 := by
  have lsum : ∀ l : List Sp, (∀ x ∈ l, x ∈ SPECS) → (l.flatMap RL).length ≤ l.length * 16 := by
    intro l h
    induction l with
    | nil => simp
    | cons x l ih =>
      rw [List.flatMap_cons, List.length_append]
      have := ih fun y hy => h y (by simp [hy])
      have h2 := rl_len x (h x (by simp))
      rw [List.length_cons, Nat.add_mul]; omega
  have a1 := lsum (SPECS.take i) fun x hx => List.mem_of_mem_take hx
  have a2 := List.length_take_le i SPECS
  have : SPECS.length = 31 := rfl
  rw [List.length_take] at a1
  omega
theorem rows_c (W : World) : Calls Try.prog 29 #[] W (RowsP W) := by
  go_enter Try.func29, Try.ntmps29
  go_wp2_with (first
    | (go_at_call 62; (with_reducible refine (specs_c _).mono ?_); rintro e w1 ⟨rfl, hB, hb⟩))
  have H0 : Hid (RS W w1 ((SPECS.take 0).flatMap RL) (.slice none 0 0)) := Lib.hid ⟨hB, World.ownsRow_nil _ _ _ _, hb⟩
  clear hB hb
  go_loopw [1, 6] (fun v i wr => ∃ k : Nat, k ≤ 31 ∧ i = .int .i64 k ∧ RS W wr ((SPECS.take k).flatMap RL) v) (fun v i _ => 31 - (intOf i).toNat)
  case atStart => exact ⟨0, by omega, rfl, H0.out⟩
  case round =>
    obtain ⟨i, hi31, rfl, hS⟩ := hrel
    clear H0
    by_cases hlt : i < 31
    · obtain ⟨s, hs⟩ : ∃ s, SPECS[i]? = some s := ⟨_, List.getElem?_eq_getElem (show i < SPECS.length from hlt)⟩
      have hsm : s ∈ SPECS := List.mem_of_getElem? hs
      obtain ⟨g0, g1, g2, g3, g4, g5, g6⟩ := speccells_get SPECS i s hs
      have d0 : wr.cell? ⟨W.heap.size, i * 7, none⟩ = some (.int .u8 (s.op : Nat)) := (hS.tab.cell _).trans (by unfold specCells; rw [List.getElem?_toArray]; exact g0)
      have d1 : wr.cell? ⟨W.heap.size, i * 7 + 1, none⟩ = some (.string s.name) := (hS.tab.cell _).trans (by unfold specCells; rw [List.getElem?_toArray]; exact g1)
      have d2 : wr.cell? ⟨W.heap.size, i * 7 + 2, none⟩ = some (.int .u32 (s.code : Nat)) := (hS.tab.cell _).trans (by unfold specCells; rw [List.getElem?_toArray]; exact g2)
      have d3 : wr.cell? ⟨W.heap.size, i * 7 + 3, none⟩ = some (.int .i64 s.top) := (hS.tab.cell _).trans (by unfold specCells; rw [List.getElem?_toArray]; exact g3)
      have d4 : wr.cell? ⟨W.heap.size, i * 7 + 4, none⟩ = some (.int .i64 s.rm) := (hS.tab.cell _).trans (by unfold specCells; rw [List.getElem?_toArray]; exact g4)
      have d5 : wr.cell? ⟨W.heap.size, i * 7 + 5, none⟩ = some (.int .i64 s.rs2) := (hS.tab.cell _).trans (by unfold specCells; rw [List.getElem?_toArray]; exact g5)
      have d6 : wr.cell? ⟨W.heap.size, i * 7 + 6, none⟩ = some (.int .u8 (s.lay : Nat)) := (hS.tab.cell _).trans (by unfold specCells; rw [List.getElem?_toArray]; exact g6)
      have hstep := flat_step RL SPECS i s hs
      obtain ⟨xs, hxs⟩ : ∃ xs, (SPECS.take i).flatMap RL = xs := ⟨_, rfl⟩
      have hbnd : xs.length ≤ 900000 := by rw [← hxs]; exact rl_bound i
      rw [hxs] at hS hstep
      have h2 := hS.later ((Below.refl wr.heap.size wr).alloc (Nat.le_refl _) (.cells (specV s) 116))
      have H2 := Lib.hid h2
      have HST := Lib.hid hstep
      have HSM := Lib.hid hsm
      clear g0 g1 g2 g3 g4 g5 g6 hs hS hstep hxs h2 hsm
      go_wp2_with (first
        | (go_at_call 63; (with_reducible refine (aseq_c _ (W.heap.size + 1) (by have := H2.out.tab.lt; omega) u1 xs H2.out.own hbnd s HSM.out).mono ?_); rintro e w3 ⟨v3, rfl, hO, hG⟩))
      have h3 : RS W w3 (xs ++ RL s) v3 := ⟨(hG.block _ H2.out.tab.lt (own_ne H2.out.own H2.out.tab (by decide))).trans H2.out.tab, hO, H2.out.bel.grown hG H2.out.bel.size fun k hk => Nat.le_of_lt (H2.out.own.lt k hk).1⟩
      go_roundw
      case rel => exact ⟨i + 1, by omega, by go_num, by rw [HST.out]; exact h3⟩
      case measure => simp [intOf]; omega
    · obtain rfl : i = 31 := by omega
      have hall : (SPECS.take 31).flatMap RL = ROWS := by rw [List.take_of_length_le (by decide)]; rfl
      rw [hall] at hS
      have ho := hS.own
      have h136 : (ROWS.length : Nat) = 135 + 1 := rows_136
      have ho2 : wr.ownsRow (W.heap.size + 1) 40 7 u1 (135 + 1) (rws ROWS) := by rw [← h136]; exact ho
      obtain ⟨g, cap, rfl⟩ := own_slice ho2
      have HO := Lib.hid ho2
      have HB := Lib.hid hS.bel
      clear hS ho ho2 hall
      go_wp2
      go_ret
      refine ⟨g, cap, rfl, ?_, HB.out⟩
      show World.ownsRow _ _ _ _ _ _ _
      rw [rows_136]
      exact own_mono HO.out (by omega)
theorem len_c (W : World) : Calls Try.prog 30 #[] W fun e w' => e = .returned (.int .i64 136) ∧ Below W.heap.size W w' := by
  go_enter Try.func30, Try.ntmps30
  go_wp2_with (first
    | (go_at_call 29; (with_reducible refine (rows_c _).mono ?_); rintro e w1 ⟨g, cap, rfl, hO, hB⟩))
  go_ret
  exact ⟨rfl, hB⟩
end Go.Proofs.Yteelconabmfnkaa
