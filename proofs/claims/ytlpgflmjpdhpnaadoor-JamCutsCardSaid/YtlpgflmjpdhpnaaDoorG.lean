/- Blocks of the call's own, at known places, apart from one another; rows stored in regions that draw their order. No program is named here. -/
import Derived.Test.YtlpgflmjpdhpnaaDoorE
namespace Go.Proofs.YtlpgflmjpdhpnaaDoor
open Go Go.RowKit
set_option linter.unusedVariables false
abbrev Ent := Nat × Array Value × TypeId
structure Ds (L : List Ent) (w0 w : World) : Prop where
  all : ∀ (i : Nat) (x : Ent), L[i]? = some x → Blk w x.1 x.2.1 x.2.2
  lo : ∀ (i : Nat) (x : Ent), L[i]? = some x → w0.heap.size ≤ x.1
  ne : ∀ (i j : Nat) (x y : Ent), L[i]? = some x → L[j]? = some y → i ≠ j → x.1 ≠ y.1
  le : Below w0.heap.size w0 w
section
variable {L : List Ent} {w0 w w1 : World}
theorem Ds.nil (w : World) : Ds [] w w := ⟨fun i x h => by simp at h, fun i x h => by simp at h, fun i j x y h => by simp at h, Below.refl _ _⟩
theorem Ds.lt (h : Ds L w0 w) {i : Nat} {x : Ent} (hx : L[i]? = some x) : x.1 < w.heap.size := (h.all i x hx).lt
theorem Ds.drew (h : Ds L w0 w) : Ds L w0 w.drew := ⟨fun i x hx => (h.all i x hx).drew, h.lo, h.ne, h.le.drew⟩
theorem Ds.call (h : Ds L w0 w) (hb : Below w.heap.size w w1) : Ds L w0 w1 :=
  ⟨fun i x hx => (h.all i x hx).below hb (h.lt hx), h.lo, h.ne, below_then h.le h.le.size hb⟩
theorem Ds.box (h : Ds L w0 w) (cs : Array Value) (t : TypeId) (b : Nat) (hb : b = w.heap.size) : Ds ((b, cs, t) :: L) w0 (w.alloc (.cells cs t)) := by
  subst hb
  refine ⟨fun i x hx => ?_, fun i x hx => ?_, fun i j x y hx hy hij => ?_, h.le.alloc h.le.size _⟩
  · cases i with
    | zero => simp at hx; subst hx; exact Blk.new _ _ _
    | succ i => exact (h.all i x (by simpa using hx)).alloc _
  · cases i with
    | zero => simp at hx; subst hx; exact h.le.size
    | succ i => exact h.lo i x (by simpa using hx)
  · cases i with
    | zero =>
      simp at hx; subst hx
      cases j with
      | zero => exact absurd rfl hij
      | succ j => exact Ne.symm (Nat.ne_of_lt (h.lt (i := j) (by simpa using hy)))
    | succ i =>
      cases j with
      | zero => simp at hy; subst hy; exact Nat.ne_of_lt (h.lt (i := i) (by simpa using hx))
      | succ j => exact h.ne i j x y (by simpa using hx) (by simpa using hy) (by omega)
theorem Ds.other (h : Ds L w0 w) (o : Obj) : Ds L w0 (w.alloc o) := ⟨fun i x hx => (h.all i x hx).alloc o, h.lo, h.ne, h.le.alloc h.le.size _⟩
theorem Ds.tail {e : Ent} (h : Ds (e :: L) w0 w) : Ds L w0 w :=
  ⟨fun i x hx => h.all (i + 1) x (by simpa using hx), fun i x hx => h.lo (i + 1) x (by simpa using hx), fun i j x y hx hy hij => h.ne (i + 1) (j + 1) x y (by simpa using hx) (by simpa using hy) (by omega), h.le⟩
theorem set_look {i k : Nat} {e x : Ent} {b : Nat} {cs : Array Value} {t : TypeId} (hi : L[i]? = some (b, cs, t)) (hb : e.1 = b) (hk : (L.set i e)[k]? = some x) :
    (k = i ∧ x = e) ∨ (k ≠ i ∧ L[k]? = some x) := by
  by_cases h : i = k
  · subst h
    have hl := (List.getElem?_eq_some_iff.1 hi).1
    rw [List.getElem?_set_self hl] at hk
    exact .inl ⟨rfl, (Option.some.inj hk).symm⟩
  · rw [List.getElem?_set_ne h] at hk
    exact .inr ⟨Ne.symm h, hk⟩
theorem Ds.put (h : Ds L w0 w) (i : Nat) (b : Nat) (cs cs' : Array Value) (t : TypeId) (hi : L[i]? = some (b, cs, t)) (w1 : World) (hle : Below w0.heap.size w0 w1)
    (hsame : Blk w1 b cs' t) (hoth : ∀ (b' : Nat) (c : Array Value) (u : TypeId), b' ≠ b → Blk w b' c u → Blk w1 b' c u) : Ds (L.set i (b, cs', t)) w0 w1 := by
  refine ⟨fun k x hx => ?_, fun k x hx => ?_, fun k j x y hx hy hkj => ?_, hle⟩
  · rcases set_look hi rfl hx with ⟨rfl, rfl⟩ | ⟨hk, hx'⟩
    · exact hsame
    · exact hoth _ _ _ (h.ne k i x _ hx' hi hk) (h.all k x hx')
  · rcases set_look hi rfl hx with ⟨rfl, rfl⟩ | ⟨hk, hx'⟩
    · exact h.lo _ (b, cs, t) hi
    · exact h.lo k x hx'
  · rcases set_look hi rfl hx with ⟨rfl, rfl⟩ | ⟨hk, hx'⟩
    · rcases set_look hi rfl hy with ⟨rfl, rfl⟩ | ⟨hj, hy'⟩
      · exact absurd rfl hkj
      · exact h.ne _ j (b, cs, t) y hi hy' hkj
    · rcases set_look hi rfl hy with ⟨rfl, rfl⟩ | ⟨hj, hy'⟩
      · exact h.ne k _ x (b, cs, t) hx' hi hkj
      · exact h.ne k j x y hx' hy' hkj
theorem Ds.setRow (h : Ds L w0 w) (i : Nat) (cs' : Array Value) (b : Nat) (cs : Array Value) (t : TypeId) (hi : L[i]? = some (b, cs, t)) : Ds (L.set i (b, cs', t)) w0 (w.setRow b cs') :=
  h.put i b cs cs' t hi _ (below_setRow h.le (h.lo i _ hi) _) ((h.all i _ hi).row cs') fun b' c u hne hb => hb.rowOther cs' hne
theorem Ds.setCell (h : Ds L w0 w) (i j : Nat) (v : Value) (b : Nat) (cs : Array Value) (t : TypeId) (hi : L[i]? = some (b, cs, t)) : Ds (L.set i (b, cs.setIfInBounds j v, t)) w0 (w.setCell ⟨b, j, none⟩ v) :=
  h.put i b cs _ t hi _ (h.le.setCell (h.lo i _ hi) _) ((h.all i _ hi).set j v) fun b' c u hne hb => hb.other j v hne
theorem Ds.zero (h : Ds L w0 w) (t : TypeId) (b : Nat) (hb : b = w.heap.size) : Ds ((b, wv 0, t) :: L) w0 (w.alloc (.cells #[.int .u64 0, .int .u64 0, .int .u64 0, .int .u64 0, .int .u64 0, .int .u64 0] t)) := by
  rw [← wv_zero]; exact h.box (wv 0) t b hb
theorem Ds.zeroRow (h : Ds L w0 w) (i : Nat) (b : Nat) (cs : Array Value) (t : TypeId) (hi : L[i]? = some (b, cs, t)) : Ds (L.set i (b, wv 0, t)) w0 (w.setRow b #[.int .u64 0, .int .u64 0, .int .u64 0, .int .u64 0, .int .u64 0, .int .u64 0]) := by
  rw [← wv_zero]; exact h.setRow i (wv 0) b cs t hi
theorem Ds.next (h : Ds L w0 w) (hb : Below w.heap.size w w1) (cs old : Array Value) (t : TypeId) : Ds ((w1.heap.size, cs, t) :: L) w0 ((w1.alloc (.cells old t)).setRow w1.heap.size cs) :=
  ((h.call hb).box old t _ rfl).setRow 0 cs _ _ _ rfl
end
section
variable {P : Program} {ops : Array Oper} {I : (Nat → Bool) → World → Prop} {Q : Act → Prop} {k : Nat} {o : Oper} {rest : List Oper} {a : Act}
/-- a whole aggregate is loaded, that a later operation of the region may write -/
theorem sets_load_blk1 (hw : Region.wanted o (yielded ops a.tmps) = true) (hI : ∀ S w, S k = false → I S w → I (ins S k) w) (ty : TypeId) (x : Operand) (ho : o.op = .load ty x)
    (g : Nat) (hx : a.eval x = .pointer (some ⟨g, 0, none⟩)) (t : TypeId) (cs : Array Value) (d : TypeDesc) (hc : ∀ S w, S k = false → closedS ops S → I S w → Blk w g cs t)
    (hu : P.underlying ty = some d) (hd : isRow d = true) (hi : (P.info? ty).map (·.size) = some cs.size)
    (h : wpSets P ops I Q (k + 1) rest (a.put o.dst (.agg cs))) : wpSets P ops I Q k (o :: rest) a := by
  refine ⟨.agg cs, .inl ⟨hw, fun S w hS hcl ha hIw => ?_⟩, h⟩
  have hl := run_load_blk (P := P) (ty := ty) w g t cs d (hc S w hS hcl hIw) hu hd hi
  unfold opTo execOp
  simp only [ho, hx, run_v]
  simp [Instr.loadAt, Instr.sureAddr, hl, resTo, hI S w hS hIw]
/-- a whole aggregate is stored -/
theorem sets_store_blk (hw : Region.wanted o (yielded ops a.tmps) = true) (t : TypeId) (x y : Operand) (ho : o.op = .store t x y) (hd : o.dst = none) (g : Nat) (cells : Array Value) (hx : a.eval x = .pointer (some ⟨g, 0, none⟩)) (hy : a.eval y = .agg cells)
    (t' : TypeId) (hi : (P.info? t).map (·.size) = some cells.size) (h1 : cells.all (·.oneCell') = true)
    (hc : ∀ S w, S k = false → closedS ops S → (∀ e ∈ o.after, Region.binds .any e = true → S e.on = true) → I S w → (∃ old, Blk w g old t' ∧ old.size = cells.size) ∧ I (ins S k) (w.setRow g cells))
    (h : wpSets P ops I Q (k + 1) rest a) : wpSets P ops I Q k (o :: rest) a := by
  refine ⟨undef, .inl ⟨hw, fun S w hS hcl ha hIw => ?_⟩, by rw [hd]; exact h⟩
  obtain ⟨⟨old, h2, h3⟩, h4⟩ := hc S w hS hcl ha hIw
  have hrun : (Instr.storeAt t (.pointer (some ⟨g, 0, none⟩)) (.agg cells)).run P w = .ok () (w.setRow g cells) := by
    simp only [Instr.storeAt, Instr.sureAddr, Sem.run_bind, Sem.run_pure, Result.andThen_ok, run_storeVar_row w g t' t old cells h2 hi h3 h1]
  unfold opTo execOp
  simp only [ho, hx, hy, run_u, hrun, Result.andThen_ok]
  exact ⟨rfl, h4⟩
end
section
variable {P : Program} {fn : Func} {p q t u : Tmp} {ty ty' : TypeId}
/-- results: two aggregates that lie in blocks, and a slot -/
theorem results_cct (h : fn.results = #[.cell p ty, .cell q ty, .tmp t]) (tmps : Array Value) (w : World) (g g' : Nat) (tt tt' : TypeId) (cs cs' : Array Value) (d : TypeDesc)
    (hp : tmps.getD p undef = .pointer (some ⟨g, 0, none⟩)) (hq : tmps.getD q undef = .pointer (some ⟨g', 0, none⟩)) (hg : Blk w g cs tt) (hg' : Blk w g' cs' tt') (hu : P.underlying ty = some d) (hd : isRow d = true)
    (hi : (P.info? ty).map (·.size) = some cs.size) (hi' : (P.info? ty).map (·.size) = some cs'.size) :
    (results fn tmps).run P w = .ok (.tuple #[.agg cs, .agg cs', tmps.getD t undef]) w := by
  have h1 := run_load_blk (P := P) w g tt cs d hg hu hd hi
  have h2 := run_load_blk (P := P) w g' tt' cs' d hg' hu hd hi'
  have hp' : tmps[p]?.getD undef = .pointer (some ⟨g, 0, none⟩) := by simpa using hp
  have hq' : tmps[q]?.getD undef = .pointer (some ⟨g', 0, none⟩) := by simpa using hq
  simp [results, h, asAddr, hp', hq', h1, h2]
theorem results_cc (h : fn.results = #[.cell p ty, .cell q ty]) (tmps : Array Value) (w : World) (g g' : Nat) (tt tt' : TypeId) (cs cs' : Array Value) (d : TypeDesc)
    (hp : tmps.getD p undef = .pointer (some ⟨g, 0, none⟩)) (hq : tmps.getD q undef = .pointer (some ⟨g', 0, none⟩)) (hg : Blk w g cs tt) (hg' : Blk w g' cs' tt') (hu : P.underlying ty = some d) (hd : isRow d = true)
    (hi : (P.info? ty).map (·.size) = some cs.size) (hi' : (P.info? ty).map (·.size) = some cs'.size) :
    (results fn tmps).run P w = .ok (.tuple #[.agg cs, .agg cs']) w := by
  have h1 := run_load_blk (P := P) w g tt cs d hg hu hd hi
  have h2 := run_load_blk (P := P) w g' tt' cs' d hg' hu hd hi'
  have hp' : tmps[p]?.getD undef = .pointer (some ⟨g, 0, none⟩) := by simpa using hp
  have hq' : tmps[q]?.getD undef = .pointer (some ⟨g', 0, none⟩) := by simpa using hq
  simp [results, h, asAddr, hp', hq', h1, h2]
theorem results_ctt (h : fn.results = #[.cell p ty, .tmp t, .tmp u]) (tmps : Array Value) (w : World) (g : Nat) (tt : TypeId) (cs : Array Value) (d : TypeDesc)
    (hp : tmps.getD p undef = .pointer (some ⟨g, 0, none⟩)) (hg : Blk w g cs tt) (hu : P.underlying ty = some d) (hd : isRow d = true)
    (hi : (P.info? ty).map (·.size) = some cs.size) :
    (results fn tmps).run P w = .ok (.tuple #[.agg cs, tmps.getD t undef, tmps.getD u undef]) w := by
  have h1 := run_load_blk (P := P) w g tt cs d hg hu hd hi
  have hp' : tmps[p]?.getD undef = .pointer (some ⟨g, 0, none⟩) := by simpa using hp
  simp [results, h, asAddr, hp', h1]
end
theorem zeros_one' : (#[.int .u64 0, .int .u64 0, .int .u64 0, .int .u64 0, .int .u64 0, .int .u64 0] : Array Value).all (·.oneCell') = true := by rw [← wv_zero]; exact wv_one 0
/-! one more at the lowest bit -/
theorem bit0 {T : Nat} (h : T % 2 = 0) : T.testBit 0 = false := by rw [Nat.testBit_zero, decide_eq_false (by omega)]
theorem or_low {T y : Nat} (h : T % 2 = 0) (hy : limb (T + 1) 0 = y) : bits .or .u64 ((limb T 0 : Nat) : Int) 1 = (y : Int) := by
  have := or_bit' T 0 (by decide) (bit0 h)
  rw [Nat.zero_div, Nat.zero_mod, Int.pow_zero, Nat.pow_zero, hy] at this
  exact this
theorem wv_low {T y : Nat} (h : T % 2 = 0) (hy : limb (T + 1) 0 = y) : (wv T).setIfInBounds 0 (.int .u64 (y : Nat)) = wv (T + 1) := by
  have := wv_bit (T := T) (m := 0) (bit0 h)
  rw [Nat.zero_div, Nat.pow_zero, hy] at this
  exact this
/-! some lowest bits -/
theorem or_lowest {T d j : Nat} (hT : T % 2 ^ j = 0) (hd : d < 2 ^ j) : T ||| d = T + d := by
  have h1 := Nat.div_add_mod T (2 ^ j)
  rw [hT, Nat.add_zero] at h1
  have h3 := Nat.two_pow_add_eq_or_of_lt hd (T / 2 ^ j)
  rw [h1] at h3
  exact h3.symm
theorem limb_word {d : Nat} (hd : d < 18446744073709551616) (i : Nat) : limb d i = if i = 0 then d else 0 := by
  have := limb_top (S := 0) (k := 0) (by decide) hd i
  rw [Nat.zero_add, Bk_zero, Nat.mul_one] at this
  rw [this]
  split
  · rfl
  · exact limb_zero i
theorem or_lows {T d j y : Nat} (hT : T % 2 ^ j = 0) (hd : d < 2 ^ j) (hj : j ≤ 64) (hy : limb (T + d) 0 = y) : bits .or .u64 ((limb T 0 : Nat) : Int) (d : Int) = (y : Int) := by
  have h64 : 2 ^ j ≤ 2 ^ 64 := Nat.pow_le_pow_right (by decide) hj
  rw [← B_eq] at h64
  rw [or_nat _ _ (limb_lt _ _) (by omega), ← hy, ← or_lowest hT hd, limb_or, limb_word (d := d) (by omega), if_pos rfl]
theorem wv_lows {T d j y : Nat} (hT : T % 2 ^ j = 0) (hd : d < 2 ^ j) (hj : j ≤ 64) (hy : limb (T + d) 0 = y) : (wv T).setIfInBounds 0 (.int .u64 (y : Nat)) = wv (T + d) := by
  have h64 : 2 ^ j ≤ 2 ^ 64 := Nat.pow_le_pow_right (by decide) hj
  rw [← B_eq] at h64
  unfold wv
  rw [cellsN_set]
  refine cellsN_congr fun i _ => ?_
  unfold upd
  by_cases hi : i = 0
  · rw [if_pos hi, hi, hy]
  · rw [if_neg hi, ← or_lowest hT hd, limb_or, limb_word (d := d) (by omega), if_neg hi, Nat.or_zero]
end Go.Proofs.YtlpgflmjpdhpnaaDoor
