/- decode.Words, what it hands out. -/
import Derived.Test.YteelconabmfnkaaRfa
import Derived.Test.YteelconabmfnkaaTk
import Derived.Test.YteelconabmfnkaaUa
import Derived.Test.YteelconabmfnkaaWb
import Derived.Laws.AppendOwnNone
namespace Go.Proofs.Yteelconabmfnkaa
open Go Go.RowKit Go.Shelf
attribute [local go_sem] Oper.semAt_some
set_option maxHeartbeats 4000000
set_option maxRecDepth 100000
set_option linter.unusedVariables false
set_option linter.unusedSimpArgs false
theorem info8 : (Try.prog.info? 5).map (fun i => (i.zero, i.size, i.bytes)) = some (some (.int .u8 0), 1, 1) := by kernel_rfl
theorem run_append8n {w : World} (ty : TypeId) (ao : Option Addr) (c : Nat) (l : List Nat) (hnone : ao = none → l.length = 0 ∧ c = 0) (hr : Rd w ao l) (hlen : l.length ≤ 1000000) :
    ∃ v' w', (Builtin.append_ #[86, 86] ty #[.slice none 0 0, .slice ao l.length c]).run Try.prog w = .ok v' w' ∧ Row w' w.heap.size v' l ∧ w.grownBy w' none := by
  have hown : Row w w.heap.size (.slice none 0 0) [] := World.ownsRow_nil _ _ _ _
  cases hq : Try.prog.info? 5 with
  | none => have := info8; simp [hq] at this
  | some i5 =>
    have hi := info8
    simp only [hq, Option.map_some, Option.some.injEq, Prod.mk.injEq] at hi
    obtain ⟨hz0, hz1, hz2⟩ := hi
    cases ao with
    | none =>
      obtain ⟨h0, rfl⟩ := hnone rfl
      have : l = [] := List.eq_nil_of_length_eq_zero h0
      subst this
      exact ⟨.slice none 0 0, w, run_append_owned_none w w.heap.size _ ty _ i5 1 Try.underlying86 hq (.slice none 0 0) _ _ hown, hown, World.grownBy.refl w _⟩
    | some ad =>
      obtain ⟨v', w', h1, h2, h3, h4⟩ := run_append_own (P := Try.prog) w w.heap.size _ ty _ i5 (.int .u8 0) 1 1 Try.underlying86 hq hz0 hz1 hz2 rfl (by decide) (.slice none 0 0) _ _ hown ad l.length c (u8s l) (by rw [u8s_length]; omega)
        (fun j u hj => by
          rw [u8s_get] at hj
          obtain ⟨x, hx, rfl⟩ := Option.map_eq_some_iff.1 hj
          have hjl := (List.getElem?_eq_some_iff.1 hx).1
          obtain ⟨a, ha, hc⟩ := hr j hjl
          cases ha
          rw [hc, hx]; rfl) (u8s_one l) (by simp only [List.length_nil]; unfold maxLen; omega) (by simp only [List.length_nil]; omega) (Nat.le_refl _)
      refine ⟨v', w', h1, ?_, h3⟩
      show World.ownsRow _ _ _ _ _ _ _
      simpa [u8s] using h2
theorem wpList_append8n {w : World} {ops : Array Oper} {rest : List Oper} {o : Oper} {a : Act} {Q : Exit → Act → World → Prop} (hgd : o.guard = none) (s x : Operand)
    (ho : o.op = .call { callee := .builtin .append, args := #[s, x], argTypes := #[86, 86] })
    (hs : a.eval s = .slice none 0 0) (ao : Option Addr) (c : Nat) (l : List Nat) (hx : a.eval x = .slice ao l.length c) (hnone : ao = none → l.length = 0 ∧ c = 0) (hr : Rd w ao l) (hlen : l.length ≤ 1000000)
    (h : ∀ v' w', Row w' w.heap.size v' l → w.grownBy w' none → wpList Try.prog ops Q rest (a.put o.dst v') w') : wpList Try.prog ops Q (o :: rest) a w := by
  refine wpList_plain hgd fun K hK => ?_
  obtain ⟨v', w', h1, h2, h3⟩ := run_append8n o.type ao c l hnone hr hlen
  unfold Oper.wp
  simp [execOp, ho, resolve, invoke, builtin, hs, hx, h1, Result.andThen]
  exact hK _ _ (h v' w' h2 h3)
theorem words_c (W : World) (ao : Option Addr) (n cap : Nat) : Calls Try.prog 52 #[.slice ao n cap] W fun e w' => e = .returned (.func (.func 72) #[] #[.pointer (some ⟨W.heap.size, 0, none⟩)]) ∧ w' = W.alloc (.cells #[.slice ao n cap] 86) := by
  go_enter Try.func52, Try.ntmps52
  go_wp2
  go_ret
  exact ⟨rfl, rfl⟩
theorem own_len2 {w : World} {base : Nat} {e : TypeId} {size : Nat} {v : Value} {n : Nat} {xs : List Value} (h : w.ownsRow base e size v n xs) : ∃ (ao : Option Addr) (c : Nat), v = .slice ao n c ∧ (0 < n → ∃ g, ao = some ⟨g, 0, none⟩ ∧ base ≤ g) := by
  rcases h.2 with ⟨rfl, h0⟩ | ⟨g, cap, cur, rfl, h2, _⟩
  · exact ⟨none, 0, by rw [h0], fun h => by omega⟩
  · exact ⟨_, _, rfl, fun _ => ⟨g, rfl, h2⟩⟩
def B8 (l : List Nat) (j : Nat) : Nat := l[j]?.getD 0
/-- word k of the bytes -/
def WRD (l : List Nat) (k : Nat) : Nat := B8 l (4 * k) + 256 * B8 l (4 * k + 1) + 65536 * B8 l (4 * k + 2) + 16777216 * B8 l (4 * k + 3)
theorem wsum (x0 x1 x2 x3 : Nat) (h0 : x0 < 256) (h1 : x1 < 256) (h2 : x2 < 256) (h3 : x3 < 256) : bits BinOp.or IntKind.u32 (bits BinOp.or IntKind.u32 (bits BinOp.or IntKind.u32 (x0 : Int) ((x1 : Int) * 256)) ((x2 : Int) * 65536)) ((x3 : Int) * 16777216) = ((x0 + 256 * x1 + 65536 * x2 + 16777216 * x3 : Nat) : Int) := by
  have or_add : ∀ (a b i : Nat), a < 2 ^ i → a ||| 2 ^ i * b = a + 2 ^ i * b := fun a b i h => by
    rw [Nat.or_comm, ← Nat.two_pow_add_eq_or_of_lt h, Nat.add_comm]
  have e1 : x0 ||| x1 * 256 = x0 + 256 * x1 := by
    rw [Nat.mul_comm x1 256, show (256 : Nat) = 2 ^ 8 from rfl]; exact or_add x0 x1 8 h0
  have e2 : (x0 + 256 * x1) ||| x2 * 65536 = x0 + 256 * x1 + 65536 * x2 := by
    rw [Nat.mul_comm x2 65536, show (65536 : Nat) = 2 ^ 16 from rfl]; exact or_add _ x2 16 (by omega)
  have e3 : (x0 + 256 * x1 + 65536 * x2) ||| x3 * 16777216 = x0 + 256 * x1 + 65536 * x2 + 16777216 * x3 := by
    rw [Nat.mul_comm x3 16777216, show (16777216 : Nat) = 2 ^ 24 from rfl]; exact or_add _ x3 24 (by omega)
  have f1 : bits BinOp.or IntKind.u32 (x0 : Int) ((x1 : Int) * 256) = ((x0 + 256 * x1 : Nat) : Int) := by
    rw [← e1]; exact or32 x0 (x1 * 256) (by omega) (by omega)
  have f2 : bits BinOp.or IntKind.u32 ((x0 + 256 * x1 : Nat) : Int) ((x2 : Int) * 65536) = ((x0 + 256 * x1 + 65536 * x2 : Nat) : Int) := by
    rw [← e2]; exact or32 _ (x2 * 65536) (by omega) (by omega)
  have f3 : bits BinOp.or IntKind.u32 ((x0 + 256 * x1 + 65536 * x2 : Nat) : Int) ((x3 : Int) * 16777216) = ((x0 + 256 * x1 + 65536 * x2 + 16777216 * x3 : Nat) : Int) := by
    rw [← e3]; exact or32 _ (x3 * 16777216) (by omega) (by omega)
  rw [f1, f2, f3]
theorem words_iter (pb : Nat) (ao : Option Addr) (cap : Nat) (l : List Nat) (h8 : ∀ y ∈ l, y < 256) (hlen : l.length ≤ 20000) (hnone : ao = none → l.length = 0 ∧ cap = 0) (n : Nat) (hn : 4 ≤ n) (n₀ : Nat) (w : World) (hn0 : n₀ ≤ w.heap.size) :
    IterC (fun W => W.cell? ⟨pb, 0, none⟩ = some (.slice ao l.length cap) ∧ Rd W ao l) Fence.wide n Try.prog 72 #[] #[.pointer (some ⟨pb, 0, none⟩)] (fun k => #[.int .i64 ((4 * k : Nat) : Int), .int .u32 (WRD l k : Nat)]) (l.length / 4) n₀ w := by
  intro lo J Jx X W hb hXl hJ hJx hJC hJxC hY h0
  have HW := Lib.hid (Nat.le_trans hn0 hb.size)
  have h1n : 1 ≤ n := by omega
  clear hb
  have HY := Lib.hid hY
  have HNO := Lib.hid hnone
  have H8 := Lib.hid h8
  obtain ⟨c0, hr0⟩ := hJC _ _ _ h0
  have HR := Lib.hid hr0
  clear hY hnone h8 hr0
  show CallsIn Fence.wide n Try.prog 72 #[.func (.yield lo) #[] #[], .pointer (some ⟨pb, 0, none⟩)] W _
  refine callsIn_of_wp Try.func72 rfl trivial ?_ rfl
  simp only [Try.ntmps72, List.size_toArray, List.length_cons, List.length_nil, Nat.reduceAdd, Nat.reduceSub, Array.replicate_succ, Array.replicate_zero, List.push_toArray, List.append_toArray, List.nil_append, List.cons_append]
  refine wpIn_wide.2 ?_
  go_wp2_with (first
    | (refine wpList_append8n rfl _ _ rfl rfl ao cap l rfl HNO.out HR.out (by omega) ?_; intro v1 W2 hR2 hG2))
  obtain ⟨ao1, cp1, rfl, hao1⟩ := own_len2 hR2
  have hbel := grown_below hG2
  have hJ0 := (hJ _ _ _ _ h0 hbel).2
  have hXW : ∀ b, X b → more X W W2 b := fun b h => .inl h
  have hXo : ∀ g, W.heap.size ≤ g → g < W2.heap.size → more X W W2 g := fun g h1 h2 => .inr ⟨h1, h2⟩
  have hXl2 : ∀ b, more X W W2 b → b < W2.heap.size := fun b h => h.elim (fun h => Nat.lt_of_lt_of_le (hXl b h) hbel.size) (fun h => h.2)
  obtain ⟨X2, hX2⟩ : ∃ X2, more X W W2 = X2 := ⟨_, rfl⟩
  rw [hX2] at hJ0 hXW hXo hXl2
  have HK0 : Hid (KX X W W2) := Lib.hid (KX.below hXl hbel)
  have HB0 := Lib.hid (hbel.mono HW.out)
  have HCELL : Hid (∀ g, ao1 = some ⟨g, 0, none⟩ → W.heap.size ≤ g → ∀ wr, KX X2 W2 wr → ∀ j, j < l.length → wr.cell? ⟨g, j, none⟩ = some (.int .u8 (B8 l j : Nat))) := Lib.hid fun g hg hW wr hk j hj => by
    subst hg
    have h := hR2.cell j hj
    exact (World.cell?_of_block (hk g (hXo g hW (World.block_lt_of_cell? W2 _ h)))).trans h
  have HAO := Lib.hid hao1
  have HJ0 := Lib.hid hJ0
  clear hX2 hbel h0 hJ0 hR2 hG2 hao1 c0 HR
  refine (wpIn_wide (n := n)).1 ?_
  gi_loopw [4] (fun i wr => ∃ k : Nat, 4 * k ≤ l.length ∧ i = .int .i64 ((4 * k : Nat) : Int) ∧ J k X2 wr ∧ KX X2 W2 wr ∧ Below n₀ W wr ∧ W2.heap.size ≤ wr.heap.size) (fun i _ => l.length + 4 - (intOf i).toNat)
  case atStart => exact ⟨0, by omega, rfl, HJ0.out, KX.refl _ _, HB0.out, Nat.le_refl _⟩
  case round =>
    obtain ⟨k, hk, rfl, hJk, hKk, hBk, hszk⟩ := hrel
    have HJK := Lib.hid hJk
    have HKK := Lib.hid hKk
    have HBK := Lib.hid hBk
    have HSZ := Lib.hid hszk
    clear hJk hKk hBk hszk HJ0
    obtain ⟨i, hi⟩ : ∃ i, 4 * k = i := ⟨_, rfl⟩
    rw [hi]
    have HI := Lib.hid hi
    rw [hi] at hk
    clear hi
    by_cases hlt : i + 4 ≤ l.length
    · obtain ⟨g, rfl, hg⟩ := HAO.out (by omega)
      have hb : ∀ j, B8 l j < 256 := fun j => by
        unfold B8
        cases h : l[j]? with
        | none => decide
        | some x => exact H8.out x (List.mem_of_getElem? h)
      have e0 := HCELL.out g rfl hg wr HKK.out i (by omega)
      have e1 := HCELL.out g rfl hg wr HKK.out (i + 1) (by omega)
      have e2 := HCELL.out g rfl hg wr HKK.out (i + 2) (by omega)
      have e3 := HCELL.out g rfl hg wr HKK.out (i + 3) (by omega)
      have hwd : WRD l k = B8 l i + 256 * B8 l (i + 1) + 65536 * B8 l (i + 2) + 16777216 * B8 l (i + 3) := by unfold WRD; rw [HI.out]
      have HWD := Lib.hid hwd
      have l0 := hb i
      have l1 := hb (i + 1)
      have l2 := hb (i + 2)
      have l3 := hb (i + 3)
      clear hwd hb
      generalize B8 l i = x0 at *
      generalize B8 l (i + 1) = x1 at *
      generalize B8 l (i + 2) = x2 at *
      generalize B8 l (i + 3) = x3 at *
      have hws := wsum x0 x1 x2 x3 l0 l1 l2 l3
      obtain ⟨wd, hw2⟩ : ∃ wd, x0 + 256 * x1 + 65536 * x2 + 16777216 * x3 = wd := ⟨_, rfl⟩
      rw [hw2] at hws
      have HW2 := Lib.hid hw2
      clear hw2
      have HWS := Lib.hid hws
      clear hws
      have dn : decide (i + 4 ≤ l.length) = true := decide_eq_true hlt
      gi_wp2
      refine wpIn_wide.2 ?_
      go_quiet (fail)
      rw [HWS.out]
      obtain ⟨V, hV⟩ : ∃ V, wr.drewN nq = V := ⟨_, rfl⟩
      have hbV : Below wr.heap.size wr V := by rw [← hV]; exact below_drewN (Below.refl _ _)
      have hkV : KX X2 wr V := by rw [← hV]; exact fun b _ => rfl
      have hnV : Below n₀ wr V := by rw [← hV]; exact below_drewN (Below.refl _ _)
      have hzV : W2.heap.size ≤ V.heap.size := Nat.le_trans HSZ.out hbV.size
      obtain ⟨fn, tmps, assign, body, hy, hR⟩ := HY.out k X2 V (hJ _ _ _ _ HJK.out hbV).1 (by have := HI.out; omega)
      rw [HWD.out, HI.out, HW2.out] at hy
      rw [hV]
      clear hV e0 e1 e2 e3
      have HRR := Lib.hid hR
      have HKV := Lib.hid hkV
      have HNV := Lib.hid hnV
      have HZV := Lib.hid hzV
      clear hR hkV hnV hzV hbV
      (try simp only [Exit.then])
      rename_i hkk
      refine hkk _ _ ?_
      gi_wp2
      refine HRR.out.mono ?_
      rintro e W4 (⟨rfl, hJ4, hk4, hb4⟩ | ⟨rfl, hJ4, hk4, hb4⟩)
      · gi_wp2
        go_roundw
        case rel => first | trivial | exact ⟨k + 1, by have := HI.out; omega, by rw [← HI.out]; rfl, hJ4, (HKK.out.trans HKV.out).trans hk4, (HBK.out.trans HNV.out).trans hb4, Nat.le_trans HZV.out hb4.size⟩
        case measure => first | trivial | (simp [intOf]; done) | (simp [intOf]; omega)
      · gi_wp2
        refine bodyPost_ret (results_none rfl _ _ _) rfl ?_
        exact ⟨⟨_, rfl⟩, HK0.out.trans (fun b h => ((HKK.out.trans HKV.out).trans hk4) b (hXW b h)), (HBK.out.trans HNV.out).trans hb4, X2, hXW, .inr ⟨k + 1, by have := HI.out; omega, by omega, hJ4⟩⟩
    · have dn : decide (i + 4 ≤ l.length) = false := decide_eq_false hlt
      gi_wp2
      go_end0
      have hkl : l.length / 4 = k := by have := HI.out; omega
      exact ⟨⟨_, rfl⟩, HK0.out.trans (fun b h => HKK.out b (hXW b h)), HBK.out, X2, hXW, .inl (by rw [hkl]; exact HJK.out)⟩
end Go.Proofs.Yteelconabmfnkaa
