/- encode.Each, what it hands out. -/
import Derived.Test.YteelconabmfnkaaWj
import Derived.Test.YteelconabmfnkaaEa
import Derived.Test.YteelconabmfnkaaRfa
import Derived.Test.YteelconabmfnkaaTl
namespace Go.Proofs.Yteelconabmfnkaa
open Go Go.RowKit Go.Shelf
attribute [local go_sem] Oper.semAt_some
set_option maxHeartbeats 4000000
set_option maxRecDepth 100000
set_option linter.unusedVariables false
set_option linter.unusedSimpArgs false
/-- the way out with one mark -/
theorem leaves_mark1 {F : Fence} {n : Nat} {P : Program} {fn : Func} {tmps : Array Value} {R : Ending → World → Prop} {D : Nat} {W : World} (hk : W.heap[D]? = some (.deferred (some [])))
    (h : ∃ v, (results fn tmps).run P (W.putObj D (.deferred none)) = .ok v (W.putObj D (.deferred none)) ∧ R (.returned v) (W.putObj D (.deferred none))) : LeavesInM F n P fn tmps R (List.map mark [D]) .returning W :=
  ⟨by simp, .inl ⟨D, _, rfl, run_takeDeferred hk, h⟩⟩
/-- the least instruction of a row -/
def leastI (r : R7) : I11 := ⟨r.op, r.form, r.frm, r.kind, 0, 0, 0, 0, 0, 0, if r.lay = 8 ∨ r.lay = 9 then 1 else 0⟩
theorem eeach_c (W : World) (o : Nat) : Calls Try.prog 39 #[.int .u8 o] W fun e w' => e = .returned (.func (.func 67) #[] #[.pointer (some ⟨W.heap.size, 0, none⟩)]) ∧ w' = W.alloc (.cells #[.int .u8 (o : Nat)] 22) := by
  go_enter Try.func39, Try.ntmps39
  go_wp2
  go_ret
  exact ⟨rfl, rfl⟩
theorem roundIn_any {m m' l l' f : Nat} {P : Program} {tmps : Array Value} {assign body : Code} {w : World} {R : Ending → World → Prop} (h : RoundIn Fence.wide m P l f tmps assign body w R) : RoundIn (Fence.wide.inRound l') m' P l f tmps assign body w R :=
  ⟨h.1, fun c cs _ => h.2 c cs (room_none rfl _)⟩
theorem more_or (X Y : Nat → Prop) (A B : World) : (fun b => X b ∨ more Y A B b) = more (fun b => X b ∨ Y b) A B := by
  funext b
  unfold more
  exact propext ⟨fun h => by rcases h with h | h | h <;> simp [h], fun h => by rcases h with (h | h) | h <;> simp [h]⟩
theorem eeach_iter (o bo : Nat) (n : Nat) (hn : 7 ≤ n) (n₀ : Nat) (w : World) (hn0 : n₀ ≤ w.heap.size) :
    IterA (fun W => W.cell? ⟨bo, 0, none⟩ = some (.int .u8 (o : Nat))) Fence.wide n Try.prog 67 #[] #[.pointer (some ⟨bo, 0, none⟩)] (fun k => #[.agg (instV (leastI (rk o k)))]) (RLO o).length n₀ w := by
  intro lo J Jx X W hb hXl hJ hJx hJC hJxC hA hAx hY h0
  have HW := Lib.hid (Nat.le_trans hn0 hb.size)
  have h1n : 1 ≤ n := by omega
  clear hb
  have HY := Lib.hid hY
  have co := hJC _ _ _ h0
  clear hY
  show CallsIn Fence.wide n Try.prog 67 #[.func (.yield lo) #[] #[], .pointer (some ⟨bo, 0, none⟩)] W _
  refine callsIn_of_wp_marks Try.func67 rfl trivial ?_ rfl
  simp only [Try.ntmps67, List.size_toArray, List.length_cons, List.length_nil, Nat.reduceAdd, Nat.reduceSub, Array.replicate_succ, Array.replicate_zero, List.push_toArray, List.append_toArray, List.nil_append, List.cons_append]
  have co1 : ∀ ob, (W.alloc ob).cell? ⟨bo, 0, none⟩ = some (.int .u8 (o : Nat)) := fun ob => (World.cell?_of_block (Below.heap_alloc W ob bo (World.block_lt_of_cell? W _ co))).trans co
  gi_wp2_with (first
    | (refine ⟨trivial, ?_⟩; gi_at_call 50; refine (callsIn_wide.2 (each_c _ o)).mono ?_; rintro e W2 ⟨rfl, rfl⟩))
  have hy0 := Blk.new W #[.func (.yield lo) #[] #[]] 32
  have hy1 := hy0.alloc (.cells #[.int .u8 (o : Nat)] 22)
  have ho1 := Blk.new (W.alloc (.cells #[.func (.yield lo) #[] #[]] 32)) #[.int .u8 (o : Nat)] 22
  rw [World.size_alloc] at ho1
  have hbel := ((Below.refl W.heap.size W).alloc (Nat.le_refl _) (.cells #[.func (.yield lo) #[] #[]] 32)).alloc (by simp) (.cells #[.int .u8 (o : Nat)] 22)
  show Code.wpIn _ _ _ _ _ _ ((W.alloc (.cells #[.func (.yield lo) #[] #[]] 32)).alloc (.cells #[.int .u8 (o : Nat)] 22))
  obtain ⟨W2, hW2⟩ : ∃ W2, (W.alloc (.cells #[.func (.yield lo) #[] #[]] 32)).alloc (.cells #[.int .u8 (o : Nat)] 22) = W2 := ⟨_, rfl⟩
  have hsz : W2.heap.size = W.heap.size + 2 := by rw [← hW2]; simp only [World.size_alloc]
  rw [hW2] at hy1 ho1 hbel ⊢
  have hJ0 := (hJ _ _ _ _ h0 hbel).2
  have hXW : ∀ b, X b → more X W W2 b := fun b h => .inl h
  have hXo : ∀ b, W.heap.size ≤ b → b < W2.heap.size → more X W W2 b := fun b h1 h2 => .inr ⟨h1, h2⟩
  have hXl2 : ∀ b, more X W W2 b → b < W2.heap.size := fun b h => h.elim (fun h => Nat.lt_of_lt_of_le (hXl b h) hbel.size) (fun h => h.2)
  obtain ⟨X2, hX2⟩ : ∃ X2, more X W W2 = X2 := ⟨_, rfl⟩
  rw [hX2] at hJ0 hXW hXo hXl2
  have HK0 : Hid (KX X W W2) := Lib.hid (KX.below hXl hbel)
  have HB0 := Lib.hid (hbel.mono HW.out)
  have HY1 := Lib.hid hy1
  have HO1 := Lib.hid ho1
  have HSZ := Lib.hid hsz
  have hn2 : n₀ ≤ W2.heap.size := Nat.le_trans HW.out (by omega)
  have hA2 : ∀ k X, Abide W2.heap.size (J k X) := fun k X => (hA k X).mono (by omega)
  have hAx2 : ∀ k X, Abide W2.heap.size (Jx k X) := fun k X => (hAx k X).mono (by omega)
  have hKA : Abide W2.heap.size (fun W' => KX X2 W2 W') := fun A A' row h hg hr b hb => (hg.block b (by have := h b hb; have := hXl2 b hb; exact (Array.getElem?_eq_some_iff.1 ((h b hb).trans (Array.getElem?_eq_getElem (hXl2 b hb)))).1) (fun e => by have := (hr b e.symm).1; have := hXl2 b hb; omega)).trans (h b hb)
  have hSA : Abide W2.heap.size (fun W' => W2.heap.size ≤ W'.heap.size) := fun A A' row h hg hr => Nat.le_trans h hg.size
  have hBA : Abide W2.heap.size (fun W' => Below n₀ W W') := Abide.below HW.out hn2
  clear hy0 hy1 ho1 hbel h0 hW2 hX2 co co1
  have hXF : (fun b => X2 b ∨ (fun _ : Nat => False) b) = X2 := by funext b; simp
  have hit := each_iter o (W.heap.size + 1) (n - 1) (by omega) n₀ W2 hn2
  obtain ⟨len, hlen⟩ : ∃ len, (RLO o).length = len := ⟨_, rfl⟩
  rw [hlen] at hit
  have HLEN := Lib.hid hlen
  refine wpIn_rangeC rfl (by omega) (gf := 71) (ba := #[]) (lb := #[.pointer (some ⟨W.heap.size + 1, 0, none⟩)]) rfl trivial (enters_of Try.func71 (by kernel_rfl) rfl) hit (Below.refl _ _) hn2 (fun _ => rfl)
    (fun j Xi W' => J j (fun b => X2 b ∨ Xi b) W' ∧ KX X2 W2 W' ∧ Below n₀ W W' ∧ W2.heap.size ≤ W'.heap.size)
    (fun c j Xi W' => (Jx j (fun b => X2 b ∨ Xi b) W' ∧ KX X2 W2 W' ∧ Below n₀ W W' ∧ W2.heap.size ≤ W'.heap.size) ∧ c = .ret)
    (fun j Xi => (hA2 _ _).and (hKA.and (hBA.and hSA))) (fun c j Xi => ((hAx2 _ _).and (hKA.and (hBA.and hSA))).and Abide.pure)
    (fun j Xi A B ⟨h1, h2, h3, h4⟩ hb _ => ⟨by rw [more_or]; exact (hJ _ _ _ _ h1 hb).2, h2.trans (KX.below (fun b h => Nat.lt_of_lt_of_le (hXl2 b h) h4) hb), h3.trans (hb.mono (Nat.le_trans HW.out h3.size)), Nat.le_trans h4 hb.size⟩)
    (fun c j Xi A B ⟨⟨h1, h2, h3, h4⟩, h5⟩ hb _ => ⟨⟨by rw [more_or]; exact (hJx _ _ _ _ h1 hb).2, h2.trans (KX.below (fun b h => Nat.lt_of_lt_of_le (hXl2 b h) h4) hb), h3.trans (hb.mono (Nat.le_trans HW.out h3.size)), Nat.le_trans h4 hb.size⟩, h5⟩)
    (fun j Xi W' h => (h.2.1.blk (hXo _ (by omega) (by omega)) HO1.out).cell 0) (fun c j Xi W' h => (h.1.2.1.blk (hXo _ (by omega) (by omega)) HO1.out).cell 0)
    ⟨by rw [hXF]; exact hJ0, KX.refl _ _, HB0.out, Nat.le_refl _⟩
    (fun j a' W' => ∃ B3 : Nat, Blk W' B3 (rowV (rk o j)) 40 ∧ W2.heap.size ≤ B3 ∧ a' = { tmps := #[.func (.yield lo) #[] #[], .pointer (some ⟨bo, 0, none⟩), .pointer (some ⟨W.heap.size, 0, none⟩), .pointer (some ⟨B3, 0, none⟩), undef, .int .u8 (o : Nat), .func (.func 71) #[] #[.pointer (some ⟨W.heap.size + 1, 0, none⟩)], .agg (rowV (rk o j)), undef, undef, undef, undef, undef, undef, undef, undef, undef, undef, undef, undef, undef, undef, undef, undef, undef, undef, undef, undef, undef, undef], defers := [] })
    (fun j a' A B row ⟨B3, h2, h3, h4⟩ hg hr => ⟨B3, Abide.blk A B row h2 hg hr, h3, h4⟩) ?assign ?body ?done ?stop
  case assign =>
    rintro l' j Xi A K hX ⟨h1, h2, h3, h4⟩ hj hK
    gi_wp2
    have hnew := (Below.refl A.heap.size A).alloc (Nat.le_refl _) (.cells (rowV (rk o j)) 40)
    exact hK _ _ ((KeepsOthers.alloc _ _).from _) (KX.below (fun b h => (hX b h).2) hnew) (hnew.mono (Nat.le_trans HW.out h3.size)) ⟨(hJ _ _ _ _ h1 hnew).1, h2.trans (KX.below (fun b h => Nat.lt_of_lt_of_le (hXl2 b h) h4) hnew), h3.trans (hnew.mono (Nat.le_trans HW.out h3.size)), Nat.le_trans h4 hnew.size⟩ ⟨A.heap.size, Blk.new _ _ _, h4, rfl⟩
  case body =>
    rintro l' j Xi a' A hl hX ⟨h1, h2, h3, h4⟩ ⟨B3, hb3, hB3, rfl⟩ hj
    obtain ⟨r, hr⟩ : ∃ r, rk o j = r := ⟨_, rfl⟩
    rw [hr] at hb3 ⊢
    have HRK := Lib.hid hr
    have t0 : A.cell? ⟨B3, 0, none⟩ = some (.int .u8 (r.op : Nat)) := hb3.cell 0
    have t1 : A.cell? ⟨B3, 1, none⟩ = some (.int .u8 (r.form : Nat)) := hb3.cell 1
    have t2 : A.cell? ⟨B3, 2, none⟩ = some (.int .u8 (r.frm : Nat)) := hb3.cell 2
    have t3 : A.cell? ⟨B3, 3, none⟩ = some (.int .u8 (r.kind : Nat)) := hb3.cell 3
    have t4 : A.cell? ⟨B3, 4, none⟩ = some (.int .u32 (r.mask : Nat)) := hb3.cell 4
    have t5 : A.cell? ⟨B3, 5, none⟩ = some (.int .u32 (r.mtch : Nat)) := hb3.cell 5
    have t6 : A.cell? ⟨B3, 6, none⟩ = some (.int .u8 (r.lay : Nat)) := hb3.cell 6
    have s0 : ∀ ob, (A.alloc ob).cell? ⟨B3, 0, none⟩ = some (.int .u8 (r.op : Nat)) := fun ob => (World.cell?_of_block (Below.heap_alloc A ob B3 (World.block_lt_of_cell? A _ t0))).trans t0
    have s1 : ∀ ob, (A.alloc ob).cell? ⟨B3, 1, none⟩ = some (.int .u8 (r.form : Nat)) := fun ob => (World.cell?_of_block (Below.heap_alloc A ob B3 (World.block_lt_of_cell? A _ t1))).trans t1
    have s2 : ∀ ob, (A.alloc ob).cell? ⟨B3, 2, none⟩ = some (.int .u8 (r.frm : Nat)) := fun ob => (World.cell?_of_block (Below.heap_alloc A ob B3 (World.block_lt_of_cell? A _ t2))).trans t2
    have s3 : ∀ ob, (A.alloc ob).cell? ⟨B3, 3, none⟩ = some (.int .u8 (r.kind : Nat)) := fun ob => (World.cell?_of_block (Below.heap_alloc A ob B3 (World.block_lt_of_cell? A _ t3))).trans t3
    have s4 : ∀ ob, (A.alloc ob).cell? ⟨B3, 4, none⟩ = some (.int .u32 (r.mask : Nat)) := fun ob => (World.cell?_of_block (Below.heap_alloc A ob B3 (World.block_lt_of_cell? A _ t4))).trans t4
    have s5 : ∀ ob, (A.alloc ob).cell? ⟨B3, 5, none⟩ = some (.int .u32 (r.mtch : Nat)) := fun ob => (World.cell?_of_block (Below.heap_alloc A ob B3 (World.block_lt_of_cell? A _ t5))).trans t5
    have s6 : ∀ ob, (A.alloc ob).cell? ⟨B3, 6, none⟩ = some (.int .u8 (r.lay : Nat)) := fun ob => (World.cell?_of_block (Below.heap_alloc A ob B3 (World.block_lt_of_cell? A _ t6))).trans t6
    have y0 : A.cell? ⟨W.heap.size, 0, none⟩ = some (.func (.yield lo) #[] #[]) := (h2.blk (hXo _ (by omega) (by omega)) HY1.out).cell 0
    have y1 : ∀ ob, (A.alloc ob).cell? ⟨W.heap.size, 0, none⟩ = some (.func (.yield lo) #[] #[]) := fun ob => (World.cell?_of_block (Below.heap_alloc A ob W.heap.size (World.block_lt_of_cell? A _ y0))).trans y0
    have H1 := Lib.hid h1
    have H2 := Lib.hid h2
    have H3 := Lib.hid h3
    have H4 := Lib.hid h4
    have h15 : 1 ≤ n - 1 - 1 := by omega
    have h16 : 1 ≤ n - 1 - 1 - 1 := by omega
    clear h1 h2 h3 h4 hr hb3
    rcases Nat.lt_trichotomy r.lay 8 with hy8 | hy8 | hy8
    · have z8 : ((r.lay : Int) == 8) = false := by rw [beq_eq_false_iff_ne]; omega
      have z9 : ((r.lay : Int) == 9) = false := by rw [beq_eq_false_iff_ne]; omega
      have hle : leastI r = ⟨r.op, r.form, r.frm, r.kind, 0, 0, 0, 0, 0, 0, 0⟩ := by unfold leastI; rw [if_neg (by omega)]
      have hnew := (Below.refl A.heap.size A).alloc (Nat.le_refl _) (.cells (instV ⟨r.op, r.form, r.frm, r.kind, 0, 0, 0, 0, 0, 0, 0⟩) 27)
      obtain ⟨fn, tmps, assign, body, hy, hR⟩ := HY.out j (fun b => X2 b ∨ Xi b) (A.alloc (.cells (instV ⟨r.op, r.form, r.frm, r.kind, 0, 0, 0, 0, 0, 0, 0⟩) 27)) (hJ _ _ _ _ H1.out hnew).1 (by rw [HLEN.out]; exact hj)
      rw [HRK.out, hle] at hy
      change (Instr.yield lo #[.agg #[.int .u8 (r.op : Nat), .int .u8 (r.form : Nat), .int .u8 (r.frm : Nat), .int .u8 (r.kind : Nat), .int .u8 0, .int .u8 0, .int .u8 0, .int .u8 0, .int .u8 0, .int .i16 0, .int .u8 0]]).run Try.prog (A.alloc (.cells #[.int .u8 (r.op : Nat), .int .u8 (r.form : Nat), .int .u8 (r.frm : Nat), .int .u8 (r.kind : Nat), .int .u8 0, .int .u8 0, .int .u8 0, .int .u8 0, .int .u8 0, .int .i16 0, .int .u8 0] 27)) = .ok (.round lo fn tmps assign body) (A.alloc (.cells #[.int .u8 (r.op : Nat), .int .u8 (r.form : Nat), .int .u8 (r.frm : Nat), .int .u8 (r.kind : Nat), .int .u8 0, .int .u8 0, .int .u8 0, .int .u8 0, .int .u8 0, .int .i16 0, .int .u8 0] 27)) at hy
      have HRR := Lib.hid hR
      have HN := Lib.hid hnew
      clear hR hnew hle
      gi_wp2
      refine (roundIn_any HRR.out).mono ?_
      rintro e W4 (⟨rfl, hJ4, hk4, hb4, hf4⟩ | ⟨rfl, hJ4, hk4, hb4, hf4⟩)
      · gi_wp2
        exact ⟨(keeps_below HN.out).trans (keeps_mono hf4 (by have := HSZ.out; omega)), (KX.below (fun b h => (hX b h).2) HN.out).trans (fun b hb => hk4 b (.inr hb)), (HN.out.mono (Nat.le_trans HW.out H3.out.size)).trans hb4, hJ4, H2.out.trans ((KX.below (fun b h => Nat.lt_of_lt_of_le (hXl2 b h) H4.out) HN.out).trans (fun b hb => hk4 b (.inl hb))), (H3.out.trans (HN.out.mono (Nat.le_trans HW.out H3.out.size))).trans hb4, Nat.le_trans H4.out (Nat.le_trans HN.out.size hb4.size)⟩
      · gi_wp2
        exact ⟨(keeps_below HN.out).trans (keeps_mono hf4 (by have := HSZ.out; omega)), (KX.below (fun b h => (hX b h).2) HN.out).trans (fun b hb => hk4 b (.inr hb)), (HN.out.mono (Nat.le_trans HW.out H3.out.size)).trans hb4, ⟨hJ4, H2.out.trans ((KX.below (fun b h => Nat.lt_of_lt_of_le (hXl2 b h) H4.out) HN.out).trans (fun b hb => hk4 b (.inl hb))), (H3.out.trans (HN.out.mono (Nat.le_trans HW.out H3.out.size))).trans hb4, Nat.le_trans H4.out (Nat.le_trans HN.out.size hb4.size)⟩, rfl⟩
    · have z8 : ((r.lay : Int) == 8) = true := by rw [beq_iff_eq]; omega
      have hle : leastI r = ⟨r.op, r.form, r.frm, r.kind, 0, 0, 0, 0, 0, 0, 1⟩ := by unfold leastI; rw [if_pos (by omega)]
      have hnew := (Below.refl A.heap.size A).alloc (Nat.le_refl _) (.cells (instV ⟨r.op, r.form, r.frm, r.kind, 0, 0, 0, 0, 0, 0, 1⟩) 27)
      obtain ⟨fn, tmps, assign, body, hy, hR⟩ := HY.out j (fun b => X2 b ∨ Xi b) (A.alloc (.cells (instV ⟨r.op, r.form, r.frm, r.kind, 0, 0, 0, 0, 0, 0, 1⟩) 27)) (hJ _ _ _ _ H1.out hnew).1 (by rw [HLEN.out]; exact hj)
      rw [HRK.out, hle] at hy
      change (Instr.yield lo #[.agg #[.int .u8 (r.op : Nat), .int .u8 (r.form : Nat), .int .u8 (r.frm : Nat), .int .u8 (r.kind : Nat), .int .u8 0, .int .u8 0, .int .u8 0, .int .u8 0, .int .u8 0, .int .i16 0, .int .u8 1]]).run Try.prog (A.alloc (.cells #[.int .u8 (r.op : Nat), .int .u8 (r.form : Nat), .int .u8 (r.frm : Nat), .int .u8 (r.kind : Nat), .int .u8 0, .int .u8 0, .int .u8 0, .int .u8 0, .int .u8 0, .int .i16 0, .int .u8 1] 27)) = .ok (.round lo fn tmps assign body) (A.alloc (.cells #[.int .u8 (r.op : Nat), .int .u8 (r.form : Nat), .int .u8 (r.frm : Nat), .int .u8 (r.kind : Nat), .int .u8 0, .int .u8 0, .int .u8 0, .int .u8 0, .int .u8 0, .int .i16 0, .int .u8 1] 27)) at hy
      have HRR := Lib.hid hR
      have HN := Lib.hid hnew
      clear hR hnew hle
      gi_wp2
      refine (roundIn_any HRR.out).mono ?_
      rintro e W4 (⟨rfl, hJ4, hk4, hb4, hf4⟩ | ⟨rfl, hJ4, hk4, hb4, hf4⟩)
      · gi_wp2
        exact ⟨(keeps_below HN.out).trans (keeps_mono hf4 (by have := HSZ.out; omega)), (KX.below (fun b h => (hX b h).2) HN.out).trans (fun b hb => hk4 b (.inr hb)), (HN.out.mono (Nat.le_trans HW.out H3.out.size)).trans hb4, hJ4, H2.out.trans ((KX.below (fun b h => Nat.lt_of_lt_of_le (hXl2 b h) H4.out) HN.out).trans (fun b hb => hk4 b (.inl hb))), (H3.out.trans (HN.out.mono (Nat.le_trans HW.out H3.out.size))).trans hb4, Nat.le_trans H4.out (Nat.le_trans HN.out.size hb4.size)⟩
      · gi_wp2
        exact ⟨(keeps_below HN.out).trans (keeps_mono hf4 (by have := HSZ.out; omega)), (KX.below (fun b h => (hX b h).2) HN.out).trans (fun b hb => hk4 b (.inr hb)), (HN.out.mono (Nat.le_trans HW.out H3.out.size)).trans hb4, ⟨hJ4, H2.out.trans ((KX.below (fun b h => Nat.lt_of_lt_of_le (hXl2 b h) H4.out) HN.out).trans (fun b hb => hk4 b (.inl hb))), (H3.out.trans (HN.out.mono (Nat.le_trans HW.out H3.out.size))).trans hb4, Nat.le_trans H4.out (Nat.le_trans HN.out.size hb4.size)⟩, rfl⟩
    · by_cases hy9 : r.lay = 9
      · have z8 : ((r.lay : Int) == 8) = false := by rw [beq_eq_false_iff_ne]; omega
        have z9 : ((r.lay : Int) == 9) = true := by rw [beq_iff_eq]; omega
        have hle : leastI r = ⟨r.op, r.form, r.frm, r.kind, 0, 0, 0, 0, 0, 0, 1⟩ := by unfold leastI; rw [if_pos (by omega)]
        have hnew := (Below.refl A.heap.size A).alloc (Nat.le_refl _) (.cells (instV ⟨r.op, r.form, r.frm, r.kind, 0, 0, 0, 0, 0, 0, 1⟩) 27)
        obtain ⟨fn, tmps, assign, body, hy, hR⟩ := HY.out j (fun b => X2 b ∨ Xi b) (A.alloc (.cells (instV ⟨r.op, r.form, r.frm, r.kind, 0, 0, 0, 0, 0, 0, 1⟩) 27)) (hJ _ _ _ _ H1.out hnew).1 (by rw [HLEN.out]; exact hj)
        rw [HRK.out, hle] at hy
        change (Instr.yield lo #[.agg #[.int .u8 (r.op : Nat), .int .u8 (r.form : Nat), .int .u8 (r.frm : Nat), .int .u8 (r.kind : Nat), .int .u8 0, .int .u8 0, .int .u8 0, .int .u8 0, .int .u8 0, .int .i16 0, .int .u8 1]]).run Try.prog (A.alloc (.cells #[.int .u8 (r.op : Nat), .int .u8 (r.form : Nat), .int .u8 (r.frm : Nat), .int .u8 (r.kind : Nat), .int .u8 0, .int .u8 0, .int .u8 0, .int .u8 0, .int .u8 0, .int .i16 0, .int .u8 1] 27)) = .ok (.round lo fn tmps assign body) (A.alloc (.cells #[.int .u8 (r.op : Nat), .int .u8 (r.form : Nat), .int .u8 (r.frm : Nat), .int .u8 (r.kind : Nat), .int .u8 0, .int .u8 0, .int .u8 0, .int .u8 0, .int .u8 0, .int .i16 0, .int .u8 1] 27)) at hy
        have HRR := Lib.hid hR
        have HN := Lib.hid hnew
        clear hR hnew hle
        gi_wp2
        refine (roundIn_any HRR.out).mono ?_
        rintro e W4 (⟨rfl, hJ4, hk4, hb4, hf4⟩ | ⟨rfl, hJ4, hk4, hb4, hf4⟩)
        · gi_wp2
          exact ⟨(keeps_below HN.out).trans (keeps_mono hf4 (by have := HSZ.out; omega)), (KX.below (fun b h => (hX b h).2) HN.out).trans (fun b hb => hk4 b (.inr hb)), (HN.out.mono (Nat.le_trans HW.out H3.out.size)).trans hb4, hJ4, H2.out.trans ((KX.below (fun b h => Nat.lt_of_lt_of_le (hXl2 b h) H4.out) HN.out).trans (fun b hb => hk4 b (.inl hb))), (H3.out.trans (HN.out.mono (Nat.le_trans HW.out H3.out.size))).trans hb4, Nat.le_trans H4.out (Nat.le_trans HN.out.size hb4.size)⟩
        · gi_wp2
          exact ⟨(keeps_below HN.out).trans (keeps_mono hf4 (by have := HSZ.out; omega)), (KX.below (fun b h => (hX b h).2) HN.out).trans (fun b hb => hk4 b (.inr hb)), (HN.out.mono (Nat.le_trans HW.out H3.out.size)).trans hb4, ⟨hJ4, H2.out.trans ((KX.below (fun b h => Nat.lt_of_lt_of_le (hXl2 b h) H4.out) HN.out).trans (fun b hb => hk4 b (.inl hb))), (H3.out.trans (HN.out.mono (Nat.le_trans HW.out H3.out.size))).trans hb4, Nat.le_trans H4.out (Nat.le_trans HN.out.size hb4.size)⟩, rfl⟩
      · have z8 : ((r.lay : Int) == 8) = false := by rw [beq_eq_false_iff_ne]; omega
        have z9 : ((r.lay : Int) == 9) = false := by rw [beq_eq_false_iff_ne]; omega
        have hle : leastI r = ⟨r.op, r.form, r.frm, r.kind, 0, 0, 0, 0, 0, 0, 0⟩ := by unfold leastI; rw [if_neg (by omega)]
        have hnew := (Below.refl A.heap.size A).alloc (Nat.le_refl _) (.cells (instV ⟨r.op, r.form, r.frm, r.kind, 0, 0, 0, 0, 0, 0, 0⟩) 27)
        obtain ⟨fn, tmps, assign, body, hy, hR⟩ := HY.out j (fun b => X2 b ∨ Xi b) (A.alloc (.cells (instV ⟨r.op, r.form, r.frm, r.kind, 0, 0, 0, 0, 0, 0, 0⟩) 27)) (hJ _ _ _ _ H1.out hnew).1 (by rw [HLEN.out]; exact hj)
        rw [HRK.out, hle] at hy
        change (Instr.yield lo #[.agg #[.int .u8 (r.op : Nat), .int .u8 (r.form : Nat), .int .u8 (r.frm : Nat), .int .u8 (r.kind : Nat), .int .u8 0, .int .u8 0, .int .u8 0, .int .u8 0, .int .u8 0, .int .i16 0, .int .u8 0]]).run Try.prog (A.alloc (.cells #[.int .u8 (r.op : Nat), .int .u8 (r.form : Nat), .int .u8 (r.frm : Nat), .int .u8 (r.kind : Nat), .int .u8 0, .int .u8 0, .int .u8 0, .int .u8 0, .int .u8 0, .int .i16 0, .int .u8 0] 27)) = .ok (.round lo fn tmps assign body) (A.alloc (.cells #[.int .u8 (r.op : Nat), .int .u8 (r.form : Nat), .int .u8 (r.frm : Nat), .int .u8 (r.kind : Nat), .int .u8 0, .int .u8 0, .int .u8 0, .int .u8 0, .int .u8 0, .int .i16 0, .int .u8 0] 27)) at hy
        have HRR := Lib.hid hR
        have HN := Lib.hid hnew
        clear hR hnew hle
        gi_wp2
        refine (roundIn_any HRR.out).mono ?_
        rintro e W4 (⟨rfl, hJ4, hk4, hb4, hf4⟩ | ⟨rfl, hJ4, hk4, hb4, hf4⟩)
        · gi_wp2
          exact ⟨(keeps_below HN.out).trans (keeps_mono hf4 (by have := HSZ.out; omega)), (KX.below (fun b h => (hX b h).2) HN.out).trans (fun b hb => hk4 b (.inr hb)), (HN.out.mono (Nat.le_trans HW.out H3.out.size)).trans hb4, hJ4, H2.out.trans ((KX.below (fun b h => Nat.lt_of_lt_of_le (hXl2 b h) H4.out) HN.out).trans (fun b hb => hk4 b (.inl hb))), (H3.out.trans (HN.out.mono (Nat.le_trans HW.out H3.out.size))).trans hb4, Nat.le_trans H4.out (Nat.le_trans HN.out.size hb4.size)⟩
        · gi_wp2
          exact ⟨(keeps_below HN.out).trans (keeps_mono hf4 (by have := HSZ.out; omega)), (KX.below (fun b h => (hX b h).2) HN.out).trans (fun b hb => hk4 b (.inr hb)), (HN.out.mono (Nat.le_trans HW.out H3.out.size)).trans hb4, ⟨hJ4, H2.out.trans ((KX.below (fun b h => Nat.lt_of_lt_of_le (hXl2 b h) H4.out) HN.out).trans (fun b hb => hk4 b (.inl hb))), (H3.out.trans (HN.out.mono (Nat.le_trans HW.out H3.out.size))).trans hb4, Nat.le_trans H4.out (Nat.le_trans HN.out.size hb4.size)⟩, rfl⟩
  case done =>
    rintro D A hDw ⟨Xi, h1, h2, h3, h4⟩ hK
    gi_wp2
    show LeavesInM _ _ _ _ _ _ (List.map mark [D]) _ _
    refine leaves_mark1 hK ⟨_, results_none rfl _ _ _, ⟨_, rfl⟩, ?_⟩
    have hsD : ∀ b, b < W2.heap.size → (A.putObj D (.deferred none)).heap[b]? = A.heap[b]? := fun b hb => World.putObj_heap_other (by omega)
    refine ⟨fun b hb => (hsD b (hXl2 b (hXW b hb))).trans ((h2 b (hXW b hb)).trans (HK0.out b hb)), h3.trans (below_put _ (Nat.le_trans hn2 hDw) hK), fun b => X2 b ∨ Xi b, fun b hb => .inl (hXW b hb), .inl ?_⟩
    exact (hA2 _ _).put _ h1 hDw hK rfl
  case stop =>
    rintro D c k A hDw hk1 hkl ⟨Xi, ⟨h1, h2, h3, h4⟩, rfl⟩ hK
    gi_wp2
    show LeavesInM _ _ _ _ _ _ (List.map mark [D]) _ _
    refine leaves_mark1 hK ⟨_, results_none rfl _ _ _, ⟨_, rfl⟩, ?_⟩
    have hsD : ∀ b, b < W2.heap.size → (A.putObj D (.deferred none)).heap[b]? = A.heap[b]? := fun b hb => World.putObj_heap_other (by omega)
    refine ⟨fun b hb => (hsD b (hXl2 b (hXW b hb))).trans ((h2 b (hXW b hb)).trans (HK0.out b hb)), h3.trans (below_put _ (Nat.le_trans hn2 hDw) hK), fun b => X2 b ∨ Xi b, fun b hb => .inl (hXW b hb), .inr ⟨k, hkl, hk1, ?_⟩⟩
    exact (hAx2 _ _).put _ h1 hDw hK rfl
end Go.Proofs.Yteelconabmfnkaa
