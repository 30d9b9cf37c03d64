/- Vea: several texts in one. -/
import Derived.Test.YteelconabmfnkaaVc
/- abacusref24.row at classes of lines. -/
namespace Go.Proofs.Yteelconabmfnkaa
open Go Go.RowKit
set_option maxHeartbeats 4000000
set_option maxRecDepth 100000
set_option linter.unusedVariables false
set_option linter.unusedSimpArgs false
theorem row_c2 (w : World) (op code lay n3 nm n2 f g k : Nat) (name : ByteArray) (noq knd : Bool) (hc : code < 128) (h3 : n3 < 32) (hm3 : nm < 8) (h2 : n2 < 32) (hf : f < 4) (hg : g < 4) (hk : k < 4) (hn : name.size ≤ 6) (z21 : ((op : Int) == 21) = false) (z22 : ((op : Int) == 22) = false) (z23 : ((op : Int) == 23) = false) (z25 : ((op : Int) == 25) = false) :
    Calls Try.prog 61 #[.agg (lnV ⟨op, name, code, -1, -1, -1, lay, noq, false, knd, false, false⟩), .int .u8 f, .int .u8 g, .int .u8 k] w fun e w' => e = .returned (.agg (entV (pt25 f (pt0 code ⟨op, f, g, k, 0, 0, lay⟩)) ((name ++ (⟨#[46]⟩ : ByteArray)) ++ (LET f)))) ∧ Below w.heap.size w w' := by
  have hf2 : f < 2 ^ 2 := by omega
  have hg5 : g < 2 ^ 5 := by omega
  have hk5 : k < 2 ^ 5 := by omega
  obtain ⟨s0, hs0⟩ : ∃ s, name ++ (⟨#[46]⟩ : ByteArray) = s := ⟨_, rfl⟩
  have cs0 : ∀ X : World, (Op.stringOp .add name (⟨#[46]⟩ : ByteArray)).run Try.prog X = .ok (.string s0) X := fun X => by rw [← hs0]; exact run_string_add_sum X _ _ (by have := hn; have := (by decide : (⟨#[46]⟩ : ByteArray).size ≤ 2); omega)
  have hz0 : s0.size ≤ 8 := by rw [← hs0, ByteArray.size_append]; have := hn; have := (by decide : (⟨#[46]⟩ : ByteArray).size ≤ 2); omega
  obtain ⟨s1, hs1⟩ : ∃ s, s0 ++ (LET f) = s := ⟨_, rfl⟩
  have cs1 : ∀ X : World, (Op.stringOp .add s0 (LET f)).run Try.prog X = .ok (.string s1) X := fun X => by rw [← hs1]; exact run_string_add_sum X _ _ (by have := hz0; have := (Nat.le_of_eq (LET_size f)); omega)
  have hz1 : s1.size ≤ 10 := by rw [← hs1, ByteArray.size_append]; have := hz0; have := (Nat.le_of_eq (LET_size f)); omega
  have HN : Hid (((name ++ (⟨#[46]⟩ : ByteArray)) ++ (LET f)) = s1) := Lib.hid (by rw [hs0, hs1])
  clear hs0 hs1
  have F0 : Hid (∀ X, Calls Try.prog 83 #[.agg #[.int .u8 (op : Nat), .int .u8 (f : Nat), .int .u8 (g : Nat), .int .u8 (k : Nat), .int .u32 0, .int .u32 0, .int .u8 (lay : Nat)], .int .i64 0, .int .i64 7, .int .i64 (code : Nat)] X fun e w' => e = .returned (.agg (rowV (pt0 code ⟨op, f, g, k, 0, 0, lay⟩))) ∧ Below X.heap.size X w') := Lib.hid (fun X => fix_0 X ⟨op, f, g, k, 0, 0, lay⟩ code (by show 0 < 4294967296; decide) (by show 0 < 4294967296; decide) hc)
  go_enter Try.func61, Try.ntmps61
  go_upto_region 2 with (first
    | (go_at_call 83; (with_reducible refine (F0.out _).mono ?_); rintro e w1 ⟨rfl, b1⟩; clear F0))
  have hS := Rs.start w w1 ⟨op, name, code, -1, -1, -1, lay, noq, false, knd, false, false⟩ code f g k hc b1
  show Code.wp _ _ _ _ (w1.alloc (.cells (rowV (pt0 code ⟨op, f, g, k, 0, 0, lay⟩)) 40))
  simp only [] at hS
  obtain ⟨V0, hV0⟩ : ∃ V, w1.alloc (.cells (rowV (pt0 code ⟨op, f, g, k, 0, 0, lay⟩)) 40) = V := ⟨_, rfl⟩
  obtain ⟨r0, hr0⟩ : ∃ r, pt0 code ⟨op, f, g, k, 0, 0, lay⟩ = r := ⟨_, rfl⟩
  rw [hV0, hr0] at hS
  rw [hV0]
  have HR0 := Lib.hid hr0
  clear hV0 hr0 b1
  obtain ⟨a0, a1, a3, a4, a5, a8, a10, a11⟩ := hS.cells
  go_wp2_with (first
    | (go_at_call 83; (with_reducible refine (fix_25 _ _ f hS.hm hS.ht hf2).mono ?_); rintro e v0 ⟨rfl, bb0⟩; replace hS := hS.call bb0; obtain ⟨r1, hr1⟩ : ∃ r, pt25 f r0 = r := ⟨_, rfl⟩; rw [hr1]; have HR1 := Lib.hid hr1; have hm1 : r1.mask < 4294967296 := (by rw [← hr1]; exact or_lt32 hS.hm (by decide)); have ht1 : r1.mtch < 4294967296 := (by rw [← hr1]; exact or_lt32 hS.ht (by omega)); clear hr1; obtain ⟨a0, a1, a3, a4, a5, a8, a10, a11⟩ := hS.cells)
    | (refine wpList_store_Rs rfl _ _ rfl rfl hS r1 hm1 ht1 rfl ?_; intro V1 hS2; replace hS := hS2; clear hS2 hm1 ht1; obtain ⟨a0, a1, a3, a4, a5, a8, a10, a11⟩ := hS.cells)
    | (go_at_call 85; (with_reducible refine (letter_c _ f hf).mono ?_); rintro e u ⟨rfl, bu⟩; replace hS := hS.call bu; obtain ⟨a0, a1, a3, a4, a5, a8, a10, a11⟩ := hS.cells)
    | (go_at_call 85; (with_reducible refine (letter_c _ g hg).mono ?_); rintro e u ⟨rfl, bu⟩; replace hS := hS.call bu; obtain ⟨a0, a1, a3, a4, a5, a8, a10, a11⟩ := hS.cells)
    | (go_at_call 84; (with_reducible refine (size_c _ f hf).mono ?_); rintro e u ⟨rfl, bu⟩; replace hS := hS.call bu; obtain ⟨a0, a1, a3, a4, a5, a8, a10, a11⟩ := hS.cells)
    | (go_at_call 86; (with_reducible refine (kind_c _ k hk).mono ?_); rintro e u ⟨rfl, bu⟩; replace hS := hS.call bu; obtain ⟨a0, a1, a3, a4, a5, a8, a10, a11⟩ := hS.cells)
    | (refine wpList_load_blk rfl _ _ rfl _ rfl _ _ _ hS.row Try.underlying40 rfl (by kernel_rfl) ?_)
    | (refine wpList_store_blk rfl _ _ _ rfl _ _ rfl rfl _ _ hS.nm (by kernel_rfl) rfl (by simp [Value.oneCell']) ?_))
  rw [HN.out, HR0.out, HR1.out]
  exact bodyPost_ret (results_cell rfl _ _ (w.heap.size + 1) _ _ _ rfl (hS.nm.row _) Try.underlying42 rfl (by kernel_rfl)) rfl ⟨rfl, below_setRow hS.bel (by omega) _⟩
theorem row_c3 (w : World) (op code lay n3 nm n2 f g k : Nat) (name : ByteArray) (noq knd : Bool) (hc : code < 128) (h3 : n3 < 32) (hm3 : nm < 8) (h2 : n2 < 32) (hf : f < 4) (hg : g < 4) (hk : k < 4) (hn : name.size ≤ 6) (z21 : ((op : Int) == 21) = false) (z22 : ((op : Int) == 22) = false) (z23 : ((op : Int) == 23) = false) (z25 : ((op : Int) == 25) = false) :
    Calls Try.prog 61 #[.agg (lnV ⟨op, name, code, (n3 : Nat), -1, -1, lay, noq, false, knd, false, false⟩), .int .u8 f, .int .u8 g, .int .u8 k] w fun e w' => e = .returned (.agg (entV (pt25 f (pt27 n3 (pt0 code ⟨op, f, g, k, 0, 0, lay⟩))) ((name ++ (⟨#[46]⟩ : ByteArray)) ++ (LET f)))) ∧ Below w.heap.size w w' := by
  have hf2 : f < 2 ^ 2 := by omega
  have hg5 : g < 2 ^ 5 := by omega
  have hk5 : k < 2 ^ 5 := by omega
  obtain ⟨s0, hs0⟩ : ∃ s, name ++ (⟨#[46]⟩ : ByteArray) = s := ⟨_, rfl⟩
  have cs0 : ∀ X : World, (Op.stringOp .add name (⟨#[46]⟩ : ByteArray)).run Try.prog X = .ok (.string s0) X := fun X => by rw [← hs0]; exact run_string_add_sum X _ _ (by have := hn; have := (by decide : (⟨#[46]⟩ : ByteArray).size ≤ 2); omega)
  have hz0 : s0.size ≤ 8 := by rw [← hs0, ByteArray.size_append]; have := hn; have := (by decide : (⟨#[46]⟩ : ByteArray).size ≤ 2); omega
  obtain ⟨s1, hs1⟩ : ∃ s, s0 ++ (LET f) = s := ⟨_, rfl⟩
  have cs1 : ∀ X : World, (Op.stringOp .add s0 (LET f)).run Try.prog X = .ok (.string s1) X := fun X => by rw [← hs1]; exact run_string_add_sum X _ _ (by have := hz0; have := (Nat.le_of_eq (LET_size f)); omega)
  have hz1 : s1.size ≤ 10 := by rw [← hs1, ByteArray.size_append]; have := hz0; have := (Nat.le_of_eq (LET_size f)); omega
  have HN : Hid (((name ++ (⟨#[46]⟩ : ByteArray)) ++ (LET f)) = s1) := Lib.hid (by rw [hs0, hs1])
  clear hs0 hs1
  have F0 : Hid (∀ X, Calls Try.prog 83 #[.agg #[.int .u8 (op : Nat), .int .u8 (f : Nat), .int .u8 (g : Nat), .int .u8 (k : Nat), .int .u32 0, .int .u32 0, .int .u8 (lay : Nat)], .int .i64 0, .int .i64 7, .int .i64 (code : Nat)] X fun e w' => e = .returned (.agg (rowV (pt0 code ⟨op, f, g, k, 0, 0, lay⟩))) ∧ Below X.heap.size X w') := Lib.hid (fun X => fix_0 X ⟨op, f, g, k, 0, 0, lay⟩ code (by show 0 < 4294967296; decide) (by show 0 < 4294967296; decide) hc)
  go_enter Try.func61, Try.ntmps61
  go_upto_region 2 with (first
    | (go_at_call 83; (with_reducible refine (F0.out _).mono ?_); rintro e w1 ⟨rfl, b1⟩; clear F0))
  have hS := Rs.start w w1 ⟨op, name, code, (n3 : Nat), -1, -1, lay, noq, false, knd, false, false⟩ code f g k hc b1
  show Code.wp _ _ _ _ (w1.alloc (.cells (rowV (pt0 code ⟨op, f, g, k, 0, 0, lay⟩)) 40))
  simp only [] at hS
  obtain ⟨V0, hV0⟩ : ∃ V, w1.alloc (.cells (rowV (pt0 code ⟨op, f, g, k, 0, 0, lay⟩)) 40) = V := ⟨_, rfl⟩
  obtain ⟨r0, hr0⟩ : ∃ r, pt0 code ⟨op, f, g, k, 0, 0, lay⟩ = r := ⟨_, rfl⟩
  rw [hV0, hr0] at hS
  rw [hV0]
  have HR0 := Lib.hid hr0
  clear hV0 hr0 b1
  obtain ⟨a0, a1, a3, a4, a5, a8, a10, a11⟩ := hS.cells
  go_wp2_with (first
    | (go_at_call 83; (with_reducible refine (fix_27 _ _ n3 hS.hm hS.ht h3).mono ?_); rintro e v0 ⟨rfl, bb0⟩; replace hS := hS.call bb0; obtain ⟨r1, hr1⟩ : ∃ r, pt27 n3 r0 = r := ⟨_, rfl⟩; rw [hr1]; have HR1 := Lib.hid hr1; have hm1 : r1.mask < 4294967296 := (by rw [← hr1]; exact or_lt32 hS.hm (by decide)); have ht1 : r1.mtch < 4294967296 := (by rw [← hr1]; exact or_lt32 hS.ht (by omega)); clear hr1; obtain ⟨a0, a1, a3, a4, a5, a8, a10, a11⟩ := hS.cells)
    | (refine wpList_store_Rs rfl _ _ rfl rfl hS r1 hm1 ht1 rfl ?_; intro V1 hS2; replace hS := hS2; clear hS2 hm1 ht1; obtain ⟨a0, a1, a3, a4, a5, a8, a10, a11⟩ := hS.cells)
    | (go_at_call 83; (with_reducible refine (fix_25 _ _ f hS.hm hS.ht hf2).mono ?_); rintro e v1 ⟨rfl, bb1⟩; replace hS := hS.call bb1; obtain ⟨r2, hr2⟩ : ∃ r, pt25 f r1 = r := ⟨_, rfl⟩; rw [hr2]; have HR2 := Lib.hid hr2; have hm2 : r2.mask < 4294967296 := (by rw [← hr2]; exact or_lt32 hS.hm (by decide)); have ht2 : r2.mtch < 4294967296 := (by rw [← hr2]; exact or_lt32 hS.ht (by omega)); clear hr2; obtain ⟨a0, a1, a3, a4, a5, a8, a10, a11⟩ := hS.cells)
    | (refine wpList_store_Rs rfl _ _ rfl rfl hS r2 hm2 ht2 rfl ?_; intro V2 hS2; replace hS := hS2; clear hS2 hm2 ht2; obtain ⟨a0, a1, a3, a4, a5, a8, a10, a11⟩ := hS.cells)
    | (go_at_call 85; (with_reducible refine (letter_c _ f hf).mono ?_); rintro e u ⟨rfl, bu⟩; replace hS := hS.call bu; obtain ⟨a0, a1, a3, a4, a5, a8, a10, a11⟩ := hS.cells)
    | (go_at_call 85; (with_reducible refine (letter_c _ g hg).mono ?_); rintro e u ⟨rfl, bu⟩; replace hS := hS.call bu; obtain ⟨a0, a1, a3, a4, a5, a8, a10, a11⟩ := hS.cells)
    | (go_at_call 84; (with_reducible refine (size_c _ f hf).mono ?_); rintro e u ⟨rfl, bu⟩; replace hS := hS.call bu; obtain ⟨a0, a1, a3, a4, a5, a8, a10, a11⟩ := hS.cells)
    | (go_at_call 86; (with_reducible refine (kind_c _ k hk).mono ?_); rintro e u ⟨rfl, bu⟩; replace hS := hS.call bu; obtain ⟨a0, a1, a3, a4, a5, a8, a10, a11⟩ := hS.cells)
    | (refine wpList_load_blk rfl _ _ rfl _ rfl _ _ _ hS.row Try.underlying40 rfl (by kernel_rfl) ?_)
    | (refine wpList_store_blk rfl _ _ _ rfl _ _ rfl rfl _ _ hS.nm (by kernel_rfl) rfl (by simp [Value.oneCell']) ?_))
  rw [HN.out, HR0.out, HR1.out, HR2.out]
  exact bodyPost_ret (results_cell rfl _ _ (w.heap.size + 1) _ _ _ rfl (hS.nm.row _) Try.underlying42 rfl (by kernel_rfl)) rfl ⟨rfl, below_setRow hS.bel (by omega) _⟩
theorem row_c4 (w : World) (op code lay n3 nm n2 f g k : Nat) (name : ByteArray) (noq knd : Bool) (hc : code < 128) (h3 : n3 < 32) (hm3 : nm < 8) (h2 : n2 < 32) (hf : f < 4) (hg : g < 4) (hk : k < 4) (hn : name.size ≤ 6) (z21 : ((op : Int) == 21) = false) (z22 : ((op : Int) == 22) = false) (z23 : ((op : Int) == 23) = false) (z25 : ((op : Int) == 25) = false) :
    Calls Try.prog 61 #[.agg (lnV ⟨op, name, code, (n3 : Nat), -1, (n2 : Nat), lay, noq, false, knd, false, false⟩), .int .u8 f, .int .u8 g, .int .u8 k] w fun e w' => e = .returned (.agg (entV (pt20 n2 (pt25 f (pt27 n3 (pt0 code ⟨op, f, g, k, 0, 0, lay⟩)))) ((name ++ (⟨#[46]⟩ : ByteArray)) ++ (LET f)))) ∧ Below w.heap.size w w' := by
  have hf2 : f < 2 ^ 2 := by omega
  have hg5 : g < 2 ^ 5 := by omega
  have hk5 : k < 2 ^ 5 := by omega
  obtain ⟨s0, hs0⟩ : ∃ s, name ++ (⟨#[46]⟩ : ByteArray) = s := ⟨_, rfl⟩
  have cs0 : ∀ X : World, (Op.stringOp .add name (⟨#[46]⟩ : ByteArray)).run Try.prog X = .ok (.string s0) X := fun X => by rw [← hs0]; exact run_string_add_sum X _ _ (by have := hn; have := (by decide : (⟨#[46]⟩ : ByteArray).size ≤ 2); omega)
  have hz0 : s0.size ≤ 8 := by rw [← hs0, ByteArray.size_append]; have := hn; have := (by decide : (⟨#[46]⟩ : ByteArray).size ≤ 2); omega
  obtain ⟨s1, hs1⟩ : ∃ s, s0 ++ (LET f) = s := ⟨_, rfl⟩
  have cs1 : ∀ X : World, (Op.stringOp .add s0 (LET f)).run Try.prog X = .ok (.string s1) X := fun X => by rw [← hs1]; exact run_string_add_sum X _ _ (by have := hz0; have := (Nat.le_of_eq (LET_size f)); omega)
  have hz1 : s1.size ≤ 10 := by rw [← hs1, ByteArray.size_append]; have := hz0; have := (Nat.le_of_eq (LET_size f)); omega
  have HN : Hid (((name ++ (⟨#[46]⟩ : ByteArray)) ++ (LET f)) = s1) := Lib.hid (by rw [hs0, hs1])
  clear hs0 hs1
  have F0 : Hid (∀ X, Calls Try.prog 83 #[.agg #[.int .u8 (op : Nat), .int .u8 (f : Nat), .int .u8 (g : Nat), .int .u8 (k : Nat), .int .u32 0, .int .u32 0, .int .u8 (lay : Nat)], .int .i64 0, .int .i64 7, .int .i64 (code : Nat)] X fun e w' => e = .returned (.agg (rowV (pt0 code ⟨op, f, g, k, 0, 0, lay⟩))) ∧ Below X.heap.size X w') := Lib.hid (fun X => fix_0 X ⟨op, f, g, k, 0, 0, lay⟩ code (by show 0 < 4294967296; decide) (by show 0 < 4294967296; decide) hc)
  go_enter Try.func61, Try.ntmps61
  go_upto_region 2 with (first
    | (go_at_call 83; (with_reducible refine (F0.out _).mono ?_); rintro e w1 ⟨rfl, b1⟩; clear F0))
  have hS := Rs.start w w1 ⟨op, name, code, (n3 : Nat), -1, (n2 : Nat), lay, noq, false, knd, false, false⟩ code f g k hc b1
  show Code.wp _ _ _ _ (w1.alloc (.cells (rowV (pt0 code ⟨op, f, g, k, 0, 0, lay⟩)) 40))
  simp only [] at hS
  obtain ⟨V0, hV0⟩ : ∃ V, w1.alloc (.cells (rowV (pt0 code ⟨op, f, g, k, 0, 0, lay⟩)) 40) = V := ⟨_, rfl⟩
  obtain ⟨r0, hr0⟩ : ∃ r, pt0 code ⟨op, f, g, k, 0, 0, lay⟩ = r := ⟨_, rfl⟩
  rw [hV0, hr0] at hS
  rw [hV0]
  have HR0 := Lib.hid hr0
  clear hV0 hr0 b1
  obtain ⟨a0, a1, a3, a4, a5, a8, a10, a11⟩ := hS.cells
  go_wp2_with (first
    | (go_at_call 83; (with_reducible refine (fix_27 _ _ n3 hS.hm hS.ht h3).mono ?_); rintro e v0 ⟨rfl, bb0⟩; replace hS := hS.call bb0; obtain ⟨r1, hr1⟩ : ∃ r, pt27 n3 r0 = r := ⟨_, rfl⟩; rw [hr1]; have HR1 := Lib.hid hr1; have hm1 : r1.mask < 4294967296 := (by rw [← hr1]; exact or_lt32 hS.hm (by decide)); have ht1 : r1.mtch < 4294967296 := (by rw [← hr1]; exact or_lt32 hS.ht (by omega)); clear hr1; obtain ⟨a0, a1, a3, a4, a5, a8, a10, a11⟩ := hS.cells)
    | (refine wpList_store_Rs rfl _ _ rfl rfl hS r1 hm1 ht1 rfl ?_; intro V1 hS2; replace hS := hS2; clear hS2 hm1 ht1; obtain ⟨a0, a1, a3, a4, a5, a8, a10, a11⟩ := hS.cells)
    | (go_at_call 83; (with_reducible refine (fix_25 _ _ f hS.hm hS.ht hf2).mono ?_); rintro e v1 ⟨rfl, bb1⟩; replace hS := hS.call bb1; obtain ⟨r2, hr2⟩ : ∃ r, pt25 f r1 = r := ⟨_, rfl⟩; rw [hr2]; have HR2 := Lib.hid hr2; have hm2 : r2.mask < 4294967296 := (by rw [← hr2]; exact or_lt32 hS.hm (by decide)); have ht2 : r2.mtch < 4294967296 := (by rw [← hr2]; exact or_lt32 hS.ht (by omega)); clear hr2; obtain ⟨a0, a1, a3, a4, a5, a8, a10, a11⟩ := hS.cells)
    | (refine wpList_store_Rs rfl _ _ rfl rfl hS r2 hm2 ht2 rfl ?_; intro V2 hS2; replace hS := hS2; clear hS2 hm2 ht2; obtain ⟨a0, a1, a3, a4, a5, a8, a10, a11⟩ := hS.cells)
    | (go_at_call 83; (with_reducible refine (fix_20 _ _ n2 hS.hm hS.ht h2).mono ?_); rintro e v2 ⟨rfl, bb2⟩; replace hS := hS.call bb2; obtain ⟨r3, hr3⟩ : ∃ r, pt20 n2 r2 = r := ⟨_, rfl⟩; rw [hr3]; have HR3 := Lib.hid hr3; have hm3 : r3.mask < 4294967296 := (by rw [← hr3]; exact or_lt32 hS.hm (by decide)); have ht3 : r3.mtch < 4294967296 := (by rw [← hr3]; exact or_lt32 hS.ht (by omega)); clear hr3; obtain ⟨a0, a1, a3, a4, a5, a8, a10, a11⟩ := hS.cells)
    | (refine wpList_store_Rs rfl _ _ rfl rfl hS r3 hm3 ht3 rfl ?_; intro V3 hS2; replace hS := hS2; clear hS2 hm3 ht3; obtain ⟨a0, a1, a3, a4, a5, a8, a10, a11⟩ := hS.cells)
    | (go_at_call 85; (with_reducible refine (letter_c _ f hf).mono ?_); rintro e u ⟨rfl, bu⟩; replace hS := hS.call bu; obtain ⟨a0, a1, a3, a4, a5, a8, a10, a11⟩ := hS.cells)
    | (go_at_call 85; (with_reducible refine (letter_c _ g hg).mono ?_); rintro e u ⟨rfl, bu⟩; replace hS := hS.call bu; obtain ⟨a0, a1, a3, a4, a5, a8, a10, a11⟩ := hS.cells)
    | (go_at_call 84; (with_reducible refine (size_c _ f hf).mono ?_); rintro e u ⟨rfl, bu⟩; replace hS := hS.call bu; obtain ⟨a0, a1, a3, a4, a5, a8, a10, a11⟩ := hS.cells)
    | (go_at_call 86; (with_reducible refine (kind_c _ k hk).mono ?_); rintro e u ⟨rfl, bu⟩; replace hS := hS.call bu; obtain ⟨a0, a1, a3, a4, a5, a8, a10, a11⟩ := hS.cells)
    | (refine wpList_load_blk rfl _ _ rfl _ rfl _ _ _ hS.row Try.underlying40 rfl (by kernel_rfl) ?_)
    | (refine wpList_store_blk rfl _ _ _ rfl _ _ rfl rfl _ _ hS.nm (by kernel_rfl) rfl (by simp [Value.oneCell']) ?_))
  rw [HN.out, HR0.out, HR1.out, HR2.out, HR3.out]
  exact bodyPost_ret (results_cell rfl _ _ (w.heap.size + 1) _ _ _ rfl (hS.nm.row _) Try.underlying42 rfl (by kernel_rfl)) rfl ⟨rfl, below_setRow hS.bel (by omega) _⟩
end Go.Proofs.Yteelconabmfnkaa

/- abacusref24.row at classes of lines. -/
namespace Go.Proofs.Yteelconabmfnkaa
open Go Go.RowKit
set_option maxHeartbeats 4000000
set_option maxRecDepth 100000
set_option linter.unusedVariables false
set_option linter.unusedSimpArgs false
theorem row_c5 (w : World) (op code lay n3 nm n2 f g k : Nat) (name : ByteArray) (noq knd : Bool) (hc : code < 128) (h3 : n3 < 32) (hm3 : nm < 8) (h2 : n2 < 32) (hf : f < 4) (hg : g < 4) (hk : k < 4) (hn : name.size ≤ 6) (z21 : ((op : Int) == 21) = false) (z22 : ((op : Int) == 22) = false) (z23 : ((op : Int) == 23) = false) (z25 : ((op : Int) == 25) = false) :
    Calls Try.prog 61 #[.agg (lnV ⟨op, name, code, (n3 : Nat), (nm : Nat), -1, lay, noq, false, knd, false, false⟩), .int .u8 f, .int .u8 g, .int .u8 k] w fun e w' => e = .returned (.agg (entV (pt12 nm (pt25 f (pt27 n3 (pt0 code ⟨op, f, g, k, 0, 0, lay⟩)))) ((name ++ (⟨#[46]⟩ : ByteArray)) ++ (LET f)))) ∧ Below w.heap.size w w' := by
  have hf2 : f < 2 ^ 2 := by omega
  have hg5 : g < 2 ^ 5 := by omega
  have hk5 : k < 2 ^ 5 := by omega
  obtain ⟨s0, hs0⟩ : ∃ s, name ++ (⟨#[46]⟩ : ByteArray) = s := ⟨_, rfl⟩
  have cs0 : ∀ X : World, (Op.stringOp .add name (⟨#[46]⟩ : ByteArray)).run Try.prog X = .ok (.string s0) X := fun X => by rw [← hs0]; exact run_string_add_sum X _ _ (by have := hn; have := (by decide : (⟨#[46]⟩ : ByteArray).size ≤ 2); omega)
  have hz0 : s0.size ≤ 8 := by rw [← hs0, ByteArray.size_append]; have := hn; have := (by decide : (⟨#[46]⟩ : ByteArray).size ≤ 2); omega
  obtain ⟨s1, hs1⟩ : ∃ s, s0 ++ (LET f) = s := ⟨_, rfl⟩
  have cs1 : ∀ X : World, (Op.stringOp .add s0 (LET f)).run Try.prog X = .ok (.string s1) X := fun X => by rw [← hs1]; exact run_string_add_sum X _ _ (by have := hz0; have := (Nat.le_of_eq (LET_size f)); omega)
  have hz1 : s1.size ≤ 10 := by rw [← hs1, ByteArray.size_append]; have := hz0; have := (Nat.le_of_eq (LET_size f)); omega
  have HN : Hid (((name ++ (⟨#[46]⟩ : ByteArray)) ++ (LET f)) = s1) := Lib.hid (by rw [hs0, hs1])
  clear hs0 hs1
  have F0 : Hid (∀ X, Calls Try.prog 83 #[.agg #[.int .u8 (op : Nat), .int .u8 (f : Nat), .int .u8 (g : Nat), .int .u8 (k : Nat), .int .u32 0, .int .u32 0, .int .u8 (lay : Nat)], .int .i64 0, .int .i64 7, .int .i64 (code : Nat)] X fun e w' => e = .returned (.agg (rowV (pt0 code ⟨op, f, g, k, 0, 0, lay⟩))) ∧ Below X.heap.size X w') := Lib.hid (fun X => fix_0 X ⟨op, f, g, k, 0, 0, lay⟩ code (by show 0 < 4294967296; decide) (by show 0 < 4294967296; decide) hc)
  go_enter Try.func61, Try.ntmps61
  go_upto_region 2 with (first
    | (go_at_call 83; (with_reducible refine (F0.out _).mono ?_); rintro e w1 ⟨rfl, b1⟩; clear F0))
  have hS := Rs.start w w1 ⟨op, name, code, (n3 : Nat), (nm : Nat), -1, lay, noq, false, knd, false, false⟩ code f g k hc b1
  show Code.wp _ _ _ _ (w1.alloc (.cells (rowV (pt0 code ⟨op, f, g, k, 0, 0, lay⟩)) 40))
  simp only [] at hS
  obtain ⟨V0, hV0⟩ : ∃ V, w1.alloc (.cells (rowV (pt0 code ⟨op, f, g, k, 0, 0, lay⟩)) 40) = V := ⟨_, rfl⟩
  obtain ⟨r0, hr0⟩ : ∃ r, pt0 code ⟨op, f, g, k, 0, 0, lay⟩ = r := ⟨_, rfl⟩
  rw [hV0, hr0] at hS
  rw [hV0]
  have HR0 := Lib.hid hr0
  clear hV0 hr0 b1
  obtain ⟨a0, a1, a3, a4, a5, a8, a10, a11⟩ := hS.cells
  go_wp2_with (first
    | (go_at_call 83; (with_reducible refine (fix_27 _ _ n3 hS.hm hS.ht h3).mono ?_); rintro e v0 ⟨rfl, bb0⟩; replace hS := hS.call bb0; obtain ⟨r1, hr1⟩ : ∃ r, pt27 n3 r0 = r := ⟨_, rfl⟩; rw [hr1]; have HR1 := Lib.hid hr1; have hm1 : r1.mask < 4294967296 := (by rw [← hr1]; exact or_lt32 hS.hm (by decide)); have ht1 : r1.mtch < 4294967296 := (by rw [← hr1]; exact or_lt32 hS.ht (by omega)); clear hr1; obtain ⟨a0, a1, a3, a4, a5, a8, a10, a11⟩ := hS.cells)
    | (refine wpList_store_Rs rfl _ _ rfl rfl hS r1 hm1 ht1 rfl ?_; intro V1 hS2; replace hS := hS2; clear hS2 hm1 ht1; obtain ⟨a0, a1, a3, a4, a5, a8, a10, a11⟩ := hS.cells)
    | (go_at_call 83; (with_reducible refine (fix_25 _ _ f hS.hm hS.ht hf2).mono ?_); rintro e v1 ⟨rfl, bb1⟩; replace hS := hS.call bb1; obtain ⟨r2, hr2⟩ : ∃ r, pt25 f r1 = r := ⟨_, rfl⟩; rw [hr2]; have HR2 := Lib.hid hr2; have hm2 : r2.mask < 4294967296 := (by rw [← hr2]; exact or_lt32 hS.hm (by decide)); have ht2 : r2.mtch < 4294967296 := (by rw [← hr2]; exact or_lt32 hS.ht (by omega)); clear hr2; obtain ⟨a0, a1, a3, a4, a5, a8, a10, a11⟩ := hS.cells)
    | (refine wpList_store_Rs rfl _ _ rfl rfl hS r2 hm2 ht2 rfl ?_; intro V2 hS2; replace hS := hS2; clear hS2 hm2 ht2; obtain ⟨a0, a1, a3, a4, a5, a8, a10, a11⟩ := hS.cells)
    | (go_at_call 83; (with_reducible refine (fix_12 _ _ nm hS.hm hS.ht hm3).mono ?_); rintro e v2 ⟨rfl, bb2⟩; replace hS := hS.call bb2; obtain ⟨r3, hr3⟩ : ∃ r, pt12 nm r2 = r := ⟨_, rfl⟩; rw [hr3]; have HR3 := Lib.hid hr3; have hm3 : r3.mask < 4294967296 := (by rw [← hr3]; exact or_lt32 hS.hm (by decide)); have ht3 : r3.mtch < 4294967296 := (by rw [← hr3]; exact or_lt32 hS.ht (by omega)); clear hr3; obtain ⟨a0, a1, a3, a4, a5, a8, a10, a11⟩ := hS.cells)
    | (refine wpList_store_Rs rfl _ _ rfl rfl hS r3 hm3 ht3 rfl ?_; intro V3 hS2; replace hS := hS2; clear hS2 hm3 ht3; obtain ⟨a0, a1, a3, a4, a5, a8, a10, a11⟩ := hS.cells)
    | (go_at_call 85; (with_reducible refine (letter_c _ f hf).mono ?_); rintro e u ⟨rfl, bu⟩; replace hS := hS.call bu; obtain ⟨a0, a1, a3, a4, a5, a8, a10, a11⟩ := hS.cells)
    | (go_at_call 85; (with_reducible refine (letter_c _ g hg).mono ?_); rintro e u ⟨rfl, bu⟩; replace hS := hS.call bu; obtain ⟨a0, a1, a3, a4, a5, a8, a10, a11⟩ := hS.cells)
    | (go_at_call 84; (with_reducible refine (size_c _ f hf).mono ?_); rintro e u ⟨rfl, bu⟩; replace hS := hS.call bu; obtain ⟨a0, a1, a3, a4, a5, a8, a10, a11⟩ := hS.cells)
    | (go_at_call 86; (with_reducible refine (kind_c _ k hk).mono ?_); rintro e u ⟨rfl, bu⟩; replace hS := hS.call bu; obtain ⟨a0, a1, a3, a4, a5, a8, a10, a11⟩ := hS.cells)
    | (refine wpList_load_blk rfl _ _ rfl _ rfl _ _ _ hS.row Try.underlying40 rfl (by kernel_rfl) ?_)
    | (refine wpList_store_blk rfl _ _ _ rfl _ _ rfl rfl _ _ hS.nm (by kernel_rfl) rfl (by simp [Value.oneCell']) ?_))
  rw [HN.out, HR0.out, HR1.out, HR2.out, HR3.out]
  exact bodyPost_ret (results_cell rfl _ _ (w.heap.size + 1) _ _ _ rfl (hS.nm.row _) Try.underlying42 rfl (by kernel_rfl)) rfl ⟨rfl, below_setRow hS.bel (by omega) _⟩
theorem row_c10 (w : World) (op code lay n3 nm n2 f g k : Nat) (name : ByteArray) (noq knd : Bool) (hc : code < 128) (h3 : n3 < 32) (hm3 : nm < 8) (h2 : n2 < 32) (hf : f < 4) (hg : g < 4) (hk : k < 4) (hn : name.size ≤ 6) (z21 : ((op : Int) == 21) = false) (z22 : ((op : Int) == 22) = false) (z23 : ((op : Int) == 23) = false) (z25 : ((op : Int) == 25) = false) :
    Calls Try.prog 61 #[.agg (lnV ⟨op, name, code, (n3 : Nat), (nm : Nat), (n2 : Nat), lay, noq, false, knd, false, false⟩), .int .u8 f, .int .u8 g, .int .u8 k] w fun e w' => e = .returned (.agg (entV (pt20 n2 (pt12 nm (pt25 f (pt27 n3 (pt0 code ⟨op, f, g, k, 0, 0, lay⟩))))) ((name ++ (⟨#[46]⟩ : ByteArray)) ++ (LET f)))) ∧ Below w.heap.size w w' := by
  have hf2 : f < 2 ^ 2 := by omega
  have hg5 : g < 2 ^ 5 := by omega
  have hk5 : k < 2 ^ 5 := by omega
  obtain ⟨s0, hs0⟩ : ∃ s, name ++ (⟨#[46]⟩ : ByteArray) = s := ⟨_, rfl⟩
  have cs0 : ∀ X : World, (Op.stringOp .add name (⟨#[46]⟩ : ByteArray)).run Try.prog X = .ok (.string s0) X := fun X => by rw [← hs0]; exact run_string_add_sum X _ _ (by have := hn; have := (by decide : (⟨#[46]⟩ : ByteArray).size ≤ 2); omega)
  have hz0 : s0.size ≤ 8 := by rw [← hs0, ByteArray.size_append]; have := hn; have := (by decide : (⟨#[46]⟩ : ByteArray).size ≤ 2); omega
  obtain ⟨s1, hs1⟩ : ∃ s, s0 ++ (LET f) = s := ⟨_, rfl⟩
  have cs1 : ∀ X : World, (Op.stringOp .add s0 (LET f)).run Try.prog X = .ok (.string s1) X := fun X => by rw [← hs1]; exact run_string_add_sum X _ _ (by have := hz0; have := (Nat.le_of_eq (LET_size f)); omega)
  have hz1 : s1.size ≤ 10 := by rw [← hs1, ByteArray.size_append]; have := hz0; have := (Nat.le_of_eq (LET_size f)); omega
  have HN : Hid (((name ++ (⟨#[46]⟩ : ByteArray)) ++ (LET f)) = s1) := Lib.hid (by rw [hs0, hs1])
  clear hs0 hs1
  have F0 : Hid (∀ X, Calls Try.prog 83 #[.agg #[.int .u8 (op : Nat), .int .u8 (f : Nat), .int .u8 (g : Nat), .int .u8 (k : Nat), .int .u32 0, .int .u32 0, .int .u8 (lay : Nat)], .int .i64 0, .int .i64 7, .int .i64 (code : Nat)] X fun e w' => e = .returned (.agg (rowV (pt0 code ⟨op, f, g, k, 0, 0, lay⟩))) ∧ Below X.heap.size X w') := Lib.hid (fun X => fix_0 X ⟨op, f, g, k, 0, 0, lay⟩ code (by show 0 < 4294967296; decide) (by show 0 < 4294967296; decide) hc)
  go_enter Try.func61, Try.ntmps61
  go_upto_region 2 with (first
    | (go_at_call 83; (with_reducible refine (F0.out _).mono ?_); rintro e w1 ⟨rfl, b1⟩; clear F0))
  have hS := Rs.start w w1 ⟨op, name, code, (n3 : Nat), (nm : Nat), (n2 : Nat), lay, noq, false, knd, false, false⟩ code f g k hc b1
  show Code.wp _ _ _ _ (w1.alloc (.cells (rowV (pt0 code ⟨op, f, g, k, 0, 0, lay⟩)) 40))
  simp only [] at hS
  obtain ⟨V0, hV0⟩ : ∃ V, w1.alloc (.cells (rowV (pt0 code ⟨op, f, g, k, 0, 0, lay⟩)) 40) = V := ⟨_, rfl⟩
  obtain ⟨r0, hr0⟩ : ∃ r, pt0 code ⟨op, f, g, k, 0, 0, lay⟩ = r := ⟨_, rfl⟩
  rw [hV0, hr0] at hS
  rw [hV0]
  have HR0 := Lib.hid hr0
  clear hV0 hr0 b1
  obtain ⟨a0, a1, a3, a4, a5, a8, a10, a11⟩ := hS.cells
  go_wp2_with (first
    | (go_at_call 83; (with_reducible refine (fix_27 _ _ n3 hS.hm hS.ht h3).mono ?_); rintro e v0 ⟨rfl, bb0⟩; replace hS := hS.call bb0; obtain ⟨r1, hr1⟩ : ∃ r, pt27 n3 r0 = r := ⟨_, rfl⟩; rw [hr1]; have HR1 := Lib.hid hr1; have hm1 : r1.mask < 4294967296 := (by rw [← hr1]; exact or_lt32 hS.hm (by decide)); have ht1 : r1.mtch < 4294967296 := (by rw [← hr1]; exact or_lt32 hS.ht (by omega)); clear hr1; obtain ⟨a0, a1, a3, a4, a5, a8, a10, a11⟩ := hS.cells)
    | (refine wpList_store_Rs rfl _ _ rfl rfl hS r1 hm1 ht1 rfl ?_; intro V1 hS2; replace hS := hS2; clear hS2 hm1 ht1; obtain ⟨a0, a1, a3, a4, a5, a8, a10, a11⟩ := hS.cells)
    | (go_at_call 83; (with_reducible refine (fix_25 _ _ f hS.hm hS.ht hf2).mono ?_); rintro e v1 ⟨rfl, bb1⟩; replace hS := hS.call bb1; obtain ⟨r2, hr2⟩ : ∃ r, pt25 f r1 = r := ⟨_, rfl⟩; rw [hr2]; have HR2 := Lib.hid hr2; have hm2 : r2.mask < 4294967296 := (by rw [← hr2]; exact or_lt32 hS.hm (by decide)); have ht2 : r2.mtch < 4294967296 := (by rw [← hr2]; exact or_lt32 hS.ht (by omega)); clear hr2; obtain ⟨a0, a1, a3, a4, a5, a8, a10, a11⟩ := hS.cells)
    | (refine wpList_store_Rs rfl _ _ rfl rfl hS r2 hm2 ht2 rfl ?_; intro V2 hS2; replace hS := hS2; clear hS2 hm2 ht2; obtain ⟨a0, a1, a3, a4, a5, a8, a10, a11⟩ := hS.cells)
    | (go_at_call 83; (with_reducible refine (fix_12 _ _ nm hS.hm hS.ht hm3).mono ?_); rintro e v2 ⟨rfl, bb2⟩; replace hS := hS.call bb2; obtain ⟨r3, hr3⟩ : ∃ r, pt12 nm r2 = r := ⟨_, rfl⟩; rw [hr3]; have HR3 := Lib.hid hr3; have hm3 : r3.mask < 4294967296 := (by rw [← hr3]; exact or_lt32 hS.hm (by decide)); have ht3 : r3.mtch < 4294967296 := (by rw [← hr3]; exact or_lt32 hS.ht (by omega)); clear hr3; obtain ⟨a0, a1, a3, a4, a5, a8, a10, a11⟩ := hS.cells)
    | (refine wpList_store_Rs rfl _ _ rfl rfl hS r3 hm3 ht3 rfl ?_; intro V3 hS2; replace hS := hS2; clear hS2 hm3 ht3; obtain ⟨a0, a1, a3, a4, a5, a8, a10, a11⟩ := hS.cells)
    | (go_at_call 83; (with_reducible refine (fix_20 _ _ n2 hS.hm hS.ht h2).mono ?_); rintro e v3 ⟨rfl, bb3⟩; replace hS := hS.call bb3; obtain ⟨r4, hr4⟩ : ∃ r, pt20 n2 r3 = r := ⟨_, rfl⟩; rw [hr4]; have HR4 := Lib.hid hr4; have hm4 : r4.mask < 4294967296 := (by rw [← hr4]; exact or_lt32 hS.hm (by decide)); have ht4 : r4.mtch < 4294967296 := (by rw [← hr4]; exact or_lt32 hS.ht (by omega)); clear hr4; obtain ⟨a0, a1, a3, a4, a5, a8, a10, a11⟩ := hS.cells)
    | (refine wpList_store_Rs rfl _ _ rfl rfl hS r4 hm4 ht4 rfl ?_; intro V4 hS2; replace hS := hS2; clear hS2 hm4 ht4; obtain ⟨a0, a1, a3, a4, a5, a8, a10, a11⟩ := hS.cells)
    | (go_at_call 85; (with_reducible refine (letter_c _ f hf).mono ?_); rintro e u ⟨rfl, bu⟩; replace hS := hS.call bu; obtain ⟨a0, a1, a3, a4, a5, a8, a10, a11⟩ := hS.cells)
    | (go_at_call 85; (with_reducible refine (letter_c _ g hg).mono ?_); rintro e u ⟨rfl, bu⟩; replace hS := hS.call bu; obtain ⟨a0, a1, a3, a4, a5, a8, a10, a11⟩ := hS.cells)
    | (go_at_call 84; (with_reducible refine (size_c _ f hf).mono ?_); rintro e u ⟨rfl, bu⟩; replace hS := hS.call bu; obtain ⟨a0, a1, a3, a4, a5, a8, a10, a11⟩ := hS.cells)
    | (go_at_call 86; (with_reducible refine (kind_c _ k hk).mono ?_); rintro e u ⟨rfl, bu⟩; replace hS := hS.call bu; obtain ⟨a0, a1, a3, a4, a5, a8, a10, a11⟩ := hS.cells)
    | (refine wpList_load_blk rfl _ _ rfl _ rfl _ _ _ hS.row Try.underlying40 rfl (by kernel_rfl) ?_)
    | (refine wpList_store_blk rfl _ _ _ rfl _ _ rfl rfl _ _ hS.nm (by kernel_rfl) rfl (by simp [Value.oneCell']) ?_))
  rw [HN.out, HR0.out, HR1.out, HR2.out, HR3.out, HR4.out]
  exact bodyPost_ret (results_cell rfl _ _ (w.heap.size + 1) _ _ _ rfl (hS.nm.row _) Try.underlying42 rfl (by kernel_rfl)) rfl ⟨rfl, below_setRow hS.bel (by omega) _⟩
theorem row_c12 (w : World) (op code lay n3 nm n2 f g k : Nat) (name : ByteArray) (noq knd : Bool) (hc : code < 128) (h3 : n3 < 32) (hm3 : nm < 8) (h2 : n2 < 32) (hf : f < 4) (hg : g < 4) (hk : k < 4) (hn : name.size ≤ 6) (z21 : ((op : Int) == 21) = false) (z22 : ((op : Int) == 22) = false) (z23 : ((op : Int) == 23) = false) (z25 : ((op : Int) == 25) = false) :
    Calls Try.prog 61 #[.agg (lnV ⟨op, name, code, -1, (nm : Nat), -1, lay, noq, false, knd, true, false⟩), .int .u8 f, .int .u8 g, .int .u8 k] w fun e w' => e = .returned (.agg (entV (pt12 nm (pt0 code ⟨op, f, g, k, 0, 0, lay⟩)) name)) ∧ Below w.heap.size w w' := by
  have hf2 : f < 2 ^ 2 := by omega
  have hg5 : g < 2 ^ 5 := by omega
  have hk5 : k < 2 ^ 5 := by omega
  have HN : Hid (name = name) := Lib.hid rfl
  have F0 : Hid (∀ X, Calls Try.prog 83 #[.agg #[.int .u8 (op : Nat), .int .u8 (f : Nat), .int .u8 (g : Nat), .int .u8 (k : Nat), .int .u32 0, .int .u32 0, .int .u8 (lay : Nat)], .int .i64 0, .int .i64 7, .int .i64 (code : Nat)] X fun e w' => e = .returned (.agg (rowV (pt0 code ⟨op, f, g, k, 0, 0, lay⟩))) ∧ Below X.heap.size X w') := Lib.hid (fun X => fix_0 X ⟨op, f, g, k, 0, 0, lay⟩ code (by show 0 < 4294967296; decide) (by show 0 < 4294967296; decide) hc)
  go_enter Try.func61, Try.ntmps61
  go_upto_region 2 with (first
    | (go_at_call 83; (with_reducible refine (F0.out _).mono ?_); rintro e w1 ⟨rfl, b1⟩; clear F0))
  have hS := Rs.start w w1 ⟨op, name, code, -1, (nm : Nat), -1, lay, noq, false, knd, true, false⟩ code f g k hc b1
  show Code.wp _ _ _ _ (w1.alloc (.cells (rowV (pt0 code ⟨op, f, g, k, 0, 0, lay⟩)) 40))
  simp only [] at hS
  obtain ⟨V0, hV0⟩ : ∃ V, w1.alloc (.cells (rowV (pt0 code ⟨op, f, g, k, 0, 0, lay⟩)) 40) = V := ⟨_, rfl⟩
  obtain ⟨r0, hr0⟩ : ∃ r, pt0 code ⟨op, f, g, k, 0, 0, lay⟩ = r := ⟨_, rfl⟩
  rw [hV0, hr0] at hS
  rw [hV0]
  have HR0 := Lib.hid hr0
  clear hV0 hr0 b1
  obtain ⟨a0, a1, a3, a4, a5, a8, a10, a11⟩ := hS.cells
  go_wp2_with (first
    | (go_at_call 83; (with_reducible refine (fix_12 _ _ nm hS.hm hS.ht hm3).mono ?_); rintro e v0 ⟨rfl, bb0⟩; replace hS := hS.call bb0; obtain ⟨r1, hr1⟩ : ∃ r, pt12 nm r0 = r := ⟨_, rfl⟩; rw [hr1]; have HR1 := Lib.hid hr1; have hm1 : r1.mask < 4294967296 := (by rw [← hr1]; exact or_lt32 hS.hm (by decide)); have ht1 : r1.mtch < 4294967296 := (by rw [← hr1]; exact or_lt32 hS.ht (by omega)); clear hr1; obtain ⟨a0, a1, a3, a4, a5, a8, a10, a11⟩ := hS.cells)
    | (refine wpList_store_Rs rfl _ _ rfl rfl hS r1 hm1 ht1 rfl ?_; intro V1 hS2; replace hS := hS2; clear hS2 hm1 ht1; obtain ⟨a0, a1, a3, a4, a5, a8, a10, a11⟩ := hS.cells)
    | (go_at_call 85; (with_reducible refine (letter_c _ f hf).mono ?_); rintro e u ⟨rfl, bu⟩; replace hS := hS.call bu; obtain ⟨a0, a1, a3, a4, a5, a8, a10, a11⟩ := hS.cells)
    | (go_at_call 85; (with_reducible refine (letter_c _ g hg).mono ?_); rintro e u ⟨rfl, bu⟩; replace hS := hS.call bu; obtain ⟨a0, a1, a3, a4, a5, a8, a10, a11⟩ := hS.cells)
    | (go_at_call 84; (with_reducible refine (size_c _ f hf).mono ?_); rintro e u ⟨rfl, bu⟩; replace hS := hS.call bu; obtain ⟨a0, a1, a3, a4, a5, a8, a10, a11⟩ := hS.cells)
    | (go_at_call 86; (with_reducible refine (kind_c _ k hk).mono ?_); rintro e u ⟨rfl, bu⟩; replace hS := hS.call bu; obtain ⟨a0, a1, a3, a4, a5, a8, a10, a11⟩ := hS.cells)
    | (refine wpList_load_blk rfl _ _ rfl _ rfl _ _ _ hS.row Try.underlying40 rfl (by kernel_rfl) ?_)
    | (refine wpList_store_blk rfl _ _ _ rfl _ _ rfl rfl _ _ hS.nm (by kernel_rfl) rfl (by simp [Value.oneCell']) ?_))
  rw [HR0.out, HR1.out]
  exact bodyPost_ret (results_cell rfl _ _ (w.heap.size + 1) _ _ _ rfl (hS.nm.row _) Try.underlying42 rfl (by kernel_rfl)) rfl ⟨rfl, below_setRow hS.bel (by omega) _⟩
end Go.Proofs.Yteelconabmfnkaa

/- abacusref24.row at classes of lines. -/
namespace Go.Proofs.Yteelconabmfnkaa
open Go Go.RowKit
set_option maxHeartbeats 4000000
set_option maxRecDepth 100000
set_option linter.unusedVariables false
set_option linter.unusedSimpArgs false
theorem row_c6 (w : World) (op code lay n3 nm n2 f g k : Nat) (name : ByteArray) (noq knd : Bool) (hc : code < 128) (h3 : n3 < 32) (hm3 : nm < 8) (h2 : n2 < 32) (hf : f < 4) (hg : g < 4) (hk : k < 4) (hn : name.size ≤ 6) :
    Calls Try.prog 61 #[.agg (lnV ⟨op, name, code, (n3 : Nat), -1, 0, lay, noq, true, knd, false, false⟩), .int .u8 f, .int .u8 g, .int .u8 k] w fun e w' => e = .returned (.agg (entV (pt20 g (pt25 f (pt27 n3 (pt0 code ⟨op, f, g, k, 0, 0, lay⟩)))) ((((name ++ (⟨#[46]⟩ : ByteArray)) ++ (LET f)) ++ (⟨#[46]⟩ : ByteArray)) ++ (LET g)))) ∧ Below w.heap.size w w' := by
  have hf2 : f < 2 ^ 2 := by omega
  have hg5 : g < 2 ^ 5 := by omega
  have hk5 : k < 2 ^ 5 := by omega
  obtain ⟨s0, hs0⟩ : ∃ s, name ++ (⟨#[46]⟩ : ByteArray) = s := ⟨_, rfl⟩
  have cs0 : ∀ X : World, (Op.stringOp .add name (⟨#[46]⟩ : ByteArray)).run Try.prog X = .ok (.string s0) X := fun X => by rw [← hs0]; exact run_string_add_sum X _ _ (by have := hn; have := (by decide : (⟨#[46]⟩ : ByteArray).size ≤ 2); omega)
  have hz0 : s0.size ≤ 8 := by rw [← hs0, ByteArray.size_append]; have := hn; have := (by decide : (⟨#[46]⟩ : ByteArray).size ≤ 2); omega
  obtain ⟨s1, hs1⟩ : ∃ s, s0 ++ (LET f) = s := ⟨_, rfl⟩
  have cs1 : ∀ X : World, (Op.stringOp .add s0 (LET f)).run Try.prog X = .ok (.string s1) X := fun X => by rw [← hs1]; exact run_string_add_sum X _ _ (by have := hz0; have := (Nat.le_of_eq (LET_size f)); omega)
  have hz1 : s1.size ≤ 10 := by rw [← hs1, ByteArray.size_append]; have := hz0; have := (Nat.le_of_eq (LET_size f)); omega
  obtain ⟨s2, hs2⟩ : ∃ s, s1 ++ (⟨#[46]⟩ : ByteArray) = s := ⟨_, rfl⟩
  have cs2 : ∀ X : World, (Op.stringOp .add s1 (⟨#[46]⟩ : ByteArray)).run Try.prog X = .ok (.string s2) X := fun X => by rw [← hs2]; exact run_string_add_sum X _ _ (by have := hz1; have := (by decide : (⟨#[46]⟩ : ByteArray).size ≤ 2); omega)
  have hz2 : s2.size ≤ 12 := by rw [← hs2, ByteArray.size_append]; have := hz1; have := (by decide : (⟨#[46]⟩ : ByteArray).size ≤ 2); omega
  obtain ⟨s3, hs3⟩ : ∃ s, s2 ++ (LET g) = s := ⟨_, rfl⟩
  have cs3 : ∀ X : World, (Op.stringOp .add s2 (LET g)).run Try.prog X = .ok (.string s3) X := fun X => by rw [← hs3]; exact run_string_add_sum X _ _ (by have := hz2; have := (Nat.le_of_eq (LET_size g)); omega)
  have hz3 : s3.size ≤ 14 := by rw [← hs3, ByteArray.size_append]; have := hz2; have := (Nat.le_of_eq (LET_size g)); omega
  have HN : Hid (((((name ++ (⟨#[46]⟩ : ByteArray)) ++ (LET f)) ++ (⟨#[46]⟩ : ByteArray)) ++ (LET g)) = s3) := Lib.hid (by rw [hs0, hs1, hs2, hs3])
  clear hs0 hs1 hs2 hs3
  have F0 : Hid (∀ X, Calls Try.prog 83 #[.agg #[.int .u8 (op : Nat), .int .u8 (f : Nat), .int .u8 (g : Nat), .int .u8 (k : Nat), .int .u32 0, .int .u32 0, .int .u8 (lay : Nat)], .int .i64 0, .int .i64 7, .int .i64 (code : Nat)] X fun e w' => e = .returned (.agg (rowV (pt0 code ⟨op, f, g, k, 0, 0, lay⟩))) ∧ Below X.heap.size X w') := Lib.hid (fun X => fix_0 X ⟨op, f, g, k, 0, 0, lay⟩ code (by show 0 < 4294967296; decide) (by show 0 < 4294967296; decide) hc)
  go_enter Try.func61, Try.ntmps61
  go_upto_region 2 with (first
    | (go_at_call 83; (with_reducible refine (F0.out _).mono ?_); rintro e w1 ⟨rfl, b1⟩; clear F0))
  have hS := Rs.start w w1 ⟨op, name, code, (n3 : Nat), -1, 0, lay, noq, true, knd, false, false⟩ code f g k hc b1
  show Code.wp _ _ _ _ (w1.alloc (.cells (rowV (pt0 code ⟨op, f, g, k, 0, 0, lay⟩)) 40))
  simp only [] at hS
  obtain ⟨V0, hV0⟩ : ∃ V, w1.alloc (.cells (rowV (pt0 code ⟨op, f, g, k, 0, 0, lay⟩)) 40) = V := ⟨_, rfl⟩
  obtain ⟨r0, hr0⟩ : ∃ r, pt0 code ⟨op, f, g, k, 0, 0, lay⟩ = r := ⟨_, rfl⟩
  rw [hV0, hr0] at hS
  rw [hV0]
  have HR0 := Lib.hid hr0
  clear hV0 hr0 b1
  obtain ⟨a0, a1, a3, a4, a5, a8, a10, a11⟩ := hS.cells
  go_wp2_with (first
    | (go_at_call 83; (with_reducible refine (fix_27 _ _ n3 hS.hm hS.ht h3).mono ?_); rintro e v0 ⟨rfl, bb0⟩; replace hS := hS.call bb0; obtain ⟨r1, hr1⟩ : ∃ r, pt27 n3 r0 = r := ⟨_, rfl⟩; rw [hr1]; have HR1 := Lib.hid hr1; have hm1 : r1.mask < 4294967296 := (by rw [← hr1]; exact or_lt32 hS.hm (by decide)); have ht1 : r1.mtch < 4294967296 := (by rw [← hr1]; exact or_lt32 hS.ht (by omega)); clear hr1; obtain ⟨a0, a1, a3, a4, a5, a8, a10, a11⟩ := hS.cells)
    | (refine wpList_store_Rs rfl _ _ rfl rfl hS r1 hm1 ht1 rfl ?_; intro V1 hS2; replace hS := hS2; clear hS2 hm1 ht1; obtain ⟨a0, a1, a3, a4, a5, a8, a10, a11⟩ := hS.cells)
    | (go_at_call 83; (with_reducible refine (fix_25 _ _ f hS.hm hS.ht hf2).mono ?_); rintro e v1 ⟨rfl, bb1⟩; replace hS := hS.call bb1; obtain ⟨r2, hr2⟩ : ∃ r, pt25 f r1 = r := ⟨_, rfl⟩; rw [hr2]; have HR2 := Lib.hid hr2; have hm2 : r2.mask < 4294967296 := (by rw [← hr2]; exact or_lt32 hS.hm (by decide)); have ht2 : r2.mtch < 4294967296 := (by rw [← hr2]; exact or_lt32 hS.ht (by omega)); clear hr2; obtain ⟨a0, a1, a3, a4, a5, a8, a10, a11⟩ := hS.cells)
    | (refine wpList_store_Rs rfl _ _ rfl rfl hS r2 hm2 ht2 rfl ?_; intro V2 hS2; replace hS := hS2; clear hS2 hm2 ht2; obtain ⟨a0, a1, a3, a4, a5, a8, a10, a11⟩ := hS.cells)
    | (go_at_call 83; (with_reducible refine (fix_20 _ _ g hS.hm hS.ht hg5).mono ?_); rintro e v2 ⟨rfl, bb2⟩; replace hS := hS.call bb2; obtain ⟨r3, hr3⟩ : ∃ r, pt20 g r2 = r := ⟨_, rfl⟩; rw [hr3]; have HR3 := Lib.hid hr3; have hm3 : r3.mask < 4294967296 := (by rw [← hr3]; exact or_lt32 hS.hm (by decide)); have ht3 : r3.mtch < 4294967296 := (by rw [← hr3]; exact or_lt32 hS.ht (by omega)); clear hr3; obtain ⟨a0, a1, a3, a4, a5, a8, a10, a11⟩ := hS.cells)
    | (refine wpList_store_Rs rfl _ _ rfl rfl hS r3 hm3 ht3 rfl ?_; intro V3 hS2; replace hS := hS2; clear hS2 hm3 ht3; obtain ⟨a0, a1, a3, a4, a5, a8, a10, a11⟩ := hS.cells)
    | (go_at_call 85; (with_reducible refine (letter_c _ f hf).mono ?_); rintro e u ⟨rfl, bu⟩; replace hS := hS.call bu; obtain ⟨a0, a1, a3, a4, a5, a8, a10, a11⟩ := hS.cells)
    | (go_at_call 85; (with_reducible refine (letter_c _ g hg).mono ?_); rintro e u ⟨rfl, bu⟩; replace hS := hS.call bu; obtain ⟨a0, a1, a3, a4, a5, a8, a10, a11⟩ := hS.cells)
    | (go_at_call 84; (with_reducible refine (size_c _ f hf).mono ?_); rintro e u ⟨rfl, bu⟩; replace hS := hS.call bu; obtain ⟨a0, a1, a3, a4, a5, a8, a10, a11⟩ := hS.cells)
    | (go_at_call 86; (with_reducible refine (kind_c _ k hk).mono ?_); rintro e u ⟨rfl, bu⟩; replace hS := hS.call bu; obtain ⟨a0, a1, a3, a4, a5, a8, a10, a11⟩ := hS.cells)
    | (refine wpList_load_blk rfl _ _ rfl _ rfl _ _ _ hS.row Try.underlying40 rfl (by kernel_rfl) ?_)
    | (refine wpList_store_blk rfl _ _ _ rfl _ _ rfl rfl _ _ hS.nm (by kernel_rfl) rfl (by simp [Value.oneCell']) ?_))
  rw [HN.out, HR0.out, HR1.out, HR2.out, HR3.out]
  exact bodyPost_ret (results_cell rfl _ _ (w.heap.size + 1) _ _ _ rfl (hS.nm.row _) Try.underlying42 rfl (by kernel_rfl)) rfl ⟨rfl, below_setRow hS.bel (by omega) _⟩
theorem row_c7 (w : World) (op code lay n3 nm n2 f g k : Nat) (name : ByteArray) (noq knd : Bool) (hc : code < 128) (h3 : n3 < 32) (hm3 : nm < 8) (h2 : n2 < 32) (hf : f < 4) (hg : g < 4) (hk : k < 4) (hn : name.size ≤ 6) (z21 : ((op : Int) == 21) = true) :
    Calls Try.prog 61 #[.agg (lnV ⟨op, name, code, (n3 : Nat), -1, 0, lay, noq, false, knd, false, false⟩), .int .u8 f, .int .u8 g, .int .u8 k] w fun e w' => e = .returned (.agg (entV (pt20 k (pt25 f (pt27 n3 (pt0 code ⟨op, f, g, k, 0, 0, lay⟩)))) ((((name ++ (⟨#[46]⟩ : ByteArray)) ++ (KIN k)) ++ (⟨#[46]⟩ : ByteArray)) ++ (LET f)))) ∧ Below w.heap.size w w' := by
  have hf2 : f < 2 ^ 2 := by omega
  have hg5 : g < 2 ^ 5 := by omega
  have hk5 : k < 2 ^ 5 := by omega
  obtain ⟨s0, hs0⟩ : ∃ s, name ++ (⟨#[46]⟩ : ByteArray) = s := ⟨_, rfl⟩
  have cs0 : ∀ X : World, (Op.stringOp .add name (⟨#[46]⟩ : ByteArray)).run Try.prog X = .ok (.string s0) X := fun X => by rw [← hs0]; exact run_string_add_sum X _ _ (by have := hn; have := (by decide : (⟨#[46]⟩ : ByteArray).size ≤ 2); omega)
  have hz0 : s0.size ≤ 8 := by rw [← hs0, ByteArray.size_append]; have := hn; have := (by decide : (⟨#[46]⟩ : ByteArray).size ≤ 2); omega
  obtain ⟨s1, hs1⟩ : ∃ s, s0 ++ (KIN k) = s := ⟨_, rfl⟩
  have cs1 : ∀ X : World, (Op.stringOp .add s0 (KIN k)).run Try.prog X = .ok (.string s1) X := fun X => by rw [← hs1]; exact run_string_add_sum X _ _ (by have := hz0; have := (KIN_size k); omega)
  have hz1 : s1.size ≤ 10 := by rw [← hs1, ByteArray.size_append]; have := hz0; have := (KIN_size k); omega
  obtain ⟨s2, hs2⟩ : ∃ s, s1 ++ (⟨#[46]⟩ : ByteArray) = s := ⟨_, rfl⟩
  have cs2 : ∀ X : World, (Op.stringOp .add s1 (⟨#[46]⟩ : ByteArray)).run Try.prog X = .ok (.string s2) X := fun X => by rw [← hs2]; exact run_string_add_sum X _ _ (by have := hz1; have := (by decide : (⟨#[46]⟩ : ByteArray).size ≤ 2); omega)
  have hz2 : s2.size ≤ 12 := by rw [← hs2, ByteArray.size_append]; have := hz1; have := (by decide : (⟨#[46]⟩ : ByteArray).size ≤ 2); omega
  obtain ⟨s3, hs3⟩ : ∃ s, s2 ++ (LET f) = s := ⟨_, rfl⟩
  have cs3 : ∀ X : World, (Op.stringOp .add s2 (LET f)).run Try.prog X = .ok (.string s3) X := fun X => by rw [← hs3]; exact run_string_add_sum X _ _ (by have := hz2; have := (Nat.le_of_eq (LET_size f)); omega)
  have hz3 : s3.size ≤ 14 := by rw [← hs3, ByteArray.size_append]; have := hz2; have := (Nat.le_of_eq (LET_size f)); omega
  have HN : Hid (((((name ++ (⟨#[46]⟩ : ByteArray)) ++ (KIN k)) ++ (⟨#[46]⟩ : ByteArray)) ++ (LET f)) = s3) := Lib.hid (by rw [hs0, hs1, hs2, hs3])
  clear hs0 hs1 hs2 hs3
  have F0 : Hid (∀ X, Calls Try.prog 83 #[.agg #[.int .u8 (op : Nat), .int .u8 (f : Nat), .int .u8 (g : Nat), .int .u8 (k : Nat), .int .u32 0, .int .u32 0, .int .u8 (lay : Nat)], .int .i64 0, .int .i64 7, .int .i64 (code : Nat)] X fun e w' => e = .returned (.agg (rowV (pt0 code ⟨op, f, g, k, 0, 0, lay⟩))) ∧ Below X.heap.size X w') := Lib.hid (fun X => fix_0 X ⟨op, f, g, k, 0, 0, lay⟩ code (by show 0 < 4294967296; decide) (by show 0 < 4294967296; decide) hc)
  go_enter Try.func61, Try.ntmps61
  go_upto_region 2 with (first
    | (go_at_call 83; (with_reducible refine (F0.out _).mono ?_); rintro e w1 ⟨rfl, b1⟩; clear F0))
  have hS := Rs.start w w1 ⟨op, name, code, (n3 : Nat), -1, 0, lay, noq, false, knd, false, false⟩ code f g k hc b1
  show Code.wp _ _ _ _ (w1.alloc (.cells (rowV (pt0 code ⟨op, f, g, k, 0, 0, lay⟩)) 40))
  simp only [] at hS
  obtain ⟨V0, hV0⟩ : ∃ V, w1.alloc (.cells (rowV (pt0 code ⟨op, f, g, k, 0, 0, lay⟩)) 40) = V := ⟨_, rfl⟩
  obtain ⟨r0, hr0⟩ : ∃ r, pt0 code ⟨op, f, g, k, 0, 0, lay⟩ = r := ⟨_, rfl⟩
  rw [hV0, hr0] at hS
  rw [hV0]
  have HR0 := Lib.hid hr0
  clear hV0 hr0 b1
  obtain ⟨a0, a1, a3, a4, a5, a8, a10, a11⟩ := hS.cells
  go_wp2_with (first
    | (go_at_call 83; (with_reducible refine (fix_27 _ _ n3 hS.hm hS.ht h3).mono ?_); rintro e v0 ⟨rfl, bb0⟩; replace hS := hS.call bb0; obtain ⟨r1, hr1⟩ : ∃ r, pt27 n3 r0 = r := ⟨_, rfl⟩; rw [hr1]; have HR1 := Lib.hid hr1; have hm1 : r1.mask < 4294967296 := (by rw [← hr1]; exact or_lt32 hS.hm (by decide)); have ht1 : r1.mtch < 4294967296 := (by rw [← hr1]; exact or_lt32 hS.ht (by omega)); clear hr1; obtain ⟨a0, a1, a3, a4, a5, a8, a10, a11⟩ := hS.cells)
    | (refine wpList_store_Rs rfl _ _ rfl rfl hS r1 hm1 ht1 rfl ?_; intro V1 hS2; replace hS := hS2; clear hS2 hm1 ht1; obtain ⟨a0, a1, a3, a4, a5, a8, a10, a11⟩ := hS.cells)
    | (go_at_call 83; (with_reducible refine (fix_25 _ _ f hS.hm hS.ht hf2).mono ?_); rintro e v1 ⟨rfl, bb1⟩; replace hS := hS.call bb1; obtain ⟨r2, hr2⟩ : ∃ r, pt25 f r1 = r := ⟨_, rfl⟩; rw [hr2]; have HR2 := Lib.hid hr2; have hm2 : r2.mask < 4294967296 := (by rw [← hr2]; exact or_lt32 hS.hm (by decide)); have ht2 : r2.mtch < 4294967296 := (by rw [← hr2]; exact or_lt32 hS.ht (by omega)); clear hr2; obtain ⟨a0, a1, a3, a4, a5, a8, a10, a11⟩ := hS.cells)
    | (refine wpList_store_Rs rfl _ _ rfl rfl hS r2 hm2 ht2 rfl ?_; intro V2 hS2; replace hS := hS2; clear hS2 hm2 ht2; obtain ⟨a0, a1, a3, a4, a5, a8, a10, a11⟩ := hS.cells)
    | (go_at_call 83; (with_reducible refine (fix_20 _ _ k hS.hm hS.ht hk5).mono ?_); rintro e v2 ⟨rfl, bb2⟩; replace hS := hS.call bb2; obtain ⟨r3, hr3⟩ : ∃ r, pt20 k r2 = r := ⟨_, rfl⟩; rw [hr3]; have HR3 := Lib.hid hr3; have hm3 : r3.mask < 4294967296 := (by rw [← hr3]; exact or_lt32 hS.hm (by decide)); have ht3 : r3.mtch < 4294967296 := (by rw [← hr3]; exact or_lt32 hS.ht (by omega)); clear hr3; obtain ⟨a0, a1, a3, a4, a5, a8, a10, a11⟩ := hS.cells)
    | (refine wpList_store_Rs rfl _ _ rfl rfl hS r3 hm3 ht3 rfl ?_; intro V3 hS2; replace hS := hS2; clear hS2 hm3 ht3; obtain ⟨a0, a1, a3, a4, a5, a8, a10, a11⟩ := hS.cells)
    | (go_at_call 85; (with_reducible refine (letter_c _ f hf).mono ?_); rintro e u ⟨rfl, bu⟩; replace hS := hS.call bu; obtain ⟨a0, a1, a3, a4, a5, a8, a10, a11⟩ := hS.cells)
    | (go_at_call 85; (with_reducible refine (letter_c _ g hg).mono ?_); rintro e u ⟨rfl, bu⟩; replace hS := hS.call bu; obtain ⟨a0, a1, a3, a4, a5, a8, a10, a11⟩ := hS.cells)
    | (go_at_call 84; (with_reducible refine (size_c _ f hf).mono ?_); rintro e u ⟨rfl, bu⟩; replace hS := hS.call bu; obtain ⟨a0, a1, a3, a4, a5, a8, a10, a11⟩ := hS.cells)
    | (go_at_call 86; (with_reducible refine (kind_c _ k hk).mono ?_); rintro e u ⟨rfl, bu⟩; replace hS := hS.call bu; obtain ⟨a0, a1, a3, a4, a5, a8, a10, a11⟩ := hS.cells)
    | (refine wpList_load_blk rfl _ _ rfl _ rfl _ _ _ hS.row Try.underlying40 rfl (by kernel_rfl) ?_)
    | (refine wpList_store_blk rfl _ _ _ rfl _ _ rfl rfl _ _ hS.nm (by kernel_rfl) rfl (by simp [Value.oneCell']) ?_))
  rw [HN.out, HR0.out, HR1.out, HR2.out, HR3.out]
  exact bodyPost_ret (results_cell rfl _ _ (w.heap.size + 1) _ _ _ rfl (hS.nm.row _) Try.underlying42 rfl (by kernel_rfl)) rfl ⟨rfl, below_setRow hS.bel (by omega) _⟩
theorem row_c8 (w : World) (op code lay n3 nm n2 f g k : Nat) (name : ByteArray) (noq knd : Bool) (hc : code < 128) (h3 : n3 < 32) (hm3 : nm < 8) (h2 : n2 < 32) (hf : f < 4) (hg : g < 4) (hk : k < 4) (hn : name.size ≤ 6) (z21 : ((op : Int) == 21) = false) (z22 : ((op : Int) == 22) = true) :
    Calls Try.prog 61 #[.agg (lnV ⟨op, name, code, (n3 : Nat), -1, 0, lay, noq, false, knd, false, false⟩), .int .u8 f, .int .u8 g, .int .u8 k] w fun e w' => e = .returned (.agg (entV (pt20 k (pt25 f (pt27 n3 (pt0 code ⟨op, f, g, k, 0, 0, lay⟩)))) ((((name ++ (⟨#[46]⟩ : ByteArray)) ++ (LET f)) ++ (⟨#[46]⟩ : ByteArray)) ++ (KIN k)))) ∧ Below w.heap.size w w' := by
  have hf2 : f < 2 ^ 2 := by omega
  have hg5 : g < 2 ^ 5 := by omega
  have hk5 : k < 2 ^ 5 := by omega
  obtain ⟨s0, hs0⟩ : ∃ s, name ++ (⟨#[46]⟩ : ByteArray) = s := ⟨_, rfl⟩
  have cs0 : ∀ X : World, (Op.stringOp .add name (⟨#[46]⟩ : ByteArray)).run Try.prog X = .ok (.string s0) X := fun X => by rw [← hs0]; exact run_string_add_sum X _ _ (by have := hn; have := (by decide : (⟨#[46]⟩ : ByteArray).size ≤ 2); omega)
  have hz0 : s0.size ≤ 8 := by rw [← hs0, ByteArray.size_append]; have := hn; have := (by decide : (⟨#[46]⟩ : ByteArray).size ≤ 2); omega
  obtain ⟨s1, hs1⟩ : ∃ s, s0 ++ (LET f) = s := ⟨_, rfl⟩
  have cs1 : ∀ X : World, (Op.stringOp .add s0 (LET f)).run Try.prog X = .ok (.string s1) X := fun X => by rw [← hs1]; exact run_string_add_sum X _ _ (by have := hz0; have := (Nat.le_of_eq (LET_size f)); omega)
  have hz1 : s1.size ≤ 10 := by rw [← hs1, ByteArray.size_append]; have := hz0; have := (Nat.le_of_eq (LET_size f)); omega
  obtain ⟨s2, hs2⟩ : ∃ s, s1 ++ (⟨#[46]⟩ : ByteArray) = s := ⟨_, rfl⟩
  have cs2 : ∀ X : World, (Op.stringOp .add s1 (⟨#[46]⟩ : ByteArray)).run Try.prog X = .ok (.string s2) X := fun X => by rw [← hs2]; exact run_string_add_sum X _ _ (by have := hz1; have := (by decide : (⟨#[46]⟩ : ByteArray).size ≤ 2); omega)
  have hz2 : s2.size ≤ 12 := by rw [← hs2, ByteArray.size_append]; have := hz1; have := (by decide : (⟨#[46]⟩ : ByteArray).size ≤ 2); omega
  obtain ⟨s3, hs3⟩ : ∃ s, s2 ++ (KIN k) = s := ⟨_, rfl⟩
  have cs3 : ∀ X : World, (Op.stringOp .add s2 (KIN k)).run Try.prog X = .ok (.string s3) X := fun X => by rw [← hs3]; exact run_string_add_sum X _ _ (by have := hz2; have := (KIN_size k); omega)
  have hz3 : s3.size ≤ 14 := by rw [← hs3, ByteArray.size_append]; have := hz2; have := (KIN_size k); omega
  have HN : Hid (((((name ++ (⟨#[46]⟩ : ByteArray)) ++ (LET f)) ++ (⟨#[46]⟩ : ByteArray)) ++ (KIN k)) = s3) := Lib.hid (by rw [hs0, hs1, hs2, hs3])
  clear hs0 hs1 hs2 hs3
  have F0 : Hid (∀ X, Calls Try.prog 83 #[.agg #[.int .u8 (op : Nat), .int .u8 (f : Nat), .int .u8 (g : Nat), .int .u8 (k : Nat), .int .u32 0, .int .u32 0, .int .u8 (lay : Nat)], .int .i64 0, .int .i64 7, .int .i64 (code : Nat)] X fun e w' => e = .returned (.agg (rowV (pt0 code ⟨op, f, g, k, 0, 0, lay⟩))) ∧ Below X.heap.size X w') := Lib.hid (fun X => fix_0 X ⟨op, f, g, k, 0, 0, lay⟩ code (by show 0 < 4294967296; decide) (by show 0 < 4294967296; decide) hc)
  go_enter Try.func61, Try.ntmps61
  go_upto_region 2 with (first
    | (go_at_call 83; (with_reducible refine (F0.out _).mono ?_); rintro e w1 ⟨rfl, b1⟩; clear F0))
  have hS := Rs.start w w1 ⟨op, name, code, (n3 : Nat), -1, 0, lay, noq, false, knd, false, false⟩ code f g k hc b1
  show Code.wp _ _ _ _ (w1.alloc (.cells (rowV (pt0 code ⟨op, f, g, k, 0, 0, lay⟩)) 40))
  simp only [] at hS
  obtain ⟨V0, hV0⟩ : ∃ V, w1.alloc (.cells (rowV (pt0 code ⟨op, f, g, k, 0, 0, lay⟩)) 40) = V := ⟨_, rfl⟩
  obtain ⟨r0, hr0⟩ : ∃ r, pt0 code ⟨op, f, g, k, 0, 0, lay⟩ = r := ⟨_, rfl⟩
  rw [hV0, hr0] at hS
  rw [hV0]
  have HR0 := Lib.hid hr0
  clear hV0 hr0 b1
  obtain ⟨a0, a1, a3, a4, a5, a8, a10, a11⟩ := hS.cells
  go_wp2_with (first
    | (go_at_call 83; (with_reducible refine (fix_27 _ _ n3 hS.hm hS.ht h3).mono ?_); rintro e v0 ⟨rfl, bb0⟩; replace hS := hS.call bb0; obtain ⟨r1, hr1⟩ : ∃ r, pt27 n3 r0 = r := ⟨_, rfl⟩; rw [hr1]; have HR1 := Lib.hid hr1; have hm1 : r1.mask < 4294967296 := (by rw [← hr1]; exact or_lt32 hS.hm (by decide)); have ht1 : r1.mtch < 4294967296 := (by rw [← hr1]; exact or_lt32 hS.ht (by omega)); clear hr1; obtain ⟨a0, a1, a3, a4, a5, a8, a10, a11⟩ := hS.cells)
    | (refine wpList_store_Rs rfl _ _ rfl rfl hS r1 hm1 ht1 rfl ?_; intro V1 hS2; replace hS := hS2; clear hS2 hm1 ht1; obtain ⟨a0, a1, a3, a4, a5, a8, a10, a11⟩ := hS.cells)
    | (go_at_call 83; (with_reducible refine (fix_25 _ _ f hS.hm hS.ht hf2).mono ?_); rintro e v1 ⟨rfl, bb1⟩; replace hS := hS.call bb1; obtain ⟨r2, hr2⟩ : ∃ r, pt25 f r1 = r := ⟨_, rfl⟩; rw [hr2]; have HR2 := Lib.hid hr2; have hm2 : r2.mask < 4294967296 := (by rw [← hr2]; exact or_lt32 hS.hm (by decide)); have ht2 : r2.mtch < 4294967296 := (by rw [← hr2]; exact or_lt32 hS.ht (by omega)); clear hr2; obtain ⟨a0, a1, a3, a4, a5, a8, a10, a11⟩ := hS.cells)
    | (refine wpList_store_Rs rfl _ _ rfl rfl hS r2 hm2 ht2 rfl ?_; intro V2 hS2; replace hS := hS2; clear hS2 hm2 ht2; obtain ⟨a0, a1, a3, a4, a5, a8, a10, a11⟩ := hS.cells)
    | (go_at_call 83; (with_reducible refine (fix_20 _ _ k hS.hm hS.ht hk5).mono ?_); rintro e v2 ⟨rfl, bb2⟩; replace hS := hS.call bb2; obtain ⟨r3, hr3⟩ : ∃ r, pt20 k r2 = r := ⟨_, rfl⟩; rw [hr3]; have HR3 := Lib.hid hr3; have hm3 : r3.mask < 4294967296 := (by rw [← hr3]; exact or_lt32 hS.hm (by decide)); have ht3 : r3.mtch < 4294967296 := (by rw [← hr3]; exact or_lt32 hS.ht (by omega)); clear hr3; obtain ⟨a0, a1, a3, a4, a5, a8, a10, a11⟩ := hS.cells)
    | (refine wpList_store_Rs rfl _ _ rfl rfl hS r3 hm3 ht3 rfl ?_; intro V3 hS2; replace hS := hS2; clear hS2 hm3 ht3; obtain ⟨a0, a1, a3, a4, a5, a8, a10, a11⟩ := hS.cells)
    | (go_at_call 85; (with_reducible refine (letter_c _ f hf).mono ?_); rintro e u ⟨rfl, bu⟩; replace hS := hS.call bu; obtain ⟨a0, a1, a3, a4, a5, a8, a10, a11⟩ := hS.cells)
    | (go_at_call 85; (with_reducible refine (letter_c _ g hg).mono ?_); rintro e u ⟨rfl, bu⟩; replace hS := hS.call bu; obtain ⟨a0, a1, a3, a4, a5, a8, a10, a11⟩ := hS.cells)
    | (go_at_call 84; (with_reducible refine (size_c _ f hf).mono ?_); rintro e u ⟨rfl, bu⟩; replace hS := hS.call bu; obtain ⟨a0, a1, a3, a4, a5, a8, a10, a11⟩ := hS.cells)
    | (go_at_call 86; (with_reducible refine (kind_c _ k hk).mono ?_); rintro e u ⟨rfl, bu⟩; replace hS := hS.call bu; obtain ⟨a0, a1, a3, a4, a5, a8, a10, a11⟩ := hS.cells)
    | (refine wpList_load_blk rfl _ _ rfl _ rfl _ _ _ hS.row Try.underlying40 rfl (by kernel_rfl) ?_)
    | (refine wpList_store_blk rfl _ _ _ rfl _ _ rfl rfl _ _ hS.nm (by kernel_rfl) rfl (by simp [Value.oneCell']) ?_))
  rw [HN.out, HR0.out, HR1.out, HR2.out, HR3.out]
  exact bodyPost_ret (results_cell rfl _ _ (w.heap.size + 1) _ _ _ rfl (hS.nm.row _) Try.underlying42 rfl (by kernel_rfl)) rfl ⟨rfl, below_setRow hS.bel (by omega) _⟩
end Go.Proofs.Yteelconabmfnkaa

/- abacusref24.row at classes of lines. -/
namespace Go.Proofs.Yteelconabmfnkaa
open Go Go.RowKit
set_option maxHeartbeats 4000000
set_option maxRecDepth 100000
set_option linter.unusedVariables false
set_option linter.unusedSimpArgs false
theorem row_c9 (w : World) (op code lay n3 nm n2 f g k : Nat) (name : ByteArray) (noq knd : Bool) (hc : code < 128) (h3 : n3 < 32) (hm3 : nm < 8) (h2 : n2 < 32) (hf : f < 4) (hg : g < 4) (hk : k < 4) (hn : name.size ≤ 6) (z21 : ((op : Int) == 21) = false) (z22 : ((op : Int) == 22) = false) (z23 : ((op : Int) == 23) = true) :
    Calls Try.prog 61 #[.agg (lnV ⟨op, name, code, (n3 : Nat), (nm : Nat), (n2 : Nat), lay, noq, false, knd, false, false⟩), .int .u8 f, .int .u8 g, .int .u8 k] w fun e w' => e = .returned (.agg (entV (pt20 n2 (pt12 nm (pt25 f (pt27 n3 (pt0 code ⟨op, f, g, k, 0, 0, lay⟩))))) ((name ++ (⟨#[46]⟩ : ByteArray)) ++ (SIZ f)))) ∧ Below w.heap.size w w' := by
  have hf2 : f < 2 ^ 2 := by omega
  have hg5 : g < 2 ^ 5 := by omega
  have hk5 : k < 2 ^ 5 := by omega
  obtain ⟨s0, hs0⟩ : ∃ s, name ++ (⟨#[46]⟩ : ByteArray) = s := ⟨_, rfl⟩
  have cs0 : ∀ X : World, (Op.stringOp .add name (⟨#[46]⟩ : ByteArray)).run Try.prog X = .ok (.string s0) X := fun X => by rw [← hs0]; exact run_string_add_sum X _ _ (by have := hn; have := (by decide : (⟨#[46]⟩ : ByteArray).size ≤ 2); omega)
  have hz0 : s0.size ≤ 8 := by rw [← hs0, ByteArray.size_append]; have := hn; have := (by decide : (⟨#[46]⟩ : ByteArray).size ≤ 2); omega
  obtain ⟨s1, hs1⟩ : ∃ s, s0 ++ (SIZ f) = s := ⟨_, rfl⟩
  have cs1 : ∀ X : World, (Op.stringOp .add s0 (SIZ f)).run Try.prog X = .ok (.string s1) X := fun X => by rw [← hs1]; exact run_string_add_sum X _ _ (by have := hz0; have := (Nat.le_of_eq (SIZ_size f)); omega)
  have hz1 : s1.size ≤ 10 := by rw [← hs1, ByteArray.size_append]; have := hz0; have := (Nat.le_of_eq (SIZ_size f)); omega
  have HN : Hid (((name ++ (⟨#[46]⟩ : ByteArray)) ++ (SIZ f)) = s1) := Lib.hid (by rw [hs0, hs1])
  clear hs0 hs1
  have F0 : Hid (∀ X, Calls Try.prog 83 #[.agg #[.int .u8 (op : Nat), .int .u8 (f : Nat), .int .u8 (g : Nat), .int .u8 (k : Nat), .int .u32 0, .int .u32 0, .int .u8 (lay : Nat)], .int .i64 0, .int .i64 7, .int .i64 (code : Nat)] X fun e w' => e = .returned (.agg (rowV (pt0 code ⟨op, f, g, k, 0, 0, lay⟩))) ∧ Below X.heap.size X w') := Lib.hid (fun X => fix_0 X ⟨op, f, g, k, 0, 0, lay⟩ code (by show 0 < 4294967296; decide) (by show 0 < 4294967296; decide) hc)
  go_enter Try.func61, Try.ntmps61
  go_upto_region 2 with (first
    | (go_at_call 83; (with_reducible refine (F0.out _).mono ?_); rintro e w1 ⟨rfl, b1⟩; clear F0))
  have hS := Rs.start w w1 ⟨op, name, code, (n3 : Nat), (nm : Nat), (n2 : Nat), lay, noq, false, knd, false, false⟩ code f g k hc b1
  show Code.wp _ _ _ _ (w1.alloc (.cells (rowV (pt0 code ⟨op, f, g, k, 0, 0, lay⟩)) 40))
  simp only [] at hS
  obtain ⟨V0, hV0⟩ : ∃ V, w1.alloc (.cells (rowV (pt0 code ⟨op, f, g, k, 0, 0, lay⟩)) 40) = V := ⟨_, rfl⟩
  obtain ⟨r0, hr0⟩ : ∃ r, pt0 code ⟨op, f, g, k, 0, 0, lay⟩ = r := ⟨_, rfl⟩
  rw [hV0, hr0] at hS
  rw [hV0]
  have HR0 := Lib.hid hr0
  clear hV0 hr0 b1
  obtain ⟨a0, a1, a3, a4, a5, a8, a10, a11⟩ := hS.cells
  go_wp2_with (first
    | (go_at_call 83; (with_reducible refine (fix_27 _ _ n3 hS.hm hS.ht h3).mono ?_); rintro e v0 ⟨rfl, bb0⟩; replace hS := hS.call bb0; obtain ⟨r1, hr1⟩ : ∃ r, pt27 n3 r0 = r := ⟨_, rfl⟩; rw [hr1]; have HR1 := Lib.hid hr1; have hm1 : r1.mask < 4294967296 := (by rw [← hr1]; exact or_lt32 hS.hm (by decide)); have ht1 : r1.mtch < 4294967296 := (by rw [← hr1]; exact or_lt32 hS.ht (by omega)); clear hr1; obtain ⟨a0, a1, a3, a4, a5, a8, a10, a11⟩ := hS.cells)
    | (refine wpList_store_Rs rfl _ _ rfl rfl hS r1 hm1 ht1 rfl ?_; intro V1 hS2; replace hS := hS2; clear hS2 hm1 ht1; obtain ⟨a0, a1, a3, a4, a5, a8, a10, a11⟩ := hS.cells)
    | (go_at_call 83; (with_reducible refine (fix_25 _ _ f hS.hm hS.ht hf2).mono ?_); rintro e v1 ⟨rfl, bb1⟩; replace hS := hS.call bb1; obtain ⟨r2, hr2⟩ : ∃ r, pt25 f r1 = r := ⟨_, rfl⟩; rw [hr2]; have HR2 := Lib.hid hr2; have hm2 : r2.mask < 4294967296 := (by rw [← hr2]; exact or_lt32 hS.hm (by decide)); have ht2 : r2.mtch < 4294967296 := (by rw [← hr2]; exact or_lt32 hS.ht (by omega)); clear hr2; obtain ⟨a0, a1, a3, a4, a5, a8, a10, a11⟩ := hS.cells)
    | (refine wpList_store_Rs rfl _ _ rfl rfl hS r2 hm2 ht2 rfl ?_; intro V2 hS2; replace hS := hS2; clear hS2 hm2 ht2; obtain ⟨a0, a1, a3, a4, a5, a8, a10, a11⟩ := hS.cells)
    | (go_at_call 83; (with_reducible refine (fix_12 _ _ nm hS.hm hS.ht hm3).mono ?_); rintro e v2 ⟨rfl, bb2⟩; replace hS := hS.call bb2; obtain ⟨r3, hr3⟩ : ∃ r, pt12 nm r2 = r := ⟨_, rfl⟩; rw [hr3]; have HR3 := Lib.hid hr3; have hm3 : r3.mask < 4294967296 := (by rw [← hr3]; exact or_lt32 hS.hm (by decide)); have ht3 : r3.mtch < 4294967296 := (by rw [← hr3]; exact or_lt32 hS.ht (by omega)); clear hr3; obtain ⟨a0, a1, a3, a4, a5, a8, a10, a11⟩ := hS.cells)
    | (refine wpList_store_Rs rfl _ _ rfl rfl hS r3 hm3 ht3 rfl ?_; intro V3 hS2; replace hS := hS2; clear hS2 hm3 ht3; obtain ⟨a0, a1, a3, a4, a5, a8, a10, a11⟩ := hS.cells)
    | (go_at_call 83; (with_reducible refine (fix_20 _ _ n2 hS.hm hS.ht h2).mono ?_); rintro e v3 ⟨rfl, bb3⟩; replace hS := hS.call bb3; obtain ⟨r4, hr4⟩ : ∃ r, pt20 n2 r3 = r := ⟨_, rfl⟩; rw [hr4]; have HR4 := Lib.hid hr4; have hm4 : r4.mask < 4294967296 := (by rw [← hr4]; exact or_lt32 hS.hm (by decide)); have ht4 : r4.mtch < 4294967296 := (by rw [← hr4]; exact or_lt32 hS.ht (by omega)); clear hr4; obtain ⟨a0, a1, a3, a4, a5, a8, a10, a11⟩ := hS.cells)
    | (refine wpList_store_Rs rfl _ _ rfl rfl hS r4 hm4 ht4 rfl ?_; intro V4 hS2; replace hS := hS2; clear hS2 hm4 ht4; obtain ⟨a0, a1, a3, a4, a5, a8, a10, a11⟩ := hS.cells)
    | (go_at_call 85; (with_reducible refine (letter_c _ f hf).mono ?_); rintro e u ⟨rfl, bu⟩; replace hS := hS.call bu; obtain ⟨a0, a1, a3, a4, a5, a8, a10, a11⟩ := hS.cells)
    | (go_at_call 85; (with_reducible refine (letter_c _ g hg).mono ?_); rintro e u ⟨rfl, bu⟩; replace hS := hS.call bu; obtain ⟨a0, a1, a3, a4, a5, a8, a10, a11⟩ := hS.cells)
    | (go_at_call 84; (with_reducible refine (size_c _ f hf).mono ?_); rintro e u ⟨rfl, bu⟩; replace hS := hS.call bu; obtain ⟨a0, a1, a3, a4, a5, a8, a10, a11⟩ := hS.cells)
    | (go_at_call 86; (with_reducible refine (kind_c _ k hk).mono ?_); rintro e u ⟨rfl, bu⟩; replace hS := hS.call bu; obtain ⟨a0, a1, a3, a4, a5, a8, a10, a11⟩ := hS.cells)
    | (refine wpList_load_blk rfl _ _ rfl _ rfl _ _ _ hS.row Try.underlying40 rfl (by kernel_rfl) ?_)
    | (refine wpList_store_blk rfl _ _ _ rfl _ _ rfl rfl _ _ hS.nm (by kernel_rfl) rfl (by simp [Value.oneCell']) ?_))
  rw [HN.out, HR0.out, HR1.out, HR2.out, HR3.out, HR4.out]
  exact bodyPost_ret (results_cell rfl _ _ (w.heap.size + 1) _ _ _ rfl (hS.nm.row _) Try.underlying42 rfl (by kernel_rfl)) rfl ⟨rfl, below_setRow hS.bel (by omega) _⟩
theorem row_c11 (w : World) (op code lay n3 nm n2 f g k : Nat) (name : ByteArray) (noq knd : Bool) (hc : code < 128) (h3 : n3 < 32) (hm3 : nm < 8) (h2 : n2 < 32) (hf : f < 4) (hg : g < 4) (hk : k < 4) (hn : name.size ≤ 6) (z21 : ((op : Int) == 21) = false) (z22 : ((op : Int) == 22) = false) (z23 : ((op : Int) == 23) = false) (z25 : ((op : Int) == 25) = true) :
    Calls Try.prog 61 #[.agg (lnV ⟨op, name, code, (n3 : Nat), (nm : Nat), (n2 : Nat), lay, noq, false, knd, false, false⟩), .int .u8 f, .int .u8 g, .int .u8 k] w fun e w' => e = .returned (.agg (entV (pt20 n2 (pt12 nm (pt25 f (pt27 n3 (pt0 code ⟨op, f, g, k, 0, 0, lay⟩))))) (((name ++ (⟨#[46]⟩ : ByteArray)) ++ (SIZ f)) ++ (⟨#[46, 120]⟩ : ByteArray)))) ∧ Below w.heap.size w w' := by
  have hf2 : f < 2 ^ 2 := by omega
  have hg5 : g < 2 ^ 5 := by omega
  have hk5 : k < 2 ^ 5 := by omega
  obtain ⟨s0, hs0⟩ : ∃ s, name ++ (⟨#[46]⟩ : ByteArray) = s := ⟨_, rfl⟩
  have cs0 : ∀ X : World, (Op.stringOp .add name (⟨#[46]⟩ : ByteArray)).run Try.prog X = .ok (.string s0) X := fun X => by rw [← hs0]; exact run_string_add_sum X _ _ (by have := hn; have := (by decide : (⟨#[46]⟩ : ByteArray).size ≤ 2); omega)
  have hz0 : s0.size ≤ 8 := by rw [← hs0, ByteArray.size_append]; have := hn; have := (by decide : (⟨#[46]⟩ : ByteArray).size ≤ 2); omega
  obtain ⟨s1, hs1⟩ : ∃ s, s0 ++ (SIZ f) = s := ⟨_, rfl⟩
  have cs1 : ∀ X : World, (Op.stringOp .add s0 (SIZ f)).run Try.prog X = .ok (.string s1) X := fun X => by rw [← hs1]; exact run_string_add_sum X _ _ (by have := hz0; have := (Nat.le_of_eq (SIZ_size f)); omega)
  have hz1 : s1.size ≤ 10 := by rw [← hs1, ByteArray.size_append]; have := hz0; have := (Nat.le_of_eq (SIZ_size f)); omega
  obtain ⟨s2, hs2⟩ : ∃ s, s1 ++ (⟨#[46, 120]⟩ : ByteArray) = s := ⟨_, rfl⟩
  have cs2 : ∀ X : World, (Op.stringOp .add s1 (⟨#[46, 120]⟩ : ByteArray)).run Try.prog X = .ok (.string s2) X := fun X => by rw [← hs2]; exact run_string_add_sum X _ _ (by have := hz1; have := (by decide : (⟨#[46, 120]⟩ : ByteArray).size ≤ 2); omega)
  have hz2 : s2.size ≤ 12 := by rw [← hs2, ByteArray.size_append]; have := hz1; have := (by decide : (⟨#[46, 120]⟩ : ByteArray).size ≤ 2); omega
  have HN : Hid ((((name ++ (⟨#[46]⟩ : ByteArray)) ++ (SIZ f)) ++ (⟨#[46, 120]⟩ : ByteArray)) = s2) := Lib.hid (by rw [hs0, hs1, hs2])
  clear hs0 hs1 hs2
  have F0 : Hid (∀ X, Calls Try.prog 83 #[.agg #[.int .u8 (op : Nat), .int .u8 (f : Nat), .int .u8 (g : Nat), .int .u8 (k : Nat), .int .u32 0, .int .u32 0, .int .u8 (lay : Nat)], .int .i64 0, .int .i64 7, .int .i64 (code : Nat)] X fun e w' => e = .returned (.agg (rowV (pt0 code ⟨op, f, g, k, 0, 0, lay⟩))) ∧ Below X.heap.size X w') := Lib.hid (fun X => fix_0 X ⟨op, f, g, k, 0, 0, lay⟩ code (by show 0 < 4294967296; decide) (by show 0 < 4294967296; decide) hc)
  go_enter Try.func61, Try.ntmps61
  go_upto_region 2 with (first
    | (go_at_call 83; (with_reducible refine (F0.out _).mono ?_); rintro e w1 ⟨rfl, b1⟩; clear F0))
  have hS := Rs.start w w1 ⟨op, name, code, (n3 : Nat), (nm : Nat), (n2 : Nat), lay, noq, false, knd, false, false⟩ code f g k hc b1
  show Code.wp _ _ _ _ (w1.alloc (.cells (rowV (pt0 code ⟨op, f, g, k, 0, 0, lay⟩)) 40))
  simp only [] at hS
  obtain ⟨V0, hV0⟩ : ∃ V, w1.alloc (.cells (rowV (pt0 code ⟨op, f, g, k, 0, 0, lay⟩)) 40) = V := ⟨_, rfl⟩
  obtain ⟨r0, hr0⟩ : ∃ r, pt0 code ⟨op, f, g, k, 0, 0, lay⟩ = r := ⟨_, rfl⟩
  rw [hV0, hr0] at hS
  rw [hV0]
  have HR0 := Lib.hid hr0
  clear hV0 hr0 b1
  obtain ⟨a0, a1, a3, a4, a5, a8, a10, a11⟩ := hS.cells
  go_wp2_with (first
    | (go_at_call 83; (with_reducible refine (fix_27 _ _ n3 hS.hm hS.ht h3).mono ?_); rintro e v0 ⟨rfl, bb0⟩; replace hS := hS.call bb0; obtain ⟨r1, hr1⟩ : ∃ r, pt27 n3 r0 = r := ⟨_, rfl⟩; rw [hr1]; have HR1 := Lib.hid hr1; have hm1 : r1.mask < 4294967296 := (by rw [← hr1]; exact or_lt32 hS.hm (by decide)); have ht1 : r1.mtch < 4294967296 := (by rw [← hr1]; exact or_lt32 hS.ht (by omega)); clear hr1; obtain ⟨a0, a1, a3, a4, a5, a8, a10, a11⟩ := hS.cells)
    | (refine wpList_store_Rs rfl _ _ rfl rfl hS r1 hm1 ht1 rfl ?_; intro V1 hS2; replace hS := hS2; clear hS2 hm1 ht1; obtain ⟨a0, a1, a3, a4, a5, a8, a10, a11⟩ := hS.cells)
    | (go_at_call 83; (with_reducible refine (fix_25 _ _ f hS.hm hS.ht hf2).mono ?_); rintro e v1 ⟨rfl, bb1⟩; replace hS := hS.call bb1; obtain ⟨r2, hr2⟩ : ∃ r, pt25 f r1 = r := ⟨_, rfl⟩; rw [hr2]; have HR2 := Lib.hid hr2; have hm2 : r2.mask < 4294967296 := (by rw [← hr2]; exact or_lt32 hS.hm (by decide)); have ht2 : r2.mtch < 4294967296 := (by rw [← hr2]; exact or_lt32 hS.ht (by omega)); clear hr2; obtain ⟨a0, a1, a3, a4, a5, a8, a10, a11⟩ := hS.cells)
    | (refine wpList_store_Rs rfl _ _ rfl rfl hS r2 hm2 ht2 rfl ?_; intro V2 hS2; replace hS := hS2; clear hS2 hm2 ht2; obtain ⟨a0, a1, a3, a4, a5, a8, a10, a11⟩ := hS.cells)
    | (go_at_call 83; (with_reducible refine (fix_12 _ _ nm hS.hm hS.ht hm3).mono ?_); rintro e v2 ⟨rfl, bb2⟩; replace hS := hS.call bb2; obtain ⟨r3, hr3⟩ : ∃ r, pt12 nm r2 = r := ⟨_, rfl⟩; rw [hr3]; have HR3 := Lib.hid hr3; have hm3 : r3.mask < 4294967296 := (by rw [← hr3]; exact or_lt32 hS.hm (by decide)); have ht3 : r3.mtch < 4294967296 := (by rw [← hr3]; exact or_lt32 hS.ht (by omega)); clear hr3; obtain ⟨a0, a1, a3, a4, a5, a8, a10, a11⟩ := hS.cells)
    | (refine wpList_store_Rs rfl _ _ rfl rfl hS r3 hm3 ht3 rfl ?_; intro V3 hS2; replace hS := hS2; clear hS2 hm3 ht3; obtain ⟨a0, a1, a3, a4, a5, a8, a10, a11⟩ := hS.cells)
    | (go_at_call 83; (with_reducible refine (fix_20 _ _ n2 hS.hm hS.ht h2).mono ?_); rintro e v3 ⟨rfl, bb3⟩; replace hS := hS.call bb3; obtain ⟨r4, hr4⟩ : ∃ r, pt20 n2 r3 = r := ⟨_, rfl⟩; rw [hr4]; have HR4 := Lib.hid hr4; have hm4 : r4.mask < 4294967296 := (by rw [← hr4]; exact or_lt32 hS.hm (by decide)); have ht4 : r4.mtch < 4294967296 := (by rw [← hr4]; exact or_lt32 hS.ht (by omega)); clear hr4; obtain ⟨a0, a1, a3, a4, a5, a8, a10, a11⟩ := hS.cells)
    | (refine wpList_store_Rs rfl _ _ rfl rfl hS r4 hm4 ht4 rfl ?_; intro V4 hS2; replace hS := hS2; clear hS2 hm4 ht4; obtain ⟨a0, a1, a3, a4, a5, a8, a10, a11⟩ := hS.cells)
    | (go_at_call 85; (with_reducible refine (letter_c _ f hf).mono ?_); rintro e u ⟨rfl, bu⟩; replace hS := hS.call bu; obtain ⟨a0, a1, a3, a4, a5, a8, a10, a11⟩ := hS.cells)
    | (go_at_call 85; (with_reducible refine (letter_c _ g hg).mono ?_); rintro e u ⟨rfl, bu⟩; replace hS := hS.call bu; obtain ⟨a0, a1, a3, a4, a5, a8, a10, a11⟩ := hS.cells)
    | (go_at_call 84; (with_reducible refine (size_c _ f hf).mono ?_); rintro e u ⟨rfl, bu⟩; replace hS := hS.call bu; obtain ⟨a0, a1, a3, a4, a5, a8, a10, a11⟩ := hS.cells)
    | (go_at_call 86; (with_reducible refine (kind_c _ k hk).mono ?_); rintro e u ⟨rfl, bu⟩; replace hS := hS.call bu; obtain ⟨a0, a1, a3, a4, a5, a8, a10, a11⟩ := hS.cells)
    | (refine wpList_load_blk rfl _ _ rfl _ rfl _ _ _ hS.row Try.underlying40 rfl (by kernel_rfl) ?_)
    | (refine wpList_store_blk rfl _ _ _ rfl _ _ rfl rfl _ _ hS.nm (by kernel_rfl) rfl (by simp [Value.oneCell']) ?_))
  rw [HN.out, HR0.out, HR1.out, HR2.out, HR3.out, HR4.out]
  exact bodyPost_ret (results_cell rfl _ _ (w.heap.size + 1) _ _ _ rfl (hS.nm.row _) Try.underlying42 rfl (by kernel_rfl)) rfl ⟨rfl, below_setRow hS.bel (by omega) _⟩
theorem row_c1 (w : World) (op code lay n3 nm n2 f g k : Nat) (name : ByteArray) (noq knd : Bool) (hc : code < 128) (h3 : n3 < 32) (hm3 : nm < 8) (h2 : n2 < 32) (hf : f < 4) (hg : g < 4) (hk : k < 4) (hn : name.size ≤ 6) (z21 : ((op : Int) == 21) = false) (z22 : ((op : Int) == 22) = false) (z23 : ((op : Int) == 23) = false) (z25 : ((op : Int) == 25) = false) (q : Nat) (hq : f = 0 ∧ q = 2 ∨ f = 1 ∧ q = 3 ∨ f = 2 ∧ q = 1 ∨ f = 3 ∧ q = 4) :
    Calls Try.prog 61 #[.agg (lnV ⟨op, name, code, -1, 0, -1, lay, noq, false, knd, false, true⟩), .int .u8 f, .int .u8 g, .int .u8 k] w fun e w' => e = .returned (.agg (entV (pt12 q (pt0 code ⟨op, f, g, k, 0, 0, lay⟩)) (name ++ (SIZ f)))) ∧ Below w.heap.size w w' := by
  have hf2 : f < 2 ^ 2 := by omega
  have hg5 : g < 2 ^ 5 := by omega
  have hk5 : k < 2 ^ 5 := by omega
  have hq3 : q < 2 ^ 3 := by omega
  have hix : ([.int .i64 2, .int .i64 3, .int .i64 1, .int .i64 4] : List Value)[f]'(by simpa using hf) = .int .i64 (q : Nat) := by
    rcases hq with ⟨rfl, rfl⟩ | ⟨rfl, rfl⟩ | ⟨rfl, rfl⟩ | ⟨rfl, rfl⟩ <;> rfl
  obtain ⟨s0, hs0⟩ : ∃ s, name ++ (SIZ f) = s := ⟨_, rfl⟩
  have cs0 : ∀ X : World, (Op.stringOp .add name (SIZ f)).run Try.prog X = .ok (.string s0) X := fun X => by rw [← hs0]; exact run_string_add_sum X _ _ (by have := hn; have := (Nat.le_of_eq (SIZ_size f)); omega)
  have hz0 : s0.size ≤ 8 := by rw [← hs0, ByteArray.size_append]; have := hn; have := (Nat.le_of_eq (SIZ_size f)); omega
  have HN : Hid ((name ++ (SIZ f)) = s0) := Lib.hid (by rw [hs0])
  clear hs0
  have F0 : Hid (∀ X, Calls Try.prog 83 #[.agg #[.int .u8 (op : Nat), .int .u8 (f : Nat), .int .u8 (g : Nat), .int .u8 (k : Nat), .int .u32 0, .int .u32 0, .int .u8 (lay : Nat)], .int .i64 0, .int .i64 7, .int .i64 (code : Nat)] X fun e w' => e = .returned (.agg (rowV (pt0 code ⟨op, f, g, k, 0, 0, lay⟩))) ∧ Below X.heap.size X w') := Lib.hid (fun X => fix_0 X ⟨op, f, g, k, 0, 0, lay⟩ code (by show 0 < 4294967296; decide) (by show 0 < 4294967296; decide) hc)
  go_enter Try.func61, Try.ntmps61
  go_upto_region 2 with (first
    | (go_at_call 83; (with_reducible refine (F0.out _).mono ?_); rintro e w1 ⟨rfl, b1⟩; clear F0))
  have hS := Rs.start w w1 ⟨op, name, code, -1, 0, -1, lay, noq, false, knd, false, true⟩ code f g k hc b1
  show Code.wp _ _ _ _ (w1.alloc (.cells (rowV (pt0 code ⟨op, f, g, k, 0, 0, lay⟩)) 40))
  simp only [] at hS
  obtain ⟨V0, hV0⟩ : ∃ V, w1.alloc (.cells (rowV (pt0 code ⟨op, f, g, k, 0, 0, lay⟩)) 40) = V := ⟨_, rfl⟩
  obtain ⟨r0, hr0⟩ : ∃ r, pt0 code ⟨op, f, g, k, 0, 0, lay⟩ = r := ⟨_, rfl⟩
  rw [hV0, hr0] at hS
  rw [hV0]
  have HR0 := Lib.hid hr0
  clear hV0 hr0 b1
  obtain ⟨a0, a1, a3, a4, a5, a8, a10, a11⟩ := hS.cells
  go_wp2_with (first
    | (go_at_call 83; (with_reducible refine (fix_12 _ _ q hS.hm hS.ht hq3).mono ?_); rintro e v0 ⟨rfl, bb0⟩; replace hS := hS.call bb0; obtain ⟨r1, hr1⟩ : ∃ r, pt12 q r0 = r := ⟨_, rfl⟩; rw [hr1]; have HR1 := Lib.hid hr1; have hm1 : r1.mask < 4294967296 := (by rw [← hr1]; exact or_lt32 hS.hm (by decide)); have ht1 : r1.mtch < 4294967296 := (by rw [← hr1]; exact or_lt32 hS.ht (by omega)); clear hr1; obtain ⟨a0, a1, a3, a4, a5, a8, a10, a11⟩ := hS.cells)
    | (refine wpList_store_Rs rfl _ _ rfl rfl hS r1 hm1 ht1 rfl ?_; intro V1 hS2; replace hS := hS2; clear hS2 hm1 ht1; obtain ⟨a0, a1, a3, a4, a5, a8, a10, a11⟩ := hS.cells)
    | (go_at_call 85; (with_reducible refine (letter_c _ f hf).mono ?_); rintro e u ⟨rfl, bu⟩; replace hS := hS.acall bu; obtain ⟨a0, a1, a3, a4, a5, a8, a10, a11⟩ := hS.cells)
    | (go_at_call 85; (with_reducible refine (letter_c _ g hg).mono ?_); rintro e u ⟨rfl, bu⟩; replace hS := hS.acall bu; obtain ⟨a0, a1, a3, a4, a5, a8, a10, a11⟩ := hS.cells)
    | (go_at_call 84; (with_reducible refine (size_c _ f hf).mono ?_); rintro e u ⟨rfl, bu⟩; replace hS := hS.acall bu; obtain ⟨a0, a1, a3, a4, a5, a8, a10, a11⟩ := hS.cells)
    | (go_at_call 86; (with_reducible refine (kind_c _ k hk).mono ?_); rintro e u ⟨rfl, bu⟩; replace hS := hS.acall bu; obtain ⟨a0, a1, a3, a4, a5, a8, a10, a11⟩ := hS.cells)
    | (refine wpList_load_blk rfl _ _ rfl _ rfl _ _ _ hS.row Try.underlying40 rfl (by kernel_rfl) ?_)
    | (refine wpList_store_blk rfl _ _ _ rfl _ _ rfl rfl _ _ hS.nm (by kernel_rfl) rfl (by simp [Value.oneCell']) ?_))
  rw [HN.out, HR0.out, HR1.out]
  exact bodyPost_ret (results_cell rfl _ _ (w.heap.size + 1) _ _ _ rfl (hS.nm.row _) Try.underlying42 rfl (by kernel_rfl)) rfl ⟨rfl, below_setRow hS.bel (by omega) _⟩
end Go.Proofs.Yteelconabmfnkaa
