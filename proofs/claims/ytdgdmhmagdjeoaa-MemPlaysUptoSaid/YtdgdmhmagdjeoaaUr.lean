/- Contracts of mem.Same, mem.Change (memories that are there). -/
import Derived.Test.YtdgdmhmagdjeoaaUq
namespace Go.Proofs.Ytdgdmhmagdjeoaa
open Go.RowKit
set_option maxHeartbeats 4000000
set_option maxRecDepth 100000
set_option linter.unusedVariables false
set_option linter.unusedSimpArgs false
theorem Row.spot {w : World} {B : Nat} {ao : Option Addr} {n cap : Nat} {l : List Nat} (h : Row w B (.slice ao n cap) l) : ∀ a, ao = some a → a.spot = none := fun a ha => by
  rcases h.shape with ⟨e, _⟩ | ⟨g, c, e, _⟩
  · simp at e; rw [ha] at e; simp at e
  · simp only [Value.slice.injEq] at e; rw [ha] at e; cases e.1; rfl
theorem same2_c (w : World) (B m k : Nat) (v u : Value) (x y : List Nat) (h1 : MemIs w B m v x) (h2 : MemIs w B k u y) :
    Calls Try.prog 22 #[.pointer (some ⟨m, 0, none⟩), .pointer (some ⟨k, 0, none⟩)] w fun e w' => e = .returned (.bool (decide (x = y))) ∧ ∃ q, w' = w.drewN q := by
  obtain ⟨ao, ca, rfl, _⟩ := Row.form h1.own
  obtain ⟨bo, cb, rfl, _⟩ := Row.form h2.own
  obtain ⟨n, hn⟩ : ∃ n, x.length = n := ⟨_, rfl⟩
  obtain ⟨n2, hn2⟩ : ∃ n, y.length = n := ⟨_, rfl⟩
  rw [hn] at h1
  rw [hn2] at h2
  have C1 := Lib.hid (fun q => none_c (w.drewN q) m ao n ca (h1.hd.below (below_drewN (Below.refl _ w))))
  have C2 := Lib.hid (fun q => none_c (w.drewN q) k bo n2 cb (h2.hd.below (below_drewN (Below.refl _ w))))
  have C3 : Hid (∀ q, Calls Try.prog 34 #[.slice ao n ca, .slice bo n2 cb] (w.drewN q) fun e w' => e = .returned (.bool (decide (x = y))) ∧ w' = w.drewN q) := Lib.hid (fun q => by
    have := equal_c (w.drewN q) ao bo x y ca cb h1.own.rd h2.own.rd h1.own.spot h2.own.spot h1.small h2.small
    rw [hn, hn2] at this; exact this)
  have f1 := h1.hd.row
  have f2 := h2.hd.row
  clear h1 h2
  go_enter Try.func22, Try.ntmps22
  go_wp2
  refine wp_region_tail [_, _, _, _, _, _, _, _, _, _, _, _, _, _, _, _, _, _, _] [_] (fun _ w' => ∃ q, w' = w.drewN q) (by kernel_rfl) (by kernel_rfl) (by kernel_rfl) ⟨1, rfl⟩ ?_
  (repeat (first | (refine sets_quiet (fun w' => ∃ q, w' = w.drewN q) (fun _ _ h => h) rfl (fun _ _ _ h => h) rfl ?_; intro K hK; go_big_quiet_op; first | go_big_quiet_on | (refine ⟨_, fun _ => rfl, ?_⟩; go_big_quiet_on)) | (refine sets_nil rfl (fun _ _ _ h => h) _ rfl _ rfl ?_; simp only [Act.put, List.setIfInBounds_toArray, List.set_cons_succ, List.set_cons_zero]) | (refine sets_skip rfl (fun _ _ _ h => h) ?_; simp only [Act.put, List.setIfInBounds_toArray, List.set_cons_succ, List.set_cons_zero])))
  refine sets_call (.bool false) rfl 31 [_] _ rfl Try.f31 Try.func31 (by kernel_rfl) (by kernel_rfl) [.pointer (some ⟨m, 0, none⟩)] rfl ?_ ?_
  · rintro S w' h1 h2 ⟨q, rfl⟩
    exact (C1.out q).mono fun e w'' ⟨he, hw⟩ => ⟨he, q, hw⟩
  simp only [Act.put, List.setIfInBounds_toArray, List.set_cons_succ, List.set_cons_zero]
  (repeat (first | (refine sets_quiet (fun w' => ∃ q, w' = w.drewN q) (fun _ _ h => h) rfl (fun _ _ _ h => h) rfl ?_; intro K hK; go_big_quiet_op; first | go_big_quiet_on | (refine ⟨_, fun _ => rfl, ?_⟩; go_big_quiet_on)) | (refine sets_nil rfl (fun _ _ _ h => h) _ rfl _ rfl ?_; simp only [Act.put, List.setIfInBounds_toArray, List.set_cons_succ, List.set_cons_zero]) | (refine sets_skip rfl (fun _ _ _ h => h) ?_; simp only [Act.put, List.setIfInBounds_toArray, List.set_cons_succ, List.set_cons_zero])))
  refine sets_call (.bool false) rfl 31 [_] _ rfl Try.f31 Try.func31 (by kernel_rfl) (by kernel_rfl) [.pointer (some ⟨k, 0, none⟩)] rfl ?_ ?_
  · rintro S w' h1 h2 ⟨q, rfl⟩
    exact (C2.out q).mono fun e w'' ⟨he, hw⟩ => ⟨he, q, hw⟩
  simp only [Act.put, List.setIfInBounds_toArray, List.set_cons_succ, List.set_cons_zero]
  (repeat (first | (refine sets_quiet (fun w' => ∃ q, w' = w.drewN q) (fun _ _ h => h) rfl (fun _ _ _ h => h) rfl ?_; intro K hK; go_big_quiet_op; first | go_big_quiet_on | (refine ⟨_, fun _ => rfl, ?_⟩; go_big_quiet_on)) | (refine sets_nil rfl (fun _ _ _ h => h) _ rfl _ rfl ?_; simp only [Act.put, List.setIfInBounds_toArray, List.set_cons_succ, List.set_cons_zero]) | (refine sets_skip rfl (fun _ _ _ h => h) ?_; simp only [Act.put, List.setIfInBounds_toArray, List.set_cons_succ, List.set_cons_zero])))
  refine sets_call (.bool (decide (x = y))) rfl 34 [_, _] _ rfl Try.f34 Try.func34 (by kernel_rfl) (by kernel_rfl) [.slice ao n ca, .slice bo n2 cb] rfl ?_ ?_
  · rintro S w' h1 h2 ⟨q, rfl⟩
    exact (C3.out q).mono fun e w'' ⟨he, hw⟩ => ⟨he, q, hw⟩
  simp only [Act.put, List.setIfInBounds_toArray, List.set_cons_succ, List.set_cons_zero]
  (repeat (first | (refine sets_quiet (fun w' => ∃ q, w' = w.drewN q) (fun _ _ h => h) rfl (fun _ _ _ h => h) rfl ?_; intro K hK; go_big_quiet_op; first | go_big_quiet_on | (refine ⟨_, fun _ => rfl, ?_⟩; go_big_quiet_on)) | (refine sets_nil rfl (fun _ _ _ h => h) _ rfl _ rfl ?_; simp only [Act.put, List.setIfInBounds_toArray, List.set_cons_succ, List.set_cons_zero]) | (refine sets_skip rfl (fun _ _ _ h => h) ?_; simp only [Act.put, List.setIfInBounds_toArray, List.set_cons_succ, List.set_cons_zero])))
  rintro S _ _ ⟨q, rfl⟩
  go_wp2
  go_ret
  exact ⟨rfl, q, rfl⟩
abbrev pget (ps : List (Nat × List Nat)) (i : Nat) : Nat × List Nat := ps[i]?.getD (0, [])
/-- patches that can be read -/
def PRd (w : World) (ao : Option Addr) (ps : List (Nat × List Nat)) : Prop :=
  ∀ i, i < ps.length → ∃ a b o so c, ao = some a ∧ a.add (i * 2) = ⟨b, o, none⟩ ∧ w.cell? ⟨b, o, none⟩ = some (.int .u64 ((pget ps i).1 : Nat)) ∧ w.cell? ⟨b, o + 1, none⟩ = some (.slice so (pget ps i).2.length c) ∧ Rd w so (pget ps i).2
theorem PRd.later {w w1 : World} {ao : Option Addr} {ps : List (Nat × List Nat)} (h : PRd w ao ps) (hb : Below w.heap.size w w1) : PRd w1 ao ps := fun i hi => by
  obtain ⟨a, b, o, so, c, h1, h0, h2, h3, h4⟩ := h i hi
  exact ⟨a, b, o, so, c, h1, h0, cell_later hb h2, cell_later hb h3, h4.later hb⟩
theorem take_step (ps : List (Nat × List Nat)) (l : List Nat) (k : Nat) (h : k < ps.length) : putAll8 l (ps.take (k + 1)) = put (putAll8 l (ps.take k)) (pget ps k).1 (pget ps k).2 := by
  unfold putAll8
  rw [List.take_add_one, List.getElem?_eq_getElem h, List.foldl_append]
  simp [pget, List.getElem?_eq_getElem h]
theorem change_c (w : World) (B m : Nat) (v : Value) (l : List Nat) (ao : Option Addr) (cap : Nat) (ps : List (Nat × List Nat)) (h : MemIs w B m v l) (hlen : ps.length ≤ 9223372036854775807)
    (hfit : ∀ i, i < ps.length → (pget ps i).1 + (pget ps i).2.length ≤ l.length) (hsm : ∀ i, i < ps.length → ∀ y ∈ (pget ps i).2, y < 256)
    (hr : ∀ wr, w.grownBy wr v.ownBlock → PRd wr ao ps) :
    Calls Try.prog 23 #[.pointer (some ⟨m, 0, none⟩), .slice ao ps.length cap] w fun e w' => e = .returned (.int .i64 0) ∧ MemIs w' B m v (putAll8 l ps) ∧ w.grownBy w' v.ownBlock := by
  obtain ⟨mo, ca, rfl, hnil⟩ := Row.form h.own
  have HCA : Hid (l.length ≤ ca) := Lib.hid (by
    rcases h.own.shape with ⟨e, e2⟩ | ⟨g, c, e, h1, _⟩
    · rw [e2]; exact Nat.zero_le _
    · simp at e; omega)
  have HMO : Hid (mo = none ∧ l = [] ∨ ∃ g, mo = some ⟨g, 0, none⟩) := Lib.hid (by
    rcases h.own.shape with ⟨e, e2⟩ | ⟨g, c, e, h1, _⟩
    · simp at e; exact .inl ⟨e.1, e2⟩
    · simp at e; exact .inr ⟨g, e.1⟩)
  obtain ⟨n, hn⟩ : ∃ n, l.length = n := ⟨_, rfl⟩
  obtain ⟨pn, hpn⟩ : ∃ n, ps.length = n := ⟨_, rfl⟩
  rw [hn] at h hr ⊢
  rw [hpn] at hlen ⊢
  have HH := Lib.hid h
  have HR := Lib.hid hr
  have HF := Lib.hid hfit
  have HP := Lib.hid hpn
  have HN := Lib.hid hn
  have HS := Lib.hid hsm
  have C1 := Lib.hid (none_c w m mo n ca h.hd)
  have HM : Hid (n ≤ 16777216) := Lib.hid (by rw [← hn]; exact h.len)
  clear hr hfit hpn hn h hsm
  go_enter Try.func23, Try.ntmps23
  go_wp2_with (first
    | (go_at_call 31; (with_reducible refine C1.out.mono ?_); rintro e w' ⟨rfl, rfl⟩))
  have HB := Lib.hid (Below.refl w'.heap.size w')
  go_loopw [13] (fun i wr => ∃ k : Nat, k ≤ pn ∧ i = .int .i64 k ∧ Below w'.heap.size w' wr) (fun i _ => pn - (intOf i).toNat)
  case atStart => exact ⟨0, by omega, rfl, HB.out⟩
  case round =>
    obtain ⟨k, hk, rfl, hb⟩ := hrel
    by_cases hlt : k < pn
    · obtain ⟨a, b, o, so, c, rfl, f0, f1, f2, f3⟩ := HR.out _ (below_grown hb _) k (by rw [HP.out]; exact hlt)
      have hff := HF.out k (by rw [HP.out]; exact hlt)
      rw [HN.out] at hff
      obtain ⟨at', hat⟩ : ∃ x, (pget ps k).1 = x := ⟨_, rfl⟩
      obtain ⟨le, hle⟩ : ∃ x, (pget ps k).2.length = x := ⟨_, rfl⟩
      rw [hat, hle] at hff
      rw [hat] at f1
      rw [hle] at f2
      have H1 := Lib.hid (HH.out.hd.below hb)
      have C2 : Hid (∀ W, Below wr.heap.size wr W → Calls Try.prog 33 #[.pointer (some ⟨m, 0, none⟩), .int .u64 at', .int .i64 le] W fun e w' => e = .returned (.bool true) ∧ w' = W) := Lib.hid (fun W hW => by
        have := there_c W m mo n ca at' le (H1.out.below hW) (by have := HM.out; omega) (by omega) (by have := HM.out; omega)
        rw [thB_nat, decide_eq_true hff] at this
        exact this)
      clear hat hle
      have HB2 := Lib.hid hb
      clear hb
      go_wp2_with (first
        | (go_at_call 33; (with_reducible refine (C2.out _ (below_alloc _ _)).mono ?_); rintro e w2 ⟨rfl, rfl⟩))
      go_round
      case rel => exact ⟨k + 1, by omega, by go_num, HB2.out.trans ((below_alloc _ _).mono HB2.out.size)⟩
      case measure => simp [intOf]; omega
    · have HB2 := Lib.hid hb
      clear hb
      go_wp2
      go_loopw [28] (fun i wr => ∃ k : Nat, k ≤ pn ∧ i = .int .i64 k ∧ MemIs wr B m (.slice mo n ca) (putAll8 l (ps.take k)) ∧ w'.grownBy wr (Value.slice mo n ca).ownBlock) (fun i _ => pn - (intOf i).toNat)
      case atStart => exact ⟨0, by omega, rfl, HH.out.later HB2.out, below_grown HB2.out _⟩
      case round =>
        obtain ⟨j, hj, rfl, hM, hg⟩ := hrel
        by_cases hlt : j < pn
        · obtain ⟨a, b, o, so, c, rfl, f0, f1, f2, f3⟩ := HR.out _ hg j (by rw [HP.out]; exact hlt)
          have hff := HF.out j (by rw [HP.out]; exact hlt)
          have H0 := Lib.hid (take_step ps l j (by rw [HP.out]; exact hlt))
          go_wp2
          have hb2 := below_alloc wr (.cells #[.int .u64 ((pget ps j).1 : Nat), .slice so (pget ps j).2.length c] 58)
          have hblk := Blk.new wr #[.int .u64 ((pget ps j).1 : Nat), .slice so (pget ps j).2.length c] 58
          have HHb := Lib.hid hb2
          obtain ⟨W, hW⟩ : ∃ W, wr.alloc (.cells #[.int .u64 ((pget ps j).1 : Nat), .slice so (pget ps j).2.length c] 58) = W := ⟨_, rfl⟩
          rw [hW] at hb2 hblk HHb ⊢
          clear hW
          have hM2 := hM.later hb2
          have HG := Lib.hid (grown_trans hg (below_grown hb2 _))
          have HR3 := Lib.hid (f3.later hb2)
          clear hM hg f1 f2 f3 f0 hb2 HHb
          have g1 := hM2.hd.row
          have g2 := hblk.cell 0
          have g3 := hblk.cell 1
          simp only [List.getElem?_toArray, List.getElem?_cons_succ, List.getElem?_cons_zero] at g2 g3
          have HM3 := Lib.hid hM2
          have HY := Lib.hid (HS.out j (by rw [HP.out]; exact hlt))
          obtain ⟨p, hp⟩ : ∃ p, pget ps j = p := ⟨_, rfl⟩
          rw [hp] at hff g2 g3 H0 HR3 HY ⊢
          rw [HN.out] at hff
          obtain ⟨pa, pl⟩ := p
          simp only [] at hff g2 g3 H0 HR3 HY ⊢
          obtain ⟨le, hle⟩ : ∃ x, pl.length = x := ⟨_, rfl⟩
          have HLE := Lib.hid hle
          rw [hle] at hff g3 ⊢
          have hpan : pa ≤ n := by omega
          clear hM2 hblk hle hp
          refine wp_region_tail [_, _, _, _, _, _, _, _, _] [_] (fun _ w' => ∃ q, w' = W.drewN q) (by kernel_rfl) (by kernel_rfl) (by kernel_rfl) ⟨1, rfl⟩ ?_
          (repeat (first | (refine sets_quiet (fun w' => ∃ q, w' = W.drewN q) (fun _ _ h => h) rfl (fun _ _ _ h => h) rfl ?_; intro K hK; go_big_quiet_op; first | go_big_quiet_on | (refine ⟨_, fun _ => rfl, ?_⟩; go_big_quiet_on)) | (refine sets_nil rfl (fun _ _ _ h => h) _ rfl _ rfl ?_; simp only [Act.put, List.setIfInBounds_toArray, List.set_cons_succ, List.set_cons_zero]) | (refine sets_skip rfl (fun _ _ _ h => h) ?_; simp only [Act.put, List.setIfInBounds_toArray, List.set_cons_succ, List.set_cons_zero])))
          rintro S _ _ ⟨q, rfl⟩
          have HLq : Hid ((putAll8 l (ps.take j)).length = n) := Lib.hid HM3.out.own.n_eq.symm
          rcases HMO.out with ⟨rfl, hl0⟩ | ⟨g, rfl⟩
          · have hn0 : n = 0 := by rw [← HN.out, hl0]; rfl
            have hle0 : le = 0 := by omega
            have hpa0 : pa = 0 := by omega
            subst hle0 hpa0 hn0
            refine wpList_copy_nothing rfl _ _ 29 29 rfl 5 Try.underlying29 infoB_size _ _ _ _ _ _ rfl rfl (by rfl) ?_
            go_wp2
            go_round
            case rel =>
              refine ⟨j + 1, by omega, by go_num, ?_, grown_drewN HG.out q⟩
              rw [H0.out]
              have e1 : pl = [] := List.eq_nil_of_length_eq_zero HLE.out
              have e2 := List.eq_nil_of_length_eq_zero HLq.out
              have := HM3.out.later (below_drewN (Below.refl _ W) (k := q))
              rw [e2] at this ⊢
              rw [e1]; exact this
            case measure => simp [intOf]; omega
          · have hrow := HM3.out.own.drewN q
            rw [← HLq.out] at hrow
            refine wpList_copy8 rfl _ _ rfl B g ca _ hrow _ so (n - pa) (ca - pa) le c rfl rfl pa pl HLE.out (by rw [HLE.out]; omega) (by rw [HLE.out, HLq.out]; exact hff) (fun h0 => cutA_some (by have := HCA.out; rw [HN.out] at this; rw [HLE.out] at h0; omega)) (HR3.out.later (below_drewN (Below.refl _ W))) ?_
            intro w3 hrow3 hg3
            have HM4 : Hid (MemIs w3 B m (.slice (some ⟨g, 0, none⟩) n ca) (putAll8 l (ps.take (j + 1)))) := Lib.hid (by
              rw [H0.out]
              rw [HLq.out] at hrow3
              exact (HM3.out.later (below_drewN (Below.refl _ W) (k := q))).put HY.out (by rw [HLE.out, HLq.out]; exact hff) hrow3 hg3)
            have HG3 := Lib.hid (grown_trans (grown_drewN HG.out q) hg3)
            clear hrow hrow3 hg3
            go_wp2
            go_round
            case rel => exact ⟨j + 1, by omega, by go_num, HM4.out, HG3.out⟩
            case measure => simp [intOf]; omega
        · go_wp2
          go_ret
          exact ⟨rfl, by rw [List.take_of_length_le (by rw [HP.out]; omega)] at hM; exact hM, hg⟩
end Go.Proofs.Ytdgdmhmagdjeoaa
