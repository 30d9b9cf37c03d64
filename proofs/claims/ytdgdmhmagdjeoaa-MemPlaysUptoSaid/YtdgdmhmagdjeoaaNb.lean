/- Contracts of abacusref28.Put, Bytes, Change; of mem.Put, mem.Bytes, mem.Change whatever the arguments. -/
import Derived.Test.YtdgdmhmagdjeoaaUs
import Derived.Test.YtdgdmhmagdjeoaaNa
namespace Go.Proofs.Ytdgdmhmagdjeoaa
open Go.RowKit
set_option maxHeartbeats 4000000
set_option maxRecDepth 100000
set_option linter.unusedVariables false
set_option linter.unusedSimpArgs false
/-- bytes that can be read, as a slice's three parts -/
structure Xs (w : World) (ao : Option Addr) (c : Nat) (l : List Nat) : Prop where
  rd : Rd w ao l
  cap : l.length ≤ c
  nil : ao = none → l.length = 0 ∧ c = 0
theorem Xs.later {w w1 : World} {ao : Option Addr} {c : Nat} {l : List Nat} (h : Xs w ao c l) (hb : Below w.heap.size w w1) : Xs w1 ao c l := ⟨h.rd.later hb, h.cap, h.nil⟩
theorem Xs.kept {w w1 : World} {r : Option Nat} {ao : Option Addr} {c : Nat} {l : List Nat} (h : Xs w ao c l) (hg : w.grownBy w1 r) (hne : ∀ a, ao = some a → some a.block ≠ r) : Xs w1 ao c l := ⟨h.rd.kept hg hne, h.cap, h.nil⟩
theorem Row.xs {w : World} {B n c : Nat} {ao : Option Addr} {l : List Nat} (h : Row w B (.slice ao n c) l) : Xs w ao c l := by
  refine ⟨h.rd, ?_, ?_⟩
  · rcases h.shape with ⟨e, rfl⟩ | ⟨g, cap, e, h1, _⟩
    · simp
    · simp at e; omega
  · intro e0
    subst e0
    rcases h.shape with ⟨e, rfl⟩ | ⟨g, cap, e, h1, _⟩
    · simp at e; exact ⟨rfl, e.2⟩
    · simp at e
theorem Row.fresh {w : World} {B n c : Nat} {ao : Option Addr} {l : List Nat} (h : Row w B (.slice ao n c) l) : ∀ a, ao = some a → B ≤ a.block := fun a ha => by
  subst ha
  rcases h.shape with ⟨e, _⟩ | ⟨g, cap, e, _, _, h1⟩
  · simp at e
  · simp only [Value.slice.injEq, Option.some.injEq] at e
    rw [e.1]; exact h1
theorem row_grown {w w1 w2 : World} {B B' : Nat} {v : Value} {l : List Nat} (hb : Below B w w1) (hB : B ≤ w1.heap.size) (h : Row w1 B v l) (hg : w1.grownBy w2 v.ownBlock) : Below B w w2 := hb.grown hg hB fun k hk => (h.lt k hk).1
/-- what the document's functions hand back: bytes of their own or those that came in, and an error -/
def GaveX (w : World) (mo : Option Addr) (x : List Nat) (er : Int) (e : Ending) (w' : World) : Prop :=
  ∃ ao c, e = .returned (.tuple #[.slice ao x.length c, .int .i64 er]) ∧ Xs w' ao c x ∧ Below w.heap.size w w' ∧ (ao = mo ∨ ∀ a, ao = some a → w.heap.size ≤ a.block)
theorem Gave.gx {w w' : World} {x : List Nat} {er : Int} {e : Ending} (mo : Option Addr) (h : Gave w x er e w') : GaveX w mo x er e w' := by
  obtain ⟨ao, c, h1, h2, h3, h4⟩ := h
  exact ⟨ao, c, h1, h2.xs, h3, .inr h2.fresh⟩
theorem put_parts {l x : List Nat} {a e n : Nat} (he : a + x.length = e) (hn : n = l.length) (h : e ≤ n) : part l 0 a ++ x ++ part l e (n - e) = put l a x := by
  subst hn he
  unfold part put
  rw [List.drop_zero, List.append_assoc, List.take_of_length_le (l := l.drop (a + x.length)) (by rw [List.length_drop]; exact Nat.le_refl _)]
theorem rput_c (w : World) (mo bo : Option Addr) (cm cb a : Nat) (l x : List Nat) (hm : Xs w mo cm l) (hx : Xs w bo cb x) (hl : l.length ≤ 16777216) (hfit : a + x.length ≤ l.length) :
    Calls Try.prog 38 #[.slice mo l.length cm, .int .u64 a, .slice bo x.length cb] w (Gave w (put l a x) 0) := by
  have HPL : Hid ((put l a x).length = l.length) := Lib.hid (put_length hfit)
  obtain ⟨n, hn⟩ : ∃ n, l.length = n := ⟨_, rfl⟩
  obtain ⟨k, hk⟩ : ∃ k, x.length = k := ⟨_, rfl⟩
  obtain ⟨e, he⟩ : ∃ e, a + k = e := ⟨_, rfl⟩
  have HM := Lib.hid hm
  have HX := Lib.hid hx
  have hcap := hm.cap
  rw [hn] at hl hfit hcap
  rw [hk] at hfit
  rw [he] at hfit
  have HPP : Hid (part l 0 a ++ x ++ part l e (n - e) = put l a x) := Lib.hid (put_parts (by rw [hk]; exact he) hn.symm hfit)
  have C1 : Hid (∀ X, Calls Try.prog 42 #[.slice mo n cm, .int .u64 a, .int .i64 k] X fun e w' => e = .returned (.bool true) ∧ w' = X) := Lib.hid fun X => by
    have := rthere_c X mo n cm a k (by omega) (by omega) (by omega) (by omega)
    rw [thB_nat, decide_eq_true (by omega)] at this
    exact this
  have KE : (a : Int) + (k : Int) = (e : Int) := by omega
  have hae : a ≤ n := by omega
  have hac : a ≤ cm := by omega
  have HL1 : Hid ((part l 0 a).length = a) := Lib.hid (part_length (by omega))
  have HL2 : Hid ((part l e (n - e)).length = n - e) := Lib.hid (part_length (by omega))
  have HR1 := Lib.hid (hm.rd.cut (lo := 0) (n := a) (cap := cm) (by omega) (by omega))
  have HR2 := Lib.hid (hm.rd.cut (lo := e) (n := n - e) (cap := cm) (by omega) (by omega))
  have HN1 : Hid (cutA mo 0 cm = none → a = 0 ∧ cm = 0) := Lib.hid (fun e => by have := cutA_nn hm.nil (Nat.zero_le _) e; omega)
  have HN2 : Hid (cutA mo e cm = none → n - e = 0 ∧ cm - e = 0) := Lib.hid (fun e => by have := cutA_nn hm.nil (by omega) e; omega)
  have HK := Lib.hid hk
  have HN := Lib.hid hn
  rw [hn, hk]
  clear hm hx hn hk he hcap
  go_enter Try.func38, Try.ntmps38
  go_wp2_with (first
    | (go_at_call 42; (with_reducible refine (C1.out _).mono ?_); rintro e w' ⟨rfl, rfl⟩; clear C1)
    | (refine wpList_cut_h rfl (.tmp 17) (.tmp 18) rfl mo n cm rfl .u64 a rfl hac ?_)
    | (refine wpList_append8 rfl (.tmp 16) (.tmp 19) rfl _ (.slice none 0 0) [] rfl (World.ownsRow_nil _ _ _ _) _ _ _ rfl (part l 0 a) HL1.out HN1.out HR1.out (by rw [HL1.out]; simp only [List.length_nil]; omega) (Nat.le_refl _) ?_; intro v1 w1 hrow1 hg1 hnil1; have R1 := Lib.hid hrow1; have B1 := Lib.hid (grown_below hg1); clear hrow1 hg1 hnil1)
    | (refine wpList_append8 rfl (.tmp 21) (.tmp 22) rfl _ v1 _ rfl R1.out _ _ _ rfl x HK.out (fun e => by have := HX.out.nil e; have := HK.out; omega) (HX.out.rd.later B1.out) (by rw [List.nil_append, HL1.out, HK.out]; omega) B1.out.size ?_; intro v2 w2 hrow2 hg2 hnil2; have R2 := Lib.hid hrow2; have B2 := Lib.hid (row_grown (B' := 0) B1.out B1.out.size R1.out hg2); clear hrow2 hg2 hnil2)
    | (refine wpList_cut_l rfl (.tmp 25) (.tmp 30) rfl mo n cm rfl .i64 e rfl hfit _ _ rfl rfl ?_)
    | (refine wpList_append8 rfl (.tmp 24) (.tmp 31) rfl _ v2 _ rfl R2.out _ _ _ rfl (part l e (n - e)) HL2.out HN2.out (HR2.out.later B2.out) (by rw [List.nil_append, List.length_append, HL1.out, HL2.out, HK.out]; omega) B2.out.size ?_; intro v3 w3 hrow3 hg3 hnil3; have R3 := Lib.hid hrow3; have B3 := Lib.hid (row_grown (B' := 0) B2.out B2.out.size R2.out hg3); clear hrow3 hg3 hnil3))
  have hR := R3.out
  rw [List.nil_append, HPP.out] at hR
  obtain ⟨ao2, c2, rfl, h0⟩ := Row.form hR
  go_ret2
  exact ⟨ao2, c2, rfl, hR, B3.out, h0⟩
theorem rput_out (w : World) (mo bo : Option Addr) (n k cm cb a : Nat) (hn : n ≤ 9223372036854775807) (ha : a < 18446744073709551616) (hk : k ≤ 9223372036854775807) (hfit : ¬ a + k ≤ n) :
    Calls Try.prog 38 #[.slice mo n cm, .int .u64 a, .slice bo k cb] w fun e w' => e = .returned (.tuple #[.slice mo n cm, .int .i64 280]) ∧ w' = w := by
  have C1 := Lib.hid (rthere_c w mo n cm a k hn ha (by omega) (by omega))
  rw [thB_nat, decide_eq_false hfit] at C1
  go_enter Try.func38, Try.ntmps38
  go_wp2_with (first
    | (go_at_call 42; (with_reducible refine C1.out.mono ?_); rintro e w' ⟨rfl, rfl⟩))
  go_ret2
  exact ⟨rfl, rfl⟩
/-- bytes laid over others where they fit -/
def putX (l : List Nat) (a : Nat) (x : List Nat) : List Nat := if a + x.length ≤ l.length then put l a x else l
def putE (l : List Nat) (a : Nat) (x : List Nat) : Int := if a + x.length ≤ l.length then 0 else 280
theorem putX_len (l : List Nat) (a : Nat) (x : List Nat) : (putX l a x).length = l.length := by
  unfold putX; split
  · next h => exact put_length h
  · rfl
theorem rput_any (w : World) (mo bo : Option Addr) (cm cb a : Nat) (l x : List Nat) (hm : Xs w mo cm l) (hx : Xs w bo cb x) (hl : l.length ≤ 16777216) (hxl : x.length ≤ 16777216) (ha : a < 18446744073709551616) :
    Calls Try.prog 38 #[.slice mo l.length cm, .int .u64 a, .slice bo x.length cb] w (GaveX w mo (putX l a x) (putE l a x)) := by
  unfold putX putE
  by_cases h : a + x.length ≤ l.length
  · rw [if_pos h, if_pos h]
    exact (rput_c w mo bo cm cb a l x hm hx hl h).mono fun e w' h => h.gx mo
  · rw [if_neg h, if_neg h]
    refine (rput_out w mo bo _ _ cm cb a (by omega) ha (by omega) h).mono ?_
    rintro e w' ⟨rfl, rfl⟩
    exact ⟨mo, cm, rfl, hm, Below.refl _ _, .inl rfl⟩
theorem put_any (w : World) (B m : Nat) (ao bo : Option Addr) (n cap a d : Nat) (l x : List Nat) (h : MemIs w B m (.slice ao n cap) l) (hxl : x.length ≤ 9223372036854775807) (hx : ∀ y ∈ x, y < 256) (hr : Rd w bo x) (ha : a < 18446744073709551616) :
    Calls Try.prog 20 #[.pointer (some ⟨m, 0, none⟩), .int .u64 a, .slice bo x.length d] w fun e w' =>
      e = .returned (.int .i64 (putE l a x)) ∧ MemIs w' B m (.slice ao n cap) (putX l a x) ∧ w.grownBy w' (Value.slice ao n cap).ownBlock := by
  have hn := h.own.n_eq
  unfold putX putE
  by_cases hf : a + x.length ≤ l.length
  · rw [if_pos hf, if_pos hf]
    exact put_c w B m ao bo n cap a x.length d l x h rfl (by omega) hx hr
  · rw [if_neg hf, if_neg hf]
    refine (put_out w m ao bo n cap a x.length d h.hd ha hxl (by omega)).mono ?_
    rintro e w' ⟨rfl, rfl⟩
    exact ⟨rfl, h, World.grownBy.refl _ _⟩
/-! Bytes -/
def BV (l : List Nat) (a : Nat) (k : Int) : List Nat := if bchk l.length a k = 0 then part l a k.toNat else []
theorem rbytes_c (w : World) (mo : Option Addr) (cm a k : Nat) (l : List Nat) (hm : Xs w mo cm l) (hl : l.length ≤ 16777216) (hfit : a + k ≤ l.length) :
    Calls Try.prog 37 #[.slice mo l.length cm, .int .u64 a, .int .i64 k] w (Gave w (part l a k) 0) := by
  obtain ⟨n, hn⟩ : ∃ n, l.length = n := ⟨_, rfl⟩
  obtain ⟨e, he⟩ : ∃ e, a + k = e := ⟨_, rfl⟩
  have hcap := hm.cap
  rw [hn] at hl hfit hcap
  rw [he] at hfit
  have C1 : Hid (∀ X, Calls Try.prog 42 #[.slice mo n cm, .int .u64 a, .int .i64 k] X fun e w' => e = .returned (.bool true) ∧ w' = X) := Lib.hid fun X => by
    have := rthere_c X mo n cm a k (by omega) (by omega) (by omega) (by omega)
    rw [thB_nat, decide_eq_true (by omega)] at this
    exact this
  have KE : (a : Int) + (k : Int) = (e : Int) := by omega
  have HEA : Hid (e - a = k) := Lib.hid (by omega)
  have hae : a ≤ e := by omega
  have hec : e ≤ cm := by omega
  have hk0 : ¬ (k : Int) < 0 := by omega
  have HPL : Hid ((part l a k).length = k) := Lib.hid (part_length (by omega))
  have HCUT := Lib.hid (hm.rd.cut (lo := a) (n := k) (cap := cm) (by omega) (by omega))
  have HNN : Hid (cutA mo a cm = none → k = 0 ∧ cm - a = 0) := Lib.hid (fun e => by have := cutA_nn hm.nil (by omega : a ≤ l.length) e; omega)
  rw [hn]
  clear hm hn he hcap
  go_enter Try.func37, Try.ntmps37
  go_wp2_with (first
    | (go_at_call 42; (with_reducible refine (C1.out _).mono ?_); rintro e w' ⟨rfl, rfl⟩; clear C1)
    | (refine wpList_cut_lh rfl (.tmp 17) (.tmp 18) (.tmp 22) rfl mo n cm rfl .u64 .i64 a e rfl rfl hae hec k _ HEA.out rfl ?_)
    | (refine wpList_append8 rfl (.tmp 16) (.tmp 23) rfl _ (.slice none 0 0) [] rfl (World.ownsRow_nil _ _ _ _) _ _ _ rfl (part l a k) HPL.out HNN.out HCUT.out (by rw [HPL.out]; simp only [List.length_nil]; omega) (Nat.le_refl _) ?_; intro v w2 hrow hg hnil))
  obtain ⟨ao2, c2, rfl, h0⟩ := Row.form hrow
  go_ret2
  exact ⟨ao2, c2, rfl, hrow, grown_below hg, h0⟩
theorem rbytes_neg (w : World) (mo : Option Addr) (n cm a : Nat) (k : Int) (hk : k < 0) :
    Calls Try.prog 37 #[.slice mo n cm, .int .u64 a, .int .i64 k] w fun e w' => e = .returned (.tuple #[.slice none 0 0, .int .i64 2]) ∧ w' = w := by
  go_enter Try.func37, Try.ntmps37
  go_wp2
  go_ret2
  exact ⟨rfl, rfl⟩
theorem rbytes_out (w : World) (mo : Option Addr) (n cm a : Nat) (k : Int) (hn : n ≤ 9223372036854775807) (ha : a < 18446744073709551616) (hk : 0 ≤ k) (hk2 : k ≤ 9223372036854775807) (ht : thB n a k = false) :
    Calls Try.prog 37 #[.slice mo n cm, .int .u64 a, .int .i64 k] w fun e w' => e = .returned (.tuple #[.slice none 0 0, .int .i64 280]) ∧ w' = w := by
  have C1 := Lib.hid (rthere_c w mo n cm a k hn ha (by omega) hk2)
  rw [ht] at C1
  have hk0 : ¬ k < 0 := by omega
  go_enter Try.func37, Try.ntmps37
  go_wp2_with (first
    | (go_at_call 42; (with_reducible refine C1.out.mono ?_); rintro e w' ⟨rfl, rfl⟩))
  go_ret2
  exact ⟨rfl, rfl⟩
theorem bchk_zero {n a : Nat} {k : Int} (h : bchk n a k = 0) : ∃ j : Nat, k = (j : Int) ∧ a + j ≤ n := by
  unfold bchk at h
  split at h
  · omega
  split at h
  · omega
  · next h1 h2 =>
    have h3 := thB_spec (by simpa using h2 : thB n a k = true)
    exact ⟨k.toNat, by omega, by omega⟩
theorem rbytes_any (w : World) (mo : Option Addr) (cm a : Nat) (k : Int) (l : List Nat) (hm : Xs w mo cm l) (hl : l.length ≤ 16777216) (ha : a < 18446744073709551616) (hk : -9223372036854775808 ≤ k) (hk2 : k ≤ 9223372036854775807) :
    Calls Try.prog 37 #[.slice mo l.length cm, .int .u64 a, .int .i64 k] w (Gave w (BV l a k) (bchk l.length a k)) := by
  unfold BV
  by_cases h : bchk l.length a k = 0
  · rw [if_pos h, h]
    obtain ⟨j, rfl, hj⟩ := bchk_zero h
    exact rbytes_c w mo cm a j l hm hl hj
  · rw [if_neg h]
    by_cases h0 : k < 0
    · rw [show bchk l.length a k = 2 by unfold bchk; rw [if_pos h0]]
      refine (rbytes_neg w mo _ cm a k h0).mono ?_
      rintro e w' ⟨rfl, rfl⟩
      exact Gave.nil _ _
    · have ht : thB l.length a k = false := by
        unfold bchk at h; rw [if_neg h0] at h
        cases hb : thB l.length a k with
        | false => rfl
        | true => rw [hb] at h; simp at h
      rw [show bchk l.length a k = 280 by unfold bchk; rw [if_neg h0, if_pos ht]]
      refine (rbytes_out w mo _ cm a k (by omega) ha (by omega) hk2 ht).mono ?_
      rintro e w' ⟨rfl, rfl⟩
      exact Gave.nil _ _
theorem bytes_any (w : World) (B m : Nat) (ao : Option Addr) (n cap a : Nat) (k : Int) (l : List Nat) (h : MemIs w B m (.slice ao n cap) l) (ha : a < 18446744073709551616) (hk : -9223372036854775808 ≤ k) (hk2 : k ≤ 9223372036854775807) :
    Calls Try.prog 18 #[.pointer (some ⟨m, 0, none⟩), .int .u64 a, .int .i64 k] w (Gave w (BV l a k) (bchk l.length a k)) := by
  have hn := h.own.n_eq
  unfold BV
  rw [← hn]
  by_cases h1 : bchk n a k = 0
  · rw [if_pos h1, h1]
    obtain ⟨j, rfl, hj⟩ := bchk_zero h1
    exact bytes_c w B m ao n cap a j l h hj
  · rw [if_neg h1]
    by_cases h0 : k < 0
    · rw [show bchk n a k = 2 by unfold bchk; rw [if_pos h0]]
      refine (bytes_neg w m ao n cap a k h.hd h0).mono ?_
      rintro e w' ⟨rfl, rfl⟩
      exact Gave.nil _ _
    · have ht : thB n a k = false := by
        unfold bchk at h1; rw [if_neg h0] at h1
        cases hb : thB n a k with
        | false => rfl
        | true => rw [hb] at h1; simp at h1
      rw [show bchk n a k = 280 by unfold bchk; rw [if_neg h0, if_pos ht]]
      refine (bytes_out w m ao n cap a k h.hd ha (by omega) hk2 ht).mono ?_
      rintro e w' ⟨rfl, rfl⟩
      exact Gave.nil _ _
end Go.Proofs.Ytdgdmhmagdjeoaa
