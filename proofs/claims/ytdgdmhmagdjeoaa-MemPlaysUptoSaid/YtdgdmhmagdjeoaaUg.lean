/- Cuts of slices of bytes; contracts of mem.Bytes, mem.Put, mem.Copy, abacuslaw28.all. -/
import Derived.Test.YtdgdmhmagdjeoaaUf
namespace Go.Proofs.Ytdgdmhmagdjeoaa
open Go.RowKit
set_option maxHeartbeats 4000000
set_option maxRecDepth 100000
set_option linter.unusedVariables false
set_option linter.unusedSimpArgs false
/-- where a cut begins -/
def cutA (ao : Option Addr) (lo cap : Nat) : Option Addr := if cap = lo then ao else ao.map (·.add lo)
theorem cutA_some {g lo cap : Nat} (h : lo < cap) : cutA (some ⟨g, 0, none⟩) lo cap = some ⟨g, lo, none⟩ := by
  unfold cutA; rw [if_neg (by omega)]
  simp [add0]
theorem cutA_none (lo cap : Nat) : cutA none lo cap = none := by unfold cutA; split <;> rfl
theorem cutA_nn {ao : Option Addr} {lo cap n : Nat} (h : ao = none → n = 0 ∧ cap = 0) (hl : lo ≤ n) : cutA ao lo cap = none → n - lo = 0 ∧ cap - lo = 0 := fun e => by
  have : ao = none := by
    unfold cutA at e; split at e
    · exact e
    · simpa using e
  have := h this
  omega
theorem Rd.cut {w : World} {ao : Option Addr} {l : List Nat} {lo n cap : Nat} (h : Rd w ao l) (h1 : lo + n ≤ l.length) (h2 : l.length ≤ cap) : Rd w (cutA ao lo cap) (part l lo n) := by
  unfold cutA
  split
  · obtain rfl : n = 0 := by omega
    rw [part_zero]; exact Rd.nil _ _
  · cases ao with
    | some a => exact h.piece lo n h1
    | none =>
      have : part l lo n = [] := List.eq_nil_of_length_eq_zero (by
        rw [part_length h1]
        rcases Nat.eq_zero_or_pos n with hn | hn
        · exact hn
        · obtain ⟨_, e, _⟩ := h lo (by omega); cases e)
      rw [this]; exact Rd.nil _ _
theorem wpList_cut_lh {w : World} {ops : Array Oper} {rest : List Oper} {o : Oper} {a : Act} {Q : Exit → Act → World → Prop} (hgd : o.guard = none) (x l h : Operand) (ho : o.op = .slice 29 x (some l) (some h) none)
    (ao : Option Addr) (len cap : Nat) (hx : a.eval x = .slice ao len cap) (kl kh : IntKind) (lo hi : Nat) (hl : a.eval l = .int kl lo) (hh : a.eval h = .int kh hi) (h1 : lo ≤ hi) (h2 : hi ≤ cap) (n c : Nat) (hn : hi - lo = n) (hc : cap - lo = c)
    (hK : wpList Try.prog ops Q rest (a.put o.dst (.slice (cutA ao lo cap) n c)) w) : wpList Try.prog ops Q (o :: rest) a w := by
  refine wpList_plain hgd fun K hK' => ?_
  subst hn hc
  have hr : (Instr.sliceAt 29 (.slice ao len cap) (some (.int kl lo)) (some (.int kh hi)) none).run Try.prog w = .ok (.slice (cutA ao lo cap) (hi - lo) (cap - lo)) w := by
    rw [run_sliceAt_slice (w := w) _ _ _ _ _ Try.underlying29, run_slice_lh (w := w) _ _ _ _ Try.underlying29 kl kh lo hi (by omega) (by omega) (by omega)]
    have hs : (sizeOf (Try.prog.elem 29)).run Try.prog w = .ok 1 w := by kernel_rfl
    rw [hs]
    simp [Result.andThen, sliced, cutA]
  unfold Oper.wp
  simp [execOp, ho, hx, hl, hh, hr, Result.andThen]
  exact hK' _ _ hK
theorem wpList_cut_l {w : World} {ops : Array Oper} {rest : List Oper} {o : Oper} {a : Act} {Q : Exit → Act → World → Prop} (hgd : o.guard = none) (x l : Operand) (ho : o.op = .slice 29 x (some l) none none)
    (ao : Option Addr) (len cap : Nat) (hx : a.eval x = .slice ao len cap) (kl : IntKind) (lo : Nat) (hl : a.eval l = .int kl lo) (h1 : lo ≤ len) (n c : Nat) (hn : len - lo = n) (hc : cap - lo = c)
    (hK : wpList Try.prog ops Q rest (a.put o.dst (.slice (cutA ao lo cap) n c)) w) : wpList Try.prog ops Q (o :: rest) a w := by
  refine wpList_plain hgd fun K hK' => ?_
  subst hn hc
  have hr : (Instr.sliceAt 29 (.slice ao len cap) (some (.int kl lo)) none none).run Try.prog w = .ok (.slice (cutA ao lo cap) (len - lo) (cap - lo)) w := by
    rw [run_sliceAt_slice (w := w) _ _ _ _ _ Try.underlying29, run_slice_l (w := w) _ _ _ _ Try.underlying29 kl lo (by omega) (by omega)]
    have hs : (sizeOf (Try.prog.elem 29)).run Try.prog w = .ok 1 w := by kernel_rfl
    rw [hs]
    simp [Result.andThen, sliced, cutA]
  unfold Oper.wp
  simp [execOp, ho, hx, hl, hr, Result.andThen]
  exact hK' _ _ hK
theorem wpList_cut_h {w : World} {ops : Array Oper} {rest : List Oper} {o : Oper} {a : Act} {Q : Exit → Act → World → Prop} (hgd : o.guard = none) (x h : Operand) (ho : o.op = .slice 29 x none (some h) none)
    (ao : Option Addr) (len cap : Nat) (hx : a.eval x = .slice ao len cap) (kh : IntKind) (hi : Nat) (hh : a.eval h = .int kh hi) (h2 : hi ≤ cap)
    (hK : wpList Try.prog ops Q rest (a.put o.dst (.slice (cutA ao 0 cap) hi cap)) w) : wpList Try.prog ops Q (o :: rest) a w := by
  refine wpList_plain hgd fun K hK' => ?_
  have hr : (Instr.sliceAt 29 (.slice ao len cap) none (some (.int kh hi)) none).run Try.prog w = .ok (.slice (cutA ao 0 cap) hi cap) w := by
    rw [run_sliceAt_slice (w := w) _ _ _ _ _ Try.underlying29, run_slice_h (w := w) _ _ _ _ Try.underlying29 kh hi (by omega) (by omega)]
    have hs : (sizeOf (Try.prog.elem 29)).run Try.prog w = .ok 1 w := by kernel_rfl
    rw [hs]
    simp [Result.andThen, sliced, cutA]
  unfold Oper.wp
  simp [execOp, ho, hx, hh, hr, Result.andThen]
  exact hK' _ _ hK
/-- bytes handed back, in memory of their own, and an error -/
def Gave (w : World) (x : List Nat) (er : Int) (e : Ending) (w' : World) : Prop :=
  ∃ ao c, e = .returned (.tuple #[.slice ao x.length c, .int .i64 er]) ∧ Row w' w.heap.size (.slice ao x.length c) x ∧ Below w.heap.size w w' ∧ (ao = none → c = 0)
theorem Gave.nil (w : World) (er : Int) : Gave w [] er (.returned (.tuple #[.slice none 0 0, .int .i64 er])) w :=
  ⟨none, 0, rfl, World.ownsRow_nil _ _ _ _, Below.refl _ _, fun _ => rfl⟩
theorem Row.form {w : World} {B : Nat} {v : Value} {l : List Nat} (h : Row w B v l) : ∃ ao c, v = .slice ao l.length c ∧ (ao = none → c = 0) := by
  rcases h.shape with ⟨rfl, rfl⟩ | ⟨g, c, rfl, _⟩
  · exact ⟨none, 0, rfl, fun _ => rfl⟩
  · exact ⟨_, c, rfl, fun e => by cases e⟩
def bchk (L a : Nat) (k : Int) : Int := if k < 0 then 2 else if thB L a k = false then 280 else 0
theorem bytes_no (w : World) (p : Value) (a : Nat) (k : Int) (h : NoMem w p) :
    Calls Try.prog 18 #[p, .int .u64 a, .int .i64 k] w fun e w' => e = .returned (.tuple #[.slice none 0 0, .int .i64 1]) ∧ w' = w := by
  have C1 := Lib.hid (none_no w p h)
  clear h
  go_enter Try.func18, Try.ntmps18
  go_wp2_with (first
    | (go_at_call 31; (with_reducible refine C1.out.mono ?_); rintro e w' ⟨rfl, rfl⟩))
  go_ret2
  exact ⟨rfl, rfl⟩
theorem bytes_neg (w : World) (m : Nat) (ao : Option Addr) (n cap a : Nat) (k : Int) (h : Head w m ao n cap) (hk : k < 0) :
    Calls Try.prog 18 #[.pointer (some ⟨m, 0, none⟩), .int .u64 a, .int .i64 k] w fun e w' => e = .returned (.tuple #[.slice none 0 0, .int .i64 2]) ∧ w' = w := by
  have C1 := Lib.hid (none_c w m ao n cap h)
  clear h
  go_enter Try.func18, Try.ntmps18
  go_wp2_with (first
    | (go_at_call 31; (with_reducible refine C1.out.mono ?_); rintro e w' ⟨rfl, rfl⟩))
  go_ret2
  exact ⟨rfl, rfl⟩
theorem bytes_out (w : World) (m : Nat) (ao : Option Addr) (n cap a : Nat) (k : Int) (h : Head w m ao n cap) (ha : a < 18446744073709551616) (hk : 0 ≤ k) (hk2 : k ≤ 9223372036854775807) (ht : thB n a k = false) :
    Calls Try.prog 18 #[.pointer (some ⟨m, 0, none⟩), .int .u64 a, .int .i64 k] w fun e w' => e = .returned (.tuple #[.slice none 0 0, .int .i64 280]) ∧ w' = w := by
  have C1 := Lib.hid (none_c w m ao n cap h)
  have C2 := Lib.hid (there_c w m ao n cap a k h ha (by omega) hk2)
  rw [ht] at C2
  have hk3 : ¬ k < 0 := by omega
  clear h ht
  go_enter Try.func18, Try.ntmps18
  go_wp2_with (first
    | (go_at_call 31; (with_reducible refine C1.out.mono ?_); rintro e w' ⟨rfl, rfl⟩)
    | (go_at_call 33; (with_reducible refine C2.out.mono ?_); rintro e w' ⟨rfl, rfl⟩))
  go_ret2
  exact ⟨rfl, rfl⟩
theorem bytes_c (w : World) (B m : Nat) (ao : Option Addr) (n cap a k : Nat) (l : List Nat) (h : MemIs w B m (.slice ao n cap) l) (hak : a + k ≤ n) :
    Calls Try.prog 18 #[.pointer (some ⟨m, 0, none⟩), .int .u64 a, .int .i64 k] w (Gave w (part l a k) 0) := by
  have hd := h.hd
  have hlen := hd.len
  have hm1 := hd.row
  have HN := Lib.hid h.own.n_eq
  have hcap : n ≤ cap := by
    rcases h.own.shape with ⟨e, _⟩ | ⟨g, c, e, h1, _⟩
    · simp at e; omega
    · simp at e; omega
  have hnn : ao = none → n = 0 ∧ cap = 0 := fun e => by
    rcases h.own.shape with ⟨e1, _⟩ | ⟨g, c, e1, h1, _⟩
    · simp at e1; omega
    · simp [e] at e1
  have HCUT := Lib.hid (h.own.rd.cut (lo := a) (n := k) (cap := cap) (by rw [← HN.out]; exact hak) (by rw [← HN.out]; exact hcap))
  have HPL : Hid ((part l a k).length = k) := Lib.hid (part_length (by rw [← HN.out]; exact hak))
  have HNN : Hid (cutA ao a cap = none → k = 0 ∧ cap - a = 0) := Lib.hid (fun e => by have := cutA_nn hnn (by omega : a ≤ n) e; omega)
  have C1 := Lib.hid (none_c w m ao n cap hd)
  have C2 := Lib.hid (there_c w m ao n cap a k hd (by omega) (by omega) (by omega))
  rw [thB_nat, decide_eq_true hak] at C2
  obtain ⟨e, he⟩ : ∃ e, a + k = e := ⟨_, rfl⟩
  have KE : (a : Int) + (k : Int) = (e : Int) := by omega
  have hea : e - a = k := by omega
  have HEA := Lib.hid hea
  have hec : e ≤ cap := by omega
  have hae : a ≤ e := by omega
  clear h hd hnn hea he
  go_enter Try.func18, Try.ntmps18
  go_wp2_with (first
    | (go_at_call 31; (with_reducible refine C1.out.mono ?_); rintro e w' ⟨rfl, rfl⟩)
    | (go_at_call 33; (with_reducible refine C2.out.mono ?_); rintro e w' ⟨rfl, rfl⟩)
    | (refine wpList_cut_lh rfl (.tmp 23) (.tmp 24) (.tmp 28) rfl ao n cap rfl .u64 .u64 a e rfl rfl hae hec k _ HEA.out rfl ?_)
    | (refine wpList_append8 rfl (.const (.slice none 0 0)) (.tmp 29) rfl _ (.slice none 0 0) [] rfl (World.ownsRow_nil _ _ _ _) _ _ _ rfl (part l a k) HPL.out HNN.out HCUT.out (by rw [HPL.out]; simp only [List.length_nil]; omega) (Nat.le_refl _) ?_))
  intro v w2 hrow hg hnil
  obtain ⟨ao2, c2, rfl, h0⟩ := Row.form hrow
  go_wp2
  go_ret2
  exact ⟨ao2, c2, rfl, hrow, grown_below hg, h0⟩
theorem put_no (w : World) (p v : Value) (a : Nat) (h : NoMem w p) :
    Calls Try.prog 20 #[p, .int .u64 a, v] w fun e w' => e = .returned (.int .i64 1) ∧ w' = w := by
  have C1 := Lib.hid (none_no w p h)
  clear h
  go_enter Try.func20, Try.ntmps20
  go_wp2_with (first
    | (go_at_call 31; (with_reducible refine C1.out.mono ?_); rintro e w' ⟨rfl, rfl⟩))
  go_ret
  exact ⟨rfl, rfl⟩
theorem put_out (w : World) (m : Nat) (ao bo : Option Addr) (n cap a k d : Nat) (h : Head w m ao n cap) (ha : a < 18446744073709551616) (hk2 : k ≤ 9223372036854775807) (ht : ¬ a + k ≤ n) :
    Calls Try.prog 20 #[.pointer (some ⟨m, 0, none⟩), .int .u64 a, .slice bo k d] w fun e w' => e = .returned (.int .i64 280) ∧ w' = w := by
  have C1 := Lib.hid (none_c w m ao n cap h)
  have C2 := Lib.hid (there_c w m ao n cap a k h ha (by omega) (by omega))
  rw [thB_nat, decide_eq_false ht] at C2
  clear h ht
  go_enter Try.func20, Try.ntmps20
  go_wp2_with (first
    | (go_at_call 31; (with_reducible refine C1.out.mono ?_); rintro e w' ⟨rfl, rfl⟩)
    | (go_at_call 33; (with_reducible refine C2.out.mono ?_); rintro e w' ⟨rfl, rfl⟩))
  go_ret
  exact ⟨rfl, rfl⟩
theorem MemIs.put {w w1 : World} {B m g n cap a : Nat} {l x : List Nat} (h : MemIs w B m (.slice (some ⟨g, 0, none⟩) n cap) l) (hx : ∀ y ∈ x, y < 256) (hfit : a + x.length ≤ l.length) (hr : Row w1 B (.slice (some ⟨g, 0, none⟩) n cap) (put l a x)) (hg : w.grownBy w1 (some g)) :
    MemIs w1 B m (.slice (some ⟨g, 0, none⟩) n cap) (put l a x) :=
  ⟨grown_blk hg h.head (fun e => h.ne (by simpa [Value.ownBlock] using e.symm)), h.le, hr, put_small h.small hx, by rw [put_length hfit]; exact h.len⟩
theorem put_c (w : World) (B m : Nat) (ao bo : Option Addr) (n cap a k d : Nat) (l x : List Nat) (h : MemIs w B m (.slice ao n cap) l) (hxk : x.length = k) (hak : a + k ≤ n) (hx : ∀ y ∈ x, y < 256) (hr : Rd w bo x) :
    Calls Try.prog 20 #[.pointer (some ⟨m, 0, none⟩), .int .u64 a, .slice bo k d] w fun e w' =>
      e = .returned (.int .i64 0) ∧ MemIs w' B m (.slice ao n cap) (put l a x) ∧ w.grownBy w' (Value.slice ao n cap).ownBlock := by
  have hd := h.hd
  have hlen := hd.len
  have hm1 := hd.row
  have hnl := h.own.n_eq
  have HN := Lib.hid hnl
  have HXK := Lib.hid hxk
  have C1 := Lib.hid (none_c w m ao n cap hd)
  have C2 := Lib.hid (there_c w m ao n cap a k hd (by omega) (by omega) (by omega))
  rw [thB_nat, decide_eq_true hak] at C2
  have HR := Lib.hid hr
  rcases h.own.shape with ⟨e, rfl⟩ | ⟨g, c, e, hcap, _⟩
  · obtain ⟨rfl, rfl, rfl⟩ : ao = none ∧ n = 0 ∧ cap = 0 := by simpa using e
    obtain rfl : a = 0 := by omega
    obtain rfl : k = 0 := by omega
    obtain rfl : x = [] := List.eq_nil_of_length_eq_zero hxk
    have HH := Lib.hid h
    have C2 : Hid (Calls Try.prog 33 #[.pointer (some ⟨m, 0, none⟩), .int .u64 0, .int .i64 0] w fun e w' => e = .returned (.bool true) ∧ w' = w) := C2
    clear h hd hnl hxk hr
    go_enter Try.func20, Try.ntmps20
    go_wp2_with (first
      | (go_at_call 31; (with_reducible refine C1.out.mono ?_); rintro e w' ⟨rfl, rfl⟩)
      | (go_at_call 33; (with_reducible refine C2.out.mono ?_); rintro e w' ⟨rfl, rfl⟩)
      | (refine wpList_copy_nothing rfl (.tmp 22) (.tmp 23) 29 29 rfl 5 Try.underlying29 infoB_size _ _ _ _ _ _ rfl rfl (by rfl) ?_))
    go_ret
    exact ⟨rfl, HH.out, World.grownBy.refl _ _⟩
  · obtain ⟨rfl, hz, rfl⟩ : ao = some ⟨g, 0, none⟩ ∧ n = l.length ∧ cap = c := by simpa using e
    clear hz
    have hcap2 : n ≤ cap := by omega
    have HH := Lib.hid h
    have HO := Lib.hid h.own
    have HX := Lib.hid hx
    have hcut : k ≤ n - a := by omega
    have hfit := hak
    rw [← hxk, hnl] at hfit
    have HF := Lib.hid hfit
    have HD : Hid (0 < x.length → cutA (some ⟨g, 0, none⟩) a cap = some ⟨g, a, none⟩) := Lib.hid fun h0 => cutA_some (by omega)
    have hcx : x.length ≤ n - a := by omega
    have HCX := Lib.hid hcx
    show Calls _ _ _ _ fun e w' => e = _ ∧ _ ∧ w.grownBy w' (some g)
    have hrow : Hid (Row w B (.slice (some ⟨g, 0, none⟩) l.length cap) l) := Lib.hid (by rw [← hnl]; exact h.own)
    have hal : a ≤ n := by omega
    clear h hd hnl hxk hr hx hcap hfit hcx e
    go_enter Try.func20, Try.ntmps20
    go_wp2_with (first
      | (go_at_call 31; (with_reducible refine C1.out.mono ?_); rintro e w' ⟨rfl, rfl⟩)
      | (go_at_call 33; (with_reducible refine C2.out.mono ?_); rintro e w' ⟨rfl, rfl⟩)
      | (refine wpList_cut_l rfl (.tmp 20) (.tmp 21) rfl (some ⟨g, 0, none⟩) n cap rfl .u64 a rfl hal _ _ rfl rfl ?_)
      | (refine wpList_copy8 rfl (.tmp 22) (.tmp 23) rfl B g cap l hrow.out _ bo _ _ k d rfl rfl a x HXK.out HCX.out HF.out HD.out HR.out ?_))
    intro w2 hrow2 hg
    go_wp2
    go_ret
    exact ⟨rfl, HH.out.put HX.out HF.out (by rw [← HN.out] at hrow2; exact hrow2) hg, hg⟩
theorem copy_no (w : World) (p : Value) (h : NoMem w p) : Calls Try.prog 21 #[p] w fun e w' => e = .returned (.pointer none) ∧ w' = w := by
  have C1 := Lib.hid (none_no w p h)
  clear h
  go_enter Try.func21, Try.ntmps21
  go_wp2_with (first
    | (go_at_call 31; (with_reducible refine C1.out.mono ?_); rintro e w' ⟨rfl, rfl⟩))
  go_ret
  exact ⟨rfl, rfl⟩
/-- another memory -/
def Copied (w : World) (l : List Nat) (e : Ending) (w' : World) : Prop :=
  ∃ m ao cap, e = .returned (.pointer (some ⟨m, 0, none⟩)) ∧ MemIs w' w.heap.size m (.slice ao l.length cap) l ∧ Below w.heap.size w w'
theorem copy_c (w : World) (B m : Nat) (ao : Option Addr) (n cap : Nat) (l : List Nat) (h : MemIs w B m (.slice ao n cap) l) : Calls Try.prog 21 #[.pointer (some ⟨m, 0, none⟩)] w (Copied w l) := by
  have hd := h.hd
  have hlen := hd.len
  have hm1 := hd.row
  have HN := Lib.hid h.own.n_eq
  have hnn : ao = none → n = 0 ∧ cap = 0 := fun e => by
    rcases h.own.shape with ⟨e1, _⟩ | ⟨g, c, e1, h1, _⟩
    · simp at e1; omega
    · simp [e] at e1
  have HNN := Lib.hid hnn
  have HRD := Lib.hid h.own.rd
  have C1 := Lib.hid (none_c w m ao n cap hd)
  have HS := Lib.hid h.small
  have HL := Lib.hid h.len
  clear h hd hnn
  go_enter Try.func21, Try.ntmps21
  go_wp2_with (first
    | (go_at_call 31; (with_reducible refine C1.out.mono ?_); rintro e w' ⟨rfl, rfl⟩)
    | (refine wpList_append8 rfl (.const (.slice none 0 0)) (.tmp 8) rfl _ (.slice none 0 0) [] rfl (World.ownsRow_nil _ _ _ _) _ _ _ rfl l HN.out.symm HNN.out HRD.out (by rw [← HN.out]; simp only [List.length_nil]; omega) (Nat.le_refl _) ?_))
  intro v w2 hrow hg hnil
  obtain ⟨ao2, c2, rfl, h0⟩ := Row.form hrow
  rw [← HN.out] at hrow ⊢
  go_wp2
  go_ret
  have hb := grown_below hg
  exact ⟨_, ao2, c2, rfl, ⟨by rw [← HN.out]; exact Blk.new _ _ _, hb.size, by rw [← HN.out]; exact hrow.alloc _, HS.out, HL.out⟩, hb.alloc hb.size _⟩
theorem all_c (w : World) (B m : Nat) (ao : Option Addr) (n cap : Nat) (l : List Nat) (h : MemIs w B m (.slice ao n cap) l) : Calls Try.prog 13 #[.pointer (some ⟨m, 0, none⟩)] w fun e w' =>
    ∃ ao c, e = .returned (.slice ao l.length c) ∧ Row w' w.heap.size (.slice ao l.length c) l ∧ Below w.heap.size w w' := by
  have C1 := Lib.hid (len_c w m ao n cap h.hd)
  have e0 : part l 0 n = l := by
    rw [h.own.n_eq]; simp [part]
  have C2 : Hid (Calls Try.prog 18 #[.pointer (some ⟨m, 0, none⟩), .int .u64 0, .int .i64 (n : Nat)] w (Gave w l 0)) := Lib.hid (by
    have := bytes_c w B m ao n cap 0 n l h (by omega)
    rw [e0] at this; exact this)
  clear h e0
  go_enter Try.func13, Try.ntmps13
  go_wp2_with (first
    | (go_at_call 11; (with_reducible refine C1.out.mono ?_); rintro e w' ⟨rfl, rfl⟩)
    | (go_at_call 18; (with_reducible refine C2.out.mono ?_); rintro e w2 ⟨ao2, c2, rfl, hrow, hb, h0⟩))
  go_ret
  exact ⟨ao2, c2, rfl, hrow, hb⟩
end Go.Proofs.Ytdgdmhmagdjeoaa
