/- The walk of MemPlays. -/
import Derived.Test.YtdgdmhmagdjeoaaNn
import Derived.Test.YtdgdmhmagdjeoaaKx
import Derived.Deep.CutRange
namespace Go.Proofs.Ytdgdmhmagdjeoaa
open Go.RowKit
set_option maxHeartbeats 16000000
set_option maxRecDepth 100000
set_option linter.unusedVariables false
set_option linter.unusedSimpArgs false
theorem walk_MemPlays_big (w : World) (ao bo sp : Option Addr) (ca cb sc n k : Nat) (ss : List St) (hs : SRd w sp ss) (hn : n ≤ 1048576) (hL : ss.length ≤ 1048576) (h : smallB n ss = false ∨ 2000 < k) :
    Calls Try.prog 8 #[.slice ao n ca, .slice bo k cb, .slice sp ss.length sc] w fun e w' => e = .returned (.bool true) ∧ Below w.heap.size w w' := by
  have C0 := Lib.hid (small_c w ao sp n ca sc ss hs hn hL)
  obtain ⟨L, hl⟩ : ∃ L, ss.length = L := ⟨_, rfl⟩
  rw [hl] at C0 ⊢
  clear hs hn hL hl
  cases hb : smallB n ss with
  | false =>
    rw [hb] at C0
    go_enter Try.func8, Try.ntmps8
    go_wp2_with (first
      | (go_at_call 25; (with_reducible refine C0.out.mono ?_); rintro e w1 ⟨rfl, ⟨q, rfl⟩, _⟩)
      | (go_at_call 9; (with_reducible refine (lives_c _).mono ?_); rintro e w8 ⟨rfl, h8⟩))
    go_ret
    exact ⟨rfl, (below_drewN (Below.refl w.heap.size w) (k := q)).trans h8⟩
  | true =>
    have hk : 2000 < k := h.resolve_left (by rw [hb]; simp)
    have d1 : decide ((2000 : Int) < (k : Int)) = true := decide_eq_true (by omega)
    have d2 : decide (2000 < k) = true := decide_eq_true hk
    rw [hb] at C0
    go_enter Try.func8, Try.ntmps8
    go_wp2_with (first
      | (go_at_call 25; (with_reducible refine C0.out.mono ?_); rintro e w1 ⟨rfl, ⟨q, rfl⟩, _⟩)
      | (go_at_call 9; (with_reducible refine (lives_c _).mono ?_); rintro e w8 ⟨rfl, h8⟩))
    go_ret
    exact ⟨rfl, (below_drewN (Below.refl w.heap.size w) (k := q)).trans h8⟩
/-- what both hands back, taken apart -/
def VAL3 (n : Nat) (t : Option Addr × Nat × List Nat) : Nat → Value
  | 11 => .tuple #[.slice t.1 n t.2.1, .bool true]
  | 12 => .tuple #[.slice t.1 n t.2.1, .bool true]
  | 13 => .slice t.1 n t.2.1
  | 14 => .bool true
  | 17 => .bool true
  | _ => undef
theorem boxc {w : World} {px i : Nat} {l : Nat → List Nat} {x : Nat → Option Addr} {c : Nat → Nat} {t : TypeId} (h : Blk w px #[.slice (x 0) (l 0).length (c 0), .slice (x 1) (l 1).length (c 1)] t) (hi : i < 2) : w.cell? ⟨px, i, none⟩ = some (.slice (x i) (l i).length (c i)) := by
  match i, hi with
  | 0, _ => exact h.cell 0
  | 1, _ => exact h.cell 1
theorem PI.start {W w2 w3 w4 w5 : World} {m0 m1 : Nat} {v0 v1 vi : Value} {la lb : List Nat} {ao bo : Option Addr} {ca cb : Nat} (ha : Xs W ao ca la) (hb : Xs W bo cb lb) (hr : Row w4 W.heap.size vi la) (hr2 : Row w2 W.heap.size vi la) (b2 : Below W.heap.size W w2) (b3 : w2.heap.size ≤ w3.heap.size) (b4 : Below W.heap.size W w4)
    (n0 : MemIs w3 w2.heap.size m0 v0 la) (q0 : MemIs w4 w2.heap.size m0 v0 la) (n1 : MemIs w4 w3.heap.size m1 v1 lb) (g5 : w4.grownBy w5 vi.ownBlock) :
    PI W ((w5.alloc (.cells #[.pointer (some ⟨m0, 0, none⟩), .pointer (some ⟨m1, 0, none⟩)] 46)).alloc (.cells #[.slice ao la.length ca, .slice bo lb.length cb] 63)) w5.heap.size (w5.heap.size + 1) (updA (fun _ => m1) 0 m0) (updA (fun _ => v1) 0 v0) (updA (fun _ => lb) 0 la) (updA (fun _ => bo) 0 ao) (updA (fun _ => cb) 0 ca) := by
  have hb5 : Below W.heap.size W w5 := row_grown (B' := 0) b4 b4.size hr g5
  have hlt := fun b hb => (hr2.lt b hb).2
  have kill : ∀ {B mm : Nat} {vv : Value} {ll : List Nat}, MemIs w4 B mm vv ll → w2.heap.size ≤ B → MemIs w5 B mm vv ll := fun h hB => h.kept g5 (fun e => by have h1 := hlt _ e.symm; have h2 := h.le; omega) (by
    rename_i vv ll
    cases hv : vv.ownBlock with
    | none => exact .inl rfl
    | some b =>
      refine .inr fun e => ?_
      have h1 := hlt b e.symm
      have h2 := (h.own.lt b hv).1
      omega)
  have k0 := kill q0 (Nat.le_refl _)
  have k1 := kill n1 b3
  have bel : Below W.heap.size W ((w5.alloc (.cells #[.pointer (some ⟨m0, 0, none⟩), .pointer (some ⟨m1, 0, none⟩)] 46)).alloc (.cells #[.slice ao la.length ca, .slice bo lb.length cb] 63)) := (hb5.alloc hb5.size _).alloc (Nat.le_trans hb5.size (by simp)) _
  have up : Below w5.heap.size w5 ((w5.alloc (.cells #[.pointer (some ⟨m0, 0, none⟩), .pointer (some ⟨m1, 0, none⟩)] 46)).alloc (.cells #[.slice ao la.length ca, .slice bo lb.length cb] 63)) := ((Below.refl _ w5).alloc (Nat.le_refl _) _).alloc (by simp) _
  have hi : ∀ i, i < 2 → i = 0 ∨ i = 1 := fun i h => by omega
  have hm0 := n0.head.lt
  have hm1 := n1.le
  have hx : ∀ i, i < 2 → ∀ a, updA (fun _ => bo) 0 ao i = some a → updA (fun _ => lb) 0 la i ≠ [] → a.block < W.heap.size := fun i h a ha' hne => by
    rcases hi i h with rfl | rfl
    · exact ha.lt hne a ha'
    · exact hb.lt hne a ha'
  have hv : ∀ i, i < 2 → ∀ b, (updA (fun _ => v1) 0 v0 i).ownBlock = some b → W.heap.size ≤ b := fun i h b hb' => by
    rcases hi i h with rfl | rfl
    · exact Nat.le_trans b2.size (n0.own.lt b hb').1
    · exact Nat.le_trans (Nat.le_trans b2.size b3) (n1.own.lt b hb').1
  refine ⟨?_, ?_, fun i h => ?_, fun i h => ?_, ?_, fun i j h h' hne => ?_, fun i j h h' a ha' hne e => ?_, fun i h a ha' hne => ?_, bel, ⟨hb5.size, Nat.le_trans hb5.size (Nat.le_succ _)⟩⟩
  · exact (Blk.new w5 _ _).alloc _
  · have := Blk.new (w5.alloc (.cells #[.pointer (some ⟨m0, 0, none⟩), .pointer (some ⟨m1, 0, none⟩)] 46)) #[.slice ao la.length ca, .slice bo lb.length cb] 63
    simpa [updA] using this
  · rcases hi i h with rfl | rfl
    · exact (k0.mono b2.size).later up
    · exact (k1.mono (Nat.le_trans b2.size b3)).later up
  · rcases hi i h with rfl | rfl
    · exact ha.later bel
    · exact hb.later bel
  · show m0 ≠ m1
    omega
  · have key : ∀ b, v0.ownBlock = some b → v1.ownBlock ≠ some b := fun b h1 h2 => by
      have h3 := (n0.own.lt b h1).2
      have h4 := (n1.own.lt b h2).1
      omega
    rcases hi i h with rfl | rfl <;> rcases hi j h' with rfl | rfl
    · exact absurd rfl hne
    · show v0.ownBlock = none ∨ v0.ownBlock ≠ v1.ownBlock
      cases h1 : v0.ownBlock with
      | none => exact .inl rfl
      | some b => exact .inr fun e => key b h1 e.symm
    · show v1.ownBlock = none ∨ v1.ownBlock ≠ v0.ownBlock
      cases h1 : v1.ownBlock with
      | none => exact .inl rfl
      | some b => exact .inr fun e => key b e.symm h1
    · exact absurd rfl hne
  · have h1 := hx i h a ha' hne
    have h2 := hv j h' a.block e.symm
    omega
  · have h1 := hx i h a ha' hne
    have h2 := hb5.size
    exact ⟨by omega, by omega⟩
theorem walk_MemPlays_small (w : World) (ao bo sp : Option Addr) (ca cb sc : Nat) (la lb : List Nat) (ss : List St) (ha : Xs w ao ca la) (hb : Xs w bo cb lb) (hs : SRd w sp ss) (ha8 : ∀ y ∈ la, y < 256) (hb8 : ∀ y ∈ lb, y < 256) (hn : la.length ≤ 1048576) (hL : ss.length ≤ 1048576) (hsm : smallB la.length ss = true) (hk : ¬ 2000 < lb.length) :
    Calls Try.prog 8 #[.slice ao la.length ca, .slice bo lb.length cb, .slice sp ss.length sc] w fun e w' => e = .returned (.bool true) ∧ Below w.heap.size w w' := by
  have C0 := Lib.hid (small_c w ao sp la.length ca sc ss hs hn hL)
  rw [hsm] at C0
  have CA : Hid (∀ X v, Row X w.heap.size v la → Calls Try.prog 16 #[v] X fun e w' => ∃ m v, e = .returned (.tuple #[.pointer (some ⟨m, 0, none⟩), .int .i64 0]) ∧ MemIs w' X.heap.size m v la ∧ Below X.heap.size X w') := Lib.hid fun X v hr => by
    obtain ⟨io, ic, rfl, _⟩ := Row.form hr
    exact (of_c X io ic la (by omega) ha8 hr.rd).mono fun e w' ⟨m, g, cap, h1, h2, h3⟩ => ⟨m, _, h1, h2, h3⟩
  have CB : Hid (∀ X, Below w.heap.size w X → Calls Try.prog 16 #[.slice bo lb.length cb] X fun e w' => ∃ m v, e = .returned (.tuple #[.pointer (some ⟨m, 0, none⟩), .int .i64 0]) ∧ MemIs w' X.heap.size m v lb ∧ Below X.heap.size X w') := Lib.hid fun X hX =>
    (of_c X bo cb lb (by omega) hb8 (hb.rd.later hX)).mono fun e w' ⟨m, g, cap, h1, h2, h3⟩ => ⟨m, _, h1, h2, h3⟩
  have HA := Lib.hid ha
  have HB := Lib.hid hb
  have HS := Lib.hid hs
  obtain ⟨n, hnn⟩ : ∃ n, la.length = n := ⟨_, rfl⟩
  obtain ⟨k, hkk⟩ : ∃ n, lb.length = n := ⟨_, rfl⟩
  obtain ⟨L, hl⟩ : ∃ L, ss.length = L := ⟨_, rfl⟩
  have HN := Lib.hid hnn
  have HK := Lib.hid hkk
  have HL := Lib.hid hl
  rw [hnn] at hn hsm
  rw [hl] at hL
  rw [hkk] at hk CB
  rw [hnn, hl] at C0
  rw [hnn, hkk, hl]
  have d1 : decide ((2000 : Int) < (k : Int)) = false := decide_eq_false (by omega)
  have d2 : decide (2000 < k) = false := decide_eq_false hk
  clear ha hb hs hnn hkk hl hsm ha8 hb8
  go_enter Try.func8, Try.ntmps8
  go_upto_region 12 with (first
    | (go_at_call 25; (with_reducible refine C0.out.mono ?_); rintro e w1 ⟨rfl, ⟨q, rfl⟩, hsml⟩; have HSM := Lib.hid (hsml rfl); have B1 := Lib.hid (below_drewN (Below.refl w.heap.size w) (k := q)); clear hsml C0)
    | (at_builtin; refine wpList_append8 rfl (.const (.slice none 0 0)) (.tmp 32) rfl w.heap.size (.slice none 0 0) [] rfl (World.ownsRow_nil _ _ _ _) _ _ _ rfl la HN.out (fun e => by have := HA.out.nil e; have := HN.out; omega) (HA.out.later B1.out).rd (by have := HN.out; simp only [List.length_nil]; omega) B1.out.size ?_; intro vi w2 hrow2 hg2 hnil2; rw [List.nil_append] at hrow2; have R2 := Lib.hid hrow2; have B2 := Lib.hid (B1.out.trans ((grown_below hg2).mono B1.out.size)); clear hrow2 hg2 hnil2)
    | (go_at_call 16; (with_reducible refine (CA.out _ _ R2.out).mono ?_); rintro e w3 ⟨m0, v0, rfl, M0, b3⟩; have R3 := Lib.hid (row_later R2.out b3); have B3 := Lib.hid (B2.out.trans (b3.mono B2.out.size)); have b23 := Lib.hid b3.size; have N0 := Lib.hid M0; clear M0 b3 CA)
    | (go_at_call 16; (with_reducible refine (CB.out _ B3.out).mono ?_); rintro e w4 ⟨m1, v1, rfl, M1, b4⟩; have R4 := Lib.hid (row_later R3.out b4); have B4 := Lib.hid (B3.out.trans (b4.mono B3.out.size)); have N1 := Lib.hid M1; have Q0 := Lib.hid (N0.out.later b4); clear M1 b4 CB)
    | (go_at_call 26; (with_reducible refine (spoil_any _ _ _ la (by have := HN.out; omega) R4.out).mono ?_); rintro e w5 ⟨rfl, g5, k5⟩; have G5 := Lib.hid g5; clear g5 k5))
  have hPI := PI.start HA.out HB.out R4.out R2.out B2.out b23.out B4.out N0.out Q0.out N1.out G5.out
  rw [HN.out, HK.out] at hPI
  obtain ⟨pw, hpw⟩ : ∃ pw, w5.heap.size = pw := ⟨_, rfl⟩
  obtain ⟨px, hpx⟩ : ∃ px, pw + 1 = px := ⟨_, rfl⟩
  obtain ⟨W, hW⟩ : ∃ W, (w5.alloc (.cells #[.pointer (some ⟨m0, 0, none⟩), .pointer (some ⟨m1, 0, none⟩)] 46)).alloc (.cells #[.slice ao n ca, .slice bo k cb] 63) = W := ⟨_, rfl⟩
  change Code.wp _ _ _ _ ((w5.alloc (.cells #[.pointer (some ⟨m0, 0, none⟩), .pointer (some ⟨m1, 0, none⟩)] 46)).alloc (.cells #[.slice ao n ca, .slice bo k cb] 63))
  rw [hW, hpw, hpx] at hPI ⊢
  have HPI := Lib.hid hPI
  clear hPI hW hpw hpx B1 R2 B2 b23 R3 B3 N0 R4 B4 N1 Q0 G5 HA HB
  go_loopw [14] (fun i wr => ∃ (j : Nat) (m : Nat → Nat) (v : Nat → Value) (l : Nat → List Nat) (x : Nat → Option Addr) (c : Nat → Nat), j ≤ L ∧ i = .int .i64 j ∧ PI w wr pw px m v l x c) (fun i _ => L - (intOf i).toNat)
  case atStart => exact ⟨0, _, _, _, _, _, by omega, rfl, HPI.out⟩
  case round =>
    obtain ⟨j, m, v, l, x, c, hj, rfl, hP⟩ := hrel
    clear HPI
    by_cases hlt : j < L
    · obtain ⟨hin, a, b, o, rfl, f0, fc⟩ := (HS.out.later hP.bel) j (by rw [HL.out]; exact hlt)
      obtain ⟨s, hsj⟩ : ∃ s, sget ss j = s := ⟨_, rfl⟩
      rw [hsj] at hin fc
      obtain ⟨kk, hk2, hkk⟩ := and_one s.on
      obtain ⟨k1, hk1⟩ : ∃ k1, 1 - kk = k1 := ⟨_, rfl⟩
      have K1 : (1 : Int) - (kk : Int) = (k1 : Int) := by omega
      have hk12 : k1 < 2 := by omega
      have hkne : kk ≠ k1 := by omega
      have e0 : wr.cell? ⟨b, o, none⟩ = some (.int .i64 s.how) := fc 0 _ rfl
      have e1 : wr.cell? ⟨b, o + 1, none⟩ = some (.int .i64 s.on) := fc 1 _ rfl
      have HP := Lib.hid hP
      have HIN := Lib.hid hin
      have HFC := Lib.hid fc
      have HSJ := Lib.hid hsj
      clear hP hin fc hsj hk1
      go_upto_if 83 with (fail)
      go_cut [16] from 83 to 112 (fun okv wx => okv = .bool true ∧ ∃ (m : Nat → Nat) (v : Nat → Value) (l : Nat → List Nat) (x : Nat → Option Addr) (c : Nat → Nat), PI w wx pw px m v l x c)
      case first =>
        by_cases h6 : s.how = 6
        · have z6 : (s.how == 6) = true := by rw [beq_iff_eq]; exact h6
          have CC : Hid (Calls Try.prog 21 #[.pointer (some ⟨m k1, 0, none⟩)] wr fun e w' => ∃ m' v', e = .returned (.pointer (some ⟨m', 0, none⟩)) ∧ MemIs w' wr.heap.size m' v' (l k1) ∧ Below wr.heap.size wr w') := Lib.hid (by
            have hM := HP.out.M k1 hk12
            obtain ⟨mo, mc, hv, _⟩ := Row.form hM.own
            rw [hv] at hM
            exact (copy_c wr _ _ _ _ _ _ hM).mono fun e w' ⟨m', ao, cap, h1, h2, h3⟩ => ⟨m', _, h1, h2, h3⟩)
          have c1 := HP.out.wc hk12
          clear h6
          go_wp2_with (first
            | (go_at_call 21; (with_reducible refine CC.out.mono ?_); rintro e w6 ⟨m', v', rfl, M6, b6⟩; have P6 := HP.out.later b6; have g1 := P6.wc hk2; have g2 := P6.bw.frozen kk; have NX := Lib.hid (HP.out.copy hk2 hk12 hkne b6 M6); have P7 := P6.bx.other kk (.pointer (some ⟨m', 0, none⟩)) P6.neq.symm; have g3 : (w6.setCell ⟨pw, kk, none⟩ (.pointer (some ⟨m', 0, none⟩))).cell? ⟨px, k1, none⟩ = some (.slice (x k1) (l k1).length (c k1)) := boxc P7 hk12; have g4 : ∃ u, (w6.setCell ⟨pw, kk, none⟩ (.pointer (some ⟨m', 0, none⟩))).cell? ⟨px, kk, none⟩ = some u := ⟨_, boxc P7 hk2⟩; have g5 := P7.frozen kk; obtain ⟨u, g4⟩ := g4; clear P6 P7 M6 b6 CC))
          go_meet
          exact ⟨rfl, _, _, _, _, _, NX.out⟩
        · have z6 : (s.how == 6) = false := by rw [beq_eq_false_iff_ne]; exact h6
          have c1 := HP.out.wc hk2
          have c2 := HP.out.xc hk2
          obtain ⟨nn, hnn⟩ : ∃ x, (l kk).length = x := ⟨_, rfl⟩
          have HNN := Lib.hid hnn
          rw [hnn] at c2
          have CB : Hid (∀ X, Below wr.heap.size wr X → Calls Try.prog 27 #[.pointer (some ⟨m kk, 0, none⟩), .slice (x kk) nn (c kk), .agg (stepV s)] X (BothP X w.heap.size (m kk) (v kk) nn (x kk))) := Lib.hid fun X hX => by
            have P1 := HP.out.later hX
            have hI : BothI X w.heap.size (m kk) (v kk) (l kk) (x kk) (c kk) s := ⟨P1.M kk hk2, P1.X kk hk2, P1.ap kk kk hk2 hk2, fun Y hY => by
              have hbY := P1.bel.grown hY P1.bel.size fun b hb => ((P1.M kk hk2).own.lt b hb).1
              have := ((HS.out.later hbY) j (by rw [HL.out]; exact hlt)).1
              rwa [HSJ.out] at this⟩
            have := both_c X w.heap.size (m kk) (c kk) (v kk) (l kk) (x kk) s hI
            rwa [hnn] at this
          have e2 : wr.cell? ⟨b, o + 2, none⟩ = some (.int .i64 s.wd) := HFC.out 2 _ rfl
          have e3 : wr.cell? ⟨b, o + 3, none⟩ = some (.int .i64 s.nn) := HFC.out 3 _ rfl
          have e4 : wr.cell? ⟨b, o + 4, none⟩ = some (.int .u64 (s.sa : Nat)) := HFC.out 4 _ rfl
          have e5 : wr.cell? ⟨b, o + 5, none⟩ = some (.int .u64 (s.hi : Nat)) := HFC.out 5 _ rfl
          have e6 : wr.cell? ⟨b, o + 6, none⟩ = some (.int .u64 (s.lo : Nat)) := HFC.out 6 _ rfl
          have e7 : wr.cell? ⟨b, o + 7, none⟩ = some (.slice s.dao s.data.length s.dc) := HFC.out 7 _ rfl
          have e8 : wr.cell? ⟨b, o + 8, none⟩ = some (.slice s.pao s.pats.length s.pc) := HFC.out 8 _ rfl
          clear h6 hnn
          go_wp2
          obtain ⟨U, Wd, hU⟩ : ∃ (U : Type) (Wd : U → World), ∀ w', ∃ u, w' = Wd u := ⟨World, id, fun w => ⟨w, rfl⟩⟩
          have HU := Lib.hid hU
          clear hU
          refine wp_region_gz [_, _, _, _, _, _, _, _, _, _, _, _, _, _, _, _, _, _] [] (fun j => [11, 12, 13, 14, 17].contains j) (fun j => [12, 13, 14, 16, 17].contains j) (GJ (fun j => [11, 12, 13, 14, 17].contains j) 11 16 (fun w' => ∃ q, w' = wr.drewN q)
            (fun (t : Option Addr × Nat × List Nat) b X => (b = false → t.2.2.length = nn ∧ MemIs X w.heap.size (m kk) (v kk) t.2.2 ∧ Xs X t.1 t.2.1 t.2.2 ∧ wr.grownBy X (v kk).ownBlock ∧ (t.1 = x kk ∨ ∀ a, t.1 = some a → wr.heap.size ≤ a.block)) ∧ (b = true → PI w X pw px m v (updA l kk t.2.2) (updA x kk t.1) (updA c kk t.2.1))) (VAL3 nn)) (by kernel_rfl) (by kernel_rfl) (by kernel_rfl) (by kernel_rfl) (fun x => ⟨fun _ => ⟨1, rfl⟩, fun h => by cases h⟩) ?_
          refine gz_quiet (fun w' => ∃ u, w' = Wd u) (fun _ _ w' _ => HU.out w') rfl rfl rfl (fun x S w hS h => h.quiet rfl (by decide) (by decide)) rfl ?_
          intro K hK
          go_big_quiet_op
          first | go_big_quiet_on | (refine ⟨_, fun _ => rfl, ?_⟩; go_big_quiet_on)
          (repeat (first | (refine gj_quiet (fun w' => ∃ q, w' = wr.drewN q) (fun _ h => h) rfl rfl rfl (by kernel_rfl) (by decide) (by decide) rfl ?_; intro K hK; go_big_quiet_op; first | go_big_quiet_on | (refine ⟨_, fun _ => rfl, ?_⟩; go_big_quiet_on))))
          refine gj_call rfl rfl (by decide) (by kernel_rfl) (by kernel_rfl) rfl 27 [_, _, _] _ rfl Try.f27 Try.func27 (by kernel_rfl) (by kernel_rfl) [.pointer (some ⟨m kk, 0, none⟩), .slice (x kk) nn (c kk), .agg (stepV s)] rfl ?_ ?_
          · rintro X ⟨q, rfl⟩
            have hd : Below wr.heap.size wr (wr.drewN q) := below_drewN (Below.refl _ _)
            refine (CB.out _ hd).mono ?_
            rintro e X2 ⟨xo', c', l', rfl, h1, h2, h3, h4, h5⟩
            exact ⟨(xo', c', l'), rfl, fun _ => ⟨h1, h2, h3, grown_trans (below_grown hd _) h4, h5⟩, fun h => by cases h⟩
          simp only [Act.put, List.setIfInBounds_toArray, List.set_cons_succ, List.set_cons_zero]
          refine gj_part rfl rfl (by decide) (by decide) 11 rfl rfl (by kernel_rfl) (fun x => by kernel_rfl) (fun t x w h => ?_) ?_
          · show _ = Result.ok (Next.value (VAL3 nn t 11)) w
            rw [← h]; kernel_rfl
          simp only [Act.put, List.setIfInBounds_toArray, List.set_cons_succ, List.set_cons_zero]
          refine gj_part rfl rfl (by decide) (by decide) 12 rfl rfl (by kernel_rfl) (fun x => by kernel_rfl) (fun t x w h => ?_) ?_
          · refine ex_v _ rfl ?_
            show Sem.run _ (Instr.extract (x 12) 0) _ = _
            rw [h]; rfl
          simp only [Act.put, List.setIfInBounds_toArray, List.set_cons_succ, List.set_cons_zero]
          refine gj_part rfl rfl (by decide) (by decide) 12 rfl rfl (by kernel_rfl) (fun x => by kernel_rfl) (fun t x w h => ?_) ?_
          · refine ex_v _ rfl ?_
            show Sem.run _ (Instr.extract (x 12) 1) _ = _
            rw [h]; rfl
          simp only [Act.put, List.setIfInBounds_toArray, List.set_cons_succ, List.set_cons_zero]
          refine gz_quiet (fun w' => ∃ u, w' = Wd u) (fun _ _ w' _ => HU.out w') rfl rfl rfl (fun x S w hS h => h.quiet rfl (by decide) (by decide)) rfl ?_
          intro K hK
          go_big_quiet_op
          first | go_big_quiet_on | (refine ⟨_, fun _ => rfl, ?_⟩; go_big_quiet_on)
          refine gj_store rfl rfl (by decide) 13 rfl rfl (by kernel_rfl) (fun x => by kernel_rfl) 29 _ _ rfl rfl ⟨px, kk, none⟩ (fun x => by kernel_rfl) (fun x => by kernel_rfl) (by kernel_rfl) ?_ ?_
          · rintro ⟨xo', c', l'⟩ X ⟨hR, _⟩
            obtain ⟨h1, h2, h3, h4, h5⟩ := hR rfl
            have hb := grown_blk h4 HP.out.bx (fun e => Row.ne_blk (HP.out.M kk hk2).own HP.out.bx (by decide) e.symm)
            refine ⟨rfl, ⟨_, boxc hb hk2⟩, hb.frozen kk, fun h => (by cases h), fun _ => ?_⟩
            have := HP.out.both hk2 h4 h2 (by rw [HNN.out]; exact h1) h3 h5
            rw [HNN.out] at this
            exact this
          refine gj_part rfl rfl (by decide) (by decide) 14 rfl rfl (by kernel_rfl) (fun x => by kernel_rfl) (fun t x w h => ?_) ?_
          · show _ = Result.ok (Next.value (VAL3 nn t 14)) w
            rw [← h]; kernel_rfl
          simp only [Act.put, List.setIfInBounds_toArray, List.set_cons_succ, List.set_cons_zero]
          rintro y S X hS hI
          obtain ⟨⟨xo', c', l'⟩, ⟨_, hR⟩, hv⟩ := hI.2 (hS 11 (by decide))
          have NX := Lib.hid (hR (hS 16 (by decide)))
          have v11 := hv 11 rfl (hS 11 (by decide))
          have v12 := hv 12 rfl (hS 12 (by decide))
          have v13 := hv 13 rfl (hS 13 (by decide))
          have v14 := hv 14 rfl (hS 14 (by decide))
          have v17 := hv 17 rfl (hS 17 (by decide))
          change wpList _ _ _ [] (Act.put (Act.put (Act.put (Act.put (Act.put _ (some 109) (y 11)) (some 97) (y 12)) (some 110) (y 13)) (some 111) (y 14)) (some 16) (y 17)) _
          rw [v11, v12, v13, v14, v17]
          simp only [VAL3]
          clear v11 v12 v13 v14 v17 hv hS hI hR
          simp only [Act.put, List.setIfInBounds_toArray, List.set_cons_succ, List.set_cons_zero]
          go_wp2
          go_meet
          exact ⟨rfl, _, _, _, _, _, NX.out⟩
      case rest =>
        obtain ⟨rfl, m2, v2, l2, x2, c2, hP2⟩ := hcut
-- R20
        clear HIN HFC HSJ e0 e1 hkk
        obtain ⟨nk, hnk⟩ : ∃ y, (l2 kk).length = y := ⟨_, rfl⟩
        obtain ⟨n1, hn1⟩ : ∃ y, (l2 k1).length = y := ⟨_, rfl⟩
        obtain ⟨p0, hp0⟩ : ∃ y, (l2 0).length = y := ⟨_, rfl⟩
        obtain ⟨p1, hp1⟩ : ∃ y, (l2 1).length = y := ⟨_, rfl⟩
        obtain ⟨F, hF⟩ : ∃ y, fnv (l2 kk) = y := ⟨_, rfl⟩
        obtain ⟨bb, hbb⟩ : ∃ y, decide (l2 0 = l2 1) = y := ⟨_, rfl⟩
        have big : ∀ i, i < 2 → (l2 i).length ≤ 16777216 := fun i hi => (hP2.M i hi).len
        have ALL : ∀ i ni, i < 2 → (l2 i).length = ni → ∀ X, Below wc.heap.size wc X → Calls Try.prog 13 #[.pointer (some ⟨m2 i, 0, none⟩)] X fun e w' => ∃ a c, e = .returned (.slice a ni c) ∧ Rd w' a (l2 i) ∧ Below X.heap.size X w' := fun i ni hi hni X hX => by
          have hM := (hP2.later hX).M i hi
          obtain ⟨mo, mc, hv, _⟩ := Row.form hM.own
          rw [hv] at hM
          have := all_c X _ _ _ _ _ _ hM
          rw [hni] at this
          exact this.mono fun e w' ⟨a, c, h1, h2, h3⟩ => ⟨a, c, h1, h2.rd, h3⟩
        have SAM : ∀ i ni, i < 2 → (l2 i).length = ni → ∀ X a3 c3, Below wc.heap.size wc X → Rd X a3 (l2 i) → Calls Try.prog 12 #[.slice a3 ni c3, .slice (x2 i) ni (c2 i)] X fun e w' => e = .returned (.bool true) ∧ ∃ q, w' = X.drewN q := fun i ni hi hni X a3 c3 hX hr =>
          same_true X a3 (x2 i) ni c3 (c2 i) (l2 i) hni (by have := big i hi; omega) hr ((hP2.later hX).X i hi).rd
        have CAk := Lib.hid (ALL kk nk hk2 hnk)
        have CA1 := Lib.hid (ALL k1 n1 hk12 hn1)
        have CSk := Lib.hid (SAM kk nk hk2 hnk)
        have CS1 := Lib.hid (SAM k1 n1 hk12 hn1)
        have CL : Hid (∀ X, Below wc.heap.size wc X → Calls Try.prog 11 #[.pointer (some ⟨m2 kk, 0, none⟩)] X fun e w' => e = .returned (.int .i64 (nk : Nat)) ∧ w' = X) := Lib.hid fun X hX => by
          have hM := (hP2.later hX).M kk hk2
          obtain ⟨mo, mc, hv, _⟩ := Row.form hM.own
          rw [hv] at hM
          have := len_c X _ _ _ _ hM.hd
          rwa [hnk] at this
        have CM : Hid (∀ X, Below wc.heap.size wc X → Calls Try.prog 24 #[.pointer (some ⟨m2 kk, 0, none⟩)] X fun e w' => e = .returned (.int .u64 (F : Nat)) ∧ w' = X) := Lib.hid fun X hX => by
          have hM := (hP2.later hX).M kk hk2
          obtain ⟨mo, mc, hv, _⟩ := Row.form hM.own
          rw [hv] at hM
          have := sum_c X _ _ (l2 kk) _ hM.hd hM.own.rd hM.small
          rwa [hF] at this
        have CR : Hid (∀ X, Below wc.heap.size wc X → Calls Try.prog 28 #[.slice (x2 kk) nk (c2 kk)] X fun e w' => e = .returned (.int .u64 (F : Nat)) ∧ w' = X) := Lib.hid fun X hX => by
          have h1 := big kk hk2
          have := rsum_c X (x2 kk) (l2 kk) (c2 kk) (by omega) ((hP2.later hX).X kk hk2).rd (hP2.M kk hk2).small
          rwa [hF, hnk] at this
        have CD : Hid (∀ X, Below wc.heap.size wc X → Calls Try.prog 22 #[.pointer (some ⟨m2 0, 0, none⟩), .pointer (some ⟨m2 1, 0, none⟩)] X fun e w' => e = .returned (.bool bb) ∧ ∃ q, w' = X.drewN q) := Lib.hid fun X hX => by
          have h1 := hP2.later hX
          have := same2_c X w.heap.size (m2 0) (m2 1) (v2 0) (v2 1) (l2 0) (l2 1) (h1.M 0 (by omega)) (h1.M 1 (by omega))
          rwa [hbb] at this
        have CE : Hid (∀ X, Below wc.heap.size wc X → Calls Try.prog 12 #[.slice (x2 0) p0 (c2 0), .slice (x2 1) p1 (c2 1)] X fun e w' => e = .returned (.bool bb) ∧ ∃ q, w' = X.drewN q) := Lib.hid fun X hX => by
          have h1 := hP2.later hX
          have h2 := big 0 (by omega)
          have := same_any X (x2 0) (x2 1) (l2 0) (l2 1) (c2 0) (c2 1) (by omega) (h1.X 0 (by omega)).rd (h1.X 1 (by omega)).rd
          rwa [hbb, hp0, hp1] at this
        obtain ⟨U, Wd, hWd, hU⟩ : ∃ (U : Type) (Wd : U → World), (∀ u, Below wc.heap.size wc (Wd u)) ∧ (∀ w', Below wc.heap.size wc w' → ∃ u, w' = Wd u) := ⟨{ w' // Below wc.heap.size wc w' }, Subtype.val, fun u => u.2, fun w' h => ⟨⟨w', h⟩, rfl⟩⟩
        have fwk : ∀ u, (Wd u).cell? ⟨pw, kk, none⟩ = some (.pointer (some ⟨m2 kk, 0, none⟩)) := fun u => (hP2.later (hWd u)).wc hk2
        have fw1 : ∀ u, (Wd u).cell? ⟨pw, k1, none⟩ = some (.pointer (some ⟨m2 k1, 0, none⟩)) := fun u => (hP2.later (hWd u)).wc hk12
        have fw0 : ∀ u, (Wd u).cell? ⟨pw, 0, none⟩ = some (.pointer (some ⟨m2 0, 0, none⟩)) := fun u => (hP2.later (hWd u)).wc (by omega)
        have fwo : ∀ u, (Wd u).cell? ⟨pw, 1, none⟩ = some (.pointer (some ⟨m2 1, 0, none⟩)) := fun u => (hP2.later (hWd u)).wc (by omega)
        have fxk : ∀ u, (Wd u).cell? ⟨px, kk, none⟩ = some (.slice (x2 kk) nk (c2 kk)) := fun u => by rw [← hnk]; exact (hP2.later (hWd u)).xc hk2
        have fx1 : ∀ u, (Wd u).cell? ⟨px, k1, none⟩ = some (.slice (x2 k1) n1 (c2 k1)) := fun u => by rw [← hn1]; exact (hP2.later (hWd u)).xc hk12
        have fx0 : ∀ u, (Wd u).cell? ⟨px, 0, none⟩ = some (.slice (x2 0) p0 (c2 0)) := fun u => by rw [← hp0]; exact (hP2.later (hWd u)).xc (by omega)
        have fxo : ∀ u, (Wd u).cell? ⟨px, 1, none⟩ = some (.slice (x2 1) p1 (c2 1)) := fun u => by rw [← hp1]; exact (hP2.later (hWd u)).xc (by omega)
        have hbn : (bb != bb) = false := by simp
        have hnn1 : ((nk : Int) != (nk : Int)) = false := by simp
        have hFF : ((F : Int) != (F : Int)) = false := by simp
        have HU := Lib.hid hU
        have HP2 := Lib.hid hP2
        clear hU hWd hP2 big ALL SAM hnk hn1 hp0 hp1 hF hbb
        go_wp2
        refine wp_region_gz [_, _, _, _, _, _, _, _, _, _, _, _, _, _, _, _, _, _, _, _, _, _, _, _, _, _, _, _, _, _, _, _, _, _, _, _, _, _, _, _, _, _, _, _, _, _, _, _, _, _, _, _, _, _, _, _, _, _, _, _, _] [] (fun j => [6, 18].contains j) (fun j => [10, 23].contains j) (fun y S X => Below wc.heap.size wc X ∧ (S 6 = true → ∃ a3 c3, y 6 = .slice a3 nk c3 ∧ Rd X a3 (l2 kk)) ∧ (S 18 = true → ∃ a3 c3, y 18 = .slice a3 n1 c3 ∧ Rd X a3 (l2 k1))) (by kernel_rfl) (by kernel_rfl) (by kernel_rfl) (by kernel_rfl) (fun y => ⟨(Below.refl _ wc).drew, (fun h => by cases h), fun h => by cases h⟩) ?_
        iterate 6
          refine gz_quiet (fun w' => ∃ u, w' = Wd u) (fun y S w' h => HU.out w' h.1) rfl rfl rfl (fun _ _ _ _ h => h) rfl ?_
          intro K hK
          go_big_quiet_op
          first | go_big_quiet_on | (refine ⟨_, fun _ => rfl, ?_⟩; go_big_quiet_on)
        refine gz_call_ghost rfl rfl rfl 13 [_] _ rfl Try.f13 Try.func13 (by kernel_rfl) (by kernel_rfl) [.pointer (some ⟨m2 kk, 0, none⟩)] rfl ?_ ?_
        · rintro y S X h1 hcl ha ⟨hX, h6, h18⟩
          refine (CAk.out X hX).mono ?_
          rintro e X2 ⟨a3, c3, rfl, hr, hb⟩
          exact ⟨_, rfl, hX.trans (hb.mono hX.size), (fun _ => ⟨a3, c3, rfl, hr⟩), fun h => by obtain ⟨a, c, q1, q2⟩ := h18 h; exact ⟨a, c, q1, q2.later hb⟩⟩
        simp only [Act.put, List.setIfInBounds_toArray, List.set_cons_succ, List.set_cons_zero]
        iterate 3
          refine gz_quiet (fun w' => ∃ u, w' = Wd u) (fun y S w' h => HU.out w' h.1) rfl rfl rfl (fun _ _ _ _ h => h) rfl ?_
          intro K hK
          go_big_quiet_op
          first | go_big_quiet_on | (refine ⟨_, fun _ => rfl, ?_⟩; go_big_quiet_on)
        refine gz_call_look (.bool true) rfl rfl (fun x => by kernel_rfl) 12 [_, _] _ rfl Try.f12 Try.func12 (by kernel_rfl) (by kernel_rfl) (fun y => [y 6, .slice (x2 kk) nk (c2 kk)]) (fun y => by kernel_rfl) ?_ ?_
        · rintro y S X h1 hcl ha ⟨hX, h6, h18⟩
          have dg : S 6 = true := ha ⟨6, .data⟩ (by simp) rfl
          obtain ⟨a3, c3, e3, hr⟩ := h6 dg
          show Calls _ _ #[y 6, .slice (x2 kk) nk (c2 kk)] X _
          rw [e3]
          refine (CSk.out X a3 c3 hX hr).mono ?_
          rintro e X2 ⟨rfl, q, rfl⟩
          have hd : Below X.heap.size X (X.drewN q) := below_drewN (Below.refl _ _)
          exact ⟨rfl, hX.trans (hd.mono hX.size), (fun _ => ⟨a3, c3, rfl, hr.later hd⟩), fun h => by obtain ⟨a, c, q1, q2⟩ := h18 h; exact ⟨a, c, q1, q2.later hd⟩⟩
        simp only [Act.put, List.setIfInBounds_toArray, List.set_cons_succ, List.set_cons_zero]
        iterate 7
          refine gz_quiet (fun w' => ∃ u, w' = Wd u) (fun y S w' h => HU.out w' h.1) rfl rfl rfl (fun _ _ _ _ h => h) rfl ?_
          intro K hK
          go_big_quiet_op
          first | go_big_quiet_on | (refine ⟨_, fun _ => rfl, ?_⟩; go_big_quiet_on)
        refine gz_call_ghost rfl rfl rfl 13 [_] _ rfl Try.f13 Try.func13 (by kernel_rfl) (by kernel_rfl) [.pointer (some ⟨m2 k1, 0, none⟩)] rfl ?_ ?_
        · rintro y S X h1 hcl ha ⟨hX, h6, h18⟩
          refine (CA1.out X hX).mono ?_
          rintro e X2 ⟨a3, c3, rfl, hr, hb⟩
          exact ⟨_, rfl, hX.trans (hb.mono hX.size), (fun h => by obtain ⟨a, c, q1, q2⟩ := h6 h; exact ⟨a, c, q1, q2.later hb⟩), (fun _ => ⟨a3, c3, rfl, hr⟩)⟩
        simp only [Act.put, List.setIfInBounds_toArray, List.set_cons_succ, List.set_cons_zero]
        iterate 4
          refine gz_quiet (fun w' => ∃ u, w' = Wd u) (fun y S w' h => HU.out w' h.1) rfl rfl rfl (fun _ _ _ _ h => h) rfl ?_
          intro K hK
          go_big_quiet_op
          first | go_big_quiet_on | (refine ⟨_, fun _ => rfl, ?_⟩; go_big_quiet_on)
        refine gz_call_look (.bool true) rfl rfl (fun x => by kernel_rfl) 12 [_, _] _ rfl Try.f12 Try.func12 (by kernel_rfl) (by kernel_rfl) (fun y => [y 18, .slice (x2 k1) n1 (c2 k1)]) (fun y => by kernel_rfl) ?_ ?_
        · rintro y S X h1 hcl ha ⟨hX, h6, h18⟩
          have dg : S 18 = true := ha ⟨18, .data⟩ (by simp) rfl
          obtain ⟨a3, c3, e3, hr⟩ := h18 dg
          show Calls _ _ #[y 18, .slice (x2 k1) n1 (c2 k1)] X _
          rw [e3]
          refine (CS1.out X a3 c3 hX hr).mono ?_
          rintro e X2 ⟨rfl, q, rfl⟩
          have hd : Below X.heap.size X (X.drewN q) := below_drewN (Below.refl _ _)
          exact ⟨rfl, hX.trans (hd.mono hX.size), (fun h => by obtain ⟨a, c, q1, q2⟩ := h6 h; exact ⟨a, c, q1, q2.later hd⟩), (fun _ => ⟨a3, c3, rfl, hr.later hd⟩)⟩
        simp only [Act.put, List.setIfInBounds_toArray, List.set_cons_succ, List.set_cons_zero]
        iterate 6
          refine gz_quiet (fun w' => ∃ u, w' = Wd u) (fun y S w' h => HU.out w' h.1) rfl rfl rfl (fun _ _ _ _ h => h) rfl ?_
          intro K hK
          go_big_quiet_op
          first | go_big_quiet_on | (refine ⟨_, fun _ => rfl, ?_⟩; go_big_quiet_on)
        refine gz_call (.int .i64 (nk : Nat)) rfl rfl rfl 11 [_] _ rfl Try.f11 Try.func11 (by kernel_rfl) (by kernel_rfl) [.pointer (some ⟨m2 kk, 0, none⟩)] rfl ?_ ?_
        · rintro y S X h1 hcl ha ⟨hX, h6, h18⟩
          refine (CL.out X hX).mono ?_
          rintro e X2 ⟨rfl, rfl⟩
          exact ⟨rfl, hX, h6, h18⟩
        simp only [Act.put, List.setIfInBounds_toArray, List.set_cons_succ, List.set_cons_zero]
        iterate 3
          refine gz_quiet (fun w' => ∃ u, w' = Wd u) (fun y S w' h => HU.out w' h.1) rfl rfl rfl (fun _ _ _ _ h => h) rfl ?_
          intro K hK
          go_big_quiet_op
          first | go_big_quiet_on | (refine ⟨_, fun _ => rfl, ?_⟩; go_big_quiet_on)
        refine gz_run (.int .i64 (nk : Nat)) rfl rfl rfl (fun _ _ _ _ h => h) (fun w => by simp [execOp, Act.eval, resolve, invoke, builtin, Result.andThen, run_len_slice (P := Try.prog) (t := 29) (h := Try.underlying29), goInt]) ?_
        simp only [Act.put, List.setIfInBounds_toArray, List.set_cons_succ, List.set_cons_zero]
        iterate 6
          refine gz_quiet (fun w' => ∃ u, w' = Wd u) (fun y S w' h => HU.out w' h.1) rfl rfl rfl (fun _ _ _ _ h => h) rfl ?_
          intro K hK
          go_big_quiet_op
          first | go_big_quiet_on | (refine ⟨_, fun _ => rfl, ?_⟩; go_big_quiet_on)
        refine gz_call (.int .u64 (F : Nat)) rfl rfl rfl 24 [_] _ rfl Try.f24 Try.func24 (by kernel_rfl) (by kernel_rfl) [.pointer (some ⟨m2 kk, 0, none⟩)] rfl ?_ ?_
        · rintro y S X h1 hcl ha ⟨hX, h6, h18⟩
          refine (CM.out X hX).mono ?_
          rintro e X2 ⟨rfl, rfl⟩
          exact ⟨rfl, hX, h6, h18⟩
        simp only [Act.put, List.setIfInBounds_toArray, List.set_cons_succ, List.set_cons_zero]
        iterate 3
          refine gz_quiet (fun w' => ∃ u, w' = Wd u) (fun y S w' h => HU.out w' h.1) rfl rfl rfl (fun _ _ _ _ h => h) rfl ?_
          intro K hK
          go_big_quiet_op
          first | go_big_quiet_on | (refine ⟨_, fun _ => rfl, ?_⟩; go_big_quiet_on)
        refine gz_call (.int .u64 (F : Nat)) rfl rfl rfl 28 [_] _ rfl Try.f28 Try.func28 (by kernel_rfl) (by kernel_rfl) [.slice (x2 kk) nk (c2 kk)] rfl ?_ ?_
        · rintro y S X h1 hcl ha ⟨hX, h6, h18⟩
          refine (CR.out X hX).mono ?_
          rintro e X2 ⟨rfl, rfl⟩
          exact ⟨rfl, hX, h6, h18⟩
        simp only [Act.put, List.setIfInBounds_toArray, List.set_cons_succ, List.set_cons_zero]
        iterate 7
          refine gz_quiet (fun w' => ∃ u, w' = Wd u) (fun y S w' h => HU.out w' h.1) rfl rfl rfl (fun _ _ _ _ h => h) rfl ?_
          intro K hK
          go_big_quiet_op
          first | go_big_quiet_on | (refine ⟨_, fun _ => rfl, ?_⟩; go_big_quiet_on)
        refine gz_call (.bool bb) rfl rfl rfl 22 [_, _] _ rfl Try.f22 Try.func22 (by kernel_rfl) (by kernel_rfl) [.pointer (some ⟨m2 0, 0, none⟩), .pointer (some ⟨m2 1, 0, none⟩)] rfl ?_ ?_
        · rintro y S X h1 hcl ha ⟨hX, h6, h18⟩
          refine (CD.out X hX).mono ?_
          rintro e X2 ⟨rfl, q, rfl⟩
          have hd : Below X.heap.size X (X.drewN q) := below_drewN (Below.refl _ _)
          exact ⟨rfl, hX.trans (hd.mono hX.size), (fun h => by obtain ⟨a, c, q1, q2⟩ := h6 h; exact ⟨a, c, q1, q2.later hd⟩), fun h => by obtain ⟨a, c, q1, q2⟩ := h18 h; exact ⟨a, c, q1, q2.later hd⟩⟩
        simp only [Act.put, List.setIfInBounds_toArray, List.set_cons_succ, List.set_cons_zero]
        iterate 4
          refine gz_quiet (fun w' => ∃ u, w' = Wd u) (fun y S w' h => HU.out w' h.1) rfl rfl rfl (fun _ _ _ _ h => h) rfl ?_
          intro K hK
          go_big_quiet_op
          first | go_big_quiet_on | (refine ⟨_, fun _ => rfl, ?_⟩; go_big_quiet_on)
        refine gz_call (.bool bb) rfl rfl rfl 12 [_, _] _ rfl Try.f12 Try.func12 (by kernel_rfl) (by kernel_rfl) [.slice (x2 0) p0 (c2 0), .slice (x2 1) p1 (c2 1)] rfl ?_ ?_
        · rintro y S X h1 hcl ha ⟨hX, h6, h18⟩
          refine (CE.out X hX).mono ?_
          rintro e X2 ⟨rfl, q, rfl⟩
          have hd : Below X.heap.size X (X.drewN q) := below_drewN (Below.refl _ _)
          exact ⟨rfl, hX.trans (hd.mono hX.size), (fun h => by obtain ⟨a, c, q1, q2⟩ := h6 h; exact ⟨a, c, q1, q2.later hd⟩), fun h => by obtain ⟨a, c, q1, q2⟩ := h18 h; exact ⟨a, c, q1, q2.later hd⟩⟩
        simp only [Act.put, List.setIfInBounds_toArray, List.set_cons_succ, List.set_cons_zero]
        iterate 2
          refine gz_quiet (fun w' => ∃ u, w' = Wd u) (fun y S w' h => HU.out w' h.1) rfl rfl rfl (fun _ _ _ _ h => h) rfl ?_
          intro K hK
          go_big_quiet_op
          first | go_big_quiet_on | (refine ⟨_, fun _ => rfl, ?_⟩; go_big_quiet_on)
        rintro y S X hS ⟨hX, h6, h18⟩
        change wpList _ _ _ [] (Act.put (Act.put _ (some 119) (y 6)) (some 131) (y 18)) _
        have NP := Lib.hid (HP2.out.later hX)
        generalize y 6 = z6
        generalize y 18 = z18
        clear hS h6 h18 hX fwk fw1 fw0 fwo fxk fx1 fx0 fxo HP2
        simp only [Act.put, List.setIfInBounds_toArray, List.set_cons_succ, List.set_cons_zero]
        go_wp2
        go_roundw
        case rel => exact ⟨j + 1, _, _, _, _, _, by omega, by go_num, NP.out⟩
        case measure => (simp [intOf]; try omega)
-- END20
-- OUT
    · have hOUT := hlt
      obtain ⟨Z, rfl⟩ : ∃ Z, Z = wr := ⟨wr, rfl⟩
      obtain rfl : j = L := by omega
      obtain ⟨p0, hp0⟩ : ∃ y, (l 0).length = y := ⟨_, rfl⟩
      obtain ⟨p1, hp1⟩ : ∃ y, (l 1).length = y := ⟨_, rfl⟩
      obtain ⟨ps, hps⟩ : ∃ y, chgA (l 0) (l 1) = y := ⟨_, rfl⟩
      obtain ⟨pn, hpn⟩ : ∃ y, ps.length = y := ⟨_, rfl⟩
      obtain ⟨er, her⟩ : ∃ y, chgN (l 0) (l 1) = y := ⟨_, rfl⟩
      have big : ∀ i, i < 2 → (l i).length ≤ 16777216 := fun i hi => (hP.M i hi).len
      have hpb : pn ≤ 16777216 := by
        have h1 := chgA_len (l 0) (l 1)
        have h2 := big 0 (by omega)
        rw [hps, hpn] at h1
        omega
      have hpx2 : ∀ p ∈ ps, p.2.length ≤ 16777216 := fun p hp => by
        rw [← hps] at hp
        exact Nat.le_trans (chgA_wid _ _ p hp) (big 0 (by omega))
      have CG : Hid (∀ X, Below Z.heap.size Z X → Calls Try.prog 19 #[.pointer (some ⟨m 0, 0, none⟩), .pointer (some ⟨m 1, 0, none⟩)] X fun e w' => ∃ io ic, e = .returned (.tuple #[.slice io pn ic, .int .i64 er]) ∧ PIs w' X.heap.size (.slice io pn ic) ps ∧ Below X.heap.size X w') := Lib.hid fun X hX => by
        have h1 := hP.later hX
        have := changed_any X w.heap.size (m 0) (m 1) (v 0) (v 1) (l 0) (l 1) (h1.M 0 (by omega)) (h1.M 1 (by omega))
        unfold ChgP at this
        rwa [hps, hpn, her] at this
      have CH : Hid (∀ X, Below Z.heap.size Z X → Calls Try.prog 29 #[.slice (x 0) p0 (c 0), .slice (x 1) p1 (c 1)] X fun e w' => ∃ io ic, e = .returned (.tuple #[.slice io pn ic, .int .i64 er]) ∧ PIs w' X.heap.size (.slice io pn ic) ps ∧ Below X.heap.size X w') := Lib.hid fun X hX => by
        have h1 := hP.later hX
        have := rchanged_any X (x 0) (x 1) (c 0) (c 1) (l 0) (l 1) (h1.X 0 (by omega)).rd (h1.X 1 (by omega)).rd (big 0 (by omega))
        unfold ChgP at this
        rwa [hps, hpn, her, hp0, hp1] at this
      have CQ : Hid (∀ X i1 j1 i2 j2 B1 B2, PIs X B1 (.slice i1 pn j1) ps → PIs X B2 (.slice i2 pn j2) ps → Calls Try.prog 30 #[.slice i1 pn j1, .slice i2 pn j2] X fun e w' => e = .returned (.bool true) ∧ ∃ q, w' = X.drewN q) := Lib.hid fun X i1 j1 i2 j2 B1 B2 h1 h2 => by
        have := rsamep_c X i1 i2 j1 j2 ps h1.rd h2.rd (by omega) hpx2
        rwa [hpn] at this
      have HV : Hid (∀ X io ic B2, PIs X B2 (.slice io pn ic) ps → VIs X B2 X.heap.size (.slice io pn ic) pn) := Lib.hid fun X io ic B2 hP => by
        have := hP.vis hpx2
        rwa [hpn] at this
      have CA : Hid (∀ X, Below Z.heap.size Z X → Calls Try.prog 13 #[.pointer (some ⟨m 1, 0, none⟩)] X fun e w' => ∃ a c, e = .returned (.slice a p1 c) ∧ Rd w' a (l 1) ∧ Below X.heap.size X w') := Lib.hid fun X hX => by
        have hM := (hP.later hX).M 1 (by omega)
        obtain ⟨mo, mc, hv, _⟩ := Row.form hM.own
        rw [hv] at hM
        have := all_c X _ _ _ _ _ _ hM
        rw [hp1] at this
        exact this.mono fun e w' ⟨a, c, h1, h2, h3⟩ => ⟨a, c, h1, h2.rd, h3⟩
      have CS : Hid (∀ X a3 c3, Below Z.heap.size Z X → Rd X a3 (l 1) → Calls Try.prog 12 #[.slice a3 p1 c3, .slice (x 1) p1 (c 1)] X fun e w' => e = .returned (.bool true) ∧ ∃ q, w' = X.drewN q) := Lib.hid fun X a3 c3 hX hr =>
        same_true X a3 (x 1) p1 c3 (c 1) (l 1) hp1 (by have := big 1 (by omega); omega) hr ((hP.later hX).X 1 (by omega)).rd
      have GW : Hid (∀ X, Below Z.heap.size Z X → X.cell? ⟨pw, 0, none⟩ = some (.pointer (some ⟨m 0, 0, none⟩)) ∧ X.cell? ⟨pw, 1, none⟩ = some (.pointer (some ⟨m 1, 0, none⟩)) ∧ X.cell? ⟨px, 0, none⟩ = some (.slice (x 0) p0 (c 0)) ∧ X.cell? ⟨px, 1, none⟩ = some (.slice (x 1) p1 (c 1))) := Lib.hid fun X hX => by
        have h1 := hP.later hX
        rw [← hp0, ← hp1]
        exact ⟨h1.wc (by omega), h1.wc (by omega), h1.xc (by omega), h1.xc (by omega)⟩
      have HBL := Lib.hid hP.bel
      have hee : (er != er) = false := by simp
      obtain ⟨g1, g2, _, _⟩ := GW.out Z (Below.refl _ _)
      clear hP hlt hOUT hp0 hp1 hps hpn her big hpx2
      go_wp2_with (first
        | (go_at_call 19; (with_reducible refine (CG.out _ (Below.refl _ _)).mono ?_); rintro e w2 ⟨i1, j1, rfl, P1, b1⟩; obtain ⟨_, _, g3, g4⟩ := GW.out _ b1; have Q1 := Lib.hid P1; have B1 := Lib.hid b1; clear P1 b1)
        | (go_at_call 29; (with_reducible refine (CH.out _ B1.out).mono ?_); rintro e w3 ⟨i2, j2, rfl, P2, b2⟩; have Q2 := Lib.hid P2; have R1 := Lib.hid (Q1.out.later b2); have V1 := Lib.hid ((HV.out _ _ _ _ Q1.out).kept (below_grown b2 none) (fun k hk => by cases hk)); have B2 := Lib.hid (B1.out.trans (b2.mono B1.out.size)); clear P2 b2)
        | (go_at_call 30; (with_reducible refine (CQ.out _ _ _ _ _ _ _ R1.out Q2.out).mono ?_); rintro e w4 ⟨rfl, q4, rfl⟩))
      have d4 : Below w3.heap.size w3 (w3.drewN q4) := below_drewN (Below.refl _ _)
      have V4 := Lib.hid (V1.out.kept (below_grown d4 none) (fun k hk => by cases hk))
      have B4 := Lib.hid (B2.out.trans (d4.mono B2.out.size))
      clear d4 g1 g2 g3 g4 Q1 Q2 R1 V1 CG CH CQ HV
      go_loopw [21] (fun i ws => ∃ q : Nat, q ≤ pn ∧ i = .int .i64 q ∧ VIs ws Z.heap.size w2.heap.size (.slice i1 pn j1) pn ∧ Below Z.heap.size Z ws) (fun i _ => pn - (intOf i).toNat)
      case atStart => exact ⟨0, by omega, rfl, V4.out, B4.out⟩
      case round =>
        obtain ⟨q, hq, rfl, hV, hB⟩ := hrel
        by_cases hlt : q < pn
        · obtain ⟨g, u, lu, rfl, hcu, hru, hlu, hbu⟩ := hV.at hlt
          have HVV := Lib.hid hV
          have HBB := Lib.hid hB
          have HRU := Lib.hid hru
          have HBU := Lib.hid hbu
          clear hV hB hru hbu V4 B4
          go_wp2_with (first
            | (go_at_call 26; (with_reducible refine (spoil_any _ _ _ lu (by omega) HRU.out).mono ?_); rintro e w6 ⟨rfl, g6, k6⟩; have V6 := Lib.hid (HVV.out.spoilt HRU.out g6 k6); have B6 := Lib.hid (HBB.out.grown g6 HBB.out.size fun k hk => (HBU.out k hk).1); clear g6 k6))
          go_roundw
          case rel => exact ⟨q + 1, by omega, by go_num, V6.out, B6.out⟩
          case measure => simp [intOf]; omega
        · have HBB := Lib.hid hB
          obtain ⟨U, Wd, hWd, hU⟩ : ∃ (U : Type) (Wd : U → World), (∀ u, Below Z.heap.size Z (Wd u)) ∧ (∀ w', Below Z.heap.size Z w' → ∃ u, w' = Wd u) := ⟨{ w' // Below Z.heap.size Z w' }, Subtype.val, fun u => u.2, fun w' h => ⟨⟨w', h⟩, rfl⟩⟩
          have fw1 : ∀ u, (Wd u).cell? ⟨pw, 1, none⟩ = some (.pointer (some ⟨m 1, 0, none⟩)) := fun u => (GW.out _ (hWd u)).2.1
          have fx1 : ∀ u, (Wd u).cell? ⟨px, 1, none⟩ = some (.slice (x 1) p1 (c 1)) := fun u => (GW.out _ (hWd u)).2.2.2
          have HU := Lib.hid hU
          clear hV hB V4 B4 hU hWd
          go_wp2
          refine wp_region_gz [_, _, _, _, _, _, _, _, _, _] [] (fun j => [2].contains j) (fun j => [5].contains j) (fun y S X => Below Z.heap.size Z X ∧ (S 2 = true → ∃ a3 c3, y 2 = .slice a3 p1 c3 ∧ Rd X a3 (l 1))) (by kernel_rfl) (by kernel_rfl) (by kernel_rfl) (by kernel_rfl) (fun y => ⟨HBB.out.drew, fun h => by cases h⟩) ?_
          iterate 2
            refine gz_quiet (fun w' => ∃ u, w' = Wd u) (fun y S w' h => HU.out w' h.1) rfl rfl rfl (fun _ _ _ _ h => h) rfl ?_
            intro K hK
            go_big_quiet_op
            first | go_big_quiet_on | (refine ⟨_, fun _ => rfl, ?_⟩; go_big_quiet_on)
          refine gz_call_ghost rfl rfl rfl 13 [_] _ rfl Try.f13 Try.func13 (by kernel_rfl) (by kernel_rfl) [.pointer (some ⟨m 1, 0, none⟩)] rfl ?_ ?_
          · rintro y S X h1 hcl ha ⟨hX, h6⟩
            refine (CA.out X hX).mono ?_
            rintro e X2 ⟨a3, c3, rfl, hr, hb⟩
            exact ⟨_, rfl, hX.trans (hb.mono hX.size), fun _ => ⟨a3, c3, rfl, hr⟩⟩
          simp only [Act.put, List.setIfInBounds_toArray, List.set_cons_succ, List.set_cons_zero]
          iterate 2
            refine gz_quiet (fun w' => ∃ u, w' = Wd u) (fun y S w' h => HU.out w' h.1) rfl rfl rfl (fun _ _ _ _ h => h) rfl ?_
            intro K hK
            go_big_quiet_op
            first | go_big_quiet_on | (refine ⟨_, fun _ => rfl, ?_⟩; go_big_quiet_on)
          refine gz_call_look (.bool true) rfl rfl (fun x => by kernel_rfl) 12 [_, _] _ rfl Try.f12 Try.func12 (by kernel_rfl) (by kernel_rfl) (fun y => [y 2, .slice (x 1) p1 (c 1)]) (fun y => by kernel_rfl) ?_ ?_
          · rintro y S X h1 hcl ha ⟨hX, h6⟩
            have dg : S 2 = true := ha ⟨2, .data⟩ (by simp) rfl
            obtain ⟨a3, c3, e3, hr⟩ := h6 dg
            show Calls _ _ #[y 2, .slice (x 1) p1 (c 1)] X _
            rw [e3]
            refine (CS.out X a3 c3 hX hr).mono ?_
            rintro e X2 ⟨rfl, q, rfl⟩
            have hd : Below X.heap.size X (X.drewN q) := below_drewN (Below.refl _ _)
            exact ⟨rfl, hX.trans (hd.mono hX.size), fun _ => ⟨a3, c3, rfl, hr.later hd⟩⟩
          simp only [Act.put, List.setIfInBounds_toArray, List.set_cons_succ, List.set_cons_zero]
          refine gz_quiet (fun w' => ∃ u, w' = Wd u) (fun y S w' h => HU.out w' h.1) rfl rfl rfl (fun _ _ _ _ h => h) rfl ?_
          intro K hK
          go_big_quiet_op
          first | go_big_quiet_on | (refine ⟨_, fun _ => rfl, ?_⟩; go_big_quiet_on)
          refine gz_call (.bool true) rfl rfl rfl 9 [] _ rfl Try.f9 Try.func9 (by kernel_rfl) (by kernel_rfl) [] rfl ?_ ?_
          · rintro y S X h1 hcl ha ⟨hX, h6⟩
            refine (lives_c X).mono ?_
            rintro e X2 ⟨rfl, hb⟩
            exact ⟨rfl, hX.trans (hb.mono hX.size), fun h => by obtain ⟨a, c, q1, q2⟩ := h6 h; exact ⟨a, c, q1, q2.later hb⟩⟩
          simp only [Act.put, List.setIfInBounds_toArray, List.set_cons_succ, List.set_cons_zero]
          iterate 2
            refine gz_quiet (fun w' => ∃ u, w' = Wd u) (fun y S w' h => HU.out w' h.1) rfl rfl rfl (fun _ _ _ _ h => h) rfl ?_
            intro K hK
            go_big_quiet_op
            first | go_big_quiet_on | (refine ⟨_, fun _ => rfl, ?_⟩; go_big_quiet_on)
          rintro y S X hS ⟨hX, h2⟩
          change wpList _ _ _ [] (Act.put _ (some 213) (y 2)) _
          generalize y 2 = z2
          clear hS h2 fw1 fx1
          simp only [Act.put, List.setIfInBounds_toArray, List.set_cons_succ, List.set_cons_zero]
          go_wp2
          go_ret
          exact ⟨rfl, HBL.out.trans (hX.mono HBL.out.size)⟩
-- ENDOUT
end Go.Proofs.Ytdgdmhmagdjeoaa
