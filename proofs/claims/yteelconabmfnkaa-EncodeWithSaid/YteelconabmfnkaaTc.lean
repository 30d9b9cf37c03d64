/- The table's lines, as data; a row out of a line; steps of (table.spec).one. -/
import Derived.Test.YteelconabmfnkaaTb
namespace Go.Proofs.Yteelconabmfnkaa
open Go Go.RowKit
set_option maxHeartbeats 4000000
set_option maxRecDepth 100000
set_option linter.unusedVariables false
set_option linter.unusedSimpArgs false
structure Sp where
  op : Nat
  name : ByteArray
  code : Nat
  top : Int
  rm : Int
  rs2 : Int
  lay : Nat
abbrev specV (s : Sp) : Array Value := #[.int .u8 (s.op : Nat), .string s.name, .int .u32 (s.code : Nat), .int .i64 s.top, .int .i64 s.rm, .int .i64 s.rs2, .int .u8 (s.lay : Nat)]
def sp1 : Sp := ⟨1, ⟨#[102, 108]⟩, 7, -1, 0, -1, 1⟩
def sp2 : Sp := ⟨2, ⟨#[102, 115]⟩, 39, -1, 0, -1, 2⟩
def sp3 : Sp := ⟨3, ⟨#[102, 109, 97, 100, 100]⟩, 67, -1, -1, -1, 3⟩
def sp4 : Sp := ⟨4, ⟨#[102, 109, 115, 117, 98]⟩, 71, -1, -1, -1, 3⟩
def sp5 : Sp := ⟨5, ⟨#[102, 110, 109, 115, 117, 98]⟩, 75, -1, -1, -1, 3⟩
def sp6 : Sp := ⟨6, ⟨#[102, 110, 109, 97, 100, 100]⟩, 79, -1, -1, -1, 3⟩
def sp7 : Sp := ⟨7, ⟨#[102, 97, 100, 100]⟩, 83, 0, -1, -1, 4⟩
def sp8 : Sp := ⟨8, ⟨#[102, 115, 117, 98]⟩, 83, 1, -1, -1, 4⟩
def sp9 : Sp := ⟨9, ⟨#[102, 109, 117, 108]⟩, 83, 2, -1, -1, 4⟩
def sp10 : Sp := ⟨10, ⟨#[102, 100, 105, 118]⟩, 83, 3, -1, -1, 4⟩
def sp11 : Sp := ⟨11, ⟨#[102, 115, 113, 114, 116]⟩, 83, 11, -1, 0, 6⟩
def sp12 : Sp := ⟨12, ⟨#[102, 115, 103, 110, 106]⟩, 83, 4, 0, -1, 5⟩
def sp13 : Sp := ⟨13, ⟨#[102, 115, 103, 110, 106, 110]⟩, 83, 4, 1, -1, 5⟩
def sp14 : Sp := ⟨14, ⟨#[102, 115, 103, 110, 106, 120]⟩, 83, 4, 2, -1, 5⟩
def sp15 : Sp := ⟨15, ⟨#[102, 109, 105, 110]⟩, 83, 5, 0, -1, 5⟩
def sp16 : Sp := ⟨16, ⟨#[102, 109, 97, 120]⟩, 83, 5, 1, -1, 5⟩
def sp17 : Sp := ⟨17, ⟨#[102, 99, 118, 116]⟩, 83, 8, -1, 0, 6⟩
def sp18 : Sp := ⟨18, ⟨#[102, 101, 113]⟩, 83, 20, 2, -1, 5⟩
def sp19 : Sp := ⟨19, ⟨#[102, 108, 116]⟩, 83, 20, 1, -1, 5⟩
def sp20 : Sp := ⟨20, ⟨#[102, 108, 101]⟩, 83, 20, 0, -1, 5⟩
def sp21 : Sp := ⟨21, ⟨#[102, 99, 118, 116]⟩, 83, 24, -1, 0, 6⟩
def sp22 : Sp := ⟨22, ⟨#[102, 99, 118, 116]⟩, 83, 26, -1, 0, 6⟩
def sp23 : Sp := ⟨23, ⟨#[102, 109, 118, 46, 120]⟩, 83, 28, 0, 0, 7⟩
def sp24 : Sp := ⟨24, ⟨#[102, 99, 108, 97, 115, 115]⟩, 83, 28, 1, 0, 7⟩
def sp25 : Sp := ⟨25, ⟨#[102, 109, 118]⟩, 83, 30, 0, 0, 7⟩
def sp26 : Sp := ⟨26, ⟨#[99, 115, 114, 114, 119]⟩, 115, -1, 1, -1, 8⟩
def sp27 : Sp := ⟨27, ⟨#[99, 115, 114, 114, 115]⟩, 115, -1, 2, -1, 8⟩
def sp28 : Sp := ⟨28, ⟨#[99, 115, 114, 114, 99]⟩, 115, -1, 3, -1, 8⟩
def sp29 : Sp := ⟨29, ⟨#[99, 115, 114, 114, 119, 105]⟩, 115, -1, 5, -1, 9⟩
def sp30 : Sp := ⟨30, ⟨#[99, 115, 114, 114, 115, 105]⟩, 115, -1, 6, -1, 9⟩
def sp31 : Sp := ⟨31, ⟨#[99, 115, 114, 114, 99, 105]⟩, 115, -1, 7, -1, 9⟩
def SPECS : List Sp := [sp1, sp2, sp3, sp4, sp5, sp6, sp7, sp8, sp9, sp10, sp11, sp12, sp13, sp14, sp15, sp16, sp17, sp18, sp19, sp20, sp21, sp22, sp23, sp24, sp25, sp26, sp27, sp28, sp29, sp30, sp31]
def pt0 (v : Nat) (r : R7) : R7 := { r with mask := r.mask ||| 127, mtch := r.mtch ||| v }
def pt25 (v : Nat) (r : R7) : R7 := { r with mask := r.mask ||| 100663296, mtch := r.mtch ||| v * 33554432 }
def pt27 (v : Nat) (r : R7) : R7 := { r with mask := r.mask ||| 4160749568, mtch := r.mtch ||| v * 134217728 }
def pt12 (v : Nat) (r : R7) : R7 := { r with mask := r.mask ||| 28672, mtch := r.mtch ||| v * 4096 }
def pt20 (v : Nat) (r : R7) : R7 := { r with mask := r.mask ||| 32505856, mtch := r.mtch ||| v * 1048576 }
/-- the row of a line, a format, a number -/
def ONE (s : Sp) (f n : Nat) : R7 :=
  let r := pt0 s.code ⟨s.op, f, 0, 0, 0, 0, s.lay⟩
  let r := if s.op = 17 then { r with frm := n } else if s.op = 21 ∨ s.op = 22 then { r with kind := n } else r
  let r := if s.op = 1 ∨ s.op = 2 ∨ 26 ≤ s.op then r else pt25 f r
  let r := if 0 ≤ s.top then pt27 s.top.toNat r else r
  let r := if s.op = 1 ∨ s.op = 2 then pt12 (match f with | 0 => 2 | 1 => 3 | 2 => 1 | _ => 4) r else if 0 ≤ s.rm then pt12 s.rm.toNat r else r
  if s.op = 17 ∨ s.op = 21 ∨ s.op = 22 then pt20 n r else if 0 ≤ s.rs2 then pt20 s.rs2.toNat r else r
abbrev emp : ByteArray := ⟨#[]⟩
abbrev zeroR : R7 := ⟨0, 0, 0, 0, 0, 0, 0⟩
structure St (w W : World) (s : Sp) (r : R7) : Prop where
  sp : Blk W w.heap.size (specV s) 116
  res : Blk W (w.heap.size + 1) (entV zeroR emp) 119
  ent : Blk W (w.heap.size + 1 + 1) (entV r emp) 119
  bel : Below w.heap.size w W
  hm : r.mask < 4294967296
  ht : r.mtch < 4294967296
def OneP (w : World) (r : R7) (e : Ending) (w' : World) : Prop := e = .returned (.agg (entV r emp)) ∧ Below w.heap.size w w'
section
variable {w W : World} {s : Sp} {r : R7}
theorem St.cells (h : St w W s r) : W.cell? ⟨w.heap.size, 0, none⟩ = some (.int .u8 (s.op : Nat)) ∧ W.cell? ⟨w.heap.size, 2, none⟩ = some (.int .u32 (s.code : Nat)) ∧ W.cell? ⟨w.heap.size, 3, none⟩ = some (.int .i64 s.top) ∧
    W.cell? ⟨w.heap.size, 4, none⟩ = some (.int .i64 s.rm) ∧ W.cell? ⟨w.heap.size, 5, none⟩ = some (.int .i64 s.rs2) ∧ W.cell? ⟨w.heap.size, 6, none⟩ = some (.int .u8 (s.lay : Nat)) ∧
    W.cell? ⟨w.heap.size + 1 + 1, 2, none⟩ = some (.int .u8 (r.frm : Nat)) ∧ W.cell? ⟨w.heap.size + 1 + 1, 3, none⟩ = some (.int .u8 (r.kind : Nat)) :=
  ⟨h.sp.cell 0, h.sp.cell 2, h.sp.cell 3, h.sp.cell 4, h.sp.cell 5, h.sp.cell 6, h.ent.cell 2, h.ent.cell 3⟩
theorem St.turn {W' : World} {r' : R7} (h : St w W s r) (hb : Blk W' (w.heap.size + 1 + 1) (entV r' emp) 119) (hg : W.grownBy W' (some (w.heap.size + 1 + 1))) (hm : r'.mask < 4294967296) (ht : r'.mtch < 4294967296) : St w W' s r' :=
  ⟨(hg.block _ h.sp.lt (by simp; omega)).trans h.sp, (hg.block _ h.res.lt (by simp)).trans h.res, hb, h.bel.grown hg h.bel.size (fun k hk => by cases hk; omega), hm, ht⟩
theorem St.drewN (h : St w W s r) (q : Nat) : St w (W.drewN q) s r := ⟨h.sp, h.res, h.ent, below_drewN h.bel, h.hm, h.ht⟩
theorem or_lt32 {a b : Nat} (ha : a < 4294967296) (hb : b < 4294967296) : a ||| b < 4294967296 := Nat.or_lt_two_pow (n := 32) ha hb
theorem st_put0 (h : St w W s r) (v : Nat) (hv : v < 128) : Calls Try.prog 99 #[.pointer (some ⟨w.heap.size + 1 + 1, 0, none⟩), .int .i64 0, .int .i64 7, .int .u32 v] W fun e W' => e = .returned (.tuple #[]) ∧ St w W' s (pt0 v r) :=
  (put_0 W _ r emp v h.ent h.hm h.ht hv).mono fun e W' ⟨h1, h2, h3⟩ => ⟨h1, h.turn h2 h3 (or_lt32 h.hm (by decide)) (or_lt32 h.ht (by omega))⟩
theorem st_put25 (h : St w W s r) (v : Nat) (hv : v < 4) : Calls Try.prog 99 #[.pointer (some ⟨w.heap.size + 1 + 1, 0, none⟩), .int .i64 25, .int .i64 2, .int .u32 v] W fun e W' => e = .returned (.tuple #[]) ∧ St w W' s (pt25 v r) :=
  (put_25 W _ r emp v h.ent h.hm h.ht hv).mono fun e W' ⟨h1, h2, h3⟩ => ⟨h1, h.turn h2 h3 (or_lt32 h.hm (by decide)) (or_lt32 h.ht (by omega))⟩
theorem st_put27 (h : St w W s r) (v : Nat) (hv : v < 32) : Calls Try.prog 99 #[.pointer (some ⟨w.heap.size + 1 + 1, 0, none⟩), .int .i64 27, .int .i64 5, .int .u32 v] W fun e W' => e = .returned (.tuple #[]) ∧ St w W' s (pt27 v r) :=
  (put_27 W _ r emp v h.ent h.hm h.ht hv).mono fun e W' ⟨h1, h2, h3⟩ => ⟨h1, h.turn h2 h3 (or_lt32 h.hm (by decide)) (or_lt32 h.ht (by omega))⟩
theorem st_put12 (h : St w W s r) (v : Nat) (hv : v < 8) : Calls Try.prog 99 #[.pointer (some ⟨w.heap.size + 1 + 1, 0, none⟩), .int .i64 12, .int .i64 3, .int .u32 v] W fun e W' => e = .returned (.tuple #[]) ∧ St w W' s (pt12 v r) :=
  (put_12 W _ r emp v h.ent h.hm h.ht hv).mono fun e W' ⟨h1, h2, h3⟩ => ⟨h1, h.turn h2 h3 (or_lt32 h.hm (by decide)) (or_lt32 h.ht (by omega))⟩
theorem st_put20 (h : St w W s r) (v : Nat) (hv : v < 32) : Calls Try.prog 99 #[.pointer (some ⟨w.heap.size + 1 + 1, 0, none⟩), .int .i64 20, .int .i64 5, .int .u32 v] W fun e W' => e = .returned (.tuple #[]) ∧ St w W' s (pt20 v r) :=
  (put_20 W _ r emp v h.ent h.hm h.ht hv).mono fun e W' ⟨h1, h2, h3⟩ => ⟨h1, h.turn h2 h3 (or_lt32 h.hm (by decide)) (or_lt32 h.ht (by omega))⟩
theorem St.setFrom (h : St w W s r) (n : Nat) : St w (W.setCell ⟨w.heap.size + 1 + 1, 2, none⟩ (.int .u8 (n : Nat))) s { r with frm := n } :=
  h.turn (h.ent.set 2 _) (grown_set_row (World.grownBy.refl W _) 2 _) h.hm h.ht
theorem St.setKind (h : St w W s r) (n : Nat) : St w (W.setCell ⟨w.heap.size + 1 + 1, 3, none⟩ (.int .u8 (n : Nat))) s { r with kind := n } :=
  h.turn (h.ent.set 3 _) (grown_set_row (World.grownBy.refl W _) 3 _) h.hm h.ht
theorem st_start (w : World) (s : Sp) (f : Nat) : St w (((w.alloc (.cells (specV s) 116)).alloc (.cells (entV zeroR emp) 119)).alloc (.cells (entV ⟨s.op, f, 0, 0, 0, 0, s.lay⟩ emp) 119)) s ⟨s.op, f, 0, 0, 0, 0, s.lay⟩ :=
  ⟨((Blk.new w _ _).alloc _).alloc _, by have := (Blk.new (w.alloc (.cells (specV s) 116)) (entV zeroR emp) 119).alloc (.cells (entV ⟨s.op, f, 0, 0, 0, 0, s.lay⟩ emp) 119); rwa [World.size_alloc] at this,
    by have := Blk.new ((w.alloc (.cells (specV s) 116)).alloc (.cells (entV zeroR emp) 119)) (entV ⟨s.op, f, 0, 0, 0, 0, s.lay⟩ emp) 119; rwa [World.size_alloc, World.size_alloc] at this,
    (((Below.refl _ w).alloc (Nat.le_refl _) _).alloc (by simp) _).alloc (by simp; omega) _, (by show 0 < 4294967296; decide), (by show 0 < 4294967296; decide)⟩
end
end Go.Proofs.Yteelconabmfnkaa

