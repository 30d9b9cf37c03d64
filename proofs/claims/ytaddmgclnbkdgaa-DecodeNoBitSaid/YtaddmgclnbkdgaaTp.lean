/- decode.Uses: what an instruction reads and writes; a call of a function value in a region. -/
import Derived.Test.YtaddmgclnbkdgaaPd
namespace Go.Proofs.Ytaddmgclnbkdgaa
open Go Go.RowKit
set_option maxHeartbeats 4000000
set_option maxRecDepth 100000
set_option linter.unusedVariables false
set_option linter.unusedSimpArgs false
section
variable {P : Program} {ops : Array Oper} {I : (Nat → Bool) → World → Prop} {Q : Act → Prop} {k : Nat} {o : Oper} {rest : List Oper} {a : Act}
/-- a call of a function value -/
theorem sets_callv (v : Value) (hw : Region.wanted o (yielded ops a.tmps) = true) (x : Operand) (f : FuncId) (ba lb : List Value) (args : List Operand) (ts : Array TypeId) (ho : o.op = .call { callee := .value x, args := args.toArray, argTypes := ts })
    (hx : a.eval x = .func (.func f) ba.toArray lb.toArray)
    (fn : Func) (hf : P.funcs[f]? = some fn) (hn : (fn.name == "runtime.NumGoroutine") = false) (hb : fn.body.isNone = false) (vals : List Value) (hv : args.map a.eval = vals)
    (hc : ∀ S w, S k = false → (∀ e ∈ o.after, Region.binds .any e = true → S e.on = true) → I S w → Calls P f (ba ++ vals ++ lb).toArray w fun e w' => e = .returned v ∧ I (ins S k) w')
    (h : wpSets P ops I Q (k + 1) rest (a.put o.dst v)) : wpSets P ops I Q k (o :: rest) a := by
  refine ⟨v, .inl ⟨hw, fun S w hS _ ha hIw => ?_⟩, h⟩
  have hr : (execOp a.eval o).run P w = .ok (.enter f (ba ++ vals ++ lb).toArray) w := by
    unfold execOp
    simp [ho, hx, resolve, Deferred.ofValue, invoke, callFunc, hf]
    have hn' : ¬ fn.name = "runtime.NumGoroutine" := fun e => by rw [e] at hn; simp at hn
    have hb' : ¬ fn.body = none := fun e => by rw [e] at hb; simp at hb
    rw [if_neg hn', if_neg hb', ← hv]
  unfold opTo
  rw [hr]
  exact hc S w hS ha hIw
end
/-- what is read and written -/
structure U4 where
  rx : Nat
  rf : Nat
  wx : Nat
  wf : Nat
deriving DecidableEq
abbrev useV (u : U4) : Array Value := #[.int .u32 (u.rx : Nat), .int .u32 (u.rf : Nat), .int .u32 (u.wx : Nat), .int .u32 (u.wf : Nat)]
abbrev zeroU : U4 := ⟨0, 0, 0, 0⟩
def USE (x : I11) : U4 :=
  if x.op = 1 ∨ x.op = 22 ∨ x.op = 25 then ⟨2 ^ x.rs1, 0, 0, 2 ^ x.rd⟩
  else if x.op = 2 then ⟨2 ^ x.rs1, 2 ^ x.rs2, 0, 0⟩
  else if x.op = 26 ∨ x.op = 27 ∨ x.op = 28 then ⟨2 ^ x.rs1, 0, 2 ^ x.rd, 0⟩
  else if x.op = 29 ∨ x.op = 30 ∨ x.op = 31 then ⟨0, 0, 2 ^ x.rd, 0⟩
  else if x.op = 21 ∨ x.op = 23 ∨ x.op = 24 then ⟨0, 2 ^ x.rs1, 2 ^ x.rd, 0⟩
  else if x.op = 18 ∨ x.op = 19 ∨ x.op = 20 then ⟨0, 2 ^ x.rs1 ||| 2 ^ x.rs2, 2 ^ x.rd, 0⟩
  else if x.op = 11 ∨ x.op = 17 then ⟨0, 2 ^ x.rs1, 0, 2 ^ x.rd⟩
  else if x.op = 3 ∨ x.op = 4 ∨ x.op = 5 ∨ x.op = 6 then ⟨0, (2 ^ x.rs1 ||| 2 ^ x.rs2) ||| 2 ^ x.rs3, 0, 2 ^ x.rd⟩
  else ⟨0, 2 ^ x.rs1 ||| 2 ^ x.rs2, 0, 2 ^ x.rd⟩
def UsesP (W : World) (w : Nat) (e : Ending) (w' : World) : Prop := e = .returned (.tuple #[.agg (useV (((DEC w).map USE).getD zeroU)), .int .i64 (if (DEC w).isSome then 0 else 250)]) ∧ Below W.heap.size W w'
theorem bit_c (W : World) (n p : Nat) (hn : n < 32) (hp : 2 ^ n = p) : Calls Try.prog 68 #[.int .u8 n] W fun e w' => e = .returned (.int .u32 (p : Nat)) ∧ w' = W := by
  have e1 : (2 : Int) ^ n % 4294967296 = ((p : Nat) : Int) := by
    have h1 : 2 ^ n < 2 ^ 32 := Nat.pow_lt_pow_right (by decide) hn
    rw [hp] at h1
    have h2 : ((2 : Int) ^ n) = ((p : Nat) : Int) := by rw [← hp]; simp
    rw [h2]; omega
  go_enter Try.func68, Try.ntmps68
  go_wp2
  go_ret
  refine ⟨?_, rfl⟩
  show Ending.returned (.int .u32 ((2 : Int) ^ n % 4294967296)) = _
  rw [e1]
theorem pow_lt32 {n p : Nat} (hn : n < 32) (hp : 2 ^ n = p) : p < 4294967296 := by
  have h1 : 2 ^ n < 2 ^ 32 := Nat.pow_lt_pow_right (by decide) hn
  rw [hp] at h1; omega
end Go.Proofs.Ytaddmgclnbkdgaa
