/- Steps for a region that draws its order and holds an allocation that waits for nothing (wp_region_alloc): the value said ahead. No program is named here. -/
import Derived.Test.YtlpgflmjpdhpnaaDoorH
import Derived.Test.YtlpgflmjpdhpnaaDoorG
import Derived.Test.YtlpgflmjpdhpnaaDoorKp
namespace Go.Proofs.YtlpgflmjpdhpnaaDoor
open Go
set_option linter.unusedVariables false
section
variable {P : Program} {ops : Array Oper} {I : (Nat → Bool) → World → Prop} {k : Nat} {o : Oper} {a : Act}
theorem stepOk_pure {v : Value} (hw : Region.wanted o (yielded ops a.tmps) = true) (hI : ∀ S w, S k = false → I S w → I (ins S k) w) (h : ∀ w, (execOp a.eval o).run P w = .ok (.value v) w) : stepOk P ops I k o a v :=
  .inl ⟨hw, fun S w hS _ _ hIw => by
    unfold opTo
    rw [h w]
    exact ⟨rfl, hI S w hS hIw⟩⟩
theorem stepOk_call {v : Value} (hw : Region.wanted o (yielded ops a.tmps) = true) (f : FuncId) (args : List Operand) (ts : Array TypeId) (ho : o.op = .call { callee := .value (.func f), args := args.toArray, argTypes := ts })
    (fn : Func) (hf : P.funcs[f]? = some fn) (hn : (fn.name == "runtime.NumGoroutine") = false) (hb : fn.body.isNone = false) (vals : List Value) (hv : args.map a.eval = vals)
    (hc : ∀ S w, S k = false → I S w → Calls P f vals.toArray w fun e w' => e = .returned v ∧ I (ins S k) w') : stepOk P ops I k o a v := by
  refine .inl ⟨hw, fun S w hS _ ha hIw => ?_⟩
  have hr : (execOp a.eval o).run P w = .ok (.enter f vals.toArray) w := by
    unfold execOp
    simp [ho, resolve, Act.eval, Deferred.ofValue, invoke, callFunc, hf]
    have hn' : ¬ fn.name = "runtime.NumGoroutine" := fun e => by rw [e] at hn; simp at hn
    have hb' : ¬ fn.body = none := fun e => by rw [e] at hb; simp at hb
    rw [if_neg hn', if_neg hb', ← hv]
  unfold opTo
  rw [hr]
  exact hc S w hS hIw
theorem stepOk_load_blk (hw : Region.wanted o (yielded ops a.tmps) = true) (hI : ∀ S w, S k = false → I S w → I (ins S k) w) (ty : TypeId) (x : Operand) (ho : o.op = .load ty x)
    (g : Nat) (hx : a.eval x = .pointer (some ⟨g, 0, none⟩)) (t : TypeId) (cs : Array Value) (d : TypeDesc) (hc : ∀ S w, I S w → Blk w g cs t)
    (hu : P.underlying ty = some d) (hd : isRow d = true) (hi : (P.info? ty).map (·.size) = some cs.size) : stepOk P ops I k o a (.agg cs) := by
  refine .inl ⟨hw, fun S w hS _ ha hIw => ?_⟩
  have hl := run_load_blk (P := P) (ty := ty) w g t cs d (hc S w hIw) hu hd hi
  unfold opTo execOp
  simp only [ho, hx, run_v]
  simp [Instr.loadAt, Instr.sureAddr, hl, resTo, hI S w hS hIw]
end
end Go.Proofs.YtlpgflmjpdhpnaaDoor
