/- Regions that draw their order, in a round, written out; results in one cell. -/
import Derived.Test.YteelconabmfnkaaRi
import Derived.Test.YteelconabmfnkaaRfa
import Derived.Test.YteelconabmfnkaaTk
namespace Go.Proofs.Yteelconabmfnkaa
open Go Go.RowKit
set_option linter.unusedVariables false
theorem wpIn_region_sets_lit {P : Program} {id l n : Nat} {ops : List Oper} {Q : Exit → Act → World → Prop} {a : Act} {w : World} (I : (Nat → Bool) → World → Prop) (hm : P.follows .mixedOrders = true) (hnd : noDefer ops = true) (hQ : ∀ a w, Q .outgrown a w → False) (hB : setsB ops.toArray = true)
    (h0 : I (fun _ => false) w.drew)
    (h : wpSets P ops.toArray I (fun a' => ∀ S w', (∀ i < ops.length, S i = true) → I S w' → Q .normal a' w') 0 ops a) : (Code.region id ops.toArray true).wpIn (Fence.wide.inRound l) n P Q a w :=
  wpIn_region_sets I hm (by simpa using hnd) hQ hB h0 (by simpa using h)
theorem results_bool {fn : Func} {p : Nat} (h : fn.results = #[.cell p 4]) (tmps : Array Value) (w : World) (g : Nat) (b : Bool) (tt : TypeId) (hp : tmps.getD p undef = .pointer (some ⟨g, 0, none⟩)) (hg : Blk w g #[.bool b] tt) : (results fn tmps).run Try.prog w = .ok (.bool b) w := by
  have hp' : tmps[p]?.getD undef = .pointer (some ⟨g, 0, none⟩) := by simpa using hp
  have := run_load_bool w g b tt hg
  simp [results, h, asAddr, hp', this]
/-- blocks of other types are others -/
theorem blk_ne {w : World} {a b : Nat} {cs cs' : Array Value} {t t' : TypeId} (h : Blk w a cs t) (h' : Blk w b cs' t') (hne : t ≠ t') : a ≠ b := fun e => by
  subst e
  have h2 : w.heap[a]? = _ := h'
  rw [show w.heap[a]? = _ from h] at h2
  have := Obj.cells.inj (Option.some.inj h2)
  exact hne this.2.1
def ptrOf (v : Value) : Addr := match v with | .pointer (some a) => a | _ => ⟨0, 0, none⟩
end Go.Proofs.Yteelconabmfnkaa
