/- A function's value called. General. -/
import Derived.Test.YtcgjhjijfhgclaaGreatDoorMStep
namespace Go.Proofs.YtcgjhjijfhgclaaGreatDoor.Step
open Go.RowKit Go.Lib
section
variable {P : Program} {o : Oper} {a : Act} {w : World} {K : Act → World → Prop} {Q : Exit → Act → World → Prop}
/-- a call of a function's value -/
theorem w_callv (x : Operand) (args : List Operand) (ts : Array TypeId) (ho : o.op = .call { callee := .value x, args := args.toArray, argTypes := ts }) (f : FuncId) (caps : List Value) (hx : a.eval x = .func (.func f) #[] caps.toArray)
    {fn : Func} (hf : P.funcs[f]? = some fn) (hn : (fn.name == "runtime.NumGoroutine") = false) (hb : fn.body.isNone = false) (vs : List Value) (hvs : args.map a.eval = vs) {R : Ending → World → Prop}
    (hc : Calls P f (vs ++ caps).toArray w R) (h : ∀ e w', R e w' → ∃ v, e = .returned v ∧ K (a.put o.dst v) w') : o.wp P a w K Q := by
  unfold Oper.wp execOp
  rw [ho]
  simp only [resolve, hx, Deferred.ofValue, Sem.run_bind, Sem.run_pure, Result.andThen_ok, invoke, Array.empty_append, callFunc, run_program, hf, hn, hb, Bool.false_eq_true, if_false]
  rw [List.map_toArray, show (args.map a.eval) = vs from hvs, List.append_toArray]
  exact hc.mono fun e w' hr => by
    obtain ⟨v, rfl, hk⟩ := h e w' hr
    exact hk
end
end Go.Proofs.YtcgjhjijfhgclaaGreatDoor.Step
