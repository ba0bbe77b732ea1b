/- A call of a function value that lies in a slot, in a region that draws its order: beside the print's own arm for a call by name. Conditions: the value is a function without captured variables. -/
import Derived.Test.YtolfcknnjggchaaWWords
import Derived.Test.YtolfcknnjggchaaWLast
namespace Go.Proofs.YtolfcknnjggchaaW.PrintLast
open Go.RowKit Go.Proofs.YtolfcknnjggchaaW.PrintWords
section
variable {P : Program} {ops : Array Oper} {Q : Exit → Act → World → Prop}
theorem goesV_ {oi : Oper} {N : Option Tmp} {a : Act} {w : World} {K : Act → World → Prop} {f : FuncId} {fn : Func} {as : Array Operand} {ts : Array TypeId} {s : Tmp} (hf : P.funcs[f]? = some fn) (hname : (fn.name == "runtime.NumGoroutine") = false) (hb : fn.body.isSome = true) (args : Array Value)
    (hw : Region.wanted oi (yielded ops a.tmps) = true) (hN : oi.dst = N) (hop : oi.op = .call { callee := .value (.tmp s), args := as, argTypes := ts } ∧ a.eval (.tmp s) = .func (.func f) #[] #[]) (hargs : as.map a.eval = args)
    (h : Calls P f args w fun e w' => ∃ v, e = .returned v ∧ K (a.put N v) w') : if Region.wanted oi (yielded ops a.tmps) = true then Oper.wp P oi a w K Q else K (a.put N undef) w := by
  refine call_ f args hw hN ?_ h
  have he := enters_ hf hname hb args w
  unfold execOp
  simp [hop.1, hop.2, resolve, Deferred.ofValue, invoke, hargs, he]
end
end Go.Proofs.YtolfcknnjggchaaW.PrintLast
