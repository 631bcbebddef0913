/- What this session's printed texts use beside the kit's words: calls of function values that are known. -/
import Derived.Test.YtfeekkcgmnkofaaWLast
namespace Go.Proofs.Ytfeekkcgmnkofaa.XWords
open Go.Proofs.YtfeekkcgmnkofaaW.PrintLast
section
variable {P : Program} {ops : Array Oper} {Q : Exit → Act → World → Prop}
/-- A call of a function value that is known: what it has been bound to stands ahead of the arguments and behind them. -/
theorem goesv_ {oi : Oper} {N : Option Tmp} {a : Act} {w : World} {K : Act → World → Prop} {f : FuncId} {fn : Func} {c : Operand} {as : Array Operand} {ts : Array TypeId} {first capt : Array Value} (hf : P.funcs[f]? = some fn) (hname : (fn.name == "runtime.NumGoroutine") = false) (hb : fn.body.isSome = true) (args : Array Value)
    (hw : Region.wanted oi (yielded ops a.tmps) = true) (hN : oi.dst = N) (hop : oi.op = .call { callee := .value c, args := as, argTypes := ts }) (hc : a.eval c = .func (.func f) first capt) (hargs : first ++ as.map a.eval ++ capt = args)
    (h : Calls P f args w fun e w' => ∃ v, e = .returned v ∧ K (a.put N v) w') : if Region.wanted oi (yielded ops a.tmps) = true then Oper.wp P oi a w K Q else K (a.put N undef) w := by
  refine call_ f args hw hN ?_ h
  have he := enters_ hf hname hb args w
  unfold execOp
  subst hargs
  simp [hop, resolve, hc, Deferred.ofValue, invoke]
  rw [Array.append_assoc] at he
  exact he
end
end Go.Proofs.Ytfeekkcgmnkofaa.XWords
