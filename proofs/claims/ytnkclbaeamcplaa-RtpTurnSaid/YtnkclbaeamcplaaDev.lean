/- FOR THE BENCH ALONE: it prints the plan of the region that stands next. Never handed in. -/
import Derived.Test.YtnkclbaeamcplaaRegA
namespace Go.Proofs.Ytnkclbaeamcplaa
open Lean Elab Tactic Meta
def kw (e : Lean.Expr) : MetaM Lean.Expr := do
  match Lean.Kernel.whnf (← getEnv) (← getLCtx) e with
  | .ok e => pure e
  | .error _ => throwError "kernel whnf"
partial def natL (e : Lean.Expr) : MetaM (List String) := do
  let e ← kw e
  if e.isAppOf ``List.nil then return []
  let a := e.getAppArgs
  let h ← kw a[1]!
  let n := match h with | .lit (.natVal n) => toString n | _ => (if h.isConstOf ``Nat.zero then "0" else toString h)
  return n :: (← natL a[2]!)
partial def planS (e : Lean.Expr) : MetaM String := do
  let e ← kw e
  let a := e.getAppArgs
  let l := "[" ++ String.intercalate ", " (← natL a[0]!) ++ "]"
  if e.isAppOf ``Plan.leaf then return s!"(.leaf {l})"
  if e.isAppOf ``Plan.check then
    let h ← kw a[1]!
    let n := match h with | .lit (.natVal n) => toString n | _ => "0"
    return s!"(.check {l} {n} {← planS a[2]!})"
  return s!"(.fork {l} {← planS a[1]!} {← planS a[2]!})"
elab "go_plan" : tactic => withMainContext do
  let t := (← instantiateMVars (← getMainTarget)).consumeMData
  unless t.isAppOf ``Code.wp do throwError "go_plan: no code"
  let P := t.getAppArgs[0]!
  let c := t.getAppArgs[1]!
  let c := if c.isAppOf ``Code.seq then c.getAppArgs[0]! else c
  unless c.isAppOf ``Code.region do throwError "go_plan: no region"
  let ops := c.getAppArgs[1]!
  let Ps ← Term.exprToSyntax P
  let os ← Term.exprToSyntax ops
  let e ← Term.elabTerm (← `(plan $Ps (calmB $Ps) .any $os (Array.size $os) (Array.replicate (Array.size $os) false))) none
  let e ← instantiateMVars e
  let r ← kw e
  if r.isAppOf ``Option.none then logInfo "PLAN: none" else logInfo m!"PLAN: {← planS r.getAppArgs[1]!}"
elab "go_planA" : tactic => withMainContext do
  let t := (← instantiateMVars (← getMainTarget)).consumeMData
  unless t.isAppOf ``Code.wp do throwError "go_planA: no code"
  let P := t.getAppArgs[0]!
  let c := t.getAppArgs[1]!
  let c := if c.isAppOf ``Code.seq then c.getAppArgs[0]! else c
  unless c.isAppOf ``Code.region do throwError "go_planA: no region"
  let ops := c.getAppArgs[1]!
  let Ps ← Term.exprToSyntax P
  let os ← Term.exprToSyntax ops
  let e ← Term.elabTerm (← `(planA $Ps (calmB $Ps) .any $os (Array.size $os) (Array.replicate (Array.size $os) false))) none
  let e ← instantiateMVars e
  let r ← kw e
  if r.isAppOf ``Option.none then logInfo "PLAN: none" else logInfo m!"PLAN: {← planS r.getAppArgs[1]!}"
end Go.Proofs.Ytnkclbaeamcplaa
