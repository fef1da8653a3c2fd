import Derived.Test.YtdmfojjpanndoaaDoorSLMem
open Lean Elab Tactic Meta
namespace Go.SL
partial def headCode (e : Lean.Expr) : MetaM MessageData := do
  let e := e.consumeMData
  match e.getAppFn.constName? with
  | some ``Code.seq => headCode (e.getAppArgs[0]!)
  | some ``Code.block => return m!"block {← headCode (e.getAppArgs[1]!)}"
  | some ``Code.region => return m!"REGION draw={e.getAppArgs[2]!} {(e.getAppArgs[1]!)}"
  | some ``Code.cond => return m!"cond {e.getAppArgs[0]!}"
  | some ``Code.loop => return m!"LOOP"
  | _ => return m!"{e}"
partial def frameOf (e : Lean.Expr) (seen : List Lean.Expr) : MetaM (List MessageData) := do
  let e := e.consumeMData
  if e.isAppOf ``Fr.put then
    let a := e.getAppArgs
    if seen.contains a[1]! then frameOf a[0]! seen
    else return m!"t{a[1]!} := {a[2]!}" :: (← frameOf a[0]! (a[1]! :: seen))
  else if e.isAppOf ``Fr.havoc then
    let a := e.getAppArgs
    return m!"havoc {a[1]!}" :: (← frameOf a[0]! seen)
  else return [m!"{e}"]
elab "sl_show" : tactic => do
  for g in ← getGoals do
    g.withContext do
      let mut hyps : Array MessageData := #[]
      for d in ← getLCtx do
        if d.isImplementationDetail then continue
        let ty ← instantiateMVars d.type
        if ← isProp ty then hyps := hyps.push m!"{d.userName} : {ty}"
        else hyps := hyps.push m!"{d.userName} : {ty}"
      let t := (← instantiateMVars (← g.getType)).consumeMData
      let body ← if t.isAppOf ``WP then do
          let a := t.getAppArgs
          pure m!"WP {← headCode a[4]!}\nFRAME {MessageData.joinSep (← frameOf a[5]! []) ", "}\nHEAP {a[6]!}"
        else if t.isAppOf ``WPL then do
          let a := t.getAppArgs
          let l := a[5]!.consumeMData
          let h := if l.isAppOfArity ``List.cons 3 then l.getAppArgs[1]! else l
          pure m!"WPL {h}\nFRAME {MessageData.joinSep (← frameOf a[6]! []) ", "}\nHEAP {a[7]!}"
        else if t.isAppOf ``QRet then do
          let a := t.getAppArgs
          pure m!"QRET {a[4]!} {a[3]!}\nFRAME {MessageData.joinSep (← frameOf a[5]! []) ", "}\nHEAP {a[6]!}"
        else pure m!"{t}"
      logInfo m!"{MessageData.joinSep hyps.toList "\n"}\n⊢ {body}"
end Go.SL
