/- What the evaluator knows of a program, read off the program. -/
import Derived.Test.YtloblhhnlaaajaaDoorEv0
namespace Go.Ev
open Go

def TI.of (P : Program) (t : Nat) : Option TI :=
  match P.info? t, P.underlying t with
  | some i, some d => (match i.zero with
    | some z => (match ofValue z with
      | some v => bif Nat.beq v.cells.length i.size then some { desc := d, size := i.size, bytes := i.bytes, zero := v.cells, zv := v, cmp := i.comparable } else none
      | none => none)
    | none => none)
  | _, _ => none

def FI.of (P : Program) (f : Nat) : Option FI :=
  match P.funcs[f]? with
  | some fn => (match fn.body with
    | some c => (match fn.name == "runtime.NumGoroutine" with
      | true => none
      | false => some { nt := fn.ntmps, body := c, res := fn.results.toList })
    | none => none)
  | none => none

def tysOf (P : Program) : List Nat → T TI
  | [] => .lf
  | t :: r => match TI.of P t with
    | some i => (tysOf P r).set t i
    | none => tysOf P r

def fnsOf (P : Program) : List Nat → T FI
  | [] => .lf
  | t :: r => match FI.of P t with
    | some i => (fnsOf P r).set t i
    | none => fnsOf P r

def envOf (P : Program) (ts fs : List Nat) (meths : List (Nat × String × Nat)) (eqs : List Nat) (exts : List (Nat × Nat)) (globs : T (List V)) : Env :=
  { tys := tysOf P ts, fns := fnsOf P fs, meths := meths, eqs := eqs, exts := exts, globs := globs }

end Go.Ev
