/- What the evaluator knows of this seat's program; its guard answers true. -/
import Derived.Test.YtloblhhnlaaajaaDoorEv29
import Derived.Test.YtloblhhnlaaajaaDoorProg
import Derived.KernelRfl
namespace Go.Proofs.D1
open Go Go.Ev Go.RowKit

def tys : List Nat := List.range 420
def fns : List Nat := List.range 420
def gl : T (List V) := T.lf.set 0 [V.bool false, .bool false, .bool false, .bool true, .bool true, .bool false]
noncomputable def E : Env := envOf Tryd.prog tys fns [] [] [] gl
theorem mixed : Tryd.prog.follows .mixedOrders = true := by kernel_rfl
theorem Eok : EnvOk Tryd.prog E := envOf_ok mixed tys fns gl
theorem has9 : (E.fns.get 9).isSome = true := by kernel_rfl
theorem run9 : allTrue ((ev E (1000000 + 1)).call 9 [] h0) = true := by kernel_rfl
end Go.Proofs.D1
