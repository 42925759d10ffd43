/- The guard of this seat's laws answers true, whatever is drawn, where the table of kinds is laid. -/
import Derived.Test.YtloblhhnlaaajaaGreatDoorV15
import Derived.Test.YtloblhhnlaaajaaGreatDoorV16
import Derived.Test.YtloblhhnlaaajaaGreatDoorV13
set_option linter.unusedVariables false
set_option linter.unusedSimpArgs false
set_option linter.defProp false
namespace Go.Proofs.OP
open Go Go.Ev Go.RowKit
open Go.Proofs
open Nat (reduceLT reduceEqDiff)
def flagsV : List V := [.bool false, .bool false, .bool false, .bool true, .bool true, .bool false]
noncomputable def E0 : Env := envOf2 Tryz.prog (List.range 273) (List.range 178) [] [] [] (T.lf.set 1 flagsV)
theorem mixed : Tryz.prog.follows .mixedOrders = true := by kernel_rfl
theorem es_ok : (es.all fun t => !Tryz.prog.eqGuardType Tryz.prog.depth t && !Tryz.prog.stoodInHeld t) = true := by kernel_rfl
theorem E0ok : EnvOk Tryz.prog E0 := envOf2_ok mixed _ _ _ _ _ rfl _ (fun _ h => by cases h)
theorem has7 : (E0.fns.get 7).isSome = true := by kernel_rfl
theorem run7 : allTrue ((ev E0 (1000000 + 1)).call 7 [] h0) = true := by kernel_rfl
def rho0 : Rho := fun _ => .bool true
theorem rho0_plain : Plain rho0 := fun _ => ⟨(fun _ h => by cases h), (fun _ h => by cases h)⟩
theorem Eok (g : T (List V)) (hg : g.get 1 = some flagsV) : EnvOk Tryz.prog (E g) := by
 unfold E
 refine envOf2_ok mixed _ _ _ _ _ es_ok g (fun f h ρ w gl => ?_)
 obtain rfl : f = 7 := by simpa using h
 refine done_true E0ok rho0_plain 1000000 7 has7 run7 (fun k cs hk => ?_)
 simp only [E0, envOf2, T.get_set, T.get_lf] at hk
 split at hk
 ·rename_i e
  subst e
  injection hk with hk
  subst hk
  obtain ⟨arr, e, fz, h1, h2⟩ := gl 1 flagsV hg
  refine ⟨arr, e, fz, h1, fun j v hj hv => ?_⟩
  obtain ⟨x, x1, x2⟩ := h2 j v hj hv
  refine ⟨x, ?_, x2⟩
  have hm := List.mem_of_getElem? hj
  simp only [flagsV, List.mem_cons, List.not_mem_nil, or_false] at hm
  rcases hm with rfl | rfl | rfl | rfl | rfl | rfl <;> exact x1
 ·cases hk
end Go.Proofs.OP
