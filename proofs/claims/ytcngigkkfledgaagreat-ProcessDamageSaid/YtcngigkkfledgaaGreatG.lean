/- The guard of this seat's laws answers true, whatever is drawn. -/
import Derived.Test.YtcngigkkfledgaaGreatF
import Derived.Test.YtcngigkkfledgaaGreatB7
set_option linter.unusedVariables false
set_option linter.unusedSimpArgs false
set_option linter.defProp false
namespace Go.Proofs.ZP
open Go Go.Ev Go.RowKit
open Go.Proofs
noncomputable def E0 : Env := envOf2 Tryz.prog (List.range 243) (List.range 51 ++ List.range' 52 113) [51] [] es .lf
theorem mixed : Tryz.prog.follows .mixedOrders = true := by kernel_rfl
theorem es_ok : (es.all fun t => !Tryz.prog.eqGuardType Tryz.prog.depth t && !Tryz.prog.stoodInHeld t) = true := by kernel_rfl
theorem E0ok : EnvOk Tryz.prog E0 := envOf2_ok mixed _ _ _ _ _ es_ok _ (fun _ h => by cases h)
theorem has6 : (E0.fns.get 6).isSome = true := by kernel_rfl
theorem run6 : allTrue ((ev E0 (1000000 + 1)).call 6 [] h0) = true := by kernel_rfl
def rho0 : Rho := fun _ => .bool true
theorem rho0_plain : Plain rho0 := fun _ => ⟨(fun _ h => by cases h), (fun _ h => by cases h)⟩
theorem done6 (w : World) : Done Tryz.prog 6 w := done_true E0ok rho0_plain 1000000 6 has6 run6 (fun g cs h => by simp [E0, envOf2, T.get_lf] at h)
theorem Eok (g : T (List V)) : EnvOk Tryz.prog (E g) := by
  unfold E
  exact envOf2_ok mixed _ _ _ _ _ es_ok g (fun f h ρ w _ => by
    obtain rfl : f = 6 := by simpa using h
    exact done6 w)
end Go.Proofs.ZP
