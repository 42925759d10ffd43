/- ImageNil answers true, whatever is drawn. -/
import Derived.Test.YtamlnnkifchgcaaGreatDoorB11
import Derived.Test.YtamlnnkifchgcaaGreatDoorProg
import Derived.KernelRfl
set_option linter.unusedVariables false
set_option linter.unusedSimpArgs false
set_option linter.defProp false
namespace Go.Proofs.IG
open Go Go.Ev Go.RowKit Go.Proofs

def es : List Nat := [7, 8, 36, 37, 38, 39, 40, 41, 43, 44, 45, 46, 55, 56, 67, 68, 81, 82, 84, 85, 91, 92, 93, 94, 117, 129, 130, 139, 140, 145, 146, 157, 158, 165, 166, 201, 212]
def ms : List (Nat × String) := [(86, "orpiment/tree.stat"), (83, "orpiment/tree.stat"), (80, "orpiment/tree.stat")]
def xs : List (Nat × Nat) := [(147, 0), (201, 1)]
noncomputable def E0 : Env := envOf3 Tryz.prog (List.range 286) (List.range 238) [] [] es ms xs .lf
theorem mixed : Tryz.prog.follows .mixedOrders = true := by kernel_rfl
theorem es_ok : (es.all fun t => !Tryz.prog.eqGuardType Tryz.prog.depth t && !Tryz.prog.stoodInHeld t) = true := by kernel_rfl
theorem ext147 : ExtIs Tryz.prog 147 0 := ⟨Tryz.f147, Tryz.func147, by kernel_rfl, by kernel_rfl, by kernel_rfl, .inl ⟨rfl, by kernel_rfl⟩⟩
theorem ext201 : ExtIs Tryz.prog 201 1 := ⟨Tryz.f201, Tryz.func201, by kernel_rfl, by kernel_rfl, by kernel_rfl, .inr ⟨rfl, by kernel_rfl⟩⟩
theorem exts_ok (f k : Nat) (h : extOf f xs = some k) : ExtIs Tryz.prog f k := by
  simp only [xs, extOf] at h
  cases h1 : Nat.beq f 147 with
  | true =>
    rw [h1] at h
    injection h with h
    have := Nat.eq_of_beq_eq_true h1
    subst this h
    exact ext147
  | false =>
    rw [h1] at h
    cases h2 : Nat.beq f 201 with
    | true =>
      rw [h2] at h
      injection h with h
      have := Nat.eq_of_beq_eq_true h2
      subst this h
      exact ext201
    | false => rw [h2] at h; cases h
theorem E0ok : EnvOk Tryz.prog E0 := envOf3_ok mixed _ _ _ _ _ _ _ es_ok _ exts_ok (fun _ h => by cases h)
theorem has3 : (E0.fns.get 3).isSome = true := by kernel_rfl
theorem run3 : allTrue ((ev E0 (1000000 + 1)).call 3 [.sym 0] h0) = true := by kernel_rfl
end Go.Proofs.IG
