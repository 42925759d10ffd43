/- What is read off a program is so. -/
import Derived.Test.YtloblhhnlaaajaaDoorEv28
import Derived.Test.YtloblhhnlaaajaaDoorEv1
namespace Go.Ev
open Go Go.RowKit

theorem tysOf_ok {P : Program} : ∀ (l : List Nat) (t : Nat) (i : TI), (tysOf P l).get t = some i → TI.of P t = some i
  | [], t, i, h => by simp [tysOf, T.get_lf] at h
  | x :: r, t, i, h => by
    simp only [tysOf] at h
    split at h
    · rename_i j hj
      rw [T.get_set] at h
      split at h
      · rename_i e; injection h with h; subst h e; exact hj
      · exact tysOf_ok r t i h
    · exact tysOf_ok r t i h
theorem fnsOf_ok {P : Program} : ∀ (l : List Nat) (t : Nat) (i : FI), (fnsOf P l).get t = some i → FI.of P t = some i
  | [], t, i, h => by simp [fnsOf, T.get_lf] at h
  | x :: r, t, i, h => by
    simp only [fnsOf] at h
    split at h
    · rename_i j hj
      rw [T.get_set] at h
      split at h
      · rename_i e; injection h with h; subst h e; exact hj
      · exact fnsOf_ok r t i h
    · exact fnsOf_ok r t i h

theorem envOf_ok {P : Program} (hm : P.follows .mixedOrders = true) (ts fs : List Nat) (globs : T (List V)) : EnvOk P (envOf P ts fs [] [] [] globs) := by
  refine ⟨fun t i h => tysOf_ok ts t i h, fun f i h => ?_, (fun t n f h => by simp [envOf, methOf] at h), (fun ty h => by simp [envOf] at h), (fun f k h => by simp [envOf, extOf] at h), hm⟩
  have := fnsOf_ok fs f i h
  unfold FI.of at this
  split at this
  · rename_i fn hf
    split at this
    · rename_i c hc
      split at this
      · cases this
      · rename_i hn
        injection this with this
        subst this
        exact ⟨fn, hf, hc, rfl, rfl, hn⟩
    · cases this
  · cases this
end Go.Ev
