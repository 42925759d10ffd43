/- A closed run, told as a call. -/
import Derived.Test.YtloblhhnlaaajaaDoorEv27
import Derived.Below
namespace Go.Ev
open Go Go.RowKit

/-- The globals' blocks. -/
def Globs (E : Env) (ρ : Rho) (w : World) : Prop := ∀ g cs, E.globs.get g = some cs → ∃ arr e fz X, w.heap[g]? = some (.cells arr e fz) ∧ concL ρ (fun _ => none) cs = some X ∧ ∀ (j : Nat) x, X[j]? = some x → arr[j]? = some x

def h0 : H := { t := .lf, next := 0 }

theorem hr0 {E : Env} {ρ : Rho} {w : World} (hg : Globs E ρ w) : HR E ρ (fun _ => none) h0 w :=
  ⟨(fun b B h => by simp [h0, T.get_lf] at h), (fun b b' x x' h => by simp [h0, T.get_lf] at h), fun _ _ => rfl, (fun b x h => by cases h), fun g cs h => ⟨hg g cs h, (fun b x h => by cases h)⟩⟩

theorem Grows.below {w w' : World} {μ : Mu} (h : Grows (fun _ => none) w μ w') : Below w.heap.size w w' :=
  ⟨h.os, h.tape, h.output, h.size, fun k hk => h.block k hk fun _ _ h => by cases h⟩

def isTrue : V → Bool
  | .bool true => true
  | _ => false

def allTrue (r : R (V × H)) : Bool :=
  match r with
  | some l => l.all fun x => isTrue x.1
  | none => false

theorem conc_isTrue {ρ : Rho} {μ : Mu} {v : V} {X : Value} (h : isTrue v = true) (hx : conc ρ μ v = some X) : X = .bool true := by
  unfold isTrue at h
  split at h
  · simp only [conc] at hx; injection hx with hx; exact hx.symm
  · cases h

section
variable {P : Program} {E : Env} {ρ : Rho}

/-- What the evaluator answers in every way, the call answers. -/
theorem calls_true (hE : EnvOk P E) (hp : Plain ρ) (n f : Nat) {args : List V} {A : List Value} (hf : (E.fns.get f).isSome = true) (hrun : allTrue ((ev E (n + 1)).call f args h0) = true) (ha : concL ρ (fun _ => none) args = some A) {w : World} (hg : Globs E ρ w) :
    Calls P f A.toArray w fun e w' => e = .returned (.bool true) ∧ Below w.heap.size w w' := by
  obtain ⟨i, hi⟩ := Option.isSome_iff_exists.1 hf
  cases ho : (ev E (n + 1)).call f args h0 with
  | none => rw [ho] at hrun; cases hrun
  | some outs =>
    rw [ho] at hrun
    have hrun' : stepCall E (ev E n) f args h0 = some outs := ho
    obtain ⟨_, v, h', hm, μ', X, w', g1, g2, g3, g4⟩ := call_leaves hE (ev_ok hE hp n) hi hrun' (hr0 hg) ha
    have ht : isTrue v = true := by
      have := List.all_eq_true.1 hrun _ hm
      exact this
    have hX := conc_isTrue ht g3
    subst hX
    intro cs
    obtain ⟨fr, s1, s2, s3⟩ := g4 cs
    exact ⟨.returned (.bool true), w', fr, ⟨rfl, g1.below⟩, s1, s2, s3⟩
end
end Go.Ev
