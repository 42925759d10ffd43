/- The operations that touch no memory, further. -/
import Derived.Test.YtloblhhnlaaajaaDoorEv5
namespace Go.Ev
open Go

section
variable {P : Program} {E : Env} {ρ : Rho} {μ : Mu}

theorem rsb (k : IntKind) {i y : Nat} (h : i ≤ y) (code : BoundsCode) (w : World) : (Instr.sliceBound (.int k (i : Int)) y code).run P w = .ok i w := by
  simp [Instr.sliceBound, asIntOf, h]
/-- A bound: the given one, or as it is where none is given. -/
def Bnd (d l h : Nat) : Option Value → Prop
  | none => l = d
  | some v => (∃ k, v = .int k (l : Int)) ∧ l ≤ h
theorem Bnd.none {d h : Nat} : Bnd d d h Option.none := rfl
theorem Bnd.some {d l h : Nat} (k : IntKind) (e : l ≤ h) : Bnd d l h (Option.some (.int k (l : Int))) := ⟨⟨k, rfl⟩, e⟩
theorem run_bounds {isSlice : Bool} {len cap l h m : Nat} {lo hi mx : Option Value}
    (hm : Bnd cap m cap mx) (hh : Bnd len h m hi) (hn : hi = none → mx = none) (hl : Bnd 0 l h lo) (w : World) :
    (Instr.sliceBounds isSlice len cap lo hi mx).run P w = .ok (l, h, m) w := by
  cases mx with
  | none =>
    simp only [Bnd] at hm
    subst hm
    cases hi with
    | none =>
      simp only [Bnd] at hh
      subst hh
      cases lo with
      | none => simp only [Bnd] at hl; subst hl; simp [Instr.sliceBounds]
      | some v =>
        obtain ⟨⟨k, rfl⟩, h1⟩ := hl
        simp [Instr.sliceBounds, rsb k h1]
    | some u =>
      obtain ⟨⟨k', rfl⟩, h2⟩ := hh
      cases lo with
      | none => simp only [Bnd] at hl; subst hl; simp [Instr.sliceBounds, rsb k' h2]
      | some v =>
        obtain ⟨⟨k, rfl⟩, h1⟩ := hl
        simp [Instr.sliceBounds, rsb k h1, rsb k' h2]
  | some z =>
    obtain ⟨⟨k'', rfl⟩, h3⟩ := hm
    cases hi with
    | none => exact absurd (hn rfl) (by simp)
    | some u =>
      obtain ⟨⟨k', rfl⟩, h2⟩ := hh
      cases lo with
      | none => simp only [Bnd] at hl; subst hl; simp [Instr.sliceBounds, rsb k' h2, rsb k'' h3]
      | some v =>
        obtain ⟨⟨k, rfl⟩, h1⟩ := hl
        simp [Instr.sliceBounds, rsb k h1, rsb k' h2, rsb k'' h3]

/-- An optional operand. -/
def CO (ρ : Rho) (μ : Mu) (v : Option V) (X : Option Value) : Prop :=
  match v, X with
  | none, none => True
  | some v, some X => conc ρ μ v = some X
  | _, _ => False

theorem CO.nat {v : V} {X : Option Value} {n : Nat} (h : CO ρ μ (some v) X) (hn : natOf v = some n) : ∃ k, X = some (.int k (n : Int)) := by
  obtain ⟨k, rfl⟩ := natOf_some hn
  cases X with
  | none => exact h.elim
  | some X => simp only [CO, conc] at h; injection h with h; exact ⟨k, by rw [h]⟩
theorem CO.none {X : Option Value} (h : CO ρ μ none X) : X = none := by cases X with | none => rfl | some _ => exact h.elim

theorem bif_some {α : Type} {b : Bool} {x : Option α} {v : α} (h : (bif b then x else none) = some v) : b = true ∧ x = some v := by
  cases b
  · cases h
  · exact ⟨rfl, h⟩
theorem beq_addr (m l o o' : Nat) : (bif Nat.beq m l then o else o') = if m = l then o else o' := by
  by_cases e : m = l
  · subst e; simp
  · have : Nat.beq m l = false := by
      cases hb : Nat.beq m l with
      | false => rfl
      | true => exact absurd (Nat.eq_of_beq_eq_true hb) e
    simp [this, e]

/-- Where a slice begins. -/
def cbeg (x : Nat × Nat) (o : Nat) : Cp → Nat
  | .lit _ => o
  | .opn e o' => if x.2 - e = 0 then o' else o
def ccap (x : Nat × Nat) : Cp → Nat
  | .lit c => c
  | .opn e _ => x.2 - e

theorem subEnd_sound {size b o n l h : Nat} {c : Cp} {m : Option Nat} {v : V} (hv : subEnd size b o n c l h m = some v) {x : Nat × Nat} (hx : μ b = some x) (hle : n ≤ ccap x c) (hlh : l ≤ h) :
    h ≤ m.getD (ccap x c) ∧ m.getD (ccap x c) ≤ ccap x c ∧
      conc ρ μ v = some (.slice (some (if m.getD (ccap x c) = l then ⟨x.1, cbeg x o c, none⟩ else ⟨x.1, cbeg x o c + l * size, none⟩)) (h - l) (m.getD (ccap x c) - l)) := by
  cases m with
  | none =>
    cases c with
    | lit c =>
      simp only [subEnd, ccap, cbeg, Option.getD] at *
      obtain ⟨h1, h2⟩ := bif_some hv
      have h1 := Nat.le_of_ble_eq_true h1
      injection h2 with h2
      subst h2
      refine ⟨h1, Nat.le_refl _, ?_⟩
      simp only [conc, hx, Option.bind_some, cslice, beq_addr]
      rw [if_pos (by omega)]
      by_cases e : c = l <;> simp [e]
    | opn e o' =>
      simp only [subEnd, ccap, cbeg, Option.getD] at *
      obtain ⟨h1, h2⟩ := bif_some hv
      have h1 := Nat.le_of_ble_eq_true h1
      refine ⟨by omega, Nat.le_refl _, ?_⟩
      cases l with
      | zero =>
        simp only at h2
        injection h2 with h2
        subst h2
        simp only [conc, hx, Option.bind_some, cslice, Nat.sub_zero, Nat.zero_mul, Nat.add_zero]
        rw [if_pos (by omega)]
        by_cases e0 : x.2 - e = 0 <;> simp [e0]
      | succ l' =>
        simp only at h2
        injection h2 with h2
        subst h2
        simp only [conc, hx, Option.bind_some, cslice, Nat.succ_eq_add_one]
        rw [if_pos (by omega)]
        have e1 : ¬ x.2 - e = 0 := by omega
        by_cases e2 : x.2 - e = l' + 1
        · have e3 : x.2 - (e + (l' + 1)) = 0 := by omega
          simp [e2, e3]
        · have e3 : ¬ x.2 - (e + (l' + 1)) = 0 := by omega
          have e4 : x.2 - (e + (l' + 1)) = x.2 - e - (l' + 1) := by omega
          rw [e4] at e3 ⊢
          simp [e1, e2, e3]
  | some m =>
    cases c with
    | lit c =>
      simp only [subEnd, ccap, cbeg, Option.getD] at *
      obtain ⟨h1, h2⟩ := bif_some hv
      simp only [Bool.and_eq_true] at h1
      have h3 := Nat.le_of_ble_eq_true h1.1
      have h4 := Nat.le_of_ble_eq_true h1.2
      injection h2 with h2
      subst h2
      refine ⟨h3, h4, ?_⟩
      simp only [conc, hx, Option.bind_some, cslice, beq_addr]
      rw [if_pos (by omega)]
      by_cases e : m = l <;> simp [e]
    | opn e o' =>
      simp only [subEnd, ccap, cbeg, Option.getD] at *
      obtain ⟨h1, h2⟩ := bif_some hv
      simp only [Bool.and_eq_true] at h1
      have h3 := Nat.le_of_ble_eq_true h1.1.1
      have h4 := Nat.le_of_ble_eq_true h1.1.2
      have h5 : 0 < n := by simpa using h1.2
      injection h2 with h2
      subst h2
      refine ⟨h3, by omega, ?_⟩
      simp only [conc, hx, Option.bind_some, cslice, beq_addr]
      rw [if_pos (by omega)]
      have e0 : ¬ x.2 - e = 0 := by omega
      by_cases e' : m = l <;> simp [e', e0]

theorem lo_bound {lo : Option V} {lo' : Option Value} {l h : Nat} (hlo : CO ρ μ lo lo') (hl : optNat (some 0) lo = some l) (hlh : l ≤ h) :
    Bnd 0 l h lo' := by
  cases lo with
  | none => have := CO.none hlo; subst this; simp [optNat] at hl; exact hl.symm
  | some u => obtain ⟨k, rfl⟩ := CO.nat hlo hl; exact Bnd.some k hlh

/-- The bounds that subSlice takes, and its value. -/
theorem subSlice_sound {size b o n : Nat} {c : Cp} {lo hi mx : Option V} {v : V} {lo' hi' mx' : Option Value} (h : subSlice size b o n c lo hi mx = some v)
    (hlo : CO ρ μ lo lo') (hhi : CO ρ μ hi hi') (hmx : CO ρ μ mx mx') {x : Nat × Nat} (hx : μ b = some x) (hle : n ≤ ccap x c) :
    ∃ l hh m, (∀ (is : Bool) (w : World), (Instr.sliceBounds is n (ccap x c) lo' hi' mx').run P w = .ok (l, hh, m) w) ∧
      conc ρ μ v = some (.slice (some (if m = l then ⟨x.1, cbeg x o c, none⟩ else ⟨x.1, cbeg x o c + l * size, none⟩)) (hh - l) (m - l)) := by
  unfold subSlice at h
  cases mx with
  | none =>
    have := CO.none hmx
    subst this
    simp only [Option.bind_eq_some_iff] at h
    obtain ⟨hh, h1, l, h2, h3⟩ := h
    obtain ⟨h4, h5⟩ := bif_some h3
    have h4 := Nat.le_of_ble_eq_true h4
    obtain ⟨h6, h7, h8⟩ := subEnd_sound (ρ := ρ) h5 hx hle h4
    refine ⟨l, hh, ccap x c, fun is w => run_bounds Bnd.none ?_ (fun _ => rfl) (lo_bound hlo h2 h4) w, h8⟩
    cases hi with
    | none => have := CO.none hhi; subst this; simp [optNat] at h1; exact h1.symm
    | some u => obtain ⟨k, rfl⟩ := CO.nat hhi h1; exact Bnd.some k h6
  | some z =>
    simp only [Option.bind_eq_some_iff] at h
    obtain ⟨m, h0, hh, h1, l, h2, h3⟩ := h
    obtain ⟨h4, h5⟩ := bif_some h3
    have h4 := Nat.le_of_ble_eq_true h4
    obtain ⟨h6, h7, h8⟩ := subEnd_sound (ρ := ρ) h5 hx hle h4
    obtain ⟨km, rfl⟩ := CO.nat hmx h0
    cases hi with
    | none => simp [optNat] at h1
    | some u =>
      obtain ⟨k, rfl⟩ := CO.nat hhi h1
      exact ⟨l, hh, m, fun is w => run_bounds (Bnd.some km h7) (Bnd.some k h6) (fun e => by cases e) (lo_bound hlo h2 h4) w, h8⟩
end
end Go.Ev
