/- Methods of interface values, and what the program's library does outside of its text. -/
import Derived.Test.YtamlnnkifchgcaaGreatDoorA7
import Derived.Laws.Externs
import Derived.Lib.Bytealg
set_option linter.unusedVariables false
set_option linter.unusedSimpArgs false
set_option linter.defProp false
namespace Go.Ev
open Go Go.RowKit

theorem idx_eq (c : UInt8) : ∀ (s : List UInt8) (k : Nat), (match idxByte c s k with | some i => (i : Int) | none => -1) = if Lib.indexByte s c = -1 then -1 else (k : Int) + Lib.indexByte s c
  | [], k => by simp [idxByte, Lib.indexByte]
  | x :: r, k => by
    have ih := idx_eq c r (Nat.succ k)
    have hge := Lib.indexByte_ge r c
    unfold idxByte Lib.indexByte
    cases hx : x == c with
    | true => simp
    | false =>
      simp only [cond_false, Bool.false_eq_true, if_false]
      rw [ih]
      by_cases e : Lib.indexByte r c = -1
      · simp [e]
      · have e' : (Lib.indexByte r c == -1) = false := by simpa using e
        have e2 : ¬ (Lib.indexByte r c + 1 = -1) := by omega
        rw [if_neg e]
        simp only [e', Bool.false_eq_true, if_false]
        rw [if_neg e2]
        omega
theorem cnt_eq (c : UInt8) : ∀ (s : List UInt8) (n : Nat), cntByte c s n = n + s.count c
  | [], n => by simp [cntByte]
  | x :: r, n => by
    unfold cntByte
    rw [cnt_eq c r]
    cases hx : x == c with
    | true => have := eq_of_beq hx; subst this; simp; omega
    | false => rw [List.count_cons]; simp [hx]

/-- A function of the library that this evaluator knows. -/
def ExtIs (P : Program) (f k : Nat) : Prop :=
  ∃ fn, P.funcs[f]? = some fn ∧ (fn.name == "runtime.NumGoroutine") = false ∧ fn.body.isNone = true ∧ Extern.findNext fn = none ∧
    ((k = 0 ∧ Extern.find fn = some Extern.BytealgIndexByte.indexByte) ∨ (k = 1 ∧ Extern.find fn = some Extern.BytealgCount.count))

theorem asU8_some {v : V} {c : UInt8} (h : asU8 v = some c) : ∃ n, v = .int .u8 n ∧ c = UInt8.ofNat n.toNat := by
  unfold asU8 at h
  split at h
  · injection h with h; exact ⟨_, rfl, h.symm⟩
  · cases h

theorem ext_ok {P : Program} {f k : Nat} (hx : ExtIs P f k) (ρ : Rho) (μ : Mu) (args : List V) (X : List Value) (v : V) (hv : extV k args = some v) (ha : concL ρ μ args = some X) :
    ∃ Y, conc ρ μ v = some Y ∧ ∀ w, (callFunc f X.toArray).run P w = .ok (.value Y) w := by
  obtain ⟨fn, h1, h2, h3, h4, h5⟩ := hx
  unfold extV at hv
  split at hv
  · rename_i s c
    rcases h5 with ⟨_, h5⟩ | ⟨h, _⟩
    · split at hv
      · rename_i b hb
        obtain ⟨n, rfl, rfl⟩ := asU8_some hb
        obtain ⟨A, l, rfl, a1, hl⟩ := concL_cons ha
        obtain ⟨C, l, rfl, c1, hl⟩ := concL_cons hl
        simp [concL] at hl; subst hl
        simp only [conc] at a1 c1
        injection a1 with a1; injection c1 with c1; subst a1 c1
        have run := fun w => Lib.run_indexByteString (P := P) ⟨s.toArray⟩ n w
        have key := idx_eq (UInt8.ofNat n.toNat) s 0
        have hY : v = .int .i64 (Lib.indexByte s (UInt8.ofNat n.toNat)) := by
          split at hv
          · rename_i i hi
            rw [hi] at key
            injection hv with hv
            rw [← hv]
            congr 1
            simp only at key
            by_cases q : Lib.indexByte s (UInt8.ofNat n.toNat) = -1
            · rw [if_pos q] at key; omega
            · rw [if_neg q] at key; omega
          · rename_i hi
            rw [hi] at key
            injection hv with hv
            rw [← hv]
            congr 1
            simp only at key
            have := Lib.indexByte_ge s (UInt8.ofNat n.toNat)
            by_cases q : Lib.indexByte s (UInt8.ofNat n.toNat) = -1
            · exact q.symm
            · rw [if_neg q] at key; omega
        subst hY
        refine ⟨_, rfl, fun w => ?_⟩
        rw [run_callFunc_extern h1 h2 h3 h4 h5, run w]
        simp
      · cases hv
    · cases h
  · rename_i s c
    rcases h5 with ⟨h, _⟩ | ⟨_, h5⟩
    · cases h
    · obtain ⟨b, hb, rfl⟩ := Option.map_eq_some_iff.1 hv
      obtain ⟨n, rfl, rfl⟩ := asU8_some hb
      obtain ⟨A, l, rfl, a1, hl⟩ := concL_cons ha
      obtain ⟨C, l, rfl, c1, hl⟩ := concL_cons hl
      simp [concL] at hl; subst hl
      simp only [conc] at a1 c1
      injection a1 with a1; injection c1 with c1; subst a1 c1
      refine ⟨_, rfl, fun w => ?_⟩
      rw [run_callFunc_extern h1 h2 h3 h4 h5, Lib.run_countString]
      simp [cnt_eq, Lib.countByte]
  · cases hv

/-! ### methods -/
def isPtrD : TypeDesc → Bool
  | .pointer _ => true
  | _ => false
def methAt (P : Program) (t : Nat) (n : String) : Option Nat :=
  match P.info? t, P.underlying t with
  | some i, some d => (match i.methods.find? (fun m => m.name == n) with
    | some m => (match m.func, m.path.isEmpty with
      | some (f, p), true => bif p == isPtrD d then some f else none
      | _, _ => none)
    | none => none)
  | _, _ => none
def methsOf (P : Program) : List (Nat × String) → List (Nat × String × Nat)
  | [] => []
  | (t, n) :: r => match methAt P t n with
    | some f => (t, n, f) :: methsOf P r
    | none => methsOf P r

theorem methAt_ok {P : Program} {t f : Nat} {n : String} (h : methAt P t n = some f) (v : Value) (w : World) : (method (P.types.size + Made.depth) t v n).run P w = .ok (f, v) w := by
  unfold methAt at h
  split at h
  · rename_i i d hi hd
    split at h
    · rename_i m hm
      split at h
      · rename_i g p hg hp
        obtain ⟨hb, h⟩ := bif_some h
        injection h with h
        subst h
        have hb : p = isPtrD d := by simpa using hb
        have hpath : m.path.toList = [] := by
          have : m.path = #[] := by simpa [Array.isEmpty] using hp
          rw [this]
        have hrec : ∀ (wr : Option String), (receiverAt t (.val v) p wr).run P w = .ok v w := fun wr => by
          unfold receiverAt
          subst hb
          simp only [Sem.run_bind, run_underlying hd, Result.andThen_ok]
          all_goals (cases d <;> rfl)
        have hdep : P.types.size + Made.depth = (P.types.size + 99) + 1 := rfl
        rw [hdep]
        unfold method
        have hinfo : (typeInfo t).run P w = .ok i w := by simp [typeInfo, hi]
        simp only [Sem.run_bind, hinfo, Result.andThen_ok, hm, hpath, follow, Sem.run_pure, hg, hrec]
      · cases h
    · cases h
  · cases h
theorem methsOf_ok {P : Program} : ∀ (l : List (Nat × String)) (t : Nat) (n : String) (f : Nat), methOf t n (methsOf P l) = some f → ∀ v w, (method (P.types.size + Made.depth) t v n).run P w = .ok (f, v) w
  | [], t, n, f, h => by simp [methsOf, methOf] at h
  | (t', n') :: r, t, n, f, h => by
    simp only [methsOf] at h
    split at h
    · rename_i g hg
      simp only [methOf] at h
      cases hb : (Nat.beq t t' && (n' == n)) with
      | true =>
        rw [hb] at h
        injection h with h
        subst h
        simp only [Bool.and_eq_true] at hb
        have e1 := Nat.eq_of_beq_eq_true hb.1
        have e2 : n' = n := by simpa using hb.2
        subst e1 e2
        exact methAt_ok hg
      | false =>
        rw [hb] at h
        exact methsOf_ok r t n f h
    · exact methsOf_ok r t n f h

def envOf3 (P : Program) (ts fs sw dn es : List Nat) (ms : List (Nat × String)) (xs : List (Nat × Nat)) (globs : T (List V)) : Env :=
  { tys := tysOf P ts, fns := fnsOf P fs, meths := methsOf P ms, eqs := es, exts := xs, globs := globs, sw := fnsOf P sw, dn := dn }

theorem envOf3_ok {P : Program} (hm : P.follows .mixedOrders = true) (ts fs sw dn es : List Nat) (ms : List (Nat × String)) (xs : List (Nat × Nat)) (hes : (es.all fun t => !P.eqGuardType P.depth t && !P.stoodInHeld t) = true) (globs : T (List V))
    (hxs : ∀ f k, extOf f xs = some k → ExtIs P f k)
    (hdn : ∀ f, f ∈ dn → ∀ (ρ : Rho) (w : World), Globs (envOf3 P ts fs sw dn es ms xs globs) ρ w → Done P f w) : EnvOk P (envOf3 P ts fs sw dn es ms xs globs) := by
  refine ⟨fun t i h => tysOf_ok ts t i h, fun f i h => fi_ok (fnsOf_ok fs f i h), fun t n f h v w => methsOf_ok ms t n f h v w, (fun ty h => ?_), fun f k h ρ μ args X v hv ha => ext_ok (hxs f k h) ρ μ args X v hv ha, fun f i h => fi_ok (fnsOf_ok sw f i h), fun f h => hdn f (by simpa [envOf3] using h), hm⟩
  have hmem : ty ∈ es := by simpa [envOf3] using h
  have := List.all_eq_true.1 hes ty hmem
  simpa using this
end Go.Ev
