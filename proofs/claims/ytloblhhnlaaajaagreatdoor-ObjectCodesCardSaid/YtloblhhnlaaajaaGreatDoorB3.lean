/- The world's memory, seen as memory that no one writes. -/
import Derived.Test.YtloblhhnlaaajaaGreatDoorB2
set_option linter.unusedVariables false
set_option linter.unusedSimpArgs false
set_option linter.defProp false
namespace Go.Ev
open Go

def absV (k : Nat) : Value → V
  | .bool b => .bool b
  | .int j n => .int j n
  | .string s => .str s.data.toList
  | .pointer none => .nilp
  | .slice none 0 0 => .nils
  | .slice (some a) n c => if n ≤ c then .gsl a n c else .sym k
  | .agg _ => un
  | .tuple _ => un
  | _ => .sym k

theorem absV_conc {ρ : Rho} {μ : Mu} {k : Nat} {v : Value} (h1 : (absV k v).one = true) (hk : (∀ cs, v ≠ .agg cs) → (∀ vs, v ≠ .tuple vs) → ρ k = v) : conc ρ μ (absV k v) = some v := by
  have hp : (∀ cs, v ≠ .agg cs) ∧ (∀ vs, v ≠ .tuple vs) := by
    constructor <;> (rintro x rfl; simp [absV, un, V.one] at h1)
  have hk := hk hp.1 hp.2
  unfold absV
  split
  · rfl
  · rfl
  · rfl
  · rfl
  · rfl
  · split
    · rename_i h; simp only [conc, if_pos h]
    · simp only [conc, hk]
  · exact absurd rfl (hp.1 _)
  · exact absurd rfl (hp.2 _)
  · simp only [conc]; rw [hk]

def osize : Obj → Nat
  | .cells arr _ _ => arr.size
  | _ => 0
def wide (W : World) : Nat := (W.heap.toList.map osize).sum + 1
theorem osize_lt {W : World} {g : Nat} {o : Obj} (h : W.heap[g]? = some o) : osize o < wide W := by
  have hm : o ∈ W.heap.toList := by
    rw [← Array.getElem?_toList] at h
    exact List.mem_of_getElem? h
  have : osize o ≤ (W.heap.toList.map osize).sum := by
    clear h
    generalize W.heap.toList = l at hm
    induction l with
    | nil => cases hm
    | cons x r ih =>
      simp only [List.map_cons, List.sum_cons]
      rcases List.mem_cons.1 hm with rfl | hm
      · omega
      · have := ih hm; omega
  unfold wide; omega

def absL (W : World) (g : Nat) : Nat → List Value → List V
  | _, [] => []
  | j, v :: r => absV (g * wide W + j) v :: absL W g (j + 1) r
theorem absL_get (W : World) (g : Nat) : ∀ (l : List Value) (j i : Nat), (absL W g j l)[i]? = l[i]?.map (absV (g * wide W + (j + i)))
  | [], j, i => by simp [absL]
  | v :: r, j, 0 => by simp [absL]
  | v :: r, j, i + 1 => by
    simp only [absL, List.getElem?_cons_succ]
    rw [absL_get W g r (j + 1) i, show j + 1 + i = j + (i + 1) by omega]

def rhoW (W : World) : Rho := fun k => match W.heap[k / wide W]? with
  | some (.cells arr _ _) => (match arr[k % wide W]? with
    | some (.agg _) => .bool false
    | some (.tuple _) => .bool false
    | some v => v
    | none => .bool false)
  | _ => .bool false
theorem rhoW_plain (W : World) : Plain (rhoW W) := by
  intro i
  have fb : (∀ cs : Array Value, Value.bool false ≠ .agg cs) ∧ (∀ vs : Array Value, Value.bool false ≠ .tuple vs) := by constructor <;> (intro _ h; cases h)
  unfold rhoW
  split
  · split
    · exact fb
    · exact fb
    · rename_i v h1 h2 h3
      exact ⟨fun cs h => h1 cs h, fun cs h => h2 cs h⟩
    · exact fb
  · exact fb
theorem rhoW_at {W : World} {g j : Nat} {arr : Array Value} {e : TypeId} {fz : Nat × Nat} {v : Value} (h : W.heap[g]? = some (.cells arr e fz)) (hj : arr[j]? = some v) (h1 : ∀ cs, v ≠ .agg cs) (h2 : ∀ vs, v ≠ .tuple vs) : rhoW W (g * wide W + j) = v := by
  have hlt : j < wide W := by
    have := osize_lt h
    have : j < arr.size := (Array.getElem?_eq_some_iff.1 hj).1
    simp only [osize] at *; omega
  have hpos : 0 < wide W := by omega
  have e1 : (g * wide W + j) / wide W = g := by
    rw [Nat.mul_comm, Nat.mul_add_div hpos, Nat.div_eq_of_lt hlt, Nat.add_zero]
  have e2 : (g * wide W + j) % wide W = j := by
    rw [Nat.mul_comm, Nat.mul_add_mod, Nat.mod_eq_of_lt hlt]
  unfold rhoW
  rw [e1, e2, h]
  simp only [hj]

def gN (W : World) : Nat → T (List V)
  | 0 => .lf
  | n + 1 => match W.heap[n]? with
    | some (.cells arr _ _) => (gN W n).set n (absL W n 0 arr.toList)
    | _ => gN W n
def gW (W : World) : T (List V) := gN W W.heap.size

theorem gN_get (W : World) : ∀ (n g : Nat), (gN W n).get g = if g < n then (match W.heap[g]? with | some (.cells arr _ _) => some (absL W g 0 arr.toList) | _ => none) else none
  | 0, g => by simp [gN, T.get_lf]
  | n + 1, g => by
    simp only [gN]
    by_cases e : g = n
    · subst e
      split
      · rename_i arr _ _ h; simp [T.get_set]
      · rename_i h
        rw [gN_get W g g, if_neg (by omega), if_pos (by omega)]
    · have : (g < n + 1) ↔ g < n := by omega
      split
      · rw [T.get_set, if_neg e, gN_get W n g]; simp only [this]
      · rw [gN_get W n g]; simp only [this]
theorem gW_get (W : World) (g : Nat) : (gW W).get g = match W.heap[g]? with | some (.cells arr _ _) => some (absL W g 0 arr.toList) | _ => none := by
  unfold gW
  rw [gN_get]
  split
  · rfl
  · rename_i h
    rw [Array.getElem?_eq_none (by omega)]

theorem globsW {E : Env} (W : World) : Globs { E with globs := gW W } (rhoW W) W := by
  intro g cs hg
  have hg : (gW W).get g = some cs := hg
  rw [gW_get] at hg
  split at hg
  · rename_i arr e fz h
    injection hg with hg
    subst hg
    refine ⟨arr, e, fz, h, fun j v hj h1 => ?_⟩
    rw [absL_get] at hj
    obtain ⟨x, hx, rfl⟩ := Option.map_eq_some_iff.1 hj
    have hx' : arr[j]? = some x := by simpa using hx
    rw [Nat.zero_add] at h1 ⊢
    exact ⟨x, absV_conc h1 fun q1 q2 => rhoW_at h hx' q1 q2, hx'⟩
  · cases hg

theorem gW_part {W : World} {g : Nat} {arr : Array Value} {e : TypeId} {fz : Nat × Nat} {cs : List V} (h : W.heap[g]? = some (.cells arr e fz)) (hc : arr.toList.map (absV 0) = cs) (hs : ∀ k v, v ∈ arr.toList → absV k v = absV 0 v) : (gW W).get g = some cs := by
  rw [gW_get, h]
  simp only [Option.some.injEq]
  rw [← hc]
  apply List.ext_getElem?
  intro i
  rw [absL_get, List.getElem?_map]
  cases hi : arr.toList[i]? with
  | none => rfl
  | some v => simp only [Option.map_some]; rw [hs _ _ (List.mem_of_getElem? hi)]

theorem cellW {W : World} {a : Addr} {v : Value} (h : W.cell? a = some v) : a.spot = none ∧ ∃ cs, (gW W).get a.block = some cs ∧ ∃ k, cs[a.off]? = some (absV k v) := by
  unfold World.cell? at h
  split at h
  · rename_i arr e fz hb
    obtain ⟨g, o, sp⟩ := a
    cases sp with
    | some s => simp at h
    | none =>
      refine ⟨rfl, absL W g 0 arr.toList, ?_, g * wide W + (0 + o), ?_⟩
      · rw [gW_get]; simp only at hb; rw [hb]
      · rw [absL_get]
        simp only [Option.isSome_none, Bool.false_eq_true, if_false] at h
        rw [Array.getElem?_toList, h]; rfl
  · cases h
end Go.Ev
