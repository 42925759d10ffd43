/- Facts on the tries. -/
import Derived.Test.YtloblhhnlaaajaaDoorEv1
namespace Go.Ev
open Go

theorem T.get_lf {α : Type} (k : Nat) : (T.lf : T α).get k = none := by cases k <;> rfl

theorem T.get_setF {α : Type} (x : Option α) : ∀ (f : Nat) (t : T α) (k j : Nat), k < f → (T.setF x f t k).get j = if j = k then x else t.get j := by
  intro f
  induction f with
  | zero => intro t k j h; omega
  | succ f ih =>
    intro t k j h
    have key : ∀ (l r : T α) (v : Option α) (k j : Nat), k + 1 < f + 1 →
        (match Nat.mod k 2 with | 0 => T.nd (T.setF x f l (Nat.div k 2)) v r | _ + 1 => T.nd l v (T.setF x f r (Nat.div k 2))).get (j + 1)
          = if j + 1 = k + 1 then x else (T.nd l v r).get (j + 1) := by
      intro l r v k j hk
      have hd : Nat.div k 2 < f := by
        have : Nat.div k 2 ≤ k := Nat.div_le_self k 2
        omega
      have e1 : k = 2 * Nat.div k 2 + Nat.mod k 2 := (Nat.div_add_mod k 2).symm
      have e2 : j = 2 * Nat.div j 2 + Nat.mod j 2 := (Nat.div_add_mod j 2).symm
      have l1 : Nat.mod k 2 < 2 := Nat.mod_lt k (by omega)
      have l2 : Nat.mod j 2 < 2 := Nat.mod_lt j (by omega)
      generalize hmk : Nat.mod k 2 = mk at *
      generalize hmj : Nat.mod j 2 = mj at *
      match mk, mj, l1, l2 with
      | 0, 0, _, _ =>
        simp only [T.get, hmj]
        rw [ih l _ _ hd]
        by_cases e : Nat.div j 2 = Nat.div k 2
        · have : j = k := by omega
          simp [this]
        · have : ¬ j = k := fun hjk => e (by rw [hjk])
          simp [this, e]
      | 0, 1, _, _ =>
        simp only [T.get, hmj]
        have : ¬ j = k := by omega
        simp [this]
      | 1, 0, _, _ =>
        simp only [T.get, hmj]
        have : ¬ j = k := by omega
        simp [this]
      | 1, 1, _, _ =>
        simp only [T.get, hmj]
        rw [ih r _ _ hd]
        by_cases e : Nat.div j 2 = Nat.div k 2
        · have : j = k := by omega
          simp [this]
        · have : ¬ j = k := fun hjk => e (by rw [hjk])
          simp [this, e]
    cases t with
    | lf =>
      cases k with
      | zero =>
        cases j with
        | zero => rfl
        | succ j =>
          simp only [T.setF, T.get]
          simp
          split <;> rfl
      | succ k =>
        cases j with
        | zero =>
          simp only [T.setF]
          split <;> simp [T.get]
        | succ j =>
          have := key .lf .lf none k j (by omega)
          simp only [T.setF]
          refine Eq.trans this ?_
          simp only [T.get]
          split
          · rfl
          · split <;> simp
    | nd l v r =>
      cases k with
      | zero =>
        cases j with
        | zero => rfl
        | succ j => simp [T.setF, T.get]
      | succ k =>
        cases j with
        | zero =>
          simp only [T.setF]
          split <;> simp [T.get]
        | succ j =>
          have := key l r v k j (by omega)
          simp only [T.setF]
          exact this

theorem T.get_set {α : Type} (t : T α) (k j : Nat) (x : α) : (t.set k x).get j = if j = k then some x else t.get j :=
  T.get_setF _ _ _ _ _ (Nat.lt_succ_self k)
theorem T.get_del {α : Type} (t : T α) (k j : Nat) : (t.del k).get j = if j = k then none else t.get j :=
  T.get_setF _ _ _ _ _ (Nat.lt_succ_self k)
theorem T.get_putL {α : Type} : ∀ (l : List α) (t : T α) (k j : Nat), (T.putL t k l).get j = if k ≤ j ∧ j < k + l.length then l[j - k]? else t.get j := by
  intro l
  induction l with
  | nil => intro t k j; simp [T.putL]; intro h h'; omega
  | cons x r ih =>
    intro t k j
    simp only [T.putL]
    rw [ih]
    simp only [T.get_set, List.length_cons]
    by_cases h1 : j = k
    · subst h1
      rw [if_neg (by omega), if_pos rfl, if_pos (by omega)]
      simp
    · by_cases h2 : k ≤ j ∧ j < k + (r.length + 1)
      · rw [if_pos (by omega), if_pos h2]
        obtain ⟨d, hd⟩ : ∃ d, j = k + 1 + d := ⟨j - k - 1, by omega⟩
        subst hd
        have a1 : k + 1 + d - (k + 1) = d := by omega
        have a2 : k + 1 + d - k = d + 1 := by omega
        rw [a1, a2]; rfl
      · rw [if_neg (by omega), if_neg h1, if_neg h2]

theorem nth_eq {α : Type} : ∀ (l : List α) (k : Nat), nth l k = l[k]? := by
  intro l
  induction l with
  | nil => intro k; rfl
  | cons x r ih => intro k; cases k with
    | zero => rfl
    | succ k => simpa [nth] using ih k
theorem setNth_eq {α : Type} : ∀ (l : List α) (k : Nat) (x : α), setNth l k x = l.set k x := by
  intro l
  induction l with
  | nil => intro k x; rfl
  | cons y r ih => intro k x; cases k with
    | zero => rfl
    | succ k => simpa [setNth] using ih k x
theorem delNth_eq {α : Type} : ∀ (l : List α) (k : Nat), delNth l k = l.eraseIdx k := by
  intro l
  induction l with
  | nil => intro k; rfl
  | cons y r ih => intro k; cases k with
    | zero => rfl
    | succ k => simpa [delNth] using ih k
end Go.Ev
