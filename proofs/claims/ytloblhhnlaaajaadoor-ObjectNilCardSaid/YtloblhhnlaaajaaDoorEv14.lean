/- Maps. -/
import Derived.Test.YtloblhhnlaaajaaDoorEv13
namespace Go.Ev
open Go

section
variable {P : Program} {E : Env} {ρ : Rho} {μ : Mu}

theorem bytes_beq (a b : List UInt8) : ((⟨a.toArray⟩ : ByteArray) == ⟨b.toArray⟩) = (a == b) := by
  show (a.toArray == b.toArray) = _
  simp

theorem ptrEq_true {h : H} {b o b' o' : Nat} (he : ptrEq h b o b' o' = some true) : b = b' ∧ o = o' := by
  unfold ptrEq at he
  cases hb : Nat.beq b b' with
  | true =>
    simp only [hb, cond_true] at he
    injection he with he
    exact ⟨Nat.eq_of_beq_eq_true hb, Nat.eq_of_beq_eq_true he⟩
  | false =>
    simp only [hb, cond_false] at he
    split at he
    · rename_i k _ _ _ _ k' _ _
      cases hk : (Nat.beq k 2 || Nat.beq k' 2) <;> simp [hk] at he
    · cases he

theorem equal_lift {kt : Nat} {w : World} {X Y : Value} {r : Bool} (h : ∀ d, (Op.equalIn (d + 2) kt X Y).run P w = .ok r w) : (Op.equal kt X Y).run P w = .ok r w := h 9998
theorem bits_lift {X : Value} (h : ∀ d, Instr.sameBits (d + 2) X X = true) : Instr.sameBits 10000 X X = true := h 9998

theorem keyEq_iface (hE : EnvOk P E) {h : H} {w : World} (hh : HR E ρ μ h w) {kt : Nat} {ki : TI} (hk : E.tys.get kt = some ki) {ms : Array (String × TypeId)} (hd : ki.desc = .interface ms) {t t' b o b' o' : Nat} {y y' : Nat × Nat} (q1 : μ b = some y) (q2 : μ b' = some y') {r : Bool}
    (he : (bif Nat.beq t t' then (match E.tys.get t with
      | some i => (match i.desc with
        | .pointer e => (match E.tys.get e with
          | some j => bif Nat.beq j.size 0 || !i.cmp then none else ptrEq h b o b' o'
          | none => none)
        | _ => none)
      | none => none) else some false) = some r) :
    (Op.equal kt (.iface t (.pointer (some ⟨y.1, o, none⟩))) (.iface t' (.pointer (some ⟨y'.1, o', none⟩)))).run P w = .ok r w ∧ (r = true → t' = t ∧ o' = o ∧ y' = y) := by
  have uk := run_und hE hk w
  cases ht : Nat.beq t t' with
  | false =>
    simp only [ht, cond_false] at he
    injection he with he; subst he
    have hne : ¬ t = t' := by rintro rfl; simp at ht
    exact ⟨equal_lift fun d => by simp [Op.equalIn, uk, hd, hne], fun q => by cases q⟩
  | true =>
    simp only [ht, cond_true] at he
    have := Nat.eq_of_beq_eq_true ht
    subst this
    split at he
    · rename_i i hi
      split at he
      · rename_i e hde
        split at he
        · rename_i j hj
          cases hz : (Nat.beq j.size 0 || !i.cmp) with
          | true => simp [hz] at he
          | false =>
            simp only [hz, cond_false] at he
            simp only [Bool.or_eq_false_iff, Bool.not_eq_false'] at hz
            have hz' : ¬ j.size = 0 := by intro e; rw [e] at hz; simp at hz
            obtain ⟨inf, _, _, p1, _, _, _, _, _, _, _, p2, _⟩ := hE.ty hi
            have hcmp : inf.comparable = true := by rw [p2]; exact hz.2
            refine ⟨equal_lift fun d => by simp [Op.equalIn, uk, hd, typeInfo, p1, hcmp, run_und hE hi w, hde, run_size hE hj w, hz', run_ptrEq hh he q1 q2], fun q => ?_⟩
            subst q
            obtain ⟨rfl, rfl⟩ := ptrEq_true he
            rw [q1] at q2; injection q2 with q2
            exact ⟨rfl, rfl, q2.symm⟩
        · cases he
      · cases he
    · cases he

theorem keyEq_sound (hE : EnvOk P E) {h : H} {w : World} (hh : HR E ρ μ h w) {kt : Nat} {ki : TI} (hk : E.tys.get kt = some ki) {k k' : V} {K K' : Value} {r : Bool}
    (he : keyEq E h ki.desc k k' = some r) (hK : conc ρ μ k = some K) (hK' : conc ρ μ k' = some K') :
    (Op.equal kt K K').run P w = .ok r w ∧ (r = true → K' = K ∧ Instr.sameBits 10000 K K = true) ∧ (Instr.sameNow ki.desc K K' = some r ∨ ∃ ms, ki.desc = .interface ms) := by
  have uk := run_und hE hk w
  unfold keyEq at he
  split at he
  · rename_i ms t b o t' b' o' hd
    simp only [conc] at hK hK'
    cases q1 : μ b with
    | none => simp [q1] at hK
    | some y =>
      cases q2 : μ b' with
      | none => simp [q2] at hK'
      | some y' =>
        simp [q1] at hK; simp [q2] at hK'
        subst hK hK'
        obtain ⟨r1, r2⟩ := keyEq_iface hE hh hk hd q1 q2 he
        refine ⟨r1, fun q => ?_, .inr ⟨ms, hd⟩⟩
        obtain ⟨rfl, rfl, rfl⟩ := r2 q
        exact ⟨rfl, bits_lift fun d => by simp [Instr.sameBits]⟩
  · rename_i kk j a j' b hd
    split at he
    · rename_i hj
      injection he with he; subst he hj
      simp only [conc] at hK hK'
      injection hK with hK; injection hK' with hK'; subst hK hK'
      refine ⟨equal_lift fun d => ?_, fun q => ?_, .inl ?_⟩
      · simp only [Op.equalIn, Sem.run_bind, uk, Result.andThen_ok, hd, if_true, Sem.run_pure]; rfl
      · have q : a = b := by simpa using q
        subst q; exact ⟨rfl, bits_lift fun d => by simp only [Instr.sameBits, beq_self_eq_true, Bool.and_self]⟩
      · rw [hd]; simp only [Instr.sameNow, if_true]; rfl
    · cases he
  · rename_i a b hd
    injection he with he; subst he
    simp only [conc] at hK hK'
    injection hK with hK; injection hK' with hK'; subst hK hK'
    have hab := bytes_beq a b
    refine ⟨equal_lift fun d => ?_, fun q => ?_, .inl ?_⟩
    · simp only [Op.equalIn, Sem.run_bind, uk, Result.andThen_ok, hd]
      simp only [Sem.run_pure, hab]
    · have q : a = b := by simpa using q
      subst q; exact ⟨rfl, bits_lift fun d => by simp only [Instr.sameBits, bytes_beq, beq_self_eq_true]⟩
    · rw [hd]; simp only [Instr.sameNow, hab]
  · rename_i a b hd
    injection he with he; subst he
    simp only [conc] at hK hK'
    injection hK with hK; injection hK' with hK'; subst hK hK'
    refine ⟨equal_lift fun d => ?_, fun q => ?_, .inl ?_⟩
    · simp only [Op.equalIn, Sem.run_bind, uk, Result.andThen_ok, hd, Sem.run_pure]
    · have q : a = b := by simpa using q
      subst q; exact ⟨rfl, bits_lift fun d => by simp only [Instr.sameBits, beq_self_eq_true]⟩
    · rw [hd]; simp only [Instr.sameNow]
  · cases he

/-- The entries of a map. -/
def EsR (ρ : Rho) (μ : Mu) (es : List (V × V × Nat)) (l : List MapEntry) : Prop :=
  es.length = l.length ∧ ∀ (i : Nat) k v born, es[i]? = some (k, v, born) → ∃ K X, conc ρ μ k = some K ∧ conc ρ μ v = some X ∧ l[i]? = some (MapEntry.mk K X born)

theorem EsR.cons {k v : V} {born : Nat} {r : List (V × V × Nat)} {l : List MapEntry} (h : EsR ρ μ ((k, v, born) :: r) l) : ∃ K X l', l = ⟨K, X, born⟩ :: l' ∧ conc ρ μ k = some K ∧ conc ρ μ v = some X ∧ EsR ρ μ r l' := by
  obtain ⟨h1, h2⟩ := h
  cases l with
  | nil => simp at h1
  | cons e l' =>
    obtain ⟨K, X, e1, e2, e3⟩ := h2 0 k v born rfl
    simp at e3
    subst e3
    exact ⟨K, X, l', rfl, e1, e2, by simpa using h1, fun i k v b e => by simpa using h2 (i + 1) k v b (by simpa using e)⟩

def Found (ρ : Rho) (μ : Mu) (K : Value) (l : List MapEntry) (i : Nat) (r : Option (Nat × V × Nat)) (R : Option (Nat × Value)) : Prop :=
  match r with
  | none => R = none
  | some (j, v, born) => ∃ X, R = some (j, X) ∧ conc ρ μ v = some X ∧ i ≤ j ∧ l[j - i]? = some ⟨K, X, born⟩ ∧ Instr.sameBits 10000 K K = true

theorem findK_sound (hE : EnvOk P E) {h : H} {w : World} (hh : HR E ρ μ h w) {kt : Nat} {ki : TI} (hk : E.tys.get kt = some ki) {k : V} {K : Value} (hK : conc ρ μ k = some K) :
    ∀ {es : List (V × V × Nat)} {l : List MapEntry} {i : Nat} {r : Option (Nat × V × Nat)}, EsR ρ μ es l → findK E h ki.desc k es i = some r →
      ∃ R, Found ρ μ K l i r R ∧ (Instr.findAsking kt K l i).run P w = .ok R w ∧ (Instr.findNow ki.desc K l i = some R ∨ ((∃ ms, ki.desc = .interface ms) ∧ (l ≠ [] → Instr.findNow ki.desc K l i = none)))
  | [], l, i, r, hes, hf => by
    simp [findK] at hf; subst hf
    have : l = [] := List.eq_nil_of_length_eq_zero (by simpa using hes.1.symm)
    subst this
    exact ⟨none, rfl, by simp [Instr.findAsking], .inl (by simp [Instr.findNow])⟩
  | (k', v, born) :: es, l, i, r, hes, hf => by
    obtain ⟨K', X, l', rfl, e1, e2, e3⟩ := hes.cons
    simp only [findK] at hf
    split at hf
    · cases hf
    · rename_i hq
      injection hf with hf; subst hf
      obtain ⟨q1, q2, q3⟩ := keyEq_sound hE hh hk hq hK e1
      obtain ⟨q4, q5⟩ := q2 rfl
      subst q4
      refine ⟨some (i, X), ⟨X, rfl, e2, Nat.le_refl _, by simp, q5⟩, by simp [Instr.findAsking, q1], ?_⟩
      rcases q3 with q3 | ⟨ms, q3⟩
      · exact .inl (by simp [Instr.findNow, q3])
      · exact .inr ⟨⟨ms, q3⟩, fun _ => by rw [q3]; simp [Instr.findNow, Instr.sameNow]⟩
    · rename_i hq
      obtain ⟨q1, q2, q3⟩ := keyEq_sound hE hh hk hq hK e1
      obtain ⟨R, r1, r2, r3⟩ := findK_sound hE hh hk hK e3 hf
      refine ⟨R, ?_, by simp [Instr.findAsking, q1, r2], ?_⟩
      · unfold Found at r1 ⊢
        split
        · exact r1
        · rename_i j u bn
          obtain ⟨Y, y1, y2, y3, y4, y5⟩ := r1
          refine ⟨Y, y1, y2, by omega, ?_, y5⟩
          have : j - i = (j - (i + 1)) + 1 := by omega
          rw [this]
          simpa using y4
      · rcases q3 with q3 | ⟨ms, q3⟩
        · rcases r3 with r3 | ⟨⟨ms, r3⟩, _⟩
          · exact .inl (by simp [Instr.findNow, q3, r3])
          · rw [r3] at q3
            cases K <;> simp [Instr.sameNow] at q3
        · exact .inr ⟨⟨ms, q3⟩, fun _ => by rw [q3]; simp [Instr.findNow, Instr.sameNow]⟩

theorem run_find (hE : EnvOk P E) {h : H} {w : World} (hh : HR E ρ μ h w) {kt : Nat} {ki : TI} (hk : E.tys.get kt = some ki) {k : V} {K : Value} (hK : conc ρ μ k = some K)
    {es : List (V × V × Nat)} {l : List MapEntry} {r : Option (Nat × V × Nat)} (hes : EsR ρ μ es l) (hf : findK E h ki.desc k es 0 = some r) :
    ∃ R, Found ρ μ K l 0 r R ∧ (Instr.findKey kt K l).run P w = .ok R w := by
  obtain ⟨R, r1, r2, r3⟩ := findK_sound hE hh hk hK hes hf
  refine ⟨R, r1, ?_⟩
  rcases r3 with r3 | ⟨_, r3⟩
  · simp [Instr.findKey, run_und hE hk w, r3]
  · cases l with
    | nil =>
      simp only [Instr.findAsking, Sem.run_pure] at r2
      injection r2 with r2
      subst r2
      simp [Instr.findKey, run_und hE hk w, Instr.findNow]
    | cons e l => simp [Instr.findKey, run_und hE hk w, r3 (by simp), r2]

theorem run_check (hE : EnvOk P E) {w : World} {kt : Nat} {ki : TI} (hk : E.tys.get kt = some ki) {k : V} {K : Value} (hK : conc ρ μ k = some K) (ho : okKey E ki.desc k = true) (e : Bool) :
    (Instr.checkKey e 10000 kt K).run P w = .ok () w := by
  have lift : (∀ d, (Instr.checkKey e (d + 2) kt K).run P w = .ok () w) → (Instr.checkKey e 10000 kt K).run P w = .ok () w := fun h => h 9998
  have uk := run_und hE hk w
  apply lift
  intro d
  unfold okKey at ho
  split at ho
  · rename_i ms t b o hd
    split at ho
    · rename_i i hi
      simp only [Bool.and_eq_true] at ho
      obtain ⟨ho1, ho2⟩ := ho
      obtain ⟨inf, _, _, p1, _, _, _, _, _, _, _, p2, _⟩ := hE.ty hi
      have hcmp : inf.comparable = true := by rw [p2]; exact ho1
      simp only [conc] at hK
      cases q1 : μ b with
      | none => simp [q1] at hK
      | some y =>
        simp [q1] at hK
        subst hK
        split at ho2
        · rename_i e' hde
          simp [Instr.checkKey, uk, hd, typeInfo, p1, hcmp, run_und hE hi w, hde]
        · cases ho2
    · cases ho
  · rename_i hd
    simp only [conc] at hK; injection hK with hK; subst hK
    simp [Instr.checkKey, uk, hd]
  · rename_i hd
    simp only [conc] at hK; injection hK with hK; subst hK
    simp [Instr.checkKey, uk, hd]
  · rename_i hd
    simp only [conc] at hK; injection hK with hK; subst hK
    simp [Instr.checkKey, uk, hd]
  · cases ho

theorem mapOf_some {ty : Nat} {ki ei : TI} (h : mapOf E ty = some (ki, ei)) : ∃ i kt et, E.tys.get ty = some i ∧ i.desc = .map kt et ∧ E.tys.get kt = some ki ∧ E.tys.get et = some ei := by
  unfold mapOf at h
  split at h
  · rename_i i hi
    split at h
    · rename_i k e hd
      split at h
      · rename_i a b ha hb
        injection h with h
        obtain ⟨rfl, rfl⟩ := Prod.mk.inj h
        exact ⟨i, k, e, hi, hd, ha, hb⟩
      · cases h
    · cases h
  · cases h

theorem map_obj {h : H} {w : World} (hh : HR E ρ μ h w) {b : Nat} {es : List (V × V × Nat)} {clock : Nat} (hb : h.t.get b = some (.map es clock)) {y : Nat × Nat} (hy : μ b = some y) :
    ∃ arr, w.heap[y.1]? = some (.map arr clock) ∧ EsR ρ μ es arr.toList := by
  obtain ⟨y', ob, e1, e2, e3⟩ := hh.blk b _ hb
  rw [hy] at e1; injection e1 with e1; subst e1
  cases e3 with
  | @map _ _ _ arr he hc => exact ⟨arr, e2, by simpa using he, fun i k v born e => by simpa using hc i k v born e⟩

end
end Go.Ev
