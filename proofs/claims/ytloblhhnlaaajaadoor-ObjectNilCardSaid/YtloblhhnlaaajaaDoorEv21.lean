/- Regions in a drawn order: what stands ahead of what. -/
import Derived.Test.YtloblhhnlaaajaaDoorEv20
namespace Go.Ev
open Go

theorem testBit_within {m d : Nat} (h : within m d = true) {k : Nat} (hk : Nat.testBit m k = true) : Nat.testBit d k = true := by
  have := Nat.eq_of_beq_eq_true h
  have h2 : (Nat.land m d).testBit k = m.testBit k := by rw [this]
  have h3 : (m &&& d).testBit k = m.testBit k := h2
  rw [Nat.testBit_and, hk] at h3
  simpa using h3
theorem within_of {m d : Nat} (h : ∀ k, Nat.testBit m k = true → Nat.testBit d k = true) : within m d = true := by
  unfold within
  have : Nat.land m d = m := by
    apply Nat.eq_of_testBit_eq
    intro k
    show (m &&& d).testBit k = _
    rw [Nat.testBit_and]
    cases hm : m.testBit k with
    | false => rfl
    | true => rw [h k hm]; rfl
  rw [this]; exact Nat.beq_refl m
theorem testBit_one' (k : Nat) : Nat.testBit 1 k = decide (k = 0) := by
  cases k with
  | zero => rfl
  | succ k => simp [Nat.testBit_succ]
theorem testBit_withBit {d i k : Nat} : Nat.testBit (withBit d i) k = (Nat.testBit d k || decide (k = i)) := by
  show (d ||| (1 <<< i)).testBit k = _
  rw [Nat.testBit_or, Nat.testBit_shiftLeft]
  congr 1
  rw [testBit_one']
  rw [Bool.eq_iff_iff]
  simp
  omega

theorem memN_iff {x : Nat} : ∀ {l : List Nat}, memN x l = true ↔ x ∈ l
  | [] => by simp [memN]
  | y :: r => by
    simp only [memN, List.mem_cons]
    cases h : Nat.beq x y with
    | true => simp [Nat.eq_of_beq_eq_true h]
    | false =>
      have : x ≠ y := by rintro rfl; simp at h
      simp [this, memN_iff (l := r)]

/-- The mask of one operation, over the masks ahead. -/
def maskOf (acc : List Nat) (o : Oper) : Nat := o.after.toList.foldl (fun s e => bif Region.binds .any e then Nat.lor s (Nat.lor (Nat.shiftLeft 1 e.on) ((nth acc e.on).getD 0)) else s) 0

theorem foldl_bits {acc : List Nat} {k : Nat} : ∀ (l : List Edge) (s : Nat), Nat.testBit (l.foldl (fun s e => bif Region.binds .any e then Nat.lor s (Nat.lor (Nat.shiftLeft 1 e.on) ((nth acc e.on).getD 0)) else s) s) k = true →
    Nat.testBit s k = true ∨ ∃ e ∈ l, Region.binds .any e = true ∧ (k = e.on ∨ Nat.testBit ((nth acc e.on).getD 0) k = true)
  | [], s, h => .inl h
  | e :: l, s, h => by
    rw [List.foldl_cons] at h
    rcases foldl_bits l _ h with h | ⟨e', he, h1, h2⟩
    · cases hb : Region.binds .any e with
      | false => rw [hb] at h; exact .inl h
      | true =>
        rw [hb, cond_true] at h
        have h' : (s ||| ((1 <<< e.on) ||| ((nth acc e.on).getD 0))).testBit k = true := h
        rw [Nat.testBit_or, Nat.testBit_or, Nat.testBit_shiftLeft, testBit_one'] at h'
        simp only [Bool.or_eq_true, Bool.and_eq_true, decide_eq_true_eq] at h'
        rcases h' with h' | h' | h'
        · exact .inl h'
        · exact .inr ⟨e, by simp, hb, .inl (by omega)⟩
        · exact .inr ⟨e, by simp, hb, .inr h'⟩
    · exact .inr ⟨e', List.mem_cons_of_mem _ he, h1, h2⟩

theorem preds_spec : ∀ (l : List Oper) (acc : List Nat), ∃ r, preds l acc = acc ++ r ∧ r.length = l.length ∧ ∀ (j : Nat) o, l[j]? = some o → r[j]? = some (maskOf (acc ++ r.take j) o)
  | [], acc => ⟨[], by simp [preds], rfl, fun j o h => by simp at h⟩
  | x :: l, acc => by
    obtain ⟨r, h1, h2, h3⟩ := preds_spec l (acc ++ [maskOf acc x])
    refine ⟨maskOf acc x :: r, ?_, by simp [h2], fun j o hj => ?_⟩
    · simp only [preds]
      show preds l (acc ++ [maskOf acc x]) = _
      rw [h1]; simp
    · cases j with
      | zero => simp at hj; subst hj; simp
      | succ j =>
        have := h3 j o (by simpa using hj)
        simpa [List.append_assoc] using this

theorem pendL_mem : ∀ (l : List Oper) (ms : List Nat) (i : Nat), ms.length = l.length → ∀ (j m : Nat) (o : Oper), (j, m, o) ∈ pendL l ms i ↔ i ≤ j ∧ l[j - i]? = some o ∧ ms[j - i]? = some m
  | [], ms, i, h, j, m, o => by
    cases ms <;> simp [pendL]
  | x :: l, [], i, h, j, m, o => by simp at h
  | x :: l, m0 :: ms, i, h, j, m, o => by
    simp only [pendL, List.mem_cons, Prod.mk.injEq]
    rw [pendL_mem l ms (Nat.succ i) (by simpa using h) j m o]
    constructor
    · rintro (⟨rfl, rfl, rfl⟩ | ⟨h1, h2, h3⟩)
      · simp
      · have e : j - i = (j - Nat.succ i) + 1 := by omega
        exact ⟨by omega, by rw [e]; simpa using h2, by rw [e]; simpa using h3⟩
    · rintro ⟨h1, h2, h3⟩
      by_cases hj : j = i
      · subst hj
        simp at h2 h3
        exact .inl ⟨rfl, h3.symm, h2.symm⟩
      · have e : j - i = (j - Nat.succ i) + 1 := by omega
        rw [e] at h2 h3
        exact .inr ⟨by omega, by simpa using h2, by simpa using h3⟩

/-- What the statics of a region say. -/
structure Stat (ops : Array Oper) (ps0 : List Pn) : Prop where
  mem : ∀ j o, ops[j]? = some o → ∃ m, (j, m, o) ∈ ps0
  op : ∀ j m o, (j, m, o) ∈ ps0 → ops[j]? = some o
  one : ∀ j m m' o o', (j, m, o) ∈ ps0 → (j, m', o') ∈ ps0 → m = m' ∧ o = o'
  look : ∀ p q d, p ∈ ps0 → q ∈ ps0 → q.2.2.dst = some d → d ∈ looks ops.toList p.2.2 → Nat.testBit p.2.1 q.1 = true
  dst : ∀ p q d, p ∈ ps0 → q ∈ ps0 → p.1 ≠ q.1 → q.2.2.dst = some d → p.2.2.dst ≠ some d
  back : ∀ p, p ∈ ps0 → ∀ e ∈ p.2.2.after, Region.binds .any e = true → e.on < p.1
  bits : ∀ p, p ∈ ps0 → ∀ k, Nat.testBit p.2.1 k = true → ∃ e ∈ p.2.2.after, Region.binds .any e = true ∧ (k = e.on ∨ ∃ m o, (e.on, m, o) ∈ ps0 ∧ Nat.testBit m k = true)

theorem stat_of (ops : Array Oper) (h : drawOk ops.toList (pendL ops.toList (preds ops.toList []) 0) = true) : Stat ops (pendL ops.toList (preds ops.toList []) 0) := by
  obtain ⟨r, h1, h2, h3⟩ := preds_spec ops.toList []
  rw [List.nil_append] at h1
  rw [h1] at h ⊢
  have hm := pendL_mem ops.toList r 0 h2
  have mem' : ∀ j m o, (j, m, o) ∈ pendL ops.toList r 0 ↔ ops[j]? = some o ∧ r[j]? = some m := fun j m o => by
    rw [hm]; simp
  unfold drawOk at h
  rw [List.all_eq_true] at h
  have hb : ∀ p ∈ pendL ops.toList r 0, ∀ e ∈ p.2.2.after, Region.binds .any e = true → e.on < p.1 := by
    intro p hp e he hbe
    have := h p hp
    rw [Bool.and_eq_true] at this
    have := this.1
    unfold edgesBack at this
    rw [List.all_eq_true] at this
    have := this e (by simpa using he)
    rw [hbe] at this
    simpa using this
  have hl : ∀ p q d, p ∈ pendL ops.toList r 0 → q ∈ pendL ops.toList r 0 → q.2.2.dst = some d → (Nat.testBit p.2.1 q.1 || !(memN d (looks ops.toList p.2.2))) = true ∧ (Nat.beq p.1 q.1 || (match p.2.2.dst with | some d' => !(Nat.beq d d') | none => true)) = true := by
    intro p q d hp hq hd
    have := h p hp
    rw [Bool.and_eq_true] at this
    have := this.2
    unfold lookOk at this
    rw [List.all_eq_true] at this
    have := this q hq
    rw [hd] at this
    rw [Bool.and_eq_true] at this
    exact this
  refine ⟨fun j o ho => ?_, fun j m o h => ((mem' j m o).1 h).1, fun j m m' o o' h h' => ?_, fun p q d hp hq hd hlk => ?_, fun p q d hp hq hne hd => ?_, hb, fun p hp k hk => ?_⟩
  · have hlt := (Array.getElem?_eq_some_iff.1 ho).1
    have hlt' : j < r.length := by rw [h2]; simpa using hlt
    exact ⟨_, (mem' _ _ _).2 ⟨ho, List.getElem?_eq_getElem hlt'⟩⟩
  · rw [mem'] at h h'
    have e1 := h.1; rw [h'.1] at e1
    have e2 := h.2; rw [h'.2] at e2
    injection e1 with e1; injection e2 with e2
    exact ⟨e2.symm, e1.symm⟩
  · obtain ⟨q1, _⟩ := hl p q d hp hq hd
    rw [memN_iff.2 hlk] at q1
    simpa using q1
  · obtain ⟨_, q2⟩ := hl p q d hp hq hd
    intro e
    rw [e] at q2
    have : Nat.beq p.1 q.1 = false := by
      cases hq : Nat.beq p.1 q.1 with
      | false => rfl
      | true => exact absurd (Nat.eq_of_beq_eq_true hq) hne
    rw [this] at q2
    simp at q2
  · obtain ⟨j, m, o⟩ := p
    have ⟨ho, hmj⟩ := (mem' j m o).1 hp
    have hspec := h3 j o (by simpa using ho)
    rw [hmj] at hspec
    injection hspec with hspec
    simp only at hk
    rw [hspec, List.nil_append] at hk
    rcases foldl_bits _ _ hk with hk | ⟨e, he, he1, he2⟩
    · simp at hk
    · refine ⟨e, by simpa using he, he1, ?_⟩
      rcases he2 with he2 | he2
      · exact .inl he2
      · right
        rw [nth_eq] at he2
        cases hacc : (r.take j)[e.on]? with
        | none => rw [hacc] at he2; simp at he2
        | some me =>
          rw [hacc] at he2
          have hre : r[e.on]? = some me := by
            rw [List.getElem?_take] at hacc
            split at hacc
            · exact hacc
            · cases hacc
          have hlt := (List.getElem?_eq_some_iff.1 hre).1
          have hoe : ops[e.on]? = some (ops[e.on]'(by rw [h2] at hlt; simpa using hlt)) := Array.getElem?_eq_getElem _
          exact ⟨me, _, (mem' _ _ _).2 ⟨hoe, hre⟩, he2⟩

theorem pickP_some {E : Env} {done : Nat} : ∀ {ps : List Pn} {p : Pn} {rest : List Pn}, pickP E done ps = some (p, rest) → isEff E p.2.2 = false ∧ within p.2.1 done = true ∧ p ∈ ps ∧ (∀ q ∈ ps, q = p ∨ q ∈ rest) ∧ (∀ q ∈ rest, q ∈ ps)
  | [], _, _, h => by cases h
  | q :: r, p, rest, h => by
    simp only [pickP] at h
    cases hc : (!(isEff E q.2.2) && within q.2.1 done) with
    | true =>
      rw [hc, cond_true] at h
      injection h with h
      obtain ⟨rfl, rfl⟩ := Prod.mk.inj h
      simp only [Bool.and_eq_true, Bool.not_eq_true'] at hc
      exact ⟨hc.1, hc.2, by simp, fun x hx => by simpa using hx, fun x hx => List.mem_cons_of_mem _ hx⟩
    | false =>
      rw [hc, cond_false] at h
      split at h
      · cases h
      · rename_i p' r' hp
        injection h with h
        obtain ⟨rfl, rfl⟩ := Prod.mk.inj h
        obtain ⟨h1, h2, h3, h4, h5⟩ := pickP_some hp
        refine ⟨h1, h2, List.mem_cons_of_mem _ h3, fun x hx => ?_, fun x hx => ?_⟩
        · rcases List.mem_cons.1 hx with rfl | hx
          · exact .inr (by simp)
          · exact (h4 x hx).imp id (List.mem_cons_of_mem _)
        · rcases List.mem_cons.1 hx with rfl | hx
          · simp
          · exact List.mem_cons_of_mem _ (h5 x hx)

theorem pickP_none {E : Env} {done : Nat} : ∀ {ps : List Pn}, pickP E done ps = none → ∀ p ∈ ps, within p.2.1 done = true → isEff E p.2.2 = true
  | [], _, p, hp, _ => by cases hp
  | q :: r, h, p, hp, hw => by
    simp only [pickP] at h
    cases hc : (!(isEff E q.2.2) && within q.2.1 done) with
    | true => rw [hc] at h; cases h
    | false =>
      rw [hc, cond_false] at h
      split at h
      · rename_i hn
        rcases List.mem_cons.1 hp with rfl | hp
        · rw [hw] at hc
          simpa using hc
        · exact pickP_none hn p hp hw
      · cases h

theorem pickE_mem {E : Env} {done : Nat} : ∀ {ps : List Pn} {p : Pn}, p ∈ ps → isEff E p.2.2 = true → within p.2.1 done = true → ∃ rest, (p, rest) ∈ pickE E done ps
  | [], p, h, _, _ => by cases h
  | q :: r, p, h, he, hw => by
    simp only [pickE, List.mem_append]
    rcases List.mem_cons.1 h with rfl | h
    · exact ⟨r, .inl (by rw [he, hw]; simp)⟩
    · obtain ⟨rest, hr⟩ := pickE_mem h he hw
      exact ⟨q :: rest, .inr (List.mem_map.2 ⟨_, hr, rfl⟩)⟩

theorem pickE_spec {E : Env} {done : Nat} : ∀ {ps : List Pn} {p : Pn} {rest : List Pn}, (p, rest) ∈ pickE E done ps → isEff E p.2.2 = true ∧ within p.2.1 done = true ∧ p ∈ ps ∧ (∀ q ∈ ps, q = p ∨ q ∈ rest) ∧ (∀ q ∈ rest, q ∈ ps)
  | [], _, _, h => by cases h
  | q :: r, p, rest, h => by
    simp only [pickE, List.mem_append] at h
    rcases h with h | h
    · cases hc : (isEff E q.2.2 && within q.2.1 done) with
      | false => rw [hc] at h; cases h
      | true =>
        rw [hc, cond_true, List.mem_singleton] at h
        obtain ⟨rfl, rfl⟩ := Prod.mk.inj h
        simp only [Bool.and_eq_true] at hc
        exact ⟨hc.1, hc.2, by simp, fun x hx => by simpa using hx, fun x hx => List.mem_cons_of_mem _ hx⟩
    · obtain ⟨⟨p', r'⟩, hm, he⟩ := List.mem_map.1 h
      obtain ⟨rfl, rfl⟩ := Prod.mk.inj he
      obtain ⟨h1, h2, h3, h4, h5⟩ := pickE_spec hm
      refine ⟨h1, h2, List.mem_cons_of_mem _ h3, fun x hx => ?_, fun x hx => ?_⟩
      · rcases List.mem_cons.1 hx with rfl | hx
        · exact .inr (by simp)
        · exact (h4 x hx).imp id (List.mem_cons_of_mem _)
      · rcases List.mem_cons.1 hx with rfl | hx
        · simp
        · exact List.mem_cons_of_mem _ (h5 x hx)
end Go.Ev
