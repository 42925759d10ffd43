/- Regions in a drawn order: what holds on the way. -/
import Derived.Test.YtloblhhnlaaajaaDoorEv21
namespace Go.Ev
open Go

abbrev Dn (listed : Array Bool) (j : Nat) : Prop := listed.getD j false = true

theorem Fr.put_get {fr fr' : Fr} {dst : Option Nat} {v : V} (h : fr.put dst v = some fr') : (∀ t, fr'.ts.get t = if dst = some t then some v else fr.ts.get t) ∧ (∀ d, dst = some d → d < fr.nt) := by
  cases dst with
  | none => simp [Fr.put] at h; subst h; exact ⟨fun t => by simp, fun d h => by cases h⟩
  | some d =>
    simp only [Fr.put] at h
    obtain ⟨hb, h⟩ := bif_some h
    injection h with h; subst h
    refine ⟨fun t => ?_, fun d' h => by injection h with h; subst h; simpa using hb⟩
    simp only [T.get_set]
    by_cases e : t = d
    · subst e; simp
    · rw [if_neg e, if_neg (fun q => e (by injection q with q; exact q.symm))]

structure Inv (E : Env) (ρ : Rho) (ih : Rec) (ops : Array Oper) (ps0 : List Pn) (μ : Mu) (a : Act) (w : World) (listed : Array Bool) (ps : List Pn) (done : Nat) (rd : List (Nat × Oper × V)) (fr : Fr) (h : H) : Prop where
  sz : listed.size = ops.size
  hr : HR E ρ μ h w
  tmps : ∀ t v, fr.ts.get t = some v → (∀ j m o, (j, m, o) ∈ ps0 → Nat.testBit done j = true → ¬ Dn listed j → o.dst ≠ some t) → ∃ X, conc ρ μ v = some X ∧ a.tmps[t]? = some X
  size : a.tmps.size = fr.nt
  defs : DR μ fr.mks a.defers
  sub : ∀ j, Dn listed j → Nat.testBit done j = true
  pend : ∀ j m o, (j, m, o) ∈ ps0 → Nat.testBit done j = true → ¬ Dn listed j → isEff E o = false ∧ ∃ v, (∀ d, o.dst = some d → fr.ts.get d = some v ∧ d < fr.nt) ∧
    ((wantedV fr ops.toList o = some false ∧ v = un) ∨ (wantedV fr ops.toList o = some true ∧ opV E ih fr h o = some [(v, h)] ∧ (isRead E o = true → (j, o, v) ∈ rd)))
  clo : ∀ p ∈ ps0, Dn listed p.1 → ∀ k, Nat.testBit p.2.1 k = true → Dn listed k
  psub : ∀ p ∈ ps, p ∈ ps0 ∧ Nat.testBit done p.1 = false
  pall : ∀ p ∈ ps0, p ∈ ps ∨ Nat.testBit done p.1 = true
  dclo : ∀ p ∈ ps0, Nat.testBit done p.1 = true → ∀ k, Nat.testBit p.2.1 k = true → Nat.testBit done k = true

section
variable {P : Program} {E : Env} {ρ : Rho} {μ : Mu} {ih : Rec} {ops : Array Oper} {ps0 : List Pn}

/-- What is written now is not looked at by what is done. -/
theorem agree_done (S : Stat ops ps0) {a : Act} {w : World} {listed : Array Bool} {ps : List Pn} {done : Nat} {rd : List (Nat × Oper × V)} {fr fr' : Fr} {h : H} (I : Inv E ρ ih ops ps0 μ a w listed ps done rd fr h) {p : Pn} (hp : p ∈ ps) {v : V} (hput : fr.put p.2.2.dst v = some fr')
    {q : Pn} (hq : q ∈ ps0) (hd : Nat.testBit done q.1 = true) : AgreeOn fr' fr (looks ops.toList q.2.2) := by
  intro t ht
  rw [(Fr.put_get hput).1]
  by_cases e : p.2.2.dst = some t
  · have := S.look q p t hq (I.psub p hp).1 e ht
    have := I.dclo q hq hd _ this
    rw [(I.psub p hp).2] at this; cases this
  · rw [if_neg e]

theorem agree_own (S : Stat ops ps0) {a : Act} {w : World} {listed : Array Bool} {ps : List Pn} {done : Nat} {rd : List (Nat × Oper × V)} {fr fr' : Fr} {h : H} (I : Inv E ρ ih ops ps0 μ a w listed ps done rd fr h) {p : Pn} (hp : p ∈ ps) (hw : within p.2.1 done = true) {v : V} (hput : fr.put p.2.2.dst v = some fr') :
    AgreeOn fr' fr (looks ops.toList p.2.2) := by
  intro t ht
  rw [(Fr.put_get hput).1]
  by_cases e : p.2.2.dst = some t
  · have := S.look p p t (I.psub p hp).1 (I.psub p hp).1 e ht
    have := testBit_within hw this
    rw [(I.psub p hp).2] at this; cases this
  · rw [if_neg e]

theorem dst_apart (S : Stat ops ps0) {a : Act} {w : World} {listed : Array Bool} {ps : List Pn} {done : Nat} {rd : List (Nat × Oper × V)} {fr fr' : Fr} {h : H} (I : Inv E ρ ih ops ps0 μ a w listed ps done rd fr h) {p : Pn} (hp : p ∈ ps) {v : V} (hput : fr.put p.2.2.dst v = some fr')
    {q : Pn} (hq : q ∈ ps0) (hd : Nat.testBit done q.1 = true) {d : Nat} (he : q.2.2.dst = some d) : fr'.ts.get d = fr.ts.get d := by
  rw [(Fr.put_get hput).1, if_neg]
  have hne : p.1 ≠ q.1 := by
    intro e
    have := (I.psub p hp).2
    rw [e, hd] at this; cases this
  exact S.dst p q d (I.psub p hp).1 hq hne he

/-- An operation that acts on nothing is done ahead. -/
theorem ahead (S : Stat ops ps0) {a : Act} {w : World} {listed : Array Bool} {ps : List Pn} {done : Nat} {rd : List (Nat × Oper × V)} {fr fr' : Fr} {h : H} (I : Inv E ρ ih ops ps0 μ a w listed ps done rd fr h) {p : Pn} {rest : List Pn} (hpick : pickP E done ps = some (p, rest)) {v : V} (hput : fr.put p.2.2.dst v = some fr')
    {rd' : List (Nat × Oper × V)} (hrd : ∀ x ∈ rd, x ∈ rd') (hv : (wantedV fr ops.toList p.2.2 = some false ∧ v = un) ∨ (wantedV fr ops.toList p.2.2 = some true ∧ opV E ih fr h p.2.2 = some [(v, h)] ∧ (isRead E p.2.2 = true → (p.1, p.2.2, v) ∈ rd'))) (hnd : ∀ q ∈ rest, q.1 ≠ p.1) :
    Inv E ρ ih ops ps0 μ a w listed rest (withBit done p.1) rd' fr' h := by
  obtain ⟨n1, n2, n3, n4, n5⟩ := pickP_some hpick
  obtain ⟨p1, p2, p3, p4⟩ := Fr.put_same hput
  have bit : ∀ {k}, Nat.testBit (withBit done p.1) k = true → Nat.testBit done k = true ∨ k = p.1 := fun hk => by
    rw [testBit_withBit] at hk; simpa using hk
  have bit' : ∀ {k}, Nat.testBit done k = true → Nat.testBit (withBit done p.1) k = true := fun hk => by rw [testBit_withBit, hk]; rfl
  have bitp : Nat.testBit (withBit done p.1) p.1 = true := by rw [testBit_withBit]; simp
  have notlisted : ¬ Dn listed p.1 := fun q => by have := I.sub _ q; rw [(I.psub p n3).2] at this; cases this
  refine ⟨I.sz, I.hr, fun t u hu hpend => ?_, by rw [p1]; exact I.size, by rw [p2]; exact I.defs, fun j hj => bit' (I.sub j hj), fun j m o hj hb hl => ?_, I.clo, fun q hq => ⟨(I.psub q (n5 q hq)).1, ?_⟩, fun q hq => ?_, fun q hq hb k hk => ?_⟩
  · have ht : p.2.2.dst ≠ some t := hpend p.1 p.2.1 p.2.2 (I.psub p n3).1 bitp notlisted
    rw [(Fr.put_get hput).1, if_neg ht] at hu
    exact I.tmps t u hu fun j m o hj hb hl => hpend j m o hj (bit' hb) hl
  · rcases bit hb with hb | rfl
    · obtain ⟨q1, u, q2, q3⟩ := I.pend j m o hj hb hl
      have ag := agree_done S I n3 hput (q := (j, m, o)) hj hb
      refine ⟨q1, u, fun d hd => ?_, ?_⟩
      · rw [dst_apart S I n3 hput (q := (j, m, o)) hj hb hd, p1]; exact q2 d hd
      · rcases q3 with ⟨q3, q4⟩ | ⟨q3, q4, q5⟩
        · exact .inl ⟨by rw [wantedV_congr ag]; exact q3, q4⟩
        · exact .inr ⟨by rw [wantedV_congr ag]; exact q3, by rw [opV_congr (looks_opds ag)]; exact q4, fun r => hrd _ (q5 r)⟩
    · obtain ⟨rfl, rfl⟩ := S.one _ _ _ _ _ hj (I.psub p n3).1
      have ag := agree_own S I n3 n2 hput
      refine ⟨n1, v, fun d hd => ?_, ?_⟩
      · rw [(Fr.put_get hput).1, if_pos hd, p1]; exact ⟨rfl, (Fr.put_get hput).2 d hd⟩
      · rcases hv with ⟨q3, q4⟩ | ⟨q3, q4, q5⟩
        · exact .inl ⟨by rw [wantedV_congr ag]; exact q3, q4⟩
        · exact .inr ⟨by rw [wantedV_congr ag]; exact q3, by rw [opV_congr (looks_opds ag)]; exact q4, q5⟩
  · rw [testBit_withBit, (I.psub q (n5 q hq)).2]
    simp [hnd q hq]
  · rcases I.pall q hq with q1 | q1
    · rcases n4 q q1 with rfl | q1
      · exact .inr bitp
      · exact .inl q1
    · exact .inr (bit' q1)
  · rcases bit hb with hb | hb
    · exact bit' (I.dclo q hq hb k hk)
    · have hpm : q.2.1 = p.2.1 := by
        obtain ⟨qi, qm, qo⟩ := q
        obtain ⟨pi, pm, po⟩ := p
        simp only at hb
        subst hb
        exact (S.one _ _ _ _ _ hq (I.psub _ n3).1).1
      rw [hpm] at hk
      exact bit' (testBit_within n2 hk)

def delL (ts : T V) : List Nat → T V
  | [] => ts
  | d :: r => (delL ts r).del d
theorem delL_get {ts : T V} : ∀ (l : List Nat) (t : Nat), (delL ts l).get t = if t ∈ l then none else ts.get t
  | [], t => by simp [delL]
  | d :: r, t => by
    simp only [delL, T.get_del, delL_get r t, List.mem_cons]
    by_cases h : t = d
    · simp [h]
    · simp [h]

/-- The frame without what the machine has not done yet. -/
theorem real_frame {a : Act} {w : World} {listed : Array Bool} {ps : List Pn} {done : Nat} {rd : List (Nat × Oper × V)} {fr : Fr} {h : H} (I : Inv E ρ ih ops ps0 μ a w listed ps done rd fr h) :
    ∃ frr, FR ρ μ frr a ∧ frr.nt = fr.nt ∧ frr.mks = fr.mks ∧ frr.fn = fr.fn ∧ frr.rnd = fr.rnd ∧ ∀ t, (∀ j m o, (j, m, o) ∈ ps0 → Nat.testBit done j = true → ¬ Dn listed j → o.dst ≠ some t) → frr.ts.get t = fr.ts.get t := by
  let L := ps0.filterMap fun p => if Nat.testBit done p.1 = true ∧ ¬ Dn listed p.1 then p.2.2.dst else none
  have hL : ∀ t, t ∈ L ↔ ∃ j m o, (j, m, o) ∈ ps0 ∧ Nat.testBit done j = true ∧ ¬ Dn listed j ∧ o.dst = some t := by
    intro t
    simp only [L, List.mem_filterMap]
    constructor
    · rintro ⟨⟨j, m, o⟩, hp, hc⟩
      split at hc
      · rename_i hcond; exact ⟨j, m, o, hp, hcond.1, hcond.2, hc⟩
      · cases hc
    · rintro ⟨j, m, o, hp, h1, h2, h3⟩
      exact ⟨(j, m, o), hp, by rw [if_pos ⟨h1, h2⟩]; exact h3⟩
  refine ⟨{ fr with ts := delL fr.ts L }, ⟨fun t v hv => ?_, I.size, I.defs⟩, rfl, rfl, rfl, rfl, fun t ht => ?_⟩
  · simp only [delL_get] at hv
    split at hv
    · cases hv
    · rename_i hn
      exact I.tmps t v hv fun j m o hj hb hl he => hn ((hL t).2 ⟨j, m, o, hj, hb, hl, he⟩)
  · simp only [delL_get]
    rw [if_neg]
    rw [hL]
    rintro ⟨j, m, o, hj, hb, hl, he⟩
    exact ht j m o hj hb hl he

theorem getD_both {l : Array Bool} {i : Nat} (h : l.getD i false = true) : l.getD i true = true := by
  unfold Array.getD at h ⊢
  split at h
  · rename_i hi; rw [dif_pos hi]; exact h
  · cases h

/-- What stands ahead of what is ready is done. -/
theorem ready_closed (S : Stat ops ps0) {listed : Array Bool} (hclo : ∀ p ∈ ps0, Dn listed p.1 → ∀ k, Nat.testBit p.2.1 k = true → Dn listed k) {p : Pn} (hp : p ∈ ps0) (hr : p.1 ∈ Region.ready .any ops listed) : ¬ Dn listed p.1 ∧ ∀ k, Nat.testBit p.2.1 k = true → Dn listed k := by
  obtain ⟨h0, o, ho, hall⟩ := mem_ready.1 hr
  have hop := S.op p.1 p.2.1 p.2.2 hp
  rw [ho] at hop; injection hop with hop; subst hop
  refine ⟨fun q => ?_, fun k hk => ?_⟩
  · unfold Dn at q
    rw [getD_both q] at h0; cases h0
  · obtain ⟨e, he, hb, h⟩ := S.bits p hp k hk
    have hd := hall e he hb
    rcases h with rfl | ⟨m, o, hm, hk'⟩
    · exact hd
    · exact hclo _ hm hd k hk'

theorem dn_set {listed : Array Bool} {i j : Nat} (hi : i < listed.size) : Dn (listed.setIfInBounds i true) j ↔ j = i ∨ Dn listed j := by
  unfold Dn
  by_cases h : i = j
  · subst h; simp [hi]
  · rw [getD_set_ne false h]
    constructor
    · exact .inr
    · rintro (q | q)
      · exact absurd q.symm h
      · exact q

theorem put_tmps {a : Act} {dst : Option Nat} {X : Value} {t : Nat} (h : dst ≠ some t) : (a.put dst X).tmps[t]? = a.tmps[t]? := by
  cases dst with
  | none => rfl
  | some d =>
    have : d ≠ t := fun e => h (by rw [e])
    simp [Act.put, Array.getElem?_setIfInBounds_ne this]
theorem put_here {a : Act} {d : Nat} {X : Value} (h : d < a.tmps.size) : (a.put (some d) X).tmps[d]? = some X := by
  simp [Act.put, h]
theorem put_size {a : Act} {dst : Option Nat} {X : Value} : (a.put dst X).tmps.size = a.tmps.size := by cases dst <;> simp [Act.put]
theorem put_defers {a : Act} {dst : Option Nat} {X : Value} : (a.put dst X).defers = a.defers := by cases dst <;> rfl

/-- What was done ahead is done. -/
theorem follow_step (hE : EnvOk P E) (hp : Plain ρ) (ok : RecOk P E ρ ih) (S : Stat ops ps0) {a : Act} {w : World} {listed : Array Bool} {ps : List Pn} {done : Nat} {rd : List (Nat × Oper × V)} {fr : Fr} {h : H} (I : Inv E ρ ih ops ps0 μ a w listed ps done rd fr h)
    {i : Nat} (hr : i ∈ Region.ready .any ops listed) (hd : Nat.testBit done i = true) (b : Fb) :
    ∃ μ' a' w', Grows μ w μ' w' ∧ Inv E ρ ih ops ps0 μ' a' w' (listed.setIfInBounds i true) ps done rd fr h ∧
      ∀ k cs rest, Steps P (lone (FrR b a (.inRegion ops (i :: rest) :: k)) cs w) (lone (FrR b a' (.inRegion ops rest :: k)) cs w') := by
  obtain ⟨h0, o, ho, hall⟩ := mem_ready.1 hr
  obtain ⟨m, hmem⟩ := S.mem i o ho
  obtain ⟨r1, r2⟩ := ready_closed S I.clo hmem hr
  have hi : i < listed.size := by rw [I.sz]; exact (Array.getElem?_eq_some_iff.1 ho).1
  obtain ⟨e1, v, e2, e3⟩ := I.pend i m o hmem hd r1
  obtain ⟨frr, f1, f2, f3, f4, f5, f6⟩ := real_frame I
  have ag : AgreeOn frr fr (looks ops.toList o) := fun t ht => f6 t fun j m' o' hj hb hl he => by
    have := S.look (i, m, o) (j, m', o') t hmem hj he ht
    exact hl (r2 j this)
  -- the machine's state behind it
  have fin : ∀ μ' w' X, Grows μ w μ' w' → HR E ρ μ' h w' → conc ρ μ' v = some X → Inv E ρ ih ops ps0 μ' (a.put o.dst X) w' (listed.setIfInBounds i true) ps done rd fr h := by
    intro μ' w' X g1 g2 g3
    refine ⟨by simpa using I.sz, g2, fun t u hu hpend => ?_, by rw [put_size]; exact I.size, by rw [put_defers]; exact I.defs.le g1.le, fun j hj => ?_, fun j m' o' hj hb hl => ?_, fun p hp' hl k' hk => ?_, I.psub, I.pall, I.dclo⟩
    · by_cases ht : o.dst = some t
      · obtain ⟨e4, e5⟩ := e2 t ht
        rw [hu] at e4; injection e4 with e4; subst e4
        exact ⟨X, g3, by rw [ht]; exact put_here (by rw [I.size]; exact e5)⟩
      · obtain ⟨Y, y1, y2⟩ := I.tmps t u hu fun j m' o' hj hb hl he => by
          by_cases hji : j = i
          · subst hji
            obtain ⟨_, rfl⟩ := S.one _ _ _ _ _ hj hmem
            exact ht he
          · exact hpend j m' o' hj hb (fun q => (by
              rcases (dn_set hi).1 q with q | q
              · exact hji q
              · exact hl q)) he
        exact ⟨Y, conc_le g1.le _ _ y1, by rw [put_tmps ht]; exact y2⟩
    · rcases (dn_set hi).1 hj with rfl | hj
      · exact hd
      · exact I.sub j hj
    · exact I.pend j m' o' hj hb fun q => hl ((dn_set hi).2 (.inr q))
    · rcases (dn_set hi).1 hl with hl | hl
      · obtain ⟨pi, pm, po⟩ := p
        simp only at hl; subst hl
        obtain ⟨rfl, rfl⟩ := S.one _ _ _ _ _ hp' hmem
        exact (dn_set hi).2 (.inr (r2 k' hk))
      · exact (dn_set hi).2 (.inr (I.clo p hp' hl k' hk))
  rcases e3 with ⟨q1, rfl⟩ | ⟨q1, q2, _⟩
  · refine ⟨μ, a.put o.dst undef, w, Grows.refl _ _, fin μ w undef (Grows.refl _ _) I.hr (by simp [un, conc, concL, undef]), fun k cs rest => .one ?_⟩
    have := st_op_skip (P := P) (b := b) (a := a) (k := k) (cs := cs) (w := w) (ops := ops) (i := i) (rest := rest) (by
      rw [ho]
      have := wanted_sound f1 (by rw [wantedV_congr ag]; exact q1)
      simpa using this)
    rw [ho] at this
    exact this
  · have hv : opV E ih frr h o = some [(v, h)] := by rw [opV_congr (looks_opds ag)]; exact q2
    obtain ⟨v', h', hm, μ', X, w', g1, g2, g3, g4⟩ := opV_sound hE hp ok f1 I.hr hv
    rw [List.mem_singleton] at hm
    obtain ⟨rfl, rfl⟩ := Prod.mk.inj hm
    exact ⟨μ', _, w', g1, fin μ' w' X g1 g2 g3, fun k cs rest => does_step ho (wanted_sound f1 (by rw [wantedV_congr ag]; exact q1)) (opV_defer hv) g4⟩

theorem stands_mem {m : Nat} {fr : Fr} {h : H} : ∀ {rd : List (Nat × Oper × V)}, stands E ih m fr h rd = true → ∀ k o v, (k, o, v) ∈ rd → Nat.testBit m k = true ∨ readOk E ih v fr o h = true
  | [], _, k, o, v, hm => by cases hm
  | (k', o', v') :: r, hs, k, o, v, hm => by
    simp only [stands, Bool.and_eq_true] at hs
    rcases List.mem_cons.1 hm with e | hm
    · injection e with e1 e
      injection e with e2 e3
      rw [e1, e2, e3]
      simpa using hs.1
    · exact stands_mem hs.2 k o v hm

theorem cls_cases (o : Oper) : isEff E o = true ∨ clsOf E o = .pure ∨ (clsOf E o = .read ∧ isRead E o = true) := by
  unfold isEff isRead
  cases clsOf E o <;> simp

/-- An operation that acts is done. -/
theorem act_step (hE : EnvOk P E) (hp : Plain ρ) (ok : RecOk P E ρ ih) (S : Stat ops ps0) {a : Act} {w : World} {listed : Array Bool} {ps : List Pn} {done : Nat} {rd : List (Nat × Oper × V)} {fr : Fr} {h : H} (I : Inv E ρ ih ops ps0 μ a w listed ps done rd fr h)
    {p : Pn} {rest : List Pn} (hr : p.1 ∈ Region.ready .any ops listed) (hps : p ∈ ps) (hall : ∀ q ∈ ps, q = p ∨ q ∈ rest) (hsub : ∀ q ∈ rest, q ∈ ps) (hnd : ∀ q ∈ rest, q.1 ≠ p.1) (b : Fb)
    {n : Nat} {outs : List (Fr × H)} (hrun : (match wantedV fr ops.toList p.2.2 with
      | none => none
      | some false => (match fr.put p.2.2.dst un with
        | some fr' => opsD E ih ops.toList n rest (withBit done p.1) rd fr' h
        | none => none)
      | some true => rbind (opV E ih fr h p.2.2) fun y => bif stands E ih p.2.1 fr y.2 rd then (match fr.put p.2.2.dst y.1 with
        | some fr' => opsD E ih ops.toList n rest (withBit done p.1) rd fr' y.2
        | none => none) else none) = some outs) :
    ∃ outs' fr' h', opsD E ih ops.toList n rest (withBit done p.1) rd fr' h' = some outs' ∧ (∀ x ∈ outs', x ∈ outs) ∧ fr'.fn = fr.fn ∧ fr'.rnd = fr.rnd ∧ fr'.nt = fr.nt ∧
    ∃ μ' a' w', Grows μ w μ' w' ∧ Inv E ρ ih ops ps0 μ' a' w' (listed.setIfInBounds p.1 true) rest (withBit done p.1) rd fr' h' ∧
      ∀ k cs rs, Steps P (lone (FrR b a (.inRegion ops (p.1 :: rs) :: k)) cs w) (lone (FrR b a' (.inRegion ops rs :: k)) cs w') := by
  have hmem := (I.psub p hps).1
  have ho := S.op p.1 p.2.1 p.2.2 hmem
  obtain ⟨r1, r2⟩ := ready_closed S I.clo hmem hr
  have hi : p.1 < listed.size := by rw [I.sz]; exact (Array.getElem?_eq_some_iff.1 ho).1
  have hw : within p.2.1 done = true := within_of fun k hk => I.sub k (r2 k hk)
  obtain ⟨frr, f1, f2, f3, f4, f5, f6⟩ := real_frame I
  have ag : AgreeOn frr fr (looks ops.toList p.2.2) := fun t ht => f6 t fun j m' o' hj hb hl he => by
    have := S.look p (j, m', o') t hmem hj he ht
    exact hl (r2 j this)
  have bit : ∀ {k}, Nat.testBit (withBit done p.1) k = true → Nat.testBit done k = true ∨ k = p.1 := fun hk => by
    rw [testBit_withBit] at hk; simpa using hk
  have bit' : ∀ {k}, Nat.testBit done k = true → Nat.testBit (withBit done p.1) k = true := fun hk => by rw [testBit_withBit, hk]; rfl
  have bitp : Nat.testBit (withBit done p.1) p.1 = true := by rw [testBit_withBit]; simp
  have fin : ∀ μ' w' X v fr' h', fr.put p.2.2.dst v = some fr' → Grows μ w μ' w' → HR E ρ μ' h' w' → conc ρ μ' v = some X → (h' = h ∨ stands E ih p.2.1 fr h' rd = true) →
      Inv E ρ ih ops ps0 μ' (a.put p.2.2.dst X) w' (listed.setIfInBounds p.1 true) rest (withBit done p.1) rd fr' h' := by
    intro μ' w' X v fr' h' hput g1 g2 g3 hst
    obtain ⟨p1, p2, p3, p4⟩ := Fr.put_same hput
    refine ⟨by simpa using I.sz, g2, fun t u hu hpend => ?_, by rw [put_size, p1]; exact I.size, by rw [put_defers, p2]; exact I.defs.le g1.le, fun j hj => ?_, fun j m o hj hb hl => ?_, fun q hq hl k' hk => ?_, fun q hq => ⟨(I.psub q (hsub q hq)).1, ?_⟩, fun q hq => ?_, fun q hq hb k' hk => ?_⟩
    · rw [(Fr.put_get hput).1] at hu
      by_cases ht : p.2.2.dst = some t
      · rw [if_pos ht] at hu; injection hu with hu; subst hu
        exact ⟨X, g3, by rw [ht]; exact put_here (by rw [I.size]; exact (Fr.put_get hput).2 t ht)⟩
      · rw [if_neg ht] at hu
        obtain ⟨Y, y1, y2⟩ := I.tmps t u hu fun j m o hj hb hl => hpend j m o hj (bit' hb) (fun q => by
          rcases (dn_set hi).1 q with rfl | q
          · rw [(I.psub p hps).2] at hb; cases hb
          · exact hl q)
        exact ⟨Y, conc_le g1.le _ _ y1, by rw [put_tmps ht]; exact y2⟩
    · rcases (dn_set hi).1 hj with rfl | hj
      · exact bitp
      · exact bit' (I.sub j hj)
    · have hl' : ¬ Dn listed j := fun q => hl ((dn_set hi).2 (.inr q))
      have hji : j ≠ p.1 := fun q => hl ((dn_set hi).2 (.inl q))
      have hb' := (bit hb).resolve_right hji
      obtain ⟨q1, u, q2, q3⟩ := I.pend j m o hj hb' hl'
      have agd := agree_done S I hps hput (q := (j, m, o)) hj hb'
      refine ⟨q1, u, fun d hd => ?_, ?_⟩
      · rw [dst_apart S I hps hput (q := (j, m, o)) hj hb' hd, p1]; exact q2 d hd
      · rcases q3 with ⟨q3, q4⟩ | ⟨q3, q4, q5⟩
        · exact .inl ⟨by rw [wantedV_congr agd]; exact q3, q4⟩
        · refine .inr ⟨by rw [wantedV_congr agd]; exact q3, ?_, q5⟩
          rw [opV_congr (looks_opds agd)]
          rcases hst with rfl | hst
          · exact q4
          · rcases cls_cases (E := E) o with hc | hc | ⟨hc, hc2⟩
            · rw [q1] at hc; cases hc
            · obtain ⟨v', e1, e2⟩ := opV_pure hc q4
              have : v' = u := by injection e1 with e1; exact (Prod.mk.inj e1).1.symm
              rw [← this]; exact e2 h'
            · rcases stands_mem hst j o u (q5 hc2) with hbit | hrk
              · exact absurd (r2 j hbit) hl'
              · unfold readOk at hrk
                split at hrk
                · rename_i v' h2 hv'
                  have := V.beq_eq _ _ hrk
                  subst this
                  obtain ⟨v2, e2⟩ := opV_read hc hv'
                  injection e2 with e2
                  obtain ⟨rfl, rfl⟩ := Prod.mk.inj e2
                  exact hv'
                · cases hrk
    · rcases (dn_set hi).1 hl with hl | hl
      · have : q.2.1 = p.2.1 := by
          obtain ⟨qi, qm, qo⟩ := q
          obtain ⟨pi, pm, po⟩ := p
          simp only at hl; subst hl
          exact (S.one _ _ _ _ _ hq hmem).1
        rw [this] at hk
        exact (dn_set hi).2 (.inr (r2 k' hk))
      · exact (dn_set hi).2 (.inr (I.clo q hq hl k' hk))
    · rw [testBit_withBit, (I.psub q (hsub q hq)).2]
      simp [hnd q hq]
    · rcases I.pall q hq with q1 | q1
      · rcases hall q q1 with rfl | q1
        · exact .inr bitp
        · exact .inl q1
      · exact .inr (bit' q1)
    · rcases bit hb with hb | hb
      · exact bit' (I.dclo q hq hb k' hk)
      · have : q.2.1 = p.2.1 := by
          obtain ⟨qi, qm, qo⟩ := q
          obtain ⟨pi, pm, po⟩ := p
          simp only at hb; subst hb
          exact (S.one _ _ _ _ _ hq hmem).1
        rw [this] at hk
        exact bit' (testBit_within hw hk)
  split at hrun
  · cases hrun
  · rename_i hwant
    split at hrun
    · rename_i fr' hput
      obtain ⟨p1, p2, p3, p4⟩ := Fr.put_same hput
      refine ⟨outs, fr', h, hrun, fun x hx => hx, p3, p4, p1, μ, a.put p.2.2.dst undef, w, Grows.refl _ _, fin μ w undef un fr' h hput (Grows.refl _ _) I.hr (by simp [un, conc, concL, undef]) (.inl rfl), fun k cs rs => .one ?_⟩
      have := st_op_skip (P := P) (b := b) (a := a) (k := k) (cs := cs) (w := w) (ops := ops) (i := p.1) (rest := rs) (by
        rw [ho]
        have := wanted_sound f1 (by rw [wantedV_congr ag]; exact hwant)
        simpa using this)
      rw [ho] at this
      exact this
    · cases hrun
  · rename_i hwant
    obtain ⟨l, hl, hcont⟩ := rbind_some hrun
    have hv : opV E ih frr h p.2.2 = some l := by rw [opV_congr (looks_opds ag)]; exact hl
    obtain ⟨v', h', hm, μ', X, w', g1, g2, g3, g4⟩ := opV_sound hE hp ok f1 I.hr hv
    obtain ⟨o1, hc, hsub'⟩ := hcont _ hm
    simp only at hc
    obtain ⟨hst, hc⟩ := bif_some hc
    split at hc
    · rename_i fr' hput
      obtain ⟨p1, p2, p3, p4⟩ := Fr.put_same hput
      exact ⟨o1, fr', h', hc, hsub', p3, p4, p1, μ', _, w', g1, fin μ' w' X v' fr' h' hput g1 g2 g3 (.inr hst), fun k cs rs => does_step ho (wanted_sound f1 (by rw [wantedV_congr ag]; exact hwant)) (opV_defer hv) g4⟩
    · cases hc
end
end Go.Ev
