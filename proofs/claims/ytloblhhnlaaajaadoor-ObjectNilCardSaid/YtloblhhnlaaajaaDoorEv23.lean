/- Regions in a drawn order: all of it. -/
import Derived.Test.YtloblhhnlaaajaaDoorEv22
namespace Go.Ev
open Go

theorem pickP_perm {E : Env} {done : Nat} : ∀ {ps : List Pn} {p : Pn} {rest : List Pn}, pickP E done ps = some (p, rest) → ps.Perm (p :: rest)
  | [], _, _, h => by cases h
  | q :: r, p, rest, h => by
    simp only [pickP] at h
    cases hc : (!(isEff E q.2.2) && within q.2.1 done) with
    | true =>
      rw [hc, cond_true] at h
      injection h with h
      obtain ⟨rfl, rfl⟩ := Prod.mk.inj h
      exact List.Perm.refl _
    | false =>
      rw [hc, cond_false] at h
      split at h
      · cases h
      · rename_i p' r' hp
        injection h with h
        obtain ⟨rfl, rfl⟩ := Prod.mk.inj h
        exact ((pickP_perm hp).cons q).trans (List.Perm.swap _ _ _)

theorem pickE_perm {E : Env} {done : Nat} : ∀ {ps : List Pn} {p : Pn} {rest : List Pn}, (p, rest) ∈ pickE E done ps → ps.Perm (p :: rest)
  | [], _, _, h => by cases h
  | q :: r, p, rest, h => by
    simp only [pickE, List.mem_append] at h
    rcases h with h | h
    · cases hc : (isEff E q.2.2 && within q.2.1 done) with
      | false => rw [hc] at h; cases h
      | true =>
        rw [hc, cond_true, List.mem_singleton] at h
        obtain ⟨rfl, rfl⟩ := Prod.mk.inj h
        exact List.Perm.refl _
    · obtain ⟨⟨p', r'⟩, hm, he⟩ := List.mem_map.1 h
      obtain ⟨rfl, rfl⟩ := Prod.mk.inj he
      exact ((pickE_perm hm).cons q).trans (List.Perm.swap _ _ _)

theorem nodup_of_perm {ps rest : List Pn} {p : Pn} (h : ps.Perm (p :: rest)) (hn : (ps.map (·.1)).Nodup) : (rest.map (·.1)).Nodup ∧ ∀ q ∈ rest, q.1 ≠ p.1 := by
  have := (h.map (·.1)).nodup_iff.1 hn
  rw [List.map_cons, List.nodup_cons] at this
  exact ⟨this.2, fun q hq e => this.1 (List.mem_map.2 ⟨q, hq, e⟩)⟩

/-- How many are left. -/
def leftN (listed : Array Bool) (n : Nat) : Nat := ((List.range n).filter fun j => !listed.getD j false).length

theorem leftN_zero {listed : Array Bool} {n : Nat} (h : leftN listed n = 0) (j : Nat) (hj : j < n) : Dn listed j := by
  unfold leftN at h
  have h2 := List.eq_nil_of_length_eq_zero h
  rw [List.filter_eq_nil_iff] at h2
  have := h2 j (List.mem_range.2 hj)
  cases hd : listed.getD j false with
  | true => exact hd
  | false => rw [hd] at this; exact absurd rfl this

theorem filter_lt {α : Type} {p q : α → Bool} : ∀ {l : List α}, (∀ x ∈ l, q x = true → p x = true) → (∃ x ∈ l, p x = true ∧ q x = false) → (l.filter q).length < (l.filter p).length
  | [], _, h => by obtain ⟨x, hx, _⟩ := h; cases hx
  | x :: l, hpq, h => by
    have hle : (l.filter q).length ≤ (l.filter p).length := by
      clear h
      induction l with
      | nil => simp
      | cons y l ih =>
        have := ih (fun z hz => hpq z (by
          rcases List.mem_cons.1 hz with rfl | hz
          · simp
          · exact List.mem_cons_of_mem _ (List.mem_cons_of_mem _ hz)))
        have hy := hpq y (by simp)
        simp only [List.filter_cons]
        cases hq : q y with
        | true => rw [hy hq]; simpa using this
        | false => cases hp : p y <;> simp <;> omega
    simp only [List.filter_cons]
    obtain ⟨y, hy, h1, h2⟩ := h
    rcases List.mem_cons.1 hy with rfl | hy
    · rw [h1, h2]
      simp; omega
    · have := filter_lt (l := l) (fun z hz => hpq z (List.mem_cons_of_mem _ hz)) ⟨y, hy, h1, h2⟩
      have hx := hpq x (by simp)
      cases hq : q x with
      | true => rw [hx hq]; simpa using this
      | false => cases hp : p x <;> simp <;> omega

theorem leftN_set {listed : Array Bool} {n i : Nat} (hi : i < n) (hs : listed.size = n) (hl : ¬ Dn listed i) : leftN (listed.setIfInBounds i true) n < leftN listed n := by
  unfold leftN
  refine filter_lt (fun j _ hj => ?_) ⟨i, List.mem_range.2 hi, by cases hd : listed.getD i false with | false => rfl | true => exact absurd hd hl, ?_⟩
  · by_cases h : i = j
    · subst h; simp [hs, hi] at hj
    · rw [getD_set_ne false h] at hj; exact hj
  · have : Dn (listed.setIfInBounds i true) i := (dn_set (by omega)).2 (.inl rfl)
    simpa using this

section
variable {P : Program} {E : Env} {ρ : Rho} {ih : Rec} {ops : Array Oper} {ps0 : List Pn}

/-- Nothing is ready: all is done. -/
theorem all_done (S : Stat ops ps0) {listed : Array Bool} (hs : listed.size = ops.size) (hr : Region.ready .any ops listed = []) : ∀ (n j : Nat), j < n → j < ops.size → Dn listed j
  | 0, j, h, _ => by omega
  | n + 1, j, h, hj => by
    rcases Nat.lt_or_ge j n with h' | h'
    · exact all_done S hs hr n j h' hj
    · cases hd : listed.getD j false with
      | true => exact hd
      | false =>
        exfalso
        have ho : ops[j]? = some ops[j] := Array.getElem?_eq_getElem hj
        obtain ⟨m, hm⟩ := S.mem j _ ho
        have : j ∈ Region.ready .any ops listed := by
          rw [mem_ready]
          refine ⟨?_, _, ho, fun e he hb => ?_⟩
          · have hjl : j < listed.size := by omega
            unfold Array.getD at hd ⊢
            rw [dif_pos hjl] at hd ⊢
            exact hd
          · have := S.back _ hm e he hb
            simp only at this
            exact all_done S hs hr n e.on (by omega) (by omega)
        rw [hr] at this; cases this

theorem opsD_sound (hE : EnvOk P E) (hp : Plain ρ) (ok : RecOk P E ρ ih) (S : Stat ops ps0) : ∀ (s n fuel t : Nat), n + fuel ≤ s → ∀ (μ : Mu) (a : Act) (w : World) (listed : Array Bool) (ps : List Pn) (done : Nat) (rd : List (Nat × Oper × V)) (fr : Fr) (h : H) (outs : List (Fr × H)),
    Inv E ρ ih ops ps0 μ a w listed ps done rd fr h → (ps.map (·.1)).Nodup → leftN listed ops.size ≤ fuel → opsD E ih ops.toList n ps done rd fr h = some outs → ∀ (b : Fb),
    ∃ fr' h', (fr', h') ∈ outs ∧ ∃ μ' a' w', Grows μ w μ' w' ∧ HR E ρ μ' h' w' ∧ FR ρ μ' fr' a' ∧ fr'.fn = fr.fn ∧ fr'.rnd = fr.rnd ∧ fr'.nt = fr.nt ∧
      ∀ k cs, Steps P (lone (FrR b a (.inRegion ops (Region.linearise.go .any ops fuel t listed []) :: k)) cs w) (lone (FrR b a' k) cs w') := by
  intro s
  induction s with
  | zero =>
    intro n fuel t hs μ a w listed ps done rd fr h outs I hnd hleft hrun b
    have hf : fuel = 0 := by omega
    have hn : n = 0 := by omega
    subst hf hn
    -- all is done
    have hall : ∀ j, j < ops.size → Dn listed j := fun j hj => leftN_zero (by omega) j hj
    have hps : ps = [] := by
      cases ps with
      | nil => rfl
      | cons p r =>
        obtain ⟨h1, h2⟩ := I.psub p (by simp)
        have ho := S.op _ _ _ h1
        have := I.sub _ (hall p.1 (Array.getElem?_eq_some_iff.1 ho).1)
        rw [h2] at this; cases this
    subst hps
    simp only [opsD] at hrun
    obtain rfl := rone_some hrun
    refine ⟨fr, h, List.mem_singleton.2 rfl, μ, a, w, Grows.refl _ _, I.hr, ⟨fun t' v hv => I.tmps t' v hv fun j m o hj hb hl => ?_, I.size, I.defs⟩, rfl, rfl, rfl, fun _ _ => .one st_region_end⟩
    have ho := S.op _ _ _ hj
    exact absurd (hall j (Array.getElem?_eq_some_iff.1 ho).1) hl
  | succ s IH =>
    intro n fuel t hs μ a w listed ps done rd fr h outs I hnd hleft hrun b
    -- the evaluator goes ahead, or the machine does
    cases hpick : pickP E done ps with
    | some x =>
      obtain ⟨p, rest⟩ := x
      have hperm := pickP_perm hpick
      obtain ⟨hn1, hn2⟩ := nodup_of_perm hperm hnd
      have hne : ps ≠ [] := by rintro rfl; cases hpick
      cases n with
      | zero =>
        cases ps with
        | nil => exact absurd rfl hne
        | cons q r => simp [opsD] at hrun
      | succ n =>
        cases ps with
        | nil => exact absurd rfl hne
        | cons q r =>
        simp only [opsD, hpick] at hrun
        split at hrun
        · cases hrun
        · rename_i hw
          split at hrun
          · rename_i fr1 hput
            obtain ⟨p1, p2, p3, p4⟩ := Fr.put_same hput
            obtain ⟨fr', h', hm, μ', a', w', g1, g2, g3, g4, g5, g6, g7⟩ := IH n fuel t (by omega) μ a w listed rest _ rd fr1 h outs (ahead S I hpick hput (fun x hx => hx) (.inl ⟨hw, rfl⟩) hn2) hn1 hleft hrun b
            exact ⟨fr', h', hm, μ', a', w', g1, g2, g3, g4.trans p3, g5.trans p4, g6.trans p1, g7⟩
          · cases hrun
        · rename_i hw
          split at hrun
          · rename_i v h2 hv
            have hheap : opV E ih fr h p.2.2 = some [(v, h)] := by
              rcases cls_cases (E := E) p.2.2 with hc | hc | ⟨hc, _⟩
              · rw [(pickP_some hpick).1] at hc; cases hc
              · obtain ⟨v', e1, _⟩ := opV_pure hc hv
                injection e1 with e1
                obtain ⟨rfl, rfl⟩ := Prod.mk.inj e1
                exact hv
              · obtain ⟨v', e1⟩ := opV_read hc hv
                injection e1 with e1
                obtain ⟨rfl, rfl⟩ := Prod.mk.inj e1
                exact hv
            split at hrun
            · rename_i fr1 hput
              obtain ⟨p1, p2, p3, p4⟩ := Fr.put_same hput
              obtain ⟨fr', h', hm, μ', a', w', g1, g2, g3, g4, g5, g6, g7⟩ := IH n fuel t (by omega) μ a w listed rest _ _ fr1 h outs
                (ahead S I hpick hput (rd' := bif isRead E p.2.2 then (p.1, p.2.2, v) :: rd else rd) (fun x hx => by cases isRead E p.2.2 <;> simp [hx]) (.inr ⟨hw, hheap, fun hr => by rw [hr]; simp⟩) hn2) hn1 hleft hrun b
              exact ⟨fr', h', hm, μ', a', w', g1, g2, g3, g4.trans p3, g5.trans p4, g6.trans p1, g7⟩
            · cases hrun
          · cases hrun
    | none =>
      have done' : (∀ j, j < ops.size → Dn listed j) → Region.linearise.go .any ops fuel t listed [] = [] → ∃ fr' h', (fr', h') ∈ outs ∧ ∃ μ' a' w', Grows μ w μ' w' ∧ HR E ρ μ' h' w' ∧ FR ρ μ' fr' a' ∧ fr'.fn = fr.fn ∧ fr'.rnd = fr.rnd ∧ fr'.nt = fr.nt ∧
          ∀ k cs, Steps P (lone (FrR b a (.inRegion ops (Region.linearise.go .any ops fuel t listed []) :: k)) cs w) (lone (FrR b a' k) cs w') := by
        intro hall hnil
        have hps : ps = [] := by
          cases ps with
          | nil => rfl
          | cons p r =>
            obtain ⟨h1, h2⟩ := I.psub p (by simp)
            have ho := S.op _ _ _ h1
            have := I.sub _ (hall p.1 (Array.getElem?_eq_some_iff.1 ho).1)
            rw [h2] at this; cases this
        subst hps
        have hrun' : rone (fr, h) = some outs := by cases n <;> exact hrun
        obtain rfl := rone_some hrun'
        rw [hnil]
        refine ⟨fr, h, List.mem_singleton.2 rfl, μ, a, w, Grows.refl _ _, I.hr, ⟨fun t' v hv => I.tmps t' v hv fun j m o hj hb hl => ?_, I.size, I.defs⟩, rfl, rfl, rfl, fun _ _ => .one st_region_end⟩
        have ho := S.op _ _ _ hj
        exact absurd (hall j (Array.getElem?_eq_some_iff.1 ho).1) hl
      cases fuel with
      | zero => exact done' (fun j hj => leftN_zero (by omega) j hj) rfl
      | succ fuel =>
        cases hi : (Region.ready .any ops listed)[t % (Region.ready .any ops listed).length]? with
        | none =>
          have hnil : Region.ready .any ops listed = [] := by
            cases hr : Region.ready .any ops listed with
            | nil => rfl
            | cons x xs =>
              rw [hr] at hi
              have hlt : t % (x :: xs).length < (x :: xs).length := Nat.mod_lt _ (by simp)
              rw [List.getElem?_eq_getElem hlt] at hi
              cases hi
          refine done' (fun j hj => all_done S I.sz hnil (j + 1) j (by omega) hj) ?_
          simp only [Region.linearise.go]
          change (match (Region.ready .any ops listed)[t % (Region.ready .any ops listed).length]? with
            | some i => Region.linearise.go .any ops fuel (t / (Region.ready .any ops listed).length) (listed.setIfInBounds i true) [i]
            | none => [].reverse) = []
          rw [hi]; rfl
        | some i =>
          have hgo : Region.linearise.go .any ops (fuel + 1) t listed [] = i :: Region.linearise.go .any ops fuel (t / (Region.ready .any ops listed).length) (listed.setIfInBounds i true) [] := by
            simp only [Region.linearise.go]
            change (match (Region.ready .any ops listed)[t % (Region.ready .any ops listed).length]? with
              | some i => Region.linearise.go .any ops fuel (t / (Region.ready .any ops listed).length) (listed.setIfInBounds i true) [i]
              | none => [].reverse) = _
            rw [hi]
            simp only
            rw [linearise_go_acc]
            rfl
          rw [hgo]
          have hr : i ∈ Region.ready .any ops listed := List.mem_of_getElem? hi
          obtain ⟨h0, o, ho, _⟩ := mem_ready.1 hr
          obtain ⟨m, hmem⟩ := S.mem i o ho
          obtain ⟨r1, r2⟩ := ready_closed S I.clo hmem hr
          have hisz : i < ops.size := (Array.getElem?_eq_some_iff.1 ho).1
          have hleft' : leftN (listed.setIfInBounds i true) ops.size ≤ fuel := by
            have := leftN_set hisz I.sz r1
            omega
          cases hd : Nat.testBit done i with
          | true =>
            obtain ⟨μ1, a1, w1, q1, q2, q3⟩ := follow_step hE hp ok S I hr hd b
            obtain ⟨fr', h', hm, μ', a', w', g1, g2, g3, g4, g5, g6, g7⟩ := IH n fuel _ (by omega) μ1 a1 w1 _ ps done rd fr h outs q2 hnd hleft' hrun b
            exact ⟨fr', h', hm, μ', a', w', q1.trans g1, g2, g3, g4, g5, g6, fun k cs => (q3 k cs _).trans (g7 k cs)⟩
          | false =>
            have hps : (i, m, o) ∈ ps := by
              rcases I.pall _ hmem with q | q
              · exact q
              · simp only at q; rw [hd] at q; cases q
            have hw : within m done = true := within_of fun k hk => I.sub k (r2 k hk)
            have heff := pickP_none hpick _ hps hw
            obtain ⟨rest, hrest⟩ := pickE_mem hps heff hw
            have hperm := pickE_perm hrest
            obtain ⟨hn1, hn2⟩ := nodup_of_perm hperm hnd
            obtain ⟨_, _, _, c4, c5⟩ := pickE_spec hrest
            cases n with
            | zero =>
              cases ps with
              | nil => cases hps
              | cons q r => simp [opsD] at hrun
            | succ n =>
              cases ps with
              | nil => cases hps
              | cons q r =>
              simp only [opsD, hpick] at hrun
              obtain ⟨o1, hc, hsub⟩ := rbindL_some hrun _ hrest
              obtain ⟨outs', fr1, h1, e1, e2, e3, e4, e5, μ1, a1, w1, q1, q2, q3⟩ := act_step hE hp ok S I (p := (i, m, o)) hr hps c4 c5 hn2 b hc
              obtain ⟨fr', h', hm, μ', a', w', g1, g2, g3, g4, g5, g6, g7⟩ := IH n fuel _ (by omega) μ1 a1 w1 _ rest _ rd fr1 h1 outs' q2 hn1 hleft' e1 b
              exact ⟨fr', h', hsub _ (e2 _ hm), μ', a', w', q1.trans g1, g2, g3, g4.trans e3, g5.trans e4, g6.trans e5, fun k cs => (q3 k cs _).trans (g7 k cs)⟩

theorem drawn_sound (hE : EnvOk P E) (hp : Plain ρ) (ok : RecOk P E ρ ih) {fr : Fr} {h : H} {outs : List (Fr × H)} (hrun : drawn E ih ops.toList fr h = some outs) {μ : Mu} {a : Act} {w : World} (hh : HR E ρ μ h w) (hf : FR ρ μ fr a) (id : Nat) (b : Fb) :
    ∃ fr' h', (fr', h') ∈ outs ∧ ∃ μ' a' w', Grows μ w μ' w' ∧ HR E ρ μ' h' w' ∧ FR ρ μ' fr' a' ∧ fr'.fn = fr.fn ∧ fr'.rnd = fr.rnd ∧ fr'.nt = fr.nt ∧
      ∀ k cs, Steps P (lone (FrR b a (.code (.region id ops true) :: k)) cs w) (lone (FrR b a' k) cs w') := by
  unfold drawn at hrun
  simp only at hrun
  obtain ⟨hok, hrun⟩ := bif_some hrun
  have S := stat_of ops hok
  have hsz : (Array.replicate ops.size false).size = ops.size := by simp
  have hnone : ∀ j, ¬ Dn (Array.replicate ops.size false) j := by
    intro j hj
    unfold Dn Array.getD at hj
    split at hj <;> simp at hj
  obtain ⟨r, h1, h2, h3⟩ := preds_spec ops.toList []
  rw [List.nil_append] at h1
  have nd : ∀ (l : List Oper) (ms : List Nat) (i : Nat), ((pendL l ms i).map (·.1)).Nodup ∧ ∀ x ∈ (pendL l ms i).map (·.1), i ≤ x := by
    intro l
    induction l with
    | nil => intro ms i; cases ms <;> simp [pendL]
    | cons o l ih =>
      intro ms i
      cases ms with
      | nil => simp [pendL]
      | cons m ms =>
        obtain ⟨q1, q2⟩ := ih ms (Nat.succ i)
        simp only [pendL, List.map_cons, List.nodup_cons]
        refine ⟨⟨fun hx => by have := q2 _ hx; omega, q1⟩, fun x hx => ?_⟩
        rcases List.mem_cons.1 hx with rfl | hx
        · exact Nat.le_refl _
        · have := q2 _ hx; omega
  have I : Inv E ρ ih ops (pendL ops.toList (preds ops.toList []) 0) μ a w.drew (Array.replicate ops.size false) (pendL ops.toList (preds ops.toList []) 0) 0 [] fr h := by
    refine ⟨hsz, hh.same rfl, fun t v hv _ => hf.tmps t v hv, hf.size, hf.defs, fun j hj => absurd hj (hnone j), fun j m o hj hb => by simp at hb, fun p hp hl => absurd hl (hnone _), fun p hp => ⟨hp, by simp⟩, fun p hp => .inl hp, fun p hp hb => by simp at hb⟩
  have hleft : leftN (Array.replicate ops.size false) ops.size ≤ ops.size := by
    unfold leftN
    exact Nat.le_trans (List.length_filter_le _ _) (by simp)
  obtain ⟨fr', h', hm, μ', a', w', g1, g2, g3, g4, g5, g6, g7⟩ := opsD_sound hE hp ok S _ (Nat.succ ops.toList.length) ops.size (w.tape w.drawn (.order b.fn id)) (Nat.le_refl _) μ a w.drew _ _ 0 [] fr h outs I (nd _ _ _).1 hleft hrun b
  refine ⟨fr', h', hm, μ', a', w', (Grows.same rfl rfl rfl rfl : Grows μ w μ w.drew).trans g1, g2, g3, g4, g5, g6, fun k cs => .head st_region_draw ?_⟩
  rw [hE.mixed]
  simpa [Region.schedule, Region.linearise] using g7 k cs
end
end Go.Ev
