/- Ranges over functions, their rounds, calls. -/
import Derived.Test.YtloblhhnlaaajaaDoorEv24
namespace Go.Ev
open Go

section
variable {P : Program} {cs : List Frame} {w : World}

/-- What is done at a frame that ranges over a function. -/
theorem does_go {fr : Frame} {b : Fb} {a : Act} {l : Nat} {k : List Item} {s : Sem Next} {w1 w' : World} {X : Value}
    (hg : (stepG P true { frame := fr, callers := cs, status := .running, dying := none } w).bare = (stepG.apply P true (FrR b a (.inRangeFunc l :: k)) cs none s w1).bare) (h : Does P s w1 X w') :
    Steps P (lone fr cs w) (lone (FrR b a (.endRangeFunc l :: k)) cs w') := by
  have hfin : (FrR b a (.inRangeFunc l :: k)).finish X = FrR b a (.endRangeFunc l :: k) := rfl
  rcases h with hr | ⟨hr, rfl⟩ | ⟨f, args, w2, hr, hl⟩ | ⟨l', f, tmps, asg, body, w2, hr, hl⟩
  · refine .one (step_lone_go ?_)
    rw [hg, ← hfin]; simp [stepG.apply, hr]
  · refine .one (step_lone_go ?_)
    rw [hg, ← hfin]; simp [stepG.apply, hr]
  · have henter : step P (lone fr cs w) = .next (lone (Frame.enter P f args .normal) (FrR b a (.inRangeFunc l :: k) :: cs) w2) :=
      step_lone_go (by rw [hg]; simp [stepG.apply, hr, FrR])
    rw [← hfin]
    exact .head henter (hl _ _)
  · have henter : step P (lone fr cs w) = .next (lone (Frame.round l' f tmps asg body .normal) (FrR b a (.inRangeFunc l :: k) :: cs) w2) :=
      step_lone_go (by rw [hg]; simp [stepG.apply, hr, FrR])
    rw [← hfin]
    exact .head henter (hl _ _)
end

section
variable {P : Program} {E : Env} {ρ : Rho} {ih : Rec} {μ : Mu}

theorem loop_obj {h : H} {w : World} (hh : HR E ρ μ h w) {l : Nat} {st : LoopState} {pend : Option Code} {fn : Nat} {ts : T V} {nt : Nat} {ps : List Nat} {asg body : Code} {d : Nat} (hb : h.t.get l = some (.loop st pend fn ts nt ps asg body d)) {y : Nat × Nat} (hy : μ l = some y) :
    ∃ tmps z, w.heap[y.1]? = some (.loop { state := st, pending := pend, fn := fn, tmps := tmps, params := ps.toArray, assign := asg, body := body, defers := z }) ∧ tmps.size = nt ∧ (∀ t v, ts.get t = some v → ∃ X, conc ρ μ v = some X ∧ tmps[t]? = some X) ∧ ∃ q, μ d = some q ∧ q.1 = z := by
  obtain ⟨o, o1, o2⟩ := blk_of hh hb hy
  cases o2 with
  | loop ht hc hd => exact ⟨_, _, o1, ht, hc, _, hd, rfl⟩

theorem run_getLoop {w : World} {l : Nat} {r : Loop} (h : w.heap[l]? = some (.loop r)) : (Instr.getLoop l).run P w = .ok r w := by simp [Instr.getLoop, getObj, Sem.run, h]
theorem run_setLoop {w : World} {l : Nat} {r : Loop} (o : Obj) (h : w.heap[l]? = some (.loop r)) : (setObj l o).run P w = .ok () (World.at_ w l o) := by simp [setObj, Sem.run, h, World.at_]

theorem loop_change {h : H} {w : World} (hh : HR E ρ μ h w) {l : Nat} {st : LoopState} {pend : Option Code} {fn : Nat} {ts : T V} {nt : Nat} {ps : List Nat} {asg body : Code} {d : Nat} (hb : h.t.get l = some (.loop st pend fn ts nt ps asg body d)) {y : Nat × Nat} (hy : μ l = some y)
    (st' : LoopState) (pend' : Option Code) {tmps : Array Value} {z : Nat} (ho : w.heap[y.1]? = some (.loop { state := st, pending := pend, fn := fn, tmps := tmps, params := ps.toArray, assign := asg, body := body, defers := z })) :
    Grows μ w μ (World.at_ w y.1 (.loop { state := st', pending := pend', fn := fn, tmps := tmps, params := ps.toArray, assign := asg, body := body, defers := z })) ∧
    HR E ρ μ (h.put l (.loop st' pend' fn ts nt ps asg body d)) (World.at_ w y.1 (.loop { state := st', pending := pend', fn := fn, tmps := tmps, params := ps.toArray, assign := asg, body := body, defers := z })) := by
  obtain ⟨tmps', z', o1, o2, o3, q, q1, q2⟩ := loop_obj hh hb hy
  rw [ho] at o1
  injection o1 with o1
  injection o1 with o1
  injection o1 with _ _ _ e1 _ _ _ e2
  subst e1 e2
  refine ⟨Grows.change hy at_size (fun g hg => at_other hg) rfl rfl rfl, HR.change hh hb hy ?_ at_size (fun g hg => at_other hg) (at_same (lt_of_some ho))⟩
  rw [← q2]
  exact .loop o2 o3 q1

theorem putArgs_sound {args : List V} : ∀ {ps : List Nat} {ts ts' : T V} {nt : Nat} {A : List Value} {tmps : Array Value} {args : List V}, putArgs ts nt ps args = some ts' → concL ρ μ args = some A → tmps.size = nt → (∀ t v, ts.get t = some v → ∃ X, conc ρ μ v = some X ∧ tmps[t]? = some X) →
    args.length = ps.length ∧ ((ps.zip A).foldl (fun tmps (t, a) => tmps.setIfInBounds t a) tmps).size = nt ∧ ∀ t v, ts'.get t = some v → ∃ X, conc ρ μ v = some X ∧ ((ps.zip A).foldl (fun tmps (t, a) => tmps.setIfInBounds t a) tmps)[t]? = some X
  | [], ts, ts', nt, A, tmps, [], h, ha, hs, hc => by
    simp only [putArgs] at h
    injection h with h; subst h
    exact ⟨rfl, by simpa using hs, by simpa using hc⟩
  | [], ts, ts', nt, A, tmps, v :: vs, h, ha, hs, hc => by cases h
  | p :: ps, ts, ts', nt, A, tmps, [], h, ha, hs, hc => by cases h
  | p :: ps, ts, ts', nt, A, tmps, v :: vs, h, ha, hs, hc => by
    simp only [putArgs] at h
    obtain ⟨hb, h⟩ := bif_some h
    have hlt : p < nt := by simpa using hb
    obtain ⟨X, l, rfl, hx, hl⟩ := concL_cons ha
    have := putArgs_sound (args := args) (tmps := tmps.setIfInBounds p X) h hl (by simpa using hs) (fun t u hu => by
      rw [T.get_set] at hu
      by_cases e : t = p
      · rw [if_pos e] at hu; injection hu with hu; subst hu e
        exact ⟨X, hx, by simp [hs, hlt]⟩
      · rw [if_neg e] at hu
        obtain ⟨Y, y1, y2⟩ := hc t u hu
        exact ⟨Y, y1, by rw [Array.getElem?_setIfInBounds_ne (Ne.symm e)]; exact y2⟩)
    refine ⟨by simp [this.1], ?_, ?_⟩
    · simpa using this.2.1
    · simpa using this.2.2

/-- The end of a round. -/
theorem round_leave {b : Fb} {y : Nat} (hb : b.roundOf = some y) (hbk : b.kind = .normal) {a : Act} {k : List Item} {jump : Option Code} (hk : (jump = none ∧ k = []) ∨ (∃ id k2, jump = some (.exit id) ∧ k = .code (.exit id) :: k2 ∧ exitTo id k2 = none) ∨ (∃ k2, jump = some .ret ∧ k = .code .ret :: k2))
    {w w' : World} {v : Value} (hr : (Instr.endRound y jump).run P w = .ok v w') (c : Frame) (cs : List Frame) : step P (lone (FrR b a k) (c :: cs) w) = .next (lone (c.finish v) cs w') := by
  refine step_lone_go ?_
  rcases hk with ⟨rfl, rfl⟩ | ⟨id, k2, rfl, rfl, hx⟩ | ⟨k2, rfl, rfl⟩
  · simp [stepG, stepG.exec, FrR, hb, hr, doReturn, hbk]
  · simp [stepG, stepG.exec, FrR, hb, hr, doReturn, hbk, hx]
  · simp [stepG, stepG.exec, FrR, hb, hr, doReturn, hbk]

theorem st_beginRound {b : Fb} {y : Nat} (hb : b.roundOf = some y) {a : Act} {k : List Item} {cs : List Frame} {w w' : World} (hr : (Instr.beginRound y).run P w = .ok () w') :
    step P (lone (FrR b a (.beginRound :: k)) cs w) = .next (lone (FrR b a k) cs w') :=
  step_lone_go (by simp [stepG, stepG.exec, stepG.apply, FrR, hb, hr, Frame.finish])

theorem yield_sound (ok : RecOk P E ρ ih) {l : Nat} {args : List V} {h : H} {outs : List (V × H)} (hrun : stepYield ih l args h = some outs) {w : World} {A : List Value} {y : Nat × Nat} (hh : HR E ρ μ h w) (hy : μ l = some y) (ha : concL ρ μ args = some A) :
    Res P E ρ μ w (Instr.yield y.1 A.toArray) outs := by
  unfold stepYield at hrun
  split at hrun
  · rename_i fn ts nt ps asg body d hb
    obtain ⟨tmps, z, o1, o2, o3, _⟩ := loop_obj hh hb hy
    split at hrun
    · cases hrun
    · rename_i ts' hput
      obtain ⟨p1, p2, p3⟩ := putArgs_sound (args := args) hput ha o2 o3
      have hAl := concL_length ha
      have hround : (Instr.yield y.1 A.toArray).run P w = .ok (.round y.1 fn ((ps.zip A).foldl (fun tmps (t, a) => tmps.setIfInBounds t a) tmps) asg body) w := by
        have hsz : A.toArray.size = ps.toArray.size := by simp; omega
        simp only [Instr.yield, Sem.run_bind, run_getLoop (P := P) o1, Result.andThen_ok, hsz, ne_eq, not_true_eq_false, if_false]
        simp
      have hfr0 : FR ρ μ { ts := ts', nt := nt, mks := [], fn := fn, rnd := some l } ⟨(ps.zip A).foldl (fun tmps (t, a) => tmps.setIfInBounds t a) tmps, []⟩ := ⟨p3, p2, .nil⟩
      obtain ⟨l1, hl1, hcont⟩ := rbind_some hrun
      -- the frame of the round
      let b : Fb := ⟨fn, .normal, some y.1⟩
      have hctx : Ctx μ { ts := ts', nt := nt, mks := [], fn := fn, rnd := some l } b := ⟨rfl, y, hy, rfl⟩
      obtain ⟨e1, fr1, h1, hm1, μ1, a1, w1, g1, g2, g3, g4, g5, g6, g7⟩ := ok.code _ _ _ _ hl1 μ _ w b hh hfr0 hctx
      obtain ⟨o1', hc1, hsub1⟩ := hcont _ hm1
      cases e1 with
      | exit id => cases hc1
      | ret => cases hc1
      | normal =>
        simp only at hc1
        split at hc1
        · rename_i pend2 fn2 ts2 nt2 ps2 asg2 body2 d2 hb2
          obtain ⟨tmps2, z2, l1, l2, l3, _⟩ := loop_obj g2 hb2 (g1.le _ _ hy)
          obtain ⟨q1, q2⟩ := loop_change g2 hb2 (g1.le _ _ hy) .busy pend2 l1
          have hbegin : (Instr.beginRound y.1).run P w1 = .ok () (World.at_ w1 y.1 (.loop { state := .busy, pending := pend2, fn := fn2, tmps := tmps2, params := ps2.toArray, assign := asg2, body := body2, defers := z2 })) := by
            simp [Instr.beginRound, run_getLoop l1, run_setLoop _ l1]
          obtain ⟨l2', hl2, hcont2⟩ := rbind_some hc1
          obtain ⟨e2, fr2, h2, hm2, μ2, a2, w2, k1, k2, k3, k4, k5, k6, k7⟩ := ok.code _ _ _ _ hl2 μ1 a1 _ b q2 g3 (hctx.le g1.le g4 g5)
          obtain ⟨o2', hc2, hsub2⟩ := hcont2 _ hm2
          simp only at hc2
          split at hc2
          · rename_i hmks
            split at hc2
            · rename_i st3 pend3 fn3 ts3 nt3 ps3 asg3 body3 d3 hb3
              obtain rfl := rone_some hc2
              have hy2 := k1.le _ _ (g1.le _ _ hy)
              obtain ⟨tmps3, z3, m1, m2, m3, _⟩ := loop_obj k2 hb3 hy2
              have key : ∀ (jump : Option Code), (jump = none ∧ e2 = .normal) ∨ (∃ id, jump = some (.exit id) ∧ e2 = .exit id) ∨ (jump = some .ret ∧ e2 = .ret) →
                  (.bool jump.isNone, h2.put l (.loop (endSt jump) jump fn3 ts3 nt3 ps3 asg3 body3 d3)) ∈ outs → Res P E ρ μ w (Instr.yield y.1 A.toArray) outs := by
                intro jump hj hmem
                obtain ⟨r1, r2⟩ := loop_change k2 hb3 hy2 (endSt jump) jump m1
                have hend : (Instr.endRound y.1 jump).run P w2 = .ok (.bool jump.isNone) (World.at_ w2 y.1 (.loop { state := endSt jump, pending := jump, fn := fn3, tmps := tmps3, params := ps3.toArray, assign := asg3, body := body3, defers := z3 })) := by
                  cases jump <;> simp [Instr.endRound, run_getLoop m1, run_setLoop _ m1, endSt]
                refine ⟨_, _, hmem, μ2, .bool jump.isNone, _, g1.trans (q1.trans (k1.trans r1)), r2, by simp only [conc], .inr (.inr (.inr ⟨_, _, _, _, _, _, hround, fun c cs => ?_⟩))⟩
                have hstart : (Frame.round y.1 fn ((ps.zip A).foldl (fun tmps (t, a) => tmps.setIfInBounds t a) tmps) asg body .normal) = FrR b ⟨(ps.zip A).foldl (fun tmps (t, a) => tmps.setIfInBounds t a) tmps, []⟩ [.code asg, .beginRound, .code body] := rfl
                rw [hstart]
                have s1 := g7 [.beginRound, .code body] (c :: cs)
                simp only [Arr] at s1
                refine s1.trans (.head (st_beginRound rfl hbegin) ?_)
                have s2 := k7 [] (c :: cs)
                rcases hj with ⟨rfl, rfl⟩ | ⟨id, rfl, rfl⟩ | ⟨rfl, rfl⟩
                · exact s2.trans (.one (round_leave (b := b) rfl rfl (.inl ⟨rfl, rfl⟩) hend c cs))
                · obtain ⟨k2', x1, x2⟩ := s2
                  exact x2.trans (.one (round_leave (b := b) rfl rfl (.inr (.inl ⟨id, k2', rfl, rfl, by rw [x1]; rfl⟩)) hend c cs))
                · obtain ⟨k2', x2⟩ := s2
                  exact x2.trans (.one (round_leave (b := b) rfl rfl (.inr (.inr ⟨k2', rfl, rfl⟩)) hend c cs))
              have hmem := hsub1 _ (hsub2 _ (List.mem_singleton.2 rfl))
              cases e2 with
              | normal => exact key none (.inl ⟨rfl, rfl⟩) hmem
              | exit id => exact key (some (.exit id)) (.inr (.inl ⟨id, rfl, rfl⟩)) hmem
              | ret => exact key (some .ret) (.inr (.inr ⟨rfl, rfl⟩)) hmem
            · cases hc2
          · cases hc2
        · cases hc1
  · cases hrun
end
end Go.Ev
