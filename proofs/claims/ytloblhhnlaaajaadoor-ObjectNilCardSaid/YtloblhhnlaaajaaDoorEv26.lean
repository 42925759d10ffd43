/- Ranges over functions, calls; the evaluator's word. -/
import Derived.Test.YtloblhhnlaaajaaDoorEv25
namespace Go.Ev
open Go

section
variable {P : Program} {E : Env} {ρ : Rho} {ih : Rec} {μ : Mu}

theorem range_tail {h : H} {w : World} (hh : HR E ρ μ h w) {l : Nat} {st : LoopState} {pend : Option Code} {fn : Nat} {ts : T V} {nt : Nat} {ps : List Nat} {asg body : Code} {d : Nat} (hb : h.t.get l = some (.loop st pend fn ts nt ps asg body d)) {y : Nat × Nat} (hy : μ l = some y) (hst : st ≠ .busy) :
    ∃ w', Grows μ w μ w' ∧ HR E ρ μ (h.put l (.loop .exhausted pend fn ts nt ps asg body d)) w' ∧ ∀ (b : Fb) (a : Act) (k : List Item) (cs : List Frame), step P (lone (FrR b a (.endRangeFunc y.1 :: k)) cs w) = .next (lone (FrR b a ((pend.map Item.code).toList ++ k)) cs w') := by
  obtain ⟨tmps, z, o1, o2, o3, _⟩ := loop_obj hh hb hy
  obtain ⟨g1, g2⟩ := loop_change hh hb hy .exhausted pend o1
  refine ⟨_, g1, g2, fun b a k cs => step_lone_go ?_⟩
  have hend : (Instr.endLoop y.1).run P w = .ok pend (World.at_ w y.1 (.loop { state := .exhausted, pending := pend, fn := fn, tmps := tmps, params := ps.toArray, assign := asg, body := body, defers := z })) := by
    have : (st == LoopState.busy) = false := by cases st <;> first | rfl | exact absurd rfl hst
    simp only [Instr.endLoop, Sem.run_bind, run_getLoop o1, Result.andThen_ok, this, Bool.false_eq_true, if_false, run_setLoop _ o1, Sem.run_pure]
  simp [stepG, stepG.exec, FrR, hend]

/-- What the range has come to, given what the function did. -/
theorem range_rest (ok : RecOk P E ρ ih) {h : H} {lb : Nat} {outs : List (Ex × Fr × H)} {fr : Fr} (hrun : afterLoop ih lb fr h = some outs)
    {a : Act} {w : World} {b : Fb} (hh : HR E ρ μ h w) (hf : FR ρ μ fr a) (hctx : Ctx μ fr b) {y : Nat × Nat} (hy : μ lb = some y) :
    ∃ e fr' h', (e, fr', h') ∈ outs ∧ ∃ μ' a' w', Grows μ w μ' w' ∧ HR E ρ μ' h' w' ∧ FR ρ μ' fr' a' ∧ fr'.fn = fr.fn ∧ fr'.rnd = fr.rnd ∧ fr'.nt = fr.nt ∧
      ∀ k cs, Arr P (lone (FrR b a (.endRangeFunc y.1 :: k)) cs w) b k cs e a' w' := by
  unfold afterLoop at hrun
  split at hrun
  · rename_i st pend fn ts nt ps asg body d hb
    have hst : st ≠ .busy := by rintro rfl; cases hrun
    have hrun2 : runPend ih pend fr (h.put lb (.loop .exhausted pend fn ts nt ps asg body d)) = some outs := by
      cases st <;> first | exact absurd rfl hst | exact hrun
    obtain ⟨w', g1, g2, g3⟩ := range_tail (P := P) hh hb hy hst
    cases pend with
    | none =>
      obtain rfl := rone_some hrun2
      exact ⟨.normal, fr, _, List.mem_singleton.2 rfl, μ, a, w', g1, g2, hf, rfl, rfl, rfl, fun k cs => .one (g3 b a k cs)⟩
    | some j =>
      obtain ⟨e, fr', h', hm, μ', a', w2, q1, q2, q3, q4, q5, q6, q7⟩ := ok.code _ _ _ _ hrun2 μ a w' b g2 hf hctx
      exact ⟨e, fr', h', hm, μ', a', w2, g1.trans q1, q2, q3, q4, q5, q6, fun k cs => Arr.of_steps (.one (g3 b a k cs)) (q7 k cs)⟩
  · cases hrun

theorem FR.deferred {fr : Fr} {a : Act} (hf : FR ρ μ fr a) {db r : Nat} {z : Nat} (h : μ db = some (r, z)) : FR ρ μ { fr with mks := .mark db :: fr.mks } { a with defers := { target := .collected r, args := #[] } :: a.defers } :=
  ⟨hf.tmps, hf.size, .mark h hf.defs⟩

theorem range_sound (ok : RecOk P E ρ ih) {f : Operand} {params : Array Nat} {asg body : Code} {fr : Fr} {h : H} {outs : List (Ex × Fr × H)} (hrun : stepCode E ih (.rangeFunc f params asg body) fr h = some outs)
    {a : Act} {w : World} (b : Fb) (hh : HR E ρ μ h w) (hf : FR ρ μ fr a) (hctx : Ctx μ fr b) : CodeOk P E ρ (.rangeFunc f params asg body) fr outs μ a w b := by
  have hres : ∀ (k : List Item) (a1 : Act) (fr1 : Frame), fr1 = FrR b a1 k → a1.tmps = a.tmps → ∀ (l : Nat), (do let d ← resolve fr1.eval { callee := .value f, args := #[.const (.func (.yield l) #[] #[])], argTypes := #[] } 0; invoke d.target d.args : Sem Next) =
      (do let d ← Deferred.ofValue (a.eval f) #[.func (.yield l) #[] #[]]; invoke d.target d.args) := by
    rintro k a1 _ rfl ht l
    have : (FrR b a1 k).eval = a.eval := by
      funext x; cases x <;> simp [Frame.eval, FrR, Act.eval, ht]
    rw [this]
    simp [resolve, Act.eval]
  simp only [stepCode] at hrun
  split at hrun
  · rename_i hrnd
    have hround : b.roundOf = none := by have := hctx.2; rw [hrnd] at this; exact this
    split at hrun
    · rename_i fv hfv
      obtain ⟨F, f1, f2⟩ := opd_sound hf hfv
      obtain ⟨lx, hlx, hcont⟩ := rbind_some hrun
      -- the two new blocks
      have A1 := HR.alloc (B := .defs false) (o := .deferred (some [])) (cap := 0) (w' := { w with heap := w.heap.push (.deferred (some [])) }) hh .defs rfl
      have G1 := Grows.alloc (w' := { w with heap := w.heap.push (.deferred (some [])) }) hh 0 rfl rfl rfl rfl
      have hdb : (μ.put h.next (w.heap.size, 0)) h.next = some (w.heap.size, 0) := Mu.put_same _ _ _
      generalize hμ1 : μ.put h.next (w.heap.size, 0) = μ1 at A1 G1 hdb
      have hf1 := hf.le G1.le
      let L : Loop := { state := .ready, pending := none, fn := fr.fn, tmps := a.tmps, params := params, assign := asg, body := body, defers := w.heap.size }
      have hle2 := Mu.le_put (μ := μ1) (b := (h.new (.defs false)).2.next) (({ w with heap := w.heap.push (.deferred (some [])) } : World).heap.size, 0) (A1.fresh _ (Nat.le_refl _))
      have BL : BR E ρ (μ1.put (h.new (.defs false)).2.next (({ w with heap := w.heap.push (.deferred (some [])) } : World).heap.size, 0)) (.loop .ready none fr.fn fr.ts fr.nt params.toList asg body h.next) (({ w with heap := w.heap.push (.deferred (some [])) } : World).heap.size, 0) (.loop L) := by
        have := BR.loop (E := E) (ρ := ρ) (μ := μ1.put (h.new (.defs false)).2.next (({ w with heap := w.heap.push (.deferred (some [])) } : World).heap.size, 0)) (st := .ready) (pend := none) (fn := fr.fn) (ts := fr.ts) (nt := fr.nt) (ps := params.toList) (a := asg) (b := body) (d := h.next) (x := (({ w with heap := w.heap.push (.deferred (some [])) } : World).heap.size, 0)) (tmps := a.tmps) (y := (w.heap.size, 0))
          hf.size (fun t v hv => by obtain ⟨X, x1, x2⟩ := hf1.tmps t v hv; exact ⟨X, conc_le hle2 _ _ x1, x2⟩) (hle2 _ _ hdb)
        simpa [L] using this
      have A2 := HR.alloc (cap := 0) (w' := { w with heap := (w.heap.push (.deferred (some []))).push (.loop L) }) A1 BL rfl
      have G2 := Grows.alloc (w' := { w with heap := (w.heap.push (.deferred (some []))).push (.loop L) }) (o := .loop L) A1 0 rfl rfl rfl rfl
      have hlb : (μ1.put (h.new (.defs false)).2.next (({ w with heap := w.heap.push (.deferred (some [])) } : World).heap.size, 0)) (h.new (.defs false)).2.next = some (w.heap.size + 1, 0) := by
        rw [Mu.put_same]; simp
      generalize hμ2 : μ1.put (h.new (.defs false)).2.next (({ w with heap := w.heap.push (.deferred (some [])) } : World).heap.size, 0) = μ2 at A2 G2 hlb hle2
      have G := G1.trans G2
      have hf2 : FR ρ μ2 fr a := hf.le G.le
      have hent : (Instr.enterLoop fr.fn a.tmps params asg body none).run P w = .ok (w.heap.size + 1, [{ target := .collected w.heap.size, args := #[] }]) { w with heap := (w.heap.push (.deferred (some []))).push (.loop L) } := by
        simp [Instr.enterLoop, newObj, Sem.run, L]
        rfl
      have hA : concL ρ μ2 [.yield (h.new (.defs false)).2.next] = some [.func (.yield (w.heap.size + 1)) #[] #[]] := by
        simp [concL, conc, hlb]
      obtain ⟨v, h', hm, μ3, X, w3, q1, q2, q3, q4⟩ := invoke_sound ok A2 hlx (conc_le G.le _ _ f1) hA
      obtain ⟨o1, hc, hsub⟩ := hcont _ hm
      have hf3 : FR ρ μ3 fr a := hf2.le q1.le
      have hf3' := hf3.deferred (q1.le _ _ (G2.le _ _ hdb))
      obtain ⟨e, fr', h2, hm2, μ4, a', w4, r1, r2, r3, r4, r5, r6, r7⟩ := range_rest (P := P) ok hc q2 hf3' (hctx.le (G.le.trans q1.le) rfl rfl) (q1.le _ _ hlb)
      refine ⟨e, fr', h2, hsub _ hm2, μ4, a', w4, G.trans (q1.trans r1), r2, r3, r4, r5, r6, fun k cs => Arr.of_steps ?_ (r7 k cs)⟩
      refine does_go (w1 := { w with heap := (w.heap.push (.deferred (some []))).push (.loop L) }) (s := do let d ← Deferred.ofValue F #[.func (.yield (w.heap.size + 1)) #[] #[]]; invoke d.target d.args) (X := X) ?_ (by simpa using q4)
      rw [← f2, ← hres (.inRangeFunc (w.heap.size + 1) :: k) { a with defers := { target := .collected w.heap.size, args := #[] } :: a.defers } _ rfl rfl]
      have hfn := hctx.1
      simp only [stepG, stepG.exec, FrR, hround, hfn, Sem.runT_eq, hent, GStep.bare_after]
      rfl
    · cases hrun
  · rename_i l0 hrnd
    obtain ⟨y0, hy0, hround⟩ : ∃ y, μ l0 = some y ∧ b.roundOf = some y.1 := by have := hctx.2; rw [hrnd] at this; exact this
    split at hrun
    · rename_i st0 pend0 fn0 ts0 nt0 ps0 asg0 body0 dl hb0
      obtain ⟨tmps0, z0, l1, l2, l3, q0, hq0, hz0⟩ := loop_obj hh hb0 hy0
      split at hrun
      · rename_i fv hfv
        obtain ⟨F, f1, f2⟩ := opd_sound hf hfv
        obtain ⟨lx, hlx, hcont⟩ := rbind_some hrun
        let L : Loop := { state := .ready, pending := none, fn := fr.fn, tmps := a.tmps, params := params, assign := asg, body := body, defers := z0 }
        have hle2 := Mu.le_put (μ := μ) (b := h.next) (w.heap.size, 0) (hh.fresh _ (Nat.le_refl _))
        have BL : BR E ρ (μ.put h.next (w.heap.size, 0)) (.loop .ready none fr.fn fr.ts fr.nt params.toList asg body dl) (w.heap.size, 0) (.loop L) := by
          have := BR.loop (E := E) (ρ := ρ) (μ := μ.put h.next (w.heap.size, 0)) (st := .ready) (pend := none) (fn := fr.fn) (ts := fr.ts) (nt := fr.nt) (ps := params.toList) (a := asg) (b := body) (d := dl) (x := (w.heap.size, 0)) (tmps := a.tmps) (y := q0)
            hf.size (fun t v hv => by obtain ⟨X, x1, x2⟩ := hf.tmps t v hv; exact ⟨X, conc_le hle2 _ _ x1, x2⟩) (hle2 _ _ hq0)
          rw [hz0] at this
          simpa [L] using this
        have A2 := HR.alloc (cap := 0) (w' := { w with heap := w.heap.push (.loop L) }) hh BL rfl
        have G := Grows.alloc (w' := { w with heap := w.heap.push (.loop L) }) (o := .loop L) hh 0 rfl rfl rfl rfl
        have hlb : (μ.put h.next (w.heap.size, 0)) h.next = some (w.heap.size, 0) := Mu.put_same _ _ _
        generalize hμ2 : μ.put h.next (w.heap.size, 0) = μ2 at A2 G hlb hle2
        have hf2 : FR ρ μ2 fr a := hf.le G.le
        have hent : (Instr.enterLoop fr.fn a.tmps params asg body (some y0.1)).run P w = .ok (w.heap.size, []) { w with heap := w.heap.push (.loop L) } := by
          simp [Instr.enterLoop, run_getLoop l1, newObj, Sem.run, L]
        have hA : concL ρ μ2 [.yield h.next] = some [.func (.yield w.heap.size) #[] #[]] := by
          simp [concL, conc, hlb]
        obtain ⟨v, h', hm, μ3, X, w3, q1, q2, q3, q4⟩ := invoke_sound ok A2 hlx (conc_le G.le _ _ f1) hA
        obtain ⟨o1, hc, hsub⟩ := hcont _ hm
        have hf3 : FR ρ μ3 fr a := hf2.le q1.le
        obtain ⟨e, fr', h2, hm2, μ4, a', w4, r1, r2, r3, r4, r5, r6, r7⟩ := range_rest (P := P) ok hc q2 hf3 (hctx.le (G.le.trans q1.le) rfl rfl) (q1.le _ _ hlb)
        refine ⟨e, fr', h2, hsub _ hm2, μ4, a', w4, G.trans (q1.trans r1), r2, r3, r4, r5, r6, fun k cs => Arr.of_steps ?_ (r7 k cs)⟩
        refine does_go (w1 := { w with heap := w.heap.push (.loop L) }) (s := do let d ← Deferred.ofValue F #[.func (.yield w.heap.size) #[] #[]]; invoke d.target d.args) (X := X) ?_ (by simpa using q4)
        rw [← f2, ← hres (.inRangeFunc w.heap.size :: k) a _ rfl rfl]
        have hfn := hctx.1
        simp only [stepG, stepG.exec, FrR, hround, hfn, Sem.runT_eq, hent, GStep.bare_after]
        rfl
      · cases hrun
    · cases hrun
end
end Go.Ev
