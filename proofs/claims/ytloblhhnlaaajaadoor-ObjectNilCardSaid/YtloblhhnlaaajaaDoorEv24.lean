/- Code: all but ranges over functions. -/
import Derived.Test.YtloblhhnlaaajaaDoorEv23
namespace Go.Ev
open Go

section
variable {P : Program} {b : Fb} {k : List Item} {cs : List Frame}

theorem Arr.of_steps {m m1 : Machine} {e : Ex} {a : Act} {w : World} (h : Steps P m m1) (h' : Arr P m1 b k cs e a w) : Arr P m b k cs e a w := by
  cases e with
  | normal => exact h.trans h'
  | exit id => obtain ⟨k2, h1, h2⟩ := h'; exact ⟨k2, h1, h.trans h2⟩
  | ret => obtain ⟨k2, h2⟩ := h'; exact ⟨k2, h.trans h2⟩

theorem Steps.same_step {m0 m1 m2 : Machine} (h : Steps P m1 m2) (hne : m1 ≠ m2) (hs : step P m0 = step P m1) : Steps P m0 m2 := by
  obtain ⟨n, hn⟩ := h
  cases n with
  | zero => simp [runN] at hn; exact absurd hn hne
  | succ n => exact ⟨n + 1, by simp only [runN] at hn ⊢; rw [hs]; exact hn⟩

theorem lone_todo {b : Fb} {a a' : Act} {k k' : List Item} {w w' : World} (h : lone (FrR b a k) cs w = lone (FrR b a' k') cs w') : k = k' := by
  unfold lone at h
  injection h with _ h _
  have h2 : (#[({ frame := FrR b a k, callers := cs, status := .running, dying := none } : Goroutine)] : Array Goroutine).toList = #[({ frame := FrR b a' k', callers := cs, status := .running, dying := none } : Goroutine)].toList := by rw [h]
  simp only [List.cons.injEq, and_true] at h2
  injection h2 with h3
  unfold FrR at h3
  injection h3

theorem Arr.loop {body : Code} {a1 a : Act} {w1 w : World} {e : Ex} (h : Arr P (lone (FrR b a1 (.code (.loop body) :: k)) cs w1) b k cs e a w) : Arr P (lone (FrR b a1 (.inLoop body :: k)) cs w1) b k cs e a w := by
  have hs : step P (lone (FrR b a1 (.inLoop body :: k)) cs w1) = step P (lone (FrR b a1 (.code (.loop body) :: k)) cs w1) := by rw [st_inLoop, st_loop]
  cases e with
  | normal =>
    refine Steps.same_step h (fun q => ?_) hs
    have := congrArg List.length (lone_todo q)
    simp at this
  | exit id =>
    obtain ⟨k2, h1, h2⟩ := h
    refine ⟨k2, h1, Steps.same_step h2 (fun q => ?_) hs⟩
    have := lone_todo q
    injection this with h3
    cases h3
  | ret =>
    obtain ⟨k2, h2⟩ := h
    refine ⟨k2, Steps.same_step h2 (fun q => ?_) hs⟩
    have := lone_todo q
    injection this with h3
    cases h3
end

section
variable {P : Program} {E : Env} {ρ : Rho} {ih : Rec}

/-- What is to be shown of a piece of code. -/
def CodeOk (P : Program) (E : Env) (ρ : Rho) (c : Code) (fr : Fr) (outs : List (Ex × Fr × H)) (μ : Mu) (a : Act) (w : World) (b : Fb) : Prop :=
  ∃ e fr' h', (e, fr', h') ∈ outs ∧ ∃ μ' a' w', Grows μ w μ' w' ∧ HR E ρ μ' h' w' ∧ FR ρ μ' fr' a' ∧ fr'.fn = fr.fn ∧ fr'.rnd = fr.rnd ∧ fr'.nt = fr.nt ∧
      ∀ k cs, Arr P (lone (FrR b a (.code c :: k)) cs w) b k cs e a' w'

theorem Ctx.le {μ μ' : Mu} {fr fr' : Fr} {b : Fb} (h : Ctx μ fr b) (hl : Le μ μ') (h1 : fr'.fn = fr.fn) (h2 : fr'.rnd = fr.rnd) : Ctx μ' fr' b := by
  refine ⟨h.1.trans h1.symm, ?_⟩
  have := h.2
  rw [h2]
  split at this
  · exact this
  · obtain ⟨y, y1, y2⟩ := this; exact ⟨y, hl _ _ y1, y2⟩

theorem code_plain (hE : EnvOk P E) (hp : Plain ρ) (ok : RecOk P E ρ ih) {c : Code} {fr : Fr} {h : H} {outs : List (Ex × Fr × H)} (hrun : stepCode E ih c fr h = some outs) (hrf : ∀ f ps asg body, c ≠ .rangeFunc f ps asg body)
    {μ : Mu} {a : Act} {w : World} (b : Fb) (hh : HR E ρ μ h w) (hf : FR ρ μ fr a) (hctx : Ctx μ fr b) : CodeOk P E ρ c fr outs μ a w b := by
  unfold stepCode at hrun
  split at hrun
  · obtain rfl := rone_some hrun
    exact ⟨.normal, fr, h, List.mem_singleton.2 rfl, μ, a, w, Grows.refl _ _, hh, hf, rfl, rfl, rfl, fun _ _ => .one st_skip⟩
  · obtain rfl := rone_some hrun
    exact ⟨.normal, fr, h, List.mem_singleton.2 rfl, μ, a, w, Grows.refl _ _, hh, hf, rfl, rfl, rfl, fun _ _ => .one st_label⟩
  · rename_i id ops draw
    obtain ⟨l, hl, hcont⟩ := rbind_some hrun
    cases draw with
    | true =>
      simp only [cond_true] at hl
      obtain ⟨fr', h', hm, μ', a', w', g1, g2, g3, g4, g5, g6, g7⟩ := drawn_sound hE hp ok hl hh hf id b
      obtain ⟨o1, hc, hsub⟩ := hcont _ hm
      obtain rfl := rone_some hc
      exact ⟨.normal, fr', h', hsub _ (List.mem_singleton.2 rfl), μ', a', w', g1, g2, g3, g4, g5, g6, g7⟩
    | false =>
      simp only [cond_false] at hl
      obtain ⟨fr', h', hm, μ', a', w', g1, g2, g3, g4, g5, g6, g7⟩ := opsV_sound hE hp ok ops.toList 0 (by simp) fr h l hl μ a w b hh hf
      obtain ⟨o1, hc, hsub⟩ := hcont _ hm
      obtain rfl := rone_some hc
      refine ⟨.normal, fr', h', hsub _ (List.mem_singleton.2 rfl), μ', a', w', g1, g2, g3, g4, g5, g6, fun k cs => .head st_region ?_⟩
      rw [List.range_eq_range']
      simpa using g7 k cs
  · rename_i x y
    obtain ⟨l, hl, hcont⟩ := rbind_some hrun
    obtain ⟨e, fr1, h1, hm, μ1, a1, w1, g1, g2, g3, g4, g5, g6, g7⟩ := ok.code _ _ _ _ hl μ a w b hh hf hctx
    obtain ⟨o1, hc, hsub⟩ := hcont _ hm
    cases e with
    | normal =>
      simp only at hc
      obtain ⟨e2, fr2, h2, hm2, μ2, a2, w2, q1, q2, q3, q4, q5, q6, q7⟩ := ok.code _ _ _ _ hc μ1 a1 w1 b g2 g3 (hctx.le g1.le g4 g5)
      exact ⟨e2, fr2, h2, hsub _ hm2, μ2, a2, w2, g1.trans q1, q2, q3, q4.trans g4, q5.trans g5, q6.trans g6, fun k cs => Arr.of_steps (.head st_seq (g7 _ cs)) (q7 k cs)⟩
    | exit id =>
      simp only at hc
      obtain rfl := rone_some hc
      refine ⟨.exit id, fr1, h1, hsub _ (List.mem_singleton.2 rfl), μ1, a1, w1, g1, g2, g3, g4, g5, g6, fun k cs => ?_⟩
      obtain ⟨k2, e1, e2⟩ := g7 (.code y :: k) cs
      exact ⟨k2, e1, .head st_seq e2⟩
    | ret =>
      simp only at hc
      obtain rfl := rone_some hc
      refine ⟨.ret, fr1, h1, hsub _ (List.mem_singleton.2 rfl), μ1, a1, w1, g1, g2, g3, g4, g5, g6, fun k cs => ?_⟩
      obtain ⟨k2, e2⟩ := g7 (.code y :: k) cs
      exact ⟨k2, .head st_seq e2⟩
  · rename_i cc x y
    split at hrun
    · rename_i hc
      obtain ⟨X, x1, x2⟩ := opd_sound hf hc
      simp only [conc] at x1; injection x1 with x1; subst x1
      obtain ⟨e, fr1, h1, hm, μ1, a1, w1, g1, g2, g3, g4, g5, g6, g7⟩ := ok.code _ _ _ _ hrun μ a w b hh hf hctx
      exact ⟨e, fr1, h1, hm, μ1, a1, w1, g1, g2, g3, g4, g5, g6, fun k cs => Arr.of_steps (.one (st_cond x2)) (g7 k cs)⟩
    · rename_i hc
      obtain ⟨X, x1, x2⟩ := opd_sound hf hc
      simp only [conc] at x1; injection x1 with x1; subst x1
      obtain ⟨e, fr1, h1, hm, μ1, a1, w1, g1, g2, g3, g4, g5, g6, g7⟩ := ok.code _ _ _ _ hrun μ a w b hh hf hctx
      exact ⟨e, fr1, h1, hm, μ1, a1, w1, g1, g2, g3, g4, g5, g6, fun k cs => Arr.of_steps (.one (st_cond x2)) (g7 k cs)⟩
    · cases hrun
  · rename_i id body
    obtain ⟨l, hl, hcont⟩ := rbind_some hrun
    obtain ⟨e, fr1, h1, hm, μ1, a1, w1, g1, g2, g3, g4, g5, g6, g7⟩ := ok.code _ _ _ _ hl μ a w b hh hf hctx
    obtain ⟨o1, hc, hsub⟩ := hcont _ hm
    cases e with
    | normal =>
      simp only at hc
      obtain rfl := rone_some hc
      exact ⟨.normal, fr1, h1, hsub _ (List.mem_singleton.2 rfl), μ1, a1, w1, g1, g2, g3, g4, g5, g6, fun k cs => .head st_block (Steps.trans (g7 _ cs) (.one st_inBlock))⟩
    | exit id' =>
      simp only at hc
      cases hid : Nat.beq id id' with
      | true =>
        have := Nat.eq_of_beq_eq_true hid
        subst this
        simp only [hid, cond_true] at hc
        obtain rfl := rone_some hc
        refine ⟨.normal, fr1, h1, hsub _ (List.mem_singleton.2 rfl), μ1, a1, w1, g1, g2, g3, g4, g5, g6, fun k cs => ?_⟩
        obtain ⟨k2, e1, e2⟩ := g7 (.inBlock id :: k) cs
        refine .head st_block (e2.trans (.one (st_exit ?_)))
        rw [e1]; simp [exitTo]
      | false =>
        simp only [hid, cond_false] at hc
        obtain rfl := rone_some hc
        refine ⟨.exit id', fr1, h1, hsub _ (List.mem_singleton.2 rfl), μ1, a1, w1, g1, g2, g3, g4, g5, g6, fun k cs => ?_⟩
        obtain ⟨k2, e1, e2⟩ := g7 (.inBlock id :: k) cs
        refine ⟨k2, ?_, .head st_block e2⟩
        have hne : (id == id') = false := by simp; rintro rfl; simp at hid
        rw [e1]; simp [exitTo, hne]
    | ret =>
      simp only at hc
      obtain rfl := rone_some hc
      refine ⟨.ret, fr1, h1, hsub _ (List.mem_singleton.2 rfl), μ1, a1, w1, g1, g2, g3, g4, g5, g6, fun k cs => ?_⟩
      obtain ⟨k2, e2⟩ := g7 (.inBlock id :: k) cs
      exact ⟨k2, .head st_block e2⟩
  · rename_i body
    obtain ⟨l, hl, hcont⟩ := rbind_some hrun
    obtain ⟨e, fr1, h1, hm, μ1, a1, w1, g1, g2, g3, g4, g5, g6, g7⟩ := ok.code _ _ _ _ hl μ a w b hh hf hctx
    obtain ⟨o1, hc, hsub⟩ := hcont _ hm
    cases e with
    | normal =>
      simp only at hc
      obtain ⟨e2, fr2, h2, hm2, μ2, a2, w2, q1, q2, q3, q4, q5, q6, q7⟩ := ok.code _ _ _ _ hc μ1 a1 w1 b g2 g3 (hctx.le g1.le g4 g5)
      exact ⟨e2, fr2, h2, hsub _ hm2, μ2, a2, w2, g1.trans q1, q2, q3, q4.trans g4, q5.trans g5, q6.trans g6, fun k cs => Arr.of_steps (.head st_loop (g7 _ cs)) (q7 k cs).loop⟩
    | exit id =>
      simp only at hc
      obtain rfl := rone_some hc
      refine ⟨.exit id, fr1, h1, hsub _ (List.mem_singleton.2 rfl), μ1, a1, w1, g1, g2, g3, g4, g5, g6, fun k cs => ?_⟩
      obtain ⟨k2, e1, e2⟩ := g7 (.inLoop body :: k) cs
      exact ⟨k2, e1, .head st_loop e2⟩
    | ret =>
      simp only at hc
      obtain rfl := rone_some hc
      refine ⟨.ret, fr1, h1, hsub _ (List.mem_singleton.2 rfl), μ1, a1, w1, g1, g2, g3, g4, g5, g6, fun k cs => ?_⟩
      obtain ⟨k2, e2⟩ := g7 (.inLoop body :: k) cs
      exact ⟨k2, .head st_loop e2⟩
  · rename_i id
    obtain rfl := rone_some hrun
    exact ⟨.exit id, fr, h, List.mem_singleton.2 rfl, μ, a, w, Grows.refl _ _, hh, hf, rfl, rfl, rfl, fun k _ => ⟨k, rfl, .refl _ _⟩⟩
  · obtain rfl := rone_some hrun
    exact ⟨.ret, fr, h, List.mem_singleton.2 rfl, μ, a, w, Grows.refl _ _, hh, hf, rfl, rfl, rfl, fun k _ => ⟨k, .refl _ _⟩⟩
  · rename_i body
    obtain ⟨e, fr1, h1, hm, μ1, a1, w1, g1, g2, g3, g4, g5, g6, g7⟩ := ok.code _ _ _ _ hrun μ a w b hh hf hctx
    cases e with
    | normal => exact ⟨.normal, fr1, h1, hm, μ1, a1, w1, g1, g2, g3, g4, g5, g6, fun k cs => .head st_scope (Steps.trans (g7 _ cs) (.one st_inScope))⟩
    | exit id =>
      refine ⟨.exit id, fr1, h1, hm, μ1, a1, w1, g1, g2, g3, g4, g5, g6, fun k cs => ?_⟩
      obtain ⟨k2, e1, e2⟩ := g7 (.inScope body :: k) cs
      exact ⟨k2, e1, .head st_scope e2⟩
    | ret =>
      refine ⟨.ret, fr1, h1, hm, μ1, a1, w1, g1, g2, g3, g4, g5, g6, fun k cs => ?_⟩
      obtain ⟨k2, e2⟩ := g7 (.inScope body :: k) cs
      exact ⟨k2, .head st_scope e2⟩
  · exact absurd rfl (hrf _ _ _ _)
  · cases hrun
end
end Go.Ev
