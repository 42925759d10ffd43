/- Calls; the evaluator's word holds. -/
import Derived.Test.YtloblhhnlaaajaaDoorEv26
namespace Go.Ev
open Go

def RetFr (b : Fb) (a : Act) (todo : List Item) : Frame := { FrR b a todo with mode := .returning }

section
variable {P : Program} {E : Env} {ρ : Rho} {ih : Rec} {μ : Mu}

theorem st_end {b : Fb} (hb : b.roundOf = none) {a : Act} {cs : List Frame} {w : World} : step P (lone (FrR b a []) cs w) = .next (lone (RetFr b a []) cs w) :=
  step_lone_go (by simp [stepG, stepG.exec, FrR, RetFr, hb])
theorem st_ret {b : Fb} (hb : b.roundOf = none) {a : Act} {k : List Item} {cs : List Frame} {w : World} : step P (lone (FrR b a (.code .ret :: k)) cs w) = .next (lone (RetFr b a (.code .ret :: k)) cs w) :=
  step_lone_go (by simp [stepG, stepG.exec, FrR, RetFr, hb])

theorem st_collect {b : Fb} {tmps : Array Value} {ds : List Deferred} {r : Nat} {todo : List Item} {cs : List Frame} {w : World} (h : w.heap[r]? = some (.deferred (some []))) :
    step P (lone (RetFr b ⟨tmps, { target := .collected r, args := #[] } :: ds⟩ todo) cs w) = .next (lone (RetFr b ⟨tmps, ds⟩ todo) cs (World.at_ w r (.deferred none))) := by
  have ht : (Instr.takeDeferred r).run P w = .ok [] (World.at_ w r (.deferred none)) := by simp [Instr.takeDeferred, getObj, setObj, Sem.run, h, World.at_]
  exact step_lone_go (by simp [stepG, unwind, FrR, RetFr, ht])

theorem st_leave {b : Fb} (hk : b.kind = .normal) {tmps : Array Value} {todo : List Item} {c : Frame} {cs : List Frame} {w w' : World} {fn : Func} {X : Value} (hf : P.funcs[b.fn]? = some fn) (hr : (results fn tmps).run P w = .ok X w') :
    step P (lone (RetFr b ⟨tmps, []⟩ todo) (c :: cs) w) = .next (lone (c.finish X) cs w') :=
  step_lone_go (by simp [stepG, unwind, FrR, RetFr, hf, hr, doReturn, hk])

theorem marks_sound : ∀ {mks : List D} {l : List Deferred} {h h' : H} {w : World}, DR μ mks l → endMarks mks h = some h' → HR E ρ μ h w → ∃ w', Grows μ w μ w' ∧ HR E ρ μ h' w' ∧
    ∀ (b : Fb) (tmps : Array Value) (todo : List Item) (cs : List Frame), Steps P (lone (RetFr b ⟨tmps, l⟩ todo) cs w) (lone (RetFr b ⟨tmps, []⟩ todo) cs w')
  | [], _, h, h', w, .nil, he, hh => by
    injection he with he; subst he
    exact ⟨w, Grows.refl _ _, hh, fun _ _ _ _ => .refl _ _⟩
  | .mark db :: mks, _, h, h', w, .mark (x := x) (l := l) hx k, he, hh => by
    simp only [endMarks] at he
    split at he
    · rename_i hb
      obtain ⟨o, o1, o2⟩ := blk_of hh hb hx
      cases o2
      have hch : HR E ρ μ (h.put db (.defs true)) (World.at_ w x.1 (.deferred none)) :=
        HR.change hh hb hx (.defs (taken := true)) at_size (fun g hg => at_other hg) (at_same (lt_of_some o1))
      have hgr : Grows μ w μ (World.at_ w x.1 (.deferred none)) := Grows.change hx at_size (fun g hg => at_other hg) rfl rfl rfl
      obtain ⟨w', g1, g2, g3⟩ := marks_sound k he hch
      exact ⟨w', hgr.trans g1, g2, fun b tmps todo cs => .head (st_collect (by simpa using o1)) (g3 b tmps todo cs)⟩
    · cases he

def readR (tmps : Array Value) : ResultVar → Sem Value
  | .tmp t => pure (tmps.getD t undef)
  | .cell p t => do loadVar t (← asAddr (tmps.getD p undef))
theorem results_eq (fn : Func) (tmps : Array Value) : results fn tmps = (do let vs ← fn.results.mapM (readR tmps); pure (if h : vs.size = 1 then vs[0] else .tuple vs)) := by
  unfold results
  congr 1

theorem res_sound (hE : EnvOk P E) {h : H} {w : World} {fr : Fr} {a : Act} (hh : HR E ρ μ h w) (hf : FR ρ μ fr a) : ∀ {rs : List ResultVar} {vs : List V}, resV E fr h rs = some vs →
    ∃ L, concL ρ μ vs = some L ∧ (rs.mapM (readR a.tmps)).run P w = .ok L w
  | [], vs, he => by
    injection he with he; subst he
    exact ⟨[], by simp [concL], by simp⟩
  | r :: rs, vs, he => by
    simp only [resV] at he
    split at he
    · cases he
    · rename_i v hv
      split at he
      · cases he
      · rename_i vs' hvs
        injection he with he; subst he
        obtain ⟨L, l1, l2⟩ := res_sound hE hh hf hvs
        have fin : ∀ X, conc ρ μ v = some X → (readR a.tmps r).run P w = .ok X w → ∃ L, concL ρ μ (v :: vs') = some L ∧ ((r :: rs).mapM (readR a.tmps)).run P w = .ok L w := fun X x1 x2 =>
          ⟨X :: L, concL_mk x1 l1, by simp only [List.mapM_cons, Sem.run_bind, x2, Result.andThen_ok, l2, Sem.run_pure]⟩
        cases r with
        | tmp t =>
          simp only at hv
          obtain ⟨X, x1, x2⟩ := hf.tmps t v hv
          exact fin X x1 (by simp [readR, x2])
        | cell p t =>
          simp only at hv
          split at hv
          · rename_i bb o hp
            obtain ⟨X, x1, x2⟩ := hf.tmps _ _ hp
            obtain ⟨z, hz, rfl⟩ := conc_ptr x1
            obtain ⟨Y, y1, y2⟩ := run_load' hE hh hv hz
            have hld : (loadVar t ⟨z.1, o, none⟩).run P w = .ok Y w := by
              simpa [Instr.loadAt, Instr.sureAddr] using y2
            exact fin Y y1 (by simp [readR, x2, asAddr, hld])
          · cases hv

theorem results_sound (hE : EnvOk P E) {h : H} {w : World} {fr : Fr} {a : Act} (hh : HR E ρ μ h w) (hf : FR ρ μ fr a) {fn : Func} {vs : List V} (hr : resV E fr h fn.results.toList = some vs) :
    ∃ X, conc ρ μ (oneOf vs) = some X ∧ (results fn a.tmps).run P w = .ok X w := by
  obtain ⟨L, l1, l2⟩ := res_sound (P := P) hE hh hf hr
  have hmap : (fn.results.mapM (readR a.tmps)).run P w = .ok L.toArray w := by
    rw [Array.mapM_eq_mapM_toList]
    simp only [Sem.run_map, l2, Result.andThen_ok]
  have hlen := concL_length l1
  rw [results_eq]
  match vs, L, l1, hlen with
  | [], [], _, _ => exact ⟨.tuple #[], by simp [oneOf, conc, concL], by rw [Sem.run_bind, hmap]; simp⟩
  | [v], [X], l1, _ =>
    obtain ⟨x, l, e, hx, hl⟩ := concL_cons l1
    injection e with e1 e2
    subst e1
    exact ⟨X, by simpa [oneOf] using hx, by rw [Sem.run_bind, hmap]; simp⟩
  | v :: u :: vs, X :: Y :: L, l1, _ =>
    refine ⟨.tuple (X :: Y :: L).toArray, by simp [oneOf, conc, l1], ?_⟩
    rw [Sem.run_bind, hmap]
    simp

/-- A function with a body: what it comes to. -/
theorem call_leaves (hE : EnvOk P E) (ok : RecOk P E ρ ih) {f : Nat} {i : FI} (hi : E.fns.get f = some i) {args : List V} {h : H} {outs : List (V × H)} (hrun : stepCall E ih f args h = some outs) {w : World} {A : List Value} (hh : HR E ρ μ h w) (ha : concL ρ μ args = some A) :
    (callFunc f A.toArray).run P w = .ok (.enter f A.toArray) w ∧ ∃ v h', (v, h') ∈ outs ∧ ∃ μ' X w', Grows μ w μ' w' ∧ HR E ρ μ' h' w' ∧ conc ρ μ' v = some X ∧
      ∀ cs, ∃ fr, Steps P (lone (Frame.enter P f A.toArray .normal) cs w) (lone fr cs w') ∧ fr.fn = f ∧ fr.leaving P w' (.returned X) := by
  unfold stepCall at hrun
  rw [hi] at hrun
  simp only at hrun
  obtain ⟨hle, hrun⟩ := bif_some hrun
  have hle := Nat.le_of_ble_eq_true hle
  obtain ⟨fn, n1, n2, n3, n4, n5⟩ := hE.fns f i hi
  have hcall : (callFunc f A.toArray).run P w = .ok (.enter f A.toArray) w := by
    have hprog : (program).run P w = .ok P w := rfl
    simp only [callFunc, Sem.run_bind, hprog, Result.andThen_ok, n1, n5, Bool.false_eq_true, if_false, n2, Option.isNone_some, Sem.run_pure]
  have hAl := concL_length ha
  let b : Fb := ⟨f, .normal, none⟩
  let a0 : Act := ⟨A.toArray ++ Array.replicate (fn.ntmps - A.toArray.size) undef, []⟩
  have hf0 : FR ρ μ { ts := T.putL .lf 0 args, nt := i.nt, mks := [], fn := f, rnd := none } a0 := by
    refine ⟨fun t v hv => ?_, ?_, .nil⟩
    · simp only [T.get_putL, T.get_lf] at hv
      split at hv
      · rename_i ht
        rw [Nat.sub_zero] at hv
        obtain ⟨X, x1, x2⟩ := concL_get ha hv
        refine ⟨X, x2, ?_⟩
        have hlt : t < A.toArray.size := by simp; omega
        simp only [a0]
        rw [Array.getElem?_append_left hlt]
        simpa using x1
      · cases hv
    · simp only [a0, Array.size_append, Array.size_replicate, List.size_toArray]
      omega
  obtain ⟨l, hl, hcont⟩ := rbind_some hrun
  obtain ⟨e1, fr1, h1, hm1, μ1, a1, w1, g1, g2, g3, g4, g5, g6, g7⟩ := ok.code _ _ _ _ hl μ a0 w b hh hf0 ⟨rfl, rfl⟩
  obtain ⟨o1, hc, hsub⟩ := hcont _ hm1
  have main : e1 ≠ .normal → e1 ≠ .ret → False := by
    intro q1 q2
    cases e1 with
    | normal => exact q1 rfl
    | exit id => cases hc
    | ret => exact q2 rfl
  have hc' : (match endMarks fr1.mks h1 with
        | none => none
        | some h => (match resV E fr1 h i.res with
          | some vs => rone (oneOf vs, h)
          | none => none)) = some o1 := by
    cases e1 with
    | normal => exact hc
    | exit id => cases hc
    | ret => exact hc
  split at hc'
  · cases hc'
  · rename_i h2 he
    split at hc'
    · rename_i vs hvs
      obtain rfl := rone_some hc'
      obtain ⟨w2, q1, q2, q3⟩ := marks_sound (P := P) g3.defs he g2
      rw [n4] at hvs
      have g3' : FR ρ μ1 { fr1 with mks := [] } ⟨a1.tmps, []⟩ := ⟨g3.tmps, g3.size, .nil⟩
      obtain ⟨X, x1, x2⟩ := results_sound (P := P) hE q2 g3' (fn := fn) (vs := vs) (by
        have : ∀ rs, resV E { fr1 with mks := [] } h2 rs = resV E fr1 h2 rs := by
          intro rs
          induction rs with
          | nil => rfl
          | cons r rs ih => simp only [resV, ih]
        rw [this]; exact hvs)
      refine ⟨hcall, _, _, hsub _ (List.mem_singleton.2 rfl), μ1, X, w2, g1.trans q1, q2, x1, fun cs => ?_⟩
      have hstart : Frame.enter P f A.toArray .normal = FrR b a0 [.code i.body] := by
        simp [Frame.enter, n1, n2, FrR, b, a0]
      rw [hstart]
      have s1 := g7 [] cs
      have fin : ∀ todo, Steps P (lone (RetFr b a1 todo) cs w1) (lone (RetFr b ⟨a1.tmps, []⟩ todo) cs w2) := fun todo => q3 b a1.tmps todo cs
      have lv : ∀ todo, (RetFr b ⟨a1.tmps, []⟩ todo).leaving P w2 (.returned X) := fun todo => ⟨rfl, rfl, rfl, fn, n1, x2⟩
      cases e1 with
      | normal => exact ⟨_, s1.trans (.head (st_end rfl) (fin _)), rfl, lv _⟩
      | exit id => exact (main (by simp) (by simp)).elim
      | ret =>
        obtain ⟨k2, s2⟩ := s1
        exact ⟨_, s2.trans (.head (st_ret rfl) (fin _)), rfl, lv _⟩
    · cases hc'

theorem call_sound (hE : EnvOk P E) (ok : RecOk P E ρ ih) {f : Nat} {args : List V} {h : H} {outs : List (V × H)} (hrun : stepCall E ih f args h = some outs) {w : World} {A : List Value} (hh : HR E ρ μ h w) (ha : concL ρ μ args = some A) :
    Res P E ρ μ w (callFunc f A.toArray) outs := by
  cases hi : E.fns.get f with
  | none =>
    unfold stepCall at hrun
    rw [hi] at hrun
    simp only at hrun
    split at hrun
    · rename_i k hk
      obtain ⟨v, h1, rfl⟩ := rv_some hrun
      obtain ⟨Y, y1, y2⟩ := hE.exts f k hk ρ μ args A v h1 ha
      exact Res.of_val hh y1 (y2 w)
    · cases hrun
  | some i =>
    obtain ⟨hcall, v, h', hm, μ', X, w', g1, g2, g3, g4⟩ := call_leaves hE ok hi hrun hh ha
    refine ⟨v, h', hm, μ', X, w', g1, g2, g3, .inr (.inr (.inl ⟨f, A.toArray, w, hcall, fun c cs => ?_⟩))⟩
    obtain ⟨fr, s1, _, s2⟩ := g4 (c :: cs)
    exact s1.trans (.one (step_leave_returned s2))

theorem stepRec_ok (hE : EnvOk P E) (hp : Plain ρ) (ok : RecOk P E ρ ih) : RecOk P E ρ (stepRec E ih) := by
  refine ⟨fun f args h outs hrun μ w A hh ha => call_sound hE ok hrun hh ha, fun l args h outs hrun μ w A y hh hy ha => yield_sound ok hrun hh hy ha, fun c fr h outs hrun μ a w b hh hf hctx => ?_⟩
  cases hc : c with
  | rangeFunc f ps asg body => subst hc; exact range_sound ok hrun b hh hf hctx
  | _ => exact hc ▸ code_plain hE hp ok hrun (fun f ps asg body q => by rw [hc] at q; cases q) b hh hf hctx

theorem ev_ok (hE : EnvOk P E) (hp : Plain ρ) : ∀ n, RecOk P E ρ (ev E n)
  | 0 => ⟨(fun _ _ _ _ h => by cases h), (fun _ _ _ _ h => by cases h), (fun _ _ _ _ h => by cases h)⟩
  | n + 1 => stepRec_ok hE hp (ev_ok hE hp n)
end
end Go.Ev
