/- The relation between an abstract state and the machine's, and how each change of memory keeps it. -/
import Derived.Test.YtloblhhnlaaajaaDoorEv3
namespace Go.Ev
open Go

/-- What a program must be for what the evaluator knows of it. -/
structure EnvOk (P : Program) (E : Env) : Prop where
  tys : ∀ t i, E.tys.get t = some i → TI.of P t = some i
  fns : ∀ f i, E.fns.get f = some i → ∃ fn, P.funcs[f]? = some fn ∧ fn.body = some i.body ∧ i.nt = fn.ntmps ∧ i.res = fn.results.toList ∧ (fn.name == "runtime.NumGoroutine") = false
  meths : ∀ t n f, methOf t n E.meths = some f → ∀ v w, (method (P.types.size + Made.depth) t v n).run P w = .ok (f, v) w
  eqs : ∀ ty, E.eqs.contains ty = true → ∀ (ρ : Rho) (μ : Mu) xs ys b X Y, scalarsEq xs ys = some b → concL ρ μ xs = some X → concL ρ μ ys = some Y →
    P.eqGuardType P.depth ty = false ∧ ∀ w, (Op.equal ty (.agg X.toArray) (.agg Y.toArray)).run P w = .ok b w
  exts : ∀ f k, extOf f E.exts = some k → ∀ (ρ : Rho) (μ : Mu) args X v, extV k args = some v → concL ρ μ args = some X →
    ∃ Y, conc ρ μ v = some Y ∧ ∀ w, (callFunc f X.toArray).run P w = .ok (.value Y) w
  mixed : P.follows .mixedOrders = true

section
variable {P : Program} {E : Env} {ρ : Rho}

theorem EnvOk.ty (hE : EnvOk P E) {t : Nat} {i : TI} (h : E.tys.get t = some i) :
    ∃ inf z v, P.info? t = some inf ∧ P.underlying t = some i.desc ∧ inf.size = i.size ∧ inf.bytes = i.bytes ∧ inf.zero = some z ∧ ofValue z = some v ∧ i.zero = v.cells ∧ i.zv = v ∧ inf.comparable = i.cmp ∧ i.zero.length = i.size := by
  have := hE.tys t i h
  unfold TI.of at this
  split at this
  · rename_i inf d h1 h2
    split at this
    · rename_i z hz
      split at this
      · rename_i v hv
        cases hb : Nat.beq v.cells.length inf.size with
        | false => rw [hb] at this; cases this
        | true =>
          rw [hb] at this
          injection this with this
          subst this
          exact ⟨inf, z, v, h1, h2, rfl, rfl, hz, hv, rfl, rfl, rfl, Nat.eq_of_beq_eq_true hb⟩
      · cases this
    · cases this
  · cases this

/-- What a block's object is. -/
inductive BR (E : Env) (ρ : Rho) (μ : Mu) : B → Nat × Nat → Obj → Prop where
  | cells {t n d elem kind x arr fz} (hc : ∀ j v, cellAt t n d j = some v → ∃ X, conc ρ μ v = some X ∧ arr[j]? = some X)
      (hn : n ≤ arr.size) (h0 : kind = 0 → arr.size = n)
      (ho : kind = 1 ∨ kind = 2 → ∃ i, E.tys.get elem = some i ∧ arr.size = x.2 * i.size)
      (hf : kind ≠ 2 → fz = (0, 0)) (hf2 : kind = 2 → fz = (0, 0) ∨ fz.1 = arr.size) : BR E ρ μ (.cells t n d elem kind) x (.cells arr elem fz)
  | map {es : List (V × V × Nat)} {clock : Nat} {x : Nat × Nat} {arr : Array MapEntry} (he : es.length = arr.size) (hc : ∀ (i : Nat) k v born, es[i]? = some (k, v, born) → ∃ K X, conc ρ μ k = some K ∧ conc ρ μ v = some X ∧ arr[i]? = some (MapEntry.mk K X born)) :
      BR E ρ μ (.map es clock) x (.map arr clock)
  | mapIter {m since seen stepped x m'} (hm : match m with | none => m' = none | some b => ∃ y, μ b = some y ∧ m' = some y.1) :
      BR E ρ μ (.mapIter m since seen stepped) x (.mapIter m' since seen.toArray stepped)
  | strIter {s pos x} : BR E ρ μ (.strIter s pos) x (.stringIter ⟨s.toArray⟩ pos)
  | loop {st pend fn ts nt ps a b d x tmps y} (ht : tmps.size = nt) (hc : ∀ t v, ts.get t = some v → ∃ X, conc ρ μ v = some X ∧ tmps[t]? = some X) (hd : μ d = some y) :
      BR E ρ μ (.loop st pend fn ts nt ps a b d) x (.loop { state := st, pending := pend, fn := fn, tmps := tmps, params := ps.toArray, assign := a, body := b, defers := y.1 })
  | defs {taken x} : BR E ρ μ (.defs taken) x (.deferred (if taken then none else some []))

theorem BR.le {μ μ' : Mu} (h : Le μ μ') {b : B} {x : Nat × Nat} {o : Obj} (k : BR E ρ μ b x o) : BR E ρ μ' b x o := by
  cases k with
  | cells hc hn h0 ho hf hf2 => exact .cells (fun j v e => let ⟨X, h1, h2⟩ := hc j v e; ⟨X, conc_le h _ _ h1, h2⟩) hn h0 ho hf hf2
  | map he hc => exact .map he fun i k v born e => let ⟨K, X, h1, h2, h3⟩ := hc i k v born e; ⟨K, X, conc_le h _ _ h1, conc_le h _ _ h2, h3⟩
  | mapIter hm =>
    refine .mapIter ?_
    split at hm
    · exact hm
    · obtain ⟨y, h1, h2⟩ := hm; exact ⟨y, h _ _ h1, h2⟩
  | strIter => exact .strIter
  | loop ht hc hd => exact .loop ht (fun j v e => let ⟨X, h1, h2⟩ := hc j v e; ⟨X, conc_le h _ _ h1, h2⟩) (h _ _ hd)
  | defs => exact .defs

/-- The abstract memory stands for the machine's. -/
structure HR (E : Env) (ρ : Rho) (μ : Mu) (h : H) (w : World) : Prop where
  blk : ∀ b B, h.t.get b = some B → ∃ x o, μ b = some x ∧ w.heap[x.1]? = some o ∧ BR E ρ μ B x o
  inj : ∀ b b' x x', (h.t.get b).isSome → (h.t.get b').isSome → μ b = some x → μ b' = some x' → b ≠ b' → x.1 ≠ x'.1
  fresh : ∀ b, h.next ≤ b → μ b = none
  inb : ∀ b x, μ b = some x → x.1 < w.heap.size
  glob : ∀ g cs, E.globs.get g = some cs → (∃ arr e fz X, w.heap[g]? = some (.cells arr e fz) ∧ concL ρ (fun _ => none) cs = some X ∧ ∀ (j : Nat) x, X[j]? = some x → arr[j]? = some x) ∧ ∀ b x, μ b = some x → x.1 ≠ g

/-- How the machine's memory may have gone on. -/
structure Grows (μ : Mu) (w : World) (μ' : Mu) (w' : World) : Prop where
  le : Le μ μ'
  new : ∀ b x, μ' b = some x → μ b = some x ∨ w.heap.size ≤ x.1 ∨ ∃ b0 x0, μ b0 = some x0 ∧ x0.1 = x.1
  os : w'.os = w.os
  tape : w'.tape = w.tape
  output : w'.output = w.output
  size : w.heap.size ≤ w'.heap.size
  block : ∀ g, g < w.heap.size → (∀ b x, μ b = some x → x.1 ≠ g) → w'.heap[g]? = w.heap[g]?

theorem Grows.refl (μ : Mu) (w : World) : Grows μ w μ w := ⟨Le.refl μ, fun _ _ h => .inl h, rfl, rfl, rfl, Nat.le_refl _, fun _ _ _ => rfl⟩
theorem Grows.trans {μ μ1 μ2 : Mu} {w w1 w2 : World} (h : Grows μ w μ1 w1) (k : Grows μ1 w1 μ2 w2) : Grows μ w μ2 w2 := by
  refine ⟨h.le.trans k.le, fun b x e => ?_, k.os.trans h.os, k.tape.trans h.tape, k.output.trans h.output, Nat.le_trans h.size k.size, fun g hg hn => ?_⟩
  · rcases k.new b x e with e1 | e1 | ⟨b0, x0, e1, e2⟩
    · exact h.new b x e1
    · exact .inr (.inl (Nat.le_trans h.size e1))
    · rcases h.new b0 x0 e1 with e3 | e3 | ⟨b1, x1, e3, e4⟩
      · exact .inr (.inr ⟨b0, x0, e3, e2⟩)
      · exact .inr (.inl (by omega))
      · exact .inr (.inr ⟨b1, x1, e3, by omega⟩)
  · rw [k.block g (Nat.lt_of_lt_of_le hg h.size) ?_]
    · exact h.block g hg hn
    · intro b x e hx
      rcases h.new b x e with e1 | e1 | ⟨b0, x0, e1, e2⟩
      · exact hn b x e1 hx
      · omega
      · exact hn b0 x0 e1 (by omega)

/-- The world went on without a change of memory. -/
theorem Grows.same {μ : Mu} {w w' : World} (hh : w'.heap = w.heap) (ho : w'.os = w.os) (ht : w'.tape = w.tape) (hp : w'.output = w.output) : Grows μ w μ w' :=
  ⟨Le.refl μ, fun _ _ h => .inl h, ho, ht, hp, by rw [hh]; exact Nat.le_refl _, fun _ _ _ => by rw [hh]⟩
theorem HR.same {μ : Mu} {h : H} {w w' : World} (k : HR E ρ μ h w) (hh : w'.heap = w.heap) : HR E ρ μ h w' :=
  ⟨by rw [hh]; exact k.blk, k.inj, k.fresh, by rw [hh]; exact k.inb, by rw [hh]; exact k.glob⟩

def Mu.put (μ : Mu) (b : Nat) (x : Nat × Nat) : Mu := fun c => if c = b then some x else μ c
theorem Mu.put_same (μ : Mu) (b : Nat) (x : Nat × Nat) : μ.put b x b = some x := by simp [Mu.put]
theorem Mu.put_other (μ : Mu) {b c : Nat} (x : Nat × Nat) (h : c ≠ b) : μ.put b x c = μ c := by simp [Mu.put, h]
theorem Mu.le_put {μ : Mu} {b : Nat} (x : Nat × Nat) (h : μ b = none) : Le μ (μ.put b x) := by
  intro c y hy
  rw [Mu.put_other]
  · exact hy
  · rintro rfl; rw [h] at hy; cases hy

/-- A new block. -/
theorem HR.alloc {μ : Mu} {h : H} {w w' : World} {B : B} {o : Obj} {cap : Nat} (k : HR E ρ μ h w)
    (hb : BR E ρ (μ.put h.next (w.heap.size, cap)) B (w.heap.size, cap) o) (hw : w'.heap = w.heap.push o) :
    HR E ρ (μ.put h.next (w.heap.size, cap)) (h.new B).2 w' := by
  have hfr : μ h.next = none := k.fresh _ (Nat.le_refl _)
  have hle := Mu.le_put (μ := μ) (w.heap.size, cap) hfr
  have old : ∀ b x, μ b = some x → (μ.put h.next (w.heap.size, cap)) b = some x := hle
  have size : w'.heap.size = w.heap.size + 1 := by rw [hw]; simp
  have look : ∀ g, g < w.heap.size → w'.heap[g]? = w.heap[g]? := fun g hg => by rw [hw, Array.getElem?_push, if_neg (by omega)]
  refine ⟨fun b B' hB' => ?_, fun b b' x x' hb1 hb2 h1 h2 hne => ?_, fun b hb' => ?_, fun b x hx => ?_, fun g cs hg => ?_⟩
  · simp only [H.new, T.get_set] at hB'
    by_cases e : b = h.next
    · rw [if_pos e] at hB'
      injection hB' with hB'
      subst hB' e
      exact ⟨_, o, Mu.put_same _ _ _, by rw [hw]; simp, hb⟩
    · rw [if_neg e] at hB'
      obtain ⟨x, o', h1, h2, h3⟩ := k.blk b B' hB'
      exact ⟨x, o', old b x h1, by rw [look _ (k.inb b x h1)]; exact h2, h3.le hle⟩
  · simp only [H.new, T.get_set] at hb1 hb2
    by_cases e : b = h.next
    · subst e
      rw [Mu.put_same] at h1
      injection h1 with h1
      rw [Mu.put_other _ _ (Ne.symm hne)] at h2
      have := k.inb _ _ h2
      rw [← h1]; show w.heap.size ≠ _; omega
    · by_cases e' : b' = h.next
      · subst e'
        rw [Mu.put_same] at h2
        injection h2 with h2
        rw [Mu.put_other _ _ e] at h1
        have := k.inb _ _ h1
        rw [← h2]; show _ ≠ w.heap.size; omega
      · rw [if_neg e] at hb1
        rw [if_neg e'] at hb2
        rw [Mu.put_other _ _ e] at h1
        rw [Mu.put_other _ _ e'] at h2
        exact k.inj b b' x x' hb1 hb2 h1 h2 hne
  · have hb'' : h.next + 1 ≤ b := hb'
    rw [Mu.put_other _ _ (by omega)]
    exact k.fresh b (by omega)
  · rw [size]
    by_cases e : b = h.next
    · subst e; rw [Mu.put_same] at hx; injection hx with hx; rw [← hx]; show w.heap.size < _; omega
    · rw [Mu.put_other _ _ e] at hx; have := k.inb b x hx; omega
  · obtain ⟨⟨arr, e, fz, X, h1, h2, h3⟩, h4⟩ := k.glob g cs hg
    have hg' : g < w.heap.size := by
      rcases Nat.lt_or_ge g w.heap.size with h | h
      · exact h
      · rw [Array.getElem?_eq_none h] at h1; cases h1
    refine ⟨⟨arr, e, fz, X, by rw [look g hg']; exact h1, h2, h3⟩, fun b x hx => ?_⟩
    by_cases e : b = h.next
    · subst e; rw [Mu.put_same] at hx; injection hx with hx; rw [← hx]; show w.heap.size ≠ g; omega
    · rw [Mu.put_other _ _ e] at hx; exact h4 b x hx

theorem Grows.alloc {μ : Mu} {h : H} {w w' : World} {o : Obj} (k : HR E ρ μ h w) (cap : Nat) (hw : w'.heap = w.heap.push o) (ho : w'.os = w.os) (ht : w'.tape = w.tape) (hp : w'.output = w.output) :
    Grows μ w (μ.put h.next (w.heap.size, cap)) w' := by
  refine ⟨Mu.le_put _ (k.fresh _ (Nat.le_refl _)), fun b x hx => ?_, ho, ht, hp, by rw [hw]; simp, fun g hg _ => by rw [hw, Array.getElem?_push, if_neg (by omega)]⟩
  by_cases e : b = h.next
  · subst e; rw [Mu.put_same] at hx; injection hx with hx; rw [← hx]; exact .inr (.inl (Nat.le_refl _))
  · rw [Mu.put_other _ _ e] at hx; exact .inl hx

/-- A block that is known has become another. -/
theorem HR.change {μ : Mu} {h : H} {w w' : World} {b : Nat} {B0 B1 : B} {x : Nat × Nat} {o : Obj} (k : HR E ρ μ h w) (h0 : h.t.get b = some B0) (hx : μ b = some x)
    (hb : BR E ρ μ B1 x o) (hs : w'.heap.size = w.heap.size) (hsame : ∀ g, g ≠ x.1 → w'.heap[g]? = w.heap[g]?) (hat : w'.heap[x.1]? = some o) : HR E ρ μ (h.put b B1) w' := by
  have live : ∀ c, ((h.put b B1).t.get c).isSome → (h.t.get c).isSome := by
    intro c hc
    simp only [H.put, T.get_set] at hc
    by_cases e : c = b
    · subst e; rw [h0]; rfl
    · rwa [if_neg e] at hc
  refine ⟨fun c B' hB' => ?_, fun c c' y y' hc hc' h1 h2 hne => k.inj c c' y y' (live c hc) (live c' hc') h1 h2 hne, k.fresh, fun c y hy => by rw [hs]; exact k.inb c y hy, fun g cs hg => ?_⟩
  · simp only [H.put, T.get_set] at hB'
    by_cases e : c = b
    · rw [if_pos e] at hB'
      injection hB' with hB'
      subst hB' e
      exact ⟨x, o, hx, hat, hb⟩
    · rw [if_neg e] at hB'
      obtain ⟨y, o', h1, h2, h3⟩ := k.blk c B' hB'
      refine ⟨y, o', h1, ?_, h3⟩
      rw [hsame]
      · exact h2
      · exact k.inj c b y x (by rw [hB']; rfl) (by rw [h0]; rfl) h1 hx e
  · obtain ⟨⟨arr, e, fz, X, h1, h2, h3⟩, h4⟩ := k.glob g cs hg
    exact ⟨⟨arr, e, fz, X, by rw [hsame g (fun e => h4 b x hx e.symm)]; exact h1, h2, h3⟩, h4⟩

theorem Grows.change {μ : Mu} {w w' : World} {b : Nat} {x : Nat × Nat} (hx : μ b = some x) (hs : w'.heap.size = w.heap.size) (hsame : ∀ g, g ≠ x.1 → w'.heap[g]? = w.heap[g]?)
    (ho : w'.os = w.os) (ht : w'.tape = w.tape) (hp : w'.output = w.output) : Grows μ w μ w' :=
  ⟨Le.refl μ, fun _ _ h => .inl h, ho, ht, hp, by omega, fun g _ hn => hsame g (fun e => hn b x hx e.symm)⟩

/-- The deferred calls of a frame. -/
inductive DR (μ : Mu) : List D → List Deferred → Prop where
  | nil : DR μ [] []
  | mark {b x r l} (h : μ b = some x) (k : DR μ r l) : DR μ (.mark b :: r) ({ target := .collected x.1, args := #[] } :: l)
theorem DR.le {μ μ' : Mu} (h : Le μ μ') : ∀ {m : List D} {l : List Deferred}, DR μ m l → DR μ' m l
  | _, _, .nil => .nil
  | _, _, .mark hb k => .mark (h _ _ hb) (DR.le h k)

/-- A frame stands for a frame's temporaries and deferred calls. -/
structure FR (ρ : Rho) (μ : Mu) (fr : Fr) (a : Act) : Prop where
  tmps : ∀ t v, fr.ts.get t = some v → ∃ X, conc ρ μ v = some X ∧ a.tmps[t]? = some X
  size : a.tmps.size = fr.nt
  defs : DR μ fr.mks a.defers
theorem FR.le {μ μ' : Mu} (h : Le μ μ') {fr : Fr} {a : Act} (k : FR ρ μ fr a) : FR ρ μ' fr a :=
  ⟨fun t v e => let ⟨X, h1, h2⟩ := k.tmps t v e; ⟨X, conc_le h _ _ h1, h2⟩, k.size, k.defs.le h⟩

theorem opd_sound {μ : Mu} {fr : Fr} {a : Act} (k : FR ρ μ fr a) {x : Operand} {v : V} (h : opd fr x = some v) : ∃ X, conc ρ μ v = some X ∧ a.eval x = X := by
  cases x with
  | tmp t =>
    obtain ⟨X, h1, h2⟩ := k.tmps t v h
    exact ⟨X, h1, by simp [Act.eval, h2]⟩
  | const c => exact ⟨c, ofValue_conc h, rfl⟩
  | global g => simp [opd] at h; subst h; exact ⟨_, rfl, rfl⟩
  | func f => simp [opd] at h; subst h; exact ⟨.func (.func f) #[] #[], by simp [conc, concL], rfl⟩

theorem opds_sound {μ : Mu} {fr : Fr} {a : Act} (k : FR ρ μ fr a) : ∀ {l : List Operand} {vs : List V}, opds fr l = some vs → concL ρ μ vs = some (l.map a.eval)
  | [], vs, h => by simp [opds] at h; subst h; simp [concL]
  | x :: r, vs, h => by
    simp only [opds] at h
    cases hx : opd fr x with
    | none => simp [hx] at h
    | some v =>
      cases hr : opds fr r with
      | none => simp [hx, hr] at h
      | some vs' =>
        simp [hx, hr] at h
        subst h
        obtain ⟨X, h1, h2⟩ := opd_sound k hx
        exact concL_mk (by rw [h2]; exact h1) (opds_sound k hr)

theorem FR.put {μ : Mu} {fr fr' : Fr} {a : Act} {dst : Option Nat} {v : V} {X : Value} (k : FR ρ μ fr a) (h : fr.put dst v = some fr') (hv : conc ρ μ v = some X) : FR ρ μ fr' (a.put dst X) := by
  cases dst with
  | none => simp [Fr.put] at h; subst h; exact k
  | some d =>
    simp only [Fr.put] at h
    by_cases hd : d < fr.nt
    · have : Nat.blt d fr.nt = true := by simpa [Nat.blt_eq] using hd
      rw [this] at h
      simp at h
      subst h
      refine ⟨fun t u hu => ?_, by simpa [Act.put] using k.size, k.defs⟩
      simp only [T.get_set] at hu
      by_cases e : t = d
      · rw [if_pos e] at hu; injection hu with hu; subst hu e
        exact ⟨X, hv, by simp [Act.put, k.size, hd]⟩
      · rw [if_neg e] at hu
        obtain ⟨Y, h1, h2⟩ := k.tmps t u hu
        exact ⟨Y, h1, by simp [Act.put, Array.getElem?_setIfInBounds_ne (Ne.symm e), h2]⟩
    · cases hb : Nat.blt d fr.nt with
      | true => exact absurd (by simpa using hb) hd
      | false => rw [hb] at h; simp at h
theorem Fr.put_same {fr fr' : Fr} {dst : Option Nat} {v : V} (h : fr.put dst v = some fr') : fr'.nt = fr.nt ∧ fr'.mks = fr.mks ∧ fr'.fn = fr.fn ∧ fr'.rnd = fr.rnd := by
  cases dst with
  | none => simp [Fr.put] at h; subst h; exact ⟨rfl, rfl, rfl, rfl⟩
  | some d =>
    simp only [Fr.put] at h
    cases hb : Nat.blt d fr.nt <;> simp [hb] at h
    subst h; exact ⟨rfl, rfl, rfl, rfl⟩
end
end Go.Ev
