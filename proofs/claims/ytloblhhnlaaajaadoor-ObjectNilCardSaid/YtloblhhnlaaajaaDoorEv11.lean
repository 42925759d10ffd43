/- New blocks: variables, structs, slices. -/
import Derived.Test.YtloblhhnlaaajaaDoorEv10
namespace Go.Ev
open Go

section
variable {P : Program} {E : Env} {ρ : Rho} {μ : Mu}

theorem cellAt_row {cs d : List V} (j : Nat) : cellAt (T.putL .lf 0 cs) cs.length d j = cs[j]? := by
  unfold cellAt
  rw [T.get_putL]
  by_cases h : j < cs.length
  · have : Nat.blt j cs.length = true := by simpa using h
    rw [this, if_pos (by omega), Nat.sub_zero, List.getElem?_eq_getElem h]
    rfl
  · have : Nat.blt j cs.length = false := by
      cases hb : Nat.blt j cs.length with
      | false => rfl
      | true => exact absurd (by simpa using hb) h
    rw [this, cond_false]
    exact (List.getElem?_eq_none (by omega)).symm

/-- A new row of closed cells. -/
theorem row_sound {h : H} {w : World} (hh : HR E ρ μ h w) {elem : Nat} {cs : List V} {C : List Value} (hc : concL ρ μ cs = some C) :
    ∃ μ', Grows μ w μ' { w with heap := w.heap.push (.cells C.toArray elem) } ∧ HR E ρ μ' (row h elem cs 0).2 { w with heap := w.heap.push (.cells C.toArray elem) } ∧ μ' (row h elem cs 0).1 = some (w.heap.size, 0) := by
  refine ⟨_, Grows.alloc hh 0 rfl rfl rfl rfl, HR.alloc hh ?_ rfl, Mu.put_same _ _ _⟩
  have hl := concL_length hc
  refine .cells (fun j v hv => ?_) (by simp; omega) (fun _ => by simp; omega) (fun q => by omega) (fun _ => rfl) (fun q => by omega)
  rw [cellAt_row] at hv
  obtain ⟨X, e1, e2⟩ := concL_get hc hv
  exact ⟨X, conc_le (Mu.le_put _ (hh.fresh _ (Nat.le_refl _))) _ _ e2, by simpa using e1⟩

theorem run_newVar {t : Nat} {X : Value} (w : World) : (newVar t X).run P w = .ok ⟨w.heap.size, 0, none⟩ { w with heap := w.heap.push (.cells X.cells t) } := by
  simp [newVar, newRow]

theorem run_box (hp : Plain ρ) {h : H} {w : World} (hh : HR E ρ μ h w) {t : Nat} {v : V} {X : Value} (hv : conc ρ μ v = some X) :
    Rs P E ρ μ w (Instr.box t X) (.ptr (row h t v.cells 0).1 0) (row h t v.cells 0).2 := by
  obtain ⟨μ', g1, g2, g3⟩ := row_sound hh (elem := t) (conc_cells hp hv)
  simp only [Array.toArray_toList] at g1 g2
  exact ⟨μ', .pointer (some ⟨w.heap.size, 0, none⟩), _, g1, g2, by simp only [conc, g3, Option.map_some], by simp [Instr.box, run_newVar]⟩

theorem run_alloc (hE : EnvOk P E) (hp : Plain ρ) {h : H} {w : World} (hh : HR E ρ μ h w) {t : Nat} {i : TI} (hi : E.tys.get t = some i) :
    Rs P E ρ μ w (Instr.alloc t true (.tuple #[])) (.ptr (row h t i.zero 0).1 0) (row h t i.zero 0).2 := by
  obtain ⟨Z, z1, z2, z3, z4⟩ := run_zero (P := P) (ρ := ρ) (μ := μ) hE hi
  rw [z3]
  obtain ⟨μ', g1, g2, g3⟩ := row_sound hh (elem := t) (conc_cells hp z2)
  simp only [Array.toArray_toList] at g1 g2
  exact ⟨μ', .pointer (some ⟨w.heap.size, 0, none⟩), _, g1, g2, by simp only [conc, g3, Option.map_some], by simp [Instr.alloc, z1, run_newVar]⟩

theorem opdPs_sound {fr : Fr} {a : Act} (k : FR ρ μ fr a) : ∀ {l : List (Nat × Operand)} {vs : List (Nat × V)}, opdPs fr l = some vs → vs.length = l.length ∧
    ∀ (j i : Nat) v, vs[j]? = some (i, v) → ∃ X, (l.map fun (i, x) => (i, a.eval x))[j]? = some (i, X) ∧ conc ρ μ v = some X
  | [], vs, h => by simp [opdPs] at h; subst h; exact ⟨rfl, fun j i v e => by simp at e⟩
  | (i, x) :: r, vs, h => by
    simp only [opdPs] at h
    cases hx : opd fr x with
    | none => simp [hx] at h
    | some v =>
      cases hr : opdPs fr r with
      | none => simp [hx, hr] at h
      | some vs' =>
        simp [hx, hr] at h
        subst h
        obtain ⟨X, h1, h2⟩ := opd_sound k hx
        obtain ⟨e1, e2⟩ := opdPs_sound k hr
        refine ⟨by simp [e1], fun j i' v' e => ?_⟩
        cases j with
        | zero => simp at e; obtain ⟨rfl, rfl⟩ := e; exact ⟨X, by simp [h2], h1⟩
        | succ j => obtain ⟨Y, y1, y2⟩ := e2 j i' v' (by simpa using e); exact ⟨Y, by simpa using y1, y2⟩

theorem places_some (hE : EnvOk P E) : ∀ (fs : List Field), (fs.all fun f => (E.tys.get f.type).isSome) = true → ∃ ps, fs.mapM (fun f => (P.info? f.type).map fun i => (f.offset, i.size)) = some ps ∧
    ∀ (j : Nat) f s, fs[j]? = some f → sizeOfT E f.type = some s → ps[j]? = some (f.offset, s)
  | [], _ => ⟨[], by simp, fun j f s h => by simp at h⟩
  | f :: r, h => by
    simp only [List.all_cons, Bool.and_eq_true] at h
    obtain ⟨i, hi⟩ := Option.isSome_iff_exists.1 h.1
    obtain ⟨ps, p1, p3⟩ := places_some hE r h.2
    obtain ⟨inf, z, v, h1, h2, h3, _⟩ := hE.ty hi
    refine ⟨(f.offset, i.size) :: ps, by simp [List.mapM_cons, h1, h3, p1], fun j g s' hj hs' => ?_⟩
    cases j with
    | zero =>
      simp at hj; subst hj
      obtain ⟨i', hi', rfl⟩ := Option.map_eq_some_iff.1 hs'
      rw [hi] at hi'; injection hi' with hi'; subst hi'; rfl
    | succ j => simpa using p3 j g s' (by simpa using hj) hs'

theorem run_build' (hE : EnvOk P E) (hp : Plain ρ) {t : Nat} {i : TI} {fr : Fr} {a : Act} (k : FR ρ μ fr a) {ps : Array (Nat × Operand)} {vs : List (Nat × V)} (hi : E.tys.get t = some i) (hv : opdPs fr ps.toList = some vs) {out : List V}
    (h : (∃ fs, i.desc = .struct fs ∧ (fs.toList.all fun f => (E.tys.get f.type).isSome) = true ∧ fillAll (fun k => match nth fs.toList k with
          | some f => (sizeOfT E f.type).map fun s => (f.offset, s)
          | none => none) i.zero vs = some out) ∨ (∃ n e s, i.desc = .array n e ∧ sizeOfT E e = some s ∧ fillAll (fun k => some (k * s, s)) i.zero vs = some out)) :
    ∃ X, conc ρ μ (.agg out) = some X ∧ ∀ w, (Instr.build t (ps.map fun (i, x) => (i, a.eval x))).run P w = .ok X w := by
  obtain ⟨inf, z, v, h1, h2, h3, h4, h5, h6, h7, h8, h9⟩ := hE.ty hi
  have hz : conc ρ μ v = some z := ofValue_conc h6
  have hzc := conc_cells hp hz
  rw [← h7] at hzc
  obtain ⟨l1, l2⟩ := opdPs_sound k hv
  have e0 : (ps.map fun (i, x) => (i, a.eval x)).toList = ps.toList.map fun (i, x) => (i, a.eval x) := by simp
  rcases h with ⟨fs, hd, hall, hf⟩ | ⟨n, e, s, hd, hs, hf⟩
  · obtain ⟨places, p1, p2⟩ := places_some hE fs.toList hall
    have hpl : ∀ (j : Nat) x, (match nth fs.toList j with
          | some f => (sizeOfT E f.type).map fun s => (f.offset, s)
          | none => none) = some x → places.toArray[j]? = some x := by
      intro j x hj
      rw [nth_eq] at hj
      split at hj
      · rename_i f hf'
        obtain ⟨s, hs, rfl⟩ := Option.map_eq_some_iff.1 hj
        simpa using p2 j f s hf' hs
      · cases hj
    obtain ⟨O, o1, o2⟩ := fillAll_sound hp (place' := (places.toArray[·]?)) (parts' := ps.toList.map fun (i, x) => (i, a.eval x)) hpl hf hzc (by simp [l1]) l2
    refine ⟨.agg O.toArray, by simp [conc, o1], fun w => run_build w t _ _ ?_⟩
    rw [Array.toArray_toList] at o2
    simpa only [Program.built, h1, h2, hd, h5, p1, e0] using o2
  · obtain ⟨O, o1, o2⟩ := fillAll_sound hp (place' := fun k => some (k * s, s)) (parts' := ps.toList.map fun (i, x) => (i, a.eval x)) (fun j x hj => hj) hf hzc (by simp [l1]) l2
    refine ⟨.agg O.toArray, by simp [conc, o1], fun w => run_build w t _ _ ?_⟩
    obtain ⟨ie, hie, rfl⟩ := Option.map_eq_some_iff.1 hs
    obtain ⟨inf', z', v', q1, q2, q3, _⟩ := hE.ty hie
    rw [Array.toArray_toList] at o2
    simp only [Program.built, h1, h2, hd, h5, q1, q3, e0]
    exact o2

theorem repL_length (z : List V) : ∀ n, (repL z n).length = n * z.length
  | 0 => by simp [repL]
  | n + 1 => by simp [repL, repL_length z n, Nat.succ_mul, Nat.add_comm]
theorem repL_get (z : List V) : ∀ (n j : Nat), j < n * z.length → (repL z n)[j]? = z[j % z.length]?
  | 0, j, h => by simp at h
  | n + 1, j, h => by
    simp only [repL]
    by_cases hj : j < z.length
    · rw [List.getElem?_append_left hj, Nat.mod_eq_of_lt hj]
    · rw [List.getElem?_append_right (by omega), repL_get z n (j - z.length) (by rw [Nat.succ_mul] at h; omega)]
      congr 1
      have hz : z.length ≤ j := by omega
      rw [Nat.mod_eq_sub_mod hz]
theorem concL_of_get {vs : List V} {X : List Value} (hl : X.length = vs.length) (h : ∀ (j : Nat) v, vs[j]? = some v → ∃ x, X[j]? = some x ∧ conc ρ μ v = some x) : concL ρ μ vs = some X := by
  induction vs generalizing X with
  | nil => simp at hl; subst hl; simp [concL]
  | cons v r ih =>
    cases X with
    | nil => simp at hl
    | cons x l =>
      obtain ⟨y, y1, y2⟩ := h 0 v rfl
      simp at y1; subst y1
      exact concL_mk y2 (ih (by simpa using hl) (fun j u hu => by simpa using h (j + 1) u (by simpa using hu)))

theorem rep_conc {z : List V} {Z : List Value} (hz : concL ρ μ z = some Z) (n : Nat) : concL ρ μ (repL z n) = some ((Array.range (n * z.length)).map (Z.toArray[· % Z.toArray.size]!)).toList := by
  have hl := concL_length hz
  refine concL_of_get (by simp [repL_length]) (fun j v hj => ?_)
  have hlt : j < n * z.length := by
    rcases Nat.lt_or_ge j (n * z.length) with h | h
    · exact h
    · rw [List.getElem?_eq_none (by rw [repL_length]; exact h)] at hj; cases hj
  rw [repL_get z n j hlt] at hj
  obtain ⟨x, x1, x2⟩ := concL_get hz hj
  refine ⟨x, ?_, x2⟩
  have hm : j % z.length < Z.length := by
    rw [hl]
    exact Nat.mod_lt _ (Nat.pos_of_ne_zero (fun e => by rw [e] at hlt; simp at hlt))
  have hlt' : j < n * Z.length := by rw [hl]; exact hlt
  rw [← hl] at x1 hm ⊢
  rw [List.getElem?_eq_getElem hm] at x1
  injection x1 with x1
  simp [hlt']
  rw [List.getElem?_eq_getElem hm]
  simpa using x1

theorem run_buildSlice (hE : EnvOk P E) (hp : Plain ρ) {h : H} {w : World} (hh : HR E ρ μ h w) {t n : Nat} {i ei : TI} {e : Nat} {fr : Fr} {a : Act} (k : FR ρ μ fr a) {ps : Array (Nat × Operand)} {vs : List (Nat × V)} (hi : E.tys.get t = some i)
    (hv : opdPs fr ps.toList = some vs) (hd : i.desc = .slice e) (hei : E.tys.get e = some ei) (h1 : n * ei.size ≤ 16777216) {cs : List V} (hf : fillAll (fun k => some (k * ei.size, ei.size)) (repL ei.zero n) vs = some cs) :
    Rs P E ρ μ w (Instr.buildSlice t n (ps.map fun (i, x) => (i, a.eval x))) (.slice (row h e cs 0).1 0 n (.lit n)) (row h e cs 0).2 := by
  obtain ⟨Z, z1, z2, z3, z4⟩ := run_zero (P := P) (ρ := ρ) (μ := μ) hE hei
  have hzc := conc_cells hp z2
  rw [← z3] at hzc
  obtain ⟨l1, l2⟩ := opdPs_sound k hv
  have hrep := rep_conc hzc n
  rw [z4] at hrep
  simp only [Array.toArray_toList] at hrep
  obtain ⟨O, o1, o2⟩ := fillAll_sound hp (place' := fun k => some (k * ei.size, ei.size)) (parts' := ps.toList.map fun (i, x) => (i, a.eval x)) (fun j x hj => hj) hf hrep (by simp [l1]) l2
  obtain ⟨μ', g1, g2, g3⟩ := row_sound hh (elem := e) o1
  refine ⟨μ', .slice (some ⟨w.heap.size, 0, none⟩) n n, _, g1, g2, by simp [conc, g3, cslice], ?_⟩
  rw [Array.toArray_toList] at o2
  have hle : ¬ n * ei.size > 2 ^ 24 := by omega
  by_cases h0 : n * ei.size = 0
  · simp only [h0, Array.range_zero', Array.map_empty] at o2
    simp [Instr.buildSlice, run_und hE hi w, hd, run_size hE hei w, h0, newRow, o2, Array.range_zero']
  · simp [Instr.buildSlice, run_und hE hi w, hd, run_size hE hei w, hle, h0, z1, o2, newRow]
end
end Go.Ev
