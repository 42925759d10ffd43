/- The operations that touch no memory. -/
import Derived.Test.YtloblhhnlaaajaaDoorEv4
namespace Go.Ev
open Go

section
variable {P : Program} {E : Env} {ρ : Rho} {μ : Mu}

theorem run_und (hE : EnvOk P E) {t : Nat} {i : TI} (h : E.tys.get t = some i) (w : World) : (underlying t).run P w = .ok i.desc w := by
  obtain ⟨inf, z, v, h1, h2, _⟩ := hE.ty h
  exact run_underlying h2 w
theorem run_info (hE : EnvOk P E) {t : Nat} {i : TI} (h : E.tys.get t = some i) (w : World) :
    ∃ inf, (typeInfo t).run P w = .ok inf w ∧ P.info? t = some inf ∧ inf.size = i.size ∧ inf.bytes = i.bytes ∧ inf.comparable = i.cmp := by
  obtain ⟨inf, z, v, h1, h2, h3, h4, h5, h6, h7, h8, h9⟩ := hE.ty h
  exact ⟨inf, by simp [typeInfo, h1], h1, h3, h4, h9.1⟩
theorem run_size (hE : EnvOk P E) {t : Nat} {i : TI} (h : E.tys.get t = some i) (w : World) : (sizeOf t).run P w = .ok i.size w := by
  obtain ⟨inf, h1, _, h2, _⟩ := run_info hE h w
  simp [sizeOf, h1, h2]
theorem run_sizeT (hE : EnvOk P E) {t s : Nat} (h : sizeOfT E t = some s) (w : World) : (sizeOf t).run P w = .ok s w := by
  obtain ⟨i, hi, rfl⟩ := Option.map_eq_some_iff.1 h
  exact run_size hE hi w
theorem run_agg (hE : EnvOk P E) {t : Nat} {i : TI} (h : E.tys.get t = some i) (w : World) : (isAgg t).run P w = .ok i.agg w := by
  have := run_und hE h w
  unfold isAgg TI.agg
  simp only [Sem.run_bind, this, Result.andThen_ok]
  cases i.desc <;> rfl
theorem run_zero (hE : EnvOk P E) {t : Nat} {i : TI} (h : E.tys.get t = some i) : ∃ Z, (∀ w, (zeroValue t).run P w = .ok Z w) ∧ conc ρ μ i.zv = some Z ∧ i.zero = i.zv.cells ∧ i.zero.length = i.size := by
  obtain ⟨inf, z, v, h1, h2, h3, h4, h5, h6, h7, h8, h9⟩ := hE.ty h
  refine ⟨z, fun w => ?_, by rw [h8]; exact ofValue_conc h6, by rw [h7, h8], h9.2⟩
  simp [zeroValue, typeInfo, h1, h5]

theorem run_part (hE : EnvOk P E) {ty off : Nat} {cs : List V} {v : V} {X : List Value} (h : partV E ty cs off = some v) (hc : concL ρ μ cs = some X) :
    ∃ Y, conc ρ μ v = some Y ∧ ∀ w, (part ty X.toArray off).run P w = .ok Y w := by
  unfold partV at h
  cases hi : E.tys.get ty with
  | none => simp [hi] at h
  | some i =>
    simp only [hi] at h
    cases hg : i.agg with
    | true =>
      simp [hg] at h
      subst h
      refine ⟨.agg ((X.drop off).take i.size).toArray, by simp [conc, concL_take _ (concL_drop _ hc)], fun w => ?_⟩
      simp [part, run_agg hE hi w, hg, run_size hE hi w]
    | false =>
      simp [hg] at h
      rw [nth_eq] at h
      obtain ⟨Y, h1, h2⟩ := concL_get hc h
      refine ⟨Y, h2, fun w => ?_⟩
      simp [part, run_agg hE hi w, hg, h1]

theorem natOf_some {v : V} {n : Nat} (h : natOf v = some n) : ∃ k, v = .int k (n : Int) := by
  unfold natOf at h
  split at h
  · split at h
    · injection h with h; subst h; exact ⟨_, rfl⟩
    · cases h
  · cases h

/-- What a pure operation comes to: its value, in whatever world. -/
def Pu (P : Program) (ρ : Rho) (μ : Mu) (a : Act) (o : Oper) (v : V) : Prop :=
  ∃ X, conc ρ μ v = some X ∧ ∀ w, (execOp a.eval o).run P w = .ok (.value X) w

theorem conc_ptr {b o : Nat} {X : Value} (h : conc ρ μ (.ptr b o) = some X) : ∃ x, μ b = some x ∧ X = .pointer (some ⟨x.1, o, none⟩) := by
  obtain ⟨x, hx, rfl⟩ := Option.map_eq_some_iff.1 (by simpa only [conc] using h)
  exact ⟨x, hx, rfl⟩
theorem conc_slice {b o n : Nat} {c : Cp} {X : Value} (h : conc ρ μ (.slice b o n c) = some X) : ∃ x, μ b = some x ∧ cslice x o n c = some X := by
  simpa only [conc, Option.bind_eq_some_iff] using h
theorem conc_slice_lit {b o n c : Nat} {X : Value} (h : conc ρ μ (.slice b o n (.lit c)) = some X) : ∃ x, μ b = some x ∧ n ≤ c ∧ X = .slice (some ⟨x.1, o, none⟩) n c := by
  obtain ⟨x, hx, h⟩ := conc_slice h
  simp only [cslice] at h
  split at h
  · rename_i hn; injection h with h; exact ⟨x, hx, hn, h.symm⟩
  · cases h
theorem conc_slice_opn {b o n e o' : Nat} {X : Value} (h : conc ρ μ (.slice b o n (.opn e o')) = some X) :
    ∃ x, μ b = some x ∧ n ≤ x.2 - e ∧ X = .slice (some ⟨x.1, if x.2 - e = 0 then o' else o, none⟩) n (x.2 - e) := by
  obtain ⟨x, hx, h⟩ := conc_slice h
  simp only [cslice] at h
  split at h
  · rename_i hn; injection h with h; exact ⟨x, hx, hn, h.symm⟩
  · cases h
/-- A slice that is not empty begins where it is said to. -/
theorem conc_slice_pos {b o n : Nat} {c : Cp} {X : Value} (h : conc ρ μ (.slice b o n c) = some X) (hn : 0 < n) : ∃ x m, μ b = some x ∧ X = .slice (some ⟨x.1, o, none⟩) n m := by
  cases c with
  | lit c => obtain ⟨x, hx, _, rfl⟩ := conc_slice_lit h; exact ⟨x, c, hx, rfl⟩
  | opn e o' =>
    obtain ⟨x, hx, h1, rfl⟩ := conc_slice_opn h
    exact ⟨x, _, hx, by rw [if_neg (by omega)]⟩
theorem conc_map {b : Nat} {X : Value} (h : conc ρ μ (.map b) = some X) : ∃ x, μ b = some x ∧ X = .map (some x.1) := by
  obtain ⟨x, hx, rfl⟩ := Option.map_eq_some_iff.1 (by simpa only [conc] using h)
  exact ⟨x, hx, rfl⟩
theorem conc_agg {cs : List V} {X : Value} (h : conc ρ μ (.agg cs) = some X) : ∃ l, concL ρ μ cs = some l ∧ X = .agg l.toArray := by
  simp only [conc] at h
  cases hc : concL ρ μ cs with
  | none => simp [hc] at h
  | some l => simp [hc] at h; exact ⟨l, rfl, h.symm⟩
theorem conc_tuple {cs : List V} {X : Value} (h : conc ρ μ (.tuple cs) = some X) : ∃ l, concL ρ μ cs = some l ∧ X = .tuple l.toArray := by
  simp only [conc] at h
  cases hc : concL ρ μ cs with
  | none => simp [hc] at h
  | some l => simp [hc] at h; exact ⟨l, rfl, h.symm⟩
theorem conc_iface {t : Nat} {v : V} {X : Value} (h : conc ρ μ (.iface t v) = some X) : ∃ Y, conc ρ μ v = some Y ∧ X = .iface t Y := by
  simp only [conc] at h
  cases hc : conc ρ μ v with
  | none => simp [hc] at h
  | some l => simp [hc] at h; exact ⟨l, rfl, h.symm⟩
theorem conc_func {f : Nat} {a c : List V} {X : Value} (h : conc ρ μ (.func f a c) = some X) : ∃ A C, concL ρ μ a = some A ∧ concL ρ μ c = some C ∧ X = .func (.func f) A.toArray C.toArray := by
  simp only [conc] at h
  cases ha : concL ρ μ a with
  | none => simp [ha] at h
  | some A =>
    cases hc : concL ρ μ c with
    | none => simp [ha, hc] at h
    | some C => simp [ha, hc] at h; exact ⟨A, C, rfl, rfl, h.symm⟩

theorem run_fieldAddr (hE : EnvOk P E) {s f : Nat} {x v : V} {X : Value} (h : fieldAddrV E s x f = some v) (hx : conc ρ μ x = some X) :
    ∃ Y, conc ρ μ v = some Y ∧ ∀ w, (Instr.fieldAt s X f).run P w = .ok Y w := by
  unfold fieldAddrV at h
  cases hi : E.tys.get s with
  | none => simp [hi] at h
  | some i =>
    simp only [hi] at h
    split at h
    · rename_i fs b o hd
      split at h
      · rename_i fd hf
        rw [nth_eq] at hf
        split at h
        · cases h
        · rename_i s' hs hne
          injection h with h; subst h
          obtain ⟨y, hy, rfl⟩ := conc_ptr hx
          refine ⟨.pointer (some ⟨y.1, o + fd.offset, none⟩), by simp [conc, hy], fun w => ?_⟩
          have hz : ¬ s' = 0 := hs
          have hf' : fs[f]? = some fd := by rw [← Array.getElem?_toList]; exact hf
          simp [Instr.fieldAt, run_und hE hi w, hd, hf', Instr.sureAddr, fieldPlace, run_sizeT hE hne w, hz]
          exact Addr.add_lit _ _ _
        · cases h
      · cases h
    · rename_i fs b o hd
      split at h
      · rename_i fd hf
        rw [nth_eq] at hf
        split at h
        · cases h
        · rename_i s' hs hne
          injection h with h; subst h
          simp only [conc] at hx
          injection hx with hx; subst hx
          refine ⟨.pointer (some ⟨b, o + fd.offset, none⟩), by simp [conc], fun w => ?_⟩
          have hz : ¬ s' = 0 := hs
          have hf' : fs[f]? = some fd := by rw [← Array.getElem?_toList]; exact hf
          simp [Instr.fieldAt, run_und hE hi w, hd, hf', Instr.sureAddr, fieldPlace, run_sizeT hE hne w, hz]
          exact Addr.add_lit _ _ _
        · cases h
      · cases h
    · cases h

theorem run_field (hE : EnvOk P E) {s f : Nat} {x v : V} {X : Value} (h : fieldV E s x f = some v) (hx : conc ρ μ x = some X) :
    ∃ Y, conc ρ μ v = some Y ∧ ∀ w, (Instr.field s X f).run P w = .ok Y w := by
  unfold fieldV at h
  cases hi : E.tys.get s with
  | none => simp [hi] at h
  | some i =>
    simp only [hi] at h
    split at h
    · rename_i fs cs hd
      split at h
      · rename_i fd hf
        rw [nth_eq] at hf
        obtain ⟨l, hl, rfl⟩ := conc_agg hx
        obtain ⟨Y, h1, h2⟩ := run_part hE h hl
        refine ⟨Y, h1, fun w => ?_⟩
        have hf' : fs[f]? = some fd := by rw [← Array.getElem?_toList]; exact hf
        simp [Instr.field, run_und hE hi w, hd, hf', asAgg, h2]
      · cases h
    · cases h

theorem run_indexAddr (hE : EnvOk P E) {t : Nat} {x ix v : V} {X I : Value} (h : indexAddrV E t x ix = some v) (hx : conc ρ μ x = some X) (hix : conc ρ μ ix = some I) :
    ∃ Y, conc ρ μ v = some Y ∧ ∀ w, (Instr.indexAt t X I).run P w = .ok Y w := by
  unfold indexAddrV at h
  split at h
  · rename_i i k hi hk
    obtain ⟨kk, rfl⟩ := natOf_some hk
    simp only [conc] at hix
    injection hix with hix; subst hix
    split at h
    · rename_i n e b o hd
      by_cases hlt : k < n
      · have hb : Nat.blt k n = true := by simpa using hlt
        rw [hb] at h
        obtain ⟨s, hs, rfl⟩ := Option.map_eq_some_iff.1 (by simpa using h)
        obtain ⟨y, hy, rfl⟩ := conc_ptr hx
        refine ⟨.pointer (some ⟨y.1, o + k * s, none⟩), by simp [conc, hy], fun w => ?_⟩
        simp [Instr.indexAt, asIntOf, run_und hE hi w, hd, Instr.sureAddr, hlt, run_sizeT hE hs w]
        exact Addr.add_lit _ _ _
      · cases hb : Nat.blt k n with
        | true => exact absurd (by simpa using hb) hlt
        | false => rw [hb] at h; simp at h
    · rename_i n e b o hd
      by_cases hlt : k < n
      · have hb : Nat.blt k n = true := by simpa using hlt
        rw [hb] at h
        obtain ⟨s, hs, rfl⟩ := Option.map_eq_some_iff.1 (by simpa using h)
        simp only [conc] at hx
        injection hx with hx; subst hx
        refine ⟨.pointer (some ⟨b, o + k * s, none⟩), by simp [conc], fun w => ?_⟩
        simp [Instr.indexAt, asIntOf, run_und hE hi w, hd, Instr.sureAddr, hlt, run_sizeT hE hs w]
        exact Addr.add_lit _ _ _
      · cases hb : Nat.blt k n with
        | true => exact absurd (by simpa using hb) hlt
        | false => rw [hb] at h; simp at h
    · rename_i e b o n c hd
      by_cases hlt : k < n
      · have hb : Nat.blt k n = true := by simpa using hlt
        rw [hb] at h
        obtain ⟨s, hs, rfl⟩ := Option.map_eq_some_iff.1 (by simpa using h)
        obtain ⟨y, m, hy, rfl⟩ := conc_slice_pos hx (by omega)
        refine ⟨.pointer (some ⟨y.1, o + k * s, none⟩), by simp [conc, hy], fun w => ?_⟩
        simp [Instr.indexAt, asIntOf, run_und hE hi w, hd, hlt, run_sizeT hE hs w]
        exact Addr.add_lit _ _ _
      · cases hb : Nat.blt k n with
        | true => exact absurd (by simpa using hb) hlt
        | false => rw [hb] at h; simp at h
    · cases h
  · cases h
end
end Go.Ev
