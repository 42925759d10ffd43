/- Slices of slices, indexes, sums and comparisons, conversions. -/
import Derived.Test.YtloblhhnlaaajaaDoorEv6
namespace Go.Ev
open Go

section
variable {P : Program} {E : Env} {ρ : Rho} {μ : Mu}

theorem conc_slice_any {b o n : Nat} {c : Cp} {X : Value} (h : conc ρ μ (.slice b o n c) = some X) : ∃ x, μ b = some x ∧ n ≤ ccap x c ∧ X = .slice (some ⟨x.1, cbeg x o c, none⟩) n (ccap x c) := by
  cases c with
  | lit c => obtain ⟨x, hx, h1, rfl⟩ := conc_slice_lit h; exact ⟨x, hx, h1, rfl⟩
  | opn e o' => obtain ⟨x, hx, h1, rfl⟩ := conc_slice_opn h; exact ⟨x, hx, h1, rfl⟩

theorem str_extract (s : List UInt8) (l h : Nat) : (⟨s.toArray⟩ : ByteArray).extract l h = ⟨((s.drop l).take (h - l)).toArray⟩ := by
  apply ByteArray.ext
  simp [ByteArray.data_extract]

theorem str_size (s : List UInt8) : (⟨s.toArray⟩ : ByteArray).size = s.length := by
  show s.toArray.size = _
  simp
theorem sliceStr_sound {s : List UInt8} {lo hi : Option V} {v : V} {lo' hi' : Option Value} (h : sliceStr s lo hi = some v) (hlo : CO ρ μ lo lo') (hhi : CO ρ μ hi hi') :
    ∃ l hh, (∀ (w : World), (Instr.sliceBounds false s.length s.length lo' hi' none).run P w = .ok (l, hh, s.length) w) ∧ conc ρ μ v = some (.string ((⟨s.toArray⟩ : ByteArray).extract l hh)) := by
  unfold sliceStr at h
  have h1 : ∃ hh, optNat (some s.length) hi = some hh ∧ ∃ l, optNat (some 0) lo = some l ∧ (bif Nat.ble l hh && Nat.ble hh s.length then some (V.str ((s.drop l).take (hh - l))) else none) = some v := by
    cases hi with
    | none => cases lo with
      | none => exact ⟨_, rfl, _, rfl, h⟩
      | some u =>
        simp only at h
        cases hu : natOf u with
        | none => simp [hu] at h
        | some l => simp only [hu] at h; exact ⟨_, rfl, l, hu, h⟩
    | some z =>
      simp only at h
      cases hz : natOf z with
      | none => simp [hz] at h
      | some hh =>
        simp only [hz] at h
        cases lo with
        | none => exact ⟨_, hz, _, rfl, h⟩
        | some u =>
          simp only at h
          cases hu : natOf u with
          | none => simp [hu] at h
          | some l => simp only [hu] at h; exact ⟨_, hz, l, hu, h⟩
  obtain ⟨hh, e1, l, e2, e3⟩ := h1
  obtain ⟨h4, h5⟩ := bif_some e3
  simp only [Bool.and_eq_true] at h4
  have h6 := Nat.le_of_ble_eq_true h4.1
  have h7 := Nat.le_of_ble_eq_true h4.2
  injection h5 with h5
  subst h5
  refine ⟨l, hh, fun w => run_bounds Bnd.none ?_ (fun _ => rfl) (lo_bound hlo e2 h6) w, ?_⟩
  · cases hi with
    | none => have := CO.none hhi; subst this; simp [optNat] at e1; exact e1.symm
    | some u => obtain ⟨k, rfl⟩ := CO.nat hhi e1; exact Bnd.some k h7
  · rw [str_extract]; simp [conc]

theorem run_slice (hE : EnvOk P E) {t : Nat} {x v : V} {X : Value} {lo hi mx : Option V} {lo' hi' mx' : Option Value} (h : sliceV E t x lo hi mx = some v) (hx : conc ρ μ x = some X)
    (hlo : CO ρ μ lo lo') (hhi : CO ρ μ hi hi') (hmx : CO ρ μ mx mx') : ∃ Y, conc ρ μ v = some Y ∧ ∀ w, (Instr.sliceAt t X lo' hi' mx').run P w = .ok Y w := by
  unfold sliceV at h
  cases hi1 : E.tys.get t with
  | none => simp [hi1] at h
  | some i =>
    simp only [hi1] at h
    split at h
    · rename_i s hd
      split at h
      · have := CO.none hmx
        subst this
        obtain ⟨l, hh, h1, h2⟩ := sliceStr_sound (P := P) h hlo hhi
        simp only [conc] at hx
        injection hx with hx; subst hx
        refine ⟨_, h2, fun w => ?_⟩
        simp [Instr.sliceAt, Instr.slice, run_und hE hi1 w, hd, h1, str_size]
      · cases h
    · rename_i e b o n c hd
      split at h
      · rename_i size hs
        obtain ⟨y, hy, hle, rfl⟩ := conc_slice_any hx
        obtain ⟨l, hh, m, h1, h2⟩ := subSlice_sound (P := P) h hlo hhi hmx hy hle
        refine ⟨_, h2, fun w => ?_⟩
        simp [Instr.sliceAt, Instr.slice, run_und hE hi1 w, hd, h1, run_sizeT hE hs w]
        split <;> simp [Addr.add_lit]
      · cases h
    · rename_i e hd
      simp only [conc] at hx
      injection hx with hx; subst hx
      obtain ⟨sz, hsz, h⟩ : ∃ sz, sizeOfT E e = some sz ∧ subNil lo hi mx = some v := by
        cases hs : sizeOfT E e with
        | none => simp [hs] at h
        | some sz => simp only [hs] at h; exact ⟨sz, rfl, h⟩
      unfold subNil at h
      simp only at h
      obtain ⟨h1, h2⟩ := bif_some h
      injection h2 with h2; subst h2
      simp only [Bool.and_eq_true] at h1
      obtain ⟨⟨z1, z2⟩, z3⟩ := h1
      have zero : ∀ {u : Option V} {U : Option Value}, CO ρ μ u U → (match u with | some v => (match natOf v with | some 0 => true | _ => false) | none => true) = true → Bnd 0 0 0 U := by
        intro u U hu hz
        cases u with
        | none => have := CO.none hu; subst this; exact Bnd.none
        | some u =>
          simp only at hz
          split at hz
          · rename_i hn; obtain ⟨k, rfl⟩ := CO.nat hu hn; exact Bnd.some k (Nat.le_refl _)
          · cases hz
      have hb : ∀ (w : World), (Instr.sliceBounds true 0 0 lo' hi' mx').run P w = .ok (0, 0, 0) w := by
        intro w
        refine run_bounds (zero hmx ?_) (zero hhi z2) ?_ (zero hlo z1) w
        · cases mx with
          | none => rfl
          | some z => simp only at z3; cases hi with
            | none => simp at z3
            | some _ => exact z3
        · intro e
          subst e
          cases hi with
          | some u => exact hhi.elim
          | none => cases mx with
            | none => exact CO.none hmx
            | some z => simp at z3
      refine ⟨.slice none 0 0, by simp [conc], fun w => ?_⟩
      simp [Instr.sliceAt, Instr.slice, run_und hE hi1 w, hd, hb, run_sizeT hE hsz w]
    · rename_i n e b o hd
      split at h
      · rename_i size hs
        obtain ⟨y, hy, rfl⟩ := conc_ptr hx
        obtain ⟨l, hh, m, h1, h2⟩ := subSlice_sound (P := P) h hlo hhi hmx hy (by simp [ccap])
        simp only [ccap, cbeg] at h1 h2
        refine ⟨_, h2, fun w => ?_⟩
        simp [Instr.sliceAt, run_und hE hi1 w, hd, h1, run_sizeT hE hs w, Instr.sureAddr]
        split <;> simp [Addr.add_lit]
      · cases h
    · rename_i arr b o hd
      split at h
      · rename_i j hj
        split at h
        · rename_i n e hdj
          split at h
          · rename_i size hs
            obtain ⟨y, hy, rfl⟩ := conc_ptr hx
            obtain ⟨l, hh, m, h1, h2⟩ := subSlice_sound (P := P) h hlo hhi hmx hy (by simp [ccap])
            simp only [ccap, cbeg] at h1 h2
            refine ⟨_, h2, fun w => ?_⟩
            simp [Instr.sliceAt, Instr.slice, run_und hE hi1 w, hd, h1, run_sizeT hE hs w, asAddr, run_und hE hj w, hdj]
            split <;> simp [Addr.add_lit]
          · cases h
        · cases h
      · cases h
    · cases h
end
end Go.Ev
