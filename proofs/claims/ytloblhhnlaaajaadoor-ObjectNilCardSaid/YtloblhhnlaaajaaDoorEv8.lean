/- Comparisons, sums, conversions, structs. -/
import Derived.Test.YtloblhhnlaaajaaDoorEv7
import Derived.LaidEql
import Derived.Laws.Strings
namespace Go.Ev
open Go

section
variable {P : Program} {E : Env} {ρ : Rho} {μ : Mu}

theorem run_index (hE : EnvOk P E) {t : Nat} {x ix v : V} {X I : Value} (h : indexV E t x ix = some v) (hx : conc ρ μ x = some X) (hix : conc ρ μ ix = some I) :
    ∃ Y, conc ρ μ v = some Y ∧ ∀ w, (Instr.index t X I).run P w = .ok Y w := by
  unfold indexV at h
  split at h
  · rename_i i k hi hk
    obtain ⟨kk, rfl⟩ := natOf_some hk
    simp only [conc] at hix
    injection hix with hix; subst hix
    split at h
    · rename_i n e cs hd
      obtain ⟨hb, h⟩ := bif_some h
      have hlt : k < n := by simpa using hb
      split at h
      · rename_i s hs
        obtain ⟨l, hl, rfl⟩ := conc_agg hx
        obtain ⟨Y, h1, h2⟩ := run_part hE h hl
        refine ⟨Y, h1, fun w => ?_⟩
        simp [Instr.index, asIntOf, run_und hE hi w, hd, hlt, run_sizeT hE hs w, h2]
      · cases h
    · rename_i s hd
      obtain ⟨c, hc, rfl⟩ := Option.map_eq_some_iff.1 h
      simp only [conc] at hx
      injection hx with hx; subst hx
      refine ⟨.int .u8 c.toNat, by simp [conc], fun w => ?_⟩
      rw [nth_eq] at hc
      have hlt : k < s.length := by
        rcases Nat.lt_or_ge k s.length with h | h
        · exact h
        · rw [List.getElem?_eq_none h] at hc; cases hc
      have hg : (⟨s.toArray⟩ : ByteArray)[k]? = some c := by
        have : k < (⟨s.toArray⟩ : ByteArray).size := by rw [str_size]; exact hlt
        rw [getElem?_pos (⟨s.toArray⟩ : ByteArray) k this]
        rw [List.getElem?_eq_getElem hlt] at hc
        injection hc with hc
        rw [← hc]
        rfl
      simp [Instr.index, asIntOf, run_und hE hi w, hd, hg]
    · cases h
  · cases h

/-- Two pointers. -/
theorem run_ptrEq {h : H} {w : World} (hh : HR E ρ μ h w) {b o b' o' : Nat} {r : Bool} (he : ptrEq h b o b' o' = some r) {x x' : Nat × Nat} (hx : μ b = some x) (hx' : μ b' = some x') :
    (sameAddr ⟨x.1, o, none⟩ ⟨x'.1, o', none⟩).run P w = .ok r w := by
  unfold ptrEq at he
  cases hb : Nat.beq b b' with
  | true =>
    have := Nat.eq_of_beq_eq_true hb
    subst this
    rw [hx] at hx'
    injection hx' with hx'
    subst hx'
    simp only [hb, cond_true] at he
    injection he with he
    subst he
    by_cases e : o = o'
    · subst e
      rw [run_sameAddr_same]
      simp
    · have : Nat.beq o o' = false := by
        cases hq : Nat.beq o o' with
        | false => rfl
        | true => exact absurd (Nat.eq_of_beq_eq_true hq) e
      rw [this]
      simp [sameAddr]
  | false =>
    have hne : b ≠ b' := by rintro rfl; simp at hb
    simp only [hb, cond_false] at he
    split at he
    · rename_i t n d el k t' n' d' el' k' h1 h2
      cases hk : (Nat.beq k 2 || Nat.beq k' 2) with
      | true => simp [hk] at he
      | false =>
        simp only [hk, cond_false] at he
        injection he with he
        subst he
        simp only [Bool.or_eq_false_iff] at hk
        have q1 : k ≠ 2 := by rintro rfl; simp at hk
        have q2 : k' ≠ 2 := by rintro rfl; simp at hk
        obtain ⟨y, ob, e1, e2, e3⟩ := hh.blk _ _ h1
        obtain ⟨y', ob', e1', e2', e3'⟩ := hh.blk _ _ h2
        rw [hx] at e1; injection e1 with e1; subst e1
        rw [hx'] at e1'; injection e1' with e1'; subst e1'
        have hxx := hh.inj b b' x x' (by rw [h1]; rfl) (by rw [h2]; rfl) hx hx' hne
        cases e3 with
        | cells hc hn h0 ho hf hf2 =>
          cases e3' with
          | cells hc' hn' h0' ho' hf' hf2' =>
            rw [hf q1] at e2
            rw [hf' q2] at e2'
            exact run_sameAddr_other w (a := ⟨x.1, o, none⟩) (b := ⟨x'.1, o', none⟩) (by simp; intro h; exact absurd h hxx) e2 e2'
    · cases he

theorem eqGuard_ne {op : BinOp} {t : TypeId} {x y : Operand} {X Y : Value} (h1 : X ≠ .nilIface) (h2 : ∀ cs, X ≠ .agg cs) : eqGuard op t x y X Y = pure () := by
  cases X <;> cases op <;> first | rfl | exact absurd rfl h1 | exact absurd rfl (h2 _)

theorem run_eqV (hE : EnvOk P E) {h : H} {w : World} (hh : HR E ρ μ h w) {ty : Nat} {x y : V} {r : Bool} {X Y : Value} (he : eqV E h ty x y = some r) (hx : conc ρ μ x = some X) (hy : conc ρ μ y = some Y) (ox oy : Operand) :
    (∀ op, (eqGuard op ty ox oy X Y).run P w = .ok () w) ∧ (Op.equal ty X Y).run P w = .ok r w := by
  have key : ∀ {t : Nat} {i : TI} {r : Bool} (X Y : Value), X ≠ .nilIface → (∀ cs, X ≠ .agg cs) → (∀ d, (Op.equalIn (d + 1) t X Y).run P w = .ok r w) →
      (∀ op, (eqGuard op t ox oy X Y).run P w = .ok () w) ∧ (Op.equal t X Y).run P w = .ok r w := by
    intro t i r X Y h1 h2 h3
    exact ⟨fun op => by rw [eqGuard_ne h1 h2]; rfl, h3 9999⟩
  unfold eqV at he
  cases hi : E.tys.get ty with
  | none => simp [hi] at he
  | some i =>
    simp only [hi] at he
    have hu := run_und hE hi w
    split at he
    · rename_i a b hd
      injection he with he; subst he
      simp only [conc] at hx hy
      injection hx with hx; injection hy with hy; subst hx hy
      exact key (i := i) _ _ (by simp) (by simp) (fun d => by simp [Op.equalIn, hu, hd])
    · rename_i e hd
      injection he with he; subst he
      simp only [conc] at hx hy
      injection hx with hx; injection hy with hy; subst hx hy
      exact key (i := i) _ _ (by simp) (by simp) (fun d => by simp [Op.equalIn, hu, hd])
    · rename_i e b o hd
      injection he with he; subst he
      simp only [conc] at hx
      injection hx with hx; subst hx
      obtain ⟨z, hz, rfl⟩ := conc_ptr hy
      exact key (i := i) _ _ (by simp) (by simp) (fun d => by simp [Op.equalIn, hu, hd])
    · rename_i e b o hd
      injection he with he; subst he
      simp only [conc] at hy
      injection hy with hy; subst hy
      obtain ⟨z, hz, rfl⟩ := conc_ptr hx
      exact key (i := i) _ _ (by simp) (by simp) (fun d => by simp [Op.equalIn, hu, hd])
    · rename_i e b o b' o' hd
      split at he
      · rename_i j hj
        cases hz : Nat.beq j.size 0 with
        | true => simp [hz] at he
        | false =>
          simp only [hz, cond_false] at he
          have hz' : ¬ j.size = 0 := by intro e; rw [e] at hz; simp at hz
          obtain ⟨z, q1, rfl⟩ := conc_ptr hx
          obtain ⟨z', q2, rfl⟩ := conc_ptr hy
          exact key (i := i) _ _ (by simp) (by simp) (fun d => by simp [Op.equalIn, hu, hd, run_size hE hj w, hz', run_ptrEq hh he q1 q2])
      · cases he
    · rename_i ms t v hd
      injection he with he; subst he
      simp only [conc] at hx
      injection hx with hx; subst hx
      obtain ⟨z, hz, rfl⟩ := conc_iface hy
      refine ⟨fun op => by cases op <;> rfl, ?_⟩
      have h3 : ∀ d, (Op.equalIn (d + 1) ty .nilIface (.iface t z)).run P w = .ok false w := fun d => by simp [Op.equalIn, hu, hd]
      exact h3 9999
    · rename_i ms t v hd
      injection he with he; subst he
      simp only [conc] at hy
      injection hy with hy; subst hy
      obtain ⟨z, hz, rfl⟩ := conc_iface hx
      exact key (i := i) _ _ (by simp) (by simp) (fun d => by simp [Op.equalIn, hu, hd])
    · rename_i e hd
      injection he with he; subst he
      simp only [conc] at hx hy
      injection hx with hx; injection hy with hy; subst hx hy
      exact key (i := i) _ _ (by simp) (by simp) (fun d => by simp [Op.equalIn, hu, hd])
    · rename_i e b o n c hd
      injection he with he; subst he
      simp only [conc] at hx
      injection hx with hx; subst hx
      obtain ⟨z, hz, _, rfl⟩ := conc_slice_any hy
      exact key (i := i) _ _ (by simp) (by simp) (fun d => by simp [Op.equalIn, hu, hd])
    · rename_i e b o n c hd
      injection he with he; subst he
      simp only [conc] at hy
      injection hy with hy; subst hy
      obtain ⟨z, hz, _, rfl⟩ := conc_slice_any hx
      exact key (i := i) _ _ (by simp) (by simp) (fun d => by simp [Op.equalIn, hu, hd])
    · rename_i e e' hd
      injection he with he; subst he
      simp only [conc] at hx hy
      injection hx with hx; injection hy with hy; subst hx hy
      exact key (i := i) _ _ (by simp) (by simp) (fun d => by simp [Op.equalIn, hu, hd])
    · rename_i e e' b hd
      injection he with he; subst he
      simp only [conc] at hx
      injection hx with hx; subst hx
      obtain ⟨z, hz, rfl⟩ := conc_map hy
      exact key (i := i) _ _ (by simp) (by simp) (fun d => by simp [Op.equalIn, hu, hd])
    · rename_i e e' b hd
      injection he with he; subst he
      simp only [conc] at hy
      injection hy with hy; subst hy
      obtain ⟨z, hz, rfl⟩ := conc_map hx
      exact key (i := i) _ _ (by simp) (by simp) (fun d => by simp [Op.equalIn, hu, hd])
    · rename_i hd
      injection he with he; subst he
      simp only [conc] at hx hy
      injection hx with hx; injection hy with hy; subst hx hy
      exact key (i := i) _ _ (by simp) (by simp) (fun d => by simp [Op.equalIn, hu, hd])
    · rename_i hd
      injection he with he; subst he
      simp only [conc] at hx
      injection hx with hx; subst hx
      obtain ⟨A, C, _, _, rfl⟩ := conc_func hy
      exact key (i := i) _ _ (by simp) (by simp) (fun d => by simp [Op.equalIn, hu, hd])
    · rename_i hd
      injection he with he; subst he
      simp only [conc] at hy
      injection hy with hy; subst hy
      obtain ⟨A, C, _, _, rfl⟩ := conc_func hx
      exact key (i := i) _ _ (by simp) (by simp) (fun d => by simp [Op.equalIn, hu, hd])
    · rename_i fs xs ys hd
      obtain ⟨hc, he⟩ := bif_some he
      obtain ⟨lx, q1, rfl⟩ := conc_agg hx
      obtain ⟨ly, q2, rfl⟩ := conc_agg hy
      obtain ⟨g1, g2⟩ := hE.eqs ty hc ρ μ xs ys r lx ly he q1 q2
      refine ⟨fun op => ?_, g2 w⟩
      cases op <;> simp [eqGuard, g1]
    · rename_i fs xs ys hd
      obtain ⟨hc, he⟩ := bif_some he
      obtain ⟨lx, q1, rfl⟩ := conc_agg hx
      obtain ⟨ly, q2, rfl⟩ := conc_agg hy
      obtain ⟨g1, g2⟩ := hE.eqs ty hc ρ μ xs ys r lx ly he q1 q2
      refine ⟨fun op => ?_, g2 w⟩
      cases op <;> simp [eqGuard, g1]
    · cases he
end
end Go.Ev
