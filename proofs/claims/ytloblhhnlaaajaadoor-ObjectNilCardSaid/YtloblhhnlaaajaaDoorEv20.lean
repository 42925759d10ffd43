/- What an operation looks at; what it leaves alone. -/
import Derived.Test.YtloblhhnlaaajaaDoorEv19
import Derived.Orders
namespace Go.Ev
open Go

mutual
theorem V.beq_eq : ∀ (x y : V), V.beq x y = true → x = y
  | .bool a, y, h => by cases y <;> simp_all [V.beq]
  | .int k a, y, h => by cases y <;> simp_all [V.beq]
  | .str s, y, h => by cases y <;> simp_all [V.beq]
  | .ptr b o, y, h => by cases y <;> simp_all [V.beq]
  | .gp b o, y, h => by cases y <;> simp_all [V.beq]
  | .nilp, y, h => by cases y <;> simp_all [V.beq]
  | .slice b o n c, y, h => by
    cases y <;> simp [V.beq] at h
    rename_i b' o' n' c'
    obtain ⟨⟨⟨rfl, rfl⟩, rfl⟩, h⟩ := h
    cases c <;> cases c' <;> simp_all
  | .nils, y, h => by cases y <;> simp_all [V.beq]
  | .map b, y, h => by cases y <;> simp_all [V.beq]
  | .nilm, y, h => by cases y <;> simp_all [V.beq]
  | .func f a c, y, h => by
    cases y <;> simp [V.beq] at h
    obtain ⟨⟨rfl, h1⟩, h2⟩ := h
    rw [V.beqL_eq _ _ h1, V.beqL_eq _ _ h2]
  | .yield b, y, h => by cases y <;> simp_all [V.beq]
  | .nilf, y, h => by cases y <;> simp_all [V.beq]
  | .iface t v, y, h => by
    cases y <;> simp [V.beq] at h
    obtain ⟨rfl, h1⟩ := h
    rw [V.beq_eq _ _ h1]
  | .nili, y, h => by cases y <;> simp_all [V.beq]
  | .agg a, y, h => by
    cases y <;> simp [V.beq] at h
    rw [V.beqL_eq _ _ h]
  | .tuple a, y, h => by
    cases y <;> simp [V.beq] at h
    rw [V.beqL_eq _ _ h]
  | .sym i, y, h => by cases y <;> simp_all [V.beq]
theorem V.beqL_eq : ∀ (x y : List V), V.beqL x y = true → x = y
  | [], [], _ => rfl
  | [], _ :: _, h => by simp [V.beqL] at h
  | _ :: _, [], h => by simp [V.beqL] at h
  | x :: xs, y :: ys, h => by
    simp [V.beqL] at h
    rw [V.beq_eq _ _ h.1, V.beqL_eq _ _ h.2]
end

def AgreeOn (fr fr' : Fr) (ts : List Nat) : Prop := ∀ t ∈ ts, fr.ts.get t = fr'.ts.get t

section
variable {E : Env} {ih : Rec}

theorem opd_congr {fr fr' : Fr} {x : Operand} (h : AgreeOn fr fr' (tmpOf x)) : opd fr x = opd fr' x := by
  cases x with
  | tmp t => exact h t (by simp [tmpOf])
  | _ => rfl
theorem opds_congr {fr fr' : Fr} : ∀ {l : List Operand}, AgreeOn fr fr' (l.flatMap tmpOf) → opds fr l = opds fr' l
  | [], _ => rfl
  | x :: r, h => by
    simp only [List.flatMap_cons] at h
    simp only [opds, opd_congr (x := x) (fun t ht => h t (List.mem_append_left _ ht)), opds_congr (l := r) (fun t ht => h t (List.mem_append_right _ ht))]
theorem opdPs_congr {fr fr' : Fr} : ∀ {l : List (Nat × Operand)}, AgreeOn fr fr' ((l.map (·.2)).flatMap tmpOf) → opdPs fr l = opdPs fr' l
  | [], _ => rfl
  | (i, x) :: r, h => by
    simp only [List.map_cons, List.flatMap_cons] at h
    simp only [opdPs, opd_congr (x := x) (fun t ht => h t (List.mem_append_left _ ht)), opdPs_congr (l := r) (fun t ht => h t (List.mem_append_right _ ht))]
theorem opdO_congr {fr fr' : Fr} {x : Option Operand} (h : AgreeOn fr fr' (x.toList.flatMap tmpOf)) : opdO fr x = opdO fr' x := by
  cases x with
  | none => rfl
  | some x => simp only [opdO, opd_congr (x := x) (fun t ht => h t (by simpa using ht))]

theorem AgreeOn.mono {fr fr' : Fr} {a b : List Nat} (h : AgreeOn fr fr' a) (k : ∀ t ∈ b, t ∈ a) : AgreeOn fr fr' b := fun t ht => h t (k t ht)

theorem opV_congr {fr fr' : Fr} {h : H} {o : Oper} (k : AgreeOn fr fr' (o.op.operands.toList.flatMap tmpOf)) : opV E ih fr h o = opV E ih fr' h o := by
  obtain ⟨dst, op, type, pos, after, guard⟩ := o
  simp only at k
  have one : ∀ {x : Operand}, (∀ t ∈ tmpOf x, t ∈ op.operands.toList.flatMap tmpOf) → opd fr x = opd fr' x := fun hx => opd_congr (k.mono hx)
  have lst : ∀ {l : List Operand}, (∀ t ∈ l.flatMap tmpOf, t ∈ op.operands.toList.flatMap tmpOf) → opds fr l = opds fr' l := fun hx => opds_congr (k.mono hx)
  have lps : ∀ {l : List (Nat × Operand)}, (∀ t ∈ (l.map (·.2)).flatMap tmpOf, t ∈ op.operands.toList.flatMap tmpOf) → opdPs fr l = opdPs fr' l := fun hx => opdPs_congr (k.mono hx)
  have lo : ∀ {x : Option Operand}, (∀ t ∈ x.toList.flatMap tmpOf, t ∈ op.operands.toList.flatMap tmpOf) → opdO fr x = opdO fr' x := fun hx => opdO_congr (k.mono hx)
  cases op with
  | move x => simp only [opV, one (x := x) (by intro t ht; simp [Op.operands, ht])]
  | assign x => simp only [opV, one (x := x) (by intro t ht; simp [Op.operands, ht])]
  | pick c x y => simp only [opV, one (x := c) (by intro t ht; simp [Op.operands, ht]), one (x := x) (by intro t ht; simp [Op.operands, ht]), one (x := y) (by intro t ht; simp [Op.operands, ht])]
  | alloc t => rfl
  | box t x => simp only [opV, one (x := x) (by intro t ht; simp [Op.operands, ht])]
  | build t ps => simp only [opV, lps (l := ps.toList) (by intro t ht; simpa [Op.operands] using ht)]
  | buildSlice t n ps => simp only [opV, lps (l := ps.toList) (by intro t ht; simpa [Op.operands] using ht)]
  | insert t m ky v => simp only [opV, one (x := m) (by intro t ht; simp [Op.operands, ht]), one (x := ky) (by intro t ht; simp [Op.operands, ht]), one (x := v) (by intro t ht; simp [Op.operands, ht])]
  | load t x => simp only [opV, one (x := x) (by intro t ht; simp [Op.operands, ht])]
  | store t x v => simp only [opV, one (x := x) (by intro t ht; simp [Op.operands, ht]), one (x := v) (by intro t ht; simp [Op.operands, ht])]
  | nilCheck x => simp only [opV, one (x := x) (by intro t ht; simp [Op.operands, ht])]
  | binOp op t x y yt => simp only [opV, one (x := x) (by intro t ht; simp [Op.operands, ht]), one (x := y) (by intro t ht; simp [Op.operands, ht])]
  | unOp op t x => simp only [opV, one (x := x) (by intro t ht; simp [Op.operands, ht])]
  | convert s d x => simp only [opV, one (x := x) (by intro t ht; simp [Op.operands, ht])]
  | makeInterface t x => simp only [opV, one (x := x) (by intro t ht; simp [Op.operands, ht])]
  | makeFunc f first cap =>
    have h1 := lst (l := first.toList) (by intro t ht; simp only [Op.operands, Array.toList_append, List.flatMap_append]; exact List.mem_append_left _ ht)
    have h2 := lst (l := cap.toList) (by intro t ht; simp only [Op.operands, Array.toList_append, List.flatMap_append]; exact List.mem_append_right _ ht)
    simp only [opV, h1, h2]
  | makeMap t r => rfl
  | makeSlice t l c => simp only [opV, one (x := l) (by intro t ht; simp [Op.operands, ht]), one (x := c) (by intro t ht; simp [Op.operands, ht])]
  | slice t x lo' hi mx =>
    have h1 := one (x := x) (by intro t ht; simp [Op.operands, ht])
    have h2 := lo (x := lo') (by intro t ht; cases lo' <;> simp_all [Op.operands])
    have h3 := lo (x := hi) (by intro t ht; cases hi <;> simp_all [Op.operands])
    have h4 := lo (x := mx) (by intro t ht; cases mx <;> simp_all [Op.operands])
    simp only [opV, h1, h2, h3, h4]
  | fieldAddr s x f => simp only [opV, one (x := x) (by intro t ht; simp [Op.operands, ht])]
  | field s x f => simp only [opV, one (x := x) (by intro t ht; simp [Op.operands, ht])]
  | indexAddr t x i => simp only [opV, one (x := x) (by intro t ht; simp [Op.operands, ht]), one (x := i) (by intro t ht; simp [Op.operands, ht])]
  | index t x i => simp only [opV, one (x := x) (by intro t ht; simp [Op.operands, ht]), one (x := i) (by intro t ht; simp [Op.operands, ht])]
  | lookup t x i ok => simp only [opV, one (x := x) (by intro t ht; simp [Op.operands, ht]), one (x := i) (by intro t ht; simp [Op.operands, ht])]
  | mapUpdate t m ky v => simp only [opV, one (x := m) (by intro t ht; simp [Op.operands, ht]), one (x := ky) (by intro t ht; simp [Op.operands, ht]), one (x := v) (by intro t ht; simp [Op.operands, ht])]
  | range t x => simp only [opV, one (x := x) (by intro t ht; simp [Op.operands, ht])]
  | next x s => simp only [opV, one (x := x) (by intro t ht; simp [Op.operands, ht])]
  | entry x => simp only [opV, one (x := x) (by intro t ht; simp [Op.operands, ht])]
  | extract x i => simp only [opV, one (x := x) (by intro t ht; simp [Op.operands, ht])]
  | call c =>
    obtain ⟨callee, args, argTypes⟩ := c
    have h1 := lst (l := args.toList) (by
      intro t ht; simp only [Op.operands, Call.operands, Array.toList_append, List.flatMap_append]; exact List.mem_append_right _ ht)
    cases callee with
    | value f =>
      have h2 := one (x := f) (by intro t ht; simp [Op.operands, Call.operands, ht])
      simp only [opV, h1]
      cases opds fr' args.toList <;> simp only [h2]
    | builtin b =>
      simp only [opV, h1]
      cases opds fr' args.toList <;> rfl
    | invoke r n =>
      have h2 := one (x := r) (by intro t ht; simp [Op.operands, Call.operands, ht])
      simp only [opV, h1]
      cases opds fr' args.toList <;> simp only [h2]
  | _ => rfl

theorem wantedV_congr {fr fr' : Fr} {ops : List Oper} {o : Oper} (k : AgreeOn fr fr' (looks ops o)) : wantedV fr ops o = wantedV fr' ops o := by
  unfold wantedV
  cases hg : o.guard with
  | none => rfl
  | some g =>
    obtain ⟨j, want⟩ := g
    simp only
    cases hj : nth ops j with
    | none => rfl
    | some x =>
      cases hd : x.dst with
      | none => simp [hd]
      | some d => simp only [hd, k d (by simp [looks, hg, hj, hd])]

theorem looks_opds {fr fr' : Fr} {ops : List Oper} {o : Oper} (k : AgreeOn fr fr' (looks ops o)) : AgreeOn fr fr' (o.op.operands.toList.flatMap tmpOf) :=
  k.mono fun t ht => by simp only [looks]; exact List.mem_append_left _ ht

theorem pf_rv {x : Option V} {h : H} {outs : List (V × H)} (e : rv h x = some outs) : ∃ v, outs = [(v, h)] ∧ ∀ h2, rv h2 x = some [(v, h2)] := by
  obtain ⟨v, rfl, rfl⟩ := rv_some e
  exact ⟨v, rfl, fun h2 => rfl⟩
theorem pf_rone {x : V} {h : H} {outs : List (V × H)} (e : rone (x, h) = some outs) : ∃ v, outs = [(v, h)] ∧ ∀ h2 : H, rone (x, h2) = some [(v, h2)] := by
  obtain rfl := rone_some e
  exact ⟨x, rfl, fun h2 => rfl⟩

theorem opV_pure {fr : Fr} {h : H} {o : Oper} {outs : List (V × H)} (hc : clsOf E o = .pure) (hv : opV E ih fr h o = some outs) :
    ∃ v, outs = [(v, h)] ∧ ∀ h2, opV E ih fr h2 o = some [(v, h2)] := by
  obtain ⟨dst, op, type, pos, after, guard⟩ := o
  cases op with
  | move x => exact pf_rv hv
  | assign x => exact pf_rv hv
  | pick c x y =>
    simp only [opV] at hv ⊢
    cases hx : opd fr c with
    | none => rw [hx] at hv; cases hv
    | some z =>
      rw [hx] at hv
      cases z with
      | bool t => exact pf_rv hv
      | _ => cases hv
  | nilCheck x =>
    simp only [opV] at hv ⊢
    cases hx : opd fr x with
    | none => rw [hx] at hv; cases hv
    | some z =>
      rw [hx] at hv
      cases z with
      | ptr b o => exact pf_rone hv
      | gp b o => exact pf_rone hv
      | func f a c => exact pf_rone hv
      | yield b => exact pf_rone hv
      | iface t v => exact pf_rone hv
      | _ => cases hv
  | unOp op t x =>
    simp only [opV] at hv ⊢
    cases hx : opd fr x with
    | none => rw [hx] at hv; cases hv
    | some z => rw [hx] at hv; exact pf_rv hv
  | build t ps =>
    simp only [opV] at hv ⊢
    cases hi : E.tys.get t with
    | none => rw [hi] at hv; cases hv
    | some i =>
      cases hx : opdPs fr ps.toList with
      | none => rw [hi, hx] at hv; cases hv
      | some vs =>
        rw [hi, hx] at hv
        simp only at hv ⊢
        split at hv
        · rename_i fs hd
          cases hb : !(fs.toList.all fun f => (E.tys.get f.type).isSome) with
          | true => rw [hb] at hv; cases hv
          | false => rw [hb] at hv; exact pf_rv hv
        · rename_i n e hd
          cases hs : sizeOfT E e with
          | none => rw [hs] at hv; cases hv
          | some s => rw [hs] at hv; exact pf_rv hv
        · cases hv
  | fieldAddr s x f =>
    simp only [opV] at hv ⊢
    cases hx : opd fr x with
    | none => rw [hx] at hv; cases hv
    | some z => rw [hx] at hv; exact pf_rv hv
  | field s x f =>
    simp only [opV] at hv ⊢
    cases hx : opd fr x with
    | none => rw [hx] at hv; cases hv
    | some z => rw [hx] at hv; exact pf_rv hv
  | indexAddr t x i =>
    simp only [opV] at hv ⊢
    cases hx : opd fr x with
    | none => rw [hx] at hv; cases hv
    | some z =>
      cases hy : opd fr i with
      | none => rw [hx, hy] at hv; cases hv
      | some u => rw [hx, hy] at hv; exact pf_rv hv
  | index t x i =>
    simp only [opV] at hv ⊢
    cases hx : opd fr x with
    | none => rw [hx] at hv; cases hv
    | some z =>
      cases hy : opd fr i with
      | none => rw [hx, hy] at hv; cases hv
      | some u => rw [hx, hy] at hv; exact pf_rv hv
  | extract x i =>
    simp only [opV] at hv ⊢
    cases hx : opd fr x with
    | none => rw [hx] at hv; cases hv
    | some z =>
      rw [hx] at hv
      cases z with
      | tuple vs => exact pf_rv hv
      | _ => cases hv
  | makeInterface t x =>
    simp only [opV] at hv ⊢
    cases hx : opd fr x with
    | none => rw [hx] at hv; cases hv
    | some z =>
      cases hi : E.tys.get t with
      | none => rw [hx, hi] at hv; cases hv
      | some i =>
        rw [hx, hi] at hv
        simp only at hv ⊢
        split at hv
        · cases hv
        · exact pf_rone hv
  | makeFunc f first cap =>
    simp only [opV] at hv ⊢
    cases hx : opds fr first.toList with
    | none => rw [hx] at hv; cases f <;> cases hv
    | some z =>
      cases hy : opds fr cap.toList with
      | none => rw [hx, hy] at hv; cases f <;> cases hv
      | some u =>
        rw [hx, hy] at hv
        cases f with
        | func f => exact pf_rone hv
        | _ => cases hv
  | slice t x lo hi mx =>
    simp only [opV] at hv ⊢
    cases hx : opd fr x with
    | none => rw [hx] at hv; cases hv
    | some z =>
      cases h1 : opdO fr lo with
      | none => rw [hx, h1] at hv; cases hv
      | some l1 =>
        cases h2 : opdO fr hi with
        | none => rw [hx, h1, h2] at hv; cases hv
        | some l2 =>
          cases h3 : opdO fr mx with
          | none => rw [hx, h1, h2, h3] at hv; cases hv
          | some l3 => rw [hx, h1, h2, h3] at hv; exact pf_rv hv
  | convert s d x =>
    simp only [clsOf] at hc
    split at hc
    · split at hc <;> cases hc
    · cases hc
  | call c =>
    simp only [clsOf] at hc
    split at hc <;> cases hc
  | sliceToArrayPointer t x => cases hv
  | _ => cases hc

theorem opV_read {fr : Fr} {h : H} {o : Oper} {outs : List (V × H)} (hc : clsOf E o = .read) (hv : opV E ih fr h o = some outs) : ∃ v, outs = [(v, h)] := by
  obtain ⟨dst, op, type, pos, after, guard⟩ := o
  have r : ∀ {x : Option V} {outs : List (V × H)}, rv h x = some outs → ∃ v, outs = [(v, h)] := fun e => by
    obtain ⟨v, _, e2⟩ := rv_some e; exact ⟨v, e2⟩
  cases op with
  | load t x =>
    simp only [opV] at hv
    split at hv
    · exact r hv
    · exact r hv
    · cases hv
  | lookup t m ky okk =>
    simp only [opV] at hv
    split at hv
    · exact r hv
    · cases hv
  | binOp op t x y yt =>
    simp only [opV] at hv
    split at hv
    · exact r hv
    · cases hv
  | typeAssert x a b c => cases hv
  | convert s d x =>
    simp only [clsOf] at hc
    split at hc
    · rename_i i hi
      simp only [opV] at hv
      split at hv
      · rename_i u hu
        obtain ⟨v, h1, rfl⟩ := r1_some hv
        obtain ⟨v, h'⟩ := v
        refine ⟨v, ?_⟩
        have : h' = h := by
          unfold convV at h1
          split at h1
          · rename_i si di hsi hdi
            rw [hi] at hdi; injection hdi with hdi; subst hdi
            split at h1
            · injection h1 with h1; exact (Prod.mk.inj h1).2.symm
            · injection h1 with h1; exact (Prod.mk.inj h1).2.symm
            · rename_i e s q1 q2
              rw [q2] at hc; cases hc
            · split at h1
              · split at h1
                · injection h1 with h1; exact (Prod.mk.inj h1).2.symm
                · cases h1
              · cases h1
            · split at h1
              · split at h1
                · split at h1
                  · injection h1 with h1; exact (Prod.mk.inj h1).2.symm
                  · split at h1
                    · split at h1
                      · obtain ⟨s, _, h1⟩ := Option.map_eq_some_iff.1 h1
                        exact (Prod.mk.inj h1).2.symm
                      · cases h1
                    · cases h1
                · cases h1
              · cases h1
            · cases h1
          · cases h1
        rw [this]
      · cases hv
    · cases hc
  | call c =>
    obtain ⟨callee, args, argTypes⟩ := c
    simp only [clsOf] at hc
    split at hc
    · simp only [opV] at hv
      cases ho : opds fr args.toList with
      | none => rw [ho] at hv; cases hv
      | some vs =>
        rw [ho] at hv
        simp only [builtinV] at hv
        split at hv
        · exact r hv
        · cases hv
    · cases hc
  | _ => cases hc
end
end Go.Ev
