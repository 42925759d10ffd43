/- Sums, conversions, structs, lengths: the values. -/
import Derived.Test.YtloblhhnlaaajaaDoorEv8
namespace Go.Ev
open Go

section
variable {P : Program} {E : Env} {ρ : Rho} {μ : Mu}

theorem pureVal_sound {s : Sem Value} {v : V} (h : pureVal s = some v) : ∃ X, conc ρ μ v = some X ∧ ∀ w, s.run P w = .ok X w := by
  unfold pureVal at h
  split at h
  · rename_i X
    exact ⟨X, ofValue0_conc h, fun w => rfl⟩
  · cases h

theorem strOp_sound {op : BinOp} {a b : List UInt8} {v : V} (h : strOp op a b = some v) : ∃ X, conc ρ μ v = some X ∧ ∀ w, (Op.stringOp op ⟨a.toArray⟩ ⟨b.toArray⟩).run P w = .ok X w := by
  cases op <;> simp only [strOp] at h <;> try (cases h; done)
  case add =>
    obtain ⟨h1, h2⟩ := bif_some h
    have h1 := Nat.le_of_ble_eq_true h1
    injection h2 with h2; subst h2
    refine ⟨.string ⟨(a ++ b).toArray⟩, by simp [conc], fun w => ?_⟩
    have e : ¬ (((⟨a.toArray⟩ : ByteArray).size + (⟨b.toArray⟩ : ByteArray).size : Nat) : Int) > IntKind.i64.max := by
      rw [str_size, str_size, IntKind.max_i64]; omega
    simp only [Op.stringOp]
    rw [if_neg e]
    have e2 : (⟨a.toArray⟩ : ByteArray) ++ ⟨b.toArray⟩ = ⟨(a ++ b).toArray⟩ := by
      apply ByteArray.ext
      simp
    rw [e2]; rfl
  all_goals
    injection h with h; subst h
    exact ⟨_, (by simp only [conc]; rfl), fun w => by simp [Op.stringOp, ByteArray.toList_mk]⟩

theorem isConst_spec {x y : Operand} (h : (isConst x || isConst y) = true) : (∃ c, x = .const c) ∨ ∃ c, y = .const c := by
  cases x <;> cases y <;> simp [isConst] at h ⊢

theorem run_bin (hE : EnvOk P E) {h : H} {w : World} (hh : HR E ρ μ h w) {op : BinOp} {ty : Nat} {x y v : V} {X Y : Value} {ox oy : Operand} (hv : binV E h (isConst ox || isConst oy) op ty x y = some v)
    (hx : conc ρ μ x = some X) (hy : conc ρ μ y = some Y) : ∃ Z, conc ρ μ v = some Z ∧ (do eqGuard op ty ox oy X Y; binOp op ty X Y : Sem Value).run P w = .ok Z w := by
  unfold binV at hv
  split at hv
  · split at hv
    · rename_i hk
      obtain ⟨b, hb, rfl⟩ := Option.map_eq_some_iff.1 hv
      simp only [conc] at hx hy
      injection hx with hx; injection hy with hy; subst hx hy
      unfold nilsV at hb
      split at hb
      · rename_i i hi
        split at hb
        · rename_i ms hd
          injection hb with hb; subst hb
          refine ⟨.bool true, by simp [conc], ?_⟩
          have h3 : ∀ d, (Op.equalIn (d + 1) ty .nilIface .nilIface).run P w = .ok true w := fun d => by simp [Op.equalIn, run_und hE hi w, hd]
          have h4 : (Op.equal ty .nilIface .nilIface).run P w = .ok true w := h3 9999
          have h5 : eqGuard .eql ty ox oy .nilIface .nilIface = pure () := by
            rcases isConst_spec hk with ⟨c, rfl⟩ | ⟨c, rfl⟩
            · rfl
            · cases ox <;> rfl
          rw [h5]
          simp [binOp, h4]
        · cases hb
      · cases hb
    · rename_i hk
      obtain ⟨b, hb, rfl⟩ := Option.map_eq_some_iff.1 hv
      simp only [conc] at hx hy
      injection hx with hx; injection hy with hy; subst hx hy
      unfold nilsV at hb
      split at hb
      · rename_i i hi
        split at hb
        · rename_i ms hd
          injection hb with hb; subst hb
          refine ⟨.bool false, by simp [conc], ?_⟩
          have h3 : ∀ d, (Op.equalIn (d + 1) ty .nilIface .nilIface).run P w = .ok true w := fun d => by simp [Op.equalIn, run_und hE hi w, hd]
          have h4 : (Op.equal ty .nilIface .nilIface).run P w = .ok true w := h3 9999
          have h5 : eqGuard .neq ty ox oy .nilIface .nilIface = pure () := by
            rcases isConst_spec hk with ⟨c, rfl⟩ | ⟨c, rfl⟩
            · rfl
            · cases ox <;> rfl
          rw [h5]
          simp [binOp, h4]
        · cases hb
      · cases hb
    · cases hv
  · rename_i k a k' b
    obtain ⟨Z, h1, h2⟩ := pureVal_sound (P := P) (ρ := ρ) (μ := μ) hv
    simp only [conc] at hx hy
    injection hx with hx; injection hy with hy; subst hx hy
    refine ⟨Z, h1, ?_⟩
    rw [eqGuard_ne (by simp) (by simp)]
    simpa using h2 w
  · rename_i a b
    obtain ⟨Z, h1, h2⟩ := strOp_sound (P := P) (ρ := ρ) (μ := μ) hv
    simp only [conc] at hx hy
    injection hx with hx; injection hy with hy; subst hx hy
    refine ⟨Z, h1, ?_⟩
    rw [eqGuard_ne (by simp) (by simp)]
    have : binOp op ty (.string ⟨a.toArray⟩) (.string ⟨b.toArray⟩) = Op.stringOp op ⟨a.toArray⟩ ⟨b.toArray⟩ := by cases op <;> rfl
    rw [this]
    simpa using h2 w
  · rename_i n1 n2 n3
    have go : ∀ {r : Bool}, eqV E h ty x y = some r → (binOp .eql ty X Y = (do pure (.bool (← Op.equal ty X Y)))) ∧ (binOp .neq ty X Y = (do pure (.bool (!(← Op.equal ty X Y))))) := by
      intro r he
      unfold eqV at he
      cases hi : E.tys.get ty with
      | none => simp [hi] at he
      | some i =>
        simp only [hi] at he
        have e1 : ∀ k a k' b, ¬ (X = .int k a ∧ Y = .int k' b) := by
          rintro k a k' b ⟨rfl, rfl⟩
          split at he <;>
            first
              | (cases he; done)
              | (simp only [conc] at hx; injection hx with hx; cases hx; done)
              | (obtain ⟨_, _, hx⟩ := conc_ptr hx; cases hx; done)
              | (obtain ⟨_, _, hx⟩ := conc_iface hx; cases hx; done)
              | (obtain ⟨_, _, _, hx⟩ := conc_slice_any hx; cases hx; done)
              | (obtain ⟨_, _, hx⟩ := conc_map hx; cases hx; done)
              | (obtain ⟨_, _, _, _, hx⟩ := conc_func hx; cases hx; done)
              | (obtain ⟨_, _, hx⟩ := conc_agg hx; cases hx; done)
        have e2 : ∀ a b, ¬ (X = .string a ∧ Y = .string b) := by
          rintro a b ⟨rfl, rfl⟩
          split at he <;>
            first
              | (cases he; done)
              | (simp only [conc] at hx; injection hx with hx; cases hx; done)
              | (obtain ⟨_, _, hx⟩ := conc_ptr hx; cases hx; done)
              | (obtain ⟨_, _, hx⟩ := conc_iface hx; cases hx; done)
              | (obtain ⟨_, _, _, hx⟩ := conc_slice_any hx; cases hx; done)
              | (obtain ⟨_, _, hx⟩ := conc_map hx; cases hx; done)
              | (obtain ⟨_, _, _, _, hx⟩ := conc_func hx; cases hx; done)
              | (obtain ⟨_, _, hx⟩ := conc_agg hx; cases hx; done)
        have e3 : ∀ k a k' b, ¬ (X = .float k a ∧ Y = .float k' b) := by
          rintro k a k' b ⟨rfl, rfl⟩
          split at he <;>
            first
              | (cases he; done)
              | (simp only [conc] at hx; injection hx with hx; cases hx; done)
              | (obtain ⟨_, _, hx⟩ := conc_ptr hx; cases hx; done)
              | (obtain ⟨_, _, hx⟩ := conc_iface hx; cases hx; done)
              | (obtain ⟨_, _, _, hx⟩ := conc_slice_any hx; cases hx; done)
              | (obtain ⟨_, _, hx⟩ := conc_map hx; cases hx; done)
              | (obtain ⟨_, _, _, _, hx⟩ := conc_func hx; cases hx; done)
              | (obtain ⟨_, _, hx⟩ := conc_agg hx; cases hx; done)
        have e4 : ∀ k a b k' c d, ¬ (X = .complex k a b ∧ Y = .complex k' c d) := by
          rintro k a b k' c d ⟨rfl, rfl⟩
          split at he <;>
            first
              | (cases he; done)
              | (simp only [conc] at hx; injection hx with hx; cases hx; done)
              | (obtain ⟨_, _, hx⟩ := conc_ptr hx; cases hx; done)
              | (obtain ⟨_, _, hx⟩ := conc_iface hx; cases hx; done)
              | (obtain ⟨_, _, _, hx⟩ := conc_slice_any hx; cases hx; done)
              | (obtain ⟨_, _, hx⟩ := conc_map hx; cases hx; done)
              | (obtain ⟨_, _, _, _, hx⟩ := conc_func hx; cases hx; done)
              | (obtain ⟨_, _, hx⟩ := conc_agg hx; cases hx; done)
        constructor
        · cases X <;> cases Y <;> first | rfl | exact absurd ⟨rfl, rfl⟩ (e1 _ _ _ _) | exact absurd ⟨rfl, rfl⟩ (e2 _ _) | exact absurd ⟨rfl, rfl⟩ (e3 _ _ _ _) | exact absurd ⟨rfl, rfl⟩ (e4 _ _ _ _ _ _)
        · cases X <;> cases Y <;> first | rfl | exact absurd ⟨rfl, rfl⟩ (e1 _ _ _ _) | exact absurd ⟨rfl, rfl⟩ (e2 _ _) | exact absurd ⟨rfl, rfl⟩ (e3 _ _ _ _) | exact absurd ⟨rfl, rfl⟩ (e4 _ _ _ _ _ _)
    split at hv
    · obtain ⟨r, hr, rfl⟩ := Option.map_eq_some_iff.1 hv
      obtain ⟨g1, g2⟩ := run_eqV hE hh hr hx hy ox oy
      exact ⟨.bool r, by simp [conc], by rw [(go hr).1]; simp [g1, g2]⟩
    · obtain ⟨r, hr, rfl⟩ := Option.map_eq_some_iff.1 hv
      obtain ⟨g1, g2⟩ := run_eqV hE hh hr hx hy ox oy
      exact ⟨.bool (!r), by simp [conc], by rw [(go hr).2]; simp [g1, g2]⟩
    · cases hv

theorem run_un {op : UnOp} {x v : V} {X : Value} (h : unV op x = some v) (hx : conc ρ μ x = some X) : ∃ Y, conc ρ μ v = some Y ∧ ∀ w, (Op.unary op X).run P w = .ok Y w := by
  unfold unV at h
  split at h
  · simp only [conc] at hx; injection hx with hx; subst hx; exact pureVal_sound h
  · simp only [conc] at hx; injection hx with hx; subst hx; exact pureVal_sound h
  · cases h

theorem fillL_eq : ∀ (off : Nat) (cs vs : List V) {C W : List Value}, concL ρ μ cs = some C → concL ρ μ vs = some W → off + vs.length ≤ cs.length →
    concL ρ μ (fillL cs off vs) = some (C.take off ++ W ++ C.drop (off + W.length))
  | 0, cs, vs, C, W, hc, hw, _ => by
    have := concL_length hw
    simp only [fillL, List.take_zero, List.nil_append, Nat.zero_add]
    rw [this]
    exact concL_append hw (concL_drop _ hc)
  | off + 1, [], vs, C, W, hc, hw, h => by simp at h
  | off + 1, c :: r, vs, C, W, hc, hw, h => by
    obtain ⟨x, l, rfl, hx, hl⟩ := concL_cons hc
    have ih := fillL_eq off r vs hl hw (by simp at h; omega)
    simp only [fillL]
    have e : off + 1 + W.length = off + W.length + 1 := by omega
    rw [e]
    simpa using concL_mk hx ih

theorem foldl_set (W : List Value) : ∀ (off : Nat) (C : Array Value), off + W.length ≤ C.size →
    (W.zipIdx.foldl (fun cs (c, j) => cs.setIfInBounds (off + j) c) C).toList = C.toList.take off ++ W ++ C.toList.drop (off + W.length) := by
  have key : ∀ (W : List Value) (k off : Nat) (C : Array Value), off + k + W.length ≤ C.size →
      ((W.zipIdx k).foldl (fun cs (c, j) => cs.setIfInBounds (off + j) c) C).toList = C.toList.take (off + k) ++ W ++ C.toList.drop (off + k + W.length) := by
    intro W
    induction W with
    | nil => intro k off C h; simp
    | cons x r ih =>
      intro k off C h
      simp only [List.length_cons] at h
      simp only [List.zipIdx_cons, List.foldl_cons]
      rw [show off + k + (x :: r).length = off + (k + 1) + r.length by simp only [List.length_cons]; omega]
      rw [ih (k + 1) off (C.setIfInBounds (off + k) x) (by simp; omega)]
      have hlt : off + k < C.toList.length := by simp; omega
      rw [Array.toList_setIfInBounds, ← Nat.add_assoc]
      have a1 : (C.toList.set (off + k) x).take (off + k + 1) = C.toList.take (off + k) ++ [x] := by
        rw [List.take_succ_eq_append_getElem (by simpa using hlt), List.take_set, List.set_eq_of_length_le (by simp; omega)]
        simp
      have a2 : (C.toList.set (off + k) x).drop (off + k + 1 + r.length) = C.toList.drop (off + k + 1 + r.length) := by
        rw [List.drop_set]
        rw [if_pos (by omega)]
      rw [a1, a2]
      simp
  intro off C h
  simpa using key W 0 off C (by simpa using h)

theorem fillAll_sound (hp : Plain ρ) {place place' : Nat → Option (Nat × Nat)} : ∀ {parts : List (Nat × V)} {cells out : List V} {C : List Value} {parts' : List (Nat × Value)},
    (∀ i x, place i = some x → place' i = some x) → fillAll place cells parts = some out → concL ρ μ cells = some C →
    parts.length = parts'.length → (∀ (j i : Nat) v, parts[j]? = some (i, v) → ∃ X, parts'[j]? = some (i, X) ∧ conc ρ μ v = some X) →
    ∃ O, concL ρ μ out = some O ∧ Instr.fill place' C.toArray parts' = some O.toArray
  | [], cells, out, C, parts', hpl, h, hc, hl, hparts => by
    cases parts' with
    | nil => simp [fillAll] at h; subst h; exact ⟨C, hc, rfl⟩
    | cons _ _ => simp at hl
  | (i, v) :: rest, cells, out, C, parts', hpl, h, hc, hl, hparts => by
    cases parts' with
    | nil => simp at hl
    | cons p parts' =>
      obtain ⟨X, e1, hX⟩ := hparts 0 i v rfl
      simp at e1
      subst e1
      simp only [fillAll] at h
      cases hpi : place i with
      | none => simp [hpi] at h
      | some q =>
        obtain ⟨off, size⟩ := q
        simp only [hpi] at h
        obtain ⟨h1, h⟩ := bif_some h
        obtain ⟨h2, h⟩ := bif_some h
        have h1 := Nat.eq_of_beq_eq_true h1
        have h2 := Nat.le_of_ble_eq_true h2
        have hcv := conc_cells hp hX
        have lv := concL_length hcv
        have lc := concL_length hc
        have hf := fillL_eq off cells v.cells hc hcv h2
        obtain ⟨O, o1, o2⟩ := fillAll_sound hp hpl h hf (by simpa using hl) (fun j i' v' e => by simpa using hparts (j + 1) i' v' e)
        refine ⟨O, o1, ?_⟩
        rw [← o2]
        simp only [Instr.fill, hpl i _ hpi]
        have sz : X.cells.size = v.cells.length := by simpa using lv
        rw [if_neg (by
          simp only [Bool.or_eq_true, decide_eq_true_eq, not_or, List.size_toArray]
          exact ⟨by omega, by omega⟩)]
        congr 1
        apply Array.ext'
        rw [← Array.foldl_toList]
        have := foldl_set X.cells.toList off C.toArray (by simp only [List.size_toArray]; omega)
        simp only [Array.toList_zipIdx]
        rw [this]
end
end Go.Ev
