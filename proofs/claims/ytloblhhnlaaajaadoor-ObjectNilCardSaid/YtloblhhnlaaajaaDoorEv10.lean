/- Cells read and written; new blocks. -/
import Derived.Test.YtloblhhnlaaajaaDoorEv9
namespace Go.Ev
open Go

section
variable {P : Program} {E : Env} {ρ : Rho} {μ : Mu}

/-- What an operation on memory comes to. -/
def Rs (P : Program) (E : Env) (ρ : Rho) (μ : Mu) (w : World) (s : Sem Value) (v : V) (h' : H) : Prop :=
  ∃ μ' X w', Grows μ w μ' w' ∧ HR E ρ μ' h' w' ∧ conc ρ μ' v = some X ∧ s.run P w = .ok X w'
/-- .. that gives no value. -/
def Ru (P : Program) (E : Env) (ρ : Rho) (μ : Mu) (w : World) (s : Sem Unit) (h' : H) : Prop :=
  ∃ μ' w', Grows μ w μ' w' ∧ HR E ρ μ' h' w' ∧ s.run P w = .ok () w'

theorem cell_of {h : H} {w : World} (hh : HR E ρ μ h w) {b : Nat} {t : T V} {n : Nat} {d : List V} {e k : Nat} (hb : h.t.get b = some (.cells t n d e k)) {x : Nat × Nat} (hx : μ b = some x) {j : Nat} {v : V}
    (hc : cellAt t n d j = some v) : ∃ X, conc ρ μ v = some X ∧ w.cell? ⟨x.1, j, none⟩ = some X := by
  obtain ⟨y, o, h1, h2, h3⟩ := hh.blk b _ hb
  rw [hx] at h1; injection h1 with h1; subst h1
  cases h3 with
  | cells hc' hn h0 ho hf hf2 =>
    obtain ⟨X, e1, e2⟩ := hc' j v hc
    exact ⟨X, e1, by simp [World.cell?, h2, e2]⟩

theorem cellsFrom_sound {h : H} {w : World} (hh : HR E ρ μ h w) {b : Nat} {t : T V} {n : Nat} {d : List V} {e k : Nat} (hb : h.t.get b = some (.cells t n d e k)) {x : Nat × Nat} (hx : μ b = some x) :
    ∀ {i m : Nat} {vs : List V}, cellsFrom t n d i m = some vs → ∃ L, concL ρ μ vs = some L ∧ L.length = m ∧ ∀ (j : Nat) X, L[j]? = some X → w.cell? ⟨x.1, i + j, none⟩ = some X
  | i, 0, vs, hc => by simp [cellsFrom] at hc; subst hc; exact ⟨[], by simp [concL], rfl, fun j X h => by simp at h⟩
  | i, m + 1, vs, hc => by
    simp only [cellsFrom] at hc
    cases hv : cellAt t n d i with
    | none => simp [hv] at hc
    | some v =>
      cases hr : cellsFrom t n d (Nat.succ i) m with
      | none => simp [hv, hr] at hc
      | some r =>
        simp [hv, hr] at hc
        subst hc
        obtain ⟨X, e1, e2⟩ := cell_of hh hb hx hv
        obtain ⟨L, l1, l2, l3⟩ := cellsFrom_sound hh hb hx hr
        refine ⟨X :: L, concL_mk e1 l1, by simp [l2], fun j Y hj => ?_⟩
        cases j with
        | zero => simp at hj; subst hj; simpa using e2
        | succ j =>
          have := l3 j Y (by simpa using hj)
          rw [show i + (j + 1) = Nat.succ i + j by omega]
          exact this

theorem run_cells {x o : Nat} {w : World} {L : List Value} (h : ∀ (j : Nat) X, L[j]? = some X → w.cell? ⟨x, o + j, none⟩ = some X) {m : Nat} (hm : L.length = m) : (loadCells ⟨x, o, none⟩ m).run P w = .ok L.toArray w := by
  subst hm
  exact run_loadCells_list w _ L (fun j v hj => by rw [Addr.add_lit]; exact h j v hj)

theorem run_load' (hE : EnvOk P E) {h : H} {w : World} (hh : HR E ρ μ h w) {ty b o : Nat} {v : V} (hv : loadV E h ty b o = some v) {x : Nat × Nat} (hx : μ b = some x) :
    ∃ X, conc ρ μ v = some X ∧ (Instr.loadAt ty (.pointer (some ⟨x.1, o, none⟩))).run P w = .ok X w := by
  unfold loadV at hv
  split at hv
  · cases hv
  · rename_i i hi
    split at hv
    · rename_i t n d e k hb
      cases hg : i.agg with
      | true =>
        simp only [hg, cond_true] at hv
        obtain ⟨vs, h1, rfl⟩ := Option.map_eq_some_iff.1 hv
        obtain ⟨L, l1, l2, l3⟩ := cellsFrom_sound hh hb hx h1
        refine ⟨.agg L.toArray, by simp [conc, l1], ?_⟩
        simp [Instr.loadAt, Instr.sureAddr, loadVar, run_agg hE hi w, hg, run_size hE hi w, run_cells l3 l2]
      | false =>
        simp only [hg, cond_false] at hv
        obtain ⟨X, e1, e2⟩ := cell_of hh hb hx hv
        refine ⟨X, e1, ?_⟩
        simp [Instr.loadAt, Instr.sureAddr, loadVar, run_agg hE hi w, hg, e2]
    · cases hv

theorem run_loadG (hE : EnvOk P E) {h : H} {w : World} (hh : HR E ρ μ h w) {ty g o : Nat} {v : V} (hv : loadG E ty g o = some v) :
    ∃ X, conc ρ μ v = some X ∧ (Instr.loadAt ty (.pointer (some ⟨g, o, none⟩))).run P w = .ok X w := by
  unfold loadG at hv
  split at hv
  · cases hv
  · rename_i i hi
    split at hv
    · rename_i cs hg'
      obtain ⟨⟨arr, e, fz, X, h1, h2, h3⟩, h4⟩ := hh.glob g cs hg'
      have hle : Le (fun _ => none) μ := fun b x h => by cases h
      have h2 := concL_le (ρ := ρ) hle _ _ h2
      have cell : ∀ (j : Nat) Y, X[j]? = some Y → w.cell? ⟨g, j, none⟩ = some Y := fun j Y hj => by simp [World.cell?, h1, h3 j Y hj]
      cases hg : i.agg with
      | true =>
        simp only [hg, cond_true] at hv
        obtain ⟨hb, hv⟩ := bif_some hv
        have hb := Nat.le_of_ble_eq_true hb
        injection hv with hv; subst hv
        have hl := concL_length h2
        refine ⟨.agg ((X.drop o).take i.size).toArray, by simp [conc, concL_take _ (concL_drop _ h2)], ?_⟩
        have : (loadCells ⟨g, o, none⟩ i.size).run P w = .ok ((X.drop o).take i.size).toArray w := by
          refine run_cells (fun j Y hj => ?_) (by simp; omega)
          have hj' : X[o + j]? = some Y := by
            rw [List.getElem?_take] at hj
            split at hj
            · simpa using hj
            · cases hj
          exact cell _ _ hj'
        simp [Instr.loadAt, Instr.sureAddr, loadVar, run_agg hE hi w, hg, run_size hE hi w, this]
      | false =>
        simp only [hg, cond_false] at hv
        rw [nth_eq] at hv
        obtain ⟨Y, e1, e2⟩ := concL_get h2 hv
        refine ⟨Y, e2, ?_⟩
        simp [Instr.loadAt, Instr.sureAddr, loadVar, run_agg hE hi w, hg, cell _ _ e1]
    · cases hv

/-- A world with another object in a block. -/
def World.at_ (w : World) (b : Nat) (o : Obj) : World := { w with heap := w.heap.setIfInBounds b o }
theorem at_same {w : World} {b : Nat} {o : Obj} (h : b < w.heap.size) : (World.at_ w b o).heap[b]? = some o := by simp [World.at_, h]
theorem at_other {w : World} {b g : Nat} {o : Obj} (h : g ≠ b) : (World.at_ w b o).heap[g]? = w.heap[g]? := by simp [World.at_, Array.getElem?_setIfInBounds_ne (Ne.symm h)]
theorem at_size {w : World} {b : Nat} {o : Obj} : (World.at_ w b o).heap.size = w.heap.size := by simp [World.at_]
theorem at_at {w : World} {b : Nat} {o o' : Obj} : World.at_ (World.at_ w b o) b o' = World.at_ w b o' := by
  simp [World.at_]
theorem at_self {w : World} {b : Nat} {o : Obj} (h : w.heap[b]? = some o) : World.at_ w b o = w := by
  have : w.heap.setIfInBounds b o = w.heap := by
    apply Array.ext'
    simp
    have hb : b < w.heap.size := by
      rcases Nat.lt_or_ge b w.heap.size with h' | h'
      · exact h'
      · rw [Array.getElem?_eq_none h'] at h; cases h
    rw [Array.getElem?_eq_getElem hb] at h
    injection h with h
    subst h
    apply List.set_getElem_self
  cases w
  simp only [World.at_] at *
  rw [this]

theorem lt_of_some {α : Type} {a : Array α} {i : Nat} {x : α} (h : a[i]? = some x) : i < a.size := by
  rcases Nat.lt_or_ge i a.size with h' | h'
  · exact h'
  · rw [Array.getElem?_eq_none h'] at h; cases h

theorem setCell_at {w : World} {b o : Nat} {arr : Array Value} {e : Nat} {fz : Nat × Nat} {v : Value} (h : w.heap[b]? = some (.cells arr e fz)) :
    w.setCell ⟨b, o, none⟩ v = World.at_ w b (.cells (arr.setIfInBounds o v) e fz) := by
  have hb := lt_of_some h
  simp only [World.setCell, World.at_]
  congr 1
  apply Array.ext_getElem?
  intro i
  by_cases hi : i = b
  · subst hi
    rw [Array.getElem?_modify, h]
    simp [hb]
  · rw [Array.getElem?_modify, if_neg (Ne.symm hi), Array.getElem?_setIfInBounds_ne (Ne.symm hi)]

/-- Cells spliced into a row. -/
def splice (arr : Array Value) (o : Nat) (vs : List Value) : Array Value := (arr.toList.take o ++ vs ++ arr.toList.drop (o + vs.length)).toArray
theorem splice_nil (arr : Array Value) (o : Nat) : splice arr o [] = arr := by simp [splice]
theorem splice_size {arr : Array Value} {o : Nat} {vs : List Value} (h : o + vs.length ≤ arr.size) : (splice arr o vs).size = arr.size := by
  simp [splice]; omega
theorem splice_get {arr : Array Value} {o : Nat} {vs : List Value} (h : o + vs.length ≤ arr.size) (j : Nat) :
    (splice arr o vs)[j]? = if o ≤ j ∧ j < o + vs.length then vs[j - o]? else arr[j]? := by
  simp only [splice, List.getElem?_toArray]
  have hl : (arr.toList.take o).length = o := by simp; omega
  by_cases h1 : j < o
  · rw [if_neg (by omega), List.append_assoc, List.getElem?_append_left (by omega), List.getElem?_take, if_pos h1]
    simp
  · by_cases h2 : j < o + vs.length
    · rw [if_pos ⟨by omega, h2⟩, List.append_assoc, List.getElem?_append_right (by omega), hl, List.getElem?_append_left (by omega)]
    · rw [if_neg (by omega), List.getElem?_append_right (by simp [hl]; omega)]
      simp only [List.length_append, hl, List.getElem?_drop]
      rw [show o + vs.length + (j - (o + vs.length)) = j by omega]
      simp
theorem splice_cons {arr : Array Value} {o : Nat} {v : Value} {vs : List Value} (h : o + (vs.length + 1) ≤ arr.size) : splice (arr.setIfInBounds o v) (o + 1) vs = splice arr o (v :: vs) := by
  apply Array.ext_getElem?
  intro j
  rw [splice_get (by simp; omega), splice_get (by simpa using h)]
  simp only [List.length_cons]
  by_cases h1 : j = o
  · subst h1
    rw [if_neg (by omega), if_pos (by omega)]
    have : j < arr.size := by omega
    simp [this]
  · by_cases h2 : o ≤ j ∧ j < o + (vs.length + 1)
    · rw [if_pos (by omega), if_pos h2]
      rw [show j - o = (j - (o + 1)) + 1 by omega]
      simp
    · rw [if_neg (by omega), if_neg h2, Array.getElem?_setIfInBounds_ne (by omega)]

theorem run_storeCells : ∀ (vs : List Value) (w : World) (b o i : Nat) (arr : Array Value) (e : Nat) (fz : Nat × Nat), w.heap[b]? = some (.cells arr e fz) → o + i + vs.length ≤ arr.size →
    (∀ j, o + i ≤ j → j < o + i + vs.length → ¬ (fz.1 ≤ j ∧ j < fz.2)) → (∀ v ∈ vs, (∀ cs, v ≠ .agg cs) ∧ ∀ us, v ≠ .tuple us) →
    (storeCells ⟨b, o, none⟩ vs i).run P w = .ok () (World.at_ w b (.cells (splice arr (o + i) vs) e fz))
  | [], w, b, o, i, arr, e, fz, hb, _, _, _ => by
    rw [splice_nil, at_self hb]; rfl
  | v :: vs, w, b, o, i, arr, e, fz, hb, hs, hf, hone => by
    simp only [List.length_cons] at hs hf
    have hlt : o + i < arr.size := by omega
    have hcell : w.cell? ⟨b, o + i, none⟩ = some arr[o + i] := by simp [World.cell?, hb, hlt]
    have hfr : w.frozen? ⟨b, o + i, none⟩ = false := by
      have := hf (o + i) (Nat.le_refl _) (by omega)
      simp [World.frozen?, hb]
      omega
    obtain ⟨n1, n2⟩ := hone v (by simp)
    have hst : (store ⟨b, o + i, none⟩ v).run P w = .ok () (w.setCell ⟨b, o + i, none⟩ v) := by
      cases v <;> first | exact absurd rfl (n1 _) | exact absurd rfl (n2 _) | simp [store, Sem.run, hcell, hfr]
    have ih := run_storeCells vs (w.setCell ⟨b, o + i, none⟩ v) b o (i + 1) (arr.setIfInBounds (o + i) v) e fz
      (by rw [setCell_at hb]; exact at_same (lt_of_some hb)) (by simp; omega) (fun j h1 h2 => hf j (by omega) (by omega)) (fun u hu => hone u (by simp [hu]))
    simp only [storeCells, Addr.add_lit, Sem.run_bind, hst, Result.andThen_ok, ih]
    rw [setCell_at hb, at_at, ← Nat.add_assoc, splice_cons (by omega)]

theorem cellAt_putL {t : T V} {n : Nat} {d : List V} {o : Nat} {vs : List V} (h : o + vs.length ≤ n) (j : Nat) :
    cellAt (T.putL t o vs) n d j = if o ≤ j ∧ j < o + vs.length then vs[j - o]? else cellAt t n d j := by
  unfold cellAt
  rw [T.get_putL]
  by_cases h1 : o ≤ j ∧ j < o + vs.length
  · rw [if_pos h1, if_pos h1]
    have : Nat.blt j n = true := by have := h1.2; simp; omega
    have hl : j - o < vs.length := by omega
    rw [this, List.getElem?_eq_getElem hl]
    rfl
  · rw [if_neg h1, if_neg h1]

theorem storeL_sound (hp : Plain ρ) {h h' : H} {w : World} (hh : HR E ρ μ h w) {b o : Nat} {vs : List V} {L : List Value} (hs : storeL h b o vs = some h') {x : Nat × Nat} (hx : μ b = some x) (hv : concL ρ μ vs = some L) :
    ∃ w', Grows μ w μ w' ∧ HR E ρ μ h' w' ∧ (storeCells ⟨x.1, o, none⟩ L).run P w = .ok () w' := by
  cases vs with
  | nil =>
    simp [storeL] at hs; subst hs
    simp [concL] at hv; subst hv
    exact ⟨w, Grows.refl _ _, hh, rfl⟩
  | cons v r =>
    simp only [storeL] at hs
    split at hs
    · rename_i t n d e k hb
      obtain ⟨h1, h2⟩ := bif_some hs
      injection h2 with h2; subst h2
      simp only [Bool.and_eq_true, List.all_eq_true] at h1
      obtain ⟨h3, h4⟩ := h1
      have h3 := Nat.le_of_ble_eq_true h3
      generalize hvs : v :: r = vs at *
      have hl := concL_length hv
      obtain ⟨y, ob, e1, e2, e3⟩ := hh.blk b _ hb
      rw [hx] at e1; injection e1 with e1; subst e1
      cases e3 with
      | @cells _ _ _ _ _ _ arr fz hc hn h0 ho hf hf2 =>
        have hfz : ∀ j, j < n → ¬ (fz.1 ≤ j ∧ j < fz.2) := by
          intro j hj
          by_cases hk : k = 2
          · rcases hf2 hk with q | q
            · rw [q]; simp
            · omega
          · rw [hf hk]; simp
        have hone : ∀ X ∈ L, (∀ cs, X ≠ .agg cs) ∧ ∀ us, X ≠ .tuple us := by
          intro X hX
          obtain ⟨j, hj⟩ := List.mem_iff_getElem?.1 hX
          have hjl : j < L.length := by
            rcases Nat.lt_or_ge j L.length with h | h
            · exact h
            · rw [List.getElem?_eq_none h] at hj; cases hj
          have hjv : vs[j]? = some vs[j] := List.getElem?_eq_getElem (by omega)
          obtain ⟨Y, y1, y2⟩ := concL_get hv hjv
          rw [hj] at y1; injection y1 with y1; subst y1
          exact conc_one hp y2 (h4 _ (List.getElem_mem _))
        have run := run_storeCells (P := P) L w x.1 o 0 arr e fz e2 (by omega) (fun j a1 a2 => hfz j (by omega)) hone
        simp only [Nat.add_zero] at run
        refine ⟨_, ?_, ?_, run⟩
        · exact Grows.change hx at_size (fun g hg => at_other hg) rfl rfl rfl
        · refine HR.change hh hb hx ?_ at_size (fun g hg => at_other hg) (at_same (lt_of_some e2))
          refine .cells (fun j u hu => ?_) (by rw [splice_size (by omega)]; exact hn) (fun q => by rw [splice_size (by omega)]; exact h0 q)
            (fun q => by obtain ⟨i, i1, i2⟩ := ho q; exact ⟨i, i1, by rw [splice_size (by omega)]; exact i2⟩) hf (fun q => by rw [splice_size (by omega)]; exact hf2 q)
          rw [cellAt_putL (by omega)] at hu
          rw [splice_get (by omega)]
          by_cases hj : o ≤ j ∧ j < o + vs.length
          · rw [if_pos hj] at hu
            rw [if_pos (by omega)]
            obtain ⟨Y, y1, y2⟩ := concL_get hv hu
            exact ⟨Y, y2, y1⟩
          · rw [if_neg hj] at hu
            rw [if_neg (by omega)]
            exact hc j u hu
    · cases hs

theorem run_store' (hE : EnvOk P E) (hp : Plain ρ) {h h' : H} {w : World} (hh : HR E ρ μ h w) {ty b o : Nat} {v : V} {X : Value} (hs : storeV E h ty b o v = some h') {x : Nat × Nat} (hx : μ b = some x) (hv : conc ρ μ v = some X) :
    Ru P E ρ μ w (Instr.storeAt ty (.pointer (some ⟨x.1, o, none⟩)) X) h' := by
  unfold storeV at hs
  split at hs
  · cases hs
  · rename_i i hi
    obtain ⟨h1, h2⟩ := bif_some hs
    have h1 := Nat.eq_of_beq_eq_true h1
    have hc := conc_cells hp hv
    obtain ⟨w', g1, g2, g3⟩ := storeL_sound (P := P) hp hh h2 hx hc
    have hl := concL_length hc
    refine ⟨μ, w', g1, g2, ?_⟩
    have hsz : X.cells.size = i.size := by rw [← h1]; simpa using hl
    simp [Instr.storeAt, Instr.sureAddr, storeVar, run_size hE hi w, hsz, g3]
end
end Go.Ev
