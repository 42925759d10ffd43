/- Maps: looked up, changed, walked over. -/
import Derived.Test.YtloblhhnlaaajaaDoorEv14
namespace Go.Ev
open Go

section
variable {P : Program} {E : Env} {ρ : Rho} {μ : Mu}

theorem conc_ok {v : V} {X : Value} (hx : conc ρ μ v = some X) (ok b : Bool) : conc ρ μ (bif ok then V.tuple [v, .bool b] else v) = some (if ok then .tuple #[X, .bool b] else X) := by
  cases ok
  · simpa using hx
  · have h1 : conc ρ μ (.bool b) = some (.bool b) := by simp only [conc]
    have h2 : concL ρ μ [v, .bool b] = some [X, .bool b] := concL_mk hx (concL_mk h1 (by simp [concL]))
    simp [conc, h2]

theorem lookup_find {ty kt et : Nat} {w : World} {M K : Value} {ok : Bool} {l : Array MapEntry} {R : Option (Nat × Value)} {Z : Value} (hu : (underlying ty).run P w = .ok (.map kt et) w)
    (hm : (M = .map none ∧ l = #[]) ∨ ∃ r clock, M = .map (some r) ∧ w.heap[r]? = some (.map l clock))
    (hc : (Instr.checkKey l.isEmpty 10000 kt K).run P w = .ok () w) (hf : (Instr.findKey kt K l.toList).run P w = .ok R w) (hz : (zeroValue et).run P w = .ok Z w) :
    (Instr.lookup ty M K ok).run P w = .ok (match R with
      | some (_, v) => if ok then .tuple #[v, .bool true] else v
      | none => if ok then .tuple #[Z, .bool false] else Z) w := by
  rcases hm with ⟨rfl, rfl⟩ | ⟨r, clock, rfl, hr⟩
  · simp only [Instr.lookup, Sem.run_bind, hu, Result.andThen_ok, Sem.run_pure, hc, hf]
    cases R with
    | none => simp [hz]
    | some r => simp
  · have hg : (getObj r).run P w = .ok (.map l clock) w := by simp [getObj, Sem.run, hr]
    simp only [Instr.lookup, Sem.run_bind, hu, Result.andThen_ok, hg, Sem.run_pure, hc, hf]
    cases R with
    | none => simp [hz]
    | some r => simp

theorem ents_sound {h : H} {w : World} (hh : HR E ρ μ h w) {m : V} {M : Value} {es : List (V × V × Nat)} (he : mapEnts h m = some es) (hm : conc ρ μ m = some M) :
    ∃ l, EsR ρ μ es l.toList ∧ ((M = .map none ∧ l = #[]) ∨ ∃ r clock, M = .map (some r) ∧ w.heap[r]? = some (.map l clock)) := by
  unfold mapEnts at he
  split at he
  · injection he with he; subst he
    simp only [conc] at hm
    injection hm with hm; subst hm
    exact ⟨#[], ⟨rfl, fun i k v b e => by simp at e⟩, .inl ⟨rfl, rfl⟩⟩
  · rename_i b
    split at he
    · rename_i es' clock hb
      injection he with he; subst he
      obtain ⟨y, hy, rfl⟩ := conc_map hm
      obtain ⟨arr, a1, a2⟩ := map_obj hh hb hy
      exact ⟨arr, a2, .inr ⟨_, clock, rfl, a1⟩⟩
    · cases he
  · cases he

theorem run_lookup' (hE : EnvOk P E) {h : H} {w : World} (hh : HR E ρ μ h w) {ty : Nat} {m k v : V} {ok : Bool} {M K : Value} (hv : lookupV E h ty m k ok = some v) (hm : conc ρ μ m = some M) (hk : conc ρ μ k = some K) :
    ∃ X, conc ρ μ v = some X ∧ (Instr.lookup ty M K ok).run P w = .ok X w := by
  unfold lookupV at hv
  split at hv
  · cases hv
  · rename_i ki ei hme
    obtain ⟨i, kt, et, h1, h2, h3, h4⟩ := mapOf_some hme
    have ui := run_und hE h1 w
    rw [h2] at ui
    obtain ⟨hok, hv⟩ := bif_some hv
    obtain ⟨Z, z1, z2, z3, z4⟩ := run_zero (P := P) (ρ := ρ) (μ := μ) hE h4
    split at hv
    · cases hv
    · rename_i es he
      obtain ⟨l, l1, l2⟩ := ents_sound hh he hm
      have fin := fun {R} r2 => lookup_find (P := P) (ok := ok) (R := R) ui l2 (run_check hE h3 hk hok _) r2 (z1 w)
      split at hv
      · cases hv
      · rename_i j u born hf
        injection hv with hv; subst hv
        obtain ⟨R, ⟨Y, rfl, y1, _, _, _⟩, r2⟩ := run_find hE hh h3 hk l1 hf
        exact ⟨_, conc_ok y1 ok true, fin r2⟩
      · rename_i hf
        obtain ⟨R, r1, r2⟩ := run_find hE hh h3 hk l1 hf
        simp only [Found] at r1
        subst r1
        simp only [TI.zeroV, Option.map_some] at hv
        injection hv with hv; subst hv
        exact ⟨_, conc_ok z2 ok false, fin r2⟩

theorem run_set_at {w : World} {r : Nat} {arr : Array MapEntry} {c : Nat} {o' : Obj} (h : w.heap[r]? = some (.map arr c)) : (setObj r o').run P w = .ok () (World.at_ w r o') := by
  simp [setObj, Sem.run, h, World.at_]

/-- A map has become another. -/
theorem map_change {h : H} {w : World} (hh : HR E ρ μ h w) {b : Nat} {es es' : List (V × V × Nat)} {clock clock' : Nat} (hb : h.t.get b = some (.map es clock)) {y : Nat × Nat} (hy : μ b = some y) {arr arr' : Array MapEntry} (ha : w.heap[y.1]? = some (.map arr clock))
    (hes : EsR ρ μ es' arr'.toList) : Grows μ w μ (World.at_ w y.1 (.map arr' clock')) ∧ HR E ρ μ (h.put b (.map es' clock')) (World.at_ w y.1 (.map arr' clock')) := by
  refine ⟨Grows.change hy at_size (fun g hg => at_other hg) rfl rfl rfl, HR.change hh hb hy ?_ at_size (fun g hg => at_other hg) (at_same (lt_of_some ha))⟩
  exact .map (by simpa using hes.1) fun i k v born e => by simpa using hes.2 i k v born e

theorem EsR.push {es : List (V × V × Nat)} {l : List MapEntry} (h : EsR ρ μ es l) {k v : V} {K X : Value} {born : Nat} (hk : conc ρ μ k = some K) (hx : conc ρ μ v = some X) : EsR ρ μ (es ++ [(k, v, born)]) (l ++ [⟨K, X, born⟩]) := by
  refine ⟨by simp [h.1], fun i k' v' b e => ?_⟩
  by_cases hi : i < es.length
  · rw [List.getElem?_append_left hi] at e
    rw [List.getElem?_append_left (by rw [← h.1]; exact hi)]
    exact h.2 i k' v' b e
  · rw [List.getElem?_append_right (by omega)] at e
    rw [List.getElem?_append_right (by rw [← h.1]; omega), ← h.1]
    cases hj : i - es.length with
    | zero => rw [hj] at e; simp at e; obtain ⟨rfl, rfl, rfl⟩ := e; exact ⟨K, X, hk, hx, rfl⟩
    | succ n => rw [hj] at e; simp at e

theorem EsR.set {es : List (V × V × Nat)} {l : List MapEntry} (h : EsR ρ μ es l) {k v : V} {K X : Value} {born j : Nat} (hk : conc ρ μ k = some K) (hx : conc ρ μ v = some X) : EsR ρ μ (es.set j (k, v, born)) (l.set j ⟨K, X, born⟩) := by
  refine ⟨by simp [h.1], fun i k' v' b e => ?_⟩
  rw [List.getElem?_set] at e ⊢
  by_cases hi : j = i
  · subst hi
    rw [if_pos rfl] at e ⊢
    rw [← h.1]
    split at e
    · rename_i hl
      rw [if_pos hl]
      injection e with e
      obtain ⟨e1, e⟩ := Prod.mk.inj e
      obtain ⟨e2, e3⟩ := Prod.mk.inj e
      subst e1 e2 e3
      exact ⟨K, X, hk, hx, rfl⟩
    · cases e
  · rw [if_neg hi] at e ⊢
    exact h.2 i k' v' b e

theorem EsR.erase {es : List (V × V × Nat)} {l : List MapEntry} (h : EsR ρ μ es l) (j : Nat) : EsR ρ μ (es.eraseIdx j) (l.eraseIdx j) := by
  refine ⟨by simp [List.length_eraseIdx, h.1], fun i k' v' b e => ?_⟩
  rw [List.getElem?_eraseIdx] at e ⊢
  split at e
  · rename_i hi; rw [if_pos hi]; exact h.2 _ _ _ _ e
  · rename_i hi; rw [if_neg hi]; exact h.2 _ _ _ _ e

theorem modify_at {l : Array MapEntry} {j : Nat} {e e' : MapEntry} {f : MapEntry → MapEntry} (hj : l[j]? = some e) (hf : f e = e') : (l.modify j f).toList = l.toList.set j e' := by
  apply List.ext_getElem?
  intro i
  rw [Array.getElem?_toList, Array.getElem?_modify, List.getElem?_set]
  have hlt := lt_of_some hj
  by_cases hi : j = i
  · subst hi
    rw [if_pos rfl, if_pos rfl, hj, if_pos (by simpa using hlt)]
    simp [hf]
  · rw [if_neg hi, if_neg hi, Array.getElem?_toList]

theorem run_update (hE : EnvOk P E) {h h' : H} {w : World} (hh : HR E ρ μ h w) {ty : Nat} {m k v : V} {M K X : Value} (hv : updateV E h ty m k v = some h') (hm : conc ρ μ m = some M) (hk : conc ρ μ k = some K) (hx : conc ρ μ v = some X) :
    Ru P E ρ μ w (Instr.mapUpdate ty M K X) h' := by
  unfold updateV at hv
  split at hv
  · rename_i ki ei b hme
    obtain ⟨i, kt, et, h1, h2, h3, h4⟩ := mapOf_some hme
    have ui := run_und hE h1 w
    rw [h2] at ui
    split at hv
    · rename_i es clock hb
      obtain ⟨hok, hv⟩ := bif_some hv
      obtain ⟨y, hy, rfl⟩ := conc_map hm
      obtain ⟨arr, a1, a2⟩ := map_obj hh hb hy
      have hc := run_check (w := w) hE h3 hk hok false
      split at hv
      · cases hv
      · rename_i j u born hf
        injection hv with hv; subst hv
        obtain ⟨R, ⟨Y, rfl, y1, _, y3, y4⟩, r2⟩ := run_find hE hh h3 hk a2 hf
        simp only [Nat.sub_zero, Array.getElem?_toList] at y3
        rw [setNth_eq]
        obtain ⟨g1, g2⟩ := map_change (clock' := clock) (arr' := arr.modify j fun e => { e with key := K, val := X }) hh hb hy a1 (by
          rw [modify_at y3 rfl]; exact a2.set hk hx)
        refine ⟨μ, _, g1, g2, ?_⟩
        unfold Instr.mapUpdate
        rw [Sem.run_bind, ui, Result.andThen_ok]
        simp only
        have hg : (getObj y.1).run P w = .ok (.map arr clock) w := by simp [getObj, Sem.run, a1]
        rw [Sem.run_bind, hg, Result.andThen_ok]
        simp only
        rw [Sem.run_bind, hc, Result.andThen_ok, Sem.run_bind, r2, Result.andThen_ok]
        simp only [y3, Option.map_some, Option.getD_some]
        have hkeep : (Instr.keyThatStays K K).run P w = .ok K w := by unfold Instr.keyThatStays; rw [if_pos y4]; rfl
        rw [Sem.run_bind, hkeep, Result.andThen_ok]
        exact run_set_at a1
      · rename_i hf
        injection hv with hv; subst hv
        obtain ⟨R, r1, r2⟩ := run_find hE hh h3 hk a2 hf
        simp only [Found] at r1
        subst r1
        obtain ⟨g1, g2⟩ := map_change (clock' := clock + 1) (arr' := arr.push { key := K, val := X, born := clock }) hh hb hy a1 (by
          rw [Array.toList_push]; exact a2.push hk hx)
        refine ⟨μ, _, g1, g2, ?_⟩
        unfold Instr.mapUpdate
        rw [Sem.run_bind, ui, Result.andThen_ok]
        simp only
        have hg : (getObj y.1).run P w = .ok (.map arr clock) w := by simp [getObj, Sem.run, a1]
        rw [Sem.run_bind, hg, Result.andThen_ok]
        simp only
        rw [Sem.run_bind, hc, Result.andThen_ok, Sem.run_bind, r2, Result.andThen_ok]
        exact run_set_at a1
    · cases hv
  · cases hv

theorem run_delete' (hE : EnvOk P E) {h h' : H} {w : World} (hh : HR E ρ μ h w) {ty t : Nat} {tys : Array TypeId} {m k : V} {M K : Value} (ht : tys[0]? = some t) (hv : deleteV E h t m k = some h') (hm : conc ρ μ m = some M) (hk : conc ρ μ k = some K) :
    Rs P E ρ μ w (Builtin.delete_ tys ty #[M, K]) un h' := by
  unfold deleteV at hv
  split at hv
  · cases hv
  · rename_i ki ei hme
    obtain ⟨i, kt, et, h1, h2, h3, h4⟩ := mapOf_some hme
    have ui := run_und hE h1 w
    rw [h2] at ui
    obtain ⟨hok, hv⟩ := bif_some hv
    have hun : conc ρ μ un = some (.tuple #[]) := by simp [un, conc, concL]
    split at hv
    · injection hv with hv; subst hv
      simp only [conc] at hm
      injection hm with hm; subst hm
      refine ⟨μ, .tuple #[], w, Grows.refl _ _, hh, hun, ?_⟩
      have hc := run_check (w := w) hE h3 hk hok true
      simp [Builtin.delete_, ht, ui, hc]
    · rename_i b
      split at hv
      · rename_i es clock hb
        obtain ⟨y, hy, rfl⟩ := conc_map hm
        obtain ⟨arr, a1, a2⟩ := map_obj hh hb hy
        have hc := run_check (w := w) hE h3 hk hok arr.isEmpty
        have hg : (getObj y.1).run P w = .ok (.map arr clock) w := by simp [getObj, Sem.run, a1]
        split at hv
        · cases hv
        · rename_i j u born hf
          injection hv with hv; subst hv
          obtain ⟨R, ⟨Y, rfl, y1, _, y3, y4⟩, r2⟩ := run_find hE hh h3 hk a2 hf
          rw [delNth_eq]
          obtain ⟨g1, g2⟩ := map_change (clock' := clock) (arr' := arr.eraseIdxIfInBounds j) hh hb hy a1 (by
            simpa using a2.erase j)
          refine ⟨μ, .tuple #[], _, g1, g2, hun, ?_⟩
          simp [Builtin.delete_, ht, ui, hg, hc, r2, run_set_at a1]
        · rename_i hf
          injection hv with hv; subst hv
          obtain ⟨R, r1, r2⟩ := run_find hE hh h3 hk a2 hf
          simp only [Found] at r1
          subst r1
          refine ⟨μ, .tuple #[], w, Grows.refl _ _, hh, hun, ?_⟩
          have hs : (setObj y.1 (.map arr clock)).run P w = .ok () w := by rw [run_set_at a1, at_self a1]
          simp [Builtin.delete_, ht, ui, hg, hc, r2, hs]
      · cases hv
    · cases hv
end
end Go.Ev
