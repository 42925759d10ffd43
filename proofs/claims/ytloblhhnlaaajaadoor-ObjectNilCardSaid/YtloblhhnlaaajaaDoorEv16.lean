/- Walks over maps and strings. -/
import Derived.Test.YtloblhhnlaaajaaDoorEv15
namespace Go.Ev
open Go

section
variable {P : Program} {E : Env} {ρ : Rho} {μ : Mu}

theorem conc_tuple2 {x y : V} {X Y : Value} (hx : conc ρ μ x = some X) (hy : conc ρ μ y = some Y) : conc ρ μ (.tuple [x, y]) = some (.tuple #[X, Y]) := by
  have h2 : concL ρ μ [x, y] = some [X, Y] := concL_mk hx (concL_mk hy (by simp [concL]))
  simp [conc, h2]
theorem conc_tuple3 {x y z : V} {X Y Z : Value} (hx : conc ρ μ x = some X) (hy : conc ρ μ y = some Y) (hz : conc ρ μ z = some Z) : conc ρ μ (.tuple [x, y, z]) = some (.tuple #[X, Y, Z]) := by
  have h2 : concL ρ μ [x, y, z] = some [X, Y, Z] := concL_mk hx (concL_mk hy (concL_mk hz (by simp [concL])))
  simp [conc, h2]
theorem conc_over : conc ρ μ (.tuple [.bool false]) = some (.tuple #[.bool false]) := by simp [conc, concL]

theorem run_range' (hE : EnvOk P E) {h h' : H} {w : World} (hh : HR E ρ μ h w) {ty : Nat} {x v : V} {X : Value} (hv : rangeV E h ty x = some (v, h')) (hx : conc ρ μ x = some X) :
    Rs P E ρ μ w (Instr.range ty X) v h' := by
  unfold rangeV at hv
  split at hv
  · cases hv
  · rename_i i hi
    have ui := run_und hE hi w
    have new : ∀ (it : B) (ob : Obj), (∀ μ', Le μ μ' → BR E ρ μ' it (w.heap.size, 0) ob) → (Instr.range ty X).run P w = .ok (.pointer (some ⟨w.heap.size, 0, none⟩)) { w with heap := w.heap.push ob } →
        Rs P E ρ μ w (Instr.range ty X) (.ptr (h.new it).1 0) (h.new it).2 := by
      intro it ob hb hr
      refine ⟨μ.put h.next (w.heap.size, 0), _, { w with heap := w.heap.push ob }, Grows.alloc hh 0 rfl rfl rfl rfl, HR.alloc hh (hb _ (Mu.le_put _ (hh.fresh _ (Nat.le_refl _)))) rfl, ?_, hr⟩
      simp [H.new, conc, Mu.put_same]
    simp only at hv
    split at hv
    · cases hv
    · rename_i it hit
      injection hv with hv
      obtain ⟨rfl, rfl⟩ := Prod.mk.inj hv
      split at hit
      · rename_i s hd
        injection hit with hit; subst hit
        simp only [conc] at hx; injection hx with hx; subst hx
        exact new _ _ (fun _ _ => .strIter) (by simp [Instr.range, ui, hd, newObj, Sem.run])
      · rename_i k e hd
        injection hit with hit; subst hit
        simp only [conc] at hx; injection hx with hx; subst hx
        exact new _ _ (fun _ _ => BR.mapIter (m' := none) rfl) (by simp [Instr.range, ui, hd, newObj, Sem.run])
      · rename_i k e b hd
        split at hit
        · rename_i es clock hb
          injection hit with hit; subst hit
          obtain ⟨y, hy, rfl⟩ := conc_map hx
          obtain ⟨arr, a1, a2⟩ := map_obj hh hb hy
          exact new _ _ (fun μ' hle => BR.mapIter (m' := some y.1) ⟨y, hle _ _ hy, rfl⟩) (by simp [Instr.range, ui, hd, newObj, Sem.run, getObj, a1])
        · cases hit
      · cases hit

theorem conc_ptr0 {b : Nat} {X : Value} (h : conc ρ μ (.ptr b 0) = some X) : ∃ y, μ b = some y ∧ X = .pointer (some ⟨y.1, 0, none⟩) := by
  simp only [conc] at h
  obtain ⟨y, hy, rfl⟩ := Option.map_eq_some_iff.1 h
  exact ⟨y, hy, rfl⟩

theorem EsR.born {es : List (V × V × Nat)} {l : List MapEntry} (h : EsR ρ μ es l) : es.map (·.2.2) = l.map (·.born) := by
  apply List.ext_getElem?
  intro i
  rw [List.getElem?_map, List.getElem?_map]
  cases he : es[i]? with
  | none =>
    have := List.getElem?_eq_none_iff.1 he
    rw [List.getElem?_eq_none (by rw [← h.1]; exact this)]
    rfl
  | some e =>
    obtain ⟨k, v, b⟩ := e
    obtain ⟨K, X, _, _, e3⟩ := h.2 i k v b he
    rw [e3]; rfl

theorem EsR.filter {f : Nat → Bool} : ∀ {es : List (V × V × Nat)} {l : List MapEntry}, EsR ρ μ es l → EsR ρ μ (es.filter fun e => f e.2.2) (l.filter fun e => f e.born)
  | [], l, h => by
    have : l = [] := List.eq_nil_of_length_eq_zero (by simpa using h.1.symm)
    subst this
    exact ⟨rfl, fun i k v b e => by simp at e⟩
  | (k, v, b) :: es, l, h => by
    obtain ⟨K, X, l', rfl, e1, e2, e3⟩ := h.cons
    have ih := EsR.filter (f := f) e3
    simp only [List.filter_cons]
    cases hf : f b with
    | false => simpa using ih
    | true =>
      simp only [if_true]
      refine ⟨by simp [ih.1], fun i k' v' b' e => ?_⟩
      cases i with
      | zero => simp at e; obtain ⟨rfl, rfl, rfl⟩ := e; exact ⟨K, X, e1, e2, rfl⟩
      | succ i => simpa using ih.2 i k' v' b' (by simpa using e)

theorem EsR.append {es es' : List (V × V × Nat)} {l l' : List MapEntry} (h : EsR ρ μ es l) (h' : EsR ρ μ es' l') : EsR ρ μ (es ++ es') (l ++ l') := by
  refine ⟨by simp [h.1, h'.1], fun i k v b e => ?_⟩
  by_cases hi : i < es.length
  · rw [List.getElem?_append_left hi] at e
    rw [List.getElem?_append_left (by rw [← h.1]; exact hi)]
    exact h.2 i k v b e
  · rw [List.getElem?_append_right (by omega)] at e
    rw [List.getElem?_append_right (by rw [← h.1]; omega), ← h.1]
    exact h'.2 _ k v b e

theorem nextMap_mem {h : H} {b m since : Nat} {seen : List Nat} {es : List (V × V × Nat)} {clock : Nat} : ∀ {cs : List (Option (V × V × Nat))} {j : Nat} {c : Option (V × V × Nat)}, cs[j]? = some c →
    (match c with
      | none => (V.tuple [.bool false], h)
      | some (k, v, born) => (.tuple [.bool true, k, v], h.put b (.mapIter (some m) since (seen ++ [born]) clock))) ∈ nextMap h b m since seen es clock cs
  | [], j, c, hc => by simp at hc
  | x :: r, j, c, hc => by
    cases j with
    | zero =>
      simp at hc; subst hc
      cases x with
      | none => simp [nextMap]
      | some e => obtain ⟨k, v, born⟩ := e; simp [nextMap]
    | succ j =>
      have := nextMap_mem (h := h) (b := b) (m := m) (since := since) (seen := seen) (es := es) (clock := clock) (cs := r) (j := j) (c := c) (by simpa using hc)
      cases x with
      | none => simp only [nextMap]; exact List.mem_cons_of_mem _ this
      | some e => obtain ⟨k, v, born⟩ := e; simp only [nextMap]; exact List.mem_cons_of_mem _ this

theorem cands {eo en : List (V × V × Nat)} {lo ln : List MapEntry} (ho : EsR ρ μ eo lo) (hn : EsR ρ μ en ln) {C : List (Option MapEntry)} (hC : C = (if lo.isEmpty then [none] else []) ++ (lo ++ ln).map some) {A : List (Option (V × V × Nat))}
    (hA : A = (bif eo.isEmpty then [none] else []) ++ (eo ++ en).map some) : 0 < C.length ∧ ∀ j, j < C.length → (C[j]? = some none ∧ A[j]? = some none) ∨
      ∃ K X k v born, C[j]? = some (some (MapEntry.mk K X born)) ∧ A[j]? = some (some (k, v, born)) ∧ conc ρ μ k = some K ∧ conc ρ μ v = some X := by
  have hon := ho.append hn
  have main : ∀ j, j < (lo ++ ln).length → ∃ K X k v born, ((lo ++ ln).map some)[j]? = some (some (MapEntry.mk K X born)) ∧ ((eo ++ en).map some)[j]? = some (some (k, v, born)) ∧ conc ρ μ k = some K ∧ conc ρ μ v = some X := by
    intro j hj
    have hj' : j < (eo ++ en).length := by rw [hon.1]; exact hj
    cases he : (eo ++ en)[j]? with
    | none => rw [List.getElem?_eq_getElem hj'] at he; cases he
    | some e =>
      obtain ⟨k, v, born⟩ := e
      obtain ⟨K, X, h1, h2, h3⟩ := hon.2 j k v born he
      exact ⟨K, X, k, v, born, by rw [List.getElem?_map, h3]; rfl, by rw [List.getElem?_map, he]; rfl, h1, h2⟩
  have hemp : eo.isEmpty = lo.isEmpty := by
    have := ho.1
    cases eo <;> cases lo <;> simp_all
  cases hl : lo.isEmpty with
  | true =>
    rw [hemp, hl] at hA
    rw [hl] at hC
    simp only [if_true] at hC
    simp only [cond_true] at hA
    subst hA hC
    refine ⟨by simp, fun j hj => ?_⟩
    cases j with
    | zero => exact .inl ⟨rfl, rfl⟩
    | succ j => exact .inr (by simpa using main j (by simpa using hj))
  | false =>
    rw [hemp, hl] at hA
    rw [hl] at hC
    simp only [Bool.false_eq_true, if_false, List.nil_append] at hC
    simp only [cond_false, List.nil_append] at hA
    subst hA hC
    refine ⟨?_, fun j hj => .inr (main j (by simpa using hj))⟩
    cases lo with
    | nil => cases hl
    | cons => simp

theorem blt_decide (a b : Nat) : Nat.blt a b = decide (a < b) := by
  rw [Bool.eq_iff_iff]; simp
theorem ble_decide (a b : Nat) : Nat.ble a b = decide (a ≤ b) := by
  rw [Bool.eq_iff_iff]; simp

theorem run_choose (q : Question) (w : World) : ∃ j w1, (w1 = w ∨ w1 = w.drew) ∧ (choose q).run P w = .ok j w1 ∧ ∀ n, q = .mapNext n → 0 < n → j < n := by
  cases hf : q.forced with
  | true => exact ⟨0, w, .inl rfl, by simp [choose, Sem.run, hf], fun n _ h => h⟩
  | false => 
    refine ⟨_, w.drew, .inr rfl, by simp only [choose, Sem.run, hf]; rfl, fun n hq hn => ?_⟩
    subst hq
    exact Nat.mod_lt _ hn

theorem blk_of {h : H} {w : World} (hh : HR E ρ μ h w) {b : Nat} {B : B} (hb : h.t.get b = some B) {y : Nat × Nat} (hy : μ b = some y) : ∃ o, w.heap[y.1]? = some o ∧ BR E ρ μ B y o := by
  obtain ⟨y', ob, e1, e2, e3⟩ := hh.blk b _ hb
  rw [hy] at e1; injection e1 with e1; subst e1
  exact ⟨ob, e2, e3⟩

theorem run_next' {h : H} {w : World} (hh : HR E ρ μ h w) {it : V} {isStr : Bool} {ty : Nat} {X : Value} {outs : List (V × H)} (hv : nextV h it isStr = some outs) (hx : conc ρ μ it = some X) :
    ∃ v h', (v, h') ∈ outs ∧ Rs P E ρ μ w (Instr.next X isStr ty) v h' := by
  unfold nextV at hv
  split at hv
  · rename_i b
    obtain ⟨y, hy, rfl⟩ := conc_ptr0 hx
    split at hv
    · rename_i s pos hb
      obtain ⟨o, o1, o2⟩ := blk_of hh hb hy
      cases o2
      cases hlt : Nat.blt pos s.length with
      | true =>
        have hlt' : pos < s.length := by simpa using hlt
        simp only [hlt, cond_true] at hv
        injection hv with hv; subst hv
        refine ⟨_, _, List.mem_singleton.2 rfl, μ, .tuple #[.bool true, .int .i64 pos, .int .i32 (Utf8.decode ⟨s.toArray⟩ pos).1], World.at_ w y.1 (.stringIter ⟨s.toArray⟩ (pos + (Utf8.decode ⟨s.toArray⟩ pos).2)), Grows.change hy at_size (fun g hg => at_other hg) rfl rfl rfl, HR.change hh hb hy .strIter at_size (fun g hg => at_other hg) (at_same (lt_of_some o1)), ?_, ?_⟩
        · exact conc_tuple3 (by simp only [conc]) (by simp only [conc]) (by simp only [conc])
        · simp only [Instr.next, getObj, setObj, Sem.run_bind, Sem.run, o1, Result.andThen, str_size, hlt', if_true]
          simp [goInt, World.at_]
      | false =>
        have hlt' : ¬ pos < s.length := by intro q; rw [show Nat.blt pos s.length = true by simpa using q] at hlt; cases hlt
        simp only [hlt, cond_false] at hv
        injection hv with hv; subst hv
        refine ⟨_, _, List.mem_singleton.2 rfl, μ, _, w, Grows.refl _ _, hh, conc_over, ?_⟩
        simp [Instr.next, getObj, Sem.run, o1, str_size, hlt']
    · rename_i hb
      obtain ⟨o, o1, o2⟩ := blk_of hh hb hy
      cases o2 with
      | mapIter hm =>
        simp only at hm; subst hm
        injection hv with hv; subst hv
        refine ⟨_, _, List.mem_singleton.2 rfl, μ, _, w, Grows.refl _ _, hh, conc_over, ?_⟩
        simp [Instr.next, getObj, Sem.run, o1]
    · rename_i m since seen last hb
      obtain ⟨o, o1, o2⟩ := blk_of hh hb hy
      cases o2 with
      | mapIter hm =>
        simp only at hm
        obtain ⟨z, hz, rfl⟩ := hm
        split at hv
        · rename_i es clock hbm
          obtain ⟨arr, a1, a2⟩ := map_obj hh hbm hz
          obtain ⟨hg, hv⟩ := bif_none hv
          injection hv with hv
          have f1 := EsR.filter (f := fun b => !seen.contains b) a2
          have fo := EsR.filter (f := fun b => Nat.blt b since) f1
          have fn := EsR.filter (f := fun b => Nat.ble since b) f1
          obtain ⟨c1, c2⟩ := cands fo fn rfl rfl
          generalize hC : (if (List.filter (fun e => Nat.blt e.born since) (arr.toList.filter fun e => !seen.contains e.born)).isEmpty then [none] else []) ++ ((List.filter (fun e => Nat.blt e.born since) (arr.toList.filter fun e => !seen.contains e.born)) ++ (List.filter (fun e => Nat.ble since e.born) (arr.toList.filter fun e => !seen.contains e.born))).map some = C at c1 c2
          obtain ⟨j, w1, hw1, hrun, hlt⟩ := run_choose (P := P) (.mapNext C.toArray.size) w
          have hj := hlt _ rfl (by simpa using c1)
          simp only [List.size_toArray] at hj
          have hseen : ∀ b, seen.toArray.contains b = seen.contains b := fun b => by simp
          have htest : (!seen.toArray.isEmpty && !arr.isEmpty && arr.all fun x => decide (x.born ≥ last)) = false := by
            rw [← hg]
            have hb' := a2.born
            have e1 : arr.isEmpty = es.isEmpty := by
              have := a2.1
              obtain ⟨l⟩ := arr
              cases l <;> cases es <;> simp_all
            have e2 : (arr.all fun x => decide (x.born ≥ last)) = es.all fun e => Nat.ble last e.2.2 := by
              rw [← Array.all_toList]
              have h1 : (arr.toList.all fun x => decide (x.born ≥ last)) = (arr.toList.map (·.born)).all fun b => Nat.ble last b := by
                simp only [List.all_map, Function.comp_def, ble_decide, ge_iff_le]
              have h2 : (es.all fun e => Nat.ble last e.2.2) = (es.map (·.2.2)).all fun b => Nat.ble last b := by
                simp only [List.all_map, Function.comp_def]
              rw [h1, h2, hb']
            rw [e1, e2]
            simp
          have ff : ∀ (p : MapEntry → Bool) (q : MapEntry → Bool), (∀ x, p x = q x) → (arr.filter fun e => !seen.toArray.contains e.born).filter p = (List.filter q (arr.toList.filter fun e => !seen.contains e.born)).toArray := by
            intro p q hpq
            have : p = q := funext hpq
            subst this
            obtain ⟨l⟩ := arr
            simp
          have hcand : (if ((arr.filter fun e => !seen.toArray.contains e.born).filter fun e => decide (e.born < since)).isEmpty then #[none] else #[]) ++ (((arr.filter fun e => !seen.toArray.contains e.born).filter fun e => decide (e.born < since)) ++ ((arr.filter fun e => !seen.toArray.contains e.born).filter fun e => decide (e.born ≥ since))).map some = C.toArray := by
            rw [ff (fun e => decide (e.born < since)) (fun e => Nat.blt e.born since) (fun x => (blt_decide _ _).symm), ff (fun e => decide (e.born ≥ since)) (fun e => Nat.ble since e.born) (fun x => (ble_decide _ _).symm), ← hC]
            generalize List.filter (fun e => Nat.blt e.born since) (arr.toList.filter fun e => !seen.contains e.born) = A
            generalize List.filter (fun e => Nat.ble since e.born) (arr.toList.filter fun e => !seen.contains e.born) = B
            cases A <;> simp
          have hrn : ∀ {R : Result Value}, (match C.toArray[j]? with
              | some (some e) => do
                setObj y.1 (.mapIter (some z.1) since (seen.toArray.push e.born) clock)
                pure (.tuple #[.bool true, e.key, e.val])
              | some none => pure (.tuple #[.bool false])
              | none => stuck "Next: no such candidate" : Sem Value).run P w1 = R → (Instr.next (.pointer (some ⟨y.1, 0, none⟩)) false ty).run P w = R := by
            intro R hR
            simp only [Instr.next, getObj, Sem.run_bind, Sem.run, o1, a1, Result.andThen, htest, Bool.false_eq_true, if_false, hcand, hrun]
            exact hR
          rcases c2 j hj with ⟨e1, e2⟩ | ⟨K, X, k, v, born, e1, e2, e3, e4⟩
          · have hm := nextMap_mem (h := h) (b := b) (m := m) (since := since) (seen := seen) (es := es) (clock := clock) e2
            rw [hv] at hm
            refine ⟨_, _, hm, μ, _, w1, ?_, ?_, conc_over, hrn (by rw [List.getElem?_toArray, e1]; rfl)⟩
            · rcases hw1 with rfl | rfl
              · exact Grows.refl _ _
              · exact Grows.same rfl rfl rfl rfl
            · rcases hw1 with rfl | rfl
              · exact hh
              · exact hh.same rfl
          · have hm := nextMap_mem (h := h) (b := b) (m := m) (since := since) (seen := seen) (es := es) (clock := clock) e2
            rw [hv] at hm
            have o1' : w1.heap[y.1]? = some (.mapIter (some z.1) since seen.toArray last) := by rcases hw1 with rfl | rfl <;> exact o1
            have hheap : w1.heap = w.heap := by rcases hw1 with rfl | rfl <;> rfl
            refine ⟨_, _, hm, μ, .tuple #[.bool true, K, X], World.at_ w1 y.1 (.mapIter (some z.1) since (seen.toArray.push born) clock), ?_, ?_, conc_tuple3 (by simp only [conc]) e3 e4, hrn ?_⟩
            · exact Grows.change hy (by rw [at_size, hheap]) (fun g hg => by rw [at_other hg, hheap]) (by rcases hw1 with rfl | rfl <;> rfl) (by rcases hw1 with rfl | rfl <;> rfl) (by rcases hw1 with rfl | rfl <;> rfl)
            · refine HR.change hh hb hy ?_ (by rw [at_size, hheap]) (fun g hg => by rw [at_other hg, hheap]) (at_same (lt_of_some o1'))
              have := BR.mapIter (E := E) (ρ := ρ) (μ := μ) (m := some m) (since := since) (seen := seen ++ [born]) (stepped := clock) (x := y) (m' := some z.1) ⟨z, hz, rfl⟩
              simpa using this
            · rw [List.getElem?_toArray, e1]
              simp [setObj, Sem.run, o1', World.at_]
        · cases hv
    · cases hv
  · cases hv

theorem lastN_eq : ∀ (l : List Nat), lastN l = l.getLast?
  | [] => rfl
  | [x] => rfl
  | x :: y :: r => by
    have := lastN_eq (y :: r)
    simp only [lastN] at this ⊢
    rw [List.getLast?_cons_cons]
    exact this

theorem findEntry_sound {n : Nat} : ∀ {es : List (V × V × Nat)} {l : List MapEntry} {k v : V}, EsR ρ μ es l → findEntry n es = some (k, v) → ∃ e, l.find? (fun e => e.born == n) = some e ∧ conc ρ μ k = some e.key ∧ conc ρ μ v = some e.val
  | [], l, k, v, _, h => by cases h
  | (k', v', b) :: es, l, k, v, hes, h => by
    obtain ⟨K, X, l', rfl, e1, e2, e3⟩ := hes.cons
    simp only [findEntry] at h
    cases hb : Nat.beq b n with
    | true =>
      rw [hb, cond_true] at h
      injection h with h
      obtain ⟨rfl, rfl⟩ := Prod.mk.inj h
      exact ⟨⟨K, X, b⟩, by simp [Nat.eq_of_beq_eq_true hb], e1, e2⟩
    | false =>
      rw [hb, cond_false] at h
      obtain ⟨e, h1, h2⟩ := findEntry_sound e3 h
      have hne : ¬ b = n := by rintro rfl; simp at hb
      exact ⟨e, by simp [hne, h1], h2⟩

theorem run_entry' {h : H} {w : World} (hh : HR E ρ μ h w) {it v : V} {X : Value} (hv : entryOf h it = some v) (hx : conc ρ μ it = some X) :
    ∃ Y, conc ρ μ v = some Y ∧ (Instr.entry X).run P w = .ok Y w := by
  unfold entryOf at hv
  split at hv
  · rename_i b
    obtain ⟨y, hy, rfl⟩ := conc_ptr0 hx
    split at hv
    · rename_i m since seen stepped hb
      obtain ⟨o, o1, o2⟩ := blk_of hh hb hy
      cases o2 with
      | mapIter hm =>
        simp only at hm
        obtain ⟨z, hz, rfl⟩ := hm
        split at hv
        · rename_i stamp es clock hst hbm
          obtain ⟨arr, a1, a2⟩ := map_obj hh hbm hz
          obtain ⟨hq, hv2⟩ := bif_some hv
          have hq := Nat.eq_of_beq_eq_true hq
          subst hq
          obtain ⟨e, he, rfl⟩ := Option.map_eq_some_iff.1 hv2
          obtain ⟨k, u⟩ := e
          obtain ⟨e, f1, f2, f3⟩ := findEntry_sound a2 he
          refine ⟨.tuple #[e.key, e.val], conc_tuple2 f2 f3, ?_⟩
          rw [lastN_eq] at hst
          have hback : seen.toArray.back? = some stamp := by simpa using hst
          have hfind : arr.find? (fun e => e.born == stamp) = some e := by rw [← Array.find?_toList]; exact f1
          simp only [Instr.entry, getObj, Sem.run_bind, Sem.run, o1, a1, Result.andThen, hback, bne_self_eq_false, Bool.false_eq_true, if_false, hfind]
          rfl
        · cases hv
    · cases hv
  · cases hv
end
end Go.Ev
