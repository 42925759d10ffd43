/- Every operation. -/
import Derived.Test.YtloblhhnlaaajaaDoorEv17
namespace Go.Ev
open Go

section
variable {P : Program} {E : Env} {ρ : Rho} {μ : Mu} {ih : Rec}

theorem value_ok {s : Sem Value} {w w' : World} {X : Value} (h : s.run P w = .ok X w') : (do pure (.value (← s)) : Sem Next).run P w = .ok (.value X) w' := by
  simp [h]
theorem skip_ok {s : Sem Unit} {w w' : World} (h : s.run P w = .ok () w') : (do s; pure .skip : Sem Next).run P w = .ok .skip w' := by
  simp [h]

theorem invoke_sound (ok : RecOk P E ρ ih) {h : H} {w : World} (hh : HR E ρ μ h w) {f : V} {F : Value} {args : List V} {A : List Value} {outs : List (V × H)} (hv : invokeV ih h f args = some outs) (hf : conc ρ μ f = some F) (ha : concL ρ μ args = some A) :
    Res P E ρ μ w (do let d ← Deferred.ofValue F A.toArray; invoke d.target d.args) outs := by
  unfold invokeV at hv
  split at hv
  · rename_i g first cap
    simp only [conc] at hf
    cases h1 : concL ρ μ first with
    | none => simp [h1] at hf
    | some F1 =>
      cases h2 : concL ρ μ cap with
      | none => simp [h1, h2] at hf
      | some C1 =>
        simp [h1, h2] at hf
        subst hf
        have := ok.call _ _ _ _ hv μ w _ hh (concL_append (concL_append h1 ha) h2)
        refine this.of_eq ?_
        simp [Deferred.ofValue, invoke]
  · rename_i b
    simp only [conc] at hf
    obtain ⟨y, hy, rfl⟩ := Option.map_eq_some_iff.1 hf
    have := ok.yield _ _ _ _ hv μ w _ y hh hy ha
    refine this.of_eq ?_
    simp [Deferred.ofValue, invoke]
  · cases hv

theorem builtin_sound (hE : EnvOk P E) (hp : Plain ρ) {h : H} {w : World} (hh : HR E ρ μ h w) {b : Builtin} {tys : Array TypeId} {ty : Nat} {consts : Array Bool} {args : List V} {A : List Value} {outs : List (V × H)}
    (hv : builtinV E h b tys.toList args = some outs) (ha : concL ρ μ args = some A) : Res P E ρ μ w (builtin b tys ty consts A.toArray) outs := by
  unfold builtinV at hv
  split at hv
  · split at hv
    · rename_i t r x ht
      obtain ⟨v, h1, rfl⟩ := rv_some hv
      obtain ⟨X, l, rfl, hx, hl⟩ := concL_cons ha
      simp [concL] at hl; subst hl
      have htys : tys[0]? = some t := by rw [← Array.getElem?_toList, ht]; rfl
      obtain ⟨Y, y1, y2⟩ := run_lenB (ty := ty) hE hh htys h1 hx
      exact Res.of_val hh y1 (value_ok y2)
    · cases hv
  · split at hv
    · rename_i t t2 s x ht
      obtain ⟨S, l, rfl, hs, hl⟩ := concL_cons ha
      obtain ⟨X, l, rfl, hx, hl⟩ := concL_cons hl
      simp [concL] at hl; subst hl
      have htys : tys = #[t, t2] := by apply Array.ext'; exact ht
      subst htys
      split at hv
      · rename_i i hi
        split at hv
        · rename_i e hd
          obtain ⟨v, h1, rfl⟩ := r1_some hv
          exact Res.of_Rs (run_append' (ty := ty) hE hp hh hi (.inl ⟨e, hd⟩) h1 hs hx) (fun X w' h => value_ok h)
        · rename_i hd
          obtain ⟨v, h1, rfl⟩ := r1_some hv
          exact Res.of_Rs (run_append' (ty := ty) hE hp hh hi (.inr hd) h1 hs hx) (fun X w' h => value_ok h)
        · cases hv
      · cases hv
    · cases hv
  · split at hv
    · rename_i t r d s ht
      obtain ⟨D, l, rfl, hd, hl⟩ := concL_cons ha
      obtain ⟨S, l, rfl, hs, hl⟩ := concL_cons hl
      simp [concL] at hl; subst hl
      have htys : tys[0]? = some t := by rw [← Array.getElem?_toList, ht]; rfl
      obtain ⟨v, h1, rfl⟩ := r1_some hv
      exact Res.of_Rs (run_copy' (ty := ty) hE hp hh htys h1 hd hs) (fun X w' h => value_ok h)
    · cases hv
  · split at hv
    · rename_i t r m k ht
      obtain ⟨M, l, rfl, hm, hl⟩ := concL_cons ha
      obtain ⟨K, l, rfl, hk, hl⟩ := concL_cons hl
      simp [concL] at hl; subst hl
      have htys : tys[0]? = some t := by rw [← Array.getElem?_toList, ht]; rfl
      obtain ⟨h', h1, rfl⟩ := rh_some hv
      exact Res.of_Rs (run_delete' (ty := ty) hE hh htys h1 hm hk) (fun X w' h => value_ok h)
    · cases hv
  · cases hv

theorem opV_sound (hE : EnvOk P E) (hp : Plain ρ) (ok : RecOk P E ρ ih) {fr : Fr} {a : Act} (k : FR ρ μ fr a) {h : H} {w : World} (hh : HR E ρ μ h w) {o : Oper} {outs : List (V × H)} (hv : opV E ih fr h o = some outs) :
    Res P E ρ μ w (execOp a.eval o) outs := by
  unfold opV at hv
  unfold execOp
  split at hv
  · obtain ⟨v, h1, rfl⟩ := rv_some hv
    obtain ⟨X, x1, rfl⟩ := opd_sound k h1
    rename_i x ho
    simp only [ho]
    exact Res.of_val hh x1 rfl
  · obtain ⟨v, h1, rfl⟩ := rv_some hv
    obtain ⟨X, x1, rfl⟩ := opd_sound k h1
    rename_i x ho
    simp only [ho]
    exact Res.of_val hh x1 rfl
  · rename_i c x y ho
    simp only [ho]
    split at hv
    · rename_i t hc
      obtain ⟨C, c1, c2⟩ := opd_sound k hc
      simp only [conc] at c1; injection c1 with c1; subst c1
      obtain ⟨v, h1, rfl⟩ := rv_some hv
      cases t with
      | true =>
        simp only [cond_true] at h1
        obtain ⟨X, x1, rfl⟩ := opd_sound k h1
        exact Res.of_val hh x1 (by simp [c2, asBool])
      | false =>
        simp only [cond_false] at h1
        obtain ⟨X, x1, rfl⟩ := opd_sound k h1
        exact Res.of_val hh x1 (by simp [c2, asBool])
    · cases hv
  · rename_i t ho
    simp only [ho]
    split at hv
    · rename_i i hi
      obtain rfl := rone_some hv
      exact Res.of_Rs (run_alloc hE hp hh hi) (fun X w' h => value_ok h)
    · cases hv
  · rename_i t x ho
    simp only [ho]
    split at hv
    · rename_i v h1
      obtain rfl := rone_some hv
      obtain ⟨X, x1, rfl⟩ := opd_sound k h1
      exact Res.of_Rs (run_box hp hh x1) (fun X w' h => value_ok h)
    · cases hv
  · rename_i t ps ho
    simp only [ho]
    split at hv
    · rename_i i vs hi hvs
      split at hv
      · rename_i fs hd
        obtain ⟨hall, hv⟩ := bif_none hv
        simp only [Bool.not_eq_false'] at hall
        obtain ⟨v, h1, rfl⟩ := rv_some hv
        obtain ⟨out, h2, rfl⟩ := Option.map_eq_some_iff.1 h1
        obtain ⟨X, x1, x2⟩ := run_build' hE hp k hi hvs (.inl ⟨fs, hd, hall, h2⟩)
        exact Res.of_val hh x1 (value_ok (x2 w))
      · rename_i n e hd
        split at hv
        · rename_i s hs
          obtain ⟨v, h1, rfl⟩ := rv_some hv
          obtain ⟨out, h2, rfl⟩ := Option.map_eq_some_iff.1 h1
          obtain ⟨X, x1, x2⟩ := run_build' hE hp k hi hvs (.inr ⟨n, e, s, hd, hs, h2⟩)
          exact Res.of_val hh x1 (value_ok (x2 w))
        · cases hv
      · cases hv
    · cases hv
  · rename_i t n ps ho
    simp only [ho]
    split at hv
    · rename_i i vs hi hvs
      split at hv
      · rename_i e hd
        split at hv
        · rename_i ei hei
          obtain ⟨hb, hv⟩ := bif_some hv
          simp only [Bool.and_eq_true] at hb
          split at hv
          · rename_i cs hcs
            obtain rfl := rone_some hv
            exact Res.of_Rs (run_buildSlice hE hp hh k hi hvs hd hei (Nat.le_of_ble_eq_true hb.1) hcs) (fun X w' h => value_ok h)
          · cases hv
        · cases hv
      · cases hv
    · cases hv
  · rename_i t x ho
    simp only [ho]
    split at hv
    · rename_i b off hx
      obtain ⟨X, x1, x2⟩ := opd_sound k hx
      obtain ⟨y, hy, rfl⟩ := conc_ptr x1
      obtain ⟨v, h1, rfl⟩ := rv_some hv
      obtain ⟨Y, y1, y2⟩ := run_load' hE hh h1 hy
      rw [← x2] at y2
      exact Res.of_val hh y1 (value_ok y2)
    · rename_i g off hx
      obtain ⟨X, x1, x2⟩ := opd_sound k hx
      simp only [conc] at x1; injection x1 with x1; subst x1
      obtain ⟨v, h1, rfl⟩ := rv_some hv
      obtain ⟨Y, y1, y2⟩ := run_loadG hE hh h1
      rw [← x2] at y2
      exact Res.of_val hh y1 (value_ok y2)
    · cases hv
  · rename_i t x y ho
    simp only [ho]
    split at hv
    · rename_i b off v hx hy
      obtain ⟨X, x1, x2⟩ := opd_sound k hx
      obtain ⟨z, hz, rfl⟩ := conc_ptr x1
      obtain ⟨Y, y1, y2⟩ := opd_sound k hy
      obtain ⟨h', h1, rfl⟩ := rh_some hv
      have := run_store' hE hp hh h1 hz y1
      rw [← x2, ← y2] at this
      exact Res.of_Ru this (fun w' h => skip_ok h)
    · cases hv
  · rename_i x ho
    simp only [ho]
    split at hv
    · rename_i b off hx
      obtain rfl := rone_some hv
      obtain ⟨X, x1, x2⟩ := opd_sound k hx
      obtain ⟨z, hz, rfl⟩ := conc_ptr x1
      exact Res.of_val hh x1 (by rw [x2]; rfl)
    · rename_i b off hx
      obtain rfl := rone_some hv
      obtain ⟨X, x1, x2⟩ := opd_sound k hx
      have x1' := x1
      simp only [conc] at x1'; injection x1' with x1'; subst x1'
      exact Res.of_val hh x1 (by rw [x2]; rfl)
    · rename_i f u v hx
      obtain rfl := rone_some hv
      obtain ⟨X, x1, x2⟩ := opd_sound k hx
      have x1' := x1
      simp only [conc] at x1'
      split at x1'
      · injection x1' with x1'; subst x1'
        exact Res.of_val hh x1 (by rw [x2]; rfl)
      · cases x1'
    · rename_i b hx
      obtain rfl := rone_some hv
      obtain ⟨X, x1, x2⟩ := opd_sound k hx
      have x1' := x1
      simp only [conc] at x1'
      obtain ⟨z, hz, rfl⟩ := Option.map_eq_some_iff.1 x1'
      exact Res.of_val hh x1 (by rw [x2]; rfl)
    · rename_i t v hx
      obtain rfl := rone_some hv
      obtain ⟨X, x1, x2⟩ := opd_sound k hx
      obtain ⟨z, hz, rfl⟩ := conc_iface x1
      exact Res.of_val hh x1 (by rw [x2]; rfl)
    · cases hv
  · rename_i op t x y yt ho
    simp only [ho]
    split at hv
    · rename_i u v hx hy
      obtain ⟨X, x1, x2⟩ := opd_sound k hx
      obtain ⟨Y, y1, y2⟩ := opd_sound k hy
      obtain ⟨r, h1, rfl⟩ := rv_some hv
      obtain ⟨Z, z1, z2⟩ := run_bin hE hh h1 x1 y1
      rw [← x2, ← y2] at z2
      exact Res.of_val hh z1 (value_ok z2)
    · cases hv
  · rename_i op t x ho
    simp only [ho]
    split at hv
    · rename_i u hx
      obtain ⟨X, x1, x2⟩ := opd_sound k hx
      obtain ⟨r, h1, rfl⟩ := rv_some hv
      obtain ⟨Z, z1, z2⟩ := run_un (P := P) h1 x1
      rw [← x2] at z2
      exact Res.of_val hh z1 (value_ok (z2 w))
    · cases hv
  · rename_i s d x ho
    simp only [ho]
    split at hv
    · rename_i u hx
      obtain ⟨X, x1, x2⟩ := opd_sound k hx
      obtain ⟨v, h1, rfl⟩ := r1_some hv
      have := run_conv hE hh h1 x1
      rw [← x2] at this
      exact Res.of_Rs this (fun X w' h => value_ok h)
    · cases hv
  · rename_i t x ho
    simp only [ho]
    split at hv
    · rename_i u i hx hi
      split at hv
      · cases hv
      · rename_i hd
        obtain rfl := rone_some hv
        obtain ⟨X, x1, x2⟩ := opd_sound k hx
        refine Res.of_val (X := .iface t X) hh (by simp [conc, x1]) (value_ok ?_)
        rw [x2]
        have ui := run_und hE hi w
        simp only [Instr.makeInterface, Sem.run_bind, ui, Result.andThen_ok]
        rfl
    · cases hv
  · rename_i fn first cap ho
    simp only [ho]
    split at hv
    · rename_i f u v hf hc
      obtain rfl := rone_some hv
      have h1 := opds_sound k hf
      have h2 := opds_sound k hc
      refine Res.of_val (X := .func (.func f) (first.map a.eval) (cap.map a.eval)) hh ?_ (value_ok (by simp [Instr.makeFunc]))
      have e1 : (first.toList.map a.eval).toArray = first.map a.eval := by apply Array.ext'; simp
      have e2 : (cap.toList.map a.eval).toArray = cap.map a.eval := by apply Array.ext'; simp
      simp only [conc, h1, h2, e1, e2]
    · cases hv
  · rename_i t r ho
    simp only [ho]
    split at hv
    · obtain rfl := rone_some hv
      exact Res.of_Rs (run_makeMap' hh t) (fun X w' h => value_ok h)
    · cases hv
  · rename_i t l c ho
    simp only [ho]
    split at hv
    · rename_i u v hx hy
      obtain ⟨X, x1, rfl⟩ := opd_sound k hx
      obtain ⟨Y, y1, rfl⟩ := opd_sound k hy
      obtain ⟨v, h1, rfl⟩ := r1_some hv
      exact Res.of_Rs (run_makeSlice' hE hp hh h1 x1 y1) (fun X w' h => value_ok h)
    · cases hv
  · rename_i t x lo hi mx ho
    simp only [ho]
    split at hv
    · rename_i u lo' hi' mx' hx hlo hhi hmx
      obtain ⟨X, x1, rfl⟩ := opd_sound k hx
      obtain ⟨v, h1, rfl⟩ := rv_some hv
      obtain ⟨Y, y1, y2⟩ := run_slice hE h1 x1 (opdO_sound k hlo) (opdO_sound k hhi) (opdO_sound k hmx)
      exact Res.of_val hh y1 (value_ok (y2 w))
    · cases hv
  · rename_i s x f ho
    simp only [ho]
    split at hv
    · rename_i u hx
      obtain ⟨X, x1, rfl⟩ := opd_sound k hx
      obtain ⟨v, h1, rfl⟩ := rv_some hv
      obtain ⟨Y, y1, y2⟩ := run_fieldAddr hE h1 x1
      exact Res.of_val hh y1 (value_ok (y2 w))
    · cases hv
  · rename_i s x f ho
    simp only [ho]
    split at hv
    · rename_i u hx
      obtain ⟨X, x1, rfl⟩ := opd_sound k hx
      obtain ⟨v, h1, rfl⟩ := rv_some hv
      obtain ⟨Y, y1, y2⟩ := run_field hE h1 x1
      exact Res.of_val hh y1 (value_ok (y2 w))
    · cases hv
  · rename_i t x i ho
    simp only [ho]
    split at hv
    · rename_i u j hx hi
      obtain ⟨X, x1, rfl⟩ := opd_sound k hx
      obtain ⟨I, i1, rfl⟩ := opd_sound k hi
      obtain ⟨v, h1, rfl⟩ := rv_some hv
      obtain ⟨Y, y1, y2⟩ := run_indexAddr hE h1 x1 i1
      exact Res.of_val hh y1 (value_ok (y2 w))
    · cases hv
  · rename_i t x i ho
    simp only [ho]
    split at hv
    · rename_i u j hx hi
      obtain ⟨X, x1, rfl⟩ := opd_sound k hx
      obtain ⟨I, i1, rfl⟩ := opd_sound k hi
      obtain ⟨v, h1, rfl⟩ := rv_some hv
      obtain ⟨Y, y1, y2⟩ := run_index hE h1 x1 i1
      exact Res.of_val hh y1 (value_ok (y2 w))
    · cases hv
  · rename_i t m ky okk ho
    simp only [ho]
    split at hv
    · rename_i u j hx hi
      obtain ⟨X, x1, rfl⟩ := opd_sound k hx
      obtain ⟨I, i1, rfl⟩ := opd_sound k hi
      obtain ⟨v, h1, rfl⟩ := rv_some hv
      obtain ⟨Y, y1, y2⟩ := run_lookup' hE hh h1 x1 i1
      exact Res.of_val hh y1 (value_ok y2)
    · cases hv
  · rename_i t m ky v ho
    simp only [ho]
    split at hv
    · rename_i u j vv hx hi hvv
      obtain ⟨X, x1, rfl⟩ := opd_sound k hx
      obtain ⟨I, i1, rfl⟩ := opd_sound k hi
      obtain ⟨Y, y1, rfl⟩ := opd_sound k hvv
      obtain ⟨v, h1, rfl⟩ := rh_some hv
      exact Res.of_Ru (run_update hE hh h1 x1 i1 y1) (fun w' h => skip_ok h)
    · cases hv
  · rename_i t m ky v ho
    simp only [ho]
    split at hv
    · rename_i u j vv hx hi hvv
      obtain ⟨X, x1, rfl⟩ := opd_sound k hx
      obtain ⟨I, i1, rfl⟩ := opd_sound k hi
      obtain ⟨Y, y1, rfl⟩ := opd_sound k hvv
      obtain ⟨v, h1, rfl⟩ := rh_some hv
      exact Res.of_Ru (run_update hE hh h1 x1 i1 y1) (fun w' h => skip_ok h)
    · cases hv
  · rename_i t x ho
    simp only [ho]
    split at hv
    · rename_i u hx
      obtain ⟨X, x1, rfl⟩ := opd_sound k hx
      obtain ⟨v, h1, rfl⟩ := r1_some hv
      exact Res.of_Rs (run_range' hE hh h1 x1) (fun X w' h => value_ok h)
    · cases hv
  · rename_i it s ho
    simp only [ho]
    split at hv
    · rename_i u hx
      obtain ⟨X, x1, rfl⟩ := opd_sound k hx
      obtain ⟨v, h', hm, h1⟩ := run_next' (P := P) (ty := o.type) hh hv x1
      obtain ⟨v2, h2, hm2, r⟩ := Res.of_Rs (t := do pure (.value (← Instr.next (a.eval it) s o.type))) h1 (fun X w' h => value_ok h)
      simp only [List.mem_singleton, Prod.mk.injEq] at hm2
      obtain ⟨rfl, rfl⟩ := hm2
      exact ⟨_, _, hm, r⟩
    · cases hv
  · rename_i it ho
    simp only [ho]
    split at hv
    · rename_i u hx
      obtain ⟨X, x1, rfl⟩ := opd_sound k hx
      obtain ⟨v, h1, rfl⟩ := rv_some hv
      obtain ⟨Y, y1, y2⟩ := run_entry' (P := P) hh h1 x1
      exact Res.of_val hh y1 (value_ok y2)
    · cases hv
  · rename_i t i ho
    simp only [ho]
    split at hv
    · rename_i vs hx
      obtain ⟨X, x1, x2⟩ := opd_sound k hx
      obtain ⟨v, h1, rfl⟩ := rv_some hv
      simp only [conc] at x1
      split at x1
      · rename_i l hl
        injection x1 with x1; subst x1
        rw [nth_eq] at h1
        obtain ⟨Y, y1, y2⟩ := concL_get hl h1
        exact Res.of_val hh y2 (value_ok (by rw [x2]; simp [Instr.extract, y1]))
      · cases x1
    · cases hv
  · rename_i c ho
    simp only [ho]
    split at hv
    · rename_i f args hc hargs
      have hA := opds_sound k hargs
      split at hv
      · rename_i fv hf
        obtain ⟨F, f1, f2⟩ := opd_sound k hf
        have := invoke_sound ok hh hv f1 hA
        refine this.of_eq ?_
        have e1 : (c.args.toList.map a.eval).toArray = c.args.map a.eval := by apply Array.ext'; simp
        simp only [resolve, hc, f2, e1]
      · cases hv
    · rename_i b args hc hargs
      have hA := opds_sound k hargs
      have e1 : (c.args.toList.map a.eval).toArray = c.args.map a.eval := by apply Array.ext'; simp
      refine (builtin_sound (ty := o.type) (consts := c.args.map fun | .const _ => true | _ => false) hE hp hh hv hA).of_eq ?_
      simp only [resolve, hc, Sem.run_bind, Sem.run_pure, Result.andThen_ok, invoke, e1]
      rfl
    · rename_i r name args hc hargs
      have hA := opds_sound k hargs
      split at hv
      · rename_i t v hr
        obtain ⟨R, r1, r2⟩ := opd_sound k hr
        obtain ⟨z, hz, rfl⟩ := conc_iface r1
        split at hv
        · rename_i f hm
          have := ok.call _ _ _ _ hv μ w _ hh (concL_mk hz hA)
          refine this.of_eq ?_
          have hmm := hE.meths _ _ _ hm z w
          have e1 : #[z] ++ c.args.map a.eval = (z :: c.args.toList.map a.eval).toArray := by
            apply Array.ext'
            rw [Array.toList_append, Array.toList_map]
            rfl
          have e2 : (#[Value.iface t z] ++ c.args.map a.eval)[0]? = some (.iface t z) := by
            rw [Array.getElem?_append_left (Nat.zero_lt_one)]
            rfl
          have e3 : (#[Value.iface t z] ++ c.args.map a.eval).extract 1 (#[Value.iface t z] ++ c.args.map a.eval).size = c.args.map a.eval := by
            apply Array.ext'
            simp [List.take_of_length_le]
          have hprog : (program).run P w = .ok P w := rfl
          simp only [resolve, hc, Sem.run_bind, Sem.run_pure, Result.andThen_ok, invoke, r2, e2, e3, callMethod, hprog, hmm, e1]
        · cases hv
      · cases hv
    · cases hv
  · cases hv
end
end Go.Ev
