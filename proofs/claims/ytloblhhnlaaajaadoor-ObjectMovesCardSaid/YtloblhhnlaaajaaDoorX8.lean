/- More rounds, and more known variables, never change an answer. -/
import Derived.Test.YtloblhhnlaaajaaDoorX7
set_option linter.unusedVariables false
set_option linter.unusedSimpArgs false
set_option linter.defProp false
namespace Go.Ev
open Go

structure LeR (ih ih' : Rec) : Prop where
 code : ∀ c fr h l, ih.code c fr h = some l → ih'.code c fr h = some l
 call : ∀ f a h l, ih.call f a h = some l → ih'.call f a h = some l
 yield : ∀ f a h l, ih.yield f a h = some l → ih'.yield f a h = some l

theorem LeR.refl (ih : Rec) : LeR ih ih := ⟨fun _ _ _ _ h => h, fun _ _ _ _ h => h, fun _ _ _ _ h => h⟩
theorem LeR.trans {a b c : Rec} (h : LeR a b) (k : LeR b c) : LeR a c :=
 ⟨fun _ _ _ _ e => k.code _ _ _ _ (h.code _ _ _ _ e), fun _ _ _ _ e => k.call _ _ _ _ (h.call _ _ _ _ e), fun _ _ _ _ e => k.yield _ _ _ _ (h.yield _ _ _ _ e)⟩

theorem rbindL_mono {α β : Type} {f g : α → R β} : ∀ {l : List α} {r : List β}, (∀ x r, f x = some r → g x = some r) → rbindL f l = some r → rbindL g l = some r
 | [], r, _, h => h
 | x :: l, r, hf, h => by
  simp only [rbindL] at h ⊢
  cases hx : f x with
  | none => rw [hx] at h; cases h
  | some a =>
   rw [hx] at h
   simp only at h
   cases hl : rbindL f l with
   | none => rw [hl] at h; cases h
   | some b =>
    rw [hl] at h
    rw [hf _ _ hx]
    simp only
    rw [rbindL_mono hf hl]
    exact h

theorem rbind_mono {α β : Type} {a a' : R α} {f g : α → R β} {r : List β} (ha : ∀ l, a = some l → a' = some l) (hf : ∀ x r, f x = some r → g x = some r) (h : rbind a f = some r) : rbind a' g = some r := by
 unfold rbind at h ⊢
 cases a with
 | none => cases h
 | some l =>
  rw [ha l rfl]
  simp only at h ⊢
  split at h
  ·exact hf _ _ h
  ·exact rbindL_mono hf h

section
variable {E : Env} {g' : T (List V)} {ih ih' : Rec}

theorem invokeV_mono (hr : LeR ih ih') {h : H} {f : V} {args : List V} {l : List (V × H)} (hv : invokeV ih h f args = some l) : invokeV ih' h f args = some l := by
 unfold invokeV at hv ⊢
 split at hv
 ·exact hr.call _ _ _ _ hv
 ·exact hr.yield _ _ _ _ hv
 ·cases hv

theorem loadG_mono (hg : ∀ k cs, E.globs.get k = some cs → g'.get k = some cs) {t g o : Nat} {v : V} (h : loadG E t g o = some v) : loadG { E with globs := g' } t g o = some v := by
 unfold loadG at h ⊢
 simp only
 split at h
 ·cases h
 ·rename_i i hi
  try rw [hi]
  try simp only at h ⊢
  split at h
  ·rename_i cs hcs
   rw [hg _ _ hcs]
   exact h
  ·cases h

theorem keyEq_g {h : H} {kd : TypeDesc} {k k' : V} : keyEq { E with globs := g' } h kd k k' = keyEq E h kd k k' := rfl
theorem findK_g {h : H} {kd : TypeDesc} {k : V} : ∀ {es : List (V × V × Nat)} {i : Nat}, findK { E with globs := g' } h kd k es i = findK E h kd k es i
 | [], _ => rfl
 | (_, _, _) :: r, i => by simp only [findK, keyEq_g, findK_g (es := r)]
theorem partV_g {t : Nat} {cs : List V} {o : Nat} : partV { E with globs := g' } t cs o = partV E t cs o := rfl
theorem eqFlds_g {g : Nat → V → V → Option Bool} {xs ys : List V} : ∀ {fs : List Field}, eqFlds { E with globs := g' } g xs ys fs = eqFlds E g xs ys fs
 | [] => rfl
 | f :: fs => by simp only [eqFlds, partV_g, eqFlds_g (fs := fs)]
theorem eqElts_g {g : Nat → V → V → Option Bool} {e s : Nat} {xs ys : List V} : ∀ {is : List Nat}, eqElts { E with globs := g' } g e s xs ys is = eqElts E g e s xs ys is
 | [] => rfl
 | i :: is => by simp only [eqElts, partV_g, eqElts_g (is := is)]
theorem eqT_g : ∀ (n : Nat), eqT { E with globs := g' } n = eqT E n
 | 0 => rfl
 | n + 1 => by funext ty x y; simp only [eqT, eqT_g n, eqFlds_g, eqElts_g]
theorem eqV_g {h : H} {t : Nat} {x y : V} : eqV { E with globs := g' } h t x y = eqV E h t x y := by
 simp only [eqV, eqT_g, eqFlds_g, eqElts_g]
theorem binV_g {h : H} {k : Bool} {op : BinOp} {t : Nat} {x y : V} : binV { E with globs := g' } h k op t x y = binV E h k op t x y := by
 simp only [binV, eqV_g]; rfl
theorem lookupV_g {h : H} {t : Nat} {m k : V} {ok : Bool} : lookupV { E with globs := g' } h t m k ok = lookupV E h t m k ok := by
 simp only [lookupV, findK_g]; rfl
theorem updateV_g {h : H} {t : Nat} {m k v : V} : updateV { E with globs := g' } h t m k v = updateV E h t m k v := by
 simp only [updateV, findK_g]; rfl
theorem deleteV_g {h : H} {t : Nat} {m k : V} : deleteV { E with globs := g' } h t m k = deleteV E h t m k := by
 simp only [deleteV, findK_g]; rfl
theorem lenB_g {h : H} {t : Nat} {x : V} : lenB { E with globs := g' } h t x = lenB E h t x := rfl
theorem storeV_g {h : H} {t b o : Nat} {x : V} : storeV { E with globs := g' } h t b o x = storeV E h t b o x := rfl
theorem makeSliceV_g {h : H} {t : Nat} {l c : V} : makeSliceV { E with globs := g' } h t l c = makeSliceV E h t l c := rfl
theorem sliceV_g {t : Nat} {x : V} {a b c : Option V} : sliceV { E with globs := g' } t x a b c = sliceV E t x a b c := rfl
theorem takeG_mono (hg : ∀ k cs, E.globs.get k = some cs → g'.get k = some cs) {a : Addr} {k : Nat} {v : List V} (h : takeG E a k = some v) : takeG { E with globs := g' } a k = some v := by
 unfold takeG at h ⊢
 split at h
 ·exact h
 ·split at h
  ·split at h
   ·rename_i cs hcs
    try dsimp only
    rw [hg _ _ hcs]
    exact h
   ·cases h
  ·cases h
theorem srcCells_mono (hg : ∀ k cs, E.globs.get k = some cs → g'.get k = some cs) {h : H} {sz n : Nat} {x : V} {v : List V} (hv : srcCells E h sz n x = some v) : srcCells { E with globs := g' } h sz n x = some v := by
 unfold srcCells at hv ⊢
 split at hv
 ·exact hv
 ·exact hv
 ·rename_i a m c
  cases hb : Nat.ble n m with
  | false => simp only [hb] at hv; cases hv
  | true => simp only [hb, cond_true] at hv ⊢; exact takeG_mono hg hv
 ·exact hv
 ·cases hv
theorem appendV_mono (hg : ∀ k cs, E.globs.get k = some cs → g'.get k = some cs) {h : H} {t : Nat} {s x : V} {v : V × H} (hv : appendV E h t s x = some v) : appendV { E with globs := g' } h t s x = some v := by
 unfold appendV at hv ⊢
 try dsimp only at hv
 try dsimp only at ⊢
 split at hv
 ·cases hv
 ·split at hv
  ·split at hv
   ·split at hv
    ·cases hv
    ·rename_i new hnew
     rw [srcCells_mono hg hnew]
     simp only
     cases hb : (!new.all V.one) with
     | true => simp only [hb] at hv; cases hv
     | false =>
      simp only [hb, cond_false] at hv ⊢
      split at hv
      ·exact hv
      ·rename_i b o m c _
       generalize hb2 : (!(Nat.ble _ _ && _ && _)) = bb at hv ⊢
       cases bb with
       | true => cases hv
       | false =>
        simp only [cond_false] at hv ⊢
        split at hv
        ·rename_i cp
         generalize hb3 : Nat.ble _ cp = b3 at hv ⊢
         cases b3 with
         | true => exact hv
         | false =>
          simp only [cond_false] at hv ⊢
          split at hv
          ·rename_i old hold
           rw [srcCells_mono hg hold]
           exact hv
          ·cases hv
        ·exact hv
      ·cases hv
   ·cases hv
  ·cases hv
theorem appendN_mono (hg : ∀ k cs, E.globs.get k = some cs → g'.get k = some cs) {h : H} {e n : Nat} {ei : TI} {s : V} {new : List V} {v : V × H} (hv : appendN E h e ei s new n = some v) : appendN { E with globs := g' } h e ei s new n = some v := by
 unfold appendN at hv ⊢
 try dsimp only at hv
 try dsimp only at ⊢
 split at hv
 ·exact hv
 ·rename_i b o m c
  generalize hb2 : (!(Nat.ble _ _ && _ && _)) = bb at hv ⊢
  cases bb with
  | true => cases hv
  | false =>
   simp only [cond_false] at hv ⊢
   split at hv
   ·rename_i cp
    generalize hb3 : Nat.ble _ cp = b3 at hv ⊢
    cases b3 with
    | true => exact hv
    | false =>
     simp only [cond_false] at hv ⊢
     split at hv
     ·rename_i old hold
      rw [srcCells_mono hg hold]
      exact hv
     ·cases hv
   ·exact hv
 ·cases hv
theorem appendZV_mono (hg : ∀ k cs, E.globs.get k = some cs → g'.get k = some cs) {h : H} {t : Nat} {s x : V} {v : V × H} (hv : appendZV E h t s x = some v) : appendZV { E with globs := g' } h t s x = some v := by
 unfold appendZV at hv ⊢
 try dsimp only at hv
 try dsimp only at ⊢
 split at hv
 ·cases hv
 ·split at hv
  ·split at hv
   ·obtain ⟨hb, hv⟩ := bif_some hv
    rw [hb]
    exact appendN_mono hg hv
   ·cases hv
  ·cases hv
theorem copyV_mono (hg : ∀ k cs, E.globs.get k = some cs → g'.get k = some cs) {h : H} {t : Nat} {s x : V} {v : V × H} (hv : copyV E h t s x = some v) : copyV { E with globs := g' } h t s x = some v := by
 unfold copyV at hv ⊢
 try dsimp only at hv
 try dsimp only at ⊢
 split at hv
 ·cases hv
 ·split at hv
  ·split at hv
   ·split at hv
    ·cases hv
    ·rename_i new hnew
     rw [srcCells_mono hg hnew]
     exact hv
   ·cases hv
  ·cases hv
theorem convV_mono (hg : ∀ k cs, E.globs.get k = some cs → g'.get k = some cs) {h : H} {s d : Nat} {x : V} {v : V × H} (hv : convV E h s d x = some v) : convV { E with globs := g' } h s d x = some v := by
 unfold convV at hv ⊢
 try dsimp only at hv
 try dsimp only at ⊢
 split at hv
 ·split at hv
  ·exact hv
  ·exact hv
  ·exact hv
  ·exact hv
  ·exact hv
  ·exact hv
  ·split at hv
   ·split at hv
    ·split at hv
     ·rename_i cs hcs
      rw [takeG_mono hg hcs]
      exact hv
     ·cases hv
    ·cases hv
   ·cases hv
  ·cases hv
 ·cases hv
theorem r1_mono {a b : Option (V × H)} {l : List (V × H)} (hab : ∀ v, a = some v → b = some v) (hv : r1 a = some l) : r1 b = some l := by
 unfold r1 at hv ⊢
 cases a with
 | none => cases hv
 | some x => rw [hab x rfl]; exact hv
theorem builtinV_mono (hg : ∀ k cs, E.globs.get k = some cs → g'.get k = some cs) {h : H} {b : Builtin} {ts : List Nat} {args : List V} {l : List (V × H)} (hv : builtinV E h b ts args = some l) : builtinV { E with globs := g' } h b ts args = some l := by
 unfold builtinV at hv ⊢
 split at hv
 ·simp only [lenB_g]; exact hv
 ·split at hv
  ·split at hv
   ·rename_i i hi
    simp only [hi]
    split at hv
    ·exact r1_mono (fun v => appendV_mono hg) hv
    ·exact r1_mono (fun v => appendV_mono hg) hv
    ·exact r1_mono (fun v => appendZV_mono hg) hv
    ·cases hv
   ·cases hv
  ·cases hv
 ·split at hv
  ·exact r1_mono (fun v => copyV_mono hg) hv
  ·cases hv
 ·simp only [deleteV_g]; exact hv
 ·exact hv
 ·exact hv
 ·cases hv

theorem opV_mono (hg : ∀ k cs, E.globs.get k = some cs → g'.get k = some cs) (hr : LeR ih ih') {fr : Fr} {h : H} {o : Oper} {l : List (V × H)} (hv : opV E ih fr h o = some l) : opV { E with globs := g' } ih' fr h o = some l := by
 unfold opV at hv ⊢
 cases ho : o.op with
 | load t a =>
  rw [ho] at hv
  simp only at hv ⊢
  split at hv
  ·exact hv
  ·unfold rv at hv ⊢
   split at hv
   ·cases hv
   ·rename_i v hv'
    rw [loadG_mono hg hv']
    exact hv
  ·cases hv
 | call c =>
  rw [ho] at hv
  simp only at hv ⊢
  split at hv
  ·split at hv
   ·exact invokeV_mono hr hv
   ·cases hv
  ·exact builtinV_mono hg hv
  ·split at hv
   ·split at hv
    ·exact hr.call _ _ _ _ hv
    ·cases hv
   ·cases hv
  ·cases hv
 | convert s t x =>
  rw [ho] at hv
  simp only at hv ⊢
  split at hv
  ·exact r1_mono (fun v => convV_mono hg) hv
  ·cases hv
 | _ => rw [ho] at hv; simp only [binV_g, lookupV_g, updateV_g, makeSliceV_g, sliceV_g, storeV_g] at hv ⊢; exact hv

theorem opsV_mono (hg : ∀ k cs, E.globs.get k = some cs → g'.get k = some cs) (hr : LeR ih ih') {all : List Oper} : ∀ {ops : List Oper} {fr : Fr} {h : H} {l : List (Fr × H)}, opsV E ih all ops fr h = some l → opsV { E with globs := g' } ih' all ops fr h = some l
 | [], _, _, _, h => h
 | o :: r, fr, h, l, hv => by
  simp only [opsV] at hv ⊢
  split at hv
  ·cases hv
  ·split at hv
   ·exact opsV_mono hg hr hv
   ·cases hv
  ·refine rbind_mono (fun l hl => opV_mono hg hr hl) (fun x r hx => ?_) hv
   split at hx
   ·exact opsV_mono hg hr hx
   ·cases hx

theorem readOk_mono (hg : ∀ k cs, E.globs.get k = some cs → g'.get k = some cs) (hr : LeR ih ih') {v : V} {fr : Fr} {o : Oper} {h : H} (hv : readOk E ih v fr o h = true) : readOk { E with globs := g' } ih' v fr o h = true := by
 unfold readOk at hv ⊢
 split at hv
 ·rename_i v' h' ho
  rw [opV_mono hg hr ho]
  exact hv
 ·cases hv

theorem stands_mono (hg : ∀ k cs, E.globs.get k = some cs → g'.get k = some cs) (hr : LeR ih ih') {m : Nat} {fr : Fr} {h : H} : ∀ {l : List (Nat × Oper × V)}, stands E ih m fr h l = true → stands { E with globs := g' } ih' m fr h l = true
 | [], h => h
 | (k, o, v) :: r, hv => by
  simp only [stands, Bool.and_eq_true, Bool.or_eq_true] at hv ⊢
  exact ⟨hv.1.imp id (readOk_mono hg hr), stands_mono hg hr hv.2⟩

theorem isEff_g : isEff { E with globs := g' } = isEff E := rfl
theorem pickP_g {done : Nat} : ∀ {ps : List Pn}, pickP { E with globs := g' } done ps = pickP E done ps
 | [] => rfl
 | p :: r => by simp only [pickP, isEff_g, pickP_g (ps := r)]
theorem pickE_g {done : Nat} : ∀ {ps : List Pn}, pickE { E with globs := g' } done ps = pickE E done ps
 | [] => rfl
 | p :: r => by simp only [pickE, isEff_g, pickE_g (ps := r)]

theorem opsD_mono (hg : ∀ k cs, E.globs.get k = some cs → g'.get k = some cs) (hr : LeR ih ih') {all : List Oper} : ∀ {n : Nat} {ps : List Pn} {done : Nat} {rd : List (Nat × Oper × V)} {fr : Fr} {h : H} {l : List (Fr × H)},
  opsD E ih all n ps done rd fr h = some l → opsD { E with globs := g' } ih' all n ps done rd fr h = some l
 | 0, [], _, _, _, _, _, h => h
 | _ + 1, [], _, _, _, _, _, h => h
 | 0, _ :: _, _, _, _, _, _, h => by cases h
 | n + 1, p :: ps, done, rd, fr, h, l, hv => by
  unfold opsD at hv ⊢
  rw [pickP_g, pickE_g]
  split at hv
  ·rename_i q rest hq
   split at hv
   ·cases hv
   ·split at hv
    ·exact opsD_mono hg hr hv
    ·cases hv
   ·split at hv
    ·rename_i v h1 ho
     rw [opV_mono hg hr ho]
     simp only
     split at hv
     ·exact opsD_mono hg hr hv
     ·cases hv
    ·cases hv
  ·refine rbindL_mono (fun x r hx => ?_) hv
   split at hx
   ·cases hx
   ·split at hx
    ·exact opsD_mono hg hr hx
    ·cases hx
   ·refine rbind_mono (fun l hl => opV_mono hg hr hl) (fun y r hy => ?_) hx
    cases hs : stands E ih x.1.2.1 fr y.2 rd with
    | false => rw [hs] at hy; cases hy
    | true =>
     rw [hs] at hy
     rw [stands_mono hg hr hs]
     simp only [cond_true] at hy ⊢
     split at hy
     ·exact opsD_mono hg hr hy
     ·cases hy

theorem drawn_mono (hg : ∀ k cs, E.globs.get k = some cs → g'.get k = some cs) (hr : LeR ih ih') {ops : List Oper} {fr : Fr} {h : H} {l : List (Fr × H)} (hv : drawn E ih ops fr h = some l) : drawn { E with globs := g' } ih' ops fr h = some l := by
 unfold drawn at hv ⊢
 simp only at hv ⊢
 cases hd : drawOk ops (pendL ops (preds ops []) 0) with
 | false => rw [hd] at hv; cases hv
 | true =>
  rw [hd] at hv
  exact opsD_mono hg hr hv

theorem resV_globs {fr : Fr} {h : H} : ∀ rs, resV { E with globs := g' } fr h rs = resV E fr h rs
 | [] => rfl
 | r :: rs => by simp only [resV, resV_globs rs]; rfl

theorem afterLoop_mono (hr : LeR ih ih') {lb : Nat} {fr : Fr} {h : H} {l : List (Ex × Fr × H)} (hv : afterLoop ih lb fr h = some l) : afterLoop ih' lb fr h = some l := by
 unfold afterLoop at hv ⊢
 split at hv
 ·split at hv
  ·cases hv
  ·unfold runPend at hv ⊢
   split at hv
   ·exact hv
   ·exact hr.code _ _ _ _ hv
 ·cases hv

theorem stepCode_mono (hg : ∀ k cs, E.globs.get k = some cs → g'.get k = some cs) (hr : LeR ih ih') {c : Code} {fr : Fr} {h : H} {l : List (Ex × Fr × H)} (hv : stepCode E ih c fr h = some l) : stepCode { E with globs := g' } ih' c fr h = some l := by
 unfold stepCode at hv ⊢
 cases c with
 | region id ops draw =>
  simp only at hv ⊢
  refine rbind_mono (fun l hl => ?_) (fun x r hx => hx) hv
  cases draw with
  | true => exact drawn_mono hg hr hl
  | false => exact opsV_mono hg hr hl
 | seq a b =>
  simp only at hv ⊢
  refine rbind_mono (fun l hl => hr.code _ _ _ _ hl) (fun x r hx => ?_) hv
  split at hx
  ·exact hr.code _ _ _ _ hx
  ·exact hx
 | cond c a b =>
  simp only at hv ⊢
  split at hv
  ·exact hr.code _ _ _ _ hv
  ·exact hr.code _ _ _ _ hv
  ·cases hv
 | block id body =>
  simp only at hv ⊢
  exact rbind_mono (fun l hl => hr.code _ _ _ _ hl) (fun x r hx => hx) hv
 | loop body =>
  simp only at hv ⊢
  refine rbind_mono (fun l hl => hr.code _ _ _ _ hl) (fun x r hx => ?_) hv
  split at hx
  ·exact hr.code _ _ _ _ hx
  ·exact hx
 | scope body => exact hr.code _ _ _ _ hv
 | rangeFunc f ps asg body =>
  simp only at hv ⊢
  split at hv
  ·split at hv
   ·refine rbind_mono (fun l hl => invokeV_mono hr hl) (fun x r hx => afterLoop_mono hr hx) hv
   ·cases hv
  ·split at hv
   ·split at hv
    ·refine rbind_mono (fun l hl => invokeV_mono hr hl) (fun x r hx => afterLoop_mono hr hx) hv
    ·cases hv
   ·cases hv
 | _ => exact hv

theorem callBody_mono (hr : LeR ih ih') {f : Nat} {i : FI} {args : List V} {h : H} {l : List (V × H)} (hv : callBody E ih f i args h = some l) : callBody { E with globs := g' } ih' f i args h = some l := by
 unfold callBody at hv ⊢
 cases hb : Nat.ble args.length i.nt with
 | false => rw [hb] at hv; cases hv
 | true =>
  rw [hb] at hv
  simp only [cond_true] at hv ⊢
  refine rbind_mono (fun l hl => hr.code _ _ _ _ hl) (fun x r hx => ?_) hv
  simp only [resV_globs]
  exact hx

theorem stepCall_mono (hr : LeR ih ih') {f : Nat} {args : List V} {h : H} {l : List (V × H)} (hv : stepCall E ih f args h = some l) : stepCall { E with globs := g' } ih' f args h = some l := by
 unfold stepCall at hv ⊢
 simp only at hv ⊢
 split at hv
 ·unfold stepOther at hv ⊢
  simp only at hv ⊢
  split at hv
  ·exact hv
  ·split at hv
   ·split at hv
    ·rename_i l' hl
     rw [callBody_mono hr hl]
     exact hv
    ·cases hv
   ·exact hv
 ·exact callBody_mono hr hv

theorem stepYield_mono (hr : LeR ih ih') {f : Nat} {args : List V} {h : H} {l : List (V × H)} (hv : stepYield ih f args h = some l) : stepYield ih' f args h = some l := by
 unfold stepYield at hv ⊢
 split at hv
 ·split at hv
  ·cases hv
  ·refine rbind_mono (fun l hl => hr.code _ _ _ _ hl) (fun x r hx => ?_) hv
   split at hx
   ·split at hx
    ·exact rbind_mono (fun l hl => hr.code _ _ _ _ hl) (fun y r hy => hy) hx
    ·cases hx
   ·cases hx
 ·cases hv

theorem stepRec_mono (hg : ∀ k cs, E.globs.get k = some cs → g'.get k = some cs) (hr : LeR ih ih') : LeR (stepRec E ih) (stepRec { E with globs := g' } ih') :=
 ⟨fun _ _ _ _ h => stepCode_mono hg hr h, fun _ _ _ _ h => stepCall_mono hr h, fun _ _ _ _ h => stepYield_mono hr h⟩

theorem ev_succ (E : Env) : ∀ n, LeR (ev E n) (ev E (n + 1))
 | 0 => ⟨fun _ _ _ _ h => (by cases h), fun _ _ _ _ h => (by cases h), fun _ _ _ _ h => (by cases h)⟩
 | n + 1 => stepRec_mono (g' := E.globs) (fun _ _ h => h) (ev_succ E n)

theorem ev_le (E : Env) {n m : Nat} (h : n ≤ m) : LeR (ev E n) (ev E m) := by
 induction h with
 | refl => exact LeR.refl _
 | step _ ih => exact ih.trans (ev_succ E _)
end
end Go.Ev
