/- Walks: the law of damage. -/
import Derived.Test.YtloblhhnlaaajaaDoorX15
import Derived.Test.YtloblhhnlaaajaaDoorX23
import Derived.Test.YtloblhhnlaaajaaDoorX20
import Derived.Test.YtloblhhnlaaajaaDoorX14
set_option linter.unusedVariables false
set_option linter.unusedSimpArgs false
set_option linter.defProp false
set_option linter.unusedSimpArgs false
namespace Go.Ev
open Go
theorem Sl.put {E : Env} {h : H} {n : Nat} {s : V} {vs : List V} (a : Sl E h 1 s n vs) (ho : ∃ b o m c, s = .slice b o m c) {t e k : Nat} {i ei : TI} (ht : E.tys.get t = some i) (hd : i.desc = .slice e) (he : E.tys.get e = some ei) (hsz : ei.size = 1) (hk : k < n) {v : V} (hv : v.cells = [v]) (h1 : v.one = true) :
  ∃ p b h', indexAddrV E t s (.int .i64 k) = some p ∧ (∃ o m c, s = .slice b o m c) ∧ storeP E h e p v = some h' ∧ Sl E h' 1 s n (vs.set k v) ∧ h'.next = h.next ∧ Fix (· ≠ b) h h' := by
 obtain ⟨b, o, m, c, rfl⟩ := ho
 have hc := a.cells
 have hl := a.len
 simp only [lenV] at hl; injection hl with hl; subst hl
 have hlt : Nat.blt k m = true := by simpa using hk
 have h0 : Nat.beq (m * 1) 0 = false := beq_false (by omega)
 unfold srcCells at hc
 simp only [h0, cond_false] at hc
 obtain ⟨_, hc⟩ := bif_some hc
 split at hc
 ·rename_i tt N d e' kk hb
  obtain ⟨q1, q2⟩ := cellsFrom_get hc
  have hsize := a.size
  -- all the cells lie in the block
  have hin : ∀ j, j < m → o + j < N := fun j hj => by
   have q := q2 j (by omega)
   rcases Nat.lt_or_ge (o + j) N with q' | q'
   ·exact q'
   ·exfalso
    have hf : Nat.blt (o + j) N = false := by
     cases hx : Nat.blt (o + j) N with
     | false => rfl
     | true => have : o + j < N := by simpa using hx
               omega
    unfold cellAt at q
    rw [hf] at q
    simp only [cond_false] at q
    rw [List.getElem?_eq_getElem (by omega)] at q
    cases q
  have hle : Nat.ble (o + k + 1) N = true := ble_true (by have := hin k hk; omega)
  refine ⟨.ptr b (o + k), b, h.put b (.cells (T.putL tt (o + k) [v]) N d e' kk), ?_, ⟨o, m, c, rfl⟩, ?_, ?_, rfl, ⟨Nat.le_refl _, fun x hx => by simp only [H.put, T.get_set]; rw [if_neg hx]⟩⟩
  ·simp [indexAddrV, ht, hd, natOf_nat, hlt, sizeOfT, he, hsz]
  ·have hb1 : Nat.beq 1 ei.size = true := by rw [hsz]; rfl
   simp only [storeP, storeV, he, hv, List.length_singleton, hb1, cond_true, storeL, hb, hle, List.all_cons, List.all_nil, h1, Bool.and_self]
  ·refine ⟨rfl, ?_, a.slice, a.cap⟩
   have hput : (h.put b (.cells (T.putL tt (o + k) [v]) N d e' kk)).t.get b = some (.cells (T.putL tt (o + k) [v]) N d e' kk) := by simp only [H.put, T.get_set, if_true]
   simp only [srcCells, h0, cond_false, ble_true (Nat.le_refl m), cond_true, hput]
   refine cellsFrom_of (by rw [List.length_set]; omega) (fun j hj => ?_)
   have q := q2 j hj
   have hjm : j < m := by omega
   have hj2 := hin j hjm
   have hb2 : Nat.blt (o + j) N = true := by simpa using hj2
   unfold cellAt at q ⊢
   rw [hb2] at q ⊢
   simp only [cond_true, T.get_putL, List.length_singleton] at q ⊢
   by_cases e : j = k
   ·subst e
    rw [if_pos (by omega), List.getElem?_set_self (by omega)]
    simp
   ·rw [if_neg (by omega), List.getElem?_set_ne (Ne.symm e)]
    exact q
 ·cases hc
end Go.Ev
namespace Go.Proofs.OP
open Go Go.Ev
open Go.Proofs
open Nat (reduceLT reduceEqDiff)
variable {g : T (List V)}

theorem BufB.own {h : H} {s : V} {xs : List UInt8} (b : BufB g h s xs) (hx : 0 < xs.length) : ∃ b o m c, s = .slice b o m c := by
 unfold BufB at b
 generalize xs.length = n at b hx
 generalize xs.map u8 = vs at b
 cases b with
 | nil => omega
 | lit _ _ => exact ⟨_, _, _, _, rfl⟩
 | opn _ _ _ => exact ⟨_, _, _, _, rfl⟩

end Go.Proofs.OP

namespace Go.Ev
open Go
section
variable {E : Env} {ops : List Oper}
def noEff (p : List Stp) : Bool := p.all fun s => !s.eff
theorem WPlan_rd {Q : Fr → H → Prop} : ∀ {p : List Stp} (_ : noEff p = true) {rd rd' : List (Nat × V)} {fr : Fr} {h : H} (_ : WPlan E ops p rd fr h Q), WPlan E ops p rd' fr h Q
 | [], _, _, _, _, _, k => k
 | s :: r, hp, rd, rd', fr, h, k => by
  simp only [noEff, List.all_cons, Bool.and_eq_true, Bool.not_eq_true'] at hp
  obtain ⟨he, hr⟩ := hp
  have ih := fun {rd rd' fr h} => WPlan_rd (p := r) (Q := Q) (by exact hr) (rd := rd) (rd' := rd') (fr := fr) (h := h)
  unfold WPlan at k ⊢
  cases hn : nth ops s.idx with
  | none => simp only [hn] at k
  | some o =>
   simp only [hn] at k ⊢
   cases hw : wantedV fr ops o with
   | none => simp only [hw] at k
   | some b =>
    cases b with
    | false =>
     simp only [hw] at k ⊢
     cases hq : fr.put o.dst un with
     | none => simp only [hq] at k
     | some fr' => simp only [hq] at k ⊢; exact ih k
    | true =>
     simp only [hw, he, cond_false] at k ⊢
     refine k.mono fun v h' q => ?_
     cases hq : fr.put o.dst v with
     | none => simp only [hq] at q
     | some fr' => simp only [hq] at q ⊢; exact ih q
theorem WPlan_mono {Q Q' : Fr → H → Prop} (hQ : ∀ fr h, Q fr h → Q' fr h) : ∀ {p : List Stp} {rd : List (Nat × V)} {fr : Fr} {h : H} (_ : WPlan E ops p rd fr h Q), WPlan E ops p rd fr h Q'
 | [], _, _, _, k => hQ _ _ k
 | s :: r, rd, fr, h, k => by
  have ih := fun {rd fr h} => WPlan_mono hQ (p := r) (rd := rd) (fr := fr) (h := h)
  unfold WPlan at k ⊢
  cases hn : nth ops s.idx with
  | none => simp only [hn] at k
  | some o =>
   simp only [hn] at k ⊢
   cases hw : wantedV fr ops o with
   | none => simp only [hw] at k
   | some b =>
    cases b with
    | false =>
     simp only [hw] at k ⊢
     cases hq : fr.put o.dst un with
     | none => simp only [hq] at k
     | some fr' => simp only [hq] at k ⊢; exact ih k
    | true =>
     cases he : s.eff with
     | true =>
      simp only [hw, he, cond_true] at k ⊢
      refine k.mono fun v h' q => ⟨q.1, ?_⟩
      have q := q.2
      cases hq : fr.put o.dst v with
      | none => simp only [hq] at q
      | some fr' => simp only [hq] at q ⊢; exact ih q
     | false =>
      simp only [hw, he, cond_false] at k ⊢
      refine k.mono fun v h' q => ?_
      cases hq : fr.put o.dst v with
      | none => simp only [hq] at q
      | some fr' => simp only [hq] at q ⊢; exact ih q
theorem WPlan_cat {Q : Fr → H → Prop} {p2 : List Stp} (h2 : noEff p2 = true) : ∀ {p1 : List Stp} {rd : List (Nat × V)} {fr : Fr} {h : H} (_ : WPlan E ops p1 rd fr h fun fr' h' => WPlan E ops p2 [] fr' h' Q), WPlan E ops (p1 ++ p2) rd fr h Q
 | [], _, _, _, k => WPlan_rd h2 k
 | s :: r, rd, fr, h, k => by
  have ih := fun {rd fr h} => WPlan_cat h2 (Q := Q) (p1 := r) (rd := rd) (fr := fr) (h := h)
  rw [List.cons_append]
  unfold WPlan at k ⊢
  cases hn : nth ops s.idx with
  | none => simp only [hn] at k
  | some o =>
   simp only [hn] at k ⊢
   cases hw : wantedV fr ops o with
   | none => simp only [hw] at k
   | some b =>
    cases b with
    | false =>
     simp only [hw] at k ⊢
     cases hq : fr.put o.dst un with
     | none => simp only [hq] at k
     | some fr' => simp only [hq] at k ⊢; exact ih k
    | true =>
     cases he : s.eff with
     | true =>
      simp only [hw, he, cond_true] at k ⊢
      refine k.mono fun v h' q => ⟨q.1, ?_⟩
      have q := q.2
      cases hq : fr.put o.dst v with
      | none => simp only [hq] at q
      | some fr' => simp only [hq] at q ⊢; exact ih q
     | false =>
      simp only [hw, he, cond_false] at k ⊢
      refine k.mono fun v h' q => ?_
      cases hq : fr.put o.dst v with
      | none => simp only [hq] at q
      | some fr' => simp only [hq] at q ⊢; exact ih q
theorem WPlan_two {Q M : Fr → H → Prop} (k : Nat) {p : List Stp} {rd : List (Nat × V)} {fr : Fr} {h : H} (h2 : noEff (p.drop k) = true) (k1 : WPlan E ops (p.take k) rd fr h M) (k2 : ∀ fr h, M fr h → WPlan E ops (p.drop k) [] fr h Q) : WPlan E ops p rd fr h Q := by
 rw [← List.take_append_drop k p]; exact WPlan_cat h2 (WPlan_mono k2 k1)
end
end Go.Ev

namespace Go.Ev
open Go

def At (h : H) (b o : Nat) (vs : List V) : Prop := ∃ t N d e k, h.t.get b = some (.cells t N d e k) ∧ cellsFrom t N d o vs.length = some vs

section
variable {E : Env} {K : Nat → Prop} {h h' : H} {b o : Nat} {vs : List V}

theorem Has.at0 (a : Has h b vs) : At h b 0 vs := by
 obtain ⟨t, d, e, k, h1, h2⟩ := a
 exact ⟨t, _, d, e, k, h1, h2⟩
theorem At.fix (a : At h b o vs) (f : Fix K h h') (hb : K b) : At h' b o vs := by
 obtain ⟨t, N, d, e, k, h1, h2⟩ := a
 exact ⟨t, N, d, e, k, by rw [f.same b hb]; exact h1, h2⟩
theorem At.part (a : At h b o vs) {p q : Nat} (hq : p + q ≤ vs.length) : At h b (o + p) ((vs.drop p).take q) := by
 obtain ⟨t, N, d, e, k, h1, h2⟩ := a
 obtain ⟨q1, q2⟩ := cellsFrom_get h2
 refine ⟨t, N, d, e, k, h1, ?_⟩
 have hl : ((vs.drop p).take q).length = q := by simp; omega
 rw [hl]
 exact cellsFrom_of hl fun j hj => by
  rw [Nat.add_assoc, q2 _ (by omega), List.getElem?_take, if_pos hj, List.getElem?_drop]
theorem At.at (a : At h b o vs) {ty : Nat} {i : TI} (ht : E.tys.get ty = some i) (hi : i.agg = false) {j : Nat} (hj : j < vs.length) : loadP E h ty (.ptr b (o + j)) = vs[j]? := by
 obtain ⟨t, N, d, e, k, h1, h2⟩ := a
 simp only [loadP, loadV, ht, h1, hi, cond_false]
 exact (cellsFrom_get h2).2 j hj
theorem At.agg (a : At h b o vs) {ty : Nat} {i : TI} (ht : E.tys.get ty = some i) (hi : i.agg = true) (hs : i.size = vs.length) : loadP E h ty (.ptr b o) = some (.agg vs) := by
 obtain ⟨t, N, d, e, k, h1, h2⟩ := a
 simp only [loadP, loadV, ht, h1, hi, cond_true, hs, h2]
 rfl
theorem At.room (a : At h b o vs) {t : T V} {N : Nat} {d : List V} {e k : Nat} (hb : h.t.get b = some (.cells t N d e k)) (h0 : 0 < vs.length) : o + vs.length ≤ N := by
 obtain ⟨t', N', d', e', k', h1, h2⟩ := a
 rw [hb] at h1
 injection h1 with h1
 injection h1 with h1 h3 h4 h5 h6
 subst h1 h3 h4 h5 h6
 have := (cellsFrom_get h2).2 (vs.length - 1) (by omega)
 rw [List.getElem?_eq_getElem (by omega)] at this
 unfold cellAt at this
 cases hN : Nat.blt (o + (vs.length - 1)) N with
 | false => rw [hN] at this; cases this
 | true => have : o + (vs.length - 1) < N := by simpa using hN
           omega

theorem Sl.block {sz n m c : Nat} {cc : Cp} (a : Sl E h sz (.slice b o m cc) n vs) (h0 : 0 < n * sz) : At h b o vs := by
 have hs := a.size
 have hc := a.cells
 have hb0 : Nat.beq (n * sz) 0 = false := beq_false (by omega)
 simp only [srcCells, hb0, cond_false] at hc
 obtain ⟨_, hc⟩ := bif_some hc
 split at hc
 ·rename_i t N d e k hb
  exact ⟨t, N, d, e, k, hb, by rw [hs]; exact hc⟩
 ·cases hc
theorem At.slice {sz n : Nat} {cc : Cp} (a : At h b o vs) (hn : vs.length = n * sz) (hcc : ∀ c, cc = .lit c → n ≤ c) : Sl E h sz (.slice b o n cc) n vs := by
 obtain ⟨t, N, d, e, k, h1, h2⟩ := a
 refine ⟨rfl, ?_, (fun _ e => by cases e), (fun b o m c e => by injection e with _ _ e1 e2; subst e1; exact hcc c e2), (fun _ _ _ e => by cases e)⟩
 rw [hn] at h2
 simp only [srcCells, h1, ble_true (Nat.le_refl n), cond_true, h2]
 cases h0 : Nat.beq (n * sz) 0 with
 | true =>
  have h0 := Nat.eq_of_beq_eq_true h0
  rw [h0] at h2; simp [cellsFrom] at h2; subst h2; rfl
 | false => rfl

theorem sat_storeA {ty p : Nat} {v : V} {Q : V → H → Prop} (a : At h b o vs) {i : TI} (ht : E.tys.get ty = some i) (hl : v.cells.length = i.size) (hp : p + i.size ≤ vs.length) (h1 : v.cells.all V.one = true) (h0 : 0 < i.size)
  (k : ∀ h', At h' b o (over vs p v.cells) → h'.next = h.next → Fix (· ≠ b) h h' → Q un h') : Sat1 (rh (storeP E h ty (.ptr b (o + p)) v)) Q := by
 have aa := a
 obtain ⟨t, N, d, e, kk, q1, q2⟩ := a
 have hN := aa.room q1 (by omega)
 have hbeq : Nat.beq v.cells.length i.size = true := by rw [hl]; simp
 simp only [storeP, storeV, ht, hbeq, cond_true]
 rcases hc : v.cells with _ | ⟨c0, cr⟩
 ·rw [hc] at hl; simp at hl; omega
 ·have hle : Nat.ble (o + p + v.cells.length) N = true := ble_true (by omega)
  simp only [storeL, q1, ← hc, hle, h1, Bool.and_self, cond_true, sat_rh]
  have hlen : p + v.cells.length ≤ vs.length := by rw [hl]; exact hp
  refine k _ ⟨t.putL (o + p) v.cells, N, d, e, kk, ?_, ?_⟩ rfl ⟨Nat.le_refl _, fun c hc => ?_⟩
  ·simp only [H.put, T.get_set, if_true]
  ·rw [over_length hlen]
   refine cellsFrom_of (over_length hlen) (fun j hj => ?_)
   rw [cellAt_putL (by omega), over_get hlen]
   by_cases hj2 : p ≤ j ∧ j < p + v.cells.length
   ·rw [if_pos ⟨by omega, by omega⟩, if_pos hj2]
    congr 1; omega
   ·rw [if_neg (by omega), if_neg hj2]
    exact (cellsFrom_get q2).2 j hj
  ·simp only [H.put, T.get_set]; rw [if_neg hc]

theorem sat_copyA {t e n m p : Nat} {c : Cp} {x : V} {ws : List V} {i ei : TI} {Q : V → H → Prop} (a : At h b o vs) (ht : E.tys.get t = some i) (hd : i.desc = .slice e) (he : E.tys.get e = some ei) (hsz : ei.size = 1)
  (hl : lenV x = some m) (hm : m ≤ n) (hc : srcCells E h 1 m x = some ws) (hw : ws.length = m) (hp : p + m ≤ vs.length) (h1 : ws.all V.one = true)
  (k : ∀ h', At h' b o (over vs p ws) → h'.next = h.next → Fix (· ≠ b) h h' → Q (.int .i64 m) h') : Sat1 (r1 (copyV E h t (.slice b (o + p) n c) x)) Q := by
 have aa := a
 obtain ⟨tt, N, d, e', kk, q1, q2⟩ := a
 have hln : lenV (.slice b (o + p) n c) = some n := rfl
 have hmin : Nat.min m n = m := Nat.min_eq_left hm
 have hc' : srcCells E h ei.size m x = some ws := by rw [hsz]; exact hc
 simp only [copyV, ht, hd, he, hln, hl, hmin, hc']
 rcases hv : ws with _ | ⟨v0, vr⟩
 ·simp only [storeL, Option.map_some, sat_r1]
  refine k h ?_ rfl (Fix.refl _ _)
  rw [hv]
  have : over vs p [] = vs := by unfold over; simp
  rw [this]; exact aa
 ·have hN := aa.room q1 (by rw [hv] at hw; simp at hw; omega)
  have hle : Nat.ble (o + p + ws.length) N = true := ble_true (by omega)
  simp only [storeL, q1, ← hv, hle, h1, Bool.and_self, cond_true, Option.map_some, sat_r1]
  have hlen : p + ws.length ≤ vs.length := by omega
  refine k _ ⟨tt.putL (o + p) ws, N, d, e', kk, ?_, ?_⟩ rfl ⟨Nat.le_refl _, fun c hc => ?_⟩
  ·simp only [H.put, T.get_set, if_true]
  ·rw [over_length hlen]
   refine cellsFrom_of (over_length hlen) (fun j hj => ?_)
   rw [cellAt_putL (by omega), over_get hlen]
   by_cases hj2 : p ≤ j ∧ j < p + ws.length
   ·rw [if_pos ⟨by omega, by omega⟩, if_pos hj2]
    congr 1; omega
   ·rw [if_neg (by omega), if_neg hj2]
    exact (cellsFrom_get q2).2 j hj
  ·simp only [H.put, T.get_set]; rw [if_neg hc]

def Whole (s : V) (n : Nat) : Prop := s = .nils ∨ ∃ b c, s = .slice b 0 n c ∧ (c = .lit n ∨ c = .opn 0 0)
theorem Buf.whole {e sz n : Nat} {s : V} (a : Buf E h e sz s n vs) : Whole s n := by
 cases a with
 | nil => exact .inl rfl
 | lit => exact .inr ⟨_, _, rfl, .inl rfl⟩
 | opn => exact .inr ⟨_, _, rfl, .inr rfl⟩
theorem Whole.cap {n : Nat} {c : Cp} (h : c = .lit n ∨ c = .opn 0 0) : ∀ m, c = .lit m → n ≤ m := fun m e => by
 rcases h with h | h
 ·rw [h] at e; injection e with e; omega
 ·rw [h] at e; cases e
theorem slice_from {t e sz n l : Nat} {c : Cp} {i : TI} {k : IntKind} (ht : E.tys.get t = some i) (hd : i.desc = .slice e) (hs : sizeOfT E e = some sz) (hc : c = .lit n ∨ c = .opn 0 0) (hl : l < n) :
  ∃ c', sliceV E t (.slice b o n c) (some (.int k l)) none none = some (.slice b (o + l * sz) (n - l) c') := by
 have h1 : Nat.ble l n = true := ble_true (by omega)
 have h2 : Nat.ble n n = true := ble_true (Nat.le_refl _)
 rcases hc with rfl | rfl
 ·refine ⟨.lit (n - l), ?_⟩
  simp only [sliceV, ht, hd, hs, subSlice, optNat, natOf_nat, Option.bind_some, h1, h2, cond_true, subEnd, beq_false (show n ≠ l by omega), cond_false]
 ·cases l with
  | zero =>
   refine ⟨.opn 0 0, ?_⟩
   simp only [sliceV, ht, hd, hs, subSlice, optNat, natOf_nat, Option.bind_some, h1, h2, cond_true, subEnd, Nat.zero_mul, Nat.add_zero, Nat.sub_zero]
  | succ l =>
   refine ⟨.opn (0 + (l + 1)) o, ?_⟩
   simp only [sliceV, ht, hd, hs, subSlice, optNat, natOf_nat, Option.bind_some, h1, h2, cond_true, subEnd]
end
end Go.Ev
