/- Walks: fewLoading, load. Printed by genS16.py. -/
import Derived.Test.YtloblhhnlaaajaaDoorV15
import Derived.Test.YtloblhhnlaaajaaDoorV37
set_option linter.unusedVariables false
set_option linter.unusedSimpArgs false
set_option linter.defProp false
set_option linter.unusedSimpArgs false
namespace Go.Proofs.OP
open Go Go.Ev
open Go.Proofs
open Nat (reduceLT reduceEqDiff)
variable {g : T (List V)}

structure LdM (g : T (List V)) (h : H) (K : Nat → Prop) (c : Ic) (ls ns : V) (x : ImgD) (L : List (Ic × ImgD)) (N : List (List UInt8)) : Prop where
 im : Im g h K c x
 ims : Ims g h K ls L
 nms : Ss g h ns N
 nin : In K ns
theorem LdM.fix {h h' : H} {K K' : Nat → Prop} {c : Ic} {ls ns : V} {x : ImgD} {L : List (Ic × ImgD)} {N : List (List UInt8)} (a : LdM g h K c ls ns x L N) (f : Fix K' h h') (hs : ∀ b, K b → K' b) : LdM g h' K c ls ns x L N :=
 ⟨a.im.fix f hs, ⟨Sl.fix a.ims.sl (a.ims.ins.sub hs) f, a.ims.ins, fun p hp => (a.ims.im p hp).fix f hs⟩, Sl.fix a.nms (a.nin.sub hs) f, a.nin⟩
theorem LdM.up {h : H} {K K' : Nat → Prop} {c : Ic} {ls ns : V} {x : ImgD} {L : List (Ic × ImgD)} {N : List (List UInt8)} (a : LdM g h K c ls ns x L N) (hs : ∀ b, K b → K' b) : LdM g h K' c ls ns x L N :=
 ⟨a.im.up hs, a.ims.up hs, a.nms, a.nin.sub hs⟩
structure LdR (x : ImgD) (L : List (Ic × ImgD)) (N : List (List UInt8)) : Prop where
 rx : RoomI x
 rL : ∀ p ∈ L, RoomI p.2
 lL : L.length < 2 ^ 47
 lN : N.length < 2 ^ 47
abbrev ldC (c : Ic) (x : ImgD) (ls ns : V) : List V := c.cells x ++ [ls, ns]
def fewLd (x : ImgD) (L : List (Ic × ImgD)) (N : List (List UInt8)) : Bool := L.all (fun p => fewI p.2) && (N.all (fun s => !decide ((200 : Int) < s.length)) && (fewI x && (decide ((L.length : Int) ≤ 52) && decide ((N.length : Int) ≤ 52))))
theorem take_all {α : Type} {P : α → Bool} {L : List α} {i : Nat} (hi : i < L.length) : (L.take (i + 1)).all P = ((L.take i).all P && P L[i]) := by
 rw [List.take_succ_eq_append_getElem hi, List.all_append, List.all_cons, List.all_nil, Bool.and_true]
theorem all_no {α : Type} {P : α → Bool} {L : List α} {i : Nat} (hi : i < L.length) (h : P L[i] = false) : L.all P = false := by
 rw [Bool.eq_false_iff]
 intro e
 have := List.all_eq_true.1 e _ (List.getElem_mem hi)
 rw [h] at this; cases this
theorem ld_first {h : H} {b : Nat} {c : Ic} {x : ImgD} {ls ns : V} (a : Has h b (ldC c x ls ns)) : At h b 0 (c.cells x) := a.at0.part0 (p := 0) (q := 7) (show 0 + 7 ≤ 9 by decide)

set_option maxRecDepth 100000 in
set_option maxHeartbeats 4000000 in
theorem fewLd_ok {h : H} {c : Ic} {ls ns : V} {x : ImgD} {L : List (Ic × ImgD)} {N : List (List UInt8)} (a : LdM g h (· < h.next) c ls ns x L N) (r : LdR x L N) : WF (E g) 28 [.agg (ldC c x ls ns)] h fun v h' => v = .bool (fewLd x L N) ∧ Kept h h' := by
 have lL := r.lL
 have lN := r.lN
 refine WF.enter fn28 rfl ?_
 ((repeat refine WC.seq ?_); refine WC.run ?_)
 (try simp only [wk, wl, wx, reduceLT, reduceEqDiff, Nat.reduceBEq, reduceIte])
 refine wop_box (v := .agg (ldC c x ls ns)) (by (try simp only [wk, wl, wx, reduceLT, reduceEqDiff, Nat.reduceBEq, reduceIte])) ?_
 intro h1 b1 n1 f1
 have b1 : Has h1 h.next (ldC c x ls ns) := b1
 (try simp only [wk, wl, wx, reduceLT, reduceEqDiff, Nat.reduceBEq, reduceIte])
 have a1 := (a.fix f1 fun _ h => h).up (K' := (· < h1.next)) fun b hb => by omega
 have l1 : loadP (E g) h1 83 (.ptr h.next 7) = some ls := b1.at ty83 rfl 7
 ((repeat refine WC.seq ?_); refine WC.run ?_)
 (try simp only [wk, wl, wx, reduceLT, reduceEqDiff, Nat.reduceBEq, reduceIte, fa85_1, Nat.zero_add, l1, Sl.lenB a1.ims.sl ty83 rfl])
 (repeat refine WC.seq ?_)
 refine WC.block ?_
 refine WC.while (fun m fr hh => ∃ ts i, fr = ⟨ts, 44, [], 28, none⟩ ∧ Kept h1 hh ∧ m = L.length - i ∧ i ≤ L.length ∧ ts.get 1 = some (.ptr h.next 0) ∧ ts.get 8 = some ls ∧ ts.get 9 = some (.int .i64 L.length) ∧ ts.get 10 = some (.int .i64 i) ∧ (L.take i).all (fun p => fewI p.2) = true) ?_ ⟨_, 0, rfl, Fix.refl _ _, rfl, by omega, ?_, ?_, ?_, ?_, by simp⟩
 ·rintro m fr hh ⟨ts, i, rfl, ff, rfl, hi, t1, t8, t9, t10, hall⟩
  have xh := ff.next
  have ah := (a1.fix ff fun _ h => h).up (K' := (· < hh.next)) fun b hb => by omega
  have bh := b1.fix ff (by omega)
  ((repeat refine WC.seq ?_); refine WC.run ?_)
  (try simp only [wk, wl, wx, reduceLT, reduceEqDiff, Nat.reduceBEq, reduceIte, t9, t10])
  (repeat refine WC.seq ?_)
  by_cases hlt : i < L.length
  ·refine WC.cond (b := true) (by (try simp only [wk, wl, wx, reduceLT, reduceEqDiff, Nat.reduceBEq, reduceIte]); (try simp); (try omega)) (WC.skip ?_)
   (try simp only [wk, wl, wx, reduceLT, reduceEqDiff, Nat.reduceBEq, reduceIte])
   obtain ⟨p, p1, p2⟩ := ah.ims.sl.at (fun _ => rfl) ty83 rfl ty60 rfl (by decide) rfl hlt
   have p2 := p2 hh fun _ _ _ _ _ => rfl
   have hmem := List.getElem_mem hlt
   have imi := ah.ims.im _ hmem
   (repeat refine WC.seq ?_)
   refine WC.block ?_
   ((repeat refine WC.seq ?_); refine WC.run ?_)
   (try simp only [wk, wl, wx, reduceLT, reduceEqDiff, Nat.reduceBEq, reduceIte, t8, t10, p1, p2])
   refine wop_alloc ty60 ?_
   intro h4 b4 n4 f4
   (try simp only [wk, wl, wx, reduceLT, reduceEqDiff, Nat.reduceBEq, reduceIte])
   refine sat_store b4 ty60 rfl (Nat.le_refl 7) (Ic.one imi) ?_
   intro h5 b5 n5 f5
   have b5 : Has h5 hh.next (L[i].1.cells L[i].2) := b5
   have F5 : Kept hh h5 := ⟨by omega, fun b hb => by rw [f5.same b (by omega), f4.same b hb]⟩
   have l5 : loadP (E g) h5 60 (.ptr hh.next 0) = some (.agg (L[i].1.cells L[i].2)) := b5.agg ty60 rfl (Nat.le_refl 7)
   (try simp only [wk, wl, wx, reduceLT, reduceEqDiff, Nat.reduceBEq, reduceIte])
   ((repeat refine WC.seq ?_); refine WC.run ?_)
   (try simp only [wk, wl, wx, reduceLT, reduceEqDiff, Nat.reduceBEq, reduceIte, l5])
   refine (fewI_ok ((imi.fix F5 fun _ h => h).up fun b hb => by omega) (r.rL _ hmem)).mono fun v h6 ⟨e6, f6⟩ => ?_
   subst e6
   have x6 := f6.next
   have F6 : Kept h1 h6 := ⟨by omega, fun b hb => by rw [f6.same b (by omega), F5.same b (by omega), ff.same b hb]⟩
   (try simp only [wk, wl, wx, reduceLT, reduceEqDiff, Nat.reduceBEq, reduceIte, un_not])
   (repeat refine WC.seq ?_)
   cases hri : fewI L[i].2 with
   | false =>
    refine WC.cond (b := true) (by (try simp only [wk, wl, wx, reduceLT, reduceEqDiff, Nat.reduceBEq, reduceIte, hri]); (try simp); (try omega)) ?_
    (try simp only [wk, wl, wx, reduceLT, reduceEqDiff, Nat.reduceBEq, reduceIte])
    ((repeat refine WC.seq ?_); refine WC.run ?_)
    (try simp only [wk, wl, wx, reduceLT, reduceEqDiff, Nat.reduceBEq, reduceIte])
    refine WC.ret ?_
    (try simp only [wk, wl, wx, reduceLT, reduceEqDiff, Nat.reduceBEq, reduceIte])
    exact ⟨by rw [fewLd, all_no hlt hri, Bool.false_and], f1.trans (F6.sub fun b hb => by omega)⟩
   | true =>
    refine WC.cond (b := false) (by (try simp only [wk, wl, wx, reduceLT, reduceEqDiff, Nat.reduceBEq, reduceIte, hri]); (try simp); (try omega)) (WC.skip ?_)
    (try simp only [wk, wl, wx, reduceLT, reduceEqDiff, Nat.reduceBEq, reduceIte])
    ((repeat refine WC.seq ?_); refine WC.run ?_)
    (try simp only [wk, wl, wx, reduceLT, reduceEqDiff, Nat.reduceBEq, reduceIte, t10, bin_add])
    refine ⟨_, ?_, _, i + 1, rfl, F6, rfl, by omega, ?_⟩
    ·omega
    (try simp only [wk, wl, wx, reduceLT, reduceEqDiff, Nat.reduceBEq, reduceIte, t1, t8, t9])
    refine ⟨trivial, trivial, trivial, ?_, by rw [take_all hlt, hall, hri]; rfl⟩
    rw [wrap64 (by omega) (by omega)]; rfl
  ·refine WC.cond (b := false) (by (try simp only [wk, wl, wx, reduceLT, reduceEqDiff, Nat.reduceBEq, reduceIte]); (try simp); (try omega)) (WC.exit ?_)
   have : i = L.length := by omega
   subst this
   rw [List.take_length] at hall
   (try simp only [wk, wl, wx, reduceLT, reduceEqDiff, Nat.reduceBEq, reduceIte])
   have l2 : loadP (E g) hh 30 (.ptr h.next 8) = some ns := bh.at ty30 rfl 8
   ((repeat refine WC.seq ?_); refine WC.run ?_)
   (try simp only [wk, wl, wx, reduceLT, reduceEqDiff, Nat.reduceBEq, reduceIte, t1, fa85_2, Nat.zero_add, l2, Sl.lenB ah.nms ty30 rfl])
   (repeat refine WC.seq ?_)
   refine WC.block ?_
   refine WC.while (fun m fr hq => ∃ ts i, fr = ⟨ts, 44, [], 28, none⟩ ∧ hq = hh ∧ m = N.length - i ∧ i ≤ N.length ∧ ts.get 1 = some (.ptr h.next 0) ∧ ts.get 19 = some ns ∧ ts.get 20 = some (.int .i64 N.length) ∧ ts.get 21 = some (.int .i64 i) ∧ (N.take i).all (fun s => !decide ((200 : Int) < s.length)) = true) ?_ ⟨_, 0, rfl, rfl, rfl, by omega, ?_, ?_, ?_, ?_, by simp⟩
   ·rintro m fr hq ⟨ts, i, rfl, rfl, rfl, hi, t1, t19, t20, t21, hno⟩
    ((repeat refine WC.seq ?_); refine WC.run ?_)
    (try simp only [wk, wl, wx, reduceLT, reduceEqDiff, Nat.reduceBEq, reduceIte, t20, t21])
    (repeat refine WC.seq ?_)
    by_cases hlt : i < N.length
    ·refine WC.cond (b := true) (by (try simp only [wk, wl, wx, reduceLT, reduceEqDiff, Nat.reduceBEq, reduceIte]); (try simp); (try omega)) (WC.skip ?_)
     (try simp only [wk, wl, wx, reduceLT, reduceEqDiff, Nat.reduceBEq, reduceIte])
     obtain ⟨p, p1, p2⟩ := ah.nms.at ty30 rfl ty9 rfl rfl hlt
     have p2 := p2 hq fun _ _ _ _ _ => rfl
     (repeat refine WC.seq ?_)
     refine WC.block ?_
     ((repeat refine WC.seq ?_); refine WC.run ?_)
     (try simp only [wk, wl, wx, reduceLT, reduceEqDiff, Nat.reduceBEq, reduceIte, t19, t21, p1, p2])
     ((repeat refine WC.seq ?_); refine WC.run ?_)
     (try simp only [wk, wl, wx, reduceLT, reduceEqDiff, Nat.reduceBEq, reduceIte, len_str])
     (repeat refine WC.seq ?_)
     by_cases h2 : (200 : Int) < N[i].length
     ·refine WC.cond (b := true) (by (try simp only [wk, wl, wx, reduceLT, reduceEqDiff, Nat.reduceBEq, reduceIte, decide_eq_true h2]); (try simp); (try omega)) ?_
      (try simp only [wk, wl, wx, reduceLT, reduceEqDiff, Nat.reduceBEq, reduceIte])
      ((repeat refine WC.seq ?_); refine WC.run ?_)
      (try simp only [wk, wl, wx, reduceLT, reduceEqDiff, Nat.reduceBEq, reduceIte])
      refine WC.ret ?_
      (try simp only [wk, wl, wx, reduceLT, reduceEqDiff, Nat.reduceBEq, reduceIte])
      exact ⟨by rw [fewLd, all_no hlt (by rw [decide_eq_true h2]; rfl), Bool.false_and, Bool.and_false], f1.trans (ff.sub fun b hb => by omega)⟩
     ·refine WC.cond (b := false) (by (try simp only [wk, wl, wx, reduceLT, reduceEqDiff, Nat.reduceBEq, reduceIte, decide_eq_false h2]); (try simp); (try omega)) (WC.skip ?_)
      (try simp only [wk, wl, wx, reduceLT, reduceEqDiff, Nat.reduceBEq, reduceIte])
      ((repeat refine WC.seq ?_); refine WC.run ?_)
      (try simp only [wk, wl, wx, reduceLT, reduceEqDiff, Nat.reduceBEq, reduceIte, t21, bin_add])
      refine ⟨_, ?_, _, i + 1, rfl, by trivial, rfl, by omega, ?_⟩
      ·omega
      (try simp only [wk, wl, wx, reduceLT, reduceEqDiff, Nat.reduceBEq, reduceIte, t1, t19, t20])
      refine ⟨trivial, trivial, trivial, ?_, by rw [take_all hlt, hno, decide_eq_false h2]; rfl⟩
      rw [wrap64 (by omega) (by omega)]; rfl
    ·refine WC.cond (b := false) (by (try simp only [wk, wl, wx, reduceLT, reduceEqDiff, Nat.reduceBEq, reduceIte]); (try simp); (try omega)) (WC.exit ?_)
     have : i = N.length := by omega
     subst this
     rw [List.take_length] at hno
     (try simp only [wk, wl, wx, reduceLT, reduceEqDiff, Nat.reduceBEq, reduceIte, show Nat.beq 2 2 = true from rfl])
     have l3 : loadP (E g) hq 60 (.ptr h.next 0) = some (.agg (c.cells x)) := (ld_first bh).agg ty60 rfl rfl
     ((repeat refine WC.seq ?_); refine WC.run ?_)
     (try simp only [wk, wl, wx, reduceLT, reduceEqDiff, Nat.reduceBEq, reduceIte, t1, fa85_0, Nat.zero_add, l3])
     refine (fewI_ok ah.im r.rx).mono fun v h4 ⟨e4, f4⟩ => ?_
     subst e4
     have x4 := f4.next
     have b4 := bh.fix f4 (by omega)
     have a4 := ah.fix f4 fun _ h => h
     have l4 : loadP (E g) h4 83 (.ptr h.next 7) = some ls := b4.at ty83 rfl 7
     have l5 : loadP (E g) h4 30 (.ptr h.next 8) = some ns := b4.at ty30 rfl 8
     have F4 : Kept h h4 := ⟨by omega, fun b hb => by rw [f4.same b (by omega), ff.same b (by omega), f1.same b hb]⟩
     have hP : fewLd x L N = (fewI x && (decide ((L.length : Int) ≤ 52) && decide ((N.length : Int) ≤ 52))) := by rw [fewLd, hall, hno, Bool.true_and, Bool.true_and]
     cases hfx : fewI x with
     | false =>
      (try simp only [wk, wl, wx, reduceLT, reduceEqDiff, Nat.reduceBEq, reduceIte, t1, un])
      refine WC.ret ?_
      (try simp only [wk, wl, wx, reduceLT, reduceEqDiff, Nat.reduceBEq, reduceIte])
      exact ⟨by rw [hP, hfx]; rfl, F4⟩
     | true =>
      by_cases q1 : (L.length : Int) ≤ 52
      ·(try simp only [wk, wl, wx, reduceLT, reduceEqDiff, Nat.reduceBEq, reduceIte, t1, un, fa85_1, fa85_2, Nat.zero_add, l4, l5, Sl.lenB a4.ims.sl ty83 rfl, Sl.lenB a4.nms ty30 rfl, decide_eq_true q1])
       refine WC.ret ?_
       (try simp only [wk, wl, wx, reduceLT, reduceEqDiff, Nat.reduceBEq, reduceIte])
       exact ⟨by rw [hP, hfx, decide_eq_true q1]; rfl, F4⟩
      ·(try simp only [wk, wl, wx, reduceLT, reduceEqDiff, Nat.reduceBEq, reduceIte, t1, un, fa85_1, fa85_2, Nat.zero_add, l4, l5, Sl.lenB a4.ims.sl ty83 rfl, decide_eq_false q1])
       refine WC.ret ?_
       (try simp only [wk, wl, wx, reduceLT, reduceEqDiff, Nat.reduceBEq, reduceIte])
       exact ⟨by rw [hP, hfx, decide_eq_false q1]; rfl, F4⟩
   all_goals (try simp only [wk, wl, wx, reduceLT, reduceEqDiff, Nat.reduceBEq, reduceIte, t1])
   all_goals (first | done | rfl | trivial | simp)
 all_goals (try simp only [wk, wl, wx, reduceLT, reduceEqDiff, Nat.reduceBEq, reduceIte])
 all_goals (first | done | rfl | trivial | simp)
theorem flat_app1 {α : Type} {f : α → List V} {A : List α} {x : α} : (A ++ [x]).flatMap f = A.flatMap f ++ f x := by
 rw [List.flatMap_append]; simp
set_option maxRecDepth 100000 in
set_option maxHeartbeats 8000000 in
theorem load24_ok {K : Nat → Prop} {h : H} {c : Ic} {ls ns : V} {x : ImgD} {L : List (Ic × ImgD)} {N : List (List UInt8)} (hK : ∀ b, K b → b < h.next) (a : LdM g h K c ls ns x L N) (fx : FitsI x) (fL : ∀ p ∈ L, FitsI p.2) (lL : L.length ≤ 52) (lN : N.length ≤ 52) :
  WF (E g) 29 [.agg (ldC c x ls ns)] h fun v h' => Kept h h' ∧ ∃ p q, v = .tuple [p, q, .agg (faultV (ldP x (L.map (·.2)) N).2), .agg (faultV (ldP x (L.map (·.2)) N).2)] ∧ match (ldP x (L.map (·.2)) N).1 with
   | none => p = .nilp ∧ q = .nilp
   | some xs => ∃ pb sb sc tag cs pb' sb' sc' tag' cs' m, h.next ≤ m ∧ m ≤ h'.next ∧ p = .ptr pb 0 ∧ q = .ptr pb' 0 ∧ PM g h' h.next m pb sb sc tag cs xs ∧ PM g h' m h'.next pb' sb' sc' tag' cs' xs ∧ (∀ c ∈ cs, In (fun b => h.next ≤ b) c.exps ∧ In (fun b => h.next ≤ b) c.needs) ∧ ∀ c ∈ cs', In K c.exps ∧ In K c.needs := by
 refine WF.enter fn29 rfl ?_
 ((repeat refine WC.seq ?_); refine WC.run ?_)
 (try simp only [wk, wl, wx, reduceLT, reduceEqDiff, Nat.reduceBEq, reduceIte])
 refine wop_box (v := .agg (ldC c x ls ns)) (by (try simp only [wk, wl, wx, reduceLT, reduceEqDiff, Nat.reduceBEq, reduceIte])) ?_
 intro h1 b1 n1 f1
 have b1 : Has h1 h.next (ldC c x ls ns) := b1
 (try simp only [wk, wl, wx, reduceLT, reduceEqDiff, Nat.reduceBEq, reduceIte])
 refine wop_alloc ty35 ?_
 intro h2 b2 n2 f2
 (try simp only [wk, wl, wx, reduceLT, reduceEqDiff, Nat.reduceBEq, reduceIte])
 refine wop_alloc ty35 ?_
 intro h3 b3 n3 f3
 (try simp only [wk, wl, wx, reduceLT, reduceEqDiff, Nat.reduceBEq, reduceIte])
 have F3 : Kept h h3 := ⟨by omega, fun b hb => by rw [f3.same b (by omega), f2.same b (by omega), f1.same b hb]⟩
 have a3 := a.fix F3 hK
 have bx3 := (b1.fix f2 (by omega)).fix f3 (by omega)
 have b23 := b2.fix f3 (by omega)
 have hK3 : ∀ b, K b → b < h3.next := fun b hb => by have := hK b hb; omega
 have l1 : loadP (E g) h3 83 (.ptr h.next 7) = some ls := bx3.at ty83 rfl 7
 ((repeat refine WC.seq ?_); refine WC.run ?_)
 (try simp only [wk, wl, wx, reduceLT, reduceEqDiff, Nat.reduceBEq, reduceIte])
 ((repeat refine WC.seq ?_); refine WC.run ?_)
 (try simp only [wk, wl, wx, reduceLT, reduceEqDiff, Nat.reduceBEq, reduceIte, fa85_1, Nat.zero_add, l1, Sl.lenB a3.ims.sl ty83 rfl])
 (repeat refine WC.seq ?_)
 refine WC.block ?_
 refine WC.while (fun m fr hh => ∃ ts i s, ∃ A : List (Ic × ImgD), fr = ⟨ts, 52, [], 29, none⟩ ∧ Kept h3 hh ∧ m = L.length - i ∧ i ≤ L.length ∧ ts.get 1 = some (.ptr h.next 0) ∧ ts.get 4 = some (.ptr h1.next 0) ∧ ts.get 5 = some (.ptr h2.next 0) ∧ ts.get 6 = some s ∧ ts.get 14 = some ls ∧ ts.get 15 = some (.int .i64 L.length) ∧ ts.get 16 = some (.int .i64 i) ∧ A.map (·.2) = (L.take i).map (·.2) ∧ Buf (E g) hh 32 7 s i (A.flatMap fun p => p.1.cells p.2) ∧ In (fun b => h3.next ≤ b ∧ b < hh.next) s ∧ ∀ p ∈ A, Im g hh (fun b => h3.next ≤ b ∧ b < hh.next ∧ blkOf s ≠ some b) p.1 p.2) ?_ ⟨_, 0, .nils, [], rfl, Fix.refl _ _, rfl, by omega, ?_, ?_, ?_, ?_, ?_, ?_, ?_, rfl, Buf.nil, In.nils, fun p hp => by cases hp⟩
 ·rintro m fr hh ⟨ts, i, s, A, rfl, ff, rfl, hi, t1, t4, t5, t6, t14, t15, t16, hA, bf, sin, hims⟩
  have xh := ff.next
  have ah := a3.fix ff hK3
  have bh := bx3.fix ff (by omega)
  ((repeat refine WC.seq ?_); refine WC.run ?_)
  (try simp only [wk, wl, wx, reduceLT, reduceEqDiff, Nat.reduceBEq, reduceIte, t15, t16])
  (repeat refine WC.seq ?_)
  by_cases hlt : i < L.length
  ·refine WC.cond (b := true) (by (try simp only [wk, wl, wx, reduceLT, reduceEqDiff, Nat.reduceBEq, reduceIte]); (try simp); (try omega)) (WC.skip ?_)
   (try simp only [wk, wl, wx, reduceLT, reduceEqDiff, Nat.reduceBEq, reduceIte])
   obtain ⟨p, p1, p2⟩ := ah.ims.sl.at (fun _ => rfl) ty83 rfl ty60 rfl (by decide) rfl hlt
   have p2 := p2 hh fun _ _ _ _ _ => rfl
   have hmem := List.getElem_mem hlt
   have imi := (ah.ims.im _ hmem).up (K' := (· < hh.next)) fun b hb => by have := hK b hb; omega
   (repeat refine WC.seq ?_)
   refine WC.block ?_
   ((repeat refine WC.seq ?_); refine WC.run ?_)
   (try simp only [wk, wl, wx, reduceLT, reduceEqDiff, Nat.reduceBEq, reduceIte, t14, t16, p1, p2])
   refine wop_alloc ty60 ?_
   intro h4 b4 n4 f4
   (try simp only [wk, wl, wx, reduceLT, reduceEqDiff, Nat.reduceBEq, reduceIte])
   refine sat_store b4 ty60 rfl (Nat.le_refl 7) (Ic.one imi) ?_
   intro h5 b5 n5 f5
   have b5 : Has h5 hh.next (L[i].1.cells L[i].2) := b5
   have F5 : Kept hh h5 := ⟨by omega, fun b hb => by rw [f5.same b (by omega), f4.same b hb]⟩
   have l5 : loadP (E g) h5 60 (.ptr hh.next 0) = some (.agg (L[i].1.cells L[i].2)) := b5.agg ty60 rfl (Nat.le_refl 7)
   (try simp only [wk, wl, wx, reduceLT, reduceEqDiff, Nat.reduceBEq, reduceIte])
   ((repeat refine WC.seq ?_); refine WC.run ?_)
   (try simp only [wk, wl, wx, reduceLT, reduceEqDiff, Nat.reduceBEq, reduceIte, t6, l5])
   refine (image_ok ((imi.fix F5 fun _ h => h).up fun b hb => by omega) (fL _ hmem)).mono fun v h6 ⟨c6, e6, im6, f6⟩ => ?_
   subst e6
   have x6 := f6.next
   (try simp only [wk, wl, wx, reduceLT, reduceEqDiff, Nat.reduceBEq, reduceIte])
   refine sat_buildSlice (cs := c6.cells L[i].2) ty108 rfl ty32 rfl (by decide) (by decide) (fill7 rfl) rfl ?_
   intro h7 bl n7 f7
   (try simp only [wk, wl, wx, reduceLT, reduceEqDiff, Nat.reduceBEq, reduceIte])
   have F7 : Kept hh h7 := ⟨by omega, fun b hb => by rw [f7.same b (by omega), f6.same b (by omega), F5.same b hb]⟩
   have bf7 := bf.fix (K := (· < hh.next)) (sin.sub fun b hb => hb.2) F7
   refine sat_append (m := 1) (ws := c6.cells L[i].2) bf7 ty108 rfl ty108 (.inl ⟨_, rfl⟩) ty32 rfl (by decide) (by decide) (Sl.len bl.sl) (Sl.cells bl.sl) rfl (Ic.one im6) (show (i + 1) * 120 ≤ 140737488355328 by omega) (sin.sub fun b hb => by omega) ?_
   intro s' h8 bf8 i8 o8 f8
   have x8 := f8.next
   (try simp only [wk, wl, wx, reduceLT, reduceEqDiff, Nat.reduceBEq, reduceIte])
   ((repeat refine WC.seq ?_); refine WC.run ?_)
   (try simp only [wk, wl, wx, reduceLT, reduceEqDiff, Nat.reduceBEq, reduceIte, t16, bin_add])
   have F8 : Kept h3 h8 := ⟨by omega, fun b hb => by rw [f8.same b ⟨by omega, fun o k cc e => by have := sin _ _ _ _ e; omega⟩, F7.same b (by omega), ff.same b hb]⟩
   have hne : ∀ b, blkOf s' = some b → b = h7.next ∨ blkOf s = some b := fun b e => by
    cases s' <;> simp only [blkOf, Option.some.injEq, reduceCtorEq] at e
    subst e
    rcases o8 _ _ _ _ rfl with q | ⟨o, k, c, q⟩
    ·exact .inl q
    ·exact .inr (by rw [q]; rfl)
   refine ⟨_, ?_, _, i + 1, s', A ++ [(c6, L[i].2)], rfl, F8, rfl, by omega, ?_⟩
   ·omega
   (try simp only [wk, wl, wx, reduceLT, reduceEqDiff, Nat.reduceBEq, reduceIte, t1, t4, t5, t14, t15])
   refine ⟨trivial, trivial, trivial, trivial, trivial, trivial, ?_, ?_, ?_, ?_, ?_⟩
   ·rw [wrap64 (by omega) (by omega)]; rfl
   ·rw [List.map_append, hA, List.take_succ_eq_append_getElem hlt, List.map_append]; rfl
   ·rw [flat_app1]; exact bf8
   ·refine fun b o n c e => ⟨?_, i8 _ _ _ _ e⟩
    rcases hne b (by rw [e]; rfl) with q | q
    ·omega
    ·have := sin.blk q; omega
   ·intro p hp
    rcases List.mem_append.1 hp with q | q
    ·have := hims p q
     refine ((this.fix F7 fun b hb => hb.2.1).fix f8 fun b hb => ⟨by omega, fun o k cc e => hb.2.2 (by rw [e]; rfl)⟩).up fun b hb => ⟨hb.1, by omega, fun e => ?_⟩
     rcases hne b e with r | r
     ·omega
     ·exact hb.2.2 r
    ·rw [List.mem_singleton] at q
     subst q
     refine ((im6.fix f7 fun b hb => hb.2).fix f8 fun b hb => ⟨by omega, fun o k cc e => by have := sin _ _ _ _ e; omega⟩).up fun b hb => ⟨by omega, by omega, fun e => ?_⟩
     rcases hne b e with r | r
     ·omega
     ·have := sin.blk r; omega
  ·refine WC.cond (b := false) (by (try simp only [wk, wl, wx, reduceLT, reduceEqDiff, Nat.reduceBEq, reduceIte]); (try simp); (try omega)) (WC.exit ?_)
   have : i = L.length := by omega
   subst this
   rw [List.take_length] at hA
   (try simp only [wk, wl, wx, reduceLT, reduceEqDiff, Nat.reduceBEq, reduceIte])
   have hAl : A.length = L.length := by have := congrArg List.length hA; simpa using this
   have hsl : Rcs (E g) hh 7 (fun p : Ic × ImgD => p.1.cells p.2) s A := by
    show Sl (E g) hh 7 s A.length _
    rw [hAl]; exact bf.sl
   have ims : Ims g hh (· < hh.next) s A := ⟨hsl, sin.sub fun b hb => hb.2, fun p hp => (hims p hp).up fun b hb => hb.2.1⟩
   have wh : Whole s A.length := by rw [hAl]; exact bf.whole
   have hfitA : ∀ p ∈ A, FitsI p.2 := fun p hp => by
    have : p.2 ∈ L.map (·.2) := by rw [← hA]; exact List.mem_map_of_mem hp
    obtain ⟨y, hy, e⟩ := List.mem_map.1 this
    rw [← e]; exact fL y hy
   have ahx := ah.im.up (K' := (· < hh.next)) fun b hb => by have := hK b hb; omega
   have nin := a.nin.sub (k := fun b hb => (by have := hK b hb; omega : b < hh.next))
   have reads : ∀ hq, Fix (· < hh.next) hh hq → loadP (E g) hq 60 (.ptr h.next 0) = some (.agg (c.cells x)) ∧ loadP (E g) hq 30 (.ptr h.next 8) = some ns := fun hq f =>
    ⟨(ld_first (bh.fix f (by omega))).agg ty60 rfl rfl, (bh.fix f (by omega)).at ty30 rfl 8⟩
   have rd := reads hh (Fix.refl _ _)
   have bq2 := b23.fix ff (by omega)
   have bq3 := b3.fix ff (by omega)
   (repeat refine WC.seq ?_)
   refine WC.mono (Q := fun e fr hz => e = .normal ∧ ∃ ts p fb m, fr = ⟨ts, 52, [], 29, none⟩ ∧ Fix (· < hh.next) hh hz ∧ hh.next ≤ m ∧ m ≤ hz.next ∧ hh.next ≤ fb ∧ fb < hz.next ∧ Has hz fb (faultV (ldP x (A.map (·.2)) N).2) ∧ (match (ldP x (A.map (·.2)) N).1 with
     | none => p = .nilp
     | some xs => ∃ pb sb sc tag cs, p = .ptr pb 0 ∧ PM g hz hh.next m pb sb sc tag cs xs ∧ ∀ c ∈ cs, In (fun b => hh.next ≤ b) c.exps ∧ In (fun b => hh.next ≤ b) c.needs) ∧ ts.get 1 = some (.ptr h.next 0) ∧ ts.get 4 = some (.ptr h1.next 0) ∧ ts.get 5 = some (.ptr h2.next 0) ∧ ts.get 9 = some p ∧ ts.get 10 = some (.ptr fb 0)) (WC.draw (plans := pl29_7) (by kernel_rfl) ?_) ?_
   ·intro p hp
    simp only [pl29_7, List.mem_cons, List.not_mem_nil, or_false] at hp
    rcases hp with rfl | rfl | rfl | rfl | rfl | rfl | rfl | rfl | rfl | rfl
    ·have FH := Fix.refl (fun b => b < hh.next) hh
     (try simp (maxSteps := 2000000) only [wk, wl, wx, reduceLT, reduceEqDiff, Nat.reduceBEq, reduceIte, wd, Chk, and_true, true_and, t1, t6, fa85_0, fa85_2, Nat.zero_add, rd])
     refine (image_ok ((ahx.fix FH fun _ h => h).up fun b hb => by have := FH.next; omega) fx).mono fun v hc2 ⟨c2, e2, im2, f2'⟩ => ?_
     subst e2
     have xhc2 := f2'.next
     have FH : Fix (· < hh.next) hh hc2 := FH.trans (f2'.sub fun b hb => by have := FH.next; omega)
     have G2 := Fix.refl (fun b => b < hc2.next) hc2
     have lo2 : hh.next ≤ hh.next := by omega
     have rd := reads hc2 FH
     (try simp (maxSteps := 2000000) only [wk, wl, wx, reduceLT, reduceEqDiff, Nat.reduceBEq, reduceIte, wd, Chk, and_true, true_and, t1, t6, fa85_0, fa85_2, Nat.zero_add, rd])
     refine sat_literal ty30 rfl ty9 rfl (by decide) (by decide) rfl rfl ?_
     intro hl lb nl fl
     have xhl := fl.next
     have FH : Fix (· < hh.next) hh hl := FH.trans (fl.sub fun b hb => by have := FH.next; omega)
     have G2 : Fix (· < hc2.next) hc2 hl := G2.trans (fl.sub fun b hb => by have := G2.next; omega)
     have G4 := Fix.refl (fun b => b < hl.next) hl
     have rd := reads hl FH
     (try simp (maxSteps := 2000000) only [wk, wl, wx, reduceLT, reduceEqDiff, Nat.reduceBEq, reduceIte, wd, Chk, and_true, true_and, t1, t6, fa85_0, fa85_2, Nat.zero_add, rd])
     refine sat_app0 (m := N.length) (ws := N.map V.str) (by rw [G4.same _ (by omega)]; exact lb) (by omega) ty30 rfl ty30 (.inl ⟨_, rfl⟩) ty9 rfl (by decide) (by decide) (Sl.len (Sl.fix ah.nms nin FH)) (Sl.cells (Sl.fix ah.nms nin FH)) (by simp) one_str (by simp; omega) ?_
     intro sN hN gN oN elN fN nN
     have inN : In (· < hN.next) sN := fun b o n c e => (oN _ _ _ _ e).2
     have xhN := fN.next
     have FH : Fix (· < hh.next) hh hN := FH.trans (fN.sub fun b hb => by have := FH.next; omega)
     have G2 : Fix (· < hc2.next) hc2 hN := G2.trans (fN.sub fun b hb => by have := G2.next; omega)
     have G4 : Fix (· < hl.next) hl hN := G4.trans (fN.sub fun b hb => by have := G4.next; omega)
     have G7 := Fix.refl (fun b => b < hN.next) hN
     have rd := reads hN FH
     (try simp (maxSteps := 2000000) only [wk, wl, wx, reduceLT, reduceEqDiff, Nat.reduceBEq, reduceIte, wd, Chk, and_true, true_and, t1, t6, fa85_0, fa85_2, Nat.zero_add, rd])
     refine (load_ok ((im2.fix G2 fun b hb => hb.2).up fun b hb => by have := G2.next; omega) fx ((ims.fix FH fun _ h => h).up fun b hb => by have := FH.next; omega) wh hfitA (Sl.fix gN.sl inN G7) (inN.sub fun b hb => by have := G7.next; omega) (by omega) (by omega)).mono fun v h8 ⟨f8, p, ev, hq8⟩ => ?_
     subst ev
     have xh8 := f8.next
     have FH : Fix (· < hh.next) hh h8 := FH.trans (f8.sub fun b hb => by have := FH.next; omega)
     have G2 : Fix (· < hc2.next) hc2 h8 := G2.trans (f8.sub fun b hb => by have := G2.next; omega)
     have G4 : Fix (· < hl.next) hl h8 := G4.trans (f8.sub fun b hb => by have := G4.next; omega)
     have G7 : Fix (· < hN.next) hN h8 := G7.trans (f8.sub fun b hb => by have := G7.next; omega)
     have G8 := Fix.refl (fun b => b < h8.next) h8
     have rd := reads h8 FH
     (try simp (maxSteps := 2000000) only [wk, wl, wx, reduceLT, reduceEqDiff, Nat.reduceBEq, reduceIte, wd, Chk, and_true, true_and, t1, t6, fa85_0, fa85_2, Nat.zero_add, rd])
     refine wop_alloc ty35 ?_
     intro ha ba na fa
     have xha := fa.next
     have FH : Fix (· < hh.next) hh ha := FH.trans (fa.sub fun b hb => by have := FH.next; omega)
     have G2 : Fix (· < hc2.next) hc2 ha := G2.trans (fa.sub fun b hb => by have := G2.next; omega)
     have G4 : Fix (· < hl.next) hl ha := G4.trans (fa.sub fun b hb => by have := G4.next; omega)
     have G7 : Fix (· < hN.next) hN ha := G7.trans (fa.sub fun b hb => by have := G7.next; omega)
     have G8 : Fix (· < h8.next) h8 ha := G8.trans (fa.sub fun b hb => by have := G8.next; omega)
     have G12 := Fix.refl (fun b => b < ha.next) ha
     have rd := reads ha FH
     (try simp (maxSteps := 2000000) only [wk, wl, wx, reduceLT, reduceEqDiff, Nat.reduceBEq, reduceIte, wd, Chk, and_true, true_and, t1, t6, fa85_0, fa85_2, Nat.zero_add, rd])
     refine sat_store (ba.fix G12 (by omega)) ty35 rfl (Nat.le_refl 2) rfl ?_
     intro hz az nz fz
     have az : Has hz h8.next (faultV (ldP x (A.map (·.2)) N).2) := az
     (try simp (maxSteps := 2000000) only [wk, wl, wx, reduceLT, reduceEqDiff, Nat.reduceBEq, reduceIte, wd, Chk, and_true, true_and])
     refine ⟨_, p, h8.next, h8.next, rfl, ⟨by omega, fun b hb => by rw [fz.same b (by omega), FH.same b hb]⟩, by omega, by omega, by omega, by omega, az, ?_, ?_⟩
     ·generalize hld : (ldP x (A.map (·.2)) N).1 = lo at hq8
      cases lo with
      | none => exact hq8
      | some xs =>
       obtain ⟨pb, sb, sc, tag, cs, rfl, pm, hcs⟩ := hq8
       exact ⟨pb, sb, sc, tag, cs, rfl, ((pm.fix G8).fixX hcs (fz.sub fun b hb => by omega)).low (by omega), fun d hd => ⟨(hcs d hd).1.sub fun b hb => by omega, (hcs d hd).2.sub fun b hb => by omega⟩⟩
     ·(try simp only [wk, wl, wx, reduceLT, reduceEqDiff, Nat.reduceBEq, reduceIte, t1, t4, t5])
      simp
    ·have FH := Fix.refl (fun b => b < hh.next) hh
     (try simp (maxSteps := 2000000) only [wk, wl, wx, reduceLT, reduceEqDiff, Nat.reduceBEq, reduceIte, wd, Chk, and_true, true_and, t1, t6, fa85_0, fa85_2, Nat.zero_add, rd])
     refine (image_ok ((ahx.fix FH fun _ h => h).up fun b hb => by have := FH.next; omega) fx).mono fun v hc2 ⟨c2, e2, im2, f2'⟩ => ?_
     subst e2
     have xhc2 := f2'.next
     have FH : Fix (· < hh.next) hh hc2 := FH.trans (f2'.sub fun b hb => by have := FH.next; omega)
     have G2 := Fix.refl (fun b => b < hc2.next) hc2
     have lo2 : hh.next ≤ hh.next := by omega
     have rd := reads hc2 FH
     (try simp (maxSteps := 2000000) only [wk, wl, wx, reduceLT, reduceEqDiff, Nat.reduceBEq, reduceIte, wd, Chk, and_true, true_and, t1, t6, fa85_0, fa85_2, Nat.zero_add, rd])
     refine sat_literal ty30 rfl ty9 rfl (by decide) (by decide) rfl rfl ?_
     intro hl lb nl fl
     have xhl := fl.next
     have FH : Fix (· < hh.next) hh hl := FH.trans (fl.sub fun b hb => by have := FH.next; omega)
     have G2 : Fix (· < hc2.next) hc2 hl := G2.trans (fl.sub fun b hb => by have := G2.next; omega)
     have G4 := Fix.refl (fun b => b < hl.next) hl
     have rd := reads hl FH
     (try simp (maxSteps := 2000000) only [wk, wl, wx, reduceLT, reduceEqDiff, Nat.reduceBEq, reduceIte, wd, Chk, and_true, true_and, t1, t6, fa85_0, fa85_2, Nat.zero_add, rd])
     refine sat_app0 (m := N.length) (ws := N.map V.str) (by rw [G4.same _ (by omega)]; exact lb) (by omega) ty30 rfl ty30 (.inl ⟨_, rfl⟩) ty9 rfl (by decide) (by decide) (Sl.len (Sl.fix ah.nms nin FH)) (Sl.cells (Sl.fix ah.nms nin FH)) (by simp) one_str (by simp; omega) ?_
     intro sN hN gN oN elN fN nN
     have inN : In (· < hN.next) sN := fun b o n c e => (oN _ _ _ _ e).2
     have xhN := fN.next
     have FH : Fix (· < hh.next) hh hN := FH.trans (fN.sub fun b hb => by have := FH.next; omega)
     have G2 : Fix (· < hc2.next) hc2 hN := G2.trans (fN.sub fun b hb => by have := G2.next; omega)
     have G4 : Fix (· < hl.next) hl hN := G4.trans (fN.sub fun b hb => by have := G4.next; omega)
     have G7 := Fix.refl (fun b => b < hN.next) hN
     have rd := reads hN FH
     (try simp (maxSteps := 2000000) only [wk, wl, wx, reduceLT, reduceEqDiff, Nat.reduceBEq, reduceIte, wd, Chk, and_true, true_and, t1, t6, fa85_0, fa85_2, Nat.zero_add, rd])
     refine wop_alloc ty35 ?_
     intro ha ba na fa
     have xha := fa.next
     have FH : Fix (· < hh.next) hh ha := FH.trans (fa.sub fun b hb => by have := FH.next; omega)
     have G2 : Fix (· < hc2.next) hc2 ha := G2.trans (fa.sub fun b hb => by have := G2.next; omega)
     have G4 : Fix (· < hl.next) hl ha := G4.trans (fa.sub fun b hb => by have := G4.next; omega)
     have G7 : Fix (· < hN.next) hN ha := G7.trans (fa.sub fun b hb => by have := G7.next; omega)
     have G12 := Fix.refl (fun b => b < ha.next) ha
     have rd := reads ha FH
     (try simp (maxSteps := 2000000) only [wk, wl, wx, reduceLT, reduceEqDiff, Nat.reduceBEq, reduceIte, wd, Chk, and_true, true_and, t1, t6, fa85_0, fa85_2, Nat.zero_add, rd])
     refine (load_ok ((im2.fix G2 fun b hb => hb.2).up fun b hb => by have := G2.next; omega) fx ((ims.fix FH fun _ h => h).up fun b hb => by have := FH.next; omega) wh hfitA (Sl.fix gN.sl inN G7) (inN.sub fun b hb => by have := G7.next; omega) (by omega) (by omega)).mono fun v h8 ⟨f8, p, ev, hq8⟩ => ?_
     subst ev
     have xh8 := f8.next
     have FH : Fix (· < hh.next) hh h8 := FH.trans (f8.sub fun b hb => by have := FH.next; omega)
     have G2 : Fix (· < hc2.next) hc2 h8 := G2.trans (f8.sub fun b hb => by have := G2.next; omega)
     have G4 : Fix (· < hl.next) hl h8 := G4.trans (f8.sub fun b hb => by have := G4.next; omega)
     have G7 : Fix (· < hN.next) hN h8 := G7.trans (f8.sub fun b hb => by have := G7.next; omega)
     have G12 : Fix (· < ha.next) ha h8 := G12.trans (f8.sub fun b hb => by have := G12.next; omega)
     have G8 := Fix.refl (fun b => b < h8.next) h8
     have rd := reads h8 FH
     (try simp (maxSteps := 2000000) only [wk, wl, wx, reduceLT, reduceEqDiff, Nat.reduceBEq, reduceIte, wd, Chk, and_true, true_and, t1, t6, fa85_0, fa85_2, Nat.zero_add, rd])
     refine sat_store (ba.fix G12 (by omega)) ty35 rfl (Nat.le_refl 2) rfl ?_
     intro hz az nz fz
     have az : Has hz hN.next (faultV (ldP x (A.map (·.2)) N).2) := az
     (try simp (maxSteps := 2000000) only [wk, wl, wx, reduceLT, reduceEqDiff, Nat.reduceBEq, reduceIte, wd, Chk, and_true, true_and])
     refine ⟨_, p, hN.next, h8.next, rfl, ⟨by omega, fun b hb => by rw [fz.same b (by omega), FH.same b hb]⟩, by omega, by omega, by omega, by omega, az, ?_, ?_⟩
     ·generalize hld : (ldP x (A.map (·.2)) N).1 = lo at hq8
      cases lo with
      | none => exact hq8
      | some xs =>
       obtain ⟨pb, sb, sc, tag, cs, rfl, pm, hcs⟩ := hq8
       exact ⟨pb, sb, sc, tag, cs, rfl, ((pm.fix G8).fixX hcs (fz.sub fun b hb => by omega)).low (by omega), fun d hd => ⟨(hcs d hd).1.sub fun b hb => by omega, (hcs d hd).2.sub fun b hb => by omega⟩⟩
     ·(try simp only [wk, wl, wx, reduceLT, reduceEqDiff, Nat.reduceBEq, reduceIte, t1, t4, t5])
      simp
    ·have FH := Fix.refl (fun b => b < hh.next) hh
     (try simp (maxSteps := 2000000) only [wk, wl, wx, reduceLT, reduceEqDiff, Nat.reduceBEq, reduceIte, wd, Chk, and_true, true_and, t1, t6, fa85_0, fa85_2, Nat.zero_add, rd])
     refine (image_ok ((ahx.fix FH fun _ h => h).up fun b hb => by have := FH.next; omega) fx).mono fun v hc2 ⟨c2, e2, im2, f2'⟩ => ?_
     subst e2
     have xhc2 := f2'.next
     have FH : Fix (· < hh.next) hh hc2 := FH.trans (f2'.sub fun b hb => by have := FH.next; omega)
     have G2 := Fix.refl (fun b => b < hc2.next) hc2
     have lo2 : hh.next ≤ hh.next := by omega
     have rd := reads hc2 FH
     (try simp (maxSteps := 2000000) only [wk, wl, wx, reduceLT, reduceEqDiff, Nat.reduceBEq, reduceIte, wd, Chk, and_true, true_and, t1, t6, fa85_0, fa85_2, Nat.zero_add, rd])
     refine sat_literal ty30 rfl ty9 rfl (by decide) (by decide) rfl rfl ?_
     intro hl lb nl fl
     have xhl := fl.next
     have FH : Fix (· < hh.next) hh hl := FH.trans (fl.sub fun b hb => by have := FH.next; omega)
     have G2 : Fix (· < hc2.next) hc2 hl := G2.trans (fl.sub fun b hb => by have := G2.next; omega)
     have G4 := Fix.refl (fun b => b < hl.next) hl
     have rd := reads hl FH
     (try simp (maxSteps := 2000000) only [wk, wl, wx, reduceLT, reduceEqDiff, Nat.reduceBEq, reduceIte, wd, Chk, and_true, true_and, t1, t6, fa85_0, fa85_2, Nat.zero_add, rd])
     refine wop_alloc ty35 ?_
     intro ha ba na fa
     have xha := fa.next
     have FH : Fix (· < hh.next) hh ha := FH.trans (fa.sub fun b hb => by have := FH.next; omega)
     have G2 : Fix (· < hc2.next) hc2 ha := G2.trans (fa.sub fun b hb => by have := G2.next; omega)
     have G4 : Fix (· < hl.next) hl ha := G4.trans (fa.sub fun b hb => by have := G4.next; omega)
     have G12 := Fix.refl (fun b => b < ha.next) ha
     have rd := reads ha FH
     (try simp (maxSteps := 2000000) only [wk, wl, wx, reduceLT, reduceEqDiff, Nat.reduceBEq, reduceIte, wd, Chk, and_true, true_and, t1, t6, fa85_0, fa85_2, Nat.zero_add, rd])
     refine sat_app0 (m := N.length) (ws := N.map V.str) (by rw [G4.same _ (by omega)]; exact lb) (by omega) ty30 rfl ty30 (.inl ⟨_, rfl⟩) ty9 rfl (by decide) (by decide) (Sl.len (Sl.fix ah.nms nin FH)) (Sl.cells (Sl.fix ah.nms nin FH)) (by simp) one_str (by simp; omega) ?_
     intro sN hN gN oN elN fN nN
     have inN : In (· < hN.next) sN := fun b o n c e => (oN _ _ _ _ e).2
     have xhN := fN.next
     have FH : Fix (· < hh.next) hh hN := FH.trans (fN.sub fun b hb => by have := FH.next; omega)
     have G2 : Fix (· < hc2.next) hc2 hN := G2.trans (fN.sub fun b hb => by have := G2.next; omega)
     have G4 : Fix (· < hl.next) hl hN := G4.trans (fN.sub fun b hb => by have := G4.next; omega)
     have G12 : Fix (· < ha.next) ha hN := G12.trans (fN.sub fun b hb => by have := G12.next; omega)
     have G7 := Fix.refl (fun b => b < hN.next) hN
     have rd := reads hN FH
     (try simp (maxSteps := 2000000) only [wk, wl, wx, reduceLT, reduceEqDiff, Nat.reduceBEq, reduceIte, wd, Chk, and_true, true_and, t1, t6, fa85_0, fa85_2, Nat.zero_add, rd])
     refine (load_ok ((im2.fix G2 fun b hb => hb.2).up fun b hb => by have := G2.next; omega) fx ((ims.fix FH fun _ h => h).up fun b hb => by have := FH.next; omega) wh hfitA (Sl.fix gN.sl inN G7) (inN.sub fun b hb => by have := G7.next; omega) (by omega) (by omega)).mono fun v h8 ⟨f8, p, ev, hq8⟩ => ?_
     subst ev
     have xh8 := f8.next
     have FH : Fix (· < hh.next) hh h8 := FH.trans (f8.sub fun b hb => by have := FH.next; omega)
     have G2 : Fix (· < hc2.next) hc2 h8 := G2.trans (f8.sub fun b hb => by have := G2.next; omega)
     have G4 : Fix (· < hl.next) hl h8 := G4.trans (f8.sub fun b hb => by have := G4.next; omega)
     have G12 : Fix (· < ha.next) ha h8 := G12.trans (f8.sub fun b hb => by have := G12.next; omega)
     have G7 : Fix (· < hN.next) hN h8 := G7.trans (f8.sub fun b hb => by have := G7.next; omega)
     have G8 := Fix.refl (fun b => b < h8.next) h8
     have rd := reads h8 FH
     (try simp (maxSteps := 2000000) only [wk, wl, wx, reduceLT, reduceEqDiff, Nat.reduceBEq, reduceIte, wd, Chk, and_true, true_and, t1, t6, fa85_0, fa85_2, Nat.zero_add, rd])
     refine sat_store (ba.fix G12 (by omega)) ty35 rfl (Nat.le_refl 2) rfl ?_
     intro hz az nz fz
     have az : Has hz hl.next (faultV (ldP x (A.map (·.2)) N).2) := az
     (try simp (maxSteps := 2000000) only [wk, wl, wx, reduceLT, reduceEqDiff, Nat.reduceBEq, reduceIte, wd, Chk, and_true, true_and])
     refine ⟨_, p, hl.next, h8.next, rfl, ⟨by omega, fun b hb => by rw [fz.same b (by omega), FH.same b hb]⟩, by omega, by omega, by omega, by omega, az, ?_, ?_⟩
     ·generalize hld : (ldP x (A.map (·.2)) N).1 = lo at hq8
      cases lo with
      | none => exact hq8
      | some xs =>
       obtain ⟨pb, sb, sc, tag, cs, rfl, pm, hcs⟩ := hq8
       exact ⟨pb, sb, sc, tag, cs, rfl, ((pm.fix G8).fixX hcs (fz.sub fun b hb => by omega)).low (by omega), fun d hd => ⟨(hcs d hd).1.sub fun b hb => by omega, (hcs d hd).2.sub fun b hb => by omega⟩⟩
     ·(try simp only [wk, wl, wx, reduceLT, reduceEqDiff, Nat.reduceBEq, reduceIte, t1, t4, t5])
      simp
    ·have FH := Fix.refl (fun b => b < hh.next) hh
     (try simp (maxSteps := 2000000) only [wk, wl, wx, reduceLT, reduceEqDiff, Nat.reduceBEq, reduceIte, wd, Chk, and_true, true_and, t1, t6, fa85_0, fa85_2, Nat.zero_add, rd])
     refine (image_ok ((ahx.fix FH fun _ h => h).up fun b hb => by have := FH.next; omega) fx).mono fun v hc2 ⟨c2, e2, im2, f2'⟩ => ?_
     subst e2
     have xhc2 := f2'.next
     have FH : Fix (· < hh.next) hh hc2 := FH.trans (f2'.sub fun b hb => by have := FH.next; omega)
     have G2 := Fix.refl (fun b => b < hc2.next) hc2
     have lo2 : hh.next ≤ hh.next := by omega
     have rd := reads hc2 FH
     (try simp (maxSteps := 2000000) only [wk, wl, wx, reduceLT, reduceEqDiff, Nat.reduceBEq, reduceIte, wd, Chk, and_true, true_and, t1, t6, fa85_0, fa85_2, Nat.zero_add, rd])
     refine wop_alloc ty35 ?_
     intro ha ba na fa
     have xha := fa.next
     have FH : Fix (· < hh.next) hh ha := FH.trans (fa.sub fun b hb => by have := FH.next; omega)
     have G2 : Fix (· < hc2.next) hc2 ha := G2.trans (fa.sub fun b hb => by have := G2.next; omega)
     have G12 := Fix.refl (fun b => b < ha.next) ha
     have rd := reads ha FH
     (try simp (maxSteps := 2000000) only [wk, wl, wx, reduceLT, reduceEqDiff, Nat.reduceBEq, reduceIte, wd, Chk, and_true, true_and, t1, t6, fa85_0, fa85_2, Nat.zero_add, rd])
     refine sat_literal ty30 rfl ty9 rfl (by decide) (by decide) rfl rfl ?_
     intro hl lb nl fl
     have xhl := fl.next
     have FH : Fix (· < hh.next) hh hl := FH.trans (fl.sub fun b hb => by have := FH.next; omega)
     have G2 : Fix (· < hc2.next) hc2 hl := G2.trans (fl.sub fun b hb => by have := G2.next; omega)
     have G12 : Fix (· < ha.next) ha hl := G12.trans (fl.sub fun b hb => by have := G12.next; omega)
     have G4 := Fix.refl (fun b => b < hl.next) hl
     have rd := reads hl FH
     (try simp (maxSteps := 2000000) only [wk, wl, wx, reduceLT, reduceEqDiff, Nat.reduceBEq, reduceIte, wd, Chk, and_true, true_and, t1, t6, fa85_0, fa85_2, Nat.zero_add, rd])
     refine sat_app0 (m := N.length) (ws := N.map V.str) (by rw [G4.same _ (by omega)]; exact lb) (by omega) ty30 rfl ty30 (.inl ⟨_, rfl⟩) ty9 rfl (by decide) (by decide) (Sl.len (Sl.fix ah.nms nin FH)) (Sl.cells (Sl.fix ah.nms nin FH)) (by simp) one_str (by simp; omega) ?_
     intro sN hN gN oN elN fN nN
     have inN : In (· < hN.next) sN := fun b o n c e => (oN _ _ _ _ e).2
     have xhN := fN.next
     have FH : Fix (· < hh.next) hh hN := FH.trans (fN.sub fun b hb => by have := FH.next; omega)
     have G2 : Fix (· < hc2.next) hc2 hN := G2.trans (fN.sub fun b hb => by have := G2.next; omega)
     have G12 : Fix (· < ha.next) ha hN := G12.trans (fN.sub fun b hb => by have := G12.next; omega)
     have G4 : Fix (· < hl.next) hl hN := G4.trans (fN.sub fun b hb => by have := G4.next; omega)
     have G7 := Fix.refl (fun b => b < hN.next) hN
     have rd := reads hN FH
     (try simp (maxSteps := 2000000) only [wk, wl, wx, reduceLT, reduceEqDiff, Nat.reduceBEq, reduceIte, wd, Chk, and_true, true_and, t1, t6, fa85_0, fa85_2, Nat.zero_add, rd])
     refine (load_ok ((im2.fix G2 fun b hb => hb.2).up fun b hb => by have := G2.next; omega) fx ((ims.fix FH fun _ h => h).up fun b hb => by have := FH.next; omega) wh hfitA (Sl.fix gN.sl inN G7) (inN.sub fun b hb => by have := G7.next; omega) (by omega) (by omega)).mono fun v h8 ⟨f8, p, ev, hq8⟩ => ?_
     subst ev
     have xh8 := f8.next
     have FH : Fix (· < hh.next) hh h8 := FH.trans (f8.sub fun b hb => by have := FH.next; omega)
     have G2 : Fix (· < hc2.next) hc2 h8 := G2.trans (f8.sub fun b hb => by have := G2.next; omega)
     have G12 : Fix (· < ha.next) ha h8 := G12.trans (f8.sub fun b hb => by have := G12.next; omega)
     have G4 : Fix (· < hl.next) hl h8 := G4.trans (f8.sub fun b hb => by have := G4.next; omega)
     have G7 : Fix (· < hN.next) hN h8 := G7.trans (f8.sub fun b hb => by have := G7.next; omega)
     have G8 := Fix.refl (fun b => b < h8.next) h8
     have rd := reads h8 FH
     (try simp (maxSteps := 2000000) only [wk, wl, wx, reduceLT, reduceEqDiff, Nat.reduceBEq, reduceIte, wd, Chk, and_true, true_and, t1, t6, fa85_0, fa85_2, Nat.zero_add, rd])
     refine sat_store (ba.fix G12 (by omega)) ty35 rfl (Nat.le_refl 2) rfl ?_
     intro hz az nz fz
     have az : Has hz hc2.next (faultV (ldP x (A.map (·.2)) N).2) := az
     (try simp (maxSteps := 2000000) only [wk, wl, wx, reduceLT, reduceEqDiff, Nat.reduceBEq, reduceIte, wd, Chk, and_true, true_and])
     refine ⟨_, p, hc2.next, h8.next, rfl, ⟨by omega, fun b hb => by rw [fz.same b (by omega), FH.same b hb]⟩, by omega, by omega, by omega, by omega, az, ?_, ?_⟩
     ·generalize hld : (ldP x (A.map (·.2)) N).1 = lo at hq8
      cases lo with
      | none => exact hq8
      | some xs =>
       obtain ⟨pb, sb, sc, tag, cs, rfl, pm, hcs⟩ := hq8
       exact ⟨pb, sb, sc, tag, cs, rfl, ((pm.fix G8).fixX hcs (fz.sub fun b hb => by omega)).low (by omega), fun d hd => ⟨(hcs d hd).1.sub fun b hb => by omega, (hcs d hd).2.sub fun b hb => by omega⟩⟩
     ·(try simp only [wk, wl, wx, reduceLT, reduceEqDiff, Nat.reduceBEq, reduceIte, t1, t4, t5])
      simp
    ·have FH := Fix.refl (fun b => b < hh.next) hh
     (try simp (maxSteps := 2000000) only [wk, wl, wx, reduceLT, reduceEqDiff, Nat.reduceBEq, reduceIte, wd, Chk, and_true, true_and, t1, t6, fa85_0, fa85_2, Nat.zero_add, rd])
     refine sat_literal ty30 rfl ty9 rfl (by decide) (by decide) rfl rfl ?_
     intro hl lb nl fl
     have xhl := fl.next
     have FH : Fix (· < hh.next) hh hl := FH.trans (fl.sub fun b hb => by have := FH.next; omega)
     have G4 := Fix.refl (fun b => b < hl.next) hl
     have rd := reads hl FH
     (try simp (maxSteps := 2000000) only [wk, wl, wx, reduceLT, reduceEqDiff, Nat.reduceBEq, reduceIte, wd, Chk, and_true, true_and, t1, t6, fa85_0, fa85_2, Nat.zero_add, rd])
     refine (image_ok ((ahx.fix FH fun _ h => h).up fun b hb => by have := FH.next; omega) fx).mono fun v hc2 ⟨c2, e2, im2, f2'⟩ => ?_
     subst e2
     have xhc2 := f2'.next
     have FH : Fix (· < hh.next) hh hc2 := FH.trans (f2'.sub fun b hb => by have := FH.next; omega)
     have G4 : Fix (· < hl.next) hl hc2 := G4.trans (f2'.sub fun b hb => by have := G4.next; omega)
     have G2 := Fix.refl (fun b => b < hc2.next) hc2
     have lo2 : hh.next ≤ hl.next := by omega
     have rd := reads hc2 FH
     (try simp (maxSteps := 2000000) only [wk, wl, wx, reduceLT, reduceEqDiff, Nat.reduceBEq, reduceIte, wd, Chk, and_true, true_and, t1, t6, fa85_0, fa85_2, Nat.zero_add, rd])
     refine sat_app0 (m := N.length) (ws := N.map V.str) (by rw [G4.same _ (by omega)]; exact lb) (by omega) ty30 rfl ty30 (.inl ⟨_, rfl⟩) ty9 rfl (by decide) (by decide) (Sl.len (Sl.fix ah.nms nin FH)) (Sl.cells (Sl.fix ah.nms nin FH)) (by simp) one_str (by simp; omega) ?_
     intro sN hN gN oN elN fN nN
     have inN : In (· < hN.next) sN := fun b o n c e => (oN _ _ _ _ e).2
     have xhN := fN.next
     have FH : Fix (· < hh.next) hh hN := FH.trans (fN.sub fun b hb => by have := FH.next; omega)
     have G4 : Fix (· < hl.next) hl hN := G4.trans (fN.sub fun b hb => by have := G4.next; omega)
     have G2 : Fix (· < hc2.next) hc2 hN := G2.trans (fN.sub fun b hb => by have := G2.next; omega)
     have G7 := Fix.refl (fun b => b < hN.next) hN
     have rd := reads hN FH
     (try simp (maxSteps := 2000000) only [wk, wl, wx, reduceLT, reduceEqDiff, Nat.reduceBEq, reduceIte, wd, Chk, and_true, true_and, t1, t6, fa85_0, fa85_2, Nat.zero_add, rd])
     refine (load_ok ((im2.fix G2 fun b hb => hb.2).up fun b hb => by have := G2.next; omega) fx ((ims.fix FH fun _ h => h).up fun b hb => by have := FH.next; omega) wh hfitA (Sl.fix gN.sl inN G7) (inN.sub fun b hb => by have := G7.next; omega) (by omega) (by omega)).mono fun v h8 ⟨f8, p, ev, hq8⟩ => ?_
     subst ev
     have xh8 := f8.next
     have FH : Fix (· < hh.next) hh h8 := FH.trans (f8.sub fun b hb => by have := FH.next; omega)
     have G4 : Fix (· < hl.next) hl h8 := G4.trans (f8.sub fun b hb => by have := G4.next; omega)
     have G2 : Fix (· < hc2.next) hc2 h8 := G2.trans (f8.sub fun b hb => by have := G2.next; omega)
     have G7 : Fix (· < hN.next) hN h8 := G7.trans (f8.sub fun b hb => by have := G7.next; omega)
     have G8 := Fix.refl (fun b => b < h8.next) h8
     have rd := reads h8 FH
     (try simp (maxSteps := 2000000) only [wk, wl, wx, reduceLT, reduceEqDiff, Nat.reduceBEq, reduceIte, wd, Chk, and_true, true_and, t1, t6, fa85_0, fa85_2, Nat.zero_add, rd])
     refine wop_alloc ty35 ?_
     intro ha ba na fa
     have xha := fa.next
     have FH : Fix (· < hh.next) hh ha := FH.trans (fa.sub fun b hb => by have := FH.next; omega)
     have G4 : Fix (· < hl.next) hl ha := G4.trans (fa.sub fun b hb => by have := G4.next; omega)
     have G2 : Fix (· < hc2.next) hc2 ha := G2.trans (fa.sub fun b hb => by have := G2.next; omega)
     have G7 : Fix (· < hN.next) hN ha := G7.trans (fa.sub fun b hb => by have := G7.next; omega)
     have G8 : Fix (· < h8.next) h8 ha := G8.trans (fa.sub fun b hb => by have := G8.next; omega)
     have G12 := Fix.refl (fun b => b < ha.next) ha
     have rd := reads ha FH
     (try simp (maxSteps := 2000000) only [wk, wl, wx, reduceLT, reduceEqDiff, Nat.reduceBEq, reduceIte, wd, Chk, and_true, true_and, t1, t6, fa85_0, fa85_2, Nat.zero_add, rd])
     refine sat_store (ba.fix G12 (by omega)) ty35 rfl (Nat.le_refl 2) rfl ?_
     intro hz az nz fz
     have az : Has hz h8.next (faultV (ldP x (A.map (·.2)) N).2) := az
     (try simp (maxSteps := 2000000) only [wk, wl, wx, reduceLT, reduceEqDiff, Nat.reduceBEq, reduceIte, wd, Chk, and_true, true_and])
     refine ⟨_, p, h8.next, h8.next, rfl, ⟨by omega, fun b hb => by rw [fz.same b (by omega), FH.same b hb]⟩, by omega, by omega, by omega, by omega, az, ?_, ?_⟩
     ·generalize hld : (ldP x (A.map (·.2)) N).1 = lo at hq8
      cases lo with
      | none => exact hq8
      | some xs =>
       obtain ⟨pb, sb, sc, tag, cs, rfl, pm, hcs⟩ := hq8
       exact ⟨pb, sb, sc, tag, cs, rfl, ((pm.fix G8).fixX hcs (fz.sub fun b hb => by omega)).low (by omega), fun d hd => ⟨(hcs d hd).1.sub fun b hb => by omega, (hcs d hd).2.sub fun b hb => by omega⟩⟩
     ·(try simp only [wk, wl, wx, reduceLT, reduceEqDiff, Nat.reduceBEq, reduceIte, t1, t4, t5])
      simp
    ·have FH := Fix.refl (fun b => b < hh.next) hh
     (try simp (maxSteps := 2000000) only [wk, wl, wx, reduceLT, reduceEqDiff, Nat.reduceBEq, reduceIte, wd, Chk, and_true, true_and, t1, t6, fa85_0, fa85_2, Nat.zero_add, rd])
     refine sat_literal ty30 rfl ty9 rfl (by decide) (by decide) rfl rfl ?_
     intro hl lb nl fl
     have xhl := fl.next
     have FH : Fix (· < hh.next) hh hl := FH.trans (fl.sub fun b hb => by have := FH.next; omega)
     have G4 := Fix.refl (fun b => b < hl.next) hl
     have rd := reads hl FH
     (try simp (maxSteps := 2000000) only [wk, wl, wx, reduceLT, reduceEqDiff, Nat.reduceBEq, reduceIte, wd, Chk, and_true, true_and, t1, t6, fa85_0, fa85_2, Nat.zero_add, rd])
     refine (image_ok ((ahx.fix FH fun _ h => h).up fun b hb => by have := FH.next; omega) fx).mono fun v hc2 ⟨c2, e2, im2, f2'⟩ => ?_
     subst e2
     have xhc2 := f2'.next
     have FH : Fix (· < hh.next) hh hc2 := FH.trans (f2'.sub fun b hb => by have := FH.next; omega)
     have G4 : Fix (· < hl.next) hl hc2 := G4.trans (f2'.sub fun b hb => by have := G4.next; omega)
     have G2 := Fix.refl (fun b => b < hc2.next) hc2
     have lo2 : hh.next ≤ hl.next := by omega
     have rd := reads hc2 FH
     (try simp (maxSteps := 2000000) only [wk, wl, wx, reduceLT, reduceEqDiff, Nat.reduceBEq, reduceIte, wd, Chk, and_true, true_and, t1, t6, fa85_0, fa85_2, Nat.zero_add, rd])
     refine sat_app0 (m := N.length) (ws := N.map V.str) (by rw [G4.same _ (by omega)]; exact lb) (by omega) ty30 rfl ty30 (.inl ⟨_, rfl⟩) ty9 rfl (by decide) (by decide) (Sl.len (Sl.fix ah.nms nin FH)) (Sl.cells (Sl.fix ah.nms nin FH)) (by simp) one_str (by simp; omega) ?_
     intro sN hN gN oN elN fN nN
     have inN : In (· < hN.next) sN := fun b o n c e => (oN _ _ _ _ e).2
     have xhN := fN.next
     have FH : Fix (· < hh.next) hh hN := FH.trans (fN.sub fun b hb => by have := FH.next; omega)
     have G4 : Fix (· < hl.next) hl hN := G4.trans (fN.sub fun b hb => by have := G4.next; omega)
     have G2 : Fix (· < hc2.next) hc2 hN := G2.trans (fN.sub fun b hb => by have := G2.next; omega)
     have G7 := Fix.refl (fun b => b < hN.next) hN
     have rd := reads hN FH
     (try simp (maxSteps := 2000000) only [wk, wl, wx, reduceLT, reduceEqDiff, Nat.reduceBEq, reduceIte, wd, Chk, and_true, true_and, t1, t6, fa85_0, fa85_2, Nat.zero_add, rd])
     refine wop_alloc ty35 ?_
     intro ha ba na fa
     have xha := fa.next
     have FH : Fix (· < hh.next) hh ha := FH.trans (fa.sub fun b hb => by have := FH.next; omega)
     have G4 : Fix (· < hl.next) hl ha := G4.trans (fa.sub fun b hb => by have := G4.next; omega)
     have G2 : Fix (· < hc2.next) hc2 ha := G2.trans (fa.sub fun b hb => by have := G2.next; omega)
     have G7 : Fix (· < hN.next) hN ha := G7.trans (fa.sub fun b hb => by have := G7.next; omega)
     have G12 := Fix.refl (fun b => b < ha.next) ha
     have rd := reads ha FH
     (try simp (maxSteps := 2000000) only [wk, wl, wx, reduceLT, reduceEqDiff, Nat.reduceBEq, reduceIte, wd, Chk, and_true, true_and, t1, t6, fa85_0, fa85_2, Nat.zero_add, rd])
     refine (load_ok ((im2.fix G2 fun b hb => hb.2).up fun b hb => by have := G2.next; omega) fx ((ims.fix FH fun _ h => h).up fun b hb => by have := FH.next; omega) wh hfitA (Sl.fix gN.sl inN G7) (inN.sub fun b hb => by have := G7.next; omega) (by omega) (by omega)).mono fun v h8 ⟨f8, p, ev, hq8⟩ => ?_
     subst ev
     have xh8 := f8.next
     have FH : Fix (· < hh.next) hh h8 := FH.trans (f8.sub fun b hb => by have := FH.next; omega)
     have G4 : Fix (· < hl.next) hl h8 := G4.trans (f8.sub fun b hb => by have := G4.next; omega)
     have G2 : Fix (· < hc2.next) hc2 h8 := G2.trans (f8.sub fun b hb => by have := G2.next; omega)
     have G7 : Fix (· < hN.next) hN h8 := G7.trans (f8.sub fun b hb => by have := G7.next; omega)
     have G12 : Fix (· < ha.next) ha h8 := G12.trans (f8.sub fun b hb => by have := G12.next; omega)
     have G8 := Fix.refl (fun b => b < h8.next) h8
     have rd := reads h8 FH
     (try simp (maxSteps := 2000000) only [wk, wl, wx, reduceLT, reduceEqDiff, Nat.reduceBEq, reduceIte, wd, Chk, and_true, true_and, t1, t6, fa85_0, fa85_2, Nat.zero_add, rd])
     refine sat_store (ba.fix G12 (by omega)) ty35 rfl (Nat.le_refl 2) rfl ?_
     intro hz az nz fz
     have az : Has hz hN.next (faultV (ldP x (A.map (·.2)) N).2) := az
     (try simp (maxSteps := 2000000) only [wk, wl, wx, reduceLT, reduceEqDiff, Nat.reduceBEq, reduceIte, wd, Chk, and_true, true_and])
     refine ⟨_, p, hN.next, h8.next, rfl, ⟨by omega, fun b hb => by rw [fz.same b (by omega), FH.same b hb]⟩, by omega, by omega, by omega, by omega, az, ?_, ?_⟩
     ·generalize hld : (ldP x (A.map (·.2)) N).1 = lo at hq8
      cases lo with
      | none => exact hq8
      | some xs =>
       obtain ⟨pb, sb, sc, tag, cs, rfl, pm, hcs⟩ := hq8
       exact ⟨pb, sb, sc, tag, cs, rfl, ((pm.fix G8).fixX hcs (fz.sub fun b hb => by omega)).low (by omega), fun d hd => ⟨(hcs d hd).1.sub fun b hb => by omega, (hcs d hd).2.sub fun b hb => by omega⟩⟩
     ·(try simp only [wk, wl, wx, reduceLT, reduceEqDiff, Nat.reduceBEq, reduceIte, t1, t4, t5])
      simp
    ·have FH := Fix.refl (fun b => b < hh.next) hh
     (try simp (maxSteps := 2000000) only [wk, wl, wx, reduceLT, reduceEqDiff, Nat.reduceBEq, reduceIte, wd, Chk, and_true, true_and, t1, t6, fa85_0, fa85_2, Nat.zero_add, rd])
     refine sat_literal ty30 rfl ty9 rfl (by decide) (by decide) rfl rfl ?_
     intro hl lb nl fl
     have xhl := fl.next
     have FH : Fix (· < hh.next) hh hl := FH.trans (fl.sub fun b hb => by have := FH.next; omega)
     have G4 := Fix.refl (fun b => b < hl.next) hl
     have rd := reads hl FH
     (try simp (maxSteps := 2000000) only [wk, wl, wx, reduceLT, reduceEqDiff, Nat.reduceBEq, reduceIte, wd, Chk, and_true, true_and, t1, t6, fa85_0, fa85_2, Nat.zero_add, rd])
     refine (image_ok ((ahx.fix FH fun _ h => h).up fun b hb => by have := FH.next; omega) fx).mono fun v hc2 ⟨c2, e2, im2, f2'⟩ => ?_
     subst e2
     have xhc2 := f2'.next
     have FH : Fix (· < hh.next) hh hc2 := FH.trans (f2'.sub fun b hb => by have := FH.next; omega)
     have G4 : Fix (· < hl.next) hl hc2 := G4.trans (f2'.sub fun b hb => by have := G4.next; omega)
     have G2 := Fix.refl (fun b => b < hc2.next) hc2
     have lo2 : hh.next ≤ hl.next := by omega
     have rd := reads hc2 FH
     (try simp (maxSteps := 2000000) only [wk, wl, wx, reduceLT, reduceEqDiff, Nat.reduceBEq, reduceIte, wd, Chk, and_true, true_and, t1, t6, fa85_0, fa85_2, Nat.zero_add, rd])
     refine wop_alloc ty35 ?_
     intro ha ba na fa
     have xha := fa.next
     have FH : Fix (· < hh.next) hh ha := FH.trans (fa.sub fun b hb => by have := FH.next; omega)
     have G4 : Fix (· < hl.next) hl ha := G4.trans (fa.sub fun b hb => by have := G4.next; omega)
     have G2 : Fix (· < hc2.next) hc2 ha := G2.trans (fa.sub fun b hb => by have := G2.next; omega)
     have G12 := Fix.refl (fun b => b < ha.next) ha
     have rd := reads ha FH
     (try simp (maxSteps := 2000000) only [wk, wl, wx, reduceLT, reduceEqDiff, Nat.reduceBEq, reduceIte, wd, Chk, and_true, true_and, t1, t6, fa85_0, fa85_2, Nat.zero_add, rd])
     refine sat_app0 (m := N.length) (ws := N.map V.str) (by rw [G4.same _ (by omega)]; exact lb) (by omega) ty30 rfl ty30 (.inl ⟨_, rfl⟩) ty9 rfl (by decide) (by decide) (Sl.len (Sl.fix ah.nms nin FH)) (Sl.cells (Sl.fix ah.nms nin FH)) (by simp) one_str (by simp; omega) ?_
     intro sN hN gN oN elN fN nN
     have inN : In (· < hN.next) sN := fun b o n c e => (oN _ _ _ _ e).2
     have xhN := fN.next
     have FH : Fix (· < hh.next) hh hN := FH.trans (fN.sub fun b hb => by have := FH.next; omega)
     have G4 : Fix (· < hl.next) hl hN := G4.trans (fN.sub fun b hb => by have := G4.next; omega)
     have G2 : Fix (· < hc2.next) hc2 hN := G2.trans (fN.sub fun b hb => by have := G2.next; omega)
     have G12 : Fix (· < ha.next) ha hN := G12.trans (fN.sub fun b hb => by have := G12.next; omega)
     have G7 := Fix.refl (fun b => b < hN.next) hN
     have rd := reads hN FH
     (try simp (maxSteps := 2000000) only [wk, wl, wx, reduceLT, reduceEqDiff, Nat.reduceBEq, reduceIte, wd, Chk, and_true, true_and, t1, t6, fa85_0, fa85_2, Nat.zero_add, rd])
     refine (load_ok ((im2.fix G2 fun b hb => hb.2).up fun b hb => by have := G2.next; omega) fx ((ims.fix FH fun _ h => h).up fun b hb => by have := FH.next; omega) wh hfitA (Sl.fix gN.sl inN G7) (inN.sub fun b hb => by have := G7.next; omega) (by omega) (by omega)).mono fun v h8 ⟨f8, p, ev, hq8⟩ => ?_
     subst ev
     have xh8 := f8.next
     have FH : Fix (· < hh.next) hh h8 := FH.trans (f8.sub fun b hb => by have := FH.next; omega)
     have G4 : Fix (· < hl.next) hl h8 := G4.trans (f8.sub fun b hb => by have := G4.next; omega)
     have G2 : Fix (· < hc2.next) hc2 h8 := G2.trans (f8.sub fun b hb => by have := G2.next; omega)
     have G12 : Fix (· < ha.next) ha h8 := G12.trans (f8.sub fun b hb => by have := G12.next; omega)
     have G7 : Fix (· < hN.next) hN h8 := G7.trans (f8.sub fun b hb => by have := G7.next; omega)
     have G8 := Fix.refl (fun b => b < h8.next) h8
     have rd := reads h8 FH
     (try simp (maxSteps := 2000000) only [wk, wl, wx, reduceLT, reduceEqDiff, Nat.reduceBEq, reduceIte, wd, Chk, and_true, true_and, t1, t6, fa85_0, fa85_2, Nat.zero_add, rd])
     refine sat_store (ba.fix G12 (by omega)) ty35 rfl (Nat.le_refl 2) rfl ?_
     intro hz az nz fz
     have az : Has hz hc2.next (faultV (ldP x (A.map (·.2)) N).2) := az
     (try simp (maxSteps := 2000000) only [wk, wl, wx, reduceLT, reduceEqDiff, Nat.reduceBEq, reduceIte, wd, Chk, and_true, true_and])
     refine ⟨_, p, hc2.next, h8.next, rfl, ⟨by omega, fun b hb => by rw [fz.same b (by omega), FH.same b hb]⟩, by omega, by omega, by omega, by omega, az, ?_, ?_⟩
     ·generalize hld : (ldP x (A.map (·.2)) N).1 = lo at hq8
      cases lo with
      | none => exact hq8
      | some xs =>
       obtain ⟨pb, sb, sc, tag, cs, rfl, pm, hcs⟩ := hq8
       exact ⟨pb, sb, sc, tag, cs, rfl, ((pm.fix G8).fixX hcs (fz.sub fun b hb => by omega)).low (by omega), fun d hd => ⟨(hcs d hd).1.sub fun b hb => by omega, (hcs d hd).2.sub fun b hb => by omega⟩⟩
     ·(try simp only [wk, wl, wx, reduceLT, reduceEqDiff, Nat.reduceBEq, reduceIte, t1, t4, t5])
      simp
    ·have FH := Fix.refl (fun b => b < hh.next) hh
     (try simp (maxSteps := 2000000) only [wk, wl, wx, reduceLT, reduceEqDiff, Nat.reduceBEq, reduceIte, wd, Chk, and_true, true_and, t1, t6, fa85_0, fa85_2, Nat.zero_add, rd])
     refine sat_literal ty30 rfl ty9 rfl (by decide) (by decide) rfl rfl ?_
     intro hl lb nl fl
     have xhl := fl.next
     have FH : Fix (· < hh.next) hh hl := FH.trans (fl.sub fun b hb => by have := FH.next; omega)
     have G4 := Fix.refl (fun b => b < hl.next) hl
     have rd := reads hl FH
     (try simp (maxSteps := 2000000) only [wk, wl, wx, reduceLT, reduceEqDiff, Nat.reduceBEq, reduceIte, wd, Chk, and_true, true_and, t1, t6, fa85_0, fa85_2, Nat.zero_add, rd])
     refine wop_alloc ty35 ?_
     intro ha ba na fa
     have xha := fa.next
     have FH : Fix (· < hh.next) hh ha := FH.trans (fa.sub fun b hb => by have := FH.next; omega)
     have G4 : Fix (· < hl.next) hl ha := G4.trans (fa.sub fun b hb => by have := G4.next; omega)
     have G12 := Fix.refl (fun b => b < ha.next) ha
     have rd := reads ha FH
     (try simp (maxSteps := 2000000) only [wk, wl, wx, reduceLT, reduceEqDiff, Nat.reduceBEq, reduceIte, wd, Chk, and_true, true_and, t1, t6, fa85_0, fa85_2, Nat.zero_add, rd])
     refine (image_ok ((ahx.fix FH fun _ h => h).up fun b hb => by have := FH.next; omega) fx).mono fun v hc2 ⟨c2, e2, im2, f2'⟩ => ?_
     subst e2
     have xhc2 := f2'.next
     have FH : Fix (· < hh.next) hh hc2 := FH.trans (f2'.sub fun b hb => by have := FH.next; omega)
     have G4 : Fix (· < hl.next) hl hc2 := G4.trans (f2'.sub fun b hb => by have := G4.next; omega)
     have G12 : Fix (· < ha.next) ha hc2 := G12.trans (f2'.sub fun b hb => by have := G12.next; omega)
     have G2 := Fix.refl (fun b => b < hc2.next) hc2
     have lo2 : hh.next ≤ ha.next := by omega
     have rd := reads hc2 FH
     (try simp (maxSteps := 2000000) only [wk, wl, wx, reduceLT, reduceEqDiff, Nat.reduceBEq, reduceIte, wd, Chk, and_true, true_and, t1, t6, fa85_0, fa85_2, Nat.zero_add, rd])
     refine sat_app0 (m := N.length) (ws := N.map V.str) (by rw [G4.same _ (by omega)]; exact lb) (by omega) ty30 rfl ty30 (.inl ⟨_, rfl⟩) ty9 rfl (by decide) (by decide) (Sl.len (Sl.fix ah.nms nin FH)) (Sl.cells (Sl.fix ah.nms nin FH)) (by simp) one_str (by simp; omega) ?_
     intro sN hN gN oN elN fN nN
     have inN : In (· < hN.next) sN := fun b o n c e => (oN _ _ _ _ e).2
     have xhN := fN.next
     have FH : Fix (· < hh.next) hh hN := FH.trans (fN.sub fun b hb => by have := FH.next; omega)
     have G4 : Fix (· < hl.next) hl hN := G4.trans (fN.sub fun b hb => by have := G4.next; omega)
     have G12 : Fix (· < ha.next) ha hN := G12.trans (fN.sub fun b hb => by have := G12.next; omega)
     have G2 : Fix (· < hc2.next) hc2 hN := G2.trans (fN.sub fun b hb => by have := G2.next; omega)
     have G7 := Fix.refl (fun b => b < hN.next) hN
     have rd := reads hN FH
     (try simp (maxSteps := 2000000) only [wk, wl, wx, reduceLT, reduceEqDiff, Nat.reduceBEq, reduceIte, wd, Chk, and_true, true_and, t1, t6, fa85_0, fa85_2, Nat.zero_add, rd])
     refine (load_ok ((im2.fix G2 fun b hb => hb.2).up fun b hb => by have := G2.next; omega) fx ((ims.fix FH fun _ h => h).up fun b hb => by have := FH.next; omega) wh hfitA (Sl.fix gN.sl inN G7) (inN.sub fun b hb => by have := G7.next; omega) (by omega) (by omega)).mono fun v h8 ⟨f8, p, ev, hq8⟩ => ?_
     subst ev
     have xh8 := f8.next
     have FH : Fix (· < hh.next) hh h8 := FH.trans (f8.sub fun b hb => by have := FH.next; omega)
     have G4 : Fix (· < hl.next) hl h8 := G4.trans (f8.sub fun b hb => by have := G4.next; omega)
     have G12 : Fix (· < ha.next) ha h8 := G12.trans (f8.sub fun b hb => by have := G12.next; omega)
     have G2 : Fix (· < hc2.next) hc2 h8 := G2.trans (f8.sub fun b hb => by have := G2.next; omega)
     have G7 : Fix (· < hN.next) hN h8 := G7.trans (f8.sub fun b hb => by have := G7.next; omega)
     have G8 := Fix.refl (fun b => b < h8.next) h8
     have rd := reads h8 FH
     (try simp (maxSteps := 2000000) only [wk, wl, wx, reduceLT, reduceEqDiff, Nat.reduceBEq, reduceIte, wd, Chk, and_true, true_and, t1, t6, fa85_0, fa85_2, Nat.zero_add, rd])
     refine sat_store (ba.fix G12 (by omega)) ty35 rfl (Nat.le_refl 2) rfl ?_
     intro hz az nz fz
     have az : Has hz hl.next (faultV (ldP x (A.map (·.2)) N).2) := az
     (try simp (maxSteps := 2000000) only [wk, wl, wx, reduceLT, reduceEqDiff, Nat.reduceBEq, reduceIte, wd, Chk, and_true, true_and])
     refine ⟨_, p, hl.next, h8.next, rfl, ⟨by omega, fun b hb => by rw [fz.same b (by omega), FH.same b hb]⟩, by omega, by omega, by omega, by omega, az, ?_, ?_⟩
     ·generalize hld : (ldP x (A.map (·.2)) N).1 = lo at hq8
      cases lo with
      | none => exact hq8
      | some xs =>
       obtain ⟨pb, sb, sc, tag, cs, rfl, pm, hcs⟩ := hq8
       exact ⟨pb, sb, sc, tag, cs, rfl, ((pm.fix G8).fixX hcs (fz.sub fun b hb => by omega)).low (by omega), fun d hd => ⟨(hcs d hd).1.sub fun b hb => by omega, (hcs d hd).2.sub fun b hb => by omega⟩⟩
     ·(try simp only [wk, wl, wx, reduceLT, reduceEqDiff, Nat.reduceBEq, reduceIte, t1, t4, t5])
      simp
    ·have FH := Fix.refl (fun b => b < hh.next) hh
     (try simp (maxSteps := 2000000) only [wk, wl, wx, reduceLT, reduceEqDiff, Nat.reduceBEq, reduceIte, wd, Chk, and_true, true_and, t1, t6, fa85_0, fa85_2, Nat.zero_add, rd])
     refine wop_alloc ty35 ?_
     intro ha ba na fa
     have xha := fa.next
     have FH : Fix (· < hh.next) hh ha := FH.trans (fa.sub fun b hb => by have := FH.next; omega)
     have G12 := Fix.refl (fun b => b < ha.next) ha
     have rd := reads ha FH
     (try simp (maxSteps := 2000000) only [wk, wl, wx, reduceLT, reduceEqDiff, Nat.reduceBEq, reduceIte, wd, Chk, and_true, true_and, t1, t6, fa85_0, fa85_2, Nat.zero_add, rd])
     refine (image_ok ((ahx.fix FH fun _ h => h).up fun b hb => by have := FH.next; omega) fx).mono fun v hc2 ⟨c2, e2, im2, f2'⟩ => ?_
     subst e2
     have xhc2 := f2'.next
     have FH : Fix (· < hh.next) hh hc2 := FH.trans (f2'.sub fun b hb => by have := FH.next; omega)
     have G12 : Fix (· < ha.next) ha hc2 := G12.trans (f2'.sub fun b hb => by have := G12.next; omega)
     have G2 := Fix.refl (fun b => b < hc2.next) hc2
     have lo2 : hh.next ≤ ha.next := by omega
     have rd := reads hc2 FH
     (try simp (maxSteps := 2000000) only [wk, wl, wx, reduceLT, reduceEqDiff, Nat.reduceBEq, reduceIte, wd, Chk, and_true, true_and, t1, t6, fa85_0, fa85_2, Nat.zero_add, rd])
     refine sat_literal ty30 rfl ty9 rfl (by decide) (by decide) rfl rfl ?_
     intro hl lb nl fl
     have xhl := fl.next
     have FH : Fix (· < hh.next) hh hl := FH.trans (fl.sub fun b hb => by have := FH.next; omega)
     have G12 : Fix (· < ha.next) ha hl := G12.trans (fl.sub fun b hb => by have := G12.next; omega)
     have G2 : Fix (· < hc2.next) hc2 hl := G2.trans (fl.sub fun b hb => by have := G2.next; omega)
     have G4 := Fix.refl (fun b => b < hl.next) hl
     have rd := reads hl FH
     (try simp (maxSteps := 2000000) only [wk, wl, wx, reduceLT, reduceEqDiff, Nat.reduceBEq, reduceIte, wd, Chk, and_true, true_and, t1, t6, fa85_0, fa85_2, Nat.zero_add, rd])
     refine sat_app0 (m := N.length) (ws := N.map V.str) (by rw [G4.same _ (by omega)]; exact lb) (by omega) ty30 rfl ty30 (.inl ⟨_, rfl⟩) ty9 rfl (by decide) (by decide) (Sl.len (Sl.fix ah.nms nin FH)) (Sl.cells (Sl.fix ah.nms nin FH)) (by simp) one_str (by simp; omega) ?_
     intro sN hN gN oN elN fN nN
     have inN : In (· < hN.next) sN := fun b o n c e => (oN _ _ _ _ e).2
     have xhN := fN.next
     have FH : Fix (· < hh.next) hh hN := FH.trans (fN.sub fun b hb => by have := FH.next; omega)
     have G12 : Fix (· < ha.next) ha hN := G12.trans (fN.sub fun b hb => by have := G12.next; omega)
     have G2 : Fix (· < hc2.next) hc2 hN := G2.trans (fN.sub fun b hb => by have := G2.next; omega)
     have G4 : Fix (· < hl.next) hl hN := G4.trans (fN.sub fun b hb => by have := G4.next; omega)
     have G7 := Fix.refl (fun b => b < hN.next) hN
     have rd := reads hN FH
     (try simp (maxSteps := 2000000) only [wk, wl, wx, reduceLT, reduceEqDiff, Nat.reduceBEq, reduceIte, wd, Chk, and_true, true_and, t1, t6, fa85_0, fa85_2, Nat.zero_add, rd])
     refine (load_ok ((im2.fix G2 fun b hb => hb.2).up fun b hb => by have := G2.next; omega) fx ((ims.fix FH fun _ h => h).up fun b hb => by have := FH.next; omega) wh hfitA (Sl.fix gN.sl inN G7) (inN.sub fun b hb => by have := G7.next; omega) (by omega) (by omega)).mono fun v h8 ⟨f8, p, ev, hq8⟩ => ?_
     subst ev
     have xh8 := f8.next
     have FH : Fix (· < hh.next) hh h8 := FH.trans (f8.sub fun b hb => by have := FH.next; omega)
     have G12 : Fix (· < ha.next) ha h8 := G12.trans (f8.sub fun b hb => by have := G12.next; omega)
     have G2 : Fix (· < hc2.next) hc2 h8 := G2.trans (f8.sub fun b hb => by have := G2.next; omega)
     have G4 : Fix (· < hl.next) hl h8 := G4.trans (f8.sub fun b hb => by have := G4.next; omega)
     have G7 : Fix (· < hN.next) hN h8 := G7.trans (f8.sub fun b hb => by have := G7.next; omega)
     have G8 := Fix.refl (fun b => b < h8.next) h8
     have rd := reads h8 FH
     (try simp (maxSteps := 2000000) only [wk, wl, wx, reduceLT, reduceEqDiff, Nat.reduceBEq, reduceIte, wd, Chk, and_true, true_and, t1, t6, fa85_0, fa85_2, Nat.zero_add, rd])
     refine sat_store (ba.fix G12 (by omega)) ty35 rfl (Nat.le_refl 2) rfl ?_
     intro hz az nz fz
     have az : Has hz hh.next (faultV (ldP x (A.map (·.2)) N).2) := az
     (try simp (maxSteps := 2000000) only [wk, wl, wx, reduceLT, reduceEqDiff, Nat.reduceBEq, reduceIte, wd, Chk, and_true, true_and])
     refine ⟨_, p, hh.next, h8.next, rfl, ⟨by omega, fun b hb => by rw [fz.same b (by omega), FH.same b hb]⟩, by omega, by omega, by omega, by omega, az, ?_, ?_⟩
     ·generalize hld : (ldP x (A.map (·.2)) N).1 = lo at hq8
      cases lo with
      | none => exact hq8
      | some xs =>
       obtain ⟨pb, sb, sc, tag, cs, rfl, pm, hcs⟩ := hq8
       exact ⟨pb, sb, sc, tag, cs, rfl, ((pm.fix G8).fixX hcs (fz.sub fun b hb => by omega)).low (by omega), fun d hd => ⟨(hcs d hd).1.sub fun b hb => by omega, (hcs d hd).2.sub fun b hb => by omega⟩⟩
     ·(try simp only [wk, wl, wx, reduceLT, reduceEqDiff, Nat.reduceBEq, reduceIte, t1, t4, t5])
      simp
    ·have FH := Fix.refl (fun b => b < hh.next) hh
     (try simp (maxSteps := 2000000) only [wk, wl, wx, reduceLT, reduceEqDiff, Nat.reduceBEq, reduceIte, wd, Chk, and_true, true_and, t1, t6, fa85_0, fa85_2, Nat.zero_add, rd])
     refine wop_alloc ty35 ?_
     intro ha ba na fa
     have xha := fa.next
     have FH : Fix (· < hh.next) hh ha := FH.trans (fa.sub fun b hb => by have := FH.next; omega)
     have G12 := Fix.refl (fun b => b < ha.next) ha
     have rd := reads ha FH
     (try simp (maxSteps := 2000000) only [wk, wl, wx, reduceLT, reduceEqDiff, Nat.reduceBEq, reduceIte, wd, Chk, and_true, true_and, t1, t6, fa85_0, fa85_2, Nat.zero_add, rd])
     refine sat_literal ty30 rfl ty9 rfl (by decide) (by decide) rfl rfl ?_
     intro hl lb nl fl
     have xhl := fl.next
     have FH : Fix (· < hh.next) hh hl := FH.trans (fl.sub fun b hb => by have := FH.next; omega)
     have G12 : Fix (· < ha.next) ha hl := G12.trans (fl.sub fun b hb => by have := G12.next; omega)
     have G4 := Fix.refl (fun b => b < hl.next) hl
     have rd := reads hl FH
     (try simp (maxSteps := 2000000) only [wk, wl, wx, reduceLT, reduceEqDiff, Nat.reduceBEq, reduceIte, wd, Chk, and_true, true_and, t1, t6, fa85_0, fa85_2, Nat.zero_add, rd])
     refine (image_ok ((ahx.fix FH fun _ h => h).up fun b hb => by have := FH.next; omega) fx).mono fun v hc2 ⟨c2, e2, im2, f2'⟩ => ?_
     subst e2
     have xhc2 := f2'.next
     have FH : Fix (· < hh.next) hh hc2 := FH.trans (f2'.sub fun b hb => by have := FH.next; omega)
     have G12 : Fix (· < ha.next) ha hc2 := G12.trans (f2'.sub fun b hb => by have := G12.next; omega)
     have G4 : Fix (· < hl.next) hl hc2 := G4.trans (f2'.sub fun b hb => by have := G4.next; omega)
     have G2 := Fix.refl (fun b => b < hc2.next) hc2
     have lo2 : hh.next ≤ hl.next := by omega
     have rd := reads hc2 FH
     (try simp (maxSteps := 2000000) only [wk, wl, wx, reduceLT, reduceEqDiff, Nat.reduceBEq, reduceIte, wd, Chk, and_true, true_and, t1, t6, fa85_0, fa85_2, Nat.zero_add, rd])
     refine sat_app0 (m := N.length) (ws := N.map V.str) (by rw [G4.same _ (by omega)]; exact lb) (by omega) ty30 rfl ty30 (.inl ⟨_, rfl⟩) ty9 rfl (by decide) (by decide) (Sl.len (Sl.fix ah.nms nin FH)) (Sl.cells (Sl.fix ah.nms nin FH)) (by simp) one_str (by simp; omega) ?_
     intro sN hN gN oN elN fN nN
     have inN : In (· < hN.next) sN := fun b o n c e => (oN _ _ _ _ e).2
     have xhN := fN.next
     have FH : Fix (· < hh.next) hh hN := FH.trans (fN.sub fun b hb => by have := FH.next; omega)
     have G12 : Fix (· < ha.next) ha hN := G12.trans (fN.sub fun b hb => by have := G12.next; omega)
     have G4 : Fix (· < hl.next) hl hN := G4.trans (fN.sub fun b hb => by have := G4.next; omega)
     have G2 : Fix (· < hc2.next) hc2 hN := G2.trans (fN.sub fun b hb => by have := G2.next; omega)
     have G7 := Fix.refl (fun b => b < hN.next) hN
     have rd := reads hN FH
     (try simp (maxSteps := 2000000) only [wk, wl, wx, reduceLT, reduceEqDiff, Nat.reduceBEq, reduceIte, wd, Chk, and_true, true_and, t1, t6, fa85_0, fa85_2, Nat.zero_add, rd])
     refine (load_ok ((im2.fix G2 fun b hb => hb.2).up fun b hb => by have := G2.next; omega) fx ((ims.fix FH fun _ h => h).up fun b hb => by have := FH.next; omega) wh hfitA (Sl.fix gN.sl inN G7) (inN.sub fun b hb => by have := G7.next; omega) (by omega) (by omega)).mono fun v h8 ⟨f8, p, ev, hq8⟩ => ?_
     subst ev
     have xh8 := f8.next
     have FH : Fix (· < hh.next) hh h8 := FH.trans (f8.sub fun b hb => by have := FH.next; omega)
     have G12 : Fix (· < ha.next) ha h8 := G12.trans (f8.sub fun b hb => by have := G12.next; omega)
     have G4 : Fix (· < hl.next) hl h8 := G4.trans (f8.sub fun b hb => by have := G4.next; omega)
     have G2 : Fix (· < hc2.next) hc2 h8 := G2.trans (f8.sub fun b hb => by have := G2.next; omega)
     have G7 : Fix (· < hN.next) hN h8 := G7.trans (f8.sub fun b hb => by have := G7.next; omega)
     have G8 := Fix.refl (fun b => b < h8.next) h8
     have rd := reads h8 FH
     (try simp (maxSteps := 2000000) only [wk, wl, wx, reduceLT, reduceEqDiff, Nat.reduceBEq, reduceIte, wd, Chk, and_true, true_and, t1, t6, fa85_0, fa85_2, Nat.zero_add, rd])
     refine sat_store (ba.fix G12 (by omega)) ty35 rfl (Nat.le_refl 2) rfl ?_
     intro hz az nz fz
     have az : Has hz hh.next (faultV (ldP x (A.map (·.2)) N).2) := az
     (try simp (maxSteps := 2000000) only [wk, wl, wx, reduceLT, reduceEqDiff, Nat.reduceBEq, reduceIte, wd, Chk, and_true, true_and])
     refine ⟨_, p, hh.next, h8.next, rfl, ⟨by omega, fun b hb => by rw [fz.same b (by omega), FH.same b hb]⟩, by omega, by omega, by omega, by omega, az, ?_, ?_⟩
     ·generalize hld : (ldP x (A.map (·.2)) N).1 = lo at hq8
      cases lo with
      | none => exact hq8
      | some xs =>
       obtain ⟨pb, sb, sc, tag, cs, rfl, pm, hcs⟩ := hq8
       exact ⟨pb, sb, sc, tag, cs, rfl, ((pm.fix G8).fixX hcs (fz.sub fun b hb => by omega)).low (by omega), fun d hd => ⟨(hcs d hd).1.sub fun b hb => by omega, (hcs d hd).2.sub fun b hb => by omega⟩⟩
     ·(try simp only [wk, wl, wx, reduceLT, reduceEqDiff, Nat.reduceBEq, reduceIte, t1, t4, t5])
      simp
   ·rintro e fr hz ⟨rfl, ts, p, fb, m, rfl, Fz, hm1, hm2, hfb1, hfb2, bfb, hpm, t1, t4, t5, t9, t10⟩
    rw [hA] at bfb hpm
    have xz := Fz.next
    have bz := bh.fix Fz (by omega)
    have az := ah.fix Fz fun b hb => by have := hK b hb; omega
    have lz1 : loadP (E g) hz 60 (.ptr h.next 0) = some (.agg (c.cells x)) := (ld_first bz).agg ty60 rfl rfl
    have lz2 : loadP (E g) hz 83 (.ptr h.next 7) = some ls := bz.at ty83 rfl 7
    have lz3 : loadP (E g) hz 30 (.ptr h.next 8) = some ns := bz.at ty30 rfl 8
    (try simp only [wk, wl, wx, reduceLT, reduceEqDiff, Nat.reduceBEq, reduceIte])
    ((repeat refine WC.seq ?_); refine WC.run ?_)
    (try simp only [wk, wl, wx, reduceLT, reduceEqDiff, Nat.reduceBEq, reduceIte, t1, fa85_0, fa85_1, fa85_2, Nat.zero_add, lz1, lz2, lz3])
    refine (rload_ok (K := K) (fun b hb => by have := hK b hb; omega) az.im fx az.ims fL az.nms (a.nin.sub fun b hb => by have := hK b hb; omega) (by omega) (by omega)).mono fun v hr ⟨fr', q, ev, hq⟩ => ?_
    subst ev
    have xr := fr'.next
    (try simp only [wk, wl, wx, reduceLT, reduceEqDiff, Nat.reduceBEq, reduceIte])
    refine wop_alloc ty35 ?_
    intro hs bs ns' fs
    (try simp only [wk, wl, wx, reduceLT, reduceEqDiff, Nat.reduceBEq, reduceIte])
    refine sat_store bs ty35 rfl (Nat.le_refl 2) rfl ?_
    intro ht bt nt ft
    (try simp only [wk, wl, wx, reduceLT, reduceEqDiff, Nat.reduceBEq, reduceIte])
    have bt : Has ht hr.next (faultV (ldP x (L.map (·.2)) N).2) := bt
    have Ft : Kept hr ht := ⟨by omega, fun b hb => by rw [ft.same b (by omega), fs.same b hb]⟩
    have Fzt : Kept hz ht := fr'.trans (Ft.sub fun b hb => by omega)
    have b10 := bfb.fix Fzt hfb2
    have lq1 : loadP (E g) ht 35 (.ptr fb 0) = some (.agg (faultV (ldP x (L.map (·.2)) N).2)) := b10.agg ty35 rfl (Nat.le_refl 2)
    have lq2 : loadP (E g) ht 35 (.ptr hr.next 0) = some (.agg (faultV (ldP x (L.map (·.2)) N).2)) := bt.agg ty35 rfl (Nat.le_refl 2)
    have F3t : Fix (· < hh.next) hh ht := Fz.trans (Fzt.sub fun b hb => by omega)
    have c2 := bq2.fix F3t (by omega)
    have c3 := bq3.fix F3t (by omega)
    ((repeat refine WC.seq ?_); refine WC.draw (plans := pl29_9) (by kernel_rfl) ?_; simp only [pl29_9, List.mem_cons, List.not_mem_nil, or_false, forall_eq_or_imp, forall_eq])
    (try simp (maxSteps := 2000000) only [wk, wl, wx, reduceLT, reduceEqDiff, Nat.reduceBEq, reduceIte, wd, Chk, and_true, true_and, t9, t10, lq1, lq2, t4])
    refine sat_store c2 ty35 rfl (Nat.le_refl 2) rfl ?_
    intro hu bu nu fu
    have bu : Has hu h1.next (faultV (ldP x (L.map (·.2)) N).2) := bu
    have lq3 : loadP (E g) hu 35 (.ptr hr.next 0) = some (.agg (faultV (ldP x (L.map (·.2)) N).2)) := (bt.fix fu (by omega)).agg ty35 rfl (Nat.le_refl 2)
    (try simp (maxSteps := 2000000) only [wk, wl, wx, reduceLT, reduceEqDiff, Nat.reduceBEq, reduceIte, wd, Chk, and_true, true_and, t5, lq3])
    refine sat_store (c3.fix fu (by omega)) ty35 rfl (Nat.le_refl 2) rfl ?_
    intro hv bv nv fv
    have bv : Has hv h2.next (faultV (ldP x (L.map (·.2)) N).2) := bv
    have lq4 : loadP (E g) hv 35 (.ptr h1.next 0) = some (.agg (faultV (ldP x (L.map (·.2)) N).2)) := (bu.fix fv (by omega)).agg ty35 rfl (Nat.le_refl 2)
    have lq5 : loadP (E g) hv 35 (.ptr h2.next 0) = some (.agg (faultV (ldP x (L.map (·.2)) N).2)) := bv.agg ty35 rfl (Nat.le_refl 2)
    (try simp (maxSteps := 2000000) only [wk, wl, wx, reduceLT, reduceEqDiff, Nat.reduceBEq, reduceIte, wd, Chk, and_true, true_and])
    refine WC.ret ?_
    (try simp only [wk, wl, wx, reduceLT, reduceEqDiff, Nat.reduceBEq, reduceIte, t4, t5, lq4, lq5])
    have Fuv : Fix (fun b => b ≠ h1.next ∧ b ≠ h2.next) ht hv := ⟨by omega, fun b hb => by rw [fv.same b hb.2, fu.same b hb.1]⟩
    refine ⟨⟨by omega, fun b hb => by rw [Fuv.same b ⟨by omega, by omega⟩, F3t.same b (by omega), ff.same b (by omega), F3.same b hb]⟩, p, q, rfl, ?_⟩
    generalize hld : (ldP x (L.map (·.2)) N).1 = lo at hpm hq
    cases lo with
    | none => exact ⟨hpm, hq⟩
    | some xs =>
     obtain ⟨pb, sb, sc, tag, cs, rfl, pm, hcs⟩ := hpm
     obtain ⟨pb', sb', sc', tag', cs', rfl, pm', hcs'⟩ := hq
     refine ⟨pb, sb, sc, tag, cs, pb', sb', sc', tag', cs', hz.next, by omega, by omega, rfl, rfl, ?_, ?_, fun d hd => ⟨(hcs d hd).1.sub fun b hb => by omega, (hcs d hd).2.sub fun b hb => by omega⟩, hcs'⟩
     ·exact (((pm.up hm2 (Nat.le_refl _)).fix (hi := hz.next) Fzt).fixX (X := fun b => hh.next ≤ b) hcs (Fuv.sub fun b hb => by omega)).low (by omega)
     ·exact (((pm'.fix Ft).fixX hcs' (Fuv.sub fun b hb => by
       rcases hb with q | q
       ·omega
       ·have := hK b q.1; omega))).up (by omega) (Nat.le_refl _)
 all_goals (try simp only [wk, wl, wx, reduceLT, reduceEqDiff, Nat.reduceBEq, reduceIte])
 all_goals (first | done | rfl | trivial | simp)
end Go.Proofs.OP
