/- Walks: object.symbols, (*linker).resolved. Printed by genL3.py. -/
import Derived.Test.YtloblhhnlaaajaaDoorX15
import Derived.Test.YtloblhhnlaaajaaDoorX33
set_option linter.unusedVariables false
set_option linter.unusedSimpArgs false
set_option linter.defProp false
set_option linter.unusedSimpArgs false
namespace Go.Proofs.OP
open Go Go.Ev
open Go.Proofs
open Nat (reduceLT reduceEqDiff)
variable {g : T (List V)}

def sV (s : SymD) : V := .agg (symV s)
abbrev Sm := List (List UInt8 × SymD)
def symT : List SymD → Sm → Sm
 | [], S => S
 | s :: r, S => symT r (ia s.name s S)
set_option maxRecDepth 100000 in
set_option maxHeartbeats 4000000 in
theorem symbols_ok {h : H} {c : Oc} {o : ObjD} (ob : Ob g h (· < h.next) c o) (fit : Fits o) : WF (E g) 84 [.agg (c.cells o)] h fun v h' => ∃ b, v = .map b ∧ h.next ≤ b ∧ b < h'.next ∧ Mq h' b (mv sV (symT o.syms [])) ∧ Kept h h' := by
 have fs := fit.syms
 refine WF.enter fn84 rfl ?_
 ((repeat refine WC.seq ?_); refine WC.run ?_)
 (try simp only [wk, wl, wx, reduceLT, reduceEqDiff, Nat.reduceBEq, reduceIte])
 refine wop_box (v := .agg (c.cells o)) (by (try simp only [wk, wl, wx, reduceLT, reduceEqDiff, Nat.reduceBEq, reduceIte])) ?_
 intro h1 b1 n1 f1
 have b1 : Has h1 h.next [.str o.name, c.code, c.data, c.syms, c.rels, c.needs, .str o.entry] := b1
 have ob1 := ob.fix f1 fun b hb => by omega
 (try simp only [wk, wl, wx, reduceLT, reduceEqDiff, Nat.reduceBEq, reduceIte])
 ((repeat refine WC.seq ?_); refine WC.run ?_)
 (try simp only [wk, wl, wx, reduceLT, reduceEqDiff, Nat.reduceBEq, reduceIte])
 refine wop_makeMapQ ?_
 intro h2 m2 n2 f2
 (try simp only [wk, wl, wx, reduceLT, reduceEqDiff, Nat.reduceBEq, reduceIte])
 have b2 := b1.fix f2 (by omega)
 have ob2 := ob1.fix f2 fun b hb => by omega
 have l2 : loadP (E g) h2 74 (.ptr h.next 3) = some c.syms := b2.at ty74 rfl 3
 ((repeat refine WC.seq ?_); refine WC.run ?_)
 (try simp only [wk, wl, wx, reduceLT, reduceEqDiff, Nat.reduceBEq, reduceIte, fa77_3, Nat.zero_add, l2, Sl.lenB ob2.syms ty74 rfl])
 (repeat refine WC.seq ?_)
 refine WC.block ?_
 refine WC.while (fun m fr hj => ∃ ts j S, fr = ⟨ts, 20, [], 84, none⟩ ∧ Fix (fun b => b < h1.next) h1 hj ∧ h2.next ≤ hj.next ∧ m = o.syms.length - j ∧ j ≤ o.syms.length ∧ ts.get 3 = some (.map h1.next) ∧ ts.get 8 = some c.syms ∧ ts.get 9 = some (.int .i64 o.syms.length) ∧ ts.get 10 = some (.int .i64 j) ∧ Mq hj h1.next (mv sV S) ∧ symT (o.syms.drop j) S = symT o.syms []) ?_ ⟨_, 0, [], rfl, f2, Nat.le_refl _, rfl, by omega, ?_, ?_, ?_, ?_, m2, rfl⟩
 ·rintro m fr hj ⟨ts, j, S, rfl, fj, xj2, rfl, hjl, t3, t8, t9, t10, mj, hS⟩
  have xj := fj.next
  have obj := ob1.fix fj fun b hb => by omega
  ((repeat refine WC.seq ?_); refine WC.run ?_)
  (try simp only [wk, wl, wx, reduceLT, reduceEqDiff, Nat.reduceBEq, reduceIte, t9, t10])
  (repeat refine WC.seq ?_)
  by_cases hlj : j < o.syms.length
  ·refine WC.cond (b := true) (by (try simp only [wk, wl, wx, reduceLT, reduceEqDiff, Nat.reduceBEq, reduceIte]); (try simp); (try omega)) (WC.skip ?_)
   (try simp only [wk, wl, wx, reduceLT, reduceEqDiff, Nat.reduceBEq, reduceIte])
   obtain ⟨p, p1, p2⟩ := obj.syms.at symV_length ty74 rfl ty95 rfl (by decide) rfl hlj
   have p2 := p2 hj fun _ _ _ _ _ => rfl
   generalize hs : o.syms[j] = s at p2
   have hS' : symT (o.syms.drop j) S = symT (s :: o.syms.drop (j + 1)) S := by rw [drop_cons hlj, hs]
   rw [hS'] at hS
   simp only [symT] at hS
   (repeat refine WC.seq ?_)
   refine WC.block ?_
   ((repeat refine WC.seq ?_); refine WC.run ?_)
   (try simp only [wk, wl, wx, reduceLT, reduceEqDiff, Nat.reduceBEq, reduceIte, t8, t10, p1, p2])
   refine wop_alloc ty95 ?_
   intro h6 b6 n6 f6
   (try simp only [wk, wl, wx, reduceLT, reduceEqDiff, Nat.reduceBEq, reduceIte])
   refine sat_store b6 ty95 rfl (Nat.le_refl 5) (symV_one s) ?_
   intro h7 b7 n7 f7
   have c7 : Has h7 hj.next (symV s) := b7
   have b7 : Has h7 hj.next [.str s.name, i64 s.sec, i64 s.off, .bool s.glob, .bool s.weak] := b7
   have F7 : Kept hj h7 := ⟨by omega, fun b hb => by rw [f7.same b (by omega), f6.same b hb]⟩
   have m7 := mj.fix F7 (by omega)
   have l7 : loadP (E g) h7 95 (.ptr hj.next 0) = some (sV s) := c7.agg ty95 rfl (Nat.le_refl 5)
   (try simp only [wk, wl, wx, reduceLT, reduceEqDiff, Nat.reduceBEq, reduceIte])
   ((repeat refine WC.seq ?_); refine WC.run ?_)
   (try simp only [wk, wl, wx, reduceLT, reduceEqDiff, Nat.reduceBEq, reduceIte, t3, fa95_0, Nat.zero_add, b7.at ty9 rfl, l7, w_mapUpdate])
   refine sat_updateQ m7 ty176 rfl ty9 rfl ty95 ?_
   intro hu mu nu fu
   rw [ins_mv] at mu
   (try simp only [wk, wl, wx, reduceLT, reduceEqDiff, Nat.reduceBEq, reduceIte])
   ((repeat refine WC.seq ?_); refine WC.run ?_)
   (try simp only [wk, wl, wx, reduceLT, reduceEqDiff, Nat.reduceBEq, reduceIte, t10, bin_add])
   refine ⟨_, ?_, _, j + 1, ia s.name s S, rfl, ⟨by omega, fun b hb => by rw [fu.same b (by omega), F7.same b (by omega), fj.same b hb]⟩, by omega, rfl, by omega, ?_⟩
   ·omega
   (try simp only [wk, wl, wx, reduceLT, reduceEqDiff, Nat.reduceBEq, reduceIte, t3, t8, t9])
   refine ⟨trivial, trivial, trivial, ?_, mu, hS⟩
   rw [wrap64 (by omega) (by omega)]; rfl
  ·refine WC.cond (b := false) (by (try simp only [wk, wl, wx, reduceLT, reduceEqDiff, Nat.reduceBEq, reduceIte]); (try simp); (try omega)) (WC.exit ?_)
   have : j = o.syms.length := by omega
   subst this
   rw [List.drop_length] at hS
   simp only [symT] at hS
   subst hS
   (try simp only [wk, wl, wx, reduceLT, reduceEqDiff, Nat.reduceBEq, reduceIte])
   ((repeat refine WC.seq ?_); refine WC.run ?_)
   (try simp only [wk, wl, wx, reduceLT, reduceEqDiff, Nat.reduceBEq, reduceIte, t3])
   refine WC.ret ?_
   (try simp only [wk, wl, wx, reduceLT, reduceEqDiff, Nat.reduceBEq, reduceIte])
   exact ⟨_, rfl, by omega, by omega, mj, f1.trans (fj.sub fun b hb => by omega)⟩
 all_goals (try simp only [wk, wl, wx, reduceLT, reduceEqDiff, Nat.reduceBEq, reduceIte])
 all_goals (first | done | rfl | trivial | simp)

abbrev St := List (List UInt8 × Int)
def resR (i : Nat) (own : Sm) (D : Dm) : List RelD → St → Except (Int × Int) St
 | [], S => .ok S
 | r :: rest, S => if r.kind = 2 then resR i own D rest (ia r.sym 0 S) else
  if ((al r.sym own).getD zSym).sec = 0 ∧ ((al r.sym own).getD zSym).weak = false ∧ al ((al r.sym own).getD zSym).name D = none then .error ((i : Int), 22) else resR i own D rest S
def resL (D : Dm) : Nat → List ObjD → St → Except (Int × Int) St
 | _, [], S => .ok S
 | i, o :: r, S => match resR i (symT o.syms []) D o.rels S with
  | .error f => .error f
  | .ok S' => resL D (i + 1) r S'
theorem i64_zv : (V.int .i64 0) = i64 0 := rfl

set_option maxRecDepth 100000 in
set_option maxHeartbeats 16000000 in
theorem resolved_ok {n0 kb db sb : Nat} {h : H} {ls st : V} {L : List (Oc × ObjD)} {base : Int} {im : List V} {D : Dm} (hn0 : n0 ≤ h.next) (a : Obs g h (· < n0) ls L) (fL : ∀ p ∈ L, Fits p.2) (lL : L.length < 2 ^ 30)
  (bk : Has h kb (lkV ls base st db sb im)) (md : Mq h db (mv dV D)) (ms : Mq h sb (mv i64 [])) (hkb : kb < h.next) (hdb : db < h.next) (hsb : sb < h.next) (kd : kb ≠ db) (ks : kb ≠ sb) (ds : db ≠ sb) (k0 : n0 ≤ kb) (d0 : n0 ≤ db) (s0 : n0 ≤ sb) :
  WF (E g) 33 [.ptr kb 0] h fun v h' => Fix (fun b => b < h.next ∧ b ≠ sb) h h' ∧ match resL D 0 (L.map (·.2)) [] with
   | .error f => v = .agg (faultV f)
   | .ok S => v = .agg (faultV (0, 0)) ∧ Mq h' sb (mv i64 S) := by
 refine WF.enter fn33 rfl ?_
 ((repeat refine WC.seq ?_); refine WC.run ?_)
 (try simp only [wk, wl, wx, reduceLT, reduceEqDiff, Nat.reduceBEq, reduceIte])
 refine wop_alloc ty35 ?_
 intro h1 b1 n1 f1
 have b1 : Has h1 h.next (faultV (0, 0)) := b1
 (try simp only [wk, wl, wx, reduceLT, reduceEqDiff, Nat.reduceBEq, reduceIte])
 have a1 := a.fix f1 fun b hb => by omega
 have bk1 := bk.fix f1 hkb
 have md1 := md.fix f1 hdb
 have l1 : loadP (E g) h1 38 (.ptr kb 0) = some ls := bk1.at ty38 rfl 0
 ((repeat refine WC.seq ?_); refine WC.run ?_)
 (try simp only [wk, wl, wx, reduceLT, reduceEqDiff, Nat.reduceBEq, reduceIte, fa105_0, Nat.zero_add, l1, Sl.lenB a1.sl ty38 rfl])
 (repeat refine WC.seq ?_)
 refine WC.block ?_
 refine WC.while (fun m fr hh => ∃ ts i S, fr = ⟨ts, 70, [], 33, none⟩ ∧ Fix (fun b => b < h1.next ∧ b ≠ sb) h1 hh ∧ m = L.length - i ∧ i ≤ L.length ∧ ts.get 0 = some (.ptr kb 0) ∧ ts.get 2 = some (.ptr h.next 0) ∧ ts.get 14 = some ls ∧ ts.get 15 = some (.int .i64 L.length) ∧ ts.get 16 = some (.int .i64 i) ∧ Mq hh sb (mv i64 S) ∧ resL D i ((L.map (·.2)).drop i) S = resL D 0 (L.map (·.2)) []) ?_ ⟨_, 0, [], rfl, Fix.refl _ _, rfl, by omega, ?_, ?_, ?_, ?_, ?_, ms.fix f1 hsb, rfl⟩
 ·rintro m fr hh ⟨ts, i, S, rfl, ff, rfl, hi, t0, t2, t14, t15, t16, mS, hD⟩
  have xh := ff.next
  have ah := a1.fix ff fun b hb => by omega
  have bkh := bk1.fix ff ⟨by omega, ks⟩
  have mdh := md1.fix ff ⟨by omega, ds⟩
  ((repeat refine WC.seq ?_); refine WC.run ?_)
  (try simp only [wk, wl, wx, reduceLT, reduceEqDiff, Nat.reduceBEq, reduceIte, t15, t16])
  (repeat refine WC.seq ?_)
  by_cases hlt : i < L.length
  ·refine WC.cond (b := true) (by (try simp only [wk, wl, wx, reduceLT, reduceEqDiff, Nat.reduceBEq, reduceIte]); (try simp); (try omega)) (WC.skip ?_)
   (try simp only [wk, wl, wx, reduceLT, reduceEqDiff, Nat.reduceBEq, reduceIte])
   obtain ⟨p, p1, p2⟩ := ah.sl.at (fun _ => rfl) ty38 rfl ty77 rfl (by decide) rfl hlt
   have p2 := p2 hh fun _ _ _ _ _ => rfl
   have hmem := List.getElem_mem hlt
   have obi := ah.ob _ hmem
   have fit := fL _ hmem
   have fre := fit.rels
   have hD' : resL D i ((L.map (·.2)).drop i) S = match resR i (symT L[i].2.syms []) D L[i].2.rels S with
     | .error f => .error f
     | .ok S' => resL D (i + 1) ((L.map (·.2)).drop (i + 1)) S' := by
    rw [drop_cons (by simpa using hlt), List.getElem_map]; rfl
   rw [hD'] at hD
   (repeat refine WC.seq ?_)
   refine WC.block ?_
   ((repeat refine WC.seq ?_); refine WC.run ?_)
   (try simp only [wk, wl, wx, reduceLT, reduceEqDiff, Nat.reduceBEq, reduceIte, t14, t16, p1, p2])
   refine wop_alloc ty77 ?_
   intro h4 b4 n4 f4
   (try simp only [wk, wl, wx, reduceLT, reduceEqDiff, Nat.reduceBEq, reduceIte])
   refine sat_store b4 ty77 rfl (Nat.le_refl 7) (Oc.one obi) ?_
   intro h5 b5 n5 f5
   have c5 : Has h5 hh.next (L[i].1.cells L[i].2) := b5
   have b5 : Has h5 hh.next [.str L[i].2.name, L[i].1.code, L[i].1.data, L[i].1.syms, L[i].1.rels, L[i].1.needs, .str L[i].2.entry] := b5
   have F5 : Kept hh h5 := ⟨by omega, fun b hb => by rw [f5.same b (by omega), f4.same b hb]⟩
   have ob5 := obi.fix F5 fun b hb => by omega
   have l5 : loadP (E g) h5 77 (.ptr hh.next 0) = some (.agg (L[i].1.cells L[i].2)) := c5.agg ty77 rfl (Nat.le_refl 7)
   have mS5 := mS.fix F5 (by omega)
   have md5 := mdh.fix F5 (by omega)
   have bk5 := bkh.fix F5 (by omega)
   (try simp only [wk, wl, wx, reduceLT, reduceEqDiff, Nat.reduceBEq, reduceIte])
   ((repeat refine WC.seq ?_); refine WC.run ?_)
   (try simp only [wk, wl, wx, reduceLT, reduceEqDiff, Nat.reduceBEq, reduceIte, l5])
   refine (symbols_ok (ob5.up fun b hb => by omega) fit).mono fun v h6 ⟨ob, e6, o1, o2, mo, f6⟩ => ?_
   subst e6
   have x6 := f6.next
   have mS6 := mS5.fix f6 (by omega)
   have md6 := md5.fix f6 (by omega)
   have bk6 := bk5.fix f6 (by omega)
   have b6 := b5.fix f6 (by omega)
   have ob6 := ob5.fix f6 fun b hb => by omega
   generalize hown : symT L[i].2.syms [] = own at mo hD
   have l6 : loadP (E g) h6 75 (.ptr hh.next 4) = some L[i].1.rels := b6.at ty75 rfl 4
   (try simp only [wk, wl, wx, reduceLT, reduceEqDiff, Nat.reduceBEq, reduceIte])
   ((repeat refine WC.seq ?_); refine WC.run ?_)
   (try simp only [wk, wl, wx, reduceLT, reduceEqDiff, Nat.reduceBEq, reduceIte, fa77_4, Nat.zero_add, l6, Sl.lenB ob6.rels ty75 rfl])
   (repeat refine WC.seq ?_)
   refine WC.block ?_
   refine WC.while (fun m fr hj => ∃ ts j S2, fr = ⟨ts, 70, [], 33, none⟩ ∧ Fix (fun b => b < h6.next ∧ b ≠ sb) h6 hj ∧ m = L[i].2.rels.length - j ∧ j ≤ L[i].2.rels.length ∧ ts.get 0 = some (.ptr kb 0) ∧ ts.get 2 = some (.ptr h.next 0) ∧ ts.get 3 = some (.int .i64 i) ∧ ts.get 5 = some (.map ob) ∧ ts.get 14 = some ls ∧ ts.get 15 = some (.int .i64 L.length) ∧ ts.get 16 = some (.int .i64 i) ∧ ts.get 24 = some L[i].1.rels ∧ ts.get 25 = some (.int .i64 L[i].2.rels.length) ∧ ts.get 26 = some (.int .i64 j) ∧ Mq hj sb (mv i64 S2) ∧ resR i own D (L[i].2.rels.drop j) S2 = resR i own D L[i].2.rels S) ?_ ⟨_, 0, S, rfl, Fix.refl _ _, rfl, by omega, ?_, ?_, ?_, ?_, ?_, ?_, ?_, ?_, ?_, ?_, mS6, rfl⟩
   ·rintro m fr hj ⟨ts, j, S2, rfl, fj, rfl, hjl, t0, t2, t3, t5, t14, t15, t16, t24, t25, t26, mj, hS⟩
    have xj := fj.next
    have obj := ob6.fix fj fun b hb => by omega
    have bkj := bk6.fix fj ⟨by omega, ks⟩
    have mdj := md6.fix fj ⟨by omega, ds⟩
    have moj := mo.fix fj ⟨by omega, by omega⟩
    ((repeat refine WC.seq ?_); refine WC.run ?_)
    (try simp only [wk, wl, wx, reduceLT, reduceEqDiff, Nat.reduceBEq, reduceIte, t25, t26])
    (repeat refine WC.seq ?_)
    by_cases hlj : j < L[i].2.rels.length
    ·refine WC.cond (b := true) (by (try simp only [wk, wl, wx, reduceLT, reduceEqDiff, Nat.reduceBEq, reduceIte]); (try simp); (try omega)) (WC.skip ?_)
     (try simp only [wk, wl, wx, reduceLT, reduceEqDiff, Nat.reduceBEq, reduceIte])
     obtain ⟨p, p1, p2⟩ := obj.rels.at relV_length ty75 rfl ty97 rfl (by decide) rfl hlj
     have p2 := p2 hj fun _ _ _ _ _ => rfl
     generalize hr : L[i].2.rels[j] = r at p2
     have hS' : resR i own D (L[i].2.rels.drop j) S2 = resR i own D (r :: L[i].2.rels.drop (j + 1)) S2 := by rw [drop_cons hlj, hr]
     rw [hS'] at hS
     simp only [resR] at hS
     (repeat refine WC.seq ?_)
     refine WC.block ?_
     ((repeat refine WC.seq ?_); refine WC.run ?_)
     (try simp only [wk, wl, wx, reduceLT, reduceEqDiff, Nat.reduceBEq, reduceIte, t24, t26, p1, p2])
     refine wop_alloc ty97 ?_
     intro h7 b7 n7 f7
     (try simp only [wk, wl, wx, reduceLT, reduceEqDiff, Nat.reduceBEq, reduceIte])
     refine sat_store b7 ty97 rfl (Nat.le_refl 5) (relV_one r) ?_
     intro h8 b8 n8 f8
     have b8 : Has h8 hj.next [i64 r.sec, i64 r.off, i64 r.kind, .str r.sym, i64 r.add] := b8
     have F8 : Kept hj h8 := ⟨by omega, fun b hb => by rw [f8.same b (by omega), f7.same b hb]⟩
     have mS8 := mj.fix F8 (by omega)
     have md8 := mdj.fix F8 (by omega)
     have mo8 := moj.fix F8 (by omega)
     have bk8 := bkj.fix F8 (by omega)
     (try simp only [wk, wl, wx, reduceLT, reduceEqDiff, Nat.reduceBEq, reduceIte])
     ((repeat refine WC.seq ?_); refine WC.run ?_)
     by_cases hk : r.kind = 2
     ·rw [if_pos hk] at hS
      (try simp only [wk, wl, wx, reduceLT, reduceEqDiff, Nat.reduceBEq, reduceIte, fa97_2, Nat.zero_add, b8.at ty3 rfl, i64, ieq_t hk])
      (repeat refine WC.seq ?_)
      refine WC.cond (b := true) (by (try simp only [wk, wl, wx, reduceLT, reduceEqDiff, Nat.reduceBEq, reduceIte]); (try simp); (try omega)) ?_
      (try simp only [wk, wl, wx, reduceLT, reduceEqDiff, Nat.reduceBEq, reduceIte])
      ((repeat refine WC.seq ?_); refine WC.draw (plans := pl33_9) (by kernel_rfl) ?_; simp only [pl33_9, List.mem_cons, List.not_mem_nil, or_false, forall_eq_or_imp, forall_eq])
      (try simp (maxSteps := 2000000) only [wk, wl, wx, reduceLT, reduceEqDiff, Nat.reduceBEq, reduceIte, wd, Chk, and_true, true_and, t0, fa105_4, fa97_3, Nat.zero_add, bk8.at ty102 rfl, b8.at ty9 rfl, w_mapUpdate])
      rw [i64_zv]
      refine sat_updateQ mS8 ty102 rfl ty9 rfl ty2 ?_
      intro hu mu nu fu
      rw [ins_mv] at mu
      (try simp (maxSteps := 2000000) only [wk, wl, wx, reduceLT, reduceEqDiff, Nat.reduceBEq, reduceIte, wd, Chk, and_true, true_and])
      refine WC.exit ?_
      (try simp only [wk, wl, wx, reduceLT, reduceEqDiff, Nat.reduceBEq, reduceIte, nb3])
      ((repeat refine WC.seq ?_); refine WC.run ?_)
      (try simp only [wk, wl, wx, reduceLT, reduceEqDiff, Nat.reduceBEq, reduceIte, t26, bin_add])
      refine ⟨_, ?_, _, j + 1, ia r.sym 0 S2, rfl, ⟨by omega, fun b hb => by rw [fu.same b hb.2, F8.same b (by omega), fj.same b hb]⟩, rfl, by omega, ?_⟩
      ·omega
      (try simp only [wk, wl, wx, reduceLT, reduceEqDiff, Nat.reduceBEq, reduceIte, t0, t2, t3, t5, t14, t15, t16, t24, t25])
      refine ⟨trivial, trivial, trivial, trivial, trivial, trivial, trivial, trivial, trivial, ?_, mu, hS⟩
      rw [wrap64 (by omega) (by omega)]; rfl
     ·rw [if_neg hk] at hS
      have lo8 := tab1 (E := E g) (z := zSym) (k := r.sym) mo8 ty176 rfl ty9 rfl ty95 rfl
      generalize hsy : (al r.sym own).getD zSym = s at lo8 hS
      (try simp only [wk, wl, wx, reduceLT, reduceEqDiff, Nat.reduceBEq, reduceIte, fa97_2, Nat.zero_add, b8.at ty3 rfl, i64, ieq_f hk])
      (repeat refine WC.seq ?_)
      refine WC.cond (b := false) (by (try simp only [wk, wl, wx, reduceLT, reduceEqDiff, Nat.reduceBEq, reduceIte]); (try simp); (try omega)) (WC.skip ?_)
      (try simp only [wk, wl, wx, reduceLT, reduceEqDiff, Nat.reduceBEq, reduceIte])
      ((repeat refine WC.seq ?_); refine WC.run ?_)
      (try simp only [wk, wl, wx, reduceLT, reduceEqDiff, Nat.reduceBEq, reduceIte, t5, fa97_3, Nat.zero_add, b8.at ty9 rfl, w_lookup, lo8])
      refine wop_alloc ty95 ?_
      intro h9 b9 n9 f9
      (try simp only [wk, wl, wx, reduceLT, reduceEqDiff, Nat.reduceBEq, reduceIte])
      refine sat_store b9 ty95 rfl (Nat.le_refl 5) (symV_one s) ?_
      intro hA bA nA fA
      have bA : Has hA h8.next [.str s.name, i64 s.sec, i64 s.off, .bool s.glob, .bool s.weak] := bA
      have FA : Kept h8 hA := ⟨by omega, fun b hb => by rw [fA.same b (by omega), f9.same b hb]⟩
      have mdA := md8.fix FA (by omega)
      have bkA := bk8.fix FA (by omega)
      (try simp only [wk, wl, wx, reduceLT, reduceEqDiff, Nat.reduceBEq, reduceIte])
      have lkA := tab2 (E := E g) (z := zGl) (k := s.name) mdA ty101 rfl ty9 rfl ty174 rfl
      ((repeat refine WC.seq ?_); refine WC.draw (plans := pl33_11) (by kernel_rfl) ?_; simp only [pl33_11, List.mem_cons, List.not_mem_nil, or_false, forall_eq_or_imp, forall_eq])
      (try simp (maxSteps := 2000000) only [wk, wl, wx, reduceLT, reduceEqDiff, Nat.reduceBEq, reduceIte, wd, Chk, and_true, true_and, t0, fa105_3, fa95_0, Nat.zero_add, bkA.at ty101 rfl, bA.at ty9 rfl, o_lookup, w_lookup, lkA])
      refine wop_alloc ty174 ?_
      intro hB bB nB fB
      have mdB := mdA.fix fB (by omega)
      have bkB := bkA.fix fB (by omega)
      have cB := bA.fix fB (by omega)
      have lkB := tab2 (E := E g) (z := zGl) (k := s.name) mdB ty101 rfl ty9 rfl ty174 rfl
      (try simp (maxSteps := 2000000) only [wk, wl, wx, reduceLT, reduceEqDiff, Nat.reduceBEq, reduceIte, wd, Chk, and_true, true_and, t0, fa105_3, fa95_0, Nat.zero_add, bkB.at ty101 rfl, cB.at ty9 rfl, o_lookup, w_lookup, lkB])
      refine sat_store bB ty174 rfl (Nat.le_refl 8) (glV_one _) ?_
      intro hC bC nC fC
      have FC : Kept hA hC := ⟨by omega, fun b hb => by rw [fC.same b (by omega), fB.same b hb]⟩
      have mdC := mdA.fix FC (by omega)
      have bkC := bkA.fix FC (by omega)
      have cC := bA.fix FC (by omega)
      have lkC := tab2 (E := E g) (z := zGl) (k := s.name) mdC ty101 rfl ty9 rfl ty174 rfl
      (try simp (maxSteps := 2000000) only [wk, wl, wx, reduceLT, reduceEqDiff, Nat.reduceBEq, reduceIte, wd, Chk, and_true, true_and, t0, fa105_3, fa95_0, Nat.zero_add, bkC.at ty101 rfl, cC.at ty9 rfl, o_lookup, w_lookup, lkC])
      have FT : Kept hj hC := ⟨by omega, fun b hb => by rw [FC.same b (by omega), FA.same b (by omega), F8.same b hb]⟩
      have mST := mj.fix FT (by omega)
      ((repeat refine WC.seq ?_); refine WC.run ?_)
      by_cases hsec : s.sec = 0
      ·cases hw : s.weak with
       | true =>
        rw [if_neg (by rintro ⟨_, q, _⟩; rw [hw] at q; cases q)] at hS
        (try simp only [wk, wl, wx, reduceLT, reduceEqDiff, Nat.reduceBEq, reduceIte, fa95_1, fa95_4, Nat.zero_add, cC.at ty3 rfl, cC.at ty4 rfl, i64, ieq_t hsec, un, un_not, hw, Bool.not_true])
        (repeat refine WC.seq ?_)
        refine WC.cond (b := false) (by (try simp only [wk, wl, wx, reduceLT, reduceEqDiff, Nat.reduceBEq, reduceIte]); (try simp); (try omega)) (WC.skip ?_)
        (try simp only [wk, wl, wx, reduceLT, reduceEqDiff, Nat.reduceBEq, reduceIte, nb3])
        ((repeat refine WC.seq ?_); refine WC.run ?_)
        (try simp only [wk, wl, wx, reduceLT, reduceEqDiff, Nat.reduceBEq, reduceIte, t26, bin_add])
        refine ⟨_, ?_, _, j + 1, S2, rfl, ⟨by omega, fun b hb => by rw [FT.same b (by omega), fj.same b hb]⟩, rfl, by omega, ?_⟩
        ·omega
        (try simp only [wk, wl, wx, reduceLT, reduceEqDiff, Nat.reduceBEq, reduceIte, t0, t2, t3, t5, t14, t15, t16, t24, t25])
        refine ⟨trivial, trivial, trivial, trivial, trivial, trivial, trivial, trivial, trivial, ?_, mST, hS⟩
        rw [wrap64 (by omega) (by omega)]; rfl
       | false =>
        cases hal : al s.name D with
        | some G =>
         rw [if_neg (by rintro ⟨_, _, q⟩; rw [hal] at q; cases q)] at hS
         (try simp only [wk, wl, wx, reduceLT, reduceEqDiff, Nat.reduceBEq, reduceIte, fa95_1, fa95_4, Nat.zero_add, cC.at ty3 rfl, cC.at ty4 rfl, i64, ieq_t hsec, un, un_not, hw, Bool.not_true, Bool.not_false, hal, Option.isSome_some])
         (repeat refine WC.seq ?_)
         refine WC.cond (b := false) (by (try simp only [wk, wl, wx, reduceLT, reduceEqDiff, Nat.reduceBEq, reduceIte]); (try simp); (try omega)) (WC.skip ?_)
         (try simp only [wk, wl, wx, reduceLT, reduceEqDiff, Nat.reduceBEq, reduceIte, nb3])
         ((repeat refine WC.seq ?_); refine WC.run ?_)
         (try simp only [wk, wl, wx, reduceLT, reduceEqDiff, Nat.reduceBEq, reduceIte, t26, bin_add])
         refine ⟨_, ?_, _, j + 1, S2, rfl, ⟨by omega, fun b hb => by rw [FT.same b (by omega), fj.same b hb]⟩, rfl, by omega, ?_⟩
         ·omega
         (try simp only [wk, wl, wx, reduceLT, reduceEqDiff, Nat.reduceBEq, reduceIte, t0, t2, t3, t5, t14, t15, t16, t24, t25])
         refine ⟨trivial, trivial, trivial, trivial, trivial, trivial, trivial, trivial, trivial, ?_, mST, hS⟩
         rw [wrap64 (by omega) (by omega)]; rfl
        | none =>
         rw [if_pos ⟨hsec, hw, hal⟩] at hS
         rw [← hS] at hD
         simp only at hD
         rw [← hD]
         have br := b1.fix ff ⟨by omega, by omega⟩
         have br := ((((br.fix F5 (by omega)).fix f6 (by omega)).fix fj ⟨by omega, by omega⟩).fix FT (by omega))
         (try simp only [wk, wl, wx, reduceLT, reduceEqDiff, Nat.reduceBEq, reduceIte, fa95_1, fa95_4, Nat.zero_add, cC.at ty3 rfl, cC.at ty4 rfl, i64, ieq_t hsec, un, un_not, hw, Bool.not_true, Bool.not_false, hal, Option.isSome_none])
         (repeat refine WC.seq ?_)
         refine WC.cond (b := true) (by (try simp only [wk, wl, wx, reduceLT, reduceEqDiff, Nat.reduceBEq, reduceIte]); (try simp); (try omega)) ?_
         (try simp only [wk, wl, wx, reduceLT, reduceEqDiff, Nat.reduceBEq, reduceIte])
         ((repeat refine WC.seq ?_); refine WC.run ?_)
         (try simp only [wk, wl, wx, reduceLT, reduceEqDiff, Nat.reduceBEq, reduceIte, t3])
         refine (bad_ok).mono fun v hb ⟨eb, fb⟩ => ?_
         subst eb
         have xb := fb.next
         (try simp only [wk, wl, wx, reduceLT, reduceEqDiff, Nat.reduceBEq, reduceIte, t2])
         refine sat_store (br.fix fb (by omega)) ty35 rfl (Nat.le_refl 2) (fault_one _) ?_
         intro hc bc nc fc
         have lc : loadP (E g) hc 35 (.ptr h.next 0) = some (.agg (faultV ((i : Int), 22))) := bc.agg ty35 rfl (Nat.le_refl 2)
         (try simp only [wk, wl, wx, reduceLT, reduceEqDiff, Nat.reduceBEq, reduceIte])
         refine WC.ret ?_
         (try simp only [wk, wl, wx, reduceLT, reduceEqDiff, Nat.reduceBEq, reduceIte, t2, lc])
         exact ⟨⟨by omega, fun b hb => by rw [fc.same b (by omega), fb.same b (by omega), FT.same b (by omega), fj.same b ⟨by omega, hb.2⟩, f6.same b (by omega), F5.same b (by omega), ff.same b ⟨by omega, hb.2⟩, f1.same b hb.1]⟩, by trivial⟩
      ·rw [if_neg (by rintro ⟨q, _⟩; exact hsec q)] at hS
       (try simp only [wk, wl, wx, reduceLT, reduceEqDiff, Nat.reduceBEq, reduceIte, fa95_1, fa95_4, Nat.zero_add, cC.at ty3 rfl, cC.at ty4 rfl, i64, ieq_f hsec, un])
       (repeat refine WC.seq ?_)
       refine WC.cond (b := false) (by (try simp only [wk, wl, wx, reduceLT, reduceEqDiff, Nat.reduceBEq, reduceIte]); (try simp); (try omega)) (WC.skip ?_)
       (try simp only [wk, wl, wx, reduceLT, reduceEqDiff, Nat.reduceBEq, reduceIte, nb3])
       ((repeat refine WC.seq ?_); refine WC.run ?_)
       (try simp only [wk, wl, wx, reduceLT, reduceEqDiff, Nat.reduceBEq, reduceIte, t26, bin_add])
       refine ⟨_, ?_, _, j + 1, S2, rfl, ⟨by omega, fun b hb => by rw [FT.same b (by omega), fj.same b hb]⟩, rfl, by omega, ?_⟩
       ·omega
       (try simp only [wk, wl, wx, reduceLT, reduceEqDiff, Nat.reduceBEq, reduceIte, t0, t2, t3, t5, t14, t15, t16, t24, t25])
       refine ⟨trivial, trivial, trivial, trivial, trivial, trivial, trivial, trivial, trivial, ?_, mST, hS⟩
       rw [wrap64 (by omega) (by omega)]; rfl
    ·refine WC.cond (b := false) (by (try simp only [wk, wl, wx, reduceLT, reduceEqDiff, Nat.reduceBEq, reduceIte]); (try simp); (try omega)) (WC.exit ?_)
     have : j = L[i].2.rels.length := by omega
     subst this
     rw [List.drop_length] at hS
     simp only [resR] at hS
     rw [← hS] at hD
     (try simp only [wk, wl, wx, reduceLT, reduceEqDiff, Nat.reduceBEq, reduceIte, nb2])
     ((repeat refine WC.seq ?_); refine WC.run ?_)
     (try simp only [wk, wl, wx, reduceLT, reduceEqDiff, Nat.reduceBEq, reduceIte, t16, bin_add])
     have FH : Fix (fun b => b < h1.next ∧ b ≠ sb) h1 hj := ⟨by omega, fun b hb => by rw [fj.same b ⟨by omega, hb.2⟩, f6.same b (by omega), F5.same b (by omega), ff.same b hb]⟩
     refine ⟨_, ?_, _, i + 1, S2, rfl, FH, rfl, by omega, ?_⟩
     ·omega
     (try simp only [wk, wl, wx, reduceLT, reduceEqDiff, Nat.reduceBEq, reduceIte, t0, t2, t14, t15])
     refine ⟨trivial, trivial, trivial, trivial, ?_, mj, hD⟩
     rw [wrap64 (by omega) (by omega)]; rfl
   all_goals (try simp only [wk, wl, wx, reduceLT, reduceEqDiff, Nat.reduceBEq, reduceIte, t0, t2, t14, t15, t16])
   all_goals (first | done | rfl | trivial | simp)
  ·refine WC.cond (b := false) (by (try simp only [wk, wl, wx, reduceLT, reduceEqDiff, Nat.reduceBEq, reduceIte]); (try simp); (try omega)) (WC.exit ?_)
   have : i = L.length := by omega
   subst this
   have hD0 : resL D 0 (L.map (·.2)) [] = .ok S := by
    rw [← hD, List.drop_eq_nil_of_le (by simp)]; rfl
   rw [hD0]
   have br := b1.fix ff ⟨by omega, by omega⟩
   (try simp only [wk, wl, wx, reduceLT, reduceEqDiff, Nat.reduceBEq, reduceIte])
   ((repeat refine WC.seq ?_); refine WC.run ?_)
   (try simp only [wk, wl, wx, reduceLT, reduceEqDiff, Nat.reduceBEq, reduceIte, build35_0, t2])
   refine sat_store br ty35 rfl (Nat.le_refl 2) (fault_one _) ?_
   intro h9 b9 n9 f9
   have l9 : loadP (E g) h9 35 (.ptr h.next 0) = some (.agg (faultV (0, 0))) := b9.agg ty35 rfl (Nat.le_refl 2)
   (try simp only [wk, wl, wx, reduceLT, reduceEqDiff, Nat.reduceBEq, reduceIte])
   refine WC.ret ?_
   (try simp only [wk, wl, wx, reduceLT, reduceEqDiff, Nat.reduceBEq, reduceIte, t2, l9])
   exact ⟨⟨by omega, fun b hb => by rw [f9.same b (by omega), ff.same b ⟨by omega, hb.2⟩, f1.same b hb.1]⟩, by trivial, mS.fix f9 (by omega)⟩
 all_goals (try simp only [wk, wl, wx, reduceLT, reduceEqDiff, Nat.reduceBEq, reduceIte])
 all_goals (first | done | rfl | trivial | simp)
end Go.Proofs.OP
