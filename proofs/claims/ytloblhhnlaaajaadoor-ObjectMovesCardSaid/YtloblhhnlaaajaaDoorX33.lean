/- Walks: (*linker).define. Printed by genL2.py. -/
import Derived.Test.YtloblhhnlaaajaaDoorX15
import Derived.Test.YtloblhhnlaaajaaDoorX32
set_option linter.unusedVariables false
set_option linter.unusedSimpArgs false
set_option linter.defProp false
set_option linter.unusedSimpArgs false
namespace Go.Proofs.OP
open Go Go.Ev
open Go.Proofs
open Nat (reduceLT reduceEqDiff)
variable {g : T (List V)}

structure GlD where
 addr : Int
 weak : Bool
 obj : Nat
 sym : SymD
def glV (G : GlD) : List V := [i64 G.addr, .bool G.weak, i64 (G.obj : Int)] ++ symV G.sym
def zSym : SymD := ⟨[], 0, 0, false, false⟩
def zGl : GlD := ⟨0, false, 0, zSym⟩
def dV (G : GlD) : V := .agg (glV G)
abbrev Dm := List (List UInt8 × GlD)
abbrev lkV (ls : V) (base : Int) (st : V) (db sb : Nat) (im : List V) : List V := [ls, i64 base, st, .map db, .map sb] ++ im
def defS (i : Nat) : List SymD → Dm → Except (Int × Int) Dm
 | [], D => .ok D
 | s :: r, D => if s.sec = 0 ∨ s.glob = false then defS i r D else
  match al s.name D with
  | none => defS i r (ia s.name ⟨0, s.weak, i, s⟩ D)
  | some G => if s.weak = true then defS i r D else if G.weak = true then defS i r (ia s.name ⟨0, s.weak, i, s⟩ D) else .error ((i : Int), 38)
def defL : Nat → List ObjD → Dm → Except (Int × Int) Dm
 | _, [], D => .ok D
 | i, o :: r, D => match defS i o.syms D with
  | .error f => .error f
  | .ok D' => defL (i + 1) r D'
theorem drop_cons {α : Type} {L : List α} {i : Nat} (hi : i < L.length) : L.drop i = L[i] :: L.drop (i + 1) := List.drop_eq_getElem_cons hi
theorem build174 {w : Bool} {i : Int} {s : SymD} : buildV (E g) 174 [(1, .bool w), (2, .int .i64 i), (3, .agg (symV s))] = some (.agg ([i64 0, .bool w, .int .i64 i] ++ symV s)) := by
 simp only [buildV, ty174, fillAll, nth, sizeOf_of ty2, sizeOf_of ty4, sizeOf_of ty3, sizeOf_of ty95, List.all_cons, List.all_nil, ty2, ty4, ty3, ty95, Option.isSome_some, Bool.and_true, Bool.not_true, cond_false]
 rfl
theorem build35_0 : buildV (E g) 35 [] = some (.agg (faultV (0, 0))) := by
 simp only [buildV, ty35, fillAll, List.all_cons, List.all_nil, ty3, ty33, Option.isSome_some, Bool.and_true, Bool.not_true, cond_false]
 rfl
theorem fault_one (p : Int × Int) : (faultV p).all V.one = true := rfl
theorem glV_one (G : GlD) : (glV G).all V.one = true := rfl

set_option maxRecDepth 100000 in
set_option maxHeartbeats 16000000 in
theorem define_ok {n0 kb db sb : Nat} {h : H} {ls st : V} {L : List (Oc × ObjD)} {base : Int} {im : List V} (hn0 : n0 ≤ h.next) (a : Obs g h (· < n0) ls L) (fL : ∀ p ∈ L, Fits p.2) (lL : L.length < 2 ^ 30)
  (bk : Has h kb (lkV ls base st db sb im)) (md : Mq h db (mv dV [])) (hkb : kb < h.next) (hdb : db < h.next) (kd : kb ≠ db) (k0 : n0 ≤ kb) (d0 : n0 ≤ db) :
  WF (E g) 32 [.ptr kb 0] h fun v h' => Fix (fun b => b < h.next ∧ b ≠ db) h h' ∧ match defL 0 (L.map (·.2)) [] with
   | .error f => v = .agg (faultV f)
   | .ok D => v = .agg (faultV (0, 0)) ∧ Mq h' db (mv dV D) := by
 refine WF.enter fn32 rfl ?_
 ((repeat refine WC.seq ?_); refine WC.run ?_)
 (try simp only [wk, wl, wx, reduceLT, reduceEqDiff, Nat.reduceBEq, reduceIte])
 refine wop_alloc ty35 ?_
 intro h1 b1 n1 f1
 have b1 : Has h1 h.next (faultV (0, 0)) := b1
 (try simp only [wk, wl, wx, reduceLT, reduceEqDiff, Nat.reduceBEq, reduceIte])
 have a1 := a.fix f1 fun b hb => by omega
 have bk1 := bk.fix f1 hkb
 have l1 : loadP (E g) h1 38 (.ptr kb 0) = some ls := bk1.at ty38 rfl 0
 ((repeat refine WC.seq ?_); refine WC.run ?_)
 (try simp only [wk, wl, wx, reduceLT, reduceEqDiff, Nat.reduceBEq, reduceIte, fa105_0, Nat.zero_add, l1, Sl.lenB a1.sl ty38 rfl])
 (repeat refine WC.seq ?_)
 refine WC.block ?_
 refine WC.while (fun m fr hh => ∃ ts i D, fr = ⟨ts, 82, [], 32, none⟩ ∧ Fix (fun b => b < h1.next ∧ b ≠ db) h1 hh ∧ m = L.length - i ∧ i ≤ L.length ∧ ts.get 0 = some (.ptr kb 0) ∧ ts.get 2 = some (.ptr h.next 0) ∧ ts.get 12 = some ls ∧ ts.get 13 = some (.int .i64 L.length) ∧ ts.get 14 = some (.int .i64 i) ∧ Mq hh db (mv dV D) ∧ defL i ((L.map (·.2)).drop i) D = defL 0 (L.map (·.2)) []) ?_ ⟨_, 0, [], rfl, Fix.refl _ _, rfl, by omega, ?_, ?_, ?_, ?_, ?_, md.fix f1 hdb, rfl⟩
 ·rintro m fr hh ⟨ts, i, D, rfl, ff, rfl, hi, t0, t2, t12, t13, t14, mD, hD⟩
  have xh := ff.next
  have ah := a1.fix ff fun b hb => by omega
  have bkh := bk1.fix ff ⟨by omega, kd⟩
  ((repeat refine WC.seq ?_); refine WC.run ?_)
  (try simp only [wk, wl, wx, reduceLT, reduceEqDiff, Nat.reduceBEq, reduceIte, t13, t14])
  (repeat refine WC.seq ?_)
  by_cases hlt : i < L.length
  ·refine WC.cond (b := true) (by (try simp only [wk, wl, wx, reduceLT, reduceEqDiff, Nat.reduceBEq, reduceIte]); (try simp); (try omega)) (WC.skip ?_)
   (try simp only [wk, wl, wx, reduceLT, reduceEqDiff, Nat.reduceBEq, reduceIte])
   obtain ⟨p, p1, p2⟩ := ah.sl.at (fun _ => rfl) ty38 rfl ty77 rfl (by decide) rfl hlt
   have p2 := p2 hh fun _ _ _ _ _ => rfl
   have hmem := List.getElem_mem hlt
   have obi := ah.ob _ hmem
   have fit := fL _ hmem
   have fsy := fit.syms
   have hD' : defL i ((L.map (·.2)).drop i) D = match defS i L[i].2.syms D with
     | .error f => .error f
     | .ok D' => defL (i + 1) ((L.map (·.2)).drop (i + 1)) D' := by
    rw [drop_cons (by simpa using hlt), List.getElem_map]; rfl
   rw [hD'] at hD
   (repeat refine WC.seq ?_)
   refine WC.block ?_
   ((repeat refine WC.seq ?_); refine WC.run ?_)
   (try simp only [wk, wl, wx, reduceLT, reduceEqDiff, Nat.reduceBEq, reduceIte, t12, t14, p1, p2])
   refine wop_alloc ty77 ?_
   intro h4 b4 n4 f4
   (try simp only [wk, wl, wx, reduceLT, reduceEqDiff, Nat.reduceBEq, reduceIte])
   refine sat_store b4 ty77 rfl (Nat.le_refl 7) (Oc.one obi) ?_
   intro h5 b5 n5 f5
   have b5 : Has h5 hh.next [.str L[i].2.name, L[i].1.code, L[i].1.data, L[i].1.syms, L[i].1.rels, L[i].1.needs, .str L[i].2.entry] := b5
   have F5 : Kept hh h5 := ⟨by omega, fun b hb => by rw [f5.same b (by omega), f4.same b hb]⟩
   have ob5 := obi.fix F5 fun b hb => by omega
   have l5 : loadP (E g) h5 74 (.ptr hh.next 3) = some L[i].1.syms := b5.at ty74 rfl 3
   have mD5 := mD.fix F5 (by omega)
   have bk5 := bkh.fix F5 (by omega)
   (try simp only [wk, wl, wx, reduceLT, reduceEqDiff, Nat.reduceBEq, reduceIte])
   ((repeat refine WC.seq ?_); refine WC.run ?_)
   (try simp only [wk, wl, wx, reduceLT, reduceEqDiff, Nat.reduceBEq, reduceIte, fa77_3, Nat.zero_add, l5, Sl.lenB ob5.syms ty74 rfl])
   (repeat refine WC.seq ?_)
   refine WC.block ?_
   refine WC.while (fun m fr hj => ∃ ts j D2, fr = ⟨ts, 82, [], 32, none⟩ ∧ Fix (fun b => b < h5.next ∧ b ≠ db) h5 hj ∧ m = L[i].2.syms.length - j ∧ j ≤ L[i].2.syms.length ∧ ts.get 0 = some (.ptr kb 0) ∧ ts.get 2 = some (.ptr h.next 0) ∧ ts.get 3 = some (.int .i64 i) ∧ ts.get 12 = some ls ∧ ts.get 13 = some (.int .i64 L.length) ∧ ts.get 14 = some (.int .i64 i) ∧ ts.get 20 = some L[i].1.syms ∧ ts.get 21 = some (.int .i64 L[i].2.syms.length) ∧ ts.get 22 = some (.int .i64 j) ∧ Mq hj db (mv dV D2) ∧ defS i (L[i].2.syms.drop j) D2 = defS i L[i].2.syms D) ?_ ⟨_, 0, D, rfl, Fix.refl _ _, rfl, by omega, ?_, ?_, ?_, ?_, ?_, ?_, ?_, ?_, ?_, mD5, rfl⟩
   ·rintro m fr hj ⟨ts, j, D2, rfl, fj, rfl, hjl, t0, t2, t3, t12, t13, t14, t20, t21, t22, mj, hS⟩
    have xj := fj.next
    have obj := ob5.fix fj fun b hb => by omega
    have bkj := bk5.fix fj ⟨by omega, kd⟩
    ((repeat refine WC.seq ?_); refine WC.run ?_)
    (try simp only [wk, wl, wx, reduceLT, reduceEqDiff, Nat.reduceBEq, reduceIte, t21, t22])
    (repeat refine WC.seq ?_)
    by_cases hlj : j < L[i].2.syms.length
    ·refine WC.cond (b := true) (by (try simp only [wk, wl, wx, reduceLT, reduceEqDiff, Nat.reduceBEq, reduceIte]); (try simp); (try omega)) (WC.skip ?_)
     (try simp only [wk, wl, wx, reduceLT, reduceEqDiff, Nat.reduceBEq, reduceIte])
     obtain ⟨p, p1, p2⟩ := obj.syms.at symV_length ty74 rfl ty95 rfl (by decide) rfl hlj
     have p2 := p2 hj fun _ _ _ _ _ => rfl
     generalize hs : L[i].2.syms[j] = s at p2
     have hS' : defS i (L[i].2.syms.drop j) D2 = defS i (s :: L[i].2.syms.drop (j + 1)) D2 := by rw [drop_cons hlj, hs]
     rw [hS'] at hS
     simp only [defS] at hS
     (repeat refine WC.seq ?_)
     refine WC.block ?_
     ((repeat refine WC.seq ?_); refine WC.run ?_)
     (try simp only [wk, wl, wx, reduceLT, reduceEqDiff, Nat.reduceBEq, reduceIte, t20, t22, p1, p2])
     refine wop_alloc ty95 ?_
     intro h6 b6 n6 f6
     (try simp only [wk, wl, wx, reduceLT, reduceEqDiff, Nat.reduceBEq, reduceIte])
     refine sat_store b6 ty95 rfl (Nat.le_refl 5) (symV_one s) ?_
     intro h7 b7 n7 f7
     have b7' : Has h7 hj.next (symV s) := b7
     have b7 : Has h7 hj.next [.str s.name, i64 s.sec, i64 s.off, .bool s.glob, .bool s.weak] := b7
     have F7 : Kept hj h7 := ⟨by omega, fun b hb => by rw [f7.same b (by omega), f6.same b hb]⟩
     have m7 := mj.fix F7 (by omega)
     have bk7 := bkj.fix F7 (by omega)
     (try simp only [wk, wl, wx, reduceLT, reduceEqDiff, Nat.reduceBEq, reduceIte])
     ((repeat refine WC.seq ?_); refine WC.run ?_)
     by_cases hsec : s.sec = 0
     ·rw [if_pos (.inl hsec)] at hS
      (try simp only [wk, wl, wx, reduceLT, reduceEqDiff, Nat.reduceBEq, reduceIte, fa95_1, Nat.zero_add, b7.at ty3 rfl, i64, ieq_t hsec, un])
      (repeat refine WC.seq ?_)
      refine WC.cond (b := true) (by (try simp only [wk, wl, wx, reduceLT, reduceEqDiff, Nat.reduceBEq, reduceIte]); (try simp); (try omega)) (WC.exit ?_)
      (try simp only [wk, wl, wx, reduceLT, reduceEqDiff, Nat.reduceBEq, reduceIte, nb3])
      ((repeat refine WC.seq ?_); refine WC.run ?_)
      (try simp only [wk, wl, wx, reduceLT, reduceEqDiff, Nat.reduceBEq, reduceIte, t22, bin_add])
      refine ⟨_, ?_, _, j + 1, D2, rfl, ⟨by omega, fun b hb => by rw [F7.same b (by omega), fj.same b hb]⟩, rfl, by omega, ?_⟩
      ·omega
      (try simp only [wk, wl, wx, reduceLT, reduceEqDiff, Nat.reduceBEq, reduceIte, t0, t2, t3, t12, t13, t14, t20, t21])
      refine ⟨trivial, trivial, trivial, trivial, trivial, trivial, trivial, trivial, ?_, m7, hS⟩
      rw [wrap64 (by omega) (by omega)]; rfl
     ·cases hgl : s.glob with
      | false =>
       rw [if_pos (.inr hgl)] at hS
       (try simp only [wk, wl, wx, reduceLT, reduceEqDiff, Nat.reduceBEq, reduceIte, fa95_1, fa95_3, Nat.zero_add, b7.at ty3 rfl, b7.at ty4 rfl, i64, ieq_f hsec, un, un_not, hgl])
       (repeat refine WC.seq ?_)
       refine WC.cond (b := true) (by (try simp only [wk, wl, wx, reduceLT, reduceEqDiff, Nat.reduceBEq, reduceIte]); (try simp); (try omega)) (WC.exit ?_)
       (try simp only [wk, wl, wx, reduceLT, reduceEqDiff, Nat.reduceBEq, reduceIte, nb3])
       ((repeat refine WC.seq ?_); refine WC.run ?_)
       (try simp only [wk, wl, wx, reduceLT, reduceEqDiff, Nat.reduceBEq, reduceIte, t22, bin_add])
       refine ⟨_, ?_, _, j + 1, D2, rfl, ⟨by omega, fun b hb => by rw [F7.same b (by omega), fj.same b hb]⟩, rfl, by omega, ?_⟩
       ·omega
       (try simp only [wk, wl, wx, reduceLT, reduceEqDiff, Nat.reduceBEq, reduceIte, t0, t2, t3, t12, t13, t14, t20, t21])
       refine ⟨trivial, trivial, trivial, trivial, trivial, trivial, trivial, trivial, ?_, m7, hS⟩
       rw [wrap64 (by omega) (by omega)]; rfl
      | true =>
       rw [if_neg (by rintro (q | q); · exact hsec q
                      ·rw [hgl] at q; cases q)] at hS
       (try simp only [wk, wl, wx, reduceLT, reduceEqDiff, Nat.reduceBEq, reduceIte, fa95_1, fa95_3, Nat.zero_add, b7.at ty3 rfl, b7.at ty4 rfl, i64, ieq_f hsec, un, un_not, hgl])
       (repeat refine WC.seq ?_)
       refine WC.cond (b := false) (by (try simp only [wk, wl, wx, reduceLT, reduceEqDiff, Nat.reduceBEq, reduceIte]); (try simp); (try omega)) (WC.skip ?_)
       (try simp only [wk, wl, wx, reduceLT, reduceEqDiff, Nat.reduceBEq, reduceIte])
       have lk7 := tab2 (E := E g) (z := zGl) (k := s.name) m7 ty101 rfl ty9 rfl ty174 rfl
       ((repeat refine WC.seq ?_); refine WC.draw (plans := pl32_8) (by kernel_rfl) ?_; simp only [pl32_8, List.mem_cons, List.not_mem_nil, or_false, forall_eq_or_imp, forall_eq])
       (try simp (maxSteps := 2000000) only [wk, wl, wx, reduceLT, reduceEqDiff, Nat.reduceBEq, reduceIte, wd, Chk, and_true, true_and, t0, fa105_3, fa95_0, Nat.zero_add, bk7.at ty101 rfl, b7.at ty9 rfl, o_lookup, w_lookup, lk7])
       refine wop_alloc ty174 ?_
       intro h8 b8 n8 f8
       have m8 := m7.fix f8 (by omega)
       have bk8 := bk7.fix f8 (by omega)
       have c8 := b7.fix f8 (by omega)
       have lk8 := tab2 (E := E g) (z := zGl) (k := s.name) m8 ty101 rfl ty9 rfl ty174 rfl
       (try simp (maxSteps := 2000000) only [wk, wl, wx, reduceLT, reduceEqDiff, Nat.reduceBEq, reduceIte, wd, Chk, and_true, true_and, t0, fa105_3, fa95_0, Nat.zero_add, bk8.at ty101 rfl, c8.at ty9 rfl, o_lookup, w_lookup, lk8])
       refine sat_store b8 ty174 rfl (Nat.le_refl 8) (glV_one _) ?_
       intro h9 b9 n9 f9
       have F9 : Kept h7 h9 := ⟨by omega, fun b hb => by rw [f9.same b (by omega), f8.same b hb]⟩
       have m9 := m7.fix F9 (by omega)
       have bk9 := bk7.fix F9 (by omega)
       have c9' := b7'.fix F9 (by omega)
       have c9 := b7.fix F9 (by omega)
       have lc9 : loadP (E g) h9 95 (.ptr hj.next 0) = some (.agg (symV s)) := c9'.agg ty95 rfl (Nat.le_refl 5)
       have lk9 := tab2 (E := E g) (z := zGl) (k := s.name) m9 ty101 rfl ty9 rfl ty174 rfl
       (try simp (maxSteps := 2000000) only [wk, wl, wx, reduceLT, reduceEqDiff, Nat.reduceBEq, reduceIte, wd, Chk, and_true, true_and, t0, fa105_3, fa95_0, Nat.zero_add, bk9.at ty101 rfl, c9.at ty9 rfl, o_lookup, w_lookup, lk9])
       have b9 : Has h9 h7.next (glV ((al s.name D2).getD zGl)) := b9
       have w9 : loadP (E g) h9 4 (.ptr h7.next 1) = some (.bool ((al s.name D2).getD zGl).weak) := b9.at ty4 rfl 1
       ((repeat refine WC.seq ?_); refine WC.run ?_)
       cases hal : al s.name D2 with
       | none =>
        rw [hal] at hS
        simp only at hS
        (try simp only [wk, wl, wx, reduceLT, reduceEqDiff, Nat.reduceBEq, reduceIte, hal, Option.isSome_none, un])
        (repeat refine WC.seq ?_)
        refine WC.cond (b := false) (by (try simp only [wk, wl, wx, reduceLT, reduceEqDiff, Nat.reduceBEq, reduceIte]); (try simp); (try omega)) (WC.skip ?_)
        (try simp only [wk, wl, wx, reduceLT, reduceEqDiff, Nat.reduceBEq, reduceIte])
        ((repeat refine WC.seq ?_); refine WC.run ?_)
        (try simp only [wk, wl, wx, reduceLT, reduceEqDiff, Nat.reduceBEq, reduceIte, hal, Option.isSome_none, un, un_not, Bool.not_false])
        (repeat refine WC.seq ?_)
        refine WC.cond (b := true) (by (try simp only [wk, wl, wx, reduceLT, reduceEqDiff, Nat.reduceBEq, reduceIte]); (try simp); (try omega)) ?_
        (try simp only [wk, wl, wx, reduceLT, reduceEqDiff, Nat.reduceBEq, reduceIte])
        ((repeat refine WC.seq ?_); refine WC.draw (plans := pl32_12) (by kernel_rfl) ?_; simp only [pl32_12, List.mem_cons, List.not_mem_nil, or_false, forall_eq_or_imp, forall_eq])
        (try simp (maxSteps := 2000000) only [wk, wl, wx, reduceLT, reduceEqDiff, Nat.reduceBEq, reduceIte, wd, Chk, and_true, true_and, t0, t3, fa105_3, fa95_0, fa95_4, Nat.zero_add, bk9.at ty101 rfl, c9.at ty9 rfl, c9.at ty4 rfl, lc9, build174, i64, w_mapUpdate])
        have hv : (V.agg (V.int .i64 0 :: V.bool s.weak :: V.int .i64 i :: symV s)) = dV ⟨0, s.weak, i, s⟩ := rfl
        rw [hv]
        refine sat_updateQ m9 ty101 rfl ty9 rfl ty174 ?_
        intro hu mu nu fu
        rw [ins_mv] at mu
        (try simp (maxSteps := 2000000) only [wk, wl, wx, reduceLT, reduceEqDiff, Nat.reduceBEq, reduceIte, wd, Chk, and_true, true_and])

        (try simp only [wk, wl, wx, reduceLT, reduceEqDiff, Nat.reduceBEq, reduceIte, nb3])
        ((repeat refine WC.seq ?_); refine WC.run ?_)
        (try simp only [wk, wl, wx, reduceLT, reduceEqDiff, Nat.reduceBEq, reduceIte, t22, bin_add])
        refine ⟨_, ?_, _, j + 1, (ia s.name ⟨0, s.weak, i, s⟩ D2), rfl, ⟨by omega, fun b hb => by rw [fu.same b hb.2, F9.same b (by omega), F7.same b (by omega), fj.same b hb]⟩, rfl, by omega, ?_⟩
        ·omega
        (try simp only [wk, wl, wx, reduceLT, reduceEqDiff, Nat.reduceBEq, reduceIte, t0, t2, t3, t12, t13, t14, t20, t21])
        refine ⟨trivial, trivial, trivial, trivial, trivial, trivial, trivial, trivial, ?_, mu, hS⟩
        rw [wrap64 (by omega) (by omega)]; rfl
       | some G =>
        rw [hal] at hS w9
        simp only [Option.getD_some] at hS w9
        cases hw : s.weak with
        | true =>
         rw [if_pos hw] at hS
         cases hG : G.weak with
         | true =>
          rw [hG] at w9
          (try simp only [wk, wl, wx, reduceLT, reduceEqDiff, Nat.reduceBEq, reduceIte, hal, Option.isSome_some, un, fa174_1, Nat.zero_add, w9, un_not, Bool.not_true])
          (repeat refine WC.seq ?_)
          refine WC.cond (b := false) (by (try simp only [wk, wl, wx, reduceLT, reduceEqDiff, Nat.reduceBEq, reduceIte]); (try simp); (try omega)) (WC.skip ?_)
          (try simp only [wk, wl, wx, reduceLT, reduceEqDiff, Nat.reduceBEq, reduceIte])
          ((repeat refine WC.seq ?_); refine WC.run ?_)
          (try simp only [wk, wl, wx, reduceLT, reduceEqDiff, Nat.reduceBEq, reduceIte, hal, Option.isSome_some, un, un_not, Bool.not_true, fa174_1, fa95_4, Nat.zero_add, w9, c9.at ty4 rfl, hw])
          (repeat refine WC.seq ?_)
          refine WC.cond (b := false) (by (try simp only [wk, wl, wx, reduceLT, reduceEqDiff, Nat.reduceBEq, reduceIte]); (try simp); (try omega)) (WC.skip ?_)
          (try simp only [wk, wl, wx, reduceLT, reduceEqDiff, Nat.reduceBEq, reduceIte, nb3])
          ((repeat refine WC.seq ?_); refine WC.run ?_)
          (try simp only [wk, wl, wx, reduceLT, reduceEqDiff, Nat.reduceBEq, reduceIte, t22, bin_add])
          refine ⟨_, ?_, _, j + 1, D2, rfl, ⟨by omega, fun b hb => by rw [F9.same b (by omega), F7.same b (by omega), fj.same b hb]⟩, rfl, by omega, ?_⟩
          ·omega
          (try simp only [wk, wl, wx, reduceLT, reduceEqDiff, Nat.reduceBEq, reduceIte, t0, t2, t3, t12, t13, t14, t20, t21])
          refine ⟨trivial, trivial, trivial, trivial, trivial, trivial, trivial, trivial, ?_, m9, hS⟩
          rw [wrap64 (by omega) (by omega)]; rfl
         | false =>
          rw [hG] at w9
          (try simp only [wk, wl, wx, reduceLT, reduceEqDiff, Nat.reduceBEq, reduceIte, hal, Option.isSome_some, un, fa174_1, fa95_4, Nat.zero_add, w9, un_not, Bool.not_true, Bool.not_false, c9.at ty4 rfl, hw])
          (repeat refine WC.seq ?_)
          refine WC.cond (b := false) (by (try simp only [wk, wl, wx, reduceLT, reduceEqDiff, Nat.reduceBEq, reduceIte]); (try simp); (try omega)) (WC.skip ?_)
          (try simp only [wk, wl, wx, reduceLT, reduceEqDiff, Nat.reduceBEq, reduceIte])
          ((repeat refine WC.seq ?_); refine WC.run ?_)
          (try simp only [wk, wl, wx, reduceLT, reduceEqDiff, Nat.reduceBEq, reduceIte, hal, Option.isSome_some, un, un_not, Bool.not_true, fa174_1, fa95_4, Nat.zero_add, w9, c9.at ty4 rfl, hw])
          (repeat refine WC.seq ?_)
          refine WC.cond (b := false) (by (try simp only [wk, wl, wx, reduceLT, reduceEqDiff, Nat.reduceBEq, reduceIte]); (try simp); (try omega)) (WC.skip ?_)
          (try simp only [wk, wl, wx, reduceLT, reduceEqDiff, Nat.reduceBEq, reduceIte, nb3])
          ((repeat refine WC.seq ?_); refine WC.run ?_)
          (try simp only [wk, wl, wx, reduceLT, reduceEqDiff, Nat.reduceBEq, reduceIte, t22, bin_add])
          refine ⟨_, ?_, _, j + 1, D2, rfl, ⟨by omega, fun b hb => by rw [F9.same b (by omega), F7.same b (by omega), fj.same b hb]⟩, rfl, by omega, ?_⟩
          ·omega
          (try simp only [wk, wl, wx, reduceLT, reduceEqDiff, Nat.reduceBEq, reduceIte, t0, t2, t3, t12, t13, t14, t20, t21])
          refine ⟨trivial, trivial, trivial, trivial, trivial, trivial, trivial, trivial, ?_, m9, hS⟩
          rw [wrap64 (by omega) (by omega)]; rfl
        | false =>
         rw [if_neg (by rw [hw]; decide)] at hS
         cases hG : G.weak with
         | true =>
          rw [if_pos hG] at hS
          rw [hG] at w9
          (try simp only [wk, wl, wx, reduceLT, reduceEqDiff, Nat.reduceBEq, reduceIte, hal, Option.isSome_some, un, fa174_1, Nat.zero_add, w9, un_not, Bool.not_true])
          (repeat refine WC.seq ?_)
          refine WC.cond (b := false) (by (try simp only [wk, wl, wx, reduceLT, reduceEqDiff, Nat.reduceBEq, reduceIte]); (try simp); (try omega)) (WC.skip ?_)
          (try simp only [wk, wl, wx, reduceLT, reduceEqDiff, Nat.reduceBEq, reduceIte])
          ((repeat refine WC.seq ?_); refine WC.run ?_)
          (try simp only [wk, wl, wx, reduceLT, reduceEqDiff, Nat.reduceBEq, reduceIte, hal, Option.isSome_some, un, un_not, Bool.not_true, Bool.not_false, fa174_1, fa95_4, Nat.zero_add, w9, c9.at ty4 rfl, hw])
          (repeat refine WC.seq ?_)
          refine WC.cond (b := true) (by (try simp only [wk, wl, wx, reduceLT, reduceEqDiff, Nat.reduceBEq, reduceIte]); (try simp); (try omega)) ?_
          (try simp only [wk, wl, wx, reduceLT, reduceEqDiff, Nat.reduceBEq, reduceIte])
          ((repeat refine WC.seq ?_); refine WC.draw (plans := pl32_12) (by kernel_rfl) ?_; simp only [pl32_12, List.mem_cons, List.not_mem_nil, or_false, forall_eq_or_imp, forall_eq])
          (try simp (maxSteps := 2000000) only [wk, wl, wx, reduceLT, reduceEqDiff, Nat.reduceBEq, reduceIte, wd, Chk, and_true, true_and, t0, t3, fa105_3, fa95_0, fa95_4, Nat.zero_add, bk9.at ty101 rfl, c9.at ty9 rfl, c9.at ty4 rfl, lc9, build174, i64, w_mapUpdate])
          have hv : (V.agg (V.int .i64 0 :: V.bool s.weak :: V.int .i64 i :: symV s)) = dV ⟨0, s.weak, i, s⟩ := rfl
          rw [hv]
          refine sat_updateQ m9 ty101 rfl ty9 rfl ty174 ?_
          intro hu mu nu fu
          rw [ins_mv] at mu
          (try simp (maxSteps := 2000000) only [wk, wl, wx, reduceLT, reduceEqDiff, Nat.reduceBEq, reduceIte, wd, Chk, and_true, true_and])

          (try simp only [wk, wl, wx, reduceLT, reduceEqDiff, Nat.reduceBEq, reduceIte, nb3])
          ((repeat refine WC.seq ?_); refine WC.run ?_)
          (try simp only [wk, wl, wx, reduceLT, reduceEqDiff, Nat.reduceBEq, reduceIte, t22, bin_add])
          refine ⟨_, ?_, _, j + 1, (ia s.name ⟨0, s.weak, i, s⟩ D2), rfl, ⟨by omega, fun b hb => by rw [fu.same b hb.2, F9.same b (by omega), F7.same b (by omega), fj.same b hb]⟩, rfl, by omega, ?_⟩
          ·omega
          (try simp only [wk, wl, wx, reduceLT, reduceEqDiff, Nat.reduceBEq, reduceIte, t0, t2, t3, t12, t13, t14, t20, t21])
          refine ⟨trivial, trivial, trivial, trivial, trivial, trivial, trivial, trivial, ?_, mu, hS⟩
          rw [wrap64 (by omega) (by omega)]; rfl
         | false =>
          rw [if_neg (by rw [hG]; decide)] at hS
          rw [hG] at w9
          rw [← hS] at hD
          simp only at hD
          rw [← hD]
          have br := b1.fix ff ⟨by omega, by omega⟩
          have br := (((br.fix F5 (by omega)).fix fj ⟨by omega, by omega⟩).fix F7 (by omega)).fix F9 (by omega)
          (try simp only [wk, wl, wx, reduceLT, reduceEqDiff, Nat.reduceBEq, reduceIte, hal, Option.isSome_some, un, fa174_1, fa95_4, Nat.zero_add, w9, un_not, Bool.not_true, Bool.not_false, c9.at ty4 rfl, hw])
          (repeat refine WC.seq ?_)
          refine WC.cond (b := true) (by (try simp only [wk, wl, wx, reduceLT, reduceEqDiff, Nat.reduceBEq, reduceIte]); (try simp); (try omega)) ?_
          (try simp only [wk, wl, wx, reduceLT, reduceEqDiff, Nat.reduceBEq, reduceIte])
          ((repeat refine WC.seq ?_); refine WC.run ?_)
          (try simp only [wk, wl, wx, reduceLT, reduceEqDiff, Nat.reduceBEq, reduceIte, t3])
          refine (bad_ok).mono fun v hb ⟨eb, fb⟩ => ?_
          subst eb
          have xb := fb.next
          (try simp only [wk, wl, wx, reduceLT, reduceEqDiff, Nat.reduceBEq, reduceIte, t2])
          refine sat_store (br.fix fb (by omega)) ty35 rfl (Nat.le_refl 2) (fault_one _) ?_
          intro hc bc nc fc
          have lc : loadP (E g) hc 35 (.ptr h.next 0) = some (.agg (faultV ((i : Int), 38))) := bc.agg ty35 rfl (Nat.le_refl 2)
          (try simp only [wk, wl, wx, reduceLT, reduceEqDiff, Nat.reduceBEq, reduceIte])
          refine WC.ret ?_
          (try simp only [wk, wl, wx, reduceLT, reduceEqDiff, Nat.reduceBEq, reduceIte, t2, lc])
          exact ⟨⟨by omega, fun b hb => by rw [fc.same b (by omega), fb.same b (by omega), F9.same b (by omega), F7.same b (by omega), fj.same b ⟨by omega, hb.2⟩, F5.same b (by omega), ff.same b ⟨by omega, hb.2⟩, f1.same b hb.1]⟩, by trivial⟩
    ·refine WC.cond (b := false) (by (try simp only [wk, wl, wx, reduceLT, reduceEqDiff, Nat.reduceBEq, reduceIte]); (try simp); (try omega)) (WC.exit ?_)
     have : j = L[i].2.syms.length := by omega
     subst this
     rw [List.drop_length] at hS
     simp only [defS] at hS
     rw [← hS] at hD
     (try simp only [wk, wl, wx, reduceLT, reduceEqDiff, Nat.reduceBEq, reduceIte, nb2])
     ((repeat refine WC.seq ?_); refine WC.run ?_)
     (try simp only [wk, wl, wx, reduceLT, reduceEqDiff, Nat.reduceBEq, reduceIte, t14, bin_add])
     have FH : Fix (fun b => b < h1.next ∧ b ≠ db) h1 hj := ⟨by omega, fun b hb => by rw [fj.same b ⟨by omega, hb.2⟩, F5.same b (by omega), ff.same b hb]⟩
     refine ⟨_, ?_, _, i + 1, D2, rfl, FH, rfl, by omega, ?_⟩
     ·omega
     (try simp only [wk, wl, wx, reduceLT, reduceEqDiff, Nat.reduceBEq, reduceIte, t0, t2, t12, t13])
     refine ⟨trivial, trivial, trivial, trivial, ?_, mj, hD⟩
     rw [wrap64 (by omega) (by omega)]; rfl
   all_goals (try simp only [wk, wl, wx, reduceLT, reduceEqDiff, Nat.reduceBEq, reduceIte, t0, t2, t12, t13, t14])
   all_goals (first | done | rfl | trivial | simp)
  ·refine WC.cond (b := false) (by (try simp only [wk, wl, wx, reduceLT, reduceEqDiff, Nat.reduceBEq, reduceIte]); (try simp); (try omega)) (WC.exit ?_)
   have : i = L.length := by omega
   subst this
   have hD0 : defL 0 (L.map (·.2)) [] = .ok D := by
    rw [← hD, List.drop_eq_nil_of_le (by simp)]; rfl
   rw [hD0]
   have br := b1.fix ff ⟨by omega, by omega⟩
   (try simp only [wk, wl, wx, reduceLT, reduceEqDiff, Nat.reduceBEq, reduceIte])
   ((repeat refine WC.seq ?_); refine WC.run ?_)
   (try simp only [wk, wl, wx, reduceLT, reduceEqDiff, Nat.reduceBEq, reduceIte, build35_0])
   (try simp only [wk, wl, wx, reduceLT, reduceEqDiff, Nat.reduceBEq, reduceIte, t2])
   refine sat_store br ty35 rfl (Nat.le_refl 2) (fault_one _) ?_
   intro h9 b9 n9 f9
   have l9 : loadP (E g) h9 35 (.ptr h.next 0) = some (.agg (faultV (0, 0))) := b9.agg ty35 rfl (Nat.le_refl 2)
   (try simp only [wk, wl, wx, reduceLT, reduceEqDiff, Nat.reduceBEq, reduceIte])
   refine WC.ret ?_
   (try simp only [wk, wl, wx, reduceLT, reduceEqDiff, Nat.reduceBEq, reduceIte, t2, l9])
   exact ⟨⟨by omega, fun b hb => by rw [f9.same b (by omega), ff.same b ⟨by omega, hb.2⟩, f1.same b hb.1]⟩, by trivial, mD.fix f9 (by omega)⟩
 all_goals (try simp only [wk, wl, wx, reduceLT, reduceEqDiff, Nat.reduceBEq, reduceIte])
 all_goals (first | done | rfl | trivial | simp)
end Go.Proofs.OP
