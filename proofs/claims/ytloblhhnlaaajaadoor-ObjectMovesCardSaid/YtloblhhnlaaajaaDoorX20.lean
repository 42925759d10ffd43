/- Walks: object.Check. -/
import Derived.Test.YtloblhhnlaaajaaDoorX15
import Derived.Test.YtloblhhnlaaajaaDoorX19
set_option linter.unusedVariables false
set_option linter.unusedSimpArgs false
set_option linter.defProp false
set_option linter.unusedSimpArgs false
namespace Go.Proofs.OP
open Go Go.Ev
open Go.Proofs
open Nat (reduceLT reduceEqDiff)
variable {g : T (List V)}

def orE (a b : Int) : Int := if a ≠ 0 then a else b
theorem orE_z {a b : Int} (h : a = 0) : orE a b = b := by unfold orE; simp [h]
theorem orE_nz {a b : Int} (h : a ≠ 0) : orE a b = a := by unfold orE; simp [h]
def tab : Nat → List SymD → List (List UInt8 × V)
 | _, [] => []
 | n, s :: r => (s.name, .int .i64 n) :: tab (n + 1) r
def fnd (k : List UInt8) : List SymD → Option Nat
 | [] => none
 | s :: r => if s.name = k then some 0 else (fnd k r).map (· + 1)
theorem tab_snoc : ∀ (n : Nat) (L : List SymD) (s : SymD), tab n (L ++ [s]) = tab n L ++ [(s.name, .int .i64 ((n + L.length : Nat) : Int))]
 | n, [], s => by simp [tab]
 | n, x :: r, s => by
  simp only [List.cons_append, tab, tab_snoc (n + 1) r s, List.length_cons]
  rw [show n + 1 + r.length = n + (r.length + 1) by omega]
theorem lk_tab (k : List UInt8) : ∀ (n : Nat) (L : List SymD), lk k (tab n L) = (fnd k L).map fun j => .int .i64 ((n + j : Nat) : Int)
 | n, [] => rfl
 | n, s :: r => by
  simp only [tab, lk, fnd]
  by_cases h : s.name = k
  ·rw [if_pos h, if_pos h]; rfl
  ·rw [if_neg h, if_neg h, lk_tab k (n + 1) r]
   cases fnd k r with
   | none => rfl
   | some j => simp only [Option.map_some]; rw [show n + 1 + j = n + (j + 1) by omega]
theorem fnd_some {k : List UInt8} : ∀ {L : List SymD} {j : Nat}, fnd k L = some j → ∃ h : j < L.length, L[j].name = k
 | [], j, h => by cases h
 | s :: r, j, h => by
  simp only [fnd] at h
  split at h
  ·injection h with h; subst h; exact ⟨by simp, by assumption⟩
  ·obtain ⟨j', h1, rfl⟩ := Option.map_eq_some_iff.1 h
   obtain ⟨q, q'⟩ := fnd_some h1
   exact ⟨by simpa using q, by simpa using q'⟩
theorem ins_none {k : List UInt8} {v : V} : ∀ {L : List (List UInt8 × V)}, lk k L = none → ins k v L = L ++ [(k, v)]
 | [], _ => rfl
 | p :: r, h => by
  simp only [lk] at h
  split at h
  ·cases h
  ·rename_i hp
   simp only [ins, if_neg hp, ins_none h, List.cons_append]
def hasN (k : List UInt8) (L : List SymD) : Bool := (fnd k L).isSome
theorem lk_isSome (k : List UInt8) (L : List SymD) : (lk k (tab 0 L)).isSome = hasN k L := by rw [lk_tab, hasN]; cases fnd k L <;> rfl

def namesT : List (List UInt8) → Int
 | [] => 0
 | x :: r => orE (nameT x) (namesT r)
def symsE (o : ObjD) : List SymD → List SymD → Int
 | _, [] => 0
 | p, x :: r => orE (symE o x (hasN x.name p)) (symsE o (p ++ [x]) r)
def relsE (o : ObjD) : List RelD → List RelD → Int
 | _, [] => 0
 | p, x :: r => orE (relE o p (hasN x.sym o.syms) x) (relsE o (p ++ [x]) r)
def needsE : List (List UInt8) → List (List UInt8) → Int
 | _, [] => 0
 | p, x :: r => orE (nameE x) (orE (if p.contains x = true then 38 else 0) (needsE (p ++ [x]) r))
def entE (o : ObjD) : Int := match fnd o.entry o.syms with
 | none => if o.entry = [] then 0 else 22
 | some j => if o.entry = [] then 0 else match o.syms[j]? with
  | none => 0
  | some s => if s.sec = 0 ∨ s.glob = false then 22 else 0
def checkE (o : ObjD) : Int := orE (limE o) (orE (namesT [o.name, o.entry]) (orE (symsE o [] o.syms) (orE (relsE o [] o.rels) (orE (needsE [] o.needs) (entE o)))))

structure Fits (o : ObjD) : Prop where
 code : o.code.length < 2 ^ 40
 data : o.data.length < 2 ^ 40
 syms : o.syms.length < 2 ^ 40
 rels : o.rels.length < 2 ^ 40
 needs : o.needs.length < 2 ^ 40

set_option maxRecDepth 100000 in
set_option maxHeartbeats 8000000 in
theorem check_ok {h : H} {c : Oc} {o : ObjD} (ob : Ob g h (· < h.next) c o) (fit : Fits o) : WF (E g) 31 [.agg (c.cells o)] h fun v h' => v = i64 (checkE o) ∧ Kept h h' := by
 have fs := fit.syms
 have fr := fit.rels
 have fn := fit.needs
 refine WF.enter fn31 rfl ?_
 ((repeat refine WC.seq ?_); refine WC.run ?_)
 (try simp only [wk, wl, wx, reduceLT, reduceEqDiff, Nat.reduceBEq, reduceIte])
 refine wop_box (v := .agg (c.cells o)) (by (try simp only [wk, wl, wx, reduceLT, reduceEqDiff, Nat.reduceBEq, reduceIte])) ?_
 intro h1 b1 n1 f1
 (try simp only [wk, wl, wx, reduceLT, reduceEqDiff, Nat.reduceBEq, reduceIte])
 have B1 : Has h1 h.next (c.cells o) := b1
 have b1 : Has h1 h.next [.str o.name, c.code, c.data, c.syms, c.rels, c.needs, .str o.entry] := b1
 have ob1 := (ob.fix f1 (fun _ h => h)).up (K' := (· < h1.next)) (fun _ h => by omega)
 ((repeat refine WC.seq ?_); refine WC.run ?_)
 (try simp only [wk, wl, wx, reduceLT, reduceEqDiff, Nat.reduceBEq, reduceIte])
 refine (limits_ok B1 ob1).mono fun v h2 ⟨e2, f2⟩ => ?_
 subst e2
 (try simp only [wk, wl, wx, reduceLT, reduceEqDiff, Nat.reduceBEq, reduceIte])
 ((repeat refine WC.seq ?_); refine WC.run ?_)
 (try simp only [wk, wl, wx, reduceLT, reduceEqDiff, Nat.reduceBEq, reduceIte, i64])
 (repeat refine WC.seq ?_)
 rcases (Decidable.em (limE o = 0)).symm with hlim | hlim
 ·refine WC.cond (b := true) (by (try simp only [wk, wl, wx, reduceLT, reduceEqDiff, Nat.reduceBEq, reduceIte, hlim]); (try simp); (try omega)) ?_
  ((repeat refine WC.seq ?_); refine WC.run ?_)
  (try simp only [wk, wl, wx, reduceLT, reduceEqDiff, Nat.reduceBEq, reduceIte])
  refine WC.ret ?_
  (try simp only [wk, wl, wx, reduceLT, reduceEqDiff, Nat.reduceBEq, reduceIte])
  exact ⟨by rw [checkE, orE_nz hlim] <;> rfl, f1.trans (f2.sub fun x hx => by omega)⟩
 refine WC.cond (b := false) (by (try simp only [wk, wl, wx, reduceLT, reduceEqDiff, Nat.reduceBEq, reduceIte, hlim]); (try simp); (try omega)) (WC.skip ?_)
 (try simp only [wk, wl, wx, reduceLT, reduceEqDiff, Nat.reduceBEq, reduceIte])
 have F2 : Kept h h2 := f1.trans (f2.sub fun x hx => by omega)
 have b2 := b1.fix f2 (by omega)
 have x2 := f2.next
 ((repeat refine WC.seq ?_); refine WC.run ?_)
 (try simp only [wk, wl, wx, reduceLT, reduceEqDiff, Nat.reduceBEq, reduceIte, fa77_0, fa77_6, Nat.zero_add, b2.at ty9 rfl])
 refine sat_buildSlice (sz := 1) (n := 2) (cs := [V.str o.name, V.str o.entry]) ty30 rfl ty9 rfl (by decide) (by decide) ?_ rfl ?_
 ·rfl
 intro h3 b3 n3 f3
 have r3 : Ss g h3 (.slice h2.next 0 2 (.lit 2)) [o.name, o.entry] := b3.sl
 (try simp only [wk, wl, wx, reduceLT, reduceEqDiff, Nat.reduceBEq, reduceIte, Sl.lenB r3 ty30 rfl])
 (repeat refine WC.seq ?_)
 refine WC.block ?_
 have F3 : Kept h h3 := F2.trans (f3.sub fun x hx => by omega)
 have hce : checkE o = orE (namesT [o.name, o.entry]) (orE (symsE o [] o.syms) (orE (relsE o [] o.rels) (orE (needsE [] o.needs) (entE o)))) := by rw [checkE, orE_z hlim]
 refine WC.while (fun m fr hh => ∃ ts i, fr = ⟨ts, 123, [], 31, none⟩ ∧ hh = h3 ∧ m = 2 - i ∧ i ≤ 2 ∧ ts.get 1 = some (.ptr h.next 0) ∧ ts.get 26 = some (.slice h2.next 0 2 (.lit 2)) ∧ ts.get 27 = some (.int .i64 2) ∧ ts.get 28 = some (.int .i64 i) ∧ namesT ([o.name, o.entry].drop i) = namesT [o.name, o.entry]) ?_ ⟨_, 0, rfl, rfl, rfl, by omega, ?_, ?_, ?_, ?_, rfl⟩
 ·rintro m fr hh ⟨ts, i, rfl, rfl, rfl, hi, t1, t26, t27, t28, hr⟩
  have bb := b2.fix f3 (by omega)
  ((repeat refine WC.seq ?_); refine WC.run ?_)
  (try simp only [wk, wl, wx, reduceLT, reduceEqDiff, Nat.reduceBEq, reduceIte, t27, t28])
  (repeat refine WC.seq ?_)
  by_cases hlt : i < 2
  ·refine WC.cond (b := true) (by (try simp only [wk, wl, wx, reduceLT, reduceEqDiff, Nat.reduceBEq, reduceIte]); (try simp); (try omega)) (WC.skip ?_)
   (try simp only [wk, wl, wx, reduceLT, reduceEqDiff, Nat.reduceBEq, reduceIte])
   have hl2 : i < [o.name, o.entry].length := hlt
   obtain ⟨p, p1, p2⟩ := r3.at ty30 rfl ty9 rfl rfl hl2
   have p2 := p2 hh fun _ _ _ _ _ => rfl
   rw [List.drop_eq_getElem_cons hl2, namesT] at hr
   (repeat refine WC.seq ?_)
   refine WC.block ?_
   ((repeat refine WC.seq ?_); refine WC.run ?_)
   (try simp only [wk, wl, wx, reduceLT, reduceEqDiff, Nat.reduceBEq, reduceIte, t26, t28, p1, p2])
   ((repeat refine WC.seq ?_); refine WC.run ?_)
   (try simp only [wk, wl, wx, reduceLT, reduceEqDiff, Nat.reduceBEq, reduceIte])
   refine named_ok.mono fun v h4 ⟨e4, e4'⟩ => ?_
   subst e4 e4'
   (try simp only [wk, wl, wx, reduceLT, reduceEqDiff, Nat.reduceBEq, reduceIte])
   ((repeat refine WC.seq ?_); refine WC.run ?_)
   (try simp only [wk, wl, wx, reduceLT, reduceEqDiff, Nat.reduceBEq, reduceIte])
   (repeat refine WC.seq ?_)
   rcases (Decidable.em (nameT [o.name, o.entry][i] = 0)).symm with hn | hn
   ·refine WC.cond (b := true) (by (try simp only [wk, wl, wx, reduceLT, reduceEqDiff, Nat.reduceBEq, reduceIte, hn]); (try simp); (try omega)) ?_
    ((repeat refine WC.seq ?_); refine WC.run ?_)
    (try simp only [wk, wl, wx, reduceLT, reduceEqDiff, Nat.reduceBEq, reduceIte])
    refine WC.ret ?_
    (try simp only [wk, wl, wx, reduceLT, reduceEqDiff, Nat.reduceBEq, reduceIte])
    rw [orE_nz hn] at hr
    exact ⟨by rw [hce, ← hr, orE_nz hn] <;> rfl, F3⟩
   ·refine WC.cond (b := false) (by (try simp only [wk, wl, wx, reduceLT, reduceEqDiff, Nat.reduceBEq, reduceIte, hn]); (try simp); (try omega)) (WC.skip ?_)
    (try simp only [wk, wl, wx, reduceLT, reduceEqDiff, Nat.reduceBEq, reduceIte])
    ((repeat refine WC.seq ?_); refine WC.run ?_)
    (try simp only [wk, wl, wx, reduceLT, reduceEqDiff, Nat.reduceBEq, reduceIte, t28, bin_add])
    rw [orE_z hn] at hr
    refine ⟨_, ?_, _, i + 1, rfl, by trivial, rfl, by omega, ?_⟩
    ·omega
    (try simp only [wk, wl, wx, reduceLT, reduceEqDiff, Nat.reduceBEq, reduceIte, t1, t26, t27])
    refine ⟨trivial, trivial, trivial, ?_, hr⟩
    rw [wrap64 (by omega) (by omega)]; rfl
  ·refine WC.cond (b := false) (by (try simp only [wk, wl, wx, reduceLT, reduceEqDiff, Nat.reduceBEq, reduceIte]); (try simp); (try omega)) (WC.exit ?_)
   have : i = 2 := by omega
   subst this
   have hr : (0 : Int) = namesT [o.name, o.entry] := hr
   rw [orE_z hr.symm] at hce
   (try simp only [wk, wl, wx, reduceLT, reduceEqDiff, Nat.reduceBEq, reduceIte])
   have ob3 := (ob1.fix f2 (fun _ h => h)).fix f3 (fun _ h => by omega)
   -- the symbols
   ((repeat refine WC.seq ?_); refine WC.run ?_)
   (try simp only [wk, wl, wx, reduceLT, reduceEqDiff, Nat.reduceBEq, reduceIte])
   refine wop_makeMap ?_
   intro h4 m4 n4 f4
   (try simp only [wk, wl, wx, reduceLT, reduceEqDiff, Nat.reduceBEq, reduceIte])
   have F4 : Kept h h4 := F3.trans (f4.sub fun x hx => by omega)
   have ob4 := ob3.fix f4 (fun _ h => by omega)
   have b4 := bb.fix f4 (by omega)
   ((repeat refine WC.seq ?_); refine WC.run ?_)
   (try simp only [wk, wl, wx, reduceLT, reduceEqDiff, Nat.reduceBEq, reduceIte, t1, fa77_3, Nat.zero_add, b4.at ty74 rfl, Sl.lenB ob4.syms ty74 rfl])
   (repeat refine WC.seq ?_)
   refine WC.block ?_
   generalize hmb : hh.next = mb at *
   have hlow : h.next < mb := by omega
   refine WC.while (fun m fr hk => ∃ ts i, fr = ⟨ts, 123, [], 31, none⟩ ∧ Fix (fun x => x < h4.next ∧ x ≠ mb) h4 hk ∧ m = o.syms.length - i ∧ i ≤ o.syms.length ∧ ts.get 1 = some (.ptr h.next 0) ∧ ts.get 7 = some (.map mb) ∧ ts.get 40 = some c.syms ∧ ts.get 41 = some (.int .i64 o.syms.length) ∧ ts.get 42 = some (.int .i64 i) ∧ Mp hk mb (tab 0 (o.syms.take i)) ∧ symsE o (o.syms.take i) (o.syms.drop i) = symsE o [] o.syms) ?_ ⟨_, 0, rfl, Fix.refl _ _, rfl, by omega, ?_, ?_, ?_, ?_, ?_, m4, rfl⟩
   ·rintro m fr hk ⟨ts, i, rfl, ff, rfl, hi, t1, t7, t40, t41, t42, mp, hr⟩
    have xk := ff.next
    have bk := b4.fix ff ⟨by omega, by omega⟩
    have obk := (ob4.fix ff (fun x hx => ⟨by omega, by omega⟩))
    ((repeat refine WC.seq ?_); refine WC.run ?_)
    (try simp only [wk, wl, wx, reduceLT, reduceEqDiff, Nat.reduceBEq, reduceIte, t41, t42])
    (repeat refine WC.seq ?_)
    by_cases hlt : i < o.syms.length
    ·refine WC.cond (b := true) (by (try simp only [wk, wl, wx, reduceLT, reduceEqDiff, Nat.reduceBEq, reduceIte]); (try simp); (try omega)) (WC.skip ?_)
     (try simp only [wk, wl, wx, reduceLT, reduceEqDiff, Nat.reduceBEq, reduceIte])
     obtain ⟨p, p1, p2⟩ := obk.syms.at (fun _ => rfl) ty74 rfl ty95 rfl (by decide) rfl hlt
     have p2 := p2 hk fun _ _ _ _ _ => rfl
     rw [List.drop_eq_getElem_cons hlt, symsE] at hr
     generalize hx : o.syms[i] = x at *
     (repeat refine WC.seq ?_)
     refine WC.block ?_
     ((repeat refine WC.seq ?_); refine WC.run ?_)
     (try simp only [wk, wl, wx, reduceLT, reduceEqDiff, Nat.reduceBEq, reduceIte, t40, t42, p1, p2])
     refine wop_alloc ty95 ?_
     intro h5 b5 n5 f5
     (try simp only [wk, wl, wx, reduceLT, reduceEqDiff, Nat.reduceBEq, reduceIte])
     refine sat_store b5 ty95 rfl (by decide) rfl ?_
     intro h6 b6 n6 f6
     have b6 : Has h6 hk.next (symV x) := b6
     have Fk : Fix (fun x => x < hk.next) hk h6 := ⟨by omega, fun c hc => by rw [f6.same c (by omega), f5.same c hc]⟩
     have mp6 := mp.fix Fk (by omega)
     have B6 : Has h6 h.next (c.cells o) := bk.fix Fk (by omega)
     have ob6 := (obk.fix Fk (fun x hx => by omega)).up (K' := (· < h6.next)) (fun x hx => by omega)
     (try simp only [wk, wl, wx, reduceLT, reduceEqDiff, Nat.reduceBEq, reduceIte])
     have lx : loadP (E g) h6 95 (.ptr hk.next 0) = some (.agg (symV x)) := b6.agg ty95 rfl (o := 0) (by show 0 + 5 ≤ 5; decide)
     ((repeat refine WC.seq ?_); refine WC.run ?_)
     (try simp only [wk, wl, wx, reduceLT, reduceEqDiff, Nat.reduceBEq, reduceIte, t1, t7, lx])
     refine (symbol_ok (x := x) B6 (by omega) ob6 mp6 (by omega)).mono fun v h7 ⟨e7, f7⟩ => ?_
     subst e7
     rw [lk_isSome]
     (try simp only [wk, wl, wx, reduceLT, reduceEqDiff, Nat.reduceBEq, reduceIte])
     have Fk7 : Fix (fun x => x < h4.next ∧ x ≠ mb) h4 h7 := ⟨by have := f7.next; omega, fun c hc => by rw [f7.same c (by omega), Fk.same c (by omega), ff.same c hc]⟩
     ((repeat refine WC.seq ?_); refine WC.run ?_)
     (try simp only [wk, wl, wx, reduceLT, reduceEqDiff, Nat.reduceBEq, reduceIte, i64])
     (repeat refine WC.seq ?_)
     rcases (Decidable.em (symE o x (hasN x.name (o.syms.take i)) = 0)).symm with hn | hn
     ·refine WC.cond (b := true) (by (try simp only [wk, wl, wx, reduceLT, reduceEqDiff, Nat.reduceBEq, reduceIte, hn]); (try simp); (try omega)) ?_
      ((repeat refine WC.seq ?_); refine WC.run ?_)
      (try simp only [wk, wl, wx, reduceLT, reduceEqDiff, Nat.reduceBEq, reduceIte])
      refine WC.ret ?_
      (try simp only [wk, wl, wx, reduceLT, reduceEqDiff, Nat.reduceBEq, reduceIte])
      rw [orE_nz hn] at hr
      exact ⟨by rw [hce, ← hr, orE_nz hn] <;> rfl, F4.trans (Fk7.sub fun x hx => ⟨by omega, by omega⟩)⟩
     ·refine WC.cond (b := false) (by (try simp only [wk, wl, wx, reduceLT, reduceEqDiff, Nat.reduceBEq, reduceIte, hn]); (try simp); (try omega)) (WC.skip ?_)
      (try simp only [wk, wl, wx, reduceLT, reduceEqDiff, Nat.reduceBEq, reduceIte])
      have hno : hasN x.name (o.syms.take i) = false := by
       cases hq : hasN x.name (o.syms.take i) with
       | false => rfl
       | true =>
        rw [hq] at hn
        unfold symE at hn
        split at hn
        ·contradiction
        ·simp at hn
      have hno' : lk x.name (tab 0 (o.syms.take i)) = none := by
       rw [← lk_isSome] at hno
       cases hq : lk x.name (tab 0 (o.syms.take i)) with
       | none => rfl
       | some v => rw [hq] at hno; cases hno
      have b7 := b6.fix f7 (by omega)
      have mp7 := mp6.fix f7 (by omega)
      ((repeat refine WC.seq ?_); refine WC.run ?_)
      have l7 : loadP (E g) h7 9 (.ptr hk.next 0) = some (.str x.name) := b7.at ty9 rfl 0
      (try simp only [wk, wl, wx, reduceLT, reduceEqDiff, Nat.reduceBEq, reduceIte, t7, fa95_0, Nat.zero_add, l7, w_mapUpdate])
      refine sat_update mp7 ty168 rfl ty9 rfl ty3 ?_
      intro h8 m8 n8 f8
      (try simp only [wk, wl, wx, reduceLT, reduceEqDiff, Nat.reduceBEq, reduceIte])
      rw [ins_none hno'] at m8
      ((repeat refine WC.seq ?_); refine WC.run ?_)
      (try simp only [wk, wl, wx, reduceLT, reduceEqDiff, Nat.reduceBEq, reduceIte, t42, bin_add])
      rw [orE_z hn] at hr
      refine ⟨_, ?_, _, i + 1, rfl, ⟨by have := f7.next; omega, fun c hc => by rw [f8.same c (by omega), Fk7.same c hc]⟩, rfl, by omega, ?_⟩
      ·omega
      (try simp only [wk, wl, wx, reduceLT, reduceEqDiff, Nat.reduceBEq, reduceIte, t1, t7, t40, t41])
      refine ⟨trivial, trivial, trivial, trivial, ?_, ?_, ?_⟩
      ·rw [wrap64 (by omega) (by omega)]; rfl
      ·rw [List.take_succ_eq_append_getElem hlt, tab_snoc, hx]
       rw [List.length_take, Nat.min_eq_left hi, Nat.zero_add]
       exact m8
      ·rw [List.take_succ_eq_append_getElem hlt, hx]; exact hr
    ·refine WC.cond (b := false) (by (try simp only [wk, wl, wx, reduceLT, reduceEqDiff, Nat.reduceBEq, reduceIte]); (try simp); (try omega)) (WC.exit ?_)
     have : i = o.syms.length := by omega
     subst this
     rw [List.drop_length, symsE] at hr
     rw [List.take_length] at mp
     rw [orE_z hr.symm] at hce
     (try simp only [wk, wl, wx, reduceLT, reduceEqDiff, Nat.reduceBEq, reduceIte])
     have F5 : Kept h hk := F4.trans (ff.sub fun x hx => ⟨by omega, by omega⟩)
     have obk := obk.up (K' := (· < hk.next)) (fun x hx => by omega)
     have Bk : Has hk h.next (c.cells o) := bk
     ((repeat refine WC.seq ?_); refine WC.run ?_)
     (try simp only [wk, wl, wx, reduceLT, reduceEqDiff, Nat.reduceBEq, reduceIte, t1, fa77_4, Nat.zero_add, bk.at ty75 rfl, Sl.lenB obk.rels ty75 rfl])
     (repeat refine WC.seq ?_)
     refine WC.block ?_
     refine WC.while (fun m fr hj => ∃ ts i, fr = ⟨ts, 123, [], 31, none⟩ ∧ Fix (· < hk.next) hk hj ∧ m = o.rels.length - i ∧ i ≤ o.rels.length ∧ ts.get 1 = some (.ptr h.next 0) ∧ ts.get 7 = some (.map mb) ∧ ts.get 59 = some c.rels ∧ ts.get 60 = some (.int .i64 o.rels.length) ∧ ts.get 61 = some (.int .i64 i) ∧ relsE o (o.rels.take i) (o.rels.drop i) = relsE o [] o.rels) ?_ ⟨_, 0, rfl, Fix.refl _ _, rfl, by omega, ?_, ?_, ?_, ?_, ?_, rfl⟩
     ·rintro m fr hj ⟨ts, i, rfl, ff2, rfl, hi, t1, t7, t59, t60, t61, hr⟩
      have xj := ff2.next
      have mj := mp.fix ff2 (by omega)
      have Bj := Bk.fix ff2 (by omega)
      have bj : Has hj h.next [.str o.name, c.code, c.data, c.syms, c.rels, c.needs, .str o.entry] := Bj
      have obj := (obk.fix ff2 (fun x hx => hx)).up (K' := (· < hj.next)) (fun x hx => by omega)
      have F6 : Kept h hj := F5.trans (ff2.sub fun x hx => by omega)
      ((repeat refine WC.seq ?_); refine WC.run ?_)
      (try simp only [wk, wl, wx, reduceLT, reduceEqDiff, Nat.reduceBEq, reduceIte, t60, t61])
      (repeat refine WC.seq ?_)
      by_cases hlt : i < o.rels.length
      ·refine WC.cond (b := true) (by (try simp only [wk, wl, wx, reduceLT, reduceEqDiff, Nat.reduceBEq, reduceIte]); (try simp); (try omega)) (WC.skip ?_)
       (try simp only [wk, wl, wx, reduceLT, reduceEqDiff, Nat.reduceBEq, reduceIte])
       rw [List.drop_eq_getElem_cons hlt, relsE] at hr
       (repeat refine WC.seq ?_)
       refine WC.block ?_
       ((repeat refine WC.seq ?_); refine WC.run ?_)
       (try simp only [wk, wl, wx, reduceLT, reduceEqDiff, Nat.reduceBEq, reduceIte, t61])
       ((repeat refine WC.seq ?_); refine WC.run ?_)
       (try simp only [wk, wl, wx, reduceLT, reduceEqDiff, Nat.reduceBEq, reduceIte, t1, t7])
       refine (reloc_ok Bj (by omega) obj mj (by omega) hlt fit.rels fit.code fit.data).mono fun v h7 ⟨e7, f7⟩ => ?_
       subst e7
       rw [lk_isSome]
       (try simp only [wk, wl, wx, reduceLT, reduceEqDiff, Nat.reduceBEq, reduceIte])
       ((repeat refine WC.seq ?_); refine WC.run ?_)
       (try simp only [wk, wl, wx, reduceLT, reduceEqDiff, Nat.reduceBEq, reduceIte, i64])
       (repeat refine WC.seq ?_)
       have F7 : Fix (· < hk.next) hk h7 := ⟨by have := f7.next; omega, fun c hc => by rw [f7.same c (by omega), ff2.same c hc]⟩
       rcases (Decidable.em (relE o (o.rels.take i) (hasN o.rels[i].sym o.syms) o.rels[i] = 0)).symm with hn | hn
       ·refine WC.cond (b := true) (by (try simp only [wk, wl, wx, reduceLT, reduceEqDiff, Nat.reduceBEq, reduceIte, hn]); (try simp); (try omega)) ?_
        ((repeat refine WC.seq ?_); refine WC.run ?_)
        (try simp only [wk, wl, wx, reduceLT, reduceEqDiff, Nat.reduceBEq, reduceIte])
        refine WC.ret ?_
        (try simp only [wk, wl, wx, reduceLT, reduceEqDiff, Nat.reduceBEq, reduceIte])
        rw [orE_nz hn] at hr
        exact ⟨by rw [hce, ← hr, orE_nz hn] <;> rfl, F5.trans (F7.sub fun x hx => by omega)⟩
       ·refine WC.cond (b := false) (by (try simp only [wk, wl, wx, reduceLT, reduceEqDiff, Nat.reduceBEq, reduceIte, hn]); (try simp); (try omega)) (WC.skip ?_)
        (try simp only [wk, wl, wx, reduceLT, reduceEqDiff, Nat.reduceBEq, reduceIte])
        rw [orE_z hn] at hr
        ((repeat refine WC.seq ?_); refine WC.run ?_)
        (try simp only [wk, wl, wx, reduceLT, reduceEqDiff, Nat.reduceBEq, reduceIte, t61, bin_add])
        refine ⟨_, ?_, _, i + 1, rfl, F7, rfl, by omega, ?_⟩
        ·omega
        (try simp only [wk, wl, wx, reduceLT, reduceEqDiff, Nat.reduceBEq, reduceIte, t1, t7, t59, t60])
        refine ⟨trivial, trivial, trivial, trivial, ?_, ?_⟩
        ·rw [wrap64 (by omega) (by omega)]; rfl
        ·rw [List.take_succ_eq_append_getElem hlt]; exact hr
      ·refine WC.cond (b := false) (by (try simp only [wk, wl, wx, reduceLT, reduceEqDiff, Nat.reduceBEq, reduceIte]); (try simp); (try omega)) (WC.exit ?_)
       have : i = o.rels.length := by omega
       subst this
       rw [List.drop_length, relsE] at hr
       rw [orE_z hr.symm] at hce
       (try simp only [wk, wl, wx, reduceLT, reduceEqDiff, Nat.reduceBEq, reduceIte])
       ((repeat refine WC.seq ?_); refine WC.run ?_)
       (try simp only [wk, wl, wx, reduceLT, reduceEqDiff, Nat.reduceBEq, reduceIte, t1, fa77_5, Nat.zero_add, bj.at ty30 rfl, Sl.lenB obj.needs ty30 rfl])
       (repeat refine WC.seq ?_)
       refine WC.block ?_
       refine WC.while (fun m fr he => ∃ ts i, fr = ⟨ts, 123, [], 31, none⟩ ∧ he = hj ∧ m = o.needs.length - i ∧ i ≤ o.needs.length ∧ ts.get 1 = some (.ptr h.next 0) ∧ ts.get 7 = some (.map mb) ∧ ts.get 72 = some c.needs ∧ ts.get 73 = some (.int .i64 o.needs.length) ∧ ts.get 74 = some (.int .i64 i) ∧ needsE (o.needs.take i) (o.needs.drop i) = needsE [] o.needs) ?_ ⟨_, 0, rfl, rfl, rfl, by omega, ?_, ?_, ?_, ?_, ?_, rfl⟩
       ·rintro m fr he ⟨ts, i, rfl, rfl, rfl, hi, t1, t7, t72, t73, t74, hr⟩
        ((repeat refine WC.seq ?_); refine WC.run ?_)
        (try simp only [wk, wl, wx, reduceLT, reduceEqDiff, Nat.reduceBEq, reduceIte, t73, t74])
        (repeat refine WC.seq ?_)
        by_cases hlt : i < o.needs.length
        ·refine WC.cond (b := true) (by (try simp only [wk, wl, wx, reduceLT, reduceEqDiff, Nat.reduceBEq, reduceIte]); (try simp); (try omega)) (WC.skip ?_)
         (try simp only [wk, wl, wx, reduceLT, reduceEqDiff, Nat.reduceBEq, reduceIte])
         obtain ⟨p, p1, p2⟩ := obj.needs.at ty30 rfl ty9 rfl rfl hlt
         have p2 := p2 he fun _ _ _ _ _ => rfl
         rw [List.drop_eq_getElem_cons hlt, needsE] at hr
         (repeat refine WC.seq ?_)
         refine WC.block ?_
         ((repeat refine WC.seq ?_); refine WC.run ?_)
         (try simp only [wk, wl, wx, reduceLT, reduceEqDiff, Nat.reduceBEq, reduceIte, t72, t74, p1, p2])
         ((repeat refine WC.seq ?_); refine WC.run ?_)
         (try simp only [wk, wl, wx, reduceLT, reduceEqDiff, Nat.reduceBEq, reduceIte])
         refine named_ok.mono fun v h7 ⟨e7, e7'⟩ => ?_
         subst e7 e7'
         (try simp only [wk, wl, wx, reduceLT, reduceEqDiff, Nat.reduceBEq, reduceIte])
         ((repeat refine WC.seq ?_); refine WC.run ?_)
         (try simp only [wk, wl, wx, reduceLT, reduceEqDiff, Nat.reduceBEq, reduceIte])
         (repeat refine WC.seq ?_)
         rcases (Decidable.em (nameE o.needs[i] = 0)).symm with hn | hn
         ·refine WC.cond (b := true) (by (try simp only [wk, wl, wx, reduceLT, reduceEqDiff, Nat.reduceBEq, reduceIte, hn]); (try simp); (try omega)) ?_
          ((repeat refine WC.seq ?_); refine WC.run ?_)
          (try simp only [wk, wl, wx, reduceLT, reduceEqDiff, Nat.reduceBEq, reduceIte])
          refine WC.ret ?_
          (try simp only [wk, wl, wx, reduceLT, reduceEqDiff, Nat.reduceBEq, reduceIte])
          rw [orE_nz hn] at hr
          exact ⟨by rw [hce, ← hr, orE_nz hn] <;> rfl, F6⟩
         ·refine WC.cond (b := false) (by (try simp only [wk, wl, wx, reduceLT, reduceEqDiff, Nat.reduceBEq, reduceIte, hn]); (try simp); (try omega)) (WC.skip ?_)
          (try simp only [wk, wl, wx, reduceLT, reduceEqDiff, Nat.reduceBEq, reduceIte])
          rw [orE_z hn] at hr
          obtain ⟨s', q1, q2, q3, _⟩ := Sl.sub obj.needs ty30 rfl (sizeOf_of ty9) (lo := none) (hi := some i) (l := 0) (r := i) rfl rfl (Nat.zero_le _) (by omega)
          have q2 : Ss g h7 s' (o.needs.take i) := by
           have e : (o.needs.take i).length = i := by simp; omega
           unfold Ss Vs
           rw [e, List.map_take]
           simpa using q2
          have q1 : sliceV (E g) 30 c.needs none (some (.int .i64 i)) none = some s' := q1
          ((repeat refine WC.seq ?_); refine WC.run ?_)
          (try simp only [wk, wl, wx, reduceLT, reduceEqDiff, Nat.reduceBEq, reduceIte, t1, fa77_5, Nat.zero_add, bj.at ty30 rfl, q1])
          refine (containsS_ok q2 (by simp; omega)).mono fun v h8 ⟨e8, e8'⟩ => ?_
          subst e8 e8'
          (try simp only [wk, wl, wx, reduceLT, reduceEqDiff, Nat.reduceBEq, reduceIte])
          (repeat refine WC.seq ?_)
          cases hc : (o.needs.take i).contains o.needs[i] with
          | true =>
           refine WC.cond (b := true) (by (try simp only [wk, wl, wx, reduceLT, reduceEqDiff, Nat.reduceBEq, reduceIte, hc]); (try simp); (try omega)) ?_
           ((repeat refine WC.seq ?_); refine WC.run ?_)
           (try simp only [wk, wl, wx, reduceLT, reduceEqDiff, Nat.reduceBEq, reduceIte])
           refine WC.ret ?_
           (try simp only [wk, wl, wx, reduceLT, reduceEqDiff, Nat.reduceBEq, reduceIte])
           rw [hc, if_pos rfl, orE_nz (by decide)] at hr
           exact ⟨by rw [hce, ← hr, orE_nz (by decide)] <;> rfl, F6⟩
          | false =>
           refine WC.cond (b := false) (by (try simp only [wk, wl, wx, reduceLT, reduceEqDiff, Nat.reduceBEq, reduceIte, hc]); (try simp); (try omega)) (WC.skip ?_)
           (try simp only [wk, wl, wx, reduceLT, reduceEqDiff, Nat.reduceBEq, reduceIte])
           rw [hc, if_neg (by simp), orE_z rfl] at hr
           ((repeat refine WC.seq ?_); refine WC.run ?_)
           (try simp only [wk, wl, wx, reduceLT, reduceEqDiff, Nat.reduceBEq, reduceIte, t74, bin_add])
           refine ⟨_, ?_, _, i + 1, rfl, by trivial, rfl, by omega, ?_⟩
           ·omega
           (try simp only [wk, wl, wx, reduceLT, reduceEqDiff, Nat.reduceBEq, reduceIte, t1, t7, t72, t73])
           refine ⟨trivial, trivial, trivial, trivial, ?_, ?_⟩
           ·rw [wrap64 (by omega) (by omega)]; rfl
           ·rw [List.take_succ_eq_append_getElem hlt]; exact hr
        ·refine WC.cond (b := false) (by (try simp only [wk, wl, wx, reduceLT, reduceEqDiff, Nat.reduceBEq, reduceIte]); (try simp); (try omega)) (WC.exit ?_)
         have : i = o.needs.length := by omega
         subst this
         rw [List.drop_length, needsE] at hr
         rw [orE_z hr.symm] at hce
         (try simp only [wk, wl, wx, reduceLT, reduceEqDiff, Nat.reduceBEq, reduceIte])
         rw [hce]
         have hz : ∀ n : Int, (V.bool (n == 0)) = .bool (decide (n = 0)) := fun n => by congr 1
         ((repeat refine WC.seq ?_); refine WC.run ?_)
         (try simp only [wk, wl, wx, reduceLT, reduceEqDiff, Nat.reduceBEq, reduceIte, t1, t7, fa77_6, Nat.zero_add, bj.at ty9 rfl, w_lookup, lookup168 mj, lk_tab])
         have lS : loadP (E g) he 74 (.ptr h.next 3) = some c.syms := bj.at ty74 rfl 3
         have lE : loadP (E g) he 9 (.ptr h.next 6) = some (.str o.entry) := bj.at ty9 rfl 6
         cases hen : o.entry with
         | nil =>
          rw [hen] at lE
          have hn0 : entE o = 0 := by
           unfold entE
           cases fnd o.entry o.syms with
           | none => simp [hen]
           | some j => simp [hen]
          ((repeat refine WC.seq ?_); refine WC.run ?_)
          (try simp only [wk, wl, wx, reduceLT, reduceEqDiff, Nat.reduceBEq, reduceIte, t1, fa77_6, Nat.zero_add, lE, bin_sneq, beq_self_eq_true, Bool.not_true])
          (repeat refine WC.seq ?_)
          refine WC.cond (b := false) (by (try simp only [wk, wl, wx, reduceLT, reduceEqDiff, Nat.reduceBEq, reduceIte]); (try simp); (try omega)) (WC.skip ?_)
          (try simp only [wk, wl, wx, reduceLT, reduceEqDiff, Nat.reduceBEq, reduceIte])
          ((repeat refine WC.seq ?_); refine WC.run ?_)
          (try simp only [wk, wl, wx, reduceLT, reduceEqDiff, Nat.reduceBEq, reduceIte])
          refine WC.ret ?_
          (try simp only [wk, wl, wx, reduceLT, reduceEqDiff, Nat.reduceBEq, reduceIte])
          exact ⟨by rw [hn0] <;> rfl, F6⟩
         | cons ch rest =>
          rw [hen] at lE
          have hbe : ((ch :: rest) == ([] : List UInt8)) = false := rfl
          cases hf : fnd (ch :: rest) o.syms with
          | none =>
           have hn0 : entE o = 22 := by
            unfold entE
            rw [hen, hf]; simp
           ((repeat refine WC.seq ?_); refine WC.run ?_)
           (try simp only [wk, wl, wx, reduceLT, reduceEqDiff, Nat.reduceBEq, reduceIte, t1, fa77_6, Nat.zero_add, lE, bin_sneq, hbe, Bool.not_false, Option.map_none, Option.isSome_none, un_not])
           (repeat refine WC.seq ?_)
           refine WC.cond (b := true) (by (try simp only [wk, wl, wx, reduceLT, reduceEqDiff, Nat.reduceBEq, reduceIte]); (try simp); (try omega)) ?_
           ((repeat refine WC.seq ?_); refine WC.run ?_)
           (try simp only [wk, wl, wx, reduceLT, reduceEqDiff, Nat.reduceBEq, reduceIte])
           refine WC.ret ?_
           (try simp only [wk, wl, wx, reduceLT, reduceEqDiff, Nat.reduceBEq, reduceIte])
           exact ⟨by rw [hn0] <;> rfl, F6⟩
          | some j =>
           obtain ⟨hj1, hj2⟩ := fnd_some hf
           have hent : entE o = if o.syms[j].sec = 0 ∨ o.syms[j].glob = false then 22 else 0 := by
            unfold entE
            rw [hen, hf]
            simp only [List.getElem?_eq_getElem hj1]
            rw [if_neg (by simp)]
           rw [hent]
           obtain ⟨mk, po, hmk, p1, p2⟩ := Rcs.spot obj.syms (fun _ => rfl) ty74 rfl ty95 rfl (by decide) hj1
           have p2 := p2 he fun _ _ _ _ _ => rfl
           have a1 : fieldAddrV (E g) 95 (mk po) 1 = some (mk (po + 1)) := by rcases hmk with ⟨b, hb⟩ | ⟨b, hb⟩ <;> simp only [hb, fa95_1, fg95_1]
           have a3 : fieldAddrV (E g) 95 (mk po) 3 = some (mk (po + 3)) := by rcases hmk with ⟨b, hb⟩ | ⟨b, hb⟩ <;> simp only [hb, fa95_3, fg95_3]
           have l1 : loadP (E g) he 3 (mk (po + 1)) = some (.int .i64 o.syms[j].sec) := p2 1 (by decide) 3 _ ty3 rfl
           have l3 : loadP (E g) he 4 (mk (po + 3)) = some (.bool o.syms[j].glob) := p2 3 (by decide) 4 _ ty4 rfl
           generalize o.syms[j] = s at *
           rcases Decidable.em (s.sec = 0) with k1 | k1
           ·((repeat refine WC.seq ?_); refine WC.run ?_)
            (try simp only [wk, wl, wx, reduceLT, reduceEqDiff, Nat.reduceBEq, reduceIte, t1, fa77_3, fa77_6, Nat.zero_add, lE, lS, bin_sneq, hbe, Bool.not_false, Bool.not_true, Option.map_some, Option.isSome_some, Option.getD_some, un_not, p1, a1, a3, l1, l3, hz, decide_eq_true k1])
            (repeat refine WC.seq ?_)
            refine WC.cond (b := true) (by (try simp only [wk, wl, wx, reduceLT, reduceEqDiff, Nat.reduceBEq, reduceIte, decide_eq_true k1]); (try simp); (try omega)) ?_
            ((repeat refine WC.seq ?_); refine WC.run ?_)
            (try simp only [wk, wl, wx, reduceLT, reduceEqDiff, Nat.reduceBEq, reduceIte])
            refine WC.ret ?_
            (try simp only [wk, wl, wx, reduceLT, reduceEqDiff, Nat.reduceBEq, reduceIte])
            exact ⟨by rw [if_pos (by simp [k1])] <;> rfl, F6⟩
           rcases (Bool.eq_false_or_eq_true (s.glob)).symm with k2 | k2
           ·((repeat refine WC.seq ?_); refine WC.run ?_)
            (try simp only [wk, wl, wx, reduceLT, reduceEqDiff, Nat.reduceBEq, reduceIte, t1, fa77_3, fa77_6, Nat.zero_add, lE, lS, bin_sneq, hbe, Bool.not_false, Bool.not_true, Option.map_some, Option.isSome_some, Option.getD_some, un_not, p1, a1, a3, l1, l3, hz, decide_eq_false k1, k2])
            (repeat refine WC.seq ?_)
            refine WC.cond (b := true) (by (try simp only [wk, wl, wx, reduceLT, reduceEqDiff, Nat.reduceBEq, reduceIte, decide_eq_false k1, k2]); (try simp); (try omega)) ?_
            ((repeat refine WC.seq ?_); refine WC.run ?_)
            (try simp only [wk, wl, wx, reduceLT, reduceEqDiff, Nat.reduceBEq, reduceIte])
            refine WC.ret ?_
            (try simp only [wk, wl, wx, reduceLT, reduceEqDiff, Nat.reduceBEq, reduceIte])
            exact ⟨by rw [if_pos (by simp [k1, k2])] <;> rfl, F6⟩
           ((repeat refine WC.seq ?_); refine WC.run ?_)
           (try simp only [wk, wl, wx, reduceLT, reduceEqDiff, Nat.reduceBEq, reduceIte, t1, fa77_3, fa77_6, Nat.zero_add, lE, lS, bin_sneq, hbe, Bool.not_false, Bool.not_true, Option.map_some, Option.isSome_some, Option.getD_some, un_not, p1, a1, a3, l1, l3, hz, decide_eq_false k1, k2])
           (repeat refine WC.seq ?_)
           refine WC.cond (b := false) (by (try simp only [wk, wl, wx, reduceLT, reduceEqDiff, Nat.reduceBEq, reduceIte, decide_eq_false k1, k2]); (try simp); (try omega)) (WC.skip ?_)
           (try simp only [wk, wl, wx, reduceLT, reduceEqDiff, Nat.reduceBEq, reduceIte])
           ((repeat refine WC.seq ?_); refine WC.run ?_)
           (try simp only [wk, wl, wx, reduceLT, reduceEqDiff, Nat.reduceBEq, reduceIte])
           refine WC.ret ?_
           (try simp only [wk, wl, wx, reduceLT, reduceEqDiff, Nat.reduceBEq, reduceIte])
           exact ⟨by rw [if_neg (by simp [k1, k2])] <;> rfl, F6⟩
       all_goals (try simp only [wk, wl, wx, reduceLT, reduceEqDiff, Nat.reduceBEq, reduceIte, t1, t7])
       all_goals (first | trivial | rfl | simp)
     all_goals (try simp only [wk, wl, wx, reduceLT, reduceEqDiff, Nat.reduceBEq, reduceIte, t1, t7])
     all_goals (first | trivial | rfl | simp)
   all_goals (try simp only [wk, wl, wx, reduceLT, reduceEqDiff, Nat.reduceBEq, reduceIte, t1])
   all_goals (first | trivial | rfl | simp)
 all_goals (try simp only [wk, wl, wx, reduceLT, reduceEqDiff, Nat.reduceBEq, reduceIte])
 all_goals (first | trivial | rfl | simp)
end Go.Proofs.OP
