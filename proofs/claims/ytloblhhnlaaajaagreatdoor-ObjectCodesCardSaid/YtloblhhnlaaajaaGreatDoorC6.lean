/- Walks: limits, symbol. -/
import Derived.Test.YtloblhhnlaaajaaGreatDoorB13
import Derived.Test.YtloblhhnlaaajaaGreatDoorC4
set_option linter.unusedVariables false
set_option linter.unusedSimpArgs false
set_option linter.defProp false
set_option linter.unusedSimpArgs false
namespace Go.Proofs.OP
open Go Go.Ev
open Go.Proofs
open Nat (reduceLT reduceEqDiff)
variable {g : T (List V)}

theorem build221 {a b : Int} : buildV (E g) 171 [(0, .int .i64 a), (1, .int .i64 b)] = some (.agg [.int .i64 a, .int .i64 b]) := by
  simp only [buildV, ty171, sizeOf_of ty3, fillAll, fillL, Option.map_some]; rfl
def two (p : Int × Int) : List V := [i64 p.1, i64 p.2]
def lims (o : ObjD) : List (Int × Int) := [((o.code.length : Int), 16384), ((o.data.length : Int), 16384), ((o.syms.length : Int), 500), ((o.rels.length : Int), 1000), ((o.needs.length : Int), 20)]
def limE (o : ObjD) : Int := if (lims o).any fun p => decide (p.2 < p.1) then 18 else 0
set_option maxRecDepth 100000 in
theorem limits_ok {h : H} {b : Nat} {c : Oc} {o : ObjD} (hb : Has h b (c.cells o)) (ob : Ob g h (· < h.next) c o) : WF (E g) 38 [.ptr b 0] h fun v h' => v = i64 (limE o) ∧ Kept h h' := by
  have hb : Has h b [.str o.name, c.code, c.data, c.syms, c.rels, c.needs, .str o.entry] := hb
  refine WF.enter fn38 rfl ?_
  ((repeat refine WC.seq ?_); refine WC.run ?_)
  (try simp only [wk, wl, wx, reduceLT, reduceEqDiff, Nat.reduceBEq, reduceIte])
  ((repeat refine WC.seq ?_); refine WC.draw (plans := pl38_1) (by kernel_rfl) ?_; simp only [pl38_1, List.mem_cons, List.not_mem_nil, or_false, forall_eq_or_imp, forall_eq])
  (try simp (maxSteps := 2000000) only [wk, wl, wx, reduceLT, reduceEqDiff, Nat.reduceBEq, reduceIte, wd, Chk, and_true, true_and, fa35_1, fa35_2, fa35_3, fa35_4, fa35_5, Nat.zero_add, hb.at ty22 rfl, hb.at ty32 rfl, hb.at ty33 rfl, hb.at ty25 rfl, ob.code.len, ob.data.len, Sl.lenB ob.syms ty32 rfl, Sl.lenB ob.rels ty33 rfl, Sl.lenB ob.needs ty25 rfl, build221])
  refine sat_buildSlice (sz := 2) (n := 5) (cs := (lims o).flatMap two) ty172 rfl ty171 rfl (by decide) (by decide) ?_ rfl ?_
  · rfl
  intro h1 b1 n1 f1
  have r1 : Rcs (E g) h1 2 two (.slice h.next 0 5 (.lit 5)) (lims o) := b1.sl
  (try simp (maxSteps := 2000000) only [wk, wl, wx, reduceLT, reduceEqDiff, Nat.reduceBEq, reduceIte, wd, Chk, and_true, true_and, r1.lenB ty172 rfl])
  (repeat refine WC.seq ?_)
  refine WC.block ?_
  have hl : (lims o).length = 5 := rfl
  refine WC.while (fun m fr hh => ∃ ts i, fr = ⟨ts, 47, [], 38, none⟩ ∧ Fix (· < h1.next) h1 hh ∧ m = 5 - i ∧ i ≤ 5 ∧ ts.get 35 = some (.slice h.next 0 5 (.lit 5)) ∧ ts.get 36 = some (.int .i64 5) ∧ ts.get 37 = some (.int .i64 i) ∧ ((lims o).take i).any (fun p => decide (p.2 < p.1)) = false) ?_ ⟨_, 0, rfl, Fix.refl _ _, rfl, by omega, ?_, ?_, ?_, rfl⟩
  · rintro m fr hh ⟨ts, i, rfl, ff, rfl, hi, t35, t36, t37, hno⟩
    have F : Kept h hh := f1.trans (ff.sub fun b hb => by omega)
    ((repeat refine WC.seq ?_); refine WC.run ?_)
    (try simp only [wk, wl, wx, reduceLT, reduceEqDiff, Nat.reduceBEq, reduceIte, t36, t37])
    (repeat refine WC.seq ?_)
    by_cases hlt : i < 5
    · refine WC.cond (b := true) (by (try simp only [wk, wl, wx, reduceLT, reduceEqDiff, Nat.reduceBEq, reduceIte]); (try simp); (try omega)) (WC.skip ?_)
      (try simp only [wk, wl, wx, reduceLT, reduceEqDiff, Nat.reduceBEq, reduceIte])
      obtain ⟨p, p1, p2⟩ := r1.at (fun _ => rfl) ty172 rfl ty171 rfl (by decide) rfl (k := i) (by omega)
      have p2 := p2 hh fun b o m c e => ff.same b (by injection e with e; omega)
      (repeat refine WC.seq ?_)
      refine WC.block ?_
      ((repeat refine WC.seq ?_); refine WC.run ?_)
      (try simp only [wk, wl, wx, reduceLT, reduceEqDiff, Nat.reduceBEq, reduceIte, t35, t37, p1, p2])
      refine wop_alloc ty171 ?_
      intro h2 b2 n2 f2
      (try simp only [wk, wl, wx, reduceLT, reduceEqDiff, Nat.reduceBEq, reduceIte])
      refine sat_store b2 ty171 rfl (by decide) rfl ?_
      intro h3 b3 n3 f3
      have b3 : Has h3 hh.next [.int .i64 ((lims o)[i]'(by omega)).1, .int .i64 ((lims o)[i]'(by omega)).2] := b3
      have F3 : Fix (· < h1.next) h1 h3 := ⟨by have := ff.next; omega, fun c hc => by rw [f3.same c (by have := ff.next; omega), f2.same c (by have := ff.next; omega), ff.same c hc]⟩
      (try simp only [wk, wl, wx, reduceLT, reduceEqDiff, Nat.reduceBEq, reduceIte])
      ((repeat refine WC.seq ?_); refine WC.run ?_)
      have i0 : indexAddrV (E g) 171 (.ptr hh.next 0) (.int .i64 0) = some (.ptr hh.next 0) := by simp [indexAddrV, ty171, natOf, sizeOf_of ty3]; rfl
      have i1 : indexAddrV (E g) 171 (.ptr hh.next 0) (.int .i64 1) = some (.ptr hh.next 1) := by simp [indexAddrV, ty171, natOf, sizeOf_of ty3]; rfl
      (try simp only [wk, wl, wx, reduceLT, reduceEqDiff, Nat.reduceBEq, reduceIte, i0, i1, b3.at ty3 rfl])
      (repeat refine WC.seq ?_)
      by_cases hg : ((lims o)[i]'(by omega)).2 < ((lims o)[i]'(by omega)).1
      · refine WC.cond (b := true) (by (try simp only [wk, wl, wx, reduceLT, reduceEqDiff, Nat.reduceBEq, reduceIte, decide_eq_true hg]); (try simp); (try omega)) ?_
        ((repeat refine WC.seq ?_); refine WC.run ?_)
        (try simp only [wk, wl, wx, reduceLT, reduceEqDiff, Nat.reduceBEq, reduceIte])
        refine WC.ret ?_
        (try simp only [wk, wl, wx, reduceLT, reduceEqDiff, Nat.reduceBEq, reduceIte])
        refine ⟨?_, f1.trans (F3.sub fun b hb => by omega)⟩
        rw [limE, if_pos]; · rfl
        rw [List.any_eq_true]
        exact ⟨_, List.getElem_mem (show i < (lims o).length by omega), by simpa using hg⟩
      · refine WC.cond (b := false) (by (try simp only [wk, wl, wx, reduceLT, reduceEqDiff, Nat.reduceBEq, reduceIte, decide_eq_false hg]); (try simp); (try omega)) (WC.skip ?_)
        (try simp only [wk, wl, wx, reduceLT, reduceEqDiff, Nat.reduceBEq, reduceIte])
        ((repeat refine WC.seq ?_); refine WC.run ?_)
        (try simp only [wk, wl, wx, reduceLT, reduceEqDiff, Nat.reduceBEq, reduceIte, t37, bin_add])
        refine ⟨_, ?_, _, i + 1, rfl, F3, rfl, by omega, ?_⟩
        · omega
        (try simp only [wk, wl, wx, reduceLT, reduceEqDiff, Nat.reduceBEq, reduceIte, t35, t36])
        refine ⟨trivial, trivial, ?_, ?_⟩
        · rw [wrap64 (by omega) (by omega)]; rfl
        · rw [List.take_succ_eq_append_getElem (show i < (lims o).length by omega), List.any_append, hno]
          simp only [List.any_cons, List.any_nil, Bool.or_false, Bool.false_or]
          exact decide_eq_false hg
    · refine WC.cond (b := false) (by (try simp only [wk, wl, wx, reduceLT, reduceEqDiff, Nat.reduceBEq, reduceIte]); (try simp); (try omega)) (WC.exit ?_)
      have : i = 5 := by omega
      subst this
      (try simp only [wk, wl, wx, reduceLT, reduceEqDiff, Nat.reduceBEq, reduceIte])
      ((repeat refine WC.seq ?_); refine WC.run ?_)
      (try simp only [wk, wl, wx, reduceLT, reduceEqDiff, Nat.reduceBEq, reduceIte])
      refine WC.ret ?_
      (try simp only [wk, wl, wx, reduceLT, reduceEqDiff, Nat.reduceBEq, reduceIte])
      refine ⟨?_, F⟩
      rw [limE, if_neg]; · rfl
      intro hh; rw [← List.take_length (l := lims o)] at hh; rw [hl] at hh; rw [hno] at hh; cases hh
  all_goals (try simp only [wk, wl, wx, reduceLT, reduceEqDiff, Nat.reduceBEq, reduceIte])
  all_goals rfl
end Go.Proofs.OP
