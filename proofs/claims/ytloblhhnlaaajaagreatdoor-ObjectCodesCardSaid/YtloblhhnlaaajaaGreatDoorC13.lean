/- Walks: few. -/
import Derived.Test.YtloblhhnlaaajaaGreatDoorB13
import Derived.Test.YtloblhhnlaaajaaGreatDoorC10
set_option linter.unusedVariables false
set_option linter.unusedSimpArgs false
set_option linter.defProp false
set_option linter.unusedSimpArgs false
namespace Go.Proofs.OP
open Go Go.Ev
open Go.Proofs
open Nat (reduceLT reduceEqDiff)
variable {g : T (List V)}

def shortS (s : SymD) : Bool := !decide ((200 : Int) < s.name.length)
def shortR (r : RelD) : Bool := !decide ((200 : Int) < r.sym.length)
def shortN (s : List UInt8) : Bool := !decide ((200 : Int) < s.length)
def fewP (o : ObjD) : Bool := o.syms.all shortS && (o.rels.all shortR && (o.needs.all shortN && (decide ((o.name.length : Int) ≤ 200) && (decide ((o.entry.length : Int) ≤ 200) && (decide ((o.code.length : Int) ≤ 400) && (decide ((o.data.length : Int) ≤ 400) && (decide ((o.syms.length : Int) ≤ 30) && (decide ((o.rels.length : Int) ≤ 30) && decide ((o.needs.length : Int) ≤ 22)))))))))
theorem all_false {α : Type} {p : α → Bool} {L : List α} {i : Nat} (hi : i < L.length) (h : p L[i] = false) : L.all p = false := by
  cases hq : L.all p with
  | false => rfl
  | true => rw [List.all_eq_true] at hq; rw [hq _ (List.getElem_mem hi)] at h; cases h
theorem all_snoc {α : Type} {p : α → Bool} {L : List α} {i : Nat} (hi : i < L.length) (h : (L.take i).all p = true) (hx : p L[i] = true) : (L.take (i + 1)).all p = true := by
  rw [List.take_succ_eq_append_getElem hi, List.all_append, h]
  simp [hx]

structure Room (o : ObjD) : Prop where
  syms : o.syms.length < 2 ^ 62
  rels : o.rels.length < 2 ^ 62
  needs : o.needs.length < 2 ^ 62
theorem few_fits {o : ObjD} (h : fewP o = true) : Fits o := by
  simp only [fewP, Bool.and_eq_true, decide_eq_true_eq] at h
  obtain ⟨-, -, -, -, -, h1, h2, h3, h4, h5⟩ := h
  exact ⟨by omega, by omega, by omega, by omega, by omega⟩
set_option maxRecDepth 100000 in
set_option maxHeartbeats 8000000 in
theorem few_ok {h : H} {c : Oc} {o : ObjD} (ob : Ob g h (· < h.next) c o) (fit : Room o) : WF (E g) 6 [.agg (c.cells o)] h fun v h' => v = .bool (fewP o) ∧ Kept h h' := by
  have fs := fit.syms
  have fr := fit.rels
  have fn := fit.needs
  refine WF.enter fn6 rfl ?_
  ((repeat refine WC.seq ?_); refine WC.run ?_)
  (try simp only [wk, wl, wx, reduceLT, reduceEqDiff, Nat.reduceBEq, reduceIte])
  refine wop_box (v := .agg (c.cells o)) (by (try simp only [wk, wl, wx, reduceLT, reduceEqDiff, Nat.reduceBEq, reduceIte])) ?_
  intro h1 b1 n1 f1
  (try simp only [wk, wl, wx, reduceLT, reduceEqDiff, Nat.reduceBEq, reduceIte])
  have b1 : Has h1 h.next [.str o.name, c.code, c.data, c.syms, c.rels, c.needs, .str o.entry] := b1
  have ob1 := (ob.fix f1 (fun _ h => h)).up (K' := (· < h1.next)) (fun _ h => by omega)
  ((repeat refine WC.seq ?_); refine WC.run ?_)
  (try simp only [wk, wl, wx, reduceLT, reduceEqDiff, Nat.reduceBEq, reduceIte, fa27_3, Nat.zero_add, b1.at ty23 rfl, Sl.lenB ob1.syms ty23 rfl])
  (repeat refine WC.seq ?_)
  refine WC.block ?_
  refine WC.while (fun m fr hh => ∃ ts i, fr = ⟨ts, 84, [], 6, none⟩ ∧ Fix (· < h1.next) h1 hh ∧ m = o.syms.length - i ∧ i ≤ o.syms.length ∧ ts.get 1 = some (.ptr h.next 0) ∧ ts.get 10 = some c.syms ∧ ts.get 11 = some (.int .i64 o.syms.length) ∧ ts.get 12 = some (.int .i64 i) ∧ (o.syms.take i).all shortS = true) ?_ ⟨_, 0, rfl, Fix.refl _ _, rfl, by omega, ?_, ?_, ?_, ?_, rfl⟩
  · rintro m fr hh ⟨ts, i, rfl, ff, rfl, hi, t1, t10, t11, t12, hal⟩
    have xh := ff.next
    have K1 : Kept h hh := f1.trans (ff.sub fun x hx => by omega)
    have bh := b1.fix ff (by omega)
    have obh := (ob1.fix ff (fun x hx => hx)).up (K' := (· < hh.next)) (fun x hx => by omega)
    ((repeat refine WC.seq ?_); refine WC.run ?_)
    (try simp only [wk, wl, wx, reduceLT, reduceEqDiff, Nat.reduceBEq, reduceIte, t11, t12])
    (repeat refine WC.seq ?_)
    by_cases hlt : i < o.syms.length
    · refine WC.cond (b := true) (by (try simp only [wk, wl, wx, reduceLT, reduceEqDiff, Nat.reduceBEq, reduceIte]); (try simp); (try omega)) (WC.skip ?_)
      (try simp only [wk, wl, wx, reduceLT, reduceEqDiff, Nat.reduceBEq, reduceIte])
      obtain ⟨p, p1, p2⟩ := obh.syms.at (fun _ => rfl) ty23 rfl ty89 rfl (by decide) rfl hlt
      have p2 := p2 hh fun _ _ _ _ _ => rfl
      (repeat refine WC.seq ?_)
      refine WC.block ?_
      ((repeat refine WC.seq ?_); refine WC.run ?_)
      (try simp only [wk, wl, wx, reduceLT, reduceEqDiff, Nat.reduceBEq, reduceIte, t10, t12, p1, p2])
      refine wop_alloc ty89 ?_
      intro h5 b5 n5 f5
      (try simp only [wk, wl, wx, reduceLT, reduceEqDiff, Nat.reduceBEq, reduceIte])
      refine sat_store b5 ty89 rfl (by decide) rfl ?_
      intro h6 b6 n6 f6
      have b6 : Has h6 hh.next (symV o.syms[i]) := b6
      have F6 : Fix (· < h1.next) h1 h6 := ⟨by omega, fun c hc => by rw [f6.same c (by omega), f5.same c (by omega), ff.same c hc]⟩
      have l6 : loadP (E g) h6 9 (.ptr hh.next 0) = some (.str o.syms[i].name) := b6.at ty9 rfl 0
      (try simp only [wk, wl, wx, reduceLT, reduceEqDiff, Nat.reduceBEq, reduceIte])
      ((repeat refine WC.seq ?_); refine WC.run ?_)
      (try simp only [wk, wl, wx, reduceLT, reduceEqDiff, Nat.reduceBEq, reduceIte, fa89_0, Nat.zero_add, l6, len_str])
      (repeat refine WC.seq ?_)
      by_cases hg : (200 : Int) < o.syms[i].name.length
      · refine WC.cond (b := true) (by (try simp only [wk, wl, wx, reduceLT, reduceEqDiff, Nat.reduceBEq, reduceIte]); (try simp); (try omega)) ?_
        ((repeat refine WC.seq ?_); refine WC.run ?_)
        (try simp only [wk, wl, wx, reduceLT, reduceEqDiff, Nat.reduceBEq, reduceIte])
        refine WC.ret ?_
        (try simp only [wk, wl, wx, reduceLT, reduceEqDiff, Nat.reduceBEq, reduceIte])
        refine ⟨?_, f1.trans (F6.sub fun x hx => by omega)⟩
        rw [fewP, all_false hlt (by simp [shortS, hg]), Bool.false_and]
      · refine WC.cond (b := false) (by (try simp only [wk, wl, wx, reduceLT, reduceEqDiff, Nat.reduceBEq, reduceIte]); (try simp); (try omega)) (WC.skip ?_)
        (try simp only [wk, wl, wx, reduceLT, reduceEqDiff, Nat.reduceBEq, reduceIte])
        ((repeat refine WC.seq ?_); refine WC.run ?_)
        (try simp only [wk, wl, wx, reduceLT, reduceEqDiff, Nat.reduceBEq, reduceIte, t12, bin_add])
        refine ⟨_, ?_, _, i + 1, rfl, F6, rfl, by omega, ?_⟩
        · omega
        (try simp only [wk, wl, wx, reduceLT, reduceEqDiff, Nat.reduceBEq, reduceIte, t1, t10, t11])
        refine ⟨trivial, trivial, trivial, ?_, all_snoc hlt hal (by simp [shortS, hg])⟩
        rw [wrap64 (by omega) (by omega)]; rfl
    · refine WC.cond (b := false) (by (try simp only [wk, wl, wx, reduceLT, reduceEqDiff, Nat.reduceBEq, reduceIte]); (try simp); (try omega)) (WC.exit ?_)
      have : i = o.syms.length := by omega
      subst this
      rw [List.take_length] at hal
      (try simp only [wk, wl, wx, reduceLT, reduceEqDiff, Nat.reduceBEq, reduceIte])
      have K2 : Kept h hh := K1
      ((repeat refine WC.seq ?_); refine WC.run ?_)
      (try simp only [wk, wl, wx, reduceLT, reduceEqDiff, Nat.reduceBEq, reduceIte, t1, fa27_4, Nat.zero_add, bh.at ty24 rfl, Sl.lenB obh.rels ty24 rfl])
      (repeat refine WC.seq ?_)
      refine WC.block ?_
      have hal1 := hal
      refine WC.while (fun m fr hk => ∃ ts i, fr = ⟨ts, 84, [], 6, none⟩ ∧ Fix (· < hh.next) hh hk ∧ m = o.rels.length - i ∧ i ≤ o.rels.length ∧ ts.get 1 = some (.ptr h.next 0) ∧ ts.get 22 = some c.rels ∧ ts.get 23 = some (.int .i64 o.rels.length) ∧ ts.get 24 = some (.int .i64 i) ∧ (o.rels.take i).all shortR = true) ?_ ⟨_, 0, rfl, Fix.refl _ _, rfl, by omega, ?_, ?_, ?_, ?_, rfl⟩
      · rintro m fr hk ⟨ts, i, rfl, fk, rfl, hi, t1, t22, t23, t24, hal⟩
        have xk := fk.next
        have K3 : Kept h hk := K2.trans (fk.sub fun x hx => by omega)
        have bk := bh.fix fk (by omega)
        have obk := (obh.fix fk (fun x hx => hx)).up (K' := (· < hk.next)) (fun x hx => by omega)
        ((repeat refine WC.seq ?_); refine WC.run ?_)
        (try simp only [wk, wl, wx, reduceLT, reduceEqDiff, Nat.reduceBEq, reduceIte, t23, t24])
        (repeat refine WC.seq ?_)
        by_cases hlt : i < o.rels.length
        · refine WC.cond (b := true) (by (try simp only [wk, wl, wx, reduceLT, reduceEqDiff, Nat.reduceBEq, reduceIte]); (try simp); (try omega)) (WC.skip ?_)
          (try simp only [wk, wl, wx, reduceLT, reduceEqDiff, Nat.reduceBEq, reduceIte])
          obtain ⟨p, p1, p2⟩ := obk.rels.at (fun _ => rfl) ty24 rfl ty91 rfl (by decide) rfl hlt
          have p2 := p2 hk fun _ _ _ _ _ => rfl
          (repeat refine WC.seq ?_)
          refine WC.block ?_
          ((repeat refine WC.seq ?_); refine WC.run ?_)
          (try simp only [wk, wl, wx, reduceLT, reduceEqDiff, Nat.reduceBEq, reduceIte, t22, t24, p1, p2])
          refine wop_alloc ty91 ?_
          intro h5 b5 n5 f5
          (try simp only [wk, wl, wx, reduceLT, reduceEqDiff, Nat.reduceBEq, reduceIte])
          refine sat_store b5 ty91 rfl (by decide) rfl ?_
          intro h6 b6 n6 f6
          have b6 : Has h6 hk.next (relV o.rels[i]) := b6
          have F6 : Fix (· < hh.next) hh h6 := ⟨by omega, fun c hc => by rw [f6.same c (by omega), f5.same c (by omega), fk.same c hc]⟩
          have l6 : loadP (E g) h6 9 (.ptr hk.next 3) = some (.str o.rels[i].sym) := b6.at ty9 rfl 3
          (try simp only [wk, wl, wx, reduceLT, reduceEqDiff, Nat.reduceBEq, reduceIte])
          ((repeat refine WC.seq ?_); refine WC.run ?_)
          (try simp only [wk, wl, wx, reduceLT, reduceEqDiff, Nat.reduceBEq, reduceIte, fa91_3, Nat.zero_add, l6, len_str])
          (repeat refine WC.seq ?_)
          by_cases hg : (200 : Int) < o.rels[i].sym.length
          · refine WC.cond (b := true) (by (try simp only [wk, wl, wx, reduceLT, reduceEqDiff, Nat.reduceBEq, reduceIte]); (try simp); (try omega)) ?_
            ((repeat refine WC.seq ?_); refine WC.run ?_)
            (try simp only [wk, wl, wx, reduceLT, reduceEqDiff, Nat.reduceBEq, reduceIte])
            refine WC.ret ?_
            (try simp only [wk, wl, wx, reduceLT, reduceEqDiff, Nat.reduceBEq, reduceIte])
            refine ⟨?_, K2.trans (F6.sub fun x hx => by omega)⟩
            rw [fewP, hal1, all_false hlt (by simp [shortR, hg]), Bool.false_and, Bool.and_false]
          · refine WC.cond (b := false) (by (try simp only [wk, wl, wx, reduceLT, reduceEqDiff, Nat.reduceBEq, reduceIte]); (try simp); (try omega)) (WC.skip ?_)
            (try simp only [wk, wl, wx, reduceLT, reduceEqDiff, Nat.reduceBEq, reduceIte])
            ((repeat refine WC.seq ?_); refine WC.run ?_)
            (try simp only [wk, wl, wx, reduceLT, reduceEqDiff, Nat.reduceBEq, reduceIte, t24, bin_add])
            refine ⟨_, ?_, _, i + 1, rfl, F6, rfl, by omega, ?_⟩
            · omega
            (try simp only [wk, wl, wx, reduceLT, reduceEqDiff, Nat.reduceBEq, reduceIte, t1, t22, t23])
            refine ⟨trivial, trivial, trivial, ?_, all_snoc hlt hal (by simp [shortR, hg])⟩
            rw [wrap64 (by omega) (by omega)]; rfl
        · refine WC.cond (b := false) (by (try simp only [wk, wl, wx, reduceLT, reduceEqDiff, Nat.reduceBEq, reduceIte]); (try simp); (try omega)) (WC.exit ?_)
          have : i = o.rels.length := by omega
          subst this
          rw [List.take_length] at hal
          (try simp only [wk, wl, wx, reduceLT, reduceEqDiff, Nat.reduceBEq, reduceIte])
          have hal2 := hal
          ((repeat refine WC.seq ?_); refine WC.run ?_)
          (try simp only [wk, wl, wx, reduceLT, reduceEqDiff, Nat.reduceBEq, reduceIte, t1, fa27_5, Nat.zero_add, bk.at ty25 rfl, Sl.lenB obk.needs ty25 rfl])
          (repeat refine WC.seq ?_)
          refine WC.block ?_
          refine WC.while (fun m fr hq => ∃ ts i, fr = ⟨ts, 84, [], 6, none⟩ ∧ hq = hk ∧ m = o.needs.length - i ∧ i ≤ o.needs.length ∧ ts.get 1 = some (.ptr h.next 0) ∧ ts.get 34 = some c.needs ∧ ts.get 35 = some (.int .i64 o.needs.length) ∧ ts.get 36 = some (.int .i64 i) ∧ (o.needs.take i).all shortN = true) ?_ ⟨_, 0, rfl, rfl, rfl, by omega, ?_, ?_, ?_, ?_, rfl⟩
          · rintro m fr hq ⟨ts, i, rfl, rfl, rfl, hi, t1, t34, t35, t36, hal⟩
            ((repeat refine WC.seq ?_); refine WC.run ?_)
            (try simp only [wk, wl, wx, reduceLT, reduceEqDiff, Nat.reduceBEq, reduceIte, t35, t36])
            (repeat refine WC.seq ?_)
            by_cases hlt : i < o.needs.length
            · refine WC.cond (b := true) (by (try simp only [wk, wl, wx, reduceLT, reduceEqDiff, Nat.reduceBEq, reduceIte]); (try simp); (try omega)) (WC.skip ?_)
              (try simp only [wk, wl, wx, reduceLT, reduceEqDiff, Nat.reduceBEq, reduceIte])
              obtain ⟨p, p1, p2⟩ := obk.needs.at ty25 rfl ty9 rfl rfl hlt
              have p2 := p2 hq fun _ _ _ _ _ => rfl
              (repeat refine WC.seq ?_)
              refine WC.block ?_
              ((repeat refine WC.seq ?_); refine WC.run ?_)
              (try simp only [wk, wl, wx, reduceLT, reduceEqDiff, Nat.reduceBEq, reduceIte, t34, t36, p1, p2])
              ((repeat refine WC.seq ?_); refine WC.run ?_)
              (try simp only [wk, wl, wx, reduceLT, reduceEqDiff, Nat.reduceBEq, reduceIte, len_str])
              (repeat refine WC.seq ?_)
              by_cases hg : (200 : Int) < o.needs[i].length
              · refine WC.cond (b := true) (by (try simp only [wk, wl, wx, reduceLT, reduceEqDiff, Nat.reduceBEq, reduceIte]); (try simp); (try omega)) ?_
                ((repeat refine WC.seq ?_); refine WC.run ?_)
                (try simp only [wk, wl, wx, reduceLT, reduceEqDiff, Nat.reduceBEq, reduceIte])
                refine WC.ret ?_
                (try simp only [wk, wl, wx, reduceLT, reduceEqDiff, Nat.reduceBEq, reduceIte])
                refine ⟨?_, K3⟩
                rw [fewP, hal1, hal2, all_false hlt (by simp [shortN, hg]), Bool.false_and, Bool.and_false, Bool.and_false]
              · refine WC.cond (b := false) (by (try simp only [wk, wl, wx, reduceLT, reduceEqDiff, Nat.reduceBEq, reduceIte]); (try simp); (try omega)) (WC.skip ?_)
                (try simp only [wk, wl, wx, reduceLT, reduceEqDiff, Nat.reduceBEq, reduceIte])
                ((repeat refine WC.seq ?_); refine WC.run ?_)
                (try simp only [wk, wl, wx, reduceLT, reduceEqDiff, Nat.reduceBEq, reduceIte, t36, bin_add])
                refine ⟨_, ?_, _, i + 1, rfl, by trivial, rfl, by omega, ?_⟩
                · omega
                (try simp only [wk, wl, wx, reduceLT, reduceEqDiff, Nat.reduceBEq, reduceIte, t1, t34, t35])
                refine ⟨trivial, trivial, trivial, ?_, all_snoc hlt hal (by simp [shortN, hg])⟩
                rw [wrap64 (by omega) (by omega)]; rfl
            · refine WC.cond (b := false) (by (try simp only [wk, wl, wx, reduceLT, reduceEqDiff, Nat.reduceBEq, reduceIte]); (try simp); (try omega)) (WC.exit ?_)
              have : i = o.needs.length := by omega
              subst this
              rw [List.take_length] at hal
              (try simp only [wk, wl, wx, reduceLT, reduceEqDiff, Nat.reduceBEq, reduceIte])
              have hP : fewP o = (decide ((o.name.length : Int) ≤ 200) && (decide ((o.entry.length : Int) ≤ 200) && (decide ((o.code.length : Int) ≤ 400) && (decide ((o.data.length : Int) ≤ 400) && (decide ((o.syms.length : Int) ≤ 30) && (decide ((o.rels.length : Int) ≤ 30) && decide ((o.needs.length : Int) ≤ 22))))))) := by
                rw [fewP, hal1, hal2, hal]; simp only [Bool.true_and]
              rcases (Decidable.em ((o.name.length : Int) ≤ 200)).symm with w1 | w1
              · ((repeat refine WC.seq ?_); refine WC.run ?_)
                (try simp only [wk, wl, wx, reduceLT, reduceEqDiff, Nat.reduceBEq, reduceIte, un, t1, fa27_0, fa27_1, fa27_2, fa27_3, fa27_4, fa27_5, fa27_6, Nat.zero_add, bk.at ty9 rfl, bk.at ty22 rfl, bk.at ty23 rfl, bk.at ty24 rfl, bk.at ty25 rfl, len_str, obk.code.len, obk.data.len, Sl.lenB obk.syms ty23 rfl, Sl.lenB obk.rels ty24 rfl, Sl.lenB obk.needs ty25 rfl, decide_eq_false w1])
                (repeat refine WC.seq ?_)
                refine WC.ret ?_
                (try simp only [wk, wl, wx, reduceLT, reduceEqDiff, Nat.reduceBEq, reduceIte])
                refine ⟨?_, K3⟩
                rw [hP]; simp only [decide_eq_false w1, Bool.false_and, Bool.true_and]
              rcases (Decidable.em ((o.entry.length : Int) ≤ 200)).symm with w2 | w2
              · ((repeat refine WC.seq ?_); refine WC.run ?_)
                (try simp only [wk, wl, wx, reduceLT, reduceEqDiff, Nat.reduceBEq, reduceIte, un, t1, fa27_0, fa27_1, fa27_2, fa27_3, fa27_4, fa27_5, fa27_6, Nat.zero_add, bk.at ty9 rfl, bk.at ty22 rfl, bk.at ty23 rfl, bk.at ty24 rfl, bk.at ty25 rfl, len_str, obk.code.len, obk.data.len, Sl.lenB obk.syms ty23 rfl, Sl.lenB obk.rels ty24 rfl, Sl.lenB obk.needs ty25 rfl, decide_eq_true w1, decide_eq_false w2])
                (repeat refine WC.seq ?_)
                refine WC.ret ?_
                (try simp only [wk, wl, wx, reduceLT, reduceEqDiff, Nat.reduceBEq, reduceIte])
                refine ⟨?_, K3⟩
                rw [hP]; simp only [decide_eq_true w1, decide_eq_false w2, Bool.false_and, Bool.true_and]
              rcases (Decidable.em ((o.code.length : Int) ≤ 400)).symm with w3 | w3
              · ((repeat refine WC.seq ?_); refine WC.run ?_)
                (try simp only [wk, wl, wx, reduceLT, reduceEqDiff, Nat.reduceBEq, reduceIte, un, t1, fa27_0, fa27_1, fa27_2, fa27_3, fa27_4, fa27_5, fa27_6, Nat.zero_add, bk.at ty9 rfl, bk.at ty22 rfl, bk.at ty23 rfl, bk.at ty24 rfl, bk.at ty25 rfl, len_str, obk.code.len, obk.data.len, Sl.lenB obk.syms ty23 rfl, Sl.lenB obk.rels ty24 rfl, Sl.lenB obk.needs ty25 rfl, decide_eq_true w1, decide_eq_true w2, decide_eq_false w3])
                (repeat refine WC.seq ?_)
                refine WC.ret ?_
                (try simp only [wk, wl, wx, reduceLT, reduceEqDiff, Nat.reduceBEq, reduceIte])
                refine ⟨?_, K3⟩
                rw [hP]; simp only [decide_eq_true w1, decide_eq_true w2, decide_eq_false w3, Bool.false_and, Bool.true_and]
              rcases (Decidable.em ((o.data.length : Int) ≤ 400)).symm with w4 | w4
              · ((repeat refine WC.seq ?_); refine WC.run ?_)
                (try simp only [wk, wl, wx, reduceLT, reduceEqDiff, Nat.reduceBEq, reduceIte, un, t1, fa27_0, fa27_1, fa27_2, fa27_3, fa27_4, fa27_5, fa27_6, Nat.zero_add, bk.at ty9 rfl, bk.at ty22 rfl, bk.at ty23 rfl, bk.at ty24 rfl, bk.at ty25 rfl, len_str, obk.code.len, obk.data.len, Sl.lenB obk.syms ty23 rfl, Sl.lenB obk.rels ty24 rfl, Sl.lenB obk.needs ty25 rfl, decide_eq_true w1, decide_eq_true w2, decide_eq_true w3, decide_eq_false w4])
                (repeat refine WC.seq ?_)
                refine WC.ret ?_
                (try simp only [wk, wl, wx, reduceLT, reduceEqDiff, Nat.reduceBEq, reduceIte])
                refine ⟨?_, K3⟩
                rw [hP]; simp only [decide_eq_true w1, decide_eq_true w2, decide_eq_true w3, decide_eq_false w4, Bool.false_and, Bool.true_and]
              rcases (Decidable.em ((o.syms.length : Int) ≤ 30)).symm with w5 | w5
              · ((repeat refine WC.seq ?_); refine WC.run ?_)
                (try simp only [wk, wl, wx, reduceLT, reduceEqDiff, Nat.reduceBEq, reduceIte, un, t1, fa27_0, fa27_1, fa27_2, fa27_3, fa27_4, fa27_5, fa27_6, Nat.zero_add, bk.at ty9 rfl, bk.at ty22 rfl, bk.at ty23 rfl, bk.at ty24 rfl, bk.at ty25 rfl, len_str, obk.code.len, obk.data.len, Sl.lenB obk.syms ty23 rfl, Sl.lenB obk.rels ty24 rfl, Sl.lenB obk.needs ty25 rfl, decide_eq_true w1, decide_eq_true w2, decide_eq_true w3, decide_eq_true w4, decide_eq_false w5])
                (repeat refine WC.seq ?_)
                refine WC.ret ?_
                (try simp only [wk, wl, wx, reduceLT, reduceEqDiff, Nat.reduceBEq, reduceIte])
                refine ⟨?_, K3⟩
                rw [hP]; simp only [decide_eq_true w1, decide_eq_true w2, decide_eq_true w3, decide_eq_true w4, decide_eq_false w5, Bool.false_and, Bool.true_and]
              rcases (Decidable.em ((o.rels.length : Int) ≤ 30)).symm with w6 | w6
              · ((repeat refine WC.seq ?_); refine WC.run ?_)
                (try simp only [wk, wl, wx, reduceLT, reduceEqDiff, Nat.reduceBEq, reduceIte, un, t1, fa27_0, fa27_1, fa27_2, fa27_3, fa27_4, fa27_5, fa27_6, Nat.zero_add, bk.at ty9 rfl, bk.at ty22 rfl, bk.at ty23 rfl, bk.at ty24 rfl, bk.at ty25 rfl, len_str, obk.code.len, obk.data.len, Sl.lenB obk.syms ty23 rfl, Sl.lenB obk.rels ty24 rfl, Sl.lenB obk.needs ty25 rfl, decide_eq_true w1, decide_eq_true w2, decide_eq_true w3, decide_eq_true w4, decide_eq_true w5, decide_eq_false w6])
                (repeat refine WC.seq ?_)
                refine WC.ret ?_
                (try simp only [wk, wl, wx, reduceLT, reduceEqDiff, Nat.reduceBEq, reduceIte])
                refine ⟨?_, K3⟩
                rw [hP]; simp only [decide_eq_true w1, decide_eq_true w2, decide_eq_true w3, decide_eq_true w4, decide_eq_true w5, decide_eq_false w6, Bool.false_and, Bool.true_and]
              ((repeat refine WC.seq ?_); refine WC.run ?_)
              (try simp only [wk, wl, wx, reduceLT, reduceEqDiff, Nat.reduceBEq, reduceIte, un, t1, fa27_0, fa27_1, fa27_2, fa27_3, fa27_4, fa27_5, fa27_6, Nat.zero_add, bk.at ty9 rfl, bk.at ty22 rfl, bk.at ty23 rfl, bk.at ty24 rfl, bk.at ty25 rfl, len_str, obk.code.len, obk.data.len, Sl.lenB obk.syms ty23 rfl, Sl.lenB obk.rels ty24 rfl, Sl.lenB obk.needs ty25 rfl, decide_eq_true w1, decide_eq_true w2, decide_eq_true w3, decide_eq_true w4, decide_eq_true w5, decide_eq_true w6])
              (repeat refine WC.seq ?_)
              refine WC.ret ?_
              (try simp only [wk, wl, wx, reduceLT, reduceEqDiff, Nat.reduceBEq, reduceIte])
              refine ⟨?_, K3⟩
              rw [hP]; simp only [decide_eq_true w1, decide_eq_true w2, decide_eq_true w3, decide_eq_true w4, decide_eq_true w5, decide_eq_true w6, Bool.false_and, Bool.true_and]
          all_goals (try simp only [wk, wl, wx, reduceLT, reduceEqDiff, Nat.reduceBEq, reduceIte, t1])
          all_goals (first | trivial | rfl | simp)
      all_goals (try simp only [wk, wl, wx, reduceLT, reduceEqDiff, Nat.reduceBEq, reduceIte, t1])
      all_goals (first | trivial | rfl | simp)
  all_goals (try simp only [wk, wl, wx, reduceLT, reduceEqDiff, Nat.reduceBEq, reduceIte])
  all_goals (first | trivial | rfl | simp)
end Go.Proofs.OP
