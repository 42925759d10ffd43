/- Walks: Decode's closures. Printed by gen25.py. -/
import Derived.Test.YtloblhhnlaaajaaDoorX15
import Derived.Test.YtloblhhnlaaajaaDoorX21
import Derived.Test.YtloblhhnlaaajaaDoorX22
import Derived.Test.YtloblhhnlaaajaaDoorX20
set_option linter.unusedVariables false
set_option linter.unusedSimpArgs false
set_option linter.defProp false
set_option linter.unusedSimpArgs false
namespace Go.Proofs.OP
open Go Go.Ev
open Go.Proofs
open Nat (reduceLT reduceEqDiff)
variable {g : T (List V)}

structure DI {α : Type} (g : T (List V)) (hm : H) (n0 N rb ob : Nat) (cells : V → List V) (e sz : Nat) (fl : List α → List V) (s : RdS × List α) (h : H) (sv : V) : Prop where
 rd : Rd g h (· < n0) rb s.1
 co : Has h ob (cells sv)
 bu : Buf (E g) h e sz sv s.2.length (fl s.2)
 nw : In (fun b => hm.next ≤ b ∧ b < h.next) sv
 fx : Fix (fun b => b < hm.next ∧ b ≠ rb ∧ b ≠ ob) hm h
 xs : s.1.xs.length ≤ N
 ln : s.2.length ≤ N + 1
 sm : s.1.bad = false → s.2.length + s.1.xs.length ≤ N
theorem DI.bad {α : Type} {hm : H} {n0 N rb ob : Nat} {cells : V → List V} {e sz : Nat} {fl : List α → List V} {s : RdS × List α} {h : H} (i : ∃ sv, DI g hm n0 N rb ob cells e sz fl s h sv) : ∃ sl, Has h rb [sl, .bool s.1.bad] := by
 obtain ⟨sv, i⟩ := i
 obtain ⟨bs, a, _⟩ := i.rd
 exact ⟨bs, a⟩
end Go.Proofs.OP

set_option linter.unusedSimpArgs false
namespace Go.Proofs.OP
open Go Go.Ev
open Go.Proofs
open Nat (reduceLT reduceEqDiff)
variable {g : T (List V)}

def symB (s : SymD) : List UInt8 := txtB [s.name] ++ numB [s.sec, s.off, bitsI s.glob s.weak]
def relB (r : RelD) : List UInt8 := numB [r.sec, r.off, r.kind] ++ txtB [r.sym] ++ numB [r.add]
end Go.Proofs.OP

set_option linter.unusedSimpArgs false
namespace Go.Proofs.OP
open Go Go.Ev
open Go.Proofs
open Nat (reduceLT reduceEqDiff)
variable {g : T (List V)}

theorem NewBs.keep {h h1 h2 : H} {K : Nat → Prop} {v : V} {xs : List UInt8} (a : NewBs g h h1 v xs) (f : Fix K h1 h2) (hK : ∀ b, h.next ≤ b → b < h1.next → K b) : NewBs g h h2 v xs :=
 ⟨Sl.fix a.1 (a.2.sub fun b hb => hK b hb.1 hb.2) f, a.2.sub fun b hb => ⟨hb.1, by have := f.next; omega⟩⟩
end Go.Proofs.OP

namespace Go.Proofs.OP
open Go Go.Ev
def In64 (n : Int) : Prop := -9223372036854775808 ≤ n ∧ n ≤ 9223372036854775807
def rest6 (o : ObjD) : List UInt8 := txtB [o.entry] ++ []
def rest5 (o : ObjD) : List UInt8 := numB [(o.needs.length : Int)] ++ ((o.needs.flatMap fun s => txtB [s]) ++ rest6 o)
def rest4 (o : ObjD) : List UInt8 := numB [(o.rels.length : Int)] ++ (o.rels.flatMap relB ++ rest5 o)
def rest3 (o : ObjD) : List UInt8 := numB [(o.syms.length : Int)] ++ (o.syms.flatMap symB ++ rest4 o)
def rest2 (o : ObjD) : List UInt8 := txtB [o.data] ++ rest3 o
def rest1 (o : ObjD) : List UInt8 := txtB [o.code] ++ rest2 o
def body (o : ObjD) : List UInt8 := txtB [o.name] ++ rest1 o
end Go.Proofs.OP

set_option linter.unusedSimpArgs false
namespace Go.Proofs.OP
open Go Go.Ev
open Go.Proofs
open Nat (reduceLT reduceEqDiff)
variable {g : T (List V)}

instance : DecidableEq SymD := fun a b => if h : a.name = b.name ∧ a.sec = b.sec ∧ a.off = b.off ∧ a.glob = b.glob ∧ a.weak = b.weak then isTrue (by cases a; cases b; simp at h; simp [h]) else isFalse (by rintro rfl; simp at h)
instance : DecidableEq RelD := fun a b => if h : a.sec = b.sec ∧ a.off = b.off ∧ a.kind = b.kind ∧ a.sym = b.sym ∧ a.add = b.add then isTrue (by cases a; cases b; simp at h; simp [h]) else isFalse (by rintro rfl; simp at h)

theorem eqT_i3 {n : Nat} {a b : Int} : eqT (E g) (n + 1) 3 (.int .i64 a) (.int .i64 b) = some (decide (a = b)) := by
 simp only [eqT, ty3, scalarEq, if_true]
end Go.Proofs.OP

set_option linter.unusedSimpArgs false
namespace Go.Proofs.OP
open Go Go.Ev
open Go.Proofs
open Nat (reduceLT reduceEqDiff)
variable {g : T (List V)}

def shortS (s : SymD) : Bool := !decide ((200 : Int) < s.name.length)
def shortR (r : RelD) : Bool := !decide ((200 : Int) < r.sym.length)
def shortN (s : List UInt8) : Bool := !decide ((200 : Int) < s.length)
def fewP (o : ObjD) : Bool := o.syms.all shortS && (o.rels.all shortR && (o.needs.all shortN && (decide ((o.name.length : Int) ≤ 200) && (decide ((o.entry.length : Int) ≤ 200) && (decide ((o.code.length : Int) ≤ 400) && (decide ((o.data.length : Int) ≤ 400) && (decide ((o.syms.length : Int) ≤ 30) && (decide ((o.rels.length : Int) ≤ 30) && decide ((o.needs.length : Int) ≤ 22)))))))))
theorem all_false {α : Type} {p : α → Bool} {L : List α} {i : Nat} (hi : i < L.length) (h : p L[i] = false) : L.all p = false := by
 cases hq : L.all p with
 | false => rfl
 | true => rw [List.all_eq_true] at hq; rw [hq _ (List.getElem_mem hi)] at h; cases h
theorem all_snoc {α : Type} {p : α → Bool} {L : List α} {i : Nat} (hi : i < L.length) (h : (L.take i).all p = true) (hx : p L[i] = true) : (L.take (i + 1)).all p = true := by
 rw [List.take_succ_eq_append_getElem hi, List.all_append, h]
 simp [hx]

structure Room (o : ObjD) : Prop where
 syms : o.syms.length < 2 ^ 62
 rels : o.rels.length < 2 ^ 62
 needs : o.needs.length < 2 ^ 62
theorem few_fits {o : ObjD} (h : fewP o = true) : Fits o := by
 simp only [fewP, Bool.and_eq_true, decide_eq_true_eq] at h
 obtain ⟨-, -, -, -, -, h1, h2, h3, h4, h5⟩ := h
 exact ⟨by omega, by omega, by omega, by omega, by omega⟩
set_option maxRecDepth 100000 in
set_option maxHeartbeats 8000000 in
theorem few_ok {h : H} {c : Oc} {o : ObjD} (ob : Ob g h (· < h.next) c o) (fit : Room o) : WF (E g) 22 [.agg (c.cells o)] h fun v h' => v = .bool (fewP o) ∧ Kept h h' := by
 have fs := fit.syms
 have fr := fit.rels
 have fn := fit.needs
 refine WF.enter fn22 rfl ?_
 ((repeat refine WC.seq ?_); refine WC.run ?_)
 (try simp only [wk, wl, wx, reduceLT, reduceEqDiff, Nat.reduceBEq, reduceIte])
 refine wop_box (v := .agg (c.cells o)) (by (try simp only [wk, wl, wx, reduceLT, reduceEqDiff, Nat.reduceBEq, reduceIte])) ?_
 intro h1 b1 n1 f1
 (try simp only [wk, wl, wx, reduceLT, reduceEqDiff, Nat.reduceBEq, reduceIte])
 have b1 : Has h1 h.next [.str o.name, c.code, c.data, c.syms, c.rels, c.needs, .str o.entry] := b1
 have ob1 := (ob.fix f1 (fun _ h => h)).up (K' := (· < h1.next)) (fun _ h => by omega)
 ((repeat refine WC.seq ?_); refine WC.run ?_)
 (try simp only [wk, wl, wx, reduceLT, reduceEqDiff, Nat.reduceBEq, reduceIte, fa70_3, Nat.zero_add, b1.at ty67 rfl, Sl.lenB ob1.syms ty67 rfl])
 (repeat refine WC.seq ?_)
 refine WC.block ?_
 refine WC.while (fun m fr hh => ∃ ts i, fr = ⟨ts, 84, [], 22, none⟩ ∧ Fix (· < h1.next) h1 hh ∧ m = o.syms.length - i ∧ i ≤ o.syms.length ∧ ts.get 1 = some (.ptr h.next 0) ∧ ts.get 10 = some c.syms ∧ ts.get 11 = some (.int .i64 o.syms.length) ∧ ts.get 12 = some (.int .i64 i) ∧ (o.syms.take i).all shortS = true) ?_ ⟨_, 0, rfl, Fix.refl _ _, rfl, by omega, ?_, ?_, ?_, ?_, rfl⟩
 ·rintro m fr hh ⟨ts, i, rfl, ff, rfl, hi, t1, t10, t11, t12, hal⟩
  have xh := ff.next
  have K1 : Kept h hh := f1.trans (ff.sub fun x hx => by omega)
  have bh := b1.fix ff (by omega)
  have obh := (ob1.fix ff (fun x hx => hx)).up (K' := (· < hh.next)) (fun x hx => by omega)
  ((repeat refine WC.seq ?_); refine WC.run ?_)
  (try simp only [wk, wl, wx, reduceLT, reduceEqDiff, Nat.reduceBEq, reduceIte, t11, t12])
  (repeat refine WC.seq ?_)
  by_cases hlt : i < o.syms.length
  ·refine WC.cond (b := true) (by (try simp only [wk, wl, wx, reduceLT, reduceEqDiff, Nat.reduceBEq, reduceIte]); (try simp); (try omega)) (WC.skip ?_)
   (try simp only [wk, wl, wx, reduceLT, reduceEqDiff, Nat.reduceBEq, reduceIte])
   obtain ⟨p, p1, p2⟩ := obh.syms.at (fun _ => rfl) ty67 rfl ty132 rfl (by decide) rfl hlt
   have p2 := p2 hh fun _ _ _ _ _ => rfl
   (repeat refine WC.seq ?_)
   refine WC.block ?_
   ((repeat refine WC.seq ?_); refine WC.run ?_)
   (try simp only [wk, wl, wx, reduceLT, reduceEqDiff, Nat.reduceBEq, reduceIte, t10, t12, p1, p2])
   refine wop_alloc ty132 ?_
   intro h5 b5 n5 f5
   (try simp only [wk, wl, wx, reduceLT, reduceEqDiff, Nat.reduceBEq, reduceIte])
   refine sat_store b5 ty132 rfl (by decide) rfl ?_
   intro h6 b6 n6 f6
   have b6 : Has h6 hh.next (symV o.syms[i]) := b6
   have F6 : Fix (· < h1.next) h1 h6 := ⟨by omega, fun c hc => by rw [f6.same c (by omega), f5.same c (by omega), ff.same c hc]⟩
   have l6 : loadP (E g) h6 9 (.ptr hh.next 0) = some (.str o.syms[i].name) := b6.at ty9 rfl 0
   (try simp only [wk, wl, wx, reduceLT, reduceEqDiff, Nat.reduceBEq, reduceIte])
   ((repeat refine WC.seq ?_); refine WC.run ?_)
   (try simp only [wk, wl, wx, reduceLT, reduceEqDiff, Nat.reduceBEq, reduceIte, fa132_0, Nat.zero_add, l6, len_str])
   (repeat refine WC.seq ?_)
   by_cases hg : (200 : Int) < o.syms[i].name.length
   ·refine WC.cond (b := true) (by (try simp only [wk, wl, wx, reduceLT, reduceEqDiff, Nat.reduceBEq, reduceIte]); (try simp); (try omega)) ?_
    ((repeat refine WC.seq ?_); refine WC.run ?_)
    (try simp only [wk, wl, wx, reduceLT, reduceEqDiff, Nat.reduceBEq, reduceIte])
    refine WC.ret ?_
    (try simp only [wk, wl, wx, reduceLT, reduceEqDiff, Nat.reduceBEq, reduceIte])
    refine ⟨?_, f1.trans (F6.sub fun x hx => by omega)⟩
    rw [fewP, all_false hlt (by simp [shortS, hg]), Bool.false_and]
   ·refine WC.cond (b := false) (by (try simp only [wk, wl, wx, reduceLT, reduceEqDiff, Nat.reduceBEq, reduceIte]); (try simp); (try omega)) (WC.skip ?_)
    (try simp only [wk, wl, wx, reduceLT, reduceEqDiff, Nat.reduceBEq, reduceIte])
    ((repeat refine WC.seq ?_); refine WC.run ?_)
    (try simp only [wk, wl, wx, reduceLT, reduceEqDiff, Nat.reduceBEq, reduceIte, t12, bin_add])
    refine ⟨_, ?_, _, i + 1, rfl, F6, rfl, by omega, ?_⟩
    ·omega
    (try simp only [wk, wl, wx, reduceLT, reduceEqDiff, Nat.reduceBEq, reduceIte, t1, t10, t11])
    refine ⟨trivial, trivial, trivial, ?_, all_snoc hlt hal (by simp [shortS, hg])⟩
    rw [wrap64 (by omega) (by omega)]; rfl
  ·refine WC.cond (b := false) (by (try simp only [wk, wl, wx, reduceLT, reduceEqDiff, Nat.reduceBEq, reduceIte]); (try simp); (try omega)) (WC.exit ?_)
   have : i = o.syms.length := by omega
   subst this
   rw [List.take_length] at hal
   (try simp only [wk, wl, wx, reduceLT, reduceEqDiff, Nat.reduceBEq, reduceIte])
   have K2 : Kept h hh := K1
   ((repeat refine WC.seq ?_); refine WC.run ?_)
   (try simp only [wk, wl, wx, reduceLT, reduceEqDiff, Nat.reduceBEq, reduceIte, t1, fa70_4, Nat.zero_add, bh.at ty68 rfl, Sl.lenB obh.rels ty68 rfl])
   (repeat refine WC.seq ?_)
   refine WC.block ?_
   have hal1 := hal
   refine WC.while (fun m fr hk => ∃ ts i, fr = ⟨ts, 84, [], 22, none⟩ ∧ Fix (· < hh.next) hh hk ∧ m = o.rels.length - i ∧ i ≤ o.rels.length ∧ ts.get 1 = some (.ptr h.next 0) ∧ ts.get 22 = some c.rels ∧ ts.get 23 = some (.int .i64 o.rels.length) ∧ ts.get 24 = some (.int .i64 i) ∧ (o.rels.take i).all shortR = true) ?_ ⟨_, 0, rfl, Fix.refl _ _, rfl, by omega, ?_, ?_, ?_, ?_, rfl⟩
   ·rintro m fr hk ⟨ts, i, rfl, fk, rfl, hi, t1, t22, t23, t24, hal⟩
    have xk := fk.next
    have K3 : Kept h hk := K2.trans (fk.sub fun x hx => by omega)
    have bk := bh.fix fk (by omega)
    have obk := (obh.fix fk (fun x hx => hx)).up (K' := (· < hk.next)) (fun x hx => by omega)
    ((repeat refine WC.seq ?_); refine WC.run ?_)
    (try simp only [wk, wl, wx, reduceLT, reduceEqDiff, Nat.reduceBEq, reduceIte, t23, t24])
    (repeat refine WC.seq ?_)
    by_cases hlt : i < o.rels.length
    ·refine WC.cond (b := true) (by (try simp only [wk, wl, wx, reduceLT, reduceEqDiff, Nat.reduceBEq, reduceIte]); (try simp); (try omega)) (WC.skip ?_)
     (try simp only [wk, wl, wx, reduceLT, reduceEqDiff, Nat.reduceBEq, reduceIte])
     obtain ⟨p, p1, p2⟩ := obk.rels.at (fun _ => rfl) ty68 rfl ty127 rfl (by decide) rfl hlt
     have p2 := p2 hk fun _ _ _ _ _ => rfl
     (repeat refine WC.seq ?_)
     refine WC.block ?_
     ((repeat refine WC.seq ?_); refine WC.run ?_)
     (try simp only [wk, wl, wx, reduceLT, reduceEqDiff, Nat.reduceBEq, reduceIte, t22, t24, p1, p2])
     refine wop_alloc ty127 ?_
     intro h5 b5 n5 f5
     (try simp only [wk, wl, wx, reduceLT, reduceEqDiff, Nat.reduceBEq, reduceIte])
     refine sat_store b5 ty127 rfl (by decide) rfl ?_
     intro h6 b6 n6 f6
     have b6 : Has h6 hk.next (relV o.rels[i]) := b6
     have F6 : Fix (· < hh.next) hh h6 := ⟨by omega, fun c hc => by rw [f6.same c (by omega), f5.same c (by omega), fk.same c hc]⟩
     have l6 : loadP (E g) h6 9 (.ptr hk.next 3) = some (.str o.rels[i].sym) := b6.at ty9 rfl 3
     (try simp only [wk, wl, wx, reduceLT, reduceEqDiff, Nat.reduceBEq, reduceIte])
     ((repeat refine WC.seq ?_); refine WC.run ?_)
     (try simp only [wk, wl, wx, reduceLT, reduceEqDiff, Nat.reduceBEq, reduceIte, fa127_3, Nat.zero_add, l6, len_str])
     (repeat refine WC.seq ?_)
     by_cases hg : (200 : Int) < o.rels[i].sym.length
     ·refine WC.cond (b := true) (by (try simp only [wk, wl, wx, reduceLT, reduceEqDiff, Nat.reduceBEq, reduceIte]); (try simp); (try omega)) ?_
      ((repeat refine WC.seq ?_); refine WC.run ?_)
      (try simp only [wk, wl, wx, reduceLT, reduceEqDiff, Nat.reduceBEq, reduceIte])
      refine WC.ret ?_
      (try simp only [wk, wl, wx, reduceLT, reduceEqDiff, Nat.reduceBEq, reduceIte])
      refine ⟨?_, K2.trans (F6.sub fun x hx => by omega)⟩
      rw [fewP, hal1, all_false hlt (by simp [shortR, hg]), Bool.false_and, Bool.and_false]
     ·refine WC.cond (b := false) (by (try simp only [wk, wl, wx, reduceLT, reduceEqDiff, Nat.reduceBEq, reduceIte]); (try simp); (try omega)) (WC.skip ?_)
      (try simp only [wk, wl, wx, reduceLT, reduceEqDiff, Nat.reduceBEq, reduceIte])
      ((repeat refine WC.seq ?_); refine WC.run ?_)
      (try simp only [wk, wl, wx, reduceLT, reduceEqDiff, Nat.reduceBEq, reduceIte, t24, bin_add])
      refine ⟨_, ?_, _, i + 1, rfl, F6, rfl, by omega, ?_⟩
      ·omega
      (try simp only [wk, wl, wx, reduceLT, reduceEqDiff, Nat.reduceBEq, reduceIte, t1, t22, t23])
      refine ⟨trivial, trivial, trivial, ?_, all_snoc hlt hal (by simp [shortR, hg])⟩
      rw [wrap64 (by omega) (by omega)]; rfl
    ·refine WC.cond (b := false) (by (try simp only [wk, wl, wx, reduceLT, reduceEqDiff, Nat.reduceBEq, reduceIte]); (try simp); (try omega)) (WC.exit ?_)
     have : i = o.rels.length := by omega
     subst this
     rw [List.take_length] at hal
     (try simp only [wk, wl, wx, reduceLT, reduceEqDiff, Nat.reduceBEq, reduceIte])
     have hal2 := hal
     ((repeat refine WC.seq ?_); refine WC.run ?_)
     (try simp only [wk, wl, wx, reduceLT, reduceEqDiff, Nat.reduceBEq, reduceIte, t1, fa70_5, Nat.zero_add, bk.at ty30 rfl, Sl.lenB obk.needs ty30 rfl])
     (repeat refine WC.seq ?_)
     refine WC.block ?_
     refine WC.while (fun m fr hq => ∃ ts i, fr = ⟨ts, 84, [], 22, none⟩ ∧ hq = hk ∧ m = o.needs.length - i ∧ i ≤ o.needs.length ∧ ts.get 1 = some (.ptr h.next 0) ∧ ts.get 34 = some c.needs ∧ ts.get 35 = some (.int .i64 o.needs.length) ∧ ts.get 36 = some (.int .i64 i) ∧ (o.needs.take i).all shortN = true) ?_ ⟨_, 0, rfl, rfl, rfl, by omega, ?_, ?_, ?_, ?_, rfl⟩
     ·rintro m fr hq ⟨ts, i, rfl, rfl, rfl, hi, t1, t34, t35, t36, hal⟩
      ((repeat refine WC.seq ?_); refine WC.run ?_)
      (try simp only [wk, wl, wx, reduceLT, reduceEqDiff, Nat.reduceBEq, reduceIte, t35, t36])
      (repeat refine WC.seq ?_)
      by_cases hlt : i < o.needs.length
      ·refine WC.cond (b := true) (by (try simp only [wk, wl, wx, reduceLT, reduceEqDiff, Nat.reduceBEq, reduceIte]); (try simp); (try omega)) (WC.skip ?_)
       (try simp only [wk, wl, wx, reduceLT, reduceEqDiff, Nat.reduceBEq, reduceIte])
       obtain ⟨p, p1, p2⟩ := obk.needs.at ty30 rfl ty9 rfl rfl hlt
       have p2 := p2 hq fun _ _ _ _ _ => rfl
       (repeat refine WC.seq ?_)
       refine WC.block ?_
       ((repeat refine WC.seq ?_); refine WC.run ?_)
       (try simp only [wk, wl, wx, reduceLT, reduceEqDiff, Nat.reduceBEq, reduceIte, t34, t36, p1, p2])
       ((repeat refine WC.seq ?_); refine WC.run ?_)
       (try simp only [wk, wl, wx, reduceLT, reduceEqDiff, Nat.reduceBEq, reduceIte, len_str])
       (repeat refine WC.seq ?_)
       by_cases hg : (200 : Int) < o.needs[i].length
       ·refine WC.cond (b := true) (by (try simp only [wk, wl, wx, reduceLT, reduceEqDiff, Nat.reduceBEq, reduceIte]); (try simp); (try omega)) ?_
        ((repeat refine WC.seq ?_); refine WC.run ?_)
        (try simp only [wk, wl, wx, reduceLT, reduceEqDiff, Nat.reduceBEq, reduceIte])
        refine WC.ret ?_
        (try simp only [wk, wl, wx, reduceLT, reduceEqDiff, Nat.reduceBEq, reduceIte])
        refine ⟨?_, K3⟩
        rw [fewP, hal1, hal2, all_false hlt (by simp [shortN, hg]), Bool.false_and, Bool.and_false, Bool.and_false]
       ·refine WC.cond (b := false) (by (try simp only [wk, wl, wx, reduceLT, reduceEqDiff, Nat.reduceBEq, reduceIte]); (try simp); (try omega)) (WC.skip ?_)
        (try simp only [wk, wl, wx, reduceLT, reduceEqDiff, Nat.reduceBEq, reduceIte])
        ((repeat refine WC.seq ?_); refine WC.run ?_)
        (try simp only [wk, wl, wx, reduceLT, reduceEqDiff, Nat.reduceBEq, reduceIte, t36, bin_add])
        refine ⟨_, ?_, _, i + 1, rfl, by trivial, rfl, by omega, ?_⟩
        ·omega
        (try simp only [wk, wl, wx, reduceLT, reduceEqDiff, Nat.reduceBEq, reduceIte, t1, t34, t35])
        refine ⟨trivial, trivial, trivial, ?_, all_snoc hlt hal (by simp [shortN, hg])⟩
        rw [wrap64 (by omega) (by omega)]; rfl
      ·refine WC.cond (b := false) (by (try simp only [wk, wl, wx, reduceLT, reduceEqDiff, Nat.reduceBEq, reduceIte]); (try simp); (try omega)) (WC.exit ?_)
       have : i = o.needs.length := by omega
       subst this
       rw [List.take_length] at hal
       (try simp only [wk, wl, wx, reduceLT, reduceEqDiff, Nat.reduceBEq, reduceIte])
       have hP : fewP o = (decide ((o.name.length : Int) ≤ 200) && (decide ((o.entry.length : Int) ≤ 200) && (decide ((o.code.length : Int) ≤ 400) && (decide ((o.data.length : Int) ≤ 400) && (decide ((o.syms.length : Int) ≤ 30) && (decide ((o.rels.length : Int) ≤ 30) && decide ((o.needs.length : Int) ≤ 22))))))) := by
        rw [fewP, hal1, hal2, hal]; simp only [Bool.true_and]
       rcases (Decidable.em ((o.name.length : Int) ≤ 200)).symm with w1 | w1
       ·((repeat refine WC.seq ?_); refine WC.run ?_)
        (try simp only [wk, wl, wx, reduceLT, reduceEqDiff, Nat.reduceBEq, reduceIte, un, t1, fa70_0, fa70_1, fa70_2, fa70_3, fa70_4, fa70_5, fa70_6, Nat.zero_add, bk.at ty9 rfl, bk.at ty27 rfl, bk.at ty67 rfl, bk.at ty68 rfl, bk.at ty30 rfl, len_str, obk.code.len, obk.data.len, Sl.lenB obk.syms ty67 rfl, Sl.lenB obk.rels ty68 rfl, Sl.lenB obk.needs ty30 rfl, decide_eq_false w1])
        (repeat refine WC.seq ?_)
        refine WC.ret ?_
        (try simp only [wk, wl, wx, reduceLT, reduceEqDiff, Nat.reduceBEq, reduceIte])
        refine ⟨?_, K3⟩
        rw [hP]; simp only [decide_eq_false w1, Bool.false_and, Bool.true_and]
       rcases (Decidable.em ((o.entry.length : Int) ≤ 200)).symm with w2 | w2
       ·((repeat refine WC.seq ?_); refine WC.run ?_)
        (try simp only [wk, wl, wx, reduceLT, reduceEqDiff, Nat.reduceBEq, reduceIte, un, t1, fa70_0, fa70_1, fa70_2, fa70_3, fa70_4, fa70_5, fa70_6, Nat.zero_add, bk.at ty9 rfl, bk.at ty27 rfl, bk.at ty67 rfl, bk.at ty68 rfl, bk.at ty30 rfl, len_str, obk.code.len, obk.data.len, Sl.lenB obk.syms ty67 rfl, Sl.lenB obk.rels ty68 rfl, Sl.lenB obk.needs ty30 rfl, decide_eq_true w1, decide_eq_false w2])
        (repeat refine WC.seq ?_)
        refine WC.ret ?_
        (try simp only [wk, wl, wx, reduceLT, reduceEqDiff, Nat.reduceBEq, reduceIte])
        refine ⟨?_, K3⟩
        rw [hP]; simp only [decide_eq_true w1, decide_eq_false w2, Bool.false_and, Bool.true_and]
       rcases (Decidable.em ((o.code.length : Int) ≤ 400)).symm with w3 | w3
       ·((repeat refine WC.seq ?_); refine WC.run ?_)
        (try simp only [wk, wl, wx, reduceLT, reduceEqDiff, Nat.reduceBEq, reduceIte, un, t1, fa70_0, fa70_1, fa70_2, fa70_3, fa70_4, fa70_5, fa70_6, Nat.zero_add, bk.at ty9 rfl, bk.at ty27 rfl, bk.at ty67 rfl, bk.at ty68 rfl, bk.at ty30 rfl, len_str, obk.code.len, obk.data.len, Sl.lenB obk.syms ty67 rfl, Sl.lenB obk.rels ty68 rfl, Sl.lenB obk.needs ty30 rfl, decide_eq_true w1, decide_eq_true w2, decide_eq_false w3])
        (repeat refine WC.seq ?_)
        refine WC.ret ?_
        (try simp only [wk, wl, wx, reduceLT, reduceEqDiff, Nat.reduceBEq, reduceIte])
        refine ⟨?_, K3⟩
        rw [hP]; simp only [decide_eq_true w1, decide_eq_true w2, decide_eq_false w3, Bool.false_and, Bool.true_and]
       rcases (Decidable.em ((o.data.length : Int) ≤ 400)).symm with w4 | w4
       ·((repeat refine WC.seq ?_); refine WC.run ?_)
        (try simp only [wk, wl, wx, reduceLT, reduceEqDiff, Nat.reduceBEq, reduceIte, un, t1, fa70_0, fa70_1, fa70_2, fa70_3, fa70_4, fa70_5, fa70_6, Nat.zero_add, bk.at ty9 rfl, bk.at ty27 rfl, bk.at ty67 rfl, bk.at ty68 rfl, bk.at ty30 rfl, len_str, obk.code.len, obk.data.len, Sl.lenB obk.syms ty67 rfl, Sl.lenB obk.rels ty68 rfl, Sl.lenB obk.needs ty30 rfl, decide_eq_true w1, decide_eq_true w2, decide_eq_true w3, decide_eq_false w4])
        (repeat refine WC.seq ?_)
        refine WC.ret ?_
        (try simp only [wk, wl, wx, reduceLT, reduceEqDiff, Nat.reduceBEq, reduceIte])
        refine ⟨?_, K3⟩
        rw [hP]; simp only [decide_eq_true w1, decide_eq_true w2, decide_eq_true w3, decide_eq_false w4, Bool.false_and, Bool.true_and]
       rcases (Decidable.em ((o.syms.length : Int) ≤ 30)).symm with w5 | w5
       ·((repeat refine WC.seq ?_); refine WC.run ?_)
        (try simp only [wk, wl, wx, reduceLT, reduceEqDiff, Nat.reduceBEq, reduceIte, un, t1, fa70_0, fa70_1, fa70_2, fa70_3, fa70_4, fa70_5, fa70_6, Nat.zero_add, bk.at ty9 rfl, bk.at ty27 rfl, bk.at ty67 rfl, bk.at ty68 rfl, bk.at ty30 rfl, len_str, obk.code.len, obk.data.len, Sl.lenB obk.syms ty67 rfl, Sl.lenB obk.rels ty68 rfl, Sl.lenB obk.needs ty30 rfl, decide_eq_true w1, decide_eq_true w2, decide_eq_true w3, decide_eq_true w4, decide_eq_false w5])
        (repeat refine WC.seq ?_)
        refine WC.ret ?_
        (try simp only [wk, wl, wx, reduceLT, reduceEqDiff, Nat.reduceBEq, reduceIte])
        refine ⟨?_, K3⟩
        rw [hP]; simp only [decide_eq_true w1, decide_eq_true w2, decide_eq_true w3, decide_eq_true w4, decide_eq_false w5, Bool.false_and, Bool.true_and]
       rcases (Decidable.em ((o.rels.length : Int) ≤ 30)).symm with w6 | w6
       ·((repeat refine WC.seq ?_); refine WC.run ?_)
        (try simp only [wk, wl, wx, reduceLT, reduceEqDiff, Nat.reduceBEq, reduceIte, un, t1, fa70_0, fa70_1, fa70_2, fa70_3, fa70_4, fa70_5, fa70_6, Nat.zero_add, bk.at ty9 rfl, bk.at ty27 rfl, bk.at ty67 rfl, bk.at ty68 rfl, bk.at ty30 rfl, len_str, obk.code.len, obk.data.len, Sl.lenB obk.syms ty67 rfl, Sl.lenB obk.rels ty68 rfl, Sl.lenB obk.needs ty30 rfl, decide_eq_true w1, decide_eq_true w2, decide_eq_true w3, decide_eq_true w4, decide_eq_true w5, decide_eq_false w6])
        (repeat refine WC.seq ?_)
        refine WC.ret ?_
        (try simp only [wk, wl, wx, reduceLT, reduceEqDiff, Nat.reduceBEq, reduceIte])
        refine ⟨?_, K3⟩
        rw [hP]; simp only [decide_eq_true w1, decide_eq_true w2, decide_eq_true w3, decide_eq_true w4, decide_eq_true w5, decide_eq_false w6, Bool.false_and, Bool.true_and]
       ((repeat refine WC.seq ?_); refine WC.run ?_)
       (try simp only [wk, wl, wx, reduceLT, reduceEqDiff, Nat.reduceBEq, reduceIte, un, t1, fa70_0, fa70_1, fa70_2, fa70_3, fa70_4, fa70_5, fa70_6, Nat.zero_add, bk.at ty9 rfl, bk.at ty27 rfl, bk.at ty67 rfl, bk.at ty68 rfl, bk.at ty30 rfl, len_str, obk.code.len, obk.data.len, Sl.lenB obk.syms ty67 rfl, Sl.lenB obk.rels ty68 rfl, Sl.lenB obk.needs ty30 rfl, decide_eq_true w1, decide_eq_true w2, decide_eq_true w3, decide_eq_true w4, decide_eq_true w5, decide_eq_true w6])
       (repeat refine WC.seq ?_)
       refine WC.ret ?_
       (try simp only [wk, wl, wx, reduceLT, reduceEqDiff, Nat.reduceBEq, reduceIte])
       refine ⟨?_, K3⟩
       rw [hP]; simp only [decide_eq_true w1, decide_eq_true w2, decide_eq_true w3, decide_eq_true w4, decide_eq_true w5, decide_eq_true w6, Bool.false_and, Bool.true_and]
     all_goals (try simp only [wk, wl, wx, reduceLT, reduceEqDiff, Nat.reduceBEq, reduceIte, t1])
     all_goals (first | trivial | rfl | simp)
   all_goals (try simp only [wk, wl, wx, reduceLT, reduceEqDiff, Nat.reduceBEq, reduceIte, t1])
   all_goals (first | trivial | rfl | simp)
 all_goals (try simp only [wk, wl, wx, reduceLT, reduceEqDiff, Nat.reduceBEq, reduceIte])
 all_goals (first | trivial | rfl | simp)
end Go.Proofs.OP
