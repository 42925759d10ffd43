/- Walks: package binary, package slices, the reference's put and get, names. -/
import Derived.Test.YtloblhhnlaaajaaDoorX15
import Derived.Test.YtloblhhnlaaajaaDoorX14
import Derived.Test.YtloblhhnlaaajaaDoorX16
import Derived.Test.YtloblhhnlaaajaaDoorX13
set_option linter.unusedVariables false
set_option linter.unusedSimpArgs false
set_option linter.defProp false
set_option linter.unusedSimpArgs false
namespace Go.Proofs.OP
open Go Go.Ev
open Go.Proofs
open Nat (reduceLT reduceEqDiff)
variable {g : T (List V)}

abbrev Kept (h h' : H) : Prop := Fix (· < h.next) h h'

theorem le_ok {h : H} : WF (E g) 90 [] h fun v h' => v = .agg [] ∧ Kept h h' := by
 refine WF.enter fn90 rfl ?_
 ((repeat refine WC.seq ?_); refine WC.run ?_)
 (try simp only [wk, wl, wx, reduceLT, reduceEqDiff, Nat.reduceBEq, reduceIte])
 refine wop_alloc ty188 ?_
 intro h1 a1 n1 f1
 (try simp only [wk, wl, wx, reduceLT, reduceEqDiff, Nat.reduceBEq, reduceIte])
 ((repeat refine WC.seq ?_); refine WC.run ?_)
 (try simp only [wk, wl, wx, reduceLT, reduceEqDiff, Nat.reduceBEq, reduceIte])
 refine wop_alloc ty188 ?_
 intro h2 a2 n2 f2
 (try simp only [wk, wl, wx, reduceLT, reduceEqDiff, Nat.reduceBEq, reduceIte])
 ((repeat refine WC.seq ?_); refine WC.run ?_)
 (try simp only [wk, wl, wx, reduceLT, reduceEqDiff, Nat.reduceBEq, reduceIte, a2.agg ty188 rfl (o := 0) (Nat.le_refl 0)])
 refine sat_store (a1.fix f2 (by omega)) ty188 rfl (by decide) rfl ?_
 intro h3 a3 n3 f3
 (try simp only [wk, wl, wx, reduceLT, reduceEqDiff, Nat.reduceBEq, reduceIte])
 refine WC.ret ?_
 (try simp only [wk, wl, wx, reduceLT, reduceEqDiff, Nat.reduceBEq, reduceIte, a3.agg ty188 rfl (o := 0) (Nat.le_refl 0)])
 exact ⟨by trivial, by omega, fun c hc => by rw [f3.same c (by omega), f2.same c (by omega), f1.same c hc]⟩

theorem BufB.kept {h h' : H} {s : V} {xs : List UInt8} (b : BufB g h s xs) (l : In (· < h.next) s) (f : Kept h h') : GrewB g h s h' s xs := (Grew.refl b l).keep f

end Go.Proofs.OP

namespace Go.Proofs.OP
open Go Go.Ev
def pl79_1 : List (List Stp) := [[⟨0, false, false, []⟩, ⟨1, false, false, []⟩, ⟨2, false, false, []⟩, ⟨3, false, true, []⟩, ⟨4, false, true, []⟩, ⟨5, false, false, []⟩, ⟨6, false, false, []⟩, ⟨7, false, false, []⟩, ⟨8, false, false, []⟩, ⟨9, false, true, []⟩, ⟨10, false, true, []⟩, ⟨11, false, false, []⟩, ⟨12, false, false, []⟩, ⟨13, false, false, []⟩, ⟨14, false, false, []⟩, ⟨15, false, true, []⟩, ⟨16, false, true, []⟩, ⟨17, false, false, []⟩, ⟨18, false, false, []⟩, ⟨19, false, false, []⟩, ⟨20, false, false, []⟩, ⟨21, false, true, []⟩, ⟨22, false, true, []⟩, ⟨23, false, false, []⟩, ⟨24, false, false, []⟩, ⟨25, false, false, []⟩, ⟨26, false, false, []⟩, ⟨27, false, true, []⟩, ⟨28, false, true, []⟩, ⟨29, false, false, []⟩, ⟨32, false, false, []⟩, ⟨30, true, false, []⟩, ⟨31, false, true, []⟩]]
def pl81_7 : List (List Stp) := [[⟨0, false, false, []⟩, ⟨1, false, true, []⟩, ⟨2, false, true, []⟩, ⟨3, false, false, []⟩, ⟨4, false, false, []⟩, ⟨5, false, true, []⟩, ⟨6, false, true, []⟩, ⟨7, false, false, []⟩, ⟨8, false, false, []⟩, ⟨9, false, false, []⟩, ⟨10, false, true, []⟩, ⟨11, false, true, []⟩, ⟨12, false, false, []⟩, ⟨13, false, false, []⟩, ⟨14, false, false, []⟩, ⟨15, false, true, []⟩, ⟨16, false, false, []⟩, ⟨17, false, false, []⟩, ⟨18, false, true, []⟩, ⟨19, true, false, [15]⟩, ⟨20, false, true, []⟩, ⟨21, false, false, []⟩, ⟨22, true, false, []⟩]]
def pl82_3 : List (List Stp) := [[⟨0, false, false, []⟩, ⟨1, false, true, []⟩, ⟨2, false, true, []⟩, ⟨3, false, false, []⟩, ⟨4, false, false, []⟩, ⟨5, false, true, []⟩, ⟨6, false, true, []⟩, ⟨7, false, false, []⟩, ⟨8, false, false, []⟩, ⟨9, false, false, []⟩, ⟨10, false, true, []⟩, ⟨11, false, true, []⟩, ⟨12, false, false, []⟩, ⟨13, false, false, []⟩, ⟨14, false, false, []⟩, ⟨15, false, true, []⟩, ⟨16, false, false, []⟩, ⟨17, false, false, []⟩, ⟨18, false, true, []⟩, ⟨19, true, false, [15]⟩, ⟨20, false, true, []⟩, ⟨21, false, true, []⟩, ⟨22, false, false, []⟩, ⟨23, false, false, []⟩, ⟨24, false, false, []⟩, ⟨25, false, true, []⟩, ⟨26, false, true, []⟩, ⟨27, false, false, []⟩, ⟨28, false, false, []⟩, ⟨29, false, false, []⟩, ⟨30, false, true, []⟩, ⟨31, false, true, []⟩, ⟨32, false, false, []⟩, ⟨33, true, false, []⟩]]
end Go.Proofs.OP

set_option linter.unusedSimpArgs false
namespace Go.Proofs.OP
open Go Go.Ev
open Go.Proofs
open Nat (reduceLT reduceEqDiff)
variable {g : T (List V)}

def U (n : Int) : Nat := (n % 18446744073709551616).toNat
theorem U_lt (n : Int) : U n < 2 ^ 64 := by unfold U; omega
theorem wrapu64_U (n : Int) : IntKind.u64.wrap n = (U n : Int) := by
 unfold IntKind.wrap U
 simp only [IntKind.bits, IntKind.signed, Bool.false_and, Bool.false_eq_true, if_false]
 omega
theorem U_nat {n : Nat} (h : n < 18446744073709551616) : U n = n := by unfold U; omega

theorem bin_seql {E : Env} {h : H} {c : Bool} {t : Nat} {a b : List UInt8} : binV E h c .eql t (.str a) (.str b) = some (.bool (a == b)) := rfl
theorem bin_sneq {E : Env} {h : H} {c : Bool} {t : Nat} {a b : List UInt8} : binV E h c .neq t (.str a) (.str b) = some (.bool (!(a == b))) := rfl
theorem len_str {h : H} {s : List UInt8} : lenB (E g) h 9 (.str s) = some (.int .i64 s.length) := by
 simp only [lenB, ty9]

def nameE (s : List UInt8) : Int := if s = [] then 9 else if 64 < s.length then 21 else 0

end Go.Proofs.OP

set_option linter.unusedSimpArgs false
namespace Go.Proofs.OP
open Go Go.Ev
open Go.Proofs
open Nat (reduceLT reduceEqDiff)
variable {g : T (List V)}

def i64 (n : Int) : V := .int .i64 n
structure SymD where
 name : List UInt8
 sec : Int
 off : Int
 glob : Bool
 weak : Bool
structure RelD where
 sec : Int
 off : Int
 kind : Int
 sym : List UInt8
 add : Int
structure ObjD where
 name : List UInt8
 code : List UInt8
 data : List UInt8
 syms : List SymD
 rels : List RelD
 needs : List (List UInt8)
 entry : List UInt8
def symV (s : SymD) : List V := [.str s.name, i64 s.sec, i64 s.off, .bool s.glob, .bool s.weak]
def relV (r : RelD) : List V := [i64 r.sec, i64 r.off, i64 r.kind, .str r.sym, i64 r.add]
abbrev Ss (g : T (List V)) (h : H) (s : V) (L : List (List UInt8)) : Prop := Vs (E g) h V.str s L
abbrev Sy (g : T (List V)) (h : H) (s : V) (L : List SymD) : Prop := Rcs (E g) h 5 symV s L
abbrev Re (g : T (List V)) (h : H) (s : V) (L : List RelD) : Prop := Rcs (E g) h 5 relV s L

structure Oc where
 code : V
 data : V
 syms : V
 rels : V
 needs : V
def Oc.cells (c : Oc) (o : ObjD) : List V := [.str o.name, c.code, c.data, c.syms, c.rels, c.needs, .str o.entry]
structure Ob (g : T (List V)) (h : H) (K : Nat → Prop) (c : Oc) (o : ObjD) : Prop where
 code : Bs g h c.code o.code
 data : Bs g h c.data o.data
 syms : Sy g h c.syms o.syms
 rels : Re g h c.rels o.rels
 needs : Ss g h c.needs o.needs
 inC : In K c.code
 inD : In K c.data
 inS : In K c.syms
 inR : In K c.rels
 inN : In K c.needs
theorem Ob.fix {h h' : H} {K K' : Nat → Prop} {c : Oc} {o : ObjD} (a : Ob g h K c o) (f : Fix K' h h') (hs : ∀ b, K b → K' b) : Ob g h' K c o :=
 ⟨Sl.fix a.code (a.inC.sub hs) f, Sl.fix a.data (a.inD.sub hs) f, Sl.fix a.syms (a.inS.sub hs) f, Sl.fix a.rels (a.inR.sub hs) f, Sl.fix a.needs (a.inN.sub hs) f, a.inC, a.inD, a.inS, a.inR, a.inN⟩
theorem Ob.up {h : H} {K K' : Nat → Prop} {c : Oc} {o : ObjD} (a : Ob g h K c o) (hs : ∀ b, K b → K' b) : Ob g h K' c o :=
 ⟨a.code, a.data, a.syms, a.rels, a.needs, a.inC.sub hs, a.inD.sub hs, a.inS.sub hs, a.inR.sub hs, a.inN.sub hs⟩

def nameT (s : List UInt8) : Int := if 64 < s.length then 21 else 0
theorem named_ok {h : H} {s : List UInt8} {e : Bool} : WF (E g) 80 [.str s, .bool e] h fun v h' => v = .int .i64 (if e then nameT s else nameE s) ∧ h' = h := by
 refine WF.enter fn80 rfl ?_
 ((repeat refine WC.seq ?_); refine WC.run ?_)
 (try simp only [wk, wl, wx, reduceLT, reduceEqDiff, Nat.reduceBEq, reduceIte])
 (repeat refine WC.seq ?_)
 refine WC.block ?_
 ((repeat refine WC.seq ?_); refine WC.run ?_)
 have hz : (V.str ([] : List UInt8)) = .str [] := rfl
 cases s with
 | nil =>
  cases e with
  | false =>
   (try simp only [wk, wl, wx, reduceLT, reduceEqDiff, Nat.reduceBEq, reduceIte, bin_seql, beq_self_eq_true, un_not, Bool.not_false])
   (repeat refine WC.seq ?_)
   refine WC.cond (b := true) (by (try simp only [wk, wl, wx, reduceLT, reduceEqDiff, Nat.reduceBEq, reduceIte]); (try simp); (try omega)) ?_
   ((repeat refine WC.seq ?_); refine WC.run ?_)
   (try simp only [wk, wl, wx, reduceLT, reduceEqDiff, Nat.reduceBEq, reduceIte])
   refine WC.ret ?_
   (try simp only [wk, wl, wx, reduceLT, reduceEqDiff, Nat.reduceBEq, reduceIte])
   exact ⟨rfl, by trivial⟩
  | true =>
   (try simp only [wk, wl, wx, reduceLT, reduceEqDiff, Nat.reduceBEq, reduceIte, bin_seql, beq_self_eq_true, un_not, Bool.not_true])
   (repeat refine WC.seq ?_)
   refine WC.cond (b := false) (by (try simp only [wk, wl, wx, reduceLT, reduceEqDiff, Nat.reduceBEq, reduceIte]); (try simp); (try omega)) ?_
   ((repeat refine WC.seq ?_); refine WC.run ?_)
   (try simp only [wk, wl, wx, reduceLT, reduceEqDiff, Nat.reduceBEq, reduceIte, len_str])
   (repeat refine WC.seq ?_)
   refine WC.cond (b := false) (by (try simp only [wk, wl, wx, reduceLT, reduceEqDiff, Nat.reduceBEq, reduceIte]); (try simp); (try omega)) (WC.skip ?_)
   (try simp only [wk, wl, wx, reduceLT, reduceEqDiff, Nat.reduceBEq, reduceIte])
   ((repeat refine WC.seq ?_); refine WC.run ?_)
   (try simp only [wk, wl, wx, reduceLT, reduceEqDiff, Nat.reduceBEq, reduceIte])
   refine WC.ret ?_
   (try simp only [wk, wl, wx, reduceLT, reduceEqDiff, Nat.reduceBEq, reduceIte])
   exact ⟨rfl, by trivial⟩
 | cons c r =>
  have hb : ((c :: r) == ([] : List UInt8)) = false := rfl
  (try simp only [wk, wl, wx, reduceLT, reduceEqDiff, Nat.reduceBEq, reduceIte, bin_seql, hb])
  (repeat refine WC.seq ?_)
  refine WC.cond (b := false) (by (try simp only [wk, wl, wx, reduceLT, reduceEqDiff, Nat.reduceBEq, reduceIte]); (try simp); (try omega)) ?_
  ((repeat refine WC.seq ?_); refine WC.run ?_)
  (try simp only [wk, wl, wx, reduceLT, reduceEqDiff, Nat.reduceBEq, reduceIte, len_str])
  (repeat refine WC.seq ?_)
  by_cases hl : 64 < r.length + 1
  ·refine WC.cond (b := true) (by (try simp only [wk, wl, wx, reduceLT, reduceEqDiff, Nat.reduceBEq, reduceIte]); (try simp); (try omega)) ?_
   ((repeat refine WC.seq ?_); refine WC.run ?_)
   (try simp only [wk, wl, wx, reduceLT, reduceEqDiff, Nat.reduceBEq, reduceIte])
   refine WC.ret ?_
   (try simp only [wk, wl, wx, reduceLT, reduceEqDiff, Nat.reduceBEq, reduceIte])
   refine ⟨?_, by trivial⟩
   cases e <;> simp [nameE, nameT, hl]
  ·refine WC.cond (b := false) (by (try simp only [wk, wl, wx, reduceLT, reduceEqDiff, Nat.reduceBEq, reduceIte]); (try simp); (try omega)) (WC.skip ?_)
   (try simp only [wk, wl, wx, reduceLT, reduceEqDiff, Nat.reduceBEq, reduceIte])
   ((repeat refine WC.seq ?_); refine WC.run ?_)
   (try simp only [wk, wl, wx, reduceLT, reduceEqDiff, Nat.reduceBEq, reduceIte])
   refine WC.ret ?_
   (try simp only [wk, wl, wx, reduceLT, reduceEqDiff, Nat.reduceBEq, reduceIte])
   refine ⟨?_, by trivial⟩
   cases e <;> simp [nameE, nameT, hl]

def secLen (o : ObjD) (n : Int) : Int := if n = 1 then (o.code.length : Int) else if n = 2 then (o.data.length : Int) else 0
theorem size_ok {h : H} {K : Nat → Prop} {b : Nat} {c : Oc} {o : ObjD} {n : Int} (hb : Has h b (c.cells o)) (ob : Ob g h K c o) : WF (E g) 86 [.ptr b 0, i64 n] h fun v h' => v = i64 (secLen o n) ∧ h' = h := by
 have hb : Has h b [.str o.name, c.code, c.data, c.syms, c.rels, c.needs, .str o.entry] := hb
 refine WF.enter fn86 rfl ?_
 ((repeat refine WC.seq ?_); refine WC.run ?_)
 (try simp only [wk, wl, wx, reduceLT, reduceEqDiff, Nat.reduceBEq, reduceIte])
 ((repeat refine WC.seq ?_); refine WC.run ?_)
 (try simp only [wk, wl, wx, reduceLT, reduceEqDiff, Nat.reduceBEq, reduceIte])
 (repeat refine WC.seq ?_)
 refine WC.block ?_
 ((repeat refine WC.seq ?_); refine WC.run ?_)
 (try simp only [wk, wl, wx, reduceLT, reduceEqDiff, Nat.reduceBEq, reduceIte, i64])
 (repeat refine WC.seq ?_)
 by_cases h1 : n = 1
 ·subst h1
  refine WC.cond (b := true) (by (try simp only [wk, wl, wx, reduceLT, reduceEqDiff, Nat.reduceBEq, reduceIte]); (try simp); (try omega)) ?_
  ((repeat refine WC.seq ?_); refine WC.run ?_)
  (try simp only [wk, wl, wx, reduceLT, reduceEqDiff, Nat.reduceBEq, reduceIte, fa77_1, Nat.zero_add, hb.at ty27 rfl, ob.code.len])
  refine WC.ret ?_
  (try simp only [wk, wl, wx, reduceLT, reduceEqDiff, Nat.reduceBEq, reduceIte])
  exact ⟨rfl, by trivial⟩
 ·refine WC.cond (b := false) (by (try simp only [wk, wl, wx, reduceLT, reduceEqDiff, Nat.reduceBEq, reduceIte, h1]); (try simp); (try omega)) ?_
  ((repeat refine WC.seq ?_); refine WC.run ?_)
  (try simp only [wk, wl, wx, reduceLT, reduceEqDiff, Nat.reduceBEq, reduceIte])
  (repeat refine WC.seq ?_)
  by_cases h2 : n = 2
  ·subst h2
   refine WC.cond (b := true) (by (try simp only [wk, wl, wx, reduceLT, reduceEqDiff, Nat.reduceBEq, reduceIte]); (try simp); (try omega)) ?_
   ((repeat refine WC.seq ?_); refine WC.run ?_)
   (try simp only [wk, wl, wx, reduceLT, reduceEqDiff, Nat.reduceBEq, reduceIte, fa77_2, Nat.zero_add, hb.at ty27 rfl, ob.data.len])
   refine WC.ret ?_
   (try simp only [wk, wl, wx, reduceLT, reduceEqDiff, Nat.reduceBEq, reduceIte])
   exact ⟨rfl, by trivial⟩
  ·refine WC.cond (b := false) (by (try simp only [wk, wl, wx, reduceLT, reduceEqDiff, Nat.reduceBEq, reduceIte, h2]); (try simp); (try omega)) (WC.skip ?_)
   (try simp only [wk, wl, wx, reduceLT, reduceEqDiff, Nat.reduceBEq, reduceIte])
   ((repeat refine WC.seq ?_); refine WC.run ?_)
   (try simp only [wk, wl, wx, reduceLT, reduceEqDiff, Nat.reduceBEq, reduceIte])
   refine WC.ret ?_
   (try simp only [wk, wl, wx, reduceLT, reduceEqDiff, Nat.reduceBEq, reduceIte])
   exact ⟨by rw [secLen, if_neg h1, if_neg h2], by trivial⟩
end Go.Proofs.OP

set_option linter.unusedSimpArgs false
namespace Go.Proofs.OP
open Go Go.Ev
open Go.Proofs
open Nat (reduceLT reduceEqDiff)
variable {g : T (List V)}

theorem build221 {a b : Int} : buildV (E g) 221 [(0, .int .i64 a), (1, .int .i64 b)] = some (.agg [.int .i64 a, .int .i64 b]) := by
 simp only [buildV, ty221, sizeOf_of ty3, fillAll, fillL, Option.map_some]; rfl
def two (p : Int × Int) : List V := [i64 p.1, i64 p.2]
def lims (o : ObjD) : List (Int × Int) := [((o.code.length : Int), 16384), ((o.data.length : Int), 16384), ((o.syms.length : Int), 500), ((o.rels.length : Int), 1000), ((o.needs.length : Int), 20)]
def limE (o : ObjD) : Int := if (lims o).any fun p => decide (p.2 < p.1) then 18 else 0
set_option maxRecDepth 100000 in
theorem limits_ok {h : H} {b : Nat} {c : Oc} {o : ObjD} (hb : Has h b (c.cells o)) (ob : Ob g h (· < h.next) c o) : WF (E g) 79 [.ptr b 0] h fun v h' => v = i64 (limE o) ∧ Kept h h' := by
 have hb : Has h b [.str o.name, c.code, c.data, c.syms, c.rels, c.needs, .str o.entry] := hb
 refine WF.enter fn79 rfl ?_
 ((repeat refine WC.seq ?_); refine WC.run ?_)
 (try simp only [wk, wl, wx, reduceLT, reduceEqDiff, Nat.reduceBEq, reduceIte])
 ((repeat refine WC.seq ?_); refine WC.draw (plans := pl79_1) (by kernel_rfl) ?_; simp only [pl79_1, List.mem_cons, List.not_mem_nil, or_false, forall_eq_or_imp, forall_eq])
 (try simp (maxSteps := 2000000) only [wk, wl, wx, reduceLT, reduceEqDiff, Nat.reduceBEq, reduceIte, wd, Chk, and_true, true_and, fa77_1, fa77_2, fa77_3, fa77_4, fa77_5, Nat.zero_add, hb.at ty27 rfl, hb.at ty74 rfl, hb.at ty75 rfl, hb.at ty30 rfl, ob.code.len, ob.data.len, Sl.lenB ob.syms ty74 rfl, Sl.lenB ob.rels ty75 rfl, Sl.lenB ob.needs ty30 rfl, build221])
 refine sat_buildSlice (sz := 2) (n := 5) (cs := (lims o).flatMap two) ty222 rfl ty221 rfl (by decide) (by decide) ?_ rfl ?_
 ·rfl
 intro h1 b1 n1 f1
 have r1 : Rcs (E g) h1 2 two (.slice h.next 0 5 (.lit 5)) (lims o) := b1.sl
 (try simp (maxSteps := 2000000) only [wk, wl, wx, reduceLT, reduceEqDiff, Nat.reduceBEq, reduceIte, wd, Chk, and_true, true_and, r1.lenB ty222 rfl])
 (repeat refine WC.seq ?_)
 refine WC.block ?_
 have hl : (lims o).length = 5 := rfl
 refine WC.while (fun m fr hh => ∃ ts i, fr = ⟨ts, 47, [], 79, none⟩ ∧ Fix (· < h1.next) h1 hh ∧ m = 5 - i ∧ i ≤ 5 ∧ ts.get 35 = some (.slice h.next 0 5 (.lit 5)) ∧ ts.get 36 = some (.int .i64 5) ∧ ts.get 37 = some (.int .i64 i) ∧ ((lims o).take i).any (fun p => decide (p.2 < p.1)) = false) ?_ ⟨_, 0, rfl, Fix.refl _ _, rfl, by omega, ?_, ?_, ?_, rfl⟩
 ·rintro m fr hh ⟨ts, i, rfl, ff, rfl, hi, t35, t36, t37, hno⟩
  have F : Kept h hh := f1.trans (ff.sub fun b hb => by omega)
  ((repeat refine WC.seq ?_); refine WC.run ?_)
  (try simp only [wk, wl, wx, reduceLT, reduceEqDiff, Nat.reduceBEq, reduceIte, t36, t37])
  (repeat refine WC.seq ?_)
  by_cases hlt : i < 5
  ·refine WC.cond (b := true) (by (try simp only [wk, wl, wx, reduceLT, reduceEqDiff, Nat.reduceBEq, reduceIte]); (try simp); (try omega)) (WC.skip ?_)
   (try simp only [wk, wl, wx, reduceLT, reduceEqDiff, Nat.reduceBEq, reduceIte])
   obtain ⟨p, p1, p2⟩ := r1.at (fun _ => rfl) ty222 rfl ty221 rfl (by decide) rfl (k := i) (by omega)
   have p2 := p2 hh fun b o m c e => ff.same b (by injection e with e; omega)
   (repeat refine WC.seq ?_)
   refine WC.block ?_
   ((repeat refine WC.seq ?_); refine WC.run ?_)
   (try simp only [wk, wl, wx, reduceLT, reduceEqDiff, Nat.reduceBEq, reduceIte, t35, t37, p1, p2])
   refine wop_alloc ty221 ?_
   intro h2 b2 n2 f2
   (try simp only [wk, wl, wx, reduceLT, reduceEqDiff, Nat.reduceBEq, reduceIte])
   refine sat_store b2 ty221 rfl (by decide) rfl ?_
   intro h3 b3 n3 f3
   have b3 : Has h3 hh.next [.int .i64 ((lims o)[i]'(by omega)).1, .int .i64 ((lims o)[i]'(by omega)).2] := b3
   have F3 : Fix (· < h1.next) h1 h3 := ⟨by have := ff.next; omega, fun c hc => by rw [f3.same c (by have := ff.next; omega), f2.same c (by have := ff.next; omega), ff.same c hc]⟩
   (try simp only [wk, wl, wx, reduceLT, reduceEqDiff, Nat.reduceBEq, reduceIte])
   ((repeat refine WC.seq ?_); refine WC.run ?_)
   have i0 : indexAddrV (E g) 221 (.ptr hh.next 0) (.int .i64 0) = some (.ptr hh.next 0) := by simp [indexAddrV, ty221, natOf, sizeOf_of ty3]; rfl
   have i1 : indexAddrV (E g) 221 (.ptr hh.next 0) (.int .i64 1) = some (.ptr hh.next 1) := by simp [indexAddrV, ty221, natOf, sizeOf_of ty3]; rfl
   (try simp only [wk, wl, wx, reduceLT, reduceEqDiff, Nat.reduceBEq, reduceIte, i0, i1, b3.at ty3 rfl])
   (repeat refine WC.seq ?_)
   by_cases hg : ((lims o)[i]'(by omega)).2 < ((lims o)[i]'(by omega)).1
   ·refine WC.cond (b := true) (by (try simp only [wk, wl, wx, reduceLT, reduceEqDiff, Nat.reduceBEq, reduceIte, decide_eq_true hg]); (try simp); (try omega)) ?_
    ((repeat refine WC.seq ?_); refine WC.run ?_)
    (try simp only [wk, wl, wx, reduceLT, reduceEqDiff, Nat.reduceBEq, reduceIte])
    refine WC.ret ?_
    (try simp only [wk, wl, wx, reduceLT, reduceEqDiff, Nat.reduceBEq, reduceIte])
    refine ⟨?_, f1.trans (F3.sub fun b hb => by omega)⟩
    rw [limE, if_pos]; · rfl
    rw [List.any_eq_true]
    exact ⟨_, List.getElem_mem (show i < (lims o).length by omega), by simpa using hg⟩
   ·refine WC.cond (b := false) (by (try simp only [wk, wl, wx, reduceLT, reduceEqDiff, Nat.reduceBEq, reduceIte, decide_eq_false hg]); (try simp); (try omega)) (WC.skip ?_)
    (try simp only [wk, wl, wx, reduceLT, reduceEqDiff, Nat.reduceBEq, reduceIte])
    ((repeat refine WC.seq ?_); refine WC.run ?_)
    (try simp only [wk, wl, wx, reduceLT, reduceEqDiff, Nat.reduceBEq, reduceIte, t37, bin_add])
    refine ⟨_, ?_, _, i + 1, rfl, F3, rfl, by omega, ?_⟩
    ·omega
    (try simp only [wk, wl, wx, reduceLT, reduceEqDiff, Nat.reduceBEq, reduceIte, t35, t36])
    refine ⟨trivial, trivial, ?_, ?_⟩
    ·rw [wrap64 (by omega) (by omega)]; rfl
    ·rw [List.take_succ_eq_append_getElem (show i < (lims o).length by omega), List.any_append, hno]
     simp only [List.any_cons, List.any_nil, Bool.or_false, Bool.false_or]
     exact decide_eq_false hg
  ·refine WC.cond (b := false) (by (try simp only [wk, wl, wx, reduceLT, reduceEqDiff, Nat.reduceBEq, reduceIte]); (try simp); (try omega)) (WC.exit ?_)
   have : i = 5 := by omega
   subst this
   (try simp only [wk, wl, wx, reduceLT, reduceEqDiff, Nat.reduceBEq, reduceIte])
   ((repeat refine WC.seq ?_); refine WC.run ?_)
   (try simp only [wk, wl, wx, reduceLT, reduceEqDiff, Nat.reduceBEq, reduceIte])
   refine WC.ret ?_
   (try simp only [wk, wl, wx, reduceLT, reduceEqDiff, Nat.reduceBEq, reduceIte])
   refine ⟨?_, F⟩
   rw [limE, if_neg]; · rfl
   intro hh; rw [← List.take_length (l := lims o)] at hh; rw [hl] at hh; rw [hno] at hh; cases hh
 all_goals (try simp only [wk, wl, wx, reduceLT, reduceEqDiff, Nat.reduceBEq, reduceIte])
 all_goals rfl
end Go.Proofs.OP
