/- Walks: objects; named, size, limits, symbol. -/
import Derived.Test.YtloblhhnlaaajaaDoorC4
import Derived.Test.YtloblhhnlaaajaaDoorB12
import Derived.Test.YtloblhhnlaaajaaDoorP
set_option linter.unusedVariables false
set_option linter.unusedSimpArgs false
set_option linter.defProp false
set_option linter.unusedSimpArgs false
namespace Go.Proofs.OP
open Go Go.Ev
open Go.Proofs
variable {g : T (List V)}

def i64 (n : Int) : V := .int .i64 n
structure SymD where
  name : List UInt8
  sec : Int
  off : Int
  glob : Bool
  weak : Bool
structure RelD where
  sec : Int
  off : Int
  kind : Int
  sym : List UInt8
  add : Int
structure ObjD where
  name : List UInt8
  code : List UInt8
  data : List UInt8
  syms : List SymD
  rels : List RelD
  needs : List (List UInt8)
  entry : List UInt8
def symV (s : SymD) : List V := [.str s.name, i64 s.sec, i64 s.off, .bool s.glob, .bool s.weak]
def relV (r : RelD) : List V := [i64 r.sec, i64 r.off, i64 r.kind, .str r.sym, i64 r.add]
/-- Strings in a slice. -/
abbrev Ss (g : T (List V)) (h : H) (s : V) (L : List (List UInt8)) : Prop := Vs (E g) h V.str s L
abbrev Sy (g : T (List V)) (h : H) (s : V) (L : List SymD) : Prop := Rcs (E g) h 5 symV s L
abbrev Re (g : T (List V)) (h : H) (s : V) (L : List RelD) : Prop := Rcs (E g) h 5 relV s L

/-- An object's cells. -/
structure Oc where
  code : V
  data : V
  syms : V
  rels : V
  needs : V
def Oc.cells (c : Oc) (o : ObjD) : List V := [.str o.name, c.code, c.data, c.syms, c.rels, c.needs, .str o.entry]
structure Ob (g : T (List V)) (h : H) (K : Nat → Prop) (c : Oc) (o : ObjD) : Prop where
  code : Bs g h c.code o.code
  data : Bs g h c.data o.data
  syms : Sy g h c.syms o.syms
  rels : Re g h c.rels o.rels
  needs : Ss g h c.needs o.needs
  inC : In K c.code
  inD : In K c.data
  inS : In K c.syms
  inR : In K c.rels
  inN : In K c.needs
theorem Ob.fix {h h' : H} {K K' : Nat → Prop} {c : Oc} {o : ObjD} (a : Ob g h K c o) (f : Fix K' h h') (hs : ∀ b, K b → K' b) : Ob g h' K c o :=
  ⟨Sl.fix a.code (a.inC.sub hs) f, Sl.fix a.data (a.inD.sub hs) f, Sl.fix a.syms (a.inS.sub hs) f, Sl.fix a.rels (a.inR.sub hs) f, Sl.fix a.needs (a.inN.sub hs) f, a.inC, a.inD, a.inS, a.inR, a.inN⟩
theorem Ob.up {h : H} {K K' : Nat → Prop} {c : Oc} {o : ObjD} (a : Ob g h K c o) (hs : ∀ b, K b → K' b) : Ob g h K' c o :=
  ⟨a.code, a.data, a.syms, a.rels, a.needs, a.inC.sub hs, a.inD.sub hs, a.inS.sub hs, a.inR.sub hs, a.inN.sub hs⟩

/-- The error of a name that may be empty. -/
def nameT (s : List UInt8) : Int := if 64 < s.length then 21 else 0
/-- object.named -/
theorem named_ok {h : H} {s : List UInt8} {e : Bool} : WF (E g) 80 [.str s, .bool e] h fun v h' => v = .int .i64 (if e then nameT s else nameE s) ∧ h' = h := by
  refine WF.enter fn80 rfl ?_
  ((repeat refine WC.seq ?_); refine WC.run ?_)
  (try simp only [wk, wl, Then, Blk, pickV, Nat.reduceLT, Nat.reduceEqDiff, Nat.reduceBEq, reduceIte, isConst, nilCheckV, extractV, wantJ, nth])
  (repeat refine WC.seq ?_)
  refine WC.block ?_
  ((repeat refine WC.seq ?_); refine WC.run ?_)
  have hz : (V.str ([] : List UInt8)) = .str [] := rfl
  cases s with
  | nil =>
    cases e with
    | false =>
      (try simp only [wk, wl, Then, Blk, pickV, Nat.reduceLT, Nat.reduceEqDiff, Nat.reduceBEq, reduceIte, isConst, nilCheckV, extractV, wantJ, nth, bin_seql, beq_self_eq_true, un_not, Bool.not_false])
      (repeat refine WC.seq ?_)
      refine WC.cond (b := true) (by (try simp only [wk, wl, Then, Blk, pickV, Nat.reduceLT, Nat.reduceEqDiff, Nat.reduceBEq, reduceIte, isConst, nilCheckV, extractV, wantJ, nth]); (try simp); (try omega)) ?_
      ((repeat refine WC.seq ?_); refine WC.run ?_)
      (try simp only [wk, wl, Then, Blk, pickV, Nat.reduceLT, Nat.reduceEqDiff, Nat.reduceBEq, reduceIte, isConst, nilCheckV, extractV, wantJ, nth])
      refine WC.ret ?_
      (try simp only [wk, wl, Then, Blk, pickV, Nat.reduceLT, Nat.reduceEqDiff, Nat.reduceBEq, reduceIte, isConst, nilCheckV, extractV, wantJ, nth])
      exact ⟨rfl, by trivial⟩
    | true =>
      (try simp only [wk, wl, Then, Blk, pickV, Nat.reduceLT, Nat.reduceEqDiff, Nat.reduceBEq, reduceIte, isConst, nilCheckV, extractV, wantJ, nth, bin_seql, beq_self_eq_true, un_not, Bool.not_true])
      (repeat refine WC.seq ?_)
      refine WC.cond (b := false) (by (try simp only [wk, wl, Then, Blk, pickV, Nat.reduceLT, Nat.reduceEqDiff, Nat.reduceBEq, reduceIte, isConst, nilCheckV, extractV, wantJ, nth]); (try simp); (try omega)) ?_
      ((repeat refine WC.seq ?_); refine WC.run ?_)
      (try simp only [wk, wl, Then, Blk, pickV, Nat.reduceLT, Nat.reduceEqDiff, Nat.reduceBEq, reduceIte, isConst, nilCheckV, extractV, wantJ, nth, len_str])
      (repeat refine WC.seq ?_)
      refine WC.cond (b := false) (by (try simp only [wk, wl, Then, Blk, pickV, Nat.reduceLT, Nat.reduceEqDiff, Nat.reduceBEq, reduceIte, isConst, nilCheckV, extractV, wantJ, nth]); (try simp); (try omega)) (WC.skip ?_)
      (try simp only [wk, wl, Then, Blk, pickV, Nat.reduceLT, Nat.reduceEqDiff, Nat.reduceBEq, reduceIte, isConst, nilCheckV, extractV, wantJ, nth])
      ((repeat refine WC.seq ?_); refine WC.run ?_)
      (try simp only [wk, wl, Then, Blk, pickV, Nat.reduceLT, Nat.reduceEqDiff, Nat.reduceBEq, reduceIte, isConst, nilCheckV, extractV, wantJ, nth])
      refine WC.ret ?_
      (try simp only [wk, wl, Then, Blk, pickV, Nat.reduceLT, Nat.reduceEqDiff, Nat.reduceBEq, reduceIte, isConst, nilCheckV, extractV, wantJ, nth])
      exact ⟨rfl, by trivial⟩
  | cons c r =>
    have hb : ((c :: r) == ([] : List UInt8)) = false := rfl
    (try simp only [wk, wl, Then, Blk, pickV, Nat.reduceLT, Nat.reduceEqDiff, Nat.reduceBEq, reduceIte, isConst, nilCheckV, extractV, wantJ, nth, bin_seql, hb])
    (repeat refine WC.seq ?_)
    refine WC.cond (b := false) (by (try simp only [wk, wl, Then, Blk, pickV, Nat.reduceLT, Nat.reduceEqDiff, Nat.reduceBEq, reduceIte, isConst, nilCheckV, extractV, wantJ, nth]); (try simp); (try omega)) ?_
    ((repeat refine WC.seq ?_); refine WC.run ?_)
    (try simp only [wk, wl, Then, Blk, pickV, Nat.reduceLT, Nat.reduceEqDiff, Nat.reduceBEq, reduceIte, isConst, nilCheckV, extractV, wantJ, nth, len_str])
    (repeat refine WC.seq ?_)
    by_cases hl : 64 < r.length + 1
    · refine WC.cond (b := true) (by (try simp only [wk, wl, Then, Blk, pickV, Nat.reduceLT, Nat.reduceEqDiff, Nat.reduceBEq, reduceIte, isConst, nilCheckV, extractV, wantJ, nth]); (try simp); (try omega)) ?_
      ((repeat refine WC.seq ?_); refine WC.run ?_)
      (try simp only [wk, wl, Then, Blk, pickV, Nat.reduceLT, Nat.reduceEqDiff, Nat.reduceBEq, reduceIte, isConst, nilCheckV, extractV, wantJ, nth])
      refine WC.ret ?_
      (try simp only [wk, wl, Then, Blk, pickV, Nat.reduceLT, Nat.reduceEqDiff, Nat.reduceBEq, reduceIte, isConst, nilCheckV, extractV, wantJ, nth])
      refine ⟨?_, by trivial⟩
      cases e <;> simp [nameE, nameT, hl]
    · refine WC.cond (b := false) (by (try simp only [wk, wl, Then, Blk, pickV, Nat.reduceLT, Nat.reduceEqDiff, Nat.reduceBEq, reduceIte, isConst, nilCheckV, extractV, wantJ, nth]); (try simp); (try omega)) (WC.skip ?_)
      (try simp only [wk, wl, Then, Blk, pickV, Nat.reduceLT, Nat.reduceEqDiff, Nat.reduceBEq, reduceIte, isConst, nilCheckV, extractV, wantJ, nth])
      ((repeat refine WC.seq ?_); refine WC.run ?_)
      (try simp only [wk, wl, Then, Blk, pickV, Nat.reduceLT, Nat.reduceEqDiff, Nat.reduceBEq, reduceIte, isConst, nilCheckV, extractV, wantJ, nth])
      refine WC.ret ?_
      (try simp only [wk, wl, Then, Blk, pickV, Nat.reduceLT, Nat.reduceEqDiff, Nat.reduceBEq, reduceIte, isConst, nilCheckV, extractV, wantJ, nth])
      refine ⟨?_, by trivial⟩
      cases e <;> simp [nameE, nameT, hl]

def secLen (o : ObjD) (n : Int) : Int := if n = 1 then (o.code.length : Int) else if n = 2 then (o.data.length : Int) else 0
/-- (*object.Object).size -/
theorem size_ok {h : H} {K : Nat → Prop} {b : Nat} {c : Oc} {o : ObjD} {n : Int} (hb : Has h b (c.cells o)) (ob : Ob g h K c o) : WF (E g) 86 [.ptr b 0, i64 n] h fun v h' => v = i64 (secLen o n) ∧ h' = h := by
  have hb : Has h b [.str o.name, c.code, c.data, c.syms, c.rels, c.needs, .str o.entry] := hb
  refine WF.enter fn86 rfl ?_
  ((repeat refine WC.seq ?_); refine WC.run ?_)
  (try simp only [wk, wl, Then, Blk, pickV, Nat.reduceLT, Nat.reduceEqDiff, Nat.reduceBEq, reduceIte, isConst, nilCheckV, extractV, wantJ, nth])
  ((repeat refine WC.seq ?_); refine WC.run ?_)
  (try simp only [wk, wl, Then, Blk, pickV, Nat.reduceLT, Nat.reduceEqDiff, Nat.reduceBEq, reduceIte, isConst, nilCheckV, extractV, wantJ, nth])
  (repeat refine WC.seq ?_)
  refine WC.block ?_
  ((repeat refine WC.seq ?_); refine WC.run ?_)
  (try simp only [wk, wl, Then, Blk, pickV, Nat.reduceLT, Nat.reduceEqDiff, Nat.reduceBEq, reduceIte, isConst, nilCheckV, extractV, wantJ, nth, i64])
  (repeat refine WC.seq ?_)
  by_cases h1 : n = 1
  · subst h1
    refine WC.cond (b := true) (by (try simp only [wk, wl, Then, Blk, pickV, Nat.reduceLT, Nat.reduceEqDiff, Nat.reduceBEq, reduceIte, isConst, nilCheckV, extractV, wantJ, nth]); (try simp); (try omega)) ?_
    ((repeat refine WC.seq ?_); refine WC.run ?_)
    (try simp only [wk, wl, Then, Blk, pickV, Nat.reduceLT, Nat.reduceEqDiff, Nat.reduceBEq, reduceIte, isConst, nilCheckV, extractV, wantJ, nth, fa77_1, Nat.zero_add, hb.at ty27 rfl, ob.code.len])
    refine WC.ret ?_
    (try simp only [wk, wl, Then, Blk, pickV, Nat.reduceLT, Nat.reduceEqDiff, Nat.reduceBEq, reduceIte, isConst, nilCheckV, extractV, wantJ, nth])
    exact ⟨rfl, by trivial⟩
  · refine WC.cond (b := false) (by (try simp only [wk, wl, Then, Blk, pickV, Nat.reduceLT, Nat.reduceEqDiff, Nat.reduceBEq, reduceIte, isConst, nilCheckV, extractV, wantJ, nth, h1]); (try simp); (try omega)) ?_
    ((repeat refine WC.seq ?_); refine WC.run ?_)
    (try simp only [wk, wl, Then, Blk, pickV, Nat.reduceLT, Nat.reduceEqDiff, Nat.reduceBEq, reduceIte, isConst, nilCheckV, extractV, wantJ, nth])
    (repeat refine WC.seq ?_)
    by_cases h2 : n = 2
    · subst h2
      refine WC.cond (b := true) (by (try simp only [wk, wl, Then, Blk, pickV, Nat.reduceLT, Nat.reduceEqDiff, Nat.reduceBEq, reduceIte, isConst, nilCheckV, extractV, wantJ, nth]); (try simp); (try omega)) ?_
      ((repeat refine WC.seq ?_); refine WC.run ?_)
      (try simp only [wk, wl, Then, Blk, pickV, Nat.reduceLT, Nat.reduceEqDiff, Nat.reduceBEq, reduceIte, isConst, nilCheckV, extractV, wantJ, nth, fa77_2, Nat.zero_add, hb.at ty27 rfl, ob.data.len])
      refine WC.ret ?_
      (try simp only [wk, wl, Then, Blk, pickV, Nat.reduceLT, Nat.reduceEqDiff, Nat.reduceBEq, reduceIte, isConst, nilCheckV, extractV, wantJ, nth])
      exact ⟨rfl, by trivial⟩
    · refine WC.cond (b := false) (by (try simp only [wk, wl, Then, Blk, pickV, Nat.reduceLT, Nat.reduceEqDiff, Nat.reduceBEq, reduceIte, isConst, nilCheckV, extractV, wantJ, nth, h2]); (try simp); (try omega)) (WC.skip ?_)
      (try simp only [wk, wl, Then, Blk, pickV, Nat.reduceLT, Nat.reduceEqDiff, Nat.reduceBEq, reduceIte, isConst, nilCheckV, extractV, wantJ, nth])
      ((repeat refine WC.seq ?_); refine WC.run ?_)
      (try simp only [wk, wl, Then, Blk, pickV, Nat.reduceLT, Nat.reduceEqDiff, Nat.reduceBEq, reduceIte, isConst, nilCheckV, extractV, wantJ, nth])
      refine WC.ret ?_
      (try simp only [wk, wl, Then, Blk, pickV, Nat.reduceLT, Nat.reduceEqDiff, Nat.reduceBEq, reduceIte, isConst, nilCheckV, extractV, wantJ, nth])
      exact ⟨by rw [secLen, if_neg h1, if_neg h2], by trivial⟩
end Go.Proofs.OP
