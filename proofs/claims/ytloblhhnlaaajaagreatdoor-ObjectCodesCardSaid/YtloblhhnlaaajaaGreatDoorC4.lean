/- Walks: the reference's put and get, names. -/
import Derived.Test.YtloblhhnlaaajaaGreatDoorB13
import Derived.Test.YtloblhhnlaaajaaGreatDoorB10
import Derived.Test.YtloblhhnlaaajaaGreatDoorC1
import Derived.Test.YtloblhhnlaaajaaGreatDoorB12
import Derived.Test.YtloblhhnlaaajaaGreatDoorP
set_option linter.unusedVariables false
set_option linter.unusedSimpArgs false
set_option linter.defProp false
set_option linter.unusedSimpArgs false
namespace Go.Proofs.OP
open Go Go.Ev
open Go.Proofs
open Nat (reduceLT reduceEqDiff)
variable {g : T (List V)}

def U (n : Int) : Nat := (n % 18446744073709551616).toNat
theorem U_lt (n : Int) : U n < 2 ^ 64 := by unfold U; omega
theorem wrapu64_U (n : Int) : IntKind.u64.wrap n = (U n : Int) := by
  unfold IntKind.wrap U
  simp only [IntKind.bits, IntKind.signed, Bool.false_and, Bool.false_eq_true, if_false]
  omega
theorem U_nat {n : Nat} (h : n < 18446744073709551616) : U n = n := by unfold U; omega

theorem put_ok {h : H} {s : V} {xs : List UInt8} {n : Int} {k : Nat} (hb : BufB g h s xs) (hlow : In (· < h.next) s) (hk : k ≤ 8) (hlen : xs.length ≤ 2 ^ 39) :
    WF (E g) 54 [s, .int .i64 n, .int .i64 k] h fun v h' => GrewB g h s h' v (xs ++ leB (U n) k) := by
  refine WF.enter fn54 rfl ?_
  ((repeat refine WC.seq ?_); refine WC.run ?_)
  (try simp only [wk, wl, wx, reduceLT, reduceEqDiff, Nat.reduceBEq, reduceIte])
  ((repeat refine WC.seq ?_); refine WC.run ?_)
  (try simp only [wk, wl, wx, reduceLT, reduceEqDiff, Nat.reduceBEq, reduceIte, conv_int ty2 ty188 rfl, wrapu64_U])
  ((repeat refine WC.seq ?_); refine WC.run ?_)
  (try simp only [wk, wl, wx, reduceLT, reduceEqDiff, Nat.reduceBEq, reduceIte])
  (repeat refine WC.seq ?_)
  refine WC.block ?_
  refine WC.while (fun m fr hh => ∃ ts i v, fr = ⟨ts, 24, [], 54, none⟩ ∧ GrewB g h s hh v (xs ++ leB (U n) i) ∧ m = k - i ∧ i ≤ k ∧ ts.get 0 = some v ∧ ts.get 2 = some (.int .i64 k) ∧ ts.get 7 = some (.int .u64 (U n / 256 ^ i : Nat)) ∧ ts.get 8 = some (.int .i64 i)) ?_ ⟨_, 0, s, rfl, ?_, rfl, by omega, ?_, ?_, ?_, ?_⟩
  · rintro m fr hh ⟨ts, i, v, rfl, gr, rfl, hi, h0, h2, h7, h8⟩
    ((repeat refine WC.seq ?_); refine WC.run ?_)
    (try simp only [wk, wl, wx, reduceLT, reduceEqDiff, Nat.reduceBEq, reduceIte, h2, h8])
    (repeat refine WC.seq ?_)
    by_cases hlt : i < k
    · refine WC.cond (b := true) (by (try simp only [wk, wl, wx, reduceLT, reduceEqDiff, Nat.reduceBEq, reduceIte]); (try simp); (try omega)) (WC.skip ?_)
      (try simp only [wk, wl, wx, reduceLT, reduceEqDiff, Nat.reduceBEq, reduceIte])
      (repeat refine WC.seq ?_)
      refine WC.block ?_
      ((repeat refine WC.seq ?_); refine WC.run ?_)
      (try simp only [wk, wl, wx, reduceLT, reduceEqDiff, Nat.reduceBEq, reduceIte, h0, h7, conv_int ty188 ty5 rfl, wrapu8_nat, u8_ofNat])
      refine sat_slice1 ty22 rfl ty5 rfl rfl rfl ?_
      intro h2' b2 n2 f2
      (try simp only [wk, wl, wx, reduceLT, reduceEqDiff, Nat.reduceBEq, reduceIte])
      refine app_ok (ys := [UInt8.ofNat (U n / 256 ^ i)]) (gr.keep f2) ty22 (.inl ⟨_, rfl⟩) b2.sl.len b2.sl.cells (by simp [leB_length]; omega) ?_
      intro s' h3 gr3 _
      rw [List.append_assoc, ← leB_snoc] at gr3
      (try simp only [wk, wl, wx, reduceLT, reduceEqDiff, Nat.reduceBEq, reduceIte])
      ((repeat refine WC.seq ?_); refine WC.run ?_)
      (try simp only [wk, wl, wx, reduceLT, reduceEqDiff, Nat.reduceBEq, reduceIte, h7, bin_quo (show (256 : Int) ≠ 0 by decide)])
      ((repeat refine WC.seq ?_); refine WC.run ?_)
      (try simp only [wk, wl, wx, reduceLT, reduceEqDiff, Nat.reduceBEq, reduceIte, h8, bin_add])
      refine ⟨_, ?_, _, i+1, s', rfl, gr3, rfl, by omega, ?_⟩
      · omega
      (try simp only [wk, wl, wx, reduceLT, reduceEqDiff, Nat.reduceBEq, reduceIte, h2])
      refine ⟨trivial, trivial, ?_, ?_⟩
      · have hU := U_lt n
        have h1 : U n / 256 ^ (i + 1) ≤ U n := Nat.div_le_self _ _
        have e : IntKind.u64.wrap (((U n / 256 ^ i : Nat) : Int).tdiv 256) = ((U n / 256 ^ (i + 1) : Nat) : Int) := by
          have : ((256 : Int)) = ((256 : Nat) : Int) := rfl
          rw [this, tdiv_nat, Nat.div_div_eq_div_mul, ← Nat.pow_succ, Nat.succ_eq_add_one, wrapu64_nat, Nat.mod_eq_of_lt (by omega)]
        rw [e]
      · rw [wrap64 (by omega) (by omega)]; rfl
    · refine WC.cond (b := false) (by (try simp only [wk, wl, wx, reduceLT, reduceEqDiff, Nat.reduceBEq, reduceIte]); (try simp); (try omega)) (WC.exit ?_)
      have : i = k := by omega
      subst this
      (try simp only [wk, wl, wx, reduceLT, reduceEqDiff, Nat.reduceBEq, reduceIte])
      ((repeat refine WC.seq ?_); refine WC.run ?_)
      (try simp only [wk, wl, wx, reduceLT, reduceEqDiff, Nat.reduceBEq, reduceIte, h0])
      refine WC.ret ?_
      (try simp only [wk, wl, wx, reduceLT, reduceEqDiff, Nat.reduceBEq, reduceIte])
      exact gr
  · simpa [leB] using Grew.refl hb hlow
  all_goals (try simp only [wk, wl, wx, reduceLT, reduceEqDiff, Nat.reduceBEq, reduceIte])
  all_goals simp

theorem bin_seql {E : Env} {h : H} {c : Bool} {t : Nat} {a b : List UInt8} : binV E h c .eql t (.str a) (.str b) = some (.bool (a == b)) := rfl
theorem bin_sneq {E : Env} {h : H} {c : Bool} {t : Nat} {a b : List UInt8} : binV E h c .neq t (.str a) (.str b) = some (.bool (!(a == b))) := rfl
theorem len_str {h : H} {s : List UInt8} : lenB (E g) h 9 (.str s) = some (.int .i64 s.length) := by
  simp only [lenB, ty9]

def nameE (s : List UInt8) : Int := if s = [] then 9 else if 64 < s.length then 21 else 0

theorem rnamed_ok {h : H} {s : List UInt8} : WF (E g) 43 [.str s] h fun v h' => v = .int .i64 (nameE s) ∧ h' = h := by
  refine WF.enter fn43 rfl ?_
  ((repeat refine WC.seq ?_); refine WC.run ?_)
  (try simp only [wk, wl, wx, reduceLT, reduceEqDiff, Nat.reduceBEq, reduceIte])
  ((repeat refine WC.seq ?_); refine WC.run ?_)
  (try simp only [wk, wl, wx, reduceLT, reduceEqDiff, Nat.reduceBEq, reduceIte, bin_seql])
  (repeat refine WC.seq ?_)
  cases s with
  | nil =>
    refine WC.cond (b := true) (by (try simp only [wk, wl, wx, reduceLT, reduceEqDiff, Nat.reduceBEq, reduceIte]); (try simp); (try omega)) ?_
    ((repeat refine WC.seq ?_); refine WC.run ?_)
    (try simp only [wk, wl, wx, reduceLT, reduceEqDiff, Nat.reduceBEq, reduceIte])
    refine WC.ret ?_
    (try simp only [wk, wl, wx, reduceLT, reduceEqDiff, Nat.reduceBEq, reduceIte])
    exact ⟨rfl, by trivial⟩
  | cons c r =>
    refine WC.cond (b := false) (by (try simp only [wk, wl, wx, reduceLT, reduceEqDiff, Nat.reduceBEq, reduceIte]); (try simp); (try omega)) (WC.skip ?_)
    (try simp only [wk, wl, wx, reduceLT, reduceEqDiff, Nat.reduceBEq, reduceIte])
    ((repeat refine WC.seq ?_); refine WC.run ?_)
    (try simp only [wk, wl, wx, reduceLT, reduceEqDiff, Nat.reduceBEq, reduceIte, len_str])
    (repeat refine WC.seq ?_)
    by_cases hl : 64 < r.length + 1
    · refine WC.cond (b := true) (by (try simp only [wk, wl, wx, reduceLT, reduceEqDiff, Nat.reduceBEq, reduceIte]); (try simp); (try omega)) ?_
      ((repeat refine WC.seq ?_); refine WC.run ?_)
      (try simp only [wk, wl, wx, reduceLT, reduceEqDiff, Nat.reduceBEq, reduceIte])
      refine WC.ret ?_
      (try simp only [wk, wl, wx, reduceLT, reduceEqDiff, Nat.reduceBEq, reduceIte])
      exact ⟨by rw [nameE, if_neg (by simp), if_pos (by simpa using hl)], by trivial⟩
    · refine WC.cond (b := false) (by (try simp only [wk, wl, wx, reduceLT, reduceEqDiff, Nat.reduceBEq, reduceIte]); (try simp); (try omega)) (WC.skip ?_)
      (try simp only [wk, wl, wx, reduceLT, reduceEqDiff, Nat.reduceBEq, reduceIte])
      ((repeat refine WC.seq ?_); refine WC.run ?_)
      (try simp only [wk, wl, wx, reduceLT, reduceEqDiff, Nat.reduceBEq, reduceIte])
      refine WC.ret ?_
      (try simp only [wk, wl, wx, reduceLT, reduceEqDiff, Nat.reduceBEq, reduceIte])
      exact ⟨by rw [nameE, if_neg (by simp), if_neg (by simpa using hl)], by trivial⟩
end Go.Proofs.OP

set_option linter.unusedSimpArgs false
namespace Go.Proofs.OP
open Go Go.Ev
open Go.Proofs
open Nat (reduceLT reduceEqDiff)
variable {g : T (List V)}

def i64 (n : Int) : V := .int .i64 n
structure SymD where
  name : List UInt8
  sec : Int
  off : Int
  glob : Bool
  weak : Bool
structure RelD where
  sec : Int
  off : Int
  kind : Int
  sym : List UInt8
  add : Int
structure ObjD where
  name : List UInt8
  code : List UInt8
  data : List UInt8
  syms : List SymD
  rels : List RelD
  needs : List (List UInt8)
  entry : List UInt8
def symV (s : SymD) : List V := [.str s.name, i64 s.sec, i64 s.off, .bool s.glob, .bool s.weak]
def relV (r : RelD) : List V := [i64 r.sec, i64 r.off, i64 r.kind, .str r.sym, i64 r.add]
abbrev Ss (g : T (List V)) (h : H) (s : V) (L : List (List UInt8)) : Prop := Vs (E g) h V.str s L
abbrev Sy (g : T (List V)) (h : H) (s : V) (L : List SymD) : Prop := Rcs (E g) h 5 symV s L
abbrev Re (g : T (List V)) (h : H) (s : V) (L : List RelD) : Prop := Rcs (E g) h 5 relV s L

structure Oc where
  code : V
  data : V
  syms : V
  rels : V
  needs : V
def Oc.cells (c : Oc) (o : ObjD) : List V := [.str o.name, c.code, c.data, c.syms, c.rels, c.needs, .str o.entry]
structure Ob (g : T (List V)) (h : H) (K : Nat → Prop) (c : Oc) (o : ObjD) : Prop where
  code : Bs g h c.code o.code
  data : Bs g h c.data o.data
  syms : Sy g h c.syms o.syms
  rels : Re g h c.rels o.rels
  needs : Ss g h c.needs o.needs
  inC : In K c.code
  inD : In K c.data
  inS : In K c.syms
  inR : In K c.rels
  inN : In K c.needs
theorem Ob.fix {h h' : H} {K K' : Nat → Prop} {c : Oc} {o : ObjD} (a : Ob g h K c o) (f : Fix K' h h') (hs : ∀ b, K b → K' b) : Ob g h' K c o :=
  ⟨Sl.fix a.code (a.inC.sub hs) f, Sl.fix a.data (a.inD.sub hs) f, Sl.fix a.syms (a.inS.sub hs) f, Sl.fix a.rels (a.inR.sub hs) f, Sl.fix a.needs (a.inN.sub hs) f, a.inC, a.inD, a.inS, a.inR, a.inN⟩
theorem Ob.up {h : H} {K K' : Nat → Prop} {c : Oc} {o : ObjD} (a : Ob g h K c o) (hs : ∀ b, K b → K' b) : Ob g h K' c o :=
  ⟨a.code, a.data, a.syms, a.rels, a.needs, a.inC.sub hs, a.inD.sub hs, a.inS.sub hs, a.inR.sub hs, a.inN.sub hs⟩

def nameT (s : List UInt8) : Int := if 64 < s.length then 21 else 0
theorem named_ok {h : H} {s : List UInt8} {e : Bool} : WF (E g) 39 [.str s, .bool e] h fun v h' => v = .int .i64 (if e then nameT s else nameE s) ∧ h' = h := by
  refine WF.enter fn39 rfl ?_
  ((repeat refine WC.seq ?_); refine WC.run ?_)
  (try simp only [wk, wl, wx, reduceLT, reduceEqDiff, Nat.reduceBEq, reduceIte])
  (repeat refine WC.seq ?_)
  refine WC.block ?_
  ((repeat refine WC.seq ?_); refine WC.run ?_)
  have hz : (V.str ([] : List UInt8)) = .str [] := rfl
  cases s with
  | nil =>
    cases e with
    | false =>
      (try simp only [wk, wl, wx, reduceLT, reduceEqDiff, Nat.reduceBEq, reduceIte, bin_seql, beq_self_eq_true, un_not, Bool.not_false])
      (repeat refine WC.seq ?_)
      refine WC.cond (b := true) (by (try simp only [wk, wl, wx, reduceLT, reduceEqDiff, Nat.reduceBEq, reduceIte]); (try simp); (try omega)) ?_
      ((repeat refine WC.seq ?_); refine WC.run ?_)
      (try simp only [wk, wl, wx, reduceLT, reduceEqDiff, Nat.reduceBEq, reduceIte])
      refine WC.ret ?_
      (try simp only [wk, wl, wx, reduceLT, reduceEqDiff, Nat.reduceBEq, reduceIte])
      exact ⟨rfl, by trivial⟩
    | true =>
      (try simp only [wk, wl, wx, reduceLT, reduceEqDiff, Nat.reduceBEq, reduceIte, bin_seql, beq_self_eq_true, un_not, Bool.not_true])
      (repeat refine WC.seq ?_)
      refine WC.cond (b := false) (by (try simp only [wk, wl, wx, reduceLT, reduceEqDiff, Nat.reduceBEq, reduceIte]); (try simp); (try omega)) ?_
      ((repeat refine WC.seq ?_); refine WC.run ?_)
      (try simp only [wk, wl, wx, reduceLT, reduceEqDiff, Nat.reduceBEq, reduceIte, len_str])
      (repeat refine WC.seq ?_)
      refine WC.cond (b := false) (by (try simp only [wk, wl, wx, reduceLT, reduceEqDiff, Nat.reduceBEq, reduceIte]); (try simp); (try omega)) (WC.skip ?_)
      (try simp only [wk, wl, wx, reduceLT, reduceEqDiff, Nat.reduceBEq, reduceIte])
      ((repeat refine WC.seq ?_); refine WC.run ?_)
      (try simp only [wk, wl, wx, reduceLT, reduceEqDiff, Nat.reduceBEq, reduceIte])
      refine WC.ret ?_
      (try simp only [wk, wl, wx, reduceLT, reduceEqDiff, Nat.reduceBEq, reduceIte])
      exact ⟨rfl, by trivial⟩
  | cons c r =>
    have hb : ((c :: r) == ([] : List UInt8)) = false := rfl
    (try simp only [wk, wl, wx, reduceLT, reduceEqDiff, Nat.reduceBEq, reduceIte, bin_seql, hb])
    (repeat refine WC.seq ?_)
    refine WC.cond (b := false) (by (try simp only [wk, wl, wx, reduceLT, reduceEqDiff, Nat.reduceBEq, reduceIte]); (try simp); (try omega)) ?_
    ((repeat refine WC.seq ?_); refine WC.run ?_)
    (try simp only [wk, wl, wx, reduceLT, reduceEqDiff, Nat.reduceBEq, reduceIte, len_str])
    (repeat refine WC.seq ?_)
    by_cases hl : 64 < r.length + 1
    · refine WC.cond (b := true) (by (try simp only [wk, wl, wx, reduceLT, reduceEqDiff, Nat.reduceBEq, reduceIte]); (try simp); (try omega)) ?_
      ((repeat refine WC.seq ?_); refine WC.run ?_)
      (try simp only [wk, wl, wx, reduceLT, reduceEqDiff, Nat.reduceBEq, reduceIte])
      refine WC.ret ?_
      (try simp only [wk, wl, wx, reduceLT, reduceEqDiff, Nat.reduceBEq, reduceIte])
      refine ⟨?_, by trivial⟩
      cases e <;> simp [nameE, nameT, hl]
    · refine WC.cond (b := false) (by (try simp only [wk, wl, wx, reduceLT, reduceEqDiff, Nat.reduceBEq, reduceIte]); (try simp); (try omega)) (WC.skip ?_)
      (try simp only [wk, wl, wx, reduceLT, reduceEqDiff, Nat.reduceBEq, reduceIte])
      ((repeat refine WC.seq ?_); refine WC.run ?_)
      (try simp only [wk, wl, wx, reduceLT, reduceEqDiff, Nat.reduceBEq, reduceIte])
      refine WC.ret ?_
      (try simp only [wk, wl, wx, reduceLT, reduceEqDiff, Nat.reduceBEq, reduceIte])
      refine ⟨?_, by trivial⟩
      cases e <;> simp [nameE, nameT, hl]

def secLen (o : ObjD) (n : Int) : Int := if n = 1 then (o.code.length : Int) else if n = 2 then (o.data.length : Int) else 0
theorem size_ok {h : H} {K : Nat → Prop} {b : Nat} {c : Oc} {o : ObjD} {n : Int} (hb : Has h b (c.cells o)) (ob : Ob g h K c o) : WF (E g) 92 [.ptr b 0, i64 n] h fun v h' => v = i64 (secLen o n) ∧ h' = h := by
  have hb : Has h b [.str o.name, c.code, c.data, c.syms, c.rels, c.needs, .str o.entry] := hb
  refine WF.enter fn92 rfl ?_
  ((repeat refine WC.seq ?_); refine WC.run ?_)
  (try simp only [wk, wl, wx, reduceLT, reduceEqDiff, Nat.reduceBEq, reduceIte])
  ((repeat refine WC.seq ?_); refine WC.run ?_)
  (try simp only [wk, wl, wx, reduceLT, reduceEqDiff, Nat.reduceBEq, reduceIte])
  (repeat refine WC.seq ?_)
  refine WC.block ?_
  ((repeat refine WC.seq ?_); refine WC.run ?_)
  (try simp only [wk, wl, wx, reduceLT, reduceEqDiff, Nat.reduceBEq, reduceIte, i64])
  (repeat refine WC.seq ?_)
  by_cases h1 : n = 1
  · subst h1
    refine WC.cond (b := true) (by (try simp only [wk, wl, wx, reduceLT, reduceEqDiff, Nat.reduceBEq, reduceIte]); (try simp); (try omega)) ?_
    ((repeat refine WC.seq ?_); refine WC.run ?_)
    (try simp only [wk, wl, wx, reduceLT, reduceEqDiff, Nat.reduceBEq, reduceIte, fa35_1, Nat.zero_add, hb.at ty22 rfl, ob.code.len])
    refine WC.ret ?_
    (try simp only [wk, wl, wx, reduceLT, reduceEqDiff, Nat.reduceBEq, reduceIte])
    exact ⟨rfl, by trivial⟩
  · refine WC.cond (b := false) (by (try simp only [wk, wl, wx, reduceLT, reduceEqDiff, Nat.reduceBEq, reduceIte, h1]); (try simp); (try omega)) ?_
    ((repeat refine WC.seq ?_); refine WC.run ?_)
    (try simp only [wk, wl, wx, reduceLT, reduceEqDiff, Nat.reduceBEq, reduceIte])
    (repeat refine WC.seq ?_)
    by_cases h2 : n = 2
    · subst h2
      refine WC.cond (b := true) (by (try simp only [wk, wl, wx, reduceLT, reduceEqDiff, Nat.reduceBEq, reduceIte]); (try simp); (try omega)) ?_
      ((repeat refine WC.seq ?_); refine WC.run ?_)
      (try simp only [wk, wl, wx, reduceLT, reduceEqDiff, Nat.reduceBEq, reduceIte, fa35_2, Nat.zero_add, hb.at ty22 rfl, ob.data.len])
      refine WC.ret ?_
      (try simp only [wk, wl, wx, reduceLT, reduceEqDiff, Nat.reduceBEq, reduceIte])
      exact ⟨rfl, by trivial⟩
    · refine WC.cond (b := false) (by (try simp only [wk, wl, wx, reduceLT, reduceEqDiff, Nat.reduceBEq, reduceIte, h2]); (try simp); (try omega)) (WC.skip ?_)
      (try simp only [wk, wl, wx, reduceLT, reduceEqDiff, Nat.reduceBEq, reduceIte])
      ((repeat refine WC.seq ?_); refine WC.run ?_)
      (try simp only [wk, wl, wx, reduceLT, reduceEqDiff, Nat.reduceBEq, reduceIte])
      refine WC.ret ?_
      (try simp only [wk, wl, wx, reduceLT, reduceEqDiff, Nat.reduceBEq, reduceIte])
      exact ⟨by rw [secLen, if_neg h1, if_neg h2], by trivial⟩
end Go.Proofs.OP
