/- Walks: names, sameObject. -/
import Derived.Test.YtloblhhnlaaajaaGreatDoorB13
import Derived.Test.YtloblhhnlaaajaaGreatDoorC22
import Derived.Test.YtloblhhnlaaajaaGreatDoorC10
set_option linter.unusedVariables false
set_option linter.unusedSimpArgs false
set_option linter.defProp false
set_option linter.unusedSimpArgs false
namespace Go.Proofs.OP
open Go Go.Ev
open Go.Proofs
open Nat (reduceLT reduceEqDiff)
variable {g : T (List V)}

instance : DecidableEq SymD := fun a b => if h : a.name = b.name ∧ a.sec = b.sec ∧ a.off = b.off ∧ a.glob = b.glob ∧ a.weak = b.weak then isTrue (by cases a; cases b; simp at h; simp [h]) else isFalse (by rintro rfl; simp at h)
instance : DecidableEq RelD := fun a b => if h : a.sec = b.sec ∧ a.off = b.off ∧ a.kind = b.kind ∧ a.sym = b.sym ∧ a.add = b.add then isTrue (by cases a; cases b; simp at h; simp [h]) else isFalse (by rintro rfl; simp at h)

set_option maxRecDepth 100000 in
set_option maxHeartbeats 4000000 in
theorem names_ok {h : H} {s t : V} {L M : List (List UInt8)} (hs : Ss g h s L) (ht : Ss g h t M) (hL : L.length < 2 ^ 40) (hM : M.length < 2 ^ 40) : WF (E g) 69 [s, t] h fun v h' => v = .bool (decide (L = M)) ∧ h' = h := by
  refine WF.enter fn69 rfl ?_
  ((repeat refine WC.seq ?_); refine WC.run ?_)
  (try simp only [wk, wl, wx, reduceLT, reduceEqDiff, Nat.reduceBEq, reduceIte])
  ((repeat refine WC.seq ?_); refine WC.run ?_)
  (try simp only [wk, wl, wx, reduceLT, reduceEqDiff, Nat.reduceBEq, reduceIte, Sl.lenB hs ty25 rfl, Sl.lenB ht ty25 rfl])
  (repeat refine WC.seq ?_)
  by_cases hl : L.length = M.length
  · refine WC.cond (b := false) (by (try simp only [wk, wl, wx, reduceLT, reduceEqDiff, Nat.reduceBEq, reduceIte]); simp [hl]) (WC.skip ?_)
    (try simp only [wk, wl, wx, reduceLT, reduceEqDiff, Nat.reduceBEq, reduceIte])
    ((repeat refine WC.seq ?_); refine WC.run ?_)
    (try simp only [wk, wl, wx, reduceLT, reduceEqDiff, Nat.reduceBEq, reduceIte, Sl.lenB hs ty25 rfl])
    (repeat refine WC.seq ?_)
    refine WC.block ?_
    refine WC.while (fun m fr hh => ∃ ts i, fr = ⟨ts, 26, [], 69, none⟩ ∧ hh = h ∧ m = L.length - i ∧ i ≤ L.length ∧ ts.get 0 = some s ∧ ts.get 1 = some t ∧ ts.get 12 = some (.int .i64 L.length) ∧ ts.get 13 = some (.int .i64 i) ∧ L.take i = M.take i) ?_ ⟨_, 0, rfl, rfl, rfl, by omega, ?_, ?_, ?_, ?_, rfl⟩
    · rintro m fr hh ⟨ts, i, rfl, rfl, rfl, hi, t0, t1, t12, t13, he⟩
      ((repeat refine WC.seq ?_); refine WC.run ?_)
      (try simp only [wk, wl, wx, reduceLT, reduceEqDiff, Nat.reduceBEq, reduceIte, t12, t13])
      (repeat refine WC.seq ?_)
      by_cases hlt : i < L.length
      · refine WC.cond (b := true) (by (try simp only [wk, wl, wx, reduceLT, reduceEqDiff, Nat.reduceBEq, reduceIte]); (try simp); (try omega)) (WC.skip ?_)
        (try simp only [wk, wl, wx, reduceLT, reduceEqDiff, Nat.reduceBEq, reduceIte])
        obtain ⟨p, p1, p2⟩ := hs.at ty25 rfl ty9 rfl rfl hlt
        have p2 := p2 hh fun _ _ _ _ _ => rfl
        have hlt' : i < M.length := by omega
        obtain ⟨q, q1, q2⟩ := ht.at ty25 rfl ty9 rfl rfl hlt'
        have q2 := q2 hh fun _ _ _ _ _ => rfl
        (repeat refine WC.seq ?_)
        refine WC.block ?_
        ((repeat refine WC.seq ?_); refine WC.run ?_)
        (try simp only [wk, wl, wx, reduceLT, reduceEqDiff, Nat.reduceBEq, reduceIte, t13])
        ((repeat refine WC.seq ?_); refine WC.draw (plans := pl69_6) (by kernel_rfl) ?_; simp only [pl69_6, List.mem_cons, List.not_mem_nil, or_false, forall_eq_or_imp, forall_eq])
        (try simp (maxSteps := 2000000) only [wk, wl, wx, reduceLT, reduceEqDiff, Nat.reduceBEq, reduceIte, wd, Chk, and_true, true_and, t0, t1, p1, p2, q1, q2, bin_sneq])
        (repeat refine WC.seq ?_)
        by_cases hc : L[i] = M[i]
        · refine WC.cond (b := false) (by (try simp only [wk, wl, wx, reduceLT, reduceEqDiff, Nat.reduceBEq, reduceIte]); simp [hc]) (WC.skip ?_)
          (try simp only [wk, wl, wx, reduceLT, reduceEqDiff, Nat.reduceBEq, reduceIte])
          ((repeat refine WC.seq ?_); refine WC.run ?_)
          (try simp only [wk, wl, wx, reduceLT, reduceEqDiff, Nat.reduceBEq, reduceIte, t13, bin_add])
          refine ⟨_, ?_, _, i + 1, rfl, by trivial, rfl, by omega, ?_⟩
          · omega
          (try simp only [wk, wl, wx, reduceLT, reduceEqDiff, Nat.reduceBEq, reduceIte, t0, t1, t12])
          refine ⟨trivial, trivial, trivial, ?_, ?_⟩
          · rw [wrap64 (by omega) (by omega)]; rfl
          · rw [List.take_succ_eq_append_getElem hlt, List.take_succ_eq_append_getElem hlt', he, hc]
        · refine WC.cond (b := true) (by (try simp only [wk, wl, wx, reduceLT, reduceEqDiff, Nat.reduceBEq, reduceIte]); simp [hc]) ?_
          ((repeat refine WC.seq ?_); refine WC.run ?_)
          (try simp only [wk, wl, wx, reduceLT, reduceEqDiff, Nat.reduceBEq, reduceIte])
          refine WC.ret ?_
          (try simp only [wk, wl, wx, reduceLT, reduceEqDiff, Nat.reduceBEq, reduceIte])
          refine ⟨?_, by trivial⟩
          rw [decide_eq_false (by rintro rfl; exact hc rfl)]
      · refine WC.cond (b := false) (by (try simp only [wk, wl, wx, reduceLT, reduceEqDiff, Nat.reduceBEq, reduceIte]); (try simp); (try omega)) (WC.exit ?_)
        have : i = L.length := by omega
        subst this
        (try simp only [wk, wl, wx, reduceLT, reduceEqDiff, Nat.reduceBEq, reduceIte])
        ((repeat refine WC.seq ?_); refine WC.run ?_)
        (try simp only [wk, wl, wx, reduceLT, reduceEqDiff, Nat.reduceBEq, reduceIte])
        refine WC.ret ?_
        (try simp only [wk, wl, wx, reduceLT, reduceEqDiff, Nat.reduceBEq, reduceIte])
        refine ⟨?_, by trivial⟩
        rw [List.take_length, hl, List.take_length] at he
        rw [decide_eq_true he]
    all_goals (try simp only [wk, wl, wx, reduceLT, reduceEqDiff, Nat.reduceBEq, reduceIte])
    all_goals (first | trivial | rfl | simp)
  · refine WC.cond (b := true) (by (try simp only [wk, wl, wx, reduceLT, reduceEqDiff, Nat.reduceBEq, reduceIte]); simp; omega) ?_
    ((repeat refine WC.seq ?_); refine WC.run ?_)
    (try simp only [wk, wl, wx, reduceLT, reduceEqDiff, Nat.reduceBEq, reduceIte])
    refine WC.ret ?_
    (try simp only [wk, wl, wx, reduceLT, reduceEqDiff, Nat.reduceBEq, reduceIte])
    refine ⟨?_, by trivial⟩
    rw [decide_eq_false (by rintro rfl; exact hl rfl)]

theorem eqT_str {n : Nat} {a b : List UInt8} : eqT (E g) (n + 1) 9 (.str a) (.str b) = some (decide (a = b)) := by
  have : (a == b) = decide (a = b) := by by_cases h : a = b <;> simp [h]
  simp only [eqT, ty9, scalarEq, this]
theorem eqT_i3 {n : Nat} {a b : Int} : eqT (E g) (n + 1) 3 (.int .i64 a) (.int .i64 b) = some (decide (a = b)) := by
  simp only [eqT, ty3, scalarEq, if_true]
theorem eqT_i2 {n : Nat} {a b : Int} : eqT (E g) (n + 1) 2 (.int .i64 a) (.int .i64 b) = some (decide (a = b)) := by
  simp only [eqT, ty2, scalarEq, if_true]
theorem eqT_b {n : Nat} {a b : Bool} : eqT (E g) (n + 1) 4 (.bool a) (.bool b) = some (decide (a = b)) := by
  have : (a == b) = decide (a = b) := by cases a <;> cases b <;> rfl
  simp only [eqT, ty4, scalarEq, this]
theorem and5 {p q r s t : Prop} [Decidable p] [Decidable q] [Decidable r] [Decidable s] [Decidable t] : (match (some (decide p) : Option Bool) with
    | some true => (match (some (decide q) : Option Bool) with
      | some true => (match (some (decide r) : Option Bool) with
        | some true => (match (some (decide s) : Option Bool) with
          | some true => (match (some (decide t) : Option Bool) with
            | some true => some true
            | some false => some false
            | none => none)
          | some false => some false
          | none => none)
        | some false => some false
        | none => none)
      | some false => some false
      | none => none)
    | some false => some false
    | none => none) = some (decide (p ∧ q ∧ r ∧ s ∧ t)) := by
  by_cases p <;> by_cases q <;> by_cases r <;> by_cases s <;> by_cases t <;> simp [*]
theorem neq95 {h : H} {c : Bool} {a b : SymD} : binV (E g) h c .neq 92 (.agg (symV a)) (.agg (symV b)) = some (.bool (decide (a ≠ b))) := by
  have : eqV (E g) h 92 (.agg (symV a)) (.agg (symV b)) = some (decide (a.name = b.name ∧ a.sec = b.sec ∧ a.off = b.off ∧ a.glob = b.glob ∧ a.weak = b.weak)) := by
    simp only [eqV, ty92, E_eqs, show es.contains 92 = true from rfl, cond_true]
    simp only [eqFlds, partV, ty9, ty3, ty2, ty4, TI.agg, cond_false, symV, nth, i64, eqT_str, eqT_i3, eqT_i2, eqT_b, show (("Name" : String) == "_") = false from rfl, show (("Section" : String) == "_") = false from rfl, show (("Offset" : String) == "_") = false from rfl, show (("Global" : String) == "_") = false from rfl, show (("Weak" : String) == "_") = false from rfl]
    exact and5
  simp only [binV, this, Option.map_some]
  congr 2
  have e : (a.name = b.name ∧ a.sec = b.sec ∧ a.off = b.off ∧ a.glob = b.glob ∧ a.weak = b.weak) ↔ a = b := ⟨fun h => by cases a; cases b; simp at h; simp [h], by rintro rfl; simp⟩
  by_cases h : a = b
  · subst h; simp
  · simp [h, e]
theorem neq97 {h : H} {c : Bool} {a b : RelD} : binV (E g) h c .neq 93 (.agg (relV a)) (.agg (relV b)) = some (.bool (decide (a ≠ b))) := by
  have : eqV (E g) h 93 (.agg (relV a)) (.agg (relV b)) = some (decide (a.sec = b.sec ∧ a.off = b.off ∧ a.kind = b.kind ∧ a.sym = b.sym ∧ a.add = b.add)) := by
    simp only [eqV, ty93, E_eqs, show es.contains 93 = true from rfl, cond_true]
    simp only [eqFlds, partV, ty9, ty3, ty2, ty4, TI.agg, cond_false, relV, nth, i64, eqT_str, eqT_i3, eqT_i2, eqT_b, show (("Section" : String) == "_") = false from rfl, show (("Offset" : String) == "_") = false from rfl, show (("Kind" : String) == "_") = false from rfl, show (("Symbol" : String) == "_") = false from rfl, show (("Addend" : String) == "_") = false from rfl]
    exact and5
  simp only [binV, this, Option.map_some]
  congr 2
  have e : (a.sec = b.sec ∧ a.off = b.off ∧ a.kind = b.kind ∧ a.sym = b.sym ∧ a.add = b.add) ↔ a = b := ⟨fun h => by cases a; cases b; simp at h; simp [h], by rintro rfl; simp⟩
  by_cases h : a = b
  · subst h; simp
  · simp [h, e]
end Go.Proofs.OP

set_option linter.unusedSimpArgs false
namespace Go.Proofs.OP
open Go Go.Ev
open Go.Proofs
open Nat (reduceLT reduceEqDiff)
variable {g : T (List V)}

theorem eq_of_parts {a b : ObjD} (h1 : a.name = b.name) (h2 : a.code = b.code) (h3 : a.data = b.data) (h4 : a.entry = b.entry) (h5 : a.needs = b.needs) (h6 : a.syms = b.syms) (h7 : a.rels = b.rels) : a = b := by
  cases a; cases b; simp at *; simp [*]
set_option maxRecDepth 100000 in
set_option maxHeartbeats 8000000 in
theorem same_ok {h : H} {c1 c2 : Oc} {o1 o2 : ObjD} (ob1 : Ob g h (· < h.next) c1 o1) (ob2 : Ob g h (· < h.next) c2 o2) (fit1 : Fits o1) (fit2 : Fits o2) :
    WF (E g) 15 [.agg (c1.cells o1), .agg (c2.cells o2)] h fun v h' => (∃ r, v = .bool r ∧ (r = true ↔ o1 = o2)) ∧ Kept h h' := by
  have fs := fit1.syms
  have fr := fit1.rels
  have fs2 := fit2.syms
  have fr2 := fit2.rels
  refine WF.enter fn15 rfl ?_
  ((repeat refine WC.seq ?_); refine WC.run ?_)
  (try simp only [wk, wl, wx, reduceLT, reduceEqDiff, Nat.reduceBEq, reduceIte])
  refine wop_box (v := .agg (c1.cells o1)) (by (try simp only [wk, wl, wx, reduceLT, reduceEqDiff, Nat.reduceBEq, reduceIte])) ?_
  intro h1 b1 n1 f1
  (try simp only [wk, wl, wx, reduceLT, reduceEqDiff, Nat.reduceBEq, reduceIte])
  have b1 : Has h1 h.next [.str o1.name, c1.code, c1.data, c1.syms, c1.rels, c1.needs, .str o1.entry] := b1
  refine wop_box (v := .agg (c2.cells o2)) (by (try simp only [wk, wl, wx, reduceLT, reduceEqDiff, Nat.reduceBEq, reduceIte])) ?_
  intro h2 b2 n2 f2
  (try simp only [wk, wl, wx, reduceLT, reduceEqDiff, Nat.reduceBEq, reduceIte])
  have b2 : Has h2 h1.next [.str o2.name, c2.code, c2.data, c2.syms, c2.rels, c2.needs, .str o2.entry] := b2
  have a2 := b1.fix f2 (by omega)
  have F2 : Kept h h2 := f1.trans (f2.sub fun b hb => by omega)
  have ob1 := (ob1.fix F2 (fun _ h => h)).up (K' := (· < h2.next)) (fun _ h => by omega)
  have ob2 := (ob2.fix F2 (fun _ h => h)).up (K' := (· < h2.next)) (fun _ h => by omega)
  ((repeat refine WC.seq ?_); refine WC.run ?_)
  rcases Bool.eq_false_or_eq_true (!(o1.name == o2.name)) with k1 | k1
  · (try simp only [wk, wl, wx, reduceLT, reduceEqDiff, Nat.reduceBEq, reduceIte, un, fa35_0, fa35_1, fa35_2, fa35_6, fa27_0, fa27_1, fa27_2, fa27_6, Nat.zero_add, a2.at ty9 rfl, a2.at ty22 rfl, b2.at ty9 rfl, b2.at ty22 rfl, conv_str ob1.code, conv_str ob1.data, conv_str ob2.code, conv_str ob2.data, bin_sneq, k1])
    (repeat refine WC.seq ?_)
    refine WC.cond (b := true) (by (try simp only [wk, wl, wx, reduceLT, reduceEqDiff, Nat.reduceBEq, reduceIte]); (try simp); (try omega)) ?_
    ((repeat refine WC.seq ?_); refine WC.run ?_)
    (try simp only [wk, wl, wx, reduceLT, reduceEqDiff, Nat.reduceBEq, reduceIte])
    refine WC.ret ?_
    (try simp only [wk, wl, wx, reduceLT, reduceEqDiff, Nat.reduceBEq, reduceIte])
    exact ⟨⟨false, rfl, by constructor <;> (intro q; first | (cases q; done) | (subst q; simp at *; done) | (subst q; simp_all; done))⟩, F2⟩
  rcases Bool.eq_false_or_eq_true (!(o1.code == o2.code)) with k2 | k2
  · (try simp only [wk, wl, wx, reduceLT, reduceEqDiff, Nat.reduceBEq, reduceIte, un, fa35_0, fa35_1, fa35_2, fa35_6, fa27_0, fa27_1, fa27_2, fa27_6, Nat.zero_add, a2.at ty9 rfl, a2.at ty22 rfl, b2.at ty9 rfl, b2.at ty22 rfl, conv_str ob1.code, conv_str ob1.data, conv_str ob2.code, conv_str ob2.data, bin_sneq, k1, k2])
    (repeat refine WC.seq ?_)
    refine WC.cond (b := true) (by (try simp only [wk, wl, wx, reduceLT, reduceEqDiff, Nat.reduceBEq, reduceIte]); (try simp); (try omega)) ?_
    ((repeat refine WC.seq ?_); refine WC.run ?_)
    (try simp only [wk, wl, wx, reduceLT, reduceEqDiff, Nat.reduceBEq, reduceIte])
    refine WC.ret ?_
    (try simp only [wk, wl, wx, reduceLT, reduceEqDiff, Nat.reduceBEq, reduceIte])
    exact ⟨⟨false, rfl, by constructor <;> (intro q; first | (cases q; done) | (subst q; simp at *; done) | (subst q; simp_all; done))⟩, F2⟩
  rcases Bool.eq_false_or_eq_true (!(o1.data == o2.data)) with k3 | k3
  · (try simp only [wk, wl, wx, reduceLT, reduceEqDiff, Nat.reduceBEq, reduceIte, un, fa35_0, fa35_1, fa35_2, fa35_6, fa27_0, fa27_1, fa27_2, fa27_6, Nat.zero_add, a2.at ty9 rfl, a2.at ty22 rfl, b2.at ty9 rfl, b2.at ty22 rfl, conv_str ob1.code, conv_str ob1.data, conv_str ob2.code, conv_str ob2.data, bin_sneq, k1, k2, k3])
    (repeat refine WC.seq ?_)
    refine WC.cond (b := true) (by (try simp only [wk, wl, wx, reduceLT, reduceEqDiff, Nat.reduceBEq, reduceIte]); (try simp); (try omega)) ?_
    ((repeat refine WC.seq ?_); refine WC.run ?_)
    (try simp only [wk, wl, wx, reduceLT, reduceEqDiff, Nat.reduceBEq, reduceIte])
    refine WC.ret ?_
    (try simp only [wk, wl, wx, reduceLT, reduceEqDiff, Nat.reduceBEq, reduceIte])
    exact ⟨⟨false, rfl, by constructor <;> (intro q; first | (cases q; done) | (subst q; simp at *; done) | (subst q; simp_all; done))⟩, F2⟩
  rcases Bool.eq_false_or_eq_true (!(o1.entry == o2.entry)) with k4 | k4
  · (try simp only [wk, wl, wx, reduceLT, reduceEqDiff, Nat.reduceBEq, reduceIte, un, fa35_0, fa35_1, fa35_2, fa35_6, fa27_0, fa27_1, fa27_2, fa27_6, Nat.zero_add, a2.at ty9 rfl, a2.at ty22 rfl, b2.at ty9 rfl, b2.at ty22 rfl, conv_str ob1.code, conv_str ob1.data, conv_str ob2.code, conv_str ob2.data, bin_sneq, k1, k2, k3, k4])
    (repeat refine WC.seq ?_)
    refine WC.cond (b := true) (by (try simp only [wk, wl, wx, reduceLT, reduceEqDiff, Nat.reduceBEq, reduceIte]); (try simp); (try omega)) ?_
    ((repeat refine WC.seq ?_); refine WC.run ?_)
    (try simp only [wk, wl, wx, reduceLT, reduceEqDiff, Nat.reduceBEq, reduceIte])
    refine WC.ret ?_
    (try simp only [wk, wl, wx, reduceLT, reduceEqDiff, Nat.reduceBEq, reduceIte])
    exact ⟨⟨false, rfl, by constructor <;> (intro q; first | (cases q; done) | (subst q; simp at *; done) | (subst q; simp_all; done))⟩, F2⟩
  (try simp only [wk, wl, wx, reduceLT, reduceEqDiff, Nat.reduceBEq, reduceIte, un, fa35_0, fa35_1, fa35_2, fa35_5, fa35_6, fa27_0, fa27_1, fa27_2, fa27_5, fa27_6, Nat.zero_add, a2.at ty9 rfl, a2.at ty22 rfl, a2.at ty25 rfl, b2.at ty9 rfl, b2.at ty22 rfl, b2.at ty25 rfl, conv_str ob1.code, conv_str ob1.data, conv_str ob2.code, conv_str ob2.data, bin_sneq, k1, k2, k3, k4])
  refine (names_ok ob1.needs ob2.needs fit1.needs fit2.needs).mono fun v h' ⟨e, e'⟩ => ?_
  subst e e'
  rcases Bool.eq_false_or_eq_true (!decide (o1.needs = o2.needs)) with k5 | k5
  · (try simp only [wk, wl, wx, reduceLT, reduceEqDiff, Nat.reduceBEq, reduceIte, un, fa35_3, fa35_4, fa27_3, fa27_4, Nat.zero_add, a2.at ty32 rfl, a2.at ty33 rfl, b2.at ty23 rfl, b2.at ty24 rfl, Sl.lenB ob1.syms ty32 rfl, Sl.lenB ob1.rels ty33 rfl, Sl.lenB ob2.syms ty23 rfl, Sl.lenB ob2.rels ty24 rfl, k5])
    (repeat refine WC.seq ?_)
    refine WC.cond (b := true) (by (try simp only [wk, wl, wx, reduceLT, reduceEqDiff, Nat.reduceBEq, reduceIte]); (try simp); (try omega)) ?_
    ((repeat refine WC.seq ?_); refine WC.run ?_)
    (try simp only [wk, wl, wx, reduceLT, reduceEqDiff, Nat.reduceBEq, reduceIte])
    refine WC.ret ?_
    (try simp only [wk, wl, wx, reduceLT, reduceEqDiff, Nat.reduceBEq, reduceIte])
    exact ⟨⟨false, rfl, by constructor <;> (intro q; first | (cases q; done) | (subst q; simp at *; done) | (subst q; simp_all; done))⟩, F2⟩
  rcases Bool.eq_false_or_eq_true (((o1.syms.length : Int) != (o2.syms.length : Int))) with k6 | k6
  · (try simp only [wk, wl, wx, reduceLT, reduceEqDiff, Nat.reduceBEq, reduceIte, un, fa35_3, fa35_4, fa27_3, fa27_4, Nat.zero_add, a2.at ty32 rfl, a2.at ty33 rfl, b2.at ty23 rfl, b2.at ty24 rfl, Sl.lenB ob1.syms ty32 rfl, Sl.lenB ob1.rels ty33 rfl, Sl.lenB ob2.syms ty23 rfl, Sl.lenB ob2.rels ty24 rfl, k5, k6])
    (repeat refine WC.seq ?_)
    refine WC.cond (b := true) (by (try simp only [wk, wl, wx, reduceLT, reduceEqDiff, Nat.reduceBEq, reduceIte]); (try simp); (try omega)) ?_
    ((repeat refine WC.seq ?_); refine WC.run ?_)
    (try simp only [wk, wl, wx, reduceLT, reduceEqDiff, Nat.reduceBEq, reduceIte])
    refine WC.ret ?_
    (try simp only [wk, wl, wx, reduceLT, reduceEqDiff, Nat.reduceBEq, reduceIte])
    exact ⟨⟨false, rfl, by constructor <;> (intro q; first | (cases q; done) | (subst q; simp at *; done) | (subst q; simp_all; done))⟩, F2⟩
  rcases Bool.eq_false_or_eq_true (((o1.rels.length : Int) != (o2.rels.length : Int))) with k7 | k7
  · (try simp only [wk, wl, wx, reduceLT, reduceEqDiff, Nat.reduceBEq, reduceIte, un, fa35_3, fa35_4, fa27_3, fa27_4, Nat.zero_add, a2.at ty32 rfl, a2.at ty33 rfl, b2.at ty23 rfl, b2.at ty24 rfl, Sl.lenB ob1.syms ty32 rfl, Sl.lenB ob1.rels ty33 rfl, Sl.lenB ob2.syms ty23 rfl, Sl.lenB ob2.rels ty24 rfl, k5, k6, k7])
    (repeat refine WC.seq ?_)
    refine WC.cond (b := true) (by (try simp only [wk, wl, wx, reduceLT, reduceEqDiff, Nat.reduceBEq, reduceIte]); (try simp); (try omega)) ?_
    ((repeat refine WC.seq ?_); refine WC.run ?_)
    (try simp only [wk, wl, wx, reduceLT, reduceEqDiff, Nat.reduceBEq, reduceIte])
    refine WC.ret ?_
    (try simp only [wk, wl, wx, reduceLT, reduceEqDiff, Nat.reduceBEq, reduceIte])
    exact ⟨⟨false, rfl, by constructor <;> (intro q; first | (cases q; done) | (subst q; simp at *; done) | (subst q; simp_all; done))⟩, F2⟩
  (try simp only [wk, wl, wx, reduceLT, reduceEqDiff, Nat.reduceBEq, reduceIte, un, fa35_3, fa35_4, fa27_3, fa27_4, Nat.zero_add, a2.at ty32 rfl, a2.at ty33 rfl, b2.at ty23 rfl, b2.at ty24 rfl, Sl.lenB ob1.syms ty32 rfl, Sl.lenB ob1.rels ty33 rfl, Sl.lenB ob2.syms ty23 rfl, Sl.lenB ob2.rels ty24 rfl, k5, k6, k7])
  have lsy : o1.syms.length = o2.syms.length := by simp at k6; omega
  have lre : o1.rels.length = o2.rels.length := by simp at k7; omega
  (repeat refine WC.seq ?_)
  refine WC.cond (b := false) (by (try simp only [wk, wl, wx, reduceLT, reduceEqDiff, Nat.reduceBEq, reduceIte]); (try simp); (try omega)) (WC.skip ?_)
  (try simp only [wk, wl, wx, reduceLT, reduceEqDiff, Nat.reduceBEq, reduceIte])
  have Kq := F2
  have aq := a2
  have bq := b2
  have obq1 := ob1
  have obq2 := ob2
  ((repeat refine WC.seq ?_); refine WC.run ?_)
  (try simp only [wk, wl, wx, reduceLT, reduceEqDiff, Nat.reduceBEq, reduceIte, fa35_3, Nat.zero_add, aq.at ty32 rfl, Sl.lenB obq1.syms ty32 rfl])
  (repeat refine WC.seq ?_)
  refine WC.block ?_
  refine WC.while (fun m fr hh => ∃ ts i, fr = ⟨ts, 97, [], 15, none⟩ ∧ Fix (· < h'.next) h' hh ∧ m = o1.syms.length - i ∧ i ≤ o1.syms.length ∧ ts.get 2 = some (.ptr h.next 0) ∧ ts.get 3 = some (.ptr h1.next 0) ∧ ts.get 66 = some c1.syms ∧ ts.get 67 = some (.int .i64 o1.syms.length) ∧ ts.get 68 = some (.int .i64 i) ∧ o1.syms.take i = o2.syms.take i) ?_ ⟨_, 0, rfl, Fix.refl _ _, rfl, by omega, ?_, ?_, ?_, ?_, ?_, rfl⟩
  · rintro m fr hh ⟨ts, i, rfl, ff, rfl, hi, t2, t3, ta, tb, tc, he⟩
    have xh := ff.next
    have Kh : Kept h hh := Kq.trans (ff.sub fun b hb => by omega)
    have ah := aq.fix ff (by omega)
    have bh := bq.fix ff (by omega)
    have oh1 := obq1.fix ff (fun _ h => h)
    have oh2 := obq2.fix ff (fun _ h => h)
    ((repeat refine WC.seq ?_); refine WC.run ?_)
    (try simp only [wk, wl, wx, reduceLT, reduceEqDiff, Nat.reduceBEq, reduceIte, tb, tc])
    (repeat refine WC.seq ?_)
    by_cases hlt : i < o1.syms.length
    · refine WC.cond (b := true) (by (try simp only [wk, wl, wx, reduceLT, reduceEqDiff, Nat.reduceBEq, reduceIte]); (try simp); (try omega)) (WC.skip ?_)
      (try simp only [wk, wl, wx, reduceLT, reduceEqDiff, Nat.reduceBEq, reduceIte])
      have hlt' : i < o2.syms.length := by omega
      obtain ⟨p, p1, p2⟩ := oh1.syms.at (fun _ => rfl) ty32 rfl ty92 rfl (by decide) rfl hlt
      have p2 := p2 hh fun _ _ _ _ _ => rfl
      (repeat refine WC.seq ?_)
      refine WC.block ?_
      ((repeat refine WC.seq ?_); refine WC.run ?_)
      (try simp only [wk, wl, wx, reduceLT, reduceEqDiff, Nat.reduceBEq, reduceIte, ta, tc, p1, p2])
      refine wop_alloc ty92 ?_
      intro h5 b5 n5 f5
      (try simp only [wk, wl, wx, reduceLT, reduceEqDiff, Nat.reduceBEq, reduceIte])
      refine sat_store b5 ty92 rfl (by decide) rfl ?_
      intro h6 b6 n6 f6
      have b6 : Has h6 hh.next (symV o1.syms[i]) := b6
      have F6 : Fix (· < hh.next) hh h6 := ⟨by omega, fun c hc => by rw [f6.same c (by omega), f5.same c (by omega)]⟩
      have o62 := oh2.fix F6 (fun b hb => by omega)
      have b62 := bh.fix F6 (by omega)
      obtain ⟨q, q1, q2⟩ := o62.syms.at (fun _ => rfl) ty23 rfl ty89 rfl (by decide) rfl hlt'
      have q2 := q2 h6 fun _ _ _ _ _ => rfl
      have l6 : loadP (E g) h6 92 (.ptr hh.next 0) = some (.agg (symV o1.syms[i])) := b6.agg ty92 rfl (show 0 + 5 ≤ (symV o1.syms[i]).length from Nat.le_refl 5)
      (try simp only [wk, wl, wx, reduceLT, reduceEqDiff, Nat.reduceBEq, reduceIte])
      ((repeat refine WC.seq ?_); refine WC.draw (plans := pl15_6) (by kernel_rfl) ?_; simp only [pl15_6, List.mem_cons, List.not_mem_nil, or_false, forall_eq_or_imp, forall_eq])
      (try simp (maxSteps := 2000000) only [wk, wl, wx, reduceLT, reduceEqDiff, Nat.reduceBEq, reduceIte, wd, Chk, and_true, true_and, t3, fa27_3, Nat.zero_add, b62.at ty23 rfl, q1, q2, l6, neq95])
      (repeat refine WC.seq ?_)
      by_cases hc : o1.syms[i] = o2.syms[i]
      · refine WC.cond (b := false) (by (try simp only [wk, wl, wx, reduceLT, reduceEqDiff, Nat.reduceBEq, reduceIte]); simp [hc]) (WC.skip ?_)
        (try simp only [wk, wl, wx, reduceLT, reduceEqDiff, Nat.reduceBEq, reduceIte])
        ((repeat refine WC.seq ?_); refine WC.run ?_)
        (try simp only [wk, wl, wx, reduceLT, reduceEqDiff, Nat.reduceBEq, reduceIte, tc, bin_add])
        refine ⟨_, ?_, _, i + 1, rfl, ⟨by omega, fun b hb => by rw [F6.same b (by omega), ff.same b hb]⟩, rfl, by omega, ?_⟩
        · omega
        (try simp only [wk, wl, wx, reduceLT, reduceEqDiff, Nat.reduceBEq, reduceIte, t2, t3, ta, tb])
        refine ⟨trivial, trivial, trivial, trivial, ?_, ?_⟩
        · rw [wrap64 (by omega) (by omega)]; rfl
        · rw [List.take_succ_eq_append_getElem hlt, List.take_succ_eq_append_getElem hlt', he, hc]
      · refine WC.cond (b := true) (by (try simp only [wk, wl, wx, reduceLT, reduceEqDiff, Nat.reduceBEq, reduceIte]); simp [hc]) ?_
        ((repeat refine WC.seq ?_); refine WC.run ?_)
        (try simp only [wk, wl, wx, reduceLT, reduceEqDiff, Nat.reduceBEq, reduceIte])
        refine WC.ret ?_
        (try simp only [wk, wl, wx, reduceLT, reduceEqDiff, Nat.reduceBEq, reduceIte])
        refine ⟨⟨false, rfl, by constructor <;> (intro q; first | (cases q; done) | (subst q; exact absurd rfl hc))⟩, Kh.trans (F6.sub fun b hb => by omega)⟩
    · refine WC.cond (b := false) (by (try simp only [wk, wl, wx, reduceLT, reduceEqDiff, Nat.reduceBEq, reduceIte]); (try simp); (try omega)) (WC.exit ?_)
      have : i = o1.syms.length := by omega
      subst this
      (try simp only [wk, wl, wx, reduceLT, reduceEqDiff, Nat.reduceBEq, reduceIte])
      have esy : o1.syms = o2.syms := by
        rw [List.take_length] at he
        rw [he, lsy, List.take_length]
      have Kq := Kh
      have hq' := hh
      have aq := ah
      have bq := bh
      have obq1 := oh1.up (K' := (· < hh.next)) (fun b hb => by omega)
      have obq2 := oh2.up (K' := (· < hh.next)) (fun b hb => by omega)
      ((repeat refine WC.seq ?_); refine WC.run ?_)
      (try simp only [wk, wl, wx, reduceLT, reduceEqDiff, Nat.reduceBEq, reduceIte, t2, fa35_4, Nat.zero_add, aq.at ty33 rfl, Sl.lenB obq1.rels ty33 rfl])
      (repeat refine WC.seq ?_)
      refine WC.block ?_
      refine WC.while (fun m fr hk => ∃ ts i, fr = ⟨ts, 97, [], 15, none⟩ ∧ Fix (· < hh.next) hh hk ∧ m = o1.rels.length - i ∧ i ≤ o1.rels.length ∧ ts.get 2 = some (.ptr h.next 0) ∧ ts.get 3 = some (.ptr h1.next 0) ∧ ts.get 82 = some c1.rels ∧ ts.get 83 = some (.int .i64 o1.rels.length) ∧ ts.get 84 = some (.int .i64 i) ∧ o1.rels.take i = o2.rels.take i) ?_ ⟨_, 0, rfl, Fix.refl _ _, rfl, by omega, ?_, ?_, ?_, ?_, ?_, rfl⟩
      · rintro m fr hk ⟨ts, i, rfl, ff, rfl, hi, t2, t3, ta, tb, tc, he⟩
        have xh := ff.next
        have Kh : Kept h hk := Kq.trans (ff.sub fun b hb => by omega)
        have ah := aq.fix ff (by omega)
        have bh := bq.fix ff (by omega)
        have oh1 := obq1.fix ff (fun _ h => h)
        have oh2 := obq2.fix ff (fun _ h => h)
        ((repeat refine WC.seq ?_); refine WC.run ?_)
        (try simp only [wk, wl, wx, reduceLT, reduceEqDiff, Nat.reduceBEq, reduceIte, tb, tc])
        (repeat refine WC.seq ?_)
        by_cases hlt : i < o1.rels.length
        · refine WC.cond (b := true) (by (try simp only [wk, wl, wx, reduceLT, reduceEqDiff, Nat.reduceBEq, reduceIte]); (try simp); (try omega)) (WC.skip ?_)
          (try simp only [wk, wl, wx, reduceLT, reduceEqDiff, Nat.reduceBEq, reduceIte])
          have hlt' : i < o2.rels.length := by omega
          obtain ⟨p, p1, p2⟩ := oh1.rels.at (fun _ => rfl) ty33 rfl ty93 rfl (by decide) rfl hlt
          have p2 := p2 hk fun _ _ _ _ _ => rfl
          (repeat refine WC.seq ?_)
          refine WC.block ?_
          ((repeat refine WC.seq ?_); refine WC.run ?_)
          (try simp only [wk, wl, wx, reduceLT, reduceEqDiff, Nat.reduceBEq, reduceIte, ta, tc, p1, p2])
          refine wop_alloc ty93 ?_
          intro h5 b5 n5 f5
          (try simp only [wk, wl, wx, reduceLT, reduceEqDiff, Nat.reduceBEq, reduceIte])
          refine sat_store b5 ty93 rfl (by decide) rfl ?_
          intro h6 b6 n6 f6
          have b6 : Has h6 hk.next (relV o1.rels[i]) := b6
          have F6 : Fix (· < hk.next) hk h6 := ⟨by omega, fun c hc => by rw [f6.same c (by omega), f5.same c (by omega)]⟩
          have o62 := oh2.fix F6 (fun b hb => by omega)
          have b62 := bh.fix F6 (by omega)
          obtain ⟨q, q1, q2⟩ := o62.rels.at (fun _ => rfl) ty24 rfl ty91 rfl (by decide) rfl hlt'
          have q2 := q2 h6 fun _ _ _ _ _ => rfl
          have l6 : loadP (E g) h6 93 (.ptr hk.next 0) = some (.agg (relV o1.rels[i])) := b6.agg ty93 rfl (show 0 + 5 ≤ (relV o1.rels[i]).length from Nat.le_refl 5)
          (try simp only [wk, wl, wx, reduceLT, reduceEqDiff, Nat.reduceBEq, reduceIte])
          ((repeat refine WC.seq ?_); refine WC.draw (plans := pl15_12) (by kernel_rfl) ?_; simp only [pl15_12, List.mem_cons, List.not_mem_nil, or_false, forall_eq_or_imp, forall_eq])
          (try simp (maxSteps := 2000000) only [wk, wl, wx, reduceLT, reduceEqDiff, Nat.reduceBEq, reduceIte, wd, Chk, and_true, true_and, t3, fa27_4, Nat.zero_add, b62.at ty24 rfl, q1, q2, l6, neq97])
          (repeat refine WC.seq ?_)
          by_cases hc : o1.rels[i] = o2.rels[i]
          · refine WC.cond (b := false) (by (try simp only [wk, wl, wx, reduceLT, reduceEqDiff, Nat.reduceBEq, reduceIte]); simp [hc]) (WC.skip ?_)
            (try simp only [wk, wl, wx, reduceLT, reduceEqDiff, Nat.reduceBEq, reduceIte])
            ((repeat refine WC.seq ?_); refine WC.run ?_)
            (try simp only [wk, wl, wx, reduceLT, reduceEqDiff, Nat.reduceBEq, reduceIte, tc, bin_add])
            refine ⟨_, ?_, _, i + 1, rfl, ⟨by omega, fun b hb => by rw [F6.same b (by omega), ff.same b hb]⟩, rfl, by omega, ?_⟩
            · omega
            (try simp only [wk, wl, wx, reduceLT, reduceEqDiff, Nat.reduceBEq, reduceIte, t2, t3, ta, tb])
            refine ⟨trivial, trivial, trivial, trivial, ?_, ?_⟩
            · rw [wrap64 (by omega) (by omega)]; rfl
            · rw [List.take_succ_eq_append_getElem hlt, List.take_succ_eq_append_getElem hlt', he, hc]
          · refine WC.cond (b := true) (by (try simp only [wk, wl, wx, reduceLT, reduceEqDiff, Nat.reduceBEq, reduceIte]); simp [hc]) ?_
            ((repeat refine WC.seq ?_); refine WC.run ?_)
            (try simp only [wk, wl, wx, reduceLT, reduceEqDiff, Nat.reduceBEq, reduceIte])
            refine WC.ret ?_
            (try simp only [wk, wl, wx, reduceLT, reduceEqDiff, Nat.reduceBEq, reduceIte])
            refine ⟨⟨false, rfl, by constructor <;> (intro q; first | (cases q; done) | (subst q; exact absurd rfl hc))⟩, Kh.trans (F6.sub fun b hb => by omega)⟩
        · refine WC.cond (b := false) (by (try simp only [wk, wl, wx, reduceLT, reduceEqDiff, Nat.reduceBEq, reduceIte]); (try simp); (try omega)) (WC.exit ?_)
          have : i = o1.rels.length := by omega
          subst this
          (try simp only [wk, wl, wx, reduceLT, reduceEqDiff, Nat.reduceBEq, reduceIte])
          have ere : o1.rels = o2.rels := by
            rw [List.take_length] at he
            rw [he, lre, List.take_length]
          ((repeat refine WC.seq ?_); refine WC.run ?_)
          (try simp only [wk, wl, wx, reduceLT, reduceEqDiff, Nat.reduceBEq, reduceIte])
          refine WC.ret ?_
          (try simp only [wk, wl, wx, reduceLT, reduceEqDiff, Nat.reduceBEq, reduceIte])
          exact ⟨⟨true, rfl, fun _ => eq_of_parts (by simpa using k1) (by simpa using k2) (by simpa using k3) (by simpa using k4) (by simpa using k5) esy ere, fun _ => rfl⟩, Kh⟩
      all_goals (try simp only [wk, wl, wx, reduceLT, reduceEqDiff, Nat.reduceBEq, reduceIte, t2, t3])
      all_goals (first | trivial | rfl | simp)
  all_goals (try simp only [wk, wl, wx, reduceLT, reduceEqDiff, Nat.reduceBEq, reduceIte, t2, t3])
  all_goals (first | trivial | rfl | simp)
end Go.Proofs.OP
