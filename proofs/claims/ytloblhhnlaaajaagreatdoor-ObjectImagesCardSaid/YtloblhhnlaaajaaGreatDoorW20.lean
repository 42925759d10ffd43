/- Walks: sealed, bits. -/
import Derived.Test.YtloblhhnlaaajaaGreatDoorW15
import Derived.Test.YtloblhhnlaaajaaGreatDoorW19
set_option linter.unusedVariables false
set_option linter.unusedSimpArgs false
set_option linter.defProp false
set_option linter.unusedSimpArgs false
namespace Go.Proofs.OP
open Go Go.Ev
open Go.Proofs
open Nat (reduceLT reduceEqDiff)
variable {g : T (List V)}

def sealB (xs : List UInt8) : List UInt8 := xs ++ leB (sumN xs % 4294967296) 4
set_option maxRecDepth 100000 in
set_option maxHeartbeats 4000000 in
theorem sealed_ok {h : H} {S : Nat → Prop} {wb : Nat} {xs : List UInt8} (w : Wr g h S wb xs) (hwb : wb < h.next) (hx : xs.length ≤ 2 ^ 38) :
    WF (E g) 51 [.ptr wb 0] h fun v h' => BufB g h' v (sealB xs) ∧ In (fun b => (S b ∨ h.next ≤ b) ∧ b ≠ wb ∧ b < h'.next) v ∧ Fix (fun b => b < h.next ∧ ¬ S b) h h' := by
  obtain ⟨s, a1, a2, a3⟩ := w
  refine WF.enter fn51 rfl ?_
  ((repeat refine WC.seq ?_); refine WC.run ?_)
  (try simp only [wk, wl, wx, reduceLT, reduceEqDiff, Nat.reduceBEq, reduceIte])
  ((repeat refine WC.seq ?_); refine WC.draw (plans := pl51_1) (by kernel_rfl) ?_; simp only [pl51_1, List.mem_cons, List.not_mem_nil, or_false, forall_eq_or_imp, forall_eq])
  (try simp (maxSteps := 2000000) only [wk, wl, wx, reduceLT, reduceEqDiff, Nat.reduceBEq, reduceIte, wd, Chk, and_true, true_and, fa181_0, Nat.zero_add, a1.at ty22 rfl])
  refine le_ok.mono fun v h1 ⟨e1, f1⟩ => ?_
  subst e1
  have x1 := f1.next
  have c1 := a1.fix f1 (by omega)
  have gr := BufB.kept a2 (a3.sub fun b hb => hb.2.2) f1
  (try simp (maxSteps := 2000000) only [wk, wl, wx, reduceLT, reduceEqDiff, Nat.reduceBEq, reduceIte, wd, Chk, and_true, true_and, fa181_0, Nat.zero_add, c1.at ty22 rfl])
  refine (sum_ok gr.buf.sl (by omega)).mono fun v h2 ⟨e2, e2'⟩ => ?_
  subst e2 e2'
  (try simp (maxSteps := 2000000) only [wk, wl, wx, reduceLT, reduceEqDiff, Nat.reduceBEq, reduceIte, wd, Chk, and_true, true_and, fa181_0, Nat.zero_add, c1.at ty22 rfl])
  refine (app32_ok gr.buf gr.low (Nat.mod_lt _ (by decide)) (by omega)).mono fun v h3 g3 => ?_
  have g3' := gr.trans g3
  (try simp (maxSteps := 2000000) only [wk, wl, wx, reduceLT, reduceEqDiff, Nat.reduceBEq, reduceIte, wd, Chk, and_true, true_and])
  refine WC.ret ?_
  (try simp only [wk, wl, wx, reduceLT, reduceEqDiff, Nat.reduceBEq, reduceIte])
  refine ⟨g3'.buf, fun b o n c e => ?_, ⟨g3'.fix.next, fun c hc => g3'.fix.same c ⟨hc.1, fun o m cc e => hc.2 (a3 _ _ _ _ e).1⟩⟩⟩
  have q1 := g3'.low _ _ _ _ e
  rcases g3'.own _ _ _ _ e with q | ⟨o, k, c, q⟩
  · exact ⟨.inr q, by omega, q1⟩
  · have := a3 _ _ _ _ q; exact ⟨.inl this.1, this.2.1, q1⟩
end Go.Proofs.OP

set_option linter.unusedSimpArgs false
namespace Go.Proofs.OP
open Go Go.Ev
open Go.Proofs
open Nat (reduceLT reduceEqDiff)
variable {g : T (List V)}

def magB : Nat → List UInt8
  | 0 => [79, 66, 74, 49]
  | _ => [73, 77, 71, 49]
def magG : List V := (magB 0 ++ magB 1).map u8
theorem E_globs : (E g).globs = g := by unfold E envOf2; rfl
theorem mag_sl {h : H} {k : Nat} (hg : g.get 0 = some magG) (hk : k < 2) : Bs g h (.gsl ⟨0, 0 + k * 4, none⟩ 4 4) (magB k) := by
  have e : (magB k).length = 4 := by match k, hk with | 0, _ => rfl | 1, _ => rfl
  refine ⟨by rw [e]; rfl, ?_, (fun _ e => by cases e), (fun _ _ _ _ e => by cases e), (fun _ _ _ e => by injection e; omega)⟩
  rw [e]
  simp only [srcCells, ble_true (Nat.le_refl 4), cond_true, takeG, E_globs, hg]
  match k, hk with
  | 0, _ => rfl
  | 1, _ => rfl
theorem idx200 {k : Nat} (hk : k < 2) : indexAddrV (E g) 179 (.gp 0 0) (.int .i64 k) = some (.gp 0 (0 + k * 4)) := by
  simp only [indexAddrV, ty179, natOf_nat, blt_true hk, cond_true, sizeOf_of ty178, Option.map_some]
theorem slice199 {o : Nat} : sliceV (E g) 178 (.gp 0 o) none none none = some (.gsl ⟨0, o, none⟩ 4 4) := by
  simp only [sliceV, ty178, sizeOf_of ty5]
  rfl
theorem build202 {s : V} (hs : s.cells = [s]) : buildV (E g) 181 [(0, s)] = some (.agg [s]) := by
  simp only [buildV, ty181, fillAll, nth, sizeOf_of ty22, hs, List.all_cons, List.all_nil, ty22, Option.isSome_some, Bool.and_true, Bool.not_true, cond_false]
  rfl

set_option maxRecDepth 100000 in
set_option maxHeartbeats 4000000 in
theorem begin_ok {h : H} {k : Nat} (hg : g.get 0 = some magG) (hk : k < 2) : WF (E g) 46 [.int .i64 k] h fun v h' => ∃ wb, v = .ptr wb 0 ∧ h.next ≤ wb ∧ wb < h'.next ∧ Wr g h' (fun b => h.next ≤ b) wb (magB k) ∧ Kept h h' := by
  refine WF.enter fn46 rfl ?_
  ((repeat refine WC.seq ?_); refine WC.run ?_)
  (try simp only [wk, wl, wx, reduceLT, reduceEqDiff, Nat.reduceBEq, reduceIte])
  ((repeat refine WC.seq ?_); refine WC.run ?_)
  (try simp only [wk, wl, wx, reduceLT, reduceEqDiff, Nat.reduceBEq, reduceIte, idx200 hk, slice199])
  refine (clone_ok (mag_sl hg hk) In.gsl (by match k, hk with | 0, _ => decide | 1, _ => decide)).mono fun v h1 o => ?_
  obtain ⟨o1, o2, o3, o4⟩ := o
  have x1 := o3.next
  (try simp only [wk, wl, wx, reduceLT, reduceEqDiff, Nat.reduceBEq, reduceIte, build202 o1.sl.one.1])
  refine wop_box (v := .agg [v]) (by (try simp only [wk, wl, wx, reduceLT, reduceEqDiff, Nat.reduceBEq, reduceIte])) ?_
  intro h2 b2 n2 f2
  (try simp only [wk, wl, wx, reduceLT, reduceEqDiff, Nat.reduceBEq, reduceIte])
  refine WC.ret ?_
  (try simp only [wk, wl, wx, reduceLT, reduceEqDiff, Nat.reduceBEq, reduceIte])
  refine ⟨_, rfl, by omega, by omega, ⟨v, b2, o1.fix (K := (· < h1.next)) o2 f2, fun b o n c e => ?_⟩, o3.trans (f2.sub fun b hb => by omega)⟩
  have := o2 _ _ _ _ e
  exact ⟨o4 _ _ _ _ e, by omega, by omega⟩

def bitsI (a b : Bool) : Int := (if a then 1 else 0) + (if b then 2 else 0)
abbrev Sx (n0 m q : Nat) : Nat → Prop := fun b => n0 ≤ b ∧ b < m ∧ b ≠ q
theorem texts1_ok {h h1 : H} {n0 q wb : Nat} {xs : List UInt8} {ls : V} {L : List (List UInt8)} (w : Wr g h (Sx n0 h.next q) wb xs) (hwb : n0 ≤ wb) (hwb2 : wb < h.next) (hq : q < h.next) (f1 : Fix (· < h.next) h h1) (hl : Ss g h1 ls L) (hin : In (fun b => b < h1.next ∧ b ≠ wb ∧ (b < n0 ∨ h.next ≤ b ∨ b = q)) ls)
    (hb : ∀ p ∈ L, p.length ≤ 2 ^ 20) (hL : L.length ≤ 2 ^ 12) (hx : xs.length ≤ 2 ^ 36) :
    WF (E g) 47 [.ptr wb 0, ls] h1 fun _ h' => Wr g h' (Sx n0 h'.next q) wb (xs ++ txtB L) ∧ Fix (fun b => b < h.next ∧ (b < n0 ∨ b = q) ∧ b ≠ wb) h h' := by
  have x1 := f1.next
  refine (texts_ok (w.fix f1 hwb2 fun b hb _ => hb) (by omega) hl (hin.sub fun b hb => ⟨hb.1, hb.2.1, fun hs => by omega⟩) hb (fun b hs => by omega) hL hx).mono fun v h' ⟨w2, f2⟩ => ?_
  exact ⟨w2.sub fun b hb hs => ⟨by omega, hb, by omega⟩, ⟨by have := f2.next; omega, fun b hb => by rw [f2.same b ⟨by omega, hb.2.2, fun hs => by omega⟩, f1.same b hb.1]⟩⟩
theorem bytes1_ok {h h1 : H} {n0 q wb : Nat} {xs : List UInt8} {ls : V} {L : List (V × List UInt8)} (w : Wr g h (Sx n0 h.next q) wb xs) (hwb : n0 ≤ wb) (hwb2 : wb < h.next) (hq : q < h.next) (f1 : Fix (· < h.next) h h1) (hl : Vs (E g) h1 (fun p => p.1) ls L) (hin : In (fun b => b < h1.next ∧ b ≠ wb ∧ (b < n0 ∨ h.next ≤ b ∨ b = q)) ls)
    (hb : ∀ p ∈ L, Bs g h1 p.1 p.2 ∧ In (fun b => b < h1.next ∧ b ≠ wb ∧ (b < n0 ∨ h.next ≤ b ∨ b = q)) p.1 ∧ p.2.length ≤ 2 ^ 30) (hL : L.length ≤ 64) (hx : xs.length ≤ 2 ^ 37) :
    WF (E g) 48 [.ptr wb 0, ls] h1 fun _ h' => Wr g h' (Sx n0 h'.next q) wb (xs ++ bytB L) ∧ Fix (fun b => b < h.next ∧ (b < n0 ∨ b = q) ∧ b ≠ wb) h h' := by
  have x1 := f1.next
  refine (bytes_ok (w.fix f1 hwb2 fun b hb _ => hb) (by omega) hl (hin.sub fun b hb => ⟨hb.1, hb.2.1, fun hs => by omega⟩) (fun p hp => ⟨(hb p hp).1, (hb p hp).2.1.sub fun b hb => ⟨hb.1, hb.2.1, fun hs => by omega⟩, (hb p hp).2.2⟩) (fun b hs => by omega) hL hx).mono fun v h' ⟨w2, f2⟩ => ?_
  exact ⟨w2.sub fun b hb hs => ⟨by omega, hb, by omega⟩, ⟨by have := f2.next; omega, fun b hb => by rw [f2.same b ⟨by omega, hb.2.2, fun hs => by omega⟩, f1.same b hb.1]⟩⟩
theorem numbers1_ok {h h1 : H} {n0 q wb : Nat} {xs : List UInt8} {ls : V} {L : List Int} (w : Wr g h (Sx n0 h.next q) wb xs) (hwb : n0 ≤ wb) (hwb2 : wb < h.next) (hq : q < h.next) (f1 : Fix (· < h.next) h h1) (hl : Is g h1 ls L) (hin : In (fun b => b < h1.next ∧ b ≠ wb ∧ (b < n0 ∨ h.next ≤ b ∨ b = q)) ls)
    (hx : xs.length + 8 * L.length ≤ 2 ^ 38) :
    WF (E g) 49 [.ptr wb 0, ls] h1 fun _ h' => Wr g h' (Sx n0 h'.next q) wb (xs ++ numB L) ∧ Fix (fun b => b < h.next ∧ (b < n0 ∨ b = q) ∧ b ≠ wb) h h' := by
  have x1 := f1.next
  refine (numbers_ok (w.fix f1 hwb2 fun b hb _ => hb) (by omega) hl (hin.sub fun b hb => ⟨hb.1, hb.2.1, fun hs => by omega⟩) hx).mono fun v h' ⟨w2, f2⟩ => ?_
  exact ⟨w2.sub fun b hb hs => ⟨by omega, hb, by omega⟩, ⟨by have := f2.next; omega, fun b hb => by rw [f2.same b ⟨by omega, hb.2.2, fun hs => by omega⟩, f1.same b hb.1]⟩⟩
end Go.Proofs.OP

set_option linter.unusedSimpArgs false
namespace Go.Proofs.OP
open Go Go.Ev
open Go.Proofs
open Nat (reduceLT reduceEqDiff)
variable {g : T (List V)}

theorem E_eqs : (E g).eqs = es := by unfold E envOf2; rfl
theorem Bs.upto {h : H} {s : V} {xs : List UInt8} (a : Bs g h s xs) {n : Nat} (hn : n ≤ xs.length) :
    ∃ s', sliceV (E g) 22 s none (some (.int .i64 n)) none = some s' ∧ Bs g h s' (xs.take n) ∧ (∀ K, In K s → In K s') := by
  obtain ⟨s', h1, h2, h3, _⟩ := Sl.sub a ty22 rfl (sizeOf_of ty5) (lo := none) (hi := some n) (l := 0) (r := n) rfl rfl (Nat.zero_le _) hn
  refine ⟨s', h1, ?_, h3⟩
  have e : (xs.take n).length = n := by simp; omega
  unfold Bs
  rw [e, List.map_take]
  simpa using h2
theorem Bs.from {h : H} {s : V} {xs : List UInt8} (a : Bs g h s xs) {n : Nat} (hn : n ≤ xs.length) :
    ∃ s', sliceV (E g) 22 s (some (.int .i64 n)) none none = some s' ∧ Bs g h s' (xs.drop n) ∧ (∀ K, In K s → In K s') := by
  obtain ⟨s', h1, h2, h3, _⟩ := Sl.sub a ty22 rfl (sizeOf_of ty5) (lo := some n) (hi := none) (l := n) (r := xs.length) rfl rfl hn (Nat.le_refl _)
  refine ⟨s', h1, ?_, h3⟩
  have e : (xs.drop n).length = xs.length - n := by simp
  unfold Bs
  rw [e, List.map_drop]
  have e2 : ((xs.map u8).drop (n * 1)).take ((xs.length - n) * 1) = (xs.map u8).drop n := by
    rw [Nat.mul_one, Nat.mul_one, List.take_of_length_le (by simp)]
  rw [e2] at h2
  exact h2
theorem Bs.part {h : H} {s : V} {xs : List UInt8} (a : Bs g h s xs) {l r : Nat} (h1 : l ≤ r) (h2 : r ≤ xs.length) :
    ∃ s', sliceV (E g) 22 s (some (.int .i64 l)) (some (.int .i64 r)) none = some s' ∧ Bs g h s' ((xs.take r).drop l) ∧ (∀ K, In K s → In K s') := by
  obtain ⟨s', e1, e2, e3, _⟩ := Sl.sub a ty22 rfl (sizeOf_of ty5) (lo := some l) (hi := some r) (l := l) (r := r) rfl rfl h1 h2
  refine ⟨s', e1, ?_, e3⟩
  have e : ((xs.take r).drop l).length = r - l := by simp; omega
  unfold Bs
  rw [e, List.map_drop, List.map_take, List.drop_take]
  simpa using e2

def I64 (n : Nat) : Int := IntKind.i64.wrap n
structure RdS where
  xs : List UInt8
  bad : Bool
@[irreducible] def numR (s : RdS) : Int × RdS := if s.xs.length < 8 then (0, ⟨s.xs, true⟩) else (I64 (leN (s.xs.take 8)), ⟨s.xs.drop 8, s.bad⟩)
@[irreducible] def bytR (s : RdS) : List UInt8 × RdS := if (numR s).1 < 0 ∨ ((numR s).2.xs.length : Int) < (numR s).1 then ([], ⟨(numR s).2.xs, true⟩) else ((numR s).2.xs.take (numR s).1.toNat, ⟨(numR s).2.xs.drop (numR s).1.toNat, (numR s).2.bad⟩)
theorem numR_le (s : RdS) : (numR s).2.xs.length ≤ s.xs.length := by unfold numR; split <;> simp
theorem bytR_le (s : RdS) : (bytR s).2.xs.length ≤ s.xs.length := by
  have := numR_le s
  unfold bytR; split
  · exact this
  · simp; omega
theorem bytR_out (s : RdS) : (bytR s).1.length ≤ s.xs.length := by
  have := numR_le s
  unfold bytR; split
  · simp
  · simp; omega

def Rd (g : T (List V)) (h : H) (K : Nat → Prop) (rb : Nat) (s : RdS) : Prop := ∃ bs, Has h rb [bs, .bool s.bad] ∧ Bs g h bs s.xs ∧ In K bs
theorem Rd.fix {h h' : H} {K K' : Nat → Prop} {rb : Nat} {s : RdS} (r : Rd g h K rb s) (f : Fix K' h h') (hrb : K' rb) (hK : ∀ b, K b → K' b) : Rd g h' K rb s := by
  obtain ⟨bs, a1, a2, a3⟩ := r
  exact ⟨bs, a1.fix f hrb, Sl.fix a2 (a3.sub hK) f, a3⟩

set_option maxRecDepth 100000 in
set_option maxHeartbeats 4000000 in
theorem number_ok {h : H} {K : Nat → Prop} {rb : Nat} {s : RdS} (r : Rd g h K rb s) (hK : ¬ K rb) (hKn : ∀ b, K b → b < h.next) (hrb : rb < h.next) (hx : s.xs.length < 2 ^ 39) :
    WF (E g) 61 [.ptr rb 0] h fun v h' => v = i64 (numR s).1 ∧ Rd g h' K rb (numR s).2 ∧ Fix (fun b => b < h.next ∧ b ≠ rb) h h' := by
  obtain ⟨bs, a1, a2, a3⟩ := r
  have hKb : ∀ b, K b → b ≠ rb := fun b hb e => hK (e ▸ hb)
  refine WF.enter fn61 rfl ?_
  ((repeat refine WC.seq ?_); refine WC.run ?_)
  (try simp only [wk, wl, wx, reduceLT, reduceEqDiff, Nat.reduceBEq, reduceIte])
  ((repeat refine WC.seq ?_); refine WC.run ?_)
  (try simp only [wk, wl, wx, reduceLT, reduceEqDiff, Nat.reduceBEq, reduceIte, fa125_0, Nat.zero_add, a1.at ty22 rfl, Bs.len a2])
  (repeat refine WC.seq ?_)
  by_cases hlt : s.xs.length < 8
  · refine WC.cond (b := true) (by (try simp only [wk, wl, wx, reduceLT, reduceEqDiff, Nat.reduceBEq, reduceIte]); (try simp); (try omega)) ?_
    ((repeat refine WC.seq ?_); refine WC.run ?_)
    (try simp only [wk, wl, wx, reduceLT, reduceEqDiff, Nat.reduceBEq, reduceIte, fa125_1, Nat.zero_add])
    refine sat_store a1 ty4 rfl (Nat.le_refl 2) rfl ?_
    intro h1 b1 n1 f1
    (try simp only [wk, wl, wx, reduceLT, reduceEqDiff, Nat.reduceBEq, reduceIte])
    ((repeat refine WC.seq ?_); refine WC.run ?_)
    (try simp only [wk, wl, wx, reduceLT, reduceEqDiff, Nat.reduceBEq, reduceIte])
    refine WC.ret ?_
    (try simp only [wk, wl, wx, reduceLT, reduceEqDiff, Nat.reduceBEq, reduceIte])
    refine ⟨by simp [numR, hlt, i64], ⟨bs, ?_, ?_, a3⟩, f1.sub fun b hb => hb.2⟩
    · simp only [numR, if_pos hlt]; exact b1
    · simp only [numR, if_pos hlt]; exact Sl.fix a2 (a3.sub hKb) f1
  · refine WC.cond (b := false) (by (try simp only [wk, wl, wx, reduceLT, reduceEqDiff, Nat.reduceBEq, reduceIte]); (try simp); (try omega)) (WC.skip ?_)
    (try simp only [wk, wl, wx, reduceLT, reduceEqDiff, Nat.reduceBEq, reduceIte])
    ((repeat refine WC.seq ?_); refine WC.draw (plans := pl61_4) (by kernel_rfl) ?_; simp only [pl61_4, List.mem_cons, List.not_mem_nil, or_false, forall_eq_or_imp, forall_eq])
    (try simp (maxSteps := 2000000) only [wk, wl, wx, reduceLT, reduceEqDiff, Nat.reduceBEq, reduceIte, wd, Chk, and_true, true_and, fa125_0, Nat.zero_add, a1.at ty22 rfl])
    refine le_ok.mono fun v h1 ⟨e1, f1⟩ => ?_
    subst e1
    have x1 := f1.next
    have c1 := a1.fix f1 hrb
    have d1 : Bs g h1 bs s.xs := Sl.fix a2 (a3.sub hKn) f1
    (try simp (maxSteps := 2000000) only [wk, wl, wx, reduceLT, reduceEqDiff, Nat.reduceBEq, reduceIte, wd, Chk, and_true, true_and, fa125_0, Nat.zero_add, c1.at ty22 rfl])
    refine (u64_ok d1 (a3.sub fun b hb => by have := hKn b hb; omega) (by omega)).mono fun v h2 ⟨e2, f2⟩ => ?_
    subst e2
    have x2 := f2.next
    have c2 := c1.fix f2 (by omega)
    have d2 : Bs g h2 bs s.xs := Sl.fix d1 (a3.sub fun b hb => by have := hKn b hb; omega) f2
    (try simp (maxSteps := 2000000) only [wk, wl, wx, reduceLT, reduceEqDiff, Nat.reduceBEq, reduceIte, wd, Chk, and_true, true_and, conv_int ty188 ty2 rfl])
    ((repeat refine WC.seq ?_); refine WC.run ?_)
    obtain ⟨s', q1, q2, q3⟩ := Bs.from d2 (n := 8) (by omega)
    have q1 : sliceV (E g) 22 bs (some (.int .i64 8)) none none = some s' := q1
    (try simp only [wk, wl, wx, reduceLT, reduceEqDiff, Nat.reduceBEq, reduceIte, fa125_0, Nat.zero_add, c2.at ty22 rfl, q1])
    refine sat_store c2 ty22 (by rw [Sl.one q2 |>.1]; rfl) (by simp) (by rw [Sl.one q2 |>.1]; simp [Sl.one q2 |>.2]) ?_
    intro h3 b3 n3 f3
    rw [Sl.one q2 |>.1] at b3
    (try simp only [wk, wl, wx, reduceLT, reduceEqDiff, Nat.reduceBEq, reduceIte])
    ((repeat refine WC.seq ?_); refine WC.run ?_)
    (try simp only [wk, wl, wx, reduceLT, reduceEqDiff, Nat.reduceBEq, reduceIte])
    refine WC.ret ?_
    (try simp only [wk, wl, wx, reduceLT, reduceEqDiff, Nat.reduceBEq, reduceIte])
    refine ⟨by simp [numR, hlt, i64, I64], ⟨s', ?_, ?_, q3 _ a3⟩, ⟨by omega, fun b hb => by rw [f3.same b hb.2, f2.same b (by omega), f1.same b hb.1]⟩⟩
    · simp only [numR, if_neg hlt]; exact b3
    · simp only [numR, if_neg hlt]; exact Sl.fix q2 ((q3 _ a3).sub hKb) f3

def NewBs (g : T (List V)) (h h' : H) (v : V) (xs : List UInt8) : Prop := Bs g h' v xs ∧ In (fun b => h.next ≤ b ∧ b < h'.next) v
set_option maxRecDepth 100000 in
set_option maxHeartbeats 4000000 in
theorem rbytes_ok {h : H} {K : Nat → Prop} {rb : Nat} {s : RdS} (r : Rd g h K rb s) (hK : ¬ K rb) (hKn : ∀ b, K b → b < h.next) (hrb : rb < h.next) (hx : s.xs.length < 2 ^ 39) :
    WF (E g) 58 [.ptr rb 0] h fun v h' => NewBs g h h' v (bytR s).1 ∧ Rd g h' K rb (bytR s).2 ∧ Fix (fun b => b < h.next ∧ b ≠ rb) h h' := by
  have hKb : ∀ b, K b → b ≠ rb := fun b hb e => hK (e ▸ hb)
  have hle := numR_le s
  refine WF.enter fn58 rfl ?_
  ((repeat refine WC.seq ?_); refine WC.run ?_)
  (try simp only [wk, wl, wx, reduceLT, reduceEqDiff, Nat.reduceBEq, reduceIte])
  ((repeat refine WC.seq ?_); refine WC.run ?_)
  (try simp only [wk, wl, wx, reduceLT, reduceEqDiff, Nat.reduceBEq, reduceIte])
  refine (number_ok r hK hKn hrb hx).mono fun v h1 ⟨e1, r1, f1⟩ => ?_
  subst e1
  have x1 := f1.next
  obtain ⟨bs, a1, a2, a3⟩ := r1
  (try simp only [wk, wl, wx, reduceLT, reduceEqDiff, Nat.reduceBEq, reduceIte])
  ((repeat refine WC.seq ?_); refine WC.run ?_)
  generalize hn : (numR s).1 = n
  generalize ht : (numR s).2 = t at a1 a2 hle
  have hbyt : bytR s = if n < 0 ∨ (t.xs.length : Int) < n then ([], ⟨t.xs, true⟩) else (t.xs.take n.toNat, ⟨t.xs.drop n.toNat, t.bad⟩) := by rw [bytR, hn, ht]
  have short (hs : n < 0 ∨ (t.xs.length : Int) < n) : ∀ h2, Has h2 rb (over [bs, V.bool t.bad] 1 [V.bool true]) → h2.next = h1.next → Fix (· ≠ rb) h1 h2 → NewBs g h h2 .nils (bytR s).1 ∧ Rd g h2 K rb (bytR s).2 ∧ Fix (fun b => b < h.next ∧ b ≠ rb) h h2 := by
    intro h2 b2 n2 f2
    rw [hbyt, if_pos hs]
    exact ⟨⟨Sl.nil, In.nils⟩, ⟨bs, b2, Sl.fix a2 (a3.sub hKb) f2, a3⟩, ⟨by omega, fun b hb => by rw [f2.same b hb.2, f1.same b hb]⟩⟩
  rcases Decidable.em (n < 0) with h0 | h0
  · (try simp only [wk, wl, wx, reduceLT, reduceEqDiff, Nat.reduceBEq, reduceIte, i64, decide_eq_true h0, un])
    (repeat refine WC.seq ?_)
    refine WC.cond (b := true) (by (try simp only [wk, wl, wx, reduceLT, reduceEqDiff, Nat.reduceBEq, reduceIte]); (try simp); (try omega)) ?_
    ((repeat refine WC.seq ?_); refine WC.run ?_)
    (try simp only [wk, wl, wx, reduceLT, reduceEqDiff, Nat.reduceBEq, reduceIte, fa125_1, Nat.zero_add])
    refine sat_store a1 ty4 rfl (Nat.le_refl 2) rfl ?_
    intro h2 b2 n2 f2
    (try simp only [wk, wl, wx, reduceLT, reduceEqDiff, Nat.reduceBEq, reduceIte])
    ((repeat refine WC.seq ?_); refine WC.run ?_)
    (try simp only [wk, wl, wx, reduceLT, reduceEqDiff, Nat.reduceBEq, reduceIte])
    refine WC.ret ?_
    (try simp only [wk, wl, wx, reduceLT, reduceEqDiff, Nat.reduceBEq, reduceIte])
    exact short (.inl h0) h2 b2 n2 f2
  · (try simp only [wk, wl, wx, reduceLT, reduceEqDiff, Nat.reduceBEq, reduceIte, i64, decide_eq_false h0, un, fa125_0, Nat.zero_add, a1.at ty22 rfl, Bs.len a2])
    (repeat refine WC.seq ?_)
    rcases Decidable.em ((t.xs.length : Int) < n) with h9 | h9
    · refine WC.cond (b := true) (by (try simp only [wk, wl, wx, reduceLT, reduceEqDiff, Nat.reduceBEq, reduceIte]); (try simp); (try omega)) ?_
      ((repeat refine WC.seq ?_); refine WC.run ?_)
      (try simp only [wk, wl, wx, reduceLT, reduceEqDiff, Nat.reduceBEq, reduceIte, fa125_1, Nat.zero_add])
      refine sat_store a1 ty4 rfl (Nat.le_refl 2) rfl ?_
      intro h2 b2 n2 f2
      (try simp only [wk, wl, wx, reduceLT, reduceEqDiff, Nat.reduceBEq, reduceIte])
      ((repeat refine WC.seq ?_); refine WC.run ?_)
      (try simp only [wk, wl, wx, reduceLT, reduceEqDiff, Nat.reduceBEq, reduceIte])
      refine WC.ret ?_
      (try simp only [wk, wl, wx, reduceLT, reduceEqDiff, Nat.reduceBEq, reduceIte])
      exact short (.inr h9) h2 b2 n2 f2
    · refine WC.cond (b := false) (by (try simp only [wk, wl, wx, reduceLT, reduceEqDiff, Nat.reduceBEq, reduceIte]); (try simp); (try omega)) (WC.skip ?_)
      (try simp only [wk, wl, wx, reduceLT, reduceEqDiff, Nat.reduceBEq, reduceIte])
      obtain ⟨k, rfl⟩ : ∃ k : Nat, n = (k : Int) := ⟨n.toNat, by omega⟩
      have hk : k ≤ t.xs.length := by omega
      have hbyt : bytR s = (t.xs.take k, ⟨t.xs.drop k, t.bad⟩) := by rw [hbyt, if_neg (by omega)]; simp
      ((repeat refine WC.seq ?_); refine WC.run ?_)
      obtain ⟨s', q1, q2, q3⟩ := Bs.upto a2 hk
      (try simp only [wk, wl, wx, reduceLT, reduceEqDiff, Nat.reduceBEq, reduceIte, fa125_0, Nat.zero_add, a1.at ty22 rfl, q1])
      have hKn1 : ∀ b, K b → b < h1.next := fun b hb => by have := hKn b hb; omega
      refine (clone_ok q2 ((q3 _ a3).sub hKn1) (by simp; omega)).mono fun v h2 ⟨o1, o2, o3, o4⟩ => ?_
      have x2 := o3.next
      have c2 := a1.fix o3 (by omega)
      have d2 : Bs g h2 bs t.xs := Sl.fix a2 (a3.sub hKn1) o3
      (try simp only [wk, wl, wx, reduceLT, reduceEqDiff, Nat.reduceBEq, reduceIte])
      ((repeat refine WC.seq ?_); refine WC.run ?_)
      obtain ⟨s3, p1, p2, p3⟩ := Bs.from d2 hk
      (try simp only [wk, wl, wx, reduceLT, reduceEqDiff, Nat.reduceBEq, reduceIte, fa125_0, Nat.zero_add, c2.at ty22 rfl, p1])
      refine sat_store c2 ty22 (by rw [Sl.one p2 |>.1]; rfl) (by simp) (by rw [Sl.one p2 |>.1]; simp [Sl.one p2 |>.2]) ?_
      intro h3 b3 n3 f3
      rw [Sl.one p2 |>.1] at b3
      (try simp only [wk, wl, wx, reduceLT, reduceEqDiff, Nat.reduceBEq, reduceIte])
      ((repeat refine WC.seq ?_); refine WC.run ?_)
      (try simp only [wk, wl, wx, reduceLT, reduceEqDiff, Nat.reduceBEq, reduceIte])
      refine WC.ret ?_
      (try simp only [wk, wl, wx, reduceLT, reduceEqDiff, Nat.reduceBEq, reduceIte])
      rw [hbyt]
      exact ⟨⟨(o1.fix (K := (· ≠ rb)) (o4.sub fun b hb => by omega) f3).sl, fun b o n c e => ⟨by have := o4 _ _ _ _ e; omega, by have := o2 _ _ _ _ e; omega⟩⟩, ⟨s3, b3, Sl.fix p2 ((p3 _ a3).sub hKb) f3, p3 _ a3⟩, ⟨by omega, fun b hb => by rw [f3.same b hb.2, o3.same b (by omega), f1.same b hb]⟩⟩

theorem conv_str {h : H} {s : V} {xs : List UInt8} (a : Bs g h s xs) : convV (E g) h 22 9 s = some (.str xs, h) := by
  have hc := a.cells
  have hl := Sl.len a
  have hu : ∀ ys : List UInt8, allU8 (ys.map u8) = some ys := fun ys => by
    induction ys with
    | nil => rfl
    | cons y r ih => simp [allU8, u8, asU8, ih]
  unfold srcCells at hc
  split at hc
  · simp only [lenV] at hl; injection hl with hl
    have : xs = [] := List.eq_nil_of_length_eq_zero hl.symm
    subst this
    simp only [convV, ty22, ty9, ty5]
  · rename_i b o m c
    simp only [lenV] at hl; injection hl with hl; subst hl
    simp only [convV, ty22, ty9, ty5]
    split
    · rename_i h0
      have : xs = [] := List.eq_nil_of_length_eq_zero h0
      subst this; rfl
    · rename_i h0
      have hb : Nat.beq (xs.length * 1) 0 = false := beq_false (fun e => h0 (by simpa using e))
      simp only [hb, cond_false] at hc
      obtain ⟨_, hc⟩ := bif_some hc
      split at hc
      · rw [Nat.mul_one] at hc
        simp only [hc, hu, Option.map_some]
      · cases hc
  · rename_i ad m c
    simp only [lenV] at hl; injection hl with hl; subst hl
    obtain ⟨_, hc⟩ := bif_some hc
    rw [Nat.mul_one] at hc
    simp only [convV, ty22, ty9, ty5, hc, hu, Option.map_some]
  · exact absurd rfl (Sl.slice a _)
  · cases hc
set_option maxRecDepth 100000 in
set_option maxHeartbeats 4000000 in
theorem rtext_ok {h : H} {K : Nat → Prop} {rb : Nat} {s : RdS} (r : Rd g h K rb s) (hK : ¬ K rb) (hKn : ∀ b, K b → b < h.next) (hrb : rb < h.next) (hx : s.xs.length < 2 ^ 39) :
    WF (E g) 57 [.ptr rb 0] h fun v h' => v = .str (bytR s).1 ∧ Rd g h' K rb (bytR s).2 ∧ Fix (fun b => b < h.next ∧ b ≠ rb) h h' := by
  refine WF.enter fn57 rfl ?_
  ((repeat refine WC.seq ?_); refine WC.run ?_)
  (try simp only [wk, wl, wx, reduceLT, reduceEqDiff, Nat.reduceBEq, reduceIte])
  ((repeat refine WC.seq ?_); refine WC.run ?_)
  (try simp only [wk, wl, wx, reduceLT, reduceEqDiff, Nat.reduceBEq, reduceIte])
  refine (rbytes_ok r hK hKn hrb hx).mono fun v h1 ⟨e1, r1, f1⟩ => ?_
  (try simp only [wk, wl, wx, reduceLT, reduceEqDiff, Nat.reduceBEq, reduceIte, conv_str e1.1])
  refine WC.ret ?_
  (try simp only [wk, wl, wx, reduceLT, reduceEqDiff, Nat.reduceBEq, reduceIte])
  exact ⟨by trivial, r1, f1⟩
theorem u32_neq {E : Env} {h : H} {c : Bool} {t : Nat} {a b : Nat} : binV E h c .neq t (.int .u32 a) (.int .u32 b) = some (.bool (decide (a ≠ b))) := by
  rw [bin_neq]
  congr 2
  by_cases e : a = b
  · subst e; simp
  · have : ((a : Int) == (b : Int)) = false := by simp; omega
    simp [bne, this, e]


def openE (k : Nat) (b : List UInt8) : Int :=
  if b.length < 8 ∨ leN (b.drop (b.length - 4)) ≠ sumN (b.take (b.length - 4)) % 4294967296 then 6
  else if b.take 4 ≠ magB k then 12 else 0
def inner (b : List UInt8) : List UInt8 := (b.take (b.length - 4)).drop 4
theorem elt4 {a b c d a' b' c' d' : UInt8} : eqElts (E g) (eqT (E g) 8) 5 1 [u8 a, u8 b, u8 c, u8 d] [u8 a', u8 b', u8 c', u8 d'] (List.range 4) = some (decide ([a, b, c, d] = [a', b', c', d'])) := by
  have e1 (x y : UInt8) : eqT (E g) 8 5 (u8 x) (u8 y) = some (decide (x = y)) := by
    simp only [eqT, ty5, u8, scalarEq, if_true]
    congr 2
    simp only [Int.natCast_inj, UInt8.toNat_inj]
  have hr : List.range 4 = [0, 1, 2, 3] := rfl
  rw [hr]
  simp only [eqElts, partV, ty5, TI.agg, cond_false, nth, e1]
  by_cases h0 : a = a'
  · by_cases h1 : b = b'
    · by_cases h2 : c = c'
      · by_cases h3 : d = d'
        · simp [h0, h1, h2, h3]
        · simp [h0, h1, h2, h3]
      · simp [h0, h1, h2]
    · simp [h0, h1]
  · simp [h0]
theorem neq199 {h : H} {c : Bool} {xs ys : List UInt8} (hx : xs.length = 4) (hy : ys.length = 4) : binV (E g) h c .neq 178 (.agg (xs.map u8)) (.agg (ys.map u8)) = some (.bool (decide (xs ≠ ys))) := by
  match xs, ys, hx, hy with
  | [a, b, c', d], [a', b', c'', d'], _, _ =>
    have : eqV (E g) h 178 (.agg [u8 a, u8 b, u8 c', u8 d]) (.agg [u8 a', u8 b', u8 c'', u8 d']) = some (decide ([a, b, c', d] = [a', b', c'', d'])) := by
      simp only [eqV, ty178, E_eqs, show es.contains 178 = true from rfl, cond_true, ty5]
      exact elt4
    simp only [binV, List.map_cons, List.map_nil, this, Option.map_some]
    congr 2
    simp
theorem arrayAt {b o n : Nat} {c : Cp} (hn : 4 ≤ n) : arrayAtV (E g) 178 (.slice b o n c) = some (.ptr b o) := by
  match n, hn with
  | n + 1, hn => simp only [arrayAtV, ty178, ble_true hn, cond_true]
end Go.Proofs.OP
