/- Walks: copies of lists, bytes put in place. Printed by genS1.py. -/
import Derived.Test.YtloblhhnlaaajaaGreatDoorV15
import Derived.Test.YtloblhhnlaaajaaGreatDoorV22
import Derived.Test.YtloblhhnlaaajaaGreatDoorV16
import Derived.Test.YtloblhhnlaaajaaGreatDoorV28
import Derived.Test.YtloblhhnlaaajaaGreatDoorV24
import Derived.Test.YtloblhhnlaaajaaGreatDoorV13
set_option linter.unusedVariables false
set_option linter.unusedSimpArgs false
set_option linter.defProp false
set_option linter.unusedSimpArgs false
namespace Go.Proofs.OP
open Go Go.Ev
open Go.Proofs
open Nat (reduceLT reduceEqDiff)
variable {g : T (List V)}

theorem all_flat {α : Type} {f : α → List V} (hf : ∀ x, (f x).all V.one = true) (L : List α) : (L.flatMap f).all V.one = true := by
 rw [List.all_eq_true]
 intro v hv
 obtain ⟨x, _, hx⟩ := List.mem_flatMap.1 hv
 exact List.all_eq_true.1 (hf x) v hx
abbrev OwnL (g : T (List V)) (e sz : Nat) (h h' : H) (v : V) (n : Nat) (vs : List V) : Prop := Buf (E g) h' e sz v n vs ∧ In (fun b => h.next ≤ b ∧ b < h'.next) v ∧ Kept h h'

set_option maxRecDepth 100000 in
set_option maxHeartbeats 4000000 in
theorem cloneE_ok {h : H} {s : V} {L : List ExpD} (hb : Sl (E g) h 2 s L.length (L.flatMap expV)) (hs : In (· < h.next) s) (hlen : L.length ≤ 2 ^ 34) : WF (E g) 123 [s] h fun v h' => OwnL g 137 2 h h' v L.length (L.flatMap expV) := by
 refine WF.enter fn123 rfl ?_
 ((repeat refine WC.seq ?_); refine WC.run ?_)
 (try simp only [wk, wl, wx, reduceLT, reduceEqDiff, Nat.reduceBEq, reduceIte])
 ((repeat refine WC.seq ?_); refine WC.run ?_)
 (try simp only [wk, wl, wx, reduceLT, reduceEqDiff, Nat.reduceBEq, reduceIte, eq_nils hb ty53 rfl])
 cases hn : isNils s with
 | true =>
  obtain ⟨rfl, h2, h3⟩ := isNils_empty hb hn
  (repeat refine WC.seq ?_)
  refine WC.cond (b := true) (by (try simp only [wk, wl, wx, reduceLT, reduceEqDiff, Nat.reduceBEq, reduceIte]); (try simp); (try omega)) ?_
  (try simp only [wk, wl, wx, reduceLT, reduceEqDiff, Nat.reduceBEq, reduceIte])
  ((repeat refine WC.seq ?_); refine WC.run ?_)
  (try simp only [wk, wl, wx, reduceLT, reduceEqDiff, Nat.reduceBEq, reduceIte])
  refine WC.ret ?_
  (try simp only [wk, wl, wx, reduceLT, reduceEqDiff, Nat.reduceBEq, reduceIte])
  refine ⟨?_, In.nils, Fix.refl _ _⟩
  rw [h2, h3]; exact .nil
 | false =>
  (repeat refine WC.seq ?_)
  refine WC.cond (b := false) (by (try simp only [wk, wl, wx, reduceLT, reduceEqDiff, Nat.reduceBEq, reduceIte]); (try simp); (try omega)) (WC.skip ?_)
  (try simp only [wk, wl, wx, reduceLT, reduceEqDiff, Nat.reduceBEq, reduceIte])
  ((repeat refine WC.seq ?_); refine WC.run ?_)
  (try simp only [wk, wl, wx, reduceLT, reduceEqDiff, Nat.reduceBEq, reduceIte])
  refine sat_slice0 ty53 rfl ty137 rfl (by decide) ?_
  intro h1 b1 n1 f1
  (try simp only [wk, wl, wx, reduceLT, reduceEqDiff, Nat.reduceBEq, reduceIte])
  have hb1 := hb.fix hs f1
  refine sat_grow b1 (fun b o n c e => by injection e with e; omega) ty53 rfl ty53 (.inl ⟨_, rfl⟩) ty137 rfl (by decide) (by decide) hb1.len hb1.cells (Sl.size hb1) (all_flat expV_one L) (by simp; omega) ?_
  intro s' h2 g2
  (try simp only [wk, wl, wx, reduceLT, reduceEqDiff, Nat.reduceBEq, reduceIte])
  refine WC.ret ?_
  (try simp only [wk, wl, wx, reduceLT, reduceEqDiff, Nat.reduceBEq, reduceIte])
  refine ⟨by simpa using g2.buf, fun b o n c e => ⟨?_, g2.low _ _ _ _ e⟩, ⟨by have := g2.fix.next; omega, fun c hc => ?_⟩⟩
  ·rcases g2.own _ _ _ _ e with q | ⟨o, k, c, q⟩
   ·omega
   ·injection q with q; omega
  ·rw [g2.fix.same c ⟨by omega, fun o m cc e => by injection e with e; omega⟩, f1.same c hc]

set_option maxRecDepth 100000 in
set_option maxHeartbeats 4000000 in
theorem cloneS_ok {h : H} {s : V} {L : List SlotD} (hb : Sl (E g) h 3 s L.length (L.flatMap slotV)) (hs : In (· < h.next) s) (hlen : L.length ≤ 2 ^ 34) : WF (E g) 124 [s] h fun v h' => OwnL g 138 3 h h' v L.length (L.flatMap slotV) := by
 refine WF.enter fn124 rfl ?_
 ((repeat refine WC.seq ?_); refine WC.run ?_)
 (try simp only [wk, wl, wx, reduceLT, reduceEqDiff, Nat.reduceBEq, reduceIte])
 ((repeat refine WC.seq ?_); refine WC.run ?_)
 (try simp only [wk, wl, wx, reduceLT, reduceEqDiff, Nat.reduceBEq, reduceIte, eq_nils hb ty54 rfl])
 cases hn : isNils s with
 | true =>
  obtain ⟨rfl, h2, h3⟩ := isNils_empty hb hn
  (repeat refine WC.seq ?_)
  refine WC.cond (b := true) (by (try simp only [wk, wl, wx, reduceLT, reduceEqDiff, Nat.reduceBEq, reduceIte]); (try simp); (try omega)) ?_
  (try simp only [wk, wl, wx, reduceLT, reduceEqDiff, Nat.reduceBEq, reduceIte])
  ((repeat refine WC.seq ?_); refine WC.run ?_)
  (try simp only [wk, wl, wx, reduceLT, reduceEqDiff, Nat.reduceBEq, reduceIte])
  refine WC.ret ?_
  (try simp only [wk, wl, wx, reduceLT, reduceEqDiff, Nat.reduceBEq, reduceIte])
  refine ⟨?_, In.nils, Fix.refl _ _⟩
  rw [h2, h3]; exact .nil
 | false =>
  (repeat refine WC.seq ?_)
  refine WC.cond (b := false) (by (try simp only [wk, wl, wx, reduceLT, reduceEqDiff, Nat.reduceBEq, reduceIte]); (try simp); (try omega)) (WC.skip ?_)
  (try simp only [wk, wl, wx, reduceLT, reduceEqDiff, Nat.reduceBEq, reduceIte])
  ((repeat refine WC.seq ?_); refine WC.run ?_)
  (try simp only [wk, wl, wx, reduceLT, reduceEqDiff, Nat.reduceBEq, reduceIte])
  refine sat_slice0 ty54 rfl ty138 rfl (by decide) ?_
  intro h1 b1 n1 f1
  (try simp only [wk, wl, wx, reduceLT, reduceEqDiff, Nat.reduceBEq, reduceIte])
  have hb1 := hb.fix hs f1
  refine sat_grow b1 (fun b o n c e => by injection e with e; omega) ty54 rfl ty54 (.inl ⟨_, rfl⟩) ty138 rfl (by decide) (by decide) hb1.len hb1.cells (Sl.size hb1) (all_flat slotV_one L) (by simp; omega) ?_
  intro s' h2 g2
  (try simp only [wk, wl, wx, reduceLT, reduceEqDiff, Nat.reduceBEq, reduceIte])
  refine WC.ret ?_
  (try simp only [wk, wl, wx, reduceLT, reduceEqDiff, Nat.reduceBEq, reduceIte])
  refine ⟨by simpa using g2.buf, fun b o n c e => ⟨?_, g2.low _ _ _ _ e⟩, ⟨by have := g2.fix.next; omega, fun c hc => ?_⟩⟩
  ·rcases g2.own _ _ _ _ e with q | ⟨o, k, c, q⟩
   ·omega
   ·injection q with q; omega
  ·rw [g2.fix.same c ⟨by omega, fun o m cc e => by injection e with e; omega⟩, f1.same c hc]

set_option maxRecDepth 100000 in
set_option maxHeartbeats 4000000 in
theorem cloneN_ok {h : H} {s : V} {L : List (List UInt8)} (hb : Sl (E g) h 1 s L.length (L.map V.str)) (hs : In (· < h.next) s) (hlen : L.length ≤ 2 ^ 34) : WF (E g) 125 [s] h fun v h' => OwnL g 9 1 h h' v L.length (L.map V.str) := by
 refine WF.enter fn125 rfl ?_
 ((repeat refine WC.seq ?_); refine WC.run ?_)
 (try simp only [wk, wl, wx, reduceLT, reduceEqDiff, Nat.reduceBEq, reduceIte])
 ((repeat refine WC.seq ?_); refine WC.run ?_)
 (try simp only [wk, wl, wx, reduceLT, reduceEqDiff, Nat.reduceBEq, reduceIte, eq_nils hb ty25 rfl])
 cases hn : isNils s with
 | true =>
  obtain ⟨rfl, h2, h3⟩ := isNils_empty hb hn
  (repeat refine WC.seq ?_)
  refine WC.cond (b := true) (by (try simp only [wk, wl, wx, reduceLT, reduceEqDiff, Nat.reduceBEq, reduceIte]); (try simp); (try omega)) ?_
  (try simp only [wk, wl, wx, reduceLT, reduceEqDiff, Nat.reduceBEq, reduceIte])
  ((repeat refine WC.seq ?_); refine WC.run ?_)
  (try simp only [wk, wl, wx, reduceLT, reduceEqDiff, Nat.reduceBEq, reduceIte])
  refine WC.ret ?_
  (try simp only [wk, wl, wx, reduceLT, reduceEqDiff, Nat.reduceBEq, reduceIte])
  refine ⟨?_, In.nils, Fix.refl _ _⟩
  rw [h2, h3]; exact .nil
 | false =>
  (repeat refine WC.seq ?_)
  refine WC.cond (b := false) (by (try simp only [wk, wl, wx, reduceLT, reduceEqDiff, Nat.reduceBEq, reduceIte]); (try simp); (try omega)) (WC.skip ?_)
  (try simp only [wk, wl, wx, reduceLT, reduceEqDiff, Nat.reduceBEq, reduceIte])
  ((repeat refine WC.seq ?_); refine WC.run ?_)
  (try simp only [wk, wl, wx, reduceLT, reduceEqDiff, Nat.reduceBEq, reduceIte])
  refine sat_slice0 ty25 rfl ty9 rfl (by decide) ?_
  intro h1 b1 n1 f1
  (try simp only [wk, wl, wx, reduceLT, reduceEqDiff, Nat.reduceBEq, reduceIte])
  have hb1 := hb.fix hs f1
  refine sat_grow b1 (fun b o n c e => by injection e with e; omega) ty25 rfl ty25 (.inl ⟨_, rfl⟩) ty9 rfl (by decide) (by decide) hb1.len hb1.cells (Sl.size hb1) (by simp [List.all_eq_true, V.one]) (by simp; omega) ?_
  intro s' h2 g2
  (try simp only [wk, wl, wx, reduceLT, reduceEqDiff, Nat.reduceBEq, reduceIte])
  refine WC.ret ?_
  (try simp only [wk, wl, wx, reduceLT, reduceEqDiff, Nat.reduceBEq, reduceIte])
  refine ⟨by simpa using g2.buf, fun b o n c e => ⟨?_, g2.low _ _ _ _ e⟩, ⟨by have := g2.fix.next; omega, fun c hc => ?_⟩⟩
  ·rcases g2.own _ _ _ _ e with q | ⟨o, k, c, q⟩
   ·omega
   ·injection q with q; omega
  ·rw [g2.fix.same c ⟨by omega, fun o m cc e => by injection e with e; omega⟩, f1.same c hc]

theorem over_snoc {cs ys : List V} {l : Nat} {c : V} (h : l + ys.length < cs.length) : over (over cs l ys) (l + ys.length) [c] = over cs l (ys ++ [c]) := by
 apply List.ext_getElem?
 intro j
 rw [over_get (by rw [over_length (by omega)]; simp; omega), over_get (by omega), over_get (by simp; omega)]
 simp only [List.length_cons, List.length_nil, List.length_append]
 by_cases h1 : l ≤ j ∧ j < l + ys.length
 ·rw [if_neg (by omega), if_pos h1, if_pos (by omega), List.getElem?_append_left (by omega)]
 ·by_cases h2 : j = l + ys.length
  ·subst h2
   rw [if_pos (by omega), if_pos (by omega), List.getElem?_append_right (by omega)]
   simp
  ·rw [if_neg (by omega), if_neg h1, if_neg (by omega)]
def putAt (xs : List UInt8) (l : Nat) (ys : List UInt8) : List UInt8 := xs.take l ++ ys ++ xs.drop (l + ys.length)
theorem putAt_over (xs : List UInt8) (l : Nat) (ys : List UInt8) : (putAt xs l ys).map u8 = over (xs.map u8) l (ys.map u8) := by
 simp [putAt, over, List.map_take, List.map_drop]
theorem putAt_length {xs : List UInt8} {l : Nat} {ys : List UInt8} (h : l + ys.length ≤ xs.length) : (putAt xs l ys).length = xs.length := by
 have := over_length (cs := xs.map u8) (vs := ys.map u8) (o := l) (by simpa using h)
 rw [← putAt_over] at this
 simpa using this
theorem idx_slice {t e b o n k : Nat} {c : Cp} {i ei : TI} {ik : IntKind} (ht : (E g).tys.get t = some i) (hd : i.desc = .slice e) (he : (E g).tys.get e = some ei) (hk : k < n) : indexAddrV (E g) t (.slice b o n c) (.int ik k) = some (.ptr b (o + k * ei.size)) := by
 have h1 : Nat.blt k n = true := blt_true hk
 simp only [indexAddrV, ht, natOf_nat, hd, h1, cond_true, sizeOf_of he, Option.map_some]

set_option maxRecDepth 100000 in
set_option maxHeartbeats 4000000 in
theorem bput_ok {h : H} {b l n' n k : Nat} {c' : Cp} {xs : List UInt8} (a : At h b 0 (xs.map u8)) (hl : l + k ≤ xs.length) (hk : k ≤ 8) (hn' : k ≤ n') (hn : n < 2 ^ 64) :
  WF (E g) 132 [.slice b l n' c', .int .u64 n, .int .i64 k] h fun _ h' => At h' b 0 ((putAt xs l (leB n k)).map u8) ∧ h'.next = h.next ∧ Fix (· ≠ b) h h' := by
 refine WF.enter fn132 rfl ?_
 ((repeat refine WC.seq ?_); refine WC.run ?_)
 (try simp only [wk, wl, wx, reduceLT, reduceEqDiff, Nat.reduceBEq, reduceIte])
 (repeat refine WC.seq ?_)
 refine WC.block ?_
 refine WC.while (fun m fr hh => ∃ ts i, fr = ⟨ts, 19, [], 132, none⟩ ∧ At hh b 0 ((putAt xs l (leB n i)).map u8) ∧ hh.next = h.next ∧ Fix (· ≠ b) h hh ∧ m = k - i ∧ i ≤ k ∧ ts.get 0 = some (.slice b l n' c') ∧ ts.get 1 = some (.int .u64 (n / 256 ^ i : Nat)) ∧ ts.get 7 = some (.int .i64 k) ∧ ts.get 8 = some (.int .i64 i)) ?_ ⟨_, 0, rfl, by simpa [leB, putAt] using a, rfl, Fix.refl _ _, rfl, by omega, ?_, ?_, ?_, ?_⟩
 ·rintro m fr hh ⟨ts, i, rfl, aa, hn1, ff, rfl, hi, t0, t1, t7, t8⟩
  ((repeat refine WC.seq ?_); refine WC.run ?_)
  (try simp only [wk, wl, wx, reduceLT, reduceEqDiff, Nat.reduceBEq, reduceIte, t7, t8])
  (repeat refine WC.seq ?_)
  by_cases hlt : i < k
  ·refine WC.cond (b := true) (by (try simp only [wk, wl, wx, reduceLT, reduceEqDiff, Nat.reduceBEq, reduceIte]); (try simp); (try omega)) (WC.skip ?_)
   (try simp only [wk, wl, wx, reduceLT, reduceEqDiff, Nat.reduceBEq, reduceIte])
   (repeat refine WC.seq ?_)
   refine WC.block ?_
   ((repeat refine WC.seq ?_); refine WC.run ?_)
   (try simp only [wk, wl, wx, reduceLT, reduceEqDiff, Nat.reduceBEq, reduceIte, t8])
   ((repeat refine WC.seq ?_); refine WC.run ?_)
   (try simp only [wk, wl, wx, reduceLT, reduceEqDiff, Nat.reduceBEq, reduceIte, t0, t1, conv_int ty188 ty5 rfl, wrapu8_nat, u8_ofNat, idx_slice ty22 rfl ty5 (show i < n' by omega), Nat.mul_one])
   have aa' := aa
   rw [putAt_over] at aa'
   have hlen := over_length (cs := xs.map u8) (vs := (leB n i).map u8) (o := l) (by simp [leB_length]; omega)
   rw [show l + i = 0 + (l + i) by omega]
   refine sat_storeA aa' (p := l + i) ty5 rfl (by rw [hlen]; simp; omega) rfl (by decide) ?_
   intro h2 a2 n2 f2
   have a2 : At h2 b 0 ((putAt xs l (leB n (i + 1))).map u8) := by
    rw [putAt_over, leB_snoc, List.map_append]
    have := over_snoc (cs := xs.map u8) (ys := (leB n i).map u8) (l := l) (c := u8 (UInt8.ofNat (n / 256 ^ i))) (by simp [leB_length]; omega)
    rw [List.map_cons, List.map_nil, ← this]
    rw [List.length_map, leB_length]
    exact a2
   (try simp only [wk, wl, wx, reduceLT, reduceEqDiff, Nat.reduceBEq, reduceIte])
   ((repeat refine WC.seq ?_); refine WC.run ?_)
   (try simp only [wk, wl, wx, reduceLT, reduceEqDiff, Nat.reduceBEq, reduceIte, t1, bin_shr (show (0 : Int) ≤ 8 by decide)])
   ((repeat refine WC.seq ?_); refine WC.run ?_)
   (try simp only [wk, wl, wx, reduceLT, reduceEqDiff, Nat.reduceBEq, reduceIte, t8, bin_add])
   refine ⟨_, ?_, _, i + 1, rfl, a2, by omega, ⟨by omega, fun c hc => by rw [f2.same c hc, ff.same c hc]⟩, rfl, by omega, ?_⟩
   ·omega
   (try simp only [wk, wl, wx, reduceLT, reduceEqDiff, Nat.reduceBEq, reduceIte, t0, t7])
   refine ⟨trivial, ?_, trivial, ?_⟩
   ·have e : (((n / 256 ^ i : Nat) : Int).fdiv (2 ^ (min (8 : Int).toNat IntKind.u64.bits))) = ((n / 256 ^ (i + 1) : Nat) : Int) := by
     have : ((2 : Int) ^ (min (8 : Int).toNat IntKind.u64.bits)) = ((256 : Nat) : Int) := by decide
     rw [this, fdiv_nat, Nat.pow_succ, Nat.div_div_eq_div_mul]
    rw [e]
   ·rw [wrap64 (by omega) (by omega)]; rfl
  ·refine WC.cond (b := false) (by (try simp only [wk, wl, wx, reduceLT, reduceEqDiff, Nat.reduceBEq, reduceIte]); (try simp); (try omega)) (WC.exit ?_)
   have : i = k := by omega
   subst this
   (try simp only [wk, wl, wx, reduceLT, reduceEqDiff, Nat.reduceBEq, reduceIte])
   exact ⟨aa, hn1, ff⟩
 all_goals (try simp only [wk, wl, wx, reduceLT, reduceEqDiff, Nat.reduceBEq, reduceIte])
 all_goals simp

set_option maxRecDepth 100000 in
set_option maxHeartbeats 4000000 in
theorem put64_ok {h : H} {b l n' n : Nat} {c' : Cp} {xs : List UInt8} (a : At h b 0 (xs.map u8)) (hb : b < h.next) (hl : l + 8 ≤ xs.length) (hn' : 8 ≤ n') (hn : n < 2 ^ 64) :
  WF (E g) 128 [.agg [], .slice b l n' c', .int .u64 n] h fun _ h' => At h' b 0 ((putAt xs l (leB n 8)).map u8) ∧ Fix (fun c => c < h.next ∧ c ≠ b) h h' := by
 refine WF.enter fn128 rfl ?_
 ((repeat refine WC.seq ?_); refine WC.run ?_)
 (try simp only [wk, wl, wx, reduceLT, reduceEqDiff, Nat.reduceBEq, reduceIte])
 refine wop_box (v := .agg []) (by (try simp only [wk, wl, wx, reduceLT, reduceEqDiff, Nat.reduceBEq, reduceIte])) ?_
 intro h1 b1 n1 f1
 (try simp only [wk, wl, wx, reduceLT, reduceEqDiff, Nat.reduceBEq, reduceIte])
 ((repeat refine WC.seq ?_); refine WC.run ?_)
 (try simp only [wk, wl, wx, reduceLT, reduceEqDiff, Nat.reduceBEq, reduceIte])
 refine (bput_ok (k := 8) (a.fix f1 hb) hl (by omega) hn' hn).mono fun v h2 ⟨a2, n2, f2⟩ => ?_
 (try simp only [wk, wl, wx, reduceLT, reduceEqDiff, Nat.reduceBEq, reduceIte])
 exact ⟨a2, ⟨by omega, fun c hc => by rw [f2.same c hc.2, f1.same c hc.1]⟩⟩
def faultV (p : Int × Int) : List V := [i64 p.1, i64 p.2]
theorem build73 {a b : Int} : buildV (E g) 73 [(0, .int .i64 a), (1, .int .i64 b)] = some (.agg [.int .i64 a, .int .i64 b]) := by
 simp only [buildV, ty73, fillAll, nth, sizeOf_of ty3, sizeOf_of ty30, List.all_cons, List.all_nil, ty3, ty30, Option.isSome_some, Bool.and_true, Bool.not_true, cond_false]
 rfl
theorem build73_0 : buildV (E g) 73 [] = some (.agg (faultV (0, 0))) := by
 simp only [buildV, ty73, fillAll, List.all_cons, List.all_nil, ty3, ty30, Option.isSome_some, Bool.and_true, Bool.not_true, cond_false]
 rfl

set_option maxRecDepth 100000 in
set_option maxHeartbeats 4000000 in
theorem bad_ok {h : H} {a b : Int} : WF (E g) 85 [.int .i64 a, .int .i64 b] h fun v h' => v = .agg (faultV (a, b)) ∧ Kept h h' := by
 refine WF.enter fn85 rfl ?_
 ((repeat refine WC.seq ?_); refine WC.run ?_)
 (try simp only [wk, wl, wx, reduceLT, reduceEqDiff, Nat.reduceBEq, reduceIte])
 refine wop_alloc ty73 ?_
 intro h1 b1 n1 f1
 (try simp only [wk, wl, wx, reduceLT, reduceEqDiff, Nat.reduceBEq, reduceIte])
 ((repeat refine WC.seq ?_); refine WC.run ?_)
 (try simp only [wk, wl, wx, reduceLT, reduceEqDiff, Nat.reduceBEq, reduceIte, build73])
 refine sat_store b1 ty73 rfl (Nat.le_refl 2) rfl ?_
 intro h2 b2 n2 f2
 have l2 : loadP (E g) h2 73 (.ptr h.next 0) = some (.agg (faultV (a, b))) := b2.agg ty73 rfl (Nat.le_refl 2)
 (try simp only [wk, wl, wx, reduceLT, reduceEqDiff, Nat.reduceBEq, reduceIte])
 refine WC.ret ?_
 (try simp only [wk, wl, wx, reduceLT, reduceEqDiff, Nat.reduceBEq, reduceIte, l2])
 exact ⟨by trivial, ⟨by omega, fun c hc => by rw [f2.same c (by omega), f1.same c hc]⟩⟩
end Go.Proofs.OP

namespace Go.Proofs.OP
open Go Go.Ev
def pl24_7 : List (List Stp) := [[⟨0, false, false, []⟩, ⟨1, false, true, []⟩, ⟨3, false, false, []⟩, ⟨5, false, false, []⟩, ⟨6, false, true, []⟩, ⟨2, true, false, [6]⟩, ⟨4, true, false, [6, 1]⟩, ⟨7, true, false, []⟩, ⟨8, true, false, []⟩, ⟨9, false, false, []⟩, ⟨10, false, false, []⟩, ⟨11, false, false, []⟩, ⟨12, true, false, [6, 1]⟩, ⟨13, true, false, []⟩, ⟨14, true, false, []⟩], [⟨0, false, false, []⟩, ⟨1, false, true, []⟩, ⟨3, false, false, []⟩, ⟨5, false, false, []⟩, ⟨6, false, true, []⟩, ⟨2, true, false, [6]⟩, ⟨4, true, false, [6, 1]⟩, ⟨7, true, false, []⟩, ⟨12, true, false, [6, 1]⟩, ⟨8, true, false, []⟩, ⟨9, false, false, []⟩, ⟨10, false, false, []⟩, ⟨11, false, false, []⟩, ⟨13, true, false, []⟩, ⟨14, true, false, []⟩], [⟨0, false, false, []⟩, ⟨1, false, true, []⟩, ⟨3, false, false, []⟩, ⟨5, false, false, []⟩, ⟨6, false, true, []⟩, ⟨2, true, false, [6]⟩, ⟨4, true, false, [6, 1]⟩, ⟨12, true, false, [6, 1]⟩, ⟨7, true, false, []⟩, ⟨8, true, false, []⟩, ⟨9, false, false, []⟩, ⟨10, false, false, []⟩, ⟨11, false, false, []⟩, ⟨13, true, false, []⟩, ⟨14, true, false, []⟩], [⟨0, false, false, []⟩, ⟨1, false, true, []⟩, ⟨3, false, false, []⟩, ⟨5, false, false, []⟩, ⟨6, false, true, []⟩, ⟨2, true, false, [6]⟩, ⟨12, true, false, [6, 1]⟩, ⟨4, true, false, [6, 1]⟩, ⟨7, true, false, []⟩, ⟨8, true, false, []⟩, ⟨9, false, false, []⟩, ⟨10, false, false, []⟩, ⟨11, false, false, []⟩, ⟨13, true, false, []⟩, ⟨14, true, false, []⟩], [⟨0, false, false, []⟩, ⟨1, false, true, []⟩, ⟨3, false, false, []⟩, ⟨5, false, false, []⟩, ⟨6, false, true, []⟩, ⟨4, true, false, [6, 1]⟩, ⟨2, true, false, [6]⟩, ⟨7, true, false, []⟩, ⟨8, true, false, []⟩, ⟨9, false, false, []⟩, ⟨10, false, false, []⟩, ⟨11, false, false, []⟩, ⟨12, true, false, [6, 1]⟩, ⟨13, true, false, []⟩, ⟨14, true, false, []⟩], [⟨0, false, false, []⟩, ⟨1, false, true, []⟩, ⟨3, false, false, []⟩, ⟨5, false, false, []⟩, ⟨6, false, true, []⟩, ⟨4, true, false, [6, 1]⟩, ⟨2, true, false, [6]⟩, ⟨7, true, false, []⟩, ⟨12, true, false, [6, 1]⟩, ⟨8, true, false, []⟩, ⟨9, false, false, []⟩, ⟨10, false, false, []⟩, ⟨11, false, false, []⟩, ⟨13, true, false, []⟩, ⟨14, true, false, []⟩], [⟨0, false, false, []⟩, ⟨1, false, true, []⟩, ⟨3, false, false, []⟩, ⟨5, false, false, []⟩, ⟨6, false, true, []⟩, ⟨4, true, false, [6, 1]⟩, ⟨2, true, false, [6]⟩, ⟨12, true, false, [6, 1]⟩, ⟨7, true, false, []⟩, ⟨8, true, false, []⟩, ⟨9, false, false, []⟩, ⟨10, false, false, []⟩, ⟨11, false, false, []⟩, ⟨13, true, false, []⟩, ⟨14, true, false, []⟩], [⟨0, false, false, []⟩, ⟨1, false, true, []⟩, ⟨3, false, false, []⟩, ⟨5, false, false, []⟩, ⟨6, false, true, []⟩, ⟨4, true, false, [6, 1]⟩, ⟨12, true, false, [6, 1]⟩, ⟨2, true, false, [6]⟩, ⟨7, true, false, []⟩, ⟨8, true, false, []⟩, ⟨9, false, false, []⟩, ⟨10, false, false, []⟩, ⟨11, false, false, []⟩, ⟨13, true, false, []⟩, ⟨14, true, false, []⟩], [⟨0, false, false, []⟩, ⟨1, false, true, []⟩, ⟨3, false, false, []⟩, ⟨5, false, false, []⟩, ⟨6, false, true, []⟩, ⟨12, true, false, [6, 1]⟩, ⟨2, true, false, [6]⟩, ⟨4, true, false, [6, 1]⟩, ⟨7, true, false, []⟩, ⟨8, true, false, []⟩, ⟨9, false, false, []⟩, ⟨10, false, false, []⟩, ⟨11, false, false, []⟩, ⟨13, true, false, []⟩, ⟨14, true, false, []⟩], [⟨0, false, false, []⟩, ⟨1, false, true, []⟩, ⟨3, false, false, []⟩, ⟨5, false, false, []⟩, ⟨6, false, true, []⟩, ⟨12, true, false, [6, 1]⟩, ⟨4, true, false, [6, 1]⟩, ⟨2, true, false, [6]⟩, ⟨7, true, false, []⟩, ⟨8, true, false, []⟩, ⟨9, false, false, []⟩, ⟨10, false, false, []⟩, ⟨11, false, false, []⟩, ⟨13, true, false, []⟩, ⟨14, true, false, []⟩]]
def pl24_9 : List (List Stp) := [[⟨0, false, false, []⟩, ⟨1, false, false, []⟩, ⟨2, false, true, []⟩, ⟨3, false, true, []⟩, ⟨4, true, false, [3, 2]⟩, ⟨5, true, false, [3, 2]⟩, ⟨6, true, false, [3]⟩, ⟨7, true, false, []⟩]]
def pl29_20 : List (List Stp) := [[⟨0, false, false, []⟩, ⟨1, false, false, []⟩, ⟨2, false, false, []⟩, ⟨3, false, true, []⟩, ⟨4, false, false, []⟩, ⟨5, false, true, []⟩, ⟨6, false, false, []⟩, ⟨7, false, false, []⟩, ⟨8, false, true, []⟩, ⟨9, false, false, []⟩, ⟨10, false, true, []⟩, ⟨11, true, false, []⟩]]
def pl75_3 : List (List Stp) := [[⟨0, false, true, []⟩, ⟨1, true, false, [0]⟩, ⟨2, true, false, []⟩]]
def pl75_18 : List (List Stp) := [[⟨0, false, false, []⟩, ⟨1, false, false, []⟩, ⟨2, false, false, []⟩, ⟨3, false, false, []⟩, ⟨4, false, true, []⟩, ⟨5, false, true, []⟩, ⟨6, false, true, []⟩, ⟨7, false, false, []⟩, ⟨8, false, true, []⟩, ⟨12, false, false, []⟩, ⟨13, false, true, []⟩, ⟨9, true, false, [13, 4]⟩, ⟨10, true, false, [13, 4]⟩, ⟨11, true, false, [13]⟩, ⟨14, true, false, [8, 6, 5, 4]⟩, ⟨15, true, false, []⟩, ⟨16, false, false, []⟩, ⟨17, false, false, []⟩, ⟨18, true, false, []⟩, ⟨19, true, false, []⟩], [⟨0, false, false, []⟩, ⟨1, false, false, []⟩, ⟨2, false, false, []⟩, ⟨3, false, false, []⟩, ⟨4, false, true, []⟩, ⟨5, false, true, []⟩, ⟨6, false, true, []⟩, ⟨7, false, false, []⟩, ⟨8, false, true, []⟩, ⟨12, false, false, []⟩, ⟨13, false, true, []⟩, ⟨9, true, false, [13, 4]⟩, ⟨10, true, false, [13, 4]⟩, ⟨14, true, false, [8, 6, 5, 4]⟩, ⟨11, true, false, [13]⟩, ⟨15, true, false, []⟩, ⟨16, false, false, []⟩, ⟨17, false, false, []⟩, ⟨18, true, false, []⟩, ⟨19, true, false, []⟩], [⟨0, false, false, []⟩, ⟨1, false, false, []⟩, ⟨2, false, false, []⟩, ⟨3, false, false, []⟩, ⟨4, false, true, []⟩, ⟨5, false, true, []⟩, ⟨6, false, true, []⟩, ⟨7, false, false, []⟩, ⟨8, false, true, []⟩, ⟨12, false, false, []⟩, ⟨13, false, true, []⟩, ⟨9, true, false, [13, 4]⟩, ⟨14, true, false, [8, 6, 5, 4]⟩, ⟨10, true, false, [13, 4]⟩, ⟨11, true, false, [13]⟩, ⟨15, true, false, []⟩, ⟨16, false, false, []⟩, ⟨17, false, false, []⟩, ⟨18, true, false, []⟩, ⟨19, true, false, []⟩], [⟨0, false, false, []⟩, ⟨1, false, false, []⟩, ⟨2, false, false, []⟩, ⟨3, false, false, []⟩, ⟨4, false, true, []⟩, ⟨5, false, true, []⟩, ⟨6, false, true, []⟩, ⟨7, false, false, []⟩, ⟨8, false, true, []⟩, ⟨12, false, false, []⟩, ⟨13, false, true, []⟩, ⟨14, true, false, [8, 6, 5, 4]⟩, ⟨9, true, false, [13, 4]⟩, ⟨10, true, false, [13, 4]⟩, ⟨11, true, false, [13]⟩, ⟨15, true, false, []⟩, ⟨16, false, false, []⟩, ⟨17, false, false, []⟩, ⟨18, true, false, []⟩, ⟨19, true, false, []⟩]]
def pl76_40 : List (List Stp) := [[⟨0, false, false, []⟩, ⟨1, false, false, []⟩, ⟨2, false, false, []⟩, ⟨3, false, true, []⟩, ⟨4, false, false, []⟩, ⟨5, true, false, [3]⟩, ⟨6, true, false, []⟩]]
def pl76_55 : List (List Stp) := [[⟨0, false, false, []⟩, ⟨1, false, false, []⟩, ⟨2, false, false, []⟩, ⟨3, false, false, []⟩, ⟨4, false, true, []⟩, ⟨5, false, true, []⟩, ⟨6, true, false, [4]⟩, ⟨7, true, false, [4]⟩, ⟨8, true, false, []⟩, ⟨9, false, false, []⟩, ⟨10, false, false, []⟩, ⟨11, true, false, []⟩]]
def pl83_2 : List (List Stp) := [[⟨0, false, false, []⟩, ⟨1, false, false, []⟩, ⟨2, false, false, []⟩, ⟨3, false, true, []⟩, ⟨4, false, false, []⟩, ⟨5, false, false, []⟩, ⟨6, false, false, []⟩, ⟨7, false, true, []⟩, ⟨8, false, false, []⟩, ⟨9, false, false, []⟩, ⟨10, false, false, []⟩, ⟨11, false, true, []⟩, ⟨12, false, false, []⟩, ⟨13, false, false, []⟩, ⟨14, false, false, []⟩, ⟨15, false, true, []⟩, ⟨16, false, true, []⟩, ⟨17, false, false, []⟩, ⟨18, false, false, []⟩, ⟨19, true, false, [16, 15, 11, 7, 3]⟩, ⟨20, true, false, []⟩]]
def pl106_1 : List (List Stp) := [[⟨0, false, false, []⟩, ⟨1, false, true, []⟩, ⟨3, false, false, []⟩, ⟨4, false, true, []⟩, ⟨6, false, false, []⟩, ⟨7, false, true, []⟩, ⟨9, false, false, []⟩, ⟨10, false, true, []⟩, ⟨2, true, false, [10, 7, 4]⟩, ⟨12, false, false, []⟩, ⟨5, true, false, [10, 7]⟩, ⟨8, true, false, [10]⟩, ⟨11, true, false, []⟩, ⟨13, true, false, []⟩, ⟨14, false, false, []⟩, ⟨15, true, false, []⟩, ⟨16, false, false, []⟩, ⟨17, true, false, []⟩, ⟨18, false, false, []⟩, ⟨19, true, false, []⟩]]
def pl109_1 : List (List Stp) := [[⟨0, false, true, []⟩, ⟨1, false, true, []⟩, ⟨2, false, true, []⟩, ⟨3, false, false, []⟩, ⟨4, false, true, []⟩, ⟨5, true, false, []⟩, ⟨6, true, false, []⟩]]
def pl111_1 : List (List Stp) := [[⟨1, false, false, []⟩, ⟨2, false, true, []⟩, ⟨5, false, false, []⟩, ⟨6, false, true, []⟩, ⟨0, true, false, [6, 2]⟩, ⟨3, true, false, [6]⟩, ⟨8, false, false, []⟩, ⟨4, true, false, [6, 2]⟩, ⟨7, true, false, []⟩, ⟨9, true, false, []⟩, ⟨10, false, false, []⟩, ⟨11, true, false, []⟩], [⟨1, false, false, []⟩, ⟨2, false, true, []⟩, ⟨5, false, false, []⟩, ⟨6, false, true, []⟩, ⟨0, true, false, [6, 2]⟩, ⟨4, true, false, [6, 2]⟩, ⟨3, true, false, [6]⟩, ⟨8, false, false, []⟩, ⟨7, true, false, []⟩, ⟨9, true, false, []⟩, ⟨10, false, false, []⟩, ⟨11, true, false, []⟩], [⟨1, false, false, []⟩, ⟨2, false, true, []⟩, ⟨5, false, false, []⟩, ⟨6, false, true, []⟩, ⟨4, true, false, [6, 2]⟩, ⟨0, true, false, [6, 2]⟩, ⟨3, true, false, [6]⟩, ⟨8, false, false, []⟩, ⟨7, true, false, []⟩, ⟨9, true, false, []⟩, ⟨10, false, false, []⟩, ⟨11, true, false, []⟩]]
def pl112_1 : List (List Stp) := [[⟨1, false, false, []⟩, ⟨2, false, false, []⟩, ⟨3, false, false, []⟩, ⟨4, false, true, []⟩, ⟨5, false, false, []⟩, ⟨6, false, true, []⟩, ⟨7, false, false, []⟩, ⟨8, false, false, []⟩, ⟨9, false, false, []⟩, ⟨10, false, true, []⟩, ⟨11, false, true, []⟩, ⟨12, false, false, []⟩, ⟨13, false, false, []⟩, ⟨14, false, true, []⟩, ⟨15, false, true, []⟩, ⟨0, true, false, [15, 14, 11, 10, 6, 4]⟩, ⟨16, true, false, []⟩]]
end Go.Proofs.OP
