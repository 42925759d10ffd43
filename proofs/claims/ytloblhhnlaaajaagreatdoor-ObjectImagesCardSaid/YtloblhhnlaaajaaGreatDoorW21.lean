/- Walks: the reference's get, numbers, texts. -/
import Derived.Test.YtloblhhnlaaajaaGreatDoorW15
import Derived.Test.YtloblhhnlaaajaaGreatDoorW19
import Derived.Test.YtloblhhnlaaajaaGreatDoorW20
set_option linter.unusedVariables false
set_option linter.unusedSimpArgs false
set_option linter.defProp false
set_option linter.unusedSimpArgs false
namespace Go.Proofs.OP
open Go Go.Ev
open Go.Proofs
open Nat (reduceLT reduceEqDiff)
variable {g : T (List V)}

theorem rget_ok {h : H} {s : V} {xs : List UInt8} (hb : Bs g h s xs) (h8 : xs.length ≤ 8) : WF (E g) 102 [s] h fun v h' => v = .int .i64 (IntKind.i64.wrap (leN xs : Nat)) ∧ h' = h := by
  refine WF.enter fn102 rfl ?_
  ((repeat refine WC.seq ?_); refine WC.run ?_)
  (try simp only [wk, wl, wx, reduceLT, reduceEqDiff, Nat.reduceBEq, reduceIte])
  ((repeat refine WC.seq ?_); refine WC.run ?_)
  (try simp only [wk, wl, wx, reduceLT, reduceEqDiff, Nat.reduceBEq, reduceIte])
  ((repeat refine WC.seq ?_); refine WC.run ?_)
  (try simp only [wk, wl, wx, reduceLT, reduceEqDiff, Nat.reduceBEq, reduceIte, bin_sub, hb.len])
  rw [wrap64 (by omega) (by omega)]
  (repeat refine WC.seq ?_)
  refine WC.block ?_
  refine WC.while (fun m fr hh => ∃ ts j, fr = ⟨ts, 22, [], 102, none⟩ ∧ hh = h ∧ m = j ∧ j ≤ xs.length ∧ ts.get 0 = some s ∧ ts.get 4 = some (.int .i64 ((j : Int) - 1)) ∧ ts.get 3 = some (.int .u64 (leN (xs.drop j) : Nat))) ?_ ⟨_, xs.length, rfl, rfl, rfl, Nat.le_refl _, ?_, ?_, ?_⟩
  · rintro m fr hh ⟨ts, j, rfl, rfl, rfl, hj, h0, h4, h3⟩
    ((repeat refine WC.seq ?_); refine WC.run ?_)
    (try simp only [wk, wl, wx, reduceLT, reduceEqDiff, Nat.reduceBEq, reduceIte, h4])
    (repeat refine WC.seq ?_)
    cases m with
    | succ j =>
      have e1 : ((j + 1 : Nat) : Int) - 1 = (j : Int) := by omega
      rw [e1] at h4
      refine WC.cond (b := true) (by (try simp only [wk, wl, wx, reduceLT, reduceEqDiff, Nat.reduceBEq, reduceIte]); (try simp); (try omega)) (WC.skip ?_)
      (try simp only [wk, wl, wx, reduceLT, reduceEqDiff, Nat.reduceBEq, reduceIte])
      obtain ⟨p, p1, p2⟩ := hb.at (show j < xs.length by omega)
      (repeat refine WC.seq ?_)
      refine WC.block ?_
      ((repeat refine WC.seq ?_); refine WC.run ?_)
      (try simp only [wk, wl, wx, reduceLT, reduceEqDiff, Nat.reduceBEq, reduceIte, h0, h4, h3, p1, p2, bin_mul, bin_add, u8, conv_int ty5 ty188 rfl])
      ((repeat refine WC.seq ?_); refine WC.run ?_)
      (try simp only [wk, wl, wx, reduceLT, reduceEqDiff, Nat.reduceBEq, reduceIte, h4, bin_sub])
      have hd := leN_drop (show j < xs.length by omega)
      have hlt := leN_lt (xs.drop (j + 1))
      have hlen : (xs.drop (j + 1)).length ≤ 7 := by simp; omega
      have hpow : 256 ^ (xs.drop (j + 1)).length ≤ 256 ^ 7 := Nat.pow_le_pow_right (by omega) hlen
      have hc : xs[j].toNat < 256 := xs[j].toNat_lt
      refine ⟨j, by omega, _, j, rfl, trivial, rfl, by omega, ?_⟩
      (try simp only [wk, wl, wx, reduceLT, reduceEqDiff, Nat.reduceBEq, reduceIte, h0])
      refine ⟨trivial, ?_, ?_⟩
      · rw [wrap64 (by omega) (by omega)]
      · have e2 : IntKind.u64.wrap ((leN (xs.drop (j + 1)) : Nat) * 256 : Int) = ((leN (xs.drop (j + 1)) * 256 : Nat) : Int) := by
          have : ((256 : Int)) = ((256 : Nat) : Int) := rfl
          rw [this, ← Int.natCast_mul, wrapu64_nat, Nat.mod_eq_of_lt (by omega)]
        have e3 : IntKind.u64.wrap (xs[j].toNat : Int) = (xs[j].toNat : Int) := by rw [wrapu64_nat, Nat.mod_eq_of_lt (by omega)]
        rw [e2, e3, ← Int.natCast_add, wrapu64_nat, Nat.mod_eq_of_lt (by omega), hd]
        congr 3
        omega
    | zero =>
      refine WC.cond (b := false) (by (try simp only [wk, wl, wx, reduceLT, reduceEqDiff, Nat.reduceBEq, reduceIte]); (try simp); (try omega)) (WC.exit ?_)
      (try simp only [wk, wl, wx, reduceLT, reduceEqDiff, Nat.reduceBEq, reduceIte])
      ((repeat refine WC.seq ?_); refine WC.run ?_)
      (try simp only [wk, wl, wx, reduceLT, reduceEqDiff, Nat.reduceBEq, reduceIte, h3, conv_int ty188 ty2 rfl])
      refine WC.ret ?_
      (try simp only [wk, wl, wx, reduceLT, reduceEqDiff, Nat.reduceBEq, reduceIte])
      exact ⟨by simp, by trivial⟩
  all_goals (try simp only [wk, wl, wx, reduceLT, reduceEqDiff, Nat.reduceBEq, reduceIte])
  all_goals simp [leN]


theorem numB_one (n : Int) : numB [n] = leB (U n) 8 := by simp [numB]
theorem wnum_ok {h : H} {s : V} {xs : List UInt8} {n : Int} (hb : BufB g h s xs) (hlow : In (· < h.next) s) (hlen : xs.length ≤ 2 ^ 39) :
    WF (E g) 53 [s, .int .i64 n] h fun v h' => GrewB g h s h' v (xs ++ numB [n]) := by
  refine WF.enter fn53 rfl ?_
  ((repeat refine WC.seq ?_); refine WC.run ?_)
  (try simp only [wk, wl, wx, reduceLT, reduceEqDiff, Nat.reduceBEq, reduceIte])
  ((repeat refine WC.seq ?_); refine WC.run ?_)
  (try simp only [wk, wl, wx, reduceLT, reduceEqDiff, Nat.reduceBEq, reduceIte])
  refine (put_ok (k := 8) hb hlow (by omega) hlen).mono fun v h' gr => ?_
  (try simp only [wk, wl, wx, reduceLT, reduceEqDiff, Nat.reduceBEq, reduceIte])
  refine WC.ret ?_
  (try simp only [wk, wl, wx, reduceLT, reduceEqDiff, Nat.reduceBEq, reduceIte])
  rw [numB_one]; exact gr
theorem wtxt_ok {h : H} {s : V} {xs t : List UInt8} (hb : BufB g h s xs) (hlow : In (· < h.next) s) (hlen : xs.length ≤ 2 ^ 38) (ht : t.length ≤ 2 ^ 38) :
    WF (E g) 52 [s, .str t] h fun v h' => GrewB g h s h' v (xs ++ txtB [t]) := by
  refine WF.enter fn52 rfl ?_
  ((repeat refine WC.seq ?_); refine WC.run ?_)
  (try simp only [wk, wl, wx, reduceLT, reduceEqDiff, Nat.reduceBEq, reduceIte])
  ((repeat refine WC.seq ?_); refine WC.run ?_)
  (try simp only [wk, wl, wx, reduceLT, reduceEqDiff, Nat.reduceBEq, reduceIte, len_str])
  refine (wnum_ok (n := (t.length : Int)) hb hlow (by omega)).mono fun v h1 gr => ?_
  (try simp only [wk, wl, wx, reduceLT, reduceEqDiff, Nat.reduceBEq, reduceIte])
  refine app_ok (ys := t) gr ty9 (.inr rfl) rfl ?_ (by simp [numB_length]; omega) ?_
  · simp only [srcCells, show Nat.beq 1 1 = true from rfl, cond_true, List.take_length]; rfl
  · intro s' h2 gr2 _
    (try simp only [wk, wl, wx, reduceLT, reduceEqDiff, Nat.reduceBEq, reduceIte])
    refine WC.ret ?_
    (try simp only [wk, wl, wx, reduceLT, reduceEqDiff, Nat.reduceBEq, reduceIte])
    have e : xs ++ numB [(t.length : Int)] ++ t = xs ++ txtB [t] := by simp [numB_one, txtB, U_nat (show t.length < 18446744073709551616 by omega)]
    rw [← e]; exact gr2
end Go.Proofs.OP

set_option linter.unusedSimpArgs false
namespace Go.Proofs.OP
open Go Go.Ev
open Go.Proofs
open Nat (reduceLT reduceEqDiff)

theorem nameE_len {s : List UInt8} (h : nameE s = 0) : s.length ≤ 64 := by
  unfold nameE at h
  split at h
  · omega
  · split at h <;> omega
end Go.Proofs.OP

set_option linter.unusedSimpArgs false
namespace Go.Proofs.OP
open Go Go.Ev
open Go.Proofs
open Nat (reduceLT reduceEqDiff)
variable {g : T (List V)}

theorem Wr.sub' {h : H} {S S' : Nat → Prop} {wb : Nat} {xs : List UInt8} (w : Wr g h S wb xs) (hs : ∀ b, b < h.next → b ≠ wb → S b → S' b) : Wr g h S' wb xs := by
  obtain ⟨s, a1, a2, a3⟩ := w
  exact ⟨s, a1, a2, a3.sub fun b hb => ⟨hs b hb.2.2 hb.2.1 hb.1, hb.2.1, hb.2.2⟩⟩
theorem txt1_len (s : List UInt8) : (txtB [s]).length = 8 + s.length := by simp [txtB, leB_length]
theorem magB_len (k : Nat) : (magB k).length = 4 := by match k with | 0 => rfl | _ + 1 => rfl
theorem bytB_txt : ∀ (L : List (V × List UInt8)), bytB L = txtB (L.map (·.2))
  | [] => rfl
  | p :: r => by
    have := bytB_txt r
    simp only [bytB, txtB, List.flatMap_cons, List.map_cons] at *
    rw [this]
def symB (s : SymD) : List UInt8 := txtB [s.name] ++ numB [s.sec, s.off, bitsI s.glob s.weak]
def relB (r : RelD) : List UInt8 := numB [r.sec, r.off, r.kind] ++ txtB [r.sym] ++ numB [r.add]
theorem flatB_snoc {α : Type} (f : α → List UInt8) {L : List α} {i : Nat} (hi : i < L.length) : (L.take (i + 1)).flatMap f = (L.take i).flatMap f ++ f L[i] := by
  rw [List.take_succ_eq_append_getElem hi, List.flatMap_append, List.flatMap_cons, List.flatMap_nil, List.append_nil]
theorem flatB_len {α : Type} {f : α → List UInt8} {B : Nat} : ∀ {L : List α}, (∀ x ∈ L, (f x).length ≤ B) → (L.flatMap f).length ≤ B * L.length
  | [], _ => by simp
  | x :: r, h => by
    have ih := flatB_len (L := r) fun q hq => h q (List.mem_cons_of_mem _ hq)
    have h0 := h x (List.mem_cons_self ..)
    simp only [List.flatMap_cons, List.length_append, List.length_cons, Nat.mul_succ] at *
    omega
theorem fill_two {v w z : V} (hv : v.cells = [v]) (hw : w.cells = [w]) : fillAll (fun k => some (k * 1, 1)) (repL [z] 2) [(0, v), (1, w)] = some [v, w] := by
  simp [fillAll, repL, hv, hw, fillL]; rfl
theorem fill_three {v w u z : V} (hv : v.cells = [v]) (hw : w.cells = [w]) (hu : u.cells = [u]) : fillAll (fun k => some (k * 1, 1)) (repL [z] 3) [(0, v), (1, w), (2, u)] = some [v, w, u] := by
  simp [fillAll, repL, hv, hw, hu, fillL]; rfl
theorem lit_in {h1 : H} {n0 m wb q n : Nat} {c : Cp} (h1' : m < h1.next) (h2 : wb < m) : In (fun b => b < h1.next ∧ b ≠ wb ∧ (b < n0 ∨ m ≤ b ∨ b = q)) (.slice m 0 n c) := fun b o n c e => by
  injection e with e; subst e; exact ⟨h1', by omega, .inr (.inl (Nat.le_refl _))⟩
end Go.Proofs.OP

set_option linter.unusedSimpArgs false
namespace Go.Proofs.OP
open Go Go.Ev
open Go.Proofs
open Nat (reduceLT reduceEqDiff)
variable {g : T (List V)}

theorem fill_four {a b c d z : V} (ha : a.cells = [a]) (hb : b.cells = [b]) (hc : c.cells = [c]) (hd : d.cells = [d]) : fillAll (fun k => some (k * 1, 1)) (repL [z] 4) [(0, a), (1, b), (2, c), (3, d)] = some [a, b, c, d] := by
  simp [fillAll, repL, ha, hb, hc, hd, fillL]; rfl
theorem _root_.Go.Ev.Grew.keeps {E : Env} {e sz n : Nat} {h h' : H} {s s' : V} {vs : List V} (G : Grew E e sz h s h' s' n vs) {b : Nat} {cs : List V} (a : Has h b cs) (hb : b < h.next) (hs : In (· ≠ b) s) : Has h' b cs :=
  a.fix G.fix ⟨hb, fun o m cc q => hs _ _ _ _ q rfl⟩
theorem Ob.grew {h h' : H} {e sz n n0 : Nat} {s s' : V} {vs : List V} {c : Oc} {o : ObjD} (a : Ob g h (· < n0) c o) (G : Grew (E g) e sz h s h' s' n vs) (hn : n0 ≤ h.next) (hs : In (fun b => n0 ≤ b) s) : Ob g h' (· < n0) c o :=
  a.fix G.fix fun b hb => ⟨by omega, fun o m cc q => by have := hs _ _ _ _ q; omega⟩

end Go.Proofs.OP

set_option linter.unusedSimpArgs false
namespace Go.Proofs.OP
open Go Go.Ev
open Go.Proofs
open Nat (reduceLT reduceEqDiff)
variable {g : T (List V)}

def NotG (s : V) : Prop := ∀ a n c, s ≠ .gsl a n c
theorem upto_slice {h : H} {s s' : V} {b : List UInt8} (a : Bs g h s b) (hs : NotG s) (hn : 4 ≤ b.length) (e : sliceV (E g) 22 s none (some (.int .i64 (4 : Nat))) none = some s') (a' : Bs g h s' (b.take 4)) : ∃ bb o c, s' = .slice bb o 4 c := by
  have hl := Sl.len a'
  have hl0 := Sl.len a
  have h4 : (b.take 4).length = 4 := by simp; omega
  rw [h4] at hl
  unfold lenV at hl hl0
  split at hl
  · injection hl with hl; subst hl; exact ⟨_, _, _, rfl⟩
  · exfalso
    split at hl0
    · rename_i bb o n c
      simp only [sliceV, ty22, sizeOf_of ty5, subSlice, optNat, natOf_nat, Option.bind_some, subEnd] at e
      split at e <;> (obtain ⟨_, e⟩ := bif_some e; obtain ⟨_, e⟩ := bif_some e; cases e)
    · exact hs _ _ _ rfl
    · injection hl0 with hl0; omega
    · exact Sl.slice a _ rfl
    · cases hl0
  · cases hl
  · exact absurd rfl (Sl.slice a' _)
  · cases hl

theorem build159 {s : V} (hs : s.cells = [s]) : buildV (E g) 125 [(0, s)] = some (.agg [s, .bool false]) := by
  simp only [buildV, ty125, fillAll, nth, sizeOf_of ty22, hs, List.all_cons, List.all_nil, ty22, ty4, Option.isSome_some, Bool.and_true, Bool.not_true, cond_false]
  rfl
theorem load_mag {h : H} {k : Nat} (hg : g.get 0 = some magG) (hk : k < 2) : loadP (E g) h 178 (.gp 0 (0 + k * 4)) = some (.agg ((magB k).map u8)) := by
  simp only [loadP, loadG, ty178, E_globs, hg]
  match k, hk with
  | 0, _ => rfl
  | 1, _ => rfl
theorem load_arr {h : H} {bb o : Nat} {c : Cp} {xs : List UInt8} (a : Bs g h (.slice bb o 4 c) xs) (hx : xs.length = 4) : loadP (E g) h 178 (.ptr bb o) = some (.agg (xs.map u8)) := by
  have hc := Sl.cells a
  rw [hx] at hc
  simp only [srcCells] at hc
  simp only [show Nat.beq (4 * 1) 0 = false from rfl, cond_false] at hc
  obtain ⟨_, hc⟩ := bif_some hc
  split at hc
  · rename_i t k d e kk hb
    simp only [loadP, loadV, ty178, hb, TI.agg, cond_true]
    have hc : cellsFrom t k d o 4 = some (xs.map u8) := hc
    rw [hc]; rfl
  · cases hc

set_option maxRecDepth 100000 in
set_option maxHeartbeats 8000000 in
theorem opened_ok {h : H} {s : V} {b : List UInt8} {k : Nat} (hg : g.get 0 = some magG) (hk : k < 2) (hb : Bs g h s b) (hs : In (· < h.next) s) (hn : NotG s) (hlen : b.length < 2 ^ 39) :
    WF (E g) 56 [s, .int .i64 k] h fun v h' => Kept h h' ∧ (openE k b ≠ 0 → v = .tuple [.nilp, i64 (openE k b)]) ∧ (openE k b = 0 → ∃ rb, v = .tuple [.ptr rb 0, i64 0] ∧ h.next ≤ rb ∧ rb < h'.next ∧ Rd g h' (· < h.next) rb ⟨inner b, false⟩) := by
  refine WF.enter fn56 rfl ?_
  ((repeat refine WC.seq ?_); refine WC.run ?_)
  (try simp only [wk, wl, wx, reduceLT, reduceEqDiff, Nat.reduceBEq, reduceIte])
  ((repeat refine WC.seq ?_); refine WC.run ?_)
  (try simp only [wk, wl, wx, reduceLT, reduceEqDiff, Nat.reduceBEq, reduceIte, hb.len, bin_sub])
  rw [wrap64 (by omega) (by omega)]
  by_cases h8 : ((b.length : Int) - 4 < 4)
  · have hr : openE k b = 6 := by unfold openE; rw [if_pos (.inl (by omega))]
    ((repeat refine WC.seq ?_); refine WC.draw (plans := pl56_2) (by kernel_rfl) ?_; simp only [pl56_2, List.mem_cons, List.not_mem_nil, or_false, forall_eq_or_imp, forall_eq])
    (try simp (maxSteps := 2000000) only [wk, wl, wx, reduceLT, reduceEqDiff, Nat.reduceBEq, reduceIte, wd, Chk, and_true, true_and, decide_eq_true h8, un])
    (repeat refine WC.seq ?_)
    refine WC.cond (b := true) (by (try simp only [wk, wl, wx, reduceLT, reduceEqDiff, Nat.reduceBEq, reduceIte]); (try simp); (try omega)) ?_
    ((repeat refine WC.seq ?_); refine WC.run ?_)
    (try simp only [wk, wl, wx, reduceLT, reduceEqDiff, Nat.reduceBEq, reduceIte])
    refine WC.ret ?_
    (try simp only [wk, wl, wx, reduceLT, reduceEqDiff, Nat.reduceBEq, reduceIte])
    rw [hr]
    exact ⟨Fix.refl _ _, fun _ => rfl, fun q => by cases q⟩
  · have e4 : ((b.length : Int) - 4) = ((b.length - 4 : Nat) : Int) := by omega
    rw [e4] at h8 ⊢
    obtain ⟨s1, p1, p2, p3⟩ := Bs.from hb (n := b.length - 4) (by omega)
    obtain ⟨s2, q1, q2, q3⟩ := Bs.upto hb (n := b.length - 4) (by omega)
    ((repeat refine WC.seq ?_); refine WC.draw (plans := pl56_2) (by kernel_rfl) ?_; simp only [pl56_2, List.mem_cons, List.not_mem_nil, or_false, forall_eq_or_imp, forall_eq])
    (try simp (maxSteps := 2000000) only [wk, wl, wx, reduceLT, reduceEqDiff, Nat.reduceBEq, reduceIte, wd, Chk, and_true, true_and, decide_eq_false h8, p1, q1, un])
    refine le_ok.mono fun v2 h2 ⟨e2, f2⟩ => ?_
    subst e2
    have x2 := f2.next
    (try simp (maxSteps := 2000000) only [wk, wl, wx, reduceLT, reduceEqDiff, Nat.reduceBEq, reduceIte, wd, Chk, and_true, true_and])
    refine (u32_ok (Sl.fix p2 (p3 _ hs) f2) (p3 _ (hs.sub fun x hx => by omega)) (by simp; omega)).mono fun v3 h3 ⟨e3, f3⟩ => ?_
    subst e3
    have x3 := f3.next
    (try simp (maxSteps := 2000000) only [wk, wl, wx, reduceLT, reduceEqDiff, Nat.reduceBEq, reduceIte, wd, Chk, and_true, true_and])
    have q4 := Sl.fix (Sl.fix q2 (q3 _ hs) f2) (q3 _ (hs.sub fun x hx => by omega)) f3
    refine (sum_ok q4 (by simp; omega)).mono fun v4 h4 ⟨e4', e4''⟩ => ?_
    subst e4' e4''
    (try simp (maxSteps := 2000000) only [wk, wl, wx, reduceLT, reduceEqDiff, Nat.reduceBEq, reduceIte, wd, Chk, and_true, true_and, u32_neq])
    have F14 : Kept h h4 := f2.trans (f3.sub fun x hx => by omega)
    have hb4 := Sl.fix hb hs F14
    have hd8 : ((b.drop (b.length - 4)).take 4) = b.drop (b.length - 4) := List.take_of_length_le (by simp; omega)
    rw [hd8]
    (repeat refine WC.seq ?_)
    by_cases hsum : leN (b.drop (b.length - 4)) = sumN (b.take (b.length - 4)) % 4294967296
    · refine WC.cond (b := false) (by (try simp only [wk, wl, wx, reduceLT, reduceEqDiff, Nat.reduceBEq, reduceIte]); simp [hsum]) (WC.skip ?_)
      (try simp only [wk, wl, wx, reduceLT, reduceEqDiff, Nat.reduceBEq, reduceIte])
      obtain ⟨s3, t1, t2, t3⟩ := Bs.upto hb4 (n := 4) (by omega)
      obtain ⟨bb, o, c, rfl⟩ := upto_slice hb4 hn (by omega) t1 t2
      have t1 : sliceV (E g) 22 s none (some (.int .i64 4)) none = some (.slice bb o 4 c) := t1
      have l4 : (b.take 4).length = 4 := by simp; omega
      have lm : (magB k).length = 4 := by match k with | 0 => rfl | _ + 1 => rfl
      ((repeat refine WC.seq ?_); refine WC.draw (plans := pl56_4) (by kernel_rfl) ?_; simp only [pl56_4, List.mem_cons, List.not_mem_nil, or_false, forall_eq_or_imp, forall_eq])
      (try simp (maxSteps := 2000000) only [wk, wl, wx, reduceLT, reduceEqDiff, Nat.reduceBEq, reduceIte, wd, Chk, and_true, true_and, t1, arrayAt (Nat.le_refl 4), load_arr t2 l4, idx200 hk, load_mag hg hk, neq199 l4 lm])
      (repeat refine WC.seq ?_)
      by_cases hm : b.take 4 = magB k
      · refine WC.cond (b := false) (by (try simp only [wk, wl, wx, reduceLT, reduceEqDiff, Nat.reduceBEq, reduceIte]); simp [hm]) (WC.skip ?_)
        (try simp only [wk, wl, wx, reduceLT, reduceEqDiff, Nat.reduceBEq, reduceIte])
        obtain ⟨s5, u1, u2, u3⟩ := Bs.part hb4 (l := 4) (r := b.length - 4) (by omega) (by omega)
        have u1 : sliceV (E g) 22 s (some (.int .i64 4)) (some (.int .i64 (b.length - 4 : Nat))) none = some s5 := u1
        ((repeat refine WC.seq ?_); refine WC.run ?_)
        (try simp only [wk, wl, wx, reduceLT, reduceEqDiff, Nat.reduceBEq, reduceIte, u1, build159 (Sl.one u2).1])
        refine wop_box (v := .agg [s5, .bool false]) (by (try simp only [wk, wl, wx, reduceLT, reduceEqDiff, Nat.reduceBEq, reduceIte])) ?_
        intro h5 b5 n5 f5
        (try simp only [wk, wl, wx, reduceLT, reduceEqDiff, Nat.reduceBEq, reduceIte])
        refine WC.ret ?_
        (try simp only [wk, wl, wx, reduceLT, reduceEqDiff, Nat.reduceBEq, reduceIte])
        have hr : openE k b = 0 := by unfold openE; rw [if_neg (by rintro (q | q); omega; exact q hsum), if_neg (not_not_intro hm)]
        have K0 : In (· < h.next) s5 := u3 _ hs
        refine ⟨F14.trans (f5.sub fun x hx => by omega), fun q => absurd hr q, fun _ => ⟨_, rfl, by omega, by omega, s5, b5, Sl.fix u2 (K0.sub fun x hx => by omega) f5, K0⟩⟩
      · refine WC.cond (b := true) (by (try simp only [wk, wl, wx, reduceLT, reduceEqDiff, Nat.reduceBEq, reduceIte]); simp [hm]) ?_
        ((repeat refine WC.seq ?_); refine WC.run ?_)
        (try simp only [wk, wl, wx, reduceLT, reduceEqDiff, Nat.reduceBEq, reduceIte])
        refine WC.ret ?_
        (try simp only [wk, wl, wx, reduceLT, reduceEqDiff, Nat.reduceBEq, reduceIte])
        have hr : openE k b = 12 := by unfold openE; rw [if_neg (by rintro (q | q); omega; exact q hsum), if_pos hm]
        rw [hr]
        exact ⟨F14, fun _ => rfl, fun q => by cases q⟩
    · refine WC.cond (b := true) (by (try simp only [wk, wl, wx, reduceLT, reduceEqDiff, Nat.reduceBEq, reduceIte]); simp; omega) ?_
      ((repeat refine WC.seq ?_); refine WC.run ?_)
      (try simp only [wk, wl, wx, reduceLT, reduceEqDiff, Nat.reduceBEq, reduceIte])
      refine WC.ret ?_
      (try simp only [wk, wl, wx, reduceLT, reduceEqDiff, Nat.reduceBEq, reduceIte])
      have hr : openE k b = 6 := by unfold openE; rw [if_pos (.inr hsum)]
      rw [hr]
      exact ⟨F14, fun _ => rfl, fun q => by cases q⟩
end Go.Proofs.OP

set_option linter.unusedSimpArgs false
namespace Go.Proofs.OP
open Go Go.Ev
open Go.Proofs
open Nat (reduceLT reduceEqDiff)
variable {g : T (List V)}

def Lit0 (n0 : Nat) (h : H) (e : Nat) (v : V) : Prop := ∃ b, v = .slice b 0 0 (.lit 0) ∧ n0 ≤ b ∧ b < h.next ∧ ∃ t N d k, h.t.get b = some (.cells t N d e k)
theorem Lit0.fix {n0 : Nat} {h h' : H} {e : Nat} {v : V} (a : Lit0 n0 h e v) (f : Fix (· < h.next) h h') : Lit0 n0 h' e v := by
  obtain ⟨b, a1, a2, a3, t, N, d, k, a4⟩ := a
  have := f.next
  exact ⟨b, a1, a2, by omega, t, N, d, k, by rw [f.same b a3]; exact a4⟩
def Own (g : T (List V)) (n0 : Nat) (h : H) (e : Nat) (v : V) (vs : List V) : Prop := Buf (E g) h e 1 v vs.length vs ∧ In (fun b => n0 ≤ b ∧ b < h.next) v ∧ El h e v
theorem Own.fix {n0 : Nat} {h h' : H} {e : Nat} {v : V} {vs : List V} (a : Own g n0 h e v vs) (f : Fix (· < h.next) h h') : Own g n0 h' e v vs := by
  obtain ⟨a1, a2, a3⟩ := a
  have := f.next
  exact ⟨a1.fix (a2.sub fun _ hx => hx.2) f, a2.sub fun _ hx => ⟨hx.1, by omega⟩, a3.fix (a2.sub fun _ hx => hx.2) f⟩
def NewB (n0 : Nat) (h : H) (e : Nat) (zs : List V) (v : V) : Prop := ∃ b, v = .ptr b 0 ∧ n0 ≤ b ∧ b < h.next ∧ Has h b zs ∧ ∃ t m d k, h.t.get b = some (.cells t m d e k)
theorem NewB.fix {n0 : Nat} {h h' : H} {e : Nat} {zs : List V} {v : V} (a : NewB n0 h e zs v) (f : Fix (· < h.next) h h') : NewB n0 h' e zs v := by
  obtain ⟨b, a1, a2, a3, a4, t, m, d, k, a5⟩ := a
  have := f.next
  exact ⟨b, a1, a2, by omega, a4.fix f a3, t, m, d, k, by rw [f.same b a3]; exact a5⟩

theorem one_u8 {xs : List UInt8} : (xs.map u8).all V.one = true := by simp [List.all_eq_true, u8, V.one]
theorem one_str {xs : List (List UInt8)} : (xs.map V.str).all V.one = true := by simp [List.all_eq_true, V.one]

theorem flat_snoc {α : Type} (f : α → List V) {L : List α} {i : Nat} (hi : i < L.length) : (L.take (i + 1)).flatMap f = (L.take i).flatMap f ++ f L[i] := by
  rw [List.take_succ_eq_append_getElem hi, List.flatMap_append, List.flatMap_cons, List.flatMap_nil, List.append_nil]

end Go.Proofs.OP

set_option linter.unusedSimpArgs false
namespace Go.Proofs.OP
open Go Go.Ev
open Go.Proofs
open Nat (reduceLT reduceEqDiff)
variable {g : T (List V)}

def eachR {σ : Type} (rd : σ → RdS) (step : σ → σ) : Nat → Int → σ → σ
  | 0, _, s => s
  | k + 1, n, s => if 0 < n ∧ (rd s).bad = false then eachR rd step k (n - 1) (step s) else s

set_option maxRecDepth 100000 in
set_option maxHeartbeats 4000000 in
theorem each_ok {σ : Type} {rd : σ → RdS} {step : σ → σ} {Inv : σ → H → Prop} {h : H} {rb f : Nat} {cap : List V} {n : Int} {s : σ} {k : Nat}
    (hnum : WF (E g) 61 [.ptr rb 0] h fun v h' => v = i64 n ∧ Inv s h') (hbad : ∀ s h, Inv s h → ∃ sl, Has h rb [sl, .bool (rd s).bad])
    (hstep : ∀ s h, Inv s h → (rd s).bad = false → WF (E g) f cap h fun _ h' => Inv (step s) h')
    (hdec : ∀ s, (rd s).bad = false → (rd (step s)).bad = true ∨ (rd (step s)).xs.length < (rd s).xs.length) (hk : (rd s).xs.length < k) (hn : n < 2 ^ 63) :
    WF (E g) 59 [.ptr rb 0, .func f [] cap] h fun _ h' => Inv (eachR rd step k n s) h' := by
  refine WF.enter fn59 rfl ?_
  ((repeat refine WC.seq ?_); refine WC.run ?_)
  (try simp only [wk, wl, wx, reduceLT, reduceEqDiff, Nat.reduceBEq, reduceIte])
  refine hnum.mono fun v h1 ⟨e1, i1⟩ => ?_
  subst e1
  (try simp only [wk, wl, wx, reduceLT, reduceEqDiff, Nat.reduceBEq, reduceIte])
  (repeat refine WC.seq ?_)
  refine WC.block ?_
  refine WC.while (fun m fr hh => ∃ ts n' s', fr = ⟨ts, 20, [], 59, none⟩ ∧ Inv s' hh ∧ n' < 2 ^ 63 ∧ ((rd s').bad = false → (rd s').xs.length < m) ∧ eachR rd step k n s = eachR rd step m n' s' ∧ ts.get 0 = some (.ptr rb 0) ∧ ts.get 1 = some (.func f [] cap) ∧ ts.get 4 = some (i64 n')) ?_ ⟨_, n, s, rfl, i1, hn, fun _ => hk, rfl, ?_, ?_, ?_⟩
  · rintro m fr hh ⟨ts, n', s', rfl, ii, hn', hm, he, t0, t1, t4⟩
    obtain ⟨sl, b⟩ := hbad _ _ ii
    have stop (hs : ¬ (0 < n' ∧ (rd s').bad = false)) : Inv (eachR rd step k n s) hh := by
      rw [he]
      cases m with
      | zero => exact ii
      | succ m => rw [eachR, if_neg hs]; exact ii
    ((repeat refine WC.seq ?_); refine WC.run ?_)
    rcases Decidable.em (0 < n') with h0 | h0
    · cases hbd : (rd s').bad with
      | true =>
        rw [hbd] at b
        (try simp only [wk, wl, wx, reduceLT, reduceEqDiff, Nat.reduceBEq, reduceIte, t4, t0, i64, decide_eq_true h0, un, fa125_1, Nat.zero_add, b.at ty4 rfl, Bool.not_true])
        (repeat refine WC.seq ?_)
        refine WC.cond (b := false) (by (try simp only [wk, wl, wx, reduceLT, reduceEqDiff, Nat.reduceBEq, reduceIte]); (try simp); (try omega)) (WC.exit ?_)
        (try simp only [wk, wl, wx, reduceLT, reduceEqDiff, Nat.reduceBEq, reduceIte])
        exact stop (by rw [hbd]; simp)
      | false =>
        rw [hbd] at b
        (try simp only [wk, wl, wx, reduceLT, reduceEqDiff, Nat.reduceBEq, reduceIte, t4, t0, i64, decide_eq_true h0, un, fa125_1, Nat.zero_add, b.at ty4 rfl, Bool.not_false])
        (repeat refine WC.seq ?_)
        refine WC.cond (b := true) (by (try simp only [wk, wl, wx, reduceLT, reduceEqDiff, Nat.reduceBEq, reduceIte]); (try simp); (try omega)) (WC.skip ?_)
        (try simp only [wk, wl, wx, reduceLT, reduceEqDiff, Nat.reduceBEq, reduceIte])
        (repeat refine WC.seq ?_)
        refine WC.block ?_
        ((repeat refine WC.seq ?_); refine WC.run ?_)
        (try simp only [wk, wl, wx, reduceLT, reduceEqDiff, Nat.reduceBEq, reduceIte, t1])
        refine (hstep _ _ ii hbd).mono fun v h2 i2 => ?_
        (try simp only [wk, wl, wx, reduceLT, reduceEqDiff, Nat.reduceBEq, reduceIte])
        ((repeat refine WC.seq ?_); refine WC.run ?_)
        (try simp only [wk, wl, wx, reduceLT, reduceEqDiff, Nat.reduceBEq, reduceIte, t4, bin_sub, i64])
        have hmb := hm hbd
        obtain ⟨m, rfl⟩ : ∃ m', m = m' + 1 := ⟨m - 1, by omega⟩
        refine ⟨m, by omega, _, n' - 1, step s', rfl, i2, by omega, fun hb2 => ?_, ?_, ?_⟩
        · rcases hdec _ hbd with q | q
          · rw [q] at hb2; cases hb2
          · omega
        · rw [he, eachR, if_pos ⟨h0, hbd⟩]
        · (try simp only [wk, wl, wx, reduceLT, reduceEqDiff, Nat.reduceBEq, reduceIte, t0, t1])
          refine ⟨trivial, trivial, ?_⟩
          rw [wrap64 (by omega) (by omega)]
    · (try simp only [wk, wl, wx, reduceLT, reduceEqDiff, Nat.reduceBEq, reduceIte, t4, i64, decide_eq_false h0, un])
      (repeat refine WC.seq ?_)
      refine WC.cond (b := false) (by (try simp only [wk, wl, wx, reduceLT, reduceEqDiff, Nat.reduceBEq, reduceIte]); (try simp); (try omega)) (WC.exit ?_)
      (try simp only [wk, wl, wx, reduceLT, reduceEqDiff, Nat.reduceBEq, reduceIte])
      exact stop (by simp; omega)
  all_goals (try simp only [wk, wl, wx, reduceLT, reduceEqDiff, Nat.reduceBEq, reduceIte])
end Go.Proofs.OP

set_option linter.unusedSimpArgs false
namespace Go.Proofs.OP
open Go Go.Ev
open Go.Proofs
open Nat (reduceLT reduceEqDiff)
variable {g : T (List V)}

def adv {α : Type} (f : RdS → α × RdS) (s : RdS × List α) : RdS × List α := ((f s.1).2, s.2 ++ [(f s.1).1])

structure DB (hm : H) (n0 rb vb ob : Nat) : Prop where
  v : Has hm vb [.ptr rb 0]
  l1 : n0 ≤ rb
  l2 : rb < hm.next
  l3 : vb < hm.next
  l4 : ob < hm.next
  l5 : vb ≠ rb
  l6 : vb ≠ ob
  l7 : rb ≠ ob
  l8 : n0 ≤ ob
structure DI {α : Type} (g : T (List V)) (hm : H) (n0 N rb ob : Nat) (cells : V → List V) (e sz : Nat) (fl : List α → List V) (s : RdS × List α) (h : H) (sv : V) : Prop where
  rd : Rd g h (· < n0) rb s.1
  co : Has h ob (cells sv)
  bu : Buf (E g) h e sz sv s.2.length (fl s.2)
  nw : In (fun b => hm.next ≤ b ∧ b < h.next) sv
  fx : Fix (fun b => b < hm.next ∧ b ≠ rb ∧ b ≠ ob) hm h
  xs : s.1.xs.length ≤ N
  ln : s.2.length ≤ N + 1
  sm : s.1.bad = false → s.2.length + s.1.xs.length ≤ N
theorem DI.bad {α : Type} {hm : H} {n0 N rb ob : Nat} {cells : V → List V} {e sz : Nat} {fl : List α → List V} {s : RdS × List α} {h : H} (i : ∃ sv, DI g hm n0 N rb ob cells e sz fl s h sv) : ∃ sl, Has h rb [sl, .bool s.1.bad] := by
  obtain ⟨sv, i⟩ := i
  obtain ⟨bs, a, _⟩ := i.rd
  exact ⟨bs, a⟩
theorem numR_bad {s : RdS} (h : (numR s).2.bad = false) : s.bad = false ∧ (numR s).2.xs.length < s.xs.length := by
  unfold numR at *
  split at h
  · cases h
  · refine ⟨h, ?_⟩
    rename_i q
    rw [if_neg q]; simp; omega
theorem bytR_bad {s : RdS} (h : (bytR s).2.bad = false) : s.bad = false ∧ (bytR s).2.xs.length < s.xs.length := by
  unfold bytR at *
  split at h
  · cases h
  · rename_i q
    obtain ⟨h1, h2⟩ := numR_bad (s := s) h
    refine ⟨h1, ?_⟩
    rw [if_neg q]; simp; omega
end Go.Proofs.OP
