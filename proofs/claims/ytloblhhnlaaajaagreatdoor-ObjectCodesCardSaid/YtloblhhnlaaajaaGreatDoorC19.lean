/- Walks: the writer begins; bits; what is written of a literal. -/
import Derived.Test.YtloblhhnlaaajaaGreatDoorB13
import Derived.Test.YtloblhhnlaaajaaGreatDoorC16
import Derived.Test.YtloblhhnlaaajaaGreatDoorC10
set_option linter.unusedVariables false
set_option linter.unusedSimpArgs false
set_option linter.defProp false
set_option linter.unusedSimpArgs false
namespace Go.Proofs.OP
open Go Go.Ev
open Go.Proofs
open Nat (reduceLT reduceEqDiff)
variable {g : T (List V)}

def magB : Nat → List UInt8
  | 0 => [79, 66, 74, 49]
  | _ => [73, 77, 71, 49]
def magG : List V := (magB 0 ++ magB 1).map u8
theorem E_globs : (E g).globs = g := by unfold E envOf2; rfl
theorem mag_sl {h : H} {k : Nat} (hg : g.get 0 = some magG) (hk : k < 2) : Bs g h (.gsl ⟨0, 0 + k * 4, none⟩ 4 4) (magB k) := by
  have e : (magB k).length = 4 := by match k, hk with | 0, _ => rfl | 1, _ => rfl
  refine ⟨by rw [e]; rfl, ?_, (fun _ e => by cases e), (fun _ _ _ _ e => by cases e), (fun _ _ _ e => by injection e; omega)⟩
  rw [e]
  simp only [srcCells, ble_true (Nat.le_refl 4), cond_true, takeG, E_globs, hg]
  match k, hk with
  | 0, _ => rfl
  | 1, _ => rfl
theorem idx200 {k : Nat} (hk : k < 2) : indexAddrV (E g) 179 (.gp 0 0) (.int .i64 k) = some (.gp 0 (0 + k * 4)) := by
  simp only [indexAddrV, ty179, natOf_nat, blt_true hk, cond_true, sizeOf_of ty178, Option.map_some]
theorem slice199 {o : Nat} : sliceV (E g) 178 (.gp 0 o) none none none = some (.gsl ⟨0, o, none⟩ 4 4) := by
  simp only [sliceV, ty178, sizeOf_of ty5]
  rfl
theorem build202 {s : V} (hs : s.cells = [s]) : buildV (E g) 181 [(0, s)] = some (.agg [s]) := by
  simp only [buildV, ty181, fillAll, nth, sizeOf_of ty22, hs, List.all_cons, List.all_nil, ty22, Option.isSome_some, Bool.and_true, Bool.not_true, cond_false]
  rfl

set_option maxRecDepth 100000 in
set_option maxHeartbeats 4000000 in
theorem begin_ok {h : H} {k : Nat} (hg : g.get 0 = some magG) (hk : k < 2) : WF (E g) 46 [.int .i64 k] h fun v h' => ∃ wb, v = .ptr wb 0 ∧ h.next ≤ wb ∧ wb < h'.next ∧ Wr g h' (fun b => h.next ≤ b) wb (magB k) ∧ Kept h h' := by
  refine WF.enter fn46 rfl ?_
  ((repeat refine WC.seq ?_); refine WC.run ?_)
  (try simp only [wk, wl, wx, reduceLT, reduceEqDiff, Nat.reduceBEq, reduceIte])
  ((repeat refine WC.seq ?_); refine WC.run ?_)
  (try simp only [wk, wl, wx, reduceLT, reduceEqDiff, Nat.reduceBEq, reduceIte, idx200 hk, slice199])
  refine (clone_ok (mag_sl hg hk) In.gsl (by match k, hk with | 0, _ => decide | 1, _ => decide)).mono fun v h1 o => ?_
  obtain ⟨o1, o2, o3, o4⟩ := o
  have x1 := o3.next
  (try simp only [wk, wl, wx, reduceLT, reduceEqDiff, Nat.reduceBEq, reduceIte, build202 o1.sl.one.1])
  refine wop_box (v := .agg [v]) (by (try simp only [wk, wl, wx, reduceLT, reduceEqDiff, Nat.reduceBEq, reduceIte])) ?_
  intro h2 b2 n2 f2
  (try simp only [wk, wl, wx, reduceLT, reduceEqDiff, Nat.reduceBEq, reduceIte])
  refine WC.ret ?_
  (try simp only [wk, wl, wx, reduceLT, reduceEqDiff, Nat.reduceBEq, reduceIte])
  refine ⟨_, rfl, by omega, by omega, ⟨v, b2, o1.fix (K := (· < h1.next)) o2 f2, fun b o n c e => ?_⟩, o3.trans (f2.sub fun b hb => by omega)⟩
  have := o2 _ _ _ _ e
  exact ⟨o4 _ _ _ _ e, by omega, by omega⟩

def bitsI (a b : Bool) : Int := (if a then 1 else 0) + (if b then 2 else 0)
theorem bit_in {a b : Bool} {i : Nat} (h : i < 2) (hb : [a, b][i] = true) : IntKind.i64.wrap ((BitVec.ofInt IntKind.i64.bits (bitsI (decide (0 < i) && a) (decide (1 < i) && b)) ||| BitVec.ofInt IntKind.i64.bits (IntKind.i64.wrap (1 * 2 ^ min (i : Int).toNat IntKind.i64.bits))).toNat) = bitsI (decide (0 < i + 1) && a) (decide (1 < i + 1) && b) := by
  match i, h with
  | 0, _ => have hb : a = true := hb
            subst hb; cases b <;> decide
  | 1, _ => have hb : b = true := hb
            subst hb; cases a <;> decide
theorem bit_out {a b : Bool} {i : Nat} (h : i < 2) (hb : [a, b][i] = false) : bitsI (decide (0 < i) && a) (decide (1 < i) && b) = bitsI (decide (0 < i + 1) && a) (decide (1 < i + 1) && b) := by
  match i, h with
  | 0, _ => have hb : a = false := hb
            subst hb; rfl
  | 1, _ => have hb : b = false := hb
            subst hb; cases a <;> rfl

set_option maxRecDepth 100000 in
set_option maxHeartbeats 4000000 in
theorem bits_ok {h : H} {s : V} {a b : Bool} (hs : Sl (E g) h 1 s 2 [.bool a, .bool b]) : WF (E g) 50 [s] h fun v h' => v = i64 (bitsI a b) ∧ h' = h := by
  have hs : Vs (E g) h V.bool s [a, b] := hs
  refine WF.enter fn50 rfl ?_
  ((repeat refine WC.seq ?_); refine WC.run ?_)
  (try simp only [wk, wl, wx, reduceLT, reduceEqDiff, Nat.reduceBEq, reduceIte])
  ((repeat refine WC.seq ?_); refine WC.run ?_)
  (try simp only [wk, wl, wx, reduceLT, reduceEqDiff, Nat.reduceBEq, reduceIte])
  ((repeat refine WC.seq ?_); refine WC.run ?_)
  (try simp only [wk, wl, wx, reduceLT, reduceEqDiff, Nat.reduceBEq, reduceIte, Sl.lenB hs ty189 rfl])
  (repeat refine WC.seq ?_)
  refine WC.block ?_
  refine WC.while (fun m fr hh => ∃ ts i, fr = ⟨ts, 20, [], 50, none⟩ ∧ hh = h ∧ m = 2 - i ∧ i ≤ 2 ∧ ts.get 6 = some s ∧ ts.get 7 = some (.int .i64 2) ∧ ts.get 8 = some (.int .i64 i) ∧ ts.get 3 = some (i64 (bitsI (decide (0 < i) && a) (decide (1 < i) && b)))) ?_ ⟨_, 0, rfl, rfl, rfl, by omega, ?_, ?_, ?_, ?_⟩
  · rintro m fr hh ⟨ts, i, rfl, rfl, rfl, hi, t6, t7, t8, t3⟩
    ((repeat refine WC.seq ?_); refine WC.run ?_)
    (try simp only [wk, wl, wx, reduceLT, reduceEqDiff, Nat.reduceBEq, reduceIte, t7, t8])
    (repeat refine WC.seq ?_)
    by_cases hlt : i < 2
    · refine WC.cond (b := true) (by (try simp only [wk, wl, wx, reduceLT, reduceEqDiff, Nat.reduceBEq, reduceIte]); (try simp); (try omega)) (WC.skip ?_)
      (try simp only [wk, wl, wx, reduceLT, reduceEqDiff, Nat.reduceBEq, reduceIte])
      obtain ⟨p, p1, p2⟩ := hs.at ty189 rfl ty4 rfl rfl hlt
      have p2 := p2 hh fun _ _ _ _ _ => rfl
      (repeat refine WC.seq ?_)
      refine WC.block ?_
      ((repeat refine WC.seq ?_); refine WC.run ?_)
      (try simp only [wk, wl, wx, reduceLT, reduceEqDiff, Nat.reduceBEq, reduceIte, t6, t8, p1, p2])
      ((repeat refine WC.seq ?_); refine WC.run ?_)
      (try simp only [wk, wl, wx, reduceLT, reduceEqDiff, Nat.reduceBEq, reduceIte])
      (repeat refine WC.seq ?_)
      rcases Bool.eq_false_or_eq_true [a, b][i] with hb | hb
      · refine WC.cond (b := true) (by (try simp only [wk, wl, wx, reduceLT, reduceEqDiff, Nat.reduceBEq, reduceIte, hb]); (try simp); (try omega)) ?_
        ((repeat refine WC.seq ?_); refine WC.run ?_)
        (try simp only [wk, wl, wx, reduceLT, reduceEqDiff, Nat.reduceBEq, reduceIte, t3, i64, bin_shl (Int.natCast_nonneg i), bin_or])
        ((repeat refine WC.seq ?_); refine WC.run ?_)
        (try simp only [wk, wl, wx, reduceLT, reduceEqDiff, Nat.reduceBEq, reduceIte, t8, bin_add])
        refine ⟨_, ?_, _, i + 1, rfl, by trivial, rfl, by omega, ?_⟩
        · omega
        (try simp only [wk, wl, wx, reduceLT, reduceEqDiff, Nat.reduceBEq, reduceIte, t6, t7, bit_in hlt hb])
        refine ⟨trivial, trivial, ?_, by trivial⟩
        rw [wrap64 (by omega) (by omega)]; rfl
      · refine WC.cond (b := false) (by (try simp only [wk, wl, wx, reduceLT, reduceEqDiff, Nat.reduceBEq, reduceIte, hb]); (try simp); (try omega)) (WC.skip ?_)
        (try simp only [wk, wl, wx, reduceLT, reduceEqDiff, Nat.reduceBEq, reduceIte])
        ((repeat refine WC.seq ?_); refine WC.run ?_)
        (try simp only [wk, wl, wx, reduceLT, reduceEqDiff, Nat.reduceBEq, reduceIte, t8, bin_add])
        refine ⟨_, ?_, _, i + 1, rfl, by trivial, rfl, by omega, ?_⟩
        · omega
        (try simp only [wk, wl, wx, reduceLT, reduceEqDiff, Nat.reduceBEq, reduceIte, t6, t7, t3, bit_out hlt hb])
        refine ⟨trivial, trivial, ?_, by trivial⟩
        rw [wrap64 (by omega) (by omega)]; rfl
    · refine WC.cond (b := false) (by (try simp only [wk, wl, wx, reduceLT, reduceEqDiff, Nat.reduceBEq, reduceIte]); (try simp); (try omega)) (WC.exit ?_)
      have : i = 2 := by omega
      subst this
      (try simp only [wk, wl, wx, reduceLT, reduceEqDiff, Nat.reduceBEq, reduceIte])
      ((repeat refine WC.seq ?_); refine WC.run ?_)
      (try simp only [wk, wl, wx, reduceLT, reduceEqDiff, Nat.reduceBEq, reduceIte, t3])
      refine WC.ret ?_
      (try simp only [wk, wl, wx, reduceLT, reduceEqDiff, Nat.reduceBEq, reduceIte])
      exact ⟨by simp, trivial⟩
  all_goals (try simp only [wk, wl, wx, reduceLT, reduceEqDiff, Nat.reduceBEq, reduceIte])
  all_goals (first | trivial | rfl | simp [bitsI])

abbrev Sx (n0 m q : Nat) : Nat → Prop := fun b => n0 ≤ b ∧ b < m ∧ b ≠ q
theorem Wr.lim {h : H} {n0 q wb : Nat} {xs : List UInt8} (w : Wr g h (fun b => n0 ≤ b ∧ b ≠ q) wb xs) : Wr g h (Sx n0 h.next q) wb xs := w.sub fun b hb hs => ⟨hs.1, hb, hs.2⟩

theorem texts1_ok {h h1 : H} {n0 q wb : Nat} {xs : List UInt8} {ls : V} {L : List (List UInt8)} (w : Wr g h (Sx n0 h.next q) wb xs) (hwb : n0 ≤ wb) (hwb2 : wb < h.next) (hq : q < h.next) (f1 : Fix (· < h.next) h h1) (hl : Ss g h1 ls L) (hin : In (fun b => b < h1.next ∧ b ≠ wb ∧ (b < n0 ∨ h.next ≤ b ∨ b = q)) ls)
    (hb : ∀ p ∈ L, p.length ≤ 2 ^ 20) (hL : L.length ≤ 2 ^ 12) (hx : xs.length ≤ 2 ^ 36) :
    WF (E g) 47 [.ptr wb 0, ls] h1 fun _ h' => Wr g h' (Sx n0 h'.next q) wb (xs ++ txtB L) ∧ Fix (fun b => b < h.next ∧ (b < n0 ∨ b = q) ∧ b ≠ wb) h h' := by
  have x1 := f1.next
  refine (texts_ok (w.fix f1 hwb2 fun b hb _ => hb) (by omega) hl (hin.sub fun b hb => ⟨hb.1, hb.2.1, fun hs => by omega⟩) hb (fun b hs => by omega) hL hx).mono fun v h' ⟨w2, f2⟩ => ?_
  exact ⟨w2.sub fun b hb hs => ⟨by omega, hb, by omega⟩, ⟨by have := f2.next; omega, fun b hb => by rw [f2.same b ⟨by omega, hb.2.2, fun hs => by omega⟩, f1.same b hb.1]⟩⟩
theorem bytes1_ok {h h1 : H} {n0 q wb : Nat} {xs : List UInt8} {ls : V} {L : List (V × List UInt8)} (w : Wr g h (Sx n0 h.next q) wb xs) (hwb : n0 ≤ wb) (hwb2 : wb < h.next) (hq : q < h.next) (f1 : Fix (· < h.next) h h1) (hl : Vs (E g) h1 (fun p => p.1) ls L) (hin : In (fun b => b < h1.next ∧ b ≠ wb ∧ (b < n0 ∨ h.next ≤ b ∨ b = q)) ls)
    (hb : ∀ p ∈ L, Bs g h1 p.1 p.2 ∧ In (fun b => b < h1.next ∧ b ≠ wb ∧ (b < n0 ∨ h.next ≤ b ∨ b = q)) p.1 ∧ p.2.length ≤ 2 ^ 30) (hL : L.length ≤ 64) (hx : xs.length ≤ 2 ^ 37) :
    WF (E g) 48 [.ptr wb 0, ls] h1 fun _ h' => Wr g h' (Sx n0 h'.next q) wb (xs ++ bytB L) ∧ Fix (fun b => b < h.next ∧ (b < n0 ∨ b = q) ∧ b ≠ wb) h h' := by
  have x1 := f1.next
  refine (bytes_ok (w.fix f1 hwb2 fun b hb _ => hb) (by omega) hl (hin.sub fun b hb => ⟨hb.1, hb.2.1, fun hs => by omega⟩) (fun p hp => ⟨(hb p hp).1, (hb p hp).2.1.sub fun b hb => ⟨hb.1, hb.2.1, fun hs => by omega⟩, (hb p hp).2.2⟩) (fun b hs => by omega) hL hx).mono fun v h' ⟨w2, f2⟩ => ?_
  exact ⟨w2.sub fun b hb hs => ⟨by omega, hb, by omega⟩, ⟨by have := f2.next; omega, fun b hb => by rw [f2.same b ⟨by omega, hb.2.2, fun hs => by omega⟩, f1.same b hb.1]⟩⟩
theorem numbers1_ok {h h1 : H} {n0 q wb : Nat} {xs : List UInt8} {ls : V} {L : List Int} (w : Wr g h (Sx n0 h.next q) wb xs) (hwb : n0 ≤ wb) (hwb2 : wb < h.next) (hq : q < h.next) (f1 : Fix (· < h.next) h h1) (hl : Is g h1 ls L) (hin : In (fun b => b < h1.next ∧ b ≠ wb ∧ (b < n0 ∨ h.next ≤ b ∨ b = q)) ls)
    (hx : xs.length + 8 * L.length ≤ 2 ^ 38) :
    WF (E g) 49 [.ptr wb 0, ls] h1 fun _ h' => Wr g h' (Sx n0 h'.next q) wb (xs ++ numB L) ∧ Fix (fun b => b < h.next ∧ (b < n0 ∨ b = q) ∧ b ≠ wb) h h' := by
  have x1 := f1.next
  refine (numbers_ok (w.fix f1 hwb2 fun b hb _ => hb) (by omega) hl (hin.sub fun b hb => ⟨hb.1, hb.2.1, fun hs => by omega⟩) hx).mono fun v h' ⟨w2, f2⟩ => ?_
  exact ⟨w2.sub fun b hb hs => ⟨by omega, hb, by omega⟩, ⟨by have := f2.next; omega, fun b hb => by rw [f2.same b ⟨by omega, hb.2.2, fun hs => by omega⟩, f1.same b hb.1]⟩⟩
end Go.Proofs.OP

set_option linter.unusedSimpArgs false
namespace Go.Proofs.OP
open Go Go.Ev
open Go.Proofs
open Nat (reduceLT reduceEqDiff)

theorem orE_zero {a b : Int} : orE a b = 0 ↔ a = 0 ∧ b = 0 := by
  unfold orE
  by_cases h : a = 0
  · simp [h]
  · simp [h]
structure Small (o : ObjD) : Prop where
  name : o.name.length ≤ 64
  entry : o.entry.length ≤ 64
  code : o.code.length ≤ 16384
  data : o.data.length ≤ 16384
  syms : o.syms.length ≤ 500
  rels : o.rels.length ≤ 1000
  needs : o.needs.length ≤ 20
  sname : ∀ s ∈ o.syms, s.name.length ≤ 64
  rname : ∀ r ∈ o.rels, r.sym.length ≤ 64
  nname : ∀ n ∈ o.needs, n.length ≤ 64
theorem nameE_len {s : List UInt8} (h : nameE s = 0) : s.length ≤ 64 := by
  unfold nameE at h
  split at h
  · omega
  · split at h <;> omega
theorem nameT_len {s : List UInt8} (h : nameT s = 0) : s.length ≤ 64 := by
  unfold nameT at h; split at h <;> omega
theorem symsE_zero {o : ObjD} : ∀ {L p : List SymD}, symsE o p L = 0 → ∀ s ∈ L, ∃ b, symE o s b = 0
  | [], _, _, s, hs => by cases hs
  | x :: r, p, h, s, hs => by
    simp only [symsE, orE_zero] at h
    rcases List.mem_cons.1 hs with rfl | hs
    · exact ⟨_, h.1⟩
    · exact symsE_zero h.2 s hs
theorem relsE_zero {o : ObjD} : ∀ {L p : List RelD}, relsE o p L = 0 → ∀ s ∈ L, ∃ p, relE o p (hasN s.sym o.syms) s = 0
  | [], _, _, s, hs => by cases hs
  | x :: r, p, h, s, hs => by
    simp only [relsE, orE_zero] at h
    rcases List.mem_cons.1 hs with rfl | hs
    · exact ⟨_, h.1⟩
    · exact relsE_zero h.2 s hs
theorem needsE_zero : ∀ {L p : List (List UInt8)}, needsE p L = 0 → ∀ s ∈ L, nameE s = 0
  | [], _, _, s, hs => by cases hs
  | x :: r, p, h, s, hs => by
    simp only [needsE, orE_zero] at h
    rcases List.mem_cons.1 hs with rfl | hs
    · exact h.1
    · exact needsE_zero h.2.2 s hs
theorem symE_name {o : ObjD} {s : SymD} {b : Bool} (h : symE o s b = 0) : nameE s.name = 0 := by
  unfold symE at h
  split at h
  · rename_i q; exact absurd h q
  · rename_i q; omega
theorem small_of {o : ObjD} (h : checkE o = 0) : Small o := by
  simp only [checkE, orE_zero, namesT] at h
  obtain ⟨h1, ⟨h2, h3, -⟩, h4, h5, h6, -⟩ := h
  have hs : ∀ s ∈ o.syms, s.name.length ≤ 64 := fun s hs => by obtain ⟨b, hb⟩ := symsE_zero h4 s hs; exact nameE_len (symE_name hb)
  have hl : ∀ p ∈ lims o, p.1 ≤ p.2 := fun p hp => by
    unfold limE at h1
    cases ha : (lims o).any fun p => decide (p.2 < p.1) with
    | true => rw [ha] at h1; simp at h1
    | false =>
      rw [List.any_eq_false] at ha
      have := ha p hp
      simp only [decide_eq_true_eq] at this
      omega
  simp only [lims, List.mem_cons, List.not_mem_nil, or_false, forall_eq_or_imp, forall_eq] at hl
  refine ⟨nameT_len h2, nameT_len h3, by omega, by omega, by omega, by omega, by omega, hs, fun r hr => ?_, fun n hn => nameE_len (needsE_zero h6 n hn)⟩
  obtain ⟨p, hp⟩ := relsE_zero h5 r hr
  have hk : hasN r.sym o.syms = true := by
    cases hk : hasN r.sym o.syms with
    | true => rfl
    | false =>
      rw [hk] at hp
      unfold relE at hp
      split at hp
      · omega
      · split at hp
        · omega
        · simp at hp
  unfold hasN at hk
  cases hf : fnd r.sym o.syms with
  | none => rw [hf] at hk; cases hk
  | some j =>
    obtain ⟨q1, q2⟩ := fnd_some hf
    rw [← q2]; exact hs _ (List.getElem_mem q1)
end Go.Proofs.OP
