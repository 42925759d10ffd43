/- Walks: Decode. Printed by gen27.py. -/
import Derived.Test.YtloblhhnlaaajaaGreatDoorB13
import Derived.Test.YtloblhhnlaaajaaGreatDoorC25
import Derived.Test.YtloblhhnlaaajaaGreatDoorC21
set_option linter.unusedVariables false
set_option linter.unusedSimpArgs false
set_option linter.defProp false
set_option linter.unusedSimpArgs false
namespace Go.Proofs.OP
open Go Go.Ev
open Go.Proofs
open Nat (reduceLT reduceEqDiff)
variable {g : T (List V)}

def listR {α : Type} (f : RdS → α × RdS) (k : Nat) (s : RdS) : RdS × List α := eachR (fun x => x.1) (adv f) k (numR s).1 ((numR s).2, [])
def d1R (s : RdS) : RdS := (bytR s).2
theorem d1R_le (s : RdS) : (d1R s).xs.length ≤ s.xs.length := bytR_le s
def d3R (s : RdS) : RdS := d1R (d1R (d1R s))
def symsR (k : Nat) (s : RdS) : RdS × List SymD := listR symR k (d3R s)
def relsR (k : Nat) (s : RdS) : RdS × List RelD := listR relR k (symsR k s).1
def needsR (k : Nat) (s : RdS) : RdS × List (List UInt8) := listR bytR k (relsR k s).1
def objR (k : Nat) (s : RdS) : ObjD × Bool := (⟨(bytR s).1, (bytR (d1R s)).1, (bytR (d1R (d1R s))).1, (symsR k s).2, (relsR k s).2, (needsR k s).2, (bytR (needsR k s).1).1⟩, (bytR (needsR k s).1).2.bad)
def zeroO : ObjD := ⟨[], [], [], [], [], [], []⟩
def decP (b : List UInt8) : ObjD × Int :=
  if openE 0 b ≠ 0 then (zeroO, openE 0 b)
  else if (objR b.length ⟨inner b, false⟩).2 = true ∨ checkE (objR b.length ⟨inner b, false⟩).1 ≠ 0 ∨ encB (objR b.length ⟨inner b, false⟩).1 ≠ b then (zeroO, 12)
  else ((objR b.length ⟨inner b, false⟩).1, 0)
theorem build77_0 : buildV (E g) 35 [] = some (.agg [.str [], .nils, .nils, .nils, .nils, .nils, .str []]) := by
  simp only [buildV, ty35, fillAll, List.all_cons, List.all_nil, ty9, ty22, ty32, ty33, ty25, Option.isSome_some, Bool.and_true, Bool.not_true, cond_false]
  rfl
theorem build77_3 {n : List UInt8} {x y : V} (hx : x.cells = [x]) (hy : y.cells = [y]) : buildV (E g) 35 [(0, .str n), (1, x), (2, y)] = some (.agg [.str n, x, y, .nils, .nils, .nils, .str []]) := by
  simp only [buildV, ty35, fillAll, nth, sizeOf_of ty9, sizeOf_of ty22, hx, hy, List.all_cons, List.all_nil, ty9, ty22, ty32, ty33, ty25, Option.isSome_some, Bool.and_true, Bool.not_true, cond_false]
  rfl
theorem zeroO_ob {h : H} {K : Nat → Prop} : Ob g h K ⟨.nils, .nils, .nils, .nils, .nils⟩ zeroO := ⟨Sl.nil, Sl.nil, Sl.nil, Sl.nil, Sl.nil, In.nils, In.nils, In.nils, In.nils, In.nils⟩
theorem NewBs.keep {h h1 h2 : H} {K : Nat → Prop} {v : V} {xs : List UInt8} (a : NewBs g h h1 v xs) (f : Fix K h1 h2) (hK : ∀ b, h.next ≤ b → b < h1.next → K b) : NewBs g h h2 v xs :=
  ⟨Sl.fix a.1 (a.2.sub fun b hb => hK b hb.1 hb.2) f, a.2.sub fun b hb => ⟨hb.1, by have := f.next; omega⟩⟩
theorem encB_len {o : ObjD} (sm : Small o) : (encB o).length ≤ 500000 := by
  have s1 := sm.name
  have s2 := sm.entry
  have s3 := sm.code
  have s4 := sm.data
  have s5 := sm.syms
  have s6 := sm.rels
  have s7 := sm.needs
  have a1 : (o.syms.flatMap symB).length ≤ 96 * o.syms.length := flatB_len fun x hx => by
    have := sm.sname x hx
    simp only [symB, List.length_append, txt1_len, numB_length, List.length_cons, List.length_nil]; omega
  have a2 : (o.rels.flatMap relB).length ≤ 104 * o.rels.length := flatB_len fun x hx => by
    have := sm.rname x hx
    simp only [relB, List.length_append, txt1_len, numB_length, List.length_cons, List.length_nil]; omega
  have a3 : (txtB o.needs).length ≤ 72 * o.needs.length := txtB_length (B := 64) fun p hp => sm.nname p hp
  simp only [encB, sealB, encP, List.length_append, leB_length, txt1_len, txt2_len, numB_length, magB_len, List.length_cons, List.length_nil]
  omega
theorem wrap_lt (n : Int) : IntKind.i64.wrap n < 9223372036854775808 := by
  unfold IntKind.wrap
  simp only [IntKind.bits, IntKind.signed, Bool.true_and]
  split <;> rename_i h <;> simp at h <;> omega
theorem numR_lt (s : RdS) : (numR s).1 < 2 ^ 63 := by
  unfold numR; split
  · show (0 : Int) < _; omega
  · have := wrap_lt ((leN (s.xs.take 8) : Nat) : Int)
    show IntKind.i64.wrap _ < _; omega
theorem dec_of {α : Type} {f : RdS → α × RdS} (hf : ∀ {s : RdS}, (f s).2.bad = false → s.bad = false ∧ (f s).2.xs.length < s.xs.length) (s : RdS × List α) : (adv f s).1.bad = true ∨ (adv f s).1.xs.length < s.1.xs.length := by
  cases h : (f s.1).2.bad with
  | true => exact .inl h
  | false => exact .inr (hf h).2
theorem inner_len8 {b : List UInt8} (h : openE 0 b = 0) : 8 ≤ b.length ∧ (inner b).length + 8 ≤ b.length := by
  unfold openE at h
  split at h
  · cases h
  · rename_i q
    have h8 : 8 ≤ b.length := by omega
    exact ⟨h8, by unfold inner; simp; omega⟩
theorem inner_len (b : List UInt8) : (inner b).length ≤ b.length := by unfold inner; simp; omega


set_option maxRecDepth 100000 in
set_option maxHeartbeats 8000000 in
theorem decode_ok {h : H} {s : V} {b : List UInt8} (hg : g.get 0 = some magG) (hb : Bs g h s b) (hs : In (· < h.next) s) (hn : NotG s) (hlen : b.length < 2 ^ 38) :
    WF (E g) 13 [s] h fun v h' => Kept h h' ∧ ∃ c, v = .tuple [.agg (c.cells (decP b).1), i64 (decP b).2] ∧ Ob g h' (fun b => h.next ≤ b ∧ b < h'.next) c (decP b).1 := by
  refine WF.enter fn13 rfl ?_
  ((repeat refine WC.seq ?_); refine WC.run ?_)
  (try simp only [wk, wl, wx, reduceLT, reduceEqDiff, Nat.reduceBEq, reduceIte])
  refine wop_alloc ty35 ?_
  intro h1 b1 n1 f1
  have b1 : Has h1 h.next [.str [], .nils, .nils, .nils, .nils, .nils, .str []] := b1
  (try simp only [wk, wl, wx, reduceLT, reduceEqDiff, Nat.reduceBEq, reduceIte])
  have hb1 := Sl.fix hb hs f1
  have hs1 : In (· < h1.next) s := hs.sub fun x hx => by omega
  ((repeat refine WC.seq ?_); refine WC.run ?_)
  (try simp only [wk, wl, wx, reduceLT, reduceEqDiff, Nat.reduceBEq, reduceIte])
  refine (opened_ok (k := 0) hg (by decide) hb1 hs1 hn (by omega)).mono fun v h2 ⟨F2, c1, c2⟩ => ?_
  have x2 := F2.next
  have b2 := b1.fix F2 (by omega)
  rcases (Decidable.em (openE 0 b = 0)).symm with hoe | hoe
  · have hv := c1 hoe
    subst hv
    (try simp only [wk, wl, wx, reduceLT, reduceEqDiff, Nat.reduceBEq, reduceIte])
    refine wop_alloc ty119 ?_
    intro h3 b3 n3 f3
    (try simp only [wk, wl, wx, reduceLT, reduceEqDiff, Nat.reduceBEq, reduceIte])
    refine sat_store b3 ty119 rfl (Nat.le_refl 1) rfl ?_
    intro h4 b4 n4 f4
    have b4 := (b2.fix f3 (by omega)).fix f4 (by omega)
    (try simp only [wk, wl, wx, reduceLT, reduceEqDiff, Nat.reduceBEq, reduceIte, i64])
    ((repeat refine WC.seq ?_); refine WC.run ?_)
    (try simp only [wk, wl, wx, reduceLT, reduceEqDiff, Nat.reduceBEq, reduceIte, i64])
    (repeat refine WC.seq ?_)
    refine WC.cond (b := true) (by (try simp only [wk, wl, wx, reduceLT, reduceEqDiff, Nat.reduceBEq, reduceIte, hoe]); (try simp); (try omega)) ?_
    ((repeat refine WC.seq ?_); refine WC.run ?_)
    (try simp only [wk, wl, wx, reduceLT, reduceEqDiff, Nat.reduceBEq, reduceIte, build77_0])
    refine sat_store b4 ty35 rfl (Nat.le_refl 7) rfl ?_
    intro h5 b5 n5 f5
    have l5 : loadP (E g) h5 35 (.ptr h.next 0) = some (.agg [.str [], .nils, .nils, .nils, .nils, .nils, .str []]) := b5.agg ty35 rfl (Nat.le_refl 7)
    (try simp only [wk, wl, wx, reduceLT, reduceEqDiff, Nat.reduceBEq, reduceIte])
    refine WC.ret ?_
    (try simp only [wk, wl, wx, reduceLT, reduceEqDiff, Nat.reduceBEq, reduceIte, l5])
    have hd : decP b = (zeroO, openE 0 b) := by unfold decP; rw [if_pos hoe]
    rw [hd]
    exact ⟨⟨by omega, fun c hc => by rw [f5.same c (by omega), f4.same c (by omega), f3.same c (by omega), F2.same c (by omega), f1.same c hc]⟩, ⟨.nils, .nils, .nils, .nils, .nils⟩, rfl, zeroO_ob⟩
  · obtain ⟨rb, e, w1, w2, r2⟩ := c2 hoe
    subst e
    (try simp only [wk, wl, wx, reduceLT, reduceEqDiff, Nat.reduceBEq, reduceIte])
    refine wop_alloc ty119 ?_
    intro h3 b3 n3 f3
    (try simp only [wk, wl, wx, reduceLT, reduceEqDiff, Nat.reduceBEq, reduceIte])
    refine sat_store b3 ty119 rfl (Nat.le_refl 1) rfl ?_
    intro h4 b4 n4 f4
    have v4 : Has h4 h2.next [.ptr rb 0] := b4
    have b4 := (b2.fix f3 (by omega)).fix f4 (by omega)
    have r4 := (r2.fix f3 (by omega) (fun b hb => by omega)).fix f4 (by omega) (fun b hb => by omega)
    have F4 : Fix (· < h2.next) h2 h4 := f3.trans (f4.sub fun b hb => by omega)
    have hb4 := Sl.fix (Sl.fix hb1 hs1 F2) (hs1.sub fun b hb => by omega) F4
    obtain ⟨vb, hvb⟩ : ∃ vb, vb = h2.next := ⟨_, rfl⟩
    rw [← hvb] at v4
    rw [← hvb]
    (try simp only [wk, wl, wx, reduceLT, reduceEqDiff, Nat.reduceBEq, reduceIte, i64])
    ((repeat refine WC.seq ?_); refine WC.run ?_)
    (try simp only [wk, wl, wx, reduceLT, reduceEqDiff, Nat.reduceBEq, reduceIte, i64])
    (repeat refine WC.seq ?_)
    refine WC.cond (b := false) (by (try simp only [wk, wl, wx, reduceLT, reduceEqDiff, Nat.reduceBEq, reduceIte]); (try simp); (try omega)) (WC.skip ?_)
    (try simp only [wk, wl, wx, reduceLT, reduceEqDiff, Nat.reduceBEq, reduceIte])
    have hil := inner_len b
    have hil8 := inner_len8 hoe
    generalize hp0 : (⟨inner b, false⟩ : RdS) = p0 at r4
    have lp0 : p0.xs.length + 8 ≤ b.length := by rw [← hp0]; exact hil8.2
    (repeat refine WC.seq ?_)
    refine WC.mono (Q := fun e fr hh => e = .normal ∧ ∃ ts q cv dv, fr = ⟨ts, 57, [], 13, none⟩ ∧ ts.get 0 = some s ∧ ts.get 2 = some (.ptr h.next 0) ∧ ts.get 4 = some (.ptr vb 0) ∧ ts.get 6 = some (.ptr q 0) ∧ h4.next ≤ q ∧ q < hh.next ∧ Has hh q [.str (bytR p0).1, cv, dv, .nils, .nils, .nils, .str []] ∧
      Bs g hh cv (bytR (d1R p0)).1 ∧ In (fun b => h4.next ≤ b ∧ b < hh.next ∧ b ≠ q) cv ∧ Bs g hh dv (bytR (d1R (d1R p0))).1 ∧ In (fun b => h4.next ≤ b ∧ b < hh.next ∧ b ≠ q) dv ∧ Rd g hh (· < h1.next) rb (d3R p0) ∧ Fix (fun b => b < h4.next ∧ b ≠ rb) h4 hh) (WC.draw (plans := pl13_4) (by kernel_rfl) ?_) ?_
    · have v0 := v4
      have r0 := r4
      have vA := v4
      have F0 := Fix.refl (fun b => b < h4.next ∧ b ≠ rb) h4
      intro p hp
      simp only [pl13_4, List.mem_cons, List.not_mem_nil, or_false] at hp
      rcases hp with rfl | rfl | rfl | rfl
      · (try simp (maxSteps := 2000000) only [wk, wl, wx, reduceLT, reduceEqDiff, Nat.reduceBEq, reduceIte, wd, Chk, and_true, true_and, v0.at ty119 rfl])
        refine (rtext_ok r0 (by omega) (fun x hx => by omega) (by omega) (by omega)).mono fun v k1 ⟨ek1, rk1, fk1⟩ => ?_
        subst ek1
        have xk1 := fk1.next
        have lk1 := d1R_le p0
        have rk1 : Rd g k1 (· < h1.next) rb (d1R p0) := rk1
        have Fk1 : Fix (fun b => b < h4.next ∧ b ≠ rb) h4 k1 := F0.trans (fk1.sub fun b hb => ⟨by omega, hb.2⟩)
        have vk1 := vA.fix Fk1 ⟨by omega, by omega⟩
        (try simp (maxSteps := 2000000) only [wk, wl, wx, reduceLT, reduceEqDiff, Nat.reduceBEq, reduceIte, wd, Chk, and_true, true_and, vk1.at ty119 rfl])
        refine (rbytes_ok rk1 (by omega) (fun x hx => by omega) (by omega) (by omega)).mono fun cv k2 ⟨cvk2, rk2, fk2⟩ => ?_
        have xk2 := fk2.next
        have lk2 := d1R_le (d1R p0)
        have rk2 : Rd g k2 (· < h1.next) rb (d1R (d1R p0)) := rk2
        have Fk2 : Fix (fun b => b < h4.next ∧ b ≠ rb) h4 k2 := Fk1.trans (fk2.sub fun b hb => ⟨by omega, hb.2⟩)
        have vk2 := vA.fix Fk2 ⟨by omega, by omega⟩
        have incv := cvk2.2
        (try simp (maxSteps := 2000000) only [wk, wl, wx, reduceLT, reduceEqDiff, Nat.reduceBEq, reduceIte, wd, Chk, and_true, true_and, vk2.at ty119 rfl])
        refine (rbytes_ok rk2 (by omega) (fun x hx => by omega) (by omega) (by omega)).mono fun dv k3 ⟨dvk3, rk3, fk3⟩ => ?_
        have xk3 := fk3.next
        have lk3 := d1R_le (d1R (d1R p0))
        have rk3 : Rd g k3 (· < h1.next) rb (d1R (d1R (d1R p0))) := rk3
        have Fk3 : Fix (fun b => b < h4.next ∧ b ≠ rb) h4 k3 := Fk2.trans (fk3.sub fun b hb => ⟨by omega, hb.2⟩)
        have vk3 := vA.fix Fk3 ⟨by omega, by omega⟩
        have indv := dvk3.2
        have cvk3 := cvk2.keep fk3 (fun b k1 k2 => ⟨by omega, by omega⟩)
        (try simp (maxSteps := 2000000) only [wk, wl, wx, reduceLT, reduceEqDiff, Nat.reduceBEq, reduceIte, wd, Chk, and_true, true_and, vk3.at ty119 rfl, build77_3 (Sl.one cvk3.1).1 (Sl.one dvk3.1).1])
        refine wop_alloc ty35 ?_
        intro k4 qk4 nk4 fk4
        have xk4 := fk4.next
        have Fk4 : Fix (fun b => b < h4.next ∧ b ≠ rb) h4 k4 := Fk3.trans (fk4.sub fun b hb => by omega)
        have vk4 := vA.fix Fk4 ⟨by omega, by omega⟩
        have rk4 := rk3.fix fk4 (by omega) (fun b hb => by omega)
        have cvk4 := cvk3.keep fk4 (fun b k1 k2 => by omega)
        have dvk4 := dvk3.keep fk4 (fun b k1 k2 => by omega)
        (try simp (maxSteps := 2000000) only [wk, wl, wx, reduceLT, reduceEqDiff, Nat.reduceBEq, reduceIte, wd, Chk, and_true, true_and, vk4.at ty119 rfl, build77_3 (Sl.one cvk4.1).1 (Sl.one dvk4.1).1])
        refine sat_store qk4 ty35 rfl (Nat.le_refl 7) (by simp only [V.cells, List.all_cons, List.all_nil, (Sl.one cvk4.1).2, (Sl.one dvk4.1).2, Bool.and_true]; rfl) ?_
        intro hs qs ns fs
        (try simp (maxSteps := 2000000) only [wk, wl, wx, reduceLT, reduceEqDiff, Nat.reduceBEq, reduceIte, wd, Chk, and_true, true_and])
        refine ⟨_, k3.next, cv, dv, rfl, ?_, ?_, ?_, ?_, by omega, by omega, qs, Sl.fix cvk4.1 (K := (· ≠ k3.next)) (incv.sub fun b hb => by omega) fs, incv.sub fun b hb => by omega, Sl.fix dvk4.1 (K := (· ≠ k3.next)) (indv.sub fun b hb => by omega) fs, indv.sub fun b hb => by omega, rk4.fix fs (by omega) (fun b hb => by omega), Fk4.trans (fs.sub fun b hb => by omega)⟩
        all_goals (try simp only [wk, wl, wx, reduceLT, reduceEqDiff, Nat.reduceBEq, reduceIte])
      · (try simp (maxSteps := 2000000) only [wk, wl, wx, reduceLT, reduceEqDiff, Nat.reduceBEq, reduceIte, wd, Chk, and_true, true_and, v0.at ty119 rfl])
        refine (rtext_ok r0 (by omega) (fun x hx => by omega) (by omega) (by omega)).mono fun v k1 ⟨ek1, rk1, fk1⟩ => ?_
        subst ek1
        have xk1 := fk1.next
        have lk1 := d1R_le p0
        have rk1 : Rd g k1 (· < h1.next) rb (d1R p0) := rk1
        have Fk1 : Fix (fun b => b < h4.next ∧ b ≠ rb) h4 k1 := F0.trans (fk1.sub fun b hb => ⟨by omega, hb.2⟩)
        have vk1 := vA.fix Fk1 ⟨by omega, by omega⟩
        (try simp (maxSteps := 2000000) only [wk, wl, wx, reduceLT, reduceEqDiff, Nat.reduceBEq, reduceIte, wd, Chk, and_true, true_and, vk1.at ty119 rfl])
        refine (rbytes_ok rk1 (by omega) (fun x hx => by omega) (by omega) (by omega)).mono fun cv k2 ⟨cvk2, rk2, fk2⟩ => ?_
        have xk2 := fk2.next
        have lk2 := d1R_le (d1R p0)
        have rk2 : Rd g k2 (· < h1.next) rb (d1R (d1R p0)) := rk2
        have Fk2 : Fix (fun b => b < h4.next ∧ b ≠ rb) h4 k2 := Fk1.trans (fk2.sub fun b hb => ⟨by omega, hb.2⟩)
        have vk2 := vA.fix Fk2 ⟨by omega, by omega⟩
        have incv := cvk2.2
        (try simp (maxSteps := 2000000) only [wk, wl, wx, reduceLT, reduceEqDiff, Nat.reduceBEq, reduceIte, wd, Chk, and_true, true_and, vk2.at ty119 rfl])
        refine wop_alloc ty35 ?_
        intro k3 qk3 nk3 fk3
        have xk3 := fk3.next
        have Fk3 : Fix (fun b => b < h4.next ∧ b ≠ rb) h4 k3 := Fk2.trans (fk3.sub fun b hb => by omega)
        have vk3 := vA.fix Fk3 ⟨by omega, by omega⟩
        have rk3 := rk2.fix fk3 (by omega) (fun b hb => by omega)
        have cvk3 := cvk2.keep fk3 (fun b k1 k2 => by omega)
        (try simp (maxSteps := 2000000) only [wk, wl, wx, reduceLT, reduceEqDiff, Nat.reduceBEq, reduceIte, wd, Chk, and_true, true_and, vk3.at ty119 rfl])
        refine (rbytes_ok rk3 (by omega) (fun x hx => by omega) (by omega) (by omega)).mono fun dv k4 ⟨dvk4, rk4, fk4⟩ => ?_
        have xk4 := fk4.next
        have lk4 := d1R_le (d1R (d1R p0))
        have rk4 : Rd g k4 (· < h1.next) rb (d1R (d1R (d1R p0))) := rk4
        have Fk4 : Fix (fun b => b < h4.next ∧ b ≠ rb) h4 k4 := Fk3.trans (fk4.sub fun b hb => ⟨by omega, hb.2⟩)
        have vk4 := vA.fix Fk4 ⟨by omega, by omega⟩
        have indv := dvk4.2
        have qk4 := qk3.fix fk4 ⟨by omega, by omega⟩
        have cvk4 := cvk3.keep fk4 (fun b k1 k2 => ⟨by omega, by omega⟩)
        (try simp (maxSteps := 2000000) only [wk, wl, wx, reduceLT, reduceEqDiff, Nat.reduceBEq, reduceIte, wd, Chk, and_true, true_and, vk4.at ty119 rfl, build77_3 (Sl.one cvk4.1).1 (Sl.one dvk4.1).1])
        refine sat_store qk4 ty35 rfl (Nat.le_refl 7) (by simp only [V.cells, List.all_cons, List.all_nil, (Sl.one cvk4.1).2, (Sl.one dvk4.1).2, Bool.and_true]; rfl) ?_
        intro hs qs ns fs
        (try simp (maxSteps := 2000000) only [wk, wl, wx, reduceLT, reduceEqDiff, Nat.reduceBEq, reduceIte, wd, Chk, and_true, true_and])
        refine ⟨_, k2.next, cv, dv, rfl, ?_, ?_, ?_, ?_, by omega, by omega, qs, Sl.fix cvk4.1 (K := (· ≠ k2.next)) (incv.sub fun b hb => by omega) fs, incv.sub fun b hb => by omega, Sl.fix dvk4.1 (K := (· ≠ k2.next)) (indv.sub fun b hb => by omega) fs, indv.sub fun b hb => by omega, rk4.fix fs (by omega) (fun b hb => by omega), Fk4.trans (fs.sub fun b hb => by omega)⟩
        all_goals (try simp only [wk, wl, wx, reduceLT, reduceEqDiff, Nat.reduceBEq, reduceIte])
      · (try simp (maxSteps := 2000000) only [wk, wl, wx, reduceLT, reduceEqDiff, Nat.reduceBEq, reduceIte, wd, Chk, and_true, true_and, v0.at ty119 rfl])
        refine (rtext_ok r0 (by omega) (fun x hx => by omega) (by omega) (by omega)).mono fun v k1 ⟨ek1, rk1, fk1⟩ => ?_
        subst ek1
        have xk1 := fk1.next
        have lk1 := d1R_le p0
        have rk1 : Rd g k1 (· < h1.next) rb (d1R p0) := rk1
        have Fk1 : Fix (fun b => b < h4.next ∧ b ≠ rb) h4 k1 := F0.trans (fk1.sub fun b hb => ⟨by omega, hb.2⟩)
        have vk1 := vA.fix Fk1 ⟨by omega, by omega⟩
        (try simp (maxSteps := 2000000) only [wk, wl, wx, reduceLT, reduceEqDiff, Nat.reduceBEq, reduceIte, wd, Chk, and_true, true_and, vk1.at ty119 rfl])
        refine wop_alloc ty35 ?_
        intro k2 qk2 nk2 fk2
        have xk2 := fk2.next
        have Fk2 : Fix (fun b => b < h4.next ∧ b ≠ rb) h4 k2 := Fk1.trans (fk2.sub fun b hb => by omega)
        have vk2 := vA.fix Fk2 ⟨by omega, by omega⟩
        have rk2 := rk1.fix fk2 (by omega) (fun b hb => by omega)
        (try simp (maxSteps := 2000000) only [wk, wl, wx, reduceLT, reduceEqDiff, Nat.reduceBEq, reduceIte, wd, Chk, and_true, true_and, vk2.at ty119 rfl])
        refine (rbytes_ok rk2 (by omega) (fun x hx => by omega) (by omega) (by omega)).mono fun cv k3 ⟨cvk3, rk3, fk3⟩ => ?_
        have xk3 := fk3.next
        have lk3 := d1R_le (d1R p0)
        have rk3 : Rd g k3 (· < h1.next) rb (d1R (d1R p0)) := rk3
        have Fk3 : Fix (fun b => b < h4.next ∧ b ≠ rb) h4 k3 := Fk2.trans (fk3.sub fun b hb => ⟨by omega, hb.2⟩)
        have vk3 := vA.fix Fk3 ⟨by omega, by omega⟩
        have incv := cvk3.2
        have qk3 := qk2.fix fk3 ⟨by omega, by omega⟩
        (try simp (maxSteps := 2000000) only [wk, wl, wx, reduceLT, reduceEqDiff, Nat.reduceBEq, reduceIte, wd, Chk, and_true, true_and, vk3.at ty119 rfl])
        refine (rbytes_ok rk3 (by omega) (fun x hx => by omega) (by omega) (by omega)).mono fun dv k4 ⟨dvk4, rk4, fk4⟩ => ?_
        have xk4 := fk4.next
        have lk4 := d1R_le (d1R (d1R p0))
        have rk4 : Rd g k4 (· < h1.next) rb (d1R (d1R (d1R p0))) := rk4
        have Fk4 : Fix (fun b => b < h4.next ∧ b ≠ rb) h4 k4 := Fk3.trans (fk4.sub fun b hb => ⟨by omega, hb.2⟩)
        have vk4 := vA.fix Fk4 ⟨by omega, by omega⟩
        have indv := dvk4.2
        have qk4 := qk3.fix fk4 ⟨by omega, by omega⟩
        have cvk4 := cvk3.keep fk4 (fun b k1 k2 => ⟨by omega, by omega⟩)
        (try simp (maxSteps := 2000000) only [wk, wl, wx, reduceLT, reduceEqDiff, Nat.reduceBEq, reduceIte, wd, Chk, and_true, true_and, vk4.at ty119 rfl, build77_3 (Sl.one cvk4.1).1 (Sl.one dvk4.1).1])
        refine sat_store qk4 ty35 rfl (Nat.le_refl 7) (by simp only [V.cells, List.all_cons, List.all_nil, (Sl.one cvk4.1).2, (Sl.one dvk4.1).2, Bool.and_true]; rfl) ?_
        intro hs qs ns fs
        (try simp (maxSteps := 2000000) only [wk, wl, wx, reduceLT, reduceEqDiff, Nat.reduceBEq, reduceIte, wd, Chk, and_true, true_and])
        refine ⟨_, k1.next, cv, dv, rfl, ?_, ?_, ?_, ?_, by omega, by omega, qs, Sl.fix cvk4.1 (K := (· ≠ k1.next)) (incv.sub fun b hb => by omega) fs, incv.sub fun b hb => by omega, Sl.fix dvk4.1 (K := (· ≠ k1.next)) (indv.sub fun b hb => by omega) fs, indv.sub fun b hb => by omega, rk4.fix fs (by omega) (fun b hb => by omega), Fk4.trans (fs.sub fun b hb => by omega)⟩
        all_goals (try simp only [wk, wl, wx, reduceLT, reduceEqDiff, Nat.reduceBEq, reduceIte])
      · (try simp (maxSteps := 2000000) only [wk, wl, wx, reduceLT, reduceEqDiff, Nat.reduceBEq, reduceIte, wd, Chk, and_true, true_and, v0.at ty119 rfl])
        refine wop_alloc ty35 ?_
        intro k1 qk1 nk1 fk1
        have xk1 := fk1.next
        have Fk1 : Fix (fun b => b < h4.next ∧ b ≠ rb) h4 k1 := F0.trans (fk1.sub fun b hb => by omega)
        have vk1 := vA.fix Fk1 ⟨by omega, by omega⟩
        have rk1 := r0.fix fk1 (by omega) (fun b hb => by omega)
        (try simp (maxSteps := 2000000) only [wk, wl, wx, reduceLT, reduceEqDiff, Nat.reduceBEq, reduceIte, wd, Chk, and_true, true_and, vk1.at ty119 rfl])
        refine (rtext_ok rk1 (by omega) (fun x hx => by omega) (by omega) (by omega)).mono fun v k2 ⟨ek2, rk2, fk2⟩ => ?_
        subst ek2
        have xk2 := fk2.next
        have lk2 := d1R_le p0
        have rk2 : Rd g k2 (· < h1.next) rb (d1R p0) := rk2
        have Fk2 : Fix (fun b => b < h4.next ∧ b ≠ rb) h4 k2 := Fk1.trans (fk2.sub fun b hb => ⟨by omega, hb.2⟩)
        have vk2 := vA.fix Fk2 ⟨by omega, by omega⟩
        have qk2 := qk1.fix fk2 ⟨by omega, by omega⟩
        (try simp (maxSteps := 2000000) only [wk, wl, wx, reduceLT, reduceEqDiff, Nat.reduceBEq, reduceIte, wd, Chk, and_true, true_and, vk2.at ty119 rfl])
        refine (rbytes_ok rk2 (by omega) (fun x hx => by omega) (by omega) (by omega)).mono fun cv k3 ⟨cvk3, rk3, fk3⟩ => ?_
        have xk3 := fk3.next
        have lk3 := d1R_le (d1R p0)
        have rk3 : Rd g k3 (· < h1.next) rb (d1R (d1R p0)) := rk3
        have Fk3 : Fix (fun b => b < h4.next ∧ b ≠ rb) h4 k3 := Fk2.trans (fk3.sub fun b hb => ⟨by omega, hb.2⟩)
        have vk3 := vA.fix Fk3 ⟨by omega, by omega⟩
        have incv := cvk3.2
        have qk3 := qk2.fix fk3 ⟨by omega, by omega⟩
        (try simp (maxSteps := 2000000) only [wk, wl, wx, reduceLT, reduceEqDiff, Nat.reduceBEq, reduceIte, wd, Chk, and_true, true_and, vk3.at ty119 rfl])
        refine (rbytes_ok rk3 (by omega) (fun x hx => by omega) (by omega) (by omega)).mono fun dv k4 ⟨dvk4, rk4, fk4⟩ => ?_
        have xk4 := fk4.next
        have lk4 := d1R_le (d1R (d1R p0))
        have rk4 : Rd g k4 (· < h1.next) rb (d1R (d1R (d1R p0))) := rk4
        have Fk4 : Fix (fun b => b < h4.next ∧ b ≠ rb) h4 k4 := Fk3.trans (fk4.sub fun b hb => ⟨by omega, hb.2⟩)
        have vk4 := vA.fix Fk4 ⟨by omega, by omega⟩
        have indv := dvk4.2
        have qk4 := qk3.fix fk4 ⟨by omega, by omega⟩
        have cvk4 := cvk3.keep fk4 (fun b k1 k2 => ⟨by omega, by omega⟩)
        (try simp (maxSteps := 2000000) only [wk, wl, wx, reduceLT, reduceEqDiff, Nat.reduceBEq, reduceIte, wd, Chk, and_true, true_and, vk4.at ty119 rfl, build77_3 (Sl.one cvk4.1).1 (Sl.one dvk4.1).1])
        refine sat_store qk4 ty35 rfl (Nat.le_refl 7) (by simp only [V.cells, List.all_cons, List.all_nil, (Sl.one cvk4.1).2, (Sl.one dvk4.1).2, Bool.and_true]; rfl) ?_
        intro hs qs ns fs
        (try simp (maxSteps := 2000000) only [wk, wl, wx, reduceLT, reduceEqDiff, Nat.reduceBEq, reduceIte, wd, Chk, and_true, true_and])
        refine ⟨_, h4.next, cv, dv, rfl, ?_, ?_, ?_, ?_, by omega, by omega, qs, Sl.fix cvk4.1 (K := (· ≠ h4.next)) (incv.sub fun b hb => by omega) fs, incv.sub fun b hb => by omega, Sl.fix dvk4.1 (K := (· ≠ h4.next)) (indv.sub fun b hb => by omega) fs, indv.sub fun b hb => by omega, rk4.fix fs (by omega) (fun b hb => by omega), Fk4.trans (fs.sub fun b hb => by omega)⟩
        all_goals (try simp only [wk, wl, wx, reduceLT, reduceEqDiff, Nat.reduceBEq, reduceIte])
    · rintro e fr h5 ⟨rfl, ts, q, cv, dv, rfl, t0, t2, t4, t6, q1, q2, q5, cv5, cw, dv5, dw, r5, F5⟩
      have x5 := F5.next
      have l5 : (d3R p0).xs.length ≤ p0.xs.length := Nat.le_trans (d1R_le _) (Nat.le_trans (d1R_le _) (d1R_le _))
      have v5 := v4.fix F5 ⟨by omega, by omega⟩
      have b5 := b4.fix F5 ⟨by omega, by omega⟩
      have hb5 := Sl.fix hb4 (hs1.sub fun b hb => (⟨by omega, by omega⟩ : b < h4.next ∧ b ≠ rb)) F5
      have D5 : DB h5 h1.next rb vb q := ⟨v5, by omega, by omega, by omega, by omega, by omega, by omega, by omega, by omega⟩
      (try simp only [wk, wl, wx, reduceLT, reduceEqDiff, Nat.reduceBEq, reduceIte])
      ((repeat refine WC.seq ?_); refine WC.run ?_)
      (try simp only [wk, wl, wx, reduceLT, reduceEqDiff, Nat.reduceBEq, reduceIte, t4, t6, v5.at ty119 rfl, w_makeFunc])
      refine (each_ok (rd := fun x => x.1) (step := adv symR) (Inv := fun s h => ∃ yy, DI g h5 h1.next p0.xs.length rb q (fun sv => [.str (bytR p0).1, cv, dv, sv, .nils, .nils, .str []]) 92 5 (fun L => L.flatMap symV) s h yy) (n := (numR (d3R p0)).1) (s := ((numR (d3R p0)).2, [])) (k := b.length)
        ((number_ok r5 (by omega) (fun x hx => by omega) (by omega) (by omega)).mono fun v h' ⟨e, r, f⟩ => ⟨e, .nils, ⟨r, q5.fix f ⟨by omega, by omega⟩, .nil, In.nils, f.sub fun b hb => ⟨hb.1, hb.2.1⟩, by have := numR_le (d3R p0); show (numR (d3R p0)).2.xs.length ≤ _; omega, Nat.zero_le _, fun _ => by have := numR_le (d3R p0); show 0 + (numR (d3R p0)).2.xs.length ≤ _; omega⟩⟩)
        (fun s h i => DI.bad i) (fun s h i hb => sym_ok D5 i (by omega) hb) (fun s _ => dec_of symR_bad s) (by have := numR_le (d3R p0); show (numR (d3R p0)).2.xs.length < _; omega) (numR_lt _)).mono fun _ h6 ⟨sv, i6⟩ => ?_
      have i6 : DI g h5 h1.next p0.xs.length rb q (fun sv => [.str (bytR p0).1, cv, dv, sv, .nils, .nils, .str []]) 92 5 (fun L => L.flatMap symV) (symsR b.length p0) h6 sv := i6
      have r6 := i6.rd
      have q6 : Has h6 q [.str (bytR p0).1, cv, dv, sv, .nils, .nils, .str []] := i6.co
      have x6 := i6.fx.next
      have l6 : (symsR b.length p0).1.xs.length ≤ p0.xs.length := i6.xs
      have v6 := v5.fix i6.fx ⟨by omega, by omega, by omega⟩
      have D6 : DB h6 h1.next rb vb q := ⟨v6, by omega, by omega, by omega, by omega, by omega, by omega, by omega, by omega⟩
      (try simp only [wk, wl, wx, reduceLT, reduceEqDiff, Nat.reduceBEq, reduceIte])
      ((repeat refine WC.seq ?_); refine WC.run ?_)
      (try simp only [wk, wl, wx, reduceLT, reduceEqDiff, Nat.reduceBEq, reduceIte, t4, t6, v6.at ty119 rfl, w_makeFunc])
      refine (each_ok (rd := fun x => x.1) (step := adv relR) (Inv := fun s h => ∃ yy, DI g h6 h1.next p0.xs.length rb q (fun zz => [.str (bytR p0).1, cv, dv, sv, zz, .nils, .str []]) 93 5 (fun L => L.flatMap relV) s h yy) (n := (numR (symsR b.length p0).1).1) (s := ((numR (symsR b.length p0).1).2, [])) (k := b.length)
        ((number_ok r6 (by omega) (fun x hx => by omega) (by omega) (by omega)).mono fun v h' ⟨e, r, f⟩ => ⟨e, .nils, ⟨r, q6.fix f ⟨by omega, by omega⟩, .nil, In.nils, f.sub fun b hb => ⟨hb.1, hb.2.1⟩, by have := numR_le (symsR b.length p0).1; show (numR (symsR b.length p0).1).2.xs.length ≤ _; omega, Nat.zero_le _, fun _ => by have := numR_le (symsR b.length p0).1; show 0 + (numR (symsR b.length p0).1).2.xs.length ≤ _; omega⟩⟩)
        (fun s h i => DI.bad i) (fun s h i hb => rel_ok D6 i (by omega) hb) (fun s _ => dec_of relR_bad s) (by have := numR_le (symsR b.length p0).1; show (numR (symsR b.length p0).1).2.xs.length < _; omega) (numR_lt _)).mono fun _ h7 ⟨rv, i7⟩ => ?_
      have i7 : DI g h6 h1.next p0.xs.length rb q (fun zz => [.str (bytR p0).1, cv, dv, sv, zz, .nils, .str []]) 93 5 (fun L => L.flatMap relV) (relsR b.length p0) h7 rv := i7
      have r7 := i7.rd
      have q7 : Has h7 q [.str (bytR p0).1, cv, dv, sv, rv, .nils, .str []] := i7.co
      have x7 := i7.fx.next
      have l7 : (relsR b.length p0).1.xs.length ≤ p0.xs.length := i7.xs
      have v7 := v6.fix i7.fx ⟨by omega, by omega, by omega⟩
      have D7 : DB h7 h1.next rb vb q := ⟨v7, by omega, by omega, by omega, by omega, by omega, by omega, by omega, by omega⟩
      (try simp only [wk, wl, wx, reduceLT, reduceEqDiff, Nat.reduceBEq, reduceIte])
      ((repeat refine WC.seq ?_); refine WC.run ?_)
      (try simp only [wk, wl, wx, reduceLT, reduceEqDiff, Nat.reduceBEq, reduceIte, t4, t6, v7.at ty119 rfl, w_makeFunc])
      refine (each_ok (rd := fun x => x.1) (step := adv bytR) (Inv := fun s h => ∃ yy, DI g h7 h1.next p0.xs.length rb q (fun zz => [.str (bytR p0).1, cv, dv, sv, rv, zz, .str []]) 9 1 (fun L => L.map V.str) s h yy) (n := (numR (relsR b.length p0).1).1) (s := ((numR (relsR b.length p0).1).2, [])) (k := b.length)
        ((number_ok r7 (by omega) (fun x hx => by omega) (by omega) (by omega)).mono fun v h' ⟨e, r, f⟩ => ⟨e, .nils, ⟨r, q7.fix f ⟨by omega, by omega⟩, .nil, In.nils, f.sub fun b hb => ⟨hb.1, hb.2.1⟩, by have := numR_le (relsR b.length p0).1; show (numR (relsR b.length p0).1).2.xs.length ≤ _; omega, Nat.zero_le _, fun _ => by have := numR_le (relsR b.length p0).1; show 0 + (numR (relsR b.length p0).1).2.xs.length ≤ _; omega⟩⟩)
        (fun s h i => DI.bad i) (fun s h i hb => need_ok D7 i (by omega) hb) (fun s _ => dec_of bytR_bad s) (by have := numR_le (relsR b.length p0).1; show (numR (relsR b.length p0).1).2.xs.length < _; omega) (numR_lt _)).mono fun _ h8 ⟨nv, i8⟩ => ?_
      have i8 : DI g h7 h1.next p0.xs.length rb q (fun zz => [.str (bytR p0).1, cv, dv, sv, rv, zz, .str []]) 9 1 (fun L => L.map V.str) (needsR b.length p0) h8 nv := i8
      have r8 := i8.rd
      have q8 : Has h8 q [.str (bytR p0).1, cv, dv, sv, rv, nv, .str []] := i8.co
      have x8 := i8.fx.next
      have l8 : (needsR b.length p0).1.xs.length ≤ p0.xs.length := i8.xs
      have v8 := v7.fix i8.fx ⟨by omega, by omega, by omega⟩
      have D8 : DB h8 h1.next rb vb q := ⟨v8, by omega, by omega, by omega, by omega, by omega, by omega, by omega, by omega⟩
      (try simp only [wk, wl, wx, reduceLT, reduceEqDiff, Nat.reduceBEq, reduceIte])
      ((repeat refine WC.seq ?_); refine WC.run ?_)
      (try simp only [wk, wl, wx, reduceLT, reduceEqDiff, Nat.reduceBEq, reduceIte, t4, t6, v8.at ty119 rfl])
      refine (rtext_ok r8 (by omega) (fun x hx => by omega) (by omega) (by omega)).mono fun v h9 ⟨e9, r9, f9⟩ => ?_
      subst e9
      have x9 := f9.next
      have q9 := q8.fix f9 ⟨by omega, by omega⟩
      (try simp only [wk, wl, wx, reduceLT, reduceEqDiff, Nat.reduceBEq, reduceIte, t6, fa35_6, Nat.zero_add])
      refine sat_store (o := 6) q9 ty9 rfl (show 6 + 1 ≤ 7 from by decide) rfl ?_
      intro hz qz nz fz
      have c0 : Oc := ⟨cv, dv, sv, rv, nv⟩
      have qz : Has hz q ((⟨cv, dv, sv, rv, nv⟩ : Oc).cells (objR b.length p0).1) := qz
      have G8 : Fix (fun b => b < h8.next ∧ b ≠ rb ∧ b ≠ q) h8 hz := ⟨by omega, fun b hb => by rw [fz.same b hb.2.2, f9.same b ⟨hb.1, hb.2.1⟩]⟩
      have G7 : Fix (fun b => b < h7.next ∧ b ≠ rb ∧ b ≠ q) h7 hz := i8.fx.trans (G8.sub fun b hb => ⟨by omega, hb.2⟩)
      have G6 : Fix (fun b => b < h6.next ∧ b ≠ rb ∧ b ≠ q) h6 hz := i7.fx.trans (G7.sub fun b hb => ⟨by omega, hb.2⟩)
      have G5 : Fix (fun b => b < h5.next ∧ b ≠ rb ∧ b ≠ q) h5 hz := i6.fx.trans (G6.sub fun b hb => ⟨by omega, hb.2⟩)
      have Gh : Fix (· < h.next) h hz := ⟨by omega, fun c hc => by rw [G5.same c ⟨by omega, by omega, by omega⟩, F5.same c ⟨by omega, by omega⟩, F4.same c (by omega), F2.same c (by omega), f1.same c hc]⟩
      have bz := b5.fix G5 ⟨by omega, by omega, by omega⟩
      have hbz := Sl.fix hb5 (hs1.sub fun b hb => (⟨by omega, by omega, by omega⟩ : b < h5.next ∧ b ≠ rb ∧ b ≠ q)) G5
      have obz : Ob g hz (fun b => h4.next ≤ b ∧ b < hz.next) ⟨cv, dv, sv, rv, nv⟩ (objR b.length p0).1 :=
        ⟨Sl.fix cv5 (cw.sub fun b hb => (⟨by omega, by omega, by omega⟩ : b < h5.next ∧ b ≠ rb ∧ b ≠ q)) G5, Sl.fix dv5 (dw.sub fun b hb => (⟨by omega, by omega, by omega⟩ : b < h5.next ∧ b ≠ rb ∧ b ≠ q)) G5,
          (i6.bu.fix (i6.nw.sub fun b hb => (⟨by omega, by omega, by omega⟩ : b < h6.next ∧ b ≠ rb ∧ b ≠ q)) G6).sl, (i7.bu.fix (i7.nw.sub fun b hb => (⟨by omega, by omega, by omega⟩ : b < h7.next ∧ b ≠ rb ∧ b ≠ q)) G7).sl, (i8.bu.fix (i8.nw.sub fun b hb => (⟨by omega, by omega, by omega⟩ : b < h8.next ∧ b ≠ rb ∧ b ≠ q)) G8).sl,
          cw.sub fun b hb => by omega, dw.sub fun b hb => by omega, i6.nw.sub fun b hb => by omega, i7.nw.sub fun b hb => by omega, i8.nw.sub fun b hb => by omega⟩
      have rz := r9.fix fz (by omega) (fun b hb => by omega)
      have vz := (v8.fix f9 ⟨by omega, by omega⟩).fix fz (by omega)
      have fit : Fits (objR b.length p0).1 := ⟨by have := bytR_out (d1R p0); have := d1R_le p0; show (bytR (d1R p0)).1.length < _; omega, by have := bytR_out (d1R (d1R p0)); have := d1R_le (d1R p0); have := d1R_le p0; show (bytR (d1R (d1R p0))).1.length < _; omega, by have := i6.ln; show (symsR b.length p0).2.length < _; omega, by have := i7.ln; show (relsR b.length p0).2.length < _; omega, by have := i8.ln; show (needsR b.length p0).2.length < _; omega⟩
      have lz : loadP (E g) hz 35 (.ptr q 0) = some (.agg ((⟨cv, dv, sv, rv, nv⟩ : Oc).cells (objR b.length p0).1)) := qz.agg ty35 rfl (Nat.le_refl 7)
      (try simp only [wk, wl, wx, reduceLT, reduceEqDiff, Nat.reduceBEq, reduceIte])
      ((repeat refine WC.seq ?_); refine WC.run ?_)
      (try simp only [wk, wl, wx, reduceLT, reduceEqDiff, Nat.reduceBEq, reduceIte, t6, lz])
      refine (encode_ok hg (obz.up fun b hb => hb.2) fit).mono fun v he ⟨Ge, ce1, ce2⟩ => ?_
      have xe := Ge.next
      have re := rz.fix Ge (by omega) (fun b hb => by omega)
      have ve := vz.fix Ge (by omega)
      have be := bz.fix Ge (by omega)
      have hbe := Sl.fix hbz (hs1.sub fun b hb => by omega) Ge
      have obe := obz.fix Ge (fun b hb => hb.2)
      have le : loadP (E g) he 35 (.ptr q 0) = some (.agg ((⟨cv, dv, sv, rv, nv⟩ : Oc).cells (objR b.length p0).1)) := (qz.fix Ge (by omega)).agg ty35 rfl (Nat.le_refl 7)
      have Fe : Kept h he := Gh.trans (Ge.sub fun b hb => by omega)
      obtain ⟨bs, re1, re2, re3⟩ := re
      have hbad : (bytR (needsR b.length p0).1).2.bad = (objR b.length p0).2 := rfl
      rw [hbad] at re1
      have hd (hc : (objR b.length p0).2 = true ∨ checkE (objR b.length p0).1 ≠ 0 ∨ encB (objR b.length p0).1 ≠ b) : decP b = (zeroO, 12) := by
        unfold decP; rw [if_neg (not_not_intro hoe), hp0, if_pos hc]
      rcases (Decidable.em (checkE (objR b.length p0).1 = 0)).symm with hck | hck
      · have hv := ce1 hck
        subst hv
        (try simp only [wk, wl, wx, reduceLT, reduceEqDiff, Nat.reduceBEq, reduceIte])
        ((repeat refine WC.seq ?_); refine WC.run ?_)
        cases hbd : (objR b.length p0).2 with
        | true =>
          rw [hbd] at re1
          (try simp only [wk, wl, wx, reduceLT, reduceEqDiff, Nat.reduceBEq, reduceIte, t4, t0, ve.at ty119 rfl, fa125_1, Nat.zero_add, re1.at ty4 rfl, un])
          (repeat refine WC.seq ?_)
          refine WC.cond (b := true) (by (try simp only [wk, wl, wx, reduceLT, reduceEqDiff, Nat.reduceBEq, reduceIte]); (try simp); (try omega)) ?_
          ((repeat refine WC.seq ?_); refine WC.run ?_)
          (try simp only [wk, wl, wx, reduceLT, reduceEqDiff, Nat.reduceBEq, reduceIte, t2, build77_0])
          refine sat_store be ty35 rfl (Nat.le_refl 7) rfl ?_
          intro hf bf nf ff
          have lf : loadP (E g) hf 35 (.ptr h.next 0) = some (.agg [.str [], .nils, .nils, .nils, .nils, .nils, .str []]) := bf.agg ty35 rfl (Nat.le_refl 7)
          (try simp only [wk, wl, wx, reduceLT, reduceEqDiff, Nat.reduceBEq, reduceIte])
          refine WC.ret ?_
          (try simp only [wk, wl, wx, reduceLT, reduceEqDiff, Nat.reduceBEq, reduceIte, t2, lf])
          rw [hd (.inl hbd)]
          exact ⟨⟨by omega, fun c hc => by rw [ff.same c (by omega), Fe.same c hc]⟩, ⟨.nils, .nils, .nils, .nils, .nils⟩, rfl, zeroO_ob⟩
        | false =>
          rw [hbd] at re1
          have hne : ((checkE (objR b.length p0).1) != (0 : Int)) = true := by simpa using hck
          (try simp only [wk, wl, wx, reduceLT, reduceEqDiff, Nat.reduceBEq, reduceIte, t4, t0, ve.at ty119 rfl, fa125_1, Nat.zero_add, re1.at ty4 rfl, un, i64, hne])
          (repeat refine WC.seq ?_)
          refine WC.cond (b := true) (by (try simp only [wk, wl, wx, reduceLT, reduceEqDiff, Nat.reduceBEq, reduceIte]); (try simp); (try omega)) ?_
          ((repeat refine WC.seq ?_); refine WC.run ?_)
          (try simp only [wk, wl, wx, reduceLT, reduceEqDiff, Nat.reduceBEq, reduceIte, t2, build77_0])
          refine sat_store be ty35 rfl (Nat.le_refl 7) rfl ?_
          intro hf bf nf ff
          have lf : loadP (E g) hf 35 (.ptr h.next 0) = some (.agg [.str [], .nils, .nils, .nils, .nils, .nils, .str []]) := bf.agg ty35 rfl (Nat.le_refl 7)
          (try simp only [wk, wl, wx, reduceLT, reduceEqDiff, Nat.reduceBEq, reduceIte])
          refine WC.ret ?_
          (try simp only [wk, wl, wx, reduceLT, reduceEqDiff, Nat.reduceBEq, reduceIte, t2, lf])
          rw [hd (.inr (.inl hck))]
          exact ⟨⟨by omega, fun c hc => by rw [ff.same c (by omega), Fe.same c hc]⟩, ⟨.nils, .nils, .nils, .nils, .nils⟩, rfl, zeroO_ob⟩
      · obtain ⟨sa, hv, sb, sc⟩ := ce2 hck
        subst hv
        (try simp only [wk, wl, wx, reduceLT, reduceEqDiff, Nat.reduceBEq, reduceIte])
        ((repeat refine WC.seq ?_); refine WC.run ?_)
        cases hbd : (objR b.length p0).2 with
        | true =>
          rw [hbd] at re1
          (try simp only [wk, wl, wx, reduceLT, reduceEqDiff, Nat.reduceBEq, reduceIte, t4, t0, ve.at ty119 rfl, fa125_1, Nat.zero_add, re1.at ty4 rfl, un])
          (repeat refine WC.seq ?_)
          refine WC.cond (b := true) (by (try simp only [wk, wl, wx, reduceLT, reduceEqDiff, Nat.reduceBEq, reduceIte]); (try simp); (try omega)) ?_
          ((repeat refine WC.seq ?_); refine WC.run ?_)
          (try simp only [wk, wl, wx, reduceLT, reduceEqDiff, Nat.reduceBEq, reduceIte, t2, build77_0])
          refine sat_store be ty35 rfl (Nat.le_refl 7) rfl ?_
          intro hf bf nf ff
          have lf : loadP (E g) hf 35 (.ptr h.next 0) = some (.agg [.str [], .nils, .nils, .nils, .nils, .nils, .str []]) := bf.agg ty35 rfl (Nat.le_refl 7)
          (try simp only [wk, wl, wx, reduceLT, reduceEqDiff, Nat.reduceBEq, reduceIte])
          refine WC.ret ?_
          (try simp only [wk, wl, wx, reduceLT, reduceEqDiff, Nat.reduceBEq, reduceIte, t2, lf])
          rw [hd (.inl hbd)]
          exact ⟨⟨by omega, fun c hc => by rw [ff.same c (by omega), Fe.same c hc]⟩, ⟨.nils, .nils, .nils, .nils, .nils⟩, rfl, zeroO_ob⟩
        | false =>
          rw [hbd] at re1
          have hne : ((0 : Int) != (0 : Int)) = false := rfl
          (try simp only [wk, wl, wx, reduceLT, reduceEqDiff, Nat.reduceBEq, reduceIte, t4, t0, ve.at ty119 rfl, fa125_1, Nat.zero_add, re1.at ty4 rfl, un, i64, hne])
          refine (equal_ok sb.sl hbe (Nat.le_trans (encB_len (small_of hck)) (by decide)) (by omega)).mono fun v h' ⟨e', e''⟩ => ?_
          subst e' e''
          by_cases heq : encB (objR b.length p0).1 = b
          · (try simp only [wk, wl, wx, reduceLT, reduceEqDiff, Nat.reduceBEq, reduceIte, decide_eq_true heq, Bool.not_true])
            (repeat refine WC.seq ?_)
            refine WC.cond (b := false) (by (try simp only [wk, wl, wx, reduceLT, reduceEqDiff, Nat.reduceBEq, reduceIte]); (try simp); (try omega)) (WC.skip ?_)
            (try simp only [wk, wl, wx, reduceLT, reduceEqDiff, Nat.reduceBEq, reduceIte])
            ((repeat refine WC.seq ?_); refine WC.run ?_)
            (try simp only [wk, wl, wx, reduceLT, reduceEqDiff, Nat.reduceBEq, reduceIte, t6, t2, le])
            refine sat_store be ty35 rfl (Nat.le_refl 7) (by simp only [V.cells, Oc.cells, List.all_cons, List.all_nil, (Sl.one obe.code).2, (Sl.one obe.data).2, (Sl.one obe.syms).2, (Sl.one obe.rels).2, (Sl.one obe.needs).2, Bool.and_true]; rfl) ?_
            intro hf bf nf ff
            have lf : loadP (E g) hf 35 (.ptr h.next 0) = some (.agg ((⟨cv, dv, sv, rv, nv⟩ : Oc).cells (objR b.length p0).1)) := bf.agg ty35 rfl (Nat.le_refl 7)
            (try simp only [wk, wl, wx, reduceLT, reduceEqDiff, Nat.reduceBEq, reduceIte])
            refine WC.ret ?_
            (try simp only [wk, wl, wx, reduceLT, reduceEqDiff, Nat.reduceBEq, reduceIte, t2, lf])
            have hdk : decP b = ((objR b.length p0).1, 0) := by
              unfold decP
              rw [if_neg (not_not_intro hoe), hp0, if_neg (by rintro (q | q | q); rw [hbd] at q; cases q; exact q hck; exact q heq)]
            rw [hdk]
            exact ⟨⟨by omega, fun c hc => by rw [ff.same c (by omega), Fe.same c hc]⟩, _, rfl, (obe.fix (K' := (· ≠ h.next)) ff fun b hb => by omega).up fun b hb => by omega⟩
          · (try simp only [wk, wl, wx, reduceLT, reduceEqDiff, Nat.reduceBEq, reduceIte, decide_eq_false heq, Bool.not_false])
            (repeat refine WC.seq ?_)
            refine WC.cond (b := true) (by (try simp only [wk, wl, wx, reduceLT, reduceEqDiff, Nat.reduceBEq, reduceIte]); (try simp); (try omega)) ?_
            ((repeat refine WC.seq ?_); refine WC.run ?_)
            (try simp only [wk, wl, wx, reduceLT, reduceEqDiff, Nat.reduceBEq, reduceIte, t2, build77_0])
            refine sat_store be ty35 rfl (Nat.le_refl 7) rfl ?_
            intro hf bf nf ff
            have lf : loadP (E g) hf 35 (.ptr h.next 0) = some (.agg [.str [], .nils, .nils, .nils, .nils, .nils, .str []]) := bf.agg ty35 rfl (Nat.le_refl 7)
            (try simp only [wk, wl, wx, reduceLT, reduceEqDiff, Nat.reduceBEq, reduceIte])
            refine WC.ret ?_
            (try simp only [wk, wl, wx, reduceLT, reduceEqDiff, Nat.reduceBEq, reduceIte, t2, lf])
            rw [hd (.inr (.inr heq))]
            exact ⟨⟨by omega, fun c hc => by rw [ff.same c (by omega), Fe.same c hc]⟩, ⟨.nils, .nils, .nils, .nils, .nils⟩, rfl, zeroO_ob⟩
end Go.Proofs.OP
