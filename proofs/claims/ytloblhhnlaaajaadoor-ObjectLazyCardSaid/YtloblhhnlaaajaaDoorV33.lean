/- Walks: copies of images, what is given to Load. Printed by genS11.py. -/
import Derived.Test.YtloblhhnlaaajaaDoorV15
import Derived.Test.YtloblhhnlaaajaaDoorV32
set_option linter.unusedVariables false
set_option linter.unusedSimpArgs false
set_option linter.defProp false
set_option linter.unusedSimpArgs false
namespace Go.Proofs.OP
open Go Go.Ev
open Go.Proofs
open Nat (reduceLT reduceEqDiff)
variable {g : T (List V)}

def Sep (u v : V) : Prop := ∀ b o n c b' o' n' c', u = .slice b o n c → v = .slice b' o' n' c' → b ≠ b'
structure NewI (g : T (List V)) (h h' : H) (c : Ic) (x : ImgD) : Prop where
 im : Im g h' (· < h'.next) c x
 bw : Whole c.bytes x.bytes.length
 sw : Whole c.slots x.slots.length
 bi : In (fun b => h.next ≤ b) c.bytes
 si : In (fun b => h.next ≤ b) c.slots
 s1 : Sep c.bytes c.slots
 s2 : Sep c.bytes c.exps
 s3 : Sep c.bytes c.needs
 s4 : Sep c.slots c.exps
 s5 : Sep c.slots c.needs
theorem Sep.of {u v : V} {P Q : Nat → Prop} (a : In P u) (b : In Q v) (h : ∀ x, P x → Q x → False) : Sep u v := fun x o n c x' o' n' c' e e' q => by
 subst q; exact h _ (a _ _ _ _ e) (b _ _ _ _ e')

set_option maxRecDepth 100000 in
set_option maxHeartbeats 4000000 in
theorem copied_ok {h : H} {c : Ic} {x : ImgD} (im : Im g h (· < h.next) c x) (fit : FitsI x) : WF (E g) 102 [.agg (c.cells x)] h fun v h' => (∃ c', v = .agg (c'.cells x) ∧ NewI g h h' c' x ∧ In (fun b => h.next ≤ b) c'.exps ∧ In (fun b => h.next ≤ b) c'.needs) ∧ Kept h h' := by
 have g1 := fit.bytes
 have g2 := fit.exps
 have g3 := fit.slots
 have g4 := fit.needs
 refine WF.enter fn102 rfl ?_
 ((repeat refine WC.seq ?_); refine WC.run ?_)
 (try simp only [wk, wl, wx, reduceLT, reduceEqDiff, Nat.reduceBEq, reduceIte])
 refine wop_box (v := .agg (c.cells x)) (by (try simp only [wk, wl, wx, reduceLT, reduceEqDiff, Nat.reduceBEq, reduceIte])) ?_
 intro h1 b1 n1 f1
 (try simp only [wk, wl, wx, reduceLT, reduceEqDiff, Nat.reduceBEq, reduceIte])
 refine wop_alloc ty32 ?_
 intro h2 b2 n2 f2
 (try simp only [wk, wl, wx, reduceLT, reduceEqDiff, Nat.reduceBEq, reduceIte])
 have a2 := b1.fix f2 (by omega)
 have a2 : Has h2 h.next [i64 x.base, c.bytes, i64 x.code, i64 x.entry, c.exps, c.slots, c.needs] := a2
 have F2 : Kept h h2 := f1.trans (f2.sub fun b hb => by omega)
 have im2 := (im.fix F2 fun _ h => h)
 ((repeat refine WC.seq ?_); refine WC.draw (plans := pl102_1) (by kernel_rfl) ?_; simp only [pl102_1, List.mem_cons, List.not_mem_nil, or_false, forall_eq_or_imp, forall_eq])
 (try simp (maxSteps := 2000000) only [wk, wl, wx, reduceLT, reduceEqDiff, Nat.reduceBEq, reduceIte, wd, Chk, and_true, true_and, fa32_1, fa32_4, fa32_5, fa32_6, Nat.zero_add, a2.at ty27 rfl, a2.at ty28 rfl, a2.at ty29 rfl, a2.at ty30 rfl])
 refine (clone_ok im2.bytes (im2.inB.sub fun b hb => by omega) (by omega)).mono fun v1 h3 ⟨p1, p2, p3, p4⟩ => ?_
 have x3 := p3.next
 have a3 := a2.fix p3 (by omega)
 have c3 := b2.fix p3 (by omega)
 have im3 := im2.fix p3 (fun b hb => by omega)
 (try simp (maxSteps := 2000000) only [wk, wl, wx, reduceLT, reduceEqDiff, Nat.reduceBEq, reduceIte, wd, Chk, and_true, true_and, fa32_1, fa32_4, fa32_5, fa32_6, Nat.zero_add, a3.at ty27 rfl, a3.at ty28 rfl, a3.at ty29 rfl, a3.at ty30 rfl])
 refine (cloneE_ok im3.exps (im3.inX.sub fun b hb => by omega) (by omega)).mono fun v2 h4 ⟨q1, q2, q3⟩ => ?_
 have x4 := q3.next
 have a4 := a3.fix q3 (by omega)
 have c4 := c3.fix q3 (by omega)
 have im4 := im3.fix q3 (fun b hb => by omega)
 (try simp (maxSteps := 2000000) only [wk, wl, wx, reduceLT, reduceEqDiff, Nat.reduceBEq, reduceIte, wd, Chk, and_true, true_and, fa32_1, fa32_4, fa32_5, fa32_6, Nat.zero_add, a4.at ty27 rfl, a4.at ty28 rfl, a4.at ty29 rfl, a4.at ty30 rfl])
 refine (cloneS_ok im4.slots (im4.inS.sub fun b hb => by omega) (by omega)).mono fun v3 h5 ⟨r1, r2, r3⟩ => ?_
 have x5 := r3.next
 have a5 := a4.fix r3 (by omega)
 have c5 := c4.fix r3 (by omega)
 have im5 := im4.fix r3 (fun b hb => by omega)
 (try simp (maxSteps := 2000000) only [wk, wl, wx, reduceLT, reduceEqDiff, Nat.reduceBEq, reduceIte, wd, Chk, and_true, true_and, fa32_1, fa32_4, fa32_5, fa32_6, Nat.zero_add, a5.at ty27 rfl, a5.at ty28 rfl, a5.at ty29 rfl, a5.at ty30 rfl])
 refine (cloneN_ok im5.needs (im5.inN.sub fun b hb => by omega) (by omega)).mono fun v4 h6 ⟨s1, s2, s3⟩ => ?_
 have x6 := s3.next
 have a6 := a5.fix s3 (by omega)
 have c6 := c5.fix s3 (by omega)
 have o1 := p1.sl.one
 have o2 := q1.sl.one
 have o3 := r1.sl.one
 have o4 := s1.sl.one
 (try simp (maxSteps := 2000000) only [wk, wl, wx, reduceLT, reduceEqDiff, Nat.reduceBEq, reduceIte, wd, Chk, and_true, true_and, fa32_1, fa32_4, fa32_5, fa32_6, Nat.zero_add])
 refine sat_store (o := 1) a6 ty27 (by rw [o1.1]; rfl) (show 1 + 1 ≤ 7 from by decide) (by rw [o1.1]; simp [o1.2]) ?_
 intro h7 a7 n7 f7
 rw [o1.1] at a7
 (try simp (maxSteps := 2000000) only [wk, wl, wx, reduceLT, reduceEqDiff, Nat.reduceBEq, reduceIte, wd, Chk, and_true, true_and, fa32_1, fa32_4, fa32_5, fa32_6, Nat.zero_add])
 refine sat_store (o := 4) a7 ty28 (by rw [o2.1]; rfl) (show 4 + 1 ≤ 7 from by decide) (by rw [o2.1]; simp [o2.2]) ?_
 intro h8 a8 n8 f8
 rw [o2.1] at a8
 (try simp (maxSteps := 2000000) only [wk, wl, wx, reduceLT, reduceEqDiff, Nat.reduceBEq, reduceIte, wd, Chk, and_true, true_and, fa32_1, fa32_4, fa32_5, fa32_6, Nat.zero_add])
 refine sat_store (o := 5) a8 ty29 (by rw [o3.1]; rfl) (show 5 + 1 ≤ 7 from by decide) (by rw [o3.1]; simp [o3.2]) ?_
 intro h9 a9 n9 f9
 rw [o3.1] at a9
 (try simp (maxSteps := 2000000) only [wk, wl, wx, reduceLT, reduceEqDiff, Nat.reduceBEq, reduceIte, wd, Chk, and_true, true_and, fa32_1, fa32_4, fa32_5, fa32_6, Nat.zero_add])
 refine sat_store (o := 6) a9 ty30 (by rw [o4.1]; rfl) (show 6 + 1 ≤ 7 from by decide) (by rw [o4.1]; simp [o4.2]) ?_
 intro h10 a10 n10 f10
 rw [o4.1] at a10
 have a10 : Has h10 h.next ((⟨v1, v2, v3, v4⟩ : Ic).cells x) := a10
 have l10 : loadP (E g) h10 32 (.ptr h.next 0) = some (.agg ((⟨v1, v2, v3, v4⟩ : Ic).cells x)) := a10.agg ty32 rfl (Nat.le_refl 7)
 have c10 := (((c6.fix f7 (by omega)).fix f8 (by omega)).fix f9 (by omega)).fix f10 (by omega)
 (try simp (maxSteps := 2000000) only [wk, wl, wx, reduceLT, reduceEqDiff, Nat.reduceBEq, reduceIte, wd, Chk, and_true, true_and])
 ((repeat refine WC.seq ?_); refine WC.run ?_)
 (try simp only [wk, wl, wx, reduceLT, reduceEqDiff, Nat.reduceBEq, reduceIte, l10])
 refine sat_store c10 ty32 rfl (Nat.le_refl 7) (by simp only [V.cells, Ic.cells, List.all_cons, List.all_nil, o1.2, o2.2, o3.2, o4.2, Bool.and_true]; rfl) ?_
 intro hz az nz fz
 have lz : loadP (E g) hz 32 (.ptr h1.next 0) = some (.agg ((⟨v1, v2, v3, v4⟩ : Ic).cells x)) := az.agg ty32 rfl (Nat.le_refl 7)
 have Fz : Fix (fun b => b < h6.next ∧ b ≠ h.next ∧ b ≠ h1.next) h6 hz := ⟨by omega, fun b hb => by rw [fz.same b hb.2.2, f10.same b hb.2.1, f9.same b hb.2.1, f8.same b hb.2.1, f7.same b hb.2.1]⟩
 (try simp only [wk, wl, wx, reduceLT, reduceEqDiff, Nat.reduceBEq, reduceIte])
 refine WC.ret ?_
 (try simp only [wk, wl, wx, reduceLT, reduceEqDiff, Nat.reduceBEq, reduceIte, lz])
 refine ⟨⟨⟨v1, v2, v3, v4⟩, rfl, ⟨⟨?_, ?_, ?_, ?_, ?_, ?_, ?_, ?_⟩, p1.whole, r1.whole, p4.sub fun b hb => by omega, fun b o n c e => by have := r2 _ _ _ _ e; omega, ?_, ?_, ?_, ?_, ?_⟩, q2.sub fun b hb => by omega, s2.sub fun b hb => by omega⟩, ⟨by omega, fun b hb => by rw [Fz.same b ⟨by omega, by omega, by omega⟩, s3.same b (by omega), r3.same b (by omega), q3.same b (by omega), p3.same b (by omega), F2.same b hb]⟩⟩
 ·exact Sl.fix (((p1.fix p2 q3).fix (p2.sub fun b hb => by omega) r3).fix (p2.sub fun b hb => by omega) s3).sl (K := fun b => b < h6.next ∧ b ≠ h.next ∧ b ≠ h1.next) (fun b o n c e => by have := p2 _ _ _ _ e; have := p4 _ _ _ _ e; exact ⟨by omega, by omega, by omega⟩) Fz
 ·exact Sl.fix ((q1.fix (q2.sub fun b hb => hb.2) r3).fix (q2.sub fun b hb => by omega) s3).sl (K := fun b => b < h6.next ∧ b ≠ h.next ∧ b ≠ h1.next) (q2.sub fun b hb => ⟨by omega, by omega, by omega⟩) Fz
 ·exact Sl.fix (r1.fix (r2.sub fun b hb => hb.2) s3).sl (K := fun b => b < h6.next ∧ b ≠ h.next ∧ b ≠ h1.next) (r2.sub fun b hb => ⟨by omega, by omega, by omega⟩) Fz
 ·exact Sl.fix s1.sl (K := fun b => b < h6.next ∧ b ≠ h.next ∧ b ≠ h1.next) (s2.sub fun b hb => ⟨by omega, by omega, by omega⟩) Fz
 ·exact p2.sub fun b hb => by omega
 ·exact q2.sub fun b hb => by omega
 ·exact r2.sub fun b hb => by omega
 ·exact s2.sub fun b hb => by omega
 ·exact Sep.of p2 r2 fun x a b => by omega
 ·exact Sep.of p2 q2 fun x a b => by omega
 ·exact Sep.of p2 s2 fun x a b => by omega
 ·exact Sep.of r2 q2 fun x a b => by omega
 ·exact Sep.of r2 s2 fun x a b => by omega

set_option maxRecDepth 100000 in
set_option maxHeartbeats 4000000 in
theorem own_ok {h : H} {c : Ic} {x : ImgD} (im : Im g h (· < h.next) c x) (fit : FitsI x) : WF (E g) 108 [.agg (c.cells x)] h fun v h' => (∃ c', v = .agg (c'.cells x) ∧ NewI g h h' c' x ∧ c'.exps = c.exps ∧ c'.needs = c.needs) ∧ Kept h h' := by
 have g1 := fit.bytes
 have g2 := fit.exps
 have g3 := fit.slots
 have g4 := fit.needs
 refine WF.enter fn108 rfl ?_
 ((repeat refine WC.seq ?_); refine WC.run ?_)
 (try simp only [wk, wl, wx, reduceLT, reduceEqDiff, Nat.reduceBEq, reduceIte])
 refine wop_box (v := .agg (c.cells x)) (by (try simp only [wk, wl, wx, reduceLT, reduceEqDiff, Nat.reduceBEq, reduceIte])) ?_
 intro h1 b1 n1 f1
 (try simp only [wk, wl, wx, reduceLT, reduceEqDiff, Nat.reduceBEq, reduceIte])
 refine wop_alloc ty60 ?_
 intro h2 b2 n2 f2
 (try simp only [wk, wl, wx, reduceLT, reduceEqDiff, Nat.reduceBEq, reduceIte])
 have a2 := b1.fix f2 (by omega)
 have a2 : Has h2 h.next [i64 x.base, c.bytes, i64 x.code, i64 x.entry, c.exps, c.slots, c.needs] := a2
 have F2 : Kept h h2 := f1.trans (f2.sub fun b hb => by omega)
 have im2 := (im.fix F2 fun _ h => h)
 (repeat refine WC.seq ?_)
 refine WC.mono (Q := fun e fr hz => e = .normal ∧ ∃ ts v1 v3 h6, fr = ⟨ts, 14, [], 108, none⟩ ∧ ts.get 1 = some (.ptr h.next 0) ∧ ts.get 2 = some (.ptr h1.next 0) ∧ Fix (· < h2.next) h2 h6 ∧ BufB g h6 v1 x.bytes ∧ Buf (E g) h6 136 3 v3 x.slots.length (x.slots.flatMap slotV) ∧ In (fun b => h2.next ≤ b ∧ b < h6.next) v1 ∧ In (fun b => h2.next ≤ b ∧ b < h6.next) v3 ∧ Sep v1 v3 ∧ hz.next = h6.next ∧ Fix (· ≠ h.next) h6 hz ∧ Has hz h.next ((⟨v1, c.exps, v3, c.needs⟩ : Ic).cells x)) (WC.draw (plans := pl108_1) (by kernel_rfl) ?_) ?_
 ·intro p hp
  simp only [pl108_1, List.mem_cons, List.not_mem_nil, or_false] at hp
  rcases hp with rfl | rfl | rfl
  ·(try simp (maxSteps := 2000000) only [wk, wl, wx, reduceLT, reduceEqDiff, Nat.reduceBEq, reduceIte, wd, Chk, and_true, true_and, fa60_1, fa60_5, Nat.zero_add, a2.at ty27 rfl, a2.at ty58 rfl])
   refine sat_literal ty27 rfl ty5 rfl (by decide) (by decide) rfl rfl ?_
   intro h3 lb n3 f3
   have x3 := f3.next
   have F23 : Fix (· < h2.next) h2 h3 := f3
   (try simp (maxSteps := 2000000) only [wk, wl, wx, reduceLT, reduceEqDiff, Nat.reduceBEq, reduceIte, wd, Chk, and_true, true_and, fa60_1, fa60_5, Nat.zero_add, (a2.fix F23 (by omega)).at ty27 rfl, (a2.fix F23 (by omega)).at ty58 rfl])
   have hb4 := (im2.bytes.fix (im2.inB.sub fun b hb => (by omega : b < h2.next)) F23)
   refine sat_app0 (m := x.bytes.length) (ws := x.bytes.map u8) lb (by omega) ty27 rfl ty27 (.inl ⟨_, rfl⟩) ty5 rfl (by decide) (by decide) (Sl.len hb4) (Sl.cells hb4) (by simp) one_u8 (by simp; omega) ?_
   intro v1 h4 g1 o1 el1 f4 n4
   have x4 := f4.next
   have F24 : Fix (· < h2.next) h2 h4 := F23.trans (f4.sub fun b hb => by omega)
   (try simp (maxSteps := 2000000) only [wk, wl, wx, reduceLT, reduceEqDiff, Nat.reduceBEq, reduceIte, wd, Chk, and_true, true_and, fa60_1, fa60_5, Nat.zero_add, (a2.fix F24 (by omega)).at ty27 rfl, (a2.fix F24 (by omega)).at ty58 rfl])
   refine sat_literal ty58 rfl ty136 rfl (by decide) (by decide) rfl rfl ?_
   intro h5 ls n5 f5
   have x5 := f5.next
   have F25 : Fix (· < h2.next) h2 h5 := F24.trans (f5.sub fun b hb => by omega)
   (try simp (maxSteps := 2000000) only [wk, wl, wx, reduceLT, reduceEqDiff, Nat.reduceBEq, reduceIte, wd, Chk, and_true, true_and, fa60_1, fa60_5, Nat.zero_add, (a2.fix F25 (by omega)).at ty27 rfl, (a2.fix F25 (by omega)).at ty58 rfl])
   have hs6 := (im2.slots.fix (im2.inS.sub fun b hb => (by omega : b < h2.next)) F25)
   refine sat_app0 (m := x.slots.length) (ws := x.slots.flatMap slotV) ls (by omega) ty58 rfl ty58 (.inl ⟨_, rfl⟩) ty136 rfl (by decide) (by decide) (Sl.len hs6) (Sl.cells hs6) (Sl.size hs6) (all_flat slotV_one _) (by simp; omega) ?_
   intro v3 h6 g3 o3 el3 f6 n6
   have x6 := f6.next
   have F26 : Fix (· < h2.next) h2 h6 := F25.trans (f6.sub fun b hb => by omega)
   (try simp (maxSteps := 2000000) only [wk, wl, wx, reduceLT, reduceEqDiff, Nat.reduceBEq, reduceIte, wd, Chk, and_true, true_and, fa60_1, fa60_5, Nat.zero_add, (a2.fix F26 (by omega)).at ty27 rfl, (a2.fix F26 (by omega)).at ty58 rfl])
   have gb := ((g1.fix (fun b o n c e => by have := (o1 _ _ _ _ e).2; omega) f5).fix (fun b o n c e => by have := (o1 _ _ _ _ e).2; omega) f6)
   have gs := g3
   have in1 : In (fun b => h2.next ≤ b ∧ b < h6.next) v1 := fun b o n c e => by
    obtain ⟨q1, q2⟩ := o1 _ _ _ _ e
    rcases q1 with rfl | rfl <;> omega
   have in3 : In (fun b => h2.next ≤ b ∧ b < h6.next) v3 := fun b o n c e => by
    obtain ⟨q1, q2⟩ := o3 _ _ _ _ e
    rcases q1 with rfl | rfl <;> omega
   have sep : Sep v1 v3 := fun b o n c b' o' n' c' e e' => by
    obtain ⟨q1, q2⟩ := o1 _ _ _ _ e
    obtain ⟨r1, r2⟩ := o3 _ _ _ _ e'
    rcases q1 with rfl | rfl <;> rcases r1 with rfl | rfl <;> omega
   have a6 := a2.fix F26 (by omega)
   have o1' := gb.sl.one
   have o3' := gs.sl.one
   (try simp (maxSteps := 2000000) only [wk, wl, wx, reduceLT, reduceEqDiff, Nat.reduceBEq, reduceIte, wd, Chk, and_true, true_and, fa60_1, fa60_5, Nat.zero_add])
   refine sat_store (o := 1) a6 ty27 (by rw [o1'.1]; rfl) (show 1 + 1 ≤ 7 from by decide) (by rw [o1'.1]; simp [o1'.2]) ?_
   intro h7 a7 n7 f7
   rw [o1'.1] at a7
   (try simp (maxSteps := 2000000) only [wk, wl, wx, reduceLT, reduceEqDiff, Nat.reduceBEq, reduceIte, wd, Chk, and_true, true_and, fa60_1, fa60_5, Nat.zero_add])
   refine sat_store (o := 5) a7 ty58 (by rw [o3'.1]; rfl) (show 5 + 1 ≤ 7 from by decide) (by rw [o3'.1]; simp [o3'.2]) ?_
   intro h8 a8 n8 f8
   rw [o3'.1] at a8
   (try simp (maxSteps := 2000000) only [wk, wl, wx, reduceLT, reduceEqDiff, Nat.reduceBEq, reduceIte, wd, Chk, and_true, true_and])
   refine ⟨_, v1, v3, h6, rfl, ?_, ?_, F26, gb, gs, in1, in3, sep, by omega, ⟨by omega, fun b hb => by rw [f8.same b hb, f7.same b hb]⟩, a8⟩
   all_goals (try simp only [wk, wl, wx, reduceLT, reduceEqDiff, Nat.reduceBEq, reduceIte])
  ·(try simp (maxSteps := 2000000) only [wk, wl, wx, reduceLT, reduceEqDiff, Nat.reduceBEq, reduceIte, wd, Chk, and_true, true_and, fa60_1, fa60_5, Nat.zero_add, a2.at ty27 rfl, a2.at ty58 rfl])
   refine sat_literal ty27 rfl ty5 rfl (by decide) (by decide) rfl rfl ?_
   intro h3 lb n3 f3
   have x3 := f3.next
   have F23 : Fix (· < h2.next) h2 h3 := f3
   (try simp (maxSteps := 2000000) only [wk, wl, wx, reduceLT, reduceEqDiff, Nat.reduceBEq, reduceIte, wd, Chk, and_true, true_and, fa60_1, fa60_5, Nat.zero_add, (a2.fix F23 (by omega)).at ty27 rfl, (a2.fix F23 (by omega)).at ty58 rfl])
   refine sat_literal ty58 rfl ty136 rfl (by decide) (by decide) rfl rfl ?_
   intro h4 ls n4 f4
   have x4 := f4.next
   have F24 : Fix (· < h2.next) h2 h4 := F23.trans (f4.sub fun b hb => by omega)
   (try simp (maxSteps := 2000000) only [wk, wl, wx, reduceLT, reduceEqDiff, Nat.reduceBEq, reduceIte, wd, Chk, and_true, true_and, fa60_1, fa60_5, Nat.zero_add, (a2.fix F24 (by omega)).at ty27 rfl, (a2.fix F24 (by omega)).at ty58 rfl])
   have hb5 := (im2.bytes.fix (im2.inB.sub fun b hb => (by omega : b < h2.next)) F24)
   refine sat_app0 (m := x.bytes.length) (ws := x.bytes.map u8) (by rw [f4.same _ (by omega)]; exact lb) (by omega) ty27 rfl ty27 (.inl ⟨_, rfl⟩) ty5 rfl (by decide) (by decide) (Sl.len hb5) (Sl.cells hb5) (by simp) one_u8 (by simp; omega) ?_
   intro v1 h5 g1 o1 el1 f5 n5
   have x5 := f5.next
   have F25 : Fix (· < h2.next) h2 h5 := F24.trans (f5.sub fun b hb => by omega)
   (try simp (maxSteps := 2000000) only [wk, wl, wx, reduceLT, reduceEqDiff, Nat.reduceBEq, reduceIte, wd, Chk, and_true, true_and, fa60_1, fa60_5, Nat.zero_add, (a2.fix F25 (by omega)).at ty27 rfl, (a2.fix F25 (by omega)).at ty58 rfl])
   have hs6 := (im2.slots.fix (im2.inS.sub fun b hb => (by omega : b < h2.next)) F25)
   refine sat_app0 (m := x.slots.length) (ws := x.slots.flatMap slotV) (by rw [f5.same _ (by omega)]; exact ls) (by omega) ty58 rfl ty58 (.inl ⟨_, rfl⟩) ty136 rfl (by decide) (by decide) (Sl.len hs6) (Sl.cells hs6) (Sl.size hs6) (all_flat slotV_one _) (by simp; omega) ?_
   intro v3 h6 g3 o3 el3 f6 n6
   have x6 := f6.next
   have F26 : Fix (· < h2.next) h2 h6 := F25.trans (f6.sub fun b hb => by omega)
   (try simp (maxSteps := 2000000) only [wk, wl, wx, reduceLT, reduceEqDiff, Nat.reduceBEq, reduceIte, wd, Chk, and_true, true_and, fa60_1, fa60_5, Nat.zero_add, (a2.fix F26 (by omega)).at ty27 rfl, (a2.fix F26 (by omega)).at ty58 rfl])
   have gb := (g1.fix (fun b o n c e => by have := (o1 _ _ _ _ e).2; omega) f6)
   have gs := g3
   have in1 : In (fun b => h2.next ≤ b ∧ b < h6.next) v1 := fun b o n c e => by
    obtain ⟨q1, q2⟩ := o1 _ _ _ _ e
    rcases q1 with rfl | rfl <;> omega
   have in3 : In (fun b => h2.next ≤ b ∧ b < h6.next) v3 := fun b o n c e => by
    obtain ⟨q1, q2⟩ := o3 _ _ _ _ e
    rcases q1 with rfl | rfl <;> omega
   have sep : Sep v1 v3 := fun b o n c b' o' n' c' e e' => by
    obtain ⟨q1, q2⟩ := o1 _ _ _ _ e
    obtain ⟨r1, r2⟩ := o3 _ _ _ _ e'
    rcases q1 with rfl | rfl <;> rcases r1 with rfl | rfl <;> omega
   have a6 := a2.fix F26 (by omega)
   have o1' := gb.sl.one
   have o3' := gs.sl.one
   (try simp (maxSteps := 2000000) only [wk, wl, wx, reduceLT, reduceEqDiff, Nat.reduceBEq, reduceIte, wd, Chk, and_true, true_and, fa60_1, fa60_5, Nat.zero_add])
   refine sat_store (o := 1) a6 ty27 (by rw [o1'.1]; rfl) (show 1 + 1 ≤ 7 from by decide) (by rw [o1'.1]; simp [o1'.2]) ?_
   intro h7 a7 n7 f7
   rw [o1'.1] at a7
   (try simp (maxSteps := 2000000) only [wk, wl, wx, reduceLT, reduceEqDiff, Nat.reduceBEq, reduceIte, wd, Chk, and_true, true_and, fa60_1, fa60_5, Nat.zero_add])
   refine sat_store (o := 5) a7 ty58 (by rw [o3'.1]; rfl) (show 5 + 1 ≤ 7 from by decide) (by rw [o3'.1]; simp [o3'.2]) ?_
   intro h8 a8 n8 f8
   rw [o3'.1] at a8
   (try simp (maxSteps := 2000000) only [wk, wl, wx, reduceLT, reduceEqDiff, Nat.reduceBEq, reduceIte, wd, Chk, and_true, true_and])
   refine ⟨_, v1, v3, h6, rfl, ?_, ?_, F26, gb, gs, in1, in3, sep, by omega, ⟨by omega, fun b hb => by rw [f8.same b hb, f7.same b hb]⟩, a8⟩
   all_goals (try simp only [wk, wl, wx, reduceLT, reduceEqDiff, Nat.reduceBEq, reduceIte])
  ·(try simp (maxSteps := 2000000) only [wk, wl, wx, reduceLT, reduceEqDiff, Nat.reduceBEq, reduceIte, wd, Chk, and_true, true_and, fa60_1, fa60_5, Nat.zero_add, a2.at ty27 rfl, a2.at ty58 rfl])
   refine sat_literal ty58 rfl ty136 rfl (by decide) (by decide) rfl rfl ?_
   intro h3 ls n3 f3
   have x3 := f3.next
   have F23 : Fix (· < h2.next) h2 h3 := f3
   (try simp (maxSteps := 2000000) only [wk, wl, wx, reduceLT, reduceEqDiff, Nat.reduceBEq, reduceIte, wd, Chk, and_true, true_and, fa60_1, fa60_5, Nat.zero_add, (a2.fix F23 (by omega)).at ty27 rfl, (a2.fix F23 (by omega)).at ty58 rfl])
   refine sat_literal ty27 rfl ty5 rfl (by decide) (by decide) rfl rfl ?_
   intro h4 lb n4 f4
   have x4 := f4.next
   have F24 : Fix (· < h2.next) h2 h4 := F23.trans (f4.sub fun b hb => by omega)
   (try simp (maxSteps := 2000000) only [wk, wl, wx, reduceLT, reduceEqDiff, Nat.reduceBEq, reduceIte, wd, Chk, and_true, true_and, fa60_1, fa60_5, Nat.zero_add, (a2.fix F24 (by omega)).at ty27 rfl, (a2.fix F24 (by omega)).at ty58 rfl])
   have hb5 := (im2.bytes.fix (im2.inB.sub fun b hb => (by omega : b < h2.next)) F24)
   refine sat_app0 (m := x.bytes.length) (ws := x.bytes.map u8) lb (by omega) ty27 rfl ty27 (.inl ⟨_, rfl⟩) ty5 rfl (by decide) (by decide) (Sl.len hb5) (Sl.cells hb5) (by simp) one_u8 (by simp; omega) ?_
   intro v1 h5 g1 o1 el1 f5 n5
   have x5 := f5.next
   have F25 : Fix (· < h2.next) h2 h5 := F24.trans (f5.sub fun b hb => by omega)
   (try simp (maxSteps := 2000000) only [wk, wl, wx, reduceLT, reduceEqDiff, Nat.reduceBEq, reduceIte, wd, Chk, and_true, true_and, fa60_1, fa60_5, Nat.zero_add, (a2.fix F25 (by omega)).at ty27 rfl, (a2.fix F25 (by omega)).at ty58 rfl])
   have hs6 := (im2.slots.fix (im2.inS.sub fun b hb => (by omega : b < h2.next)) F25)
   refine sat_app0 (m := x.slots.length) (ws := x.slots.flatMap slotV) (by rw [f5.same _ (by omega)]; exact (by rw [f4.same _ (by omega)]; exact ls)) (by omega) ty58 rfl ty58 (.inl ⟨_, rfl⟩) ty136 rfl (by decide) (by decide) (Sl.len hs6) (Sl.cells hs6) (Sl.size hs6) (all_flat slotV_one _) (by simp; omega) ?_
   intro v3 h6 g3 o3 el3 f6 n6
   have x6 := f6.next
   have F26 : Fix (· < h2.next) h2 h6 := F25.trans (f6.sub fun b hb => by omega)
   (try simp (maxSteps := 2000000) only [wk, wl, wx, reduceLT, reduceEqDiff, Nat.reduceBEq, reduceIte, wd, Chk, and_true, true_and, fa60_1, fa60_5, Nat.zero_add, (a2.fix F26 (by omega)).at ty27 rfl, (a2.fix F26 (by omega)).at ty58 rfl])
   have gb := (g1.fix (fun b o n c e => by have := (o1 _ _ _ _ e).2; omega) f6)
   have gs := g3
   have in1 : In (fun b => h2.next ≤ b ∧ b < h6.next) v1 := fun b o n c e => by
    obtain ⟨q1, q2⟩ := o1 _ _ _ _ e
    rcases q1 with rfl | rfl <;> omega
   have in3 : In (fun b => h2.next ≤ b ∧ b < h6.next) v3 := fun b o n c e => by
    obtain ⟨q1, q2⟩ := o3 _ _ _ _ e
    rcases q1 with rfl | rfl <;> omega
   have sep : Sep v1 v3 := fun b o n c b' o' n' c' e e' => by
    obtain ⟨q1, q2⟩ := o1 _ _ _ _ e
    obtain ⟨r1, r2⟩ := o3 _ _ _ _ e'
    rcases q1 with rfl | rfl <;> rcases r1 with rfl | rfl <;> omega
   have a6 := a2.fix F26 (by omega)
   have o1' := gb.sl.one
   have o3' := gs.sl.one
   (try simp (maxSteps := 2000000) only [wk, wl, wx, reduceLT, reduceEqDiff, Nat.reduceBEq, reduceIte, wd, Chk, and_true, true_and, fa60_1, fa60_5, Nat.zero_add])
   refine sat_store (o := 1) a6 ty27 (by rw [o1'.1]; rfl) (show 1 + 1 ≤ 7 from by decide) (by rw [o1'.1]; simp [o1'.2]) ?_
   intro h7 a7 n7 f7
   rw [o1'.1] at a7
   (try simp (maxSteps := 2000000) only [wk, wl, wx, reduceLT, reduceEqDiff, Nat.reduceBEq, reduceIte, wd, Chk, and_true, true_and, fa60_1, fa60_5, Nat.zero_add])
   refine sat_store (o := 5) a7 ty58 (by rw [o3'.1]; rfl) (show 5 + 1 ≤ 7 from by decide) (by rw [o3'.1]; simp [o3'.2]) ?_
   intro h8 a8 n8 f8
   rw [o3'.1] at a8
   (try simp (maxSteps := 2000000) only [wk, wl, wx, reduceLT, reduceEqDiff, Nat.reduceBEq, reduceIte, wd, Chk, and_true, true_and])
   refine ⟨_, v1, v3, h6, rfl, ?_, ?_, F26, gb, gs, in1, in3, sep, by omega, ⟨by omega, fun b hb => by rw [f8.same b hb, f7.same b hb]⟩, a8⟩
   all_goals (try simp only [wk, wl, wx, reduceLT, reduceEqDiff, Nat.reduceBEq, reduceIte])
 ·rintro e fr h8 ⟨rfl, ts, v1, v3, h6, rfl, t1, t2, F6, gb, gs, in1, in3, sep, n8, f8, a8⟩
  have x6 := F6.next
  have o1 := gb.sl.one
  have o3 := gs.sl.one
  have c8 := (b2.fix F6 (by omega)).fix f8 (by omega)
  have l8 : loadP (E g) h8 60 (.ptr h.next 0) = some (.agg ((⟨v1, c.exps, v3, c.needs⟩ : Ic).cells x)) := a8.agg ty60 rfl (Nat.le_refl 7)
  (try simp only [wk, wl, wx, reduceLT, reduceEqDiff, Nat.reduceBEq, reduceIte])
  ((repeat refine WC.seq ?_); refine WC.run ?_)
  (try simp only [wk, wl, wx, reduceLT, reduceEqDiff, Nat.reduceBEq, reduceIte, t1, t2, l8])
  refine sat_store c8 ty60 rfl (Nat.le_refl 7) (by simp only [V.cells, Ic.cells, List.all_cons, List.all_nil, o1.2, o3.2, (Sl.one im.exps).2, (Sl.one im.needs).2, Bool.and_true]; rfl) ?_
  intro hz az nz fz
  have lz : loadP (E g) hz 60 (.ptr h1.next 0) = some (.agg ((⟨v1, c.exps, v3, c.needs⟩ : Ic).cells x)) := az.agg ty60 rfl (Nat.le_refl 7)
  have Fz : Fix (fun b => b < h6.next ∧ b ≠ h.next ∧ b ≠ h1.next) h6 hz := ⟨by omega, fun b hb => by rw [fz.same b hb.2.2, f8.same b hb.2.1]⟩
  have Kz : Kept h hz := ⟨by omega, fun b hb => by rw [Fz.same b ⟨by omega, by omega, by omega⟩, F6.same b (by omega), F2.same b hb]⟩
  have imz := im.fix Kz fun _ h => h
  (try simp only [wk, wl, wx, reduceLT, reduceEqDiff, Nat.reduceBEq, reduceIte])
  refine WC.ret ?_
  (try simp only [wk, wl, wx, reduceLT, reduceEqDiff, Nat.reduceBEq, reduceIte, t2, lz])
  refine ⟨⟨⟨v1, c.exps, v3, c.needs⟩, rfl, ⟨⟨?_, imz.exps, ?_, imz.needs, ?_, ?_, ?_, ?_⟩, gb.whole, gs.whole, in1.sub fun b hb => by omega, in3.sub fun b hb => by omega, sep, ?_, ?_, ?_, ?_⟩, rfl, rfl⟩, Kz⟩
  ·exact Sl.fix gb.sl (K := fun b => b < h6.next ∧ b ≠ h.next ∧ b ≠ h1.next) (in1.sub fun b hb => ⟨by omega, by omega, by omega⟩) Fz
  ·exact Sl.fix gs.sl (K := fun b => b < h6.next ∧ b ≠ h.next ∧ b ≠ h1.next) (in3.sub fun b hb => ⟨by omega, by omega, by omega⟩) Fz
  ·exact in1.sub fun b hb => by omega
  ·exact im.inX.sub fun b hb => by omega
  ·exact in3.sub fun b hb => by omega
  ·exact im.inN.sub fun b hb => by omega
  ·exact Sep.of in1 im.inX fun x a b => by omega
  ·exact Sep.of in1 im.inN fun x a b => by omega
  ·exact Sep.of in3 im.inX fun x a b => by omega
  ·exact Sep.of in3 im.inN fun x a b => by omega

def namesF : List (List UInt8) → List (List UInt8) → Int × Int
 | _, [] => (0, 0)
 | p, s :: r => if nameE s ≠ 0 then ((p.length : Int), nameE s) else if p.contains s = true then ((p.length : Int), 38) else namesF (p ++ [s]) r
theorem namesF_step {L : List (List UInt8)} {i : Nat} (hi : i < L.length) : namesF (L.take i) (L.drop i) = if nameE L[i] ≠ 0 then ((i : Int), nameE L[i]) else if (L.take i).contains L[i] = true then ((i : Int), 38) else namesF (L.take (i + 1)) (L.drop (i + 1)) := by
 rw [List.drop_eq_getElem_cons hi, namesF, List.length_take, Nat.min_eq_left (by omega), List.take_succ_eq_append_getElem hi]
def givenF (first : ImgD) (libs : List ImgD) (names : List (List UInt8)) : Int × Int :=
 if 50 < libs.length then (-1, 18) else if names.length ≠ libs.length then (-1, 14) else if rightB first = false then (-1, 14) else match fstI (fun x => !rightB x) libs with
  | some i => ((i : Int), 14)
  | none => namesF [] names

set_option maxRecDepth 100000 in
set_option maxHeartbeats 4000000 in
theorem given_ok {h : H} {c : Ic} {x : ImgD} {ls ns : V} {L : List (Ic × ImgD)} {N : List (List UInt8)} (im : Im g h (· < h.next) c x) (fit : FitsI x) (hL : Ims g h (· < h.next) ls L) (hw : Whole ls L.length) (hf : ∀ p ∈ L, FitsI p.2) (hN : Ss g h ns N) (inN : In (· < h.next) ns) (lL : L.length < 2 ^ 40) (lN : N.length < 2 ^ 40) :
  WF (E g) 101 [.agg (c.cells x), ls, ns] h fun v h' => v = .agg (faultV (givenF x (L.map (·.2)) N)) ∧ Kept h h' := by
 refine WF.enter fn101 rfl ?_
 ((repeat refine WC.seq ?_); refine WC.run ?_)
 (try simp only [wk, wl, wx, reduceLT, reduceEqDiff, Nat.reduceBEq, reduceIte])
 refine wop_box (v := .agg (c.cells x)) (by (try simp only [wk, wl, wx, reduceLT, reduceEqDiff, Nat.reduceBEq, reduceIte])) ?_
 intro h1 b1 n1 f1
 (try simp only [wk, wl, wx, reduceLT, reduceEqDiff, Nat.reduceBEq, reduceIte])
 refine wop_alloc ty35 ?_
 intro h2 b2 n2 f2
 (try simp only [wk, wl, wx, reduceLT, reduceEqDiff, Nat.reduceBEq, reduceIte])
 have a2 := b1.fix f2 (by omega)
 have a2 : Has h2 h.next (c.cells x) := a2
 have F2 : Kept h h2 := f1.trans (f2.sub fun b hb => by omega)
 have im2 := (im.fix F2 fun _ h => h).up (K' := (· < h2.next)) fun b hb => by omega
 have hL2 := (hL.fix F2 fun _ h => h).up (K' := (· < h2.next)) fun b hb => by omega
 have hN2 := Sl.fix hN inN F2
 have lm : (L.map (·.2)).length = L.length := List.length_map _
 (repeat refine WC.seq ?_)
 refine WC.block ?_
 ((repeat refine WC.seq ?_); refine WC.run ?_)
 (try simp only [wk, wl, wx, reduceLT, reduceEqDiff, Nat.reduceBEq, reduceIte, Sl.lenB hL2.sl ty108 rfl])
 (repeat refine WC.seq ?_)
 by_cases h50 : (50 : Int) < L.length
 ·refine WC.cond (b := true) (by (try simp only [wk, wl, wx, reduceLT, reduceEqDiff, Nat.reduceBEq, reduceIte]); (try simp); (try omega)) ?_
  (try simp only [wk, wl, wx, reduceLT, reduceEqDiff, Nat.reduceBEq, reduceIte])
  ((repeat refine WC.seq ?_); refine WC.run ?_)
  (try simp only [wk, wl, wx, reduceLT, reduceEqDiff, Nat.reduceBEq, reduceIte])
  refine (bad_ok).mono fun v hb ⟨eb, fb⟩ => ?_
  subst eb
  have xb := fb.next
  (try simp only [wk, wl, wx, reduceLT, reduceEqDiff, Nat.reduceBEq, reduceIte])
  refine sat_store (b2.fix fb (by omega)) ty35 rfl (Nat.le_refl 2) rfl ?_
  intro hz az nz fz
  have lz : loadP (E g) hz 35 (.ptr h1.next 0) = some (.agg (faultV (-1, 18))) := az.agg ty35 rfl (Nat.le_refl 2)
  (try simp only [wk, wl, wx, reduceLT, reduceEqDiff, Nat.reduceBEq, reduceIte])
  refine WC.ret ?_
  have hP : givenF x (L.map (·.2)) N = (-1, 18) := by unfold givenF; rw [lm, if_pos (by omega)]
  (try simp only [wk, wl, wx, reduceLT, reduceEqDiff, Nat.reduceBEq, reduceIte, lz])
  exact ⟨by rw [hP], ⟨by omega, fun b hb => by rw [fz.same b (by omega), fb.same b (by omega), F2.same b hb]⟩⟩
 refine WC.cond (b := false) (by (try simp only [wk, wl, wx, reduceLT, reduceEqDiff, Nat.reduceBEq, reduceIte]); (try simp); (try omega)) ?_
 (try simp only [wk, wl, wx, reduceLT, reduceEqDiff, Nat.reduceBEq, reduceIte])
 ((repeat refine WC.seq ?_); refine WC.run ?_)
 (try simp only [wk, wl, wx, reduceLT, reduceEqDiff, Nat.reduceBEq, reduceIte, Sl.lenB hL2.sl ty108 rfl, Sl.lenB hN2 ty30 rfl])
 (repeat refine WC.seq ?_)
 rcases (Decidable.em (N.length = L.length)).symm with hne | hne
 ·refine WC.cond (b := true) (by (try simp only [wk, wl, wx, reduceLT, reduceEqDiff, Nat.reduceBEq, reduceIte]); simp; omega) ?_
  (try simp only [wk, wl, wx, reduceLT, reduceEqDiff, Nat.reduceBEq, reduceIte])
  ((repeat refine WC.seq ?_); refine WC.run ?_)
  (try simp only [wk, wl, wx, reduceLT, reduceEqDiff, Nat.reduceBEq, reduceIte])
  refine (bad_ok).mono fun v hb ⟨eb, fb⟩ => ?_
  subst eb
  have xb := fb.next
  (try simp only [wk, wl, wx, reduceLT, reduceEqDiff, Nat.reduceBEq, reduceIte])
  refine sat_store (b2.fix fb (by omega)) ty35 rfl (Nat.le_refl 2) rfl ?_
  intro hz az nz fz
  have lz : loadP (E g) hz 35 (.ptr h1.next 0) = some (.agg (faultV (-1, 14))) := az.agg ty35 rfl (Nat.le_refl 2)
  (try simp only [wk, wl, wx, reduceLT, reduceEqDiff, Nat.reduceBEq, reduceIte])
  refine WC.ret ?_
  have hP : givenF x (L.map (·.2)) N = (-1, 14) := by unfold givenF; rw [lm, if_neg (by omega), if_pos hne]
  (try simp only [wk, wl, wx, reduceLT, reduceEqDiff, Nat.reduceBEq, reduceIte, lz])
  exact ⟨by rw [hP], ⟨by omega, fun b hb => by rw [fz.same b (by omega), fb.same b (by omega), F2.same b hb]⟩⟩
 refine WC.cond (b := false) (by (try simp only [wk, wl, wx, reduceLT, reduceEqDiff, Nat.reduceBEq, reduceIte]); simp; omega) ?_
 (try simp only [wk, wl, wx, reduceLT, reduceEqDiff, Nat.reduceBEq, reduceIte])
 ((repeat refine WC.seq ?_); refine WC.run ?_)
 (try simp only [wk, wl, wx, reduceLT, reduceEqDiff, Nat.reduceBEq, reduceIte])
 refine (right_ok a2 (by omega) im2 fit).mono fun v h3 ⟨e3, f3⟩ => ?_
 subst e3
 have x3 := f3.next
 have b3 := b2.fix f3 (by omega)
 have F3 : Kept h h3 := F2.trans (f3.sub fun b hb => by omega)
 have hL3 := hL2.fix f3 fun _ h => h
 have hN3 := Sl.fix hN2 (inN.sub fun b hb => by omega) f3
 (try simp only [wk, wl, wx, reduceLT, reduceEqDiff, Nat.reduceBEq, reduceIte, un_not])
 (repeat refine WC.seq ?_)
 cases hr : rightB x with
 | false =>
  refine WC.cond (b := true) (by (try simp only [wk, wl, wx, reduceLT, reduceEqDiff, Nat.reduceBEq, reduceIte, hr]); (try simp); (try omega)) ?_
  (try simp only [wk, wl, wx, reduceLT, reduceEqDiff, Nat.reduceBEq, reduceIte])
  ((repeat refine WC.seq ?_); refine WC.run ?_)
  (try simp only [wk, wl, wx, reduceLT, reduceEqDiff, Nat.reduceBEq, reduceIte])
  refine (bad_ok).mono fun v hb ⟨eb, fb⟩ => ?_
  subst eb
  have xb := fb.next
  (try simp only [wk, wl, wx, reduceLT, reduceEqDiff, Nat.reduceBEq, reduceIte])
  refine sat_store (b3.fix fb (by omega)) ty35 rfl (Nat.le_refl 2) rfl ?_
  intro hz az nz fz
  have lz : loadP (E g) hz 35 (.ptr h1.next 0) = some (.agg (faultV (-1, 14))) := az.agg ty35 rfl (Nat.le_refl 2)
  (try simp only [wk, wl, wx, reduceLT, reduceEqDiff, Nat.reduceBEq, reduceIte])
  refine WC.ret ?_
  have hP : givenF x (L.map (·.2)) N = (-1, 14) := by unfold givenF; rw [lm, if_neg (by omega), if_neg (by omega), if_pos hr]
  (try simp only [wk, wl, wx, reduceLT, reduceEqDiff, Nat.reduceBEq, reduceIte, lz])
  exact ⟨by rw [hP], ⟨by omega, fun b hb => by rw [fz.same b (by omega), fb.same b (by omega), F3.same b hb]⟩⟩
 | true =>
 refine WC.cond (b := false) (by (try simp only [wk, wl, wx, reduceLT, reduceEqDiff, Nat.reduceBEq, reduceIte, hr]); (try simp); (try omega)) ?_
 (try simp only [wk, wl, wx, reduceLT, reduceEqDiff, Nat.reduceBEq, reduceIte])
 refine WC.skip ?_
 (try simp only [wk, wl, wx, reduceLT, reduceEqDiff, Nat.reduceBEq, reduceIte])
 have hP0 : givenF x (L.map (·.2)) N = match fstI (fun x => !rightB x) (L.map (·.2)) with
  | some i => ((i : Int), 14)
  | none => namesF [] N := by unfold givenF; rw [lm, if_neg (by omega), if_neg (by omega), if_neg (by simp [hr])]
 ((repeat refine WC.seq ?_); refine WC.run ?_)
 (try simp only [wk, wl, wx, reduceLT, reduceEqDiff, Nat.reduceBEq, reduceIte, Sl.lenB hL3.sl ty108 rfl])
 (repeat refine WC.seq ?_)
 refine WC.block ?_
 refine WC.while (fun m fr hh => ∃ ts i, fr = ⟨ts, 63, [], 101, none⟩ ∧ Fix (· < h3.next) h3 hh ∧ m = L.length - i ∧ i ≤ L.length ∧ ts.get 1 = some ls ∧ ts.get 2 = some ns ∧ ts.get 6 = some (.ptr h1.next 0) ∧ ts.get 28 = some (.int .i64 L.length) ∧ ts.get 29 = some (.int .i64 i) ∧ ∀ j (hj : j < (L.map (·.2)).length), j < i → (fun x => !rightB x) (L.map (·.2))[j] = false) ?_ ⟨_, 0, rfl, Fix.refl _ _, rfl, by omega, ?_, ?_, ?_, ?_, ?_, fun j hj hji => absurd hji (Nat.not_lt_zero _)⟩
 ·rintro m fr hh ⟨ts, i, rfl, ff, rfl, hi, t1, t2, t6, t28, t29, hno⟩
  have xh := ff.next
  have bh := b3.fix ff (by omega)
  have Fh : Kept h hh := F3.trans (ff.sub fun b hb => by omega)
  have hLh := (hL3.fix ff fun b hb => by omega).up (K' := (· < hh.next)) fun b hb => by omega
  have hNh : Ss g hh ns N := Sl.fix hN3 (inN.sub fun b hb => by omega) ff
  ((repeat refine WC.seq ?_); refine WC.run ?_)
  (try simp only [wk, wl, wx, reduceLT, reduceEqDiff, Nat.reduceBEq, reduceIte, t28, t29])
  (repeat refine WC.seq ?_)
  by_cases hlt : i < L.length
  ·refine WC.cond (b := true) (by (try simp only [wk, wl, wx, reduceLT, reduceEqDiff, Nat.reduceBEq, reduceIte]); (try simp); (try omega)) (WC.skip ?_)
   (try simp only [wk, wl, wx, reduceLT, reduceEqDiff, Nat.reduceBEq, reduceIte])
   obtain ⟨lb, lc, rfl, hlc⟩ := not_one_nil hw hLh.sl (by omega)
   have hblk := hLh.sl.block (c := 0) (by omega)
   have hcell := hblk.part0 (p := i * 7) (q := 7) (by rw [flat_length' (sz := 7) (fun p => rfl)]; omega)
   rw [flat_at' (sz := 7) (fun p => rfl) hlt] at hcell
   have hmem := List.getElem_mem hlt
   have hlb := hLh.ins _ _ _ _ rfl
   (repeat refine WC.seq ?_)
   refine WC.block ?_
   ((repeat refine WC.seq ?_); refine WC.run ?_)
   (try simp only [wk, wl, wx, reduceLT, reduceEqDiff, Nat.reduceBEq, reduceIte, t29])
   ((repeat refine WC.seq ?_); refine WC.run ?_)
   (try simp only [wk, wl, wx, reduceLT, reduceEqDiff, Nat.reduceBEq, reduceIte, t1, idx_slice ty108 rfl ty32 hlt, Nat.zero_add])
   refine (rightA_ok hcell hlb (hLh.im _ hmem) (hf _ hmem)).mono fun v h4 ⟨e4, f4⟩ => ?_
   subst e4
   have x4 := f4.next
   have b4 := bh.fix f4 (by omega)
   have F4 : Kept h h4 := Fh.trans (f4.sub fun b hb => by omega)
   (try simp only [wk, wl, wx, reduceLT, reduceEqDiff, Nat.reduceBEq, reduceIte, un_not])
   (repeat refine WC.seq ?_)
   have hq : (L.map (·.2))[i]'(by rw [lm]; exact hlt) = L[i].2 := List.getElem_map _
   cases hri : rightB L[i].2 with
   | false =>
    refine WC.cond (b := true) (by (try simp only [wk, wl, wx, reduceLT, reduceEqDiff, Nat.reduceBEq, reduceIte, hri]); (try simp); (try omega)) ?_
    (try simp only [wk, wl, wx, reduceLT, reduceEqDiff, Nat.reduceBEq, reduceIte])
    ((repeat refine WC.seq ?_); refine WC.run ?_)
    (try simp only [wk, wl, wx, reduceLT, reduceEqDiff, Nat.reduceBEq, reduceIte, t29])
    refine (bad_ok).mono fun v hb ⟨eb, fb⟩ => ?_
    subst eb
    have xb := fb.next
    (try simp only [wk, wl, wx, reduceLT, reduceEqDiff, Nat.reduceBEq, reduceIte])
    (try simp only [wk, wl, wx, reduceLT, reduceEqDiff, Nat.reduceBEq, reduceIte, t6])
    refine sat_store (b4.fix fb (by omega)) ty35 rfl (Nat.le_refl 2) rfl ?_
    intro hz az nz fz
    have lz : loadP (E g) hz 35 (.ptr h1.next 0) = some (.agg (faultV ((i : Int), 14))) := az.agg ty35 rfl (Nat.le_refl 2)
    (try simp only [wk, wl, wx, reduceLT, reduceEqDiff, Nat.reduceBEq, reduceIte])
    refine WC.ret ?_
    have hP : givenF x (L.map (·.2)) N = ((i : Int), 14) := by
     rw [hP0, fstI_at (i := i) (by rw [lm]; exact hlt) hno (by rw [hq, hri]; rfl)]
    (try simp only [wk, wl, wx, reduceLT, reduceEqDiff, Nat.reduceBEq, reduceIte, t6, lz])
    exact ⟨by rw [hP], ⟨by omega, fun b hb => by rw [fz.same b (by omega), fb.same b (by omega), F4.same b hb]⟩⟩
   | true =>
    refine WC.cond (b := false) (by (try simp only [wk, wl, wx, reduceLT, reduceEqDiff, Nat.reduceBEq, reduceIte, hri]); (try simp); (try omega)) (WC.skip ?_)
    (try simp only [wk, wl, wx, reduceLT, reduceEqDiff, Nat.reduceBEq, reduceIte])
    ((repeat refine WC.seq ?_); refine WC.run ?_)
    (try simp only [wk, wl, wx, reduceLT, reduceEqDiff, Nat.reduceBEq, reduceIte, t29, bin_add])
    refine ⟨_, ?_, _, i + 1, rfl, ff.trans (f4.sub fun b hb => by omega), rfl, by omega, ?_⟩
    ·omega
    (try simp only [wk, wl, wx, reduceLT, reduceEqDiff, Nat.reduceBEq, reduceIte, t1, t2, t6, t28])
    refine ⟨trivial, trivial, trivial, trivial, ?_, fun j hj hji => ?_⟩
    ·rw [wrap64 (by omega) (by omega)]; rfl
    ·rcases Nat.lt_succ_iff_lt_or_eq.1 hji with q | rfl
     ·exact hno j hj q
     ·rw [hq, hri]; rfl
  ·refine WC.cond (b := false) (by (try simp only [wk, wl, wx, reduceLT, reduceEqDiff, Nat.reduceBEq, reduceIte]); (try simp); (try omega)) (WC.exit ?_)
   have : i = L.length := by omega
   subst this
   (try simp only [wk, wl, wx, reduceLT, reduceEqDiff, Nat.reduceBEq, reduceIte])
   have hP1 : givenF x (L.map (·.2)) N = namesF [] N := by rw [hP0, fstI_none fun j hj => hno j hj (by rw [lm] at hj; exact hj)]
   ((repeat refine WC.seq ?_); refine WC.run ?_)
   (try simp only [wk, wl, wx, reduceLT, reduceEqDiff, Nat.reduceBEq, reduceIte, t2, Sl.lenB hNh ty30 rfl])
   (repeat refine WC.seq ?_)
   refine WC.block ?_
   refine WC.while (fun m fr hq => ∃ ts i, fr = ⟨ts, 63, [], 101, none⟩ ∧ hq = hh ∧ m = N.length - i ∧ i ≤ N.length ∧ ts.get 2 = some ns ∧ ts.get 6 = some (.ptr h1.next 0) ∧ ts.get 40 = some ns ∧ ts.get 41 = some (.int .i64 N.length) ∧ ts.get 42 = some (.int .i64 i) ∧ namesF [] N = namesF (N.take i) (N.drop i)) ?_ ⟨_, 0, rfl, rfl, rfl, by omega, ?_, ?_, ?_, ?_, ?_, by simp⟩
   ·rintro m fr hq ⟨ts, i, rfl, rfl, rfl, hi, t2, t6, t40, t41, t42, hnf⟩
    ((repeat refine WC.seq ?_); refine WC.run ?_)
    (try simp only [wk, wl, wx, reduceLT, reduceEqDiff, Nat.reduceBEq, reduceIte, t41, t42])
    (repeat refine WC.seq ?_)
    by_cases hlt : i < N.length
    ·refine WC.cond (b := true) (by (try simp only [wk, wl, wx, reduceLT, reduceEqDiff, Nat.reduceBEq, reduceIte]); (try simp); (try omega)) (WC.skip ?_)
     (try simp only [wk, wl, wx, reduceLT, reduceEqDiff, Nat.reduceBEq, reduceIte])
     obtain ⟨p, p1, p2⟩ := hNh.at ty30 rfl ty9 rfl rfl hlt
     have p2 := p2 hq fun _ _ _ _ _ => rfl
     rw [namesF_step hlt] at hnf
     (repeat refine WC.seq ?_)
     refine WC.block ?_
     ((repeat refine WC.seq ?_); refine WC.run ?_)
     (try simp only [wk, wl, wx, reduceLT, reduceEqDiff, Nat.reduceBEq, reduceIte, t40, t42, p1, p2])
     ((repeat refine WC.seq ?_); refine WC.run ?_)
     (try simp only [wk, wl, wx, reduceLT, reduceEqDiff, Nat.reduceBEq, reduceIte])
     refine (named0_ok).mono fun v h4 ⟨e4, e4'⟩ => ?_
     subst e4 e4'
     (try simp only [wk, wl, wx, reduceLT, reduceEqDiff, Nat.reduceBEq, reduceIte])
     ((repeat refine WC.seq ?_); refine WC.run ?_)
     (try simp only [wk, wl, wx, reduceLT, reduceEqDiff, Nat.reduceBEq, reduceIte])
     (repeat refine WC.seq ?_)
     by_cases hnm : nameE N[i] = 0
     ·refine WC.cond (b := false) (by (try simp only [wk, wl, wx, reduceLT, reduceEqDiff, Nat.reduceBEq, reduceIte, hnm]); (try simp); (try omega)) (WC.skip ?_)
      (try simp only [wk, wl, wx, reduceLT, reduceEqDiff, Nat.reduceBEq, reduceIte])
      obtain ⟨s', hs1, hs2, _⟩ := Sl.sub hNh ty30 rfl (sizeOf_of ty9) (lo := none) (hi := some i) (l := 0) (r := i) rfl rfl (Nat.zero_le _) (by omega)
      have hs2 : Ss g h4 s' (N.take i) := by
       show Sl (E g) h4 1 s' (N.take i).length ((N.take i).map V.str)
       rw [List.length_take, Nat.min_eq_left (by omega), List.map_take]
       simpa using hs2
      have hs1 : sliceV (E g) 30 ns none (some (.int .i64 i)) none = some s' := hs1
      ((repeat refine WC.seq ?_); refine WC.run ?_)
      (try simp only [wk, wl, wx, reduceLT, reduceEqDiff, Nat.reduceBEq, reduceIte, t2, t42, hs1])
      refine (containsS_ok (k := N[i]) hs2 (by rw [List.length_take]; omega)).mono fun v h5 ⟨e5, e5'⟩ => ?_
      subst e5 e5'
      (try simp only [wk, wl, wx, reduceLT, reduceEqDiff, Nat.reduceBEq, reduceIte])
      (repeat refine WC.seq ?_)
      cases hct : (N.take i).contains N[i] with
      | true =>
       refine WC.cond (b := true) (by (try simp only [wk, wl, wx, reduceLT, reduceEqDiff, Nat.reduceBEq, reduceIte, hct]); (try simp); (try omega)) ?_
       (try simp only [wk, wl, wx, reduceLT, reduceEqDiff, Nat.reduceBEq, reduceIte])
       ((repeat refine WC.seq ?_); refine WC.run ?_)
       (try simp only [wk, wl, wx, reduceLT, reduceEqDiff, Nat.reduceBEq, reduceIte, t42])
       refine (bad_ok).mono fun v hb ⟨eb, fb⟩ => ?_
       subst eb
       have xb := fb.next
       (try simp only [wk, wl, wx, reduceLT, reduceEqDiff, Nat.reduceBEq, reduceIte])
       (try simp only [wk, wl, wx, reduceLT, reduceEqDiff, Nat.reduceBEq, reduceIte, t6])
       refine sat_store (bh.fix fb (by omega)) ty35 rfl (Nat.le_refl 2) rfl ?_
       intro hz az nz fz
       have lz : loadP (E g) hz 35 (.ptr h1.next 0) = some (.agg (faultV ((i : Int), 38))) := az.agg ty35 rfl (Nat.le_refl 2)
       (try simp only [wk, wl, wx, reduceLT, reduceEqDiff, Nat.reduceBEq, reduceIte])
       refine WC.ret ?_
       have hP : givenF x (L.map (·.2)) N = ((i : Int), 38) := by rw [hP1, hnf, if_neg (by simp [hnm]), if_pos hct]
       (try simp only [wk, wl, wx, reduceLT, reduceEqDiff, Nat.reduceBEq, reduceIte, t6, lz])
       exact ⟨by rw [hP], ⟨by omega, fun b hb => by rw [fz.same b (by omega), fb.same b (by omega), Fh.same b hb]⟩⟩
      | false =>
       refine WC.cond (b := false) (by (try simp only [wk, wl, wx, reduceLT, reduceEqDiff, Nat.reduceBEq, reduceIte, hct]); (try simp); (try omega)) (WC.skip ?_)
       (try simp only [wk, wl, wx, reduceLT, reduceEqDiff, Nat.reduceBEq, reduceIte])
       ((repeat refine WC.seq ?_); refine WC.run ?_)
       (try simp only [wk, wl, wx, reduceLT, reduceEqDiff, Nat.reduceBEq, reduceIte, t42, bin_add])
       refine ⟨_, ?_, _, i + 1, rfl, by trivial, rfl, by omega, ?_⟩
       ·omega
       (try simp only [wk, wl, wx, reduceLT, reduceEqDiff, Nat.reduceBEq, reduceIte, t2, t6, t40, t41])
       refine ⟨trivial, trivial, trivial, trivial, ?_, ?_⟩
       ·rw [wrap64 (by omega) (by omega)]; rfl
       ·rw [hnf, if_neg (by simp [hnm]), if_neg (by rw [hct]; simp)]
     ·refine WC.cond (b := true) (by (try simp only [wk, wl, wx, reduceLT, reduceEqDiff, Nat.reduceBEq, reduceIte, hnm]); (try simp); (try omega)) ?_
      (try simp only [wk, wl, wx, reduceLT, reduceEqDiff, Nat.reduceBEq, reduceIte])
      ((repeat refine WC.seq ?_); refine WC.run ?_)
      (try simp only [wk, wl, wx, reduceLT, reduceEqDiff, Nat.reduceBEq, reduceIte, t42])
      refine (bad_ok).mono fun v hb ⟨eb, fb⟩ => ?_
      subst eb
      have xb := fb.next
      (try simp only [wk, wl, wx, reduceLT, reduceEqDiff, Nat.reduceBEq, reduceIte])
      (try simp only [wk, wl, wx, reduceLT, reduceEqDiff, Nat.reduceBEq, reduceIte, t6])
      refine sat_store (bh.fix fb (by omega)) ty35 rfl (Nat.le_refl 2) rfl ?_
      intro hz az nz fz
      have lz : loadP (E g) hz 35 (.ptr h1.next 0) = some (.agg (faultV ((i : Int), nameE N[i]))) := az.agg ty35 rfl (Nat.le_refl 2)
      (try simp only [wk, wl, wx, reduceLT, reduceEqDiff, Nat.reduceBEq, reduceIte])
      refine WC.ret ?_
      have hP : givenF x (L.map (·.2)) N = ((i : Int), nameE N[i]) := by rw [hP1, hnf, if_pos hnm]
      (try simp only [wk, wl, wx, reduceLT, reduceEqDiff, Nat.reduceBEq, reduceIte, t6, lz])
      exact ⟨by rw [hP], ⟨by omega, fun b hb => by rw [fz.same b (by omega), fb.same b (by omega), Fh.same b hb]⟩⟩
    ·refine WC.cond (b := false) (by (try simp only [wk, wl, wx, reduceLT, reduceEqDiff, Nat.reduceBEq, reduceIte]); (try simp); (try omega)) (WC.exit ?_)
     have : i = N.length := by omega
     subst this
     (try simp only [wk, wl, wx, reduceLT, reduceEqDiff, Nat.reduceBEq, reduceIte])
     ((repeat refine WC.seq ?_); refine WC.run ?_)
     (try simp only [wk, wl, wx, reduceLT, reduceEqDiff, Nat.reduceBEq, reduceIte, t6, build73_0])
     refine sat_store bh ty35 rfl (Nat.le_refl 2) rfl ?_
     intro hz az nz fz
     have lz : loadP (E g) hz 35 (.ptr h1.next 0) = some (.agg (faultV (0, 0))) := az.agg ty35 rfl (Nat.le_refl 2)
     (try simp only [wk, wl, wx, reduceLT, reduceEqDiff, Nat.reduceBEq, reduceIte, t6])
     refine WC.ret ?_
     (try simp only [wk, wl, wx, reduceLT, reduceEqDiff, Nat.reduceBEq, reduceIte, t6, lz])
     refine ⟨?_, ⟨by omega, fun b hb => by rw [fz.same b (by omega), Fh.same b hb]⟩⟩
     rw [hP1, hnf, List.drop_length, namesF]
   all_goals (try simp only [wk, wl, wx, reduceLT, reduceEqDiff, Nat.reduceBEq, reduceIte, t2, t6])
   all_goals (first | done | rfl | trivial | simp)
 all_goals (try simp only [wk, wl, wx, reduceLT, reduceEqDiff, Nat.reduceBEq, reduceIte])
 all_goals (first | done | rfl | trivial | simp)
end Go.Proofs.OP
