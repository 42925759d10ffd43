/- Walks: (*linker).finish. Printed by genL8.py. -/
import Derived.Test.YtloblhhnlaaajaaDoorX15
import Derived.Test.YtloblhhnlaaajaaDoorX38
set_option linter.unusedVariables false
set_option linter.unusedSimpArgs false
set_option linter.defProp false
set_option linter.unusedSimpArgs false
namespace Go.Proofs.OP
open Go Go.Ev
open Go.Proofs
open Nat (reduceLT reduceEqDiff)
variable {g : T (List V)}

def expsOf (D : Dm) (K : List (List UInt8)) : List ExpD := K.map fun k => ⟨k, ((al k D).getD zGl).addr⟩
def slotsOf (D : Dm) (S : St) (K : List (List UInt8)) : List SlotD := K.map fun k => ⟨k, (al k S).getD 0, ((al k D).getD zGl).addr⟩
def finB (base : Int) : List SlotD → List UInt8 → List UInt8
 | [], bs => bs
 | s :: r, bs => finB base r (putAt bs (s.addr - base).toNat (leB (U s.bound) 8))
def addN : List (List UInt8) → List (List UInt8) → List (List UInt8)
 | [], N => N
 | s :: r, N => addN r (if N.contains s then N else N ++ [s])
def needsOf : List ObjD → List (List UInt8) → List (List UInt8)
 | [], N => N
 | o :: r, N => needsOf r (addN o.needs N)
theorem bld41 {n : List UInt8} {a : Int} : buildV (E g) 41 [(0, .str n), (1, .int .i64 a)] = some (.agg (expV ⟨n, a⟩)) := by
 simp only [buildV, ty41, fillAll, nth, sizeOf_of ty9, sizeOf_of ty2, List.all_cons, List.all_nil, ty9, ty2, Option.isSome_some, Bool.and_true, Bool.not_true, cond_false]
 rfl
theorem bld43 {n : List UInt8} {a b : Int} : buildV (E g) 43 [(0, .str n), (1, .int .i64 a), (2, .int .i64 b)] = some (.agg (slotV ⟨n, a, b⟩)) := by
 simp only [buildV, ty43, fillAll, nth, sizeOf_of ty9, sizeOf_of ty2, List.all_cons, List.all_nil, ty9, ty2, Option.isSome_some, Bool.and_true, Bool.not_true, cond_false]
 rfl
theorem take_flat {α : Type} {f : α → List V} {L : List α} {j : Nat} (hj : j < L.length) : (L.take (j + 1)).flatMap f = (L.take j).flatMap f ++ f L[j] := by
 rw [List.take_succ_eq_append_getElem hj, flat_app1]
theorem one_app {s s' : V} {h7 : Nat} {lo hi : Nat} (sin : In (fun b => lo ≤ b ∧ b < hi) s) (o8 : ∀ b o k c, s' = .slice b o k c → b = h7 ∨ ∃ o k c, s = .slice b o k c) (h1 : lo ≤ h7) {hi' : Nat} (i8 : In (· < hi') s') : In (fun b => lo ≤ b ∧ b < hi') s' := by
 refine fun b o n c e => ⟨?_, i8 _ _ _ _ e⟩
 rcases o8 _ _ _ _ e with q | ⟨o, k, c, q⟩
 ·omega
 ·exact (sin _ _ _ _ q).1

set_option maxRecDepth 100000 in
set_option maxHeartbeats 32000000 in
theorem finish_ok {n0 kb db sb stb bb N : Nat} {h : H} {ls : V} {L : List (Oc × ObjD)} {base code entry : Int} {D : Dm} {S : St} {bs0 : List UInt8} (hn0 : n0 ≤ h.next) (a : Obs g h (· < n0) ls L) (fL : ∀ p ∈ L, p.2.needs.length ≤ 2 ^ 20)
  (m : LkM g h kb db sb stb ls L.length (L.map (·.2)) base D S (imV base bb N code entry .nils .nils .nils)) (z : Lsz (L.map (·.2)) base L.length) (k0 : n0 ≤ kb) (b0 : n0 ≤ bb) (hbb : bb < h.next) (bk : bb ≠ kb) (bd : bb ≠ db) (bsb : bb ≠ sb) (bst : bb ≠ stb) (dk : db ≠ kb) (sk : sb ≠ kb) (tk : stb ≠ kb)
  (bb0 : At h bb 0 (bs0.map u8)) (l0 : bs0.length = N) (hN : N ≤ 2 ^ 30) (nD : (D.map (·.1)).Nodup) (lD : D.length ≤ 2 ^ 20) (kD : ∀ p ∈ D, p.1.length ≤ 2 ^ 20) (nS : (S.map (·.1)).Nodup) (lS : S.length ≤ 2 ^ 20) (kS : ∀ p ∈ S, p.1.length ≤ 2 ^ 20)
  (gS : ∀ k ∈ sortS (S.map (·.1)), ∃ l : Nat, (al k S).getD 0 = base + l ∧ l + 8 ≤ N) :
  WF (E g) 37 [.ptr kb 0] h fun _ h' => Fix (fun b => b < h.next ∧ b ≠ kb ∧ b ≠ bb) h h' ∧ ∃ ex sl nd, Has h' kb (lkV ls base (.slice stb 0 L.length (.lit L.length)) db sb (imV base bb N code entry ex sl nd)) ∧
   Im g h' (fun b => b < h'.next ∧ (b = bb ∨ h.next ≤ b)) ⟨.slice bb 0 N (.lit N), ex, sl, nd⟩ ⟨base, finB base (slotsOf D S (sortS (S.map (·.1)))) bs0, code, entry, expsOf D (sortS (D.map (·.1))), slotsOf D S (sortS (S.map (·.1))), needsOf (L.map (·.2)) []⟩ := by
 have hb0 := z.bas.pos
 have hb1 := z.bas.most
 have lL := z.few
 have kn := m.kn
 have dn := m.dn
 have sn := m.sn
 have tn := m.tn
 generalize hos : L.map (·.2) = os at *
 refine WF.enter fn37 rfl ?_
 ((repeat refine WC.seq ?_); refine WC.run ?_)
 (try simp only [wk, wl, wx, reduceLT, reduceEqDiff, Nat.reduceBEq, reduceIte, fa105_3, Nat.zero_add, m.bk.at ty101 rfl])
 refine (keys92_ok).mono fun v h1 ⟨e1, b1, n1, f1⟩ => ?_
 subst e1
 (try simp only [wk, wl, wx, reduceLT, reduceEqDiff, Nat.reduceBEq, reduceIte])
 refine (sorted_ok (.inr rfl) b1 (m.md.fix f1 (by omega)) nD (by omega) (fun p hp => by have := kD p hp; omega)).mono fun v h2 ⟨bf2, in2, f2⟩ => ?_
 have x2 := f2.next
 have ss2 := sl_strs bf2 (sortS_len D)
 have F2 : Kept h h2 := ⟨by omega, fun b hb => by rw [f2.same b (by omega), f1.same b hb]⟩
 have m2 := m.kept F2
 have bb2 := bb0.fix F2 (by omega)
 have a2 := a.fix F2 fun b hb => by omega
 have hlK := sortS_len D
 generalize hK : sortS (D.map (·.1)) = K at *
 (try simp only [wk, wl, wx, reduceLT, reduceEqDiff, Nat.reduceBEq, reduceIte, Sl.lenB ss2 ty30 rfl])
 (repeat refine WC.seq ?_)
 refine WC.block ?_
 refine WC.while (fun mm fr hj => ∃ ts j ex, fr = ⟨ts, 125, [], 37, none⟩ ∧ Fix (fun b => b < h2.next ∧ b ≠ kb) h2 hj ∧ mm = K.length - j ∧ j ≤ K.length ∧ ts.get 0 = some (.ptr kb 0) ∧ ts.get 16 = some v ∧ ts.get 17 = some (.int .i64 K.length) ∧ ts.get 18 = some (.int .i64 j) ∧ LkM g hj kb db sb stb ls L.length os base D S (imV base bb N code entry ex .nils .nils) ∧ Buf (E g) hj 41 2 ex j (((expsOf D K).take j).flatMap expV) ∧ In (fun b => h2.next ≤ b ∧ b < hj.next) ex) ?_ ⟨_, 0, .nils, rfl, Fix.refl _ _, rfl, by omega, ?_, ?_, ?_, ?_, m2, Buf.nil, In.nils⟩
 ·rintro mm fr hj ⟨ts, j, ex, rfl, fj, rfl, hjl, t0, t16, t17, t18, mj, bfj, inj⟩
  have xj := fj.next
  have ssj : Ss g hj v K := Sl.fix ss2 (in2.sub fun b hb => ⟨hb.2, by omega⟩) fj
  ((repeat refine WC.seq ?_); refine WC.run ?_)
  (try simp only [wk, wl, wx, reduceLT, reduceEqDiff, Nat.reduceBEq, reduceIte, t17, t18])
  (repeat refine WC.seq ?_)
  by_cases hlj : j < K.length
  ·refine WC.cond (b := true) (by (try simp only [wk, wl, wx, reduceLT, reduceEqDiff, Nat.reduceBEq, reduceIte]); (try simp); (try omega)) (WC.skip ?_)
   (try simp only [wk, wl, wx, reduceLT, reduceEqDiff, Nat.reduceBEq, reduceIte])
   obtain ⟨p, p1, p2⟩ := ssj.at ty30 rfl ty9 rfl rfl hlj
   have p2 := p2 hj fun _ _ _ _ _ => rfl
   have lk1 := tab1 (E := E g) (z := zGl) (k := K[j]) mj.md ty101 rfl ty9 rfl ty174 rfl
   have hX : (expsOf D K)[j]'(by simpa [expsOf] using hlj) = ⟨K[j], ((al K[j] D).getD zGl).addr⟩ := by simp [expsOf]
   (repeat refine WC.seq ?_)
   refine WC.block ?_
   ((repeat refine WC.seq ?_); refine WC.run ?_)
   (try simp only [wk, wl, wx, reduceLT, reduceEqDiff, Nat.reduceBEq, reduceIte, t16, t18, p1, p2])
   ((repeat refine WC.seq ?_); refine WC.draw (plans := pl37_3) (by kernel_rfl) ?_; simp only [pl37_3, List.mem_cons, List.not_mem_nil, or_false, forall_eq_or_imp, forall_eq])
   (try simp (maxSteps := 2000000) only [wk, wl, wx, reduceLT, reduceEqDiff, Nat.reduceBEq, reduceIte, wd, Chk, and_true, true_and, t0, fa105_3, fa105_5, fa32_4, Nat.zero_add, mj.bk.at ty28 rfl, mj.bk.at ty101 rfl, o_lookup, w_lookup, lk1, fld174, i64, bld41])
   refine sat_buildSlice (cs := expV ⟨K[j], ((al K[j] D).getD zGl).addr⟩) ty28 rfl ty41 rfl (by decide) (by decide) (fill2 (expV_length _)) rfl ?_
   intro h7 bl n7 f7
   have m7 := mj.kept f7
   have lk7 := tab1 (E := E g) (z := zGl) (k := K[j]) m7.md ty101 rfl ty9 rfl ty174 rfl
   have bf7 := bfj.fix (K := (· < hj.next)) (inj.sub fun b hb => hb.2) f7
   (try simp (maxSteps := 2000000) only [wk, wl, wx, reduceLT, reduceEqDiff, Nat.reduceBEq, reduceIte, wd, Chk, and_true, true_and, t0, fa105_3, fa105_5, fa32_4, Nat.zero_add, m7.bk.at ty28 rfl, m7.bk.at ty101 rfl, o_lookup, w_lookup, lk7, fld174, i64, bld41])
   refine sat_append (m := 1) (ws := expV ⟨K[j], ((al K[j] D).getD zGl).addr⟩) bf7 ty28 rfl ty28 (.inl ⟨_, rfl⟩) ty41 rfl (by decide) (by decide) (Sl.len bl.sl) (Sl.cells bl.sl) rfl (expV_one _) (show (j + 1) * 24 ≤ 140737488355328 by omega) (inj.sub fun b hb => by omega) ?_
   intro s' h8 bf8 i8 o8 f8
   have x8 := f8.next
   have m8 := m7.fix f8 ⟨by omega, fun o k cc e => by have := inj _ _ _ _ e; omega⟩ ⟨by omega, fun o k cc e => by have := inj _ _ _ _ e; omega⟩ ⟨by omega, fun o k cc e => by have := inj _ _ _ _ e; omega⟩ ⟨by omega, fun o k cc e => by have := inj _ _ _ _ e; omega⟩
   have lk8 := tab1 (E := E g) (z := zGl) (k := K[j]) m8.md ty101 rfl ty9 rfl ty174 rfl
   (try simp (maxSteps := 2000000) only [wk, wl, wx, reduceLT, reduceEqDiff, Nat.reduceBEq, reduceIte, wd, Chk, and_true, true_and, t0, fa105_3, fa105_5, fa32_4, Nat.zero_add, m8.bk.at ty28 rfl, m8.bk.at ty101 rfl, o_lookup, w_lookup, lk8, fld174, i64, bld41])
   have one8 : s'.cells = [s'] ∧ s'.one = true := Sl.one bf8.sl
   refine sat_store m8.bk ty28 (by rw [one8.1]; rfl) (show 5 + 4 + 1 ≤ 12 by decide) (by rw [one8.1]; simp [one8.2]) ?_
   intro h9 b9 n9 f9
   rw [one8.1] at b9
   have m9 := m8.put (im' := imV base bb N code entry s' .nils .nils) f9 b9 dk sk tk
   have lk9 := tab1 (E := E g) (z := zGl) (k := K[j]) m9.md ty101 rfl ty9 rfl ty174 rfl
   have in8 := one_app (hi := hj.next) inj o8 (by omega) i8
   (try simp (maxSteps := 2000000) only [wk, wl, wx, reduceLT, reduceEqDiff, Nat.reduceBEq, reduceIte, wd, Chk, and_true, true_and, t0, fa105_3, fa105_5, fa32_4, Nat.zero_add, m9.bk.at ty28 rfl, m9.bk.at ty101 rfl, o_lookup, w_lookup, lk9, fld174, i64, bld41])
   ((repeat refine WC.seq ?_); refine WC.run ?_)
   (try simp only [wk, wl, wx, reduceLT, reduceEqDiff, Nat.reduceBEq, reduceIte, t18, bin_add])
   refine ⟨_, ?_, _, j + 1, s', rfl, ⟨by omega, fun b hb => by rw [f9.same b hb.2, f8.same b ⟨by omega, fun o k cc e => by have := inj _ _ _ _ e; omega⟩, f7.same b (by omega), fj.same b hb]⟩, rfl, by omega, ?_⟩
   ·omega
   (try simp only [wk, wl, wx, reduceLT, reduceEqDiff, Nat.reduceBEq, reduceIte, t0, t16, t17])
   refine ⟨trivial, trivial, trivial, ?_, m9, ?_, in8.sub fun b hb => by omega⟩
   ·rw [wrap64 (by omega) (by omega)]; rfl
   ·rw [take_flat (by simpa [expsOf] using hlj), hX]
    exact bf8.fix (K := (· ≠ kb)) (in8.sub fun b hb => by omega) f9
  ·refine WC.cond (b := false) (by (try simp only [wk, wl, wx, reduceLT, reduceEqDiff, Nat.reduceBEq, reduceIte]); (try simp); (try omega)) (WC.exit ?_)
   have : j = K.length := by omega
   subst this
   have hXl : (expsOf D K).length = K.length := by simp [expsOf]
   rw [List.take_of_length_le (by omega)] at bfj
   have FX : Fix (fun b => b < h.next ∧ b ≠ kb) h hj := ⟨by omega, fun b hb => by rw [fj.same b ⟨by omega, hb.2⟩, F2.same b hb.1]⟩
   have aX := a2.fix fj fun b hb => by omega
   have bbX := bb2.fix fj ⟨by omega, bk⟩
   have exs : Sl (E g) hj 2 ex (expsOf D K).length ((expsOf D K).flatMap expV) := by rw [hXl]; exact bfj.sl
   (try simp only [wk, wl, wx, reduceLT, reduceEqDiff, Nat.reduceBEq, reduceIte])
   ((repeat refine WC.seq ?_); refine WC.run ?_)
   (try simp only [wk, wl, wx, reduceLT, reduceEqDiff, Nat.reduceBEq, reduceIte, t0, fa105_4, Nat.zero_add, mj.bk.at ty102 rfl])
   refine (keys88_ok).mono fun v3 h3 ⟨e3, b3, n3, f3⟩ => ?_
   subst e3
   (try simp only [wk, wl, wx, reduceLT, reduceEqDiff, Nat.reduceBEq, reduceIte])
   refine (sorted_ok (.inl rfl) b3 (mj.ms.fix f3 (by have := mj.sn; omega)) nS (by omega) (fun p hp => by have := kS p hp; omega)).mono fun v3 h4 ⟨bf4, in4, f4⟩ => ?_
   have x4 := f4.next
   have ss4 := sl_strs bf4 (sortS_len S)
   have F4 : Kept hj h4 := ⟨by omega, fun b hb => by rw [f4.same b (by omega), f3.same b hb]⟩
   have m4 := mj.kept F4
   have bb4 := bbX.fix F4 (by omega)
   have a4 := aX.fix F4 fun b hb => by omega
   have ex4 := Sl.fix exs (inj.sub fun b hb => hb.2) F4
   have hlM := sortS_len S
   generalize hM : sortS (S.map (·.1)) = M at *
   have hYl : (slotsOf D S M).length = M.length := by simp [slotsOf]
   (try simp only [wk, wl, wx, reduceLT, reduceEqDiff, Nat.reduceBEq, reduceIte, Sl.lenB ss4 ty30 rfl])
   (repeat refine WC.seq ?_)
   refine WC.block ?_
   refine WC.while (fun mm fr hq => ∃ ts j sl bs, fr = ⟨ts, 125, [], 37, none⟩ ∧ Fix (fun b => b < h4.next ∧ b ≠ kb ∧ b ≠ bb) h4 hq ∧ mm = M.length - j ∧ j ≤ M.length ∧ ts.get 0 = some (.ptr kb 0) ∧ ts.get 48 = some v3 ∧ ts.get 49 = some (.int .i64 M.length) ∧ ts.get 50 = some (.int .i64 j) ∧ LkM g hq kb db sb stb ls L.length os base D S (imV base bb N code entry ex sl .nils) ∧ Buf (E g) hq 43 3 sl j (((slotsOf D S M).take j).flatMap slotV) ∧ In (fun b => h4.next ≤ b ∧ b < hq.next) sl ∧ At hq bb 0 (bs.map u8) ∧ bs.length = N ∧ finB base ((slotsOf D S M).drop j) bs = finB base (slotsOf D S M) bs0) ?_ ⟨_, 0, .nils, bs0, rfl, Fix.refl _ _, rfl, by omega, ?_, ?_, ?_, ?_, m4, Buf.nil, In.nils, bb4, l0, rfl⟩
   ·rintro mm fr hq ⟨ts, j, sl, bs, rfl, fq, rfl, hjl, t0, t48, t49, t50, mq, bfq, inq, bbq, lbs, hB⟩
    have xq := fq.next
    have ssq : Ss g hq v3 M := Sl.fix ss4 (in4.sub fun b hb => ⟨hb.2, by omega, by omega⟩) fq
    ((repeat refine WC.seq ?_); refine WC.run ?_)
    (try simp only [wk, wl, wx, reduceLT, reduceEqDiff, Nat.reduceBEq, reduceIte, t49, t50])
    (repeat refine WC.seq ?_)
    by_cases hlj : j < M.length
    ·refine WC.cond (b := true) (by (try simp only [wk, wl, wx, reduceLT, reduceEqDiff, Nat.reduceBEq, reduceIte]); (try simp); (try omega)) (WC.skip ?_)
     (try simp only [wk, wl, wx, reduceLT, reduceEqDiff, Nat.reduceBEq, reduceIte])
     obtain ⟨p, p1, p2⟩ := ssq.at ty30 rfl ty9 rfl rfl hlj
     have p2 := p2 hq fun _ _ _ _ _ => rfl
     have lk1 := tab1 (E := E g) (z := zGl) (k := M[j]) mq.md ty101 rfl ty9 rfl ty174 rfl
     have lo1 := tab1 (E := E g) (z := (0 : Int)) (k := M[j]) mq.ms ty102 rfl ty9 rfl ty2 rfl
     obtain ⟨l, hl1, hl2⟩ := gS _ (List.getElem_mem hlj)
     have hX : (slotsOf D S M)[j]'(by omega) = ⟨M[j], (al M[j] S).getD 0, ((al M[j] D).getD zGl).addr⟩ := by simp [slotsOf]
     rw [drop_cons (by omega), hX] at hB
     generalize hY : (⟨M[j], (al M[j] S).getD 0, ((al M[j] D).getD zGl).addr⟩ : SlotD) = Y at hX hB
     simp only [finB] at hB
     have hYa : Y.addr = base + l := by rw [← hY]; exact hl1
     have hYt : (Y.addr - base).toNat = l := by omega
     rw [hYt] at hB
     have hYv : slotV Y = [.str M[j], i64 ((al M[j] S).getD 0), i64 ((al M[j] D).getD zGl).addr] := by rw [← hY]; rfl
     have bY : buildV (E g) 43 [(0, .str M[j]), (1, .int .i64 ((al M[j] S).getD 0)), (2, .int .i64 ((al M[j] D).getD zGl).addr)] = some (.agg (slotV Y)) := by rw [← hY]; exact bld43
     (repeat refine WC.seq ?_)
     refine WC.block ?_
     ((repeat refine WC.seq ?_); refine WC.run ?_)
     (try simp only [wk, wl, wx, reduceLT, reduceEqDiff, Nat.reduceBEq, reduceIte, t48, t50, p1, p2])
     ((repeat refine WC.seq ?_); refine WC.draw (plans := pl37_8) (by kernel_rfl) ?_; simp only [pl37_8, List.mem_cons, List.not_mem_nil, or_false, forall_eq_or_imp, forall_eq])
     (try simp (maxSteps := 2000000) only [wk, wl, wx, reduceLT, reduceEqDiff, Nat.reduceBEq, reduceIte, wd, Chk, and_true, true_and, t0, fa105_3, fa105_4, Nat.zero_add, mq.bk.at ty102 rfl, mq.bk.at ty101 rfl, o_lookup, w_lookup, lk1, lo1, fld174, i64, bY])
     refine wop_alloc ty43 ?_
     intro h5 b5 n5 f5
     have m5 := mq.kept f5
     have lk5 := tab1 (E := E g) (z := zGl) (k := M[j]) m5.md ty101 rfl ty9 rfl ty174 rfl
     have lo5 := tab1 (E := E g) (z := (0 : Int)) (k := M[j]) m5.ms ty102 rfl ty9 rfl ty2 rfl
     (try simp (maxSteps := 2000000) only [wk, wl, wx, reduceLT, reduceEqDiff, Nat.reduceBEq, reduceIte, wd, Chk, and_true, true_and, t0, fa105_3, fa105_4, Nat.zero_add, m5.bk.at ty102 rfl, m5.bk.at ty101 rfl, o_lookup, w_lookup, lk5, lo5, fld174, i64, bY])
     refine sat_store b5 ty43 rfl (Nat.le_refl 3) (slotV_one Y) ?_
     intro h6 b6 n6 f6
     have b6 : Has h6 hq.next (slotV Y) := b6
     have F6 : Kept hq h6 := ⟨by omega, fun b hb => by rw [f6.same b (by omega), f5.same b hb]⟩
     have m6 := mq.kept F6
     have lk6 := tab1 (E := E g) (z := zGl) (k := M[j]) m6.md ty101 rfl ty9 rfl ty174 rfl
     have lo6 := tab1 (E := E g) (z := (0 : Int)) (k := M[j]) m6.ms ty102 rfl ty9 rfl ty2 rfl
     have l6 : loadP (E g) h6 43 (.ptr hq.next 0) = some (.agg (slotV Y)) := b6.agg ty43 rfl (Nat.le_refl 3)
     have bb6 := bbq.fix F6 (by omega)
     have kn6 := m6.kn
     (try simp (maxSteps := 2000000) only [wk, wl, wx, reduceLT, reduceEqDiff, Nat.reduceBEq, reduceIte, wd, Chk, and_true, true_and, t0, fa105_3, fa105_4, Nat.zero_add, m6.bk.at ty102 rfl, m6.bk.at ty101 rfl, o_lookup, w_lookup, lk6, lo6, fld174, i64, bY])
     have ac : At h6 kb 5 [i64 base, .slice bb 0 N (.lit N), i64 code, i64 entry, ex, sl, .nils] := by
      have := m6.bk.at0.part (p := 5) (q := 7) (show 5 + 7 ≤ 12 by decide)
      exact this
     ((repeat refine WC.seq ?_); refine WC.draw (plans := pl37_9) (by kernel_rfl) ?_; simp only [pl37_9, List.mem_cons, List.not_mem_nil, or_false, forall_eq_or_imp, forall_eq])
     (try simp (maxSteps := 2000000) only [wk, wl, wx, reduceLT, reduceEqDiff, Nat.reduceBEq, reduceIte, wd, Chk, and_true, true_and, t0, fa105_5, Nat.zero_add, l6])
     refine (bind_ok (c := ⟨.slice bb 0 N (.lit N), ex, sl, .nils⟩) (x := ⟨base, bs, code, entry, [], [], []⟩) (s := Y) (l := l) ac kn6 (show V.slice bb 0 N (.lit N) = .slice bb 0 bs.length (.lit N) by rw [lbs]) (.inl (show Cp.lit N = .lit bs.length by rw [lbs])) bb6 (by omega) (show IntKind.i64.wrap (Y.addr - base) = (l : Int) by rw [wrap64 (by omega) (by omega)]; omega) (show l + 8 ≤ bs.length by omega)).mono fun vb h7 ⟨a7, f7⟩ => ?_
     have a7 : At h7 bb 0 ((putAt bs l (leB (U Y.bound) 8)).map u8) := a7
     have x7 := f7.next
     have l7b : (putAt bs l (leB (U Y.bound) 8)).length = N := by rw [putAt_length (by rw [leB_length]; omega), lbs]
     have dn6 := m6.dn
     have sn6 := m6.sn
     have tn6 := m6.tn
     have m7 := m6.fix f7 ⟨by omega, by omega⟩ ⟨by omega, by omega⟩ ⟨by omega, by omega⟩ ⟨by omega, by omega⟩
     have b7 := b6.fix f7 ⟨by omega, by omega⟩
     have l7 : loadP (E g) h7 43 (.ptr hq.next 0) = some (.agg (slotV Y)) := b7.agg ty43 rfl (Nat.le_refl 3)
     (try simp (maxSteps := 2000000) only [wk, wl, wx, reduceLT, reduceEqDiff, Nat.reduceBEq, reduceIte, wd, Chk, and_true, true_and, t0, fa105_5, Nat.zero_add, l7])
     ((repeat refine WC.seq ?_); refine WC.draw (plans := pl37_10) (by kernel_rfl) ?_; simp only [pl37_10, List.mem_cons, List.not_mem_nil, or_false, forall_eq_or_imp, forall_eq])
     (try simp (maxSteps := 2000000) only [wk, wl, wx, reduceLT, reduceEqDiff, Nat.reduceBEq, reduceIte, wd, Chk, and_true, true_and, t0, fa105_5, fa32_5, Nat.zero_add, m7.bk.at ty29 rfl, l7])
     refine sat_buildSlice (cs := slotV Y) ty29 rfl ty43 rfl (by decide) (by decide) (fill3 (slotV_length _)) rfl ?_
     intro h8 bl n8 f8
     have m8 := m7.kept f8
     have b8 := b7.fix f8 (by omega)
     have l8 : loadP (E g) h8 43 (.ptr hq.next 0) = some (.agg (slotV Y)) := b8.agg ty43 rfl (Nat.le_refl 3)
     have bf8 := ((bfq.fix (K := (· < hq.next)) (inq.sub fun b hb => hb.2) F6).fix (K := fun b => b < h6.next ∧ b ≠ bb) (inq.sub fun b hb => ⟨by omega, by omega⟩) f7).fix (K := (· < h7.next)) (inq.sub fun b hb => by omega) f8
     (try simp (maxSteps := 2000000) only [wk, wl, wx, reduceLT, reduceEqDiff, Nat.reduceBEq, reduceIte, wd, Chk, and_true, true_and, t0, fa105_5, fa32_5, Nat.zero_add, m8.bk.at ty29 rfl, l8])
     refine sat_append (m := 1) (ws := slotV Y) bf8 ty29 rfl ty29 (.inl ⟨_, rfl⟩) ty43 rfl (by decide) (by decide) (Sl.len bl.sl) (Sl.cells bl.sl) rfl (slotV_one _) (show (j + 1) * 32 ≤ 140737488355328 by omega) (inq.sub fun b hb => by omega) ?_
     intro s' h9 bf9 i9 o9 f9
     have x9 := f9.next
     have m9 := m8.fix f9 ⟨by omega, fun o k cc e => by have := inq _ _ _ _ e; omega⟩ ⟨by omega, fun o k cc e => by have := inq _ _ _ _ e; omega⟩ ⟨by omega, fun o k cc e => by have := inq _ _ _ _ e; omega⟩ ⟨by omega, fun o k cc e => by have := inq _ _ _ _ e; omega⟩
     have b9 := b8.fix f9 ⟨by omega, fun o k cc e => by have := inq _ _ _ _ e; omega⟩
     have l9 : loadP (E g) h9 43 (.ptr hq.next 0) = some (.agg (slotV Y)) := b9.agg ty43 rfl (Nat.le_refl 3)
     (try simp (maxSteps := 2000000) only [wk, wl, wx, reduceLT, reduceEqDiff, Nat.reduceBEq, reduceIte, wd, Chk, and_true, true_and, t0, fa105_5, fa32_5, Nat.zero_add, m9.bk.at ty29 rfl, l9])
     have one9 : s'.cells = [s'] ∧ s'.one = true := Sl.one bf9.sl
     refine sat_store m9.bk ty29 (by rw [one9.1]; rfl) (show 5 + 5 + 1 ≤ 12 by decide) (by rw [one9.1]; simp [one9.2]) ?_
     intro hA bA nA fA
     rw [one9.1] at bA
     have mA := m9.put (im' := imV base bb N code entry ex s' .nils) fA bA dk sk tk
     have cA := b9.fix fA (by omega)
     have lA : loadP (E g) hA 43 (.ptr hq.next 0) = some (.agg (slotV Y)) := cA.agg ty43 rfl (Nat.le_refl 3)
     have in9 := one_app (hi := hq.next) inq o9 (by omega) i9
     (try simp (maxSteps := 2000000) only [wk, wl, wx, reduceLT, reduceEqDiff, Nat.reduceBEq, reduceIte, wd, Chk, and_true, true_and, t0, fa105_5, fa32_5, Nat.zero_add, mA.bk.at ty29 rfl, lA])
     ((repeat refine WC.seq ?_); refine WC.run ?_)
     (try simp only [wk, wl, wx, reduceLT, reduceEqDiff, Nat.reduceBEq, reduceIte, t50, bin_add])
     refine ⟨_, ?_, _, j + 1, s', putAt bs l (leB (U Y.bound) 8), rfl, ⟨by omega, fun b hb => by rw [fA.same b hb.2.1, f9.same b ⟨by omega, fun o k cc e => by have := inq _ _ _ _ e; omega⟩, f8.same b (by omega), f7.same b ⟨by omega, hb.2.2⟩, F6.same b (by omega), fq.same b hb]⟩, rfl, by omega, ?_⟩
     ·omega
     (try simp only [wk, wl, wx, reduceLT, reduceEqDiff, Nat.reduceBEq, reduceIte, t0, t48, t49])
     refine ⟨trivial, trivial, trivial, ?_, mA, ?_, in9.sub fun b hb => by omega, ((a7.fix f8 (by omega)).fix f9 ⟨by omega, fun o k cc e => by have := inq _ _ _ _ e; omega⟩).fix fA bk, l7b, hB⟩
     ·rw [wrap64 (by omega) (by omega)]; rfl
     ·rw [take_flat (by omega), hX]
      exact bf9.fix (K := (· ≠ kb)) (in9.sub fun b hb => by omega) fA
    ·refine WC.cond (b := false) (by (try simp only [wk, wl, wx, reduceLT, reduceEqDiff, Nat.reduceBEq, reduceIte]); (try simp); (try omega)) (WC.exit ?_)
     have : j = M.length := by omega
     subst this
     rw [List.take_of_length_le (by omega)] at bfq
     rw [List.drop_eq_nil_of_le (by omega)] at hB
     simp only [finB] at hB
     have FY : Fix (fun b => b < h.next ∧ b ≠ kb ∧ b ≠ bb) h hq := ⟨by omega, fun b hb => by rw [fq.same b ⟨by omega, hb.2.1, hb.2.2⟩, F4.same b (by omega), FX.same b ⟨hb.1, hb.2.1⟩]⟩
     have aY := a4.fix fq fun b hb => ⟨by omega, by omega, by omega⟩
     have exY := Sl.fix ex4 (inj.sub fun b hb => ⟨by omega, by omega, by omega⟩) fq
     have slY : Sl (E g) hq 3 sl (slotsOf D S M).length ((slotsOf D S M).flatMap slotV) := by rw [hYl]; exact bfq.sl
     (try simp only [wk, wl, wx, reduceLT, reduceEqDiff, Nat.reduceBEq, reduceIte, nb2])
     ((repeat refine WC.seq ?_); refine WC.run ?_)
     (try simp only [wk, wl, wx, reduceLT, reduceEqDiff, Nat.reduceBEq, reduceIte, t0, fa105_0, Nat.zero_add, mq.bk.at ty38 rfl, Sl.lenB aY.sl ty38 rfl])
     (repeat refine WC.seq ?_)
     refine WC.block ?_
     refine WC.while (fun mm fr hr => ∃ ts i nd Ns, fr = ⟨ts, 125, [], 37, none⟩ ∧ Fix (fun b => b < hq.next ∧ b ≠ kb) hq hr ∧ mm = L.length - i ∧ i ≤ L.length ∧ ts.get 0 = some (.ptr kb 0) ∧ ts.get 90 = some ls ∧ ts.get 91 = some (.int .i64 L.length) ∧ ts.get 92 = some (.int .i64 i) ∧ LkM g hr kb db sb stb ls L.length os base D S (imV base bb N code entry ex sl nd) ∧ Buf (E g) hr 9 1 nd Ns.length (Ns.map V.str) ∧ In (fun b => hq.next ≤ b ∧ b < hr.next) nd ∧ Ns.length ≤ i * 2 ^ 20 ∧ needsOf (os.drop i) Ns = needsOf os []) ?_ ⟨_, 0, .nils, [], rfl, Fix.refl _ _, rfl, by omega, ?_, ?_, ?_, ?_, mq, Buf.nil, In.nils, by simp, rfl⟩
     ·rintro mm fr hr ⟨ts, i, nd, Ns, rfl, fr1, rfl, hil, t0, t90, t91, t92, mr, bfr, inr, lNs, hNs⟩
      have xr := fr1.next
      have ar := aY.fix fr1 fun b hb => ⟨by omega, by omega⟩
      ((repeat refine WC.seq ?_); refine WC.run ?_)
      (try simp only [wk, wl, wx, reduceLT, reduceEqDiff, Nat.reduceBEq, reduceIte, t91, t92])
      (repeat refine WC.seq ?_)
      by_cases hli : i < L.length
      ·refine WC.cond (b := true) (by (try simp only [wk, wl, wx, reduceLT, reduceEqDiff, Nat.reduceBEq, reduceIte]); (try simp); (try omega)) (WC.skip ?_)
       (try simp only [wk, wl, wx, reduceLT, reduceEqDiff, Nat.reduceBEq, reduceIte])
       obtain ⟨p, p1, p2⟩ := ar.sl.at (fun _ => rfl) ty38 rfl ty77 rfl (by decide) rfl hli
       have p2 := p2 hr fun _ _ _ _ _ => rfl
       have obi := ar.ob _ (List.getElem_mem hli)
       have hnl := fL _ (List.getElem_mem hli)
       have hoi : os[i]'(by rw [z.len]; exact hli) = L[i].2 := by subst hos; simp
       rw [drop_cons (by rw [z.len]; exact hli), hoi] at hNs
       simp only [needsOf] at hNs
       (repeat refine WC.seq ?_)
       refine WC.block ?_
       ((repeat refine WC.seq ?_); refine WC.run ?_)
       (try simp only [wk, wl, wx, reduceLT, reduceEqDiff, Nat.reduceBEq, reduceIte, t90, t92, p1, p2])
       refine wop_alloc ty77 ?_
       intro hb4 b4' n4' f4'
       (try simp only [wk, wl, wx, reduceLT, reduceEqDiff, Nat.reduceBEq, reduceIte])
       refine sat_store b4' ty77 rfl (Nat.le_refl 7) (Oc.one obi) ?_
       intro hb5 b5 n5 f5
       have b5 : Has hb5 hr.next [.str L[i].2.name, L[i].1.code, L[i].1.data, L[i].1.syms, L[i].1.rels, L[i].1.needs, .str L[i].2.entry] := b5
       have F5 : Kept hr hb5 := ⟨by omega, fun b hb => by rw [f5.same b (by omega), f4'.same b hb]⟩
       have ob5 := obi.fix F5 fun b hb => by omega
       have m5 := mr.kept F5
       have bf5 := bfr.fix (K := (· < hr.next)) (inr.sub fun b hb => hb.2) F5
       have l5 : loadP (E g) hb5 30 (.ptr hr.next 5) = some L[i].1.needs := b5.at ty30 rfl 5
       (try simp only [wk, wl, wx, reduceLT, reduceEqDiff, Nat.reduceBEq, reduceIte])
       ((repeat refine WC.seq ?_); refine WC.run ?_)
       (try simp only [wk, wl, wx, reduceLT, reduceEqDiff, Nat.reduceBEq, reduceIte, fa77_5, Nat.zero_add, l5, Sl.lenB ob5.needs ty30 rfl])
       (repeat refine WC.seq ?_)
       refine WC.block ?_
       refine WC.while (fun mm fr hs => ∃ ts j nd Nt, fr = ⟨ts, 125, [], 37, none⟩ ∧ Fix (fun b => b < hq.next ∧ b ≠ kb) hq hs ∧ hb5.next ≤ hs.next ∧ mm = L[i].2.needs.length - j ∧ j ≤ L[i].2.needs.length ∧ ts.get 0 = some (.ptr kb 0) ∧ ts.get 90 = some ls ∧ ts.get 91 = some (.int .i64 L.length) ∧ ts.get 92 = some (.int .i64 i) ∧ ts.get 97 = some L[i].1.needs ∧ ts.get 98 = some (.int .i64 L[i].2.needs.length) ∧ ts.get 99 = some (.int .i64 j) ∧ LkM g hs kb db sb stb ls L.length os base D S (imV base bb N code entry ex sl nd) ∧ Buf (E g) hs 9 1 nd Nt.length (Nt.map V.str) ∧ In (fun b => hq.next ≤ b ∧ b < hs.next) nd ∧ Nt.length ≤ Ns.length + j ∧ addN (L[i].2.needs.drop j) Nt = addN L[i].2.needs Ns) ?_ ⟨_, 0, nd, Ns, rfl, ⟨by omega, fun b hb => by rw [F5.same b (by omega), fr1.same b hb]⟩, Nat.le_refl _, rfl, by omega, ?_, ?_, ?_, ?_, ?_, ?_, ?_, m5, bf5, inr.sub fun b hb => by omega, by omega, rfl⟩
       ·rintro mm fr hs ⟨ts, j, nd, Nt, rfl, fs, xs5, rfl, hjl, t0, t90, t91, t92, t97, t98, t99, ms', bfs, ins', lNt, hNt⟩
        have xs := fs.next
        have as' := aY.fix fs fun b hb => ⟨by omega, by omega⟩
        have obs' := as'.ob _ (List.getElem_mem hli)
        ((repeat refine WC.seq ?_); refine WC.run ?_)
        (try simp only [wk, wl, wx, reduceLT, reduceEqDiff, Nat.reduceBEq, reduceIte, t98, t99])
        (repeat refine WC.seq ?_)
        by_cases hlj : j < L[i].2.needs.length
        ·refine WC.cond (b := true) (by (try simp only [wk, wl, wx, reduceLT, reduceEqDiff, Nat.reduceBEq, reduceIte]); (try simp); (try omega)) (WC.skip ?_)
         (try simp only [wk, wl, wx, reduceLT, reduceEqDiff, Nat.reduceBEq, reduceIte])
         obtain ⟨p, p1, p2⟩ := obs'.needs.at ty30 rfl ty9 rfl rfl hlj
         have p2 := p2 hs fun _ _ _ _ _ => rfl
         rw [drop_cons hlj] at hNt
         simp only [addN] at hNt
         generalize hnm : L[i].2.needs[j] = nm at p2 hNt
         (repeat refine WC.seq ?_)
         refine WC.block ?_
         ((repeat refine WC.seq ?_); refine WC.run ?_)
         (try simp only [wk, wl, wx, reduceLT, reduceEqDiff, Nat.reduceBEq, reduceIte, t97, t99, p1, p2])
         ((repeat refine WC.seq ?_); refine WC.run ?_)
         (try simp only [wk, wl, wx, reduceLT, reduceEqDiff, Nat.reduceBEq, reduceIte, t0, fa105_5, fa32_6, Nat.zero_add, ms'.bk.at ty30 rfl])
         refine (containsS_ok (show Ss g hs nd Nt from bfs.sl) (by omega)).mono fun v h6 ⟨e6, f6⟩ => ?_
         have f6 := f6.symm
         subst e6 f6
         cases hc : Nt.contains nm with
         | true =>
          rw [hc] at hNt
          simp only [if_true] at hNt
          (try simp only [wk, wl, wx, reduceLT, reduceEqDiff, Nat.reduceBEq, reduceIte, un_not, hc, Bool.not_true])
          (repeat refine WC.seq ?_)
          refine WC.cond (b := false) (by (try simp only [wk, wl, wx, reduceLT, reduceEqDiff, Nat.reduceBEq, reduceIte]); (try simp); (try omega)) (WC.skip ?_)
          (try simp only [wk, wl, wx, reduceLT, reduceEqDiff, Nat.reduceBEq, reduceIte])
          ((repeat refine WC.seq ?_); refine WC.run ?_)
          (try simp only [wk, wl, wx, reduceLT, reduceEqDiff, Nat.reduceBEq, reduceIte, t99, bin_add])
          refine ⟨_, ?_, _, j + 1, nd, Nt, rfl, fs, xs5, rfl, by omega, ?_⟩
          ·omega
          (try simp only [wk, wl, wx, reduceLT, reduceEqDiff, Nat.reduceBEq, reduceIte, t0, t90, t91, t92, t97, t98])
          refine ⟨trivial, trivial, trivial, trivial, trivial, trivial, ?_, ms', bfs, ins', by omega, hNt⟩
          rw [wrap64 (by omega) (by omega)]; rfl
         | false =>
          rw [hc] at hNt
          simp only [Bool.false_eq_true, if_false] at hNt
          (try simp only [wk, wl, wx, reduceLT, reduceEqDiff, Nat.reduceBEq, reduceIte, un_not, hc, Bool.not_false])
          (repeat refine WC.seq ?_)
          refine WC.cond (b := true) (by (try simp only [wk, wl, wx, reduceLT, reduceEqDiff, Nat.reduceBEq, reduceIte]); (try simp); (try omega)) ?_
          (try simp only [wk, wl, wx, reduceLT, reduceEqDiff, Nat.reduceBEq, reduceIte])
          ((repeat refine WC.seq ?_); refine WC.run ?_)
          (try simp only [wk, wl, wx, reduceLT, reduceEqDiff, Nat.reduceBEq, reduceIte, t0, fa105_5, fa32_6, Nat.zero_add, ms'.bk.at ty30 rfl])
          refine sat_buildSlice (cs := [.str nm]) ty30 rfl ty9 rfl (by decide) (by decide) rfl rfl ?_
          intro h7 bl n7 f7
          have m7 := ms'.kept f7
          have bf7 := bfs.fix (K := (· < hs.next)) (ins'.sub fun b hb => hb.2) f7
          (try simp only [wk, wl, wx, reduceLT, reduceEqDiff, Nat.reduceBEq, reduceIte])
          refine sat_append (m := 1) (ws := [.str nm]) bf7 ty30 rfl ty30 (.inl ⟨_, rfl⟩) ty9 rfl (by decide) (by decide) (Sl.len bl.sl) (Sl.cells bl.sl) rfl rfl (show (Nt.length + 1) * 16 ≤ 140737488355328 by omega) (ins'.sub fun b hb => by omega) ?_
          intro s' h8 bf8 i8 o8 f8
          have x8 := f8.next
          have kn7 := m7.kn
          have m8 := m7.fix f8 ⟨by omega, fun o k cc e => by have := ins' _ _ _ _ e; omega⟩ ⟨by omega, fun o k cc e => by have := ins' _ _ _ _ e; omega⟩ ⟨by omega, fun o k cc e => by have := ins' _ _ _ _ e; omega⟩ ⟨by omega, fun o k cc e => by have := ins' _ _ _ _ e; omega⟩
          (try simp only [wk, wl, wx, reduceLT, reduceEqDiff, Nat.reduceBEq, reduceIte, t0, fa105_5, fa32_6, Nat.zero_add])
          have one8 : s'.cells = [s'] ∧ s'.one = true := Sl.one bf8.sl
          refine sat_store m8.bk ty30 (by rw [one8.1]; rfl) (show 5 + 6 + 1 ≤ 12 by decide) (by rw [one8.1]; simp [one8.2]) ?_
          intro h9 b9 n9 f9
          rw [one8.1] at b9
          have m9 := m8.put (im' := imV base bb N code entry ex sl s') f9 b9 dk sk tk
          have in8 := one_app (hi := hs.next) ins' o8 (by omega) i8
          (try simp only [wk, wl, wx, reduceLT, reduceEqDiff, Nat.reduceBEq, reduceIte])
          ((repeat refine WC.seq ?_); refine WC.run ?_)
          (try simp only [wk, wl, wx, reduceLT, reduceEqDiff, Nat.reduceBEq, reduceIte, t99, bin_add])
          refine ⟨_, ?_, _, j + 1, s', Nt ++ [nm], rfl, ⟨by omega, fun b hb => by rw [f9.same b hb.2, f8.same b ⟨by omega, fun o k cc e => by have := ins' _ _ _ _ e; omega⟩, f7.same b (by omega), fs.same b hb]⟩, by omega, rfl, by omega, ?_⟩
          ·omega
          (try simp only [wk, wl, wx, reduceLT, reduceEqDiff, Nat.reduceBEq, reduceIte, t0, t90, t91, t92, t97, t98])
          refine ⟨trivial, trivial, trivial, trivial, trivial, trivial, ?_, m9, ?_, in8.sub fun b hb => by omega, by simp; omega, hNt⟩
          ·rw [wrap64 (by omega) (by omega)]; rfl
          ·have := bf8.fix (K := (· ≠ kb)) (in8.sub fun b hb => by omega) f9
           simpa using this
        ·refine WC.cond (b := false) (by (try simp only [wk, wl, wx, reduceLT, reduceEqDiff, Nat.reduceBEq, reduceIte]); (try simp); (try omega)) (WC.exit ?_)
         have : j = L[i].2.needs.length := by omega
         subst this
         rw [List.drop_length] at hNt
         simp only [addN] at hNt
         rw [← hNt] at hNs
         (try simp only [wk, wl, wx, reduceLT, reduceEqDiff, Nat.reduceBEq, reduceIte, nb6])
         ((repeat refine WC.seq ?_); refine WC.run ?_)
         (try simp only [wk, wl, wx, reduceLT, reduceEqDiff, Nat.reduceBEq, reduceIte, t92, bin_add])
         refine ⟨_, ?_, _, i + 1, nd, Nt, rfl, fs, rfl, by omega, ?_⟩
         ·omega
         (try simp only [wk, wl, wx, reduceLT, reduceEqDiff, Nat.reduceBEq, reduceIte, t0, t90, t91])
         refine ⟨trivial, trivial, trivial, ?_, ms', bfs, ins', by omega, hNs⟩
         rw [wrap64 (by omega) (by omega)]; rfl
       all_goals (try simp only [wk, wl, wx, reduceLT, reduceEqDiff, Nat.reduceBEq, reduceIte, t0, t90, t91, t92])
       all_goals (first | done | rfl | trivial | simp)
      ·refine WC.cond (b := false) (by (try simp only [wk, wl, wx, reduceLT, reduceEqDiff, Nat.reduceBEq, reduceIte]); (try simp); (try omega)) (WC.exit ?_)
       have : i = L.length := by omega
       subst this
       rw [List.drop_eq_nil_of_le (by rw [z.len]; exact Nat.le_refl _)] at hNs
       simp only [needsOf] at hNs
       rw [← hNs, ← hB]
       have bbR := bbq.fix fr1 ⟨by omega, bk⟩
       have lN2 : bs.length = N := lbs
       (try simp only [wk, wl, wx, reduceLT, reduceEqDiff, Nat.reduceBEq, reduceIte, nb4])
       refine ⟨⟨by omega, fun b hb => by rw [fr1.same b ⟨by omega, hb.2.1⟩, FY.same b hb]⟩, ex, sl, nd, mr.bk, ⟨?_, ?_, ?_, bfr.sl, ?_, ?_, ?_, ?_⟩⟩
       ·show Sl (E g) hr 1 (.slice bb 0 N (.lit N)) bs.length (bs.map u8)
        rw [lN2]
        exact bbR.slice (by simp [lN2]) (fun c e => by injection e with e; omega)
       ·exact Sl.fix exY (inj.sub fun b hb => ⟨by omega, by omega⟩) fr1
       ·exact Sl.fix slY (inq.sub fun b hb => ⟨by omega, by omega⟩) fr1
       ·intro b o n c e
        injection e with e1
        subst e1
        exact ⟨by omega, .inl rfl⟩
       ·exact inj.sub fun b hb => ⟨by omega, .inr (by omega)⟩
       ·exact inq.sub fun b hb => ⟨by omega, .inr (by omega)⟩
       ·exact inr.sub fun b hb => ⟨by omega, .inr (by omega)⟩
     all_goals (try simp only [wk, wl, wx, reduceLT, reduceEqDiff, Nat.reduceBEq, reduceIte])
     all_goals (first | done | rfl | trivial | simp)
   all_goals (try simp only [wk, wl, wx, reduceLT, reduceEqDiff, Nat.reduceBEq, reduceIte])
   all_goals (first | done | rfl | trivial | simp)
 all_goals (try simp only [wk, wl, wx, reduceLT, reduceEqDiff, Nat.reduceBEq, reduceIte])
 all_goals (first | done | rfl | trivial | simp)
end Go.Proofs.OP
