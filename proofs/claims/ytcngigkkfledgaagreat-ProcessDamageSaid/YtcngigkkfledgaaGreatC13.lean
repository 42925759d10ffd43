/- Walks: To. -/
import Derived.Test.YtcngigkkfledgaaGreatC12
set_option linter.unusedVariables false
set_option linter.unusedSimpArgs false
set_option linter.defProp false
set_option linter.unusedSimpArgs false
set_option maxHeartbeats 1000000
namespace Go.Proofs.ZP
open Go Go.Ev
open Go.Proofs
variable {g : T (List V)}

theorem build34_4 {a b : Int} {n : List UInt8} {rv : V} (hr : rv.cells = [rv]) : buildV (E g) 34 [(0, i64 a), (1, i64 b), (2, .str n), (3, rv)] = some (.agg [i64 a, i64 b, .str n, rv, .nils]) := by
  simp only [buildV, ty34, fillAll, nth, sizeOf_of ty3, sizeOf_of ty9, sizeOf_of ty22]
  simp [ty3, ty9, ty22, ty32, hr, i64, show V.cells (V.int .i64 a) = [V.int .i64 a] from rfl, show V.cells (V.int .i64 b) = [V.int .i64 b] from rfl, show V.cells (V.str n) = [V.str n] from rfl, fillL]
  rfl
theorem build75_2 {a : Int} {d : V} (hd : d.cells = [d]) : buildV (E g) 75 [(0, i64 a), (1, d)] = some (.agg [i64 a, d]) := by
  simp only [buildV, ty75, fillAll, nth, sizeOf_of ty2, sizeOf_of ty26]
  simp [ty2, ty26, hd, i64, show V.cells (V.int .i64 a) = [V.int .i64 a] from rfl, fillL]
  rfl

/-- The state of a copy's making. -/
structure TInv (g : T (List V)) (h2 : H) (ob : Nat) (c : CoreD) (rv mv : V) (L : List (Mem × V)) (hh : H) : Prop where
  co : Has hh ob [i64 c.pid, i64 c.sig, .str c.name, rv, mv]
  ib : IBuf g hh rv c.regs
  mb : Buf (E g) hh 75 2 mv L.length (flat L)
  dat : ∀ q ∈ L, Bs g hh q.2 q.1.data
  inR : In (fun x => h2.next ≤ x ∧ x < hh.next ∧ x ≠ ob ∧ ∀ o m c, mv ≠ .slice x o m c) rv
  inM : In (fun x => h2.next ≤ x ∧ x < hh.next ∧ x ≠ ob) mv
  inL : ∀ q ∈ L, In (fun x => h2.next ≤ x ∧ x < hh.next ∧ x ≠ ob ∧ ∀ o m c, mv ≠ .slice x o m c) q.2
  fix : Fix (· < h2.next) h2 hh
  ob1 : h2.next ≤ ob
  ob2 : ob < hh.next

theorem TInv.go {h2 hh hh' : H} {ob : Nat} {c : CoreD} {rv mv : V} {L : List (Mem × V)} {N : Nat} (I : TInv g h2 ob c rv mv L hh) (f : Fix (· < N) hh hh') (hN : hh.next ≤ N) : TInv g h2 ob c rv mv L hh' :=
  have o1 := I.ob2
  ⟨I.co.fix f (by omega), I.ib.fix (I.inR.sub fun x hx => by have := hx.2.1; omega) f, I.mb.fix (I.inM.sub fun x hx => by omega) f, fun q hq => Sl.fix (I.dat q hq) ((I.inL q hq).sub fun x hx => by have := hx.2.1; omega) f,
    I.inR.sub fun x hx => ⟨hx.1, Nat.lt_of_lt_of_le hx.2.1 f.next, hx.2.2⟩, I.inM.sub fun x hx => ⟨hx.1, Nat.lt_of_lt_of_le hx.2.1 f.next, hx.2.2⟩, fun q hq => (I.inL q hq).sub fun x hx => ⟨hx.1, Nat.lt_of_lt_of_le hx.2.1 f.next, hx.2.2⟩,
    ⟨Nat.le_trans I.fix.next f.next, fun x hx => by rw [f.same x (by have := I.ob1; omega), I.fix.same x hx]⟩, I.ob1, Nat.lt_of_lt_of_le I.ob2 f.next⟩

/-- law.To -/
theorem to_ok {h : H} {v : V} {c : CoreD} {rv mv : V} {L : List (Mem × V)} (co : Co g h (· < h.next) v c rv mv L) (hM : L.length < 2 ^ 30) (hR : c.regs.length < 2 ^ 40) (hD : ∀ m ∈ c.mem, m.data.length ≤ 2 ^ 38) : WF (E g) 8 [v] h fun v' h' => Kept h h' ∧ CoR g h h' v' c := by
  refine WF.enter fn8 rfl ?_
  ((repeat refine WC.seq ?_); refine WC.run ?_)
  (try simp only [wk, wl, Then, Blk, pickV, Nat.reduceLT, Nat.reduceEqDiff, Nat.reduceBEq, reduceIte, isConst, nilCheckV, extractV, wantJ, nth])
  refine wop_box (v := v) (by (try simp only [wk, wl, Then, Blk, pickV, Nat.reduceLT, Nat.reduceEqDiff, Nat.reduceBEq, reduceIte, isConst, nilCheckV, extractV, wantJ, nth])) ?_
  rw [co.val]
  intro h1 b1 n1 f1
  (try simp only [wk, wl, Then, Blk, pickV, Nat.reduceLT, Nat.reduceEqDiff, Nat.reduceBEq, reduceIte, isConst, nilCheckV, extractV, wantJ, nth])
  have b1 : Has h1 h.next [i64 c.pid, i64 c.sig, .str c.name, rv, mv] := b1
  have co1 := co.fix f1 (fun _ h => h)
  refine wop_alloc ty34 ?_
  intro h2 b2 n2 f2
  have b2 : Has h2 h1.next [i64 0, i64 0, .str [], .nils, .nils] := b2
  (try simp only [wk, wl, Then, Blk, pickV, Nat.reduceLT, Nat.reduceEqDiff, Nat.reduceBEq, reduceIte, isConst, nilCheckV, extractV, wantJ, nth])
  have c2 := b1.fix f2 (by omega)
  have co2 := co1.fix f2 (fun x hx => by omega)
  have F2 : Kept h h2 := ⟨by omega, fun x hx => by rw [f2.same x (by omega), f1.same x hx]⟩
  have rvl := co2.regs
  have or := Sl.one co2.regs
  (repeat refine WC.seq ?_)
  refine WC.mono (Q := fun e fr hh => e = .normal ∧ ∃ ts ob rv', fr = ⟨ts, 38, [], 8, none⟩ ∧ TInv g h2 ob c rv' .nils [] hh ∧ ts.get 1 = some (.ptr h.next 0) ∧ ts.get 2 = some (.ptr h1.next 0) ∧ ts.get 3 = some (.ptr ob 0)) ?_ ?_
  · ((repeat refine WC.seq ?_); refine WC.draw (plans := pl8_1) (by kernel_rfl) ?_; simp only [pl8_1, List.mem_cons, List.not_mem_nil, or_false, forall_eq_or_imp, forall_eq])
    refine ⟨?_, ?_, ?_⟩
    · (try simp only [wk, wl, Then, Blk, pickV, Nat.reduceLT, Nat.reduceEqDiff, Nat.reduceBEq, reduceIte, isConst, nilCheckV, extractV, wantJ, nth, wd, Chk, and_true, true_and, fa25_0, fa25_1, fa25_2, fa25_3, Nat.zero_add, c2.at ty3 rfl, c2.at ty9 rfl, c2.at ty22 rfl])
      refine sat_slice0 ty22 rfl ty2 rfl (by decide) ?_
      intro h3 b3 n3 f3
      have c3 := c2.fix f3 (by omega)
      have co3 := co2.fix f3 (fun x hx => by omega)
      have inS : In (fun x => x = h2.next) (.slice h2.next 0 0 (.lit 0)) := fun x o m c e => by cases e; rfl
      have neS : ∀ c, c ≠ h2.next → ∀ o m cc, (V.slice h2.next 0 0 (.lit 0)) ≠ .slice c o m cc := fun c hc o m cc e => hc (inS _ _ _ _ e)
      (try simp only [wk, wl, Then, Blk, pickV, Nat.reduceLT, Nat.reduceEqDiff, Nat.reduceBEq, reduceIte, isConst, nilCheckV, extractV, wantJ, nth, wd, Chk, and_true, true_and, fa25_0, fa25_1, fa25_2, fa25_3, Nat.zero_add, c3.at ty3 rfl, c3.at ty9 rfl, c3.at ty22 rfl])
      refine sat_grow b3 (inS.sub fun x hx => by omega) ty22 rfl ty22 (.inl ⟨_, rfl⟩) ty2 rfl (by decide) (by decide) (Sl.len co3.regs) co3.regs.cells (by simp) (i64_all _) (by show (_ + _) * 8 ≤ _; omega) ?_
      intro rv' h4 g4
      have x4 := g4.fix.next
      have c4 := c3.fix g4.fix ⟨by omega, neS _ (by omega)⟩
      have or' := Sl.one g4.buf.sl
      (try simp only [wk, wl, Then, Blk, pickV, Nat.reduceLT, Nat.reduceEqDiff, Nat.reduceBEq, reduceIte, isConst, nilCheckV, extractV, wantJ, nth, wd, Chk, and_true, true_and, fa25_0, fa25_1, fa25_2, fa25_3, Nat.zero_add, c4.at ty3 rfl, c4.at ty9 rfl, c4.at ty22 rfl, build34_4 or'.1])
      refine wop_alloc ty34 ?_
      intro h5 b5 n5 f5
      have c5 := c4.fix f5 (by omega)
      (try simp only [wk, wl, Then, Blk, pickV, Nat.reduceLT, Nat.reduceEqDiff, Nat.reduceBEq, reduceIte, isConst, nilCheckV, extractV, wantJ, nth, wd, Chk, and_true, true_and, fa25_0, fa25_1, fa25_2, fa25_3, Nat.zero_add, c5.at ty3 rfl, c5.at ty9 rfl, c5.at ty22 rfl, c4.at ty3 rfl, c4.at ty9 rfl, c4.at ty22 rfl, build34_4 or'.1])
      refine sat_store b5 ty34 rfl (Nat.le_refl 5) (by show ([i64 c.pid, i64 c.sig, .str c.name, rv', .nils] : List V).all V.one = true; simp only [List.all_cons, List.all_nil, or'.2, Bool.and_true]; rfl) ?_
      intro h6 b6 n6 f6
      have b6 : Has h6 h4.next [i64 c.pid, i64 c.sig, .str c.name, rv', .nils] := b6
      (try simp only [wk, wl, Then, Blk, pickV, Nat.reduceLT, Nat.reduceEqDiff, Nat.reduceBEq, reduceIte, isConst, nilCheckV, extractV, wantJ, nth, wd, Chk, and_true, true_and])
      have own : In (fun x => h2.next ≤ x ∧ x < h4.next) rv' := fun x o m c e => by
        have := g4.low _ _ _ _ e
        rcases g4.own _ _ _ _ e with q | ⟨o, k, c, q⟩
        · omega
        · have := inS _ _ _ _ q; omega
      refine ⟨_, h4.next, rv', rfl, ⟨b6, ?_, .nil, (fun _ h => by cases h), own.sub fun x hx => ⟨by omega, by omega, by omega, fun o m c e => by cases e⟩, In.nils, (fun _ h => by cases h), ⟨by omega, fun x hx => by rw [f6.same x (by omega), f5.same x (by omega), g4.fix.same x ⟨by omega, neS _ (by omega)⟩, f3.same x (by omega)]⟩, by omega, by omega⟩, ?_, ?_, ?_⟩
      · have q := g4.buf
        rw [List.nil_append, Nat.zero_add] at q
        exact (q.fix (own.sub fun x hx => by omega) f5).fix (own.sub fun x hx => by omega) f6
      all_goals (try simp only [wk, wl, Then, Blk, pickV, Nat.reduceLT, Nat.reduceEqDiff, Nat.reduceBEq, reduceIte, isConst, nilCheckV, extractV, wantJ, nth])
    · (try simp only [wk, wl, Then, Blk, pickV, Nat.reduceLT, Nat.reduceEqDiff, Nat.reduceBEq, reduceIte, isConst, nilCheckV, extractV, wantJ, nth, wd, Chk, and_true, true_and, fa25_0, fa25_1, fa25_2, fa25_3, Nat.zero_add, c2.at ty3 rfl, c2.at ty9 rfl, c2.at ty22 rfl])
      refine sat_slice0 ty22 rfl ty2 rfl (by decide) ?_
      intro h3 b3 n3 f3
      have c3 := c2.fix f3 (by omega)
      have co3 := co2.fix f3 (fun x hx => by omega)
      have inS : In (fun x => x = h2.next) (.slice h2.next 0 0 (.lit 0)) := fun x o m c e => by cases e; rfl
      have neS : ∀ c, c ≠ h2.next → ∀ o m cc, (V.slice h2.next 0 0 (.lit 0)) ≠ .slice c o m cc := fun c hc o m cc e => hc (inS _ _ _ _ e)
      (try simp only [wk, wl, Then, Blk, pickV, Nat.reduceLT, Nat.reduceEqDiff, Nat.reduceBEq, reduceIte, isConst, nilCheckV, extractV, wantJ, nth, wd, Chk, and_true, true_and, fa25_0, fa25_1, fa25_2, fa25_3, Nat.zero_add, c3.at ty3 rfl, c3.at ty9 rfl, c3.at ty22 rfl])
      refine wop_alloc ty34 ?_
      intro h4 b4 n4 f4
      have c4 := c3.fix f4 (by omega)
      have co4 := co3.fix f4 (fun x hx => by omega)
      have bs4 := b3.fix (inS.sub fun x hx => by omega) f4
      (try simp only [wk, wl, Then, Blk, pickV, Nat.reduceLT, Nat.reduceEqDiff, Nat.reduceBEq, reduceIte, isConst, nilCheckV, extractV, wantJ, nth, wd, Chk, and_true, true_and, fa25_0, fa25_1, fa25_2, fa25_3, Nat.zero_add, c4.at ty3 rfl, c4.at ty9 rfl, c4.at ty22 rfl])
      refine sat_grow bs4 (inS.sub fun x hx => by omega) ty22 rfl ty22 (.inl ⟨_, rfl⟩) ty2 rfl (by decide) (by decide) (Sl.len co4.regs) co4.regs.cells (by simp) (i64_all _) (by show (_ + _) * 8 ≤ _; omega) ?_
      intro rv' h5 g5
      have x5 := g5.fix.next
      have c5 := c4.fix g5.fix ⟨by omega, neS _ (by omega)⟩
      have b5 := b4.fix g5.fix ⟨by omega, neS _ (by omega)⟩
      have or' := Sl.one g5.buf.sl
      (try simp only [wk, wl, Then, Blk, pickV, Nat.reduceLT, Nat.reduceEqDiff, Nat.reduceBEq, reduceIte, isConst, nilCheckV, extractV, wantJ, nth, wd, Chk, and_true, true_and, fa25_0, fa25_1, fa25_2, fa25_3, Nat.zero_add, c5.at ty3 rfl, c5.at ty9 rfl, c5.at ty22 rfl, build34_4 or'.1])
      refine sat_store b5 ty34 rfl (Nat.le_refl 5) (by show ([i64 c.pid, i64 c.sig, .str c.name, rv', .nils] : List V).all V.one = true; simp only [List.all_cons, List.all_nil, or'.2, Bool.and_true]; rfl) ?_
      intro h6 b6 n6 f6
      have b6 : Has h6 h3.next [i64 c.pid, i64 c.sig, .str c.name, rv', .nils] := b6
      (try simp only [wk, wl, Then, Blk, pickV, Nat.reduceLT, Nat.reduceEqDiff, Nat.reduceBEq, reduceIte, isConst, nilCheckV, extractV, wantJ, nth, wd, Chk, and_true, true_and])
      have own : In (fun x => h2.next ≤ x ∧ x < h5.next ∧ x ≠ h3.next) rv' := fun x o m c e => by
        have := g5.low _ _ _ _ e
        rcases g5.own _ _ _ _ e with q | ⟨o, k, c, q⟩
        · omega
        · have := inS _ _ _ _ q; omega
      refine ⟨_, h3.next, rv', rfl, ⟨b6, ?_, .nil, (fun _ h => by cases h), own.sub fun x hx => ⟨by omega, by omega, by omega, fun o m c e => by cases e⟩, In.nils, (fun _ h => by cases h), ⟨by omega, fun x hx => by rw [f6.same x (by omega), g5.fix.same x ⟨by omega, neS _ (by omega)⟩, f4.same x (by omega), f3.same x (by omega)]⟩, by omega, by omega⟩, ?_, ?_, ?_⟩
      · have q := g5.buf
        rw [List.nil_append, Nat.zero_add] at q
        exact q.fix (own.sub fun x hx => by omega) f6
      all_goals (try simp only [wk, wl, Then, Blk, pickV, Nat.reduceLT, Nat.reduceEqDiff, Nat.reduceBEq, reduceIte, isConst, nilCheckV, extractV, wantJ, nth])
    · (try simp only [wk, wl, Then, Blk, pickV, Nat.reduceLT, Nat.reduceEqDiff, Nat.reduceBEq, reduceIte, isConst, nilCheckV, extractV, wantJ, nth, wd, Chk, and_true, true_and, fa25_0, fa25_1, fa25_2, fa25_3, Nat.zero_add, c2.at ty3 rfl, c2.at ty9 rfl, c2.at ty22 rfl])
      refine wop_alloc ty34 ?_
      intro h3 b3 n3 f3
      have c3 := c2.fix f3 (by omega)
      have co3 := co2.fix f3 (fun x hx => by omega)
      (try simp only [wk, wl, Then, Blk, pickV, Nat.reduceLT, Nat.reduceEqDiff, Nat.reduceBEq, reduceIte, isConst, nilCheckV, extractV, wantJ, nth, wd, Chk, and_true, true_and, fa25_0, fa25_1, fa25_2, fa25_3, Nat.zero_add, c3.at ty3 rfl, c3.at ty9 rfl, c3.at ty22 rfl])
      refine sat_slice0 ty22 rfl ty2 rfl (by decide) ?_
      intro h4 bs4 n4 f4
      have inS : In (fun x => x = h3.next) (.slice h3.next 0 0 (.lit 0)) := fun x o m c e => by cases e; rfl
      have neS : ∀ c, c ≠ h3.next → ∀ o m cc, (V.slice h3.next 0 0 (.lit 0)) ≠ .slice c o m cc := fun c hc o m cc e => hc (inS _ _ _ _ e)
      have c4 := c3.fix f4 (by omega)
      have b4 := b3.fix f4 (by omega)
      have co4 := co3.fix f4 (fun x hx => by omega)
      (try simp only [wk, wl, Then, Blk, pickV, Nat.reduceLT, Nat.reduceEqDiff, Nat.reduceBEq, reduceIte, isConst, nilCheckV, extractV, wantJ, nth, wd, Chk, and_true, true_and, fa25_0, fa25_1, fa25_2, fa25_3, Nat.zero_add, c4.at ty3 rfl, c4.at ty9 rfl, c4.at ty22 rfl])
      refine sat_grow bs4 (inS.sub fun x hx => by omega) ty22 rfl ty22 (.inl ⟨_, rfl⟩) ty2 rfl (by decide) (by decide) (Sl.len co4.regs) co4.regs.cells (by simp) (i64_all _) (by show (_ + _) * 8 ≤ _; omega) ?_
      intro rv' h5 g5
      have x5 := g5.fix.next
      have c5 := c4.fix g5.fix ⟨by omega, neS _ (by omega)⟩
      have b5 := b4.fix g5.fix ⟨by omega, neS _ (by omega)⟩
      have or' := Sl.one g5.buf.sl
      (try simp only [wk, wl, Then, Blk, pickV, Nat.reduceLT, Nat.reduceEqDiff, Nat.reduceBEq, reduceIte, isConst, nilCheckV, extractV, wantJ, nth, wd, Chk, and_true, true_and, fa25_0, fa25_1, fa25_2, fa25_3, Nat.zero_add, c5.at ty3 rfl, c5.at ty9 rfl, c5.at ty22 rfl, build34_4 or'.1])
      refine sat_store b5 ty34 rfl (Nat.le_refl 5) (by show ([i64 c.pid, i64 c.sig, .str c.name, rv', .nils] : List V).all V.one = true; simp only [List.all_cons, List.all_nil, or'.2, Bool.and_true]; rfl) ?_
      intro h6 b6 n6 f6
      have b6 : Has h6 h2.next [i64 c.pid, i64 c.sig, .str c.name, rv', .nils] := b6
      (try simp only [wk, wl, Then, Blk, pickV, Nat.reduceLT, Nat.reduceEqDiff, Nat.reduceBEq, reduceIte, isConst, nilCheckV, extractV, wantJ, nth, wd, Chk, and_true, true_and])
      have own : In (fun x => h2.next ≤ x ∧ x < h5.next ∧ x ≠ h2.next) rv' := fun x o m c e => by
        have := g5.low _ _ _ _ e
        rcases g5.own _ _ _ _ e with q | ⟨o, k, c, q⟩
        · omega
        · have := inS _ _ _ _ q; omega
      refine ⟨_, h2.next, rv', rfl, ⟨b6, ?_, .nil, (fun _ h => by cases h), own.sub fun x hx => ⟨by omega, by omega, by omega, fun o m c e => by cases e⟩, In.nils, (fun _ h => by cases h), ⟨by omega, fun x hx => by rw [f6.same x (by omega), g5.fix.same x ⟨by omega, neS _ (by omega)⟩, f4.same x (by omega), f3.same x (by omega)]⟩, by omega, by omega⟩, ?_, ?_, ?_⟩
      · have q := g5.buf
        rw [List.nil_append, Nat.zero_add] at q
        exact q.fix (own.sub fun x hx => by omega) f6
      all_goals (try simp only [wk, wl, Then, Blk, pickV, Nat.reduceLT, Nat.reduceEqDiff, Nat.reduceBEq, reduceIte, isConst, nilCheckV, extractV, wantJ, nth])
  · rintro e fr hh ⟨rfl, ts, ob, rv', rfl, I, t1, t2, t3⟩
    (try simp only [wk, wl, Then, Blk, pickV, Nat.reduceLT, Nat.reduceEqDiff, Nat.reduceBEq, reduceIte, isConst, nilCheckV, extractV, wantJ, nth])
    have o1 := I.ob1
    have o2 := I.ob2
    have c2' := c2.fix I.fix (by omega)
    ((repeat refine WC.seq ?_); refine WC.run ?_)
    (try simp only [wk, wl, Then, Blk, pickV, Nat.reduceLT, Nat.reduceEqDiff, Nat.reduceBEq, reduceIte, isConst, nilCheckV, extractV, wantJ, nth, t1, fa25_4, Nat.zero_add, c2'.at ty23 rfl, co2.mem.sl.lenB ty23 rfl])
    (repeat refine WC.seq ?_)
    refine WC.mono (Q := fun e fr hh => e = .normal ∧ ∃ ts mv' L', fr = ⟨ts, 38, [], 8, none⟩ ∧ TInv g h2 ob c rv' mv' L' hh ∧ L'.map (·.1) = L.map (·.1) ∧ ts.get 2 = some (.ptr h1.next 0) ∧ ts.get 3 = some (.ptr ob 0)) ?_ ?_
    · refine WC.block ?_
      refine WC.while (m := L.length) (fun m fr hh => ∃ ts i mv' L', fr = ⟨ts, 38, [], 8, none⟩ ∧ TInv g h2 ob c rv' mv' L' hh ∧ L'.map (·.1) = (L.take i).map (·.1) ∧ m = L.length - i ∧ i ≤ L.length ∧ ts.get 2 = some (.ptr h1.next 0) ∧ ts.get 3 = some (.ptr ob 0) ∧ ts.get 18 = some mv ∧ ts.get 19 = some (.int .i64 L.length) ∧ ts.get 20 = some (.int .i64 i)) ?_ ⟨_, 0, .nils, [], rfl, I, rfl, rfl, by omega, ?_, ?_, ?_, ?_, ?_⟩
      · rintro m fr hh ⟨ts, i, mv', L', rfl, I, eL, rfl, hi, t2, t3, t18, t19, t20⟩
        have o1 := I.ob1
        have o2 := I.ob2
        have xf := I.fix.next
        ((repeat refine WC.seq ?_); refine WC.run ?_)
        (try simp only [wk, wl, Then, Blk, pickV, Nat.reduceLT, Nat.reduceEqDiff, Nat.reduceBEq, reduceIte, isConst, nilCheckV, extractV, wantJ, nth, t19, t20])
        (repeat refine WC.seq ?_)
        by_cases hlt : i < L.length
        · refine WC.cond (b := true) (by (try simp only [wk, wl, Then, Blk, pickV, Nat.reduceLT, Nat.reduceEqDiff, Nat.reduceBEq, reduceIte, isConst, nilCheckV, extractV, wantJ, nth]); (try simp); (try omega)) (WC.skip ?_)
          (try simp only [wk, wl, Then, Blk, pickV, Nat.reduceLT, Nat.reduceEqDiff, Nat.reduceBEq, reduceIte, isConst, nilCheckV, extractV, wantJ, nth])
          have lL : L'.length = i := by
            have := congrArg List.length eL
            simp only [List.length_map, List.length_take] at this
            omega
          obtain ⟨p, p1, p2⟩ := co2.mem.at ty23 rfl ty46 rfl rfl hlt
          have p2 := p2 hh fun b o m c e => I.fix.same b (by have := co2.inM _ _ _ _ e; omega)
          have hdat := Sl.fix (co2.mem.dat _ (List.getElem_mem hlt)) ((co2.inL _ (List.getElem_mem hlt)).sub fun x hx => by omega) I.fix
          have hdl : (L[i]).1.data.length ≤ 2 ^ 38 := hD _ (by rw [← co.mems]; exact List.mem_map.2 ⟨_, List.getElem_mem hlt, rfl⟩)
          have inD : In (· < h.next) (L[i]).2 := co2.inL _ (List.getElem_mem hlt)
          generalize hLi : L[i] = Li at *
          have od := Sl.one hdat
          (repeat refine WC.seq ?_)
          refine WC.block ?_
          ((repeat refine WC.seq ?_); refine WC.run ?_)
          (try simp only [wk, wl, Then, Blk, pickV, Nat.reduceLT, Nat.reduceEqDiff, Nat.reduceBEq, reduceIte, isConst, nilCheckV, extractV, wantJ, nth, t18, t20, p1, p2])
          refine wop_alloc ty46 ?_
          intro h3 b3 n3 f3
          (try simp only [wk, wl, Then, Blk, pickV, Nat.reduceLT, Nat.reduceEqDiff, Nat.reduceBEq, reduceIte, isConst, nilCheckV, extractV, wantJ, nth])
          refine sat_store b3 ty46 rfl (by decide) (by show ([i64 Li.1.addr, Li.2] : List V).all V.one = true; simp only [List.all_cons, List.all_nil, od.2, Bool.and_true]; rfl) ?_
          intro h4 b4 n4 f4
          have b4 : Has h4 hh.next [i64 Li.1.addr, Li.2] := b4
          have F4 : Kept hh h4 := ⟨by omega, fun x hx => by rw [f4.same x (by omega), f3.same x hx]⟩
          have I4 := I.go F4 (Nat.le_refl _)
          have hd4 := Sl.fix hdat (inD.sub fun x hx => by omega) F4
          (try simp only [wk, wl, Then, Blk, pickV, Nat.reduceLT, Nat.reduceEqDiff, Nat.reduceBEq, reduceIte, isConst, nilCheckV, extractV, wantJ, nth])
          have hmv4 : loadP (E g) h4 32 (.ptr ob 4) = some mv' := I4.co.at ty32 rfl 4
          ((repeat refine WC.seq ?_); refine WC.draw (plans := pl8_5) (by kernel_rfl) ?_; simp only [pl8_5, List.mem_cons, List.not_mem_nil, or_false, forall_eq_or_imp, forall_eq])
          (try simp only [wk, wl, Then, Blk, pickV, Nat.reduceLT, Nat.reduceEqDiff, Nat.reduceBEq, reduceIte, isConst, nilCheckV, extractV, wantJ, nth, wd, Chk, and_true, true_and, t3, fa34_4, fa46_0, fa46_1, Nat.zero_add, hmv4, b4.at ty2 rfl, b4.at ty26 rfl])
          refine sat_slice0 ty26 rfl ty5 rfl (by decide) ?_
          intro h5 b5 n5 f5
          have I5 := I4.go f5 (Nat.le_refl _)
          have m5 := b4.fix f5 (by omega)
          have hd5 := Sl.fix hd4 (inD.sub fun x hx => by omega) f5
          have hmv5 : loadP (E g) h5 32 (.ptr ob 4) = some mv' := I5.co.at ty32 rfl 4
          have inS : In (fun x => x = h4.next) (.slice h4.next 0 0 (.lit 0)) := fun x o m c e => by cases e; rfl
          have neS : ∀ c, c ≠ h4.next → ∀ o m cc, (V.slice h4.next 0 0 (.lit 0)) ≠ .slice c o m cc := fun c hc o m cc e => hc (inS _ _ _ _ e)
          (try simp only [wk, wl, Then, Blk, pickV, Nat.reduceLT, Nat.reduceEqDiff, Nat.reduceBEq, reduceIte, isConst, nilCheckV, extractV, wantJ, nth, wd, Chk, and_true, true_and, t3, fa34_4, fa46_0, fa46_1, Nat.zero_add, hmv5, m5.at ty2 rfl, m5.at ty26 rfl])
          refine app_ok (xs := []) (Grew.refl b5 (inS.sub fun x hx => by omega)) ty26 (.inl ⟨_, rfl⟩) (Sl.len hd5) hd5.cells (by simp; omega) ?_
          intro dv h6 g6 fx6
          have x6 := fx6.next
          have f46 : Kept h4 h6 := ⟨by omega, fun x hx => by rw [fx6.same x ⟨by omega, neS _ (by omega)⟩, f5.same x hx]⟩
          have I6 := I4.go f46 (Nat.le_refl _)
          have m6 := b4.fix f46 (by omega)
          have hmv6 : loadP (E g) h6 32 (.ptr ob 4) = some mv' := I6.co.at ty32 rfl 4
          have ov := Sl.one g6.buf.sl
          (try simp only [wk, wl, Then, Blk, pickV, Nat.reduceLT, Nat.reduceEqDiff, Nat.reduceBEq, reduceIte, isConst, nilCheckV, extractV, wantJ, nth, wd, Chk, and_true, true_and, t3, fa34_4, fa46_0, fa46_1, Nat.zero_add, hmv6, m6.at ty2 rfl, m6.at ty26 rfl, build75_2 ov.1])
          have own6 : In (fun x => h4.next ≤ x ∧ x < h6.next) dv := fun x o m c e => by
            have := g6.low _ _ _ _ e
            rcases g6.own _ _ _ _ e with q | ⟨o, k, c, q⟩
            · omega
            · have := inS _ _ _ _ q; omega
          refine sat_buildSlice (cs := [i64 Li.1.addr, dv]) (n := 1) ty32 rfl ty75 rfl (by decide) (by decide) fill_two rfl ?_
          intro h7 b7 n7 f7
          have I7 := I6.go f7 (Nat.le_refl _)
          have m7 := m6.fix f7 (by omega)
          have hmv7 : loadP (E g) h7 32 (.ptr ob 4) = some mv' := I7.co.at ty32 rfl 4
          (try simp only [wk, wl, Then, Blk, pickV, Nat.reduceLT, Nat.reduceEqDiff, Nat.reduceBEq, reduceIte, isConst, nilCheckV, extractV, wantJ, nth, wd, Chk, and_true, true_and, t3, fa34_4, fa46_0, fa46_1, Nat.zero_add, hmv7, m7.at ty2 rfl, m7.at ty26 rfl, build75_2 ov.1])
          refine sat_grow I7.mb (I7.inM.sub fun x hx => by omega) ty32 rfl ty32 (.inl ⟨_, rfl⟩) ty75 rfl (by decide) (by decide) b7.sl.len b7.sl.cells rfl (by simp only [List.all_cons, List.all_nil, ov.2, Bool.and_true]; rfl) (by show (_ + _) * 32 ≤ _; omega) ?_
          intro mv'' h8 g8
          have x8 := g8.fix.next
          have nob : ∀ o m cc, mv' ≠ .slice ob o m cc := fun o m cc e => (I7.inM _ _ _ _ e).2.2 rfl
          have c8 := I7.co.fix g8.fix ⟨by omega, nob⟩
          have om := Sl.one g8.buf.sl
          have hmv8 : loadP (E g) h8 32 (.ptr ob 4) = some mv' := c8.at ty32 rfl 4
          (try simp only [wk, wl, Then, Blk, pickV, Nat.reduceLT, Nat.reduceEqDiff, Nat.reduceBEq, reduceIte, isConst, nilCheckV, extractV, wantJ, nth, wd, Chk, and_true, true_and, t3, fa34_4, fa46_0, fa46_1, Nat.zero_add, hmv8])
          refine sat_store c8 ty32 (by rw [om.1]; rfl) (by simp) (by rw [om.1]; simp [om.2]) ?_
          intro h9 b9 n9 f9
          rw [om.1] at b9
          have b9 : Has h9 ob [i64 c.pid, i64 c.sig, .str c.name, rv', mv''] := b9
          (try simp only [wk, wl, Then, Blk, pickV, Nat.reduceLT, Nat.reduceEqDiff, Nat.reduceBEq, reduceIte, isConst, nilCheckV, extractV, wantJ, nth, wd, Chk, and_true, true_and])
          have nlt : ∀ x, h4.next ≤ x → ∀ o m cc, mv' ≠ .slice x o m cc := fun x hx o m cc e => by have := I4.inM _ _ _ _ e; omega
          have own' : In (fun x => h2.next ≤ x ∧ x < h9.next ∧ x ≠ ob ∧ (h7.next ≤ x ∨ ∃ o m c, mv' = .slice x o m c)) mv'' := fun x o n c e => by
            have e1 := g8.low _ _ _ _ e
            rcases g8.own _ _ _ _ e with q | ⟨o, k, c, q⟩
            · exact ⟨by omega, by omega, by omega, .inl q⟩
            · have := I7.inM _ _ _ _ q
              exact ⟨by omega, by omega, this.2.2, .inr ⟨_, _, _, q⟩⟩
          have nsame : ∀ x, x < h7.next → (∀ o m c, mv' ≠ .slice x o m c) → ∀ o m c, mv'' ≠ .slice x o m c := fun x hx hq o m c e => by
            rcases (own' _ _ _ _ e).2.2.2 with q | ⟨o, m, c, q⟩
            · omega
            · exact hq _ _ _ q
          have F9 : Fix (fun x => x < h7.next ∧ x ≠ ob ∧ ∀ o m c, mv' ≠ .slice x o m c) h7 h9 := ⟨by omega, fun x hx => by rw [f9.same x hx.2.1, g8.fix.same x ⟨hx.1, hx.2.2⟩]⟩
          have I9 : TInv g h2 ob c rv' mv'' (L' ++ [(Li.1, dv)]) h9 := by
            refine ⟨b9, I7.ib.fix (I7.inR.sub fun x hx => ⟨hx.2.1, hx.2.2⟩) F9, ?_, ?_, ?_, ?_, ?_, ?_, o1, by omega⟩
            · have := Buf.fix g8.buf (own'.sub fun x hx => hx.2.2.1) f9
              rw [List.length_append, show flat (L' ++ [(Li.1, dv)]) = flat L' ++ [i64 Li.1.addr, dv] by simp [flat]]
              exact this
            · intro q hq
              rcases List.mem_append.1 hq with hq | hq
              · exact Sl.fix (I7.dat q hq) ((I7.inL q hq).sub fun x hx => ⟨hx.2.1, hx.2.2⟩) F9
              · rw [List.mem_singleton] at hq; subst hq
                exact Sl.fix (Sl.fix g6.buf.sl (own6.sub fun x hx => hx.2) f7) (own6.sub fun x hx => ⟨by omega, by omega, nlt x hx.1⟩) F9
            · exact I7.inR.sub fun x hx => ⟨hx.1, by have := hx.2.1; omega, hx.2.2.1, nsame x hx.2.1 hx.2.2.2⟩
            · exact own'.sub fun x hx => ⟨hx.1, hx.2.1, hx.2.2.1⟩
            · intro q hq
              rcases List.mem_append.1 hq with hq | hq
              · exact (I7.inL q hq).sub fun x hx => ⟨hx.1, by have := hx.2.1; omega, hx.2.2.1, nsame x hx.2.1 hx.2.2.2⟩
              · rw [List.mem_singleton] at hq; subst hq
                exact own6.sub fun x hx => ⟨by omega, by omega, by omega, nsame x (by omega) (nlt x hx.1)⟩
            · exact ⟨by omega, fun x hx => by rw [F9.same x ⟨by omega, by omega, fun o m c e => by have := I7.inM _ _ _ _ e; omega⟩, I7.fix.same x hx]⟩
          ((repeat refine WC.seq ?_); refine WC.run ?_)
          (try simp only [wk, wl, Then, Blk, pickV, Nat.reduceLT, Nat.reduceEqDiff, Nat.reduceBEq, reduceIte, isConst, nilCheckV, extractV, wantJ, nth, t20, bin_add])
          refine ⟨_, ?_, _, i + 1, mv'', L' ++ [(Li.1, dv)], rfl, I9, ?_, rfl, by omega, ?_⟩
          · omega
          · rw [List.map_append, eL, List.take_succ_eq_append_getElem hlt, List.map_append, hLi]; rfl
          (try simp only [wk, wl, Then, Blk, pickV, Nat.reduceLT, Nat.reduceEqDiff, Nat.reduceBEq, reduceIte, isConst, nilCheckV, extractV, wantJ, nth, t2, t3, t18, t19])
          refine ⟨trivial, trivial, trivial, trivial, ?_⟩
          rw [wrap64 (by omega) (by omega)]; rfl
        · refine WC.cond (b := false) (by (try simp only [wk, wl, Then, Blk, pickV, Nat.reduceLT, Nat.reduceEqDiff, Nat.reduceBEq, reduceIte, isConst, nilCheckV, extractV, wantJ, nth]); (try simp); (try omega)) (WC.exit ?_)
          (try simp only [wk, wl, Then, Blk, pickV, Nat.reduceLT, Nat.reduceEqDiff, Nat.reduceBEq, reduceIte, isConst, nilCheckV, extractV, wantJ, nth])
          refine ⟨by trivial, _, mv', L', rfl, I, ?_, ?_, ?_⟩
          · rw [eL, List.take_of_length_le (by omega)]
          all_goals (try simp only [wk, wl, Then, Blk, pickV, Nat.reduceLT, Nat.reduceEqDiff, Nat.reduceBEq, reduceIte, isConst, nilCheckV, extractV, wantJ, nth, t2, t3])
      all_goals (try simp only [wk, wl, Then, Blk, pickV, Nat.reduceLT, Nat.reduceEqDiff, Nat.reduceBEq, reduceIte, isConst, nilCheckV, extractV, wantJ, nth, t1, t2, t3])
      all_goals rfl
    · rintro e fr hh ⟨rfl, ts, mv', L', rfl, I, eL, t2, t3⟩
      have o1 := I.ob1
      have o2 := I.ob2
      have xf := I.fix.next
      (try simp only [wk, wl, Then, Blk, pickV, Nat.reduceLT, Nat.reduceEqDiff, Nat.reduceBEq, reduceIte, isConst, nilCheckV, extractV, wantJ, nth])
      have b2' := b2.fix I.fix (by omega)
      ((repeat refine WC.seq ?_); refine WC.run ?_)
      (try simp only [wk, wl, Then, Blk, pickV, Nat.reduceLT, Nat.reduceEqDiff, Nat.reduceBEq, reduceIte, isConst, nilCheckV, extractV, wantJ, nth, t2, t3, I.co.agg ty34 rfl (o := 0) (Nat.le_refl 5)])
      refine sat_store b2' ty34 rfl (Nat.le_refl 5) (by show ([i64 c.pid, i64 c.sig, .str c.name, rv', mv'] : List V).all V.one = true; simp only [List.all_cons, List.all_nil, (Sl.one I.ib.sl).2, (Sl.one I.mb.sl).2, Bool.and_true]; rfl) ?_
      intro h3 b3 n3 f3
      have b3 : Has h3 h1.next [i64 c.pid, i64 c.sig, .str c.name, rv', mv'] := b3
      (try simp only [wk, wl, Then, Blk, pickV, Nat.reduceLT, Nat.reduceEqDiff, Nat.reduceBEq, reduceIte, isConst, nilCheckV, extractV, wantJ, nth])
      refine WC.ret ?_
      (try simp only [wk, wl, Then, Blk, pickV, Nat.reduceLT, Nat.reduceEqDiff, Nat.reduceBEq, reduceIte, isConst, nilCheckV, extractV, wantJ, nth, t2, b3.agg ty34 rfl (o := 0) (Nat.le_refl 5)])
      refine ⟨⟨by omega, fun x hx => by rw [f3.same x (by omega), I.fix.same x (by omega), F2.same x hx]⟩, rv', mv', L', ?_⟩
      exact ⟨rfl, Sl.fix I.ib.sl (I.inR.sub fun x hx => by omega) f3, ⟨Sl.fix I.mb.sl (I.inM.sub fun x hx => by omega) f3, fun q hq => Sl.fix (I.dat q hq) ((I.inL q hq).sub fun x hx => by omega) f3⟩, by rw [eL, co.mems], I.inR.sub fun x hx => ⟨by omega, by have := hx.2.1; omega⟩, I.inM.sub fun x hx => ⟨by omega, by omega⟩, fun q hq => (I.inL q hq).sub fun x hx => ⟨by omega, by have := hx.2.1; omega⟩⟩
end Go.Proofs.ZP
