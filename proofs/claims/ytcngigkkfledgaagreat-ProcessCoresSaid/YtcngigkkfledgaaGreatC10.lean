/- Walks: ref.Dump. -/
import Derived.Test.YtcngigkkfledgaaGreatC9
set_option linter.unusedVariables false
set_option linter.unusedSimpArgs false
set_option linter.defProp false
set_option linter.unusedSimpArgs false
namespace Go.Proofs.ZP
open Go Go.Ev
open Go.Proofs
variable {g : T (List V)}

/-- ref.Dump -/
theorem rdump_ok {h : H} {v : V} {c : CoreD} {rv mv : V} {L : List (Mem × V)} (co : Co g h (· < h.next) v c rv mv L) (hM : L.length < 2 ^ 40) (hR : c.regs.length < 2 ^ 40) : WF (E g) 9 [v] h fun v h' => DumpR g h c v h' := by
  have hlen := co.len
  refine WF.enter fn9 rfl ?_
  ((repeat refine WC.seq ?_); refine WC.run ?_)
  (try simp only [wk, wl, Then, Blk, pickV, Nat.reduceLT, Nat.reduceEqDiff, Nat.reduceBEq, reduceIte, isConst, nilCheckV, extractV, wantJ, nth])
  refine wop_box (v := v) (by (try simp only [wk, wl, Then, Blk, pickV, Nat.reduceLT, Nat.reduceEqDiff, Nat.reduceBEq, reduceIte, isConst, nilCheckV, extractV, wantJ, nth])) ?_
  rw [co.val]
  intro h1 b1 n1 f1
  (try simp only [wk, wl, Then, Blk, pickV, Nat.reduceLT, Nat.reduceEqDiff, Nat.reduceBEq, reduceIte, isConst, nilCheckV, extractV, wantJ, nth])
  have b1 : Has h1 h.next [i64 c.pid, i64 c.sig, .str c.name, rv, mv] := b1
  have co1 := co.fix f1 (fun _ h => h)
  have hpid : loadP (E g) h1 3 (.ptr h.next 0) = some (.int .i64 c.pid) := b1.at ty3 rfl 0
  have hsig : loadP (E g) h1 3 (.ptr h.next 1) = some (.int .i64 c.sig) := b1.at ty3 rfl 1
  ((repeat refine WC.seq ?_); refine WC.run ?_)
  have range : (c.pid < 0 ∨ c.pid > 1073741824 ∨ c.sig < 0 ∨ c.sig > 1073741824) ∨ (¬ c.pid < 0 ∧ ¬ c.sig < 0 ∧ ¬ (1073741824 : Int) < c.pid ∧ ¬ (1073741824 : Int) < c.sig) := by omega
  rcases range with hr | ⟨r1, r2, r3, r4⟩
  · have hE : checkE c = 34 := by unfold checkE; rw [if_pos hr]
    have fin : DumpR g h c (.tuple [.nils, .int .i64 34]) h1 := ⟨.nils, by rw [hE], f1, .inl ⟨by rw [hE]; decide, rfl⟩⟩
    by_cases r1 : c.pid < 0
    · (try simp only [wk, wl, Then, Blk, pickV, Nat.reduceLT, Nat.reduceEqDiff, Nat.reduceBEq, reduceIte, isConst, nilCheckV, extractV, wantJ, nth, fa25_0, fa25_1, Nat.zero_add, hpid, hsig, decide_eq_true r1])
      (repeat refine WC.seq ?_)
      refine WC.cond (b := true) (by (try simp only [wk, wl, Then, Blk, pickV, Nat.reduceLT, Nat.reduceEqDiff, Nat.reduceBEq, reduceIte, isConst, nilCheckV, extractV, wantJ, nth]); (try simp); (try omega)) ?_
      ((repeat refine WC.seq ?_); refine WC.run ?_)
      (try simp only [wk, wl, Then, Blk, pickV, Nat.reduceLT, Nat.reduceEqDiff, Nat.reduceBEq, reduceIte, isConst, nilCheckV, extractV, wantJ, nth])
      refine WC.ret ?_
      (try simp only [wk, wl, Then, Blk, pickV, Nat.reduceLT, Nat.reduceEqDiff, Nat.reduceBEq, reduceIte, isConst, nilCheckV, extractV, wantJ, nth])
      exact fin
    · by_cases r2 : c.sig < 0
      · (try simp only [wk, wl, Then, Blk, pickV, Nat.reduceLT, Nat.reduceEqDiff, Nat.reduceBEq, reduceIte, isConst, nilCheckV, extractV, wantJ, nth, fa25_0, fa25_1, Nat.zero_add, hpid, hsig, decide_eq_false r1, decide_eq_true r2])
        (repeat refine WC.seq ?_)
        refine WC.cond (b := true) (by (try simp only [wk, wl, Then, Blk, pickV, Nat.reduceLT, Nat.reduceEqDiff, Nat.reduceBEq, reduceIte, isConst, nilCheckV, extractV, wantJ, nth]); (try simp); (try omega)) ?_
        ((repeat refine WC.seq ?_); refine WC.run ?_)
        (try simp only [wk, wl, Then, Blk, pickV, Nat.reduceLT, Nat.reduceEqDiff, Nat.reduceBEq, reduceIte, isConst, nilCheckV, extractV, wantJ, nth])
        refine WC.ret ?_
        (try simp only [wk, wl, Then, Blk, pickV, Nat.reduceLT, Nat.reduceEqDiff, Nat.reduceBEq, reduceIte, isConst, nilCheckV, extractV, wantJ, nth])
        exact fin
      · by_cases r3 : (1073741824 : Int) < c.pid
        · (try simp only [wk, wl, Then, Blk, pickV, Nat.reduceLT, Nat.reduceEqDiff, Nat.reduceBEq, reduceIte, isConst, nilCheckV, extractV, wantJ, nth, fa25_0, fa25_1, Nat.zero_add, hpid, hsig, decide_eq_false r1, decide_eq_false r2, decide_eq_true r3])
          (repeat refine WC.seq ?_)
          refine WC.cond (b := true) (by (try simp only [wk, wl, Then, Blk, pickV, Nat.reduceLT, Nat.reduceEqDiff, Nat.reduceBEq, reduceIte, isConst, nilCheckV, extractV, wantJ, nth]); (try simp); (try omega)) ?_
          ((repeat refine WC.seq ?_); refine WC.run ?_)
          (try simp only [wk, wl, Then, Blk, pickV, Nat.reduceLT, Nat.reduceEqDiff, Nat.reduceBEq, reduceIte, isConst, nilCheckV, extractV, wantJ, nth])
          refine WC.ret ?_
          (try simp only [wk, wl, Then, Blk, pickV, Nat.reduceLT, Nat.reduceEqDiff, Nat.reduceBEq, reduceIte, isConst, nilCheckV, extractV, wantJ, nth])
          exact fin
        · have r4 : (1073741824 : Int) < c.sig := by omega
          (try simp only [wk, wl, Then, Blk, pickV, Nat.reduceLT, Nat.reduceEqDiff, Nat.reduceBEq, reduceIte, isConst, nilCheckV, extractV, wantJ, nth, fa25_0, fa25_1, Nat.zero_add, hpid, hsig, decide_eq_false r1, decide_eq_false r2, decide_eq_false r3, decide_eq_true r4])
          (repeat refine WC.seq ?_)
          refine WC.cond (b := true) (by (try simp only [wk, wl, Then, Blk, pickV, Nat.reduceLT, Nat.reduceEqDiff, Nat.reduceBEq, reduceIte, isConst, nilCheckV, extractV, wantJ, nth]); (try simp); (try omega)) ?_
          ((repeat refine WC.seq ?_); refine WC.run ?_)
          (try simp only [wk, wl, Then, Blk, pickV, Nat.reduceLT, Nat.reduceEqDiff, Nat.reduceBEq, reduceIte, isConst, nilCheckV, extractV, wantJ, nth])
          refine WC.ret ?_
          (try simp only [wk, wl, Then, Blk, pickV, Nat.reduceLT, Nat.reduceEqDiff, Nat.reduceBEq, reduceIte, isConst, nilCheckV, extractV, wantJ, nth])
          exact fin
  · have hE : checkE c = if nameE c.name ≠ 0 then nameE c.name
        else if c.regs.length > 64 ∨ c.mem.length > 1000 ∨ anyBig c.mem = true then 18
        else orderE 0 c.mem := by unfold checkE; rw [if_neg (by omega)]
    (try simp only [wk, wl, Then, Blk, pickV, Nat.reduceLT, Nat.reduceEqDiff, Nat.reduceBEq, reduceIte, isConst, nilCheckV, extractV, wantJ, nth, fa25_0, fa25_1, Nat.zero_add, hpid, hsig, decide_eq_false r1, decide_eq_false r2, decide_eq_false r3, decide_eq_false r4])
    (repeat refine WC.seq ?_)
    refine WC.cond (b := false) (by (try simp only [wk, wl, Then, Blk, pickV, Nat.reduceLT, Nat.reduceEqDiff, Nat.reduceBEq, reduceIte, isConst, nilCheckV, extractV, wantJ, nth]); (try simp); (try omega)) (WC.skip ?_)
    (try simp only [wk, wl, Then, Blk, pickV, Nat.reduceLT, Nat.reduceEqDiff, Nat.reduceBEq, reduceIte, isConst, nilCheckV, extractV, wantJ, nth])
    ((repeat refine WC.seq ?_); refine WC.run ?_)
    (try simp only [wk, wl, Then, Blk, pickV, Nat.reduceLT, Nat.reduceEqDiff, Nat.reduceBEq, reduceIte, isConst, nilCheckV, extractV, wantJ, nth, fa25_2, Nat.zero_add, b1.at ty9 rfl])
    refine rnamed_ok.mono fun v h2 ⟨e2, e2'⟩ => ?_
    subst e2 e2'
    (try simp only [wk, wl, Then, Blk, pickV, Nat.reduceLT, Nat.reduceEqDiff, Nat.reduceBEq, reduceIte, isConst, nilCheckV, extractV, wantJ, nth])
    ((repeat refine WC.seq ?_); refine WC.run ?_)
    (try simp only [wk, wl, Then, Blk, pickV, Nat.reduceLT, Nat.reduceEqDiff, Nat.reduceBEq, reduceIte, isConst, nilCheckV, extractV, wantJ, nth])
    (repeat refine WC.seq ?_)
    by_cases hn : nameE c.name = 0
    · rw [if_neg (by simp [hn])] at hE
      refine WC.cond (b := false) (by (try simp only [wk, wl, Then, Blk, pickV, Nat.reduceLT, Nat.reduceEqDiff, Nat.reduceBEq, reduceIte, isConst, nilCheckV, extractV, wantJ, nth, hn]); (try simp); (try omega)) (WC.skip ?_)
      (try simp only [wk, wl, Then, Blk, pickV, Nat.reduceLT, Nat.reduceEqDiff, Nat.reduceBEq, reduceIte, isConst, nilCheckV, extractV, wantJ, nth])
      ((repeat refine WC.seq ?_); refine WC.run ?_)
      by_cases hlim : (64 : Int) < c.regs.length ∨ (1000 : Int) < L.length
      · rw [if_pos (by omega)] at hE
        have fin : DumpR g h c (.tuple [.nils, .int .i64 18]) h2 := ⟨.nils, by rw [hE], f1, .inl ⟨by rw [hE]; decide, rfl⟩⟩
        by_cases l1 : (64 : Int) < c.regs.length
        · (try simp only [wk, wl, Then, Blk, pickV, Nat.reduceLT, Nat.reduceEqDiff, Nat.reduceBEq, reduceIte, isConst, nilCheckV, extractV, wantJ, nth, fa25_3, fa25_4, Nat.zero_add, b1.at ty22 rfl, b1.at ty23 rfl, co1.regs.len, co1.mem.sl.lenB ty23 rfl, decide_eq_true l1])
          (repeat refine WC.seq ?_)
          refine WC.cond (b := true) (by (try simp only [wk, wl, Then, Blk, pickV, Nat.reduceLT, Nat.reduceEqDiff, Nat.reduceBEq, reduceIte, isConst, nilCheckV, extractV, wantJ, nth]); (try simp); (try omega)) ?_
          ((repeat refine WC.seq ?_); refine WC.run ?_)
          (try simp only [wk, wl, Then, Blk, pickV, Nat.reduceLT, Nat.reduceEqDiff, Nat.reduceBEq, reduceIte, isConst, nilCheckV, extractV, wantJ, nth])
          refine WC.ret ?_
          (try simp only [wk, wl, Then, Blk, pickV, Nat.reduceLT, Nat.reduceEqDiff, Nat.reduceBEq, reduceIte, isConst, nilCheckV, extractV, wantJ, nth])
          exact fin
        · have l2 : (1000 : Int) < L.length := by omega
          (try simp only [wk, wl, Then, Blk, pickV, Nat.reduceLT, Nat.reduceEqDiff, Nat.reduceBEq, reduceIte, isConst, nilCheckV, extractV, wantJ, nth, fa25_3, fa25_4, Nat.zero_add, b1.at ty22 rfl, b1.at ty23 rfl, co1.regs.len, co1.mem.sl.lenB ty23 rfl, decide_eq_false l1, decide_eq_true l2])
          (repeat refine WC.seq ?_)
          refine WC.cond (b := true) (by (try simp only [wk, wl, Then, Blk, pickV, Nat.reduceLT, Nat.reduceEqDiff, Nat.reduceBEq, reduceIte, isConst, nilCheckV, extractV, wantJ, nth]); (try simp); (try omega)) ?_
          ((repeat refine WC.seq ?_); refine WC.run ?_)
          (try simp only [wk, wl, Then, Blk, pickV, Nat.reduceLT, Nat.reduceEqDiff, Nat.reduceBEq, reduceIte, isConst, nilCheckV, extractV, wantJ, nth])
          refine WC.ret ?_
          (try simp only [wk, wl, Then, Blk, pickV, Nat.reduceLT, Nat.reduceEqDiff, Nat.reduceBEq, reduceIte, isConst, nilCheckV, extractV, wantJ, nth])
          exact fin
      · have l1 : ¬ (64 : Int) < c.regs.length := by omega
        have l2 : ¬ (1000 : Int) < L.length := by omega
        (try simp only [wk, wl, Then, Blk, pickV, Nat.reduceLT, Nat.reduceEqDiff, Nat.reduceBEq, reduceIte, isConst, nilCheckV, extractV, wantJ, nth, fa25_3, fa25_4, Nat.zero_add, b1.at ty22 rfl, b1.at ty23 rfl, co1.regs.len, co1.mem.sl.lenB ty23 rfl, decide_eq_false l1, decide_eq_false l2])
        (repeat refine WC.seq ?_)
        refine WC.cond (b := false) (by (try simp only [wk, wl, Then, Blk, pickV, Nat.reduceLT, Nat.reduceEqDiff, Nat.reduceBEq, reduceIte, isConst, nilCheckV, extractV, wantJ, nth]); (try simp); (try omega)) (WC.skip ?_)
        (try simp only [wk, wl, Then, Blk, pickV, Nat.reduceLT, Nat.reduceEqDiff, Nat.reduceBEq, reduceIte, isConst, nilCheckV, extractV, wantJ, nth])
        ((repeat refine WC.seq ?_); refine WC.run ?_)
        (try simp only [wk, wl, Then, Blk, pickV, Nat.reduceLT, Nat.reduceEqDiff, Nat.reduceBEq, reduceIte, isConst, nilCheckV, extractV, wantJ, nth, fa25_4, Nat.zero_add, b1.at ty23 rfl, co1.mem.sl.lenB ty23 rfl])
        (repeat refine WC.seq ?_)
        refine WC.block ?_
        -- is a part too long?
        refine WC.while (fun m fr hh => ∃ ts i, fr = ⟨ts, 149, [], 9, none⟩ ∧ Fix (· < h2.next) h2 hh ∧ m = L.length - i ∧ i ≤ L.length ∧ ts.get 1 = some (.ptr h.next 0) ∧ ts.get 50 = some mv ∧ ts.get 51 = some (.int .i64 L.length) ∧ ts.get 52 = some (.int .i64 i) ∧ anyBig ((L.take i).map (·.1)) = false) ?_ ⟨_, 0, rfl, Fix.refl _ _, rfl, by omega, ?_, ?_, ?_, ?_, ?_⟩
        · rintro m fr hh ⟨ts, i, rfl, ff, rfl, hi, t1, t50, t51, t52, hno⟩
          ((repeat refine WC.seq ?_); refine WC.run ?_)
          (try simp only [wk, wl, Then, Blk, pickV, Nat.reduceLT, Nat.reduceEqDiff, Nat.reduceBEq, reduceIte, isConst, nilCheckV, extractV, wantJ, nth, t51, t52])
          (repeat refine WC.seq ?_)
          have co2 := co1.fix ff (fun b hb => by omega)
          by_cases hlt : i < L.length
          · refine WC.cond (b := true) (by (try simp only [wk, wl, Then, Blk, pickV, Nat.reduceLT, Nat.reduceEqDiff, Nat.reduceBEq, reduceIte, isConst, nilCheckV, extractV, wantJ, nth]); (try simp); (try omega)) (WC.skip ?_)
            (try simp only [wk, wl, Then, Blk, pickV, Nat.reduceLT, Nat.reduceEqDiff, Nat.reduceBEq, reduceIte, isConst, nilCheckV, extractV, wantJ, nth])
            obtain ⟨p, p1, p2⟩ := co2.mem.at ty23 rfl ty46 rfl rfl hlt
            have p2 := p2 hh fun _ _ _ _ _ => rfl
            have hmem := List.getElem_mem hlt
            have hd := co2.mem.dat _ hmem
            (repeat refine WC.seq ?_)
            refine WC.block ?_
            ((repeat refine WC.seq ?_); refine WC.run ?_)
            (try simp only [wk, wl, Then, Blk, pickV, Nat.reduceLT, Nat.reduceEqDiff, Nat.reduceBEq, reduceIte, isConst, nilCheckV, extractV, wantJ, nth, t50, t52, p1, p2])
            refine wop_alloc ty46 ?_
            intro h4 b4 n4 f4
            (try simp only [wk, wl, Then, Blk, pickV, Nat.reduceLT, Nat.reduceEqDiff, Nat.reduceBEq, reduceIte, isConst, nilCheckV, extractV, wantJ, nth])
            refine sat_store b4 ty46 rfl (by decide) (by
              have := Sl.len hd
              generalize (L[i]).2 = d at this ⊢
              unfold lenV at this
              split at this <;> first | rfl | cases this) ?_
            intro h5 b5 n5 f5
            have b5 : Has h5 hh.next [i64 (L[i]).1.addr, (L[i]).2] := b5
            have ff' : Fix (· < h2.next) h2 h5 := ⟨by have := ff.next; omega, fun c hc => by rw [f5.same c (by have := ff.next; omega), f4.same c (by have := ff.next; omega), ff.same c hc]⟩
            (try simp only [wk, wl, Then, Blk, pickV, Nat.reduceLT, Nat.reduceEqDiff, Nat.reduceBEq, reduceIte, isConst, nilCheckV, extractV, wantJ, nth])
            ((repeat refine WC.seq ?_); refine WC.run ?_)
            (try simp only [wk, wl, Then, Blk, pickV, Nat.reduceLT, Nat.reduceEqDiff, Nat.reduceBEq, reduceIte, isConst, nilCheckV, extractV, wantJ, nth, fa46_1, Nat.zero_add, b5.at ty26 rfl, hd.len])
            (repeat refine WC.seq ?_)
            by_cases hb : (65536 : Int) < (L[i]).1.data.length
            · refine WC.cond (b := true) (by (try simp only [wk, wl, Then, Blk, pickV, Nat.reduceLT, Nat.reduceEqDiff, Nat.reduceBEq, reduceIte, isConst, nilCheckV, extractV, wantJ, nth]); (try simp); (try omega)) ?_
              ((repeat refine WC.seq ?_); refine WC.run ?_)
              (try simp only [wk, wl, Then, Blk, pickV, Nat.reduceLT, Nat.reduceEqDiff, Nat.reduceBEq, reduceIte, isConst, nilCheckV, extractV, wantJ, nth])
              refine WC.ret ?_
              (try simp only [wk, wl, Then, Blk, pickV, Nat.reduceLT, Nat.reduceEqDiff, Nat.reduceBEq, reduceIte, isConst, nilCheckV, extractV, wantJ, nth])
              have : anyBig c.mem = true := by
                unfold anyBig
                rw [List.any_eq_true, ← co.mems]
                exact ⟨(L[i]).1, List.mem_map.2 ⟨_, hmem, rfl⟩, by simpa using hb⟩
              rw [if_pos (.inr (.inr this))] at hE
              exact ⟨.nils, by rw [hE], f1.trans (ff'.sub fun b hb => by omega), .inl ⟨by rw [hE]; decide, rfl⟩⟩
            · refine WC.cond (b := false) (by (try simp only [wk, wl, Then, Blk, pickV, Nat.reduceLT, Nat.reduceEqDiff, Nat.reduceBEq, reduceIte, isConst, nilCheckV, extractV, wantJ, nth]); (try simp); (try omega)) (WC.skip ?_)
              (try simp only [wk, wl, Then, Blk, pickV, Nat.reduceLT, Nat.reduceEqDiff, Nat.reduceBEq, reduceIte, isConst, nilCheckV, extractV, wantJ, nth])
              ((repeat refine WC.seq ?_); refine WC.run ?_)
              (try simp only [wk, wl, Then, Blk, pickV, Nat.reduceLT, Nat.reduceEqDiff, Nat.reduceBEq, reduceIte, isConst, nilCheckV, extractV, wantJ, nth, t52, bin_add])
              refine ⟨_, ?_, _, i + 1, rfl, ff', rfl, by omega, ?_⟩
              · omega
              (try simp only [wk, wl, Then, Blk, pickV, Nat.reduceLT, Nat.reduceEqDiff, Nat.reduceBEq, reduceIte, isConst, nilCheckV, extractV, wantJ, nth, t1, t50, t51])
              refine ⟨trivial, trivial, trivial, ?_, ?_⟩
              · rw [wrap64 (by omega) (by omega)]; rfl
              · rw [List.take_succ_eq_append_getElem hlt, List.map_append]
                unfold anyBig at hno ⊢
                rw [List.any_append, hno]
                simp only [List.map_cons, List.map_nil, List.any_cons, List.any_nil, Bool.or_false, Bool.false_or]
                exact decide_eq_false hb
          · refine WC.cond (b := false) (by (try simp only [wk, wl, Then, Blk, pickV, Nat.reduceLT, Nat.reduceEqDiff, Nat.reduceBEq, reduceIte, isConst, nilCheckV, extractV, wantJ, nth]); (try simp); (try omega)) (WC.exit ?_)
            have : i = L.length := by omega
            subst this
            rw [List.take_length, co.mems] at hno
            rw [if_neg (by rw [hno]; simp; omega)] at hE
            have hbig : ∀ m ∈ c.mem, m.data.length ≤ 65536 := fun m hm => by
              unfold anyBig at hno
              rw [List.any_eq_false] at hno
              have := hno m hm
              simp at this; omega
            (try simp only [wk, wl, Then, Blk, pickV, Nat.reduceLT, Nat.reduceEqDiff, Nat.reduceBEq, reduceIte, isConst, nilCheckV, extractV, wantJ, nth])
            have B1 := b1.fix ff (by omega)
            ((repeat refine WC.seq ?_); refine WC.run ?_)
            (try simp only [wk, wl, Then, Blk, pickV, Nat.reduceLT, Nat.reduceEqDiff, Nat.reduceBEq, reduceIte, isConst, nilCheckV, extractV, wantJ, nth])
            ((repeat refine WC.seq ?_); refine WC.run ?_)
            (try simp only [wk, wl, Then, Blk, pickV, Nat.reduceLT, Nat.reduceEqDiff, Nat.reduceBEq, reduceIte, isConst, nilCheckV, extractV, wantJ, nth, t1, fa25_4, Nat.zero_add, B1.at ty23 rfl, co1.mem.sl.lenB ty23 rfl])
            (repeat refine WC.seq ?_)
            refine WC.block ?_
            -- are they in order?
            refine WC.while (fun m fr h3 => ∃ ts i e, fr = ⟨ts, 149, [], 9, none⟩ ∧ Fix (· < h2.next) h2 h3 ∧ m = L.length - i ∧ i ≤ L.length ∧ ts.get 1 = some (.ptr h.next 0) ∧ ts.get 62 = some mv ∧ ts.get 63 = some (.int .i64 L.length) ∧ ts.get 64 = some (.int .i64 i) ∧ ts.get 7 = some (.int .i64 e) ∧ 0 ≤ e ∧ orderE e ((L.drop i).map (·.1)) = orderE 0 c.mem) ?_ ⟨_, 0, 0, rfl, ff, rfl, by omega, ?_, ?_, ?_, ?_, ?_, Int.le_refl _, ?_⟩
            · rintro m fr hh ⟨ts, i, e, rfl, ff, rfl, hi, t1, t62, t63, t64, t7, he, ho⟩
              ((repeat refine WC.seq ?_); refine WC.run ?_)
              (try simp only [wk, wl, Then, Blk, pickV, Nat.reduceLT, Nat.reduceEqDiff, Nat.reduceBEq, reduceIte, isConst, nilCheckV, extractV, wantJ, nth, t63, t64])
              (repeat refine WC.seq ?_)
              have co2 := co1.fix ff (fun b hb => by omega)
              by_cases hlt : i < L.length
              · refine WC.cond (b := true) (by (try simp only [wk, wl, Then, Blk, pickV, Nat.reduceLT, Nat.reduceEqDiff, Nat.reduceBEq, reduceIte, isConst, nilCheckV, extractV, wantJ, nth]); (try simp); (try omega)) (WC.skip ?_)
                (try simp only [wk, wl, Then, Blk, pickV, Nat.reduceLT, Nat.reduceEqDiff, Nat.reduceBEq, reduceIte, isConst, nilCheckV, extractV, wantJ, nth])
                obtain ⟨p, p1, p2⟩ := co2.mem.at ty23 rfl ty46 rfl rfl hlt
                have p2 := p2 hh fun _ _ _ _ _ => rfl
                have hmem := List.getElem_mem hlt
                have hd := co2.mem.dat _ hmem
                have hdl : (L[i]).1.data.length ≤ 65536 := hbig _ (by rw [← co.mems]; exact List.mem_map.2 ⟨_, hmem, rfl⟩)
                rw [List.drop_eq_getElem_cons hlt, List.map_cons] at ho
                simp only [orderE] at ho
                (repeat refine WC.seq ?_)
                refine WC.block ?_
                ((repeat refine WC.seq ?_); refine WC.run ?_)
                (try simp only [wk, wl, Then, Blk, pickV, Nat.reduceLT, Nat.reduceEqDiff, Nat.reduceBEq, reduceIte, isConst, nilCheckV, extractV, wantJ, nth, t62, t64, p1, p2])
                refine wop_alloc ty46 ?_
                intro h4 b4 n4 f4
                (try simp only [wk, wl, Then, Blk, pickV, Nat.reduceLT, Nat.reduceEqDiff, Nat.reduceBEq, reduceIte, isConst, nilCheckV, extractV, wantJ, nth])
                refine sat_store b4 ty46 rfl (by decide) (by
                  have := Sl.len hd
                  generalize (L[i]).2 = d at this ⊢
                  unfold lenV at this
                  split at this <;> first | rfl | cases this) ?_
                intro h5 b5 n5 f5
                have b5 : Has h5 hh.next [i64 (L[i]).1.addr, (L[i]).2] := b5
                have hadr : loadP (E g) h5 2 (.ptr hh.next 0) = some (.int .i64 (L[i]).1.addr) := b5.at ty2 rfl 0
                have ff' : Fix (· < h2.next) h2 h5 := ⟨by have := ff.next; omega, fun c hc => by rw [f5.same c (by have := ff.next; omega), f4.same c (by have := ff.next; omega), ff.same c hc]⟩
                (try simp only [wk, wl, Then, Blk, pickV, Nat.reduceLT, Nat.reduceEqDiff, Nat.reduceBEq, reduceIte, isConst, nilCheckV, extractV, wantJ, nth])
                ((repeat refine WC.seq ?_); refine WC.run ?_)
                (try simp only [wk, wl, Then, Blk, pickV, Nat.reduceLT, Nat.reduceEqDiff, Nat.reduceBEq, reduceIte, isConst, nilCheckV, extractV, wantJ, nth, t7, fa46_0, Nat.zero_add, hadr])
                (repeat refine WC.seq ?_)
                by_cases hlow : (L[i]).1.addr < e
                · rw [if_pos hlow] at ho
                  refine WC.cond (b := true) (by (try simp only [wk, wl, Then, Blk, pickV, Nat.reduceLT, Nat.reduceEqDiff, Nat.reduceBEq, reduceIte, isConst, nilCheckV, extractV, wantJ, nth]); (try simp); (try omega)) ?_
                  ((repeat refine WC.seq ?_); refine WC.run ?_)
                  (try simp only [wk, wl, Then, Blk, pickV, Nat.reduceLT, Nat.reduceEqDiff, Nat.reduceBEq, reduceIte, isConst, nilCheckV, extractV, wantJ, nth])
                  refine WC.ret ?_
                  (try simp only [wk, wl, Then, Blk, pickV, Nat.reduceLT, Nat.reduceEqDiff, Nat.reduceBEq, reduceIte, isConst, nilCheckV, extractV, wantJ, nth])
                  exact ⟨.nils, by rw [hE, ← ho], f1.trans (ff'.sub fun b hb => by omega), .inl ⟨by rw [hE, ← ho]; decide, rfl⟩⟩
                · rw [if_neg hlow] at ho
                  refine WC.cond (b := false) (by (try simp only [wk, wl, Then, Blk, pickV, Nat.reduceLT, Nat.reduceEqDiff, Nat.reduceBEq, reduceIte, isConst, nilCheckV, extractV, wantJ, nth]); (try simp); (try omega)) (WC.skip ?_)
                  (try simp only [wk, wl, Then, Blk, pickV, Nat.reduceLT, Nat.reduceEqDiff, Nat.reduceBEq, reduceIte, isConst, nilCheckV, extractV, wantJ, nth])
                  ((repeat refine WC.seq ?_); refine WC.run ?_)
                  (try simp only [wk, wl, Then, Blk, pickV, Nat.reduceLT, Nat.reduceEqDiff, Nat.reduceBEq, reduceIte, isConst, nilCheckV, extractV, wantJ, nth])
                  ((repeat refine WC.seq ?_); refine WC.run ?_)
                  (try simp only [wk, wl, Then, Blk, pickV, Nat.reduceLT, Nat.reduceEqDiff, Nat.reduceBEq, reduceIte, isConst, nilCheckV, extractV, wantJ, nth, fa46_0, fa46_1, Nat.zero_add, hadr, b5.at ty26 rfl, hd.len, bin_sub])
                  rw [wrap64 (n := 9223372036854775807 - ((L[i]).1.data.length : Int)) (by omega) (by omega)]
                  (repeat refine WC.seq ?_)
                  by_cases hfit : (L[i]).1.addr ≤ 9223372036854775807 - ((L[i]).1.data.length : Int)
                  · rw [if_pos hfit] at ho
                    refine WC.cond (b := true) (by (try simp only [wk, wl, Then, Blk, pickV, Nat.reduceLT, Nat.reduceEqDiff, Nat.reduceBEq, reduceIte, isConst, nilCheckV, extractV, wantJ, nth]); (try simp); (try omega)) ?_
                    ((repeat refine WC.seq ?_); refine WC.run ?_)
                    (try simp only [wk, wl, Then, Blk, pickV, Nat.reduceLT, Nat.reduceEqDiff, Nat.reduceBEq, reduceIte, isConst, nilCheckV, extractV, wantJ, nth, fa46_0, fa46_1, Nat.zero_add, hadr, b5.at ty26 rfl, hd.len, bin_add])
                    rw [wrap64 (n := (L[i]).1.addr + ((L[i]).1.data.length : Int)) (by omega) (by omega)]
                    ((repeat refine WC.seq ?_); refine WC.run ?_)
                    (try simp only [wk, wl, Then, Blk, pickV, Nat.reduceLT, Nat.reduceEqDiff, Nat.reduceBEq, reduceIte, isConst, nilCheckV, extractV, wantJ, nth, t64, bin_add])
                    refine ⟨_, ?_, _, i + 1, (L[i]).1.addr + ((L[i]).1.data.length : Int), rfl, ff', rfl, by omega, ?_⟩
                    · omega
                    (try simp only [wk, wl, Then, Blk, pickV, Nat.reduceLT, Nat.reduceEqDiff, Nat.reduceBEq, reduceIte, isConst, nilCheckV, extractV, wantJ, nth, t1, t62, t63])
                    refine ⟨trivial, trivial, trivial, ?_, by trivial, by omega, ho⟩
                    rw [wrap64 (by omega) (by omega)]; rfl
                  · rw [if_neg hfit] at ho
                    refine WC.cond (b := false) (by (try simp only [wk, wl, Then, Blk, pickV, Nat.reduceLT, Nat.reduceEqDiff, Nat.reduceBEq, reduceIte, isConst, nilCheckV, extractV, wantJ, nth]); (try simp); (try omega)) (WC.skip ?_)
                    (try simp only [wk, wl, Then, Blk, pickV, Nat.reduceLT, Nat.reduceEqDiff, Nat.reduceBEq, reduceIte, isConst, nilCheckV, extractV, wantJ, nth])
                    ((repeat refine WC.seq ?_); refine WC.run ?_)
                    (try simp only [wk, wl, Then, Blk, pickV, Nat.reduceLT, Nat.reduceEqDiff, Nat.reduceBEq, reduceIte, isConst, nilCheckV, extractV, wantJ, nth, t64, bin_add])
                    refine ⟨_, ?_, _, i + 1, 9223372036854775807, rfl, ff', rfl, by omega, ?_⟩
                    · omega
                    (try simp only [wk, wl, Then, Blk, pickV, Nat.reduceLT, Nat.reduceEqDiff, Nat.reduceBEq, reduceIte, isConst, nilCheckV, extractV, wantJ, nth, t1, t62, t63])
                    refine ⟨trivial, trivial, trivial, ?_, by trivial, by omega, ho⟩
                    rw [wrap64 (by omega) (by omega)]; rfl
              · refine WC.cond (b := false) (by (try simp only [wk, wl, Then, Blk, pickV, Nat.reduceLT, Nat.reduceEqDiff, Nat.reduceBEq, reduceIte, isConst, nilCheckV, extractV, wantJ, nth]); (try simp); (try omega)) (WC.exit ?_)
                have : i = L.length := by omega
                subst this
                (try simp only [wk, wl, Then, Blk, pickV, Nat.reduceLT, Nat.reduceEqDiff, Nat.reduceBEq, reduceIte, isConst, nilCheckV, extractV, wantJ, nth])
                rw [List.drop_length] at ho
                have hck : checkE c = 0 := by rw [hE, ← ho]; rfl
                obtain ⟨⟨p0, p1⟩, ⟨s0, s1⟩, hnm, hn64, hr64, hm1000, hdat, hord⟩ := check_zero hck
                have B2 := b1.fix ff (by omega)
                have hpid : loadP (E g) hh 3 (.ptr h.next 0) = some (.int .i64 c.pid) := B2.at ty3 rfl 0
                have hsig : loadP (E g) hh 3 (.ptr h.next 1) = some (.int .i64 c.sig) := B2.at ty3 rfl 1
                have xx := ff.next
                ((repeat refine WC.seq ?_); refine WC.draw (plans := pl9_24) (by kernel_rfl) ?_; simp only [pl9_24, List.mem_cons, List.not_mem_nil, or_false, forall_eq_or_imp, forall_eq])
                (try simp only [wk, wl, Then, Blk, pickV, Nat.reduceLT, Nat.reduceEqDiff, Nat.reduceBEq, reduceIte, isConst, nilCheckV, extractV, wantJ, nth, wd, Chk, and_true, true_and, t1, fa25_0, fa25_1, Nat.zero_add, hpid, hsig])
                refine sat_literal (cs := head.map u8) ty26 rfl ty5 rfl (by decide) (by decide) rfl rfl ?_
                intro h6 r6 n6 f6
                have B3 := B2.fix f6 (by omega)
                have hpid : loadP (E g) h6 3 (.ptr h.next 0) = some (.int .i64 c.pid) := B3.at ty3 rfl 0
                have hsig : loadP (E g) h6 3 (.ptr h.next 1) = some (.int .i64 c.sig) := B3.at ty3 rfl 1
                (try simp only [wk, wl, Then, Blk, pickV, Nat.reduceLT, Nat.reduceEqDiff, Nat.reduceBEq, reduceIte, isConst, nilCheckV, extractV, wantJ, nth, wd, Chk, and_true, true_and, t1, fa25_0, fa25_1, Nat.zero_add, hpid, hsig])
                refine sat_mark r6 ty26 rfl ty5 rfl ?_
                intro h7 r7 n7 f7
                have B4 := B3.fix f7 (by omega)
                have hpid : loadP (E g) h7 3 (.ptr h.next 0) = some (.int .i64 c.pid) := B4.at ty3 rfl 0
                have hsig : loadP (E g) h7 3 (.ptr h.next 1) = some (.int .i64 c.sig) := B4.at ty3 rfl 1
                (try simp only [wk, wl, Then, Blk, pickV, Nat.reduceLT, Nat.reduceEqDiff, Nat.reduceBEq, reduceIte, isConst, nilCheckV, extractV, wantJ, nth, wd, Chk, and_true, true_and, t1, fa25_0, fa25_1, Nat.zero_add, hpid, hsig])
                have l7 : BufB g h7 (.slice hh.next 0 4 (.lit 4)) head := .lit r7 row_cells
                have gr : GrewB g h7 (.slice hh.next 0 4 (.lit 4)) h7 (.slice hh.next 0 4 (.lit 4)) head := Grew.refl l7 (fun b o n c e => by injection e with e; omega)
                have F17 : Fix (· < h2.next) h2 h7 := ⟨by omega, fun c hc => by rw [f7.same c (by omega), f6.same c (by omega), ff.same c hc]⟩
                have co7 := co1.fix F17 (fun b hb => by omega)
                have out : ∀ c, c < hh.next → c < h7.next ∧ ∀ o m cc, V.slice hh.next 0 4 (.lit 4) ≠ .slice c o m cc := fun c hc => ⟨by omega, fun o m cc e => by injection e with e; omega⟩
                refine (put_ok (k := 4) gr.buf gr.low (by omega) (by simp [head])).mono fun s8 h8 g8 => ?_
                have gr := gr.trans g8
                have C1 := B4.fix gr.fix (out _ (by omega))
                have hsig : loadP (E g) h8 3 (.ptr h.next 1) = some (.int .i64 c.sig) := C1.at ty3 rfl 1
                (try simp only [wk, wl, Then, Blk, pickV, Nat.reduceLT, Nat.reduceEqDiff, Nat.reduceBEq, reduceIte, isConst, nilCheckV, extractV, wantJ, nth, wd, Chk, and_true, true_and, t1, fa25_0, fa25_1, Nat.zero_add, hsig])
                refine (put_ok (k := 4) gr.buf gr.low (by omega) (by simp [head, leB_length])).mono fun s9 h9 g9 => ?_
                have gr := gr.trans g9
                (try simp only [wk, wl, Then, Blk, pickV, Nat.reduceLT, Nat.reduceEqDiff, Nat.reduceBEq, reduceIte, isConst, nilCheckV, extractV, wantJ, nth, wd, Chk, and_true, true_and])
                clear C1
                have C1 := B4.fix gr.fix (out _ (by omega))
                -- the name
                ((repeat refine WC.seq ?_); refine WC.draw (plans := pl9_25) (by kernel_rfl) ?_; simp only [pl9_25, List.mem_cons, List.not_mem_nil, or_false, forall_eq_or_imp, forall_eq])
                (try simp only [wk, wl, Then, Blk, pickV, Nat.reduceLT, Nat.reduceEqDiff, Nat.reduceBEq, reduceIte, isConst, nilCheckV, extractV, wantJ, nth, wd, Chk, and_true, true_and, t1, fa25_2, Nat.zero_add, C1.at ty9 rfl, len_str, conv_int ty3 ty5 rfl, wrapu8_nat, u8_ofNat])
                refine sat_slice1 ty26 rfl ty5 rfl rfl rfl ?_
                intro h10 b10 n10 f10
                have x9 := gr.fix.next
                have D1 := C1.fix f10 (by omega)
                (try simp only [wk, wl, Then, Blk, pickV, Nat.reduceLT, Nat.reduceEqDiff, Nat.reduceBEq, reduceIte, isConst, nilCheckV, extractV, wantJ, nth, wd, Chk, and_true, true_and, t1, fa25_2, Nat.zero_add, D1.at ty9 rfl, len_str, conv_int ty3 ty5 rfl, wrapu8_nat, u8_ofNat])
                have gr := gr.keep f10
                refine app_ok (ys := [UInt8.ofNat c.name.length]) gr ty26 (.inl ⟨_, rfl⟩) b10.sl.len b10.sl.cells (by simp [head, leB_length]) ?_
                intro s11 h11 gr ff11
                clear D1
                have D1 := B4.fix gr.fix (out _ (by omega))
                (try simp only [wk, wl, Then, Blk, pickV, Nat.reduceLT, Nat.reduceEqDiff, Nat.reduceBEq, reduceIte, isConst, nilCheckV, extractV, wantJ, nth, wd, Chk, and_true, true_and, t1, fa25_2, Nat.zero_add, D1.at ty9 rfl, len_str, conv_int ty3 ty5 rfl, wrapu8_nat, u8_ofNat])
                refine app_ok (ys := c.name) gr ty9 (.inr rfl) rfl (src_str c.name) (by simp [head, leB_length]; omega) ?_
                intro s12 h12 gr ff12
                clear D1 C1
                have C1 := B4.fix gr.fix (out _ (by omega))
                (try simp only [wk, wl, Then, Blk, pickV, Nat.reduceLT, Nat.reduceEqDiff, Nat.reduceBEq, reduceIte, isConst, nilCheckV, extractV, wantJ, nth, wd, Chk, and_true, true_and, t1, fa25_2, Nat.zero_add, C1.at ty9 rfl, len_str, conv_int ty3 ty5 rfl, wrapu8_nat, u8_ofNat])
                -- how many registers
                ((repeat refine WC.seq ?_); refine WC.run ?_)
                (try simp only [wk, wl, Then, Blk, pickV, Nat.reduceLT, Nat.reduceEqDiff, Nat.reduceBEq, reduceIte, isConst, nilCheckV, extractV, wantJ, nth, t1, fa25_3, Nat.zero_add, C1.at ty22 rfl, co1.regs.len])
                refine (put_ok (k := 2) gr.buf gr.low (by omega) (by simp [head, leB_length]; omega)).mono fun s13 h13 g13 => ?_
                have gr := gr.trans g13
                rw [U_nat (show c.regs.length < 18446744073709551616 by omega)] at gr
                (try simp only [wk, wl, Then, Blk, pickV, Nat.reduceLT, Nat.reduceEqDiff, Nat.reduceBEq, reduceIte, isConst, nilCheckV, extractV, wantJ, nth])
                clear C1
                have C1 := B4.fix gr.fix (out _ (by omega))
                have gr : GrewB g h7 (.slice hh.next 0 4 (.lit 4)) h13 s13 (pre1 c) := gr
                have lp1 := pre1_length c
                ((repeat refine WC.seq ?_); refine WC.run ?_)
                (try simp only [wk, wl, Then, Blk, pickV, Nat.reduceLT, Nat.reduceEqDiff, Nat.reduceBEq, reduceIte, isConst, nilCheckV, extractV, wantJ, nth, t1, fa25_3, Nat.zero_add, C1.at ty22 rfl, co1.regs.len])
                (repeat refine WC.seq ?_)
                refine WC.block ?_
                refine WC.while (fun m fr h14 => ∃ ts i s, fr = ⟨ts, 149, [], 9, none⟩ ∧ GrewB g h7 (.slice hh.next 0 4 (.lit 4)) h14 s (pre1 c ++ regB (c.regs.take i)) ∧ m = c.regs.length - i ∧ i ≤ c.regs.length ∧ ts.get 1 = some (.ptr h.next 0) ∧ ts.get 10 = some s ∧ ts.get 111 = some rv ∧ ts.get 112 = some (.int .i64 c.regs.length) ∧ ts.get 113 = some (.int .i64 i)) ?_ ⟨_, 0, s13, rfl, ?_, rfl, by omega, ?_, ?_, ?_, ?_, ?_⟩
                · rintro m fr h14 ⟨ts, i, s, rfl, gr, rfl, hi, t1, t10, t111, t112, t113⟩
                  have C1 := B4.fix gr.fix (out _ (by omega))
                  ((repeat refine WC.seq ?_); refine WC.run ?_)
                  (try simp only [wk, wl, Then, Blk, pickV, Nat.reduceLT, Nat.reduceEqDiff, Nat.reduceBEq, reduceIte, isConst, nilCheckV, extractV, wantJ, nth, t112, t113])
                  (repeat refine WC.seq ?_)
                  by_cases hlt : i < c.regs.length
                  · refine WC.cond (b := true) (by (try simp only [wk, wl, Then, Blk, pickV, Nat.reduceLT, Nat.reduceEqDiff, Nat.reduceBEq, reduceIte, isConst, nilCheckV, extractV, wantJ, nth]); (try simp); (try omega)) (WC.skip ?_)
                    (try simp only [wk, wl, Then, Blk, pickV, Nat.reduceLT, Nat.reduceEqDiff, Nat.reduceBEq, reduceIte, isConst, nilCheckV, extractV, wantJ, nth])
                    have is7 : Is g h14 rv c.regs := Sl.fix co7.regs (co7.inR.sub fun b hb => out b (by omega)) gr.fix
                    obtain ⟨p, p1', p2'⟩ := is7.at hlt
                    (repeat refine WC.seq ?_)
                    refine WC.block ?_
                    ((repeat refine WC.seq ?_); refine WC.run ?_)
                    (try simp only [wk, wl, Then, Blk, pickV, Nat.reduceLT, Nat.reduceEqDiff, Nat.reduceBEq, reduceIte, isConst, nilCheckV, extractV, wantJ, nth, t111, t113, p1', p2', i64])
                    ((repeat refine WC.seq ?_); refine WC.run ?_)
                    (try simp only [wk, wl, Then, Blk, pickV, Nat.reduceLT, Nat.reduceEqDiff, Nat.reduceBEq, reduceIte, isConst, nilCheckV, extractV, wantJ, nth, t10])
                    have hlr : (regB (c.regs.take i)).length ≤ 512 := by rw [regB_length]; simp; omega
                    refine (put_ok (k := 8) gr.buf gr.low (by omega) (by simp; omega)).mono fun s' h' g' => ?_
                    have gr := gr.trans g'
                    rw [List.append_assoc, ← regB_take hlt] at gr
                    (try simp only [wk, wl, Then, Blk, pickV, Nat.reduceLT, Nat.reduceEqDiff, Nat.reduceBEq, reduceIte, isConst, nilCheckV, extractV, wantJ, nth])
                    ((repeat refine WC.seq ?_); refine WC.run ?_)
                    (try simp only [wk, wl, Then, Blk, pickV, Nat.reduceLT, Nat.reduceEqDiff, Nat.reduceBEq, reduceIte, isConst, nilCheckV, extractV, wantJ, nth, t113, bin_add])
                    refine ⟨_, ?_, _, i + 1, s', rfl, gr, rfl, by omega, ?_⟩
                    · omega
                    (try simp only [wk, wl, Then, Blk, pickV, Nat.reduceLT, Nat.reduceEqDiff, Nat.reduceBEq, reduceIte, isConst, nilCheckV, extractV, wantJ, nth, t1, t111, t112])
                    refine ⟨trivial, trivial, trivial, trivial, ?_⟩
                    rw [wrap64 (by omega) (by omega)]; rfl
                  · refine WC.cond (b := false) (by (try simp only [wk, wl, Then, Blk, pickV, Nat.reduceLT, Nat.reduceEqDiff, Nat.reduceBEq, reduceIte, isConst, nilCheckV, extractV, wantJ, nth]); (try simp); (try omega)) (WC.exit ?_)
                    have : i = c.regs.length := by omega
                    subst this
                    rw [List.take_length] at gr
                    (try simp only [wk, wl, Then, Blk, pickV, Nat.reduceLT, Nat.reduceEqDiff, Nat.reduceBEq, reduceIte, isConst, nilCheckV, extractV, wantJ, nth])
                    ((repeat refine WC.seq ?_); refine WC.run ?_)
                    (try simp only [wk, wl, Then, Blk, pickV, Nat.reduceLT, Nat.reduceEqDiff, Nat.reduceBEq, reduceIte, isConst, nilCheckV, extractV, wantJ, nth, t1, t10, fa25_4, Nat.zero_add, C1.at ty23 rfl, co1.mem.sl.lenB ty23 rfl])
                    rw [hlen]
                    have hlr := regB_length c.regs
                    refine (put_ok (k := 2) gr.buf gr.low (by omega) (by simp; omega)).mono fun s14 h14 g14 => ?_
                    have gr := gr.trans g14
                    rw [U_nat (show c.mem.length < 18446744073709551616 by omega)] at gr
                    have gr : GrewB g h7 (.slice hh.next 0 4 (.lit 4)) h14 s14 (pre2 c) := gr
                    clear C1
                    have C1 := B4.fix gr.fix (out _ (by omega))
                    have lp2 := pre2_length c
                    (try simp only [wk, wl, Then, Blk, pickV, Nat.reduceLT, Nat.reduceEqDiff, Nat.reduceBEq, reduceIte, isConst, nilCheckV, extractV, wantJ, nth])
                    ((repeat refine WC.seq ?_); refine WC.run ?_)
                    (try simp only [wk, wl, Then, Blk, pickV, Nat.reduceLT, Nat.reduceEqDiff, Nat.reduceBEq, reduceIte, isConst, nilCheckV, extractV, wantJ, nth, t1, fa25_4, Nat.zero_add, C1.at ty23 rfl, co1.mem.sl.lenB ty23 rfl])
                    (repeat refine WC.seq ?_)
                    refine WC.block ?_
                    refine WC.while (fun m fr hm => ∃ ts i s, fr = ⟨ts, 149, [], 9, none⟩ ∧ GrewB g h7 (.slice hh.next 0 4 (.lit 4)) hm s (pre2 c ++ memB (c.mem.take i)) ∧ m = L.length - i ∧ i ≤ L.length ∧ ts.get 1 = some (.ptr h.next 0) ∧ ts.get 10 = some s ∧ ts.get 127 = some mv ∧ ts.get 128 = some (.int .i64 L.length) ∧ ts.get 129 = some (.int .i64 i)) ?_ ⟨_, 0, s14, rfl, ?_, rfl, by omega, ?_, ?_, ?_, ?_, ?_⟩
                    · rintro m fr hm ⟨ts, i, s, rfl, gr, rfl, hi, t1, t10, t127, t128, t129⟩
                      ((repeat refine WC.seq ?_); refine WC.run ?_)
                      (try simp only [wk, wl, Then, Blk, pickV, Nat.reduceLT, Nat.reduceEqDiff, Nat.reduceBEq, reduceIte, isConst, nilCheckV, extractV, wantJ, nth, t128, t129])
                      (repeat refine WC.seq ?_)
                      have hml : (memB (c.mem.take i)).length ≤ 65548 * 1000 := by
                        refine Nat.le_trans (memB_length _ fun m hm => hdat m (List.mem_of_mem_take hm)) ?_
                        refine Nat.mul_le_mul_left _ ?_
                        simp; omega
                      by_cases hlt : i < L.length
                      · refine WC.cond (b := true) (by (try simp only [wk, wl, Then, Blk, pickV, Nat.reduceLT, Nat.reduceEqDiff, Nat.reduceBEq, reduceIte, isConst, nilCheckV, extractV, wantJ, nth]); (try simp); (try omega)) (WC.skip ?_)
                        (try simp only [wk, wl, Then, Blk, pickV, Nat.reduceLT, Nat.reduceEqDiff, Nat.reduceBEq, reduceIte, isConst, nilCheckV, extractV, wantJ, nth])
                        have ms7 : Ms g hm mv L := co7.mem.fix (co7.inM.sub fun b hb => out b (by omega)) (fun p hp => (co7.inL p hp).sub fun b hb => out b (by omega)) gr.fix
                        obtain ⟨p, p1', p2'⟩ := ms7.at ty23 rfl ty46 rfl rfl hlt
                        have p2' := p2' hm fun _ _ _ _ _ => rfl
                        have hmem := List.getElem_mem hlt
                        have hd := ms7.dat _ hmem
                        have hmi : c.mem[i]'(by omega) = (L[i]).1 := by
                          have : (L.map (·.1))[i]'(by simpa using hlt) = (L[i]).1 := by simp
                          rw [← this]; congr 1; exact co.mems.symm
                        have hdl : (L[i]).1.data.length ≤ 65536 := by rw [← hmi]; exact hdat _ (List.getElem_mem _)
                        have dat' : ∀ {h' : H} {s' : V} {n : Nat} {vs : List V}, Grew (E g) 5 1 h7 (.slice hh.next 0 4 (.lit 4)) h' s' n vs → Bs g h' (L[i]).2 (L[i]).1.data := fun gr => Sl.fix (co7.mem.dat _ hmem) ((co7.inL _ hmem).sub fun b hb => out b (by omega)) gr.fix
                        (repeat refine WC.seq ?_)
                        refine WC.block ?_
                        ((repeat refine WC.seq ?_); refine WC.run ?_)
                        (try simp only [wk, wl, Then, Blk, pickV, Nat.reduceLT, Nat.reduceEqDiff, Nat.reduceBEq, reduceIte, isConst, nilCheckV, extractV, wantJ, nth, t127, t129, p1', p2'])
                        refine wop_alloc ty46 ?_
                        intro h15 b15 n15 f15
                        (try simp only [wk, wl, Then, Blk, pickV, Nat.reduceLT, Nat.reduceEqDiff, Nat.reduceBEq, reduceIte, isConst, nilCheckV, extractV, wantJ, nth])
                        refine sat_store b15 ty46 rfl (by decide) (by
                          have := Sl.len hd
                          generalize (L[i]).2 = d at this ⊢
                          unfold lenV at this
                          split at this <;> first | rfl | cases this) ?_
                        intro h16 b16 n16 f16
                        have b16 : Has h16 hm.next [i64 (L[i]).1.addr, (L[i]).2] := b16
                        have hadr : loadP (E g) h16 2 (.ptr hm.next 0) = some (.int .i64 (L[i]).1.addr) := b16.at ty2 rfl 0
                        have F : Kept hm h16 := ⟨by omega, fun c hc => by rw [f16.same c (by omega), f15.same c hc]⟩
                        have low0 := gr.low
                        have gr := gr.keep F
                        (try simp only [wk, wl, Then, Blk, pickV, Nat.reduceLT, Nat.reduceEqDiff, Nat.reduceBEq, reduceIte, isConst, nilCheckV, extractV, wantJ, nth])
                        ((repeat refine WC.seq ?_); refine WC.draw (plans := pl9_36) (by kernel_rfl) ?_; simp only [pl9_36, List.mem_cons, List.not_mem_nil, or_false, forall_eq_or_imp, forall_eq])
                        (try simp only [wk, wl, Then, Blk, pickV, Nat.reduceLT, Nat.reduceEqDiff, Nat.reduceBEq, reduceIte, isConst, nilCheckV, extractV, wantJ, nth, wd, Chk, and_true, true_and, t10, fa46_0, fa46_1, Nat.zero_add, hadr, b16.at ty26 rfl, (dat' gr).len])
                        refine (put_ok (k := 8) gr.buf gr.low (by omega) (by simp; omega)).mono fun s17 h17 g17 => ?_
                        have gr := gr.trans g17
                        have b17 := b16.fix g17.fix ⟨by omega, fun o m cc e => by have := low0 _ _ _ _ e; omega⟩
                        have hadr : loadP (E g) h17 2 (.ptr hm.next 0) = some (.int .i64 (L[i]).1.addr) := b17.at ty2 rfl 0
                        have x17 := g17.fix.next
                        have low17 := gr.low
                        have ne17 : ∀ o m cc, s17 ≠ .slice hm.next o m cc := fun o m cc e => by
                          rcases g17.own _ _ _ _ e with q | ⟨o, k, c, q⟩
                          · omega
                          · have := low0 _ _ _ _ q; omega
                        (try simp only [wk, wl, Then, Blk, pickV, Nat.reduceLT, Nat.reduceEqDiff, Nat.reduceBEq, reduceIte, isConst, nilCheckV, extractV, wantJ, nth, wd, Chk, and_true, true_and, t10, fa46_0, fa46_1, Nat.zero_add, hadr, b17.at ty26 rfl, (dat' gr).len])
                        refine (put_ok (k := 4) gr.buf gr.low (by omega) (by simp [leB_length]; omega)).mono fun s18 h18 g18 => ?_
                        have gr := gr.trans g18
                        have b18 := b17.fix g18.fix ⟨by omega, ne17⟩
                        have hadr : loadP (E g) h18 2 (.ptr hm.next 0) = some (.int .i64 (L[i]).1.addr) := b18.at ty2 rfl 0
                        (try simp only [wk, wl, Then, Blk, pickV, Nat.reduceLT, Nat.reduceEqDiff, Nat.reduceBEq, reduceIte, isConst, nilCheckV, extractV, wantJ, nth, wd, Chk, and_true, true_and, t10, fa46_0, fa46_1, Nat.zero_add, hadr, b18.at ty26 rfl, (dat' gr).len])
                        rw [U_nat (show (L[i]).1.data.length < 18446744073709551616 by omega)] at gr
                        refine app_ok (ys := (L[i]).1.data) gr ty26 (.inl ⟨_, rfl⟩) (Sl.len (dat' gr)) (dat' gr).cells (by simp [leB_length]; omega) ?_
                        intro s19 h19 gr ff19
                        have emem : memB (c.mem.take (i + 1)) = memB (c.mem.take i) ++ (leB (U (L[i]).1.addr) 8 ++ leB (L[i]).1.data.length 4 ++ (L[i]).1.data) := by rw [memB_take (show i < c.mem.length by omega), hmi]
                        have b19 := b18.fix ff19 ⟨by have := g18.fix.next; omega, fun o m cc e => by
                          rcases g18.own _ _ _ _ e with q | ⟨o, k, c, q⟩
                          · omega
                          · exact ne17 _ _ _ q⟩
                        have hadr : loadP (E g) h19 2 (.ptr hm.next 0) = some (.int .i64 (L[i]).1.addr) := b19.at ty2 rfl 0
                        (try simp only [wk, wl, Then, Blk, pickV, Nat.reduceLT, Nat.reduceEqDiff, Nat.reduceBEq, reduceIte, isConst, nilCheckV, extractV, wantJ, nth, wd, Chk, and_true, true_and, t10, fa46_0, fa46_1, Nat.zero_add, hadr, b19.at ty26 rfl, (dat' gr).len])
                        have gr : GrewB g h7 (.slice hh.next 0 4 (.lit 4)) h19 s19 (pre2 c ++ memB (c.mem.take (i + 1))) := by
                          rw [emem]; simpa [List.append_assoc] using gr
                        ((repeat refine WC.seq ?_); refine WC.run ?_)
                        (try simp only [wk, wl, Then, Blk, pickV, Nat.reduceLT, Nat.reduceEqDiff, Nat.reduceBEq, reduceIte, isConst, nilCheckV, extractV, wantJ, nth, t129, bin_add])
                        refine ⟨_, ?_, _, i + 1, s19, rfl, gr, rfl, by omega, ?_⟩
                        · omega
                        (try simp only [wk, wl, Then, Blk, pickV, Nat.reduceLT, Nat.reduceEqDiff, Nat.reduceBEq, reduceIte, isConst, nilCheckV, extractV, wantJ, nth, t1, t127, t128])
                        refine ⟨trivial, trivial, trivial, trivial, ?_⟩
                        rw [wrap64 (by omega) (by omega)]; rfl
                      · refine WC.cond (b := false) (by (try simp only [wk, wl, Then, Blk, pickV, Nat.reduceLT, Nat.reduceEqDiff, Nat.reduceBEq, reduceIte, isConst, nilCheckV, extractV, wantJ, nth]); (try simp); (try omega)) (WC.exit ?_)
                        have : i = L.length := by omega
                        subst this
                        have hle : (c.mem.take L.length) = c.mem := List.take_of_length_le (by omega)
                        rw [hle] at gr hml
                        have gr : GrewB g h7 (.slice hh.next 0 4 (.lit 4)) hm s (dumpBody c) := gr
                        have hbl : (dumpBody c).length ≤ 2 ^ 38 := by unfold dumpBody; simp; omega
                        (try simp only [wk, wl, Then, Blk, pickV, Nat.reduceLT, Nat.reduceEqDiff, Nat.reduceBEq, reduceIte, isConst, nilCheckV, extractV, wantJ, nth])
                        ((repeat refine WC.seq ?_); refine WC.run ?_)
                        (try simp only [wk, wl, Then, Blk, pickV, Nat.reduceLT, Nat.reduceEqDiff, Nat.reduceBEq, reduceIte, isConst, nilCheckV, extractV, wantJ, nth, t10])
                        refine (rsum_ok gr.buf.sl (by omega)).mono fun v18 h18 ⟨e18, e18'⟩ => ?_
                        subst e18 e18'
                        (try simp only [wk, wl, Then, Blk, pickV, Nat.reduceLT, Nat.reduceEqDiff, Nat.reduceBEq, reduceIte, isConst, nilCheckV, extractV, wantJ, nth, t10])
                        refine (put_ok (k := 4) gr.buf gr.low (by omega) (by omega)).mono fun s19 h19 g19 => ?_
                        have gr := gr.trans g19
                        rw [U_nat (show sumN (dumpBody c) % 4294967296 < 18446744073709551616 by omega)] at gr
                        (try simp only [wk, wl, Then, Blk, pickV, Nat.reduceLT, Nat.reduceEqDiff, Nat.reduceBEq, reduceIte, isConst, nilCheckV, extractV, wantJ, nth])
                        (repeat refine WC.seq ?_)
                        refine WC.ret ?_
                        (try simp only [wk, wl, Then, Blk, pickV, Nat.reduceLT, Nat.reduceEqDiff, Nat.reduceBEq, reduceIte, isConst, nilCheckV, extractV, wantJ, nth])
                        refine ⟨s19, by rw [hck], ⟨by have := gr.fix.next; omega, fun b hb => ?_⟩, .inr ⟨hck, gr.buf, gr.low, fun b o k cc e => ?_⟩⟩
                        · rw [gr.fix.same b (out b (by omega)), F17.same b (by omega), f1.same b hb]
                        · rcases gr.own _ _ _ _ e with q | ⟨o, k, c, q⟩
                          · omega
                          · injection q with q; omega
                    · simpa [memB] using gr
                    all_goals (try simp only [wk, wl, Then, Blk, pickV, Nat.reduceLT, Nat.reduceEqDiff, Nat.reduceBEq, reduceIte, isConst, nilCheckV, extractV, wantJ, nth, t1])
                    all_goals (try simp)
                · simpa [regB] using gr
                all_goals (try simp only [wk, wl, Then, Blk, pickV, Nat.reduceLT, Nat.reduceEqDiff, Nat.reduceBEq, reduceIte, isConst, nilCheckV, extractV, wantJ, nth, t1])
                all_goals simp
            all_goals (try simp only [wk, wl, Then, Blk, pickV, Nat.reduceLT, Nat.reduceEqDiff, Nat.reduceBEq, reduceIte, isConst, nilCheckV, extractV, wantJ, nth, t1])
            all_goals simp [co.mems]
        all_goals (try simp only [wk, wl, Then, Blk, pickV, Nat.reduceLT, Nat.reduceEqDiff, Nat.reduceBEq, reduceIte, isConst, nilCheckV, extractV, wantJ, nth])
        all_goals simp [anyBig]
    · rw [if_pos hn] at hE
      refine WC.cond (b := true) (by (try simp only [wk, wl, Then, Blk, pickV, Nat.reduceLT, Nat.reduceEqDiff, Nat.reduceBEq, reduceIte, isConst, nilCheckV, extractV, wantJ, nth, hn]); (try simp); (try omega)) ?_
      ((repeat refine WC.seq ?_); refine WC.run ?_)
      (try simp only [wk, wl, Then, Blk, pickV, Nat.reduceLT, Nat.reduceEqDiff, Nat.reduceBEq, reduceIte, isConst, nilCheckV, extractV, wantJ, nth])
      refine WC.ret ?_
      (try simp only [wk, wl, Then, Blk, pickV, Nat.reduceLT, Nat.reduceEqDiff, Nat.reduceBEq, reduceIte, isConst, nilCheckV, extractV, wantJ, nth])
      exact ⟨.nils, by rw [hE], f1, .inl ⟨by rw [hE]; exact hn, rfl⟩⟩
end Go.Proofs.ZP
