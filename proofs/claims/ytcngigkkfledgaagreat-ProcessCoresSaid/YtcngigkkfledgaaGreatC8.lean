/- Walks: check. -/
import Derived.Test.YtcngigkkfledgaaGreatC7
set_option linter.unusedVariables false
set_option linter.unusedSimpArgs false
set_option linter.defProp false
set_option linter.unusedSimpArgs false
namespace Go.Proofs.ZP
open Go Go.Ev
open Go.Proofs
variable {g : T (List V)}

/-- check$1 -/
theorem big_ok {h : H} {a : Int} {d : V} {xs : List UInt8} (hd : Bs g h d xs) : WF (E g) 55 [.agg [i64 a, d]] h fun v h' => v = .bool (decide ((65536 : Int) < xs.length)) ∧ Kept h h' := by
  refine WF.enter fn55 rfl ?_
  ((repeat refine WC.seq ?_); refine WC.run ?_)
  (try simp only [wk, wl, Then, Blk, pickV, Nat.reduceLT, Nat.reduceEqDiff, Nat.reduceBEq, reduceIte, isConst, nilCheckV, extractV, wantJ, nth])
  refine wop_box (v := .agg [i64 a, d]) (by (try simp only [wk, wl, Then, Blk, pickV, Nat.reduceLT, Nat.reduceEqDiff, Nat.reduceBEq, reduceIte, isConst, nilCheckV, extractV, wantJ, nth])) ?_
  intro h1 b1 n1 f1
  (try simp only [wk, wl, Then, Blk, pickV, Nat.reduceLT, Nat.reduceEqDiff, Nat.reduceBEq, reduceIte, isConst, nilCheckV, extractV, wantJ, nth])
  have b1 : Has h1 h.next [i64 a, d] := b1
  ((repeat refine WC.seq ?_); refine WC.run ?_)
  (try simp only [wk, wl, Then, Blk, pickV, Nat.reduceLT, Nat.reduceEqDiff, Nat.reduceBEq, reduceIte, isConst, nilCheckV, extractV, wantJ, nth, fa75_1, Nat.zero_add, b1.at ty26 rfl, hd.len])
  (repeat refine WC.seq ?_)
  refine WC.ret ?_
  (try simp only [wk, wl, Then, Blk, pickV, Nat.reduceLT, Nat.reduceEqDiff, Nat.reduceBEq, reduceIte, isConst, nilCheckV, extractV, wantJ, nth])
  exact ⟨by trivial, f1⟩

def anyBig (ms : List Mem) : Bool := ms.any fun m => decide ((65536 : Int) < m.data.length)

/-- slices.IndexFunc over check$1 -/
theorem index_ok {h : H} {s : V} {L : List (Mem × V)} (a : Ms g h s L) (hs : In (· < h.next) s) (hL : ∀ p ∈ L, In (· < h.next) p.2) (hM : L.length < 2 ^ 62) :
    WF (E g) 74 [s, .func 55 [] []] h fun v h' => (∃ k : Int, v = .int .i64 k ∧ (decide (0 ≤ k)) = anyBig (L.map (·.1))) ∧ Kept h h' := by
  refine WF.enter fn74 rfl ?_
  ((repeat refine WC.seq ?_); refine WC.run ?_)
  (try simp only [wk, wl, Then, Blk, pickV, Nat.reduceLT, Nat.reduceEqDiff, Nat.reduceBEq, reduceIte, isConst, nilCheckV, extractV, wantJ, nth])
  ((repeat refine WC.seq ?_); refine WC.run ?_)
  (try simp only [wk, wl, Then, Blk, pickV, Nat.reduceLT, Nat.reduceEqDiff, Nat.reduceBEq, reduceIte, isConst, nilCheckV, extractV, wantJ, nth, a.sl.lenB ty32 rfl])
  (repeat refine WC.seq ?_)
  refine WC.block ?_
  refine WC.while (fun m fr hh => ∃ ts i, fr = ⟨ts, 19, [], 74, none⟩ ∧ Kept h hh ∧ m = L.length - i ∧ i ≤ L.length ∧ ts.get 0 = some s ∧ ts.get 1 = some (.func 55 [] []) ∧ ts.get 7 = some (.int .i64 L.length) ∧ ts.get 8 = some (.int .i64 i) ∧ anyBig ((L.take i).map (·.1)) = false) ?_ ⟨_, 0, rfl, Fix.refl _ _, rfl, by omega, ?_, ?_, ?_, ?_, ?_⟩
  · rintro m fr hh ⟨ts, i, rfl, ff, rfl, hi, t0, t1, t7, t8, hno⟩
    ((repeat refine WC.seq ?_); refine WC.run ?_)
    (try simp only [wk, wl, Then, Blk, pickV, Nat.reduceLT, Nat.reduceEqDiff, Nat.reduceBEq, reduceIte, isConst, nilCheckV, extractV, wantJ, nth, t7, t8])
    (repeat refine WC.seq ?_)
    by_cases hlt : i < L.length
    · refine WC.cond (b := true) (by (try simp only [wk, wl, Then, Blk, pickV, Nat.reduceLT, Nat.reduceEqDiff, Nat.reduceBEq, reduceIte, isConst, nilCheckV, extractV, wantJ, nth]); (try simp); (try omega)) (WC.skip ?_)
      (try simp only [wk, wl, Then, Blk, pickV, Nat.reduceLT, Nat.reduceEqDiff, Nat.reduceBEq, reduceIte, isConst, nilCheckV, extractV, wantJ, nth])
      obtain ⟨p, p1, p2⟩ := a.at ty32 rfl ty75 rfl rfl hlt
      have p2 := p2 hh fun b o m c e => ff.same b (hs _ _ _ _ e)
      have hmem := List.getElem_mem hlt
      (repeat refine WC.seq ?_)
      refine WC.block ?_
      ((repeat refine WC.seq ?_); refine WC.run ?_)
      (try simp only [wk, wl, Then, Blk, pickV, Nat.reduceLT, Nat.reduceEqDiff, Nat.reduceBEq, reduceIte, isConst, nilCheckV, extractV, wantJ, nth, t8])
      ((repeat refine WC.seq ?_); refine WC.run ?_)
      (try simp only [wk, wl, Then, Blk, pickV, Nat.reduceLT, Nat.reduceEqDiff, Nat.reduceBEq, reduceIte, isConst, nilCheckV, extractV, wantJ, nth, t0, t1, p1, p2])
      refine (big_ok (Sl.fix (a.dat _ hmem) (hL _ hmem) ff)).mono fun v h2 ⟨e2, f2⟩ => ?_
      subst e2
      (try simp only [wk, wl, Then, Blk, pickV, Nat.reduceLT, Nat.reduceEqDiff, Nat.reduceBEq, reduceIte, isConst, nilCheckV, extractV, wantJ, nth])
      (repeat refine WC.seq ?_)
      by_cases hb : (65536 : Int) < (L[i]).1.data.length
      · refine WC.cond (b := true) (by (try simp only [wk, wl, Then, Blk, pickV, Nat.reduceLT, Nat.reduceEqDiff, Nat.reduceBEq, reduceIte, isConst, nilCheckV, extractV, wantJ, nth]); (try simp); (try omega)) ?_
        ((repeat refine WC.seq ?_); refine WC.run ?_)
        (try simp only [wk, wl, Then, Blk, pickV, Nat.reduceLT, Nat.reduceEqDiff, Nat.reduceBEq, reduceIte, isConst, nilCheckV, extractV, wantJ, nth])
        refine WC.ret ?_
        (try simp only [wk, wl, Then, Blk, pickV, Nat.reduceLT, Nat.reduceEqDiff, Nat.reduceBEq, reduceIte, isConst, nilCheckV, extractV, wantJ, nth])
        refine ⟨⟨_, rfl, ?_⟩, ff.trans (f2.sub fun x hx => Nat.lt_of_lt_of_le hx ff.next)⟩
        have : anyBig (L.map (·.1)) = true := by
          unfold anyBig
          rw [List.any_eq_true]
          exact ⟨(L[i]).1, List.mem_map.2 ⟨_, hmem, rfl⟩, by simpa using hb⟩
        rw [this]; simp
      · refine WC.cond (b := false) (by (try simp only [wk, wl, Then, Blk, pickV, Nat.reduceLT, Nat.reduceEqDiff, Nat.reduceBEq, reduceIte, isConst, nilCheckV, extractV, wantJ, nth]); (try simp); (try omega)) (WC.skip ?_)
        (try simp only [wk, wl, Then, Blk, pickV, Nat.reduceLT, Nat.reduceEqDiff, Nat.reduceBEq, reduceIte, isConst, nilCheckV, extractV, wantJ, nth])
        ((repeat refine WC.seq ?_); refine WC.run ?_)
        (try simp only [wk, wl, Then, Blk, pickV, Nat.reduceLT, Nat.reduceEqDiff, Nat.reduceBEq, reduceIte, isConst, nilCheckV, extractV, wantJ, nth, t8, bin_add])
        refine ⟨_, ?_, _, i + 1, rfl, ff.trans (f2.sub fun x hx => Nat.lt_of_lt_of_le hx ff.next), rfl, by omega, ?_⟩
        · omega
        (try simp only [wk, wl, Then, Blk, pickV, Nat.reduceLT, Nat.reduceEqDiff, Nat.reduceBEq, reduceIte, isConst, nilCheckV, extractV, wantJ, nth, t0, t1, t7])
        refine ⟨trivial, trivial, trivial, ?_, ?_⟩
        · rw [wrap64 (by omega) (by omega)]; rfl
        · rw [List.take_succ_eq_append_getElem hlt, List.map_append]
          unfold anyBig at hno ⊢
          rw [List.any_append, hno]
          simp only [List.map_cons, List.map_nil, List.any_cons, List.any_nil, Bool.or_false, Bool.false_or]
          exact decide_eq_false hb
    · refine WC.cond (b := false) (by (try simp only [wk, wl, Then, Blk, pickV, Nat.reduceLT, Nat.reduceEqDiff, Nat.reduceBEq, reduceIte, isConst, nilCheckV, extractV, wantJ, nth]); (try simp); (try omega)) (WC.exit ?_)
      have : i = L.length := by omega
      subst this
      (try simp only [wk, wl, Then, Blk, pickV, Nat.reduceLT, Nat.reduceEqDiff, Nat.reduceBEq, reduceIte, isConst, nilCheckV, extractV, wantJ, nth])
      ((repeat refine WC.seq ?_); refine WC.run ?_)
      (try simp only [wk, wl, Then, Blk, pickV, Nat.reduceLT, Nat.reduceEqDiff, Nat.reduceBEq, reduceIte, isConst, nilCheckV, extractV, wantJ, nth])
      rw [List.take_length] at hno
      refine WC.ret ?_
      (try simp only [wk, wl, Then, Blk, pickV, Nat.reduceLT, Nat.reduceEqDiff, Nat.reduceBEq, reduceIte, isConst, nilCheckV, extractV, wantJ, nth])
      exact ⟨⟨_, rfl, by rw [hno]; rfl⟩, ff⟩
  all_goals (try simp only [wk, wl, Then, Blk, pickV, Nat.reduceLT, Nat.reduceEqDiff, Nat.reduceBEq, reduceIte, isConst, nilCheckV, extractV, wantJ, nth])
  all_goals simp [anyBig]
/-- slices.ContainsFunc over check$1 -/
theorem contains_ok {h : H} {s : V} {L : List (Mem × V)} (a : Ms g h s L) (hs : In (· < h.next) s) (hL : ∀ p ∈ L, In (· < h.next) p.2) (hM : L.length < 2 ^ 62) :
    WF (E g) 54 [s, .func 55 [] []] h fun v h' => v = .bool (anyBig (L.map (·.1))) ∧ Kept h h' := by
  refine WF.enter fn54 rfl ?_
  ((repeat refine WC.seq ?_); refine WC.run ?_)
  (try simp only [wk, wl, Then, Blk, pickV, Nat.reduceLT, Nat.reduceEqDiff, Nat.reduceBEq, reduceIte, isConst, nilCheckV, extractV, wantJ, nth])
  ((repeat refine WC.seq ?_); refine WC.run ?_)
  (try simp only [wk, wl, Then, Blk, pickV, Nat.reduceLT, Nat.reduceEqDiff, Nat.reduceBEq, reduceIte, isConst, nilCheckV, extractV, wantJ, nth])
  refine (index_ok a hs hL hM).mono fun v h1 ⟨⟨k, e, hk⟩, f1⟩ => ?_
  subst e
  (try simp only [wk, wl, Then, Blk, pickV, Nat.reduceLT, Nat.reduceEqDiff, Nat.reduceBEq, reduceIte, isConst, nilCheckV, extractV, wantJ, nth])
  (repeat refine WC.seq ?_)
  refine WC.ret ?_
  (try simp only [wk, wl, Then, Blk, pickV, Nat.reduceLT, Nat.reduceEqDiff, Nat.reduceBEq, reduceIte, isConst, nilCheckV, extractV, wantJ, nth])
  exact ⟨by rw [hk], f1⟩

/-- In order, from an end on. -/
def orderE : Int → List Mem → Int
  | _, [] => 0
  | e, m :: r => if m.addr < e then 30 else orderE (if m.addr ≤ 9223372036854775807 - m.data.length then m.addr + m.data.length else 9223372036854775807) r
/-- What is wrong with a core. -/
def checkE (c : CoreD) : Int :=
  if c.pid < 0 ∨ c.pid > 1073741824 ∨ c.sig < 0 ∨ c.sig > 1073741824 then 34
  else if nameE c.name ≠ 0 then nameE c.name
  else if c.regs.length > 64 ∨ c.mem.length > 1000 ∨ anyBig c.mem = true then 18
  else orderE 0 c.mem

/-- (Core).check -/
theorem check_ok {h : H} {v : V} {c : CoreD} {rv mv : V} {L : List (Mem × V)} (co : Co g h (· < h.next) v c rv mv L) (hM : L.length < 2 ^ 40) (hR : c.regs.length < 2 ^ 40) : WF (E g) 19 [v] h fun v h' => v = .int .i64 (checkE c) ∧ Kept h h' := by
  have hlen := co.len
  refine WF.enter fn19 rfl ?_
  ((repeat refine WC.seq ?_); refine WC.run ?_)
  (try simp only [wk, wl, Then, Blk, pickV, Nat.reduceLT, Nat.reduceEqDiff, Nat.reduceBEq, reduceIte, isConst, nilCheckV, extractV, wantJ, nth])
  refine wop_box (v := v) (by (try simp only [wk, wl, Then, Blk, pickV, Nat.reduceLT, Nat.reduceEqDiff, Nat.reduceBEq, reduceIte, isConst, nilCheckV, extractV, wantJ, nth])) ?_
  rw [co.val]
  intro h1 b1 n1 f1
  (try simp only [wk, wl, Then, Blk, pickV, Nat.reduceLT, Nat.reduceEqDiff, Nat.reduceBEq, reduceIte, isConst, nilCheckV, extractV, wantJ, nth])
  have b1 : Has h1 h.next [i64 c.pid, i64 c.sig, .str c.name, rv, mv] := b1
  have co1 := co.fix f1 (fun _ h => h)
  have hpid : loadP (E g) h1 3 (.ptr h.next 0) = some (.int .i64 c.pid) := b1.at ty3 rfl 0
  have hsig : loadP (E g) h1 3 (.ptr h.next 1) = some (.int .i64 c.sig) := b1.at ty3 rfl 1
  ((repeat refine WC.seq ?_); refine WC.run ?_)
  -- the numbers
  have range : (c.pid < 0 ∨ c.pid > 1073741824 ∨ c.sig < 0 ∨ c.sig > 1073741824) ∨ (¬ c.pid < 0 ∧ ¬ (1073741824 : Int) < c.pid ∧ ¬ c.sig < 0 ∧ ¬ (1073741824 : Int) < c.sig) := by omega
  rcases range with hr | ⟨r1, r2, r3, r4⟩
  · have fin : ∀ {Q : Prop}, Q → Q := fun h => h
    have hE : checkE c = 34 := by unfold checkE; rw [if_pos hr]
    rw [hE]
    by_cases r1 : c.pid < 0
    · (try simp only [wk, wl, Then, Blk, pickV, Nat.reduceLT, Nat.reduceEqDiff, Nat.reduceBEq, reduceIte, isConst, nilCheckV, extractV, wantJ, nth, fa34_0, fa34_1, Nat.zero_add, hpid, hsig, decide_eq_true r1])
      (repeat refine WC.seq ?_)
      refine WC.cond (b := true) (by (try simp only [wk, wl, Then, Blk, pickV, Nat.reduceLT, Nat.reduceEqDiff, Nat.reduceBEq, reduceIte, isConst, nilCheckV, extractV, wantJ, nth]); (try simp); (try omega)) ?_
      ((repeat refine WC.seq ?_); refine WC.run ?_)
      (try simp only [wk, wl, Then, Blk, pickV, Nat.reduceLT, Nat.reduceEqDiff, Nat.reduceBEq, reduceIte, isConst, nilCheckV, extractV, wantJ, nth])
      refine WC.ret ?_
      (try simp only [wk, wl, Then, Blk, pickV, Nat.reduceLT, Nat.reduceEqDiff, Nat.reduceBEq, reduceIte, isConst, nilCheckV, extractV, wantJ, nth])
      exact ⟨by trivial, f1⟩
    · by_cases r2 : (1073741824 : Int) < c.pid
      · (try simp only [wk, wl, Then, Blk, pickV, Nat.reduceLT, Nat.reduceEqDiff, Nat.reduceBEq, reduceIte, isConst, nilCheckV, extractV, wantJ, nth, fa34_0, fa34_1, Nat.zero_add, hpid, hsig, decide_eq_false r1, decide_eq_true r2])
        (repeat refine WC.seq ?_)
        refine WC.cond (b := true) (by (try simp only [wk, wl, Then, Blk, pickV, Nat.reduceLT, Nat.reduceEqDiff, Nat.reduceBEq, reduceIte, isConst, nilCheckV, extractV, wantJ, nth]); (try simp); (try omega)) ?_
        ((repeat refine WC.seq ?_); refine WC.run ?_)
        (try simp only [wk, wl, Then, Blk, pickV, Nat.reduceLT, Nat.reduceEqDiff, Nat.reduceBEq, reduceIte, isConst, nilCheckV, extractV, wantJ, nth])
        refine WC.ret ?_
        (try simp only [wk, wl, Then, Blk, pickV, Nat.reduceLT, Nat.reduceEqDiff, Nat.reduceBEq, reduceIte, isConst, nilCheckV, extractV, wantJ, nth])
        exact ⟨by trivial, f1⟩
      · by_cases r3 : c.sig < 0
        · (try simp only [wk, wl, Then, Blk, pickV, Nat.reduceLT, Nat.reduceEqDiff, Nat.reduceBEq, reduceIte, isConst, nilCheckV, extractV, wantJ, nth, fa34_0, fa34_1, Nat.zero_add, hpid, hsig, decide_eq_false r1, decide_eq_false r2, decide_eq_true r3])
          (repeat refine WC.seq ?_)
          refine WC.cond (b := true) (by (try simp only [wk, wl, Then, Blk, pickV, Nat.reduceLT, Nat.reduceEqDiff, Nat.reduceBEq, reduceIte, isConst, nilCheckV, extractV, wantJ, nth]); (try simp); (try omega)) ?_
          ((repeat refine WC.seq ?_); refine WC.run ?_)
          (try simp only [wk, wl, Then, Blk, pickV, Nat.reduceLT, Nat.reduceEqDiff, Nat.reduceBEq, reduceIte, isConst, nilCheckV, extractV, wantJ, nth])
          refine WC.ret ?_
          (try simp only [wk, wl, Then, Blk, pickV, Nat.reduceLT, Nat.reduceEqDiff, Nat.reduceBEq, reduceIte, isConst, nilCheckV, extractV, wantJ, nth])
          exact ⟨by trivial, f1⟩
        · have r4 : (1073741824 : Int) < c.sig := by omega
          (try simp only [wk, wl, Then, Blk, pickV, Nat.reduceLT, Nat.reduceEqDiff, Nat.reduceBEq, reduceIte, isConst, nilCheckV, extractV, wantJ, nth, fa34_0, fa34_1, Nat.zero_add, hpid, hsig, decide_eq_false r1, decide_eq_false r2, decide_eq_false r3, decide_eq_true r4])
          (repeat refine WC.seq ?_)
          refine WC.cond (b := true) (by (try simp only [wk, wl, Then, Blk, pickV, Nat.reduceLT, Nat.reduceEqDiff, Nat.reduceBEq, reduceIte, isConst, nilCheckV, extractV, wantJ, nth]); (try simp); (try omega)) ?_
          ((repeat refine WC.seq ?_); refine WC.run ?_)
          (try simp only [wk, wl, Then, Blk, pickV, Nat.reduceLT, Nat.reduceEqDiff, Nat.reduceBEq, reduceIte, isConst, nilCheckV, extractV, wantJ, nth])
          refine WC.ret ?_
          (try simp only [wk, wl, Then, Blk, pickV, Nat.reduceLT, Nat.reduceEqDiff, Nat.reduceBEq, reduceIte, isConst, nilCheckV, extractV, wantJ, nth])
          exact ⟨by trivial, f1⟩
  · have hE : checkE c = if nameE c.name ≠ 0 then nameE c.name
        else if c.regs.length > 64 ∨ c.mem.length > 1000 ∨ anyBig c.mem = true then 18
        else orderE 0 c.mem := by unfold checkE; rw [if_neg (by omega)]
    rw [hE]
    (try simp only [wk, wl, Then, Blk, pickV, Nat.reduceLT, Nat.reduceEqDiff, Nat.reduceBEq, reduceIte, isConst, nilCheckV, extractV, wantJ, nth, fa34_0, fa34_1, Nat.zero_add, hpid, hsig, decide_eq_false r1, decide_eq_false r2, decide_eq_false r3, decide_eq_false r4])
    (repeat refine WC.seq ?_)
    refine WC.cond (b := false) (by (try simp only [wk, wl, Then, Blk, pickV, Nat.reduceLT, Nat.reduceEqDiff, Nat.reduceBEq, reduceIte, isConst, nilCheckV, extractV, wantJ, nth]); (try simp); (try omega)) (WC.skip ?_)
    (try simp only [wk, wl, Then, Blk, pickV, Nat.reduceLT, Nat.reduceEqDiff, Nat.reduceBEq, reduceIte, isConst, nilCheckV, extractV, wantJ, nth])
    ((repeat refine WC.seq ?_); refine WC.run ?_)
    (try simp only [wk, wl, Then, Blk, pickV, Nat.reduceLT, Nat.reduceEqDiff, Nat.reduceBEq, reduceIte, isConst, nilCheckV, extractV, wantJ, nth, fa34_2, Nat.zero_add, b1.at ty9 rfl])
    refine named_ok.mono fun v h2 ⟨e2, e2'⟩ => ?_
    subst e2 e2'
    (try simp only [wk, wl, Then, Blk, pickV, Nat.reduceLT, Nat.reduceEqDiff, Nat.reduceBEq, reduceIte, isConst, nilCheckV, extractV, wantJ, nth])
    ((repeat refine WC.seq ?_); refine WC.run ?_)
    (try simp only [wk, wl, Then, Blk, pickV, Nat.reduceLT, Nat.reduceEqDiff, Nat.reduceBEq, reduceIte, isConst, nilCheckV, extractV, wantJ, nth])
    (repeat refine WC.seq ?_)
    by_cases hn : nameE c.name = 0
    · rw [if_neg (by simp [hn])]
      refine WC.cond (b := false) (by (try simp only [wk, wl, Then, Blk, pickV, Nat.reduceLT, Nat.reduceEqDiff, Nat.reduceBEq, reduceIte, isConst, nilCheckV, extractV, wantJ, nth, hn]); (try simp); (try omega)) (WC.skip ?_)
      (try simp only [wk, wl, Then, Blk, pickV, Nat.reduceLT, Nat.reduceEqDiff, Nat.reduceBEq, reduceIte, isConst, nilCheckV, extractV, wantJ, nth])
      ((repeat refine WC.seq ?_); refine WC.run ?_)
      -- the limits
      by_cases l1 : (64 : Int) < c.regs.length
      · rw [if_pos (by omega)]
        (try simp only [wk, wl, Then, Blk, pickV, Nat.reduceLT, Nat.reduceEqDiff, Nat.reduceBEq, reduceIte, isConst, nilCheckV, extractV, wantJ, nth, fa34_3, fa34_4, Nat.zero_add, b1.at ty22 rfl, b1.at ty32 rfl, co1.regs.len, co1.mem.sl.lenB ty32 rfl, decide_eq_true l1])
        (repeat refine WC.seq ?_)
        refine WC.cond (b := true) (by (try simp only [wk, wl, Then, Blk, pickV, Nat.reduceLT, Nat.reduceEqDiff, Nat.reduceBEq, reduceIte, isConst, nilCheckV, extractV, wantJ, nth]); (try simp); (try omega)) ?_
        ((repeat refine WC.seq ?_); refine WC.run ?_)
        (try simp only [wk, wl, Then, Blk, pickV, Nat.reduceLT, Nat.reduceEqDiff, Nat.reduceBEq, reduceIte, isConst, nilCheckV, extractV, wantJ, nth])
        refine WC.ret ?_
        (try simp only [wk, wl, Then, Blk, pickV, Nat.reduceLT, Nat.reduceEqDiff, Nat.reduceBEq, reduceIte, isConst, nilCheckV, extractV, wantJ, nth])
        exact ⟨by trivial, f1⟩
      · by_cases l2 : (1000 : Int) < L.length
        · rw [if_pos (by omega)]
          (try simp only [wk, wl, Then, Blk, pickV, Nat.reduceLT, Nat.reduceEqDiff, Nat.reduceBEq, reduceIte, isConst, nilCheckV, extractV, wantJ, nth, fa34_3, fa34_4, Nat.zero_add, b1.at ty22 rfl, b1.at ty32 rfl, co1.regs.len, co1.mem.sl.lenB ty32 rfl, decide_eq_false l1, decide_eq_true l2])
          (repeat refine WC.seq ?_)
          refine WC.cond (b := true) (by (try simp only [wk, wl, Then, Blk, pickV, Nat.reduceLT, Nat.reduceEqDiff, Nat.reduceBEq, reduceIte, isConst, nilCheckV, extractV, wantJ, nth]); (try simp); (try omega)) ?_
          ((repeat refine WC.seq ?_); refine WC.run ?_)
          (try simp only [wk, wl, Then, Blk, pickV, Nat.reduceLT, Nat.reduceEqDiff, Nat.reduceBEq, reduceIte, isConst, nilCheckV, extractV, wantJ, nth])
          refine WC.ret ?_
          (try simp only [wk, wl, Then, Blk, pickV, Nat.reduceLT, Nat.reduceEqDiff, Nat.reduceBEq, reduceIte, isConst, nilCheckV, extractV, wantJ, nth])
          exact ⟨by trivial, f1⟩
        · (try simp only [wk, wl, Then, Blk, pickV, Nat.reduceLT, Nat.reduceEqDiff, Nat.reduceBEq, reduceIte, isConst, nilCheckV, extractV, wantJ, nth, fa34_3, fa34_4, Nat.zero_add, b1.at ty22 rfl, b1.at ty32 rfl, co1.regs.len, co1.mem.sl.lenB ty32 rfl, decide_eq_false l1, decide_eq_false l2])
          refine (contains_ok co1.mem (co1.inM.sub fun b hb => by omega) (fun p hp => (co1.inL p hp).sub fun b hb => by omega) (by omega)).mono fun v h3 ⟨e3, f3⟩ => ?_
          subst e3
          rw [co.mems]
          (try simp only [wk, wl, Then, Blk, pickV, Nat.reduceLT, Nat.reduceEqDiff, Nat.reduceBEq, reduceIte, isConst, nilCheckV, extractV, wantJ, nth])
          (repeat refine WC.seq ?_)
          have f13 : Kept h h3 := f1.trans (f3.sub fun b hb => by omega)
          cases hb : anyBig c.mem with
          | true =>
            rw [if_pos (by simp)]
            refine WC.cond (b := true) (by (try simp only [wk, wl, Then, Blk, pickV, Nat.reduceLT, Nat.reduceEqDiff, Nat.reduceBEq, reduceIte, isConst, nilCheckV, extractV, wantJ, nth]); (try simp); (try omega)) ?_
            ((repeat refine WC.seq ?_); refine WC.run ?_)
            (try simp only [wk, wl, Then, Blk, pickV, Nat.reduceLT, Nat.reduceEqDiff, Nat.reduceBEq, reduceIte, isConst, nilCheckV, extractV, wantJ, nth])
            refine WC.ret ?_
            (try simp only [wk, wl, Then, Blk, pickV, Nat.reduceLT, Nat.reduceEqDiff, Nat.reduceBEq, reduceIte, isConst, nilCheckV, extractV, wantJ, nth])
            exact ⟨by trivial, f13⟩
          | false =>
            rw [if_neg (by simp; omega)]
            refine WC.cond (b := false) (by (try simp only [wk, wl, Then, Blk, pickV, Nat.reduceLT, Nat.reduceEqDiff, Nat.reduceBEq, reduceIte, isConst, nilCheckV, extractV, wantJ, nth]); (try simp); (try omega)) (WC.skip ?_)
            (try simp only [wk, wl, Then, Blk, pickV, Nat.reduceLT, Nat.reduceEqDiff, Nat.reduceBEq, reduceIte, isConst, nilCheckV, extractV, wantJ, nth])
            have co3 := co1.fix f3 (fun b hb => by omega)
            have b3 := b1.fix f3 (by omega)
            ((repeat refine WC.seq ?_); refine WC.run ?_)
            (try simp only [wk, wl, Then, Blk, pickV, Nat.reduceLT, Nat.reduceEqDiff, Nat.reduceBEq, reduceIte, isConst, nilCheckV, extractV, wantJ, nth])
            ((repeat refine WC.seq ?_); refine WC.run ?_)
            (try simp only [wk, wl, Then, Blk, pickV, Nat.reduceLT, Nat.reduceEqDiff, Nat.reduceBEq, reduceIte, isConst, nilCheckV, extractV, wantJ, nth, fa34_4, Nat.zero_add, b3.at ty32 rfl, co3.mem.sl.lenB ty32 rfl])
            (repeat refine WC.seq ?_)
            refine WC.block ?_
            refine WC.while (fun m fr hh => ∃ ts i e, fr = ⟨ts, 71, [], 19, none⟩ ∧ Fix (· < h3.next) h3 hh ∧ m = L.length - i ∧ i ≤ L.length ∧ ts.get 47 = some mv ∧ ts.get 48 = some (.int .i64 L.length) ∧ ts.get 49 = some (.int .i64 i) ∧ ts.get 4 = some (.int .i64 e) ∧ 0 ≤ e ∧ orderE e ((L.drop i).map (·.1)) = orderE 0 c.mem) ?_ ⟨_, 0, 0, rfl, Fix.refl _ _, rfl, by omega, ?_, ?_, ?_, ?_, Int.le_refl _, ?_⟩
            · rintro m fr hh ⟨ts, i, e, rfl, ff, rfl, hi, t47, t48, t49, t4, he, ho⟩
              ((repeat refine WC.seq ?_); refine WC.run ?_)
              (try simp only [wk, wl, Then, Blk, pickV, Nat.reduceLT, Nat.reduceEqDiff, Nat.reduceBEq, reduceIte, isConst, nilCheckV, extractV, wantJ, nth, t48, t49])
              (repeat refine WC.seq ?_)
              by_cases hlt : i < L.length
              · refine WC.cond (b := true) (by (try simp only [wk, wl, Then, Blk, pickV, Nat.reduceLT, Nat.reduceEqDiff, Nat.reduceBEq, reduceIte, isConst, nilCheckV, extractV, wantJ, nth]); (try simp); (try omega)) (WC.skip ?_)
                (try simp only [wk, wl, Then, Blk, pickV, Nat.reduceLT, Nat.reduceEqDiff, Nat.reduceBEq, reduceIte, isConst, nilCheckV, extractV, wantJ, nth])
                obtain ⟨p, p1, p2⟩ := co3.mem.at ty32 rfl ty75 rfl rfl hlt
                have p2 := p2 hh fun b o m c e => ff.same b (by have := co3.inM _ _ _ _ e; have := f3.next; omega)
                have hmem := List.getElem_mem hlt
                have hd := co3.mem.dat _ hmem
                have hbig : ¬ (65536 : Int) < (L[i]).1.data.length := by
                  intro q
                  have : anyBig c.mem = true := by
                    unfold anyBig
                    rw [List.any_eq_true, ← co.mems]
                    exact ⟨(L[i]).1, List.mem_map.2 ⟨_, hmem, rfl⟩, by simpa using q⟩
                  rw [this] at hb; cases hb
                rw [List.drop_eq_getElem_cons hlt, List.map_cons] at ho
                simp only [orderE] at ho
                (repeat refine WC.seq ?_)
                refine WC.block ?_
                ((repeat refine WC.seq ?_); refine WC.run ?_)
                (try simp only [wk, wl, Then, Blk, pickV, Nat.reduceLT, Nat.reduceEqDiff, Nat.reduceBEq, reduceIte, isConst, nilCheckV, extractV, wantJ, nth, t47, t49, p1, p2])
                refine wop_alloc ty75 ?_
                intro h4 b4 n4 f4
                (try simp only [wk, wl, Then, Blk, pickV, Nat.reduceLT, Nat.reduceEqDiff, Nat.reduceBEq, reduceIte, isConst, nilCheckV, extractV, wantJ, nth])
                refine sat_store b4 ty75 rfl (by decide) (by
                  have := Sl.len hd
                  generalize (L[i]).2 = d at this ⊢
                  unfold lenV at this
                  split at this <;> first | rfl | cases this) ?_
                intro h5 b5 n5 f5
                have b5 : Has h5 hh.next [i64 (L[i]).1.addr, (L[i]).2] := b5
                have hadr : loadP (E g) h5 2 (.ptr hh.next 0) = some (.int .i64 (L[i]).1.addr) := b5.at ty2 rfl 0
                have ff' : Fix (· < h3.next) h3 h5 := ⟨by have := ff.next; omega, fun c hc => by rw [f5.same c (by have := ff.next; omega), f4.same c (by have := ff.next; omega), ff.same c hc]⟩
                (try simp only [wk, wl, Then, Blk, pickV, Nat.reduceLT, Nat.reduceEqDiff, Nat.reduceBEq, reduceIte, isConst, nilCheckV, extractV, wantJ, nth])
                ((repeat refine WC.seq ?_); refine WC.run ?_)
                (try simp only [wk, wl, Then, Blk, pickV, Nat.reduceLT, Nat.reduceEqDiff, Nat.reduceBEq, reduceIte, isConst, nilCheckV, extractV, wantJ, nth, t4, fa75_0, Nat.zero_add, hadr])
                (repeat refine WC.seq ?_)
                by_cases hlow : (L[i]).1.addr < e
                · rw [if_pos hlow] at ho
                  refine WC.cond (b := true) (by (try simp only [wk, wl, Then, Blk, pickV, Nat.reduceLT, Nat.reduceEqDiff, Nat.reduceBEq, reduceIte, isConst, nilCheckV, extractV, wantJ, nth]); (try simp); (try omega)) ?_
                  ((repeat refine WC.seq ?_); refine WC.run ?_)
                  (try simp only [wk, wl, Then, Blk, pickV, Nat.reduceLT, Nat.reduceEqDiff, Nat.reduceBEq, reduceIte, isConst, nilCheckV, extractV, wantJ, nth])
                  refine WC.ret ?_
                  (try simp only [wk, wl, Then, Blk, pickV, Nat.reduceLT, Nat.reduceEqDiff, Nat.reduceBEq, reduceIte, isConst, nilCheckV, extractV, wantJ, nth])
                  exact ⟨by rw [← ho], f13.trans (ff'.sub fun b hb => by have := f3.next; omega)⟩
                · rw [if_neg hlow] at ho
                  refine WC.cond (b := false) (by (try simp only [wk, wl, Then, Blk, pickV, Nat.reduceLT, Nat.reduceEqDiff, Nat.reduceBEq, reduceIte, isConst, nilCheckV, extractV, wantJ, nth]); (try simp); (try omega)) (WC.skip ?_)
                  (try simp only [wk, wl, Then, Blk, pickV, Nat.reduceLT, Nat.reduceEqDiff, Nat.reduceBEq, reduceIte, isConst, nilCheckV, extractV, wantJ, nth])
                  ((repeat refine WC.seq ?_); refine WC.run ?_)
                  (try simp only [wk, wl, Then, Blk, pickV, Nat.reduceLT, Nat.reduceEqDiff, Nat.reduceBEq, reduceIte, isConst, nilCheckV, extractV, wantJ, nth])
                  ((repeat refine WC.seq ?_); refine WC.run ?_)
                  (try simp only [wk, wl, Then, Blk, pickV, Nat.reduceLT, Nat.reduceEqDiff, Nat.reduceBEq, reduceIte, isConst, nilCheckV, extractV, wantJ, nth, fa75_0, fa75_1, Nat.zero_add, hadr, b5.at ty26 rfl, hd.len, bin_sub])
                  rw [wrap64 (n := 9223372036854775807 - ((L[i]).1.data.length : Int)) (by omega) (by omega)]
                  (repeat refine WC.seq ?_)
                  by_cases hfit : (L[i]).1.addr ≤ 9223372036854775807 - ((L[i]).1.data.length : Int)
                  · rw [if_pos hfit] at ho
                    refine WC.cond (b := true) (by (try simp only [wk, wl, Then, Blk, pickV, Nat.reduceLT, Nat.reduceEqDiff, Nat.reduceBEq, reduceIte, isConst, nilCheckV, extractV, wantJ, nth]); (try simp); (try omega)) ?_
                    ((repeat refine WC.seq ?_); refine WC.run ?_)
                    (try simp only [wk, wl, Then, Blk, pickV, Nat.reduceLT, Nat.reduceEqDiff, Nat.reduceBEq, reduceIte, isConst, nilCheckV, extractV, wantJ, nth, fa75_0, fa75_1, Nat.zero_add, hadr, b5.at ty26 rfl, hd.len, bin_add])
                    rw [wrap64 (n := (L[i]).1.addr + ((L[i]).1.data.length : Int)) (by omega) (by omega)]
                    ((repeat refine WC.seq ?_); refine WC.run ?_)
                    (try simp only [wk, wl, Then, Blk, pickV, Nat.reduceLT, Nat.reduceEqDiff, Nat.reduceBEq, reduceIte, isConst, nilCheckV, extractV, wantJ, nth, t49, bin_add])
                    refine ⟨_, ?_, _, i + 1, (L[i]).1.addr + ((L[i]).1.data.length : Int), rfl, ff', rfl, by omega, ?_⟩
                    · omega
                    (try simp only [wk, wl, Then, Blk, pickV, Nat.reduceLT, Nat.reduceEqDiff, Nat.reduceBEq, reduceIte, isConst, nilCheckV, extractV, wantJ, nth, t47, t48])
                    refine ⟨trivial, trivial, ?_, by trivial, by omega, ho⟩
                    rw [wrap64 (by omega) (by omega)]; rfl
                  · rw [if_neg hfit] at ho
                    refine WC.cond (b := false) (by (try simp only [wk, wl, Then, Blk, pickV, Nat.reduceLT, Nat.reduceEqDiff, Nat.reduceBEq, reduceIte, isConst, nilCheckV, extractV, wantJ, nth]); (try simp); (try omega)) (WC.skip ?_)
                    (try simp only [wk, wl, Then, Blk, pickV, Nat.reduceLT, Nat.reduceEqDiff, Nat.reduceBEq, reduceIte, isConst, nilCheckV, extractV, wantJ, nth])
                    ((repeat refine WC.seq ?_); refine WC.run ?_)
                    (try simp only [wk, wl, Then, Blk, pickV, Nat.reduceLT, Nat.reduceEqDiff, Nat.reduceBEq, reduceIte, isConst, nilCheckV, extractV, wantJ, nth, t49, bin_add])
                    refine ⟨_, ?_, _, i + 1, 9223372036854775807, rfl, ff', rfl, by omega, ?_⟩
                    · omega
                    (try simp only [wk, wl, Then, Blk, pickV, Nat.reduceLT, Nat.reduceEqDiff, Nat.reduceBEq, reduceIte, isConst, nilCheckV, extractV, wantJ, nth, t47, t48])
                    refine ⟨trivial, trivial, ?_, by trivial, by omega, ho⟩
                    rw [wrap64 (by omega) (by omega)]; rfl
              · refine WC.cond (b := false) (by (try simp only [wk, wl, Then, Blk, pickV, Nat.reduceLT, Nat.reduceEqDiff, Nat.reduceBEq, reduceIte, isConst, nilCheckV, extractV, wantJ, nth]); (try simp); (try omega)) (WC.exit ?_)
                have : i = L.length := by omega
                subst this
                (try simp only [wk, wl, Then, Blk, pickV, Nat.reduceLT, Nat.reduceEqDiff, Nat.reduceBEq, reduceIte, isConst, nilCheckV, extractV, wantJ, nth])
                ((repeat refine WC.seq ?_); refine WC.run ?_)
                (try simp only [wk, wl, Then, Blk, pickV, Nat.reduceLT, Nat.reduceEqDiff, Nat.reduceBEq, reduceIte, isConst, nilCheckV, extractV, wantJ, nth])
                refine WC.ret ?_
                (try simp only [wk, wl, Then, Blk, pickV, Nat.reduceLT, Nat.reduceEqDiff, Nat.reduceBEq, reduceIte, isConst, nilCheckV, extractV, wantJ, nth])
                rw [List.drop_length] at ho
                exact ⟨by rw [← ho]; rfl, f13.trans (ff.sub fun b hb => by have := f3.next; omega)⟩
            all_goals (try simp only [wk, wl, Then, Blk, pickV, Nat.reduceLT, Nat.reduceEqDiff, Nat.reduceBEq, reduceIte, isConst, nilCheckV, extractV, wantJ, nth])
            all_goals simp [co.mems]
    · rw [if_pos hn]
      refine WC.cond (b := true) (by (try simp only [wk, wl, Then, Blk, pickV, Nat.reduceLT, Nat.reduceEqDiff, Nat.reduceBEq, reduceIte, isConst, nilCheckV, extractV, wantJ, nth]); (try simp); (try omega)) ?_
      ((repeat refine WC.seq ?_); refine WC.run ?_)
      (try simp only [wk, wl, Then, Blk, pickV, Nat.reduceLT, Nat.reduceEqDiff, Nat.reduceBEq, reduceIte, isConst, nilCheckV, extractV, wantJ, nth])
      refine WC.ret ?_
      (try simp only [wk, wl, Then, Blk, pickV, Nat.reduceLT, Nat.reduceEqDiff, Nat.reduceBEq, reduceIte, isConst, nilCheckV, extractV, wantJ, nth])
      exact ⟨by trivial, f1⟩
end Go.Proofs.ZP
