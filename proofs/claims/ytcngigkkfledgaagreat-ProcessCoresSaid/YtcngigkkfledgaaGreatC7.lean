/- Walks: cores; fewCore. -/
import Derived.Test.YtcngigkkfledgaaGreatC6
set_option linter.unusedVariables false
set_option linter.unusedSimpArgs false
set_option linter.defProp false
set_option linter.unusedSimpArgs false
namespace Go.Proofs.ZP
open Go Go.Ev
open Go.Proofs
variable {g : T (List V)}

structure Mem where
  addr : Int
  data : List UInt8
structure CoreD where
  pid : Int
  sig : Int
  name : List UInt8
  regs : List Int
  mem : List Mem

def i64 (n : Int) : V := .int .i64 n
/-- A slice of numbers. -/
abbrev Is (g : T (List V)) (h : H) (s : V) (ns : List Int) : Prop := Sl (E g) h 1 s ns.length (ns.map i64)
theorem Is.at {h : H} {s : V} {ns : List Int} (a : Is g h s ns) {k : Nat} (hk : k < ns.length) :
    ∃ p, indexAddrV (E g) 22 s (.int .i64 k) = some p ∧ loadP (E g) h 2 p = some (i64 ns[k]) := by
  obtain ⟨p, h1, h2⟩ := Sl.place a ty22 rfl ty2 rfl (by decide) hk
  refine ⟨p, h1, ?_⟩
  rw [h2 h fun _ _ _ _ _ => rfl]
  show (ns.map i64)[k * 1]? = _
  rw [Nat.mul_one, List.getElem?_map, List.getElem?_eq_getElem hk]; rfl
theorem Is.len {h h' : H} {s : V} {ns : List Int} (a : Is g h s ns) : lenB (E g) h' 22 s = some (.int .i64 ns.length) := Sl.lenB a ty22 rfl h'

def flat (L : List (Mem × V)) : List V := L.flatMap fun p => [i64 p.1.addr, p.2]
theorem flat_length : ∀ (L : List (Mem × V)), (flat L).length = L.length * 2
  | [] => rfl
  | p :: r => by
    have := flat_length r
    simp only [flat, List.flatMap_cons, List.length_append, List.length_cons, List.length_nil] at *
    omega
theorem flat_at : ∀ {L : List (Mem × V)} {k : Nat} (hk : k < L.length), ((flat L).drop (k * 2)).take 2 = [i64 L[k].1.addr, L[k].2]
  | [], k, hk => absurd hk (Nat.not_lt_zero _)
  | p :: r, 0, _ => rfl
  | p :: r, k + 1, hk => by
    have := flat_at (L := r) (k := k) (by simpa using hk)
    rw [show (k + 1) * 2 = k * 2 + 2 by omega]
    simpa [flat] using this

/-- The parts of memory: where, and the slice of the bytes. -/
structure Ms (g : T (List V)) (h : H) (s : V) (L : List (Mem × V)) : Prop where
  sl : Sl (E g) h 2 s L.length (flat L)
  dat : ∀ p ∈ L, Bs g h p.2 p.1.data
theorem Ms.at {h : H} {s : V} {L : List (Mem × V)} (a : Ms g h s L) {t e k : Nat} {i ei : TI} (ht : (E g).tys.get t = some i) (hd : i.desc = .slice e) (he : (E g).tys.get e = some ei) (hs : ei.size = 2) (hag : ei.agg = true) (hk : k < L.length) :
    ∃ p, indexAddrV (E g) t s (.int .i64 k) = some p ∧ ∀ h', (∀ b o m c, s = .slice b o m c → h'.t.get b = h.t.get b) → loadP (E g) h' e p = some (.agg [i64 L[k].1.addr, L[k].2]) := by
  obtain ⟨p, h1, h2⟩ := Sl.place a.sl ht hd he hs (by decide) hk
  refine ⟨p, h1, fun h' hh => ?_⟩
  rw [h2 h' hh, hag, cond_true, flat_at hk]
theorem Ms.fix {h h' : H} {K : Nat → Prop} {s : V} {L : List (Mem × V)} (a : Ms g h s L) (hs : In K s) (hL : ∀ p ∈ L, In K p.2) (f : Fix K h h') : Ms g h' s L :=
  ⟨a.sl.fix hs f, fun p hp => Sl.fix (a.dat p hp) (hL p hp) f⟩

/-- A core's value. -/
structure Co (g : T (List V)) (h : H) (K : Nat → Prop) (v : V) (c : CoreD) (rv mv : V) (L : List (Mem × V)) : Prop where
  val : v = .agg [i64 c.pid, i64 c.sig, .str c.name, rv, mv]
  regs : Is g h rv c.regs
  mem : Ms g h mv L
  mems : L.map (·.1) = c.mem
  inR : In K rv
  inM : In K mv
  inL : ∀ p ∈ L, In K p.2
theorem Co.fix {h h' : H} {K K' : Nat → Prop} {v : V} {c : CoreD} {rv mv : V} {L : List (Mem × V)} (a : Co g h K v c rv mv L) (f : Fix K' h h') (hs : ∀ b, K b → K' b) : Co g h' K v c rv mv L :=
  ⟨a.val, Sl.fix a.regs (a.inR.sub hs) f, a.mem.fix (a.inM.sub hs) (fun p hp => (a.inL p hp).sub hs) f, a.mems, a.inR, a.inM, a.inL⟩
theorem Co.up {h : H} {K K' : Nat → Prop} {v : V} {c : CoreD} {rv mv : V} {L : List (Mem × V)} (a : Co g h K v c rv mv L) (hs : ∀ b, K b → K' b) : Co g h K' v c rv mv L :=
  ⟨a.val, a.regs, a.mem, a.mems, a.inR.sub hs, a.inM.sub hs, fun p hp => (a.inL p hp).sub hs⟩
theorem Co.len {h : H} {K : Nat → Prop} {v : V} {c : CoreD} {rv mv : V} {L : List (Mem × V)} (a : Co g h K v c rv mv L) : L.length = c.mem.length := by rw [← a.mems, List.length_map]

def lenSum (ms : List Mem) : Nat := (ms.map (·.data.length)).sum
/-- Is a core small? -/
def fewP (c : CoreD) : Bool := decide (c.name.length ≤ 200) && decide (c.regs.length ≤ 70) && decide (c.mem.length ≤ 50) && decide (IntKind.i64.wrap (lenSum c.mem : Nat) ≤ 2000)

theorem wrap_wrap (a b : Int) : IntKind.i64.wrap (IntKind.i64.wrap a + b) = IntKind.i64.wrap (a + b) := by
  unfold IntKind.wrap
  simp only [IntKind.bits, IntKind.signed, Bool.true_and]
  split <;> split <;> split <;> rename_i h1 h2 h3 <;> simp at h1 h2 h3 <;> omega

/-- fewCore -/
theorem few_ok {h : H} {v : V} {c : CoreD} {rv mv : V} {L : List (Mem × V)} (co : Co g h (· < h.next) v c rv mv L) (hM : L.length < 2 ^ 62) : WF (E g) 5 [v] h fun v h' => v = .bool (fewP c) ∧ Kept h h' := by
  refine WF.enter fn5 rfl ?_
  ((repeat refine WC.seq ?_); refine WC.run ?_)
  (try simp only [wk, wl, Then, Blk, pickV, Nat.reduceLT, Nat.reduceEqDiff, Nat.reduceBEq, reduceIte, isConst, nilCheckV, extractV, wantJ, nth])
  refine wop_box (v := v) (by (try simp only [wk, wl, Then, Blk, pickV, Nat.reduceLT, Nat.reduceEqDiff, Nat.reduceBEq, reduceIte, isConst, nilCheckV, extractV, wantJ, nth])) ?_
  rw [co.val]
  intro h1 b1 n1 f1
  (try simp only [wk, wl, Then, Blk, pickV, Nat.reduceLT, Nat.reduceEqDiff, Nat.reduceBEq, reduceIte, isConst, nilCheckV, extractV, wantJ, nth])
  have b1 : Has h1 h.next [i64 c.pid, i64 c.sig, .str c.name, rv, mv] := b1
  have co1 := co.fix f1 (fun _ h => h)
  ((repeat refine WC.seq ?_); refine WC.run ?_)
  (try simp only [wk, wl, Then, Blk, pickV, Nat.reduceLT, Nat.reduceEqDiff, Nat.reduceBEq, reduceIte, isConst, nilCheckV, extractV, wantJ, nth])
  ((repeat refine WC.seq ?_); refine WC.run ?_)
  (try simp only [wk, wl, Then, Blk, pickV, Nat.reduceLT, Nat.reduceEqDiff, Nat.reduceBEq, reduceIte, isConst, nilCheckV, extractV, wantJ, nth, fa25_4, Nat.zero_add, b1.at ty23 rfl, List.getElem?_cons_zero, co1.mem.sl.lenB ty23 rfl])
  (repeat refine WC.seq ?_)
  refine WC.block ?_
  refine WC.while (fun m fr hh => ∃ ts i, fr = ⟨ts, 39, [], 5, none⟩ ∧ Fix (· < h1.next) h1 hh ∧ m = L.length - i ∧ i ≤ L.length ∧ ts.get 1 = some (.ptr h.next 0) ∧ ts.get 7 = some mv ∧ ts.get 8 = some (.int .i64 L.length) ∧ ts.get 9 = some (.int .i64 i) ∧ ts.get 3 = some (.int .i64 (IntKind.i64.wrap (lenSum ((L.take i).map (·.1)) : Nat)))) ?_ ⟨_, 0, rfl, Fix.refl _ _, rfl, by omega, ?_, ?_, ?_, ?_, ?_⟩
  · rintro m fr hh ⟨ts, i, rfl, ff, rfl, hi, t1, t7, t8, t9, t3⟩
    ((repeat refine WC.seq ?_); refine WC.run ?_)
    (try simp only [wk, wl, Then, Blk, pickV, Nat.reduceLT, Nat.reduceEqDiff, Nat.reduceBEq, reduceIte, isConst, nilCheckV, extractV, wantJ, nth, t8, t9])
    (repeat refine WC.seq ?_)
    by_cases hlt : i < L.length
    · refine WC.cond (b := true) (by (try simp only [wk, wl, Then, Blk, pickV, Nat.reduceLT, Nat.reduceEqDiff, Nat.reduceBEq, reduceIte, isConst, nilCheckV, extractV, wantJ, nth]); (try simp); (try omega)) (WC.skip ?_)
      (try simp only [wk, wl, Then, Blk, pickV, Nat.reduceLT, Nat.reduceEqDiff, Nat.reduceBEq, reduceIte, isConst, nilCheckV, extractV, wantJ, nth])
      obtain ⟨p, p1, p2⟩ := co1.mem.at ty23 rfl ty46 rfl rfl hlt
      have p2 := p2 hh fun b o m c e => ff.same b (by have := co.inM _ _ _ _ e; omega)
      (repeat refine WC.seq ?_)
      refine WC.block ?_
      ((repeat refine WC.seq ?_); refine WC.run ?_)
      (try simp only [wk, wl, Then, Blk, pickV, Nat.reduceLT, Nat.reduceEqDiff, Nat.reduceBEq, reduceIte, isConst, nilCheckV, extractV, wantJ, nth, t7, t9, p1, p2])
      refine wop_alloc ty46 ?_
      intro h2 b2 n2 f2
      (try simp only [wk, wl, Then, Blk, pickV, Nat.reduceLT, Nat.reduceEqDiff, Nat.reduceBEq, reduceIte, isConst, nilCheckV, extractV, wantJ, nth])
      refine sat_store b2 ty46 rfl (by decide) (by
        have := Sl.len (co1.mem.dat _ (List.getElem_mem hlt))
        generalize (L[i]).2 = d at this ⊢
        unfold lenV at this
        split at this <;> first | rfl | cases this) ?_
      intro h3 b3 n3 f3
      have b3 : Has h3 hh.next [i64 (L[i]).1.addr, (L[i]).2] := b3
      (try simp only [wk, wl, Then, Blk, pickV, Nat.reduceLT, Nat.reduceEqDiff, Nat.reduceBEq, reduceIte, isConst, nilCheckV, extractV, wantJ, nth])
      ((repeat refine WC.seq ?_); refine WC.run ?_)
      have hd := co1.mem.dat _ (List.getElem_mem hlt)
      (try simp only [wk, wl, Then, Blk, pickV, Nat.reduceLT, Nat.reduceEqDiff, Nat.reduceBEq, reduceIte, isConst, nilCheckV, extractV, wantJ, nth, t3, fa46_1, Nat.zero_add, b3.at ty26 rfl, hd.len, bin_add])
      ((repeat refine WC.seq ?_); refine WC.run ?_)
      (try simp only [wk, wl, Then, Blk, pickV, Nat.reduceLT, Nat.reduceEqDiff, Nat.reduceBEq, reduceIte, isConst, nilCheckV, extractV, wantJ, nth, t9, bin_add])
      refine ⟨_, ?_, _, i + 1, rfl, ⟨by have := ff.next; omega, fun c hc => by rw [f3.same c (by have := ff.next; omega), f2.same c (by have := ff.next; omega), ff.same c hc]⟩, rfl, by omega, ?_⟩
      · omega
      (try simp only [wk, wl, Then, Blk, pickV, Nat.reduceLT, Nat.reduceEqDiff, Nat.reduceBEq, reduceIte, isConst, nilCheckV, extractV, wantJ, nth, t1, t7, t8])
      refine ⟨trivial, trivial, trivial, ?_, ?_⟩
      · rw [wrap64 (by omega) (by omega)]; rfl
      · rw [wrap_wrap]
        have e : lenSum ((L.take (i + 1)).map (·.1)) = lenSum ((L.take i).map (·.1)) + (L[i]).1.data.length := by
          rw [List.take_succ_eq_append_getElem hlt]
          simp only [lenSum, List.map_append, List.map_map, List.sum_append, List.map_cons, List.map_nil, List.sum_cons, List.sum_nil, Nat.add_zero]
        rw [e]; rfl
    · refine WC.cond (b := false) (by (try simp only [wk, wl, Then, Blk, pickV, Nat.reduceLT, Nat.reduceEqDiff, Nat.reduceBEq, reduceIte, isConst, nilCheckV, extractV, wantJ, nth]); (try simp); (try omega)) (WC.exit ?_)
      have : i = L.length := by omega
      subst this
      (try simp only [wk, wl, Then, Blk, pickV, Nat.reduceLT, Nat.reduceEqDiff, Nat.reduceBEq, reduceIte, isConst, nilCheckV, extractV, wantJ, nth])
      have b2 := b1.fix ff (by omega)
      ((repeat refine WC.seq ?_); refine WC.run ?_)
      rw [List.take_length, co.mems] at t3
      have hfin : Kept h hh := ⟨by have := ff.next; omega, fun c hc => by rw [ff.same c (by omega), f1.same c hc]⟩
      have q1 : ∀ P : Prop, [Decidable P] → P → decide P = true := fun P _ h => decide_eq_true h
      by_cases c1 : (c.name.length : Int) ≤ 200
      · by_cases c2 : (c.regs.length : Int) ≤ 70
        · by_cases c3 : (L.length : Int) ≤ 50
          · (try simp only [wk, wl, Then, Blk, pickV, Nat.reduceLT, Nat.reduceEqDiff, Nat.reduceBEq, reduceIte, isConst, nilCheckV, extractV, wantJ, nth, t1, t3, fa25_2, fa25_3, fa25_4, Nat.zero_add, b2.at ty9 rfl, b2.at ty22 rfl, b2.at ty23 rfl, len_str, co1.regs.len, co1.mem.sl.lenB ty23 rfl, decide_eq_true c1, decide_eq_true c2, decide_eq_true c3])
            (repeat refine WC.seq ?_)
            refine WC.ret ?_
            (try simp only [wk, wl, Then, Blk, pickV, Nat.reduceLT, Nat.reduceEqDiff, Nat.reduceBEq, reduceIte, isConst, nilCheckV, extractV, wantJ, nth])
            refine ⟨?_, hfin⟩
            have hl := co.len
            have e1 : decide (c.name.length ≤ 200) = true := by simp; omega
            have e2 : decide (c.regs.length ≤ 70) = true := by simp; omega
            have e3 : decide (c.mem.length ≤ 50) = true := by simp; omega
            simp only [fewP, e1, e2, e3, Bool.true_and]
          · (try simp only [wk, wl, Then, Blk, pickV, Nat.reduceLT, Nat.reduceEqDiff, Nat.reduceBEq, reduceIte, isConst, nilCheckV, extractV, wantJ, nth, t1, t3, fa25_2, fa25_3, fa25_4, Nat.zero_add, b2.at ty9 rfl, b2.at ty22 rfl, b2.at ty23 rfl, len_str, co1.regs.len, co1.mem.sl.lenB ty23 rfl, decide_eq_true c1, decide_eq_true c2, decide_eq_false c3])
            (repeat refine WC.seq ?_)
            refine WC.ret ?_
            (try simp only [wk, wl, Then, Blk, pickV, Nat.reduceLT, Nat.reduceEqDiff, Nat.reduceBEq, reduceIte, isConst, nilCheckV, extractV, wantJ, nth])
            refine ⟨?_, hfin⟩
            have hl := co.len
            have e3 : decide (c.mem.length ≤ 50) = false := by simp; omega
            simp only [fewP, e3, Bool.and_false, Bool.false_and]
        · (try simp only [wk, wl, Then, Blk, pickV, Nat.reduceLT, Nat.reduceEqDiff, Nat.reduceBEq, reduceIte, isConst, nilCheckV, extractV, wantJ, nth, t1, t3, fa25_2, fa25_3, fa25_4, Nat.zero_add, b2.at ty9 rfl, b2.at ty22 rfl, b2.at ty23 rfl, len_str, co1.regs.len, co1.mem.sl.lenB ty23 rfl, decide_eq_true c1, decide_eq_false c2])
          (repeat refine WC.seq ?_)
          refine WC.ret ?_
          (try simp only [wk, wl, Then, Blk, pickV, Nat.reduceLT, Nat.reduceEqDiff, Nat.reduceBEq, reduceIte, isConst, nilCheckV, extractV, wantJ, nth])
          refine ⟨?_, hfin⟩
          have e2 : decide (c.regs.length ≤ 70) = false := by simp; omega
          simp only [fewP, e2, Bool.and_false, Bool.false_and]
      · (try simp only [wk, wl, Then, Blk, pickV, Nat.reduceLT, Nat.reduceEqDiff, Nat.reduceBEq, reduceIte, isConst, nilCheckV, extractV, wantJ, nth, t1, t3, fa25_2, fa25_3, fa25_4, Nat.zero_add, b2.at ty9 rfl, b2.at ty22 rfl, b2.at ty23 rfl, len_str, co1.regs.len, co1.mem.sl.lenB ty23 rfl, decide_eq_false c1])
        (repeat refine WC.seq ?_)
        refine WC.ret ?_
        (try simp only [wk, wl, Then, Blk, pickV, Nat.reduceLT, Nat.reduceEqDiff, Nat.reduceBEq, reduceIte, isConst, nilCheckV, extractV, wantJ, nth])
        refine ⟨?_, hfin⟩
        have e1 : decide (c.name.length ≤ 200) = false := by simp; omega
        simp only [fewP, e1, Bool.false_and]
  all_goals (try simp only [wk, wl, Then, Blk, pickV, Nat.reduceLT, Nat.reduceEqDiff, Nat.reduceBEq, reduceIte, isConst, nilCheckV, extractV, wantJ, nth])
  all_goals simp [lenSum]
  all_goals rfl
end Go.Proofs.ZP
