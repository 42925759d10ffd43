/- Walks: ref.ReadCore. -/
import Derived.Test.YtcngigkkfledgaaGreatC10
import Derived.Test.YtcngigkkfledgaaGreatC11
set_option linter.unusedVariables false
set_option linter.unusedSimpArgs false
set_option linter.defProp false
set_option linter.unusedSimpArgs false
set_option maxHeartbeats 1000000
namespace Go.Proofs.ZP
open Go Go.Ev
open Go.Proofs
variable {g : T (List V)}

def rtak (n : Nat) (p : PS) : List UInt8 × PS := (if p.sh = false ∧ n ≤ p.xs.length then p.xs.take n else [], ⟨if p.sh = false ∧ n ≤ p.xs.length then p.xs.drop n else p.xs, !(decide (p.sh = false ∧ n ≤ p.xs.length))⟩)
def rnum (n : Nat) (p : PS) : Nat × PS := (leN (rtak n p).1, (rtak n p).2)
theorem rtak_le (n : Nat) (p : PS) : (rtak n p).1.length ≤ n := by
  unfold rtak; simp only; split <;> simp; omega
theorem rnum_lt (n : Nat) (p : PS) : (rnum n p).1 < 256 ^ n :=
  Nat.lt_of_lt_of_le (leN_lt _) (Nat.pow_le_pow_right (by decide) (rtak_le n p))
theorem rtak_xs (n : Nat) (p : PS) : (rtak n p).2.xs.length ≤ p.xs.length := by
  unfold rtak; simp only; split <;> simp
theorem rtak_len (n : Nat) (p : PS) : (rtak n p).1.length ≤ p.xs.length := by
  unfold rtak; simp only; split <;> simp; omega
theorem rtk_ok {h : H} {K : Nat → Prop} {rb n : Nat} {p : PS} (r : RdP g h K rb p) (hK : ¬ K rb) (hn : n < 2 ^ 62) (hx : p.xs.length < 2 ^ 62) :
    WF (E g) 34 [.ptr rb 0, .int .i64 n] h fun v h' => Pt g h' K v (rtak n p).1 ∧ RdP g h' K rb (rtak n p).2 ∧ h'.next = h.next ∧ Fix (· ≠ rb) h h' := rtake_ok r hK hn hx
theorem rg_ok {h : H} {s : V} {xs : List UInt8} (hb : Bs g h s xs) (h8 : xs.length ≤ 8) : WF (E g) 33 [s] h fun v h' => v = .int .i64 (W (leN xs)) ∧ h' = h := rget_ok hb h8

def rregsP : Nat → PS → List Int × PS
  | 0, p => ([], p)
  | k + 1, p => if p.sh = true then ([], p) else (W (rnum 8 p).1 :: (rregsP k (rnum 8 p).2).1, (rregsP k (rnum 8 p).2).2)
def rmemP (p : PS) : Mem × PS := (⟨W (rnum 8 p).1, (rtak (rnum 4 (rnum 8 p).2).1 (rnum 4 (rnum 8 p).2).2).1⟩, (rtak (rnum 4 (rnum 8 p).2).1 (rnum 4 (rnum 8 p).2).2).2)
def rmemsP : Nat → PS → List Mem × PS
  | 0, p => ([], p)
  | k + 1, p => if p.sh = true then ([], p) else ((rmemP p).1 :: (rmemsP k (rmemP p).2).1, (rmemsP k (rmemP p).2).2)
/-- What the reference reads of a dump. -/
def rparseP (xs : List UInt8) : List UInt8 × CoreD × PS :=
  let hd := rtak 4 ⟨xs, false⟩
  let p1 := rnum 4 hd.2
  let p2 := rnum 4 p1.2
  let n1 := rnum 1 p2.2
  let nm := rtak n1.1 n1.2
  let k1 := rnum 2 nm.2
  let rs := rregsP k1.1 k1.2
  let k2 := rnum 2 rs.2
  let ms := rmemsP k2.1 k2.2
  (hd.1, ⟨p1.1, p2.1, nm.1, rs.1, ms.1⟩, ms.2)
/-- What the reference's ReadCore answers. -/
def rreadP (b : List UInt8) : CoreD × Int :=
  if b.length < 8 ∨ leN (b.drop (b.length - 4)) ≠ sumN (b.take (b.length - 4)) % 4294967296 then (zeroC, 6)
  else if (rparseP (b.take (b.length - 4))).2.2.sh = false ∧ (rparseP (b.take (b.length - 4))).2.2.xs = [] ∧ (rparseP (b.take (b.length - 4))).1 = head ∧ checkE (rparseP (b.take (b.length - 4))).2.1 = 0 ∧ dumpB (rparseP (b.take (b.length - 4))).2.1 = b
  then ((rparseP (b.take (b.length - 4))).2.1, 0) else (zeroC, 12)

theorem str_neq {E : Env} {h : H} {c : Bool} {t : Nat} {a b : List UInt8} : binV E h c .neq t (.str a) (.str b) = some (.bool !(a == b)) := rfl
theorem build25_0 : buildV (E g) 25 [] = some (.agg [i64 0, i64 0, .str [], .nils, .nils]) := by
  simp only [buildV, ty25, fillAll]
  simp [ty3, ty9, ty22, ty23]
  rfl
theorem build89 {s : V} (hs : s.cells = [s]) : buildV (E g) 89 [(0, s)] = some (.agg [s, .bool false]) := by
  simp only [buildV, ty89, fillAll, nth, sizeOf_of ty26]
  simp [ty26, ty4, hs, fillL]
  rfl
theorem build46 {a : Int} : buildV (E g) 46 [(0, i64 a)] = some (.agg [i64 a, .nils]) := by
  simp only [buildV, ty46, fillAll, nth, sizeOf_of ty2]
  simp [ty2, ty26, i64, V.cells, fillL]
  rfl

/-- The state in the loop of the parts of memory. -/
structure MInvR (g : T (List V)) (h h4 h7 : H) (xs : List UInt8) (pid sig : Int) (nm : List UInt8) (rv : V) (ns : List Int) (hh : H) (p : PS) (mv : V) (L : List (Mem × V)) : Prop where
  rd : RdP g hh (· < h.next) h4.next p
  co : Has hh h7.next [i64 pid, i64 sig, .str nm, rv, mv]
  ib : IBuf g hh rv ns
  mb : Buf (E g) hh 46 2 mv L.length (flat L)
  dat : ∀ q ∈ L, Bs g hh q.2 q.1.data
  inR : In (fun x => h7.next < x ∧ x < hh.next ∧ ∀ o m c, mv ≠ .slice x o m c) rv
  inM : In (fun x => h7.next < x ∧ x < hh.next) mv
  inL : ∀ q ∈ L, In (fun x => h7.next < x ∧ x < hh.next ∧ ∀ o m c, mv ≠ .slice x o m c) q.2
  fix : Fix (· < h4.next) h4 hh
  nx : h7.next < hh.next
  len : p.xs.length ≤ xs.length

theorem MInvR.go {h h4 h7 hh hh' : H} {xs : List UInt8} {pid sig : Int} {nm : List UInt8} {rv : V} {ns : List Int} {p p' : PS} {mv : V} {L : List (Mem × V)} {P : Nat → Prop} (I : MInvR g h h4 h7 xs pid sig nm rv ns hh p mv L) (f : Fix P hh hh') (hP : ∀ x, x < hh.next → x ≠ h4.next → P x)
    (r : RdP g hh' (· < h.next) h4.next p') (hl : p'.xs.length ≤ xs.length) (h47 : h4.next < h7.next) : MInvR g h h4 h7 xs pid sig nm rv ns hh' p' mv L :=
  ⟨r, I.co.fix f (hP _ I.nx (by omega)), I.ib.fix (I.inR.sub fun x hx => hP x hx.2.1 (by omega)) f, I.mb.fix (I.inM.sub fun x hx => hP x hx.2 (by omega)) f, fun q hq => Sl.fix (I.dat q hq) ((I.inL q hq).sub fun x hx => hP x hx.2.1 (by omega)) f,
    I.inR.sub fun x hx => ⟨hx.1, Nat.lt_of_lt_of_le hx.2.1 f.next, hx.2.2⟩, I.inM.sub fun x hx => ⟨hx.1, Nat.lt_of_lt_of_le hx.2 f.next⟩, fun q hq => (I.inL q hq).sub fun x hx => ⟨hx.1, Nat.lt_of_lt_of_le hx.2.1 f.next, hx.2.2⟩,
    ⟨Nat.le_trans I.fix.next f.next, fun c hc => by rw [f.same c (hP c (by have := I.nx; omega) (by omega)), I.fix.same c hc]⟩, Nat.lt_of_lt_of_le I.nx f.next, hl⟩
set_option maxHeartbeats 2000000 in
/-- ref.ReadCore -/
theorem rread_ok {h : H} {s : V} {b : List UInt8} (hb : Bs g h s b) (hs : In (· < h.next) s) (hlen : b.length ≤ 2 ^ 30) : WF (E g) 11 [s] h fun v h' => ReadR g h (rreadP b) v h' := by
  refine WF.enter fn11 rfl ?_
  ((repeat refine WC.seq ?_); refine WC.run ?_)
  (try simp only [wk, wl, Then, Blk, pickV, Nat.reduceLT, Nat.reduceEqDiff, Nat.reduceBEq, reduceIte, isConst, nilCheckV, extractV, wantJ, nth])
  refine wop_alloc ty25 ?_
  intro h1 b1 n1 f1
  (try simp only [wk, wl, Then, Blk, pickV, Nat.reduceLT, Nat.reduceEqDiff, Nat.reduceBEq, reduceIte, isConst, nilCheckV, extractV, wantJ, nth])
  have b1 : Has h1 h.next [i64 0, i64 0, .str [], .nils, .nils] := b1
  have hb1 := Sl.fix hb hs f1
  have hs1 : In (· < h1.next) s := hs.sub fun x hx => by omega
  have fin6 : ∀ {h2 : H}, h2.next = h1.next → Fix (· ≠ h.next) h1 h2 → rreadP b = (zeroC, 6) → ReadR g h (rreadP b) (.tuple [.agg [i64 0, i64 0, .str [], .nils, .nils], .int .i64 6]) h2 := fun n2 f2 hr => by
    rw [hr]
    exact ⟨_, rfl, ⟨by omega, fun c hc => by rw [f2.same c (by omega), f1.same c hc]⟩, .nils, .nils, [], rfl, Sl.nil, ⟨Sl.nil, fun _ h => by cases h⟩, rfl, In.nils, In.nils, fun _ h => by cases h⟩
  by_cases h8 : ((b.length : Int) < 8)
  · ((repeat refine WC.seq ?_); refine WC.draw (plans := pl11_1) (by kernel_rfl) ?_; simp only [pl11_1, List.mem_cons, List.not_mem_nil, or_false, forall_eq_or_imp, forall_eq])
    (try simp only [wk, wl, Then, Blk, pickV, Nat.reduceLT, Nat.reduceEqDiff, Nat.reduceBEq, reduceIte, isConst, nilCheckV, extractV, wantJ, nth, wd, Chk, and_true, true_and, hb.len, decide_eq_true h8])
    (repeat refine WC.seq ?_)
    refine WC.cond (b := true) (by (try simp only [wk, wl, Then, Blk, pickV, Nat.reduceLT, Nat.reduceEqDiff, Nat.reduceBEq, reduceIte, isConst, nilCheckV, extractV, wantJ, nth]); (try simp); (try omega)) ?_
    ((repeat refine WC.seq ?_); refine WC.run ?_)
    (try simp only [wk, wl, Then, Blk, pickV, Nat.reduceLT, Nat.reduceEqDiff, Nat.reduceBEq, reduceIte, isConst, nilCheckV, extractV, wantJ, nth, build25_0])
    refine sat_store b1 ty25 rfl (Nat.le_refl 5) rfl ?_
    intro h2 b2 n2 f2
    have b2 : Has h2 h.next [i64 0, i64 0, .str [], .nils, .nils] := b2
    (try simp only [wk, wl, Then, Blk, pickV, Nat.reduceLT, Nat.reduceEqDiff, Nat.reduceBEq, reduceIte, isConst, nilCheckV, extractV, wantJ, nth])
    refine WC.ret ?_
    (try simp only [wk, wl, Then, Blk, pickV, Nat.reduceLT, Nat.reduceEqDiff, Nat.reduceBEq, reduceIte, isConst, nilCheckV, extractV, wantJ, nth, b2.agg ty25 rfl (o := 0) (Nat.le_refl 5)])
    exact fin6 n2 f2 (by unfold rreadP; rw [if_pos (.inl (by omega))])
  · have hw : IntKind.i64.wrap ((b.length : Int) - 4) = ((b.length - 4 : Nat) : Int) := by rw [wrap64 (by omega) (by omega)]; omega
    obtain ⟨s1, p1, p2, p3⟩ := Bs.from hb1 (n := b.length - 4) (by omega)
    obtain ⟨s2, q1, q2, q3⟩ := Bs.upto hb1 (n := b.length - 4) (by omega)
    ((repeat refine WC.seq ?_); refine WC.draw (plans := pl11_1) (by kernel_rfl) ?_; simp only [pl11_1, List.mem_cons, List.not_mem_nil, or_false, forall_eq_or_imp, forall_eq])
    (try simp only [wk, wl, Then, Blk, pickV, Nat.reduceLT, Nat.reduceEqDiff, Nat.reduceBEq, reduceIte, isConst, nilCheckV, extractV, wantJ, nth, wd, Chk, and_true, true_and, hb.len, bin_sub, hw, decide_eq_false h8, p1, q1])
    refine (rg_ok p2 (by simp; omega)).mono fun v2 h1 ⟨e2, e2'⟩ => ?_
    subst e2 e2'
    (try simp only [wk, wl, Then, Blk, pickV, Nat.reduceLT, Nat.reduceEqDiff, Nat.reduceBEq, reduceIte, isConst, nilCheckV, extractV, wantJ, nth, wd, Chk, and_true, true_and, hb.len, bin_sub, hw])
    refine (rsum_ok q2 (by simp; omega)).mono fun v4 h1 ⟨e4', e4''⟩ => ?_
    subst e4' e4''
    have hl4 : leN (b.drop (b.length - 4)) < 256 ^ 4 := Nat.lt_of_lt_of_le (leN_lt _) (Nat.pow_le_pow_right (by decide) (by simp; omega))
    rw [W_small (n := leN (b.drop (b.length - 4))) (by omega)]
    (try simp only [wk, wl, Then, Blk, pickV, Nat.reduceLT, Nat.reduceEqDiff, Nat.reduceBEq, reduceIte, isConst, nilCheckV, extractV, wantJ, nth, wd, Chk, and_true, true_and])
    (repeat refine WC.seq ?_)
    by_cases hsum : leN (b.drop (b.length - 4)) = sumN (b.take (b.length - 4)) % 4294967296
    · refine WC.cond (b := false) (by (try simp only [wk, wl, Then, Blk, pickV, Nat.reduceLT, Nat.reduceEqDiff, Nat.reduceBEq, reduceIte, isConst, nilCheckV, extractV, wantJ, nth]); simp [hsum]) (WC.skip ?_)
      (try simp only [wk, wl, Then, Blk, pickV, Nat.reduceLT, Nat.reduceEqDiff, Nat.reduceBEq, reduceIte, isConst, nilCheckV, extractV, wantJ, nth])
      generalize hxs : b.take (b.length - 4) = xs at q2
      have hxl : xs.length ≤ 2 ^ 30 := by rw [← hxs]; simp; omega
      ((repeat refine WC.seq ?_); refine WC.run ?_)
      (try simp only [wk, wl, Then, Blk, pickV, Nat.reduceLT, Nat.reduceEqDiff, Nat.reduceBEq, reduceIte, isConst, nilCheckV, extractV, wantJ, nth, hb.len, bin_sub, hw, q1, build89 (Sl.one q2).1])
      refine wop_box (v := .agg [s2, .bool false]) (by (try simp only [wk, wl, Then, Blk, pickV, Nat.reduceLT, Nat.reduceEqDiff, Nat.reduceBEq, reduceIte, isConst, nilCheckV, extractV, wantJ, nth])) ?_
      intro h2 b2 n2 f2
      have b2 : Has h2 h1.next [s2, .bool false] := b2
      (try simp only [wk, wl, Then, Blk, pickV, Nat.reduceLT, Nat.reduceEqDiff, Nat.reduceBEq, reduceIte, isConst, nilCheckV, extractV, wantJ, nth])
      have K0 : In (· < h.next) s2 := q3 _ hs
      have r2 : RdP g h2 (· < h.next) h1.next ⟨xs, false⟩ := ⟨s2, b2, Sl.fix q2 (K0.sub fun x hx => by omega) f2, K0⟩
      ((repeat refine WC.seq ?_); refine WC.run ?_)
      (try simp only [wk, wl, Then, Blk, pickV, Nat.reduceLT, Nat.reduceEqDiff, Nat.reduceBEq, reduceIte, isConst, nilCheckV, extractV, wantJ, nth])
      refine wop_alloc ty25 ?_
      intro h3 b3 n3 f3
      have b3 : Has h3 h2.next [i64 0, i64 0, .str [], .nils, .nils] := b3
      (try simp only [wk, wl, Then, Blk, pickV, Nat.reduceLT, Nat.reduceEqDiff, Nat.reduceBEq, reduceIte, isConst, nilCheckV, extractV, wantJ, nth])
      have r3 : RdP g h3 (· < h.next) h1.next ⟨xs, false⟩ := Rd.fix r2 f3 (by omega) (fun x hx => by omega)
      -- the head
      ((repeat refine WC.seq ?_); refine WC.run ?_)
      (try simp only [wk, wl, Then, Blk, pickV, Nat.reduceLT, Nat.reduceEqDiff, Nat.reduceBEq, reduceIte, isConst, nilCheckV, extractV, wantJ, nth])
      refine (rtk_ok (n := 4) r3 (by omega) (by omega) (by simp; omega)).mono fun v4 h4 ⟨⟨a4, i4⟩, r4, n4, f4⟩ => ?_
      have l4 := rtak_xs 4 ⟨xs, false⟩
      generalize hhd : (rtak 4 ⟨xs, false⟩).1 = hd at *
      generalize hp0 : (rtak 4 ⟨xs, false⟩).2 = p0 at *
      (try simp only [wk, wl, Then, Blk, pickV, Nat.reduceLT, Nat.reduceEqDiff, Nat.reduceBEq, reduceIte, isConst, nilCheckV, extractV, wantJ, nth, conv_str a4])
      -- pid, signal
      ((repeat refine WC.seq ?_); refine WC.run ?_)
      (try simp only [wk, wl, Then, Blk, pickV, Nat.reduceLT, Nat.reduceEqDiff, Nat.reduceBEq, reduceIte, isConst, nilCheckV, extractV, wantJ, nth])
      refine (rtk_ok (n := 4) r4 (by omega) (by omega) (by simp at l4 ⊢; omega)).mono fun v5 h5 ⟨⟨a5, i5⟩, r5, n5, f5⟩ => ?_
      have l5 := rtak_xs 4 p0
      have m5 := rnum_lt 4 p0
      have t5 := rtak_le 4 p0
      (try simp only [wk, wl, Then, Blk, pickV, Nat.reduceLT, Nat.reduceEqDiff, Nat.reduceBEq, reduceIte, isConst, nilCheckV, extractV, wantJ, nth])
      refine (rg_ok a5 (by omega)).mono fun v5' h5 ⟨e5, e5'⟩ => ?_
      subst e5 e5'
      (try simp only [wk, wl, Then, Blk, pickV, Nat.reduceLT, Nat.reduceEqDiff, Nat.reduceBEq, reduceIte, isConst, nilCheckV, extractV, wantJ, nth])
      refine (rtk_ok (n := 4) r5 (by omega) (by omega) (by simp at l4 ⊢; omega)).mono fun v6 h6 ⟨⟨a6, i6⟩, r6, n6, f6⟩ => ?_
      have l6 := rtak_xs 4 (rtak 4 p0).2
      have m6 := rnum_lt 4 (rtak 4 p0).2
      have t6 := rtak_le 4 (rtak 4 p0).2
      (try simp only [wk, wl, Then, Blk, pickV, Nat.reduceLT, Nat.reduceEqDiff, Nat.reduceBEq, reduceIte, isConst, nilCheckV, extractV, wantJ, nth])
      refine (rg_ok a6 (by omega)).mono fun v6' h6 ⟨e6, e6'⟩ => ?_
      subst e6 e6'
      unfold rnum at m5 m6
      rw [W_small (by omega), W_small (by omega)]
      (try simp only [wk, wl, Then, Blk, pickV, Nat.reduceLT, Nat.reduceEqDiff, Nat.reduceBEq, reduceIte, isConst, nilCheckV, extractV, wantJ, nth, fa25_0, fa25_1, Nat.zero_add])
      have x5 : (rtak 4 p0).2.xs.length ≤ xs.length := by simp at l4; omega
      generalize hpid : leN (rtak 4 p0).1 = pid at *
      generalize hp1 : (rtak 4 p0).2 = p1 at *
      generalize hsig : leN (rtak 4 p1).1 = sig at *
      generalize hp2 : (rtak 4 p1).2 = p2 at *
      have b6 : Has h6 h2.next [i64 0, i64 0, .str [], .nils, .nils] := ((b3.fix f4 (by omega)).fix f5 (by omega)).fix f6 (by omega)
      refine sat_store b6 ty3 rfl (by decide) rfl ?_
      intro h7 b7 n7 f7
      have b7 : Has h7 h2.next [i64 pid, i64 0, .str [], .nils, .nils] := b7
      (try simp only [wk, wl, Then, Blk, pickV, Nat.reduceLT, Nat.reduceEqDiff, Nat.reduceBEq, reduceIte, isConst, nilCheckV, extractV, wantJ, nth, fa25_0, fa25_1, Nat.zero_add])
      refine sat_store b7 ty3 rfl (by simp) rfl ?_
      intro h8 b8 n8 f8
      have b8 : Has h8 h2.next [i64 pid, i64 sig, .str [], .nils, .nils] := b8
      (try simp only [wk, wl, Then, Blk, pickV, Nat.reduceLT, Nat.reduceEqDiff, Nat.reduceBEq, reduceIte, isConst, nilCheckV, extractV, wantJ, nth])
      have r8 : RdP g h8 (· < h.next) h1.next p2 := Rd.fix (Rd.fix r6 f7 (by omega) (fun x hx => by omega)) f8 (by omega) (fun x hx => by omega)
      have hpl : p2.xs.length ≤ xs.length := by omega
      -- the name
      ((repeat refine WC.seq ?_); refine WC.run ?_)
      (try simp only [wk, wl, Then, Blk, pickV, Nat.reduceLT, Nat.reduceEqDiff, Nat.reduceBEq, reduceIte, isConst, nilCheckV, extractV, wantJ, nth])
      refine (rtk_ok (n := 1) r8 (by omega) (by omega) (by omega)).mono fun v9 h9 ⟨⟨a9, i9⟩, r9, n9, f9⟩ => ?_
      have l9 := rtak_xs 1 p2
      have m9 := rnum_lt 1 p2
      have t9 := rtak_le 1 p2
      (try simp only [wk, wl, Then, Blk, pickV, Nat.reduceLT, Nat.reduceEqDiff, Nat.reduceBEq, reduceIte, isConst, nilCheckV, extractV, wantJ, nth])
      refine (rg_ok a9 (by omega)).mono fun v9' h9 ⟨e9, e9'⟩ => ?_
      subst e9 e9'
      unfold rnum at m9
      rw [W_small (by omega)]
      generalize hn1 : leN (rtak 1 p2).1 = n1 at *
      generalize hp3 : (rtak 1 p2).2 = p3 at *
      (try simp only [wk, wl, Then, Blk, pickV, Nat.reduceLT, Nat.reduceEqDiff, Nat.reduceBEq, reduceIte, isConst, nilCheckV, extractV, wantJ, nth])
      refine (rtk_ok r9 (by omega) (by omega) (by omega)).mono fun v11 h11 ⟨⟨a11, i11⟩, r11, nx11, f11⟩ => ?_
      have l11 := rtak_xs n1 p3
      generalize hnm : (rtak n1 p3).1 = nm at *
      generalize hp4 : (rtak n1 p3).2 = p4 at *
      have b11 : Has h11 h2.next [i64 pid, i64 sig, .str [], .nils, .nils] := (b8.fix f9 (by omega)).fix f11 (by omega)
      (try simp only [wk, wl, Then, Blk, pickV, Nat.reduceLT, Nat.reduceEqDiff, Nat.reduceBEq, reduceIte, isConst, nilCheckV, extractV, wantJ, nth, conv_str a11, fa25_2, Nat.zero_add])
      refine sat_store b11 ty9 rfl (by simp) rfl ?_
      intro h12 b12 n12 f12
      have b12 : Has h12 h2.next [i64 pid, i64 sig, .str nm, .nils, .nils] := b12
      (try simp only [wk, wl, Then, Blk, pickV, Nat.reduceLT, Nat.reduceEqDiff, Nat.reduceBEq, reduceIte, isConst, nilCheckV, extractV, wantJ, nth])
      have r12 : RdP g h12 (· < h.next) h1.next p4 := Rd.fix r11 f12 (by omega) (fun x hx => by omega)
      -- how many registers
      ((repeat refine WC.seq ?_); refine WC.run ?_)
      (try simp only [wk, wl, Then, Blk, pickV, Nat.reduceLT, Nat.reduceEqDiff, Nat.reduceBEq, reduceIte, isConst, nilCheckV, extractV, wantJ, nth])
      refine (rtk_ok (n := 2) r12 (by omega) (by omega) (by omega)).mono fun v13 h13 ⟨⟨a13, i13⟩, r13, n13, f13⟩ => ?_
      have l13 := rtak_xs 2 p4
      have m13 := rnum_lt 2 p4
      have t13 := rtak_le 2 p4
      (try simp only [wk, wl, Then, Blk, pickV, Nat.reduceLT, Nat.reduceEqDiff, Nat.reduceBEq, reduceIte, isConst, nilCheckV, extractV, wantJ, nth])
      refine (rg_ok a13 (by omega)).mono fun v13' h13 ⟨e13, e13'⟩ => ?_
      subst e13 e13'
      unfold rnum at m13
      rw [W_small (by omega)]
      generalize hk1 : leN (rtak 2 p4).1 = k1 at *
      generalize hp5 : (rtak 2 p4).2 = p5 at *
      have b13 := b12.fix f13 (by omega)
      (try simp only [wk, wl, Then, Blk, pickV, Nat.reduceLT, Nat.reduceEqDiff, Nat.reduceBEq, reduceIte, isConst, nilCheckV, extractV, wantJ, nth])
      have F413 : Fix (· < h1.next) h1 h13 := ⟨by omega, fun c hc => by rw [f13.same c (by omega), f12.same c (by omega), f11.same c (by omega), f9.same c (by omega), f8.same c (by omega), f7.same c (by omega), f6.same c (by omega), f5.same c (by omega), f4.same c (by omega), f3.same c (by omega), f2.same c hc]⟩
      (repeat refine WC.seq ?_)
      refine WC.mono (Q := fun e fr hh => e = .normal ∧ ∃ ts p rv ns, fr = ⟨ts, 143, [], 11, none⟩ ∧ RdP g hh (· < h.next) h1.next p ∧ Has hh h2.next [i64 pid, i64 sig, .str nm, rv, .nils] ∧ IBuf g hh rv ns ∧ In (fun x => h2.next < x ∧ x < hh.next) rv ∧ Fix (· < h1.next) h1 hh ∧ h13.next ≤ hh.next ∧ p.xs.length ≤ xs.length ∧ ns.length ≤ k1 ∧ (ns, p) = rregsP k1 p5 ∧ ts.get 0 = some s ∧ ts.get 2 = some (.ptr h.next 0) ∧ ts.get 4 = some (.ptr h1.next 0) ∧ ts.get 5 = some (.ptr h2.next 0) ∧ ts.get 6 = some (.str hd)) ?_ ?_
      · refine WC.block ?_
        refine WC.while (m := k1) (fun m fr hh => ∃ ts p rv ns, fr = ⟨ts, 143, [], 11, none⟩ ∧ RdP g hh (· < h.next) h1.next p ∧ Has hh h2.next [i64 pid, i64 sig, .str nm, rv, .nils] ∧ IBuf g hh rv ns ∧ In (fun x => h2.next < x ∧ x < hh.next) rv ∧ Fix (· < h1.next) h1 hh ∧ h13.next ≤ hh.next ∧ p.xs.length ≤ xs.length ∧ ns.length + m ≤ k1 ∧ (ns ++ (rregsP m p).1, (rregsP m p).2) = rregsP k1 p5 ∧ ts.get 0 = some s ∧ ts.get 2 = some (.ptr h.next 0) ∧ ts.get 4 = some (.ptr h1.next 0) ∧ ts.get 5 = some (.ptr h2.next 0) ∧ ts.get 6 = some (.str hd) ∧ ts.get 7 = some (.int .i64 m)) ?_ ⟨_, p5, .nils, [], rfl, r13, b13, .nil, In.nils, F413, Nat.le_refl _, by omega, by simp, by simp, ?_, ?_, ?_, ?_, ?_, ?_⟩
        · rintro m fr hh ⟨ts, p, rv, ns, rfl, rd, bc, ib, inr, ff, nx, pl, nk, eqn, t0', t2', t4, t5, t6, t7⟩
          obtain ⟨bs, d1, d2, d3⟩ := rd
          have hflag : loadP (E g) hh 4 (.ptr h1.next 1) = some (.bool p.sh) := d1.at ty4 rfl 1
          have stop : ∀ {ts' : T V}, (ns, p) = rregsP k1 p5 → ts'.get 0 = some s → ts'.get 2 = some (.ptr h.next 0) → ts'.get 4 = some (.ptr h1.next 0) → ts'.get 5 = some (.ptr h2.next 0) → ts'.get 6 = some (.str hd) → ∃ ts p rv ns, (⟨ts', 143, [], 11, none⟩ : Fr) = ⟨ts, 143, [], 11, none⟩ ∧ RdP g hh (· < h.next) h1.next p ∧ Has hh h2.next [i64 pid, i64 sig, .str nm, rv, .nils] ∧ IBuf g hh rv ns ∧ In (fun x => h2.next < x ∧ x < hh.next) rv ∧ Fix (· < h1.next) h1 hh ∧ h13.next ≤ hh.next ∧ p.xs.length ≤ xs.length ∧ ns.length ≤ k1 ∧ (ns, p) = rregsP k1 p5 ∧ ts.get 0 = some s ∧ ts.get 2 = some (.ptr h.next 0) ∧ ts.get 4 = some (.ptr h1.next 0) ∧ ts.get 5 = some (.ptr h2.next 0) ∧ ts.get 6 = some (.str hd) :=
            fun e0 a b c d e => ⟨_, p, rv, ns, rfl, ⟨bs, d1, d2, d3⟩, bc, ib, inr, ff, nx, pl, by omega, e0, a, b, c, d, e⟩
          cases m with
          | zero =>
            have hz : decide ((0 : Int) < ((0 : Nat) : Int)) = false := rfl
            ((repeat refine WC.seq ?_); refine WC.run ?_)
            (try simp only [wk, wl, Then, Blk, pickV, Nat.reduceLT, Nat.reduceEqDiff, Nat.reduceBEq, reduceIte, isConst, nilCheckV, extractV, wantJ, nth, t4, t7, fa89_1, Nat.zero_add, hflag, hz])
            (repeat refine WC.seq ?_)
            refine WC.cond (b := false) (by (try simp only [wk, wl, Then, Blk, pickV, Nat.reduceLT, Nat.reduceEqDiff, Nat.reduceBEq, reduceIte, isConst, nilCheckV, extractV, wantJ, nth]); (try simp); (try omega)) (WC.exit ?_)
            (try simp only [wk, wl, Then, Blk, pickV, Nat.reduceLT, Nat.reduceEqDiff, Nat.reduceBEq, reduceIte, isConst, nilCheckV, extractV, wantJ, nth])
            refine ⟨by trivial, stop (by simpa [rregsP] using eqn) ?_ ?_ ?_ ?_ ?_⟩ <;> (try simp only [wk, wl, Then, Blk, pickV, Nat.reduceLT, Nat.reduceEqDiff, Nat.reduceBEq, reduceIte, isConst, nilCheckV, extractV, wantJ, nth, t0', t2', t4, t5, t6])
          | succ j =>
            have hz : decide ((0 : Int) < ((j + 1 : Nat) : Int)) = true := decide_eq_true (by omega)
            by_cases hsh : p.sh = true
            · rw [hsh] at hflag
              ((repeat refine WC.seq ?_); refine WC.run ?_)
              (try simp only [wk, wl, Then, Blk, pickV, Nat.reduceLT, Nat.reduceEqDiff, Nat.reduceBEq, reduceIte, isConst, nilCheckV, extractV, wantJ, nth, t4, t7, fa89_1, Nat.zero_add, hflag, hz, Bool.not_true])
              (repeat refine WC.seq ?_)
              refine WC.cond (b := false) (by (try simp only [wk, wl, Then, Blk, pickV, Nat.reduceLT, Nat.reduceEqDiff, Nat.reduceBEq, reduceIte, isConst, nilCheckV, extractV, wantJ, nth]); (try simp); (try omega)) (WC.exit ?_)
              (try simp only [wk, wl, Then, Blk, pickV, Nat.reduceLT, Nat.reduceEqDiff, Nat.reduceBEq, reduceIte, isConst, nilCheckV, extractV, wantJ, nth])
              refine ⟨by trivial, stop (by simpa [rregsP, hsh] using eqn) ?_ ?_ ?_ ?_ ?_⟩ <;> (try simp only [wk, wl, Then, Blk, pickV, Nat.reduceLT, Nat.reduceEqDiff, Nat.reduceBEq, reduceIte, isConst, nilCheckV, extractV, wantJ, nth, t0', t2', t4, t5, t6])
            · have hsh' : p.sh = false := by simpa using hsh
              rw [hsh'] at hflag
              ((repeat refine WC.seq ?_); refine WC.run ?_)
              (try simp only [wk, wl, Then, Blk, pickV, Nat.reduceLT, Nat.reduceEqDiff, Nat.reduceBEq, reduceIte, isConst, nilCheckV, extractV, wantJ, nth, t4, t7, fa89_1, Nat.zero_add, hflag, hz, Bool.not_false])
              (repeat refine WC.seq ?_)
              refine WC.cond (b := true) (by (try simp only [wk, wl, Then, Blk, pickV, Nat.reduceLT, Nat.reduceEqDiff, Nat.reduceBEq, reduceIte, isConst, nilCheckV, extractV, wantJ, nth]); (try simp); (try omega)) (WC.skip ?_)
              (try simp only [wk, wl, Then, Blk, pickV, Nat.reduceLT, Nat.reduceEqDiff, Nat.reduceBEq, reduceIte, isConst, nilCheckV, extractV, wantJ, nth])
              have hrv : loadP (E g) hh 22 (.ptr h2.next 3) = some rv := bc.at ty22 rfl 3
              (repeat refine WC.seq ?_)
              refine WC.block ?_
              ((repeat refine WC.seq ?_); refine WC.draw (plans := pl11_11) (by kernel_rfl) ?_; simp only [pl11_11, List.mem_cons, List.not_mem_nil, or_false, forall_eq_or_imp, forall_eq])
              (try simp only [wk, wl, Then, Blk, pickV, Nat.reduceLT, Nat.reduceEqDiff, Nat.reduceBEq, reduceIte, isConst, nilCheckV, extractV, wantJ, nth, wd, Chk, and_true, true_and, t4, t5, fa25_3, Nat.zero_add, hrv])
              refine (rtk_ok (n := 8) (p := p) ⟨bs, d1, d2, d3⟩ (by omega) (by omega) (by omega)).mono fun v14 h14 ⟨⟨a14, i14⟩, r14, n14, f14⟩ => ?_
              have l14 := rtak_xs 8 p
              have l14 : (rnum 8 p).2.xs.length ≤ p.xs.length := l14
              have t14 := rtak_le 8 p
              have bc14 := bc.fix f14 (by omega)
              have ib14 : IBuf g h14 rv ns := ib.fix (inr.sub fun x hx => by omega) f14
              have hrv : loadP (E g) h14 22 (.ptr h2.next 3) = some rv := bc14.at ty22 rfl 3
              (try simp only [wk, wl, Then, Blk, pickV, Nat.reduceLT, Nat.reduceEqDiff, Nat.reduceBEq, reduceIte, isConst, nilCheckV, extractV, wantJ, nth, wd, Chk, and_true, true_and, t4, t5, fa25_3, Nat.zero_add, hrv])
              refine (rg_ok a14 (by omega)).mono fun v14' h14 ⟨e14, e14'⟩ => ?_
              subst e14 e14'
              (try simp only [wk, wl, Then, Blk, pickV, Nat.reduceLT, Nat.reduceEqDiff, Nat.reduceBEq, reduceIte, isConst, nilCheckV, extractV, wantJ, nth, wd, Chk, and_true, true_and, t4, t5, fa25_3, Nat.zero_add, hrv])
              refine sat_slice1 ty22 rfl ty2 rfl rfl rfl ?_
              intro h15 b15 n15 f15
              have bc15 := bc14.fix f15 (by omega)
              have ib15 : IBuf g h15 rv ns := ib14.fix (inr.sub fun x hx => by omega) f15
              have hrv : loadP (E g) h15 22 (.ptr h2.next 3) = some rv := bc15.at ty22 rfl 3
              (try simp only [wk, wl, Then, Blk, pickV, Nat.reduceLT, Nat.reduceEqDiff, Nat.reduceBEq, reduceIte, isConst, nilCheckV, extractV, wantJ, nth, wd, Chk, and_true, true_and, t4, t5, fa25_3, Nat.zero_add, hrv])
              refine sat_grow ib15 (inr.sub fun x hx => by omega) ty22 rfl ty22 (.inl ⟨_, rfl⟩) ty2 rfl (by decide) (by decide) b15.sl.len b15.sl.cells rfl rfl (by show (_ + _) * 8 ≤ _; omega) ?_
              intro rv' h16 g16
              have x16 := g16.fix.next
              have neb : ∀ c, c ≤ h2.next → ∀ o m cc, rv ≠ .slice c o m cc := fun c hc o m cc e => by have := inr _ _ _ _ e; omega
              have bc16 := bc15.fix g16.fix ⟨by omega, neb _ (Nat.le_refl _)⟩
              have hrv : loadP (E g) h16 22 (.ptr h2.next 3) = some rv := bc16.at ty22 rfl 3
              (try simp only [wk, wl, Then, Blk, pickV, Nat.reduceLT, Nat.reduceEqDiff, Nat.reduceBEq, reduceIte, isConst, nilCheckV, extractV, wantJ, nth, wd, Chk, and_true, true_and, t4, t5, fa25_3, Nat.zero_add, hrv])
              have one' := Sl.one g16.buf.sl
              refine sat_store bc16 ty22 (by rw [one'.1]; rfl) (by simp) (by rw [one'.1]; simp [one'.2]) ?_
              intro h17 b17 n17 f17
              rw [one'.1] at b17
              have b17 : Has h17 h2.next [i64 pid, i64 sig, .str nm, rv', .nils] := b17
              (try simp only [wk, wl, Then, Blk, pickV, Nat.reduceLT, Nat.reduceEqDiff, Nat.reduceBEq, reduceIte, isConst, nilCheckV, extractV, wantJ, nth, wd, Chk, and_true, true_and])
              obtain ⟨bs14, c1, c2, c3⟩ := r14
              have own' : In (fun x => h2.next < x ∧ x < h16.next) rv' := fun x o n c e => by
                refine ⟨?_, g16.low _ _ _ _ e⟩
                rcases g16.own _ _ _ _ e with q | ⟨o, k, c, q⟩
                · omega
                · exact (inr _ _ _ _ q).1
              have ib17 : IBuf g h17 rv' (ns ++ [W (rnum 8 p).1]) := by
                have := Buf.fix g16.buf (own'.sub fun x hx => by omega) f17
                unfold IBuf
                rw [List.length_append, List.map_append]
                exact this
              have ff17 : Fix (· < h1.next) h1 h17 := ⟨by omega, fun c hc => by rw [f17.same c (by omega), g16.fix.same c ⟨by omega, neb c (by omega)⟩, f15.same c (by omega), f14.same c (by omega), ff.same c hc]⟩
              ((repeat refine WC.seq ?_); refine WC.run ?_)
              (try simp only [wk, wl, Then, Blk, pickV, Nat.reduceLT, Nat.reduceEqDiff, Nat.reduceBEq, reduceIte, isConst, nilCheckV, extractV, wantJ, nth, t7, bin_sub])
              have eq2 : (ns ++ [W (rnum 8 p).1] ++ (rregsP j (rnum 8 p).2).1, (rregsP j (rnum 8 p).2).2) = rregsP k1 p5 := by
                rw [← eqn, rregsP, if_neg hsh]
                simp only [List.append_assoc, List.singleton_append]
              refine ⟨j, by omega, _, (rnum 8 p).2, rv', ns ++ [W (rnum 8 p).1], rfl, ⟨bs14, ?_, ?_, c3⟩, b17, ib17, own'.sub fun x hx => by omega, ff17, by omega, by omega, by simp; omega, eq2, ?_⟩
              · exact ((c1.fix f15 (by omega)).fix g16.fix ⟨by omega, neb _ (by omega)⟩).fix f17 (by omega)
              · exact Sl.fix (Sl.fix (Sl.fix c2 (c3.sub fun x hx => by omega) f15) (c3.sub fun x hx => ⟨by omega, neb x (by omega)⟩) g16.fix) (c3.sub fun x hx => by omega) f17
              (try simp only [wk, wl, Then, Blk, pickV, Nat.reduceLT, Nat.reduceEqDiff, Nat.reduceBEq, reduceIte, isConst, nilCheckV, extractV, wantJ, nth, t0', t2', t4, t5, t6])
              refine ⟨trivial, trivial, trivial, trivial, trivial, ?_⟩
              have e9 : IntKind.i64.wrap (((j + 1 : Nat) : Int) - 1) = (j : Int) := by rw [wrap64 (by omega) (by omega)]; omega
              rw [e9]
        all_goals (try simp only [wk, wl, Then, Blk, pickV, Nat.reduceLT, Nat.reduceEqDiff, Nat.reduceBEq, reduceIte, isConst, nilCheckV, extractV, wantJ, nth])
      · rintro e fr hh ⟨rfl, ts, p, rv, ns, rfl, rd, bc, ib, inr, ff, nx, pl, nk, eqn, t0', t2', t4, t5, t6⟩
        (try simp only [wk, wl, Then, Blk, pickV, Nat.reduceLT, Nat.reduceEqDiff, Nat.reduceBEq, reduceIte, isConst, nilCheckV, extractV, wantJ, nth])
        -- how many parts of memory
        ((repeat refine WC.seq ?_); refine WC.run ?_)
        (try simp only [wk, wl, Then, Blk, pickV, Nat.reduceLT, Nat.reduceEqDiff, Nat.reduceBEq, reduceIte, isConst, nilCheckV, extractV, wantJ, nth, t4])
        refine (rtk_ok (n := 2) rd (by omega) (by omega) (by omega)).mono fun v18 h18 ⟨⟨a18, i18⟩, r18, n18, f18⟩ => ?_
        have l18 := rtak_xs 2 p
        have m18 := rnum_lt 2 p
        have t18 := rtak_le 2 p
        (try simp only [wk, wl, Then, Blk, pickV, Nat.reduceLT, Nat.reduceEqDiff, Nat.reduceBEq, reduceIte, isConst, nilCheckV, extractV, wantJ, nth])
        refine (rg_ok a18 (by omega)).mono fun v18' h18 ⟨e18, e18'⟩ => ?_
        subst e18 e18'
        unfold rnum at m18
        rw [W_small (by omega)]
        generalize hk2 : leN (rtak 2 p).1 = k2 at *
        generalize hp6 : (rtak 2 p).2 = p6 at *
        have b18 := bc.fix f18 (by omega)
        have ib18 : IBuf g h18 rv ns := ib.fix (inr.sub fun x hx => by omega) f18
        have F418 : Fix (· < h1.next) h1 h18 := ⟨by omega, fun c hc => by rw [f18.same c (by omega), ff.same c hc]⟩
        (try simp only [wk, wl, Then, Blk, pickV, Nat.reduceLT, Nat.reduceEqDiff, Nat.reduceBEq, reduceIte, isConst, nilCheckV, extractV, wantJ, nth])
        (repeat refine WC.seq ?_)
        refine WC.mono (Q := fun e fr hh => e = .normal ∧ ∃ ts p mv L, fr = ⟨ts, 143, [], 11, none⟩ ∧ MInvR g h h1 h2 xs pid sig nm rv ns hh p mv L ∧ ((L.map (·.1), p) : List Mem × PS) = rmemsP k2 p6 ∧ L.length ≤ k2 ∧ ts.get 0 = some s ∧ ts.get 2 = some (.ptr h.next 0) ∧ ts.get 4 = some (.ptr h1.next 0) ∧ ts.get 5 = some (.ptr h2.next 0) ∧ ts.get 6 = some (.str hd)) ?_ ?_
        · refine WC.block ?_
          refine WC.while (m := k2) (fun m fr hh => ∃ ts p mv L, fr = ⟨ts, 143, [], 11, none⟩ ∧ MInvR g h h1 h2 xs pid sig nm rv ns hh p mv L ∧ ((L.map (·.1) ++ (rmemsP m p).1, (rmemsP m p).2) : List Mem × PS) = rmemsP k2 p6 ∧ L.length + m ≤ k2 ∧ ts.get 0 = some s ∧ ts.get 2 = some (.ptr h.next 0) ∧ ts.get 4 = some (.ptr h1.next 0) ∧ ts.get 5 = some (.ptr h2.next 0) ∧ ts.get 6 = some (.str hd) ∧ ts.get 8 = some (.int .i64 m)) ?_ ⟨_, p6, .nils, [], rfl, ⟨r18, b18, ib18, .nil, (fun _ h => by cases h), inr.sub fun x hx => ⟨hx.1, by omega, fun o m c e => by cases e⟩, In.nils, (fun _ h => by cases h), F418, by omega, by omega⟩, by simp, by simp, ?_, ?_, ?_, ?_, ?_, ?_⟩
          · rintro m fr hh ⟨ts, p, mv, L, rfl, I, eqn2, nk2, t0', t2', t4, t5, t6, t8⟩
            obtain ⟨bs, d1, d2, d3⟩ := I.rd
            have hflag : loadP (E g) hh 4 (.ptr h1.next 1) = some (.bool p.sh) := d1.at ty4 rfl 1
            cases m with
            | zero =>
              have hz : decide ((0 : Int) < ((0 : Nat) : Int)) = false := rfl
              ((repeat refine WC.seq ?_); refine WC.run ?_)
              (try simp only [wk, wl, Then, Blk, pickV, Nat.reduceLT, Nat.reduceEqDiff, Nat.reduceBEq, reduceIte, isConst, nilCheckV, extractV, wantJ, nth, t4, t8, fa89_1, Nat.zero_add, hflag, hz])
              (repeat refine WC.seq ?_)
              refine WC.cond (b := false) (by (try simp only [wk, wl, Then, Blk, pickV, Nat.reduceLT, Nat.reduceEqDiff, Nat.reduceBEq, reduceIte, isConst, nilCheckV, extractV, wantJ, nth]); (try simp); (try omega)) (WC.exit ?_)
              (try simp only [wk, wl, Then, Blk, pickV, Nat.reduceLT, Nat.reduceEqDiff, Nat.reduceBEq, reduceIte, isConst, nilCheckV, extractV, wantJ, nth])
              refine ⟨by trivial, _, p, mv, L, rfl, I, by simpa [rmemsP] using eqn2, by omega, ?_, ?_, ?_, ?_, ?_⟩ <;> (try simp only [wk, wl, Then, Blk, pickV, Nat.reduceLT, Nat.reduceEqDiff, Nat.reduceBEq, reduceIte, isConst, nilCheckV, extractV, wantJ, nth, t0', t2', t4, t5, t6])
            | succ j =>
              have hz : decide ((0 : Int) < ((j + 1 : Nat) : Int)) = true := decide_eq_true (by omega)
              by_cases hsh : p.sh = true
              · rw [hsh] at hflag
                ((repeat refine WC.seq ?_); refine WC.run ?_)
                (try simp only [wk, wl, Then, Blk, pickV, Nat.reduceLT, Nat.reduceEqDiff, Nat.reduceBEq, reduceIte, isConst, nilCheckV, extractV, wantJ, nth, t4, t8, fa89_1, Nat.zero_add, hflag, hz, Bool.not_true])
                (repeat refine WC.seq ?_)
                refine WC.cond (b := false) (by (try simp only [wk, wl, Then, Blk, pickV, Nat.reduceLT, Nat.reduceEqDiff, Nat.reduceBEq, reduceIte, isConst, nilCheckV, extractV, wantJ, nth]); (try simp); (try omega)) (WC.exit ?_)
                (try simp only [wk, wl, Then, Blk, pickV, Nat.reduceLT, Nat.reduceEqDiff, Nat.reduceBEq, reduceIte, isConst, nilCheckV, extractV, wantJ, nth])
                refine ⟨by trivial, _, p, mv, L, rfl, I, by simpa [rmemsP, hsh] using eqn2, by omega, ?_, ?_, ?_, ?_, ?_⟩ <;> (try simp only [wk, wl, Then, Blk, pickV, Nat.reduceLT, Nat.reduceEqDiff, Nat.reduceBEq, reduceIte, isConst, nilCheckV, extractV, wantJ, nth, t0', t2', t4, t5, t6])
              · have hsh' : p.sh = false := by simpa using hsh
                rw [hsh'] at hflag
                ((repeat refine WC.seq ?_); refine WC.run ?_)
                (try simp only [wk, wl, Then, Blk, pickV, Nat.reduceLT, Nat.reduceEqDiff, Nat.reduceBEq, reduceIte, isConst, nilCheckV, extractV, wantJ, nth, t4, t8, fa89_1, Nat.zero_add, hflag, hz, Bool.not_false])
                (repeat refine WC.seq ?_)
                refine WC.cond (b := true) (by (try simp only [wk, wl, Then, Blk, pickV, Nat.reduceLT, Nat.reduceEqDiff, Nat.reduceBEq, reduceIte, isConst, nilCheckV, extractV, wantJ, nth]); (try simp); (try omega)) (WC.skip ?_)
                (try simp only [wk, wl, Then, Blk, pickV, Nat.reduceLT, Nat.reduceEqDiff, Nat.reduceBEq, reduceIte, isConst, nilCheckV, extractV, wantJ, nth])
                have h47 : h1.next < h2.next := by omega
                have Inx := I.nx
                have Ilen := I.len
                (repeat refine WC.seq ?_)
                refine WC.block ?_
                ((repeat refine WC.seq ?_); refine WC.run ?_)
                (try simp only [wk, wl, Then, Blk, pickV, Nat.reduceLT, Nat.reduceEqDiff, Nat.reduceBEq, reduceIte, isConst, nilCheckV, extractV, wantJ, nth, t4])
                refine (rtk_ok (n := 8) I.rd (by omega) (by omega) (by omega)).mono fun v20 h20 ⟨⟨a20, i20⟩, r20, n20, f20⟩ => ?_
                have l20 : (rnum 8 p).2.xs.length ≤ p.xs.length := rtak_xs 8 p
                have t20 := rtak_le 8 p
                (try simp only [wk, wl, Then, Blk, pickV, Nat.reduceLT, Nat.reduceEqDiff, Nat.reduceBEq, reduceIte, isConst, nilCheckV, extractV, wantJ, nth])
                refine (rg_ok a20 (by omega)).mono fun v20' h20 ⟨e20, e20'⟩ => ?_
                subst e20 e20'
                have I20 := I.go f20 (fun x a b => b) (p' := (rnum 8 p).2) r20 (by omega) h47
                have x20 := f20.next
                have hb46 : buildV (E g) 46 [(0, .int .i64 (W (leN (rtak 8 p).1)))] = some (.agg [i64 (W (rnum 8 p).1), .nils]) := build46
                (try simp only [wk, wl, Then, Blk, pickV, Nat.reduceLT, Nat.reduceEqDiff, Nat.reduceBEq, reduceIte, isConst, nilCheckV, extractV, wantJ, nth, hb46])
                refine wop_alloc ty46 ?_
                intro h21 b21 n21 f21
                (try simp only [wk, wl, Then, Blk, pickV, Nat.reduceLT, Nat.reduceEqDiff, Nat.reduceBEq, reduceIte, isConst, nilCheckV, extractV, wantJ, nth])
                refine sat_store b21 ty46 rfl (by decide) rfl ?_
                intro h22 b22 n22 f22
                have b22 : Has h22 h20.next [i64 (W (rnum 8 p).1), .nils] := b22
                have F22 : Kept h20 h22 := ⟨by omega, fun c hc => by rw [f22.same c (by omega), f21.same c hc]⟩
                have I22 := I20.go F22 (fun x a _ => a) (Rd.fix I20.rd F22 (by omega) (fun x hx => by omega)) I20.len h47
                (try simp only [wk, wl, Then, Blk, pickV, Nat.reduceLT, Nat.reduceEqDiff, Nat.reduceBEq, reduceIte, isConst, nilCheckV, extractV, wantJ, nth])
                ((repeat refine WC.seq ?_); refine WC.run ?_)
                (try simp only [wk, wl, Then, Blk, pickV, Nat.reduceLT, Nat.reduceEqDiff, Nat.reduceBEq, reduceIte, isConst, nilCheckV, extractV, wantJ, nth])
                refine sat_slice0 ty26 rfl ty5 rfl (by decide) ?_
                intro hA bA nA fA
                have IA := I22.go fA (fun x a _ => a) (Rd.fix I22.rd fA (by omega) (fun x hx => by omega)) I22.len h47
                have bmA := b22.fix fA (by omega)
                (try simp only [wk, wl, Then, Blk, pickV, Nat.reduceLT, Nat.reduceEqDiff, Nat.reduceBEq, reduceIte, isConst, nilCheckV, extractV, wantJ, nth, t4])
                refine (rtk_ok (n := 4) IA.rd (by omega) (by omega) (by omega)).mono fun v23 h23 ⟨⟨a23, i23⟩, r23, n23, f23⟩ => ?_
                have l23 : (rnum 4 (rnum 8 p).2).2.xs.length ≤ (rnum 8 p).2.xs.length := rtak_xs 4 (rnum 8 p).2
                have m23 := rnum_lt 4 (rnum 8 p).2
                have t23 := rtak_le 4 (rnum 8 p).2
                (try simp only [wk, wl, Then, Blk, pickV, Nat.reduceLT, Nat.reduceEqDiff, Nat.reduceBEq, reduceIte, isConst, nilCheckV, extractV, wantJ, nth])
                refine (rg_ok a23 (by omega)).mono fun v23' h23 ⟨e23, e23'⟩ => ?_
                subst e23 e23'
                have I23 := IA.go f23 (fun x _ b => b) (p' := (rnum 4 (rnum 8 p).2).2) r23 (by omega) h47
                have b23 := bmA.fix f23 (by omega)
                have inA : In (fun x => x = h22.next) (.slice h22.next 0 0 (.lit 0)) := fun x o m c e => by cases e; rfl
                have sl23 := bA.fix (inA.sub fun x hx => by omega) f23
                rw [show W (leN (rtak 4 (rnum 8 p).2).1) = (((rnum 4 (rnum 8 p).2).1 : Nat) : Int) from W_small (n := (rnum 4 (rnum 8 p).2).1) (by omega)]
                (try simp only [wk, wl, Then, Blk, pickV, Nat.reduceLT, Nat.reduceEqDiff, Nat.reduceBEq, reduceIte, isConst, nilCheckV, extractV, wantJ, nth, t4])
                refine (rtk_ok I23.rd (by omega) (by omega) (by omega)).mono fun v24 h24 ⟨⟨a24, i24⟩, r24, nx24, f24⟩ => ?_
                have l24 := rtak_xs (rnum 4 (rnum 8 p).2).1 (rnum 4 (rnum 8 p).2).2
                have k24 := rtak_len (rnum 4 (rnum 8 p).2).1 (rnum 4 (rnum 8 p).2).2
                have I24 := I23.go f24 (fun x _ b => b) r24 (by omega) h47
                have b24 := b23.fix f24 (by omega)
                have sl24 := sl23.fix (inA.sub fun x hx => by omega) f24
                (try simp only [wk, wl, Then, Blk, pickV, Nat.reduceLT, Nat.reduceEqDiff, Nat.reduceBEq, reduceIte, isConst, nilCheckV, extractV, wantJ, nth])
                refine app_ok (xs := []) (Grew.refl sl24 (inA.sub fun x hx => by omega)) ty26 (.inl ⟨_, rfl⟩) (Sl.len a24) a24.cells (by simp; omega) ?_
                intro v25 h25 g25 fx25
                have x25 := fx25.next
                have neA : ∀ c, c ≠ h22.next → ∀ o m cc, (V.slice h22.next 0 0 (.lit 0)) ≠ .slice c o m cc := fun c hc o m cc e => hc (inA _ _ _ _ e)
                have b25 := b24.fix fx25 ⟨by omega, neA _ (by omega)⟩
                (try simp only [wk, wl, Then, Blk, pickV, Nat.reduceLT, Nat.reduceEqDiff, Nat.reduceBEq, reduceIte, isConst, nilCheckV, extractV, wantJ, nth, fa46_1, Nat.zero_add])
                have one25 := Sl.one g25.buf.sl
                refine sat_store b25 ty26 (by rw [one25.1]; rfl) (by simp) (by rw [one25.1]; simp [one25.2]) ?_
                intro h26 b26 n26 f26
                rw [one25.1] at b26
                have b26 : Has h26 h20.next [i64 (W (rnum 8 p).1), v25] := b26
                have f2426 : Fix (· < h20.next) h24 h26 := ⟨by omega, fun c hc => by rw [f26.same c (by omega), fx25.same c ⟨by omega, neA _ (by omega)⟩]⟩
                have ne26 : ∀ x o m c, v25 = .slice x o m c → x ≠ h20.next ∧ x < h25.next ∧ h22.next ≤ x := fun x o m c e => by
                  have := g25.low _ _ _ _ e
                  rcases g25.own _ _ _ _ e with q | ⟨o, k, c, q⟩
                  · omega
                  · have := inA _ _ _ _ q; omega
                (try simp only [wk, wl, Then, Blk, pickV, Nat.reduceLT, Nat.reduceEqDiff, Nat.reduceBEq, reduceIte, isConst, nilCheckV, extractV, wantJ, nth])
                have R26 : RdP g h26 (· < h.next) h1.next (rmemP p).2 := Rd.fix I24.rd f2426 (by omega) (fun x hx => by omega)
                have d26 : Bs g h26 v25 (rmemP p).1.data := Sl.fix g25.buf.sl (fun x o m c e => (ne26 x o m c e).1) f26
                have bc26 := I24.co.fix f2426 (by omega)
                have ib26 : IBuf g h26 rv ns := I24.ib.fix (I.inR.sub fun x hx => by have := hx.2.1; omega) f2426
                have mb26 : Buf (E g) h26 46 2 mv L.length (flat L) := I24.mb.fix (I.inM.sub fun x hx => by omega) f2426
                have da26 : ∀ q ∈ L, Bs g h26 q.2 q.1.data := fun q hq => Sl.fix (I24.dat q hq) ((I.inL q hq).sub fun x hx => by have := hx.2.1; omega) f2426
                have hmv : loadP (E g) h26 23 (.ptr h2.next 4) = some mv := bc26.at ty23 rfl 4
                have hm : loadP (E g) h26 46 (.ptr h20.next 0) = some (.agg [i64 (W (rnum 8 p).1), v25]) := b26.agg ty46 rfl (o := 0) (Nat.le_refl 2)
                ((repeat refine WC.seq ?_); refine WC.run ?_)
                (try simp only [wk, wl, Then, Blk, pickV, Nat.reduceLT, Nat.reduceEqDiff, Nat.reduceBEq, reduceIte, isConst, nilCheckV, extractV, wantJ, nth, t5, fa25_4, Nat.zero_add, hmv, hm])
                refine sat_buildSlice (cs := [i64 (W (rnum 8 p).1), v25]) (n := 1) ty23 rfl ty46 rfl (by decide) (by decide) fill_two rfl ?_
                intro h27 b27 n27 f27
                have neb : ∀ c, c ≤ h2.next → ∀ o m cc, mv ≠ .slice c o m cc := fun c hc o m cc e => by have := I.inM _ _ _ _ e; omega
                have neb2 : ∀ c, hh.next ≤ c → ∀ o m cc, mv ≠ .slice c o m cc := fun c hc o m cc e => by have := I.inM _ _ _ _ e; omega
                have x26 : h26.next = h25.next := n26
                have hle : hh.next ≤ h26.next := by omega
                have mb27 : Buf (E g) h27 46 2 mv L.length (flat L) := mb26.fix (I.inM.sub fun x hx => by omega) f27
                have bc27 := bc26.fix f27 (by omega)
                (try simp only [wk, wl, Then, Blk, pickV, Nat.reduceLT, Nat.reduceEqDiff, Nat.reduceBEq, reduceIte, isConst, nilCheckV, extractV, wantJ, nth, t5, fa25_4, Nat.zero_add, hmv, hm])
                refine sat_grow mb27 (I.inM.sub fun x hx => by omega) ty23 rfl ty23 (.inl ⟨_, rfl⟩) ty46 rfl (by decide) (by decide) b27.sl.len b27.sl.cells rfl (by simp only [List.all_cons, List.all_nil, one25.2, Bool.and_true]; rfl) (by show (_ + _) * 32 ≤ _; omega) ?_
                intro mv' h28 g28
                have x28 := g28.fix.next
                have bc28 := bc27.fix g28.fix ⟨by omega, neb _ (Nat.le_refl _)⟩
                have one' := Sl.one g28.buf.sl
                (try simp only [wk, wl, Then, Blk, pickV, Nat.reduceLT, Nat.reduceEqDiff, Nat.reduceBEq, reduceIte, isConst, nilCheckV, extractV, wantJ, nth, t5, fa25_4, Nat.zero_add])
                refine sat_store bc28 ty23 (by rw [one'.1]; rfl) (by simp) (by rw [one'.1]; simp [one'.2]) ?_
                intro h29 b29 n29 f29
                rw [one'.1] at b29
                have b29 : Has h29 h2.next [i64 pid, i64 sig, .str nm, rv, mv'] := b29
                (try simp only [wk, wl, Then, Blk, pickV, Nat.reduceLT, Nat.reduceEqDiff, Nat.reduceBEq, reduceIte, isConst, nilCheckV, extractV, wantJ, nth])
                have own' : In (fun x => h2.next < x ∧ x < h29.next ∧ (hh.next ≤ x ∧ h27.next ≤ x ∨ ∃ o m c, mv = .slice x o m c)) mv' := fun x o n c e => by
                  have e1 := g28.low _ _ _ _ e
                  rcases g28.own _ _ _ _ e with q | ⟨o, k, c, q⟩
                  · exact ⟨by omega, by omega, .inl ⟨by omega, q⟩⟩
                  · exact ⟨(I.inM _ _ _ _ q).1, by omega, .inr ⟨_, _, _, q⟩⟩
                have nsame : ∀ x, x < h27.next → (∀ o m c, mv ≠ .slice x o m c) → ∀ o m c, mv' ≠ .slice x o m c := fun x hx hq o m c e => by
                  rcases (own' _ _ _ _ e).2.2 with q | ⟨o, m, c, q⟩
                  · omega
                  · exact hq _ _ _ q
                have F29 : Fix (fun x => x < h26.next ∧ x ≠ h2.next ∧ ∀ o m c, mv ≠ .slice x o m c) h26 h29 :=
                  ⟨by omega, fun c hc => by rw [f29.same c hc.2.1, g28.fix.same c ⟨by omega, hc.2.2⟩, f27.same c hc.1]⟩
                have I29 : MInvR g h h1 h2 xs pid sig nm rv ns h29 (rmemP p).2 mv' (L ++ [((rmemP p).1, v25)]) := by
                  refine ⟨Rd.fix R26 F29 ⟨by omega, by omega, neb _ (by omega)⟩ (fun x hx => ⟨by omega, by omega, neb _ (by omega)⟩), b29, ib26.fix (I.inR.sub fun x hx => ⟨by have := hx.2.1; omega, by omega, hx.2.2⟩) F29, ?_, ?_, ?_, ?_, ?_, ?_, by omega, ?_⟩
                  · have := Buf.fix g28.buf (own'.sub fun x hx => by omega) f29
                    rw [List.length_append, show flat (L ++ [((rmemP p).1, v25)]) = flat L ++ [i64 (W (rnum 8 p).1), v25] by simp [flat, rmemP]]
                    exact this
                  · intro q hq
                    rcases List.mem_append.1 hq with hq | hq
                    · exact Sl.fix (da26 q hq) ((I.inL q hq).sub fun x hx => ⟨by have := hx.2.1; omega, by omega, hx.2.2⟩) F29
                    · rw [List.mem_singleton] at hq; subst hq
                      exact Sl.fix d26 (fun x o m c e => by
                        have := ne26 x o m c e
                        exact ⟨by omega, by omega, neb2 _ (by omega)⟩) F29
                  · exact I.inR.sub fun x hx => ⟨hx.1, by have := hx.2.1; omega, nsame x (by have := hx.2.1; omega) hx.2.2⟩
                  · exact own'.sub fun x hx => ⟨hx.1, hx.2.1⟩
                  · intro q hq
                    rcases List.mem_append.1 hq with hq | hq
                    · exact (I.inL q hq).sub fun x hx => ⟨hx.1, by have := hx.2.1; omega, nsame x (by have := hx.2.1; omega) hx.2.2⟩
                    · rw [List.mem_singleton] at hq; subst hq
                      intro x o m c e
                      have := ne26 x o m c e
                      exact ⟨by omega, by omega, nsame x (by omega) (neb2 _ (by omega))⟩
                  · exact ⟨by omega, fun c hc => by rw [F29.same c ⟨by omega, by omega, neb _ (by omega)⟩, f2426.same c (by omega), I24.fix.same c hc]⟩
                  · have : (rmemP p).2.xs.length ≤ p.xs.length := by unfold rmemP; simp only; omega
                    omega
                ((repeat refine WC.seq ?_); refine WC.run ?_)
                (try simp only [wk, wl, Then, Blk, pickV, Nat.reduceLT, Nat.reduceEqDiff, Nat.reduceBEq, reduceIte, isConst, nilCheckV, extractV, wantJ, nth, t8, bin_sub])
                have eq3 : ((L ++ [((rmemP p).1, v25)]).map (·.1) ++ (rmemsP j (rmemP p).2).1, (rmemsP j (rmemP p).2).2) = rmemsP k2 p6 := by
                  rw [← eqn2, rmemsP, if_neg hsh]
                  simp only [List.map_append, List.map_cons, List.map_nil, List.append_assoc, List.singleton_append]
                refine ⟨j, by omega, _, _, mv', _, rfl, I29, eq3, by simp; omega, ?_⟩
                (try simp only [wk, wl, Then, Blk, pickV, Nat.reduceLT, Nat.reduceEqDiff, Nat.reduceBEq, reduceIte, isConst, nilCheckV, extractV, wantJ, nth, t0', t2', t4, t5, t6])
                refine ⟨trivial, trivial, trivial, trivial, trivial, ?_⟩
                have e9 : IntKind.i64.wrap (((j + 1 : Nat) : Int) - 1) = (j : Int) := by rw [wrap64 (by omega) (by omega)]; omega
                rw [e9]
          all_goals (try simp only [wk, wl, Then, Blk, pickV, Nat.reduceLT, Nat.reduceEqDiff, Nat.reduceBEq, reduceIte, isConst, nilCheckV, extractV, wantJ, nth, t0', t2', t4, t5, t6])
        · rintro e fr hh ⟨rfl, ts, p, mv, L, rfl, I, eqn2, nk2, t0', t2', t4, t5, t6⟩
          (try simp only [wk, wl, Then, Blk, pickV, Nat.reduceLT, Nat.reduceEqDiff, Nat.reduceBEq, reduceIte, isConst, nilCheckV, extractV, wantJ, nth])
          have hpk : rparseP xs = (hd, ⟨pid, sig, nm, ns, L.map (·.1)⟩, p) := by
            unfold rparseP rnum
            simp only [hhd, hp0, hpid, hp1, hsig, hp2, hn1, hp3, hnm, hp4, hk1, hp5, ← eqn, hk2, hp6, ← eqn2]
          have hrd : ∀ q : CoreD × Int, (if p.sh = false ∧ p.xs = [] ∧ hd = head ∧ checkE ⟨pid, sig, nm, ns, L.map (·.1)⟩ = 0 ∧ dumpB ⟨pid, sig, nm, ns, L.map (·.1)⟩ = b then (⟨pid, sig, nm, ns, L.map (·.1)⟩, 0) else (zeroC, 12)) = q → rreadP b = q := fun q hq => by
            unfold rreadP
            rw [if_neg (fun e => e.elim (fun e => by omega) (fun e => e hsum)), hxs, hpk]
            exact hq
          have Inx := I.nx
          obtain ⟨bsd, rd1, rd2, rd3⟩ := I.rd
          have hflag : loadP (E g) hh 4 (.ptr h1.next 1) = some (.bool p.sh) := rd1.at ty4 rfl 1
          have hbytes : loadP (E g) hh 26 (.ptr h1.next 0) = some bsd := rd1.at ty26 rfl 0
          have B0 : Has hh h.next [i64 0, i64 0, .str [], .nils, .nils] := b1.fix I.fix (by omega)
          have hK0 : Kept h hh := ⟨by have := I.fix.next; omega, fun c hc => by rw [I.fix.same c (by omega), f1.same c hc]⟩
          have fin1 : ∀ {h30 : H}, h30.next = hh.next → Fix (· ≠ h.next) hh h30 → rreadP b = (zeroC, 12) → ReadR g h (rreadP b) (.tuple [.agg [i64 0, i64 0, .str [], .nils, .nils], .int .i64 12]) h30 := fun hn hf hr => by
            rw [hr]
            exact ⟨_, rfl, ⟨by have := hK0.next; omega, fun c hc => by rw [hf.same c (by omega), hK0.same c hc]⟩, .nils, .nils, [], rfl, Sl.nil, ⟨Sl.nil, fun _ h => by cases h⟩, rfl, In.nils, In.nils, fun _ h => by cases h⟩
          cases hps : p.sh with
          | true =>
            rw [hps] at hflag
            ((repeat refine WC.seq ?_); refine WC.run ?_)
            (try simp only [wk, wl, Then, Blk, pickV, Nat.reduceLT, Nat.reduceEqDiff, Nat.reduceBEq, reduceIte, isConst, nilCheckV, extractV, wantJ, nth, t4, fa89_1, Nat.zero_add, hflag])
            (repeat refine WC.seq ?_)
            refine WC.cond (b := true) (by (try simp only [wk, wl, Then, Blk, pickV, Nat.reduceLT, Nat.reduceEqDiff, Nat.reduceBEq, reduceIte, isConst, nilCheckV, extractV, wantJ, nth]); (try simp); (try omega)) ?_
            ((repeat refine WC.seq ?_); refine WC.run ?_)
            (try simp only [wk, wl, Then, Blk, pickV, Nat.reduceLT, Nat.reduceEqDiff, Nat.reduceBEq, reduceIte, isConst, nilCheckV, extractV, wantJ, nth, t2', build25_0])
            refine sat_store B0 ty25 rfl (Nat.le_refl 5) rfl ?_
            intro h30 b30 n30 f30
            have b30 : Has h30 h.next [i64 0, i64 0, .str [], .nils, .nils] := b30
            (try simp only [wk, wl, Then, Blk, pickV, Nat.reduceLT, Nat.reduceEqDiff, Nat.reduceBEq, reduceIte, isConst, nilCheckV, extractV, wantJ, nth])
            refine WC.ret ?_
            (try simp only [wk, wl, Then, Blk, pickV, Nat.reduceLT, Nat.reduceEqDiff, Nat.reduceBEq, reduceIte, isConst, nilCheckV, extractV, wantJ, nth, t2', b30.agg ty25 rfl (o := 0) (Nat.le_refl 5)])
            exact fin1 n30 f30 (hrd _ (if_neg (fun e => by rw [hps] at e; cases e.1)))
          | false =>
            rw [hps] at hflag
            by_cases hxl0 : (0 : Int) < p.xs.length
            · ((repeat refine WC.seq ?_); refine WC.run ?_)
              (try simp only [wk, wl, Then, Blk, pickV, Nat.reduceLT, Nat.reduceEqDiff, Nat.reduceBEq, reduceIte, isConst, nilCheckV, extractV, wantJ, nth, t4, fa89_1, fa89_0, Nat.zero_add, hflag, hbytes, rd2.len, decide_eq_true hxl0])
              (repeat refine WC.seq ?_)
              refine WC.cond (b := true) (by (try simp only [wk, wl, Then, Blk, pickV, Nat.reduceLT, Nat.reduceEqDiff, Nat.reduceBEq, reduceIte, isConst, nilCheckV, extractV, wantJ, nth]); (try simp); (try omega)) ?_
              ((repeat refine WC.seq ?_); refine WC.run ?_)
              (try simp only [wk, wl, Then, Blk, pickV, Nat.reduceLT, Nat.reduceEqDiff, Nat.reduceBEq, reduceIte, isConst, nilCheckV, extractV, wantJ, nth, t2', build25_0])
              refine sat_store B0 ty25 rfl (Nat.le_refl 5) rfl ?_
              intro h30 b30 n30 f30
              have b30 : Has h30 h.next [i64 0, i64 0, .str [], .nils, .nils] := b30
              (try simp only [wk, wl, Then, Blk, pickV, Nat.reduceLT, Nat.reduceEqDiff, Nat.reduceBEq, reduceIte, isConst, nilCheckV, extractV, wantJ, nth])
              refine WC.ret ?_
              (try simp only [wk, wl, Then, Blk, pickV, Nat.reduceLT, Nat.reduceEqDiff, Nat.reduceBEq, reduceIte, isConst, nilCheckV, extractV, wantJ, nth, t2', b30.agg ty25 rfl (o := 0) (Nat.le_refl 5)])
              exact fin1 n30 f30 (hrd _ (if_neg (fun e => by have := e.2.1; rw [this] at hxl0; simp at hxl0)))
            have hnil : p.xs = [] := List.eq_nil_of_length_eq_zero (by omega)
            by_cases hcore : hd = head
            · have hcb : (hd == head) = true := by simp [hcore]
              ((repeat refine WC.seq ?_); refine WC.run ?_)
              (try simp only [wk, wl, Then, Blk, pickV, Nat.reduceLT, Nat.reduceEqDiff, Nat.reduceBEq, reduceIte, isConst, nilCheckV, extractV, wantJ, nth, t4, t6, fa89_1, fa89_0, Nat.zero_add, hflag, hbytes, rd2.len, decide_eq_false hxl0, str_neq])
              (repeat refine WC.seq ?_)
              refine WC.cond (b := false) (by (try simp only [wk, wl, Then, Blk, pickV, Nat.reduceLT, Nat.reduceEqDiff, Nat.reduceBEq, reduceIte, isConst, nilCheckV, extractV, wantJ, nth]); exact congrArg (fun x => some (V.bool !x)) hcb) (WC.skip ?_)
              have co : Co g hh (· < hh.next) (.agg [i64 pid, i64 sig, .str nm, rv, mv]) ⟨pid, sig, nm, ns, L.map (·.1)⟩ rv mv L :=
                ⟨rfl, I.ib.sl, ⟨I.mb.sl, I.dat⟩, rfl, I.inR.sub fun x hx => hx.2.1, I.inM.sub fun x hx => hx.2, fun q hq => (I.inL q hq).sub fun x hx => hx.2.1⟩
              ((repeat refine WC.seq ?_); refine WC.run ?_)
              (try simp only [wk, wl, Then, Blk, pickV, Nat.reduceLT, Nat.reduceEqDiff, Nat.reduceBEq, reduceIte, isConst, nilCheckV, extractV, wantJ, nth, t5, I.co.agg ty25 rfl (o := 0) (Nat.le_refl 5)])
              have hlL : (L.map (·.1)).length = L.length := by simp
              refine (rdump_ok co (by omega) (by show ns.length < _; omega)).mono fun vd hd' ⟨sd, ed, fd, hcase⟩ => ?_
              subst ed
              have xd := fd.next
              (try simp only [wk, wl, Then, Blk, pickV, Nat.reduceLT, Nat.reduceEqDiff, Nat.reduceBEq, reduceIte, isConst, nilCheckV, extractV, wantJ, nth])
              have cod := co.fix fd (fun _ h => h)
              have bd : Has hd' h2.next [i64 pid, i64 sig, .str nm, rv, mv] := I.co.fix fd Inx
              have b0 : Has hd' h.next [i64 0, i64 0, .str [], .nils, .nils] := B0.fix fd (by omega)
              have sb := Sl.fix (Sl.fix hb1 (hs.sub fun x hx => by omega) I.fix) (hs.sub fun x hx => by have := hK0.next; omega) fd
              have hK : Kept h hd' := ⟨by have := hK0.next; omega, fun c hc => by rw [fd.same c (by have := hK0.next; omega), hK0.same c hc]⟩
              have fin0 : ∀ {h30 : H}, h30.next = hd'.next → Fix (· ≠ h.next) hd' h30 → rreadP b = (zeroC, 12) → ReadR g h (rreadP b) (.tuple [.agg [i64 0, i64 0, .str [], .nils, .nils], .int .i64 12]) h30 := fun hn hf hr => by
                rw [hr]
                exact ⟨_, rfl, ⟨by have := hK.next; omega, fun c hc => by rw [hf.same c (by omega), hK.same c hc]⟩, .nils, .nils, [], rfl, Sl.nil, ⟨Sl.nil, fun _ h => by cases h⟩, rfl, In.nils, In.nils, fun _ h => by cases h⟩
              rcases hcase with ⟨e1, e2⟩ | ⟨e1, e2, e3, e4⟩
              · have hne : (checkE ⟨pid, sig, nm, ns, L.map (·.1)⟩ != 0) = true := by simp [e1]
                ((repeat refine WC.seq ?_); refine WC.run ?_)
                (try simp only [wk, wl, Then, Blk, pickV, Nat.reduceLT, Nat.reduceEqDiff, Nat.reduceBEq, reduceIte, isConst, nilCheckV, extractV, wantJ, nth, hne])
                (repeat refine WC.seq ?_)
                refine WC.cond (b := true) (by (try simp only [wk, wl, Then, Blk, pickV, Nat.reduceLT, Nat.reduceEqDiff, Nat.reduceBEq, reduceIte, isConst, nilCheckV, extractV, wantJ, nth]); (try simp); (try omega)) ?_
                ((repeat refine WC.seq ?_); refine WC.run ?_)
                (try simp only [wk, wl, Then, Blk, pickV, Nat.reduceLT, Nat.reduceEqDiff, Nat.reduceBEq, reduceIte, isConst, nilCheckV, extractV, wantJ, nth, t2', build25_0])
                refine sat_store b0 ty25 rfl (Nat.le_refl 5) rfl ?_
                intro h30 b30 n30 f30
                have b30 : Has h30 h.next [i64 0, i64 0, .str [], .nils, .nils] := b30
                (try simp only [wk, wl, Then, Blk, pickV, Nat.reduceLT, Nat.reduceEqDiff, Nat.reduceBEq, reduceIte, isConst, nilCheckV, extractV, wantJ, nth])
                refine WC.ret ?_
                (try simp only [wk, wl, Then, Blk, pickV, Nat.reduceLT, Nat.reduceEqDiff, Nat.reduceBEq, reduceIte, isConst, nilCheckV, extractV, wantJ, nth, t2', b30.agg ty25 rfl (o := 0) (Nat.le_refl 5)])
                exact fin0 n30 f30 (hrd _ (if_neg (fun e => e1 e.2.2.2.1)))
              · ((repeat refine WC.seq ?_); refine WC.run ?_)
                rw [e1]
                (try simp only [wk, wl, Then, Blk, pickV, Nat.reduceLT, Nat.reduceEqDiff, Nat.reduceBEq, reduceIte, isConst, nilCheckV, extractV, wantJ, nth])
                have hne : ((0 : Int) != 0) = false := rfl
                (try simp only [wk, wl, Then, Blk, pickV, Nat.reduceLT, Nat.reduceEqDiff, Nat.reduceBEq, reduceIte, isConst, nilCheckV, extractV, wantJ, nth, hne, t0', conv_str e2.sl, conv_str sb, str_neq])
                by_cases heq : dumpB ⟨pid, sig, nm, ns, L.map (·.1)⟩ = b
                · have heb : (dumpB ⟨pid, sig, nm, ns, L.map (·.1)⟩ == b) = true := by simp [heq]
                  (repeat refine WC.seq ?_)
                  refine WC.cond (b := false) (by (try simp only [wk, wl, Then, Blk, pickV, Nat.reduceLT, Nat.reduceEqDiff, Nat.reduceBEq, reduceIte, isConst, nilCheckV, extractV, wantJ, nth]); rw [heb]; rfl) (WC.skip ?_)
                  ((repeat refine WC.seq ?_); refine WC.run ?_)
                  (try simp only [wk, wl, Then, Blk, pickV, Nat.reduceLT, Nat.reduceEqDiff, Nat.reduceBEq, reduceIte, isConst, nilCheckV, extractV, wantJ, nth, t5, t2', bd.agg ty25 rfl (o := 0) (Nat.le_refl 5)])
                  refine sat_store b0 ty25 rfl (Nat.le_refl 5) (by show ([i64 pid, i64 sig, .str nm, rv, mv] : List V).all V.one = true; simp only [List.all_cons, List.all_nil, (Sl.one I.ib.sl).2, (Sl.one I.mb.sl).2, Bool.and_true]; rfl) ?_
                  intro h30 b30 n30 f30
                  have b30 : Has h30 h.next [i64 pid, i64 sig, .str nm, rv, mv] := b30
                  (try simp only [wk, wl, Then, Blk, pickV, Nat.reduceLT, Nat.reduceEqDiff, Nat.reduceBEq, reduceIte, isConst, nilCheckV, extractV, wantJ, nth])
                  refine WC.ret ?_
                  (try simp only [wk, wl, Then, Blk, pickV, Nat.reduceLT, Nat.reduceEqDiff, Nat.reduceBEq, reduceIte, isConst, nilCheckV, extractV, wantJ, nth, t2', b30.agg ty25 rfl (o := 0) (Nat.le_refl 5)])
                  rw [hrd _ (if_pos ⟨hps, hnil, hcore, e1, heq⟩)]
                  refine ⟨_, rfl, ⟨by have := hK.next; omega, fun c hc => by rw [f30.same c (by omega), hK.same c hc]⟩, rv, mv, L, ?_⟩
                  exact ⟨rfl, Sl.fix cod.regs (I.inR.sub fun x hx => by omega) f30, cod.mem.fix (I.inM.sub fun x hx => by omega) (fun q hq => (I.inL q hq).sub fun x hx => by omega) f30, rfl, I.inR.sub fun x hx => ⟨by omega, by have := hx.2.1; omega⟩, I.inM.sub fun x hx => by omega, fun q hq => (I.inL q hq).sub fun x hx => ⟨by omega, by have := hx.2.1; omega⟩⟩
                · have heb : (dumpB ⟨pid, sig, nm, ns, L.map (·.1)⟩ == b) = false := by simp [heq]
                  rw [heb]
                  (repeat refine WC.seq ?_)
                  refine WC.cond (b := true) (by (try simp only [wk, wl, Then, Blk, pickV, Nat.reduceLT, Nat.reduceEqDiff, Nat.reduceBEq, reduceIte, isConst, nilCheckV, extractV, wantJ, nth]); (try simp); (try omega)) ?_
                  ((repeat refine WC.seq ?_); refine WC.run ?_)
                  (try simp only [wk, wl, Then, Blk, pickV, Nat.reduceLT, Nat.reduceEqDiff, Nat.reduceBEq, reduceIte, isConst, nilCheckV, extractV, wantJ, nth, t2', build25_0])
                  refine sat_store b0 ty25 rfl (Nat.le_refl 5) rfl ?_
                  intro h30 b30 n30 f30
                  have b30 : Has h30 h.next [i64 0, i64 0, .str [], .nils, .nils] := b30
                  (try simp only [wk, wl, Then, Blk, pickV, Nat.reduceLT, Nat.reduceEqDiff, Nat.reduceBEq, reduceIte, isConst, nilCheckV, extractV, wantJ, nth])
                  refine WC.ret ?_
                  (try simp only [wk, wl, Then, Blk, pickV, Nat.reduceLT, Nat.reduceEqDiff, Nat.reduceBEq, reduceIte, isConst, nilCheckV, extractV, wantJ, nth, t2', b30.agg ty25 rfl (o := 0) (Nat.le_refl 5)])
                  exact fin0 n30 f30 (hrd _ (if_neg (fun e => heq e.2.2.2.2)))
            · have hcb : (hd == head) = false := by simp [hcore]
              ((repeat refine WC.seq ?_); refine WC.run ?_)
              (try simp only [wk, wl, Then, Blk, pickV, Nat.reduceLT, Nat.reduceEqDiff, Nat.reduceBEq, reduceIte, isConst, nilCheckV, extractV, wantJ, nth, t4, t6, fa89_1, fa89_0, Nat.zero_add, hflag, hbytes, rd2.len, decide_eq_false hxl0, str_neq])
              (repeat refine WC.seq ?_)
              refine WC.cond (b := true) (by (try simp only [wk, wl, Then, Blk, pickV, Nat.reduceLT, Nat.reduceEqDiff, Nat.reduceBEq, reduceIte, isConst, nilCheckV, extractV, wantJ, nth]); exact congrArg (fun x => some (V.bool !x)) hcb) ?_
              ((repeat refine WC.seq ?_); refine WC.run ?_)
              (try simp only [wk, wl, Then, Blk, pickV, Nat.reduceLT, Nat.reduceEqDiff, Nat.reduceBEq, reduceIte, isConst, nilCheckV, extractV, wantJ, nth, t2', build25_0])
              refine sat_store B0 ty25 rfl (Nat.le_refl 5) rfl ?_
              intro h30 b30 n30 f30
              have b30 : Has h30 h.next [i64 0, i64 0, .str [], .nils, .nils] := b30
              (try simp only [wk, wl, Then, Blk, pickV, Nat.reduceLT, Nat.reduceEqDiff, Nat.reduceBEq, reduceIte, isConst, nilCheckV, extractV, wantJ, nth])
              refine WC.ret ?_
              (try simp only [wk, wl, Then, Blk, pickV, Nat.reduceLT, Nat.reduceEqDiff, Nat.reduceBEq, reduceIte, isConst, nilCheckV, extractV, wantJ, nth, t2', b30.agg ty25 rfl (o := 0) (Nat.le_refl 5)])
              exact fin1 n30 f30 (hrd _ (if_neg (fun e => hcore e.2.2.1)))
    · have hsum' : leN (b.drop (b.length - 4)) ≠ sumN (b.take (b.length - 4)) % 4294967296 := hsum
      refine WC.cond (b := true) (by (try simp only [wk, wl, Then, Blk, pickV, Nat.reduceLT, Nat.reduceEqDiff, Nat.reduceBEq, reduceIte, isConst, nilCheckV, extractV, wantJ, nth]); simp only [Option.some.injEq, V.bool.injEq, bne_iff_ne, ne_eq]; omega) ?_
      ((repeat refine WC.seq ?_); refine WC.run ?_)
      (try simp only [wk, wl, Then, Blk, pickV, Nat.reduceLT, Nat.reduceEqDiff, Nat.reduceBEq, reduceIte, isConst, nilCheckV, extractV, wantJ, nth, build25_0])
      refine sat_store b1 ty25 rfl (Nat.le_refl 5) rfl ?_
      intro h2 b2 n2 f2
      have b2 : Has h2 h.next [i64 0, i64 0, .str [], .nils, .nils] := b2
      (try simp only [wk, wl, Then, Blk, pickV, Nat.reduceLT, Nat.reduceEqDiff, Nat.reduceBEq, reduceIte, isConst, nilCheckV, extractV, wantJ, nth])
      refine WC.ret ?_
      (try simp only [wk, wl, Then, Blk, pickV, Nat.reduceLT, Nat.reduceEqDiff, Nat.reduceBEq, reduceIte, isConst, nilCheckV, extractV, wantJ, nth, b2.agg ty25 rfl (o := 0) (Nat.le_refl 5)])
      exact fin6 n2 f2 (by unfold rreadP; rw [if_pos (.inr hsum)])
end Go.Proofs.ZP
