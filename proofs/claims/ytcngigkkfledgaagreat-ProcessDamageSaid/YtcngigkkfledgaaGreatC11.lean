/- Walks: process.ReadCore. -/
import Derived.Test.YtcngigkkfledgaaGreatC10
set_option linter.unusedVariables false
set_option linter.unusedSimpArgs false
set_option linter.defProp false
set_option linter.unusedSimpArgs false
set_option maxHeartbeats 1000000
namespace Go.Proofs.ZP
open Go Go.Ev
open Go.Proofs
variable {g : T (List V)}

/-- What a reader has still to read; whether it came short. -/
structure PS where
  xs : List UInt8
  sh : Bool
def num (n : Nat) (p : PS) : Nat × PS := (leN (if n ≤ p.xs.length then p.xs.take n else []), ⟨if n ≤ p.xs.length then p.xs.drop n else p.xs, if n ≤ p.xs.length then p.sh else true⟩)
def tak (n : Nat) (p : PS) : List UInt8 × PS := (if n ≤ p.xs.length then p.xs.take n else [], ⟨if n ≤ p.xs.length then p.xs.drop n else p.xs, if n ≤ p.xs.length then p.sh else true⟩)
theorem num_lt (n : Nat) (p : PS) : (num n p).1 < 256 ^ n := by
  unfold num
  split
  · rename_i h
    have := leN_lt (p.xs.take n)
    rwa [List.length_take, Nat.min_eq_left h] at this
  · exact Nat.pow_pos (by omega)
theorem num_xs (n : Nat) (p : PS) : (num n p).2.xs.length ≤ p.xs.length := by
  unfold num; simp only; split <;> simp
theorem tak_xs (n : Nat) (p : PS) : (tak n p).2.xs.length ≤ p.xs.length := by
  unfold tak; simp only; split <;> simp
theorem tak_len (n : Nat) (p : PS) : (tak n p).1.length ≤ p.xs.length := by
  unfold tak; simp only; split <;> simp; omega

def W (n : Nat) : Int := IntKind.i64.wrap (n : Int)
def regsP : Nat → PS → List Int × PS
  | 0, p => ([], p)
  | k + 1, p => if p.sh = true then ([], p) else (W (num 8 p).1 :: (regsP k (num 8 p).2).1, (regsP k (num 8 p).2).2)
def memP (p : PS) : Mem × PS := (⟨W (num 8 p).1, (tak (num 4 (num 8 p).2).1 (num 4 (num 8 p).2).2).1⟩, (tak (num 4 (num 8 p).2).1 (num 4 (num 8 p).2).2).2)
def memsP : Nat → PS → List Mem × PS
  | 0, p => ([], p)
  | k + 1, p => if p.sh = true then ([], p) else ((memP p).1 :: (memsP k (memP p).2).1, (memsP k (memP p).2).2)

/-- process.reader's block: the bytes' place, the flag. -/
abbrev RdP (g : T (List V)) (h : H) (K : Nat → Prop) (rb : Nat) (p : PS) : Prop := Rd g h K rb p.xs p.sh

theorem num_ok {h : H} {K : Nat → Prop} {rb n : Nat} {p : PS} (r : RdP g h K rb p) (hK : ¬ K rb) (hKn : ∀ b, K b → b < h.next) (hrb : rb < h.next) (hn : n ≤ 8) (hx : p.xs.length < 2 ^ 62) :
    WF (E g) 29 [.ptr rb 0, .int .i64 n] h fun v h' => v = .int .u64 ((num n p).1 : Nat) ∧ RdP g h' K rb (num n p).2 ∧ Fix (fun b => b < h.next ∧ b ≠ rb) h h' := number_ok r hK hKn hrb hn hx
theorem tak_ok {h : H} {K : Nat → Prop} {rb n : Nat} {p : PS} (r : RdP g h K rb p) (hK : ¬ K rb) (hn : n < 2 ^ 62) (hx : p.xs.length < 2 ^ 62) :
    WF (E g) 30 [.ptr rb 0, .int .i64 n] h fun v h' => Pt g h' K v (tak n p).1 ∧ RdP g h' K rb (tak n p).2 ∧ h'.next = h.next ∧ Fix (· ≠ rb) h h' := take_ok r hK hn hx

/-- A slice's own block, if it has one, is new and none of two. -/
def Apart (N : Nat) (h : H) (a b : Nat) (s : V) : Prop := ∀ x o n c, s = .slice x o n c → N ≤ x ∧ x < h.next ∧ x ≠ a ∧ x ≠ b

/-- The state of ReadCore: the reader's block, the core's block. -/
structure St (g : T (List V)) (N : Nat) (h0 h : H) (rb cb : Nat) (p : PS) (pid sig : Int) (name : List UInt8) (rv mv : V) : Prop where
  rd : RdP g h (· < N) rb p
  co : Has h cb [i64 pid, i64 sig, .str name, rv, mv]
  low : N ≤ rb ∧ rb < cb ∧ cb < h.next
  kept : Fix (· < N) h0 h

/-- The parts of a core, in buffers. -/
abbrev IBuf (g : T (List V)) (h : H) (s : V) (ns : List Int) : Prop := Buf (E g) h 2 1 s ns.length (ns.map i64)

theorem i64_all (ns : List Int) : (ns.map i64).all V.one = true := by
  rw [List.all_eq_true]; intro x hx; obtain ⟨c, _, rfl⟩ := List.mem_map.1 hx; rfl
theorem conv_str {h : H} {s : V} {xs : List UInt8} (a : Bs g h s xs) : convV (E g) h 26 9 s = some (.str xs, h) := by
  have hc := a.cells
  have hl := Sl.len a
  have hu : ∀ ys : List UInt8, allU8 (ys.map u8) = some ys := fun ys => by
    induction ys with
    | nil => rfl
    | cons y r ih => simp [allU8, u8, asU8, ih]
  unfold srcCells at hc
  split at hc
  · simp only [lenV] at hl; injection hl with hl
    have : xs = [] := List.eq_nil_of_length_eq_zero hl.symm
    subst this
    simp only [convV, ty26, ty9, ty5]
  · rename_i b o m c
    simp only [lenV] at hl; injection hl with hl; subst hl
    simp only [convV, ty26, ty9, ty5]
    split
    · rename_i h0
      have : xs = [] := List.eq_nil_of_length_eq_zero h0
      subst this; rfl
    · rename_i h0
      have hb : Nat.beq (xs.length * 1) 0 = false := beq_false (fun e => h0 (by simpa using e))
      simp only [hb, cond_false] at hc
      obtain ⟨_, hc⟩ := bif_some hc
      split at hc
      · rw [Nat.mul_one] at hc
        simp only [hc, hu, Option.map_some]
      · cases hc
  · rename_i ad m c
    simp only [lenV] at hl; injection hl with hl; subst hl
    obtain ⟨_, hc⟩ := bif_some hc
    rw [Nat.mul_one] at hc
    simp only [convV, ty26, ty9, ty5, hc, hu, Option.map_some]
  · exact absurd rfl (Sl.slice a _)
  · cases hc
/-- What the parts of a dump are read as. -/
def parseP (xs : List UInt8) : CoreD × PS :=
  let p0 : PS := ⟨xs, false⟩
  let p1 := num 4 p0
  let p2 := num 4 p1.2
  let n1 := num 1 p2.2
  let nm := tak n1.1 n1.2
  let k1 := num 2 nm.2
  let rs := regsP k1.1 k1.2
  let k2 := num 2 rs.2
  let ms := memsP k2.1 k2.2
  (⟨p1.1, p2.1, nm.1, rs.1, ms.1⟩, ms.2)
def zeroC : CoreD := ⟨0, 0, [], [], []⟩
/-- What ReadCore answers. -/
def readP (b : List UInt8) : CoreD × Int :=
  if b.length < 8 ∨ leN (b.drop (b.length - 4)) ≠ sumN (b.take (b.length - 4)) % 4294967296 then (zeroC, 6)
  else if (parseP ((b.take (b.length - 4)).drop 4)).2.sh = false ∧ checkE (parseP ((b.take (b.length - 4)).drop 4)).1 = 0 ∧ dumpB (parseP ((b.take (b.length - 4)).drop 4)).1 = b
  then ((parseP ((b.take (b.length - 4)).drop 4)).1, 0) else (zeroC, 12)

theorem u32_neq {E : Env} {h : H} {c : Bool} {t : Nat} {a b : Nat} : binV E h c .neq t (.int .u32 a) (.int .u32 b) = some (.bool (decide (a ≠ b))) := by
  rw [bin_neq]
  congr 2
  by_cases e : a = b
  · subst e; simp
  · have : ((a : Int) == (b : Int)) = false := by simp; omega
    simp [bne, this, e]

/-- A core's value, its parts new or as they were. -/
def CoR (g : T (List V)) (h h' : H) (v : V) (c : CoreD) : Prop := ∃ rv mv L, Co g h' (fun b => h.next ≤ b ∧ b < h'.next) v c rv mv L
def ReadR (g : T (List V)) (h : H) (r : CoreD × Int) (v : V) (h' : H) : Prop := ∃ cv, v = .tuple [cv, .int .i64 r.2] ∧ Kept h h' ∧ CoR g h h' cv r.1

theorem W_small {n : Nat} (h : n < 4294967296) : W n = (n : Int) := by unfold W; exact wrap64 (by omega) (by omega)
theorem Bs.part {h : H} {s : V} {xs : List UInt8} (a : Bs g h s xs) {l r : Nat} (h1 : l ≤ r) (h2 : r ≤ xs.length) :
    ∃ s', sliceV (E g) 26 s (some (.int .i64 l)) (some (.int .i64 r)) none = some s' ∧ Bs g h s' ((xs.take r).drop l) ∧ (∀ K, In K s → In K s') := by
  obtain ⟨s', e1, e2, e3, _⟩ := Sl.sub a ty26 rfl (sizeOf_of ty5) (lo := some l) (hi := some r) (l := l) (r := r) rfl rfl h1 h2
  refine ⟨s', e1, ?_, e3⟩
  have e : ((xs.take r).drop l).length = r - l := by simp; omega
  unfold Bs
  rw [e, List.map_drop, List.map_take, List.drop_take]
  simpa using e2
theorem build34_0 : buildV (E g) 34 [] = some (.agg [i64 0, i64 0, .str [], .nils, .nils]) := by
  simp only [buildV, ty34, fillAll]
  simp [ty3, ty9, ty22, ty32]
  rfl
theorem build34_2 {a b : Int} : buildV (E g) 34 [(0, i64 a), (1, i64 b)] = some (.agg [i64 a, i64 b, .str [], .nils, .nils]) := by
  simp only [buildV, ty34, fillAll, nth, sizeOf_of ty3]
  simp [ty3, ty9, ty22, ty32, i64, V.cells, fillL]
  rfl
theorem build82 {s : V} (hs : s.cells = [s]) : buildV (E g) 82 [(0, s)] = some (.agg [s, .bool false]) := by
  simp only [buildV, ty82, fillAll, nth, sizeOf_of ty26]
  simp [ty26, ty4, hs, fillL]
  rfl
theorem Sl.one {E : Env} {h : H} {sz n : Nat} {s : V} {vs : List V} (a : Sl E h sz s n vs) : s.cells = [s] ∧ s.one = true := by
  have := a.len
  unfold lenV at this
  split at this <;> first | exact ⟨rfl, rfl⟩ | cases this

/-- The state in the loop of the parts of memory. -/
structure MInv (g : T (List V)) (h h4 h7 : H) (xs : List UInt8) (pid sig : Int) (nm : List UInt8) (rv : V) (ns : List Int) (hh : H) (p : PS) (mv : V) (L : List (Mem × V)) : Prop where
  rd : RdP g hh (· < h.next) h4.next p
  co : Has hh h7.next [i64 pid, i64 sig, .str nm, rv, mv]
  ib : IBuf g hh rv ns
  mb : Buf (E g) hh 75 2 mv L.length (flat L)
  dat : ∀ q ∈ L, Bs g hh q.2 q.1.data
  inR : In (fun x => h7.next < x ∧ x < hh.next ∧ ∀ o m c, mv ≠ .slice x o m c) rv
  inM : In (fun x => h7.next < x ∧ x < hh.next) mv
  inL : ∀ q ∈ L, In (fun x => h7.next < x ∧ x < hh.next ∧ ∀ o m c, mv ≠ .slice x o m c) q.2
  fix : Fix (· < h4.next) h4 hh
  nx : h7.next < hh.next
  len : p.xs.length ≤ xs.length

theorem Rd.fix {h h' : H} {K P : Nat → Prop} {rb : Nat} {xs : List UInt8} {sh : Bool} (r : Rd g h K rb xs sh) (f : Fix P h h') (h1 : P rb) (h2 : ∀ x, K x → P x) : Rd g h' K rb xs sh := by
  obtain ⟨bs, a, b, c⟩ := r
  exact ⟨bs, a.fix f h1, Sl.fix b (c.sub h2) f, c⟩
theorem MInv.go {h h4 h7 hh hh' : H} {xs : List UInt8} {pid sig : Int} {nm : List UInt8} {rv : V} {ns : List Int} {p p' : PS} {mv : V} {L : List (Mem × V)} {P : Nat → Prop} (I : MInv g h h4 h7 xs pid sig nm rv ns hh p mv L) (f : Fix P hh hh') (hP : ∀ x, x < hh.next → x ≠ h4.next → P x)
    (r : RdP g hh' (· < h.next) h4.next p') (hl : p'.xs.length ≤ xs.length) (h47 : h4.next < h7.next) : MInv g h h4 h7 xs pid sig nm rv ns hh' p' mv L :=
  ⟨r, I.co.fix f (hP _ I.nx (by omega)), I.ib.fix (I.inR.sub fun x hx => hP x hx.2.1 (by omega)) f, I.mb.fix (I.inM.sub fun x hx => hP x hx.2 (by omega)) f, fun q hq => Sl.fix (I.dat q hq) ((I.inL q hq).sub fun x hx => hP x hx.2.1 (by omega)) f,
    I.inR.sub fun x hx => ⟨hx.1, Nat.lt_of_lt_of_le hx.2.1 f.next, hx.2.2⟩, I.inM.sub fun x hx => ⟨hx.1, Nat.lt_of_lt_of_le hx.2 f.next⟩, fun q hq => (I.inL q hq).sub fun x hx => ⟨hx.1, Nat.lt_of_lt_of_le hx.2.1 f.next, hx.2.2⟩,
    ⟨Nat.le_trans I.fix.next f.next, fun c hc => by rw [f.same c (hP c (by have := I.nx; omega) (by omega)), I.fix.same c hc]⟩, Nat.lt_of_lt_of_le I.nx f.next, hl⟩
theorem build75 {a : Int} : buildV (E g) 75 [(0, i64 a)] = some (.agg [i64 a, .nils]) := by
  simp only [buildV, ty75, fillAll, nth, sizeOf_of ty2]
  simp [ty2, ty26, i64, V.cells, fillL]
  rfl
theorem fill_two {a d z0 z1 : V} : fillAll (fun k => some (k * 2, 2)) (repL [z0, z1] 1) [(0, .agg [a, d])] = some [a, d] := rfl

/-- process.ReadCore -/
theorem read_ok {h : H} {s : V} {b : List UInt8} (hb : Bs g h s b) (hs : In (· < h.next) s) (hlen : b.length ≤ 2 ^ 30) : WF (E g) 10 [s] h fun v h' => ReadR g h (readP b) v h' := by
  refine WF.enter fn10 rfl ?_
  ((repeat refine WC.seq ?_); refine WC.run ?_)
  (try simp only [wk, wl, Then, Blk, pickV, Nat.reduceLT, Nat.reduceEqDiff, Nat.reduceBEq, reduceIte, isConst, nilCheckV, extractV, wantJ, nth])
  refine wop_alloc ty34 ?_
  intro h1 b1 n1 f1
  (try simp only [wk, wl, Then, Blk, pickV, Nat.reduceLT, Nat.reduceEqDiff, Nat.reduceBEq, reduceIte, isConst, nilCheckV, extractV, wantJ, nth])
  have b1 : Has h1 h.next [i64 0, i64 0, .str [], .nils, .nils] := b1
  have hb1 := Sl.fix hb hs f1
  have hs1 : In (· < h1.next) s := hs.sub fun x hx => by omega
  ((repeat refine WC.seq ?_); refine WC.run ?_)
  (try simp only [wk, wl, Then, Blk, pickV, Nat.reduceLT, Nat.reduceEqDiff, Nat.reduceBEq, reduceIte, isConst, nilCheckV, extractV, wantJ, nth, hb.len, bin_sub])
  rw [wrap64 (by omega) (by omega)]
  by_cases h8 : ((b.length : Int) - 4 < 4)
  · ((repeat refine WC.seq ?_); refine WC.draw (plans := pl10_2) (by kernel_rfl) ?_; simp only [pl10_2, List.mem_cons, List.not_mem_nil, or_false, forall_eq_or_imp, forall_eq])
    (try simp only [wk, wl, Then, Blk, pickV, Nat.reduceLT, Nat.reduceEqDiff, Nat.reduceBEq, reduceIte, isConst, nilCheckV, extractV, wantJ, nth, wd, Chk, and_true, true_and, decide_eq_true h8])
    (repeat refine WC.seq ?_)
    refine WC.cond (b := true) (by (try simp only [wk, wl, Then, Blk, pickV, Nat.reduceLT, Nat.reduceEqDiff, Nat.reduceBEq, reduceIte, isConst, nilCheckV, extractV, wantJ, nth]); (try simp); (try omega)) ?_
    ((repeat refine WC.seq ?_); refine WC.run ?_)
    (try simp only [wk, wl, Then, Blk, pickV, Nat.reduceLT, Nat.reduceEqDiff, Nat.reduceBEq, reduceIte, isConst, nilCheckV, extractV, wantJ, nth, build34_0])
    refine sat_store b1 ty34 rfl (Nat.le_refl 5) rfl ?_
    intro h2 b2 n2 f2
    have b2 : Has h2 h.next [i64 0, i64 0, .str [], .nils, .nils] := b2
    (try simp only [wk, wl, Then, Blk, pickV, Nat.reduceLT, Nat.reduceEqDiff, Nat.reduceBEq, reduceIte, isConst, nilCheckV, extractV, wantJ, nth])
    refine WC.ret ?_
    (try simp only [wk, wl, Then, Blk, pickV, Nat.reduceLT, Nat.reduceEqDiff, Nat.reduceBEq, reduceIte, isConst, nilCheckV, extractV, wantJ, nth, b2.agg ty34 rfl (o := 0) (Nat.le_refl 5)])
    have hr : readP b = (zeroC, 6) := by unfold readP; rw [if_pos (.inl (by omega))]
    rw [hr]
    refine ⟨_, rfl, ⟨by omega, fun c hc => by rw [f2.same c (by omega), f1.same c hc]⟩, ?_⟩
    exact ⟨.nils, .nils, [], rfl, Sl.nil, ⟨Sl.nil, fun _ h => by cases h⟩, rfl, In.nils, In.nils, fun _ h => by cases h⟩
  · have e4 : ((b.length : Int) - 4) = ((b.length - 4 : Nat) : Int) := by omega
    rw [e4] at h8 ⊢
    obtain ⟨s1, p1, p2, p3⟩ := Bs.from hb1 (n := b.length - 4) (by omega)
    obtain ⟨s2, q1, q2, q3⟩ := Bs.upto hb1 (n := b.length - 4) (by omega)
    ((repeat refine WC.seq ?_); refine WC.draw (plans := pl10_2) (by kernel_rfl) ?_; simp only [pl10_2, List.mem_cons, List.not_mem_nil, or_false, forall_eq_or_imp, forall_eq])
    (try simp only [wk, wl, Then, Blk, pickV, Nat.reduceLT, Nat.reduceEqDiff, Nat.reduceBEq, reduceIte, isConst, nilCheckV, extractV, wantJ, nth, wd, Chk, and_true, true_and, decide_eq_false h8, p1, q1])
    refine le_ok.mono fun v2 h2 ⟨e2, f2⟩ => ?_
    subst e2
    (try simp only [wk, wl, Then, Blk, pickV, Nat.reduceLT, Nat.reduceEqDiff, Nat.reduceBEq, reduceIte, isConst, nilCheckV, extractV, wantJ, nth, wd, Chk, and_true, true_and])
    refine (u32_ok (Sl.fix p2 (p3 _ hs1) f2) (p3 _ (hs1.sub fun x hx => by have := f2.next; omega)) (by simp; omega)).mono fun v3 h3 ⟨e3, f3⟩ => ?_
    subst e3
    (try simp only [wk, wl, Then, Blk, pickV, Nat.reduceLT, Nat.reduceEqDiff, Nat.reduceBEq, reduceIte, isConst, nilCheckV, extractV, wantJ, nth, wd, Chk, and_true, true_and])
    have q4 := Sl.fix (Sl.fix q2 (q3 _ hs1) f2) (q3 _ (hs1.sub fun x hx => by have := f2.next; omega)) f3
    refine (sum_ok q4 (by simp; omega)).mono fun v4 h4 ⟨e4', e4''⟩ => ?_
    subst e4' e4''
    (try simp only [wk, wl, Then, Blk, pickV, Nat.reduceLT, Nat.reduceEqDiff, Nat.reduceBEq, reduceIte, isConst, nilCheckV, extractV, wantJ, nth, wd, Chk, and_true, true_and, u32_neq])
    have x2 := f2.next
    have x3 := f3.next
    have F14 : Kept h1 h4 := f2.trans (f3.sub fun x hx => by omega)
    have B1 := b1.fix F14 (by omega)
    have hb4 := Sl.fix hb1 hs1 F14
    have hd8 : ((b.drop (b.length - 4)).take 4) = b.drop (b.length - 4) := List.take_of_length_le (by simp; omega)
    rw [hd8]
    (repeat refine WC.seq ?_)
    by_cases hsum : leN (b.drop (b.length - 4)) = sumN (b.take (b.length - 4)) % 4294967296
    · refine WC.cond (b := false) (by (try simp only [wk, wl, Then, Blk, pickV, Nat.reduceLT, Nat.reduceEqDiff, Nat.reduceBEq, reduceIte, isConst, nilCheckV, extractV, wantJ, nth]); simp [hsum]) (WC.skip ?_)
      (try simp only [wk, wl, Then, Blk, pickV, Nat.reduceLT, Nat.reduceEqDiff, Nat.reduceBEq, reduceIte, isConst, nilCheckV, extractV, wantJ, nth])
      obtain ⟨s3, t1, t2, t3⟩ := Bs.part hb4 (l := 4) (r := b.length - 4) (by omega) (by omega)
      have t1 : sliceV (E g) 26 s (some (.int .i64 4)) (some (.int .i64 (b.length - 4 : Nat))) none = some s3 := t1
      generalize hxs : (b.take (b.length - 4)).drop 4 = xs at t2
      have hxl : xs.length ≤ 2 ^ 30 := by rw [← hxs]; simp; omega
      ((repeat refine WC.seq ?_); refine WC.run ?_)
      (try simp only [wk, wl, Then, Blk, pickV, Nat.reduceLT, Nat.reduceEqDiff, Nat.reduceBEq, reduceIte, isConst, nilCheckV, extractV, wantJ, nth, t1, build82 (Sl.one t2).1])
      refine wop_box (v := .agg [s3, .bool false]) (by (try simp only [wk, wl, Then, Blk, pickV, Nat.reduceLT, Nat.reduceEqDiff, Nat.reduceBEq, reduceIte, isConst, nilCheckV, extractV, wantJ, nth])) ?_
      intro h5 b5 n5 f5
      have b5 : Has h5 h4.next [s3, .bool false] := b5
      (try simp only [wk, wl, Then, Blk, pickV, Nat.reduceLT, Nat.reduceEqDiff, Nat.reduceBEq, reduceIte, isConst, nilCheckV, extractV, wantJ, nth])
      have K0 : In (· < h.next) s3 := t3 _ hs
      have r5 : RdP g h5 (· < h.next) h4.next ⟨xs, false⟩ := ⟨s3, b5, Sl.fix t2 (K0.sub fun x hx => by omega) f5, K0⟩
      -- pid, signal
      ((repeat refine WC.seq ?_); refine WC.run ?_)
      (try simp only [wk, wl, Then, Blk, pickV, Nat.reduceLT, Nat.reduceEqDiff, Nat.reduceBEq, reduceIte, isConst, nilCheckV, extractV, wantJ, nth])
      refine (num_ok (n := 4) r5 (by omega) (fun x hx => by omega) (by omega) (by omega) (by simp; omega)).mono fun v6 h6 ⟨e6, r6, f6⟩ => ?_
      subst e6
      have x6 := f6.next
      have l6 := num_xs 4 ⟨xs, false⟩
      have m6 := num_lt 4 ⟨xs, false⟩
      (try simp only [wk, wl, Then, Blk, pickV, Nat.reduceLT, Nat.reduceEqDiff, Nat.reduceBEq, reduceIte, isConst, nilCheckV, extractV, wantJ, nth, conv_int ty74 ty3 rfl])
      refine (num_ok (n := 4) r6 (by omega) (fun x hx => by omega) (by omega) (by omega) (by simp at l6 ⊢; omega)).mono fun v7 h7 ⟨e7, r7, f7⟩ => ?_
      subst e7
      have x7 := f7.next
      have l7 := num_xs 4 (num 4 ⟨xs, false⟩).2
      have m7 := num_lt 4 (num 4 ⟨xs, false⟩).2
      (try simp only [wk, wl, Then, Blk, pickV, Nat.reduceLT, Nat.reduceEqDiff, Nat.reduceBEq, reduceIte, isConst, nilCheckV, extractV, wantJ, nth, conv_int ty74 ty3 rfl])
      generalize hpid : (num 4 ⟨xs, false⟩).1 = pid at *
      generalize hp1 : (num 4 ⟨xs, false⟩).2 = p1 at *
      generalize hsig : (num 4 p1).1 = sig at *
      generalize hp2 : (num 4 p1).2 = p2 at *
      rw [show IntKind.i64.wrap (pid : Int) = (pid : Int) from W_small (by omega), show IntKind.i64.wrap (sig : Int) = (sig : Int) from W_small (by omega)]
      have hb34 : buildV (E g) 34 [(0, .int .i64 (pid : Int)), (1, .int .i64 (sig : Int))] = some (.agg [i64 pid, i64 sig, .str [], .nils, .nils]) := build34_2
      (try simp only [wk, wl, Then, Blk, pickV, Nat.reduceLT, Nat.reduceEqDiff, Nat.reduceBEq, reduceIte, isConst, nilCheckV, extractV, wantJ, nth, hb34])
      refine wop_alloc ty34 ?_
      intro h8 b8 n8 f8
      (try simp only [wk, wl, Then, Blk, pickV, Nat.reduceLT, Nat.reduceEqDiff, Nat.reduceBEq, reduceIte, isConst, nilCheckV, extractV, wantJ, nth])
      refine sat_store b8 ty34 rfl (by decide) rfl ?_
      intro h9 b9 n9 f9
      have b9 : Has h9 h7.next [i64 pid, i64 sig, .str [], .nils, .nils] := b9
      (try simp only [wk, wl, Then, Blk, pickV, Nat.reduceLT, Nat.reduceEqDiff, Nat.reduceBEq, reduceIte, isConst, nilCheckV, extractV, wantJ, nth])
      obtain ⟨bs7, c1, c2, c3⟩ := r7
      have r9 : RdP g h9 (· < h.next) h4.next p2 := ⟨bs7, (c1.fix f8 (by omega)).fix f9 (by omega), Sl.fix (Sl.fix c2 (c3.sub fun x hx => by omega) f8) (c3.sub fun x hx => by omega) f9, c3⟩
      have hpl : p2.xs.length ≤ xs.length := by simp at l6 l7; omega
      -- the name
      ((repeat refine WC.seq ?_); refine WC.run ?_)
      (try simp only [wk, wl, Then, Blk, pickV, Nat.reduceLT, Nat.reduceEqDiff, Nat.reduceBEq, reduceIte, isConst, nilCheckV, extractV, wantJ, nth])
      refine (num_ok (n := 1) r9 (by omega) (fun x hx => by omega) (by omega) (by omega) (by omega)).mono fun v10 h10 ⟨e10, r10, f10⟩ => ?_
      subst e10
      have x10 := f10.next
      have l10 := num_xs 1 p2
      have m10 := num_lt 1 p2
      generalize hn1 : (num 1 p2).1 = n1 at *
      generalize hp3 : (num 1 p2).2 = p3 at *
      (try simp only [wk, wl, Then, Blk, pickV, Nat.reduceLT, Nat.reduceEqDiff, Nat.reduceBEq, reduceIte, isConst, nilCheckV, extractV, wantJ, nth, conv_int ty74 ty3 rfl])
      rw [show IntKind.i64.wrap (n1 : Int) = (n1 : Int) from W_small (by omega)]
      refine (tak_ok r10 (by omega) (by omega) (by omega)).mono fun v11 h11 ⟨⟨a11, i11⟩, r11, nx11, f11⟩ => ?_
      have l11 := tak_xs n1 p3
      generalize hnm : (tak n1 p3).1 = nm at *
      generalize hp4 : (tak n1 p3).2 = p4 at *
      have b11 : Has h11 h7.next [i64 pid, i64 sig, .str [], .nils, .nils] := (b9.fix f10 (by omega)).fix f11 (by omega)
      (try simp only [wk, wl, Then, Blk, pickV, Nat.reduceLT, Nat.reduceEqDiff, Nat.reduceBEq, reduceIte, isConst, nilCheckV, extractV, wantJ, nth, conv_str a11, fa34_2, Nat.zero_add])
      refine sat_store b11 ty9 rfl (by simp) rfl ?_
      intro h12 b12 n12 f12
      have b12 : Has h12 h7.next [i64 pid, i64 sig, .str nm, .nils, .nils] := b12
      (try simp only [wk, wl, Then, Blk, pickV, Nat.reduceLT, Nat.reduceEqDiff, Nat.reduceBEq, reduceIte, isConst, nilCheckV, extractV, wantJ, nth])
      obtain ⟨bs11, c1, c2, c3⟩ := r11
      have r12 : RdP g h12 (· < h.next) h4.next p4 := ⟨bs11, c1.fix f12 (by omega), Sl.fix c2 (c3.sub fun x hx => by omega) f12, c3⟩
      -- how many registers
      ((repeat refine WC.seq ?_); refine WC.run ?_)
      (try simp only [wk, wl, Then, Blk, pickV, Nat.reduceLT, Nat.reduceEqDiff, Nat.reduceBEq, reduceIte, isConst, nilCheckV, extractV, wantJ, nth])
      refine (num_ok (n := 2) r12 (by omega) (fun x hx => by omega) (by omega) (by omega) (by omega)).mono fun v13 h13 ⟨e13, r13, f13⟩ => ?_
      subst e13
      have x13 := f13.next
      have l13 := num_xs 2 p4
      have m13 := num_lt 2 p4
      generalize hk1 : (num 2 p4).1 = k1 at *
      generalize hp5 : (num 2 p4).2 = p5 at *
      have b13 := b12.fix f13 (by omega)
      (try simp only [wk, wl, Then, Blk, pickV, Nat.reduceLT, Nat.reduceEqDiff, Nat.reduceBEq, reduceIte, isConst, nilCheckV, extractV, wantJ, nth])
      have F413 : Fix (· < h4.next) h4 h13 := ⟨by omega, fun c hc => by rw [f13.same c (by omega), f12.same c (by omega), f11.same c (by omega), f10.same c (by omega), f9.same c (by omega), f8.same c (by omega), f7.same c (by omega), f6.same c (by omega), f5.same c hc]⟩
      (repeat refine WC.seq ?_)
      refine WC.mono (Q := fun e fr hh => e = .normal ∧ ∃ ts p rv ns, fr = ⟨ts, 121, [], 10, none⟩ ∧ RdP g hh (· < h.next) h4.next p ∧ Has hh h7.next [i64 pid, i64 sig, .str nm, rv, .nils] ∧ IBuf g hh rv ns ∧ In (fun x => h7.next < x ∧ x < hh.next) rv ∧ Fix (· < h4.next) h4 hh ∧ h13.next ≤ hh.next ∧ p.xs.length ≤ xs.length ∧ ns.length ≤ k1 ∧ (ns, p) = regsP k1 p5 ∧ ts.get 0 = some s ∧ ts.get 2 = some (.ptr h.next 0) ∧ ts.get 5 = some (.ptr h4.next 0) ∧ ts.get 6 = some (.ptr h7.next 0)) ?_ ?_
      · refine WC.block ?_
        refine WC.while (m := k1) (fun m fr hh => ∃ ts p rv ns, fr = ⟨ts, 121, [], 10, none⟩ ∧ RdP g hh (· < h.next) h4.next p ∧ Has hh h7.next [i64 pid, i64 sig, .str nm, rv, .nils] ∧ IBuf g hh rv ns ∧ In (fun x => h7.next < x ∧ x < hh.next) rv ∧ Fix (· < h4.next) h4 hh ∧ h13.next ≤ hh.next ∧ p.xs.length ≤ xs.length ∧ ns.length + m ≤ k1 ∧ (ns ++ (regsP m p).1, (regsP m p).2) = regsP k1 p5 ∧ ts.get 0 = some s ∧ ts.get 2 = some (.ptr h.next 0) ∧ ts.get 5 = some (.ptr h4.next 0) ∧ ts.get 6 = some (.ptr h7.next 0) ∧ ts.get 7 = some (.int .u64 m)) ?_ ⟨_, p5, .nils, [], rfl, r13, b13, .nil, In.nils, F413, Nat.le_refl _, by omega, by simp, by simp, ?_, ?_, ?_, ?_, ?_⟩
        · rintro m fr hh ⟨ts, p, rv, ns, rfl, rd, bc, ib, inr, ff, nx, pl, nk, eqn, t0', t2', t5, t6, t7⟩
          obtain ⟨bs, d1, d2, d3⟩ := rd
          have hflag : loadP (E g) hh 4 (.ptr h4.next 1) = some (.bool p.sh) := d1.at ty4 rfl 1
          have stop : ∀ {ts' : T V}, (ns, p) = regsP k1 p5 → ts'.get 0 = some s → ts'.get 2 = some (.ptr h.next 0) → ts'.get 5 = some (.ptr h4.next 0) → ts'.get 6 = some (.ptr h7.next 0) → ∃ ts p rv ns, (⟨ts', 121, [], 10, none⟩ : Fr) = ⟨ts, 121, [], 10, none⟩ ∧ RdP g hh (· < h.next) h4.next p ∧ Has hh h7.next [i64 pid, i64 sig, .str nm, rv, .nils] ∧ IBuf g hh rv ns ∧ In (fun x => h7.next < x ∧ x < hh.next) rv ∧ Fix (· < h4.next) h4 hh ∧ h13.next ≤ hh.next ∧ p.xs.length ≤ xs.length ∧ ns.length ≤ k1 ∧ (ns, p) = regsP k1 p5 ∧ ts.get 0 = some s ∧ ts.get 2 = some (.ptr h.next 0) ∧ ts.get 5 = some (.ptr h4.next 0) ∧ ts.get 6 = some (.ptr h7.next 0) :=
            fun e0 a b c d => ⟨_, p, rv, ns, rfl, ⟨bs, d1, d2, d3⟩, bc, ib, inr, ff, nx, pl, by omega, e0, a, b, c, d⟩
          cases m with
          | zero =>
            have hz : decide ((0 : Int) < ((0 : Nat) : Int)) = false := rfl
            ((repeat refine WC.seq ?_); refine WC.run ?_)
            (try simp only [wk, wl, Then, Blk, pickV, Nat.reduceLT, Nat.reduceEqDiff, Nat.reduceBEq, reduceIte, isConst, nilCheckV, extractV, wantJ, nth, t5, t7, fa82_1, Nat.zero_add, hflag, hz])
            (repeat refine WC.seq ?_)
            refine WC.cond (b := false) (by (try simp only [wk, wl, Then, Blk, pickV, Nat.reduceLT, Nat.reduceEqDiff, Nat.reduceBEq, reduceIte, isConst, nilCheckV, extractV, wantJ, nth]); (try simp); (try omega)) (WC.exit ?_)
            (try simp only [wk, wl, Then, Blk, pickV, Nat.reduceLT, Nat.reduceEqDiff, Nat.reduceBEq, reduceIte, isConst, nilCheckV, extractV, wantJ, nth])
            refine ⟨by trivial, stop (by simpa [regsP] using eqn) ?_ ?_ ?_ ?_⟩ <;> (try simp only [wk, wl, Then, Blk, pickV, Nat.reduceLT, Nat.reduceEqDiff, Nat.reduceBEq, reduceIte, isConst, nilCheckV, extractV, wantJ, nth, t0', t2', t5, t6])
          | succ j =>
            have hz : decide ((0 : Int) < ((j + 1 : Nat) : Int)) = true := decide_eq_true (by omega)
            by_cases hsh : p.sh = true
            · rw [hsh] at hflag
              ((repeat refine WC.seq ?_); refine WC.run ?_)
              (try simp only [wk, wl, Then, Blk, pickV, Nat.reduceLT, Nat.reduceEqDiff, Nat.reduceBEq, reduceIte, isConst, nilCheckV, extractV, wantJ, nth, t5, t7, fa82_1, Nat.zero_add, hflag, hz, Bool.not_true])
              (repeat refine WC.seq ?_)
              refine WC.cond (b := false) (by (try simp only [wk, wl, Then, Blk, pickV, Nat.reduceLT, Nat.reduceEqDiff, Nat.reduceBEq, reduceIte, isConst, nilCheckV, extractV, wantJ, nth]); (try simp); (try omega)) (WC.exit ?_)
              (try simp only [wk, wl, Then, Blk, pickV, Nat.reduceLT, Nat.reduceEqDiff, Nat.reduceBEq, reduceIte, isConst, nilCheckV, extractV, wantJ, nth])
              refine ⟨by trivial, stop (by simpa [regsP, hsh] using eqn) ?_ ?_ ?_ ?_⟩ <;> (try simp only [wk, wl, Then, Blk, pickV, Nat.reduceLT, Nat.reduceEqDiff, Nat.reduceBEq, reduceIte, isConst, nilCheckV, extractV, wantJ, nth, t0', t2', t5, t6])
            · have hsh' : p.sh = false := by simpa using hsh
              rw [hsh'] at hflag
              ((repeat refine WC.seq ?_); refine WC.run ?_)
              (try simp only [wk, wl, Then, Blk, pickV, Nat.reduceLT, Nat.reduceEqDiff, Nat.reduceBEq, reduceIte, isConst, nilCheckV, extractV, wantJ, nth, t5, t7, fa82_1, Nat.zero_add, hflag, hz, Bool.not_false])
              (repeat refine WC.seq ?_)
              refine WC.cond (b := true) (by (try simp only [wk, wl, Then, Blk, pickV, Nat.reduceLT, Nat.reduceEqDiff, Nat.reduceBEq, reduceIte, isConst, nilCheckV, extractV, wantJ, nth]); (try simp); (try omega)) (WC.skip ?_)
              (try simp only [wk, wl, Then, Blk, pickV, Nat.reduceLT, Nat.reduceEqDiff, Nat.reduceBEq, reduceIte, isConst, nilCheckV, extractV, wantJ, nth])
              have hrv : loadP (E g) hh 22 (.ptr h7.next 3) = some rv := bc.at ty22 rfl 3
              (repeat refine WC.seq ?_)
              refine WC.block ?_
              ((repeat refine WC.seq ?_); refine WC.draw (plans := pl10_10) (by kernel_rfl) ?_; simp only [pl10_10, List.mem_cons, List.not_mem_nil, or_false, forall_eq_or_imp, forall_eq])
              (try simp only [wk, wl, Then, Blk, pickV, Nat.reduceLT, Nat.reduceEqDiff, Nat.reduceBEq, reduceIte, isConst, nilCheckV, extractV, wantJ, nth, wd, Chk, and_true, true_and, t5, t6, fa34_3, Nat.zero_add, hrv])
              refine (num_ok (n := 8) (p := p) ⟨bs, d1, d2, d3⟩ (by omega) (fun x hx => by omega) (by omega) (by omega) (by omega)).mono fun v14 h14 ⟨e14, r14, f14⟩ => ?_
              subst e14
              have x14 := f14.next
              have l14 := num_xs 8 p
              have bc14 := bc.fix f14 (by omega)
              have ib14 : IBuf g h14 rv ns := ib.fix (inr.sub fun x hx => by omega) f14
              have hrv : loadP (E g) h14 22 (.ptr h7.next 3) = some rv := bc14.at ty22 rfl 3
              (try simp only [wk, wl, Then, Blk, pickV, Nat.reduceLT, Nat.reduceEqDiff, Nat.reduceBEq, reduceIte, isConst, nilCheckV, extractV, wantJ, nth, wd, Chk, and_true, true_and, t5, t6, fa34_3, Nat.zero_add, hrv, conv_int ty74 ty2 rfl])
              refine sat_slice1 ty22 rfl ty2 rfl rfl rfl ?_
              intro h15 b15 n15 f15
              have bc15 := bc14.fix f15 (by omega)
              have ib15 : IBuf g h15 rv ns := ib14.fix (inr.sub fun x hx => by omega) f15
              have hrv : loadP (E g) h15 22 (.ptr h7.next 3) = some rv := bc15.at ty22 rfl 3
              (try simp only [wk, wl, Then, Blk, pickV, Nat.reduceLT, Nat.reduceEqDiff, Nat.reduceBEq, reduceIte, isConst, nilCheckV, extractV, wantJ, nth, wd, Chk, and_true, true_and, t5, t6, fa34_3, Nat.zero_add, hrv, conv_int ty74 ty2 rfl])
              refine sat_grow ib15 (inr.sub fun x hx => by omega) ty22 rfl ty22 (.inl ⟨_, rfl⟩) ty2 rfl (by decide) (by decide) b15.sl.len b15.sl.cells rfl rfl (by show (_ + _) * 8 ≤ _; omega) ?_
              intro rv' h16 g16
              have x16 := g16.fix.next
              have neb : ∀ c, c ≤ h7.next → ∀ o m cc, rv ≠ .slice c o m cc := fun c hc o m cc e => by have := inr _ _ _ _ e; omega
              have bc16 := bc15.fix g16.fix ⟨by omega, neb _ (Nat.le_refl _)⟩
              have hrv : loadP (E g) h16 22 (.ptr h7.next 3) = some rv := bc16.at ty22 rfl 3
              (try simp only [wk, wl, Then, Blk, pickV, Nat.reduceLT, Nat.reduceEqDiff, Nat.reduceBEq, reduceIte, isConst, nilCheckV, extractV, wantJ, nth, wd, Chk, and_true, true_and, t5, t6, fa34_3, Nat.zero_add, hrv, conv_int ty74 ty2 rfl])
              have one' := Sl.one g16.buf.sl
              refine sat_store bc16 ty22 (by rw [one'.1]; rfl) (by simp) (by rw [one'.1]; simp [one'.2]) ?_
              intro h17 b17 n17 f17
              rw [one'.1] at b17
              have b17 : Has h17 h7.next [i64 pid, i64 sig, .str nm, rv', .nils] := b17
              (try simp only [wk, wl, Then, Blk, pickV, Nat.reduceLT, Nat.reduceEqDiff, Nat.reduceBEq, reduceIte, isConst, nilCheckV, extractV, wantJ, nth, wd, Chk, and_true, true_and])
              obtain ⟨bs14, c1, c2, c3⟩ := r14
              have own' : In (fun x => h7.next < x ∧ x < h16.next) rv' := fun x o n c e => by
                refine ⟨?_, g16.low _ _ _ _ e⟩
                rcases g16.own _ _ _ _ e with q | ⟨o, k, c, q⟩
                · omega
                · exact (inr _ _ _ _ q).1
              have ib17 : IBuf g h17 rv' (ns ++ [W (num 8 p).1]) := by
                have := Buf.fix g16.buf (own'.sub fun x hx => by omega) f17
                unfold IBuf
                rw [List.length_append, List.map_append]
                exact this
              have ff17 : Fix (· < h4.next) h4 h17 := ⟨by omega, fun c hc => by rw [f17.same c (by omega), g16.fix.same c ⟨by omega, neb c (by omega)⟩, f15.same c (by omega), f14.same c ⟨by omega, by omega⟩, ff.same c hc]⟩
              ((repeat refine WC.seq ?_); refine WC.run ?_)
              (try simp only [wk, wl, Then, Blk, pickV, Nat.reduceLT, Nat.reduceEqDiff, Nat.reduceBEq, reduceIte, isConst, nilCheckV, extractV, wantJ, nth, t7, bin_sub])
              have eq2 : (ns ++ [W (num 8 p).1] ++ (regsP j (num 8 p).2).1, (regsP j (num 8 p).2).2) = regsP k1 p5 := by
                rw [← eqn, regsP, if_neg hsh]
                simp only [List.append_assoc, List.singleton_append]
              refine ⟨j, by omega, _, (num 8 p).2, rv', ns ++ [W (num 8 p).1], rfl, ⟨bs14, ?_, ?_, c3⟩, b17, ib17, own'.sub fun x hx => by omega, ff17, by omega, by omega, by simp; omega, eq2, ?_⟩
              · exact ((c1.fix f15 (by omega)).fix g16.fix ⟨by omega, neb _ (by omega)⟩).fix f17 (by omega)
              · exact Sl.fix (Sl.fix (Sl.fix c2 (c3.sub fun x hx => by omega) f15) (c3.sub fun x hx => ⟨by omega, neb x (by omega)⟩) g16.fix) (c3.sub fun x hx => by omega) f17
              (try simp only [wk, wl, Then, Blk, pickV, Nat.reduceLT, Nat.reduceEqDiff, Nat.reduceBEq, reduceIte, isConst, nilCheckV, extractV, wantJ, nth, t0', t2', t5, t6])
              refine ⟨trivial, trivial, trivial, trivial, ?_⟩
              have e9 : IntKind.u64.wrap (((j + 1 : Nat) : Int) - 1) = (j : Int) := by rw [wrapu64 (by omega) (by omega)]; omega
              rw [e9]
        all_goals (try simp only [wk, wl, Then, Blk, pickV, Nat.reduceLT, Nat.reduceEqDiff, Nat.reduceBEq, reduceIte, isConst, nilCheckV, extractV, wantJ, nth])
      · rintro e fr hh ⟨rfl, ts, p, rv, ns, rfl, rd, bc, ib, inr, ff, nx, pl, nk, eqn, t0', t2', t5, t6⟩
        (try simp only [wk, wl, Then, Blk, pickV, Nat.reduceLT, Nat.reduceEqDiff, Nat.reduceBEq, reduceIte, isConst, nilCheckV, extractV, wantJ, nth])
        -- how many parts of memory
        ((repeat refine WC.seq ?_); refine WC.run ?_)
        (try simp only [wk, wl, Then, Blk, pickV, Nat.reduceLT, Nat.reduceEqDiff, Nat.reduceBEq, reduceIte, isConst, nilCheckV, extractV, wantJ, nth, t5])
        refine (num_ok (n := 2) rd (by omega) (fun x hx => by omega) (by omega) (by omega) (by omega)).mono fun v18 h18 ⟨e18, r18, f18⟩ => ?_
        subst e18
        have x18 := f18.next
        have l18 := num_xs 2 p
        have m18 := num_lt 2 p
        generalize hk2 : (num 2 p).1 = k2 at *
        generalize hp6 : (num 2 p).2 = p6 at *
        have b18 := bc.fix f18 (by omega)
        have ib18 : IBuf g h18 rv ns := ib.fix (inr.sub fun x hx => by omega) f18
        have F418 : Fix (· < h4.next) h4 h18 := ⟨by omega, fun c hc => by rw [f18.same c (by omega), ff.same c hc]⟩
        (try simp only [wk, wl, Then, Blk, pickV, Nat.reduceLT, Nat.reduceEqDiff, Nat.reduceBEq, reduceIte, isConst, nilCheckV, extractV, wantJ, nth])
        (repeat refine WC.seq ?_)
        refine WC.mono (Q := fun e fr hh => e = .normal ∧ ∃ ts p mv L, fr = ⟨ts, 121, [], 10, none⟩ ∧ MInv g h h4 h7 xs pid sig nm rv ns hh p mv L ∧ ((L.map (·.1), p) : List Mem × PS) = memsP k2 p6 ∧ L.length ≤ k2 ∧ ts.get 0 = some s ∧ ts.get 2 = some (.ptr h.next 0) ∧ ts.get 5 = some (.ptr h4.next 0) ∧ ts.get 6 = some (.ptr h7.next 0)) ?_ ?_
        · refine WC.block ?_
          refine WC.while (m := k2) (fun m fr hh => ∃ ts p mv L, fr = ⟨ts, 121, [], 10, none⟩ ∧ MInv g h h4 h7 xs pid sig nm rv ns hh p mv L ∧ ((L.map (·.1) ++ (memsP m p).1, (memsP m p).2) : List Mem × PS) = memsP k2 p6 ∧ L.length + m ≤ k2 ∧ ts.get 0 = some s ∧ ts.get 2 = some (.ptr h.next 0) ∧ ts.get 5 = some (.ptr h4.next 0) ∧ ts.get 6 = some (.ptr h7.next 0) ∧ ts.get 8 = some (.int .u64 m)) ?_ ⟨_, p6, .nils, [], rfl, ⟨r18, b18, ib18, .nil, (fun _ h => by cases h), inr.sub fun x hx => ⟨hx.1, by omega, fun o m c e => by cases e⟩, In.nils, (fun _ h => by cases h), F418, by omega, by omega⟩, by simp, by simp, ?_, ?_, ?_, ?_, ?_⟩
          · rintro m fr hh ⟨ts, p, mv, L, rfl, I, eqn2, nk2, t0', t2', t5, t6, t8⟩
            obtain ⟨bs, d1, d2, d3⟩ := I.rd
            have hflag : loadP (E g) hh 4 (.ptr h4.next 1) = some (.bool p.sh) := d1.at ty4 rfl 1
            cases m with
            | zero =>
              have hz : decide ((0 : Int) < ((0 : Nat) : Int)) = false := rfl
              ((repeat refine WC.seq ?_); refine WC.run ?_)
              (try simp only [wk, wl, Then, Blk, pickV, Nat.reduceLT, Nat.reduceEqDiff, Nat.reduceBEq, reduceIte, isConst, nilCheckV, extractV, wantJ, nth, t5, t8, fa82_1, Nat.zero_add, hflag, hz])
              (repeat refine WC.seq ?_)
              refine WC.cond (b := false) (by (try simp only [wk, wl, Then, Blk, pickV, Nat.reduceLT, Nat.reduceEqDiff, Nat.reduceBEq, reduceIte, isConst, nilCheckV, extractV, wantJ, nth]); (try simp); (try omega)) (WC.exit ?_)
              (try simp only [wk, wl, Then, Blk, pickV, Nat.reduceLT, Nat.reduceEqDiff, Nat.reduceBEq, reduceIte, isConst, nilCheckV, extractV, wantJ, nth])
              refine ⟨by trivial, _, p, mv, L, rfl, I, by simpa [memsP] using eqn2, by omega, ?_, ?_, ?_, ?_⟩ <;> (try simp only [wk, wl, Then, Blk, pickV, Nat.reduceLT, Nat.reduceEqDiff, Nat.reduceBEq, reduceIte, isConst, nilCheckV, extractV, wantJ, nth, t0', t2', t5, t6])
            | succ j =>
              have hz : decide ((0 : Int) < ((j + 1 : Nat) : Int)) = true := decide_eq_true (by omega)
              by_cases hsh : p.sh = true
              · rw [hsh] at hflag
                ((repeat refine WC.seq ?_); refine WC.run ?_)
                (try simp only [wk, wl, Then, Blk, pickV, Nat.reduceLT, Nat.reduceEqDiff, Nat.reduceBEq, reduceIte, isConst, nilCheckV, extractV, wantJ, nth, t5, t8, fa82_1, Nat.zero_add, hflag, hz, Bool.not_true])
                (repeat refine WC.seq ?_)
                refine WC.cond (b := false) (by (try simp only [wk, wl, Then, Blk, pickV, Nat.reduceLT, Nat.reduceEqDiff, Nat.reduceBEq, reduceIte, isConst, nilCheckV, extractV, wantJ, nth]); (try simp); (try omega)) (WC.exit ?_)
                (try simp only [wk, wl, Then, Blk, pickV, Nat.reduceLT, Nat.reduceEqDiff, Nat.reduceBEq, reduceIte, isConst, nilCheckV, extractV, wantJ, nth])
                refine ⟨by trivial, _, p, mv, L, rfl, I, by simpa [memsP, hsh] using eqn2, by omega, ?_, ?_, ?_, ?_⟩ <;> (try simp only [wk, wl, Then, Blk, pickV, Nat.reduceLT, Nat.reduceEqDiff, Nat.reduceBEq, reduceIte, isConst, nilCheckV, extractV, wantJ, nth, t0', t2', t5, t6])
              · have hsh' : p.sh = false := by simpa using hsh
                rw [hsh'] at hflag
                ((repeat refine WC.seq ?_); refine WC.run ?_)
                (try simp only [wk, wl, Then, Blk, pickV, Nat.reduceLT, Nat.reduceEqDiff, Nat.reduceBEq, reduceIte, isConst, nilCheckV, extractV, wantJ, nth, t5, t8, fa82_1, Nat.zero_add, hflag, hz, Bool.not_false])
                (repeat refine WC.seq ?_)
                refine WC.cond (b := true) (by (try simp only [wk, wl, Then, Blk, pickV, Nat.reduceLT, Nat.reduceEqDiff, Nat.reduceBEq, reduceIte, isConst, nilCheckV, extractV, wantJ, nth]); (try simp); (try omega)) (WC.skip ?_)
                (try simp only [wk, wl, Then, Blk, pickV, Nat.reduceLT, Nat.reduceEqDiff, Nat.reduceBEq, reduceIte, isConst, nilCheckV, extractV, wantJ, nth])
                have h47 : h4.next < h7.next := by omega
                have Inx := I.nx
                have Ilen := I.len
                (repeat refine WC.seq ?_)
                refine WC.block ?_
                ((repeat refine WC.seq ?_); refine WC.run ?_)
                (try simp only [wk, wl, Then, Blk, pickV, Nat.reduceLT, Nat.reduceEqDiff, Nat.reduceBEq, reduceIte, isConst, nilCheckV, extractV, wantJ, nth, t5])
                refine (num_ok (n := 8) I.rd (by omega) (fun x hx => by omega) (by omega) (by omega) (by omega)).mono fun v20 h20 ⟨e20, r20, f20⟩ => ?_
                subst e20
                have l20 := num_xs 8 p
                have I20 := I.go f20 (fun x a b => ⟨a, b⟩) r20 (by omega) h47
                have x20 := f20.next
                have hb75 : buildV (E g) 75 [(0, .int .i64 (IntKind.i64.wrap ((num 8 p).1 : Nat)))] = some (.agg [i64 (W (num 8 p).1), .nils]) := build75
                (try simp only [wk, wl, Then, Blk, pickV, Nat.reduceLT, Nat.reduceEqDiff, Nat.reduceBEq, reduceIte, isConst, nilCheckV, extractV, wantJ, nth, conv_int ty74 ty2 rfl, hb75])
                refine wop_alloc ty75 ?_
                intro h21 b21 n21 f21
                (try simp only [wk, wl, Then, Blk, pickV, Nat.reduceLT, Nat.reduceEqDiff, Nat.reduceBEq, reduceIte, isConst, nilCheckV, extractV, wantJ, nth])
                refine sat_store b21 ty75 rfl (by decide) rfl ?_
                intro h22 b22 n22 f22
                have b22 : Has h22 h20.next [i64 (W (num 8 p).1), .nils] := b22
                have F22 : Kept h20 h22 := ⟨by omega, fun c hc => by rw [f22.same c (by omega), f21.same c hc]⟩
                have I22 := I20.go F22 (fun x a _ => a) (Rd.fix I20.rd F22 (by omega) (fun x hx => by omega)) I20.len h47
                (try simp only [wk, wl, Then, Blk, pickV, Nat.reduceLT, Nat.reduceEqDiff, Nat.reduceBEq, reduceIte, isConst, nilCheckV, extractV, wantJ, nth])
                ((repeat refine WC.seq ?_); refine WC.run ?_)
                (try simp only [wk, wl, Then, Blk, pickV, Nat.reduceLT, Nat.reduceEqDiff, Nat.reduceBEq, reduceIte, isConst, nilCheckV, extractV, wantJ, nth, t5])
                refine (num_ok (n := 4) I22.rd (by omega) (fun x hx => by omega) (by omega) (by omega) (by omega)).mono fun v23 h23 ⟨e23, r23, f23⟩ => ?_
                subst e23
                have l23 := num_xs 4 (num 8 p).2
                have m23 := num_lt 4 (num 8 p).2
                have I23 := I22.go f23 (fun x a b => ⟨a, b⟩) r23 (by omega) h47
                have x23 := f23.next
                have b23 := b22.fix f23 (by omega)
                (try simp only [wk, wl, Then, Blk, pickV, Nat.reduceLT, Nat.reduceEqDiff, Nat.reduceBEq, reduceIte, isConst, nilCheckV, extractV, wantJ, nth, conv_int ty74 ty3 rfl])
                rw [show IntKind.i64.wrap (((num 4 (num 8 p).2).1 : Nat) : Int) = (((num 4 (num 8 p).2).1 : Nat) : Int) from W_small (by omega)]
                refine (tak_ok r23 (by omega) (by omega) (by omega)).mono fun v24 h24 ⟨⟨a24, i24⟩, r24, nx24, f24⟩ => ?_
                have l24 := tak_xs (num 4 (num 8 p).2).1 (num 4 (num 8 p).2).2
                have k24 := tak_len (num 4 (num 8 p).2).1 (num 4 (num 8 p).2).2
                have I24 := I23.go f24 (fun x _ b => b) r24 (by omega) h47
                have b24 := b23.fix f24 (by omega)
                (try simp only [wk, wl, Then, Blk, pickV, Nat.reduceLT, Nat.reduceEqDiff, Nat.reduceBEq, reduceIte, isConst, nilCheckV, extractV, wantJ, nth])
                refine (clone_ok a24 (i24.sub fun x hx => by omega) (by omega)).mono fun v25 h25 ⟨o25, lo25, f25, nw25⟩ => ?_
                have x25 := f25.next
                have I25 := I24.go f25 (fun x a _ => a) (Rd.fix I24.rd f25 (by omega) (fun x hx => by omega)) I24.len h47
                have b25 := b24.fix f25 (by omega)
                (try simp only [wk, wl, Then, Blk, pickV, Nat.reduceLT, Nat.reduceEqDiff, Nat.reduceBEq, reduceIte, isConst, nilCheckV, extractV, wantJ, nth, fa75_1, Nat.zero_add])
                have one25 := Sl.one o25.sl
                refine sat_store b25 ty26 (by rw [one25.1]; rfl) (by simp) (by rw [one25.1]; simp [one25.2]) ?_
                intro h26 b26 n26 f26
                rw [one25.1] at b26
                have b26 : Has h26 h20.next [i64 (W (num 8 p).1), v25] := b26
                have ne26 : ∀ x o m c, v25 = .slice x o m c → x ≠ h20.next ∧ x < h25.next ∧ h24.next ≤ x := fun x o m c e => ⟨by have := nw25 _ _ _ _ e; omega, lo25 _ _ _ _ e, nw25 _ _ _ _ e⟩
                (try simp only [wk, wl, Then, Blk, pickV, Nat.reduceLT, Nat.reduceEqDiff, Nat.reduceBEq, reduceIte, isConst, nilCheckV, extractV, wantJ, nth])
                -- the state without the block of m
                have ne20 : ∀ x, x < h20.next → x ≠ h20.next := fun x hx => by omega
                have R26 : RdP g h26 (· < h.next) h4.next (memP p).2 := Rd.fix I25.rd f26 (by omega) (fun x hx => by omega)
                have d26 : Bs g h26 v25 (memP p).1.data := Sl.fix o25.sl (fun x o m c e => (ne26 x o m c e).1) f26
                have bc26 := I25.co.fix f26 (by omega)
                have ib26 : IBuf g h26 rv ns := I25.ib.fix (I.inR.sub fun x hx => by have := hx.2.1; omega) f26
                have mb26 : Buf (E g) h26 75 2 mv L.length (flat L) := I25.mb.fix (I.inM.sub fun x hx => by omega) f26
                have da26 : ∀ q ∈ L, Bs g h26 q.2 q.1.data := fun q hq => Sl.fix (I25.dat q hq) ((I.inL q hq).sub fun x hx => by have := hx.2.1; omega) f26
                have hmv : loadP (E g) h26 32 (.ptr h7.next 4) = some mv := bc26.at ty32 rfl 4
                have hm : loadP (E g) h26 75 (.ptr h20.next 0) = some (.agg [i64 (W (num 8 p).1), v25]) := b26.agg ty75 rfl (o := 0) (Nat.le_refl 2)
                ((repeat refine WC.seq ?_); refine WC.run ?_)
                (try simp only [wk, wl, Then, Blk, pickV, Nat.reduceLT, Nat.reduceEqDiff, Nat.reduceBEq, reduceIte, isConst, nilCheckV, extractV, wantJ, nth, t6, fa34_4, Nat.zero_add, hmv, hm])
                refine sat_buildSlice (cs := [i64 (W (num 8 p).1), v25]) (n := 1) ty32 rfl ty75 rfl (by decide) (by decide) fill_two rfl ?_
                intro h27 b27 n27 f27
                have neb : ∀ c, c ≤ h7.next → ∀ o m cc, mv ≠ .slice c o m cc := fun c hc o m cc e => by have := I.inM _ _ _ _ e; omega
                have neb2 : ∀ c, hh.next ≤ c → ∀ o m cc, mv ≠ .slice c o m cc := fun c hc o m cc e => by have := I.inM _ _ _ _ e; omega
                have x26 : h26.next = h25.next := n26
                have hle : hh.next ≤ h26.next := by omega
                have mb27 : Buf (E g) h27 75 2 mv L.length (flat L) := mb26.fix (I.inM.sub fun x hx => by omega) f27
                have bc27 := bc26.fix f27 (by omega)
                (try simp only [wk, wl, Then, Blk, pickV, Nat.reduceLT, Nat.reduceEqDiff, Nat.reduceBEq, reduceIte, isConst, nilCheckV, extractV, wantJ, nth, t6, fa34_4, Nat.zero_add, hmv, hm])
                refine sat_grow mb27 (I.inM.sub fun x hx => by omega) ty32 rfl ty32 (.inl ⟨_, rfl⟩) ty75 rfl (by decide) (by decide) b27.sl.len b27.sl.cells rfl (by simp only [List.all_cons, List.all_nil, one25.2, Bool.and_true]; rfl) (by show (_ + _) * 32 ≤ _; omega) ?_
                intro mv' h28 g28
                have x28 := g28.fix.next
                have bc28 := bc27.fix g28.fix ⟨by omega, neb _ (Nat.le_refl _)⟩
                have one' := Sl.one g28.buf.sl
                (try simp only [wk, wl, Then, Blk, pickV, Nat.reduceLT, Nat.reduceEqDiff, Nat.reduceBEq, reduceIte, isConst, nilCheckV, extractV, wantJ, nth, t6, fa34_4, Nat.zero_add])
                refine sat_store bc28 ty32 (by rw [one'.1]; rfl) (by simp) (by rw [one'.1]; simp [one'.2]) ?_
                intro h29 b29 n29 f29
                rw [one'.1] at b29
                have b29 : Has h29 h7.next [i64 pid, i64 sig, .str nm, rv, mv'] := b29
                (try simp only [wk, wl, Then, Blk, pickV, Nat.reduceLT, Nat.reduceEqDiff, Nat.reduceBEq, reduceIte, isConst, nilCheckV, extractV, wantJ, nth])
                have own' : In (fun x => h7.next < x ∧ x < h29.next ∧ (hh.next ≤ x ∧ h27.next ≤ x ∨ ∃ o m c, mv = .slice x o m c)) mv' := fun x o n c e => by
                  have e1 := g28.low _ _ _ _ e
                  rcases g28.own _ _ _ _ e with q | ⟨o, k, c, q⟩
                  · exact ⟨by omega, by omega, .inl ⟨by omega, q⟩⟩
                  · exact ⟨(I.inM _ _ _ _ q).1, by omega, .inr ⟨_, _, _, q⟩⟩
                have nsame : ∀ x, x < h27.next → (∀ o m c, mv ≠ .slice x o m c) → ∀ o m c, mv' ≠ .slice x o m c := fun x hx hq o m c e => by
                  rcases (own' _ _ _ _ e).2.2 with q | ⟨o, m, c, q⟩
                  · omega
                  · exact hq _ _ _ q
                have F29 : Fix (fun x => x < h26.next ∧ x ≠ h7.next ∧ ∀ o m c, mv ≠ .slice x o m c) h26 h29 :=
                  ⟨by omega, fun c hc => by rw [f29.same c hc.2.1, g28.fix.same c ⟨by omega, hc.2.2⟩, f27.same c hc.1]⟩
                have I29 : MInv g h h4 h7 xs pid sig nm rv ns h29 (memP p).2 mv' (L ++ [((memP p).1, v25)]) := by
                  refine ⟨Rd.fix R26 F29 ⟨by omega, by omega, neb _ (by omega)⟩ (fun x hx => ⟨by omega, by omega, neb _ (by omega)⟩), b29, ib26.fix (I.inR.sub fun x hx => ⟨by have := hx.2.1; omega, by omega, hx.2.2⟩) F29, ?_, ?_, ?_, ?_, ?_, ?_, by omega, ?_⟩
                  · have := Buf.fix g28.buf (own'.sub fun x hx => by omega) f29
                    rw [List.length_append, show flat (L ++ [((memP p).1, v25)]) = flat L ++ [i64 (W (num 8 p).1), v25] by simp [flat, memP]]
                    exact this
                  · intro q hq
                    rcases List.mem_append.1 hq with hq | hq
                    · exact Sl.fix (da26 q hq) ((I.inL q hq).sub fun x hx => ⟨by have := hx.2.1; omega, by omega, hx.2.2⟩) F29
                    · rw [List.mem_singleton] at hq; subst hq
                      exact Sl.fix d26 (fun x o m c e => by
                        have := ne26 x o m c e
                        exact ⟨by omega, by omega, neb2 _ (by omega)⟩) F29
                  · exact I.inR.sub fun x hx => ⟨hx.1, by have := hx.2.1; omega, nsame x (by have := hx.2.1; omega) hx.2.2⟩
                  · exact own'.sub fun x hx => ⟨hx.1, hx.2.1⟩
                  · intro q hq
                    rcases List.mem_append.1 hq with hq | hq
                    · exact (I.inL q hq).sub fun x hx => ⟨hx.1, by have := hx.2.1; omega, nsame x (by have := hx.2.1; omega) hx.2.2⟩
                    · rw [List.mem_singleton] at hq; subst hq
                      intro x o m c e
                      have := ne26 x o m c e
                      exact ⟨by omega, by omega, nsame x (by omega) (neb2 _ (by omega))⟩
                  · exact ⟨by omega, fun c hc => by rw [F29.same c ⟨by omega, by omega, neb _ (by omega)⟩, f26.same c (by omega), I25.fix.same c hc]⟩
                  · have : (memP p).2.xs.length ≤ p.xs.length := by unfold memP; simp only; omega
                    omega
                ((repeat refine WC.seq ?_); refine WC.run ?_)
                (try simp only [wk, wl, Then, Blk, pickV, Nat.reduceLT, Nat.reduceEqDiff, Nat.reduceBEq, reduceIte, isConst, nilCheckV, extractV, wantJ, nth, t8, bin_sub])
                have eq3 : ((L ++ [((memP p).1, v25)]).map (·.1) ++ (memsP j (memP p).2).1, (memsP j (memP p).2).2) = memsP k2 p6 := by
                  rw [← eqn2, memsP, if_neg hsh]
                  simp only [List.map_append, List.map_cons, List.map_nil, List.append_assoc, List.singleton_append]
                refine ⟨j, by omega, _, _, mv', _, rfl, I29, eq3, by simp; omega, ?_⟩
                (try simp only [wk, wl, Then, Blk, pickV, Nat.reduceLT, Nat.reduceEqDiff, Nat.reduceBEq, reduceIte, isConst, nilCheckV, extractV, wantJ, nth, t0', t2', t5, t6])
                refine ⟨trivial, trivial, trivial, trivial, ?_⟩
                have e9 : IntKind.u64.wrap (((j + 1 : Nat) : Int) - 1) = (j : Int) := by rw [wrapu64 (by omega) (by omega)]; omega
                rw [e9]
          all_goals (try simp only [wk, wl, Then, Blk, pickV, Nat.reduceLT, Nat.reduceEqDiff, Nat.reduceBEq, reduceIte, isConst, nilCheckV, extractV, wantJ, nth, t0', t2', t5, t6])
        · rintro e fr hh ⟨rfl, ts, p, mv, L, rfl, I, eqn2, nk2, t0', t2', t5, t6⟩
          (try simp only [wk, wl, Then, Blk, pickV, Nat.reduceLT, Nat.reduceEqDiff, Nat.reduceBEq, reduceIte, isConst, nilCheckV, extractV, wantJ, nth])
          have hpk : parseP xs = (⟨pid, sig, nm, ns, L.map (·.1)⟩, p) := by
            unfold parseP
            simp only [hpid, hp1, hsig, hp2, hn1, hp3, hnm, hp4, hk1, hp5, ← eqn, hk2, hp6, ← eqn2]
          have hrd : ∀ q : CoreD × Int, (if p.sh = false ∧ checkE ⟨pid, sig, nm, ns, L.map (·.1)⟩ = 0 ∧ dumpB ⟨pid, sig, nm, ns, L.map (·.1)⟩ = b then (⟨pid, sig, nm, ns, L.map (·.1)⟩, 0) else (zeroC, 12)) = q → readP b = q := fun q hq => by
            unfold readP
            rw [if_neg (fun e => e.elim (fun e => by omega) (fun e => e hsum)), hxs, hpk]
            exact hq
          have Inx := I.nx
          have co : Co g hh (· < hh.next) (.agg [i64 pid, i64 sig, .str nm, rv, mv]) ⟨pid, sig, nm, ns, L.map (·.1)⟩ rv mv L :=
            ⟨rfl, I.ib.sl, ⟨I.mb.sl, I.dat⟩, rfl, I.inR.sub fun x hx => hx.2.1, I.inM.sub fun x hx => hx.2, fun q hq => (I.inL q hq).sub fun x hx => hx.2.1⟩
          ((repeat refine WC.seq ?_); refine WC.run ?_)
          (try simp only [wk, wl, Then, Blk, pickV, Nat.reduceLT, Nat.reduceEqDiff, Nat.reduceBEq, reduceIte, isConst, nilCheckV, extractV, wantJ, nth, t6, I.co.agg ty34 rfl (o := 0) (Nat.le_refl 5)])
          have hlL : (L.map (·.1)).length = L.length := by simp
          refine (dump_ok co (by omega) (by show ns.length < _; omega)).mono fun vd hd ⟨sd, ed, fd, hcase⟩ => ?_
          subst ed
          have xd := fd.next
          (try simp only [wk, wl, Then, Blk, pickV, Nat.reduceLT, Nat.reduceEqDiff, Nat.reduceBEq, reduceIte, isConst, nilCheckV, extractV, wantJ, nth])
          have cod := co.fix fd (fun _ h => h)
          have bd : Has hd h7.next [i64 pid, i64 sig, .str nm, rv, mv] := I.co.fix fd Inx
          obtain ⟨bsd, rd1, rd2, rd3⟩ := I.rd
          have hflag : loadP (E g) hd 4 (.ptr h4.next 1) = some (.bool p.sh) := (rd1.fix fd (by omega)).at ty4 rfl 1
          have b0 : Has hd h.next [i64 0, i64 0, .str [], .nils, .nils] := (B1.fix I.fix (by omega)).fix fd (by omega)
          have sb := Sl.fix (Sl.fix hb4 (hs.sub fun x hx => by omega) I.fix) (hs.sub fun x hx => by omega) fd
          have hK : Kept h hd := ⟨by omega, fun c hc => by rw [fd.same c (by omega), I.fix.same c (by omega), F14.same c (by omega), f1.same c hc]⟩
          have fin0 : ∀ {h30 : H}, h30.next = hd.next → Fix (· ≠ h.next) hd h30 → readP b = (zeroC, 12) → ReadR g h (readP b) (.tuple [.agg [i64 0, i64 0, .str [], .nils, .nils], .int .i64 12]) h30 := fun hn hf hr => by
            rw [hr]
            exact ⟨_, rfl, ⟨by omega, fun c hc => by rw [hf.same c (by omega), hK.same c hc]⟩, .nils, .nils, [], rfl, Sl.nil, ⟨Sl.nil, fun _ h => by cases h⟩, rfl, In.nils, In.nils, fun _ h => by cases h⟩
          cases hps : p.sh with
          | true =>
            rw [hps] at hflag
            ((repeat refine WC.seq ?_); refine WC.run ?_)
            (try simp only [wk, wl, Then, Blk, pickV, Nat.reduceLT, Nat.reduceEqDiff, Nat.reduceBEq, reduceIte, isConst, nilCheckV, extractV, wantJ, nth, t5, fa82_1, Nat.zero_add, hflag])
            (repeat refine WC.seq ?_)
            refine WC.cond (b := true) (by (try simp only [wk, wl, Then, Blk, pickV, Nat.reduceLT, Nat.reduceEqDiff, Nat.reduceBEq, reduceIte, isConst, nilCheckV, extractV, wantJ, nth]); (try simp); (try omega)) ?_
            ((repeat refine WC.seq ?_); refine WC.run ?_)
            (try simp only [wk, wl, Then, Blk, pickV, Nat.reduceLT, Nat.reduceEqDiff, Nat.reduceBEq, reduceIte, isConst, nilCheckV, extractV, wantJ, nth, t2', build34_0])
            refine sat_store b0 ty34 rfl (Nat.le_refl 5) rfl ?_
            intro h30 b30 n30 f30
            have b30 : Has h30 h.next [i64 0, i64 0, .str [], .nils, .nils] := b30
            (try simp only [wk, wl, Then, Blk, pickV, Nat.reduceLT, Nat.reduceEqDiff, Nat.reduceBEq, reduceIte, isConst, nilCheckV, extractV, wantJ, nth])
            refine WC.ret ?_
            (try simp only [wk, wl, Then, Blk, pickV, Nat.reduceLT, Nat.reduceEqDiff, Nat.reduceBEq, reduceIte, isConst, nilCheckV, extractV, wantJ, nth, t2', b30.agg ty34 rfl (o := 0) (Nat.le_refl 5)])
            exact fin0 n30 f30 (hrd _ (if_neg (fun e => by rw [hps] at e; cases e.1)))
          | false =>
            rw [hps] at hflag
            rcases hcase with ⟨e1, e2⟩ | ⟨e1, e2, e3, e4⟩
            · ((repeat refine WC.seq ?_); refine WC.run ?_)
              (try simp only [wk, wl, Then, Blk, pickV, Nat.reduceLT, Nat.reduceEqDiff, Nat.reduceBEq, reduceIte, isConst, nilCheckV, extractV, wantJ, nth, t5, fa82_1, Nat.zero_add, hflag])
              have hne : (checkE ⟨pid, sig, nm, ns, L.map (·.1)⟩ != 0) = true := by simp [e1]
              (try simp only [wk, wl, Then, Blk, pickV, Nat.reduceLT, Nat.reduceEqDiff, Nat.reduceBEq, reduceIte, isConst, nilCheckV, extractV, wantJ, nth, hne])
              (repeat refine WC.seq ?_)
              refine WC.cond (b := true) (by (try simp only [wk, wl, Then, Blk, pickV, Nat.reduceLT, Nat.reduceEqDiff, Nat.reduceBEq, reduceIte, isConst, nilCheckV, extractV, wantJ, nth]); (try simp); (try omega)) ?_
              ((repeat refine WC.seq ?_); refine WC.run ?_)
              (try simp only [wk, wl, Then, Blk, pickV, Nat.reduceLT, Nat.reduceEqDiff, Nat.reduceBEq, reduceIte, isConst, nilCheckV, extractV, wantJ, nth, t2', build34_0])
              refine sat_store b0 ty34 rfl (Nat.le_refl 5) rfl ?_
              intro h30 b30 n30 f30
              have b30 : Has h30 h.next [i64 0, i64 0, .str [], .nils, .nils] := b30
              (try simp only [wk, wl, Then, Blk, pickV, Nat.reduceLT, Nat.reduceEqDiff, Nat.reduceBEq, reduceIte, isConst, nilCheckV, extractV, wantJ, nth])
              refine WC.ret ?_
              (try simp only [wk, wl, Then, Blk, pickV, Nat.reduceLT, Nat.reduceEqDiff, Nat.reduceBEq, reduceIte, isConst, nilCheckV, extractV, wantJ, nth, t2', b30.agg ty34 rfl (o := 0) (Nat.le_refl 5)])
              exact fin0 n30 f30 (hrd _ (if_neg (fun e => e1 e.2.1)))
            · have hz := check_zero e1
              have hpl := pre2_length ⟨pid, sig, nm, ns, L.map (·.1)⟩
              have hml := memB_length (L.map (·.1)) hz.2.2.2.2.2.2.1
              have hdl : (dumpB ⟨pid, sig, nm, ns, L.map (·.1)⟩).length ≤ 2 ^ 39 := by
                obtain ⟨_, _, _, z1, z2, z3, _⟩ := hz
                simp only at hpl hml z1 z2 z3
                unfold dumpB dumpBody
                simp only [List.length_append, leB_length]
                omega
              ((repeat refine WC.seq ?_); refine WC.run ?_)
              rw [e1]
              (try simp only [wk, wl, Then, Blk, pickV, Nat.reduceLT, Nat.reduceEqDiff, Nat.reduceBEq, reduceIte, isConst, nilCheckV, extractV, wantJ, nth, t5, fa82_1, Nat.zero_add, hflag])
              have hne : ((0 : Int) != 0) = false := rfl
              (try simp only [wk, wl, Then, Blk, pickV, Nat.reduceLT, Nat.reduceEqDiff, Nat.reduceBEq, reduceIte, isConst, nilCheckV, extractV, wantJ, nth, hne, t0'])
              refine (equal_ok e2.sl sb hdl (by omega)).mono fun ve he ⟨ee, eh⟩ => ?_
              subst ee eh
              by_cases heq : dumpB ⟨pid, sig, nm, ns, L.map (·.1)⟩ = b
              · (try simp only [wk, wl, Then, Blk, pickV, Nat.reduceLT, Nat.reduceEqDiff, Nat.reduceBEq, reduceIte, isConst, nilCheckV, extractV, wantJ, nth, decide_eq_true heq, Bool.not_true])
                (repeat refine WC.seq ?_)
                refine WC.cond (b := false) (by (try simp only [wk, wl, Then, Blk, pickV, Nat.reduceLT, Nat.reduceEqDiff, Nat.reduceBEq, reduceIte, isConst, nilCheckV, extractV, wantJ, nth]); (try simp); (try omega)) (WC.skip ?_)
                ((repeat refine WC.seq ?_); refine WC.run ?_)
                (try simp only [wk, wl, Then, Blk, pickV, Nat.reduceLT, Nat.reduceEqDiff, Nat.reduceBEq, reduceIte, isConst, nilCheckV, extractV, wantJ, nth, t6, t2', bd.agg ty34 rfl (o := 0) (Nat.le_refl 5)])
                refine sat_store b0 ty34 rfl (Nat.le_refl 5) (by show ([i64 pid, i64 sig, .str nm, rv, mv] : List V).all V.one = true; simp only [List.all_cons, List.all_nil, (Sl.one I.ib.sl).2, (Sl.one I.mb.sl).2, Bool.and_true]; rfl) ?_
                intro h30 b30 n30 f30
                have b30 : Has h30 h.next [i64 pid, i64 sig, .str nm, rv, mv] := b30
                (try simp only [wk, wl, Then, Blk, pickV, Nat.reduceLT, Nat.reduceEqDiff, Nat.reduceBEq, reduceIte, isConst, nilCheckV, extractV, wantJ, nth])
                refine WC.ret ?_
                (try simp only [wk, wl, Then, Blk, pickV, Nat.reduceLT, Nat.reduceEqDiff, Nat.reduceBEq, reduceIte, isConst, nilCheckV, extractV, wantJ, nth, t2', b30.agg ty34 rfl (o := 0) (Nat.le_refl 5)])
                rw [hrd _ (if_pos ⟨hps, e1, heq⟩)]
                refine ⟨_, rfl, ⟨by omega, fun c hc => by rw [f30.same c (by omega), hK.same c hc]⟩, rv, mv, L, ?_⟩
                exact ⟨rfl, Sl.fix cod.regs (I.inR.sub fun x hx => by omega) f30, cod.mem.fix (I.inM.sub fun x hx => by omega) (fun q hq => (I.inL q hq).sub fun x hx => by omega) f30, rfl, I.inR.sub fun x hx => ⟨by omega, by have := hx.2.1; omega⟩, I.inM.sub fun x hx => by omega, fun q hq => (I.inL q hq).sub fun x hx => ⟨by omega, by have := hx.2.1; omega⟩⟩
              · (try simp only [wk, wl, Then, Blk, pickV, Nat.reduceLT, Nat.reduceEqDiff, Nat.reduceBEq, reduceIte, isConst, nilCheckV, extractV, wantJ, nth, decide_eq_false heq, Bool.not_false])
                (repeat refine WC.seq ?_)
                refine WC.cond (b := true) (by (try simp only [wk, wl, Then, Blk, pickV, Nat.reduceLT, Nat.reduceEqDiff, Nat.reduceBEq, reduceIte, isConst, nilCheckV, extractV, wantJ, nth]); (try simp); (try omega)) ?_
                ((repeat refine WC.seq ?_); refine WC.run ?_)
                (try simp only [wk, wl, Then, Blk, pickV, Nat.reduceLT, Nat.reduceEqDiff, Nat.reduceBEq, reduceIte, isConst, nilCheckV, extractV, wantJ, nth, t2', build34_0])
                refine sat_store b0 ty34 rfl (Nat.le_refl 5) rfl ?_
                intro h30 b30 n30 f30
                have b30 : Has h30 h.next [i64 0, i64 0, .str [], .nils, .nils] := b30
                (try simp only [wk, wl, Then, Blk, pickV, Nat.reduceLT, Nat.reduceEqDiff, Nat.reduceBEq, reduceIte, isConst, nilCheckV, extractV, wantJ, nth])
                refine WC.ret ?_
                (try simp only [wk, wl, Then, Blk, pickV, Nat.reduceLT, Nat.reduceEqDiff, Nat.reduceBEq, reduceIte, isConst, nilCheckV, extractV, wantJ, nth, t2', b30.agg ty34 rfl (o := 0) (Nat.le_refl 5)])
                exact fin0 n30 f30 (hrd _ (if_neg (fun e => heq e.2.2)))
    · have hr : readP b = (zeroC, 6) := by unfold readP; rw [if_pos (.inr hsum)]
      rw [hr]
      have hsum' : leN (b.drop (b.length - 4)) ≠ sumN (b.take (b.length - 4)) % 4294967296 := hsum
      refine WC.cond (b := true) (by (try simp only [wk, wl, Then, Blk, pickV, Nat.reduceLT, Nat.reduceEqDiff, Nat.reduceBEq, reduceIte, isConst, nilCheckV, extractV, wantJ, nth]); simp only [Option.some.injEq, V.bool.injEq, bne_iff_ne, ne_eq]; omega) ?_
      ((repeat refine WC.seq ?_); refine WC.run ?_)
      (try simp only [wk, wl, Then, Blk, pickV, Nat.reduceLT, Nat.reduceEqDiff, Nat.reduceBEq, reduceIte, isConst, nilCheckV, extractV, wantJ, nth, build34_0])
      refine sat_store B1 ty34 rfl (Nat.le_refl 5) rfl ?_
      intro h5 b5 n5 f5
      have b5 : Has h5 h.next [i64 0, i64 0, .str [], .nils, .nils] := b5
      (try simp only [wk, wl, Then, Blk, pickV, Nat.reduceLT, Nat.reduceEqDiff, Nat.reduceBEq, reduceIte, isConst, nilCheckV, extractV, wantJ, nth])
      refine WC.ret ?_
      (try simp only [wk, wl, Then, Blk, pickV, Nat.reduceLT, Nat.reduceEqDiff, Nat.reduceBEq, reduceIte, isConst, nilCheckV, extractV, wantJ, nth, b5.agg ty34 rfl (o := 0) (Nat.le_refl 5)])
      refine ⟨_, rfl, ⟨by omega, fun c hc => by rw [f5.same c (by omega), F14.same c (by omega), f1.same c hc]⟩, ?_⟩
      exact ⟨.nils, .nils, [], rfl, Sl.nil, ⟨Sl.nil, fun _ h => by cases h⟩, rfl, In.nils, In.nils, fun _ h => by cases h⟩
end Go.Proofs.ZP
