/- Walks: package binary, package slices, the reference's put and get, names. -/
import Derived.Test.YtcngigkkfledgaaGreatC1
import Derived.Test.YtcngigkkfledgaaGreatB7
set_option linter.unusedVariables false
set_option linter.unusedSimpArgs false
set_option linter.defProp false
set_option linter.unusedSimpArgs false
namespace Go.Proofs.ZP
open Go Go.Ev
open Go.Proofs
variable {g : T (List V)}

/-- What a call leaves alone. -/
abbrev Kept (h h' : H) : Prop := Fix (· < h.next) h h'

/-- binary.LittleEndian -/
theorem le_ok {h : H} : WF (E g) 20 [] h fun v h' => v = .agg [] ∧ Kept h h' := by
  refine WF.enter fn20 rfl ?_
  ((repeat refine WC.seq ?_); refine WC.run ?_)
  (try simp only [wk, wl, Then, Blk, pickV, Nat.reduceLT, Nat.reduceEqDiff, Nat.reduceBEq, reduceIte, isConst, nilCheckV, extractV, wantJ, nth])
  refine wop_alloc ty68 ?_
  intro h1 a1 n1 f1
  (try simp only [wk, wl, Then, Blk, pickV, Nat.reduceLT, Nat.reduceEqDiff, Nat.reduceBEq, reduceIte, isConst, nilCheckV, extractV, wantJ, nth])
  ((repeat refine WC.seq ?_); refine WC.run ?_)
  (try simp only [wk, wl, Then, Blk, pickV, Nat.reduceLT, Nat.reduceEqDiff, Nat.reduceBEq, reduceIte, isConst, nilCheckV, extractV, wantJ, nth])
  refine wop_alloc ty68 ?_
  intro h2 a2 n2 f2
  (try simp only [wk, wl, Then, Blk, pickV, Nat.reduceLT, Nat.reduceEqDiff, Nat.reduceBEq, reduceIte, isConst, nilCheckV, extractV, wantJ, nth])
  ((repeat refine WC.seq ?_); refine WC.run ?_)
  (try simp only [wk, wl, Then, Blk, pickV, Nat.reduceLT, Nat.reduceEqDiff, Nat.reduceBEq, reduceIte, isConst, nilCheckV, extractV, wantJ, nth, a2.agg ty68 rfl (o := 0) (Nat.le_refl 0)])
  refine sat_store (a1.fix f2 (by omega)) ty68 rfl (by decide) rfl ?_
  intro h3 a3 n3 f3
  (try simp only [wk, wl, Then, Blk, pickV, Nat.reduceLT, Nat.reduceEqDiff, Nat.reduceBEq, reduceIte, isConst, nilCheckV, extractV, wantJ, nth])
  refine WC.ret ?_
  (try simp only [wk, wl, Then, Blk, pickV, Nat.reduceLT, Nat.reduceEqDiff, Nat.reduceBEq, reduceIte, isConst, nilCheckV, extractV, wantJ, nth, a3.agg ty68 rfl (o := 0) (Nat.le_refl 0)])
  exact ⟨by trivial, by omega, fun c hc => by rw [f3.same c (by omega), f2.same c (by omega), f1.same c hc]⟩

theorem BufB.kept {h h' : H} {s : V} {xs : List UInt8} (b : BufB g h s xs) (l : In (· < h.next) s) (f : Kept h h') : GrewB g h s h' s xs := (Grew.refl b l).keep f

/-- AppendUint32 -/
theorem app32_ok {h : H} {s : V} {xs : List UInt8} {n : Nat} (hb : BufB g h s xs) (hlow : In (· < h.next) s) (hn : n < 4294967296) (hlen : xs.length ≤ 2 ^ 39) :
    WF (E g) 21 [.agg [], s, .int .u32 n] h fun v h' => GrewB g h s h' v (xs ++ leB n 4) := by
  refine WF.enter fn21 rfl ?_
  ((repeat refine WC.seq ?_); refine WC.run ?_)
  (try simp only [wk, wl, Then, Blk, pickV, Nat.reduceLT, Nat.reduceEqDiff, Nat.reduceBEq, reduceIte, isConst, nilCheckV, extractV, wantJ, nth])
  refine wop_box (v := .agg []) (by (try simp only [wk, wl, Then, Blk, pickV, Nat.reduceLT, Nat.reduceEqDiff, Nat.reduceBEq, reduceIte, isConst, nilCheckV, extractV, wantJ, nth])) ?_
  intro h1 a1 n1 f1
  (try simp only [wk, wl, Then, Blk, pickV, Nat.reduceLT, Nat.reduceEqDiff, Nat.reduceBEq, reduceIte, isConst, nilCheckV, extractV, wantJ, nth])
  ((repeat refine WC.seq ?_); refine WC.run ?_)
  (try simp only [wk, wl, Then, Blk, pickV, Nat.reduceLT, Nat.reduceEqDiff, Nat.reduceBEq, reduceIte, isConst, nilCheckV, extractV, wantJ, nth, conv_int ty71 ty74 rfl])
  have gr := BufB.kept hb hlow f1
  rw [wrapu64_nat, Nat.mod_eq_of_lt (by omega)]
  refine (appended_ok (n := n) (k := 4) gr.buf gr.low (by omega) (by omega) hlen).mono fun v h2 g2 => ?_
  (try simp only [wk, wl, Then, Blk, pickV, Nat.reduceLT, Nat.reduceEqDiff, Nat.reduceBEq, reduceIte, isConst, nilCheckV, extractV, wantJ, nth])
  refine WC.ret ?_
  (try simp only [wk, wl, Then, Blk, pickV, Nat.reduceLT, Nat.reduceEqDiff, Nat.reduceBEq, reduceIte, isConst, nilCheckV, extractV, wantJ, nth])
  exact gr.trans g2

/-- AppendUint16 -/
theorem app16_ok {h : H} {s : V} {xs : List UInt8} {n : Nat} (hb : BufB g h s xs) (hlow : In (· < h.next) s) (hn : n < 65536) (hlen : xs.length ≤ 2 ^ 39) :
    WF (E g) 22 [.agg [], s, .int .u16 n] h fun v h' => GrewB g h s h' v (xs ++ leB n 2) := by
  refine WF.enter fn22 rfl ?_
  ((repeat refine WC.seq ?_); refine WC.run ?_)
  (try simp only [wk, wl, Then, Blk, pickV, Nat.reduceLT, Nat.reduceEqDiff, Nat.reduceBEq, reduceIte, isConst, nilCheckV, extractV, wantJ, nth])
  refine wop_box (v := .agg []) (by (try simp only [wk, wl, Then, Blk, pickV, Nat.reduceLT, Nat.reduceEqDiff, Nat.reduceBEq, reduceIte, isConst, nilCheckV, extractV, wantJ, nth])) ?_
  intro h1 a1 n1 f1
  (try simp only [wk, wl, Then, Blk, pickV, Nat.reduceLT, Nat.reduceEqDiff, Nat.reduceBEq, reduceIte, isConst, nilCheckV, extractV, wantJ, nth])
  ((repeat refine WC.seq ?_); refine WC.run ?_)
  (try simp only [wk, wl, Then, Blk, pickV, Nat.reduceLT, Nat.reduceEqDiff, Nat.reduceBEq, reduceIte, isConst, nilCheckV, extractV, wantJ, nth, conv_int ty43 ty74 rfl])
  have gr := BufB.kept hb hlow f1
  rw [wrapu64_nat, Nat.mod_eq_of_lt (by omega)]
  refine (appended_ok (n := n) (k := 2) gr.buf gr.low (by omega) (by omega) hlen).mono fun v h2 g2 => ?_
  (try simp only [wk, wl, Then, Blk, pickV, Nat.reduceLT, Nat.reduceEqDiff, Nat.reduceBEq, reduceIte, isConst, nilCheckV, extractV, wantJ, nth])
  refine WC.ret ?_
  (try simp only [wk, wl, Then, Blk, pickV, Nat.reduceLT, Nat.reduceEqDiff, Nat.reduceBEq, reduceIte, isConst, nilCheckV, extractV, wantJ, nth])
  exact gr.trans g2

/-- AppendUint64 -/
theorem app64_ok {h : H} {s : V} {xs : List UInt8} {n : Nat} (hb : BufB g h s xs) (hlow : In (· < h.next) s) (hn : n < 2 ^ 64) (hlen : xs.length ≤ 2 ^ 39) :
    WF (E g) 23 [.agg [], s, .int .u64 n] h fun v h' => GrewB g h s h' v (xs ++ leB n 8) := by
  refine WF.enter fn23 rfl ?_
  ((repeat refine WC.seq ?_); refine WC.run ?_)
  (try simp only [wk, wl, Then, Blk, pickV, Nat.reduceLT, Nat.reduceEqDiff, Nat.reduceBEq, reduceIte, isConst, nilCheckV, extractV, wantJ, nth])
  refine wop_box (v := .agg []) (by (try simp only [wk, wl, Then, Blk, pickV, Nat.reduceLT, Nat.reduceEqDiff, Nat.reduceBEq, reduceIte, isConst, nilCheckV, extractV, wantJ, nth])) ?_
  intro h1 a1 n1 f1
  (try simp only [wk, wl, Then, Blk, pickV, Nat.reduceLT, Nat.reduceEqDiff, Nat.reduceBEq, reduceIte, isConst, nilCheckV, extractV, wantJ, nth])
  ((repeat refine WC.seq ?_); refine WC.run ?_)
  (try simp only [wk, wl, Then, Blk, pickV, Nat.reduceLT, Nat.reduceEqDiff, Nat.reduceBEq, reduceIte, isConst, nilCheckV, extractV, wantJ, nth])
  have gr := BufB.kept hb hlow f1
  refine (appended_ok (n := n) (k := 8) gr.buf gr.low hn (by omega) hlen).mono fun v h2 g2 => ?_
  (try simp only [wk, wl, Then, Blk, pickV, Nat.reduceLT, Nat.reduceEqDiff, Nat.reduceBEq, reduceIte, isConst, nilCheckV, extractV, wantJ, nth])
  refine WC.ret ?_
  (try simp only [wk, wl, Then, Blk, pickV, Nat.reduceLT, Nat.reduceEqDiff, Nat.reduceBEq, reduceIte, isConst, nilCheckV, extractV, wantJ, nth])
  exact gr.trans g2

def leN : List UInt8 → Nat
  | [] => 0
  | c :: r => c.toNat + 256 * leN r
theorem leN_lt : ∀ (xs : List UInt8), leN xs < 256 ^ xs.length
  | [] => by simp [leN]
  | c :: r => by
    have := leN_lt r
    have hc : c.toNat < 256 := c.toNat_lt
    simp only [leN, List.length_cons, Nat.pow_succ]
    omega
theorem leN_drop {xs : List UInt8} {k : Nat} (hk : k < xs.length) : leN (xs.drop k) = xs[k].toNat + 256 * leN (xs.drop (k + 1)) := by
  rw [List.drop_eq_getElem_cons hk]; rfl

set_option maxRecDepth 10000 in
theorem or_byte {a c : Nat} (ha : a < 72057594037927936) (hc : c < 256) : IntKind.u64.wrap (BitVec.ofInt IntKind.u64.bits ((a * 256 : Nat) : Int) ||| BitVec.ofInt IntKind.u64.bits (c : Int)).toNat = ((a * 256 + c : Nat) : Int) := by
  have hlt : a * 256 + c < 18446744073709551616 := by omega
  have e1 : (BitVec.ofInt 64 ((a * 256 : Nat) : Int)).toNat = a * 256 := by
    rw [BitVec.ofInt_natCast, BitVec.toNat_ofNat, Nat.mod_eq_of_lt (show a * 256 < 2 ^ 64 by omega)]
  have e2 : (BitVec.ofInt 64 (c : Int)).toNat = c := by
    rw [BitVec.ofInt_natCast, BitVec.toNat_ofNat, Nat.mod_eq_of_lt (show c < 2 ^ 64 by omega)]
  have e3 : (BitVec.ofInt 64 ((a * 256 : Nat) : Int) ||| BitVec.ofInt 64 (c : Int)).toNat = a * 256 + c := by
    rw [BitVec.toNat_or, e1, e2]
    have := Nat.shiftLeft_add_eq_or_of_lt (a := a) (b := c) (i := 8) (by omega)
    rw [Nat.shiftLeft_eq] at this
    exact this.symm
  show IntKind.u64.wrap ((BitVec.ofInt 64 ((a * 256 : Nat) : Int) ||| BitVec.ofInt 64 (c : Int)).toNat : Nat) = _
  rw [e3, wrapu64_nat, Nat.mod_eq_of_lt hlt]

/-- binary.get -/
theorem get_ok {h : H} {s : V} {xs : List UInt8} {k : Nat} (hb : Bs g h s xs) (hk : k ≤ xs.length) (h8 : k ≤ 8) : WF (E g) 57 [s, .int .i64 k] h fun v h' => v = .int .u64 (leN (xs.take k) : Nat) ∧ h' = h := by
  refine WF.enter fn57 rfl ?_
  ((repeat refine WC.seq ?_); refine WC.run ?_)
  (try simp only [wk, wl, Then, Blk, pickV, Nat.reduceLT, Nat.reduceEqDiff, Nat.reduceBEq, reduceIte, isConst, nilCheckV, extractV, wantJ, nth])
  ((repeat refine WC.seq ?_); refine WC.run ?_)
  (try simp only [wk, wl, Then, Blk, pickV, Nat.reduceLT, Nat.reduceEqDiff, Nat.reduceBEq, reduceIte, isConst, nilCheckV, extractV, wantJ, nth])
  ((repeat refine WC.seq ?_); refine WC.run ?_)
  (try simp only [wk, wl, Then, Blk, pickV, Nat.reduceLT, Nat.reduceEqDiff, Nat.reduceBEq, reduceIte, isConst, nilCheckV, extractV, wantJ, nth, bin_sub])
  rw [wrap64 (by omega) (by omega)]
  refine WC.block ?_
  refine WC.while (fun m fr hh => ∃ ts j, fr = ⟨ts, 22, [], 57, none⟩ ∧ hh = h ∧ m = j ∧ j ≤ k ∧ ts.get 0 = some s ∧ ts.get 6 = some (.int .i64 ((j : Int) - 1)) ∧ ts.get 5 = some (.int .u64 (leN ((xs.take k).drop j) : Nat))) ?_ ⟨_, k, rfl, rfl, rfl, Nat.le_refl _, ?_, ?_, ?_⟩
  · rintro m fr hh ⟨ts, j, rfl, rfl, rfl, hj, h0, h6, h5⟩
    ((repeat refine WC.seq ?_); refine WC.run ?_)
    (try simp only [wk, wl, Then, Blk, pickV, Nat.reduceLT, Nat.reduceEqDiff, Nat.reduceBEq, reduceIte, isConst, nilCheckV, extractV, wantJ, nth, h6])
    (repeat refine WC.seq ?_)
    cases m with
    | succ j =>
      have e1 : ((j + 1 : Nat) : Int) - 1 = (j : Int) := by omega
      rw [e1] at h6
      refine WC.cond (b := true) (by (try simp only [wk, wl, Then, Blk, pickV, Nat.reduceLT, Nat.reduceEqDiff, Nat.reduceBEq, reduceIte, isConst, nilCheckV, extractV, wantJ, nth]); (try simp); (try omega)) (WC.skip ?_)
      (try simp only [wk, wl, Then, Blk, pickV, Nat.reduceLT, Nat.reduceEqDiff, Nat.reduceBEq, reduceIte, isConst, nilCheckV, extractV, wantJ, nth])
      obtain ⟨p, p1, p2⟩ := hb.at (show j < xs.length by omega)
      (repeat refine WC.seq ?_)
      refine WC.block ?_
      ((repeat refine WC.seq ?_); refine WC.run ?_)
      (try simp only [wk, wl, Then, Blk, pickV, Nat.reduceLT, Nat.reduceEqDiff, Nat.reduceBEq, reduceIte, isConst, nilCheckV, extractV, wantJ, nth, h0, h6, h5, p1, p2, bin_shl (show (0 : Int) ≤ 8 by decide), u8, conv_int ty5 ty74 rfl, bin_or])
      refine WC.run ?_
      (try simp only [wk, wl, Then, Blk, pickV, Nat.reduceLT, Nat.reduceEqDiff, Nat.reduceBEq, reduceIte, isConst, nilCheckV, extractV, wantJ, nth, h6, bin_sub])
      have hjl : j < (xs.take k).length := by simp; omega
      have hd := leN_drop hjl
      have hg : (xs.take k)[j] = xs[j] := List.getElem_take
      have hlt := leN_lt ((xs.take k).drop (j + 1))
      have hlen : ((xs.take k).drop (j + 1)).length ≤ 7 := by simp; omega
      have hpow : 256 ^ ((xs.take k).drop (j + 1)).length ≤ 256 ^ 7 := Nat.pow_le_pow_right (by omega) hlen
      have hc : xs[j].toNat < 256 := xs[j].toNat_lt
      refine ⟨j, by omega, _, j, rfl, trivial, rfl, by omega, ?_⟩
      (try simp only [wk, wl, Then, Blk, pickV, Nat.reduceLT, Nat.reduceEqDiff, Nat.reduceBEq, reduceIte, isConst, nilCheckV, extractV, wantJ, nth, h0])
      refine ⟨trivial, ?_, ?_⟩
      · rw [wrap64 (by omega) (by omega)]
      · have e2 : IntKind.u64.wrap ((leN ((xs.take k).drop (j + 1)) : Nat) * 2 ^ (min (8 : Int).toNat IntKind.u64.bits) : Int) = ((leN ((xs.take k).drop (j + 1)) * 256 : Nat) : Int) := by
          have : ((2 : Int) ^ (min (8 : Int).toNat IntKind.u64.bits)) = ((256 : Nat) : Int) := by decide
          rw [this, ← Int.natCast_mul, wrapu64_nat, Nat.mod_eq_of_lt (by omega)]
        have e3 : IntKind.u64.wrap (xs[j].toNat : Int) = (xs[j].toNat : Int) := by rw [wrapu64_nat, Nat.mod_eq_of_lt (by omega)]
        rw [e2, e3, or_byte (by omega) hc, hd, hg]
        congr 3
        omega
    | zero =>
      refine WC.cond (b := false) (by (try simp only [wk, wl, Then, Blk, pickV, Nat.reduceLT, Nat.reduceEqDiff, Nat.reduceBEq, reduceIte, isConst, nilCheckV, extractV, wantJ, nth]); (try simp); (try omega)) (WC.exit ?_)
      (try simp only [wk, wl, Then, Blk, pickV, Nat.reduceLT, Nat.reduceEqDiff, Nat.reduceBEq, reduceIte, isConst, nilCheckV, extractV, wantJ, nth])
      ((repeat refine WC.seq ?_); refine WC.run ?_)
      (try simp only [wk, wl, Then, Blk, pickV, Nat.reduceLT, Nat.reduceEqDiff, Nat.reduceBEq, reduceIte, isConst, nilCheckV, extractV, wantJ, nth, h5])
      refine WC.ret ?_
      (try simp only [wk, wl, Then, Blk, pickV, Nat.reduceLT, Nat.reduceEqDiff, Nat.reduceBEq, reduceIte, isConst, nilCheckV, extractV, wantJ, nth])
      exact ⟨by trivial, by trivial⟩
  all_goals (try simp only [wk, wl, Then, Blk, pickV, Nat.reduceLT, Nat.reduceEqDiff, Nat.reduceBEq, reduceIte, isConst, nilCheckV, extractV, wantJ, nth])
  · simp [leN]

/-- Uint64 -/
theorem u64_ok {h : H} {s : V} {xs : List UInt8} (hb : Bs g h s xs) (hs : In (· < h.next) s) (hk : 8 ≤ xs.length) : WF (E g) 58 [.agg [], s] h fun v h' => v = .int .u64 (leN (xs.take 8) : Nat) ∧ Kept h h' := by
  refine WF.enter fn58 rfl ?_
  ((repeat refine WC.seq ?_); refine WC.run ?_)
  (try simp only [wk, wl, Then, Blk, pickV, Nat.reduceLT, Nat.reduceEqDiff, Nat.reduceBEq, reduceIte, isConst, nilCheckV, extractV, wantJ, nth])
  refine wop_box (v := .agg []) (by (try simp only [wk, wl, Then, Blk, pickV, Nat.reduceLT, Nat.reduceEqDiff, Nat.reduceBEq, reduceIte, isConst, nilCheckV, extractV, wantJ, nth])) ?_
  intro h1 a1 n1 f1
  (try simp only [wk, wl, Then, Blk, pickV, Nat.reduceLT, Nat.reduceEqDiff, Nat.reduceBEq, reduceIte, isConst, nilCheckV, extractV, wantJ, nth])
  ((repeat refine WC.seq ?_); refine WC.run ?_)
  (try simp only [wk, wl, Then, Blk, pickV, Nat.reduceLT, Nat.reduceEqDiff, Nat.reduceBEq, reduceIte, isConst, nilCheckV, extractV, wantJ, nth])
  refine (get_ok (k := 8) (hb.fix hs f1) hk (by omega)).mono fun v h2 ⟨e1, e2⟩ => ?_
  subst e1 e2
  (try simp only [wk, wl, Then, Blk, pickV, Nat.reduceLT, Nat.reduceEqDiff, Nat.reduceBEq, reduceIte, isConst, nilCheckV, extractV, wantJ, nth])
  refine WC.ret ?_
  (try simp only [wk, wl, Then, Blk, pickV, Nat.reduceLT, Nat.reduceEqDiff, Nat.reduceBEq, reduceIte, isConst, nilCheckV, extractV, wantJ, nth])
  exact ⟨by trivial, f1⟩
/-- Uint32 -/
theorem u32_ok {h : H} {s : V} {xs : List UInt8} (hb : Bs g h s xs) (hs : In (· < h.next) s) (hk : 4 ≤ xs.length) : WF (E g) 28 [.agg [], s] h fun v h' => v = .int .u32 (leN (xs.take 4) : Nat) ∧ Kept h h' := by
  refine WF.enter fn28 rfl ?_
  ((repeat refine WC.seq ?_); refine WC.run ?_)
  (try simp only [wk, wl, Then, Blk, pickV, Nat.reduceLT, Nat.reduceEqDiff, Nat.reduceBEq, reduceIte, isConst, nilCheckV, extractV, wantJ, nth])
  refine wop_box (v := .agg []) (by (try simp only [wk, wl, Then, Blk, pickV, Nat.reduceLT, Nat.reduceEqDiff, Nat.reduceBEq, reduceIte, isConst, nilCheckV, extractV, wantJ, nth])) ?_
  intro h1 a1 n1 f1
  (try simp only [wk, wl, Then, Blk, pickV, Nat.reduceLT, Nat.reduceEqDiff, Nat.reduceBEq, reduceIte, isConst, nilCheckV, extractV, wantJ, nth])
  ((repeat refine WC.seq ?_); refine WC.run ?_)
  (try simp only [wk, wl, Then, Blk, pickV, Nat.reduceLT, Nat.reduceEqDiff, Nat.reduceBEq, reduceIte, isConst, nilCheckV, extractV, wantJ, nth])
  refine (get_ok (k := 4) (hb.fix hs f1) hk (by omega)).mono fun v h2 ⟨e1, e2⟩ => ?_
  subst e1 e2
  (try simp only [wk, wl, Then, Blk, pickV, Nat.reduceLT, Nat.reduceEqDiff, Nat.reduceBEq, reduceIte, isConst, nilCheckV, extractV, wantJ, nth, conv_int ty74 ty71 rfl])
  refine WC.ret ?_
  (try simp only [wk, wl, Then, Blk, pickV, Nat.reduceLT, Nat.reduceEqDiff, Nat.reduceBEq, reduceIte, isConst, nilCheckV, extractV, wantJ, nth])
  refine ⟨?_, f1⟩
  have := leN_lt (xs.take 4)
  have hl : (xs.take 4).length = 4 := by simp; omega
  rw [hl] at this
  rw [wrapu32_nat, Nat.mod_eq_of_lt (by omega)]
end Go.Proofs.ZP
