/- Walks: the law of damage. -/
import Derived.Test.YtcngigkkfledgaaGreatL
import Derived.Test.YtcngigkkfledgaaGreatB10
set_option linter.unusedVariables false
set_option linter.unusedSimpArgs false
set_option linter.defProp false
set_option linter.unusedSimpArgs false
namespace Go.Proofs.ZP
open Go Go.Ev
open Go.Proofs
variable {g : T (List V)}

theorem u8_xor (a b : UInt8) : V.int .u8 (IntKind.u8.wrap (BitVec.ofInt IntKind.u8.bits (a.toNat : Int) ^^^ BitVec.ofInt IntKind.u8.bits (b.toNat : Int)).toNat) = u8 (a ^^^ b) := by
  unfold u8
  rw [wrapu8_nat]
  congr 2
  have ha := a.toNat_lt
  have hb := b.toNat_lt
  change (BitVec.ofInt 8 (a.toNat : Int) ^^^ BitVec.ofInt 8 (b.toNat : Int)).toNat % 256 = (a ^^^ b).toNat
  simp only [BitVec.ofInt_natCast, BitVec.toNat_xor, BitVec.toNat_ofNat, UInt8.toNat_xor]
  rw [Nat.mod_eq_of_lt (a := a.toNat) (by omega), Nat.mod_eq_of_lt (a := b.toNat) (by omega)]
  have := Nat.xor_lt_two_pow (x := a.toNat) (y := b.toNat) (n := 8) (by omega) (by omega)
  exact Nat.mod_eq_of_lt (by omega)
theorem xor_ne {a b : UInt8} (h : b ≠ 0) : a ^^^ b ≠ a := fun e => h (by
  have : a ^^^ (a ^^^ b) = a ^^^ a := by rw [e]
  rw [← UInt8.xor_assoc, UInt8.xor_self, UInt8.zero_xor] at this
  exact this)

theorem dumpB_small {c : CoreD} (h : checkE c = 0) (hk : c.mem.length ≤ 50) (hr : c.regs.length ≤ 70) (hn : c.name.length ≤ 200) : (dumpB c).length ≤ 2 ^ 24 := by
  obtain ⟨_, _, _, _, _, _, hd, _⟩ := check_zero h
  have := memB_length c.mem hd
  rw [dumpB_len]
  unfold dumpBody
  rw [List.length_append, pre2_length]
  omega

theorem BufB.own {h : H} {s : V} {xs : List UInt8} (b : BufB g h s xs) (hx : 0 < xs.length) : ∃ b o m c, s = .slice b o m c := by
  unfold BufB at b
  generalize xs.length = n at b hx
  generalize xs.map u8 = vs at b
  cases b with
  | nil => omega
  | lit _ _ => exact ⟨_, _, _, _, rfl⟩
  | opn _ _ _ => exact ⟨_, _, _, _, rfl⟩

set_option maxRecDepth 100000 in
set_option maxHeartbeats 2000000 in
/-- ProcessDamage -/
theorem damage_ok {h : H} {v : V} {c : CoreD} {rv mv : V} {L : List (Mem × V)} {at_ : Nat} {mask : UInt8} (co : Co g h (· < h.next) v c rv mv L) (ok : CoreOk c) (hz : Sizes c) (hat : at_ < 65536) :
    WF (E g) 4 [v, .int .u16 at_, u8 mask] h fun r _ => r = .bool true := by
  have hlen := co.len
  have hz1 := hz.mem
  refine WF.enter fn4 rfl ?_
  ((repeat refine WC.seq ?_); refine WC.run ?_)
  (try simp only [wk, wl, Then, Blk, pickV, Nat.reduceLT, Nat.reduceEqDiff, Nat.reduceBEq, reduceIte, isConst, nilCheckV, extractV, wantJ, nth])
  refine wop_box (v := v) (by (try simp only [wk, wl, Then, Blk, pickV, Nat.reduceLT, Nat.reduceEqDiff, Nat.reduceBEq, reduceIte, isConst, nilCheckV, extractV, wantJ, nth])) ?_
  rw [co.val]
  intro h1 b1 n1 f1
  have b1 : Has h1 h.next [i64 c.pid, i64 c.sig, .str c.name, rv, mv] := b1
  (try simp only [wk, wl, Then, Blk, pickV, Nat.reduceLT, Nat.reduceEqDiff, Nat.reduceBEq, reduceIte, isConst, nilCheckV, extractV, wantJ, nth])
  have co1 := co.fix f1 (fun _ h => h)
  have lv : ∀ h', Fix (· < h1.next) h1 h' → loadP (E g) h' 25 (.ptr h.next 0) = some v := fun h' f => by
    rw [co.val]; exact (b1.fix f (by omega)).agg ty25 rfl (o := 0) (Nat.le_refl 5)
  ((repeat refine WC.seq ?_); refine WC.run ?_)
  (try simp only [wk, wl, Then, Blk, pickV, Nat.reduceLT, Nat.reduceEqDiff, Nat.reduceBEq, reduceIte, isConst, nilCheckV, extractV, wantJ, nth, lv h1 (Fix.refl _ _)])
  refine (few_ok (co1.up fun x hx => by omega) (by omega)).mono fun r h2 ⟨e2, f2⟩ => ?_
  subst e2
  have F2 : Fix (· < h1.next) h1 h2 := f2
  have x2 := f2.next
  by_cases hf : fewP c = true
  · rw [hf]
    (try simp only [wk, wl, Then, Blk, pickV, Nat.reduceLT, Nat.reduceEqDiff, Nat.reduceBEq, reduceIte, isConst, nilCheckV, extractV, wantJ, nth, Bool.not_true])
    (repeat refine WC.seq ?_)
    refine WC.cond (b := false) (by (try simp only [wk, wl, Then, Blk, pickV, Nat.reduceLT, Nat.reduceEqDiff, Nat.reduceBEq, reduceIte, isConst, nilCheckV, extractV, wantJ, nth]); (try simp); (try omega)) (WC.skip ?_)
    (try simp only [wk, wl, Then, Blk, pickV, Nat.reduceLT, Nat.reduceEqDiff, Nat.reduceBEq, reduceIte, isConst, nilCheckV, extractV, wantJ, nth])
    obtain ⟨k1, k2, k3, k4⟩ := few_bounds hf hz.data
    have co2 := co1.fix F2 (fun x hx => by omega)
    ((repeat refine WC.seq ?_); refine WC.run ?_)
    (try simp only [wk, wl, Then, Blk, pickV, Nat.reduceLT, Nat.reduceEqDiff, Nat.reduceBEq, reduceIte, isConst, nilCheckV, extractV, wantJ, nth, lv h2 F2])
    refine (to_ok (co2.up fun x hx => by omega) (by omega) (by omega) (fun m hm => by have := k4 m hm; omega)).mono fun v3 h3 ⟨f3, rv3, mv3, L3, co3⟩ => ?_
    have x3 := f3.next
    have l3 := co3.len
    (try simp only [wk, wl, Then, Blk, pickV, Nat.reduceLT, Nat.reduceEqDiff, Nat.reduceBEq, reduceIte, isConst, nilCheckV, extractV, wantJ, nth])
    refine (dump_ok (co3.up fun x hx => by omega) (by omega) (by omega)).mono fun v4 h4 d4 => ?_
    obtain ⟨s4, e4, f4, q4⟩ := d4
    subst e4
    have x4 := f4.next
    (try simp only [wk, wl, Then, Blk, pickV, Nat.reduceLT, Nat.reduceEqDiff, Nat.reduceBEq, reduceIte, isConst, nilCheckV, extractV, wantJ, nth])
    have F4 : Fix (· < h1.next) h1 h4 := (F2.trans (f3.sub fun x hx => by omega)).trans (f4.sub fun x hx => by omega)
    have co4 := co1.fix F4 (fun x hx => by omega)
    rcases q4 with ⟨q1, rfl⟩ | ⟨q1, bs4, in4, in4'⟩
    · ((repeat refine WC.seq ?_); refine WC.run ?_)
      have hne : (checkE c != 0) = true := by simpa using q1
      (try simp only [wk, wl, Then, Blk, pickV, Nat.reduceLT, Nat.reduceEqDiff, Nat.reduceBEq, reduceIte, isConst, nilCheckV, extractV, wantJ, nth, bin_neq, hne])
      (repeat refine WC.seq ?_)
      refine WC.cond (b := true) (by (try simp only [wk, wl, Then, Blk, pickV, Nat.reduceLT, Nat.reduceEqDiff, Nat.reduceBEq, reduceIte, isConst, nilCheckV, extractV, wantJ, nth]); (try simp); (try omega)) ?_
      (repeat refine WC.seq ?_)
      ((repeat refine WC.seq ?_); refine WC.run ?_)
      (try simp only [wk, wl, Then, Blk, pickV, Nat.reduceLT, Nat.reduceEqDiff, Nat.reduceBEq, reduceIte, isConst, nilCheckV, extractV, wantJ, nth, lv h4 F4])
      refine (rdump_ok (co4.up fun x hx => by omega) (by omega) (by omega)).mono fun v5 h5 d5 => ?_
      obtain ⟨s5, rfl, f5, bs5, in5⟩ := d5.get
      (try simp only [wk, wl, Then, Blk, pickV, Nat.reduceLT, Nat.reduceEqDiff, Nat.reduceBEq, reduceIte, isConst, nilCheckV, extractV, wantJ, nth])
      ((repeat refine WC.seq ?_); refine WC.run ?_)
      (try simp only [wk, wl, Then, Blk, pickV, Nat.reduceLT, Nat.reduceEqDiff, Nat.reduceBEq, reduceIte, isConst, nilCheckV, extractV, wantJ, nth, bin_eql, beq_self_eq_true])
      refine awake_ok ?_
      (try simp only [wk, wl, Then, Blk, pickV, Nat.reduceLT, Nat.reduceEqDiff, Nat.reduceBEq, reduceIte, isConst, nilCheckV, extractV, wantJ, nth])
      refine WC.ret ?_
      (try simp only [wk, wl, Then, Blk, pickV, Nat.reduceLT, Nat.reduceEqDiff, Nat.reduceBEq, reduceIte, isConst, nilCheckV, extractV, wantJ, nth])
    · have hlb := dumpBody_len c
      have hLb := dumpB_len c
      have hsm := dumpB_small q1 k3 k2 k1
      have hne : (((dumpB c).length : Int) == 0) = false := beq_eq_false_iff_ne.2 (by omega)
      ((repeat refine WC.seq ?_); refine WC.run ?_)
      (try simp only [wk, wl, Then, Blk, pickV, Nat.reduceLT, Nat.reduceEqDiff, Nat.reduceBEq, reduceIte, isConst, nilCheckV, extractV, wantJ, nth, q1, bin_neq, bne_self_eq_false, Bs.len bs4.sl, bin_eql, hne])
      (repeat refine WC.seq ?_)
      refine WC.cond (b := false) (by (try simp only [wk, wl, Then, Blk, pickV, Nat.reduceLT, Nat.reduceEqDiff, Nat.reduceBEq, reduceIte, isConst, nilCheckV, extractV, wantJ, nth]); (try simp); (try omega)) (WC.skip ?_)
      (try simp only [wk, wl, Then, Blk, pickV, Nat.reduceLT, Nat.reduceEqDiff, Nat.reduceBEq, reduceIte, isConst, nilCheckV, extractV, wantJ, nth])
      ((repeat refine WC.seq ?_); refine WC.run ?_)
      (try simp only [wk, wl, Then, Blk, pickV, Nat.reduceLT, Nat.reduceEqDiff, Nat.reduceBEq, reduceIte, isConst, nilCheckV, extractV, wantJ, nth])
      refine sat_slice0 ty26 rfl ty5 rfl (by decide) ?_
      intro h6 b6 n6 f6
      (try simp only [wk, wl, Then, Blk, pickV, Nat.reduceLT, Nat.reduceEqDiff, Nat.reduceBEq, reduceIte, isConst, nilCheckV, extractV, wantJ, nth])
      have hb6 : Bs g h6 s4 (dumpB c) := Sl.fix bs4.sl (in4.sub fun x hx => by omega) f6
      refine app_ok (xs := []) (ys := dumpB c) (Grew.refl b6 (fun x o n c e => by injection e with e; omega)) ty26 (.inl ⟨_, rfl⟩) (Sl.len hb6) hb6.cells (by simp; omega) ?_
      intro s7 h7 g7 fx7
      have x7 := fx7.next
      (try simp only [wk, wl, Then, Blk, pickV, Nat.reduceLT, Nat.reduceEqDiff, Nat.reduceBEq, reduceIte, isConst, nilCheckV, extractV, wantJ, nth])
      have F7 : Fix (· < h4.next) h4 h7 := ⟨by omega, fun x hx => by rw [fx7.same x ⟨by omega, fun o m cc e => by injection e with e; omega⟩, f6.same x hx]⟩
      refine (read_ok (b := dumpB c) g7.buf.sl g7.low (by omega)).mono fun v8 h8 ⟨cv8, e8, f8, rv8, mv8, L8, co8⟩ => ?_
      rw [read_dump q1 ok] at co8 e8
      have co8 : Co g h8 (fun b => h7.next ≤ b ∧ b < h8.next) cv8 c rv8 mv8 L8 := co8
      subst e8
      have x8 := f8.next
      have or8 := (Sl.one co8.regs).2
      have om8 := (Sl.one co8.mem.sl).2
      (try simp only [wk, wl, Then, Blk, pickV, Nat.reduceLT, Nat.reduceEqDiff, Nat.reduceBEq, reduceIte, isConst, nilCheckV, extractV, wantJ, nth])
      refine wop_alloc ty34 ?_
      intro h9 b9 n9 f9
      (try simp only [wk, wl, Then, Blk, pickV, Nat.reduceLT, Nat.reduceEqDiff, Nat.reduceBEq, reduceIte, isConst, nilCheckV, extractV, wantJ, nth])
      rw [co8.val]
      refine sat_store b9 ty34 rfl (Nat.le_refl 5) (by show ([i64 c.pid, i64 c.sig, .str c.name, rv8, mv8] : List V).all V.one = true; simp only [List.all_cons, List.all_nil, or8, om8, Bool.and_true]; rfl) ?_
      intro h10 b10 n10 f10
      have b10 : Has h10 h8.next [i64 c.pid, i64 c.sig, .str c.name, rv8, mv8] := b10
      (try simp only [wk, wl, Then, Blk, pickV, Nat.reduceLT, Nat.reduceEqDiff, Nat.reduceBEq, reduceIte, isConst, nilCheckV, extractV, wantJ, nth])
      have F810 : Fix (· < h8.next) h8 h10 := ⟨by omega, fun x hx => by rw [f10.same x (by omega), f9.same x hx]⟩
      have F10 : Fix (· < h4.next) h4 h10 := (F7.trans (f8.sub fun x hx => by omega)).trans (F810.sub fun x hx => by omega)
      have F110 : Fix (· < h1.next) h1 h10 := F4.trans (F10.sub fun x hx => by omega)
      have c8 := co8.fix F810 (fun x hx => by omega)
      have c1 := co1.fix F110 (fun x hx => by omega)
      have l9 : loadP (E g) h10 34 (.ptr h8.next 0) = some cv8 := by rw [co8.val]; exact b10.agg ty34 rfl (o := 0) (Nat.le_refl 5)
      ((repeat refine WC.seq ?_); refine WC.run ?_)
      (try simp only [wk, wl, Then, Blk, pickV, Nat.reduceLT, Nat.reduceEqDiff, Nat.reduceBEq, reduceIte, isConst, nilCheckV, extractV, wantJ, nth, bin_neq, bne_self_eq_false, l9, lv h10 F110])
      refine (same_ok (c8.up fun x hx => by omega) (c1.up fun x hx => by omega) (by omega) (by have := co8.len; omega)).mono fun r14 h14 ⟨f14, p14, e14, hq⟩ => ?_
      subst e14
      obtain rfl : p14 = true := hq.2 rfl
      have x14 := f14.next
      (try simp only [wk, wl, Then, Blk, pickV, Nat.reduceLT, Nat.reduceEqDiff, Nat.reduceBEq, reduceIte, isConst, nilCheckV, extractV, wantJ, nth, Bool.not_true])
      (repeat refine WC.seq ?_)
      refine WC.cond (b := false) (by (try simp only [wk, wl, Then, Blk, pickV, Nat.reduceLT, Nat.reduceEqDiff, Nat.reduceBEq, reduceIte, isConst, nilCheckV, extractV, wantJ, nth]); (try simp); (try omega)) (WC.skip ?_)
      (try simp only [wk, wl, Then, Blk, pickV, Nat.reduceLT, Nat.reduceEqDiff, Nat.reduceBEq, reduceIte, isConst, nilCheckV, extractV, wantJ, nth])
      have F14 : Fix (· < h4.next) h4 h14 := F10.trans (f14.sub fun x hx => by omega)
      have bs14 : BufB g h14 s4 (dumpB c) := bs4.fix in4 F14
      ((repeat refine WC.seq ?_); refine WC.run ?_)
      by_cases hm : mask = 0
      · subst hm
        (try simp only [wk, wl, Then, Blk, pickV, Nat.reduceLT, Nat.reduceEqDiff, Nat.reduceBEq, reduceIte, isConst, nilCheckV, extractV, wantJ, nth, u8, bin_neq])
        (repeat refine WC.seq ?_)
        refine WC.cond (b := false) (by (try simp only [wk, wl, Then, Blk, pickV, Nat.reduceLT, Nat.reduceEqDiff, Nat.reduceBEq, reduceIte, isConst, nilCheckV, extractV, wantJ, nth]); (try simp); (try omega)) (WC.skip ?_)
        (try simp only [wk, wl, Then, Blk, pickV, Nat.reduceLT, Nat.reduceEqDiff, Nat.reduceBEq, reduceIte, isConst, nilCheckV, extractV, wantJ, nth])
        ((repeat refine WC.seq ?_); refine WC.run ?_)
        (try simp only [wk, wl, Then, Blk, pickV, Nat.reduceLT, Nat.reduceEqDiff, Nat.reduceBEq, reduceIte, isConst, nilCheckV, extractV, wantJ, nth])
        refine awake_ok ?_
        (try simp only [wk, wl, Then, Blk, pickV, Nat.reduceLT, Nat.reduceEqDiff, Nat.reduceBEq, reduceIte, isConst, nilCheckV, extractV, wantJ, nth])
        refine WC.ret ?_
        (try simp only [wk, wl, Then, Blk, pickV, Nat.reduceLT, Nat.reduceEqDiff, Nat.reduceBEq, reduceIte, isConst, nilCheckV, extractV, wantJ, nth])
      · have hmn : ((mask.toNat : Int) != 0) = true := by
          have : mask.toNat ≠ 0 := fun e => hm (UInt8.toNat_inj.1 e)
          simpa using this
        (try simp only [wk, wl, Then, Blk, pickV, Nat.reduceLT, Nat.reduceEqDiff, Nat.reduceBEq, reduceIte, isConst, nilCheckV, extractV, wantJ, nth, u8, bin_neq, hmn])
        (repeat refine WC.seq ?_)
        refine WC.cond (b := true) (by (try simp only [wk, wl, Then, Blk, pickV, Nat.reduceLT, Nat.reduceEqDiff, Nat.reduceBEq, reduceIte, isConst, nilCheckV, extractV, wantJ, nth]); (try simp); (try omega)) ?_
        have hpos : 0 < (dumpB c).length := by omega
        have hk : at_ % (dumpB c).length < (dumpB c).length := Nat.mod_lt _ hpos
        obtain ⟨p, p1, p2⟩ := Bs.at bs14.sl hk
        obtain ⟨pp, pb, h15, i1, i2, i3, i4, i5, i6⟩ := Sl.put bs14.sl (bs14.own hpos) ty26 rfl ty5 rfl hk (v := u8 ((dumpB c)[at_ % (dumpB c).length] ^^^ mask)) rfl rfl
        obtain rfl : p = pp := Option.some.inj (p1.symm.trans i1)
        have hrem : Int.tmod (at_ : Int) ((dumpB c).length : Int) = ((at_ % (dumpB c).length : Nat) : Int) := rfl
        have hcv : IntKind.i64.wrap (at_ : Int) = (at_ : Int) := wrap64 (by omega) (by omega)
        have hl0 : ((dumpB c).length : Int) ≠ 0 := by omega
        (repeat refine WC.seq ?_)
        ((repeat refine WC.seq ?_); refine WC.run ?_)
        (try simp only [wk, wl, Then, Blk, pickV, Nat.reduceLT, Nat.reduceEqDiff, Nat.reduceBEq, reduceIte, isConst, nilCheckV, extractV, wantJ, nth, conv_int ty43 ty3 rfl, hcv, Bs.len bs14.sl, bin_rem hl0, hrem, p1, p2, u8, bin_xor, u8_xor])
        have i3' : storeP (E g) h14 5 p (V.int .u8 (((dumpB c)[at_ % (dumpB c).length] ^^^ mask).toNat : Int)) = some h15 := i3
        rw [i3', sat_rh]
        (try simp only [wk, wl, Then, Blk, pickV, Nat.reduceLT, Nat.reduceEqDiff, Nat.reduceBEq, reduceIte, isConst, nilCheckV, extractV, wantJ, nth])
        have bs15 : Bs g h15 s4 ((dumpB c).set (at_ % (dumpB c).length) ((dumpB c)[at_ % (dumpB c).length] ^^^ mask)) := by
          unfold Bs
          rw [List.length_set, List.map_set]; exact i4
        have hbad : (readP ((dumpB c).set (at_ % (dumpB c).length) ((dumpB c)[at_ % (dumpB c).length] ^^^ mask))).2 ≠ 0 := read_changed c hk (xor_ne hm)
        have hll : ((dumpB c).set (at_ % (dumpB c).length) ((dumpB c)[at_ % (dumpB c).length] ^^^ mask)).length ≤ 2 ^ 30 := by rw [List.length_set]; omega
        generalize (dumpB c).set (at_ % (dumpB c).length) ((dumpB c)[at_ % (dumpB c).length] ^^^ mask) = nb at *
        (repeat refine WC.seq ?_)
        ((repeat refine WC.seq ?_); refine WC.run ?_)
        (try simp only [wk, wl, Then, Blk, pickV, Nat.reduceLT, Nat.reduceEqDiff, Nat.reduceBEq, reduceIte, isConst, nilCheckV, extractV, wantJ, nth])
        refine (read_ok (b := nb) bs15 (in4.sub fun x hx => by omega) hll).mono fun v16 h16 ⟨cv16, e16, f16, rv16, mv16, L16, co16⟩ => ?_
        subst e16
        have or16 := (Sl.one co16.regs).2
        have om16 := (Sl.one co16.mem.sl).2
        (try simp only [wk, wl, Then, Blk, pickV, Nat.reduceLT, Nat.reduceEqDiff, Nat.reduceBEq, reduceIte, isConst, nilCheckV, extractV, wantJ, nth])
        refine wop_alloc ty34 ?_
        intro h17 b17 n17 f17
        (try simp only [wk, wl, Then, Blk, pickV, Nat.reduceLT, Nat.reduceEqDiff, Nat.reduceBEq, reduceIte, isConst, nilCheckV, extractV, wantJ, nth])
        rw [co16.val]
        refine sat_store b17 ty34 rfl (Nat.le_refl 5) (by show ([i64 (readP nb).1.pid, i64 (readP nb).1.sig, .str (readP nb).1.name, rv16, mv16] : List V).all V.one = true; simp only [List.all_cons, List.all_nil, or16, om16, Bool.and_true]; rfl) ?_
        intro h18 b18 n18 f18
        (try simp only [wk, wl, Then, Blk, pickV, Nat.reduceLT, Nat.reduceEqDiff, Nat.reduceBEq, reduceIte, isConst, nilCheckV, extractV, wantJ, nth])
        have hb0 : ((readP nb).2 == 0) = false := beq_eq_false_iff_ne.2 hbad
        ((repeat refine WC.seq ?_); refine WC.run ?_)
        (try simp only [wk, wl, Then, Blk, pickV, Nat.reduceLT, Nat.reduceEqDiff, Nat.reduceBEq, reduceIte, isConst, nilCheckV, extractV, wantJ, nth, bin_eql, hb0])
        (repeat refine WC.seq ?_)
        refine WC.cond (b := false) (by (try simp only [wk, wl, Then, Blk, pickV, Nat.reduceLT, Nat.reduceEqDiff, Nat.reduceBEq, reduceIte, isConst, nilCheckV, extractV, wantJ, nth]); (try simp); (try omega)) (WC.skip ?_)
        (try simp only [wk, wl, Then, Blk, pickV, Nat.reduceLT, Nat.reduceEqDiff, Nat.reduceBEq, reduceIte, isConst, nilCheckV, extractV, wantJ, nth])
        ((repeat refine WC.seq ?_); refine WC.run ?_)
        (try simp only [wk, wl, Then, Blk, pickV, Nat.reduceLT, Nat.reduceEqDiff, Nat.reduceBEq, reduceIte, isConst, nilCheckV, extractV, wantJ, nth])
        refine awake_ok ?_
        (try simp only [wk, wl, Then, Blk, pickV, Nat.reduceLT, Nat.reduceEqDiff, Nat.reduceBEq, reduceIte, isConst, nilCheckV, extractV, wantJ, nth])
        refine WC.ret ?_
        (try simp only [wk, wl, Then, Blk, pickV, Nat.reduceLT, Nat.reduceEqDiff, Nat.reduceBEq, reduceIte, isConst, nilCheckV, extractV, wantJ, nth])
  · have hf : fewP c = false := by cases h : fewP c <;> simp_all
    rw [hf]
    (try simp only [wk, wl, Then, Blk, pickV, Nat.reduceLT, Nat.reduceEqDiff, Nat.reduceBEq, reduceIte, isConst, nilCheckV, extractV, wantJ, nth, Bool.not_false])
    (repeat refine WC.seq ?_)
    refine WC.cond (b := true) (by (try simp only [wk, wl, Then, Blk, pickV, Nat.reduceLT, Nat.reduceEqDiff, Nat.reduceBEq, reduceIte, isConst, nilCheckV, extractV, wantJ, nth]); (try simp); (try omega)) ?_
    ((repeat refine WC.seq ?_); refine WC.run ?_)
    (try simp only [wk, wl, Then, Blk, pickV, Nat.reduceLT, Nat.reduceEqDiff, Nat.reduceBEq, reduceIte, isConst, nilCheckV, extractV, wantJ, nth])
    refine awake_ok ?_
    (try simp only [wk, wl, Then, Blk, pickV, Nat.reduceLT, Nat.reduceEqDiff, Nat.reduceBEq, reduceIte, isConst, nilCheckV, extractV, wantJ, nth])
    refine WC.ret ?_
    (try simp only [wk, wl, Then, Blk, pickV, Nat.reduceLT, Nat.reduceEqDiff, Nat.reduceBEq, reduceIte, isConst, nilCheckV, extractV, wantJ, nth])
end Go.Proofs.ZP
