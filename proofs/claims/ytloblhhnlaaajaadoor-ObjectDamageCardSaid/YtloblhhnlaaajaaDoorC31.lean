/- Walks: the law of damage. -/
import Derived.Test.YtloblhhnlaaajaaDoorC30
import Derived.Test.YtloblhhnlaaajaaDoorC28
import Derived.Test.YtloblhhnlaaajaaDoorC13
import Derived.Test.YtloblhhnlaaajaaDoorC12
set_option linter.unusedVariables false
set_option linter.unusedSimpArgs false
set_option linter.defProp false
set_option linter.unusedSimpArgs false
namespace Go.Ev
open Go
theorem bin_xor {E : Env} {h : H} {c : Bool} {ty : Nat} {k : IntKind} {a b : Int} : binV E h c .xor ty (.int k a) (.int k b) = some (.int k (k.wrap (BitVec.ofInt k.bits a ^^^ BitVec.ofInt k.bits b).toNat)) := by
  simp only [binV, binOp, Op.intBits, pureVal, ne_eq, not_true_eq_false, if_false]; rfl

/-- One element of a slice of one's own, stored. -/
theorem Sl.put {E : Env} {h : H} {n : Nat} {s : V} {vs : List V} (a : Sl E h 1 s n vs) (ho : ∃ b o m c, s = .slice b o m c) {t e k : Nat} {i ei : TI} (ht : E.tys.get t = some i) (hd : i.desc = .slice e) (he : E.tys.get e = some ei) (hsz : ei.size = 1) (hk : k < n) {v : V} (hv : v.cells = [v]) (h1 : v.one = true) :
    ∃ p b h', indexAddrV E t s (.int .i64 k) = some p ∧ (∃ o m c, s = .slice b o m c) ∧ storeP E h e p v = some h' ∧ Sl E h' 1 s n (vs.set k v) ∧ h'.next = h.next ∧ Fix (· ≠ b) h h' := by
  obtain ⟨b, o, m, c, rfl⟩ := ho
  have hc := a.cells
  have hl := a.len
  simp only [lenV] at hl; injection hl with hl; subst hl
  have hlt : Nat.blt k m = true := by simpa using hk
  have h0 : Nat.beq (m * 1) 0 = false := beq_false (by omega)
  unfold srcCells at hc
  simp only [h0, cond_false] at hc
  obtain ⟨_, hc⟩ := bif_some hc
  split at hc
  · rename_i tt N d e' kk hb
    obtain ⟨q1, q2⟩ := cellsFrom_get hc
    have hsize := a.size
    -- all the cells lie in the block
    have hin : ∀ j, j < m → o + j < N := fun j hj => by
      have q := q2 j (by omega)
      rcases Nat.lt_or_ge (o + j) N with q' | q'
      · exact q'
      · exfalso
        have hf : Nat.blt (o + j) N = false := by
          cases hx : Nat.blt (o + j) N with
          | false => rfl
          | true => have : o + j < N := by simpa using hx
                    omega
        unfold cellAt at q
        rw [hf] at q
        simp only [cond_false] at q
        rw [List.getElem?_eq_getElem (by omega)] at q
        cases q
    have hle : Nat.ble (o + k + 1) N = true := ble_true (by have := hin k hk; omega)
    refine ⟨.ptr b (o + k), b, h.put b (.cells (T.putL tt (o + k) [v]) N d e' kk), ?_, ⟨o, m, c, rfl⟩, ?_, ?_, rfl, ⟨Nat.le_refl _, fun x hx => by simp only [H.put, T.get_set]; rw [if_neg hx]⟩⟩
    · simp [indexAddrV, ht, hd, natOf_nat, hlt, sizeOfT, he, hsz]
    · have hb1 : Nat.beq 1 ei.size = true := by rw [hsz]; rfl
      simp only [storeP, storeV, he, hv, List.length_singleton, hb1, cond_true, storeL, hb, hle, List.all_cons, List.all_nil, h1, Bool.and_self]
    · refine ⟨rfl, ?_, a.slice, a.cap⟩
      have hput : (h.put b (.cells (T.putL tt (o + k) [v]) N d e' kk)).t.get b = some (.cells (T.putL tt (o + k) [v]) N d e' kk) := by simp only [H.put, T.get_set, if_true]
      simp only [srcCells, h0, cond_false, ble_true (Nat.le_refl m), cond_true, hput]
      refine cellsFrom_of (by rw [List.length_set]; omega) (fun j hj => ?_)
      have q := q2 j hj
      have hjm : j < m := by omega
      have hj2 := hin j hjm
      have hb2 : Nat.blt (o + j) N = true := by simpa using hj2
      unfold cellAt at q ⊢
      rw [hb2] at q ⊢
      simp only [cond_true, T.get_putL, List.length_singleton] at q ⊢
      by_cases e : j = k
      · subst e
        rw [if_pos (by omega), List.getElem?_set_self (by omega)]
        simp
      · rw [if_neg (by omega), List.getElem?_set_ne (Ne.symm e)]
        exact q
  · cases hc
end Go.Ev
namespace Go.Proofs.OP
open Go Go.Ev
open Go.Proofs
variable {g : T (List V)}

theorem u8_xor (a b : UInt8) : V.int .u8 (IntKind.u8.wrap (BitVec.ofInt IntKind.u8.bits (a.toNat : Int) ^^^ BitVec.ofInt IntKind.u8.bits (b.toNat : Int)).toNat) = u8 (a ^^^ b) := by
  unfold u8
  rw [wrapu8_nat]
  congr 2
  have ha := a.toNat_lt
  have hb := b.toNat_lt
  change (BitVec.ofInt 8 (a.toNat : Int) ^^^ BitVec.ofInt 8 (b.toNat : Int)).toNat % 256 = (a ^^^ b).toNat
  simp only [BitVec.ofInt_natCast, BitVec.toNat_xor, BitVec.toNat_ofNat, UInt8.toNat_xor]
  rw [Nat.mod_eq_of_lt (a := a.toNat) (by omega), Nat.mod_eq_of_lt (a := b.toNat) (by omega)]
  have := Nat.xor_lt_two_pow (x := a.toNat) (y := b.toNat) (n := 8) (by omega) (by omega)
  exact Nat.mod_eq_of_lt (by omega)
theorem xor_ne {a b : UInt8} (h : b ≠ 0) : a ^^^ b ≠ a := fun e => h (by
  have : a ^^^ (a ^^^ b) = a ^^^ a := by rw [e]
  rw [← UInt8.xor_assoc, UInt8.xor_self, UInt8.zero_xor] at this
  exact this)

theorem BufB.own {h : H} {s : V} {xs : List UInt8} (b : BufB g h s xs) (hx : 0 < xs.length) : ∃ b o m c, s = .slice b o m c := by
  unfold BufB at b
  generalize xs.length = n at b hx
  generalize xs.map u8 = vs at b
  cases b with
  | nil => omega
  | lit _ _ => exact ⟨_, _, _, _, rfl⟩
  | opn _ _ _ => exact ⟨_, _, _, _, rfl⟩

set_option maxRecDepth 100000 in
set_option maxHeartbeats 4000000 in
/-- ObjectDamage -/
theorem damage_ok {h : H} {c : Oc} {o : ObjD} {at_ : Nat} {mask : UInt8} (hg : g.get 1 = some magG) (ob : Ob g h (· < h.next) c o) (room : Room o) (ok : ObjOk o) (hat : at_ < 65536) :
    WF (E g) 6 [.agg (c.cells o), .int .u16 at_, u8 mask] h fun r _ => r = .bool true := by
  refine WF.enter fn6 rfl ?_
  ((repeat refine WC.seq ?_); refine WC.run ?_)
  (try simp only [wk, wl, Then, Blk, pickV, Nat.reduceLT, Nat.reduceEqDiff, Nat.reduceBEq, reduceIte, isConst, nilCheckV, extractV, wantJ, nth, wm])
  refine wop_box (v := .agg (c.cells o)) (by (try simp only [wk, wl, Then, Blk, pickV, Nat.reduceLT, Nat.reduceEqDiff, Nat.reduceBEq, reduceIte, isConst, nilCheckV, extractV, wantJ, nth, wm])) ?_
  intro h1 b1 n1 f1
  have b1 : Has h1 h.next (c.cells o) := b1
  (try simp only [wk, wl, Then, Blk, pickV, Nat.reduceLT, Nat.reduceEqDiff, Nat.reduceBEq, reduceIte, isConst, nilCheckV, extractV, wantJ, nth, wm])
  have ob1 := (ob.fix f1 (fun _ h => h)).up (K' := (· < h1.next)) (fun _ h => by omega)
  have lv : ∀ h', Fix (· < h1.next) h1 h' → loadP (E g) h' 70 (.ptr h.next 0) = some (.agg (c.cells o)) := fun h' f =>
    (b1.fix f (by omega)).agg ty70 rfl (o := 0) (Nat.le_refl 7)
  ((repeat refine WC.seq ?_); refine WC.run ?_)
  (try simp only [wk, wl, Then, Blk, pickV, Nat.reduceLT, Nat.reduceEqDiff, Nat.reduceBEq, reduceIte, isConst, nilCheckV, extractV, wantJ, nth, wm, lv h1 (Fix.refl _ _)])
  refine (few_ok ob1 room).mono fun r h2 ⟨e2, f2⟩ => ?_
  subst e2
  have x2 := f2.next
  cases hf : fewP o with
  | false =>
    (try simp only [wk, wl, Then, Blk, pickV, Nat.reduceLT, Nat.reduceEqDiff, Nat.reduceBEq, reduceIte, isConst, nilCheckV, extractV, wantJ, nth, wm, Bool.not_false, un])
    (repeat refine WC.seq ?_)
    refine WC.cond (b := true) (by (try simp only [wk, wl, Then, Blk, pickV, Nat.reduceLT, Nat.reduceEqDiff, Nat.reduceBEq, reduceIte, isConst, nilCheckV, extractV, wantJ, nth, wm]); (try simp); (try omega)) ?_
    ((repeat refine WC.seq ?_); refine WC.run ?_)
    (try simp only [wk, wl, Then, Blk, pickV, Nat.reduceLT, Nat.reduceEqDiff, Nat.reduceBEq, reduceIte, isConst, nilCheckV, extractV, wantJ, nth, wm])
    refine awake_ok ?_
    (try simp only [wk, wl, Then, Blk, pickV, Nat.reduceLT, Nat.reduceEqDiff, Nat.reduceBEq, reduceIte, isConst, nilCheckV, extractV, wantJ, nth, wm])
    refine WC.ret ?_
    (try simp only [wk, wl, Then, Blk, pickV, Nat.reduceLT, Nat.reduceEqDiff, Nat.reduceBEq, reduceIte, isConst, nilCheckV, extractV, wantJ, nth, wm])
  | true =>
    have fit := few_fits hf
    (try simp only [wk, wl, Then, Blk, pickV, Nat.reduceLT, Nat.reduceEqDiff, Nat.reduceBEq, reduceIte, isConst, nilCheckV, extractV, wantJ, nth, wm, Bool.not_true, un, lv h2 f2])
    have ob2 := (ob1.fix f2 (fun _ h => h)).up (K' := (· < h2.next)) (fun _ h => by omega)
    refine (rcheck_ok ob2 fit).mono fun r h3 ⟨e3, f3⟩ => ?_
    subst e3
    have x3 := f3.next
    have F3 : Fix (· < h1.next) h1 h3 := f2.trans (f3.sub fun b hb => by omega)
    rcases (Decidable.em (checkE o = 0)).symm with hck | hck
    · have hne : ((checkE o) != (0 : Int)) = true := by simpa using hck
      (try simp only [wk, wl, Then, Blk, pickV, Nat.reduceLT, Nat.reduceEqDiff, Nat.reduceBEq, reduceIte, isConst, nilCheckV, extractV, wantJ, nth, wm, i64, hne])
      (repeat refine WC.seq ?_)
      refine WC.cond (b := true) (by (try simp only [wk, wl, Then, Blk, pickV, Nat.reduceLT, Nat.reduceEqDiff, Nat.reduceBEq, reduceIte, isConst, nilCheckV, extractV, wantJ, nth, wm]); (try simp); (try omega)) ?_
      ((repeat refine WC.seq ?_); refine WC.run ?_)
      (try simp only [wk, wl, Then, Blk, pickV, Nat.reduceLT, Nat.reduceEqDiff, Nat.reduceBEq, reduceIte, isConst, nilCheckV, extractV, wantJ, nth, wm])
      refine awake_ok ?_
      (try simp only [wk, wl, Then, Blk, pickV, Nat.reduceLT, Nat.reduceEqDiff, Nat.reduceBEq, reduceIte, isConst, nilCheckV, extractV, wantJ, nth, wm])
      refine WC.ret ?_
      (try simp only [wk, wl, Then, Blk, pickV, Nat.reduceLT, Nat.reduceEqDiff, Nat.reduceBEq, reduceIte, isConst, nilCheckV, extractV, wantJ, nth, wm])
    · have hne : ((0 : Int) != (0 : Int)) = false := rfl
      (try simp only [wk, wl, Then, Blk, pickV, Nat.reduceLT, Nat.reduceEqDiff, Nat.reduceBEq, reduceIte, isConst, nilCheckV, extractV, wantJ, nth, wm, i64, hck, hne])
      (repeat refine WC.seq ?_)
      refine WC.cond (b := false) (by (try simp only [wk, wl, Then, Blk, pickV, Nat.reduceLT, Nat.reduceEqDiff, Nat.reduceBEq, reduceIte, isConst, nilCheckV, extractV, wantJ, nth, wm]); (try simp); (try omega)) (WC.skip ?_)
      (try simp only [wk, wl, Then, Blk, pickV, Nat.reduceLT, Nat.reduceEqDiff, Nat.reduceBEq, reduceIte, isConst, nilCheckV, extractV, wantJ, nth, wm])
      have ob3 := (ob1.fix F3 (fun _ h => h)).up (K' := (· < h3.next)) (fun _ h => by omega)
      ((repeat refine WC.seq ?_); refine WC.run ?_)
      (try simp only [wk, wl, Then, Blk, pickV, Nat.reduceLT, Nat.reduceEqDiff, Nat.reduceBEq, reduceIte, isConst, nilCheckV, extractV, wantJ, nth, wm, lv h3 F3])
      refine (to_ok ob3 fit).mono fun v h4 ⟨c4, e4, ob4, f4⟩ => ?_
      subst e4
      have x4 := f4.next
      (try simp only [wk, wl, Then, Blk, pickV, Nat.reduceLT, Nat.reduceEqDiff, Nat.reduceBEq, reduceIte, isConst, nilCheckV, extractV, wantJ, nth, wm])
      refine (encode_ok hg (ob4.up fun b hb => hb.2) fit).mono fun v h5 ⟨f5, _, ce⟩ => ?_
      obtain ⟨sa, e5, sb, sc⟩ := ce hck
      subst e5
      have x5 := f5.next
      have F5 : Fix (· < h1.next) h1 h5 := (F3.trans (f4.sub fun b hb => by omega)).trans (f5.sub fun b hb => by omega)
      (try simp only [wk, wl, Then, Blk, pickV, Nat.reduceLT, Nat.reduceEqDiff, Nat.reduceBEq, reduceIte, isConst, nilCheckV, extractV, wantJ, nth, wm])
      have sm := small_of hck
      have hlen := encB_len sm
      have hl2 := encB_length o
      have hl3 := encP_len o
      have hne0 : (((encB o).length : Int) == 0) = false := beq_eq_false_iff_ne.2 (by omega)
      ((repeat refine WC.seq ?_); refine WC.run ?_)
      (try simp only [wk, wl, Then, Blk, pickV, Nat.reduceLT, Nat.reduceEqDiff, Nat.reduceBEq, reduceIte, isConst, nilCheckV, extractV, wantJ, nth, wm, i64, hne, un, Bs.len sb.sl, hne0])
      (repeat refine WC.seq ?_)
      refine WC.cond (b := false) (by (try simp only [wk, wl, Then, Blk, pickV, Nat.reduceLT, Nat.reduceEqDiff, Nat.reduceBEq, reduceIte, isConst, nilCheckV, extractV, wantJ, nth, wm]); (try simp); (try omega)) (WC.skip ?_)
      (try simp only [wk, wl, Then, Blk, pickV, Nat.reduceLT, Nat.reduceEqDiff, Nat.reduceBEq, reduceIte, isConst, nilCheckV, extractV, wantJ, nth, wm])
      ((repeat refine WC.seq ?_); refine WC.run ?_)
      (try simp only [wk, wl, Then, Blk, pickV, Nat.reduceLT, Nat.reduceEqDiff, Nat.reduceBEq, reduceIte, isConst, nilCheckV, extractV, wantJ, nth, wm])
      refine sat_literal ty27 rfl ty5 rfl (by decide) (by decide) rfl rfl ?_
      intro h6 b6 n6 f6
      (try simp only [wk, wl, Then, Blk, pickV, Nat.reduceLT, Nat.reduceEqDiff, Nat.reduceBEq, reduceIte, isConst, nilCheckV, extractV, wantJ, nth, wm])
      have sb6 : Bs g h6 sa (encB o) := Sl.fix sb.sl (sc.sub fun x hx => by omega) f6
      refine sat_app0 (m := (encB o).length) (ws := (encB o).map u8) b6 (by omega) ty27 rfl ty27 (.inl ⟨_, rfl⟩) ty5 rfl (by decide) (by decide) (by simpa using Sl.len sb6) (by simpa using Sl.cells sb6) (by simp) one_u8 (by simp; omega) ?_
      intro s7 h7 g7 o7 el7 f7 n7
      have x7 := f7.next
      (try simp only [wk, wl, Then, Blk, pickV, Nat.reduceLT, Nat.reduceEqDiff, Nat.reduceBEq, reduceIte, isConst, nilCheckV, extractV, wantJ, nth, wm])
      have in7 : In (fun b => h5.next ≤ b ∧ b < h7.next) s7 := fun b o n c e => by
        obtain ⟨q1, q2⟩ := o7 _ _ _ _ e
        exact ⟨by rcases q1 with rfl | rfl <;> omega, q2⟩
      have hpos : 0 < (encB o).length := by omega
      have g7' : BufB g h7 s7 (encB o) := g7
      have nt7 : NotG s7 := fun a n c e => by obtain ⟨_, _, _, _, q⟩ := BufB.own g7' hpos; rw [q] at e; cases e
      refine (decode_ok hg g7'.sl (in7.sub fun b hb => hb.2) nt7 (by omega)).mono fun v h8 ⟨f8, c8, e8, ob8⟩ => ?_
      rw [dec_enc hck ok] at e8 ob8
      subst e8
      have x8 := f8.next
      have ob8 : Ob g h8 (fun b => h7.next ≤ b ∧ b < h8.next) c8 o := ob8
      (try simp only [wk, wl, Then, Blk, pickV, Nat.reduceLT, Nat.reduceEqDiff, Nat.reduceBEq, reduceIte, isConst, nilCheckV, extractV, wantJ, nth, wm])
      refine wop_alloc ty77 ?_
      intro h9 b9 n9 f9
      (try simp only [wk, wl, Then, Blk, pickV, Nat.reduceLT, Nat.reduceEqDiff, Nat.reduceBEq, reduceIte, isConst, nilCheckV, extractV, wantJ, nth, wm])
      refine sat_store b9 ty77 rfl (Nat.le_refl 7) (by simp only [V.cells, Oc.cells, List.all_cons, List.all_nil, (Sl.one ob8.code).2, (Sl.one ob8.data).2, (Sl.one ob8.syms).2, (Sl.one ob8.rels).2, (Sl.one ob8.needs).2, Bool.and_true]; rfl) ?_
      intro h10 b10 n10 f10
      have b10 : Has h10 h8.next (c8.cells o) := b10
      have F810 : Fix (· < h8.next) h8 h10 := ⟨by omega, fun b hb => by rw [f10.same b (by omega), f9.same b hb]⟩
      have F510 : Fix (· < h5.next) h5 h10 := ⟨by omega, fun b hb => by rw [F810.same b (by omega), f8.same b (by omega), f7.same b (by omega), f6.same b hb]⟩
      have F10 : Fix (· < h1.next) h1 h10 := F5.trans (F510.sub fun b hb => by omega)
      have ob10 := ob8.fix F810 (fun b hb => hb.2)
      have obz := (ob1.fix F10 (fun _ h => h))
      have l10 : loadP (E g) h10 77 (.ptr h8.next 0) = some (.agg (c8.cells o)) := b10.agg ty77 rfl (Nat.le_refl 7)
      (try simp only [wk, wl, Then, Blk, pickV, Nat.reduceLT, Nat.reduceEqDiff, Nat.reduceBEq, reduceIte, isConst, nilCheckV, extractV, wantJ, nth, wm])
      ((repeat refine WC.seq ?_); refine WC.run ?_)
      (try simp only [wk, wl, Then, Blk, pickV, Nat.reduceLT, Nat.reduceEqDiff, Nat.reduceBEq, reduceIte, isConst, nilCheckV, extractV, wantJ, nth, wm, i64, hne, un, l10, lv h10 F10])
      refine (same_ok (ob10.up fun b hb => by omega) (obz.up fun b hb => by omega) fit fit).mono fun v h11 ⟨⟨r, e11, hr⟩, f11⟩ => ?_
      obtain rfl : r = true := hr.2 rfl
      subst e11
      have x11 := f11.next
      have sb11 : BufB g h11 sa (encB o) := (sb.fix (sc.sub fun b hb => hb.2) F510).fix (sc.sub fun b hb => by omega) f11
      (try simp only [wk, wl, Then, Blk, pickV, Nat.reduceLT, Nat.reduceEqDiff, Nat.reduceBEq, reduceIte, isConst, nilCheckV, extractV, wantJ, nth, wm, Bool.not_true])
      (repeat refine WC.seq ?_)
      refine WC.cond (b := false) (by (try simp only [wk, wl, Then, Blk, pickV, Nat.reduceLT, Nat.reduceEqDiff, Nat.reduceBEq, reduceIte, isConst, nilCheckV, extractV, wantJ, nth, wm]); (try simp); (try omega)) (WC.skip ?_)
      (try simp only [wk, wl, Then, Blk, pickV, Nat.reduceLT, Nat.reduceEqDiff, Nat.reduceBEq, reduceIte, isConst, nilCheckV, extractV, wantJ, nth, wm])
      ((repeat refine WC.seq ?_); refine WC.run ?_)
      by_cases hm : mask = 0
      · subst hm
        have hz0 : (((0 : UInt8).toNat : Int) != 0) = false := rfl
        (try simp only [wk, wl, Then, Blk, pickV, Nat.reduceLT, Nat.reduceEqDiff, Nat.reduceBEq, reduceIte, isConst, nilCheckV, extractV, wantJ, nth, wm, u8, hz0])
        (repeat refine WC.seq ?_)
        refine WC.cond (b := false) (by (try simp only [wk, wl, Then, Blk, pickV, Nat.reduceLT, Nat.reduceEqDiff, Nat.reduceBEq, reduceIte, isConst, nilCheckV, extractV, wantJ, nth, wm]); (try simp); (try omega)) (WC.skip ?_)
        (try simp only [wk, wl, Then, Blk, pickV, Nat.reduceLT, Nat.reduceEqDiff, Nat.reduceBEq, reduceIte, isConst, nilCheckV, extractV, wantJ, nth, wm])
        ((repeat refine WC.seq ?_); refine WC.run ?_)
        (try simp only [wk, wl, Then, Blk, pickV, Nat.reduceLT, Nat.reduceEqDiff, Nat.reduceBEq, reduceIte, isConst, nilCheckV, extractV, wantJ, nth, wm])
        refine awake_ok ?_
        (try simp only [wk, wl, Then, Blk, pickV, Nat.reduceLT, Nat.reduceEqDiff, Nat.reduceBEq, reduceIte, isConst, nilCheckV, extractV, wantJ, nth, wm])
        refine WC.ret ?_
        (try simp only [wk, wl, Then, Blk, pickV, Nat.reduceLT, Nat.reduceEqDiff, Nat.reduceBEq, reduceIte, isConst, nilCheckV, extractV, wantJ, nth, wm])
      · have hmn : ((mask.toNat : Int) != 0) = true := by
          have : mask.toNat ≠ 0 := fun e => hm (UInt8.toNat_inj.1 e)
          simpa using this
        (try simp only [wk, wl, Then, Blk, pickV, Nat.reduceLT, Nat.reduceEqDiff, Nat.reduceBEq, reduceIte, isConst, nilCheckV, extractV, wantJ, nth, wm, u8, hmn])
        (repeat refine WC.seq ?_)
        refine WC.cond (b := true) (by (try simp only [wk, wl, Then, Blk, pickV, Nat.reduceLT, Nat.reduceEqDiff, Nat.reduceBEq, reduceIte, isConst, nilCheckV, extractV, wantJ, nth, wm]); (try simp); (try omega)) ?_
        have hk : at_ % (encB o).length < (encB o).length := Nat.mod_lt _ hpos
        obtain ⟨p, p1, p2⟩ := Bs.at sb11.sl hk
        obtain ⟨pp, pb, h15, i1, i2, i3, i4, i5, i6⟩ := Sl.put sb11.sl (BufB.own sb11 hpos) ty27 rfl ty5 rfl hk (v := u8 ((encB o)[at_ % (encB o).length] ^^^ mask)) rfl rfl
        obtain rfl : p = pp := Option.some.inj (p1.symm.trans i1)
        have hrem : Int.tmod (at_ : Int) ((encB o).length : Int) = ((at_ % (encB o).length : Nat) : Int) := rfl
        have hcv : IntKind.i64.wrap (at_ : Int) = (at_ : Int) := wrap64 (by omega) (by omega)
        have hl0 : ((encB o).length : Int) ≠ 0 := by omega
        (repeat refine WC.seq ?_)
        ((repeat refine WC.seq ?_); refine WC.run ?_)
        (try simp only [wk, wl, Then, Blk, pickV, Nat.reduceLT, Nat.reduceEqDiff, Nat.reduceBEq, reduceIte, isConst, nilCheckV, extractV, wantJ, nth, wm, conv_int ty23 ty3 rfl, hcv, Bs.len sb11.sl, bin_rem hl0, hrem, p1, p2, u8, bin_xor, u8_xor])
        have i3' : storeP (E g) h11 5 p (V.int .u8 (((encB o)[at_ % (encB o).length] ^^^ mask).toNat : Int)) = some h15 := i3
        rw [i3', sat_rh]
        (try simp only [wk, wl, Then, Blk, pickV, Nat.reduceLT, Nat.reduceEqDiff, Nat.reduceBEq, reduceIte, isConst, nilCheckV, extractV, wantJ, nth, wm])
        have bs15 : Bs g h15 sa ((encB o).set (at_ % (encB o).length) ((encB o)[at_ % (encB o).length] ^^^ mask)) := by
          unfold Bs
          rw [List.length_set, List.map_set]; exact i4
        have hbad : (decP ((encB o).set (at_ % (encB o).length) ((encB o)[at_ % (encB o).length] ^^^ mask))).2 ≠ 0 := read_changed o hk (xor_ne hm)
        have hll : ((encB o).set (at_ % (encB o).length) ((encB o)[at_ % (encB o).length] ^^^ mask)).length ≤ 2 ^ 30 := by rw [List.length_set]; omega
        generalize (encB o).set (at_ % (encB o).length) ((encB o)[at_ % (encB o).length] ^^^ mask) = nb at *
        have nta : NotG sa := fun a n c e => by obtain ⟨_, _, _, q⟩ := i2; rw [q] at e; cases e
        (repeat refine WC.seq ?_)
        ((repeat refine WC.seq ?_); refine WC.run ?_)
        (try simp only [wk, wl, Then, Blk, pickV, Nat.reduceLT, Nat.reduceEqDiff, Nat.reduceBEq, reduceIte, isConst, nilCheckV, extractV, wantJ, nth, wm])
        refine (decode_ok hg bs15 (sc.sub fun x hx => by omega) nta (by omega)).mono fun v16 h16 ⟨f16, c16, e16, ob16⟩ => ?_
        subst e16
        (try simp only [wk, wl, Then, Blk, pickV, Nat.reduceLT, Nat.reduceEqDiff, Nat.reduceBEq, reduceIte, isConst, nilCheckV, extractV, wantJ, nth, wm])
        refine wop_alloc ty77 ?_
        intro h17 b17 n17 f17
        (try simp only [wk, wl, Then, Blk, pickV, Nat.reduceLT, Nat.reduceEqDiff, Nat.reduceBEq, reduceIte, isConst, nilCheckV, extractV, wantJ, nth, wm])
        refine sat_store b17 ty77 rfl (Nat.le_refl 7) (by simp only [V.cells, Oc.cells, List.all_cons, List.all_nil, (Sl.one ob16.code).2, (Sl.one ob16.data).2, (Sl.one ob16.syms).2, (Sl.one ob16.rels).2, (Sl.one ob16.needs).2, Bool.and_true]; rfl) ?_
        intro h18 b18 n18 f18
        (try simp only [wk, wl, Then, Blk, pickV, Nat.reduceLT, Nat.reduceEqDiff, Nat.reduceBEq, reduceIte, isConst, nilCheckV, extractV, wantJ, nth, wm])
        have hb0 : ((decP nb).2 == 0) = false := beq_eq_false_iff_ne.2 hbad
        ((repeat refine WC.seq ?_); refine WC.run ?_)
        (try simp only [wk, wl, Then, Blk, pickV, Nat.reduceLT, Nat.reduceEqDiff, Nat.reduceBEq, reduceIte, isConst, nilCheckV, extractV, wantJ, nth, wm, i64, hb0])
        (repeat refine WC.seq ?_)
        refine WC.cond (b := false) (by (try simp only [wk, wl, Then, Blk, pickV, Nat.reduceLT, Nat.reduceEqDiff, Nat.reduceBEq, reduceIte, isConst, nilCheckV, extractV, wantJ, nth, wm]); (try simp); (try omega)) (WC.skip ?_)
        (try simp only [wk, wl, Then, Blk, pickV, Nat.reduceLT, Nat.reduceEqDiff, Nat.reduceBEq, reduceIte, isConst, nilCheckV, extractV, wantJ, nth, wm])
        ((repeat refine WC.seq ?_); refine WC.run ?_)
        (try simp only [wk, wl, Then, Blk, pickV, Nat.reduceLT, Nat.reduceEqDiff, Nat.reduceBEq, reduceIte, isConst, nilCheckV, extractV, wantJ, nth, wm])
        refine awake_ok ?_
        (try simp only [wk, wl, Then, Blk, pickV, Nat.reduceLT, Nat.reduceEqDiff, Nat.reduceBEq, reduceIte, isConst, nilCheckV, extractV, wantJ, nth, wm])
        refine WC.ret ?_
        (try simp only [wk, wl, Then, Blk, pickV, Nat.reduceLT, Nat.reduceEqDiff, Nat.reduceBEq, reduceIte, isConst, nilCheckV, extractV, wantJ, nth, wm])
end Go.Proofs.OP
