/- Walks: the laws. -/
import Derived.Test.YtcngigkkfledgaaGreatR
import Derived.Test.YtcngigkkfledgaaGreatB10
import Derived.Test.YtcngigkkfledgaaGreatC13
import Derived.Test.YtcngigkkfledgaaGreatC14
set_option linter.unusedVariables false
set_option linter.unusedSimpArgs false
set_option linter.defProp false
set_option linter.unusedSimpArgs false
namespace Go.Ev
open Go

theorem bin_xor {E : Env} {h : H} {c : Bool} {ty : Nat} {k : IntKind} {a b : Int} : binV E h c .xor ty (.int k a) (.int k b) = some (.int k (k.wrap (BitVec.ofInt k.bits a ^^^ BitVec.ofInt k.bits b).toNat)) := by
  simp only [binV, binOp, Op.intBits, pureVal, ne_eq, not_true_eq_false, if_false]; rfl

/-- One element of a slice of one's own, stored. -/
theorem Sl.put {E : Env} {h : H} {n : Nat} {s : V} {vs : List V} (a : Sl E h 1 s n vs) (ho : ∃ b o m c, s = .slice b o m c) {t e k : Nat} {i ei : TI} (ht : E.tys.get t = some i) (hd : i.desc = .slice e) (he : E.tys.get e = some ei) (hsz : ei.size = 1) (hk : k < n) {v : V} (hv : v.cells = [v]) (h1 : v.one = true) :
    ∃ p b h', indexAddrV E t s (.int .i64 k) = some p ∧ (∃ o m c, s = .slice b o m c) ∧ storeP E h e p v = some h' ∧ Sl E h' 1 s n (vs.set k v) ∧ h'.next = h.next ∧ Fix (· ≠ b) h h' := by
  obtain ⟨b, o, m, c, rfl⟩ := ho
  have hc := a.cells
  have hl := a.len
  simp only [lenV] at hl; injection hl with hl; subst hl
  have hlt : Nat.blt k m = true := by simpa using hk
  have h0 : Nat.beq (m * 1) 0 = false := beq_false (by omega)
  unfold srcCells at hc
  simp only [h0, cond_false] at hc
  obtain ⟨_, hc⟩ := bif_some hc
  split at hc
  · rename_i tt N d e' kk hb
    obtain ⟨q1, q2⟩ := cellsFrom_get hc
    have hsize := a.size
    -- all the cells lie in the block
    have hin : ∀ j, j < m → o + j < N := fun j hj => by
      have q := q2 j (by omega)
      rcases Nat.lt_or_ge (o + j) N with q' | q'
      · exact q'
      · exfalso
        have hf : Nat.blt (o + j) N = false := by
          cases hx : Nat.blt (o + j) N with
          | false => rfl
          | true => have : o + j < N := by simpa using hx
                    omega
        unfold cellAt at q
        rw [hf] at q
        simp only [cond_false] at q
        rw [List.getElem?_eq_getElem (by omega)] at q
        cases q
    have hle : Nat.ble (o + k + 1) N = true := ble_true (by have := hin k hk; omega)
    refine ⟨.ptr b (o + k), b, h.put b (.cells (T.putL tt (o + k) [v]) N d e' kk), ?_, ⟨o, m, c, rfl⟩, ?_, ?_, rfl, ⟨Nat.le_refl _, fun x hx => by simp only [H.put, T.get_set]; rw [if_neg hx]⟩⟩
    · simp [indexAddrV, ht, hd, natOf_nat, hlt, sizeOfT, he, hsz]
    · have hb1 : Nat.beq 1 ei.size = true := by rw [hsz]; rfl
      simp only [storeP, storeV, he, hv, List.length_singleton, hb1, cond_true, storeL, hb, hle, List.all_cons, List.all_nil, h1, Bool.and_self]
    · refine ⟨rfl, ?_, a.slice, a.cap⟩
      have hput : (h.put b (.cells (T.putL tt (o + k) [v]) N d e' kk)).t.get b = some (.cells (T.putL tt (o + k) [v]) N d e' kk) := by simp only [H.put, T.get_set, if_true]
      simp only [srcCells, h0, cond_false, ble_true (Nat.le_refl m), cond_true, hput]
      refine cellsFrom_of (by rw [List.length_set]; omega) (fun j hj => ?_)
      have q := q2 j hj
      have hjm : j < m := by omega
      have hj2 := hin j hjm
      have hb2 : Nat.blt (o + j) N = true := by simpa using hj2
      unfold cellAt at q ⊢
      rw [hb2] at q ⊢
      simp only [cond_true, T.get_putL, List.length_singleton] at q ⊢
      by_cases e : j = k
      · subst e
        rw [if_pos (by omega), List.getElem?_set_self (by omega)]
        simp
      · rw [if_neg (by omega), List.getElem?_set_ne (Ne.symm e)]
        exact q
  · cases hc
end Go.Ev
namespace Go.Proofs.ZP
open Go Go.Ev
open Go.Proofs
variable {g : T (List V)}

/-- What Dump answers, its bytes at once. -/
def dres (c : CoreD) : List UInt8 := if checkE c = 0 then dumpB c else []
theorem DumpR.get {h h' : H} {c : CoreD} {v : V} (d : DumpR g h c v h') : ∃ s, v = .tuple [s, .int .i64 (checkE c)] ∧ Kept h h' ∧ Bs g h' s (dres c) ∧ In (fun b => h.next ≤ b ∧ b < h'.next) s := by
  obtain ⟨s, e, f, q⟩ := d
  refine ⟨s, e, f, ?_⟩
  rcases q with ⟨q1, rfl⟩ | ⟨q1, q2, q3, q4⟩
  · exact ⟨by rw [dres, if_neg q1]; exact Sl.nil, In.nils⟩
  · exact ⟨by rw [dres, if_pos q1]; exact q2.sl, fun b o n c e => ⟨q4 _ _ _ _ e, q3 _ _ _ _ e⟩⟩

theorem lenSum_le {B : Nat} : ∀ {ms : List Mem}, (∀ m ∈ ms, m.data.length ≤ B) → lenSum ms ≤ B * ms.length
  | [], _ => by simp [lenSum]
  | m :: ms, h => by
    have := lenSum_le (ms := ms) fun x hx => h x (List.mem_cons_of_mem _ hx)
    have h0 := h m (List.mem_cons_self ..)
    simp only [lenSum, List.map_cons, List.sum_cons, List.length_cons] at *
    rw [Nat.mul_add]; omega
theorem le_lenSum {m : Mem} : ∀ {ms : List Mem}, m ∈ ms → m.data.length ≤ lenSum ms
  | x :: ms, h => by
    simp only [lenSum, List.map_cons, List.sum_cons]
    rcases List.mem_cons.1 h with rfl | h
    · omega
    · have := le_lenSum (ms := ms) h
      simp only [lenSum] at this; omega
theorem few_bounds {c : CoreD} (h : fewP c = true) (hD : ∀ m ∈ c.mem, m.data.length ≤ 2 ^ 48) : c.name.length ≤ 200 ∧ c.regs.length ≤ 70 ∧ c.mem.length ≤ 50 ∧ ∀ m ∈ c.mem, m.data.length ≤ 2000 := by
  unfold fewP at h
  simp only [Bool.and_eq_true, decide_eq_true_eq] at h
  obtain ⟨⟨⟨h1, h2⟩, h3⟩, h4⟩ := h
  have := lenSum_le hD
  have hs : lenSum c.mem ≤ 2 ^ 48 * 50 := Nat.le_trans this (Nat.mul_le_mul_left _ h3)
  rw [wrap64 (by omega) (by omega)] at h4
  exact ⟨h1, h2, h3, fun m hm => by have := le_lenSum hm; omega⟩

theorem read_small (b : List UInt8) : (readP b).1.regs.length ≤ 64 ∧ (readP b).1.mem.length ≤ 1000 := by
  unfold readP
  split
  · simp [zeroC]
  · split
    · rename_i h
      obtain ⟨_, _, _, _, h1, h2, _⟩ := check_zero h.2.1
      exact ⟨h1, h2⟩
    · simp [zeroC]

/-- What is known of the arguments' sizes. -/
structure Sizes (c : CoreD) : Prop where
  mem : c.mem.length < 2 ^ 60
  data : ∀ m ∈ c.mem, m.data.length ≤ 2 ^ 48

set_option maxRecDepth 100000 in
set_option maxHeartbeats 2000000 in
/-- ProcessCores -/
theorem cores_ok {h : H} {v bv : V} {c : CoreD} {rv mv : V} {L : List (Mem × V)} {b : List UInt8} (co : Co g h (· < h.next) v c rv mv L) (hb : Bs g h bv b) (hs : In (· < h.next) bv) (hz : Sizes c) (hB : b.length < 2 ^ 60) :
    WF (E g) 3 [v, bv] h fun r _ => r = .bool true := by
  have hlen := co.len
  have hz1 := hz.mem
  refine WF.enter fn3 rfl ?_
  ((repeat refine WC.seq ?_); refine WC.run ?_)
  (try simp only [wk, wl, Then, Blk, pickV, Nat.reduceLT, Nat.reduceEqDiff, Nat.reduceBEq, reduceIte, isConst, nilCheckV, extractV, wantJ, nth])
  refine wop_box (v := v) (by (try simp only [wk, wl, Then, Blk, pickV, Nat.reduceLT, Nat.reduceEqDiff, Nat.reduceBEq, reduceIte, isConst, nilCheckV, extractV, wantJ, nth])) ?_
  rw [co.val]
  intro h1 b1 n1 f1
  have b1 : Has h1 h.next [i64 c.pid, i64 c.sig, .str c.name, rv, mv] := b1
  (try simp only [wk, wl, Then, Blk, pickV, Nat.reduceLT, Nat.reduceEqDiff, Nat.reduceBEq, reduceIte, isConst, nilCheckV, extractV, wantJ, nth])
  have co1 := co.fix f1 (fun _ h => h)
  have lv : ∀ h', Fix (· < h1.next) h1 h' → loadP (E g) h' 25 (.ptr h.next 0) = some v := fun h' f => by
    rw [co.val]; exact (b1.fix f (by omega)).agg ty25 rfl (o := 0) (Nat.le_refl 5)
  ((repeat refine WC.seq ?_); refine WC.run ?_)
  (try simp only [wk, wl, Then, Blk, pickV, Nat.reduceLT, Nat.reduceEqDiff, Nat.reduceBEq, reduceIte, isConst, nilCheckV, extractV, wantJ, nth, lv h1 (Fix.refl _ _)])
  refine (few_ok (co1.up fun x hx => by omega) (by omega)).mono fun r h2 ⟨e2, f2⟩ => ?_
  subst e2
  have F2 : Fix (· < h1.next) h1 h2 := f2
  have x2 := f2.next
  by_cases hf : fewP c = true
  · rw [hf]
    by_cases hl : b.length ≤ 3000
    · (try simp only [wk, wl, Then, Blk, pickV, Nat.reduceLT, Nat.reduceEqDiff, Nat.reduceBEq, reduceIte, isConst, nilCheckV, extractV, wantJ, nth, Bool.not_true, hb.len])
      (repeat refine WC.seq ?_)
      refine WC.cond (b := false) (by (try simp only [wk, wl, Then, Blk, pickV, Nat.reduceLT, Nat.reduceEqDiff, Nat.reduceBEq, reduceIte, isConst, nilCheckV, extractV, wantJ, nth]); (try simp); (try omega)) (WC.skip ?_)
      (try simp only [wk, wl, Then, Blk, pickV, Nat.reduceLT, Nat.reduceEqDiff, Nat.reduceBEq, reduceIte, isConst, nilCheckV, extractV, wantJ, nth])
      obtain ⟨k1, k2, k3, k4⟩ := few_bounds hf hz.data
      have co2 := co1.fix F2 (fun x hx => by omega)
      ((repeat refine WC.seq ?_); refine WC.run ?_)
      (try simp only [wk, wl, Then, Blk, pickV, Nat.reduceLT, Nat.reduceEqDiff, Nat.reduceBEq, reduceIte, isConst, nilCheckV, extractV, wantJ, nth, lv h2 F2])
      refine (to_ok (co2.up fun x hx => by omega) (by omega) (by omega) (fun m hm => by have := k4 m hm; omega)).mono fun v3 h3 ⟨f3, rv3, mv3, L3, co3⟩ => ?_
      have x3 := f3.next
      have l3 := co3.len
      (try simp only [wk, wl, Then, Blk, pickV, Nat.reduceLT, Nat.reduceEqDiff, Nat.reduceBEq, reduceIte, isConst, nilCheckV, extractV, wantJ, nth])
      refine (dump_ok (co3.up fun x hx => by omega) (by omega) (by omega)).mono fun v4 h4 d4 => ?_
      obtain ⟨s4, rfl, f4, bs4, in4⟩ := d4.get
      have x4 := f4.next
      (try simp only [wk, wl, Then, Blk, pickV, Nat.reduceLT, Nat.reduceEqDiff, Nat.reduceBEq, reduceIte, isConst, nilCheckV, extractV, wantJ, nth])
      have F4 : Fix (· < h1.next) h1 h4 := (F2.trans (f3.sub fun x hx => by omega)).trans (f4.sub fun x hx => by omega)
      have co4 := co1.fix F4 (fun x hx => by omega)
      ((repeat refine WC.seq ?_); refine WC.run ?_)
      (try simp only [wk, wl, Then, Blk, pickV, Nat.reduceLT, Nat.reduceEqDiff, Nat.reduceBEq, reduceIte, isConst, nilCheckV, extractV, wantJ, nth, lv h4 F4])
      refine (rdump_ok (co4.up fun x hx => by omega) (by omega) (by omega)).mono fun v5 h5 d5 => ?_
      obtain ⟨s5, rfl, f5, bs5, in5⟩ := d5.get
      have x5 := f5.next
      (try simp only [wk, wl, Then, Blk, pickV, Nat.reduceLT, Nat.reduceEqDiff, Nat.reduceBEq, reduceIte, isConst, nilCheckV, extractV, wantJ, nth])
      have F5 : Fix (· < h1.next) h1 h5 := F4.trans (f5.sub fun x hx => by omega)
      ((repeat refine WC.seq ?_); refine WC.run ?_)
      (try simp only [wk, wl, Then, Blk, pickV, Nat.reduceLT, Nat.reduceEqDiff, Nat.reduceBEq, reduceIte, isConst, nilCheckV, extractV, wantJ, nth])
      refine sat_slice0 ty26 rfl ty5 rfl (by decide) ?_
      intro h6 b6 n6 f6
      (try simp only [wk, wl, Then, Blk, pickV, Nat.reduceLT, Nat.reduceEqDiff, Nat.reduceBEq, reduceIte, isConst, nilCheckV, extractV, wantJ, nth])
      have hb6 : Bs g h6 bv b := Sl.fix (Sl.fix (Sl.fix hb hs f1) (hs.sub fun x hx => by omega) F5) (hs.sub fun x hx => by omega) f6
      refine app_ok (xs := []) (ys := b) (Grew.refl b6 (fun x o n c e => by injection e with e; omega)) ty26 (.inl ⟨_, rfl⟩) (Sl.len hb6) hb6.cells (by simp; omega) ?_
      intro s7 h7 g7 fx7
      have x7 := fx7.next
      (try simp only [wk, wl, Then, Blk, pickV, Nat.reduceLT, Nat.reduceEqDiff, Nat.reduceBEq, reduceIte, isConst, nilCheckV, extractV, wantJ, nth])
      refine (read_ok (b := b) g7.buf.sl g7.low (by omega)).mono fun v8 h8 ⟨cv8, e8, f8, rv8, mv8, L8, co8⟩ => ?_
      subst e8
      have x8 := f8.next
      have or8 := (Sl.one co8.regs).2
      have om8 := (Sl.one co8.mem.sl).2
      (try simp only [wk, wl, Then, Blk, pickV, Nat.reduceLT, Nat.reduceEqDiff, Nat.reduceBEq, reduceIte, isConst, nilCheckV, extractV, wantJ, nth])
      refine wop_alloc ty34 ?_
      intro h9 b9 n9 f9
      (try simp only [wk, wl, Then, Blk, pickV, Nat.reduceLT, Nat.reduceEqDiff, Nat.reduceBEq, reduceIte, isConst, nilCheckV, extractV, wantJ, nth])
      rw [co8.val]
      refine sat_store b9 ty34 rfl (Nat.le_refl 5) (by show ([i64 (readP b).1.pid, i64 (readP b).1.sig, .str (readP b).1.name, rv8, mv8] : List V).all V.one = true; simp only [List.all_cons, List.all_nil, or8, om8, Bool.and_true]; rfl) ?_
      intro h10 b10 n10 f10
      have b10 : Has h10 h8.next [i64 (readP b).1.pid, i64 (readP b).1.sig, .str (readP b).1.name, rv8, mv8] := b10
      (try simp only [wk, wl, Then, Blk, pickV, Nat.reduceLT, Nat.reduceEqDiff, Nat.reduceBEq, reduceIte, isConst, nilCheckV, extractV, wantJ, nth])
      have F710 : Fix (· < h8.next) h8 h10 := ⟨by omega, fun x hx => by rw [f10.same x (by omega), f9.same x hx]⟩
      have F67 : Fix (· < h5.next) h5 h7 := ⟨by omega, fun x hx => by rw [fx7.same x ⟨by omega, fun o m cc e => by injection e with e; omega⟩, f6.same x hx]⟩
      have F10 : Fix (· < h5.next) h5 h10 := (F67.trans (f8.sub fun x hx => by omega)).trans (F710.sub fun x hx => by omega)
      have hb10 : Bs g h10 bv b := Sl.fix (Sl.fix (Sl.fix hb hs f1) (hs.sub fun x hx => by omega) F5) (hs.sub fun x hx => by omega) F10
      ((repeat refine WC.seq ?_); refine WC.run ?_)
      (try simp only [wk, wl, Then, Blk, pickV, Nat.reduceLT, Nat.reduceEqDiff, Nat.reduceBEq, reduceIte, isConst, nilCheckV, extractV, wantJ, nth])
      refine (rread_ok (b := b) hb10 (hs.sub fun x hx => by omega) (by omega)).mono fun v11 h11 ⟨cv11, e11, f11, rv11, mv11, L11, co11⟩ => ?_
      subst e11
      rw [read_same] at co11
      have x11 := f11.next
      have or11 := (Sl.one co11.regs).2
      have om11 := (Sl.one co11.mem.sl).2
      (try simp only [wk, wl, Then, Blk, pickV, Nat.reduceLT, Nat.reduceEqDiff, Nat.reduceBEq, reduceIte, isConst, nilCheckV, extractV, wantJ, nth])
      refine wop_alloc ty25 ?_
      intro h12 b12 n12 f12
      (try simp only [wk, wl, Then, Blk, pickV, Nat.reduceLT, Nat.reduceEqDiff, Nat.reduceBEq, reduceIte, isConst, nilCheckV, extractV, wantJ, nth])
      rw [co11.val]
      refine sat_store b12 ty25 rfl (Nat.le_refl 5) (by show ([i64 (readP b).1.pid, i64 (readP b).1.sig, .str (readP b).1.name, rv11, mv11] : List V).all V.one = true; simp only [List.all_cons, List.all_nil, or11, om11, Bool.and_true]; rfl) ?_
      intro h13 b13 n13 f13
      have b13 : Has h13 h11.next [i64 (readP b).1.pid, i64 (readP b).1.sig, .str (readP b).1.name, rv11, mv11] := b13
      (try simp only [wk, wl, Then, Blk, pickV, Nat.reduceLT, Nat.reduceEqDiff, Nat.reduceBEq, reduceIte, isConst, nilCheckV, extractV, wantJ, nth])
      have F13 : Fix (· < h10.next) h10 h13 := ⟨by omega, fun x hx => by rw [f13.same x (by omega), f12.same x (by omega), f11.same x hx]⟩
      have bs4' : Bs g h13 s4 (dres c) := Sl.fix (Sl.fix (Sl.fix bs4 (in4.sub fun x hx => by omega) f5) (in4.sub fun x hx => by omega) F10) (in4.sub fun x hx => by omega) F13
      have bs5' : Bs g h13 s5 (dres c) := Sl.fix (Sl.fix bs5 (in5.sub fun x hx => by omega) F10) (in5.sub fun x hx => by omega) F13
      have c8 := (co8.fix F710 (fun x hx => by omega)).fix F13 (fun x hx => by omega)
      have c11 := co11.fix (⟨by omega, fun x hx => by rw [f13.same x (by omega), f12.same x hx]⟩ : Fix (· < h11.next) h11 h13) (fun x hx => by omega)
      have l9 : loadP (E g) h13 34 (.ptr h8.next 0) = some cv8 := by rw [co8.val]; exact (b10.fix F13 (by omega)).agg ty34 rfl (o := 0) (Nat.le_refl 5)
      have l11 : loadP (E g) h13 25 (.ptr h11.next 0) = some cv11 := by rw [co11.val]; exact b13.agg ty25 rfl (o := 0) (Nat.le_refl 5)
      ((repeat refine WC.seq ?_); refine WC.run ?_)
      (try simp only [wk, wl, Then, Blk, pickV, Nat.reduceLT, Nat.reduceEqDiff, Nat.reduceBEq, reduceIte, isConst, nilCheckV, extractV, wantJ, nth, conv_str bs4', conv_str bs5', bin_seql, beq_self_eq_true, l9, l11])
      refine (same_ok (c8.up fun x hx => by omega) (c11.up fun x hx => by omega) (by have := (read_small b).1; omega) (by have := (read_small b).2; have := co8.len; omega)).mono fun r14 h14 ⟨f14, q14, e14, hq⟩ => ?_
      subst e14
      obtain rfl : q14 = true := hq.2 rfl
      rw [read_same]
      (try simp only [wk, wl, Then, Blk, pickV, Nat.reduceLT, Nat.reduceEqDiff, Nat.reduceBEq, reduceIte, isConst, nilCheckV, extractV, wantJ, nth, beq_self_eq_true])
      refine awake_ok ?_
      (try simp only [wk, wl, Then, Blk, pickV, Nat.reduceLT, Nat.reduceEqDiff, Nat.reduceBEq, reduceIte, isConst, nilCheckV, extractV, wantJ, nth])
      refine WC.ret ?_
      (try simp only [wk, wl, Then, Blk, pickV, Nat.reduceLT, Nat.reduceEqDiff, Nat.reduceBEq, reduceIte, isConst, nilCheckV, extractV, wantJ, nth])
    · (try simp only [wk, wl, Then, Blk, pickV, Nat.reduceLT, Nat.reduceEqDiff, Nat.reduceBEq, reduceIte, isConst, nilCheckV, extractV, wantJ, nth, Bool.not_true, hb.len])
      (repeat refine WC.seq ?_)
      refine WC.cond (b := true) (by (try simp only [wk, wl, Then, Blk, pickV, Nat.reduceLT, Nat.reduceEqDiff, Nat.reduceBEq, reduceIte, isConst, nilCheckV, extractV, wantJ, nth]); (try simp); (try omega)) ?_
      ((repeat refine WC.seq ?_); refine WC.run ?_)
      (try simp only [wk, wl, Then, Blk, pickV, Nat.reduceLT, Nat.reduceEqDiff, Nat.reduceBEq, reduceIte, isConst, nilCheckV, extractV, wantJ, nth])
      refine awake_ok ?_
      (try simp only [wk, wl, Then, Blk, pickV, Nat.reduceLT, Nat.reduceEqDiff, Nat.reduceBEq, reduceIte, isConst, nilCheckV, extractV, wantJ, nth])
      refine WC.ret ?_
      (try simp only [wk, wl, Then, Blk, pickV, Nat.reduceLT, Nat.reduceEqDiff, Nat.reduceBEq, reduceIte, isConst, nilCheckV, extractV, wantJ, nth])
  · have hf : fewP c = false := by cases h : fewP c <;> simp_all
    rw [hf]
    (try simp only [wk, wl, Then, Blk, pickV, Nat.reduceLT, Nat.reduceEqDiff, Nat.reduceBEq, reduceIte, isConst, nilCheckV, extractV, wantJ, nth, Bool.not_false])
    (repeat refine WC.seq ?_)
    refine WC.cond (b := true) (by (try simp only [wk, wl, Then, Blk, pickV, Nat.reduceLT, Nat.reduceEqDiff, Nat.reduceBEq, reduceIte, isConst, nilCheckV, extractV, wantJ, nth]); (try simp); (try omega)) ?_
    ((repeat refine WC.seq ?_); refine WC.run ?_)
    (try simp only [wk, wl, Then, Blk, pickV, Nat.reduceLT, Nat.reduceEqDiff, Nat.reduceBEq, reduceIte, isConst, nilCheckV, extractV, wantJ, nth])
    refine awake_ok ?_
    (try simp only [wk, wl, Then, Blk, pickV, Nat.reduceLT, Nat.reduceEqDiff, Nat.reduceBEq, reduceIte, isConst, nilCheckV, extractV, wantJ, nth])
    refine WC.ret ?_
    (try simp only [wk, wl, Then, Blk, pickV, Nat.reduceLT, Nat.reduceEqDiff, Nat.reduceBEq, reduceIte, isConst, nilCheckV, extractV, wantJ, nth])
end Go.Proofs.ZP
