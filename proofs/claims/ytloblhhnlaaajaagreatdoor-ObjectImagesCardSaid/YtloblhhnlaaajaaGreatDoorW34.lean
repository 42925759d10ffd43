/- Walks: Write of an image. Printed by genr6.py. -/
import Derived.Test.YtloblhhnlaaajaaGreatDoorW15
import Derived.Test.YtloblhhnlaaajaaGreatDoorW32
import Derived.Test.YtloblhhnlaaajaaGreatDoorW21
set_option linter.unusedVariables false
set_option linter.unusedSimpArgs false
set_option linter.defProp false
set_option linter.unusedSimpArgs false
namespace Go.Proofs.OP
open Go Go.Ev
open Go.Proofs
open Nat (reduceLT reduceEqDiff)
variable {g : T (List V)}

def expB (s : ExpD) : List UInt8 := txtB [s.name] ++ numB [s.addr]
def slotB (s : SlotD) : List UInt8 := txtB [s.name] ++ numB [s.addr, s.bound]
def imgP (x : ImgD) : List UInt8 := magB 1 ++ numB [x.base] ++ txtB [x.bytes] ++ numB [x.code, x.entry, (x.exps.length : Int)] ++ x.exps.flatMap expB ++ numB [(x.slots.length : Int)] ++ x.slots.flatMap slotB ++ numB [(x.needs.length : Int)] ++ txtB x.needs
def imgB (x : ImgD) : List UInt8 := sealB (imgP x)
structure SmallI (x : ImgD) : Prop where
  head : 0 ≤ x.base ∧ x.base ≤ 2147483648 ∧ x.base.tmod 16 = 0 ∧ (x.bytes.length : Int) ≤ 131072 ∧ 0 ≤ x.code ∧ x.code ≤ x.bytes.length ∧ (x.entry = 0 ∨ (x.base ≤ x.entry ∧ x.entry < x.base + x.code)) ∧ (x.needs.length : Int) ≤ 400
  exps : x.exps.length ≤ 5000
  slots : x.slots.length ≤ 5000
  ename : ∀ s ∈ x.exps, s.name.length ≤ 64
  sname : ∀ s ∈ x.slots, s.name.length ≤ 64
  nname : ∀ s ∈ x.needs, s.length ≤ 64
  eaddr : ∀ s ∈ x.exps, x.base ≤ s.addr ∧ s.addr ≤ x.base + x.bytes.length
  saddr : ∀ s ∈ x.slots, x.base ≤ s.addr ∧ s.addr ≤ x.base + x.bytes.length - 8 ∧ 0 ≤ s.bound ∧ s.bound ≤ 4294967296
theorem incB_small {L : List (List UInt8)} (h : incB L = true) : L.length ≤ 5000 ∧ ∀ s ∈ L, s.length ≤ 64 := by
  simp only [incB, Bool.and_eq_true, decide_eq_true_eq] at h
  refine ⟨by omega, fun s hs => ?_⟩
  obtain ⟨i, hi, rfl⟩ := List.getElem_of_mem hs
  have := allB_at h.1 hi
  rw [incP, List.getElem?_eq_getElem hi] at this
  simp only [Bool.and_eq_true, decide_eq_true_eq] at this
  exact nameE_len this.1
theorem smallI_of {x : ImgD} (h : rightB x = true) : SmallI x := by
  simp only [rightB, Bool.and_eq_true] at h
  obtain ⟨h1, h2, h3, h4, h5, h6⟩ := h
  obtain ⟨a1, a2⟩ := incB_small h5
  obtain ⟨b1, b2⟩ := incB_small h6
  simp only [headI, Bool.and_eq_true, Bool.or_eq_true, decide_eq_true_eq] at h1
  refine ⟨h1, by simpa using a1, by simpa using b1, fun s hs => a2 _ (List.mem_map_of_mem hs), fun s hs => b2 _ (List.mem_map_of_mem hs), fun s hs => ?_, fun s hs => ?_, fun s hs => ?_⟩
  · obtain ⟨i, hi, rfl⟩ := List.getElem_of_mem hs
    have := allB_at h4 hi
    rw [needP, List.getElem?_eq_getElem hi] at this
    simp only [Bool.and_eq_true, decide_eq_true_eq] at this
    exact nameE_len this.1
  · obtain ⟨i, hi, rfl⟩ := List.getElem_of_mem hs
    have := allB_at h2 hi
    rw [expP, List.getElem?_eq_getElem hi] at this
    simp only [Bool.and_eq_true, decide_eq_true_eq] at this
    exact this
  · obtain ⟨i, hi, rfl⟩ := List.getElem_of_mem hs
    have := allB_at h3 hi
    rw [slotP, List.getElem?_eq_getElem hi] at this
    simp only [Bool.and_eq_true, decide_eq_true_eq] at this
    exact ⟨this.1, this.2.1, this.2.2.2.1, this.2.2.2.2.1⟩

set_option maxRecDepth 100000 in
set_option maxHeartbeats 8000000 in
theorem write_ok {h : H} {c : Ic} {x : ImgD} (hg : g.get 0 = some magG) (im : Im g h (· < h.next) c x) (fit : FitsI x) :
    WF (E g) 17 [.agg (c.cells x)] h fun v h' => Kept h h' ∧ (rightB x = false → v = .tuple [.nils, i64 14]) ∧ (rightB x = true → ∃ s, v = .tuple [s, i64 0] ∧ BufB g h' s (imgB x) ∧ In (fun b => h.next ≤ b ∧ b < h'.next) s) := by
  refine WF.enter fn17 rfl ?_
  ((repeat refine WC.seq ?_); refine WC.run ?_)
  (try simp only [wk, wl, wx, reduceLT, reduceEqDiff, Nat.reduceBEq, reduceIte])
  refine wop_box (v := .agg (c.cells x)) (by (try simp only [wk, wl, wx, reduceLT, reduceEqDiff, Nat.reduceBEq, reduceIte])) ?_
  intro h1 b1 n1 f1
  (try simp only [wk, wl, wx, reduceLT, reduceEqDiff, Nat.reduceBEq, reduceIte])
  have ob1 := (im.fix f1 (fun _ h => h)).up (K' := (· < h1.next)) (fun _ h => by omega)
  ((repeat refine WC.seq ?_); refine WC.run ?_)
  (try simp only [wk, wl, wx, reduceLT, reduceEqDiff, Nat.reduceBEq, reduceIte])
  refine (right_ok b1 (by omega) ob1 fit).mono fun v h3 ⟨e3, f3⟩ => ?_
  subst e3
  have b1 : Has h1 h.next [i64 x.base, c.bytes, i64 x.code, i64 x.entry, c.exps, c.slots, c.needs] := b1
  have x3 := f3.next
  have b3 := b1.fix f3 (by omega)
  have ob3 := (ob1.fix f3 (fun _ h => h)).up (K' := (· < h3.next)) (fun _ h => by omega)
  (try simp only [wk, wl, wx, reduceLT, reduceEqDiff, Nat.reduceBEq, reduceIte, un_not])
  (repeat refine WC.seq ?_)
  cases hce : rightB x with
  | false =>
    refine WC.cond (b := true) (by (try simp only [wk, wl, wx, reduceLT, reduceEqDiff, Nat.reduceBEq, reduceIte, hce]); (try simp); (try omega)) ?_
    ((repeat refine WC.seq ?_); refine WC.run ?_)
    (try simp only [wk, wl, wx, reduceLT, reduceEqDiff, Nat.reduceBEq, reduceIte])
    refine WC.ret ?_
    (try simp only [wk, wl, wx, reduceLT, reduceEqDiff, Nat.reduceBEq, reduceIte])
    exact ⟨f1.trans (f3.sub fun b hb => by omega), fun _ => by trivial, fun q => by cases q⟩
  | true =>
  refine WC.cond (b := false) (by (try simp only [wk, wl, wx, reduceLT, reduceEqDiff, Nat.reduceBEq, reduceIte, hce]); (try simp); (try omega)) (WC.skip ?_)
  (try simp only [wk, wl, wx, reduceLT, reduceEqDiff, Nat.reduceBEq, reduceIte])
  have sm := smallI_of hce
  obtain ⟨-, -, -, s4, -, -, -, s7⟩ := sm.head
  have s5 := sm.exps
  have s6 := sm.slots
  ((repeat refine WC.seq ?_); refine WC.run ?_)
  (try simp only [wk, wl, wx, reduceLT, reduceEqDiff, Nat.reduceBEq, reduceIte])
  refine (begin_ok (k := 1) hg (by decide)).mono fun v h4 ⟨wb, e4, w1, w2, w4, F4⟩ => ?_
  subst e4
  have x4 := F4.next
  have w4 : Wr g h4 (Sx h3.next h4.next wb) wb (magB 1) := w4.sub' fun b hb hn hs => ⟨hs, hb, hn⟩
  have b4 := b3.fix F4 (by omega)
  have ob4 := ob3.fix F4 (fun _ h => h)
  (try simp only [wk, wl, wx, reduceLT, reduceEqDiff, Nat.reduceBEq, reduceIte])
  ((repeat refine WC.seq ?_); refine WC.run ?_)
  (try simp only [wk, wl, wx, reduceLT, reduceEqDiff, Nat.reduceBEq, reduceIte, fa56_0, fa56_1, fa56_2, fa56_3, fa56_4, fa56_5, fa56_6, Nat.zero_add, b4.at ty2 rfl, b4.at ty22 rfl, b4.at ty53 rfl, b4.at ty54 rfl, b4.at ty25 rfl, Sl.lenB ob4.exps ty53 rfl, Sl.lenB ob4.slots ty54 rfl, Sl.lenB ob4.needs ty25 rfl])
  refine sat_slice1 ty183 rfl ty2 rfl rfl rfl ?_
  intro h4a l4 n4a f4a
  (try simp only [wk, wl, wx, reduceLT, reduceEqDiff, Nat.reduceBEq, reduceIte, fa56_0, fa56_1, fa56_2, fa56_3, fa56_4, fa56_5, fa56_6, Nat.zero_add, b4.at ty2 rfl, b4.at ty22 rfl, b4.at ty53 rfl, b4.at ty54 rfl, b4.at ty25 rfl, Sl.lenB ob4.exps ty53 rfl, Sl.lenB ob4.slots ty54 rfl, Sl.lenB ob4.needs ty25 rfl])
  refine (numbers1_ok (L := [x.base]) (n0 := h3.next) (q := wb) w4 (by omega) (by omega) (by omega) f4a l4.sl (lit_in (by omega) (by omega)) (by (try simp only [List.length_append, magB_len, txt1_len, numB_length, List.length_cons, List.length_nil, Nat.mul_one, bytB_txt, List.map_cons, List.map_nil]); omega)).mono fun v h5 ⟨w5, f5⟩ => ?_
  have F5 : Fix (· < h3.next) h3 h5 := F4.trans (f5.sub fun b hb => ⟨by omega, .inl hb, by omega⟩)
  have x5 := f5.next
  have b5 := b3.fix F5 (by omega)
  have ob5 := ob3.fix F5 (fun _ h => h)
  (try simp only [wk, wl, wx, reduceLT, reduceEqDiff, Nat.reduceBEq, reduceIte])
  ((repeat refine WC.seq ?_); refine WC.run ?_)
  (try simp only [wk, wl, wx, reduceLT, reduceEqDiff, Nat.reduceBEq, reduceIte, fa56_0, fa56_1, fa56_2, fa56_3, fa56_4, fa56_5, fa56_6, Nat.zero_add, b5.at ty2 rfl, b5.at ty22 rfl, b5.at ty53 rfl, b5.at ty54 rfl, b5.at ty25 rfl, Sl.lenB ob5.exps ty53 rfl, Sl.lenB ob5.slots ty54 rfl, Sl.lenB ob5.needs ty25 rfl])
  refine sat_slice1 ty182 rfl ty22 rfl rfl ob5.bytes.one.1 ?_
  intro h5a l5 n5a f5a
  (try simp only [wk, wl, wx, reduceLT, reduceEqDiff, Nat.reduceBEq, reduceIte, fa56_0, fa56_1, fa56_2, fa56_3, fa56_4, fa56_5, fa56_6, Nat.zero_add, b5.at ty2 rfl, b5.at ty22 rfl, b5.at ty53 rfl, b5.at ty54 rfl, b5.at ty25 rfl, Sl.lenB ob5.exps ty53 rfl, Sl.lenB ob5.slots ty54 rfl, Sl.lenB ob5.needs ty25 rfl])
  refine (bytes1_ok (L := [(c.bytes, x.bytes)]) (n0 := h3.next) (q := wb) w5 (by omega) (by omega) (by omega) f5a l5.sl (lit_in (by omega) (by omega)) (fun p hp => by
      rw [List.mem_singleton.1 hp]
      exact ⟨Sl.fix ob5.bytes ob5.inB (f5a.sub fun b hb => by omega), ob5.inB.sub fun b hb => ⟨by omega, by omega, .inl hb⟩, by show x.bytes.length ≤ _; omega⟩) (by simp) (by (try simp only [List.length_append, magB_len, txt1_len, numB_length, List.length_cons, List.length_nil, Nat.mul_one, bytB_txt, List.map_cons, List.map_nil]); omega)).mono fun v h6 ⟨w6, f6⟩ => ?_
  have F6 : Fix (· < h3.next) h3 h6 := F5.trans (f6.sub fun b hb => ⟨by omega, .inl hb, by omega⟩)
  have x6 := f6.next
  have b6 := b3.fix F6 (by omega)
  have ob6 := ob3.fix F6 (fun _ h => h)
  (try simp only [wk, wl, wx, reduceLT, reduceEqDiff, Nat.reduceBEq, reduceIte])
  ((repeat refine WC.seq ?_); refine WC.run ?_)
  (try simp only [wk, wl, wx, reduceLT, reduceEqDiff, Nat.reduceBEq, reduceIte, fa56_0, fa56_1, fa56_2, fa56_3, fa56_4, fa56_5, fa56_6, Nat.zero_add, b6.at ty2 rfl, b6.at ty22 rfl, b6.at ty53 rfl, b6.at ty54 rfl, b6.at ty25 rfl, Sl.lenB ob6.exps ty53 rfl, Sl.lenB ob6.slots ty54 rfl, Sl.lenB ob6.needs ty25 rfl])
  refine sat_buildSlice (cs := [i64 x.code, i64 x.entry, i64 (x.exps.length : Int)]) (n := 3) ty183 rfl ty2 rfl (by decide) (by decide) (fill_three rfl rfl rfl) rfl ?_
  intro h6a l6 n6a f6a
  (try simp only [wk, wl, wx, reduceLT, reduceEqDiff, Nat.reduceBEq, reduceIte, fa56_0, fa56_1, fa56_2, fa56_3, fa56_4, fa56_5, fa56_6, Nat.zero_add, b6.at ty2 rfl, b6.at ty22 rfl, b6.at ty53 rfl, b6.at ty54 rfl, b6.at ty25 rfl, Sl.lenB ob6.exps ty53 rfl, Sl.lenB ob6.slots ty54 rfl, Sl.lenB ob6.needs ty25 rfl])
  refine (numbers1_ok (L := [x.code, x.entry, (x.exps.length : Int)]) (n0 := h3.next) (q := wb) w6 (by omega) (by omega) (by omega) f6a l6.sl (lit_in (by omega) (by omega)) (by (try simp only [List.length_append, magB_len, txt1_len, numB_length, List.length_cons, List.length_nil, Nat.mul_one, bytB_txt, List.map_cons, List.map_nil]); omega)).mono fun v h7 ⟨w7, f7⟩ => ?_
  have F7 : Fix (· < h3.next) h3 h7 := F6.trans (f7.sub fun b hb => ⟨by omega, .inl hb, by omega⟩)
  have x7 := f7.next
  have b7 := b3.fix F7 (by omega)
  have ob7 := ob3.fix F7 (fun _ h => h)
  (try simp only [wk, wl, wx, reduceLT, reduceEqDiff, Nat.reduceBEq, reduceIte])
  generalize hX : magB 1 ++ numB [x.base] ++ bytB [(c.bytes, x.bytes)] ++ numB [x.code, x.entry, (x.exps.length : Int)] = X at w7
  have lX : X.length ≤ 140000 := by rw [← hX]; simp only [List.length_append, magB_len, txt1_len, numB_length, List.length_cons, List.length_nil, Nat.mul_one, bytB_txt, List.map_cons, List.map_nil]; omega
  ((repeat refine WC.seq ?_); refine WC.run ?_)
  (try simp only [wk, wl, wx, reduceLT, reduceEqDiff, Nat.reduceBEq, reduceIte, fa56_0, fa56_1, fa56_2, fa56_3, fa56_4, fa56_5, fa56_6, Nat.zero_add, b7.at ty2 rfl, b7.at ty22 rfl, b7.at ty53 rfl, b7.at ty54 rfl, b7.at ty25 rfl, Sl.lenB ob7.exps ty53 rfl, Sl.lenB ob7.slots ty54 rfl, Sl.lenB ob7.needs ty25 rfl])
  (repeat refine WC.seq ?_)
  refine WC.block ?_
  refine WC.while (fun m fr hh => ∃ ts i, fr = ⟨ts, 88, [], 17, none⟩ ∧ Fix (· < h3.next) h3 hh ∧ m = x.exps.length - i ∧ i ≤ x.exps.length ∧ ts.get 1 = some (.ptr h.next 0) ∧ ts.get 4 = some (.ptr wb 0) ∧ ts.get 33 = some c.exps ∧ ts.get 34 = some (.int .i64 x.exps.length) ∧ ts.get 35 = some (.int .i64 i) ∧ wb < hh.next ∧ Wr g hh (Sx h3.next hh.next wb) wb (X ++ (x.exps.take i).flatMap expB)) ?_ ⟨_, 0, rfl, F7, rfl, by omega, ?_, ?_, ?_, ?_, ?_, by omega, by simpa using w7⟩
  · rintro m fr hh ⟨ts, i, rfl, ff, rfl, hi, t1, t4, t33, t34, t35, wn, wr⟩
    have xh := ff.next
    have bh := b3.fix ff (by omega)
    have obh := ob3.fix ff (fun _ h => h)
    ((repeat refine WC.seq ?_); refine WC.run ?_)
    (try simp only [wk, wl, wx, reduceLT, reduceEqDiff, Nat.reduceBEq, reduceIte, t34, t35])
    (repeat refine WC.seq ?_)
    by_cases hlt : i < x.exps.length
    · refine WC.cond (b := true) (by (try simp only [wk, wl, wx, reduceLT, reduceEqDiff, Nat.reduceBEq, reduceIte]); (try simp); (try omega)) (WC.skip ?_)
      (try simp only [wk, wl, wx, reduceLT, reduceEqDiff, Nat.reduceBEq, reduceIte])
      have hsl := sm.ename _ (List.getElem_mem hlt)
      have lY : ((x.exps.take i).flatMap expB).length ≤ 80 * x.exps.length := by
        refine Nat.le_trans (flatB_len (B := 80) fun y hy => ?_) (Nat.mul_le_mul_left _ (by simp; omega))
        have := sm.ename y (List.mem_of_mem_take hy)
        simp only [expB, List.length_append, txt1_len, numB_length, List.length_cons, List.length_nil]; omega
      obtain ⟨p, p1, p2⟩ := obh.exps.at (fun _ => rfl) ty53 rfl ty137 rfl (by decide) rfl hlt
      have p2 := p2 hh fun _ _ _ _ _ => rfl
      (repeat refine WC.seq ?_)
      refine WC.block ?_
      ((repeat refine WC.seq ?_); refine WC.run ?_)
      (try simp only [wk, wl, wx, reduceLT, reduceEqDiff, Nat.reduceBEq, reduceIte, t33, t35, p1, p2])
      refine wop_alloc ty137 ?_
      intro h8 b8 n8 f8
      (try simp only [wk, wl, wx, reduceLT, reduceEqDiff, Nat.reduceBEq, reduceIte])
      refine sat_store b8 ty137 rfl (by decide) rfl ?_
      intro h9 b9 n9 f9
      have b9 : Has h9 hh.next [.str x.exps[i].name, i64 x.exps[i].addr] := b9
      have F9 : Fix (· < hh.next) hh h9 := ⟨by omega, fun c hc => by rw [f9.same c (by omega), f8.same c (by omega)]⟩
      have w9 : Wr g h9 (Sx h3.next h9.next hh.next) wb (X ++ (x.exps.take i).flatMap expB) := (wr.sub (S' := fun b => Sx h3.next h9.next hh.next b ∧ b < hh.next) fun b hb hs => ⟨⟨hs.1, by omega, by omega⟩, hb⟩).fix F9 wn (fun b _ hs => hs.2) |>.sub fun b _ hs => hs.1
      (try simp only [wk, wl, wx, reduceLT, reduceEqDiff, Nat.reduceBEq, reduceIte])
      ((repeat refine WC.seq ?_); refine WC.run ?_)
      (try simp only [wk, wl, wx, reduceLT, reduceEqDiff, Nat.reduceBEq, reduceIte, t4, fa137_0, fa137_1, Nat.zero_add, b9.at ty9 rfl])
      refine sat_slice1 ty25 rfl ty9 rfl rfl rfl ?_
      intro ha la na fa
      (try simp only [wk, wl, wx, reduceLT, reduceEqDiff, Nat.reduceBEq, reduceIte, t4])
      refine (texts1_ok (L := [x.exps[i].name]) (n0 := h3.next) (q := hh.next) w9 (by omega) (by omega) (by omega) fa la.sl (lit_in (by omega) (by omega)) (by simp; omega) (by simp) (by simp only [List.length_append]; omega)).mono fun v hb ⟨wb', fb⟩ => ?_
      have xb := fb.next
      have bb := b9.fix fb (by omega)
      (try simp only [wk, wl, wx, reduceLT, reduceEqDiff, Nat.reduceBEq, reduceIte])
      ((repeat refine WC.seq ?_); refine WC.run ?_)
      (try simp only [wk, wl, wx, reduceLT, reduceEqDiff, Nat.reduceBEq, reduceIte, t4, fa137_0, fa137_1, Nat.zero_add, bb.at ty2 rfl])
      refine sat_slice1 ty183 rfl ty2 rfl rfl rfl ?_
      intro he le ne fe
      (try simp only [wk, wl, wx, reduceLT, reduceEqDiff, Nat.reduceBEq, reduceIte, t4])
      refine (numbers1_ok (L := [x.exps[i].addr]) (n0 := h3.next) (q := hh.next) wb' (by omega) (by omega) (by omega) fe le.sl (lit_in (by omega) (by omega)) (by simp only [List.length_append, txt1_len, List.length_cons, List.length_nil]; omega)).mono fun v hf ⟨wf, ff'⟩ => ?_
      have xf := ff'.next
      (try simp only [wk, wl, wx, reduceLT, reduceEqDiff, Nat.reduceBEq, reduceIte])
      ((repeat refine WC.seq ?_); refine WC.run ?_)
      (try simp only [wk, wl, wx, reduceLT, reduceEqDiff, Nat.reduceBEq, reduceIte, t35, bin_add])
      refine ⟨_, ?_, _, i + 1, rfl, ⟨by omega, fun b hb => ?_⟩, rfl, by omega, ?_⟩
      · omega
      · rw [ff'.same b ⟨by omega, .inl hb, by omega⟩, fb.same b ⟨by omega, .inl hb, by omega⟩, F9.same b (by omega), ff.same b hb]
      (try simp only [wk, wl, wx, reduceLT, reduceEqDiff, Nat.reduceBEq, reduceIte, t1, t4, t33, t34])
      refine ⟨trivial, trivial, trivial, trivial, ?_, by omega, ?_⟩
      · rw [wrap64 (by omega) (by omega)]; rfl
      · rw [flatB_snoc expB hlt]
        have := wf.sub' (S' := Sx h3.next hf.next wb) fun b hb hn hs => ⟨hs.1, hb, hn⟩
        simpa only [expB, List.append_assoc] using this
    · refine WC.cond (b := false) (by (try simp only [wk, wl, wx, reduceLT, reduceEqDiff, Nat.reduceBEq, reduceIte]); (try simp); (try omega)) (WC.exit ?_)
      have : i = x.exps.length := by omega
      subst this
      rw [List.take_length] at wr
      (try simp only [wk, wl, wx, reduceLT, reduceEqDiff, Nat.reduceBEq, reduceIte])
      generalize hY : X ++ x.exps.flatMap expB = Y at wr
      have lY : Y.length ≤ 1000000 := by
        rw [← hY, List.length_append]
        have : (x.exps.flatMap expB).length ≤ 80 * x.exps.length := flatB_len fun y hy => by
          have := sm.ename y hy
          simp only [expB, List.length_append, txt1_len, numB_length, List.length_cons, List.length_nil]; omega
        omega
      have w8 := wr
      have F8 := ff
      have ob8 := obh
      have b8 := bh
      ((repeat refine WC.seq ?_); refine WC.run ?_)
      (try simp only [wk, wl, wx, reduceLT, reduceEqDiff, Nat.reduceBEq, reduceIte, t1, t4, fa56_0, fa56_1, fa56_2, fa56_3, fa56_4, fa56_5, fa56_6, Nat.zero_add, b8.at ty2 rfl, b8.at ty22 rfl, b8.at ty53 rfl, b8.at ty54 rfl, b8.at ty25 rfl, Sl.lenB ob8.exps ty53 rfl, Sl.lenB ob8.slots ty54 rfl, Sl.lenB ob8.needs ty25 rfl])
      refine sat_slice1 ty183 rfl ty2 rfl rfl rfl ?_
      intro h8a l8 n8a f8a
      (try simp only [wk, wl, wx, reduceLT, reduceEqDiff, Nat.reduceBEq, reduceIte, t1, t4, fa56_0, fa56_1, fa56_2, fa56_3, fa56_4, fa56_5, fa56_6, Nat.zero_add, b8.at ty2 rfl, b8.at ty22 rfl, b8.at ty53 rfl, b8.at ty54 rfl, b8.at ty25 rfl, Sl.lenB ob8.exps ty53 rfl, Sl.lenB ob8.slots ty54 rfl, Sl.lenB ob8.needs ty25 rfl])
      refine (numbers1_ok (L := [(x.slots.length : Int)]) (n0 := h3.next) (q := wb) w8 (by omega) (by omega) (by omega) f8a l8.sl (lit_in (by omega) (by omega)) (by (try simp only [List.length_append, magB_len, txt1_len, numB_length, List.length_cons, List.length_nil, Nat.mul_one, bytB_txt, List.map_cons, List.map_nil]); omega)).mono fun v h9 ⟨w9, f9⟩ => ?_
      have F9 : Fix (· < h3.next) h3 h9 := F8.trans (f9.sub fun b hb => ⟨by omega, .inl hb, by omega⟩)
      have x9 := f9.next
      have b9 := b3.fix F9 (by omega)
      have ob9 := ob3.fix F9 (fun _ h => h)
      (try simp only [wk, wl, wx, reduceLT, reduceEqDiff, Nat.reduceBEq, reduceIte])
      generalize hZ : Y ++ numB [(x.slots.length : Int)] = Z at w9
      have lZ : Z.length ≤ 1000008 := by rw [← hZ]; simp only [List.length_append, numB_length, List.length_cons, List.length_nil]; omega
      ((repeat refine WC.seq ?_); refine WC.run ?_)
      (try simp only [wk, wl, wx, reduceLT, reduceEqDiff, Nat.reduceBEq, reduceIte, t1, t4, fa56_0, fa56_1, fa56_2, fa56_3, fa56_4, fa56_5, fa56_6, Nat.zero_add, b9.at ty2 rfl, b9.at ty22 rfl, b9.at ty53 rfl, b9.at ty54 rfl, b9.at ty25 rfl, Sl.lenB ob9.exps ty53 rfl, Sl.lenB ob9.slots ty54 rfl, Sl.lenB ob9.needs ty25 rfl])
      (repeat refine WC.seq ?_)
      refine WC.block ?_
      refine WC.while (fun m fr hq => ∃ ts i, fr = ⟨ts, 88, [], 17, none⟩ ∧ Fix (· < h3.next) h3 hq ∧ m = x.slots.length - i ∧ i ≤ x.slots.length ∧ ts.get 1 = some (.ptr h.next 0) ∧ ts.get 4 = some (.ptr wb 0) ∧ ts.get 57 = some c.slots ∧ ts.get 58 = some (.int .i64 x.slots.length) ∧ ts.get 59 = some (.int .i64 i) ∧ wb < hq.next ∧ Wr g hq (Sx h3.next hq.next wb) wb (Z ++ (x.slots.take i).flatMap slotB)) ?_ ⟨_, 0, rfl, F9, rfl, by omega, ?_, ?_, ?_, ?_, ?_, by omega, by simpa using w9⟩
      · rintro m fr hh ⟨ts, i, rfl, ff, rfl, hi, t1, t4, t57, t58, t59, wn, wr⟩
        have xh := ff.next
        have bh := b3.fix ff (by omega)
        have obh := ob3.fix ff (fun _ h => h)
        ((repeat refine WC.seq ?_); refine WC.run ?_)
        (try simp only [wk, wl, wx, reduceLT, reduceEqDiff, Nat.reduceBEq, reduceIte, t58, t59])
        (repeat refine WC.seq ?_)
        by_cases hlt : i < x.slots.length
        · refine WC.cond (b := true) (by (try simp only [wk, wl, wx, reduceLT, reduceEqDiff, Nat.reduceBEq, reduceIte]); (try simp); (try omega)) (WC.skip ?_)
          (try simp only [wk, wl, wx, reduceLT, reduceEqDiff, Nat.reduceBEq, reduceIte])
          have hsl := sm.sname _ (List.getElem_mem hlt)
          have lY : ((x.slots.take i).flatMap slotB).length ≤ 88 * x.slots.length := by
            refine Nat.le_trans (flatB_len (B := 88) fun y hy => ?_) (Nat.mul_le_mul_left _ (by simp; omega))
            have := sm.sname y (List.mem_of_mem_take hy)
            simp only [slotB, List.length_append, txt1_len, numB_length, List.length_cons, List.length_nil]; omega
          obtain ⟨p, p1, p2⟩ := obh.slots.at (fun _ => rfl) ty54 rfl ty138 rfl (by decide) rfl hlt
          have p2 := p2 hh fun _ _ _ _ _ => rfl
          (repeat refine WC.seq ?_)
          refine WC.block ?_
          ((repeat refine WC.seq ?_); refine WC.run ?_)
          (try simp only [wk, wl, wx, reduceLT, reduceEqDiff, Nat.reduceBEq, reduceIte, t57, t59, p1, p2])
          refine wop_alloc ty138 ?_
          intro h8 b8 n8 f8
          (try simp only [wk, wl, wx, reduceLT, reduceEqDiff, Nat.reduceBEq, reduceIte])
          refine sat_store b8 ty138 rfl (by decide) rfl ?_
          intro h9 b9 n9 f9
          have b9 : Has h9 hh.next [.str x.slots[i].name, i64 x.slots[i].addr, i64 x.slots[i].bound] := b9
          have F9 : Fix (· < hh.next) hh h9 := ⟨by omega, fun c hc => by rw [f9.same c (by omega), f8.same c (by omega)]⟩
          have w9 : Wr g h9 (Sx h3.next h9.next hh.next) wb (Z ++ (x.slots.take i).flatMap slotB) := (wr.sub (S' := fun b => Sx h3.next h9.next hh.next b ∧ b < hh.next) fun b hb hs => ⟨⟨hs.1, by omega, by omega⟩, hb⟩).fix F9 wn (fun b _ hs => hs.2) |>.sub fun b _ hs => hs.1
          (try simp only [wk, wl, wx, reduceLT, reduceEqDiff, Nat.reduceBEq, reduceIte])
          ((repeat refine WC.seq ?_); refine WC.run ?_)
          (try simp only [wk, wl, wx, reduceLT, reduceEqDiff, Nat.reduceBEq, reduceIte, t4, fa138_0, fa138_1, fa138_2, Nat.zero_add, b9.at ty9 rfl])
          refine sat_slice1 ty25 rfl ty9 rfl rfl rfl ?_
          intro ha la na fa
          (try simp only [wk, wl, wx, reduceLT, reduceEqDiff, Nat.reduceBEq, reduceIte, t4])
          refine (texts1_ok (L := [x.slots[i].name]) (n0 := h3.next) (q := hh.next) w9 (by omega) (by omega) (by omega) fa la.sl (lit_in (by omega) (by omega)) (by simp; omega) (by simp) (by simp only [List.length_append]; omega)).mono fun v hb ⟨wb', fb⟩ => ?_
          have xb := fb.next
          have bb := b9.fix fb (by omega)
          (try simp only [wk, wl, wx, reduceLT, reduceEqDiff, Nat.reduceBEq, reduceIte])
          ((repeat refine WC.seq ?_); refine WC.run ?_)
          (try simp only [wk, wl, wx, reduceLT, reduceEqDiff, Nat.reduceBEq, reduceIte, t4, fa138_0, fa138_1, fa138_2, Nat.zero_add, bb.at ty2 rfl])
          refine sat_buildSlice (cs := [i64 x.slots[i].addr, i64 x.slots[i].bound]) (n := 2) ty183 rfl ty2 rfl (by decide) (by decide) (fill_two rfl rfl) rfl ?_
          intro he le ne fe
          (try simp only [wk, wl, wx, reduceLT, reduceEqDiff, Nat.reduceBEq, reduceIte, t4])
          refine (numbers1_ok (L := [x.slots[i].addr, x.slots[i].bound]) (n0 := h3.next) (q := hh.next) wb' (by omega) (by omega) (by omega) fe le.sl (lit_in (by omega) (by omega)) (by simp only [List.length_append, txt1_len, List.length_cons, List.length_nil]; omega)).mono fun v hf ⟨wf, ff'⟩ => ?_
          have xf := ff'.next
          (try simp only [wk, wl, wx, reduceLT, reduceEqDiff, Nat.reduceBEq, reduceIte])
          ((repeat refine WC.seq ?_); refine WC.run ?_)
          (try simp only [wk, wl, wx, reduceLT, reduceEqDiff, Nat.reduceBEq, reduceIte, t59, bin_add])
          refine ⟨_, ?_, _, i + 1, rfl, ⟨by omega, fun b hb => ?_⟩, rfl, by omega, ?_⟩
          · omega
          · rw [ff'.same b ⟨by omega, .inl hb, by omega⟩, fb.same b ⟨by omega, .inl hb, by omega⟩, F9.same b (by omega), ff.same b hb]
          (try simp only [wk, wl, wx, reduceLT, reduceEqDiff, Nat.reduceBEq, reduceIte, t1, t4, t57, t58])
          refine ⟨trivial, trivial, trivial, trivial, ?_, by omega, ?_⟩
          · rw [wrap64 (by omega) (by omega)]; rfl
          · rw [flatB_snoc slotB hlt]
            have := wf.sub' (S' := Sx h3.next hf.next wb) fun b hb hn hs => ⟨hs.1, hb, hn⟩
            simpa only [slotB, List.append_assoc] using this
        · refine WC.cond (b := false) (by (try simp only [wk, wl, wx, reduceLT, reduceEqDiff, Nat.reduceBEq, reduceIte]); (try simp); (try omega)) (WC.exit ?_)
          have : i = x.slots.length := by omega
          subst this
          rw [List.take_length] at wr
          (try simp only [wk, wl, wx, reduceLT, reduceEqDiff, Nat.reduceBEq, reduceIte])
          generalize hW : Z ++ x.slots.flatMap slotB = W at wr
          have lW : W.length ≤ 2000000 := by
            rw [← hW, List.length_append]
            have : (x.slots.flatMap slotB).length ≤ 88 * x.slots.length := flatB_len fun y hy => by
              have := sm.sname y hy
              simp only [slotB, List.length_append, txt1_len, numB_length, List.length_cons, List.length_nil]; omega
            omega
          have w10 := wr
          have F10 := ff
          have ob10 := obh
          have b10 := bh
          ((repeat refine WC.seq ?_); refine WC.run ?_)
          (try simp only [wk, wl, wx, reduceLT, reduceEqDiff, Nat.reduceBEq, reduceIte, t1, t4, fa56_0, fa56_1, fa56_2, fa56_3, fa56_4, fa56_5, fa56_6, Nat.zero_add, b10.at ty2 rfl, b10.at ty22 rfl, b10.at ty53 rfl, b10.at ty54 rfl, b10.at ty25 rfl, Sl.lenB ob10.exps ty53 rfl, Sl.lenB ob10.slots ty54 rfl, Sl.lenB ob10.needs ty25 rfl])
          refine sat_slice1 ty183 rfl ty2 rfl rfl rfl ?_
          intro h10a l10 n10a f10a
          (try simp only [wk, wl, wx, reduceLT, reduceEqDiff, Nat.reduceBEq, reduceIte, t1, t4, fa56_0, fa56_1, fa56_2, fa56_3, fa56_4, fa56_5, fa56_6, Nat.zero_add, b10.at ty2 rfl, b10.at ty22 rfl, b10.at ty53 rfl, b10.at ty54 rfl, b10.at ty25 rfl, Sl.lenB ob10.exps ty53 rfl, Sl.lenB ob10.slots ty54 rfl, Sl.lenB ob10.needs ty25 rfl])
          refine (numbers1_ok (L := [(x.needs.length : Int)]) (n0 := h3.next) (q := wb) w10 (by omega) (by omega) (by omega) f10a l10.sl (lit_in (by omega) (by omega)) (by (try simp only [List.length_append, magB_len, txt1_len, numB_length, List.length_cons, List.length_nil, Nat.mul_one, bytB_txt, List.map_cons, List.map_nil]); omega)).mono fun v h11 ⟨w11, f11⟩ => ?_
          have F11 : Fix (· < h3.next) h3 h11 := F10.trans (f11.sub fun b hb => ⟨by omega, .inl hb, by omega⟩)
          have x11 := f11.next
          have b11 := b3.fix F11 (by omega)
          have ob11 := ob3.fix F11 (fun _ h => h)
          (try simp only [wk, wl, wx, reduceLT, reduceEqDiff, Nat.reduceBEq, reduceIte])
          ((repeat refine WC.seq ?_); refine WC.run ?_)
          (try simp only [wk, wl, wx, reduceLT, reduceEqDiff, Nat.reduceBEq, reduceIte, t1, t4, fa56_0, fa56_1, fa56_2, fa56_3, fa56_4, fa56_5, fa56_6, Nat.zero_add, b11.at ty2 rfl, b11.at ty22 rfl, b11.at ty53 rfl, b11.at ty54 rfl, b11.at ty25 rfl, Sl.lenB ob11.exps ty53 rfl, Sl.lenB ob11.slots ty54 rfl, Sl.lenB ob11.needs ty25 rfl])
          refine (texts1_ok (L := x.needs) (n0 := h3.next) (q := wb) w11 (by omega) (by omega) (by omega) (Fix.refl _ _) ob11.needs (ob11.inN.sub fun b hb => ⟨by omega, by omega, .inl hb⟩) (fun p hp => by have := sm.nname p hp; omega) (by omega) (by simp only [List.length_append, txt1_len, numB_length, List.length_cons, List.length_nil, Nat.mul_one]; omega)).mono fun v h12 ⟨w12, f12⟩ => ?_
          have F12 : Fix (· < h3.next) h3 h12 := F11.trans (f12.sub fun b hb => ⟨by omega, .inl hb, by omega⟩)
          have x12 := f12.next
          (try simp only [wk, wl, wx, reduceLT, reduceEqDiff, Nat.reduceBEq, reduceIte])
          have lT : (txtB x.needs).length ≤ 72 * x.needs.length := txtB_length (B := 64) fun p hp => sm.nname p hp
          ((repeat refine WC.seq ?_); refine WC.run ?_)
          (try simp only [wk, wl, wx, reduceLT, reduceEqDiff, Nat.reduceBEq, reduceIte, t4])
          refine (sealed_ok w12 (by omega) (by simp only [List.length_append, txt1_len, numB_length, List.length_cons, List.length_nil, Nat.mul_one]; omega)).mono fun v hz ⟨z1, z2, z3⟩ => ?_
          have xz := z3.next
          (try simp only [wk, wl, wx, reduceLT, reduceEqDiff, Nat.reduceBEq, reduceIte])
          refine WC.ret ?_
          (try simp only [wk, wl, wx, reduceLT, reduceEqDiff, Nat.reduceBEq, reduceIte])
          refine ⟨⟨by omega, fun b hb => ?_⟩, fun q => (by cases q), fun _ => ⟨_, rfl, ?_, z2.sub fun b hb => by omega⟩⟩
          · rw [z3.same b ⟨by omega, by omega⟩, F12.same b (by omega), f3.same b (by omega), f1.same b hb]
          · rw [← hW, ← hZ, ← hY, ← hX] at z1
            have e2 : bytB [(c.bytes, x.bytes)] = txtB [x.bytes] := bytB_txt _
            rw [e2] at z1
            exact z1
      all_goals (try simp only [wk, wl, wx, reduceLT, reduceEqDiff, Nat.reduceBEq, reduceIte, t1, t4])
      all_goals (first | trivial | rfl | simp)
  all_goals (try simp only [wk, wl, wx, reduceLT, reduceEqDiff, Nat.reduceBEq, reduceIte])
  all_goals (first | trivial | rfl | simp)
end Go.Proofs.OP
