/- Walks: images; fewImage. -/
import Derived.Test.YtloblhhnlaaajaaDoorV15
import Derived.Test.YtloblhhnlaaajaaDoorV17
import Derived.Test.YtloblhhnlaaajaaDoorV21
set_option linter.unusedVariables false
set_option linter.unusedSimpArgs false
set_option linter.defProp false
set_option linter.unusedSimpArgs false
namespace Go.Proofs.OP
open Go Go.Ev
open Go.Proofs
open Nat (reduceLT reduceEqDiff)
variable {g : T (List V)}

structure ExpD where
 name : List UInt8
 addr : Int
structure SlotD where
 name : List UInt8
 addr : Int
 bound : Int
structure ImgD where
 base : Int
 bytes : List UInt8
 code : Int
 entry : Int
 exps : List ExpD
 slots : List SlotD
 needs : List (List UInt8)
def expV (s : ExpD) : List V := [.str s.name, i64 s.addr]
def slotV (s : SlotD) : List V := [.str s.name, i64 s.addr, i64 s.bound]
abbrev Xs (g : T (List V)) (h : H) (s : V) (L : List ExpD) : Prop := Rcs (E g) h 2 expV s L
abbrev Bi (g : T (List V)) (h : H) (s : V) (L : List SlotD) : Prop := Rcs (E g) h 3 slotV s L
structure Ic where
 bytes : V
 exps : V
 slots : V
 needs : V
def Ic.cells (c : Ic) (x : ImgD) : List V := [i64 x.base, c.bytes, i64 x.code, i64 x.entry, c.exps, c.slots, c.needs]
structure Im (g : T (List V)) (h : H) (K : Nat → Prop) (c : Ic) (x : ImgD) : Prop where
 bytes : Bs g h c.bytes x.bytes
 exps : Xs g h c.exps x.exps
 slots : Bi g h c.slots x.slots
 needs : Ss g h c.needs x.needs
 inB : In K c.bytes
 inX : In K c.exps
 inS : In K c.slots
 inN : In K c.needs
theorem Im.fix {h h' : H} {K K' : Nat → Prop} {c : Ic} {x : ImgD} (a : Im g h K c x) (f : Fix K' h h') (hs : ∀ b, K b → K' b) : Im g h' K c x :=
 ⟨Sl.fix a.bytes (a.inB.sub hs) f, Sl.fix a.exps (a.inX.sub hs) f, Sl.fix a.slots (a.inS.sub hs) f, Sl.fix a.needs (a.inN.sub hs) f, a.inB, a.inX, a.inS, a.inN⟩
theorem Im.up {h : H} {K K' : Nat → Prop} {c : Ic} {x : ImgD} (a : Im g h K c x) (hs : ∀ b, K b → K' b) : Im g h K' c x :=
 ⟨a.bytes, a.exps, a.slots, a.needs, a.inB.sub hs, a.inX.sub hs, a.inS.sub hs, a.inN.sub hs⟩

def shortX (s : ExpD) : Bool := !decide ((200 : Int) < s.name.length)
def shortB (s : SlotD) : Bool := !decide ((200 : Int) < s.name.length)
def fewI (x : ImgD) : Bool := x.exps.all shortX && (x.slots.all shortB && (x.needs.all shortN && (decide ((x.bytes.length : Int) ≤ 2000) && (decide ((x.exps.length : Int) ≤ 50) && (decide ((x.slots.length : Int) ≤ 50) && decide ((x.needs.length : Int) ≤ 50))))))
structure RoomI (x : ImgD) : Prop where
 exps : x.exps.length < 2 ^ 62
 slots : x.slots.length < 2 ^ 62
 needs : x.needs.length < 2 ^ 62
structure FitsI (x : ImgD) : Prop where
 bytes : x.bytes.length < 2 ^ 34
 exps : x.exps.length < 2 ^ 34
 slots : x.slots.length < 2 ^ 34
 needs : x.needs.length < 2 ^ 34
set_option maxRecDepth 100000 in
set_option maxHeartbeats 8000000 in
theorem fewI_ok {h : H} {c : Ic} {o : ImgD} (ob : Im g h (· < h.next) c o) (fit : RoomI o) : WF (E g) 75 [.agg (c.cells o)] h fun v h' => v = .bool (fewI o) ∧ Kept h h' := by
 have fs := fit.exps
 have fr := fit.slots
 have fn := fit.needs
 refine WF.enter fn75 rfl ?_
 ((repeat refine WC.seq ?_); refine WC.run ?_)
 (try simp only [wk, wl, wx, reduceLT, reduceEqDiff, Nat.reduceBEq, reduceIte])
 refine wop_box (v := .agg (c.cells o)) (by (try simp only [wk, wl, wx, reduceLT, reduceEqDiff, Nat.reduceBEq, reduceIte])) ?_
 intro h1 b1 n1 f1
 (try simp only [wk, wl, wx, reduceLT, reduceEqDiff, Nat.reduceBEq, reduceIte])
 have b1 : Has h1 h.next [i64 o.base, c.bytes, i64 o.code, i64 o.entry, c.exps, c.slots, c.needs] := b1
 have ob1 := (ob.fix f1 (fun _ h => h)).up (K' := (· < h1.next)) (fun _ h => by omega)
 ((repeat refine WC.seq ?_); refine WC.run ?_)
 (try simp only [wk, wl, wx, reduceLT, reduceEqDiff, Nat.reduceBEq, reduceIte, fa60_4, Nat.zero_add, b1.at ty57 rfl, Sl.lenB ob1.exps ty57 rfl])
 (repeat refine WC.seq ?_)
 refine WC.block ?_
 refine WC.while (fun m fr hh => ∃ ts i, fr = ⟨ts, 66, [], 75, none⟩ ∧ Fix (· < h1.next) h1 hh ∧ m = o.exps.length - i ∧ i ≤ o.exps.length ∧ ts.get 1 = some (.ptr h.next 0) ∧ ts.get 10 = some c.exps ∧ ts.get 11 = some (.int .i64 o.exps.length) ∧ ts.get 12 = some (.int .i64 i) ∧ (o.exps.take i).all shortX = true) ?_ ⟨_, 0, rfl, Fix.refl _ _, rfl, by omega, ?_, ?_, ?_, ?_, rfl⟩
 ·rintro m fr hh ⟨ts, i, rfl, ff, rfl, hi, t1, t10, t11, t12, hal⟩
  have xh := ff.next
  have K1 : Kept h hh := f1.trans (ff.sub fun x hx => by omega)
  have bh := b1.fix ff (by omega)
  have obh := (ob1.fix ff (fun x hx => hx)).up (K' := (· < hh.next)) (fun x hx => by omega)
  ((repeat refine WC.seq ?_); refine WC.run ?_)
  (try simp only [wk, wl, wx, reduceLT, reduceEqDiff, Nat.reduceBEq, reduceIte, t11, t12])
  (repeat refine WC.seq ?_)
  by_cases hlt : i < o.exps.length
  ·refine WC.cond (b := true) (by (try simp only [wk, wl, wx, reduceLT, reduceEqDiff, Nat.reduceBEq, reduceIte]); (try simp); (try omega)) (WC.skip ?_)
   (try simp only [wk, wl, wx, reduceLT, reduceEqDiff, Nat.reduceBEq, reduceIte])
   obtain ⟨p, p1, p2⟩ := obh.exps.at (fun _ => rfl) ty57 rfl ty135 rfl (by decide) rfl hlt
   have p2 := p2 hh fun _ _ _ _ _ => rfl
   (repeat refine WC.seq ?_)
   refine WC.block ?_
   ((repeat refine WC.seq ?_); refine WC.run ?_)
   (try simp only [wk, wl, wx, reduceLT, reduceEqDiff, Nat.reduceBEq, reduceIte, t10, t12, p1, p2])
   refine wop_alloc ty135 ?_
   intro h5 b5 n5 f5
   (try simp only [wk, wl, wx, reduceLT, reduceEqDiff, Nat.reduceBEq, reduceIte])
   refine sat_store b5 ty135 rfl (by decide) rfl ?_
   intro h6 b6 n6 f6
   have b6 : Has h6 hh.next (expV o.exps[i]) := b6
   have F6 : Fix (· < h1.next) h1 h6 := ⟨by omega, fun c hc => by rw [f6.same c (by omega), f5.same c (by omega), ff.same c hc]⟩
   have l6 : loadP (E g) h6 9 (.ptr hh.next 0) = some (.str o.exps[i].name) := b6.at ty9 rfl 0
   (try simp only [wk, wl, wx, reduceLT, reduceEqDiff, Nat.reduceBEq, reduceIte])
   ((repeat refine WC.seq ?_); refine WC.run ?_)
   (try simp only [wk, wl, wx, reduceLT, reduceEqDiff, Nat.reduceBEq, reduceIte, fa135_0, Nat.zero_add, l6, len_str])
   (repeat refine WC.seq ?_)
   by_cases hg : (200 : Int) < o.exps[i].name.length
   ·refine WC.cond (b := true) (by (try simp only [wk, wl, wx, reduceLT, reduceEqDiff, Nat.reduceBEq, reduceIte]); (try simp); (try omega)) ?_
    ((repeat refine WC.seq ?_); refine WC.run ?_)
    (try simp only [wk, wl, wx, reduceLT, reduceEqDiff, Nat.reduceBEq, reduceIte])
    refine WC.ret ?_
    (try simp only [wk, wl, wx, reduceLT, reduceEqDiff, Nat.reduceBEq, reduceIte])
    refine ⟨?_, f1.trans (F6.sub fun x hx => by omega)⟩
    rw [fewI, all_false hlt (by simp [shortX, hg]), Bool.false_and]
   ·refine WC.cond (b := false) (by (try simp only [wk, wl, wx, reduceLT, reduceEqDiff, Nat.reduceBEq, reduceIte]); (try simp); (try omega)) (WC.skip ?_)
    (try simp only [wk, wl, wx, reduceLT, reduceEqDiff, Nat.reduceBEq, reduceIte])
    ((repeat refine WC.seq ?_); refine WC.run ?_)
    (try simp only [wk, wl, wx, reduceLT, reduceEqDiff, Nat.reduceBEq, reduceIte, t12, bin_add])
    refine ⟨_, ?_, _, i + 1, rfl, F6, rfl, by omega, ?_⟩
    ·omega
    (try simp only [wk, wl, wx, reduceLT, reduceEqDiff, Nat.reduceBEq, reduceIte, t1, t10, t11])
    refine ⟨trivial, trivial, trivial, ?_, all_snoc hlt hal (by simp [shortX, hg])⟩
    rw [wrap64 (by omega) (by omega)]; rfl
  ·refine WC.cond (b := false) (by (try simp only [wk, wl, wx, reduceLT, reduceEqDiff, Nat.reduceBEq, reduceIte]); (try simp); (try omega)) (WC.exit ?_)
   have : i = o.exps.length := by omega
   subst this
   rw [List.take_length] at hal
   (try simp only [wk, wl, wx, reduceLT, reduceEqDiff, Nat.reduceBEq, reduceIte])
   have K2 : Kept h hh := K1
   ((repeat refine WC.seq ?_); refine WC.run ?_)
   (try simp only [wk, wl, wx, reduceLT, reduceEqDiff, Nat.reduceBEq, reduceIte, t1, fa60_5, Nat.zero_add, bh.at ty58 rfl, Sl.lenB obh.slots ty58 rfl])
   (repeat refine WC.seq ?_)
   refine WC.block ?_
   have hal1 := hal
   refine WC.while (fun m fr hk => ∃ ts i, fr = ⟨ts, 66, [], 75, none⟩ ∧ Fix (· < hh.next) hh hk ∧ m = o.slots.length - i ∧ i ≤ o.slots.length ∧ ts.get 1 = some (.ptr h.next 0) ∧ ts.get 22 = some c.slots ∧ ts.get 23 = some (.int .i64 o.slots.length) ∧ ts.get 24 = some (.int .i64 i) ∧ (o.slots.take i).all shortB = true) ?_ ⟨_, 0, rfl, Fix.refl _ _, rfl, by omega, ?_, ?_, ?_, ?_, rfl⟩
   ·rintro m fr hk ⟨ts, i, rfl, fk, rfl, hi, t1, t22, t23, t24, hal⟩
    have xk := fk.next
    have K3 : Kept h hk := K2.trans (fk.sub fun x hx => by omega)
    have bk := bh.fix fk (by omega)
    have obk := (obh.fix fk (fun x hx => hx)).up (K' := (· < hk.next)) (fun x hx => by omega)
    ((repeat refine WC.seq ?_); refine WC.run ?_)
    (try simp only [wk, wl, wx, reduceLT, reduceEqDiff, Nat.reduceBEq, reduceIte, t23, t24])
    (repeat refine WC.seq ?_)
    by_cases hlt : i < o.slots.length
    ·refine WC.cond (b := true) (by (try simp only [wk, wl, wx, reduceLT, reduceEqDiff, Nat.reduceBEq, reduceIte]); (try simp); (try omega)) (WC.skip ?_)
     (try simp only [wk, wl, wx, reduceLT, reduceEqDiff, Nat.reduceBEq, reduceIte])
     obtain ⟨p, p1, p2⟩ := obk.slots.at (fun _ => rfl) ty58 rfl ty136 rfl (by decide) rfl hlt
     have p2 := p2 hk fun _ _ _ _ _ => rfl
     (repeat refine WC.seq ?_)
     refine WC.block ?_
     ((repeat refine WC.seq ?_); refine WC.run ?_)
     (try simp only [wk, wl, wx, reduceLT, reduceEqDiff, Nat.reduceBEq, reduceIte, t22, t24, p1, p2])
     refine wop_alloc ty136 ?_
     intro h5 b5 n5 f5
     (try simp only [wk, wl, wx, reduceLT, reduceEqDiff, Nat.reduceBEq, reduceIte])
     refine sat_store b5 ty136 rfl (by decide) rfl ?_
     intro h6 b6 n6 f6
     have b6 : Has h6 hk.next (slotV o.slots[i]) := b6
     have F6 : Fix (· < hh.next) hh h6 := ⟨by omega, fun c hc => by rw [f6.same c (by omega), f5.same c (by omega), fk.same c hc]⟩
     have l6 : loadP (E g) h6 9 (.ptr hk.next 0) = some (.str o.slots[i].name) := b6.at ty9 rfl 0
     (try simp only [wk, wl, wx, reduceLT, reduceEqDiff, Nat.reduceBEq, reduceIte])
     ((repeat refine WC.seq ?_); refine WC.run ?_)
     (try simp only [wk, wl, wx, reduceLT, reduceEqDiff, Nat.reduceBEq, reduceIte, fa136_0, Nat.zero_add, l6, len_str])
     (repeat refine WC.seq ?_)
     by_cases hg : (200 : Int) < o.slots[i].name.length
     ·refine WC.cond (b := true) (by (try simp only [wk, wl, wx, reduceLT, reduceEqDiff, Nat.reduceBEq, reduceIte]); (try simp); (try omega)) ?_
      ((repeat refine WC.seq ?_); refine WC.run ?_)
      (try simp only [wk, wl, wx, reduceLT, reduceEqDiff, Nat.reduceBEq, reduceIte])
      refine WC.ret ?_
      (try simp only [wk, wl, wx, reduceLT, reduceEqDiff, Nat.reduceBEq, reduceIte])
      refine ⟨?_, K2.trans (F6.sub fun x hx => by omega)⟩
      rw [fewI, hal1, all_false hlt (by simp [shortB, hg]), Bool.false_and, Bool.and_false]
     ·refine WC.cond (b := false) (by (try simp only [wk, wl, wx, reduceLT, reduceEqDiff, Nat.reduceBEq, reduceIte]); (try simp); (try omega)) (WC.skip ?_)
      (try simp only [wk, wl, wx, reduceLT, reduceEqDiff, Nat.reduceBEq, reduceIte])
      ((repeat refine WC.seq ?_); refine WC.run ?_)
      (try simp only [wk, wl, wx, reduceLT, reduceEqDiff, Nat.reduceBEq, reduceIte, t24, bin_add])
      refine ⟨_, ?_, _, i + 1, rfl, F6, rfl, by omega, ?_⟩
      ·omega
      (try simp only [wk, wl, wx, reduceLT, reduceEqDiff, Nat.reduceBEq, reduceIte, t1, t22, t23])
      refine ⟨trivial, trivial, trivial, ?_, all_snoc hlt hal (by simp [shortB, hg])⟩
      rw [wrap64 (by omega) (by omega)]; rfl
    ·refine WC.cond (b := false) (by (try simp only [wk, wl, wx, reduceLT, reduceEqDiff, Nat.reduceBEq, reduceIte]); (try simp); (try omega)) (WC.exit ?_)
     have : i = o.slots.length := by omega
     subst this
     rw [List.take_length] at hal
     (try simp only [wk, wl, wx, reduceLT, reduceEqDiff, Nat.reduceBEq, reduceIte])
     have hal2 := hal
     ((repeat refine WC.seq ?_); refine WC.run ?_)
     (try simp only [wk, wl, wx, reduceLT, reduceEqDiff, Nat.reduceBEq, reduceIte, t1, fa60_6, Nat.zero_add, bk.at ty30 rfl, Sl.lenB obk.needs ty30 rfl])
     (repeat refine WC.seq ?_)
     refine WC.block ?_
     refine WC.while (fun m fr hq => ∃ ts i, fr = ⟨ts, 66, [], 75, none⟩ ∧ hq = hk ∧ m = o.needs.length - i ∧ i ≤ o.needs.length ∧ ts.get 1 = some (.ptr h.next 0) ∧ ts.get 34 = some c.needs ∧ ts.get 35 = some (.int .i64 o.needs.length) ∧ ts.get 36 = some (.int .i64 i) ∧ (o.needs.take i).all shortN = true) ?_ ⟨_, 0, rfl, rfl, rfl, by omega, ?_, ?_, ?_, ?_, rfl⟩
     ·rintro m fr hq ⟨ts, i, rfl, rfl, rfl, hi, t1, t34, t35, t36, hal⟩
      ((repeat refine WC.seq ?_); refine WC.run ?_)
      (try simp only [wk, wl, wx, reduceLT, reduceEqDiff, Nat.reduceBEq, reduceIte, t35, t36])
      (repeat refine WC.seq ?_)
      by_cases hlt : i < o.needs.length
      ·refine WC.cond (b := true) (by (try simp only [wk, wl, wx, reduceLT, reduceEqDiff, Nat.reduceBEq, reduceIte]); (try simp); (try omega)) (WC.skip ?_)
       (try simp only [wk, wl, wx, reduceLT, reduceEqDiff, Nat.reduceBEq, reduceIte])
       obtain ⟨p, p1, p2⟩ := obk.needs.at ty30 rfl ty9 rfl rfl hlt
       have p2 := p2 hq fun _ _ _ _ _ => rfl
       (repeat refine WC.seq ?_)
       refine WC.block ?_
       ((repeat refine WC.seq ?_); refine WC.run ?_)
       (try simp only [wk, wl, wx, reduceLT, reduceEqDiff, Nat.reduceBEq, reduceIte, t34, t36, p1, p2])
       ((repeat refine WC.seq ?_); refine WC.run ?_)
       (try simp only [wk, wl, wx, reduceLT, reduceEqDiff, Nat.reduceBEq, reduceIte, len_str])
       (repeat refine WC.seq ?_)
       by_cases hg : (200 : Int) < o.needs[i].length
       ·refine WC.cond (b := true) (by (try simp only [wk, wl, wx, reduceLT, reduceEqDiff, Nat.reduceBEq, reduceIte]); (try simp); (try omega)) ?_
        ((repeat refine WC.seq ?_); refine WC.run ?_)
        (try simp only [wk, wl, wx, reduceLT, reduceEqDiff, Nat.reduceBEq, reduceIte])
        refine WC.ret ?_
        (try simp only [wk, wl, wx, reduceLT, reduceEqDiff, Nat.reduceBEq, reduceIte])
        refine ⟨?_, K3⟩
        rw [fewI, hal1, hal2, all_false hlt (by simp [shortN, hg]), Bool.false_and, Bool.and_false, Bool.and_false]
       ·refine WC.cond (b := false) (by (try simp only [wk, wl, wx, reduceLT, reduceEqDiff, Nat.reduceBEq, reduceIte]); (try simp); (try omega)) (WC.skip ?_)
        (try simp only [wk, wl, wx, reduceLT, reduceEqDiff, Nat.reduceBEq, reduceIte])
        ((repeat refine WC.seq ?_); refine WC.run ?_)
        (try simp only [wk, wl, wx, reduceLT, reduceEqDiff, Nat.reduceBEq, reduceIte, t36, bin_add])
        refine ⟨_, ?_, _, i + 1, rfl, by trivial, rfl, by omega, ?_⟩
        ·omega
        (try simp only [wk, wl, wx, reduceLT, reduceEqDiff, Nat.reduceBEq, reduceIte, t1, t34, t35])
        refine ⟨trivial, trivial, trivial, ?_, all_snoc hlt hal (by simp [shortN, hg])⟩
        rw [wrap64 (by omega) (by omega)]; rfl
      ·refine WC.cond (b := false) (by (try simp only [wk, wl, wx, reduceLT, reduceEqDiff, Nat.reduceBEq, reduceIte]); (try simp); (try omega)) (WC.exit ?_)
       have : i = o.needs.length := by omega
       subst this
       rw [List.take_length] at hal
       (try simp only [wk, wl, wx, reduceLT, reduceEqDiff, Nat.reduceBEq, reduceIte])
       have hP : fewI o = (decide ((o.bytes.length : Int) ≤ 2000) && (decide ((o.exps.length : Int) ≤ 50) && (decide ((o.slots.length : Int) ≤ 50) && decide ((o.needs.length : Int) ≤ 50)))) := by
        rw [fewI, hal1, hal2, hal]; simp only [Bool.true_and]
       rcases (Decidable.em ((o.bytes.length : Int) ≤ 2000)).symm with w1 | w1
       ·((repeat refine WC.seq ?_); refine WC.run ?_)
        (try simp only [wk, wl, wx, reduceLT, reduceEqDiff, Nat.reduceBEq, reduceIte, un, t1, fa60_1, fa60_4, fa60_5, fa60_6, Nat.zero_add, bk.at ty27 rfl, bk.at ty57 rfl, bk.at ty58 rfl, bk.at ty30 rfl, obk.bytes.len, Sl.lenB obk.exps ty57 rfl, Sl.lenB obk.slots ty58 rfl, Sl.lenB obk.needs ty30 rfl, decide_eq_false w1])
        (repeat refine WC.seq ?_)
        refine WC.ret ?_
        (try simp only [wk, wl, wx, reduceLT, reduceEqDiff, Nat.reduceBEq, reduceIte])
        refine ⟨?_, K3⟩
        rw [hP]; simp only [decide_eq_false w1, Bool.false_and, Bool.true_and]
       rcases (Decidable.em ((o.exps.length : Int) ≤ 50)).symm with w2 | w2
       ·((repeat refine WC.seq ?_); refine WC.run ?_)
        (try simp only [wk, wl, wx, reduceLT, reduceEqDiff, Nat.reduceBEq, reduceIte, un, t1, fa60_1, fa60_4, fa60_5, fa60_6, Nat.zero_add, bk.at ty27 rfl, bk.at ty57 rfl, bk.at ty58 rfl, bk.at ty30 rfl, obk.bytes.len, Sl.lenB obk.exps ty57 rfl, Sl.lenB obk.slots ty58 rfl, Sl.lenB obk.needs ty30 rfl, decide_eq_true w1, decide_eq_false w2])
        (repeat refine WC.seq ?_)
        refine WC.ret ?_
        (try simp only [wk, wl, wx, reduceLT, reduceEqDiff, Nat.reduceBEq, reduceIte])
        refine ⟨?_, K3⟩
        rw [hP]; simp only [decide_eq_true w1, decide_eq_false w2, Bool.false_and, Bool.true_and]
       rcases (Decidable.em ((o.slots.length : Int) ≤ 50)).symm with w3 | w3
       ·((repeat refine WC.seq ?_); refine WC.run ?_)
        (try simp only [wk, wl, wx, reduceLT, reduceEqDiff, Nat.reduceBEq, reduceIte, un, t1, fa60_1, fa60_4, fa60_5, fa60_6, Nat.zero_add, bk.at ty27 rfl, bk.at ty57 rfl, bk.at ty58 rfl, bk.at ty30 rfl, obk.bytes.len, Sl.lenB obk.exps ty57 rfl, Sl.lenB obk.slots ty58 rfl, Sl.lenB obk.needs ty30 rfl, decide_eq_true w1, decide_eq_true w2, decide_eq_false w3])
        (repeat refine WC.seq ?_)
        refine WC.ret ?_
        (try simp only [wk, wl, wx, reduceLT, reduceEqDiff, Nat.reduceBEq, reduceIte])
        refine ⟨?_, K3⟩
        rw [hP]; simp only [decide_eq_true w1, decide_eq_true w2, decide_eq_false w3, Bool.false_and, Bool.true_and]
       ((repeat refine WC.seq ?_); refine WC.run ?_)
       (try simp only [wk, wl, wx, reduceLT, reduceEqDiff, Nat.reduceBEq, reduceIte, un, t1, fa60_1, fa60_4, fa60_5, fa60_6, Nat.zero_add, bk.at ty27 rfl, bk.at ty57 rfl, bk.at ty58 rfl, bk.at ty30 rfl, obk.bytes.len, Sl.lenB obk.exps ty57 rfl, Sl.lenB obk.slots ty58 rfl, Sl.lenB obk.needs ty30 rfl, decide_eq_true w1, decide_eq_true w2, decide_eq_true w3])
       (repeat refine WC.seq ?_)
       refine WC.ret ?_
       (try simp only [wk, wl, wx, reduceLT, reduceEqDiff, Nat.reduceBEq, reduceIte])
       refine ⟨?_, K3⟩
       rw [hP]; simp only [decide_eq_true w1, decide_eq_true w2, decide_eq_true w3, Bool.false_and, Bool.true_and]
     all_goals (try simp only [wk, wl, wx, reduceLT, reduceEqDiff, Nat.reduceBEq, reduceIte, t1])
     all_goals (first | trivial | rfl | simp)
   all_goals (try simp only [wk, wl, wx, reduceLT, reduceEqDiff, Nat.reduceBEq, reduceIte, t1])
   all_goals (first | trivial | rfl | simp)
 all_goals (try simp only [wk, wl, wx, reduceLT, reduceEqDiff, Nat.reduceBEq, reduceIte])
 all_goals (first | trivial | rfl | simp)
end Go.Proofs.OP
