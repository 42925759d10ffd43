/- Walks: Write of an image. Printed by genr6.py. -/
import Derived.Test.YtloblhhnlaaajaaDoorV15
import Derived.Test.YtloblhhnlaaajaaDoorV25
import Derived.Test.YtloblhhnlaaajaaDoorV17
import Derived.Test.YtloblhhnlaaajaaDoorV26
import Derived.Test.YtloblhhnlaaajaaDoorV20
import Derived.Test.YtloblhhnlaaajaaDoorV24
import Derived.Test.YtloblhhnlaaajaaDoorV23
import Derived.Test.YtloblhhnlaaajaaDoorV16
import Derived.Test.YtloblhhnlaaajaaDoorV21
import Derived.Test.YtloblhhnlaaajaaDoorV18
set_option linter.unusedVariables false
set_option linter.unusedSimpArgs false
set_option linter.defProp false
set_option linter.unusedSimpArgs false
namespace Go.Proofs.OP
open Go Go.Ev
open Go.Proofs
open Nat (reduceLT reduceEqDiff)
variable {g : T (List V)}

structure SmallI (x : ImgD) : Prop where
 head : 0 ≤ x.base ∧ x.base ≤ 2147483648 ∧ x.base.tmod 16 = 0 ∧ (x.bytes.length : Int) ≤ 131072 ∧ 0 ≤ x.code ∧ x.code ≤ x.bytes.length ∧ (x.entry = 0 ∨ (x.base ≤ x.entry ∧ x.entry < x.base + x.code)) ∧ (x.needs.length : Int) ≤ 400
 exps : x.exps.length ≤ 5000
 slots : x.slots.length ≤ 5000
 ename : ∀ s ∈ x.exps, s.name.length ≤ 64
 sname : ∀ s ∈ x.slots, s.name.length ≤ 64
 nname : ∀ s ∈ x.needs, s.length ≤ 64
 eaddr : ∀ s ∈ x.exps, x.base ≤ s.addr ∧ s.addr ≤ x.base + x.bytes.length
 saddr : ∀ s ∈ x.slots, x.base ≤ s.addr ∧ s.addr ≤ x.base + x.bytes.length - 8 ∧ 0 ≤ s.bound ∧ s.bound ≤ 4294967296
theorem incB_small {L : List (List UInt8)} (h : incB L = true) : L.length ≤ 5000 ∧ ∀ s ∈ L, s.length ≤ 64 := by
 simp only [incB, Bool.and_eq_true, decide_eq_true_eq] at h
 refine ⟨by omega, fun s hs => ?_⟩
 obtain ⟨i, hi, rfl⟩ := List.getElem_of_mem hs
 have := allB_at h.1 hi
 rw [incP, List.getElem?_eq_getElem hi] at this
 simp only [Bool.and_eq_true, decide_eq_true_eq] at this
 exact nameE_len this.1
theorem smallI_of {x : ImgD} (h : rightB x = true) : SmallI x := by
 simp only [rightB, Bool.and_eq_true] at h
 obtain ⟨h1, h2, h3, h4, h5, h6⟩ := h
 obtain ⟨a1, a2⟩ := incB_small h5
 obtain ⟨b1, b2⟩ := incB_small h6
 simp only [headI, Bool.and_eq_true, Bool.or_eq_true, decide_eq_true_eq] at h1
 refine ⟨h1, by simpa using a1, by simpa using b1, fun s hs => a2 _ (List.mem_map_of_mem hs), fun s hs => b2 _ (List.mem_map_of_mem hs), fun s hs => ?_, fun s hs => ?_, fun s hs => ?_⟩
 ·obtain ⟨i, hi, rfl⟩ := List.getElem_of_mem hs
  have := allB_at h4 hi
  rw [needP, List.getElem?_eq_getElem hi] at this
  simp only [Bool.and_eq_true, decide_eq_true_eq] at this
  exact nameE_len this.1
 ·obtain ⟨i, hi, rfl⟩ := List.getElem_of_mem hs
  have := allB_at h2 hi
  rw [expP, List.getElem?_eq_getElem hi] at this
  simp only [Bool.and_eq_true, decide_eq_true_eq] at this
  exact this
 ·obtain ⟨i, hi, rfl⟩ := List.getElem_of_mem hs
  have := allB_at h3 hi
  rw [slotP, List.getElem?_eq_getElem hi] at this
  simp only [Bool.and_eq_true, decide_eq_true_eq] at this
  exact ⟨this.1, this.2.1, this.2.2.2.1, this.2.2.2.2.1⟩

end Go.Proofs.OP

set_option linter.unusedSimpArgs false
namespace Go.Proofs.OP
open Go Go.Ev
open Go.Proofs
open Nat (reduceLT reduceEqDiff)
variable {g : T (List V)}

theorem allB_and (p q : Nat → Bool) (n : Nat) : allB (fun i => p i && q i) n = (allB p n && allB q n) := by
 rw [Bool.eq_iff_iff]
 simp only [allB, Bool.and_eq_true, List.all_eq_true]
 exact ⟨fun h => ⟨fun x hx => (h x hx).1, fun x hx => (h x hx).2⟩, fun h x hx => ⟨h.1 x hx, h.2 x hx⟩⟩
theorem rright_eq (x : ImgD) : rrightB x = rightB x := by
 have e1 : allB (rexpP x) x.exps.length = (allB (incP (x.exps.map (·.name))) x.exps.length && allB (expP x) x.exps.length) := allB_and _ _ _
 have e2 : allB (rslotP x) x.slots.length = (allB (incP (x.slots.map (·.name))) x.slots.length && allB (slotP x) x.slots.length) := allB_and _ _ _
 rw [rrightB, rightB, e1, e2, Bool.eq_iff_iff]
 simp only [rheadI, headI, incB, Bool.and_eq_true, List.length_map]
 constructor
 ·rintro ⟨⟨a1, a2, a3, a4, a5, a6, a7, a8, a9, a10⟩, ⟨b1, b2⟩, ⟨c1, c2⟩, d⟩
  exact ⟨⟨a1, a2, a3, a4, a5, a6, a7, a10⟩, b2, c2, d, ⟨b1, a8⟩, c1, a9⟩
 ·rintro ⟨⟨a1, a2, a3, a4, a5, a6, a7, a10⟩, b2, c2, d, ⟨b1, a8⟩, c1, a9⟩
  exact ⟨⟨a1, a2, a3, a4, a5, a6, a7, a8, a9, a10⟩, ⟨b1, b2⟩, ⟨c1, c2⟩, d⟩
end Go.Proofs.OP

namespace Go.Proofs.OP
open Go Go.Ev

theorem smallI_fits {x : ImgD} (sm : SmallI x) : FitsI x := by
 obtain ⟨-, -, -, s4, -, -, -, s7⟩ := sm.head
 have s5 := sm.exps
 have s6 := sm.slots
 exact ⟨by omega, by omega, by omega, by omega⟩
end Go.Proofs.OP

namespace Go.Proofs.OP
open Go Go.Ev Go.RowKit Go.ChangeShapes Go.WideShapes Go.ChangeAt
open Go.Proofs
open Nat (reduceLT reduceEqDiff)

theorem cells57 : Tryd.prog.cellsOf 57 = 1 := by kernel_rfl
theorem cells58 : Tryd.prog.cellsOf 58 = 1 := by kernel_rfl
theorem cells60 : Tryd.prog.cellsOf 60 = 7 := by kernel_rfl
theorem cells135 : Tryd.prog.cellsOf 135 = 2 := by kernel_rfl
theorem cells136 : Tryd.prog.cellsOf 136 = 3 := by kernel_rfl
theorem bytes135 : Tryd.prog.bytesOf 135 = 24 := by kernel_rfl
theorem bytes136 : Tryd.prog.bytesOf 136 = 32 := by kernel_rfl
theorem list2 {α : Type} {l : List α} (h : l.length = 2) : ∃ a b, l = [a, b] := by
 match l, h with
 | [a, b], _ => exact ⟨a, b, rfl⟩
theorem list3 {α : Type} {l : List α} (h : l.length = 3) : ∃ a b c, l = [a, b, c] := by
 match l, h with
 | [a, b, c], _ => exact ⟨a, b, c, rfl⟩
section
variable {H : Type} {enc : TypeId × Value → H} {W : World} {base : Nat} {sp : Nat → Bool} {held : Bool}

theorem exp_in {n : Nat} {cs : List Value} {y : DataW H × List MemPlace} (h : DataW.trod enc Tryd.prog W base sp held n 135 cs = some y) (_ : Wts Tryd.prog 135 y.1) :
  ∃ q : ExpD, True ∧ (expV q).length = 2 ∧ ∀ (j : Nat) c, cs[j]? = some c → ∃ v, (expV q)[j]? = some v ∧ AbsC c v := by
 obtain ⟨xs, m, rfl, rfl, hl, hn, hi⟩ := DataW.trod_struct Tryd.underlying135 h
 rw [cells135] at hl
 obtain ⟨c0, c1, rfl⟩ := list2 hl
 obtain ⟨x0, x1, rfl⟩ := list2 hn
 have i0 := fld hi 0 9 0 rfl rfl rfl cells9
 have i1 := fld hi 1 2 1 rfl rfl rfl cells2
 obtain ⟨nm, e0, _, _⟩ := DataW.trod_string Tryd.underlying9 (show DataW.trod enc Tryd.prog W base sp held m 9 [c0] = some x0 from i0)
 obtain ⟨a, e1, _, ha⟩ := DataW.trod_int Tryd.underlying2 (show DataW.trod enc Tryd.prog W base sp held m 2 [c1] = some x1 from i1)
 injection e0 with e0
 injection e1 with e1
 subst e0 e1
 refine ⟨⟨nm.data.toList, a⟩, trivial, rfl, fun j c hj => ?_⟩
 match j, hj with
 | 0, hj => injection hj with hj; subst hj; exact ⟨_, rfl, AbsC.str⟩
 | 1, hj => injection hj with hj; subst hj; exact ⟨_, rfl, AbsC.int⟩
 | j + 2, hj => simp at hj
theorem slot_in {n : Nat} {cs : List Value} {y : DataW H × List MemPlace} (h : DataW.trod enc Tryd.prog W base sp held n 136 cs = some y) (_ : Wts Tryd.prog 136 y.1) :
  ∃ q : SlotD, True ∧ (slotV q).length = 3 ∧ ∀ (j : Nat) c, cs[j]? = some c → ∃ v, (slotV q)[j]? = some v ∧ AbsC c v := by
 obtain ⟨xs, m, rfl, rfl, hl, hn, hi⟩ := DataW.trod_struct Tryd.underlying136 h
 rw [cells136] at hl
 obtain ⟨c0, c1, c2, rfl⟩ := list3 hl
 obtain ⟨x0, x1, x2, rfl⟩ := list3 hn
 have i0 := fld hi 0 9 0 rfl rfl rfl cells9
 have i1 := fld hi 1 2 1 rfl rfl rfl cells2
 have i2 := fld hi 2 2 2 rfl rfl rfl cells2
 obtain ⟨nm, e0, _, _⟩ := DataW.trod_string Tryd.underlying9 (show DataW.trod enc Tryd.prog W base sp held m 9 [c0] = some x0 from i0)
 obtain ⟨a, e1, _, ha⟩ := DataW.trod_int Tryd.underlying2 (show DataW.trod enc Tryd.prog W base sp held m 2 [c1] = some x1 from i1)
 obtain ⟨b, e2, _, hb⟩ := DataW.trod_int Tryd.underlying2 (show DataW.trod enc Tryd.prog W base sp held m 2 [c2] = some x2 from i2)
 injection e0 with e0
 injection e1 with e1
 injection e2 with e2
 subst e0 e1 e2
 refine ⟨⟨nm.data.toList, a, b⟩, trivial, rfl, fun j c hj => ?_⟩
 match j, hj with
 | 0, hj => injection hj with hj; subst hj; exact ⟨_, rfl, AbsC.str⟩
 | 1, hj => injection hj with hj; subst hj; exact ⟨_, rfl, AbsC.int⟩
 | 2, hj => injection hj with hj; subst hj; exact ⟨_, rfl, AbsC.int⟩
 | j + 3, hj => simp at hj
end
end Go.Proofs.OP

set_option linter.unusedSimpArgs false
namespace Go.Proofs.OP
open Go Go.Ev
open Go.Proofs
open Nat (reduceLT reduceEqDiff)
variable {g : T (List V)}

theorem all_flat {α : Type} {f : α → List V} (hf : ∀ x, (f x).all V.one = true) (L : List α) : (L.flatMap f).all V.one = true := by
 rw [List.all_eq_true]
 intro v hv
 obtain ⟨x, _, hx⟩ := List.mem_flatMap.1 hv
 exact List.all_eq_true.1 (hf x) v hx
abbrev OwnL (g : T (List V)) (e sz : Nat) (h h' : H) (v : V) (n : Nat) (vs : List V) : Prop := Buf (E g) h' e sz v n vs ∧ In (fun b => h.next ≤ b ∧ b < h'.next) v ∧ Kept h h'

set_option maxRecDepth 100000 in
set_option maxHeartbeats 4000000 in
theorem cloneE_ok {h : H} {s : V} {L : List ExpD} (hb : Sl (E g) h 2 s L.length (L.flatMap expV)) (hs : In (· < h.next) s) (hlen : L.length ≤ 2 ^ 34) : WF (E g) 120 [s] h fun v h' => OwnL g 41 2 h h' v L.length (L.flatMap expV) := by
 refine WF.enter fn120 rfl ?_
 ((repeat refine WC.seq ?_); refine WC.run ?_)
 (try simp only [wk, wl, wx, reduceLT, reduceEqDiff, Nat.reduceBEq, reduceIte])
 ((repeat refine WC.seq ?_); refine WC.run ?_)
 (try simp only [wk, wl, wx, reduceLT, reduceEqDiff, Nat.reduceBEq, reduceIte, eq_nils hb ty28 rfl])
 cases hn : isNils s with
 | true =>
  obtain ⟨rfl, h2, h3⟩ := isNils_empty hb hn
  (repeat refine WC.seq ?_)
  refine WC.cond (b := true) (by (try simp only [wk, wl, wx, reduceLT, reduceEqDiff, Nat.reduceBEq, reduceIte]); (try simp); (try omega)) ?_
  (try simp only [wk, wl, wx, reduceLT, reduceEqDiff, Nat.reduceBEq, reduceIte])
  ((repeat refine WC.seq ?_); refine WC.run ?_)
  (try simp only [wk, wl, wx, reduceLT, reduceEqDiff, Nat.reduceBEq, reduceIte])
  refine WC.ret ?_
  (try simp only [wk, wl, wx, reduceLT, reduceEqDiff, Nat.reduceBEq, reduceIte])
  refine ⟨?_, In.nils, Fix.refl _ _⟩
  rw [h2, h3]; exact .nil
 | false =>
  (repeat refine WC.seq ?_)
  refine WC.cond (b := false) (by (try simp only [wk, wl, wx, reduceLT, reduceEqDiff, Nat.reduceBEq, reduceIte]); (try simp); (try omega)) (WC.skip ?_)
  (try simp only [wk, wl, wx, reduceLT, reduceEqDiff, Nat.reduceBEq, reduceIte])
  ((repeat refine WC.seq ?_); refine WC.run ?_)
  (try simp only [wk, wl, wx, reduceLT, reduceEqDiff, Nat.reduceBEq, reduceIte])
  refine sat_slice0 ty28 rfl ty41 rfl (by decide) ?_
  intro h1 b1 n1 f1
  (try simp only [wk, wl, wx, reduceLT, reduceEqDiff, Nat.reduceBEq, reduceIte])
  have hb1 := hb.fix hs f1
  refine sat_grow b1 (fun b o n c e => by injection e with e; omega) ty28 rfl ty28 (.inl ⟨_, rfl⟩) ty41 rfl (by decide) (by decide) hb1.len hb1.cells (Sl.size hb1) (all_flat expV_one L) (by simp; omega) ?_
  intro s' h2 g2
  (try simp only [wk, wl, wx, reduceLT, reduceEqDiff, Nat.reduceBEq, reduceIte])
  refine WC.ret ?_
  (try simp only [wk, wl, wx, reduceLT, reduceEqDiff, Nat.reduceBEq, reduceIte])
  refine ⟨by simpa using g2.buf, fun b o n c e => ⟨?_, g2.low _ _ _ _ e⟩, ⟨by have := g2.fix.next; omega, fun c hc => ?_⟩⟩
  ·rcases g2.own _ _ _ _ e with q | ⟨o, k, c, q⟩
   ·omega
   ·injection q with q; omega
  ·rw [g2.fix.same c ⟨by omega, fun o m cc e => by injection e with e; omega⟩, f1.same c hc]

set_option maxRecDepth 100000 in
set_option maxHeartbeats 4000000 in
theorem cloneS_ok {h : H} {s : V} {L : List SlotD} (hb : Sl (E g) h 3 s L.length (L.flatMap slotV)) (hs : In (· < h.next) s) (hlen : L.length ≤ 2 ^ 34) : WF (E g) 121 [s] h fun v h' => OwnL g 43 3 h h' v L.length (L.flatMap slotV) := by
 refine WF.enter fn121 rfl ?_
 ((repeat refine WC.seq ?_); refine WC.run ?_)
 (try simp only [wk, wl, wx, reduceLT, reduceEqDiff, Nat.reduceBEq, reduceIte])
 ((repeat refine WC.seq ?_); refine WC.run ?_)
 (try simp only [wk, wl, wx, reduceLT, reduceEqDiff, Nat.reduceBEq, reduceIte, eq_nils hb ty29 rfl])
 cases hn : isNils s with
 | true =>
  obtain ⟨rfl, h2, h3⟩ := isNils_empty hb hn
  (repeat refine WC.seq ?_)
  refine WC.cond (b := true) (by (try simp only [wk, wl, wx, reduceLT, reduceEqDiff, Nat.reduceBEq, reduceIte]); (try simp); (try omega)) ?_
  (try simp only [wk, wl, wx, reduceLT, reduceEqDiff, Nat.reduceBEq, reduceIte])
  ((repeat refine WC.seq ?_); refine WC.run ?_)
  (try simp only [wk, wl, wx, reduceLT, reduceEqDiff, Nat.reduceBEq, reduceIte])
  refine WC.ret ?_
  (try simp only [wk, wl, wx, reduceLT, reduceEqDiff, Nat.reduceBEq, reduceIte])
  refine ⟨?_, In.nils, Fix.refl _ _⟩
  rw [h2, h3]; exact .nil
 | false =>
  (repeat refine WC.seq ?_)
  refine WC.cond (b := false) (by (try simp only [wk, wl, wx, reduceLT, reduceEqDiff, Nat.reduceBEq, reduceIte]); (try simp); (try omega)) (WC.skip ?_)
  (try simp only [wk, wl, wx, reduceLT, reduceEqDiff, Nat.reduceBEq, reduceIte])
  ((repeat refine WC.seq ?_); refine WC.run ?_)
  (try simp only [wk, wl, wx, reduceLT, reduceEqDiff, Nat.reduceBEq, reduceIte])
  refine sat_slice0 ty29 rfl ty43 rfl (by decide) ?_
  intro h1 b1 n1 f1
  (try simp only [wk, wl, wx, reduceLT, reduceEqDiff, Nat.reduceBEq, reduceIte])
  have hb1 := hb.fix hs f1
  refine sat_grow b1 (fun b o n c e => by injection e with e; omega) ty29 rfl ty29 (.inl ⟨_, rfl⟩) ty43 rfl (by decide) (by decide) hb1.len hb1.cells (Sl.size hb1) (all_flat slotV_one L) (by simp; omega) ?_
  intro s' h2 g2
  (try simp only [wk, wl, wx, reduceLT, reduceEqDiff, Nat.reduceBEq, reduceIte])
  refine WC.ret ?_
  (try simp only [wk, wl, wx, reduceLT, reduceEqDiff, Nat.reduceBEq, reduceIte])
  refine ⟨by simpa using g2.buf, fun b o n c e => ⟨?_, g2.low _ _ _ _ e⟩, ⟨by have := g2.fix.next; omega, fun c hc => ?_⟩⟩
  ·rcases g2.own _ _ _ _ e with q | ⟨o, k, c, q⟩
   ·omega
   ·injection q with q; omega
  ·rw [g2.fix.same c ⟨by omega, fun o m cc e => by injection e with e; omega⟩, f1.same c hc]

set_option maxRecDepth 100000 in
set_option maxHeartbeats 4000000 in
theorem cloneN_ok {h : H} {s : V} {L : List (List UInt8)} (hb : Sl (E g) h 1 s L.length (L.map V.str)) (hs : In (· < h.next) s) (hlen : L.length ≤ 2 ^ 34) : WF (E g) 122 [s] h fun v h' => OwnL g 9 1 h h' v L.length (L.map V.str) := by
 refine WF.enter fn122 rfl ?_
 ((repeat refine WC.seq ?_); refine WC.run ?_)
 (try simp only [wk, wl, wx, reduceLT, reduceEqDiff, Nat.reduceBEq, reduceIte])
 ((repeat refine WC.seq ?_); refine WC.run ?_)
 (try simp only [wk, wl, wx, reduceLT, reduceEqDiff, Nat.reduceBEq, reduceIte, eq_nils hb ty30 rfl])
 cases hn : isNils s with
 | true =>
  obtain ⟨rfl, h2, h3⟩ := isNils_empty hb hn
  (repeat refine WC.seq ?_)
  refine WC.cond (b := true) (by (try simp only [wk, wl, wx, reduceLT, reduceEqDiff, Nat.reduceBEq, reduceIte]); (try simp); (try omega)) ?_
  (try simp only [wk, wl, wx, reduceLT, reduceEqDiff, Nat.reduceBEq, reduceIte])
  ((repeat refine WC.seq ?_); refine WC.run ?_)
  (try simp only [wk, wl, wx, reduceLT, reduceEqDiff, Nat.reduceBEq, reduceIte])
  refine WC.ret ?_
  (try simp only [wk, wl, wx, reduceLT, reduceEqDiff, Nat.reduceBEq, reduceIte])
  refine ⟨?_, In.nils, Fix.refl _ _⟩
  rw [h2, h3]; exact .nil
 | false =>
  (repeat refine WC.seq ?_)
  refine WC.cond (b := false) (by (try simp only [wk, wl, wx, reduceLT, reduceEqDiff, Nat.reduceBEq, reduceIte]); (try simp); (try omega)) (WC.skip ?_)
  (try simp only [wk, wl, wx, reduceLT, reduceEqDiff, Nat.reduceBEq, reduceIte])
  ((repeat refine WC.seq ?_); refine WC.run ?_)
  (try simp only [wk, wl, wx, reduceLT, reduceEqDiff, Nat.reduceBEq, reduceIte])
  refine sat_slice0 ty30 rfl ty9 rfl (by decide) ?_
  intro h1 b1 n1 f1
  (try simp only [wk, wl, wx, reduceLT, reduceEqDiff, Nat.reduceBEq, reduceIte])
  have hb1 := hb.fix hs f1
  refine sat_grow b1 (fun b o n c e => by injection e with e; omega) ty30 rfl ty30 (.inl ⟨_, rfl⟩) ty9 rfl (by decide) (by decide) hb1.len hb1.cells (Sl.size hb1) (by simp [List.all_eq_true, V.one]) (by simp; omega) ?_
  intro s' h2 g2
  (try simp only [wk, wl, wx, reduceLT, reduceEqDiff, Nat.reduceBEq, reduceIte])
  refine WC.ret ?_
  (try simp only [wk, wl, wx, reduceLT, reduceEqDiff, Nat.reduceBEq, reduceIte])
  refine ⟨by simpa using g2.buf, fun b o n c e => ⟨?_, g2.low _ _ _ _ e⟩, ⟨by have := g2.fix.next; omega, fun c hc => ?_⟩⟩
  ·rcases g2.own _ _ _ _ e with q | ⟨o, k, c, q⟩
   ·omega
   ·injection q with q; omega
  ·rw [g2.fix.same c ⟨by omega, fun o m cc e => by injection e with e; omega⟩, f1.same c hc]

theorem over_snoc {cs ys : List V} {l : Nat} {c : V} (h : l + ys.length < cs.length) : over (over cs l ys) (l + ys.length) [c] = over cs l (ys ++ [c]) := by
 apply List.ext_getElem?
 intro j
 rw [over_get (by rw [over_length (by omega)]; simp; omega), over_get (by omega), over_get (by simp; omega)]
 simp only [List.length_cons, List.length_nil, List.length_append]
 by_cases h1 : l ≤ j ∧ j < l + ys.length
 ·rw [if_neg (by omega), if_pos h1, if_pos (by omega), List.getElem?_append_left (by omega)]
 ·by_cases h2 : j = l + ys.length
  ·subst h2
   rw [if_pos (by omega), if_pos (by omega), List.getElem?_append_right (by omega)]
   simp
  ·rw [if_neg (by omega), if_neg h1, if_neg (by omega)]
def putAt (xs : List UInt8) (l : Nat) (ys : List UInt8) : List UInt8 := xs.take l ++ ys ++ xs.drop (l + ys.length)
theorem putAt_over (xs : List UInt8) (l : Nat) (ys : List UInt8) : (putAt xs l ys).map u8 = over (xs.map u8) l (ys.map u8) := by
 simp [putAt, over, List.map_take, List.map_drop]
theorem putAt_length {xs : List UInt8} {l : Nat} {ys : List UInt8} (h : l + ys.length ≤ xs.length) : (putAt xs l ys).length = xs.length := by
 have := over_length (cs := xs.map u8) (vs := ys.map u8) (o := l) (by simpa using h)
 rw [← putAt_over] at this
 simpa using this
theorem idx_slice {t e b o n k : Nat} {c : Cp} {i ei : TI} {ik : IntKind} (ht : (E g).tys.get t = some i) (hd : i.desc = .slice e) (he : (E g).tys.get e = some ei) (hk : k < n) : indexAddrV (E g) t (.slice b o n c) (.int ik k) = some (.ptr b (o + k * ei.size)) := by
 have h1 : Nat.blt k n = true := blt_true hk
 simp only [indexAddrV, ht, natOf_nat, hd, h1, cond_true, sizeOf_of he, Option.map_some]

set_option maxRecDepth 100000 in
set_option maxHeartbeats 4000000 in
theorem bput_ok {h : H} {b l n' n k : Nat} {c' : Cp} {xs : List UInt8} (a : At h b 0 (xs.map u8)) (hl : l + k ≤ xs.length) (hk : k ≤ 8) (hn' : k ≤ n') (hn : n < 2 ^ 64) :
  WF (E g) 114 [.slice b l n' c', .int .u64 n, .int .i64 k] h fun _ h' => At h' b 0 ((putAt xs l (leB n k)).map u8) ∧ h'.next = h.next ∧ Fix (· ≠ b) h h' := by
 refine WF.enter fn114 rfl ?_
 ((repeat refine WC.seq ?_); refine WC.run ?_)
 (try simp only [wk, wl, wx, reduceLT, reduceEqDiff, Nat.reduceBEq, reduceIte])
 (repeat refine WC.seq ?_)
 refine WC.block ?_
 refine WC.while (fun m fr hh => ∃ ts i, fr = ⟨ts, 19, [], 114, none⟩ ∧ At hh b 0 ((putAt xs l (leB n i)).map u8) ∧ hh.next = h.next ∧ Fix (· ≠ b) h hh ∧ m = k - i ∧ i ≤ k ∧ ts.get 0 = some (.slice b l n' c') ∧ ts.get 1 = some (.int .u64 (n / 256 ^ i : Nat)) ∧ ts.get 7 = some (.int .i64 k) ∧ ts.get 8 = some (.int .i64 i)) ?_ ⟨_, 0, rfl, by simpa [leB, putAt] using a, rfl, Fix.refl _ _, rfl, by omega, ?_, ?_, ?_, ?_⟩
 ·rintro m fr hh ⟨ts, i, rfl, aa, hn1, ff, rfl, hi, t0, t1, t7, t8⟩
  ((repeat refine WC.seq ?_); refine WC.run ?_)
  (try simp only [wk, wl, wx, reduceLT, reduceEqDiff, Nat.reduceBEq, reduceIte, t7, t8])
  (repeat refine WC.seq ?_)
  by_cases hlt : i < k
  ·refine WC.cond (b := true) (by (try simp only [wk, wl, wx, reduceLT, reduceEqDiff, Nat.reduceBEq, reduceIte]); (try simp); (try omega)) (WC.skip ?_)
   (try simp only [wk, wl, wx, reduceLT, reduceEqDiff, Nat.reduceBEq, reduceIte])
   (repeat refine WC.seq ?_)
   refine WC.block ?_
   ((repeat refine WC.seq ?_); refine WC.run ?_)
   (try simp only [wk, wl, wx, reduceLT, reduceEqDiff, Nat.reduceBEq, reduceIte, t8])
   ((repeat refine WC.seq ?_); refine WC.run ?_)
   (try simp only [wk, wl, wx, reduceLT, reduceEqDiff, Nat.reduceBEq, reduceIte, t0, t1, conv_int ty194 ty5 rfl, wrapu8_nat, u8_ofNat, idx_slice ty27 rfl ty5 (show i < n' by omega), Nat.mul_one])
   have aa' := aa
   rw [putAt_over] at aa'
   have hlen := over_length (cs := xs.map u8) (vs := (leB n i).map u8) (o := l) (by simp [leB_length]; omega)
   rw [show l + i = 0 + (l + i) by omega]
   refine sat_storeA aa' (p := l + i) ty5 rfl (by rw [hlen]; simp; omega) rfl (by decide) ?_
   intro h2 a2 n2 f2
   have a2 : At h2 b 0 ((putAt xs l (leB n (i + 1))).map u8) := by
    rw [putAt_over, leB_snoc, List.map_append]
    have := over_snoc (cs := xs.map u8) (ys := (leB n i).map u8) (l := l) (c := u8 (UInt8.ofNat (n / 256 ^ i))) (by simp [leB_length]; omega)
    rw [List.map_cons, List.map_nil, ← this]
    rw [List.length_map, leB_length]
    exact a2
   (try simp only [wk, wl, wx, reduceLT, reduceEqDiff, Nat.reduceBEq, reduceIte])
   ((repeat refine WC.seq ?_); refine WC.run ?_)
   (try simp only [wk, wl, wx, reduceLT, reduceEqDiff, Nat.reduceBEq, reduceIte, t1, bin_shr (show (0 : Int) ≤ 8 by decide)])
   ((repeat refine WC.seq ?_); refine WC.run ?_)
   (try simp only [wk, wl, wx, reduceLT, reduceEqDiff, Nat.reduceBEq, reduceIte, t8, bin_add])
   refine ⟨_, ?_, _, i + 1, rfl, a2, by omega, ⟨by omega, fun c hc => by rw [f2.same c hc, ff.same c hc]⟩, rfl, by omega, ?_⟩
   ·omega
   (try simp only [wk, wl, wx, reduceLT, reduceEqDiff, Nat.reduceBEq, reduceIte, t0, t7])
   refine ⟨trivial, ?_, trivial, ?_⟩
   ·have e : (((n / 256 ^ i : Nat) : Int).fdiv (2 ^ (min (8 : Int).toNat IntKind.u64.bits))) = ((n / 256 ^ (i + 1) : Nat) : Int) := by
     have : ((2 : Int) ^ (min (8 : Int).toNat IntKind.u64.bits)) = ((256 : Nat) : Int) := by decide
     rw [this, fdiv_nat, Nat.pow_succ, Nat.div_div_eq_div_mul]
    rw [e]
   ·rw [wrap64 (by omega) (by omega)]; rfl
  ·refine WC.cond (b := false) (by (try simp only [wk, wl, wx, reduceLT, reduceEqDiff, Nat.reduceBEq, reduceIte]); (try simp); (try omega)) (WC.exit ?_)
   have : i = k := by omega
   subst this
   (try simp only [wk, wl, wx, reduceLT, reduceEqDiff, Nat.reduceBEq, reduceIte])
   exact ⟨aa, hn1, ff⟩
 all_goals (try simp only [wk, wl, wx, reduceLT, reduceEqDiff, Nat.reduceBEq, reduceIte])
 all_goals simp

set_option maxRecDepth 100000 in
set_option maxHeartbeats 4000000 in
theorem put64_ok {h : H} {b l n' n : Nat} {c' : Cp} {xs : List UInt8} (a : At h b 0 (xs.map u8)) (hb : b < h.next) (hl : l + 8 ≤ xs.length) (hn' : 8 ≤ n') (hn : n < 2 ^ 64) :
  WF (E g) 116 [.agg [], .slice b l n' c', .int .u64 n] h fun _ h' => At h' b 0 ((putAt xs l (leB n 8)).map u8) ∧ Fix (fun c => c < h.next ∧ c ≠ b) h h' := by
 refine WF.enter fn116 rfl ?_
 ((repeat refine WC.seq ?_); refine WC.run ?_)
 (try simp only [wk, wl, wx, reduceLT, reduceEqDiff, Nat.reduceBEq, reduceIte])
 refine wop_box (v := .agg []) (by (try simp only [wk, wl, wx, reduceLT, reduceEqDiff, Nat.reduceBEq, reduceIte])) ?_
 intro h1 b1 n1 f1
 (try simp only [wk, wl, wx, reduceLT, reduceEqDiff, Nat.reduceBEq, reduceIte])
 ((repeat refine WC.seq ?_); refine WC.run ?_)
 (try simp only [wk, wl, wx, reduceLT, reduceEqDiff, Nat.reduceBEq, reduceIte])
 refine (bput_ok (k := 8) (a.fix f1 hb) hl (by omega) hn' hn).mono fun v h2 ⟨a2, n2, f2⟩ => ?_
 (try simp only [wk, wl, wx, reduceLT, reduceEqDiff, Nat.reduceBEq, reduceIte])
 exact ⟨a2, ⟨by omega, fun c hc => by rw [f2.same c hc.2, f1.same c hc.1]⟩⟩
def faultV (p : Int × Int) : List V := [i64 p.1, i64 p.2]
theorem build73 {a b : Int} : buildV (E g) 35 [(0, .int .i64 a), (1, .int .i64 b)] = some (.agg [.int .i64 a, .int .i64 b]) := by
 simp only [buildV, ty35, fillAll, nth, sizeOf_of ty3, sizeOf_of ty33, List.all_cons, List.all_nil, ty3, ty33, Option.isSome_some, Bool.and_true, Bool.not_true, cond_false]
 rfl
theorem build73_0 : buildV (E g) 35 [] = some (.agg (faultV (0, 0))) := by
 simp only [buildV, ty35, fillAll, List.all_cons, List.all_nil, ty3, ty33, Option.isSome_some, Bool.and_true, Bool.not_true, cond_false]
 rfl

set_option maxRecDepth 100000 in
set_option maxHeartbeats 4000000 in
theorem bad_ok {h : H} {a b : Int} : WF (E g) 30 [.int .i64 a, .int .i64 b] h fun v h' => v = .agg (faultV (a, b)) ∧ Kept h h' := by
 refine WF.enter fn30 rfl ?_
 ((repeat refine WC.seq ?_); refine WC.run ?_)
 (try simp only [wk, wl, wx, reduceLT, reduceEqDiff, Nat.reduceBEq, reduceIte])
 refine wop_alloc ty35 ?_
 intro h1 b1 n1 f1
 (try simp only [wk, wl, wx, reduceLT, reduceEqDiff, Nat.reduceBEq, reduceIte])
 ((repeat refine WC.seq ?_); refine WC.run ?_)
 (try simp only [wk, wl, wx, reduceLT, reduceEqDiff, Nat.reduceBEq, reduceIte, build73])
 refine sat_store b1 ty35 rfl (Nat.le_refl 2) rfl ?_
 intro h2 b2 n2 f2
 have l2 : loadP (E g) h2 35 (.ptr h.next 0) = some (.agg (faultV (a, b))) := b2.agg ty35 rfl (Nat.le_refl 2)
 (try simp only [wk, wl, wx, reduceLT, reduceEqDiff, Nat.reduceBEq, reduceIte])
 refine WC.ret ?_
 (try simp only [wk, wl, wx, reduceLT, reduceEqDiff, Nat.reduceBEq, reduceIte, l2])
 exact ⟨by trivial, ⟨by omega, fun c hc => by rw [f2.same c (by omega), f1.same c hc]⟩⟩
end Go.Proofs.OP
