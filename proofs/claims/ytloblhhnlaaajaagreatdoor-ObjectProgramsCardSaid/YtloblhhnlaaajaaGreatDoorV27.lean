/- Walks: Write of an image. Printed by genr6.py. -/
import Derived.Test.YtloblhhnlaaajaaGreatDoorV15
import Derived.Test.YtloblhhnlaaajaaGreatDoorV25
import Derived.Test.YtloblhhnlaaajaaGreatDoorV17
import Derived.Test.YtloblhhnlaaajaaGreatDoorV26
import Derived.Test.YtloblhhnlaaajaaGreatDoorV19
import Derived.Test.YtloblhhnlaaajaaGreatDoorV23
set_option linter.unusedVariables false
set_option linter.unusedSimpArgs false
set_option linter.defProp false
set_option linter.unusedSimpArgs false
namespace Go.Proofs.OP
open Go Go.Ev
open Go.Proofs
open Nat (reduceLT reduceEqDiff)
variable {g : T (List V)}

structure SmallI (x : ImgD) : Prop where
 head : 0 ≤ x.base ∧ x.base ≤ 2147483648 ∧ x.base.tmod 16 = 0 ∧ (x.bytes.length : Int) ≤ 131072 ∧ 0 ≤ x.code ∧ x.code ≤ x.bytes.length ∧ (x.entry = 0 ∨ (x.base ≤ x.entry ∧ x.entry < x.base + x.code)) ∧ (x.needs.length : Int) ≤ 400
 exps : x.exps.length ≤ 5000
 slots : x.slots.length ≤ 5000
 ename : ∀ s ∈ x.exps, s.name.length ≤ 64
 sname : ∀ s ∈ x.slots, s.name.length ≤ 64
 nname : ∀ s ∈ x.needs, s.length ≤ 64
 eaddr : ∀ s ∈ x.exps, x.base ≤ s.addr ∧ s.addr ≤ x.base + x.bytes.length
 saddr : ∀ s ∈ x.slots, x.base ≤ s.addr ∧ s.addr ≤ x.base + x.bytes.length - 8 ∧ 0 ≤ s.bound ∧ s.bound ≤ 4294967296
theorem incB_small {L : List (List UInt8)} (h : incB L = true) : L.length ≤ 5000 ∧ ∀ s ∈ L, s.length ≤ 64 := by
 simp only [incB, Bool.and_eq_true, decide_eq_true_eq] at h
 refine ⟨by omega, fun s hs => ?_⟩
 obtain ⟨i, hi, rfl⟩ := List.getElem_of_mem hs
 have := allB_at h.1 hi
 rw [incP, List.getElem?_eq_getElem hi] at this
 simp only [Bool.and_eq_true, decide_eq_true_eq] at this
 exact nameE_len this.1
theorem smallI_of {x : ImgD} (h : rightB x = true) : SmallI x := by
 simp only [rightB, Bool.and_eq_true] at h
 obtain ⟨h1, h2, h3, h4, h5, h6⟩ := h
 obtain ⟨a1, a2⟩ := incB_small h5
 obtain ⟨b1, b2⟩ := incB_small h6
 simp only [headI, Bool.and_eq_true, Bool.or_eq_true, decide_eq_true_eq] at h1
 refine ⟨h1, by simpa using a1, by simpa using b1, fun s hs => a2 _ (List.mem_map_of_mem hs), fun s hs => b2 _ (List.mem_map_of_mem hs), fun s hs => ?_, fun s hs => ?_, fun s hs => ?_⟩
 ·obtain ⟨i, hi, rfl⟩ := List.getElem_of_mem hs
  have := allB_at h4 hi
  rw [needP, List.getElem?_eq_getElem hi] at this
  simp only [Bool.and_eq_true, decide_eq_true_eq] at this
  exact nameE_len this.1
 ·obtain ⟨i, hi, rfl⟩ := List.getElem_of_mem hs
  have := allB_at h2 hi
  rw [expP, List.getElem?_eq_getElem hi] at this
  simp only [Bool.and_eq_true, decide_eq_true_eq] at this
  exact this
 ·obtain ⟨i, hi, rfl⟩ := List.getElem_of_mem hs
  have := allB_at h3 hi
  rw [slotP, List.getElem?_eq_getElem hi] at this
  simp only [Bool.and_eq_true, decide_eq_true_eq] at this
  exact ⟨this.1, this.2.1, this.2.2.2.1, this.2.2.2.2.1⟩

end Go.Proofs.OP

set_option linter.unusedSimpArgs false
namespace Go.Proofs.OP
open Go Go.Ev
open Go.Proofs
open Nat (reduceLT reduceEqDiff)
variable {g : T (List V)}

theorem allB_and (p q : Nat → Bool) (n : Nat) : allB (fun i => p i && q i) n = (allB p n && allB q n) := by
 rw [Bool.eq_iff_iff]
 simp only [allB, Bool.and_eq_true, List.all_eq_true]
 exact ⟨fun h => ⟨fun x hx => (h x hx).1, fun x hx => (h x hx).2⟩, fun h x hx => ⟨h.1 x hx, h.2 x hx⟩⟩
theorem rright_eq (x : ImgD) : rrightB x = rightB x := by
 have e1 : allB (rexpP x) x.exps.length = (allB (incP (x.exps.map (·.name))) x.exps.length && allB (expP x) x.exps.length) := allB_and _ _ _
 have e2 : allB (rslotP x) x.slots.length = (allB (incP (x.slots.map (·.name))) x.slots.length && allB (slotP x) x.slots.length) := allB_and _ _ _
 rw [rrightB, rightB, e1, e2, Bool.eq_iff_iff]
 simp only [rheadI, headI, incB, Bool.and_eq_true, List.length_map]
 constructor
 ·rintro ⟨⟨a1, a2, a3, a4, a5, a6, a7, a8, a9, a10⟩, ⟨b1, b2⟩, ⟨c1, c2⟩, d⟩
  exact ⟨⟨a1, a2, a3, a4, a5, a6, a7, a10⟩, b2, c2, d, ⟨b1, a8⟩, c1, a9⟩
 ·rintro ⟨⟨a1, a2, a3, a4, a5, a6, a7, a10⟩, b2, c2, d, ⟨b1, a8⟩, c1, a9⟩
  exact ⟨⟨a1, a2, a3, a4, a5, a6, a7, a8, a9, a10⟩, ⟨b1, b2⟩, ⟨c1, c2⟩, d⟩
end Go.Proofs.OP

namespace Go.Proofs.OP
open Go Go.Ev

theorem smallI_fits {x : ImgD} (sm : SmallI x) : FitsI x := by
 obtain ⟨-, -, -, s4, -, -, -, s7⟩ := sm.head
 have s5 := sm.exps
 have s6 := sm.slots
 exact ⟨by omega, by omega, by omega, by omega⟩
end Go.Proofs.OP

namespace Go.Proofs.OP
open Go Go.Ev Go.RowKit Go.ChangeShapes Go.WideShapes Go.ChangeAt
open Go.Proofs
open Nat (reduceLT reduceEqDiff)

theorem cells47 : Tryz.prog.cellsOf 47 = 1 := by kernel_rfl
theorem cells48 : Tryz.prog.cellsOf 48 = 1 := by kernel_rfl
theorem cells50 : Tryz.prog.cellsOf 50 = 7 := by kernel_rfl
theorem cells134 : Tryz.prog.cellsOf 134 = 2 := by kernel_rfl
theorem cells136 : Tryz.prog.cellsOf 136 = 3 := by kernel_rfl
theorem bytes134 : Tryz.prog.bytesOf 134 = 24 := by kernel_rfl
theorem bytes136 : Tryz.prog.bytesOf 136 = 32 := by kernel_rfl
theorem list2 {α : Type} {l : List α} (h : l.length = 2) : ∃ a b, l = [a, b] := by
 match l, h with
 | [a, b], _ => exact ⟨a, b, rfl⟩
theorem list3 {α : Type} {l : List α} (h : l.length = 3) : ∃ a b c, l = [a, b, c] := by
 match l, h with
 | [a, b, c], _ => exact ⟨a, b, c, rfl⟩
section
variable {H : Type} {enc : TypeId × Value → H} {W : World} {base : Nat} {sp : Nat → Bool} {held : Bool}

theorem exp_in {n : Nat} {cs : List Value} {y : DataW H × List MemPlace} (h : DataW.trod enc Tryz.prog W base sp held n 134 cs = some y) (_ : Wts Tryz.prog 134 y.1) :
  ∃ q : ExpD, True ∧ (expV q).length = 2 ∧ ∀ (j : Nat) c, cs[j]? = some c → ∃ v, (expV q)[j]? = some v ∧ AbsC c v := by
 obtain ⟨xs, m, rfl, rfl, hl, hn, hi⟩ := DataW.trod_struct Tryz.underlying134 h
 rw [cells134] at hl
 obtain ⟨c0, c1, rfl⟩ := list2 hl
 obtain ⟨x0, x1, rfl⟩ := list2 hn
 have i0 := fld hi 0 9 0 rfl rfl rfl cells9
 have i1 := fld hi 1 2 1 rfl rfl rfl cells2
 obtain ⟨nm, e0, _, _⟩ := DataW.trod_string Tryz.underlying9 (show DataW.trod enc Tryz.prog W base sp held m 9 [c0] = some x0 from i0)
 obtain ⟨a, e1, _, ha⟩ := DataW.trod_int Tryz.underlying2 (show DataW.trod enc Tryz.prog W base sp held m 2 [c1] = some x1 from i1)
 injection e0 with e0
 injection e1 with e1
 subst e0 e1
 refine ⟨⟨nm.data.toList, a⟩, trivial, rfl, fun j c hj => ?_⟩
 match j, hj with
 | 0, hj => injection hj with hj; subst hj; exact ⟨_, rfl, AbsC.str⟩
 | 1, hj => injection hj with hj; subst hj; exact ⟨_, rfl, AbsC.int⟩
 | j + 2, hj => simp at hj
theorem slot_in {n : Nat} {cs : List Value} {y : DataW H × List MemPlace} (h : DataW.trod enc Tryz.prog W base sp held n 136 cs = some y) (_ : Wts Tryz.prog 136 y.1) :
  ∃ q : SlotD, True ∧ (slotV q).length = 3 ∧ ∀ (j : Nat) c, cs[j]? = some c → ∃ v, (slotV q)[j]? = some v ∧ AbsC c v := by
 obtain ⟨xs, m, rfl, rfl, hl, hn, hi⟩ := DataW.trod_struct Tryz.underlying136 h
 rw [cells136] at hl
 obtain ⟨c0, c1, c2, rfl⟩ := list3 hl
 obtain ⟨x0, x1, x2, rfl⟩ := list3 hn
 have i0 := fld hi 0 9 0 rfl rfl rfl cells9
 have i1 := fld hi 1 2 1 rfl rfl rfl cells2
 have i2 := fld hi 2 2 2 rfl rfl rfl cells2
 obtain ⟨nm, e0, _, _⟩ := DataW.trod_string Tryz.underlying9 (show DataW.trod enc Tryz.prog W base sp held m 9 [c0] = some x0 from i0)
 obtain ⟨a, e1, _, ha⟩ := DataW.trod_int Tryz.underlying2 (show DataW.trod enc Tryz.prog W base sp held m 2 [c1] = some x1 from i1)
 obtain ⟨b, e2, _, hb⟩ := DataW.trod_int Tryz.underlying2 (show DataW.trod enc Tryz.prog W base sp held m 2 [c2] = some x2 from i2)
 injection e0 with e0
 injection e1 with e1
 injection e2 with e2
 subst e0 e1 e2
 refine ⟨⟨nm.data.toList, a, b⟩, trivial, rfl, fun j c hj => ?_⟩
 match j, hj with
 | 0, hj => injection hj with hj; subst hj; exact ⟨_, rfl, AbsC.str⟩
 | 1, hj => injection hj with hj; subst hj; exact ⟨_, rfl, AbsC.int⟩
 | 2, hj => injection hj with hj; subst hj; exact ⟨_, rfl, AbsC.int⟩
 | j + 3, hj => simp at hj
end
end Go.Proofs.OP
