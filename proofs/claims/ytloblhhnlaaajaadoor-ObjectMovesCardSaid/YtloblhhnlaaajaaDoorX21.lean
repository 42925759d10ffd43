/- Walks: the writer. -/
import Derived.Test.YtloblhhnlaaajaaDoorX15
import Derived.Test.YtloblhhnlaaajaaDoorX20
set_option linter.unusedVariables false
set_option linter.unusedSimpArgs false
set_option linter.defProp false
set_option linter.unusedSimpArgs false
namespace Go.Proofs.OP
open Go Go.Ev
open Go.Proofs
open Nat (reduceLT reduceEqDiff)
variable {g : T (List V)}

def Wr (g : T (List V)) (h : H) (S : Nat → Prop) (wb : Nat) (xs : List UInt8) : Prop := ∃ s, Has h wb [s] ∧ BufB g h s xs ∧ In (fun b => S b ∧ b ≠ wb ∧ b < h.next) s
theorem Wr.sub {h : H} {S S' : Nat → Prop} {wb : Nat} {xs : List UInt8} (w : Wr g h S wb xs) (hs : ∀ b, b < h.next → S b → S' b) : Wr g h S' wb xs := by
 obtain ⟨s, a1, a2, a3⟩ := w
 exact ⟨s, a1, a2, a3.sub fun b hb => ⟨hs b hb.2.2 hb.1, hb.2.1, hb.2.2⟩⟩
theorem Wr.fix {h h' : H} {S K : Nat → Prop} {wb : Nat} {xs : List UInt8} (w : Wr g h S wb xs) (f : Fix K h h') (hw : K wb) (hs : ∀ b, b < h.next → S b → K b) : Wr g h' S wb xs := by
 obtain ⟨s, a1, a2, a3⟩ := w
 exact ⟨s, a1.fix f hw, a2.fix (K := K) (a3.sub fun b hb => hs b hb.2.2 hb.1) f, a3.sub fun b hb => ⟨hb.1, hb.2.1, Nat.lt_of_lt_of_le hb.2.2 f.next⟩⟩
def numB (L : List Int) : List UInt8 := L.flatMap fun n => leB (U n) 8
end Go.Proofs.OP

set_option linter.unusedSimpArgs false
namespace Go.Proofs.OP
open Go Go.Ev
open Go.Proofs
open Nat (reduceLT reduceEqDiff)
variable {g : T (List V)}

def txtB (L : List (List UInt8)) : List UInt8 := L.flatMap fun s => leB s.length 8 ++ s
end Go.Proofs.OP

set_option linter.unusedSimpArgs false
namespace Go.Proofs.OP
open Go Go.Ev
open Go.Proofs
open Nat (reduceLT reduceEqDiff)
variable {g : T (List V)}

theorem E_globs : (E g).globs = g := by unfold E envOf4; rfl
def bitsI (a b : Bool) : Int := (if a then 1 else 0) + (if b then 2 else 0)
end Go.Proofs.OP

set_option linter.unusedSimpArgs false
namespace Go.Proofs.OP
open Go Go.Ev
open Go.Proofs
open Nat (reduceLT reduceEqDiff)
variable {g : T (List V)}

theorem E_eqs : (E g).eqs = es := by unfold E envOf4; rfl
theorem Bs.upto {h : H} {s : V} {xs : List UInt8} (a : Bs g h s xs) {n : Nat} (hn : n ≤ xs.length) :
  ∃ s', sliceV (E g) 27 s none (some (.int .i64 n)) none = some s' ∧ Bs g h s' (xs.take n) ∧ (∀ K, In K s → In K s') := by
 obtain ⟨s', h1, h2, h3, _⟩ := Sl.sub a ty27 rfl (sizeOf_of ty5) (lo := none) (hi := some n) (l := 0) (r := n) rfl rfl (Nat.zero_le _) hn
 refine ⟨s', h1, ?_, h3⟩
 have e : (xs.take n).length = n := by simp; omega
 unfold Bs
 rw [e, List.map_take]
 simpa using h2
theorem Bs.from {h : H} {s : V} {xs : List UInt8} (a : Bs g h s xs) {n : Nat} (hn : n ≤ xs.length) :
  ∃ s', sliceV (E g) 27 s (some (.int .i64 n)) none none = some s' ∧ Bs g h s' (xs.drop n) ∧ (∀ K, In K s → In K s') := by
 obtain ⟨s', h1, h2, h3, _⟩ := Sl.sub a ty27 rfl (sizeOf_of ty5) (lo := some n) (hi := none) (l := n) (r := xs.length) rfl rfl hn (Nat.le_refl _)
 refine ⟨s', h1, ?_, h3⟩
 have e : (xs.drop n).length = xs.length - n := by simp
 unfold Bs
 rw [e, List.map_drop]
 have e2 : ((xs.map u8).drop (n * 1)).take ((xs.length - n) * 1) = (xs.map u8).drop n := by
  rw [Nat.mul_one, Nat.mul_one, List.take_of_length_le (by simp)]
 rw [e2] at h2
 exact h2
theorem Bs.part {h : H} {s : V} {xs : List UInt8} (a : Bs g h s xs) {l r : Nat} (h1 : l ≤ r) (h2 : r ≤ xs.length) :
  ∃ s', sliceV (E g) 27 s (some (.int .i64 l)) (some (.int .i64 r)) none = some s' ∧ Bs g h s' ((xs.take r).drop l) ∧ (∀ K, In K s → In K s') := by
 obtain ⟨s', e1, e2, e3, _⟩ := Sl.sub a ty27 rfl (sizeOf_of ty5) (lo := some l) (hi := some r) (l := l) (r := r) rfl rfl h1 h2
 refine ⟨s', e1, ?_, e3⟩
 have e : ((xs.take r).drop l).length = r - l := by simp; omega
 unfold Bs
 rw [e, List.map_drop, List.map_take, List.drop_take]
 simpa using e2

structure RdS where
 xs : List UInt8
 bad : Bool
def Rd (g : T (List V)) (h : H) (K : Nat → Prop) (rb : Nat) (s : RdS) : Prop := ∃ bs, Has h rb [bs, .bool s.bad] ∧ Bs g h bs s.xs ∧ In K bs
theorem Rd.fix {h h' : H} {K K' : Nat → Prop} {rb : Nat} {s : RdS} (r : Rd g h K rb s) (f : Fix K' h h') (hrb : K' rb) (hK : ∀ b, K b → K' b) : Rd g h' K rb s := by
 obtain ⟨bs, a1, a2, a3⟩ := r
 exact ⟨bs, a1.fix f hrb, Sl.fix a2 (a3.sub hK) f, a3⟩

def NewBs (g : T (List V)) (h h' : H) (v : V) (xs : List UInt8) : Prop := Bs g h' v xs ∧ In (fun b => h.next ≤ b ∧ b < h'.next) v
theorem arrayAt {b o n : Nat} {c : Cp} (hn : 4 ≤ n) : arrayAtV (E g) 199 (.slice b o n c) = some (.ptr b o) := by
 match n, hn with
 | n + 1, hn => simp only [arrayAtV, ty199, ble_true hn, cond_true]
end Go.Proofs.OP
