/- Walks: object.up, size of an object in a slice; where sections start. -/
import Derived.Test.YtloblhhnlaaajaaDoorX15
import Derived.Test.YtloblhhnlaaajaaDoorX34
set_option linter.unusedVariables false
set_option linter.unusedSimpArgs false
set_option linter.defProp false
set_option linter.unusedSimpArgs false
namespace Go.Proofs.OP
open Go Go.Ev
open Go.Proofs
open Nat (reduceLT reduceEqDiff)
variable {g : T (List V)}

def upN (n : Nat) : Nat := (n + 15) / 16 * 16
theorem upN_le (n : Nat) : n ≤ upN n ∧ upN n < n + 16 := by unfold upN; omega
structure Bas (base : Int) : Prop where
 pos : 0 ≤ base
 most : base ≤ 2 ^ 30
 mul : base.tmod 16 = 0
theorem Bas.nat {base : Int} (b : Bas base) : ∃ q : Nat, base = ((q * 16 : Nat) : Int) := by
 have h1 := b.pos
 have h2 := b.mul
 refine ⟨(base / 16).toNat, ?_⟩
 rw [Int.tmod_eq_emod_of_nonneg h1] at h2
 omega
theorem up_ok {h : H} {base : Int} {x : Nat} (hb : Bas base) (hx : x < 2 ^ 40) : WF (E g) 85 [.int .i64 (base + x)] h fun v h' => v = .int .i64 (base + (upN x : Nat)) ∧ h' = h := by
 obtain ⟨q, rfl⟩ := hb.nat
 have hq := hb.most
 refine WF.enter fn85 rfl ?_
 ((repeat refine WC.seq ?_); refine WC.run ?_)
 (try simp only [wk, wl, wx, reduceLT, reduceEqDiff, Nat.reduceBEq, reduceIte])
 ((repeat refine WC.seq ?_); refine WC.run ?_)
 (try simp only [wk, wl, wx, reduceLT, reduceEqDiff, Nat.reduceBEq, reduceIte, bin_add, bin_sub, bin_mul, bin_quo (show (16 : Int) ≠ 0 by decide)])
 refine WC.ret ?_
 (try simp only [wk, wl, wx, reduceLT, reduceEqDiff, Nat.reduceBEq, reduceIte])
 refine ⟨?_, by trivial⟩
 congr 1
 rw [wrap64 (n := ((q * 16 : Nat) : Int) + x + 16) (by omega) (by omega), wrap64 (n := ((q * 16 : Nat) : Int) + x + 16 - 1) (by omega) (by omega)]
 have h1 : (((q * 16 : Nat) : Int) + x + 16 - 1).tdiv 16 = ((q + (x + 15) / 16 : Nat) : Int) := by
  rw [Int.tdiv_eq_ediv_of_nonneg (by omega)]; omega
 rw [h1, wrap64 (n := ((q + (x + 15) / 16 : Nat) : Int)) (by omega) (by omega), wrap64 (by omega) (by omega)]
 unfold upN
 omega

set_option maxRecDepth 100000 in
set_option maxHeartbeats 4000000 in
theorem sizeAt_ok {h : H} {K : Nat → Prop} {b q : Nat} {c : Oc} {o : ObjD} {n : Int} (hb : At h b q (c.cells o)) (ob : Ob g h K c o) : WF (E g) 86 [.ptr b q, .int .i64 n] h fun v h' => v = i64 (secLen o n) ∧ h' = h := by
 have hb : At h b q [.str o.name, c.code, c.data, c.syms, c.rels, c.needs, .str o.entry] := hb
 refine WF.enter fn86 rfl ?_
 ((repeat refine WC.seq ?_); refine WC.run ?_)
 (try simp only [wk, wl, wx, reduceLT, reduceEqDiff, Nat.reduceBEq, reduceIte])
 ((repeat refine WC.seq ?_); refine WC.run ?_)
 (try simp only [wk, wl, wx, reduceLT, reduceEqDiff, Nat.reduceBEq, reduceIte])
 (repeat refine WC.seq ?_)
 refine WC.block ?_
 ((repeat refine WC.seq ?_); refine WC.run ?_)
 by_cases h1 : n = 1
 ·(try simp only [wk, wl, wx, reduceLT, reduceEqDiff, Nat.reduceBEq, reduceIte, ieq_t h1])
  (repeat refine WC.seq ?_)
  refine WC.cond (b := true) (by (try simp only [wk, wl, wx, reduceLT, reduceEqDiff, Nat.reduceBEq, reduceIte]); (try simp); (try omega)) ?_
  (try simp only [wk, wl, wx, reduceLT, reduceEqDiff, Nat.reduceBEq, reduceIte])
  ((repeat refine WC.seq ?_); refine WC.run ?_)
  (try simp only [wk, wl, wx, reduceLT, reduceEqDiff, Nat.reduceBEq, reduceIte, fa77_1, hb.at ty27 rfl (j := 1) (by simp), Sl.lenB ob.code ty27 rfl])
  refine WC.ret ?_
  (try simp only [wk, wl, wx, reduceLT, reduceEqDiff, Nat.reduceBEq, reduceIte])
  exact ⟨by simp [secLen, h1, i64], by trivial⟩
 ·(try simp only [wk, wl, wx, reduceLT, reduceEqDiff, Nat.reduceBEq, reduceIte, ieq_f h1])
  (repeat refine WC.seq ?_)
  refine WC.cond (b := false) (by (try simp only [wk, wl, wx, reduceLT, reduceEqDiff, Nat.reduceBEq, reduceIte]); (try simp); (try omega)) ?_
  (try simp only [wk, wl, wx, reduceLT, reduceEqDiff, Nat.reduceBEq, reduceIte])
  ((repeat refine WC.seq ?_); refine WC.run ?_)
  by_cases h2 : n = 2
  ·(try simp only [wk, wl, wx, reduceLT, reduceEqDiff, Nat.reduceBEq, reduceIte, ieq_t h2])
   (repeat refine WC.seq ?_)
   refine WC.cond (b := true) (by (try simp only [wk, wl, wx, reduceLT, reduceEqDiff, Nat.reduceBEq, reduceIte]); (try simp); (try omega)) ?_
   (try simp only [wk, wl, wx, reduceLT, reduceEqDiff, Nat.reduceBEq, reduceIte])
   ((repeat refine WC.seq ?_); refine WC.run ?_)
   (try simp only [wk, wl, wx, reduceLT, reduceEqDiff, Nat.reduceBEq, reduceIte, fa77_2, hb.at ty27 rfl (j := 2) (by simp), Sl.lenB ob.data ty27 rfl])
   refine WC.ret ?_
   (try simp only [wk, wl, wx, reduceLT, reduceEqDiff, Nat.reduceBEq, reduceIte])
   exact ⟨by simp [secLen, h1, h2, i64], by trivial⟩
  ·(try simp only [wk, wl, wx, reduceLT, reduceEqDiff, Nat.reduceBEq, reduceIte, ieq_f h2])
   (repeat refine WC.seq ?_)
   refine WC.cond (b := false) (by (try simp only [wk, wl, wx, reduceLT, reduceEqDiff, Nat.reduceBEq, reduceIte]); (try simp); (try omega)) (WC.skip ?_)
   (try simp only [wk, wl, wx, reduceLT, reduceEqDiff, Nat.reduceBEq, reduceIte])
   ((repeat refine WC.seq ?_); refine WC.run ?_)
   (try simp only [wk, wl, wx, reduceLT, reduceEqDiff, Nat.reduceBEq, reduceIte])
   refine WC.ret ?_
   (try simp only [wk, wl, wx, reduceLT, reduceEqDiff, Nat.reduceBEq, reduceIte])
   exact ⟨by simp [secLen, h1, h2, i64], by trivial⟩

def szS (sec : Nat) (o : ObjD) : Nat := if sec = 1 then o.code.length else o.data.length
theorem szS_len {sec : Nat} (h1 : 1 ≤ sec) (h2 : sec ≤ 2) (o : ObjD) : secLen o (sec : Int) = (szS sec o : Int) := by
 obtain rfl | rfl : sec = 1 ∨ sec = 2 := by omega
 ·simp [secLen, szS]
 ·simp [secLen, szS]
def layE (sec : Nat) (os : List ObjD) (a : Nat) : Nat := os.foldl (fun a o => upN a + szS sec o) a
theorem layE_snoc {sec : Nat} {os : List ObjD} {a i : Nat} (hi : i < os.length) : layE sec (os.take (i + 1)) a = upN (layE sec (os.take i) a) + szS sec os[i] := by
 unfold layE
 rw [List.take_succ_eq_append_getElem hi, List.foldl_append]; rfl
def stA (sec : Nat) (os : List ObjD) (a i : Nat) : Nat := upN (layE sec (os.take i) a)
def end1 (os : List ObjD) : Nat := layE 1 os 0
def end2 (os : List ObjD) : Nat := layE 2 os (end1 os)
def stO (os : List ObjD) (sec i : Nat) : Nat := stA sec os (if sec = 1 then 0 else end1 os) i
theorem layE_le {sec M : Nat} : ∀ {os : List ObjD} {a : Nat}, (∀ o ∈ os, szS sec o ≤ M) → a ≤ layE sec os a ∧ layE sec os a ≤ a + os.length * (M + 16)
 | [], a, _ => by simp [layE]
 | o :: r, a, h => by
  have ih := layE_le (sec := sec) (os := r) (a := upN a + szS sec o) fun x hx => h x (List.mem_cons_of_mem _ hx)
  have h1 := h o (List.mem_cons_self ..)
  have h2 := upN_le a
  have e : layE sec (o :: r) a = layE sec r (upN a + szS sec o) := rfl
  rw [e, List.length_cons, Nat.succ_mul]
  omega

def stC (n : Nat) (F : Nat → Int) : List V := (List.range (n * 3)).map fun m => i64 (F m)
theorem stC_length (n : Nat) (F : Nat → Int) : (stC n F).length = n * 3 := by simp [stC]
theorem stC_get {n m : Nat} {F : Nat → Int} (h : m < n * 3) : (stC n F)[m]? = some (i64 (F m)) := by
 rw [stC, List.getElem?_map, List.getElem?_range h]; rfl
theorem stC_over {n m : Nat} {F : Nat → Int} {x : Int} (h : m < n * 3) : over (stC n F) m [i64 x] = stC n (fun k => if k = m then x else F k) := by
 have hl : m + [i64 x].length ≤ (stC n F).length := by rw [stC_length]; simp; omega
 apply List.ext_getElem?
 intro j
 by_cases hj : j < n * 3
 ·rw [over_get hl, stC_get hj]
  by_cases e : j = m
  ·subst e; rw [if_pos (by simp), stC_get hj]; simp
  ·rw [if_neg (by simp; omega)]; simp only [stC_get hj, if_neg e]
 ·rw [List.getElem?_eq_none (by rw [over_length hl, stC_length]; omega), List.getElem?_eq_none (by rw [stC_length]; omega)]
theorem stC_congr {n : Nat} {F G : Nat → Int} (h : ∀ m, m < n * 3 → F m = G m) : stC n F = stC n G := by
 unfold stC
 exact List.map_congr_left fun m hm => by rw [h m (List.mem_range.1 hm)]
theorem stC_zero (n : Nat) : List.replicate (n * 3) (V.int .i64 0) = stC n (fun _ => 0) := by
 apply List.ext_getElem?
 intro j
 by_cases hj : j < n * 3
 ·rw [List.getElem?_replicate, if_pos hj, stC_get hj]; rfl
 ·rw [List.getElem?_eq_none (by simpa using hj), List.getElem?_eq_none (by rw [stC_length]; omega)]
def stF (base : Int) (os : List ObjD) (sec i : Nat) (m : Nat) : Int :=
 if m % 3 = 0 then 0 else if m % 3 < sec ∨ (m % 3 = sec ∧ m / 3 < i) then base + (stO os (m % 3) (m / 3) : Nat) else 0
theorem stF_next {base : Int} {os : List ObjD} {sec i : Nat} (h1 : 1 ≤ sec) (h2 : sec ≤ 2) : (fun k => if k = i * 3 + sec then base + (stO os sec i : Nat) else stF base os sec i k) = stF base os sec (i + 1) := by
 funext k
 unfold stF
 by_cases e : k = i * 3 + sec
 ·subst e
  have q1 : (i * 3 + sec) % 3 = sec := by omega
  have q2 : (i * 3 + sec) / 3 = i := by omega
  rw [if_pos rfl, q1, q2, if_neg (by omega), if_pos (.inr ⟨rfl, by omega⟩)]
 ·rw [if_neg e]
  by_cases z : k % 3 = 0
  ·rw [if_pos z, if_pos z]
  ·rw [if_neg z, if_neg z]
   by_cases q : k % 3 < sec ∨ (k % 3 = sec ∧ k / 3 < i)
   ·rw [if_pos q, if_pos (by omega)]
   ·rw [if_neg q, if_neg (by omega)]
theorem stF_sec {base : Int} {os : List ObjD} {sec n m : Nat} (hm : m < n * 3) : stF base os sec n m = stF base os (sec + 1) 0 m := by
 unfold stF
 by_cases z : m % 3 = 0
 ·rw [if_pos z, if_pos z]
 ·rw [if_neg z, if_neg z]
  by_cases q : m % 3 < sec ∨ (m % 3 = sec ∧ m / 3 < n)
  ·rw [if_pos q, if_pos (by omega)]
  ·rw [if_neg q, if_neg (by omega)]
theorem stF_one {base : Int} {os : List ObjD} : stF base os 1 0 = fun _ => 0 := by
 funext m
 unfold stF
 by_cases z : m % 3 = 0
 ·rw [if_pos z]
 ·rw [if_neg z, if_neg (by omega)]
def stG (base : Int) (os : List ObjD) (m : Nat) : Int := stF base os 3 0 m
theorem stG_at {base : Int} {os : List ObjD} {i sec : Nat} (h1 : 1 ≤ sec) (h2 : sec ≤ 2) : stG base os (i * 3 + sec) = base + (stO os sec i : Nat) := by
 have q1 : (i * 3 + sec) % 3 = sec := by omega
 have q2 : (i * 3 + sec) / 3 = i := by omega
 unfold stG stF
 rw [q1, q2, if_neg (by omega), if_pos (by omega)]
end Go.Proofs.OP
