/- Walks: programs in memory; a slot is bound. -/
import Derived.Test.YtloblhhnlaaajaaDoorX15
import Derived.Test.YtloblhhnlaaajaaDoorX28
import Derived.Test.YtloblhhnlaaajaaDoorX21
import Derived.Test.YtloblhhnlaaajaaDoorX17
import Derived.Test.YtloblhhnlaaajaaDoorX14
import Derived.Test.YtloblhhnlaaajaaDoorX24
import Derived.Test.YtloblhhnlaaajaaDoorX23
import Derived.Test.YtloblhhnlaaajaaDoorX22
import Derived.Test.YtloblhhnlaaajaaDoorX19
set_option linter.unusedVariables false
set_option linter.unusedSimpArgs false
set_option linter.defProp false
set_option linter.unusedSimpArgs false
namespace Go.Proofs.OP
open Go Go.Ev
open Go.Proofs
open Nat (reduceLT reduceEqDiff)
variable {g : T (List V)}

theorem _root_.Go.Ev.At.part0 {h : H} {b : Nat} {vs : List V} (a : At h b 0 vs) {p q : Nat} (hq : p + q ≤ vs.length) : At h b p ((vs.drop p).take q) := by
 have := a.part hq
 rwa [Nat.zero_add] at this

structure IM (g : T (List V)) (h : H) (lo hi : Nat) (tag : Nat → Nat) (i : Nat) (c : Ic) (x : ImgD) : Prop where
 im : Im g h (· < hi) c x
 bw : Whole c.bytes x.bytes.length
 sw : Whole c.slots x.slots.length
 bt : In (fun b => lo ≤ b ∧ tag b = 2 * i + 3) c.bytes
 st : In (fun b => lo ≤ b ∧ tag b = 2 * i + 4) c.slots
 et : In (fun b => tag b = 0) c.exps
 nt : In (fun b => tag b = 0) c.needs
def imgCells (cs : List Ic) (xs : List ImgD) : List V := (cs.zip xs).flatMap fun p => p.1.cells p.2
structure PM (g : T (List V)) (h : H) (lo hi pb sb : Nat) (sc : Cp) (tag : Nat → Nat) (cs : List Ic) (xs : List ImgD) : Prop where
 len : cs.length = xs.length
 pos : 0 < xs.length
 has : Has h pb [.slice sb 0 xs.length sc]
 pbt : lo ≤ pb ∧ pb < hi ∧ tag pb = 1
 sbt : lo ≤ sb ∧ sb < hi ∧ tag sb = 2
 scw : sc = .lit xs.length ∨ sc = .opn 0 0
 his : hi ≤ h.next
 blk : At h sb 0 (imgCells cs xs)
 im : ∀ i c x, cs[i]? = some c → xs[i]? = some x → IM g h lo hi tag i c x
theorem imgCells_length {cs : List Ic} {xs : List ImgD} (h : cs.length = xs.length) : (imgCells cs xs).length = xs.length * 7 := by
 unfold imgCells
 rw [flat_length' (sz := 7) (fun p => rfl), List.length_zip, h, Nat.min_self]
theorem imgCells_at {cs : List Ic} {xs : List ImgD} {i : Nat} {c : Ic} {x : ImgD} (hc : cs[i]? = some c) (hx : xs[i]? = some x) : ((imgCells cs xs).drop (i * 7)).take 7 = c.cells x := by
 obtain ⟨h1, h1'⟩ := List.getElem?_eq_some_iff.1 hc
 obtain ⟨h2, h2'⟩ := List.getElem?_eq_some_iff.1 hx
 unfold imgCells
 rw [flat_at' (sz := 7) (fun p => rfl) (k := i) (by rw [List.length_zip]; omega), List.getElem_zip, h1', h2']
theorem Ic.ext_cells {c : Ic} {x y : ImgD} (h1 : x.base = y.base) (h2 : x.code = y.code) (h3 : x.entry = y.entry) : c.cells x = c.cells y := by
 unfold Ic.cells; rw [h1, h2, h3]
section
variable {h h' : H} {lo hi pb sb : Nat} {sc : Cp} {tag : Nat → Nat} {cs : List Ic} {xs : List ImgD}
theorem IM.fix {i : Nat} {c : Ic} {x : ImgD} (a : IM g h lo hi tag i c x) (f : Fix (· < hi) h h') : IM g h' lo hi tag i c x :=
 ⟨a.im.fix f fun _ h => h, a.bw, a.sw, a.bt, a.st, a.et, a.nt⟩
theorem PM.fix (a : PM g h lo hi pb sb sc tag cs xs) (f : Fix (· < hi) h h') : PM g h' lo hi pb sb sc tag cs xs :=
 ⟨a.len, a.pos, a.has.fix f a.pbt.2.1, a.pbt, a.sbt, a.scw, Nat.le_trans a.his f.next, a.blk.fix f a.sbt.2.1, fun i c x h1 h2 => (a.im i c x h1 h2).fix f⟩
theorem PM.kept (a : PM g h lo hi pb sb sc tag cs xs) (f : Kept h h') : PM g h' lo hi pb sb sc tag cs xs := a.fix (f.sub fun b hb => Nat.lt_of_lt_of_le hb a.his)
theorem PM.cell (a : PM g h lo hi pb sb sc tag cs xs) {i : Nat} {c : Ic} {x : ImgD} (hc : cs[i]? = some c) (hx : xs[i]? = some x) : At h sb (i * 7) [i64 x.base, c.bytes, i64 x.code, i64 x.entry, c.exps, c.slots, c.needs] := by
 obtain ⟨h2, _⟩ := List.getElem?_eq_some_iff.1 hx
 have := a.blk.part0 (p := i * 7) (q := 7) (by rw [imgCells_length a.len]; omega)
 rw [imgCells_at hc hx] at this
 exact this
theorem PM.sl (a : PM g h lo hi pb sb sc tag cs xs) : Sl (E g) h 7 (.slice sb 0 xs.length sc) xs.length (imgCells cs xs) := a.blk.slice (imgCells_length a.len) (Whole.cap a.scw)
end

def setS (s : SlotD) (a : Int) : SlotD := ⟨s.name, s.addr, a⟩
def bindX (x : ImgD) (k : Nat) (a : Int) : ImgD := match x.slots[k]? with
 | none => x
 | some s => { x with slots := x.slots.set k (setS s a), bytes := putAt x.bytes (s.addr - x.base).toNat (leB (U a) 8) }
def setB (xs : List ImgD) (i k : Nat) (a : Int) : List ImgD := match xs[i]? with
 | none => xs
 | some x => xs.set i (bindX x k a)
theorem setB_length (xs : List ImgD) (i k : Nat) (a : Int) : (setB xs i k a).length = xs.length := by
 unfold setB; split
 ·rfl
 ·simp
theorem imgCells_set {cs : List Ic} {xs : List ImgD} {i : Nat} {y : ImgD} (h : ∀ x, xs[i]? = some x → y.base = x.base ∧ y.code = x.code ∧ y.entry = x.entry) : imgCells cs (xs.set i y) = imgCells cs xs := by
 unfold imgCells
 induction cs generalizing xs i with
 | nil => simp
 | cons c cs ih =>
  cases xs with
  | nil => simp
  | cons x xs =>
   cases i with
   | zero =>
    obtain ⟨e1, e2, e3⟩ := h x rfl
    simp only [List.set_cons_zero, List.zip_cons_cons, List.flatMap_cons, Ic.ext_cells e1 e2 e3]
   | succ i =>
    simp only [List.set_cons_succ, List.zip_cons_cons, List.flatMap_cons]
    rw [ih (fun x hx => h x (by simpa using hx))]
theorem PM.set {h h' : H} {lo hi pb sb : Nat} {sc : Cp} {tag : Nat → Nat} {cs : List Ic} {xs : List ImgD} (a : PM g h lo hi pb sb sc tag cs xs) {i k : Nat} {c : Ic} {x : ImgD} {ad : Int} (hc : cs[i]? = some c) (hx : xs[i]? = some x) (hk : k < x.slots.length)
  {sk bk : Nat} {sn bn : Cp} (es : c.slots = .slice sk 0 x.slots.length sn) (eb : c.bytes = .slice bk 0 x.bytes.length bn) (f : Fix (fun b => b < h.next ∧ b ≠ sk ∧ b ≠ bk) h h')
  (sa : At h' sk 0 ((x.slots.set k (setS x.slots[k] ad)).flatMap slotV)) (ba : At h' bk 0 ((putAt x.bytes (x.slots[k].addr - x.base).toNat (leB (U ad) 8)).map u8)) (hl : (x.slots[k].addr - x.base).toNat + 8 ≤ x.bytes.length) :
  PM g h' lo hi pb sb sc tag cs (setB xs i k ad) := by
 have hh := a.his
 have mi := a.im i c x hc hx
 obtain ⟨s1, s2⟩ := mi.st _ _ _ _ es
 obtain ⟨b1, b2⟩ := mi.bt _ _ _ _ eb
 have hset : setB xs i k ad = xs.set i (bindX x k ad) := by unfold setB; rw [hx]
 have hb : bindX x k ad = { x with slots := x.slots.set k (setS x.slots[k] ad), bytes := putAt x.bytes (x.slots[k].addr - x.base).toNat (leB (U ad) 8) } := by
  unfold bindX; rw [List.getElem?_eq_getElem hk]
 have hbl : (bindX x k ad).bytes.length = x.bytes.length := by rw [hb]; exact putAt_length (by rw [leB_length]; exact hl)
 have hsl : (bindX x k ad).slots.length = x.slots.length := by rw [hb]; simp
 have hcells : imgCells cs (setB xs i k ad) = imgCells cs xs := by
  rw [hset]
  refine imgCells_set fun z hz => ?_
  rw [hx] at hz; injection hz with hz; subst hz
  rw [hb]; exact ⟨rfl, rfl, rfl⟩
 have n1 := a.pbt
 have n2 := a.sbt
 have ntg : ∀ b, tag b ≠ 2 * i + 4 → tag b ≠ 2 * i + 3 → b < hi → (b < h.next ∧ b ≠ sk ∧ b ≠ bk) := fun b h1 h2 h3 => ⟨by omega, fun e => h1 (e ▸ s2), fun e => h2 (e ▸ b2)⟩
 refine ⟨by rw [setB_length]; exact a.len, by rw [setB_length]; exact a.pos, ?_, a.pbt, a.sbt, by rw [setB_length]; exact a.scw, Nat.le_trans hh f.next, ?_, ?_⟩
 ·rw [setB_length]
  exact a.has.fix f (ntg _ (by omega) (by omega) n1.2.1)
 ·rw [hcells]
  exact a.blk.fix f (ntg _ (by omega) (by omega) n2.2.1)
 ·intro j cj xj hcj hxj
  rw [hset] at hxj
  by_cases hji : j = i
  ·subst hji
   rw [hc] at hcj; injection hcj with hcj; subst hcj
   obtain ⟨hlt, _⟩ := List.getElem?_eq_some_iff.1 hx
   rw [List.getElem?_set_self hlt] at hxj
   injection hxj with hxj
   subst hxj
   have q1 : Bs g h' c.bytes (bindX x k ad).bytes := by
    rw [eb]
    have := ba.slice (E := E g) (sz := 1) (n := x.bytes.length) (cc := bn) (by rw [List.length_map, putAt_length (by rw [leB_length]; exact hl), Nat.mul_one]) (by
     rcases mi.bw with q | ⟨_, _, q, q'⟩
     ·rw [eb] at q; cases q
     ·rw [eb] at q; injection q with _ _ _ q; subst q; exact Whole.cap q')
    show Sl (E g) h' 1 _ (bindX x k ad).bytes.length _
    rw [hbl, hb]
    exact this
   have q2 : Bi g h' c.slots (bindX x k ad).slots := by
    rw [es]
    have := sa.slice (E := E g) (sz := 3) (n := x.slots.length) (cc := sn) (by rw [flat_length' slotV_length, List.length_set]) (by
     rcases mi.sw with q | ⟨_, _, q, q'⟩
     ·rw [es] at q; cases q
     ·rw [es] at q; injection q with _ _ _ q; subst q; exact Whole.cap q')
    show Sl (E g) h' 3 _ (bindX x k ad).slots.length _
    rw [hsl, hb]
    exact this
   have q3 : (bindX x k ad).exps = x.exps := by rw [hb]
   have q4 : (bindX x k ad).needs = x.needs := by rw [hb]
   refine ⟨⟨q1, ?_, q2, ?_, mi.im.inB, mi.im.inX, mi.im.inS, mi.im.inN⟩, by rw [hbl]; exact mi.bw, by rw [hsl]; exact mi.sw, mi.bt, mi.st, mi.et, mi.nt⟩
   ·rw [q3]
    exact Sl.fix mi.im.exps (K := fun b => b < h.next ∧ b ≠ sk ∧ b ≠ bk) (fun b o n kk e => ntg b (by have := mi.et _ _ _ _ e; omega) (by have := mi.et _ _ _ _ e; omega) (mi.im.inX _ _ _ _ e)) f
   ·rw [q4]
    exact Sl.fix mi.im.needs (K := fun b => b < h.next ∧ b ≠ sk ∧ b ≠ bk) (fun b o n kk e => ntg b (by have := mi.nt _ _ _ _ e; omega) (by have := mi.nt _ _ _ _ e; omega) (mi.im.inN _ _ _ _ e)) f
  ·rw [List.getElem?_set_ne (Ne.symm hji)] at hxj
   have mj := a.im j cj xj hcj hxj
   exact ⟨⟨Sl.fix mj.im.bytes (K := fun b => b < h.next ∧ b ≠ sk ∧ b ≠ bk) (fun b o n kk e => ntg b (by have := (mj.bt _ _ _ _ e).2; omega) (by have := (mj.bt _ _ _ _ e).2; omega) (mj.im.inB _ _ _ _ e)) f,
    Sl.fix mj.im.exps (K := fun b => b < h.next ∧ b ≠ sk ∧ b ≠ bk) (fun b o n kk e => ntg b (by have := mj.et _ _ _ _ e; omega) (by have := mj.et _ _ _ _ e; omega) (mj.im.inX _ _ _ _ e)) f,
    Sl.fix mj.im.slots (K := fun b => b < h.next ∧ b ≠ sk ∧ b ≠ bk) (fun b o n kk e => ntg b (by have := (mj.st _ _ _ _ e).2; omega) (by have := (mj.st _ _ _ _ e).2; omega) (mj.im.inS _ _ _ _ e)) f,
    Sl.fix mj.im.needs (K := fun b => b < h.next ∧ b ≠ sk ∧ b ≠ bk) (fun b o n kk e => ntg b (by have := mj.nt _ _ _ _ e; omega) (by have := mj.nt _ _ _ _ e; omega) (mj.im.inN _ _ _ _ e)) f,
    mj.im.inB, mj.im.inX, mj.im.inS, mj.im.inN⟩, mj.bw, mj.sw, mj.bt, mj.st, mj.et, mj.nt⟩
end Go.Proofs.OP

set_option linter.unusedSimpArgs false
namespace Go.Proofs.OP
open Go Go.Ev
open Go.Proofs
open Nat (reduceLT reduceEqDiff)
variable {g : T (List V)}

theorem not_one_nil {c : V} {n : Nat} (w : Whole c n) {h : H} {sz : Nat} {vs : List V} (a : Sl (E g) h sz c n vs) (hn : 0 < n) : ∃ b k, c = .slice b 0 n k ∧ (k = .lit n ∨ k = .opn 0 0) := by
 rcases w with rfl | q
 ·have := a.len
  simp only [lenV] at this
  injection this with this; omega
 ·exact q
set_option maxRecDepth 100000 in
set_option maxHeartbeats 4000000 in
theorem bind_ok {h : H} {ib q bk : Nat} {bn : Cp} {c : Ic} {x : ImgD} {s : SlotD} {l : Nat} (ac : At h ib q [i64 x.base, c.bytes, i64 x.code, i64 x.entry, c.exps, c.slots, c.needs]) (hib : ib < h.next) (eb : c.bytes = .slice bk 0 x.bytes.length bn) (bw : bn = .lit x.bytes.length ∨ bn = .opn 0 0)
  (ba : At h bk 0 (x.bytes.map u8)) (hbk : bk < h.next) (hl : IntKind.i64.wrap (s.addr - x.base) = (l : Int)) (hl8 : l + 8 ≤ x.bytes.length) :
  WF (E g) 93 [.ptr ib q, .agg (slotV s)] h fun _ h' => At h' bk 0 ((putAt x.bytes l (leB (U s.bound) 8)).map u8) ∧ Fix (fun b => b < h.next ∧ b ≠ bk) h h' := by
 refine WF.enter fn93 rfl ?_
 ((repeat refine WC.seq ?_); refine WC.run ?_)
 (try simp only [wk, wl, wx, reduceLT, reduceEqDiff, Nat.reduceBEq, reduceIte])
 refine wop_box (v := .agg (slotV s)) (by (try simp only [wk, wl, wx, reduceLT, reduceEqDiff, Nat.reduceBEq, reduceIte])) ?_
 intro h1 b1 n1 f1
 have b1 : Has h1 h.next [.str s.name, i64 s.addr, i64 s.bound] := b1
 (try simp only [wk, wl, wx, reduceLT, reduceEqDiff, Nat.reduceBEq, reduceIte])
 have ac1 := ac.fix f1 hib
 rw [eb] at ac1
 obtain ⟨c', hsl⟩ := slice_from (E := E g) (b := bk) (o := 0) (k := .i64) ty27 rfl (sizeOf_of ty5) bw (show l < x.bytes.length by omega)
 simp only [Nat.zero_add, Nat.mul_one] at hsl
 ((repeat refine WC.seq ?_); refine WC.draw (plans := pl93_1) (by kernel_rfl) ?_; simp only [pl93_1, List.mem_cons, List.not_mem_nil, or_false, forall_eq_or_imp, forall_eq])
 (try simp (maxSteps := 2000000) only [wk, wl, wx, reduceLT, reduceEqDiff, Nat.reduceBEq, reduceIte, wd, Chk, and_true, true_and, fa32_0, fa32_1, fa43_1, fa43_2, Nat.zero_add, ac1.at ty27 rfl (j := 1) (by simp), ac1.at ty2 rfl (j := 0) (by simp), b1.at ty2 rfl, i64, bin_sub, hl, hsl, conv_int ty2 ty194 rfl, wrapu64_U])
 refine (le_ok).mono fun v h2 ⟨e2, f2⟩ => ?_
 subst e2
 have x2 := f2.next
 have ac2 := ac1.fix f2 (by omega)
 have b2 := b1.fix f2 (by omega)
 (try simp (maxSteps := 2000000) only [wk, wl, wx, reduceLT, reduceEqDiff, Nat.reduceBEq, reduceIte, wd, Chk, and_true, true_and, fa32_0, fa32_1, fa43_1, fa43_2, Nat.zero_add, ac2.at ty27 rfl (j := 1) (by simp), ac2.at ty2 rfl (j := 0) (by simp), b2.at ty2 rfl, i64, bin_sub, hl, hsl, conv_int ty2 ty194 rfl, wrapu64_U])
 refine (put64_ok ((ba.fix f1 hbk).fix f2 (by omega)) (by omega) hl8 (by omega) (U_lt _)).mono fun v h3 ⟨a3, f3⟩ => ?_
 (try simp (maxSteps := 2000000) only [wk, wl, wx, reduceLT, reduceEqDiff, Nat.reduceBEq, reduceIte, wd, Chk, and_true, true_and])
 exact ⟨a3, ⟨by have := f3.next; omega, fun b hb => by rw [f3.same b ⟨by omega, hb.2⟩, f2.same b (by omega), f1.same b hb.1]⟩⟩
end Go.Proofs.OP

namespace Go.Ev
open Go
section
variable {E : Env}
def Mi (h : H) (b : Nat) (L : List Int) : Prop := ∃ es c, h.t.get b = some (.map es c) ∧ es.map (fun e => (e.1, e.2.1)) = L.map (fun p => (V.int .i64 p, V.bool true))
theorem Mi.fix {h h' : H} {K : Nat → Prop} {b : Nat} {L : List Int} (m : Mi h b L) (f : Fix K h h') (hb : K b) : Mi h' b L := by
 obtain ⟨es, c, h1, h2⟩ := m
 exact ⟨es, c, by rw [f.same b hb]; exact h1, h2⟩
section
variable {h : H} {b ty kt et : Nat} {L : List Int} {i ki ei : TI} {k : Int}
end
end
end Go.Ev

set_option linter.unusedSimpArgs false
namespace Go.Proofs.OP
open Go Go.Ev
open Go.Proofs
open Nat (reduceLT reduceEqDiff)
variable {g : T (List V)}

structure SmallI (x : ImgD) : Prop where
 head : 0 ≤ x.base ∧ x.base ≤ 2147483648 ∧ x.base.tmod 16 = 0 ∧ (x.bytes.length : Int) ≤ 131072 ∧ 0 ≤ x.code ∧ x.code ≤ x.bytes.length ∧ (x.entry = 0 ∨ (x.base ≤ x.entry ∧ x.entry < x.base + x.code)) ∧ (x.needs.length : Int) ≤ 400
 exps : x.exps.length ≤ 5000
 slots : x.slots.length ≤ 5000
 ename : ∀ s ∈ x.exps, s.name.length ≤ 64
 sname : ∀ s ∈ x.slots, s.name.length ≤ 64
 nname : ∀ s ∈ x.needs, s.length ≤ 64
 eaddr : ∀ s ∈ x.exps, x.base ≤ s.addr ∧ s.addr ≤ x.base + x.bytes.length
 saddr : ∀ s ∈ x.slots, x.base ≤ s.addr ∧ s.addr ≤ x.base + x.bytes.length - 8 ∧ 0 ≤ s.bound ∧ s.bound ≤ 4294967296
end Go.Proofs.OP

set_option linter.unusedSimpArgs false
namespace Go.Proofs.OP
open Go Go.Ev
open Go.Proofs
open Nat (reduceLT reduceEqDiff)
variable {g : T (List V)}

def Good (xs : List ImgD) : Prop := ∀ x ∈ xs, SmallI x
theorem Good.at {xs : List ImgD} (h : Good xs) {i : Nat} {x : ImgD} (hx : xs[i]? = some x) : SmallI x := h x (List.mem_of_getElem? hx)
theorem Good.exps {xs : List ImgD} (h : Good xs) : ∀ x ∈ xs, x.exps.length < 2 ^ 40 := fun x hx => by have := (h x hx).exps; omega
theorem Good.room {xs : List ImgD} (h : Good xs) {i k : Nat} {x : ImgD} (hx : xs[i]? = some x) (hk : k < x.slots.length) : x.base ≤ x.slots[k].addr ∧ x.slots[k].addr ≤ x.base + x.bytes.length - 8 ∧ 0 ≤ x.base ∧ x.base ≤ 2 ^ 32 ∧ x.bytes.length ≤ 2 ^ 32 := by
 have sm := h.at hx
 obtain ⟨a1, a2, -, a4, -⟩ := sm.head
 obtain ⟨b1, b2, -⟩ := sm.saddr _ (List.getElem_mem hk)
 exact ⟨b1, b2, a1, by omega, by omega⟩
theorem bindX_small {x : ImgD} (sm : SmallI x) {k : Nat} {a : Int} (ha : 0 ≤ a ∧ a ≤ 4294967296) : SmallI (bindX x k a) := by
 unfold bindX
 split
 ·exact sm
 ·rename_i s hs
  obtain ⟨hk, rfl⟩ := List.getElem?_eq_some_iff.1 hs
  have hm := List.getElem_mem hk
  obtain ⟨b1, b2, b3, b4⟩ := sm.saddr _ hm
  obtain ⟨a1, a2, a3, a4, a5, a6, a7, a8⟩ := sm.head
  have hl : (putAt x.bytes (x.slots[k].addr - x.base).toNat (leB (U a) 8)).length = x.bytes.length := putAt_length (by rw [leB_length]; omega)
  refine ⟨⟨a1, a2, a3, by show ((putAt x.bytes (x.slots[k].addr - x.base).toNat (leB (U a) 8)).length : Int) ≤ _; rw [hl]; exact a4, a5, by show _ ≤ ((putAt x.bytes (x.slots[k].addr - x.base).toNat (leB (U a) 8)).length : Int); rw [hl]; exact a6, a7, a8⟩, sm.exps, by simpa using sm.slots, sm.ename, fun s hs => ?_, sm.nname, fun s hs => by have := sm.eaddr s hs; show _ ∧ _ ≤ x.base + ((putAt _ _ _).length : Int); rw [hl]; exact this, fun s hs => ?_⟩
  ·rcases List.mem_or_eq_of_mem_set hs with q | rfl
   ·exact sm.sname s q
   ·show x.slots[k].name.length ≤ 64; exact sm.sname _ hm
  ·show _ ∧ _ ≤ x.base + ((putAt _ _ _).length : Int) - 8 ∧ _
   rw [hl]
   rcases List.mem_or_eq_of_mem_set hs with q | rfl
   ·exact sm.saddr s q
   ·exact ⟨b1, b2, ha.1, ha.2⟩
theorem Good.setB {xs : List ImgD} (h : Good xs) {i k : Nat} {a : Int} (ha : 0 ≤ a ∧ a ≤ 4294967296) : Good (setB xs i k a) := by
 unfold OP.setB
 split
 ·exact h
 ·rename_i x hx
  intro y hy
  rcases List.mem_or_eq_of_mem_set hy with q | rfl
  ·exact h y q
  ·exact bindX_small (h.at hx) ha
end Go.Proofs.OP

set_option linter.unusedSimpArgs false
namespace Go.Proofs.OP
open Go Go.Ev
open Go.Proofs
open Nat (reduceLT reduceEqDiff)
variable {g : T (List V)}

structure Ims (g : T (List V)) (h : H) (K : Nat → Prop) (s : V) (L : List (Ic × ImgD)) : Prop where
 sl : Rcs (E g) h 7 (fun p => p.1.cells p.2) s L
 ins : In K s
 im : ∀ p ∈ L, Im g h K p.1 p.2
theorem Ims.fix {h h' : H} {K K' : Nat → Prop} {s : V} {L : List (Ic × ImgD)} (a : Ims g h K s L) (f : Fix K' h h') (hs : ∀ b, K b → K' b) : Ims g h' K' s L :=
 ⟨Sl.fix a.sl (a.ins.sub hs) f, a.ins.sub hs, fun p hp => ((a.im p hp).fix f hs).up hs⟩
theorem Ims.up {h : H} {K K' : Nat → Prop} {s : V} {L : List (Ic × ImgD)} (a : Ims g h K s L) (hs : ∀ b, K b → K' b) : Ims g h K' s L :=
 ⟨a.sl, a.ins.sub hs, fun p hp => (a.im p hp).up hs⟩
end Go.Proofs.OP

set_option linter.unusedSimpArgs false
namespace Go.Proofs.OP
open Go Go.Ev
open Go.Proofs
open Nat (reduceLT reduceEqDiff)
variable {g : T (List V)}

def Sep (u v : V) : Prop := ∀ b o n c b' o' n' c', u = .slice b o n c → v = .slice b' o' n' c' → b ≠ b'
structure NewI (g : T (List V)) (h h' : H) (c : Ic) (x : ImgD) : Prop where
 im : Im g h' (· < h'.next) c x
 bw : Whole c.bytes x.bytes.length
 sw : Whole c.slots x.slots.length
 bi : In (fun b => h.next ≤ b) c.bytes
 si : In (fun b => h.next ≤ b) c.slots
 s1 : Sep c.bytes c.slots
 s2 : Sep c.bytes c.exps
 s3 : Sep c.bytes c.needs
 s4 : Sep c.slots c.exps
 s5 : Sep c.slots c.needs
theorem Sep.of {u v : V} {P Q : Nat → Prop} (a : In P u) (b : In Q v) (h : ∀ x, P x → Q x → False) : Sep u v := fun x o n c x' o' n' c' e e' q => by
 subst q; exact h _ (a _ _ _ _ e) (b _ _ _ _ e')

end Go.Proofs.OP

set_option linter.unusedSimpArgs false
namespace Go.Proofs.OP
open Go Go.Ev
open Go.Proofs
open Nat (reduceLT reduceEqDiff)
variable {g : T (List V)}

def blkOf : V → Option Nat
 | .slice b _ _ _ => some b
 | _ => none
section
variable {h h' : H} {lo hi pb sb : Nat} {sc : Cp} {tag : Nat → Nat} {cs : List Ic} {xs : List ImgD}
theorem PM.up (a : PM g h lo hi pb sb sc tag cs xs) {hi' : Nat} (h1 : hi ≤ hi') (h2 : hi' ≤ h.next) : PM g h lo hi' pb sb sc tag cs xs :=
 ⟨a.len, a.pos, a.has, ⟨a.pbt.1, Nat.lt_of_lt_of_le a.pbt.2.1 h1, a.pbt.2.2⟩, ⟨a.sbt.1, Nat.lt_of_lt_of_le a.sbt.2.1 h1, a.sbt.2.2⟩, a.scw, h2, a.blk, fun i c x q1 q2 => by
  have m := a.im i c x q1 q2
  exact ⟨m.im.up fun b hb => by omega, m.bw, m.sw, m.bt, m.st, m.et, m.nt⟩⟩
theorem imgCells_snoc {c : Ic} {x : ImgD} : ∀ {cs : List Ic} {xs : List ImgD}, cs.length = xs.length → imgCells (cs ++ [c]) (xs ++ [x]) = imgCells cs xs ++ c.cells x
 | [], [], _ => by simp [imgCells]
 | [], _ :: _, h => by simp at h
 | _ :: _, [], h => by simp at h
 | d :: cs, y :: xs, h => by
  have ih := imgCells_snoc (c := c) (x := x) (cs := cs) (xs := xs) (by simpa using h)
  unfold imgCells at *
  simp only [List.cons_append, List.zip_cons_cons, List.flatMap_cons, ih, List.append_assoc]
theorem PM.add {sb' : Nat} {sc' : Cp} {tag' : Nat → Nat} {c : Ic} {x : ImgD} (a : PM g h lo hi pb sb sc tag cs xs) {T : Nat} (hT : 2 * xs.length + 5 ≤ T)
  (f : Fix (fun b => b < hi ∧ tag b ≠ 1 ∧ tag b ≠ 2 ∧ tag b ≠ T) h h') (htag : ∀ b, b < hi → tag' b = tag b)
  (has' : Has h' pb [.slice sb' 0 (xs.length + 1) sc']) (scw' : sc' = .lit (xs.length + 1) ∨ sc' = .opn 0 0) (blk' : At h' sb' 0 (imgCells cs xs ++ c.cells x)) (sbt' : lo ≤ sb' ∧ sb' < h'.next ∧ tag' sb' = 2)
  (new : IM g h' lo h'.next tag' xs.length c x) : PM g h' lo h'.next pb sb' sc' tag' (cs ++ [c]) (xs ++ [x]) := by
 have p1 := a.pbt
 have hh := a.his
 have fx := f.next
 have hl := a.len
 refine ⟨by simp [hl], by simp, by simpa using has', ⟨p1.1, by omega, by rw [htag _ p1.2.1]; exact p1.2.2⟩, sbt', by simpa using scw', Nat.le_refl _, by rw [imgCells_snoc hl]; exact blk', fun i d y q1 q2 => ?_⟩
 by_cases hi1 : i < xs.length
 ·rw [List.getElem?_append_left (by omega)] at q1 q2
  have m := a.im i d y q1 q2
  have t1 : In (fun b => b < hi ∧ tag b ≠ 1 ∧ tag b ≠ 2 ∧ tag b ≠ T) d.bytes := fun b o n k e => by have := (m.bt _ _ _ _ e).2; exact ⟨m.im.inB _ _ _ _ e, by omega, by omega, by omega⟩
  have t2 : In (fun b => b < hi ∧ tag b ≠ 1 ∧ tag b ≠ 2 ∧ tag b ≠ T) d.exps := fun b o n k e => by have := m.et _ _ _ _ e; exact ⟨m.im.inX _ _ _ _ e, by omega, by omega, by omega⟩
  have t3 : In (fun b => b < hi ∧ tag b ≠ 1 ∧ tag b ≠ 2 ∧ tag b ≠ T) d.slots := fun b o n k e => by have := (m.st _ _ _ _ e).2; exact ⟨m.im.inS _ _ _ _ e, by omega, by omega, by omega⟩
  have t4 : In (fun b => b < hi ∧ tag b ≠ 1 ∧ tag b ≠ 2 ∧ tag b ≠ T) d.needs := fun b o n k e => by have := m.nt _ _ _ _ e; exact ⟨m.im.inN _ _ _ _ e, by omega, by omega, by omega⟩
  exact ⟨⟨Sl.fix m.im.bytes t1 f, Sl.fix m.im.exps t2 f, Sl.fix m.im.slots t3 f, Sl.fix m.im.needs t4 f, m.im.inB.sub fun b hb => by omega, m.im.inX.sub fun b hb => by omega, m.im.inS.sub fun b hb => by omega, m.im.inN.sub fun b hb => by omega⟩, m.bw, m.sw,
   fun b o n k e => by
    have q := htag _ (t1 _ _ _ _ e).1
    have q2 := m.bt _ _ _ _ e
    exact ⟨q2.1, q.trans q2.2⟩, fun b o n k e => by
    have q := htag _ (t3 _ _ _ _ e).1
    have q2 := m.st _ _ _ _ e
    exact ⟨q2.1, q.trans q2.2⟩,
   fun b o n k e => (htag _ (t2 _ _ _ _ e).1).trans (m.et _ _ _ _ e), fun b o n k e => (htag _ (t4 _ _ _ _ e).1).trans (m.nt _ _ _ _ e)⟩
 ·have hi2 : i = xs.length := by
   obtain ⟨q, _⟩ := List.getElem?_eq_some_iff.1 q2
   simp at q; omega
  subst hi2
  rw [List.getElem?_append_right (by omega), hl, Nat.sub_self] at q1
  rw [List.getElem?_append_right (Nat.le_refl _), Nat.sub_self] at q2
  injection q1 with q1
  injection q2 with q2
  subst q1 q2
  exact new
theorem PM.zip (a : PM g h lo hi pb sb sc tag cs xs) {p : Ic × ImgD} (hp : p ∈ cs.zip xs) : Im g h (· < hi) p.1 p.2 ∧ p.2 ∈ xs := by
 obtain ⟨i, hi', rfl⟩ := List.getElem_of_mem hp
 rw [List.length_zip] at hi'
 have q1 : cs[i]? = some cs[i] := List.getElem?_eq_getElem (by omega)
 have q2 : xs[i]? = some xs[i] := List.getElem?_eq_getElem (by omega)
 rw [List.getElem_zip]
 exact ⟨(a.im i _ _ q1 q2).im, List.getElem_mem (by omega)⟩
end
abbrev LSt := List Int × List ImgD
structure LInv (libs : List ImgD) (st : LSt) : Prop where
 len : st.1.length = st.2.length
 nod : st.1.Nodup
 rng : ∀ a ∈ st.1, a = -1 ∨ ∃ k : Nat, k < libs.length ∧ a = (k : Int)
 good : Good st.2
theorem nodup_le : ∀ (n : Nat) (L : List Nat), L.Nodup → (∀ x ∈ L, x < n) → L.length ≤ n
 | 0, L, _, h => by
  cases L with
  | nil => simp
  | cons x r => exact absurd (h x (List.mem_cons_self ..)) (Nat.not_lt_zero _)
 | n + 1, L, hn, h => by
  have h1 := nodup_le n (L.filter (· ≠ n)) (hn.sublist List.filter_sublist) fun x hx => by
   have := List.mem_filter.1 hx
   have h2 := h x this.1
   have h3 : x ≠ n := by simpa using this.2
   omega
  have h2 : L.length ≤ (L.filter (· ≠ n)).length + 1 := by
   clear h1 h
   induction L with
   | nil => simp
   | cons y r ih =>
    have hr := (List.nodup_cons.1 hn)
    by_cases hy : y = n
    ·subst hy
     have e : (y :: r).filter (· ≠ y) = r := by
      rw [List.filter_cons_of_neg (by simp)]
      exact List.filter_eq_self.2 fun z hz => by
       have : z ≠ y := fun q => hr.1 (q ▸ hz)
       simpa using this
     rw [e]; simp
    ·rw [List.filter_cons_of_pos (by simpa using hy)]
     have := ih hr.2
     simp only [List.length_cons]; omega
  omega
theorem LInv.bound {libs : List ImgD} {st : LSt} (i : LInv libs st) : st.2.length ≤ libs.length + 1 := by
 have h := nodup_le (libs.length + 1) (st.1.map fun a => (a + 1).toNat) (by
  have : ∀ (L : List Int), L.Nodup → (∀ a ∈ L, -1 ≤ a) → (L.map fun a => (a + 1).toNat).Nodup := fun L => by
   induction L with
   | nil => intro _ _; simp
   | cons x r ih =>
    intro hn hl
    obtain ⟨h1, h2⟩ := List.nodup_cons.1 hn
    rw [List.map_cons, List.nodup_cons]
    refine ⟨fun hm => ?_, ih h2 fun a ha => hl a (List.mem_cons_of_mem _ ha)⟩
    obtain ⟨y, hy, e⟩ := List.mem_map.1 hm
    have q1 := hl x (List.mem_cons_self ..)
    have q2 := hl y (List.mem_cons_of_mem _ hy)
    have : y = x := by omega
    exact h1 (this ▸ hy)
  refine this st.1 i.nod fun a ha => ?_
  rcases i.rng a ha with rfl | ⟨k, _, rfl⟩
  ·exact Int.le_refl _
  ·omega) fun x hx => by
   obtain ⟨a, ha, rfl⟩ := List.mem_map.1 hx
   rcases i.rng a ha with rfl | ⟨k, hk, rfl⟩
   ·simp
   ·omega
 rw [List.length_map, i.len] at h
 exact h
end Go.Proofs.OP
