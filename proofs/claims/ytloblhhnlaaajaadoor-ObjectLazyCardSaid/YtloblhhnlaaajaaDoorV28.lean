/- Walks: programs in memory; a slot is bound. -/
import Derived.Test.YtloblhhnlaaajaaDoorV15
import Derived.Test.YtloblhhnlaaajaaDoorV27
import Derived.Test.YtloblhhnlaaajaaDoorV17
import Derived.Test.YtloblhhnlaaajaaDoorV24
import Derived.Test.YtloblhhnlaaajaaDoorV16
set_option linter.unusedVariables false
set_option linter.unusedSimpArgs false
set_option linter.defProp false
set_option linter.unusedSimpArgs false
namespace Go.Proofs.OP
open Go Go.Ev
open Go.Proofs
open Nat (reduceLT reduceEqDiff)
variable {g : T (List V)}

theorem sat_storeB {E : Env} {h : H} {b ty p : Nat} {vs : List V} {v : V} {Q : V → H → Prop} (a : At h b 0 vs) {i : TI} (ht : E.tys.get ty = some i) (hl : v.cells.length = i.size) (hp : p + i.size ≤ vs.length) (h1 : v.cells.all V.one = true) (h0 : 0 < i.size)
  (k : ∀ h', At h' b 0 (over vs p v.cells) → h'.next = h.next → Fix (· ≠ b) h h' → Q un h') : Sat1 (rh (storeP E h ty (.ptr b p) v)) Q := by
 have := sat_storeA (p := p) a ht hl hp h1 h0 k
 rwa [Nat.zero_add] at this
theorem _root_.Go.Ev.At.part0 {h : H} {b : Nat} {vs : List V} (a : At h b 0 vs) {p q : Nat} (hq : p + q ≤ vs.length) : At h b p ((vs.drop p).take q) := by
 have := a.part hq
 rwa [Nat.zero_add] at this

structure IM (g : T (List V)) (h : H) (lo hi : Nat) (tag : Nat → Nat) (i : Nat) (c : Ic) (x : ImgD) : Prop where
 im : Im g h (· < hi) c x
 bw : Whole c.bytes x.bytes.length
 sw : Whole c.slots x.slots.length
 bt : In (fun b => lo ≤ b ∧ tag b = 2 * i + 3) c.bytes
 st : In (fun b => lo ≤ b ∧ tag b = 2 * i + 4) c.slots
 et : In (fun b => tag b = 0) c.exps
 nt : In (fun b => tag b = 0) c.needs
def imgCells (cs : List Ic) (xs : List ImgD) : List V := (cs.zip xs).flatMap fun p => p.1.cells p.2
structure PM (g : T (List V)) (h : H) (lo hi pb sb : Nat) (sc : Cp) (tag : Nat → Nat) (cs : List Ic) (xs : List ImgD) : Prop where
 len : cs.length = xs.length
 pos : 0 < xs.length
 has : Has h pb [.slice sb 0 xs.length sc]
 pbt : lo ≤ pb ∧ pb < hi ∧ tag pb = 1
 sbt : lo ≤ sb ∧ sb < hi ∧ tag sb = 2
 scw : sc = .lit xs.length ∨ sc = .opn 0 0
 his : hi ≤ h.next
 blk : At h sb 0 (imgCells cs xs)
 im : ∀ i c x, cs[i]? = some c → xs[i]? = some x → IM g h lo hi tag i c x
theorem imgCells_length {cs : List Ic} {xs : List ImgD} (h : cs.length = xs.length) : (imgCells cs xs).length = xs.length * 7 := by
 unfold imgCells
 rw [flat_length' (sz := 7) (fun p => rfl), List.length_zip, h, Nat.min_self]
theorem imgCells_at {cs : List Ic} {xs : List ImgD} {i : Nat} {c : Ic} {x : ImgD} (hc : cs[i]? = some c) (hx : xs[i]? = some x) : ((imgCells cs xs).drop (i * 7)).take 7 = c.cells x := by
 obtain ⟨h1, h1'⟩ := List.getElem?_eq_some_iff.1 hc
 obtain ⟨h2, h2'⟩ := List.getElem?_eq_some_iff.1 hx
 unfold imgCells
 rw [flat_at' (sz := 7) (fun p => rfl) (k := i) (by rw [List.length_zip]; omega), List.getElem_zip, h1', h2']
theorem Ic.ext_cells {c : Ic} {x y : ImgD} (h1 : x.base = y.base) (h2 : x.code = y.code) (h3 : x.entry = y.entry) : c.cells x = c.cells y := by
 unfold Ic.cells; rw [h1, h2, h3]
section
variable {h h' : H} {lo hi pb sb : Nat} {sc : Cp} {tag : Nat → Nat} {cs : List Ic} {xs : List ImgD}
theorem IM.fix {i : Nat} {c : Ic} {x : ImgD} (a : IM g h lo hi tag i c x) (f : Fix (· < hi) h h') : IM g h' lo hi tag i c x :=
 ⟨a.im.fix f fun _ h => h, a.bw, a.sw, a.bt, a.st, a.et, a.nt⟩
theorem PM.fix (a : PM g h lo hi pb sb sc tag cs xs) (f : Fix (· < hi) h h') : PM g h' lo hi pb sb sc tag cs xs :=
 ⟨a.len, a.pos, a.has.fix f a.pbt.2.1, a.pbt, a.sbt, a.scw, Nat.le_trans a.his f.next, a.blk.fix f a.sbt.2.1, fun i c x h1 h2 => (a.im i c x h1 h2).fix f⟩
theorem PM.kept (a : PM g h lo hi pb sb sc tag cs xs) (f : Kept h h') : PM g h' lo hi pb sb sc tag cs xs := a.fix (f.sub fun b hb => Nat.lt_of_lt_of_le hb a.his)
theorem PM.cell (a : PM g h lo hi pb sb sc tag cs xs) {i : Nat} {c : Ic} {x : ImgD} (hc : cs[i]? = some c) (hx : xs[i]? = some x) : At h sb (i * 7) [i64 x.base, c.bytes, i64 x.code, i64 x.entry, c.exps, c.slots, c.needs] := by
 obtain ⟨h2, _⟩ := List.getElem?_eq_some_iff.1 hx
 have := a.blk.part0 (p := i * 7) (q := 7) (by rw [imgCells_length a.len]; omega)
 rw [imgCells_at hc hx] at this
 exact this
theorem PM.sl (a : PM g h lo hi pb sb sc tag cs xs) : Sl (E g) h 7 (.slice sb 0 xs.length sc) xs.length (imgCells cs xs) := a.blk.slice (imgCells_length a.len) (Whole.cap a.scw)
theorem PM.ic (a : PM g h lo hi pb sb sc tag cs xs) {i : Nat} (hi : i < xs.length) : ∃ c, cs[i]? = some c := ⟨cs[i]'(by rw [a.len]; exact hi), List.getElem?_eq_getElem _⟩
end

def setS (s : SlotD) (a : Int) : SlotD := ⟨s.name, s.addr, a⟩
def bindX (x : ImgD) (k : Nat) (a : Int) : ImgD := match x.slots[k]? with
 | none => x
 | some s => { x with slots := x.slots.set k (setS s a), bytes := putAt x.bytes (s.addr - x.base).toNat (leB (U a) 8) }
def setB (xs : List ImgD) (i k : Nat) (a : Int) : List ImgD := match xs[i]? with
 | none => xs
 | some x => xs.set i (bindX x k a)
theorem setB_length (xs : List ImgD) (i k : Nat) (a : Int) : (setB xs i k a).length = xs.length := by
 unfold setB; split
 ·rfl
 ·simp
theorem imgCells_set {cs : List Ic} {xs : List ImgD} {i : Nat} {y : ImgD} (h : ∀ x, xs[i]? = some x → y.base = x.base ∧ y.code = x.code ∧ y.entry = x.entry) : imgCells cs (xs.set i y) = imgCells cs xs := by
 unfold imgCells
 induction cs generalizing xs i with
 | nil => simp
 | cons c cs ih =>
  cases xs with
  | nil => simp
  | cons x xs =>
   cases i with
   | zero =>
    obtain ⟨e1, e2, e3⟩ := h x rfl
    simp only [List.set_cons_zero, List.zip_cons_cons, List.flatMap_cons, Ic.ext_cells e1 e2 e3]
   | succ i =>
    simp only [List.set_cons_succ, List.zip_cons_cons, List.flatMap_cons]
    rw [ih (fun x hx => h x (by simpa using hx))]
theorem over_mid {A B : List V} {x y z v : V} {n : Nat} (hA : A.length = n) : over (A ++ x :: y :: z :: B) (n + 2) [v] = A ++ x :: y :: v :: B := by
 have e1 : (A ++ x :: y :: z :: B).take (n + 2) = A ++ [x, y] := by
  rw [show A ++ x :: y :: z :: B = (A ++ [x, y]) ++ z :: B by simp, List.take_left' (by simp; omega)]
 have e2 : (A ++ x :: y :: z :: B).drop (n + 2 + [v].length) = B := by
  rw [show A ++ x :: y :: z :: B = (A ++ [x, y, z]) ++ B by simp, List.drop_left' (by simp; omega)]
 unfold over
 rw [e1, e2]; simp
theorem slots_set {L : List SlotD} {k : Nat} (hk : k < L.length) (a : Int) : over (L.flatMap slotV) (k * 3 + 2) [i64 a] = (L.set k (setS L[k] a)).flatMap slotV := by
 have e1 : L = L.take k ++ L[k] :: L.drop (k + 1) := by rw [← List.drop_eq_getElem_cons hk, List.take_append_drop]
 have e2 : L.set k (setS L[k] a) = L.take k ++ setS L[k] a :: L.drop (k + 1) := by rw [List.set_eq_take_append_cons_drop, if_pos hk]
 rw [e2]
 conv => lhs; rw [e1]
 rw [List.flatMap_append, List.flatMap_cons, List.flatMap_append, List.flatMap_cons]
 have hA : ((L.take k).flatMap slotV).length = k * 3 := by rw [flat_length' slotV_length, List.length_take, Nat.min_eq_left (by omega)]
 exact over_mid hA
theorem PM.set {h h' : H} {lo hi pb sb : Nat} {sc : Cp} {tag : Nat → Nat} {cs : List Ic} {xs : List ImgD} (a : PM g h lo hi pb sb sc tag cs xs) {i k : Nat} {c : Ic} {x : ImgD} {ad : Int} (hc : cs[i]? = some c) (hx : xs[i]? = some x) (hk : k < x.slots.length)
  {sk bk : Nat} {sn bn : Cp} (es : c.slots = .slice sk 0 x.slots.length sn) (eb : c.bytes = .slice bk 0 x.bytes.length bn) (f : Fix (fun b => b < h.next ∧ b ≠ sk ∧ b ≠ bk) h h')
  (sa : At h' sk 0 ((x.slots.set k (setS x.slots[k] ad)).flatMap slotV)) (ba : At h' bk 0 ((putAt x.bytes (x.slots[k].addr - x.base).toNat (leB (U ad) 8)).map u8)) (hl : (x.slots[k].addr - x.base).toNat + 8 ≤ x.bytes.length) :
  PM g h' lo hi pb sb sc tag cs (setB xs i k ad) := by
 have hh := a.his
 have mi := a.im i c x hc hx
 obtain ⟨s1, s2⟩ := mi.st _ _ _ _ es
 obtain ⟨b1, b2⟩ := mi.bt _ _ _ _ eb
 have hset : setB xs i k ad = xs.set i (bindX x k ad) := by unfold setB; rw [hx]
 have hb : bindX x k ad = { x with slots := x.slots.set k (setS x.slots[k] ad), bytes := putAt x.bytes (x.slots[k].addr - x.base).toNat (leB (U ad) 8) } := by
  unfold bindX; rw [List.getElem?_eq_getElem hk]
 have hbl : (bindX x k ad).bytes.length = x.bytes.length := by rw [hb]; exact putAt_length (by rw [leB_length]; exact hl)
 have hsl : (bindX x k ad).slots.length = x.slots.length := by rw [hb]; simp
 have hcells : imgCells cs (setB xs i k ad) = imgCells cs xs := by
  rw [hset]
  refine imgCells_set fun z hz => ?_
  rw [hx] at hz; injection hz with hz; subst hz
  rw [hb]; exact ⟨rfl, rfl, rfl⟩
 have n1 := a.pbt
 have n2 := a.sbt
 have ntg : ∀ b, tag b ≠ 2 * i + 4 → tag b ≠ 2 * i + 3 → b < hi → (b < h.next ∧ b ≠ sk ∧ b ≠ bk) := fun b h1 h2 h3 => ⟨by omega, fun e => h1 (e ▸ s2), fun e => h2 (e ▸ b2)⟩
 refine ⟨by rw [setB_length]; exact a.len, by rw [setB_length]; exact a.pos, ?_, a.pbt, a.sbt, by rw [setB_length]; exact a.scw, Nat.le_trans hh f.next, ?_, ?_⟩
 ·rw [setB_length]
  exact a.has.fix f (ntg _ (by omega) (by omega) n1.2.1)
 ·rw [hcells]
  exact a.blk.fix f (ntg _ (by omega) (by omega) n2.2.1)
 ·intro j cj xj hcj hxj
  rw [hset] at hxj
  by_cases hji : j = i
  ·subst hji
   rw [hc] at hcj; injection hcj with hcj; subst hcj
   obtain ⟨hlt, _⟩ := List.getElem?_eq_some_iff.1 hx
   rw [List.getElem?_set_self hlt] at hxj
   injection hxj with hxj
   subst hxj
   have q1 : Bs g h' c.bytes (bindX x k ad).bytes := by
    rw [eb]
    have := ba.slice (E := E g) (sz := 1) (n := x.bytes.length) (cc := bn) (by rw [List.length_map, putAt_length (by rw [leB_length]; exact hl), Nat.mul_one]) (by
     rcases mi.bw with q | ⟨_, _, q, q'⟩
     ·rw [eb] at q; cases q
     ·rw [eb] at q; injection q with _ _ _ q; subst q; exact Whole.cap q')
    show Sl (E g) h' 1 _ (bindX x k ad).bytes.length _
    rw [hbl, hb]
    exact this
   have q2 : Bi g h' c.slots (bindX x k ad).slots := by
    rw [es]
    have := sa.slice (E := E g) (sz := 3) (n := x.slots.length) (cc := sn) (by rw [flat_length' slotV_length, List.length_set]) (by
     rcases mi.sw with q | ⟨_, _, q, q'⟩
     ·rw [es] at q; cases q
     ·rw [es] at q; injection q with _ _ _ q; subst q; exact Whole.cap q')
    show Sl (E g) h' 3 _ (bindX x k ad).slots.length _
    rw [hsl, hb]
    exact this
   have q3 : (bindX x k ad).exps = x.exps := by rw [hb]
   have q4 : (bindX x k ad).needs = x.needs := by rw [hb]
   refine ⟨⟨q1, ?_, q2, ?_, mi.im.inB, mi.im.inX, mi.im.inS, mi.im.inN⟩, by rw [hbl]; exact mi.bw, by rw [hsl]; exact mi.sw, mi.bt, mi.st, mi.et, mi.nt⟩
   ·rw [q3]
    exact Sl.fix mi.im.exps (K := fun b => b < h.next ∧ b ≠ sk ∧ b ≠ bk) (fun b o n kk e => ntg b (by have := mi.et _ _ _ _ e; omega) (by have := mi.et _ _ _ _ e; omega) (mi.im.inX _ _ _ _ e)) f
   ·rw [q4]
    exact Sl.fix mi.im.needs (K := fun b => b < h.next ∧ b ≠ sk ∧ b ≠ bk) (fun b o n kk e => ntg b (by have := mi.nt _ _ _ _ e; omega) (by have := mi.nt _ _ _ _ e; omega) (mi.im.inN _ _ _ _ e)) f
  ·rw [List.getElem?_set_ne (Ne.symm hji)] at hxj
   have mj := a.im j cj xj hcj hxj
   exact ⟨⟨Sl.fix mj.im.bytes (K := fun b => b < h.next ∧ b ≠ sk ∧ b ≠ bk) (fun b o n kk e => ntg b (by have := (mj.bt _ _ _ _ e).2; omega) (by have := (mj.bt _ _ _ _ e).2; omega) (mj.im.inB _ _ _ _ e)) f,
    Sl.fix mj.im.exps (K := fun b => b < h.next ∧ b ≠ sk ∧ b ≠ bk) (fun b o n kk e => ntg b (by have := mj.et _ _ _ _ e; omega) (by have := mj.et _ _ _ _ e; omega) (mj.im.inX _ _ _ _ e)) f,
    Sl.fix mj.im.slots (K := fun b => b < h.next ∧ b ≠ sk ∧ b ≠ bk) (fun b o n kk e => ntg b (by have := (mj.st _ _ _ _ e).2; omega) (by have := (mj.st _ _ _ _ e).2; omega) (mj.im.inS _ _ _ _ e)) f,
    Sl.fix mj.im.needs (K := fun b => b < h.next ∧ b ≠ sk ∧ b ≠ bk) (fun b o n kk e => ntg b (by have := mj.nt _ _ _ _ e; omega) (by have := mj.nt _ _ _ _ e; omega) (mj.im.inN _ _ _ _ e)) f,
    mj.im.inB, mj.im.inX, mj.im.inS, mj.im.inN⟩, mj.bw, mj.sw, mj.bt, mj.st, mj.et, mj.nt⟩
end Go.Proofs.OP

set_option linter.unusedSimpArgs false
namespace Go.Proofs.OP
open Go Go.Ev
open Go.Proofs
open Nat (reduceLT reduceEqDiff)
variable {g : T (List V)}

theorem bin_pnil {h : H} {c : Bool} {b o : Nat} : binV (E g) h c .eql 45 (.ptr b o) .nilp = some (.bool false) := by
 simp only [binV, eqV, ty45, Option.map_some]
theorem not_one_nil {c : V} {n : Nat} (w : Whole c n) {h : H} {sz : Nat} {vs : List V} (a : Sl (E g) h sz c n vs) (hn : 0 < n) : ∃ b k, c = .slice b 0 n k ∧ (k = .lit n ∨ k = .opn 0 0) := by
 rcases w with rfl | q
 ·have := a.len
  simp only [lenV] at this
  injection this with this; omega
 ·exact q
set_option maxRecDepth 100000 in
set_option maxHeartbeats 4000000 in
theorem pimage_ok {h : H} {lo hi pb sb : Nat} {sc : Cp} {tag : Nat → Nat} {cs : List Ic} {xs : List ImgD} {n : Int} (a : PM g h lo hi pb sb sc tag cs xs) (hx : xs.length < 2 ^ 40) :
  WF (E g) 40 [.ptr pb 0, .int .i64 n] h fun v h' => h' = h ∧ v = (if 0 ≤ n ∧ n < xs.length then .tuple [.ptr sb (n.toNat * 7), .int .i64 0] else .tuple [.nilp, .int .i64 34]) := by
 have l0 : loadP (E g) h 108 (.ptr pb 0) = some (.slice sb 0 xs.length sc) := a.has.at ty108 rfl 0
 have hlen := Sl.lenB a.sl ty108 rfl h
 refine WF.enter fn40 rfl ?_
 ((repeat refine WC.seq ?_); refine WC.run ?_)
 (try simp only [wk, wl, wx, reduceLT, reduceEqDiff, Nat.reduceBEq, reduceIte])
 (repeat refine WC.seq ?_)
 refine WC.mono (Q := fun e fr hh => hh = h ∧ ((0 ≤ n ∧ n < xs.length) ∧ e = .normal ∧ (∃ ts, fr = ⟨ts, 27, [], 40, none⟩ ∧ ts.get 0 = some (.ptr pb 0) ∧ ts.get 1 = some (.int .i64 n)) ∨ ¬ (0 ≤ n ∧ n < xs.length) ∧ e = .ret ∧ (∃ ts, fr = ⟨ts, 27, [], 40, none⟩ ∧ ts.get 4 = some .nilp ∧ ts.get 5 = some (.int .i64 34)))) (WC.block ?_) ?_
 ·((repeat refine WC.seq ?_); refine WC.run ?_)
  (try simp only [wk, wl, wx, reduceLT, reduceEqDiff, Nat.reduceBEq, reduceIte, bin_pnil])
  (repeat refine WC.seq ?_)
  refine WC.cond (b := false) (by (try simp only [wk, wl, wx, reduceLT, reduceEqDiff, Nat.reduceBEq, reduceIte]); (try simp); (try omega)) ?_
  (try simp only [wk, wl, wx, reduceLT, reduceEqDiff, Nat.reduceBEq, reduceIte])
  ((repeat refine WC.seq ?_); refine WC.run ?_)
  by_cases h1 : n < 0
  ·(try simp only [wk, wl, wx, reduceLT, reduceEqDiff, Nat.reduceBEq, reduceIte, decide_eq_true h1, un])
   (repeat refine WC.seq ?_)
   refine WC.cond (b := true) (by (try simp only [wk, wl, wx, reduceLT, reduceEqDiff, Nat.reduceBEq, reduceIte]); (try simp); (try omega)) ?_
   (try simp only [wk, wl, wx, reduceLT, reduceEqDiff, Nat.reduceBEq, reduceIte])
   ((repeat refine WC.seq ?_); refine WC.run ?_)
   (try simp only [wk, wl, wx, reduceLT, reduceEqDiff, Nat.reduceBEq, reduceIte])
   refine WC.ret ?_
   (try simp only [wk, wl, wx, reduceLT, reduceEqDiff, Nat.reduceBEq, reduceIte])
   refine ⟨by trivial, .inr ⟨by omega, by trivial, _, rfl, ?_, ?_⟩⟩
   all_goals (try simp only [wk, wl, wx, reduceLT, reduceEqDiff, Nat.reduceBEq, reduceIte])
  ·(try simp only [wk, wl, wx, reduceLT, reduceEqDiff, Nat.reduceBEq, reduceIte, decide_eq_false h1, un, fa110_0, l0, hlen])
   by_cases h2 : (xs.length : Int) ≤ n
   ·(repeat refine WC.seq ?_)
    refine WC.cond (b := true) (by (try simp only [wk, wl, wx, reduceLT, reduceEqDiff, Nat.reduceBEq, reduceIte]); (try simp); (try omega)) ?_
    (try simp only [wk, wl, wx, reduceLT, reduceEqDiff, Nat.reduceBEq, reduceIte])
    ((repeat refine WC.seq ?_); refine WC.run ?_)
    (try simp only [wk, wl, wx, reduceLT, reduceEqDiff, Nat.reduceBEq, reduceIte])
    refine WC.ret ?_
    (try simp only [wk, wl, wx, reduceLT, reduceEqDiff, Nat.reduceBEq, reduceIte])
    refine ⟨by trivial, .inr ⟨by omega, by trivial, _, rfl, ?_, ?_⟩⟩
    all_goals (try simp only [wk, wl, wx, reduceLT, reduceEqDiff, Nat.reduceBEq, reduceIte])
   ·(repeat refine WC.seq ?_)
    refine WC.cond (b := false) (by (try simp only [wk, wl, wx, reduceLT, reduceEqDiff, Nat.reduceBEq, reduceIte]); (try simp); (try omega)) ?_
    (try simp only [wk, wl, wx, reduceLT, reduceEqDiff, Nat.reduceBEq, reduceIte])
    refine WC.skip ?_
    (try simp only [wk, wl, wx, reduceLT, reduceEqDiff, Nat.reduceBEq, reduceIte])
    refine ⟨by trivial, .inl ⟨by omega, by trivial, _, rfl, ?_, ?_⟩⟩
    all_goals (try simp only [wk, wl, wx, reduceLT, reduceEqDiff, Nat.reduceBEq, reduceIte])
 ·rintro e fr hh ⟨rfl, ⟨hn, rfl, ts, rfl, t0, t1⟩ | ⟨hn, rfl, ts, rfl, t4, t5⟩⟩
  ·obtain ⟨k, rfl⟩ : ∃ k : Nat, n = (k : Int) := ⟨n.toNat, by omega⟩
   (try simp only [wk, wl, wx, reduceLT, reduceEqDiff, Nat.reduceBEq, reduceIte])
   ((repeat refine WC.seq ?_); refine WC.run ?_)
   (try simp only [wk, wl, wx, reduceLT, reduceEqDiff, Nat.reduceBEq, reduceIte, t0, t1, fa110_0, l0, idx_slice ty108 rfl ty32 (show k < xs.length by omega), Nat.zero_add])
   refine WC.ret ?_
   (try simp only [wk, wl, wx, reduceLT, reduceEqDiff, Nat.reduceBEq, reduceIte])
   refine ⟨by trivial, ?_⟩
   rw [if_pos hn]; rfl
  ·(try simp only [wk, wl, wx, reduceLT, reduceEqDiff, Nat.reduceBEq, reduceIte, t4, t5])
   refine ⟨by trivial, ?_⟩
   rw [if_neg hn]
set_option maxRecDepth 100000 in
set_option maxHeartbeats 4000000 in
theorem bind_ok {h : H} {ib q bk : Nat} {bn : Cp} {c : Ic} {x : ImgD} {s : SlotD} {l : Nat} (ac : At h ib q [i64 x.base, c.bytes, i64 x.code, i64 x.entry, c.exps, c.slots, c.needs]) (hib : ib < h.next) (eb : c.bytes = .slice bk 0 x.bytes.length bn) (bw : bn = .lit x.bytes.length ∨ bn = .opn 0 0)
  (ba : At h bk 0 (x.bytes.map u8)) (hbk : bk < h.next) (hl : IntKind.i64.wrap (s.addr - x.base) = (l : Int)) (hl8 : l + 8 ≤ x.bytes.length) :
  WF (E g) 93 [.ptr ib q, .agg (slotV s)] h fun _ h' => At h' bk 0 ((putAt x.bytes l (leB (U s.bound) 8)).map u8) ∧ Fix (fun b => b < h.next ∧ b ≠ bk) h h' := by
 refine WF.enter fn93 rfl ?_
 ((repeat refine WC.seq ?_); refine WC.run ?_)
 (try simp only [wk, wl, wx, reduceLT, reduceEqDiff, Nat.reduceBEq, reduceIte])
 refine wop_box (v := .agg (slotV s)) (by (try simp only [wk, wl, wx, reduceLT, reduceEqDiff, Nat.reduceBEq, reduceIte])) ?_
 intro h1 b1 n1 f1
 have b1 : Has h1 h.next [.str s.name, i64 s.addr, i64 s.bound] := b1
 (try simp only [wk, wl, wx, reduceLT, reduceEqDiff, Nat.reduceBEq, reduceIte])
 have ac1 := ac.fix f1 hib
 rw [eb] at ac1
 obtain ⟨c', hsl⟩ := slice_from (E := E g) (b := bk) (o := 0) (k := .i64) ty27 rfl (sizeOf_of ty5) bw (show l < x.bytes.length by omega)
 simp only [Nat.zero_add, Nat.mul_one] at hsl
 ((repeat refine WC.seq ?_); refine WC.draw (plans := pl93_1) (by kernel_rfl) ?_; simp only [pl93_1, List.mem_cons, List.not_mem_nil, or_false, forall_eq_or_imp, forall_eq])
 (try simp (maxSteps := 2000000) only [wk, wl, wx, reduceLT, reduceEqDiff, Nat.reduceBEq, reduceIte, wd, Chk, and_true, true_and, fa32_0, fa32_1, fa43_1, fa43_2, Nat.zero_add, ac1.at ty27 rfl (j := 1) (by simp), ac1.at ty2 rfl (j := 0) (by simp), b1.at ty2 rfl, i64, bin_sub, hl, hsl, conv_int ty2 ty194 rfl, wrapu64_U])
 refine (le_ok).mono fun v h2 ⟨e2, f2⟩ => ?_
 subst e2
 have x2 := f2.next
 have ac2 := ac1.fix f2 (by omega)
 have b2 := b1.fix f2 (by omega)
 (try simp (maxSteps := 2000000) only [wk, wl, wx, reduceLT, reduceEqDiff, Nat.reduceBEq, reduceIte, wd, Chk, and_true, true_and, fa32_0, fa32_1, fa43_1, fa43_2, Nat.zero_add, ac2.at ty27 rfl (j := 1) (by simp), ac2.at ty2 rfl (j := 0) (by simp), b2.at ty2 rfl, i64, bin_sub, hl, hsl, conv_int ty2 ty194 rfl, wrapu64_U])
 refine (put64_ok ((ba.fix f1 hbk).fix f2 (by omega)) (by omega) hl8 (by omega) (U_lt _)).mono fun v h3 ⟨a3, f3⟩ => ?_
 (try simp (maxSteps := 2000000) only [wk, wl, wx, reduceLT, reduceEqDiff, Nat.reduceBEq, reduceIte, wd, Chk, and_true, true_and])
 exact ⟨a3, ⟨by have := f3.next; omega, fun b hb => by rw [f3.same b ⟨by omega, hb.2⟩, f2.same b (by omega), f1.same b hb.1]⟩⟩
set_option maxRecDepth 100000 in
set_option maxHeartbeats 4000000 in
theorem set_ok {h : H} {lo hi pb sb : Nat} {sc : Cp} {tag : Nat → Nat} {cs : List Ic} {xs : List ImgD} (a : PM g h lo hi pb sb sc tag cs xs) {i k : Nat} {c : Ic} {x : ImgD} {ad : Int} (hc : cs[i]? = some c) (hx : xs[i]? = some x) (hk : k < x.slots.length)
  (hr : x.base ≤ x.slots[k].addr ∧ x.slots[k].addr ≤ x.base + x.bytes.length - 8 ∧ 0 ≤ x.base ∧ x.base ≤ 2 ^ 32 ∧ x.bytes.length ≤ 2 ^ 32) :
  WF (E g) 43 [.ptr sb (i * 7), .int .i64 k, .int .i64 ad] h fun _ h' => PM g h' lo hi pb sb sc tag cs (setB xs i k ad) ∧ Fix (fun b => b < h.next ∧ ¬ (lo ≤ b ∧ b < hi)) h h' := by
 have mi := a.im i c x hc hx
 have hh := a.his
 have hsb := a.sbt
 obtain ⟨sk, sn, es, sw⟩ := not_one_nil mi.sw mi.im.slots (by omega)
 obtain ⟨bk, bn, eb, bw⟩ := not_one_nil mi.bw mi.im.bytes (by omega)
 obtain ⟨s1, s2⟩ := mi.st _ _ _ _ es
 obtain ⟨b1, b2⟩ := mi.bt _ _ _ _ eb
 have s3 := mi.im.inS _ _ _ _ es
 have b3 := mi.im.inB _ _ _ _ eb
 have hsb1 : sb ≠ sk := fun e => by rw [e] at hsb; omega
 have hsb2 : sb ≠ bk := fun e => by rw [e] at hsb; omega
 have hsbk : sk ≠ bk := fun e => by rw [e] at s2; omega
 have ac := a.cell hc hx
 have sa : At h sk 0 (x.slots.flatMap slotV) := by
  have := mi.im.slots
  rw [es] at this
  exact this.block (c := 0) (by omega)
 have ba : At h bk 0 (x.bytes.map u8) := by
  have := mi.im.bytes
  rw [eb] at this
  exact this.block (c := 0) (by omega)
 have acs := ac
 rw [es] at acs
 refine WF.enter fn43 rfl ?_
 ((repeat refine WC.seq ?_); refine WC.run ?_)
 (try simp only [wk, wl, wx, reduceLT, reduceEqDiff, Nat.reduceBEq, reduceIte, fa32_5, acs.at ty29 rfl (j := 5) (by simp), idx_slice ty29 rfl ty43 hk, Nat.zero_add, fa43_2])
 refine sat_storeB (p := k * 3 + 2) (v := .int .i64 ad) sa ty2 rfl (by rw [flat_length' slotV_length]; show k * 3 + 2 + 1 ≤ _; omega) rfl (by decide) ?_
 intro h1 sa1 n1 f1
 have sa1 : At h1 sk 0 ((x.slots.set k (setS x.slots[k] ad)).flatMap slotV) := by
  rw [← slots_set hk ad]; exact sa1
 have acs1 := acs.fix f1 hsb1
 have ac1 := ac.fix f1 hsb1
 have ba1 := ba.fix f1 (Ne.symm hsbk)
 have hset : (x.slots.set k (setS x.slots[k] ad))[k]? = some (setS x.slots[k] ad) := List.getElem?_set_self hk
 have hl : ((x.slots.set k (setS x.slots[k] ad)).flatMap slotV).length = x.slots.length * 3 := by rw [flat_length' slotV_length, List.length_set]
 have sl1 : loadP (E g) h1 43 (.ptr sk (k * 3)) = some (.agg (slotV (setS x.slots[k] ad))) := by
  have := sa1.part0 (p := k * 3) (q := 3) (by rw [hl]; omega)
  rw [flat_at' slotV_length (k := k) (by rw [List.length_set]; exact hk), List.getElem_set_self] at this
  exact this.agg ty43 rfl rfl
 (try simp only [wk, wl, wx, reduceLT, reduceEqDiff, Nat.reduceBEq, reduceIte])
 ((repeat refine WC.seq ?_); refine WC.run ?_)
 (try simp only [wk, wl, wx, reduceLT, reduceEqDiff, Nat.reduceBEq, reduceIte, fa32_5, acs1.at ty29 rfl (j := 5) (by simp), idx_slice ty29 rfl ty43 hk, Nat.zero_add, sl1])
 refine (bind_ok (x := x) (s := setS x.slots[k] ad) (l := (x.slots[k].addr - x.base).toNat) ac1 (by omega) eb bw ba1 (by omega) (by
   show IntKind.i64.wrap (x.slots[k].addr - x.base) = _
   rw [wrap64 (by omega) (by omega)]; omega) (by omega)).mono fun v h2 ⟨ba2, f2⟩ => ?_
 have x2 := f2.next
 (try simp only [wk, wl, wx, reduceLT, reduceEqDiff, Nat.reduceBEq, reduceIte])
 refine ⟨a.set hc hx hk es eb ⟨by omega, fun b hb => by rw [f2.same b ⟨by omega, hb.2.2⟩, f1.same b hb.2.1]⟩ (sa1.fix f2 ⟨by omega, hsbk⟩) ba2 (by omega), ⟨by omega, fun b hb => by rw [f2.same b ⟨by omega, fun e => by omega⟩, f1.same b (fun e => by omega)]⟩⟩
end Go.Proofs.OP
