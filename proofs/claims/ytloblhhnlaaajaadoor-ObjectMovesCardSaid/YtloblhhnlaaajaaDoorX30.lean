/- Load's memory: a program that grows, and the numbers of its images. -/
import Derived.Test.YtloblhhnlaaajaaDoorX15
import Derived.Test.YtloblhhnlaaajaaDoorX29
import Derived.Test.YtloblhhnlaaajaaDoorX21
import Derived.Test.YtloblhhnlaaajaaDoorX23
import Derived.Test.YtloblhhnlaaajaaDoorX19
import Derived.Test.YtloblhhnlaaajaaDoorX28
import Derived.Test.YtloblhhnlaaajaaDoorX24
set_option linter.unusedVariables false
set_option linter.unusedSimpArgs false
set_option linter.defProp false
set_option linter.unusedSimpArgs false
namespace Go.Proofs.OP
open Go Go.Ev
open Go.Proofs
open Nat (reduceLT reduceEqDiff)
variable {g : T (List V)}

theorem _root_.Go.Ev.In.blk {K : Nat → Prop} {v : V} (a : In K v) {b : Nat} (h : blkOf v = some b) : K b := by
 cases v <;> simp only [blkOf, Option.some.injEq, reduceCtorEq] at h
 subst h; exact a _ _ _ _ rfl
theorem _root_.Go.Ev.In.of_blk {K : Nat → Prop} {v : V} (a : ∀ b, blkOf v = some b → K b) : In K v := fun b o n c e => a b (by subst e; rfl)
theorem Sep.blk {u v : V} (a : Sep u v) {b c : Nat} (h : blkOf u = some b) (h' : blkOf v = some c) : b ≠ c := by
 cases u <;> simp only [blkOf, Option.some.injEq, reduceCtorEq] at h
 cases v <;> simp only [blkOf, Option.some.injEq, reduceCtorEq] at h'
 subst h h'; exact a _ _ _ _ _ _ _ _ rfl rfl
def TT : Nat := 1000000
structure LM (g : T (List V)) (el q : Nat) (X : Nat → Prop) (h : H) (lo pb sb : Nat) (sc : Cp) (tag : Nat → Nat) (cs : List Ic) (st : LSt) (av : V) : Prop where
 pm : PM g h lo h.next pb sb sc tag cs st.2
 buf : Buf (E g) h el 7 (.slice sb 0 st.2.length sc) st.2.length (imgCells cs st.2)
 abuf : Buf (E g) h 3 1 av st.1.length (st.1.map i64)
 ain : In (fun b => lo ≤ b ∧ b < h.next ∧ tag b = TT) av
 z : ∀ b, b < lo → b ≠ q → tag b = 0
 zq : q < lo ∧ tag q = TT + 1
 xx : ∀ c ∈ cs, In X c.exps ∧ In X c.needs
section
variable {el q : Nat} {X : Nat → Prop} {h h' : H} {lo pb sb : Nat} {sc : Cp} {tag : Nat → Nat} {cs : List Ic} {st : LSt} {av : V}
theorem LM.kept (a : LM g el q X h lo pb sb sc tag cs st av) (f : Kept h h') : LM g el q X h' lo pb sb sc tag cs st av := by
 have fx := f.next
 have p1 := a.pm.pbt
 have p2 := a.pm.sbt
 refine ⟨(a.pm.kept f).up fx (Nat.le_refl _), a.buf.fix (K := (· < h.next)) (fun b o n c e => by injection e with e; omega) f, a.abuf.fix (K := (· < h.next)) (a.ain.sub fun b hb => hb.2.1) f, a.ain.sub fun b hb => ⟨hb.1, by omega, hb.2.2⟩, a.z, a.zq, a.xx⟩
theorem LM.next (a : LM g el q X h lo pb sb sc tag cs st av) (hn : st.2.length ≤ 100) {hz : H} {c' : Ic} {y : ImgD} {k : Int} {sb' : Nat} {sc' : Cp} {av' : V} {p1 p2 : Nat}
  (f : Fix (fun b => b < h.next ∧ b ≠ pb ∧ b ≠ sb ∧ blkOf av ≠ some b) h hz) (hp1 : h.next ≤ p1) (hp2 : p1 ≤ p2) (hp3 : p2 ≤ hz.next)
  (im : Im g hz (· < hz.next) c' y) (bw : Whole c'.bytes y.bytes.length) (sw : Whole c'.slots y.slots.length)
  (i1 : In (fun b => h.next ≤ b ∧ b < p1) c'.bytes) (i2 : In (fun b => h.next ≤ b ∧ b < p1) c'.slots)
  (i3 : In (fun b => (b < lo ∧ b ≠ q) ∨ (h.next ≤ b ∧ b < p1)) c'.exps) (i4 : In (fun b => (b < lo ∧ b ≠ q) ∨ (h.next ≤ b ∧ b < p1)) c'.needs)
  (s1 : Sep c'.bytes c'.slots) (s2 : Sep c'.bytes c'.exps) (s3 : Sep c'.bytes c'.needs) (s4 : Sep c'.slots c'.exps) (s5 : Sep c'.slots c'.needs)
  (bf : Buf (E g) hz el 7 (.slice sb' 0 (st.2.length + 1) sc') (st.2.length + 1) (imgCells cs st.2 ++ c'.cells y)) (i5 : sb' = sb ∨ (p1 ≤ sb' ∧ sb' < p2))
  (ab : Buf (E g) hz 3 1 av' (st.1.length + 1) (st.1.map i64 ++ [i64 k])) (i6 : In (fun b => blkOf av = some b ∨ (p2 ≤ b ∧ b < hz.next)) av') (hs : Has hz pb [.slice sb' 0 (st.2.length + 1) sc']) (hX : In X c'.exps ∧ In X c'.needs) :
  ∃ tag', LM g el q X hz lo pb sb' sc' tag' (cs ++ [c']) (st.1 ++ [k], st.2 ++ [y]) av' ∧ (∀ b, b < h.next → tag' b = tag b) := by
 have q1 := a.pm.pbt
 have q2 := a.pm.sbt
 have q3 := a.pm.his
 have hl := a.pm.len
 have qa : ∀ b, blkOf av = some b → lo ≤ b ∧ b < h.next ∧ tag b = TT := fun b e => a.ain.blk e
 have hlo : lo ≤ h.next := by omega
 let tag' : Nat → Nat := fun b => if b < h.next then tag b else if blkOf c'.bytes = some b then 2 * st.2.length + 3 else if blkOf c'.slots = some b then 2 * st.2.length + 4 else if b = sb' then 2 else if blkOf av' = some b then TT else 0
 have t0 : ∀ b, b < h.next → tag' b = tag b := fun b hb => if_pos hb
 have t1 : ∀ b, blkOf c'.bytes = some b → tag' b = 2 * st.2.length + 3 := fun b e => by
  have := i1.blk e
  show (if b < h.next then tag b else _) = _
  rw [if_neg (by omega), if_pos e]
 have t2 : ∀ b, blkOf c'.slots = some b → tag' b = 2 * st.2.length + 4 := fun b e => by
  have := i2.blk e
  show (if b < h.next then tag b else _) = _
  rw [if_neg (by omega), if_neg (fun e' => s1.blk e' e rfl), if_pos e]
 have t3 : tag' sb' = 2 := by
  show (if sb' < h.next then tag sb' else _) = _
  rcases i5 with rfl | q
  ·rw [if_pos q2.2.1]; exact q2.2.2
  ·rw [if_neg (by omega), if_neg (fun e' => by have := i1.blk e'; omega), if_neg (fun e' => by have := i2.blk e'; omega), if_pos rfl]
 have t4 : ∀ b, blkOf av' = some b → tag' b = TT := fun b e => by
  rcases i6.blk e with q | q
  ·have := qa b q
   rw [t0 b this.2.1]; exact this.2.2
  ·show (if b < h.next then tag b else _) = _
   rw [if_neg (by omega), if_neg (fun e' => by have := i1.blk e'; omega), if_neg (fun e' => by have := i2.blk e'; omega), if_neg (by rcases i5 with rfl | r <;> omega), if_pos e]
 have t5 : ∀ b, ((b < lo ∧ b ≠ q) ∨ (h.next ≤ b ∧ b < p1)) → blkOf c'.bytes ≠ some b → blkOf c'.slots ≠ some b → tag' b = 0 := fun b hb e1 e2 => by
  rcases hb with r | r
  ·rw [t0 b (by omega)]; exact a.z b r.1 r.2
  ·show (if b < h.next then tag b else _) = _
   rw [if_neg (by omega), if_neg e1, if_neg e2, if_neg (by rcases i5 with rfl | r <;> omega), if_neg (fun e' => by rcases i6.blk e' with r | r; (have := qa b r; omega); omega)]
 have at' : At hz sb' 0 (imgCells cs st.2 ++ c'.cells y) := bf.sl.block (c := 0) (by omega)
 refine ⟨tag', ⟨a.pm.add (T := TT) (by show _ ≤ 1000000; omega) (f.sub fun b hb => ⟨hb.1, fun e => hb.2.1 (by rw [e]; exact q1.2.2), fun e => hb.2.2.1 (by rw [e]; exact q2.2.2), fun e => hb.2.2.2 (qa b e).2.2⟩) t0 hs ?_ at' ⟨?_, ?_, t3⟩
  ⟨im, bw, sw, ?_, ?_, ?_, ?_⟩, ?_, ?_, ?_, fun b hb hq => by rw [t0 b (by omega)]; exact a.z b hb hq, ⟨a.zq.1, by rw [t0 q (by have := a.zq; omega)]; exact a.zq.2⟩, fun d hd => by
  rcases List.mem_append.1 hd with r | r
  ·exact a.xx d r
  ·rw [List.mem_singleton] at r; subst r; exact hX⟩, t0⟩
 ·rcases bf.whole with q | ⟨b, c, q, r⟩
  ·cases q
  ·injection q with _ _ _ q; subst q; exact r
 ·rcases i5 with rfl | q <;> omega
 ·rcases i5 with rfl | q <;> omega
 ·exact Go.Ev.In.of_blk fun b e => ⟨by have := i1.blk e; omega, t1 b e⟩
 ·exact Go.Ev.In.of_blk fun b e => ⟨by have := i2.blk e; omega, t2 b e⟩
 ·exact Go.Ev.In.of_blk fun b e => t5 b (i3.blk e) (fun e' => s2.blk e' e rfl) (fun e' => s4.blk e' e rfl)
 ·exact Go.Ev.In.of_blk fun b e => t5 b (i4.blk e) (fun e' => s3.blk e' e rfl) (fun e' => s5.blk e' e rfl)
 ·show Buf (E g) hz el 7 (.slice sb' 0 (st.2 ++ [y]).length sc') (st.2 ++ [y]).length (imgCells (cs ++ [c']) (st.2 ++ [y]))
  rw [imgCells_snoc hl, List.length_append]; exact bf
 ·show Buf (E g) hz 3 1 av' (st.1 ++ [k]).length ((st.1 ++ [k]).map i64)
  rw [List.map_append, List.length_append]; exact ab
 ·exact Go.Ev.In.of_blk fun b e => ⟨by rcases i6.blk e with q | q; (have := qa b q; omega); omega, by rcases i6.blk e with q | q; (have := qa b q; omega); omega, t4 b e⟩
end
section
variable {el q : Nat} {X : Nat → Prop} {h : H} {lo pb sb : Nat} {sc : Cp} {tag : Nat → Nat} {cs : List Ic} {st : LSt} {av : V}
theorem LM.fin (a : LM g el q X h lo pb sb sc tag cs st av) (hn : st.2.length ≤ 100) {hx hy h1 h2 hz : H} {c' : Ic} {y : ImgD} {k : Int} {sb' : Nat} {sc' : Cp} {av' : V}
  (e0 : h.next ≤ hx.next) (nw : NewI g hx hy c' y) (i3 : In (fun b => (b < lo ∧ b ≠ q) ∨ hx.next ≤ b) c'.exps) (i4 : In (fun b => (b < lo ∧ b ≠ q) ∨ hx.next ≤ b) c'.needs)
  (F : Fix (fun b => b < h.next) h hy) (e1 : hx.next ≤ hy.next) (f1 : Fix (fun b => b < hy.next ∧ b ≠ sb) hy h1) (f2 : Fix (fun b => b < h1.next ∧ blkOf av ≠ some b) h1 h2) (f3 : Fix (· ≠ pb) h2 hz)
  (bf : Buf (E g) h1 el 7 (.slice sb' 0 (st.2.length + 1) sc') (st.2.length + 1) (imgCells cs st.2 ++ c'.cells y)) (i5 : sb' = sb ∨ (hy.next ≤ sb' ∧ sb' < h1.next))
  (ab : Buf (E g) h2 3 1 av' (st.1.length + 1) (st.1.map i64 ++ [i64 k])) (i6 : In (fun b => blkOf av = some b ∨ (h1.next ≤ b ∧ b < h2.next)) av') (hs : Has hz pb [.slice sb' 0 (st.2.length + 1) sc']) (hX : In X c'.exps ∧ In X c'.needs) :
  ∃ tag', LM g el q X hz lo pb sb' sc' tag' (cs ++ [c']) (st.1 ++ [k], st.2 ++ [y]) av' ∧ (∀ b, b < h.next → tag' b = tag b) ∧ Fix (fun b => b < h.next ∧ (tag b = 0 ∨ tag b = TT + 1)) h hz := by
 have q1 := a.pm.pbt
 have q2 := a.pm.sbt
 have x0 := F.next
 have x1 := f1.next
 have x2 := f2.next
 have x3 := f3.next
 have qa : ∀ b, blkOf av = some b → lo ≤ b ∧ b < h.next ∧ tag b = TT := fun b e => a.ain.blk e
 have hT : TT = 1000000 := rfl
 have G : Fix (fun b => b < h.next ∧ b ≠ pb ∧ b ≠ sb ∧ blkOf av ≠ some b) h hz := ⟨by omega, fun b hb => by rw [f3.same b hb.2.1, f2.same b ⟨by omega, hb.2.2.2⟩, f1.same b ⟨by omega, hb.2.2.1⟩, F.same b hb.1]⟩
 have Gy : Fix (fun b => b < hy.next ∧ (b < lo ∨ hx.next ≤ b)) hy hz := ⟨by omega, fun b hb => by
  have e1 : b ≠ pb := by omega
  have e2 : b ≠ sb := by omega
  have e3 : blkOf av ≠ some b := fun e => by have := qa b e; omega
  rw [f3.same b e1, f2.same b ⟨by omega, e3⟩, f1.same b ⟨by omega, e2⟩]⟩
 obtain ⟨tag', l, t⟩ := a.next hn (hz := hz) (c' := c') (y := y) (k := k) (sb' := sb') (sc' := sc') (av' := av') (p1 := hy.next) (p2 := h1.next) G (by omega) x1 (by omega)
  ⟨Sl.fix nw.im.bytes (K := fun b => b < hy.next ∧ (b < lo ∨ hx.next ≤ b)) (fun b o n c e => ⟨nw.im.inB _ _ _ _ e, .inr (nw.bi _ _ _ _ e)⟩) Gy,
   Sl.fix nw.im.exps (K := fun b => b < hy.next ∧ (b < lo ∨ hx.next ≤ b)) (fun b o n c e => ⟨nw.im.inX _ _ _ _ e, (i3 _ _ _ _ e).imp And.left id⟩) Gy,
   Sl.fix nw.im.slots (K := fun b => b < hy.next ∧ (b < lo ∨ hx.next ≤ b)) (fun b o n c e => ⟨nw.im.inS _ _ _ _ e, .inr (nw.si _ _ _ _ e)⟩) Gy,
   Sl.fix nw.im.needs (K := fun b => b < hy.next ∧ (b < lo ∨ hx.next ≤ b)) (fun b o n c e => ⟨nw.im.inN _ _ _ _ e, (i4 _ _ _ _ e).imp And.left id⟩) Gy,
   nw.im.inB.sub fun b hb => by omega, nw.im.inX.sub fun b hb => by omega, nw.im.inS.sub fun b hb => by omega, nw.im.inN.sub fun b hb => by omega⟩
  nw.bw nw.sw (fun b o n c e => ⟨by have := nw.bi _ _ _ _ e; omega, nw.im.inB _ _ _ _ e⟩) (fun b o n c e => ⟨by have := nw.si _ _ _ _ e; omega, nw.im.inS _ _ _ _ e⟩)
  (fun b o n c e => by have := i3 _ _ _ _ e; have := nw.im.inX _ _ _ _ e; omega) (fun b o n c e => by have := i4 _ _ _ _ e; have := nw.im.inN _ _ _ _ e; omega)
  nw.s1 nw.s2 nw.s3 nw.s4 nw.s5
  ((bf.fix (K := fun b => b < h1.next ∧ blkOf av ≠ some b) (fun b o n c e => by
   injection e with e; subst e
   refine ⟨by rcases i5 with rfl | q <;> omega, fun e => ?_⟩
   have := qa _ e
   rcases i5 with rfl | q <;> omega) f2).fix (K := (· ≠ pb)) (fun b o n c e => by
   injection e with e; subst e
   rcases i5 with rfl | q
   ·intro e; rw [e] at q2; omega
   ·show _ ≠ _; omega) f3) i5
  (ab.fix (K := (· ≠ pb)) (fun b o n c e e' => by
   rcases i6 _ _ _ _ e with q | q
   ·have := qa _ q; rw [e'] at this; omega
   ·omega) f3) (i6.sub fun b hb => hb.imp id fun q => by omega) hs hX
 exact ⟨tag', l, t, G.sub fun b hb => ⟨hb.1, fun e => by rw [e] at hb; omega, fun e => by rw [e] at hb; omega, fun e => by have := qa _ e; omega⟩⟩
end
theorem PM.low {h : H} {lo lo' hi pb sb : Nat} {sc : Cp} {tag : Nat → Nat} {cs : List Ic} {xs : List ImgD} (a : PM g h lo hi pb sb sc tag cs xs) (hl : lo' ≤ lo) : PM g h lo' hi pb sb sc tag cs xs :=
 ⟨a.len, a.pos, a.has, ⟨by have := a.pbt; omega, a.pbt.2⟩, ⟨by have := a.sbt; omega, a.sbt.2⟩, a.scw, a.his, a.blk, fun i c x q1 q2 => by
  have m := a.im i c x q1 q2
  exact ⟨m.im, m.bw, m.sw, m.bt.sub fun b hb => ⟨by omega, hb.2⟩, m.st.sub fun b hb => ⟨by omega, hb.2⟩, m.et, m.nt⟩⟩
theorem LM.zz {el q : Nat} {X : Nat → Prop} {h : H} {lo pb sb : Nat} {sc : Cp} {tag : Nat → Nat} {cs : List Ic} {st : LSt} {av : V} (a : LM g el q X h lo pb sb sc tag cs st av) {b : Nat} (hb : b < lo) : tag b = 0 ∨ tag b = TT + 1 :=
 if e : b = q then .inr (e ▸ a.zq.2) else .inl (a.z b hb e)
end Go.Proofs.OP

set_option linter.unusedSimpArgs false
namespace Go.Proofs.OP
open Go Go.Ev
open Go.Proofs
open Nat (reduceLT reduceEqDiff)
variable {g : T (List V)}

theorem Ic.one {c : Ic} {x : ImgD} {h : H} {K : Nat → Prop} (im : Im g h K c x) : (c.cells x).all V.one = true := by
 simp only [Ic.cells, List.all_cons, List.all_nil, (Sl.one im.bytes).2, (Sl.one im.exps).2, (Sl.one im.slots).2, (Sl.one im.needs).2, Bool.and_true]; rfl
end Go.Proofs.OP

set_option linter.unusedSimpArgs false
namespace Go.Proofs.OP
open Go Go.Ev
open Go.Proofs
open Nat (reduceLT reduceEqDiff)
variable {g : T (List V)}

structure LdM (g : T (List V)) (h : H) (K : Nat → Prop) (c : Ic) (ls ns : V) (x : ImgD) (L : List (Ic × ImgD)) (N : List (List UInt8)) : Prop where
 im : Im g h K c x
 ims : Ims g h K ls L
 nms : Ss g h ns N
 nin : In K ns
theorem LdM.fix {h h' : H} {K K' : Nat → Prop} {c : Ic} {ls ns : V} {x : ImgD} {L : List (Ic × ImgD)} {N : List (List UInt8)} (a : LdM g h K c ls ns x L N) (f : Fix K' h h') (hs : ∀ b, K b → K' b) : LdM g h' K c ls ns x L N :=
 ⟨a.im.fix f hs, ⟨Sl.fix a.ims.sl (a.ims.ins.sub hs) f, a.ims.ins, fun p hp => (a.ims.im p hp).fix f hs⟩, Sl.fix a.nms (a.nin.sub hs) f, a.nin⟩
theorem LdM.up {h : H} {K K' : Nat → Prop} {c : Ic} {ls ns : V} {x : ImgD} {L : List (Ic × ImgD)} {N : List (List UInt8)} (a : LdM g h K c ls ns x L N) (hs : ∀ b, K b → K' b) : LdM g h K' c ls ns x L N :=
 ⟨a.im.up hs, a.ims.up hs, a.nms, a.nin.sub hs⟩
theorem take_all {α : Type} {P : α → Bool} {L : List α} {i : Nat} (hi : i < L.length) : (L.take (i + 1)).all P = ((L.take i).all P && P L[i]) := by
 rw [List.take_succ_eq_append_getElem hi, List.all_append, List.all_cons, List.all_nil, Bool.and_true]
theorem all_no {α : Type} {P : α → Bool} {L : List α} {i : Nat} (hi : i < L.length) (h : P L[i] = false) : L.all P = false := by
 rw [Bool.eq_false_iff]
 intro e
 have := List.all_eq_true.1 e _ (List.getElem_mem hi)
 rw [h] at this; cases this
theorem flat_app1 {α : Type} {f : α → List V} {A : List α} {x : α} : (A ++ [x]).flatMap f = A.flatMap f ++ f x := by
 rw [List.flatMap_append]; simp
end Go.Proofs.OP
