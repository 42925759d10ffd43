/- Walks: reloc, Contains. -/
import Derived.Test.YtloblhhnlaaajaaDoorV15
import Derived.Test.YtloblhhnlaaajaaDoorV16
set_option linter.unusedVariables false
set_option linter.unusedSimpArgs false
set_option linter.defProp false
set_option linter.unusedSimpArgs false
namespace Go.Proofs.OP
open Go Go.Ev
open Go.Proofs
open Nat (reduceLT reduceEqDiff)
variable {g : T (List V)}

theorem indexS_ok {h : H} {s : V} {L : List (List UInt8)} {k : List UInt8} (a : Ss g h s L) (hM : L.length < 2 ^ 62) :
  WF (E g) 103 [s, .str k] h fun v h' => (∃ n : Int, v = .int .i64 n ∧ decide (0 ≤ n) = L.contains k) ∧ h' = h := by
 refine WF.enter fn103 rfl ?_
 ((repeat refine WC.seq ?_); refine WC.run ?_)
 (try simp only [wk, wl, wx, reduceLT, reduceEqDiff, Nat.reduceBEq, reduceIte])
 ((repeat refine WC.seq ?_); refine WC.run ?_)
 (try simp only [wk, wl, wx, reduceLT, reduceEqDiff, Nat.reduceBEq, reduceIte, Sl.lenB a ty30 rfl])
 (repeat refine WC.seq ?_)
 refine WC.block ?_
 refine WC.while (fun m fr hh => ∃ ts i, fr = ⟨ts, 19, [], 103, none⟩ ∧ hh = h ∧ m = L.length - i ∧ i ≤ L.length ∧ ts.get 0 = some s ∧ ts.get 1 = some (.str k) ∧ ts.get 7 = some (.int .i64 L.length) ∧ ts.get 8 = some (.int .i64 i) ∧ (L.take i).contains k = false) ?_ ⟨_, 0, rfl, rfl, rfl, by omega, ?_, ?_, ?_, ?_, ?_⟩
 ·rintro m fr hh ⟨ts, i, rfl, rfl, rfl, hi, t0, t1, t7, t8, hno⟩
  ((repeat refine WC.seq ?_); refine WC.run ?_)
  (try simp only [wk, wl, wx, reduceLT, reduceEqDiff, Nat.reduceBEq, reduceIte, t7, t8])
  (repeat refine WC.seq ?_)
  by_cases hlt : i < L.length
  ·refine WC.cond (b := true) (by (try simp only [wk, wl, wx, reduceLT, reduceEqDiff, Nat.reduceBEq, reduceIte]); (try simp); (try omega)) (WC.skip ?_)
   (try simp only [wk, wl, wx, reduceLT, reduceEqDiff, Nat.reduceBEq, reduceIte])
   obtain ⟨p, p1, p2⟩ := a.at ty30 rfl ty9 rfl rfl hlt
   have p2 := p2 hh fun _ _ _ _ _ => rfl
   (repeat refine WC.seq ?_)
   refine WC.block ?_
   ((repeat refine WC.seq ?_); refine WC.run ?_)
   (try simp only [wk, wl, wx, reduceLT, reduceEqDiff, Nat.reduceBEq, reduceIte, t8])
   ((repeat refine WC.seq ?_); refine WC.run ?_)
   (try simp only [wk, wl, wx, reduceLT, reduceEqDiff, Nat.reduceBEq, reduceIte, t0, t1, p1, p2, bin_seql])
   (repeat refine WC.seq ?_)
   cases hb : (k == L[i]) with
   | true =>
    refine WC.cond (b := true) (by (try simp only [wk, wl, wx, reduceLT, reduceEqDiff, Nat.reduceBEq, reduceIte, hb]); (try simp); (try omega)) ?_
    ((repeat refine WC.seq ?_); refine WC.run ?_)
    (try simp only [wk, wl, wx, reduceLT, reduceEqDiff, Nat.reduceBEq, reduceIte])
    refine WC.ret ?_
    (try simp only [wk, wl, wx, reduceLT, reduceEqDiff, Nat.reduceBEq, reduceIte])
    refine ⟨⟨_, rfl, ?_⟩, by trivial⟩
    have : L.contains k = true := by
     rw [List.contains_iff_mem, eq_of_beq hb]
     exact List.getElem_mem hlt
    rw [this]; simp
   | false =>
    refine WC.cond (b := false) (by (try simp only [wk, wl, wx, reduceLT, reduceEqDiff, Nat.reduceBEq, reduceIte, hb]); (try simp); (try omega)) (WC.skip ?_)
    (try simp only [wk, wl, wx, reduceLT, reduceEqDiff, Nat.reduceBEq, reduceIte])
    ((repeat refine WC.seq ?_); refine WC.run ?_)
    (try simp only [wk, wl, wx, reduceLT, reduceEqDiff, Nat.reduceBEq, reduceIte, t8, bin_add])
    refine ⟨_, ?_, _, i + 1, rfl, by trivial, rfl, by omega, ?_⟩
    ·omega
    (try simp only [wk, wl, wx, reduceLT, reduceEqDiff, Nat.reduceBEq, reduceIte, t0, t1, t7])
    refine ⟨trivial, trivial, trivial, ?_, ?_⟩
    ·rw [wrap64 (by omega) (by omega)]; rfl
    ·rw [List.take_succ_eq_append_getElem hlt, List.contains_eq_any_beq, List.any_append, ← List.contains_eq_any_beq, hno]
     simp only [List.any_cons, List.any_nil, Bool.or_false, Bool.false_or, hb]
  ·refine WC.cond (b := false) (by (try simp only [wk, wl, wx, reduceLT, reduceEqDiff, Nat.reduceBEq, reduceIte]); (try simp); (try omega)) (WC.exit ?_)
   have : i = L.length := by omega
   subst this
   (try simp only [wk, wl, wx, reduceLT, reduceEqDiff, Nat.reduceBEq, reduceIte])
   ((repeat refine WC.seq ?_); refine WC.run ?_)
   (try simp only [wk, wl, wx, reduceLT, reduceEqDiff, Nat.reduceBEq, reduceIte])
   rw [List.take_length] at hno
   refine WC.ret ?_
   (try simp only [wk, wl, wx, reduceLT, reduceEqDiff, Nat.reduceBEq, reduceIte])
   exact ⟨⟨_, rfl, by rw [hno]; rfl⟩, by trivial⟩
 all_goals (try simp only [wk, wl, wx, reduceLT, reduceEqDiff, Nat.reduceBEq, reduceIte])
 all_goals simp
theorem containsS_ok {h : H} {s : V} {L : List (List UInt8)} {k : List UInt8} (a : Ss g h s L) (hM : L.length < 2 ^ 62) :
  WF (E g) 83 [s, .str k] h fun v h' => v = .bool (L.contains k) ∧ h' = h := by
 refine WF.enter fn83 rfl ?_
 ((repeat refine WC.seq ?_); refine WC.run ?_)
 (try simp only [wk, wl, wx, reduceLT, reduceEqDiff, Nat.reduceBEq, reduceIte])
 ((repeat refine WC.seq ?_); refine WC.run ?_)
 (try simp only [wk, wl, wx, reduceLT, reduceEqDiff, Nat.reduceBEq, reduceIte])
 refine (indexS_ok a hM).mono fun v h1 ⟨⟨n, e, hk⟩, f1⟩ => ?_
 subst e f1
 (try simp only [wk, wl, wx, reduceLT, reduceEqDiff, Nat.reduceBEq, reduceIte])
 (repeat refine WC.seq ?_)
 refine WC.ret ?_
 (try simp only [wk, wl, wx, reduceLT, reduceEqDiff, Nat.reduceBEq, reduceIte])
 exact ⟨by rw [hk], by trivial⟩
end Go.Proofs.OP

set_option linter.unusedSimpArgs false
namespace Go.Proofs.OP
open Go Go.Ev
open Go.Proofs
open Nat (reduceLT reduceEqDiff)
variable {g : T (List V)}

abbrev Is (g : T (List V)) (h : H) (s : V) (L : List Int) : Prop := Vs (E g) h i64 s L
def Wr (g : T (List V)) (h : H) (S : Nat → Prop) (wb : Nat) (xs : List UInt8) : Prop := ∃ s, Has h wb [s] ∧ BufB g h s xs ∧ In (fun b => S b ∧ b ≠ wb ∧ b < h.next) s
theorem Wr.sub {h : H} {S S' : Nat → Prop} {wb : Nat} {xs : List UInt8} (w : Wr g h S wb xs) (hs : ∀ b, b < h.next → S b → S' b) : Wr g h S' wb xs := by
 obtain ⟨s, a1, a2, a3⟩ := w
 exact ⟨s, a1, a2, a3.sub fun b hb => ⟨hs b hb.2.2 hb.1, hb.2.1, hb.2.2⟩⟩
theorem Wr.fix {h h' : H} {S K : Nat → Prop} {wb : Nat} {xs : List UInt8} (w : Wr g h S wb xs) (f : Fix K h h') (hw : K wb) (hs : ∀ b, b < h.next → S b → K b) : Wr g h' S wb xs := by
 obtain ⟨s, a1, a2, a3⟩ := w
 exact ⟨s, a1.fix f hw, a2.fix (K := K) (a3.sub fun b hb => hs b hb.2.2 hb.1) f, a3.sub fun b hb => ⟨hb.1, hb.2.1, Nat.lt_of_lt_of_le hb.2.2 f.next⟩⟩
def numB (L : List Int) : List UInt8 := L.flatMap fun n => leB (U n) 8
end Go.Proofs.OP

set_option linter.unusedSimpArgs false
namespace Go.Proofs.OP
open Go Go.Ev
open Go.Proofs
open Nat (reduceLT reduceEqDiff)
variable {g : T (List V)}

def txtB (L : List (List UInt8)) : List UInt8 := L.flatMap fun s => leB s.length 8 ++ s
end Go.Proofs.OP

set_option linter.unusedSimpArgs false
namespace Go.Proofs.OP
open Go Go.Ev
open Go.Proofs
open Nat (reduceLT reduceEqDiff)
variable {g : T (List V)}

theorem E_globs : (E g).globs = g := by unfold E envOf4; rfl
def bitsI (a b : Bool) : Int := (if a then 1 else 0) + (if b then 2 else 0)
end Go.Proofs.OP

set_option linter.unusedSimpArgs false
namespace Go.Proofs.OP
open Go Go.Ev
open Go.Proofs
open Nat (reduceLT reduceEqDiff)
variable {g : T (List V)}

theorem E_eqs : (E g).eqs = es := by unfold E envOf4; rfl
theorem Bs.from {h : H} {s : V} {xs : List UInt8} (a : Bs g h s xs) {n : Nat} (hn : n ≤ xs.length) :
  ∃ s', sliceV (E g) 27 s (some (.int .i64 n)) none none = some s' ∧ Bs g h s' (xs.drop n) ∧ (∀ K, In K s → In K s') := by
 obtain ⟨s', h1, h2, h3, _⟩ := Sl.sub a ty27 rfl (sizeOf_of ty5) (lo := some n) (hi := none) (l := n) (r := xs.length) rfl rfl hn (Nat.le_refl _)
 refine ⟨s', h1, ?_, h3⟩
 have e : (xs.drop n).length = xs.length - n := by simp
 unfold Bs
 rw [e, List.map_drop]
 have e2 : ((xs.map u8).drop (n * 1)).take ((xs.length - n) * 1) = (xs.map u8).drop n := by
  rw [Nat.mul_one, Nat.mul_one, List.take_of_length_le (by simp)]
 rw [e2] at h2
 exact h2
theorem Bs.part {h : H} {s : V} {xs : List UInt8} (a : Bs g h s xs) {l r : Nat} (h1 : l ≤ r) (h2 : r ≤ xs.length) :
  ∃ s', sliceV (E g) 27 s (some (.int .i64 l)) (some (.int .i64 r)) none = some s' ∧ Bs g h s' ((xs.take r).drop l) ∧ (∀ K, In K s → In K s') := by
 obtain ⟨s', e1, e2, e3, _⟩ := Sl.sub a ty27 rfl (sizeOf_of ty5) (lo := some l) (hi := some r) (l := l) (r := r) rfl rfl h1 h2
 refine ⟨s', e1, ?_, e3⟩
 have e : ((xs.take r).drop l).length = r - l := by simp; omega
 unfold Bs
 rw [e, List.map_drop, List.map_take, List.drop_take]
 simpa using e2

structure RdS where
 xs : List UInt8
 bad : Bool
def Rd (g : T (List V)) (h : H) (K : Nat → Prop) (rb : Nat) (s : RdS) : Prop := ∃ bs, Has h rb [bs, .bool s.bad] ∧ Bs g h bs s.xs ∧ In K bs
theorem Rd.fix {h h' : H} {K K' : Nat → Prop} {rb : Nat} {s : RdS} (r : Rd g h K rb s) (f : Fix K' h h') (hrb : K' rb) (hK : ∀ b, K b → K' b) : Rd g h' K rb s := by
 obtain ⟨bs, a1, a2, a3⟩ := r
 exact ⟨bs, a1.fix f hrb, Sl.fix a2 (a3.sub hK) f, a3⟩

def NewBs (g : T (List V)) (h h' : H) (v : V) (xs : List UInt8) : Prop := Bs g h' v xs ∧ In (fun b => h.next ≤ b ∧ b < h'.next) v
theorem conv_str {h : H} {s : V} {xs : List UInt8} (a : Bs g h s xs) : convV (E g) h 27 9 s = some (.str xs, h) := by
 have hc := a.cells
 have hl := Sl.len a
 have hu : ∀ ys : List UInt8, allU8 (ys.map u8) = some ys := fun ys => by
  induction ys with
  | nil => rfl
  | cons y r ih => simp [allU8, u8, asU8, ih]
 unfold srcCells at hc
 split at hc
 ·simp only [lenV] at hl; injection hl with hl
  have : xs = [] := List.eq_nil_of_length_eq_zero hl.symm
  subst this
  simp only [convV, ty27, ty9, ty5]
 ·rename_i b o m c
  simp only [lenV] at hl; injection hl with hl; subst hl
  simp only [convV, ty27, ty9, ty5]
  split
  ·rename_i h0
   have : xs = [] := List.eq_nil_of_length_eq_zero h0
   subst this; rfl
  ·rename_i h0
   have hb : Nat.beq (xs.length * 1) 0 = false := beq_false (fun e => h0 (by simpa using e))
   simp only [hb, cond_false] at hc
   obtain ⟨_, hc⟩ := bif_some hc
   split at hc
   ·rw [Nat.mul_one] at hc
    simp only [hc, hu, Option.map_some]
   ·cases hc
 ·rename_i ad m c
  simp only [lenV] at hl; injection hl with hl; subst hl
  obtain ⟨_, hc⟩ := bif_some hc
  rw [Nat.mul_one] at hc
  simp only [convV, ty27, ty9, ty5, hc, hu, Option.map_some]
 ·exact absurd rfl (Sl.slice a _)
 ·cases hc
theorem arrayAt {b o n : Nat} {c : Cp} (hn : 4 ≤ n) : arrayAtV (E g) 199 (.slice b o n c) = some (.ptr b o) := by
 match n, hn with
 | n + 1, hn => simp only [arrayAtV, ty199, ble_true hn, cond_true]
end Go.Proofs.OP

set_option linter.unusedSimpArgs false
namespace Go.Proofs.OP
open Go Go.Ev
open Go.Proofs
open Nat (reduceLT reduceEqDiff)
variable {g : T (List V)}

def Lit0 (n0 : Nat) (h : H) (e : Nat) (v : V) : Prop := ∃ b, v = .slice b 0 0 (.lit 0) ∧ n0 ≤ b ∧ b < h.next ∧ ∃ t N d k, h.t.get b = some (.cells t N d e k)
theorem Lit0.fix {n0 : Nat} {h h' : H} {e : Nat} {v : V} (a : Lit0 n0 h e v) (f : Fix (· < h.next) h h') : Lit0 n0 h' e v := by
 obtain ⟨b, a1, a2, a3, t, N, d, k, a4⟩ := a
 have := f.next
 exact ⟨b, a1, a2, by omega, t, N, d, k, by rw [f.same b a3]; exact a4⟩
def Own (g : T (List V)) (n0 : Nat) (h : H) (e : Nat) (v : V) (vs : List V) : Prop := Buf (E g) h e 1 v vs.length vs ∧ In (fun b => n0 ≤ b ∧ b < h.next) v ∧ El h e v
theorem Own.fix {n0 : Nat} {h h' : H} {e : Nat} {v : V} {vs : List V} (a : Own g n0 h e v vs) (f : Fix (· < h.next) h h') : Own g n0 h' e v vs := by
 obtain ⟨a1, a2, a3⟩ := a
 have := f.next
 exact ⟨a1.fix (a2.sub fun _ hx => hx.2) f, a2.sub fun _ hx => ⟨hx.1, by omega⟩, a3.fix (a2.sub fun _ hx => hx.2) f⟩
def NewB (n0 : Nat) (h : H) (e : Nat) (zs : List V) (v : V) : Prop := ∃ b, v = .ptr b 0 ∧ n0 ≤ b ∧ b < h.next ∧ Has h b zs ∧ ∃ t m d k, h.t.get b = some (.cells t m d e k)
theorem NewB.fix {n0 : Nat} {h h' : H} {e : Nat} {zs : List V} {v : V} (a : NewB n0 h e zs v) (f : Fix (· < h.next) h h') : NewB n0 h' e zs v := by
 obtain ⟨b, a1, a2, a3, a4, t, m, d, k, a5⟩ := a
 have := f.next
 exact ⟨b, a1, a2, by omega, a4.fix f a3, t, m, d, k, by rw [f.same b a3]; exact a5⟩

theorem one_u8 {xs : List UInt8} : (xs.map u8).all V.one = true := by simp [List.all_eq_true, u8, V.one]
theorem one_str {xs : List (List UInt8)} : (xs.map V.str).all V.one = true := by simp [List.all_eq_true, V.one]

theorem flat_snoc {α : Type} (f : α → List V) {L : List α} {i : Nat} (hi : i < L.length) : (L.take (i + 1)).flatMap f = (L.take i).flatMap f ++ f L[i] := by
 rw [List.take_succ_eq_append_getElem hi, List.flatMap_append, List.flatMap_cons, List.flatMap_nil, List.append_nil]

end Go.Proofs.OP

set_option linter.unusedSimpArgs false
namespace Go.Proofs.OP
open Go Go.Ev
open Go.Proofs
open Nat (reduceLT reduceEqDiff)
variable {g : T (List V)}

structure DI {α : Type} (g : T (List V)) (hm : H) (n0 N rb ob : Nat) (cells : V → List V) (e sz : Nat) (fl : List α → List V) (s : RdS × List α) (h : H) (sv : V) : Prop where
 rd : Rd g h (· < n0) rb s.1
 co : Has h ob (cells sv)
 bu : Buf (E g) h e sz sv s.2.length (fl s.2)
 nw : In (fun b => hm.next ≤ b ∧ b < h.next) sv
 fx : Fix (fun b => b < hm.next ∧ b ≠ rb ∧ b ≠ ob) hm h
 xs : s.1.xs.length ≤ N
 ln : s.2.length ≤ N + 1
 sm : s.1.bad = false → s.2.length + s.1.xs.length ≤ N
theorem DI.bad {α : Type} {hm : H} {n0 N rb ob : Nat} {cells : V → List V} {e sz : Nat} {fl : List α → List V} {s : RdS × List α} {h : H} (i : ∃ sv, DI g hm n0 N rb ob cells e sz fl s h sv) : ∃ sl, Has h rb [sl, .bool s.1.bad] := by
 obtain ⟨sv, i⟩ := i
 obtain ⟨bs, a, _⟩ := i.rd
 exact ⟨bs, a⟩
end Go.Proofs.OP

set_option linter.unusedSimpArgs false
namespace Go.Proofs.OP
open Go Go.Ev
open Go.Proofs
open Nat (reduceLT reduceEqDiff)

theorem nameE_len {s : List UInt8} (h : nameE s = 0) : s.length ≤ 64 := by
 unfold nameE at h
 split at h
 ·omega
 ·split at h <;> omega
end Go.Proofs.OP

set_option linter.unusedSimpArgs false
namespace Go.Proofs.OP
open Go Go.Ev
open Go.Proofs
open Nat (reduceLT reduceEqDiff)
variable {g : T (List V)}

def symB (s : SymD) : List UInt8 := txtB [s.name] ++ numB [s.sec, s.off, bitsI s.glob s.weak]
def relB (r : RelD) : List UInt8 := numB [r.sec, r.off, r.kind] ++ txtB [r.sym] ++ numB [r.add]
end Go.Proofs.OP

set_option linter.unusedSimpArgs false
namespace Go.Proofs.OP
open Go Go.Ev
open Go.Proofs
open Nat (reduceLT reduceEqDiff)
variable {g : T (List V)}

theorem NewBs.keep {h h1 h2 : H} {K : Nat → Prop} {v : V} {xs : List UInt8} (a : NewBs g h h1 v xs) (f : Fix K h1 h2) (hK : ∀ b, h.next ≤ b → b < h1.next → K b) : NewBs g h h2 v xs :=
 ⟨Sl.fix a.1 (a.2.sub fun b hb => hK b hb.1 hb.2) f, a.2.sub fun b hb => ⟨hb.1, by have := f.next; omega⟩⟩
end Go.Proofs.OP

namespace Go.Proofs.OP
open Go Go.Ev
def rest6 (o : ObjD) : List UInt8 := txtB [o.entry] ++ []
def rest5 (o : ObjD) : List UInt8 := numB [(o.needs.length : Int)] ++ ((o.needs.flatMap fun s => txtB [s]) ++ rest6 o)
def rest4 (o : ObjD) : List UInt8 := numB [(o.rels.length : Int)] ++ (o.rels.flatMap relB ++ rest5 o)
def rest3 (o : ObjD) : List UInt8 := numB [(o.syms.length : Int)] ++ (o.syms.flatMap symB ++ rest4 o)
def rest2 (o : ObjD) : List UInt8 := txtB [o.data] ++ rest3 o
def rest1 (o : ObjD) : List UInt8 := txtB [o.code] ++ rest2 o
def body (o : ObjD) : List UInt8 := txtB [o.name] ++ rest1 o
end Go.Proofs.OP

set_option linter.unusedSimpArgs false
namespace Go.Proofs.OP
open Go Go.Ev
open Go.Proofs
open Nat (reduceLT reduceEqDiff)
variable {g : T (List V)}

instance : DecidableEq SymD := fun a b => if h : a.name = b.name ∧ a.sec = b.sec ∧ a.off = b.off ∧ a.glob = b.glob ∧ a.weak = b.weak then isTrue (by cases a; cases b; simp at h; simp [h]) else isFalse (by rintro rfl; simp at h)
instance : DecidableEq RelD := fun a b => if h : a.sec = b.sec ∧ a.off = b.off ∧ a.kind = b.kind ∧ a.sym = b.sym ∧ a.add = b.add then isTrue (by cases a; cases b; simp at h; simp [h]) else isFalse (by rintro rfl; simp at h)

theorem eqT_i3 {n : Nat} {a b : Int} : eqT (E g) (n + 1) 3 (.int .i64 a) (.int .i64 b) = some (decide (a = b)) := by
 simp only [eqT, ty3, scalarEq, if_true]
end Go.Proofs.OP

set_option linter.unusedSimpArgs false
namespace Go.Proofs.OP
open Go Go.Ev
open Go.Proofs
open Nat (reduceLT reduceEqDiff)
variable {g : T (List V)}

def shortN (s : List UInt8) : Bool := !decide ((200 : Int) < s.length)
theorem all_false {α : Type} {p : α → Bool} {L : List α} {i : Nat} (hi : i < L.length) (h : p L[i] = false) : L.all p = false := by
 cases hq : L.all p with
 | false => rfl
 | true => rw [List.all_eq_true] at hq; rw [hq _ (List.getElem_mem hi)] at h; cases h
theorem all_snoc {α : Type} {p : α → Bool} {L : List α} {i : Nat} (hi : i < L.length) (h : (L.take i).all p = true) (hx : p L[i] = true) : (L.take (i + 1)).all p = true := by
 rw [List.take_succ_eq_append_getElem hi, List.all_append, h]
 simp [hx]

end Go.Proofs.OP

set_option linter.unusedSimpArgs false
namespace Go.Ev
open Go
theorem Sl.put {E : Env} {h : H} {n : Nat} {s : V} {vs : List V} (a : Sl E h 1 s n vs) (ho : ∃ b o m c, s = .slice b o m c) {t e k : Nat} {i ei : TI} (ht : E.tys.get t = some i) (hd : i.desc = .slice e) (he : E.tys.get e = some ei) (hsz : ei.size = 1) (hk : k < n) {v : V} (hv : v.cells = [v]) (h1 : v.one = true) :
  ∃ p b h', indexAddrV E t s (.int .i64 k) = some p ∧ (∃ o m c, s = .slice b o m c) ∧ storeP E h e p v = some h' ∧ Sl E h' 1 s n (vs.set k v) ∧ h'.next = h.next ∧ Fix (· ≠ b) h h' := by
 obtain ⟨b, o, m, c, rfl⟩ := ho
 have hc := a.cells
 have hl := a.len
 simp only [lenV] at hl; injection hl with hl; subst hl
 have hlt : Nat.blt k m = true := by simpa using hk
 have h0 : Nat.beq (m * 1) 0 = false := beq_false (by omega)
 unfold srcCells at hc
 simp only [h0, cond_false] at hc
 obtain ⟨_, hc⟩ := bif_some hc
 split at hc
 ·rename_i tt N d e' kk hb
  obtain ⟨q1, q2⟩ := cellsFrom_get hc
  have hsize := a.size
  -- all the cells lie in the block
  have hin : ∀ j, j < m → o + j < N := fun j hj => by
   have q := q2 j (by omega)
   rcases Nat.lt_or_ge (o + j) N with q' | q'
   ·exact q'
   ·exfalso
    have hf : Nat.blt (o + j) N = false := by
     cases hx : Nat.blt (o + j) N with
     | false => rfl
     | true => have : o + j < N := by simpa using hx
               omega
    unfold cellAt at q
    rw [hf] at q
    simp only [cond_false] at q
    rw [List.getElem?_eq_getElem (by omega)] at q
    cases q
  have hle : Nat.ble (o + k + 1) N = true := ble_true (by have := hin k hk; omega)
  refine ⟨.ptr b (o + k), b, h.put b (.cells (T.putL tt (o + k) [v]) N d e' kk), ?_, ⟨o, m, c, rfl⟩, ?_, ?_, rfl, ⟨Nat.le_refl _, fun x hx => by simp only [H.put, T.get_set]; rw [if_neg hx]⟩⟩
  ·simp [indexAddrV, ht, hd, natOf_nat, hlt, sizeOfT, he, hsz]
  ·have hb1 : Nat.beq 1 ei.size = true := by rw [hsz]; rfl
   simp only [storeP, storeV, he, hv, List.length_singleton, hb1, cond_true, storeL, hb, hle, List.all_cons, List.all_nil, h1, Bool.and_self]
  ·refine ⟨rfl, ?_, a.slice, a.cap⟩
   have hput : (h.put b (.cells (T.putL tt (o + k) [v]) N d e' kk)).t.get b = some (.cells (T.putL tt (o + k) [v]) N d e' kk) := by simp only [H.put, T.get_set, if_true]
   simp only [srcCells, h0, cond_false, ble_true (Nat.le_refl m), cond_true, hput]
   refine cellsFrom_of (by rw [List.length_set]; omega) (fun j hj => ?_)
   have q := q2 j hj
   have hjm : j < m := by omega
   have hj2 := hin j hjm
   have hb2 : Nat.blt (o + j) N = true := by simpa using hj2
   unfold cellAt at q ⊢
   rw [hb2] at q ⊢
   simp only [cond_true, T.get_putL, List.length_singleton] at q ⊢
   by_cases e : j = k
   ·subst e
    rw [if_pos (by omega), List.getElem?_set_self (by omega)]
    simp
   ·rw [if_neg (by omega), List.getElem?_set_ne (Ne.symm e)]
    exact q
 ·cases hc
end Go.Ev
namespace Go.Proofs.OP
open Go Go.Ev
open Go.Proofs
open Nat (reduceLT reduceEqDiff)
variable {g : T (List V)}

theorem BufB.own {h : H} {s : V} {xs : List UInt8} (b : BufB g h s xs) (hx : 0 < xs.length) : ∃ b o m c, s = .slice b o m c := by
 unfold BufB at b
 generalize xs.length = n at b hx
 generalize xs.map u8 = vs at b
 cases b with
 | nil => omega
 | lit _ _ => exact ⟨_, _, _, _, rfl⟩
 | opn _ _ _ => exact ⟨_, _, _, _, rfl⟩

end Go.Proofs.OP

namespace Go.Ev
open Go
section
variable {E : Env} {ops : List Oper}
def noEff (p : List Stp) : Bool := p.all fun s => !s.eff
theorem WPlan_rd {Q : Fr → H → Prop} : ∀ {p : List Stp} (_ : noEff p = true) {rd rd' : List (Nat × V)} {fr : Fr} {h : H} (_ : WPlan E ops p rd fr h Q), WPlan E ops p rd' fr h Q
 | [], _, _, _, _, _, k => k
 | s :: r, hp, rd, rd', fr, h, k => by
  simp only [noEff, List.all_cons, Bool.and_eq_true, Bool.not_eq_true'] at hp
  obtain ⟨he, hr⟩ := hp
  have ih := fun {rd rd' fr h} => WPlan_rd (p := r) (Q := Q) (by exact hr) (rd := rd) (rd' := rd') (fr := fr) (h := h)
  unfold WPlan at k ⊢
  cases hn : nth ops s.idx with
  | none => simp only [hn] at k
  | some o =>
   simp only [hn] at k ⊢
   cases hw : wantedV fr ops o with
   | none => simp only [hw] at k
   | some b =>
    cases b with
    | false =>
     simp only [hw] at k ⊢
     cases hq : fr.put o.dst un with
     | none => simp only [hq] at k
     | some fr' => simp only [hq] at k ⊢; exact ih k
    | true =>
     simp only [hw, he, cond_false] at k ⊢
     refine k.mono fun v h' q => ?_
     cases hq : fr.put o.dst v with
     | none => simp only [hq] at q
     | some fr' => simp only [hq] at q ⊢; exact ih q
theorem WPlan_mono {Q Q' : Fr → H → Prop} (hQ : ∀ fr h, Q fr h → Q' fr h) : ∀ {p : List Stp} {rd : List (Nat × V)} {fr : Fr} {h : H} (_ : WPlan E ops p rd fr h Q), WPlan E ops p rd fr h Q'
 | [], _, _, _, k => hQ _ _ k
 | s :: r, rd, fr, h, k => by
  have ih := fun {rd fr h} => WPlan_mono hQ (p := r) (rd := rd) (fr := fr) (h := h)
  unfold WPlan at k ⊢
  cases hn : nth ops s.idx with
  | none => simp only [hn] at k
  | some o =>
   simp only [hn] at k ⊢
   cases hw : wantedV fr ops o with
   | none => simp only [hw] at k
   | some b =>
    cases b with
    | false =>
     simp only [hw] at k ⊢
     cases hq : fr.put o.dst un with
     | none => simp only [hq] at k
     | some fr' => simp only [hq] at k ⊢; exact ih k
    | true =>
     cases he : s.eff with
     | true =>
      simp only [hw, he, cond_true] at k ⊢
      refine k.mono fun v h' q => ⟨q.1, ?_⟩
      have q := q.2
      cases hq : fr.put o.dst v with
      | none => simp only [hq] at q
      | some fr' => simp only [hq] at q ⊢; exact ih q
     | false =>
      simp only [hw, he, cond_false] at k ⊢
      refine k.mono fun v h' q => ?_
      cases hq : fr.put o.dst v with
      | none => simp only [hq] at q
      | some fr' => simp only [hq] at q ⊢; exact ih q
theorem WPlan_cat {Q : Fr → H → Prop} {p2 : List Stp} (h2 : noEff p2 = true) : ∀ {p1 : List Stp} {rd : List (Nat × V)} {fr : Fr} {h : H} (_ : WPlan E ops p1 rd fr h fun fr' h' => WPlan E ops p2 [] fr' h' Q), WPlan E ops (p1 ++ p2) rd fr h Q
 | [], _, _, _, k => WPlan_rd h2 k
 | s :: r, rd, fr, h, k => by
  have ih := fun {rd fr h} => WPlan_cat h2 (Q := Q) (p1 := r) (rd := rd) (fr := fr) (h := h)
  rw [List.cons_append]
  unfold WPlan at k ⊢
  cases hn : nth ops s.idx with
  | none => simp only [hn] at k
  | some o =>
   simp only [hn] at k ⊢
   cases hw : wantedV fr ops o with
   | none => simp only [hw] at k
   | some b =>
    cases b with
    | false =>
     simp only [hw] at k ⊢
     cases hq : fr.put o.dst un with
     | none => simp only [hq] at k
     | some fr' => simp only [hq] at k ⊢; exact ih k
    | true =>
     cases he : s.eff with
     | true =>
      simp only [hw, he, cond_true] at k ⊢
      refine k.mono fun v h' q => ⟨q.1, ?_⟩
      have q := q.2
      cases hq : fr.put o.dst v with
      | none => simp only [hq] at q
      | some fr' => simp only [hq] at q ⊢; exact ih q
     | false =>
      simp only [hw, he, cond_false] at k ⊢
      refine k.mono fun v h' q => ?_
      cases hq : fr.put o.dst v with
      | none => simp only [hq] at q
      | some fr' => simp only [hq] at q ⊢; exact ih q
theorem WPlan_two {Q M : Fr → H → Prop} (k : Nat) {p : List Stp} {rd : List (Nat × V)} {fr : Fr} {h : H} (h2 : noEff (p.drop k) = true) (k1 : WPlan E ops (p.take k) rd fr h M) (k2 : ∀ fr h, M fr h → WPlan E ops (p.drop k) [] fr h Q) : WPlan E ops p rd fr h Q := by
 rw [← List.take_append_drop k p]; exact WPlan_cat h2 (WPlan_mono k2 k1)
theorem WRun_mono {all : List Oper} {Q Q' : Fr → H → Prop} (hQ : ∀ fr h, Q fr h → Q' fr h) : ∀ {p : List Oper} {fr : Fr} {h : H} (_ : WRun E all p fr h Q), WRun E all p fr h Q'
 | [], _, _, k => hQ _ _ k
 | o :: r, fr, h, k => by
  have ih := fun {fr h} => WRun_mono hQ (all := all) (p := r) (fr := fr) (h := h)
  unfold WRun at k ⊢
  cases hw : wantedV fr all o with
  | none => simp only [hw] at k
  | some b =>
   cases b with
   | false =>
    simp only [hw] at k ⊢
    cases hq : fr.put o.dst un with
    | none => simp only [hq] at k
    | some fr' => simp only [hq] at k ⊢; exact ih k
   | true =>
    simp only [hw] at k ⊢
    refine k.mono fun v h' q => ?_
    cases hq : fr.put o.dst v with
    | none => simp only [hq] at q
    | some fr' => simp only [hq] at q ⊢; exact ih q
theorem WRun_cat {all : List Oper} {Q : Fr → H → Prop} {p2 : List Oper} : ∀ {p1 : List Oper} {fr : Fr} {h : H} (_ : WRun E all p1 fr h fun fr' h' => WRun E all p2 fr' h' Q), WRun E all (p1 ++ p2) fr h Q
 | [], _, _, k => k
 | o :: r, fr, h, k => by
  have ih := fun {fr h} => WRun_cat (all := all) (Q := Q) (p2 := p2) (p1 := r) (fr := fr) (h := h)
  rw [List.cons_append]
  unfold WRun at k ⊢
  cases hw : wantedV fr all o with
  | none => simp only [hw] at k
  | some b =>
   cases b with
   | false =>
    simp only [hw] at k ⊢
    cases hq : fr.put o.dst un with
    | none => simp only [hq] at k
    | some fr' => simp only [hq] at k ⊢; exact ih k
   | true =>
    simp only [hw] at k ⊢
    refine k.mono fun v h' q => ?_
    cases hq : fr.put o.dst v with
    | none => simp only [hq] at q
    | some fr' => simp only [hq] at q ⊢; exact ih q
theorem WRun_two {all : List Oper} {Q M : Fr → H → Prop} (k : Nat) {p : List Oper} {fr : Fr} {h : H} (k1 : WRun E all (p.take k) fr h M) (k2 : ∀ fr h, M fr h → WRun E all (p.drop k) fr h Q) : WRun E all p fr h Q := by
 rw [← List.take_append_drop k p]; exact WRun_cat (WRun_mono k2 k1)
end
end Go.Ev
