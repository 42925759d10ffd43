/- Walks: (*linker).address, (*linker).entry. Printed by genL6.py. -/
import Derived.Test.YtloblhhnlaaajaaDoorX15
import Derived.Test.YtloblhhnlaaajaaDoorX36
set_option linter.unusedVariables false
set_option linter.unusedSimpArgs false
set_option linter.defProp false
set_option linter.unusedSimpArgs false
namespace Go.Proofs.OP
open Go Go.Ev
open Go.Proofs
open Nat (reduceLT reduceEqDiff)
variable {g : T (List V)}

theorem nb1 : Nat.beq 1 1 = true := rfl
theorem nb0 : Nat.beq 0 0 = true := rfl
theorem ine_t {a b : Int} (h : ¬ a = b) : (a != b) = true := by simp [h]
theorem ine_f {a b : Int} (h : a = b) : (a != b) = false := by simp [h]
theorem beqL_t {a b : List UInt8} (h : a = b) : (a == b) = true := by simp [h]
theorem beqL_f {a b : List UInt8} (h : ¬ a = b) : (a == b) = false := by simp [h]
structure LkM (g : T (List V)) (h : H) (kb db sb stb : Nat) (ls : V) (n : Nat) (os : List ObjD) (base : Int) (D : Dm) (S : St) (im : List V) : Prop where
 bk : Has h kb (lkV ls base (.slice stb 0 n (.lit n)) db sb im)
 bs : Has h stb (stC n (stG base os))
 md : Mq h db (mv dV D)
 ms : Mq h sb (mv i64 S)
 kn : kb < h.next
 dn : db < h.next
 sn : sb < h.next
 tn : stb < h.next
theorem LkM.fix {h h' : H} {K : Nat → Prop} {kb db sb stb : Nat} {ls : V} {n : Nat} {os : List ObjD} {base : Int} {D : Dm} {S : St} {im : List V} (a : LkM g h kb db sb stb ls n os base D S im) (f : Fix K h h') (h1 : K kb) (h2 : K db) (h3 : K sb) (h4 : K stb) : LkM g h' kb db sb stb ls n os base D S im := by
 have x := f.next
 have := a.kn; have := a.dn; have := a.sn; have := a.tn
 exact ⟨a.bk.fix f h1, a.bs.fix f h4, a.md.fix f h2, a.ms.fix f h3, by omega, by omega, by omega, by omega⟩
theorem LkM.kept {h h' : H} {kb db sb stb : Nat} {ls : V} {n : Nat} {os : List ObjD} {base : Int} {D : Dm} {S : St} {im : List V} (a : LkM g h kb db sb stb ls n os base D S im) (f : Kept h h') : LkM g h' kb db sb stb ls n os base D S im := a.fix f a.kn a.dn a.sn a.tn
theorem LkM.put {h h' : H} {kb db sb stb : Nat} {ls : V} {n : Nat} {os : List ObjD} {base : Int} {D : Dm} {S : St} {im im' : List V} (a : LkM g h kb db sb stb ls n os base D S im) (f : Fix (· ≠ kb) h h') (bk : Has h' kb (lkV ls base (.slice stb 0 n (.lit n)) db sb im')) (h2 : db ≠ kb) (h3 : sb ≠ kb) (h4 : stb ≠ kb) : LkM g h' kb db sb stb ls n os base D S im' := by
 have x := f.next
 have := a.kn; have := a.dn; have := a.sn; have := a.tn
 exact ⟨bk, a.bs.fix f h4, a.md.fix f h2, a.ms.fix f h3, by omega, by omega, by omega, by omega⟩
theorem fld174 {G : GlD} : fieldV (E g) 174 (dV G) 0 = some (i64 G.addr) := by
 simp only [fieldV, ty174, dV, nth, partV, ty2]; rfl
structure Lsz (os : List ObjD) (base : Int) (n : Nat) : Prop where
 len : os.length = n
 bas : Bas base
 few : n ≤ 20
 st : ∀ sec i, 1 ≤ sec → sec ≤ 2 → i < n → stO os sec i ≤ 2 ^ 20
def adr (base : Int) (os : List ObjD) (D : Dm) (i : Nat) (s : SymD) : Int := if s.sec ≠ 0 ∧ s.glob = false then base + (stO os s.sec.toNat i : Nat) + s.off else ((al s.name D).getD zGl).addr
theorem start_at {h : H} {stb n i sec : Nat} {os : List ObjD} {base : Int} (bs : Has h stb (stC n (stG base os))) (hi : i < n) (h1 : 1 ≤ sec) (h2 : sec ≤ 2) : loadP (E g) h 2 (.ptr stb (i * 3 + sec)) = some (i64 (base + (stO os sec i : Nat))) := by
 have s3 := bs.at (E := E g) ty2 rfl (i * 3 + sec)
 rw [stC_get (by omega), stG_at h1 h2] at s3
 exact s3
theorem start_ix {stb o sec : Nat} (h2 : sec ≤ 2) : indexAddrV (E g) 126 (.ptr stb o) (.int .i64 sec) = some (.ptr stb (o + sec)) := by
 have := idx_arr (g := g) (b := stb) (o := o) (k := sec) (ik := .i64) ty126 rfl ty2 (show sec < 3 by omega); simpa using this

set_option maxRecDepth 100000 in
set_option maxHeartbeats 4000000 in
theorem address_ok {h : H} {kb db sb stb n i : Nat} {ls : V} {os : List ObjD} {base : Int} {D : Dm} {S : St} {im : List V} {s : SymD} (m : LkM g h kb db sb stb ls n os base D S im) (z : Lsz os base n) (hi : i < n) (hs : s.sec ≠ 0 → s.glob = false → 1 ≤ s.sec ∧ s.sec ≤ 2 ∧ 0 ≤ s.off ∧ s.off ≤ 16384) :
  WF (E g) 89 [.ptr kb 0, .int .i64 i, .agg (symV s)] h fun v h' => v = i64 (adr base os D i s) ∧ Kept h h' := by
 have hb0 := z.bas.pos
 have hb1 := z.bas.most
 refine WF.enter fn89 rfl ?_
 ((repeat refine WC.seq ?_); refine WC.run ?_)
 (try simp only [wk, wl, wx, reduceLT, reduceEqDiff, Nat.reduceBEq, reduceIte])
 refine wop_box (v := .agg (symV s)) (by (try simp only [wk, wl, wx, reduceLT, reduceEqDiff, Nat.reduceBEq, reduceIte])) ?_
 intro h1 b1 n1 f1
 have b1 : Has h1 h.next [.str s.name, i64 s.sec, i64 s.off, .bool s.glob, .bool s.weak] := b1
 have m1 := m.kept f1
 have lk1 := tab1 (E := E g) (z := zGl) (k := s.name) m1.md ty101 rfl ty9 rfl ty174 rfl
 (try simp only [wk, wl, wx, reduceLT, reduceEqDiff, Nat.reduceBEq, reduceIte])
 ((repeat refine WC.seq ?_); refine WC.run ?_)
 by_cases hsec : s.sec = 0
 ·have e : adr base os D i s = ((al s.name D).getD zGl).addr := by unfold adr; rw [if_neg (by rintro ⟨q, _⟩; exact q hsec)]
  (try simp only [wk, wl, wx, reduceLT, reduceEqDiff, Nat.reduceBEq, reduceIte, fa95_1, Nat.zero_add, b1.at ty3 rfl, i64, bin_neq, ine_f hsec, un])
  (repeat refine WC.seq ?_)
  refine WC.cond (b := false) (by (try simp only [wk, wl, wx, reduceLT, reduceEqDiff, Nat.reduceBEq, reduceIte]); (try simp); (try omega)) (WC.skip ?_)
  (try simp only [wk, wl, wx, reduceLT, reduceEqDiff, Nat.reduceBEq, reduceIte])
  ((repeat refine WC.seq ?_); refine WC.draw (plans := pl89_3) (by kernel_rfl) ?_; simp only [pl89_3, List.mem_cons, List.not_mem_nil, or_false, forall_eq_or_imp, forall_eq])
  (try simp (maxSteps := 2000000) only [wk, wl, wx, reduceLT, reduceEqDiff, Nat.reduceBEq, reduceIte, wd, Chk, and_true, true_and, fa105_3, fa95_0, Nat.zero_add, m1.bk.at ty101 rfl, b1.at ty9 rfl, o_lookup, w_lookup, lk1, fld174])
  refine WC.ret ?_
  (try simp only [wk, wl, wx, reduceLT, reduceEqDiff, Nat.reduceBEq, reduceIte])
  exact ⟨by rw [e]; rfl, f1⟩
 ·cases hgl : s.glob with
  | true =>
   have e : adr base os D i s = ((al s.name D).getD zGl).addr := by unfold adr; rw [if_neg (by rintro ⟨_, q⟩; rw [hgl] at q; cases q)]
   (try simp only [wk, wl, wx, reduceLT, reduceEqDiff, Nat.reduceBEq, reduceIte, fa95_1, fa95_3, Nat.zero_add, b1.at ty3 rfl, b1.at ty4 rfl, i64, bin_neq, ine_t hsec, un, un_not, hgl, Bool.not_true])
   (repeat refine WC.seq ?_)
   refine WC.cond (b := false) (by (try simp only [wk, wl, wx, reduceLT, reduceEqDiff, Nat.reduceBEq, reduceIte]); (try simp); (try omega)) (WC.skip ?_)
   (try simp only [wk, wl, wx, reduceLT, reduceEqDiff, Nat.reduceBEq, reduceIte])
   ((repeat refine WC.seq ?_); refine WC.draw (plans := pl89_3) (by kernel_rfl) ?_; simp only [pl89_3, List.mem_cons, List.not_mem_nil, or_false, forall_eq_or_imp, forall_eq])
   (try simp (maxSteps := 2000000) only [wk, wl, wx, reduceLT, reduceEqDiff, Nat.reduceBEq, reduceIte, wd, Chk, and_true, true_and, fa105_3, fa95_0, Nat.zero_add, m1.bk.at ty101 rfl, b1.at ty9 rfl, o_lookup, w_lookup, lk1, fld174])
   refine WC.ret ?_
   (try simp only [wk, wl, wx, reduceLT, reduceEqDiff, Nat.reduceBEq, reduceIte])
   exact ⟨by rw [e]; rfl, f1⟩
  | false =>
   obtain ⟨q1, q2, q3, q4⟩ := hs hsec hgl
   have e : adr base os D i s = base + (stO os s.sec.toNat i : Nat) + s.off := by unfold adr; rw [if_pos ⟨hsec, hgl⟩]
   obtain ⟨sec, hse⟩ : ∃ sec : Nat, s.sec = (sec : Int) := ⟨s.sec.toNat, by omega⟩
   have e2 : s.sec.toNat = sec := by omega
   rw [e2] at e
   have hst := z.st sec i (by omega) (by omega) hi
   have s3 := start_at (g := g) m1.bs hi (show 1 ≤ sec by omega) (show sec ≤ 2 by omega)
   have ew : IntKind.i64.wrap (base + (stO os sec i : Nat) + s.off) = adr base os D i s := by rw [e, wrap64 (by omega) (by omega)]
   (try simp only [wk, wl, wx, reduceLT, reduceEqDiff, Nat.reduceBEq, reduceIte, fa95_1, fa95_3, Nat.zero_add, b1.at ty3 rfl, b1.at ty4 rfl, i64, bin_neq, ine_t hsec, un, un_not, hgl])
   (repeat refine WC.seq ?_)
   refine WC.cond (b := true) (by (try simp only [wk, wl, wx, reduceLT, reduceEqDiff, Nat.reduceBEq, reduceIte]); (try simp); (try omega)) ?_
   (try simp only [wk, wl, wx, reduceLT, reduceEqDiff, Nat.reduceBEq, reduceIte])
   ((repeat refine WC.seq ?_); refine WC.draw (plans := pl89_2) (by kernel_rfl) ?_; simp only [pl89_2, List.mem_cons, List.not_mem_nil, or_false, forall_eq_or_imp, forall_eq])
   (try simp (maxSteps := 2000000) only [wk, wl, wx, reduceLT, reduceEqDiff, Nat.reduceBEq, reduceIte, wd, Chk, and_true, true_and, fa105_2, fa95_1, fa95_2, Nat.zero_add, m1.bk.at ty103 rfl, b1.at ty3 rfl, b1.at ty2 rfl, hse, i64, idx_slice ty103 rfl ty126 hi, start_ix (show sec ≤ 2 by omega), s3, bin_add, ew])
   refine WC.ret ?_
   (try simp only [wk, wl, wx, reduceLT, reduceEqDiff, Nat.reduceBEq, reduceIte])
   exact ⟨by trivial, f1⟩

def entP (base code : Int) (D : Dm) : Nat → List ObjD → Except (Int × Int) Int
 | _, [] => .ok 0
 | i, o :: r => if o.entry = [] then entP base code D (i + 1) r else
  if ((al o.entry D).getD zGl).addr = 0 ∨ ((al o.entry D).getD zGl).addr < base ∨ base + code ≤ ((al o.entry D).getD zGl).addr then .error ((i : Int), 14) else .ok ((al o.entry D).getD zGl).addr
abbrev imV (base : Int) (bb N : Nat) (code entry : Int) (x y w : V) : List V := [i64 base, .slice bb 0 N (.lit N), i64 code, i64 entry, x, y, w]

set_option maxRecDepth 100000 in
set_option maxHeartbeats 16000000 in
theorem lentry_ok {n0 kb db sb stb bb N : Nat} {h : H} {ls : V} {L : List (Oc × ObjD)} {base code : Int} {D : Dm} {S : St} (hn0 : n0 ≤ h.next) (a : Obs g h (· < n0) ls L) (fL : ∀ p ∈ L, Fits p.2)
  (m : LkM g h kb db sb stb ls L.length (L.map (·.2)) base D S (imV base bb N code 0 .nils .nils .nils)) (z : Lsz (L.map (·.2)) base L.length) (hc : 0 ≤ code ∧ code ≤ 2 ^ 30) (k0 : n0 ≤ kb) (d0 : db ≠ kb) (s0 : sb ≠ kb) (st0 : stb ≠ kb) (hA : ∀ p ∈ D, 0 ≤ p.2.addr ∧ p.2.addr ≤ 2 ^ 40) :
  WF (E g) 35 [.ptr kb 0] h fun v h' => Fix (fun b => b < h.next ∧ b ≠ kb) h h' ∧ match entP base code D 0 (L.map (·.2)) with
   | .error f => v = .agg (faultV f)
   | .ok e => v = .agg (faultV (0, 0)) ∧ Has h' kb (lkV ls base (.slice stb 0 L.length (.lit L.length)) db sb (imV base bb N code e .nils .nils .nils)) := by
 have hb0 := z.bas.pos
 have hb1 := z.bas.most
 have lL := z.few
 refine WF.enter fn35 rfl ?_
 ((repeat refine WC.seq ?_); refine WC.run ?_)
 (try simp only [wk, wl, wx, reduceLT, reduceEqDiff, Nat.reduceBEq, reduceIte])
 refine wop_alloc ty35 ?_
 intro h1 b1 n1 f1
 have b1 : Has h1 h.next (faultV (0, 0)) := b1
 (try simp only [wk, wl, wx, reduceLT, reduceEqDiff, Nat.reduceBEq, reduceIte])
 have a1 := a.fix f1 fun b hb => by omega
 have m1 := m.kept f1
 have kn := m.kn
 have dn := m.dn
 have sn := m.sn
 have tn := m.tn
 ((repeat refine WC.seq ?_); refine WC.run ?_)
 (try simp only [wk, wl, wx, reduceLT, reduceEqDiff, Nat.reduceBEq, reduceIte, fa105_0, Nat.zero_add, m1.bk.at ty38 rfl, Sl.lenB a1.sl ty38 rfl])
 (repeat refine WC.seq ?_)
 refine WC.block ?_
 refine WC.while (fun m fr hh => ∃ ts i, fr = ⟨ts, 60, [], 35, none⟩ ∧ Fix (fun b => b < h1.next) h1 hh ∧ m = L.length - i ∧ i ≤ L.length ∧ ts.get 0 = some (.ptr kb 0) ∧ ts.get 2 = some (.ptr h.next 0) ∧ ts.get 9 = some ls ∧ ts.get 10 = some (.int .i64 L.length) ∧ ts.get 11 = some (.int .i64 i) ∧ entP base code D i ((L.map (·.2)).drop i) = entP base code D 0 (L.map (·.2))) ?_ ⟨_, 0, rfl, Fix.refl _ _, rfl, by omega, ?_, ?_, ?_, ?_, ?_, rfl⟩
 ·rintro m fr hh ⟨ts, i, rfl, ff, rfl, hi, t0, t2, t9, t10, t11, hD⟩
  have xh := ff.next
  have ah := a1.fix ff fun b hb => by omega
  have mh := m1.fix ff (by omega) (by omega) (by omega) (by omega)
  have brh := b1.fix ff (by omega)
  ((repeat refine WC.seq ?_); refine WC.run ?_)
  (try simp only [wk, wl, wx, reduceLT, reduceEqDiff, Nat.reduceBEq, reduceIte, t10, t11])
  (repeat refine WC.seq ?_)
  by_cases hlt : i < L.length
  ·refine WC.cond (b := true) (by (try simp only [wk, wl, wx, reduceLT, reduceEqDiff, Nat.reduceBEq, reduceIte]); (try simp); (try omega)) (WC.skip ?_)
   (try simp only [wk, wl, wx, reduceLT, reduceEqDiff, Nat.reduceBEq, reduceIte])
   obtain ⟨p, p1, p2⟩ := ah.sl.at (fun _ => rfl) ty38 rfl ty77 rfl (by decide) rfl hlt
   have p2 := p2 hh fun _ _ _ _ _ => rfl
   have hmem := List.getElem_mem hlt
   have obi := ah.ob _ hmem
   rw [drop_cons (by simpa using hlt), List.getElem_map] at hD
   simp only [entP] at hD
   (repeat refine WC.seq ?_)
   refine WC.block ?_
   ((repeat refine WC.seq ?_); refine WC.run ?_)
   (try simp only [wk, wl, wx, reduceLT, reduceEqDiff, Nat.reduceBEq, reduceIte, t9, t11, p1, p2])
   refine wop_alloc ty77 ?_
   intro h4 b4 n4 f4
   (try simp only [wk, wl, wx, reduceLT, reduceEqDiff, Nat.reduceBEq, reduceIte])
   refine sat_store b4 ty77 rfl (Nat.le_refl 7) (Oc.one obi) ?_
   intro h5 b5 n5 f5
   have b5 : Has h5 hh.next [.str L[i].2.name, L[i].1.code, L[i].1.data, L[i].1.syms, L[i].1.rels, L[i].1.needs, .str L[i].2.entry] := b5
   have F5 : Kept hh h5 := ⟨by omega, fun b hb => by rw [f5.same b (by omega), f4.same b hb]⟩
   have m5 := mh.kept F5
   have br5 := brh.fix F5 (by omega)
   have FT : Fix (fun b => b < h.next) h h5 := ⟨by omega, fun b hb => by rw [F5.same b (by omega), ff.same b (by omega), f1.same b hb]⟩
   (try simp only [wk, wl, wx, reduceLT, reduceEqDiff, Nat.reduceBEq, reduceIte])
   ((repeat refine WC.seq ?_); refine WC.run ?_)
   have l5 : loadP (E g) h5 9 (.ptr hh.next 6) = some (.str L[i].2.entry) := b5.at ty9 rfl 6
   by_cases he : L[i].2.entry = []
   ·rw [if_pos he] at hD
    (try simp only [wk, wl, wx, reduceLT, reduceEqDiff, Nat.reduceBEq, reduceIte, fa77_6, Nat.zero_add, l5, bin_seql, beqL_t he])
    (repeat refine WC.seq ?_)
    refine WC.cond (b := true) (by (try simp only [wk, wl, wx, reduceLT, reduceEqDiff, Nat.reduceBEq, reduceIte]); (try simp); (try omega)) (WC.exit ?_)
    (try simp only [wk, wl, wx, reduceLT, reduceEqDiff, Nat.reduceBEq, reduceIte, nb1])
    ((repeat refine WC.seq ?_); refine WC.run ?_)
    (try simp only [wk, wl, wx, reduceLT, reduceEqDiff, Nat.reduceBEq, reduceIte, t11, bin_add])
    refine ⟨_, ?_, _, i + 1, rfl, ⟨by omega, fun b hb => by rw [F5.same b (by omega), ff.same b hb]⟩, rfl, by omega, ?_⟩
    ·omega
    (try simp only [wk, wl, wx, reduceLT, reduceEqDiff, Nat.reduceBEq, reduceIte, t0, t2, t9, t10])
    refine ⟨trivial, trivial, trivial, trivial, ?_, hD⟩
    rw [wrap64 (by omega) (by omega)]; rfl
   ·rw [if_neg he] at hD
    have lk5 := tab1 (E := E g) (z := zGl) (k := L[i].2.entry) m5.md ty101 rfl ty9 rfl ty174 rfl
    have hadd : 0 ≤ ((al L[i].2.entry D).getD zGl).addr ∧ ((al L[i].2.entry D).getD zGl).addr ≤ 2 ^ 40 := by
     cases hal : al L[i].2.entry D with
     | none => exact ⟨Int.le_refl _, by decide⟩
     | some G => exact hA _ (al_mem hal)
    generalize hG : (al L[i].2.entry D).getD zGl = G at lk5 hD hadd
    (try simp only [wk, wl, wx, reduceLT, reduceEqDiff, Nat.reduceBEq, reduceIte, fa77_6, Nat.zero_add, l5, bin_seql, beqL_f he])
    (repeat refine WC.seq ?_)
    refine WC.cond (b := false) (by (try simp only [wk, wl, wx, reduceLT, reduceEqDiff, Nat.reduceBEq, reduceIte]); (try simp); (try omega)) (WC.skip ?_)
    (try simp only [wk, wl, wx, reduceLT, reduceEqDiff, Nat.reduceBEq, reduceIte])
    ((repeat refine WC.seq ?_); refine WC.draw (plans := pl35_5) (by kernel_rfl) ?_; simp only [pl35_5, List.mem_cons, List.not_mem_nil, or_false, forall_eq_or_imp, forall_eq])
    (try simp (maxSteps := 2000000) only [wk, wl, wx, reduceLT, reduceEqDiff, Nat.reduceBEq, reduceIte, wd, Chk, and_true, true_and, t0, fa105_3, fa77_6, Nat.zero_add, m5.bk.at ty101 rfl, l5, o_lookup, w_lookup, lk5, fld174, i64])
    have ecw : IntKind.i64.wrap (base + code) = base + code := wrap64 (by omega) (by omega)
    ((repeat refine WC.seq ?_); refine WC.draw (plans := pl35_6) (by kernel_rfl) ?_; simp only [pl35_6, List.mem_cons, List.not_mem_nil, or_false, forall_eq_or_imp, forall_eq])
    by_cases c1 : G.addr = 0
    ·rw [if_pos (.inl c1)] at hD
     (try simp (maxSteps := 2000000) only [wk, wl, wx, reduceLT, reduceEqDiff, Nat.reduceBEq, reduceIte, wd, Chk, and_true, true_and, t0, ieq_t c1, un, i64])
     refine WC.cond (b := true) (by (try simp only [wk, wl, wx, reduceLT, reduceEqDiff, Nat.reduceBEq, reduceIte]); (try simp); (try omega)) ?_
     (try simp only [wk, wl, wx, reduceLT, reduceEqDiff, Nat.reduceBEq, reduceIte])
     ((repeat refine WC.seq ?_); refine WC.run ?_)
     (try simp only [wk, wl, wx, reduceLT, reduceEqDiff, Nat.reduceBEq, reduceIte])
     refine (bad_ok).mono fun v hb ⟨eb, fb⟩ => ?_
     subst eb
     have xb := fb.next
     (try simp only [wk, wl, wx, reduceLT, reduceEqDiff, Nat.reduceBEq, reduceIte, t2])
     refine sat_store (br5.fix fb (by omega)) ty35 rfl (Nat.le_refl 2) (fault_one _) ?_
     intro hc bc nc fc
     have lc : loadP (E g) hc 35 (.ptr h.next 0) = some (.agg (faultV ((i : Int), 14))) := bc.agg ty35 rfl (Nat.le_refl 2)
     (try simp only [wk, wl, wx, reduceLT, reduceEqDiff, Nat.reduceBEq, reduceIte])
     refine WC.ret ?_
     (try simp only [wk, wl, wx, reduceLT, reduceEqDiff, Nat.reduceBEq, reduceIte, t2, lc])
     rw [← hD]
     exact ⟨⟨by omega, fun b hb => by rw [fc.same b (by omega), fb.same b (by omega), FT.same b hb.1]⟩, by trivial⟩
    ·by_cases c2 : G.addr < base
     ·rw [if_pos (.inr (.inl c2))] at hD
      (try simp (maxSteps := 2000000) only [wk, wl, wx, reduceLT, reduceEqDiff, Nat.reduceBEq, reduceIte, wd, Chk, and_true, true_and, t0, ieq_f c1, un, fa105_1, Nat.zero_add, m5.bk.at ty2 rfl, i64, decide_eq_true c2])
      refine WC.cond (b := true) (by (try simp only [wk, wl, wx, reduceLT, reduceEqDiff, Nat.reduceBEq, reduceIte]); (try simp); (try omega)) ?_
      (try simp only [wk, wl, wx, reduceLT, reduceEqDiff, Nat.reduceBEq, reduceIte])
      ((repeat refine WC.seq ?_); refine WC.run ?_)
      (try simp only [wk, wl, wx, reduceLT, reduceEqDiff, Nat.reduceBEq, reduceIte])
      refine (bad_ok).mono fun v hb ⟨eb, fb⟩ => ?_
      subst eb
      have xb := fb.next
      (try simp only [wk, wl, wx, reduceLT, reduceEqDiff, Nat.reduceBEq, reduceIte, t2])
      refine sat_store (br5.fix fb (by omega)) ty35 rfl (Nat.le_refl 2) (fault_one _) ?_
      intro hc bc nc fc
      have lc : loadP (E g) hc 35 (.ptr h.next 0) = some (.agg (faultV ((i : Int), 14))) := bc.agg ty35 rfl (Nat.le_refl 2)
      (try simp only [wk, wl, wx, reduceLT, reduceEqDiff, Nat.reduceBEq, reduceIte])
      refine WC.ret ?_
      (try simp only [wk, wl, wx, reduceLT, reduceEqDiff, Nat.reduceBEq, reduceIte, t2, lc])
      rw [← hD]
      exact ⟨⟨by omega, fun b hb => by rw [fc.same b (by omega), fb.same b (by omega), FT.same b hb.1]⟩, by trivial⟩
     ·by_cases c3 : base + code ≤ G.addr
      ·rw [if_pos (.inr (.inr c3))] at hD
       (try simp (maxSteps := 2000000) only [wk, wl, wx, reduceLT, reduceEqDiff, Nat.reduceBEq, reduceIte, wd, Chk, and_true, true_and, t0, ieq_f c1, un, fa105_1, fa105_5, fa32_2, Nat.zero_add, m5.bk.at ty2 rfl, i64, decide_eq_false c2, bin_add, ecw, decide_eq_true c3])
       refine WC.cond (b := true) (by (try simp only [wk, wl, wx, reduceLT, reduceEqDiff, Nat.reduceBEq, reduceIte]); (try simp); (try omega)) ?_
       (try simp only [wk, wl, wx, reduceLT, reduceEqDiff, Nat.reduceBEq, reduceIte])
       ((repeat refine WC.seq ?_); refine WC.run ?_)
       (try simp only [wk, wl, wx, reduceLT, reduceEqDiff, Nat.reduceBEq, reduceIte])
       refine (bad_ok).mono fun v hb ⟨eb, fb⟩ => ?_
       subst eb
       have xb := fb.next
       (try simp only [wk, wl, wx, reduceLT, reduceEqDiff, Nat.reduceBEq, reduceIte, t2])
       refine sat_store (br5.fix fb (by omega)) ty35 rfl (Nat.le_refl 2) (fault_one _) ?_
       intro hc bc nc fc
       have lc : loadP (E g) hc 35 (.ptr h.next 0) = some (.agg (faultV ((i : Int), 14))) := bc.agg ty35 rfl (Nat.le_refl 2)
       (try simp only [wk, wl, wx, reduceLT, reduceEqDiff, Nat.reduceBEq, reduceIte])
       refine WC.ret ?_
       (try simp only [wk, wl, wx, reduceLT, reduceEqDiff, Nat.reduceBEq, reduceIte, t2, lc])
       rw [← hD]
       exact ⟨⟨by omega, fun b hb => by rw [fc.same b (by omega), fb.same b (by omega), FT.same b hb.1]⟩, by trivial⟩
      ·rw [if_neg (by rintro (q | q | q); · exact c1 q
                      ·exact c2 q
                      ·exact c3 q)] at hD
       (try simp (maxSteps := 2000000) only [wk, wl, wx, reduceLT, reduceEqDiff, Nat.reduceBEq, reduceIte, wd, Chk, and_true, true_and, t0, ieq_f c1, un, fa105_1, fa105_5, fa32_2, Nat.zero_add, m5.bk.at ty2 rfl, i64, decide_eq_false c2, bin_add, ecw, decide_eq_false c3])
       refine WC.cond (b := false) (by (try simp only [wk, wl, wx, reduceLT, reduceEqDiff, Nat.reduceBEq, reduceIte]); (try simp); (try omega)) (WC.skip ?_)
       (try simp only [wk, wl, wx, reduceLT, reduceEqDiff, Nat.reduceBEq, reduceIte])
       ((repeat refine WC.seq ?_); refine WC.run ?_)
       (try simp only [wk, wl, wx, reduceLT, reduceEqDiff, Nat.reduceBEq, reduceIte, t0, fa105_5, fa32_3, Nat.zero_add])
       refine sat_store m5.bk ty2 rfl (show 5 + 3 + 1 ≤ 12 by decide) rfl ?_
       intro h6 b6 n6 f6
       have b6 : Has h6 kb (lkV ls base (.slice stb 0 L.length (.lit L.length)) db sb (imV base bb N code G.addr .nils .nils .nils)) := b6
       have br6 := br5.fix f6 (by omega)
       (try simp only [wk, wl, wx, reduceLT, reduceEqDiff, Nat.reduceBEq, reduceIte])
       refine WC.exit ?_
       (try simp only [wk, wl, wx, reduceLT, reduceEqDiff, Nat.reduceBEq, reduceIte, nb0])
       ((repeat refine WC.seq ?_); refine WC.run ?_)
       (try simp only [wk, wl, wx, reduceLT, reduceEqDiff, Nat.reduceBEq, reduceIte, build35_0, t2])
       refine sat_store br6 ty35 rfl (Nat.le_refl 2) (fault_one _) ?_
       intro h9 b9 n9 f9
       have l9 : loadP (E g) h9 35 (.ptr h.next 0) = some (.agg (faultV (0, 0))) := b9.agg ty35 rfl (Nat.le_refl 2)
       (try simp only [wk, wl, wx, reduceLT, reduceEqDiff, Nat.reduceBEq, reduceIte])
       refine WC.ret ?_
       (try simp only [wk, wl, wx, reduceLT, reduceEqDiff, Nat.reduceBEq, reduceIte, t2, l9])
       rw [← hD]
       exact ⟨⟨by omega, fun b hb => by rw [f9.same b (by omega), f6.same b hb.2, FT.same b hb.1]⟩, by trivial, b6.fix f9 (by omega)⟩
  ·refine WC.cond (b := false) (by (try simp only [wk, wl, wx, reduceLT, reduceEqDiff, Nat.reduceBEq, reduceIte]); (try simp); (try omega)) (WC.exit ?_)
   have : i = L.length := by omega
   subst this
   have hD0 : entP base code D 0 (L.map (·.2)) = .ok 0 := by
    rw [← hD, List.drop_eq_nil_of_le (by simp)]; rfl
   rw [hD0]
   (try simp only [wk, wl, wx, reduceLT, reduceEqDiff, Nat.reduceBEq, reduceIte])
   ((repeat refine WC.seq ?_); refine WC.run ?_)
   (try simp only [wk, wl, wx, reduceLT, reduceEqDiff, Nat.reduceBEq, reduceIte, build35_0, t2])
   refine sat_store brh ty35 rfl (Nat.le_refl 2) (fault_one _) ?_
   intro h9 b9 n9 f9
   have l9 : loadP (E g) h9 35 (.ptr h.next 0) = some (.agg (faultV (0, 0))) := b9.agg ty35 rfl (Nat.le_refl 2)
   (try simp only [wk, wl, wx, reduceLT, reduceEqDiff, Nat.reduceBEq, reduceIte])
   refine WC.ret ?_
   (try simp only [wk, wl, wx, reduceLT, reduceEqDiff, Nat.reduceBEq, reduceIte, t2, l9])
   exact ⟨⟨by omega, fun b hb => by rw [f9.same b (by omega), ff.same b (by omega), f1.same b hb.1]⟩, by trivial, mh.bk.fix f9 (by omega)⟩
 all_goals (try simp only [wk, wl, wx, reduceLT, reduceEqDiff, Nat.reduceBEq, reduceIte])
 all_goals (first | done | rfl | trivial | simp)
end Go.Proofs.OP
