/- Walks: PutUint32, (*linker).relocate. Printed by genL7.py. -/
import Derived.Test.YtloblhhnlaaajaaDoorX15
import Derived.Test.YtloblhhnlaaajaaDoorX37
import Derived.Test.YtloblhhnlaaajaaDoorX26
import Derived.Test.YtloblhhnlaaajaaDoorX21
set_option linter.unusedVariables false
set_option linter.unusedSimpArgs false
set_option linter.defProp false
set_option linter.unusedSimpArgs false
namespace Go.Proofs.OP
open Go Go.Ev
open Go.Proofs
open Nat (reduceLT reduceEqDiff)
variable {g : T (List V)}

def U4 (n : Int) : Nat := (n % 4294967296).toNat
theorem U4_lt (n : Int) : U4 n < 2 ^ 64 := by unfold U4; omega
theorem wrapu32_U (n : Int) : IntKind.u32.wrap n = (U4 n : Int) := by
 unfold IntKind.wrap U4
 simp only [IntKind.bits, IntKind.signed, Bool.false_and, Bool.false_eq_true, if_false]
 omega
theorem wrapu64_U4 (n : Int) : IntKind.u64.wrap (U4 n : Int) = (U4 n : Int) := by
 rw [wrapu64_U, U_nat (by unfold U4; omega)]
theorem put32_ok {h : H} {b l n' : Nat} {n : Int} {c' : Cp} {xs : List UInt8} (a : At h b 0 (xs.map u8)) (hb : b < h.next) (hl : l + 4 ≤ xs.length) (hn' : 4 ≤ n') :
  WF (E g) 91 [.agg [], .slice b l n' c', .int .u32 (U4 n : Nat)] h fun _ h' => At h' b 0 ((putAt xs l (leB (U4 n) 4)).map u8) ∧ Fix (fun c => c < h.next ∧ c ≠ b) h h' := by
 refine WF.enter fn91 rfl ?_
 ((repeat refine WC.seq ?_); refine WC.run ?_)
 (try simp only [wk, wl, wx, reduceLT, reduceEqDiff, Nat.reduceBEq, reduceIte])
 refine wop_box (v := .agg []) (by (try simp only [wk, wl, wx, reduceLT, reduceEqDiff, Nat.reduceBEq, reduceIte])) ?_
 intro h1 b1 n1 f1
 (try simp only [wk, wl, wx, reduceLT, reduceEqDiff, Nat.reduceBEq, reduceIte])
 ((repeat refine WC.seq ?_); refine WC.run ?_)
 (try simp only [wk, wl, wx, reduceLT, reduceEqDiff, Nat.reduceBEq, reduceIte, conv_int ty191 ty194 rfl, wrapu64_U4])
 refine (bput_ok (k := 4) (a.fix f1 hb) hl (by omega) hn' (U4_lt n)).mono fun v h2 ⟨a2, n2, f2⟩ => ?_
 (try simp only [wk, wl, wx, reduceLT, reduceEqDiff, Nat.reduceBEq, reduceIte])
 exact ⟨a2, ⟨by omega, fun c hc => by rw [f2.same c hc.2, f1.same c hc.1]⟩⟩

theorem val_ix {k : Nat} (hk : k < 3) : indexAddrV (E g) 185 (.gp 0 0) (.int .i64 k) = some (.gp 0 (0 + k * 2)) := by
 have h1 : Nat.blt k 3 = true := blt_true hk
 simp only [indexAddrV, ty185, natOf_nat, h1, cond_true, sizeOf_of ty184, Option.map_some]
theorem val_ld {h : H} {o : Nat} (hg : g.get 0 = some flagsV) : loadP (E g) h 4 (.gp 0 o) = (match nth flagsV o with | some v => bif v.one then some v else none | none => none) := by
 simp only [loadP, loadG, ty4, E_globs, hg]
 rfl
theorem symT_mem : ∀ {ys : List SymD} {S : Sm} {k : List UInt8} {s : SymD}, al k (symT ys S) = some s → s ∈ ys ∨ al k S = some s
 | [], S, k, s, h => .inr h
 | y :: r, S, k, s, h => by
  rcases symT_mem (ys := r) h with q | q
  ·exact .inl (List.mem_cons_of_mem _ q)
  ·rw [al_ia] at q
   split at q
   ·injection q with q
    exact .inl (by rw [q]; exact List.mem_cons_self ..)
   ·exact .inr q
def rlcN (base : Int) (os : List ObjD) (own : Sm) (D : Dm) (S : St) (i : Nat) (r : RelD) : Int :=
 if r.kind = 2 then r.add + (al r.sym S).getD 0 else
  if r.kind = 1 then r.add + adr base os D i ((al r.sym own).getD zSym) - (base + (stO os r.sec.toNat i : Nat) + r.off) else r.add + adr base os D i ((al r.sym own).getD zSym)
def rlcB (base : Int) (os : List ObjD) (own : Sm) (D : Dm) (S : St) (i : Nat) : List RelD → List UInt8 → List UInt8
 | [], bs => bs
 | r :: rest, bs => rlcB base os own D S i rest (putAt bs (stO os r.sec.toNat i + r.off.toNat) (leB (U4 (rlcN base os own D S i r)) 4))
def rlcL (base : Int) (os : List ObjD) (D : Dm) (S : St) : Nat → List ObjD → List UInt8 → List UInt8
 | _, [], bs => bs
 | i, o :: r, bs => rlcL base os D S (i + 1) r (rlcB base os (symT o.syms []) D S i o.rels bs)
def GoodR (os : List ObjD) (N i : Nat) (r : RelD) : Prop := 1 ≤ r.sec ∧ r.sec ≤ 2 ∧ 0 ≤ r.off ∧ stO os r.sec.toNat i + r.off.toNat + 4 ≤ N ∧ 0 ≤ r.kind ∧ r.kind < 3 ∧ -(2 ^ 31) ≤ r.add ∧ r.add ≤ 2 ^ 31
def GoodS (s : SymD) : Prop := 0 ≤ s.sec ∧ s.sec ≤ 2 ∧ 0 ≤ s.off ∧ s.off ≤ 16384
theorem adr_bound {base : Int} {os : List ObjD} {D : Dm} {i n : Nat} {s : SymD} (z : Lsz os base n) (hi : i < n) (hA : ∀ p ∈ D, 0 ≤ p.2.addr ∧ p.2.addr ≤ 2 ^ 40) (hs : s.sec ≠ 0 → GoodS s) : 0 ≤ adr base os D i s ∧ adr base os D i s ≤ 2 ^ 40 := by
 have hb0 := z.bas.pos
 have hb1 := z.bas.most
 unfold adr
 split
 ·rename_i q
  obtain ⟨q1, q2, q3, q4⟩ := hs q.1
  have := z.st s.sec.toNat i (by have := q.1; omega) (by omega) hi
  omega
 ·cases hal : al s.name D with
  | none => exact ⟨Int.le_refl _, by decide⟩
  | some G => exact hA _ (al_mem hal)

set_option maxRecDepth 100000 in
set_option maxHeartbeats 32000000 in
theorem relocate_ok {n0 kb db sb stb bb N : Nat} {h : H} {ls x y w : V} {L : List (Oc × ObjD)} {base code entry : Int} {D : Dm} {S : St} {bs0 : List UInt8} (hg : g.get 0 = some flagsV) (hn0 : n0 ≤ h.next) (a : Obs g h (· < n0) ls L) (fL : ∀ p ∈ L, Fits p.2)
  (m : LkM g h kb db sb stb ls L.length (L.map (·.2)) base D S (imV base bb N code entry x y w)) (z : Lsz (L.map (·.2)) base L.length) (k0 : n0 ≤ kb) (b0 : n0 ≤ bb) (hbb : bb < h.next) (bk : bb ≠ kb) (bd : bb ≠ db) (bsb : bb ≠ sb) (bst : bb ≠ stb) (hA : ∀ p ∈ D, 0 ≤ p.2.addr ∧ p.2.addr ≤ 2 ^ 40) (hS : ∀ p ∈ S, 0 ≤ p.2 ∧ p.2 ≤ 2 ^ 40)
  (bb0 : At h bb 0 (bs0.map u8)) (l0 : bs0.length = N) (hN : N ≤ 2 ^ 30) (gR : ∀ i (hi : i < L.length), ∀ r ∈ L[i].2.rels, GoodR (L.map (·.2)) N i r) (gS : ∀ i (hi : i < L.length), ∀ s ∈ L[i].2.syms, GoodS s) :
  WF (E g) 36 [.ptr kb 0] h fun _ h' => Fix (fun b => b < h.next ∧ b ≠ bb) h h' ∧ At h' bb 0 ((rlcL base (L.map (·.2)) D S 0 (L.map (·.2)) bs0).map u8) := by
 have hb0 := z.bas.pos
 have hb1 := z.bas.most
 have lL := z.few
 have kn := m.kn
 have dn := m.dn
 have sn := m.sn
 have tn := m.tn
 generalize hos : L.map (·.2) = os at *
 refine WF.enter fn36 rfl ?_
 ((repeat refine WC.seq ?_); refine WC.run ?_)
 (try simp only [wk, wl, wx, reduceLT, reduceEqDiff, Nat.reduceBEq, reduceIte, fa105_0, Nat.zero_add, m.bk.at ty38 rfl, Sl.lenB a.sl ty38 rfl])
 (repeat refine WC.seq ?_)
 refine WC.block ?_
 refine WC.while (fun mm fr hh => ∃ ts i bs, fr = ⟨ts, 92, [], 36, none⟩ ∧ Fix (fun b => b < h.next ∧ b ≠ bb) h hh ∧ mm = L.length - i ∧ i ≤ L.length ∧ ts.get 0 = some (.ptr kb 0) ∧ ts.get 12 = some ls ∧ ts.get 13 = some (.int .i64 L.length) ∧ ts.get 14 = some (.int .i64 i) ∧ At hh bb 0 (bs.map u8) ∧ bs.length = N ∧ rlcL base os D S i (os.drop i) bs = rlcL base os D S 0 os bs0) ?_ ⟨_, 0, bs0, rfl, Fix.refl _ _, rfl, by omega, ?_, ?_, ?_, ?_, bb0, l0, rfl⟩
 ·rintro mm fr hh ⟨ts, i, bs, rfl, ff, rfl, hi, t0, t12, t13, t14, bbh, lbs, hB⟩
  have xh := ff.next
  have ah := a.fix ff fun b hb => by omega
  have mh := m.fix ff ⟨by omega, by omega⟩ ⟨by omega, by omega⟩ ⟨by omega, by omega⟩ ⟨by omega, by omega⟩
  ((repeat refine WC.seq ?_); refine WC.run ?_)
  (try simp only [wk, wl, wx, reduceLT, reduceEqDiff, Nat.reduceBEq, reduceIte, t13, t14])
  (repeat refine WC.seq ?_)
  by_cases hlt : i < L.length
  ·refine WC.cond (b := true) (by (try simp only [wk, wl, wx, reduceLT, reduceEqDiff, Nat.reduceBEq, reduceIte]); (try simp); (try omega)) (WC.skip ?_)
   (try simp only [wk, wl, wx, reduceLT, reduceEqDiff, Nat.reduceBEq, reduceIte])
   obtain ⟨p, p1, p2⟩ := ah.sl.at (fun _ => rfl) ty38 rfl ty77 rfl (by decide) rfl hlt
   have p2 := p2 hh fun _ _ _ _ _ => rfl
   have hmem := List.getElem_mem hlt
   have obi := ah.ob _ hmem
   have fit := fL _ hmem
   have fre := fit.rels
   have hoi : os[i]'(by rw [z.len]; exact hlt) = L[i].2 := by subst hos; simp
   rw [drop_cons (by rw [z.len]; exact hlt), hoi] at hB
   simp only [rlcL] at hB
   have gRi := gR i hlt
   have gSi := gS i hlt
   (repeat refine WC.seq ?_)
   refine WC.block ?_
   ((repeat refine WC.seq ?_); refine WC.run ?_)
   (try simp only [wk, wl, wx, reduceLT, reduceEqDiff, Nat.reduceBEq, reduceIte, t12, t14, p1, p2])
   refine wop_alloc ty77 ?_
   intro h4 b4 n4 f4
   (try simp only [wk, wl, wx, reduceLT, reduceEqDiff, Nat.reduceBEq, reduceIte])
   refine sat_store b4 ty77 rfl (Nat.le_refl 7) (Oc.one obi) ?_
   intro h5 b5 n5 f5
   have c5 : Has h5 hh.next (L[i].1.cells L[i].2) := b5
   have b5 : Has h5 hh.next [.str L[i].2.name, L[i].1.code, L[i].1.data, L[i].1.syms, L[i].1.rels, L[i].1.needs, .str L[i].2.entry] := b5
   have F5 : Kept hh h5 := ⟨by omega, fun b hb => by rw [f5.same b (by omega), f4.same b hb]⟩
   have ob5 := obi.fix F5 fun b hb => by omega
   have l5 : loadP (E g) h5 77 (.ptr hh.next 0) = some (.agg (L[i].1.cells L[i].2)) := c5.agg ty77 rfl (Nat.le_refl 7)
   (try simp only [wk, wl, wx, reduceLT, reduceEqDiff, Nat.reduceBEq, reduceIte])
   ((repeat refine WC.seq ?_); refine WC.run ?_)
   (try simp only [wk, wl, wx, reduceLT, reduceEqDiff, Nat.reduceBEq, reduceIte, l5])
   refine (symbols_ok (ob5.up fun b hb => by omega) fit).mono fun v h6 ⟨ob, e6, o1, o2, mo, f6⟩ => ?_
   subst e6
   have x6 := f6.next
   have F6 : Kept hh h6 := ⟨by omega, fun b hb => by rw [f6.same b (by omega), F5.same b hb]⟩
   have m6 := mh.kept F6
   have bb6 := bbh.fix F6 (by omega)
   have b6 := b5.fix f6 (by omega)
   have ob6 := ob5.fix f6 fun b hb => by omega
   have gown : ∀ k s, al k (symT L[i].2.syms []) = some s → GoodS s := fun k s hk => by
    rcases symT_mem hk with q | q
    ·exact gSi s q
    ·cases q
   generalize hown : symT L[i].2.syms [] = own at mo hB gown
   have l6 : loadP (E g) h6 75 (.ptr hh.next 4) = some L[i].1.rels := b6.at ty75 rfl 4
   (try simp only [wk, wl, wx, reduceLT, reduceEqDiff, Nat.reduceBEq, reduceIte])
   ((repeat refine WC.seq ?_); refine WC.run ?_)
   (try simp only [wk, wl, wx, reduceLT, reduceEqDiff, Nat.reduceBEq, reduceIte, fa77_4, Nat.zero_add, l6, Sl.lenB ob6.rels ty75 rfl])
   (repeat refine WC.seq ?_)
   refine WC.block ?_
   refine WC.while (fun mm fr hj => ∃ ts j bs2, fr = ⟨ts, 92, [], 36, none⟩ ∧ Fix (fun b => b < h6.next ∧ b ≠ bb) h6 hj ∧ mm = L[i].2.rels.length - j ∧ j ≤ L[i].2.rels.length ∧ ts.get 0 = some (.ptr kb 0) ∧ ts.get 2 = some (.int .i64 i) ∧ ts.get 4 = some (.map ob) ∧ ts.get 12 = some ls ∧ ts.get 13 = some (.int .i64 L.length) ∧ ts.get 14 = some (.int .i64 i) ∧ ts.get 22 = some L[i].1.rels ∧ ts.get 23 = some (.int .i64 L[i].2.rels.length) ∧ ts.get 24 = some (.int .i64 j) ∧ At hj bb 0 (bs2.map u8) ∧ bs2.length = N ∧ rlcB base os own D S i (L[i].2.rels.drop j) bs2 = rlcB base os own D S i L[i].2.rels bs) ?_ ⟨_, 0, bs, rfl, Fix.refl _ _, rfl, by omega, ?_, ?_, ?_, ?_, ?_, ?_, ?_, ?_, ?_, bb6, lbs, rfl⟩
   ·rintro mm fr hj ⟨ts, j, bs2, rfl, fj, rfl, hjl, t0, t2, t4, t12, t13, t14, t22, t23, t24, bbj, lb2, hR⟩
    have xj := fj.next
    have obj := ob6.fix fj fun b hb => by omega
    have mj := m6.fix fj ⟨by omega, by omega⟩ ⟨by omega, by omega⟩ ⟨by omega, by omega⟩ ⟨by omega, by omega⟩
    have moj := mo.fix fj ⟨by omega, by omega⟩
    ((repeat refine WC.seq ?_); refine WC.run ?_)
    (try simp only [wk, wl, wx, reduceLT, reduceEqDiff, Nat.reduceBEq, reduceIte, t23, t24])
    (repeat refine WC.seq ?_)
    by_cases hlj : j < L[i].2.rels.length
    ·refine WC.cond (b := true) (by (try simp only [wk, wl, wx, reduceLT, reduceEqDiff, Nat.reduceBEq, reduceIte]); (try simp); (try omega)) (WC.skip ?_)
     (try simp only [wk, wl, wx, reduceLT, reduceEqDiff, Nat.reduceBEq, reduceIte])
     obtain ⟨p, p1, p2⟩ := obj.rels.at relV_length ty75 rfl ty97 rfl (by decide) rfl hlj
     have p2 := p2 hj fun _ _ _ _ _ => rfl
     have gr := gRi _ (List.getElem_mem hlj)
     rw [drop_cons hlj] at hR
     generalize hr : L[i].2.rels[j] = r at p2 gr hR
     simp only [rlcB] at hR
     obtain ⟨g1, g2, g3, g4, g5, g6, g7, g8⟩ := gr
     obtain ⟨sec, hse⟩ : ∃ sec : Nat, r.sec = (sec : Int) := ⟨r.sec.toNat, by omega⟩
     obtain ⟨off, hof⟩ : ∃ off : Nat, r.off = (off : Int) := ⟨r.off.toNat, by omega⟩
     have e2 : r.sec.toNat = sec := by omega
     have e3 : r.off.toNat = off := by omega
     rw [e2, e3] at g4 hR
     have hst := z.st sec i (by omega) (by omega) hlt
     (repeat refine WC.seq ?_)
     refine WC.block ?_
     ((repeat refine WC.seq ?_); refine WC.run ?_)
     (try simp only [wk, wl, wx, reduceLT, reduceEqDiff, Nat.reduceBEq, reduceIte, t22, t24, p1, p2])
     refine wop_alloc ty97 ?_
     intro h7 b7 n7 f7
     (try simp only [wk, wl, wx, reduceLT, reduceEqDiff, Nat.reduceBEq, reduceIte])
     refine sat_store b7 ty97 rfl (Nat.le_refl 5) (relV_one r) ?_
     intro h8 b8 n8 f8
     have b8 : Has h8 hj.next [i64 r.sec, i64 r.off, i64 r.kind, .str r.sym, i64 r.add] := b8
     have F8 : Kept hj h8 := ⟨by omega, fun b hb => by rw [f8.same b (by omega), f7.same b hb]⟩
     have m8 := mj.kept F8
     have mo8 := moj.fix F8 (by omega)
     have bb8 := bbj.fix F8 (by omega)
     have s3 := start_at (g := g) m8.bs hlt (show 1 ≤ sec by omega) (show sec ≤ 2 by omega)
     have ew : IntKind.i64.wrap (base + (stO os sec i : Nat) + r.off) = base + (stO os sec i : Nat) + off := by rw [wrap64 (by omega) (by omega), hof]
     have ep : IntKind.i64.wrap (base + (stO os sec i : Nat) + off - base) = ((stO os sec i + off : Nat) : Int) := by rw [wrap64 (by omega) (by omega)]; omega
     obtain ⟨c', hsl⟩ := slice_from (E := E g) (b := bb) (o := 0) (k := .i64) ty27 rfl (sizeOf_of ty5) (Or.inl rfl) (show stO os sec i + off < N by omega)
     simp only [Nat.zero_add, Nat.mul_one] at hsl
     (try simp only [wk, wl, wx, reduceLT, reduceEqDiff, Nat.reduceBEq, reduceIte])
     ((repeat refine WC.seq ?_); refine WC.draw (plans := pl36_7) (by kernel_rfl) ?_; simp only [pl36_7, List.mem_cons, List.not_mem_nil, or_false, forall_eq_or_imp, forall_eq])
     (try simp (maxSteps := 2000000) only [wk, wl, wx, reduceLT, reduceEqDiff, Nat.reduceBEq, reduceIte, wd, Chk, and_true, true_and, t0, t2, fa105_2, fa97_0, fa97_1, Nat.zero_add, m8.bk.at ty103 rfl, b8.at ty3 rfl, b8.at ty2 rfl, hse, i64, idx_slice ty103 rfl ty126 hlt, start_ix (show sec ≤ 2 by omega), s3, bin_add, ew])
     ((repeat refine WC.seq ?_); refine WC.run ?_)
     (try simp only [wk, wl, wx, reduceLT, reduceEqDiff, Nat.reduceBEq, reduceIte, fa97_4, Nat.zero_add, b8.at ty2 rfl])
     ((repeat refine WC.seq ?_); refine WC.run ?_)
     have lk8 := tab1 (E := E g) (z := (0 : Int)) (k := r.sym) m8.ms ty102 rfl ty9 rfl ty2 rfl
     have lo8 := tab1 (E := E g) (z := zSym) (k := r.sym) mo8 ty176 rfl ty9 rfl ty95 rfl
     have hsb : 0 ≤ (al r.sym S).getD 0 ∧ (al r.sym S).getD 0 ≤ 2 ^ 40 := by
      cases hal : al r.sym S with
      | none => exact ⟨Int.le_refl _, by decide⟩
      | some v => exact hS _ (al_mem hal)
     have gsy : ((al r.sym own).getD zSym).sec ≠ 0 → GoodS ((al r.sym own).getD zSym) := fun hne => by
      cases hal : al r.sym own with
      | none => rw [hal] at hne; exact absurd rfl hne
      | some s => exact gown _ _ hal
     have hab := adr_bound (D := D) z hlt hA gsy
     have ladr : (sV ((al r.sym own).getD zSym)) = .agg (symV ((al r.sym own).getD zSym)) := rfl
     rw [ladr] at lo8
     have hN1 : rlcN base os own D S i r = (if r.kind = 2 then r.add + (al r.sym S).getD 0 else if r.kind = 1 then r.add + adr base os D i ((al r.sym own).getD zSym) - (base + (stO os sec i : Nat) + off) else r.add + adr base os D i ((al r.sym own).getD zSym)) := by unfold rlcN; rw [e2, hof]
     rw [hN1] at hR
     have l8' : ∀ nn : Nat, (putAt bs2 (stO os sec i + off) (leB nn 4)).length = N := fun nn => by rw [putAt_length (by rw [leB_length]; omega), lb2]
     have k2 : r.kind = 2 ∨ r.kind = 1 ∨ r.kind = 0 := by omega
     have hgs : (V.int .i64 ((2 : Nat) : Int)) = .int .i64 2 := rfl
     rcases k2 with hk | hk | hk
     ·rw [if_pos hk] at hR
      (try simp only [wk, wl, wx, reduceLT, reduceEqDiff, Nat.reduceBEq, reduceIte, fa97_2, Nat.zero_add, b8.at ty3 rfl, hk, i64, val_ix (g := g) (show 2 < 3 by decide), fg184_0, val_ld hg])
      have v2 := val_ix (g := g) (k := 2) (by decide)
      have v2 : indexAddrV (E g) 185 (.gp 0 0) (.int .i64 2) = some (.gp 0 4) := v2
      (try simp only [wk, wl, wx, reduceLT, reduceEqDiff, Nat.reduceBEq, reduceIte, v2, fg184_0, val_ld hg, flagsV, nth, V.one])
      (repeat refine WC.seq ?_)
      refine WC.cond (b := true) (by (try simp only [wk, wl, wx, reduceLT, reduceEqDiff, Nat.reduceBEq, reduceIte]); (try simp); (try omega)) ?_
      (try simp only [wk, wl, wx, reduceLT, reduceEqDiff, Nat.reduceBEq, reduceIte])
      ((repeat refine WC.seq ?_); refine WC.draw (plans := pl36_10) (by kernel_rfl) ?_; simp only [pl36_10, List.mem_cons, List.not_mem_nil, or_false, forall_eq_or_imp, forall_eq])
      (try simp (maxSteps := 2000000) only [wk, wl, wx, reduceLT, reduceEqDiff, Nat.reduceBEq, reduceIte, wd, Chk, and_true, true_and, t0, fa105_4, fa97_3, Nat.zero_add, m8.bk.at ty102 rfl, b8.at ty9 rfl, o_lookup, w_lookup, lk8, i64, bin_add])
      ((repeat refine WC.seq ?_); refine WC.run ?_)
      (try simp only [wk, wl, wx, reduceLT, reduceEqDiff, Nat.reduceBEq, reduceIte, fa97_2, Nat.zero_add, b8.at ty3 rfl, hk, i64, v2, fg184_1, val_ld hg, flagsV, nth, V.one])
      (repeat refine WC.seq ?_)
      refine WC.cond (b := false) (by (try simp only [wk, wl, wx, reduceLT, reduceEqDiff, Nat.reduceBEq, reduceIte]); (try simp); (try omega)) (WC.skip ?_)
      (try simp only [wk, wl, wx, reduceLT, reduceEqDiff, Nat.reduceBEq, reduceIte])
      have eX : IntKind.i64.wrap (r.add + (al r.sym S).getD 0) = r.add + (al r.sym S).getD 0 := wrap64 (by omega) (by omega)
      rw [eX]
      ((repeat refine WC.seq ?_); refine WC.draw (plans := pl36_14) (by kernel_rfl) ?_; simp only [pl36_14, List.mem_cons, List.not_mem_nil, or_false, forall_eq_or_imp, forall_eq])
      (try simp (maxSteps := 2000000) only [wk, wl, wx, reduceLT, reduceEqDiff, Nat.reduceBEq, reduceIte, wd, Chk, and_true, true_and, t0, fa105_1, fa105_5, fa32_1, Nat.zero_add, m8.bk.at ty2 rfl, m8.bk.at ty27 rfl, i64, bin_sub, ep, hsl, conv_int ty2 ty191 rfl, wrapu32_U])
      refine (le_ok).mono fun v hA1 ⟨eA, fA⟩ => ?_
      subst eA
      have xA := fA.next
      have mA := m8.kept fA
      (try simp (maxSteps := 2000000) only [wk, wl, wx, reduceLT, reduceEqDiff, Nat.reduceBEq, reduceIte, wd, Chk, and_true, true_and, t0, fa105_1, fa105_5, fa32_1, Nat.zero_add, mA.bk.at ty2 rfl, mA.bk.at ty27 rfl, i64, bin_sub, ep, hsl, conv_int ty2 ty191 rfl, wrapu32_U])
      refine (put32_ok (bb8.fix fA (by omega)) (by omega) (show stO os sec i + off + 4 ≤ bs2.length by omega) (by omega)).mono fun v hB1 ⟨aB, fB⟩ => ?_
      have xB := fB.next
      (try simp (maxSteps := 2000000) only [wk, wl, wx, reduceLT, reduceEqDiff, Nat.reduceBEq, reduceIte, wd, Chk, and_true, true_and])
      ((repeat refine WC.seq ?_); refine WC.run ?_)
      (try simp only [wk, wl, wx, reduceLT, reduceEqDiff, Nat.reduceBEq, reduceIte, t24, bin_add])
      refine ⟨_, ?_, _, j + 1, _, rfl, ⟨by omega, fun b hb => by rw [fB.same b ⟨by omega, hb.2⟩, fA.same b (by omega), F8.same b (by omega), fj.same b hb]⟩, rfl, by omega, ?_, ?_, ?_, ?_, ?_, ?_, ?_, ?_, ?_, aB, l8' _, hR⟩
      ·omega
      all_goals (try simp only [wk, wl, wx, reduceLT, reduceEqDiff, Nat.reduceBEq, reduceIte, t0, t2, t4, t12, t13, t14, t22, t23])
      rw [wrap64 (by omega) (by omega)]; rfl
     ·rw [if_neg (by omega), if_pos hk] at hR
      have v1 : indexAddrV (E g) 185 (.gp 0 0) (.int .i64 1) = some (.gp 0 2) := val_ix (g := g) (k := 1) (by decide)
      (try simp only [wk, wl, wx, reduceLT, reduceEqDiff, Nat.reduceBEq, reduceIte, fa97_2, Nat.zero_add, b8.at ty3 rfl, hk, i64, v1, fg184_0, val_ld hg, flagsV, nth, V.one])
      (repeat refine WC.seq ?_)
      refine WC.cond (b := false) (by (try simp only [wk, wl, wx, reduceLT, reduceEqDiff, Nat.reduceBEq, reduceIte]); (try simp); (try omega)) ?_
      (try simp only [wk, wl, wx, reduceLT, reduceEqDiff, Nat.reduceBEq, reduceIte])
      ((repeat refine WC.seq ?_); refine WC.run ?_)
      (try simp only [wk, wl, wx, reduceLT, reduceEqDiff, Nat.reduceBEq, reduceIte, t0, t2, t4, fa97_3, Nat.zero_add, b8.at ty9 rfl, w_lookup, lo8])
      refine (address_ok m8 z hlt (fun q _ => by obtain ⟨q1, q2, q3, q4⟩ := gsy q; omega)).mono fun v h9 ⟨e9, f9⟩ => ?_
      subst e9
      have x9 := f9.next
      (try simp only [wk, wl, wx, reduceLT, reduceEqDiff, Nat.reduceBEq, reduceIte, i64, bin_add])
      have b9 := b8.fix f9 (by omega)
      ((repeat refine WC.seq ?_); refine WC.run ?_)
      (try simp only [wk, wl, wx, reduceLT, reduceEqDiff, Nat.reduceBEq, reduceIte, fa97_2, Nat.zero_add, b9.at ty3 rfl, hk, i64, v1, fg184_1, val_ld hg, flagsV, nth, V.one])
      (repeat refine WC.seq ?_)
      refine WC.cond (b := true) (by (try simp only [wk, wl, wx, reduceLT, reduceEqDiff, Nat.reduceBEq, reduceIte]); (try simp); (try omega)) ?_
      (try simp only [wk, wl, wx, reduceLT, reduceEqDiff, Nat.reduceBEq, reduceIte])
      ((repeat refine WC.seq ?_); refine WC.run ?_)
      (try simp only [wk, wl, wx, reduceLT, reduceEqDiff, Nat.reduceBEq, reduceIte, bin_sub])
      have eX : IntKind.i64.wrap (IntKind.i64.wrap (r.add + adr base os D i ((al r.sym own).getD zSym)) - (base + (stO os sec i : Nat) + off)) = r.add + adr base os D i ((al r.sym own).getD zSym) - (base + (stO os sec i : Nat) + off) := by rw [wrap64 (n := r.add + adr base os D i ((al r.sym own).getD zSym)) (by omega) (by omega), wrap64 (by omega) (by omega)]
      rw [eX]
      have m9 := m8.kept f9
      have bb9 := bb8.fix f9 (by omega)
      ((repeat refine WC.seq ?_); refine WC.draw (plans := pl36_14) (by kernel_rfl) ?_; simp only [pl36_14, List.mem_cons, List.not_mem_nil, or_false, forall_eq_or_imp, forall_eq])
      (try simp (maxSteps := 2000000) only [wk, wl, wx, reduceLT, reduceEqDiff, Nat.reduceBEq, reduceIte, wd, Chk, and_true, true_and, t0, fa105_1, fa105_5, fa32_1, Nat.zero_add, m9.bk.at ty2 rfl, m9.bk.at ty27 rfl, i64, bin_sub, ep, hsl, conv_int ty2 ty191 rfl, wrapu32_U])
      refine (le_ok).mono fun v hA1 ⟨eA, fA⟩ => ?_
      subst eA
      have xA := fA.next
      have mA := m9.kept fA
      (try simp (maxSteps := 2000000) only [wk, wl, wx, reduceLT, reduceEqDiff, Nat.reduceBEq, reduceIte, wd, Chk, and_true, true_and, t0, fa105_1, fa105_5, fa32_1, Nat.zero_add, mA.bk.at ty2 rfl, mA.bk.at ty27 rfl, i64, bin_sub, ep, hsl, conv_int ty2 ty191 rfl, wrapu32_U])
      refine (put32_ok (bb9.fix fA (by omega)) (by omega) (show stO os sec i + off + 4 ≤ bs2.length by omega) (by omega)).mono fun v hB1 ⟨aB, fB⟩ => ?_
      have xB := fB.next
      (try simp (maxSteps := 2000000) only [wk, wl, wx, reduceLT, reduceEqDiff, Nat.reduceBEq, reduceIte, wd, Chk, and_true, true_and])
      ((repeat refine WC.seq ?_); refine WC.run ?_)
      (try simp only [wk, wl, wx, reduceLT, reduceEqDiff, Nat.reduceBEq, reduceIte, t24, bin_add])
      refine ⟨_, ?_, _, j + 1, _, rfl, ⟨by omega, fun b hb => by rw [fB.same b ⟨by omega, hb.2⟩, fA.same b (by omega), f9.same b (by omega), F8.same b (by omega), fj.same b hb]⟩, rfl, by omega, ?_, ?_, ?_, ?_, ?_, ?_, ?_, ?_, ?_, aB, l8' _, hR⟩
      ·omega
      all_goals (try simp only [wk, wl, wx, reduceLT, reduceEqDiff, Nat.reduceBEq, reduceIte, t0, t2, t4, t12, t13, t14, t22, t23])
      rw [wrap64 (by omega) (by omega)]; rfl
     ·rw [if_neg (by omega), if_neg (by omega)] at hR
      have v0 : indexAddrV (E g) 185 (.gp 0 0) (.int .i64 0) = some (.gp 0 0) := val_ix (g := g) (k := 0) (by decide)
      (try simp only [wk, wl, wx, reduceLT, reduceEqDiff, Nat.reduceBEq, reduceIte, fa97_2, Nat.zero_add, b8.at ty3 rfl, hk, i64, v0, fg184_0, val_ld hg, flagsV, nth, V.one])
      (repeat refine WC.seq ?_)
      refine WC.cond (b := false) (by (try simp only [wk, wl, wx, reduceLT, reduceEqDiff, Nat.reduceBEq, reduceIte]); (try simp); (try omega)) ?_
      (try simp only [wk, wl, wx, reduceLT, reduceEqDiff, Nat.reduceBEq, reduceIte])
      ((repeat refine WC.seq ?_); refine WC.run ?_)
      (try simp only [wk, wl, wx, reduceLT, reduceEqDiff, Nat.reduceBEq, reduceIte, t0, t2, t4, fa97_3, Nat.zero_add, b8.at ty9 rfl, w_lookup, lo8])
      refine (address_ok m8 z hlt (fun q _ => by obtain ⟨q1, q2, q3, q4⟩ := gsy q; omega)).mono fun v h9 ⟨e9, f9⟩ => ?_
      subst e9
      have x9 := f9.next
      (try simp only [wk, wl, wx, reduceLT, reduceEqDiff, Nat.reduceBEq, reduceIte, i64, bin_add])
      have b9 := b8.fix f9 (by omega)
      ((repeat refine WC.seq ?_); refine WC.run ?_)
      (try simp only [wk, wl, wx, reduceLT, reduceEqDiff, Nat.reduceBEq, reduceIte, fa97_2, Nat.zero_add, b9.at ty3 rfl, hk, i64, v0, fg184_1, val_ld hg, flagsV, nth, V.one])
      (repeat refine WC.seq ?_)
      refine WC.cond (b := false) (by (try simp only [wk, wl, wx, reduceLT, reduceEqDiff, Nat.reduceBEq, reduceIte]); (try simp); (try omega)) (WC.skip ?_)
      (try simp only [wk, wl, wx, reduceLT, reduceEqDiff, Nat.reduceBEq, reduceIte])
      have eX : IntKind.i64.wrap (r.add + adr base os D i ((al r.sym own).getD zSym)) = r.add + adr base os D i ((al r.sym own).getD zSym) := wrap64 (by omega) (by omega)
      rw [eX]
      have m9 := m8.kept f9
      have bb9 := bb8.fix f9 (by omega)
      ((repeat refine WC.seq ?_); refine WC.draw (plans := pl36_14) (by kernel_rfl) ?_; simp only [pl36_14, List.mem_cons, List.not_mem_nil, or_false, forall_eq_or_imp, forall_eq])
      (try simp (maxSteps := 2000000) only [wk, wl, wx, reduceLT, reduceEqDiff, Nat.reduceBEq, reduceIte, wd, Chk, and_true, true_and, t0, fa105_1, fa105_5, fa32_1, Nat.zero_add, m9.bk.at ty2 rfl, m9.bk.at ty27 rfl, i64, bin_sub, ep, hsl, conv_int ty2 ty191 rfl, wrapu32_U])
      refine (le_ok).mono fun v hA1 ⟨eA, fA⟩ => ?_
      subst eA
      have xA := fA.next
      have mA := m9.kept fA
      (try simp (maxSteps := 2000000) only [wk, wl, wx, reduceLT, reduceEqDiff, Nat.reduceBEq, reduceIte, wd, Chk, and_true, true_and, t0, fa105_1, fa105_5, fa32_1, Nat.zero_add, mA.bk.at ty2 rfl, mA.bk.at ty27 rfl, i64, bin_sub, ep, hsl, conv_int ty2 ty191 rfl, wrapu32_U])
      refine (put32_ok (bb9.fix fA (by omega)) (by omega) (show stO os sec i + off + 4 ≤ bs2.length by omega) (by omega)).mono fun v hB1 ⟨aB, fB⟩ => ?_
      have xB := fB.next
      (try simp (maxSteps := 2000000) only [wk, wl, wx, reduceLT, reduceEqDiff, Nat.reduceBEq, reduceIte, wd, Chk, and_true, true_and])
      ((repeat refine WC.seq ?_); refine WC.run ?_)
      (try simp only [wk, wl, wx, reduceLT, reduceEqDiff, Nat.reduceBEq, reduceIte, t24, bin_add])
      refine ⟨_, ?_, _, j + 1, _, rfl, ⟨by omega, fun b hb => by rw [fB.same b ⟨by omega, hb.2⟩, fA.same b (by omega), f9.same b (by omega), F8.same b (by omega), fj.same b hb]⟩, rfl, by omega, ?_, ?_, ?_, ?_, ?_, ?_, ?_, ?_, ?_, aB, l8' _, hR⟩
      ·omega
      all_goals (try simp only [wk, wl, wx, reduceLT, reduceEqDiff, Nat.reduceBEq, reduceIte, t0, t2, t4, t12, t13, t14, t22, t23])
      rw [wrap64 (by omega) (by omega)]; rfl
    ·refine WC.cond (b := false) (by (try simp only [wk, wl, wx, reduceLT, reduceEqDiff, Nat.reduceBEq, reduceIte]); (try simp); (try omega)) (WC.exit ?_)
     have : j = L[i].2.rels.length := by omega
     subst this
     rw [List.drop_length] at hR
     simp only [rlcB] at hR
     rw [← hR] at hB
     (try simp only [wk, wl, wx, reduceLT, reduceEqDiff, Nat.reduceBEq, reduceIte, nb2])
     ((repeat refine WC.seq ?_); refine WC.run ?_)
     (try simp only [wk, wl, wx, reduceLT, reduceEqDiff, Nat.reduceBEq, reduceIte, t14, bin_add])
     refine ⟨_, ?_, _, i + 1, bs2, rfl, ⟨by omega, fun b hb => by rw [fj.same b ⟨by omega, hb.2⟩, F6.same b (by omega), ff.same b hb]⟩, rfl, by omega, ?_⟩
     ·omega
     (try simp only [wk, wl, wx, reduceLT, reduceEqDiff, Nat.reduceBEq, reduceIte, t0, t12, t13])
     refine ⟨trivial, trivial, trivial, ?_, bbj, lb2, hB⟩
     rw [wrap64 (by omega) (by omega)]; rfl
   all_goals (try simp only [wk, wl, wx, reduceLT, reduceEqDiff, Nat.reduceBEq, reduceIte, t0, t12, t13, t14])
   all_goals (first | done | rfl | trivial | simp)
  ·refine WC.cond (b := false) (by (try simp only [wk, wl, wx, reduceLT, reduceEqDiff, Nat.reduceBEq, reduceIte]); (try simp); (try omega)) (WC.exit ?_)
   have : i = L.length := by omega
   subst this
   rw [List.drop_eq_nil_of_le (by rw [z.len]; exact Nat.le_refl _)] at hB
   simp only [rlcL] at hB
   subst hB
   (try simp only [wk, wl, wx, reduceLT, reduceEqDiff, Nat.reduceBEq, reduceIte])
   exact ⟨ff, bbh⟩
 all_goals (try simp only [wk, wl, wx, reduceLT, reduceEqDiff, Nat.reduceBEq, reduceIte])
 all_goals (first | done | rfl | trivial | simp)
end Go.Proofs.OP
