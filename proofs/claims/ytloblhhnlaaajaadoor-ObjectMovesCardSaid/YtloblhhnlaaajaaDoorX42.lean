/- The plain law: linking at another base moves the addresses. -/
import Derived.Test.YtloblhhnlaaajaaDoorX15
import Derived.Test.YtloblhhnlaaajaaDoorX41
import Derived.Test.YtloblhhnlaaajaaDoorX23
import Derived.Test.YtloblhhnlaaajaaDoorX28
import Derived.Test.YtloblhhnlaaajaaDoorX30
set_option linter.unusedVariables false
set_option linter.unusedSimpArgs false
set_option linter.defProp false
set_option linter.unusedSimpArgs false
namespace Go.Proofs.OP
open Go Go.Ev
open Go.Proofs
open Nat (reduceLT reduceEqDiff)

def relG (os : List ObjD) (G : GlD) : Int := (stO os G.sym.sec.toNat G.obj : Nat) + G.sym.off
theorem addrG_addr {base : Int} {os : List ObjD} {G : GlD} : (addrG base os G).addr = base + relG os G := by
 show base + (stO os G.sym.sec.toNat G.obj : Nat) + G.sym.off = _
 unfold relG; omega
theorem al_D1 {base : Int} {os : List ObjD} {k : List UInt8} : ∀ {D : Dm}, al k (D1 base os D) = (al k D).map (addrG base os)
 | [] => rfl
 | p :: r => by
  have ih := al_D1 (base := base) (os := os) (k := k) (D := r)
  unfold D1 at ih ⊢
  simp only [List.map_cons, al]
  split
  ·rfl
  ·exact ih
theorem addr_D1 {base : Int} {os : List ObjD} {k : List UInt8} {D : Dm} : ((al k (D1 base os D)).getD zGl).addr = match al k D with
  | none => 0
  | some G => base + relG os G := by
 rw [al_D1]
 cases al k D with
 | none => rfl
 | some G => exact addrG_addr
theorem finB_length {base : Int} {N : Nat} : ∀ {Y : List SlotD} {bs : List UInt8}, (∀ s ∈ Y, (s.addr - base).toNat + 8 ≤ N) → bs.length = N → (finB base Y bs).length = N
 | [], bs, _, h => h
 | s :: r, bs, hy, h => by
  have h1 := hy s (List.mem_cons_self ..)
  simp only [finB]
  exact finB_length (fun x hx => hy x (List.mem_cons_of_mem _ hx)) (by rw [putAt_length (by rw [leB_length]; omega), h])
structure Two (m n : Int) : Prop where
 hm : Bas m
 hn : Bas n
 m1 : 16 ≤ m
 n1 : 16 ≤ n
theorem entP_moves {m n : Int} (t : Two m n) {code : Int} {os : List ObjD} {D : Dm} (gD : ∀ p ∈ D, 0 ≤ relG os p.2) : ∀ {r : List ObjD} {i : Nat},
  (∃ f, entP m code (D1 m os D) i r = .error f ∧ entP n code (D1 n os D) i r = .error f) ∨ (∃ e e', entP m code (D1 m os D) i r = .ok e ∧ entP n code (D1 n os D) i r = .ok e' ∧ (e = 0 ∨ e - m = e' - n) ∧ 0 ≤ e ∧ 0 ≤ e' ∧ (e = 0 ∨ e < m + code) ∧ (e' = 0 ∨ e' < n + code))
 | [], i => .inr ⟨0, 0, rfl, rfl, .inl rfl, by decide, by decide, .inl rfl, .inl rfl⟩
 | o :: r, i => by
  have m1 := t.m1
  have n1 := t.n1
  have ih := entP_moves t (code := code) (os := os) (D := D) gD (r := r) (i := i + 1)
  simp only [entP]
  by_cases he : o.entry = []
  ·rw [if_pos he, if_pos he]; exact ih
  ·rw [if_neg he, if_neg he, addr_D1, addr_D1]
   cases hal : al o.entry D with
   | none => exact .inl ⟨_, by rw [if_pos (.inl rfl)], by rw [if_pos (.inl rfl)]⟩
   | some G =>
    have h0 := gD _ (al_mem hal)
    simp only at h0 ⊢
    by_cases hc : code ≤ relG os G
    ·exact .inl ⟨_, by rw [if_pos (.inr (.inr (by omega)))], by rw [if_pos (.inr (.inr (by omega)))]⟩
    ·refine .inr ⟨m + relG os G, n + relG os G, by rw [if_neg (by omega)], by rw [if_neg (by omega)], .inr (by omega), by omega, by omega, .inr (by omega), .inr (by omega)⟩
structure Moved (m n : Int) (x y : ImgD) : Prop where
 code : x.code = y.code
 bytes : x.bytes.length = y.bytes.length
 size : x.bytes.length ≤ 131072
 nexp : x.exps.length = y.exps.length
 nslot : x.slots.length = y.slots.length
 lexp : x.exps.length ≤ 20000
 lslot : x.slots.length ≤ 30000
 entry : x.entry = 0 ∨ x.entry - m = y.entry - n
 entB : 0 ≤ x.entry ∧ x.entry ≤ 2 ^ 40 ∧ 0 ≤ y.entry ∧ y.entry ≤ 2 ^ 40
 exps : ∀ i (h : i < x.exps.length) (h' : i < y.exps.length), x.exps[i].name = y.exps[i].name ∧ x.exps[i].addr - m = y.exps[i].addr - n ∧ m ≤ x.exps[i].addr ∧ x.exps[i].addr ≤ m + x.bytes.length
 slots : ∀ i (h : i < x.slots.length) (h' : i < y.slots.length), x.slots[i].name = y.slots[i].name ∧ x.slots[i].addr - m = y.slots[i].addr - n ∧ m ≤ x.slots[i].addr ∧ x.slots[i].addr ≤ m + 131072 ∧ ((x.slots[i].bound = 0 ∧ y.slots[i].bound = 0) ∨ (x.slots[i].bound ≠ 0 ∧ y.slots[i].bound ≠ 0 ∧ x.slots[i].bound - m = y.slots[i].bound - n ∧ m ≤ x.slots[i].bound ∧ x.slots[i].bound ≤ m + 131072))
theorem link_moves {m n : Int} (t : Two m n) (os : List ObjD) :
  (∃ f, linkP os m = .error f ∧ linkP os n = .error f ∧ f.2 ≠ 0) ∨ ∃ x y, linkP os m = .ok x ∧ linkP os n = .ok y ∧ Moved m n x y := by
 have m1 := t.m1
 have n1 := t.n1
 have mm := t.hm.most
 have nm := t.hn.most
 unfold linkP
 by_cases c1 : os.length = 0
 ·rw [if_pos c1, if_pos c1]; exact .inl ⟨_, rfl, rfl, by decide⟩
 rw [if_neg c1, if_neg c1]
 by_cases c2 : 20 < os.length
 ·rw [if_pos c2, if_pos c2]; exact .inl ⟨_, rfl, rfl, by decide⟩
 rw [if_neg c2, if_neg c2]
 have bm : ¬ (m < 0 ∨ 1073741824 < m ∨ m.tmod 16 ≠ 0) := by
  rintro (q | q | q)
  ·omega
  ·omega
  ·exact q t.hm.mul
 have bn : ¬ (n < 0 ∨ 1073741824 < n ∨ n.tmod 16 ≠ 0) := by
  rintro (q | q | q)
  ·omega
  ·omega
  ·exact q t.hn.mul
 rw [if_neg bm, if_neg bn]
 cases hC : checkAll 0 os with
 | error f =>
  refine .inl ⟨f, rfl, rfl, ?_⟩
  have key : ∀ (r : List ObjD) (i : Nat), checkAll i r = .error f → f.2 ≠ 0 := by
   intro r
   induction r with
   | nil => intro i h; cases h
   | cons o r ih =>
    intro i h
    simp only [checkAll] at h
    split at h
    ·exact ih _ h
    ·rename_i q; injection h with h; rw [← h]; exact q
  exact key _ _ hC
 | ok u =>
  have hok := checkAll_ok hC
  simp only
  cases hd : defL 0 os [] with
  | error f => exact .inl ⟨f, rfl, rfl, by rw [defL_err hd]; decide⟩
  | ok D =>
   simp only
   obtain ⟨dd, dn, dl⟩ := defL_ok (os := os) (by simp) (fun o ho => (hok o ho).nsym) hd (fun p hp => by cases hp) (by simp)
   cases hr : resL D 0 os [] with
   | error f => exact .inl ⟨f, rfl, rfl, by rw [resL_err hr]; decide⟩
   | ok S =>
    simp only
    obtain ⟨sd, sn, sl⟩ := resL_ok (os := os) (r := os) (fun o ho => ⟨ho, (hok o ho).nrel⟩) hr (fun p hp => by cases hp) (by simp)
    simp only [List.length_nil, Nat.zero_add] at dl sl
    by_cases hbig : 131072 < sizeL os S
    ·rw [if_pos hbig, if_pos hbig]; exact .inl ⟨_, rfl, rfl, by decide⟩
    rw [if_neg hbig, if_neg hbig]
    have hrel : ∀ p ∈ D, 0 ≤ relG os p.2 ∧ relG os p.2 ≤ tabA os := fun p hp => by
     obtain ⟨o, q1, q2, q3, _, _⟩ := dd p hp
     have hmo := List.mem_of_getElem? q1
     have so := (hok o hmo).syms _ q2
     have hlt := (List.getElem?_eq_some_iff.1 q1).1
     have ho : os[p.2.obj] = o := (List.getElem?_eq_some_iff.1 q1).2
     have s0 := so.s0
     have s2 := so.s2
     have o0 := so.o0
     have o1 := so.o1
     have e1 := stO1_end hlt
     have e2 := stO2_end hlt
     rw [ho] at e1 e2
     unfold relG
     have : p.2.sym.sec = 1 ∨ p.2.sym.sec = 2 := by omega
     rcases this with e | e
     ·rw [e] at o1 ⊢
      simp only [secLen] at o1
      show 0 ≤ ((stO os 1 p.2.obj : Nat) : Int) + _ ∧ ((stO os 1 p.2.obj : Nat) : Int) + _ ≤ _
      simp at o1
      omega
     ·rw [e] at o1 ⊢
      simp only [secLen] at o1
      show 0 ≤ ((stO os 2 p.2.obj : Nat) : Int) + _ ∧ ((stO os 2 p.2.obj : Nat) : Int) + _ ≤ _
      simp at o1
      omega
    have hsl : sizeL os S ≤ 131072 := by omega
    have hsz : sizeL os S = tabA os + 8 * S.length := rfl
    have hcode : (upN (end1 os) : Nat) ≤ 131072 + 16 := by
     have h2 : end1 os ≤ end2 os := layE_ge
     have h3 := upN_le (end2 os)
     have h4 := upN_le (end1 os)
     have h5 : tabA os = upN (end2 os) := rfl
     omega
    rcases entP_moves t (code := (upN (end1 os) : Nat)) (os := os) (D := D) (fun p hp => (hrel p hp).1) (r := os) (i := 0) with ⟨f, e1, e2⟩ | ⟨e, e', e1, e2, e3, e4, e5, e6, e7⟩
    ·rw [e1, e2]; exact .inl ⟨f, rfl, rfl, by rw [entP_err e1]; decide⟩
    ·rw [e1, e2]
     refine .inr ⟨_, _, rfl, rfl, ?_⟩
     have hlay : (layB os 0 os (List.replicate (sizeL os S) 0)).length = sizeL os S := layB_length (by omega) (by simp) (by simp)
     have hsb : ∀ base, ∀ s ∈ slotsOf (D1 base os D) (S1 base os S) (sortS ((S1 base os S).map (·.1))), ∃ j : Nat, j < S.length ∧ s.addr = base + (tabA os : Nat) + 8 * (j : Nat) := fun base s hs => by
      obtain ⟨k, hk, rfl⟩ := List.mem_map.1 hs
      have hk : k ∈ S.map (·.1) := by rw [← S1_keys (base := base) (os := os)]; exact (sortS_perm _).mem_iff.1 hk
      obtain ⟨j, hj, q⟩ := S1_at (base := base) (os := os) sn hk
      exact ⟨j, hj, by rw [q]; rfl⟩
     have hfin : ∀ base, (finB base (slotsOf (D1 base os D) (S1 base os S) (sortS ((S1 base os S).map (·.1)))) (rlcL base os (D1 base os D) (S1 base os S) 0 os (layB os 0 os (List.replicate (sizeL os S) 0)))).length = sizeL os S := fun base => by
      refine finB_length (fun s hs => ?_) (rlcL_length (by simp) hok (by omega) hlay)
      obtain ⟨j, hj, q⟩ := hsb base s hs
      omega
     have kD : ∀ base, (D1 base os D).map (·.1) = D.map (·.1) := fun base => D1_keys
     have kS : ∀ base, (S1 base os S).map (·.1) = S.map (·.1) := fun base => S1_keys
     refine ⟨rfl, ?_, ?_, ?_, ?_, ?_, ?_, e3, ⟨by omega, ?_, by omega, ?_⟩, fun i h h' => ?_, fun i h h' => ?_⟩
     ·rw [hfin m, hfin n]
     ·rw [hfin m]; exact hsl
     ·simp only [expsOf, List.length_map, kD]
     ·simp only [slotsOf, List.length_map, kS]
     ·simp only [expsOf, List.length_map, kD, sortS_len]; omega
     ·simp only [slotsOf, List.length_map, kS, sortS_len]; omega
     ·show e ≤ _
      rcases e6 with q | q <;> omega
     ·show e' ≤ _
      rcases e7 with q | q <;> omega
     ·have hb := hfin m
      simp only [hb]
      simp only [expsOf, List.length_map, kD] at h h'
      have hx : ∀ base, (expsOf (D1 base os D) (sortS ((D1 base os D).map (·.1))))[i]'(by simp only [expsOf, List.length_map, kD]; exact h) = ⟨(sortS (D.map (·.1)))[i], ((al (sortS (D.map (·.1)))[i] (D1 base os D)).getD zGl).addr⟩ := fun base => by
       simp only [expsOf, List.getElem_map, kD]
      simp only [hx]
      have hmem : (sortS (D.map (·.1)))[i] ∈ D.map (·.1) := (sortS_perm _).mem_iff.1 (List.getElem_mem _)
      obtain ⟨G, hG⟩ : ∃ G, al (sortS (D.map (·.1)))[i] D = some G := by
       cases hal : al (sortS (D.map (·.1)))[i] D with
       | none => exact absurd hmem (al_none.1 hal)
       | some G => exact ⟨G, rfl⟩
      have hr2 := hrel _ (al_mem hG)
      have eG : ∀ base, ((al (sortS (D.map (·.1)))[i] (D1 base os D)).getD zGl).addr = base + relG os G := fun base => by rw [addr_D1, hG]
      simp only [eG]
      simp only at hr2
      refine ⟨trivial, by omega, by omega, by omega⟩
     ·simp only [slotsOf, List.length_map, kS] at h h'
      have hx : ∀ base, (slotsOf (D1 base os D) (S1 base os S) (sortS ((S1 base os S).map (·.1))))[i]'(by simp only [slotsOf, List.length_map, kS]; exact h) = ⟨(sortS (S.map (·.1)))[i], (al (sortS (S.map (·.1)))[i] (S1 base os S)).getD 0, ((al (sortS (S.map (·.1)))[i] (D1 base os D)).getD zGl).addr⟩ := fun base => by
       simp only [slotsOf, List.getElem_map, kS]
      simp only [hx]
      have hsa : ∀ base, (al (sortS (S.map (·.1)))[i] (S1 base os S)).getD 0 = base + (tabA os : Nat) + 8 * (i : Nat) := fun base => by
       have := slotsAt_at (S := S) (a := base + (tabA os : Nat)) (K := sortS (S.map (·.1))) h (sortS_nodup sn)
       unfold S1
       rw [this]; rfl
      have hi : i < S.length := by have := sortS_len S; omega
      simp only [hsa, addr_D1]
      have g0 : sizeL os S = tabA os + 8 * S.length := rfl
      have g1 : tabA os + 8 * i ≤ 131072 := by omega
      refine ⟨trivial, ?_, ?_, ?_, ?_⟩
      ·omega
      ·omega
      ·omega
      cases hal : al (sortS (S.map (·.1)))[i] D with
      | none => exact .inl ⟨rfl, rfl⟩
      | some G =>
       have hr2 := hrel _ (al_mem hal)
       simp only at hr2 ⊢
       exact .inr ⟨by omega, by omega, by omega, by omega, by omega⟩
end Go.Proofs.OP

set_option linter.unusedSimpArgs false
namespace Go.Proofs.OP
open Go Go.Ev
open Go.Proofs
open Nat (reduceLT reduceEqDiff)
variable {g : T (List V)}

instance : DecidableEq ExpD := fun a b => if h : a.name = b.name ∧ a.addr = b.addr then isTrue (by cases a; cases b; simp at h; simp [h]) else isFalse (by rintro rfl; simp at h)
instance : DecidableEq SlotD := fun a b => if h : a.name = b.name ∧ a.addr = b.addr ∧ a.bound = b.bound then isTrue (by cases a; cases b; simp at h; simp [h]) else isFalse (by rintro rfl; simp at h)
end Go.Proofs.OP

set_option linter.unusedSimpArgs false
namespace Go.Proofs.OP
open Go Go.Ev
open Go.Proofs
open Nat (reduceLT reduceEqDiff)
variable {g : T (List V)}

theorem eqT_i30 {n : Nat} {a b : Int} : eqT (E g) (n + 1) 33 (.int .i64 a) (.int .i64 b) = some (decide (a = b)) := by
 simp only [eqT, ty33, scalarEq, if_true]
theorem neq73 {h : H} {c : Bool} {a : Int × Int} : binV (E g) h c .neq 35 (.agg (faultV a)) (.agg (faultV a)) = some (.bool false) := by
 have : eqV (E g) h 35 (.agg (faultV a)) (.agg (faultV a)) = some true := by
  simp only [eqV, ty35, E_eqs, show es.contains 35 = true from rfl, cond_true]
  simp only [eqFlds, partV, ty3, ty33, TI.agg, cond_false, faultV, nth, i64, eqT_i3, eqT_i30, show (("At" : String) == "_") = false from rfl, show (("Code" : String) == "_") = false from rfl, decide_true]
 simp only [binV, this, Option.map_some, Bool.not_true]
end Go.Proofs.OP
