/- Plain laws: what a checked object is good for; what the tables of a linker hold. -/
import Derived.Test.YtloblhhnlaaajaaDoorX15
import Derived.Test.YtloblhhnlaaajaaDoorX39
set_option linter.unusedVariables false
set_option linter.unusedSimpArgs false
set_option linter.defProp false
set_option linter.unusedSimpArgs false
namespace Go.Proofs.OP
open Go Go.Ev
open Go.Proofs
open Nat (reduceLT reduceEqDiff)

theorem orE_0 {a b : Int} (h : orE a b = 0) : a = 0 ∧ b = 0 := by
 unfold orE at h
 split at h
 ·rename_i q; exact absurd h q
 ·rename_i q
  exact ⟨Classical.byContradiction fun e => q e, h⟩
theorem nameE_zero {s : List UInt8} (h : nameE s = 0) : s ≠ [] ∧ s.length ≤ 64 := by
 unfold nameE at h
 split at h
 ·cases h
 ·rename_i q
  split at h
  ·cases h
  ·exact ⟨q, by omega⟩
structure SymOk (o : ObjD) (s : SymD) : Prop where
 name : s.name.length ≤ 64
 s0 : 0 ≤ s.sec
 s2 : s.sec ≤ 2
 o0 : 0 ≤ s.off
 o1 : s.off ≤ secLen o s.sec
 gl : s.glob = false → s.sec ≠ 0 ∧ s.weak = false
theorem symE_zero {o : ObjD} {s : SymD} {b : Bool} (h : symE o s b = 0) : SymOk o s ∧ b = false := by
 unfold symE at h
 split at h
 ·rename_i q; exact absurd h q
 ·rename_i q
  have q : nameE s.name = 0 := Classical.byContradiction q
  split at h
  ·cases h
  ·rename_i q2
   split at h
   ·cases h
   ·rename_i q3
    split at h
    ·cases h
    ·rename_i q4
     refine ⟨⟨(nameE_zero q).2, by omega, by omega, by omega, by omega, fun hg => ⟨fun e => q4 ⟨hg, .inl e⟩, ?_⟩⟩, by simpa using q2⟩
     cases hw : s.weak with
     | false => rfl
     | true => exact absurd ⟨hg, .inr hw⟩ q4
theorem symsE_0 {o : ObjD} : ∀ {r p : List SymD}, symsE o p r = 0 → ∀ s ∈ r, SymOk o s
 | [], p, _, s, hs => by cases hs
 | x :: r, p, h, s, hs => by
  simp only [symsE] at h
  obtain ⟨h1, h2⟩ := orE_0 h
  rcases List.mem_cons.1 hs with rfl | hs
  ·exact (symE_zero h1).1
  ·exact symsE_0 h2 s hs
theorem fnd_none {k : List UInt8} : ∀ {L : List SymD}, fnd k L = none ↔ ∀ s ∈ L, s.name ≠ k
 | [] => by simp [fnd]
 | s :: r => by
  by_cases h : s.name = k
  ·simp [fnd, h]
  ·simp [fnd, h, fnd_none (L := r)]
theorem symsE_names {o : ObjD} : ∀ {r p : List SymD}, symsE o p r = 0 → (p.map (·.name)).Nodup → ((p ++ r).map (·.name)).Nodup
 | [], p, _, hp => by simpa using hp
 | x :: r, p, h, hp => by
  simp only [symsE] at h
  obtain ⟨h1, h2⟩ := orE_0 h
  have hn := (symE_zero h1).2
  have h3 := symsE_names h2 (by
   rw [List.map_append, List.nodup_append]
   refine ⟨hp, by simp, fun a ha b hb => ?_⟩
   simp only [List.map_cons, List.map_nil, List.mem_singleton] at hb
   subst hb
   rintro rfl
   obtain ⟨s, hs, e⟩ := List.mem_map.1 ha
   have : fnd x.name p = none := by
    cases hf : fnd x.name p with
    | none => rfl
    | some j => simp [hasN, hf] at hn
   exact fnd_none.1 this s hs e)
  simpa using h3
structure RelOk (o : ObjD) (r : RelD) : Prop where
 s1 : 1 ≤ r.sec
 s2 : r.sec ≤ 2
 o0 : 0 ≤ r.off
 o1 : r.off + 4 ≤ secLen o r.sec
 a0 : -2147483648 ≤ r.add
 a1 : r.add ≤ 2147483648
 k0 : 0 ≤ r.kind
 k1 : r.kind < 3
 known : ∃ s ∈ o.syms, s.name = r.sym
theorem relE_zero {o : ObjD} {p : List RelD} {r : RelD} (h : relE o p (hasN r.sym o.syms) r = 0) : RelOk o r := by
 unfold relE at h
 split at h
 ·cases h
 ·rename_i q1
  split at h
  ·cases h
  ·rename_i q2
   split at h
   ·cases h
   ·rename_i q3
    have hk : ∃ s ∈ o.syms, s.name = r.sym := by
     cases hf : fnd r.sym o.syms with
     | none => simp [hasN, hf] at q3
     | some j =>
      obtain ⟨hj, e⟩ := fnd_some hf
      exact ⟨_, List.getElem_mem hj, e⟩
    exact ⟨by omega, by omega, by omega, by omega, by omega, by omega, by omega, by omega, hk⟩
theorem relsE_0 {o : ObjD} : ∀ {r p : List RelD}, relsE o p r = 0 → ∀ x ∈ r, RelOk o x
 | [], p, _, s, hs => by cases hs
 | x :: r, p, h, s, hs => by
  simp only [relsE] at h
  obtain ⟨h1, h2⟩ := orE_0 h
  rcases List.mem_cons.1 hs with rfl | hs
  ·exact relE_zero h1
  ·exact relsE_0 h2 s hs
structure ObjGd (o : ObjD) : Prop where
 code : o.code.length ≤ 16384
 data : o.data.length ≤ 16384
 nsym : o.syms.length ≤ 500
 nrel : o.rels.length ≤ 1000
 nneed : o.needs.length ≤ 20
 syms : ∀ s ∈ o.syms, SymOk o s
 rels : ∀ r ∈ o.rels, RelOk o r
 nodup : (o.syms.map (·.name)).Nodup
theorem check_zero {o : ObjD} (h : checkE o = 0) : ObjGd o := by
 unfold checkE at h
 obtain ⟨h1, h⟩ := orE_0 h
 obtain ⟨h2, h⟩ := orE_0 h
 obtain ⟨h3, h⟩ := orE_0 h
 obtain ⟨h4, h⟩ := orE_0 h
 have hl : (lims o).any (fun p => decide (p.2 < p.1)) = false := by
  unfold limE at h1
  split at h1
  ·cases h1
  ·rename_i q; simpa using q
 simp only [lims, List.any_cons, List.any_nil, Bool.or_false, Bool.or_eq_false_iff, decide_eq_false_iff_not] at hl
 obtain ⟨q1, q2, q3, q4, q5⟩ := hl
 exact ⟨by omega, by omega, by omega, by omega, by omega, symsE_0 h3, relsE_0 h4, by simpa using symsE_names h3 (by simp)⟩
def checkAll : Nat → List ObjD → Except (Int × Int) Unit
 | _, [] => .ok ()
 | i, o :: r => if checkE o = 0 then checkAll (i + 1) r else .error ((i : Int), checkE o)
theorem checkAll_ok : ∀ {os : List ObjD} {i : Nat}, checkAll i os = .ok () → ∀ o ∈ os, ObjGd o
 | [], i, _, o, ho => by cases ho
 | x :: r, i, h, o, ho => by
  simp only [checkAll] at h
  split at h
  ·rename_i q
   rcases List.mem_cons.1 ho with rfl | ho
   ·exact check_zero q
   ·exact checkAll_ok h o ho
  ·cases h
theorem ObjGd.off {o : ObjD} (h : ObjGd o) {s : SymD} (hs : s ∈ o.syms) : s.off ≤ 16384 := by
 have := (h.syms s hs).o1
 have h1 := h.code
 have h2 := h.data
 unfold secLen at this
 split at this
 ·omega
 ·split at this <;> omega

def DefOk (os : List ObjD) (p : List UInt8 × GlD) : Prop := ∃ o, os[p.2.obj]? = some o ∧ p.2.sym ∈ o.syms ∧ p.2.sym.sec ≠ 0 ∧ p.2.sym.glob = true ∧ p.1 = p.2.sym.name
theorem ia_mem {α : Type} {k : List UInt8} {x : α} : ∀ {L : List (List UInt8 × α)} {p : List UInt8 × α}, p ∈ ia k x L → p = (k, x) ∨ p ∈ L
 | [], p, h => by simp [ia] at h; exact .inl h
 | q :: r, p, h => by
  simp only [ia] at h
  split at h
  ·rcases List.mem_cons.1 h with e | h
   ·exact .inl e
   ·exact .inr (List.mem_cons_of_mem _ h)
  ·rcases List.mem_cons.1 h with e | h
   ·exact .inr (by rw [e]; exact List.mem_cons_self ..)
   ·rcases ia_mem h with q | q
    ·exact .inl q
    ·exact .inr (List.mem_cons_of_mem _ q)
theorem defS_ok {i : Nat} {os : List ObjD} {o : ObjD} (ho : os[i]? = some o) : ∀ {ys : List SymD} {D D' : Dm}, (∀ s ∈ ys, s ∈ o.syms) → defS i ys D = .ok D' → (∀ p ∈ D, DefOk os p) → (D.map (·.1)).Nodup →
  (∀ p ∈ D', DefOk os p) ∧ (D'.map (·.1)).Nodup ∧ D'.length ≤ D.length + ys.length
 | [], D, D', _, h, hd, hn => by
  simp only [defS, Except.ok.injEq] at h
  subst h
  exact ⟨hd, hn, by simp⟩
 | s :: r, D, D', hy, h, hd, hn => by
  have hy' : ∀ s ∈ r, s ∈ o.syms := fun x hx => hy x (List.mem_cons_of_mem _ hx)
  simp only [defS] at h
  split at h
  ·obtain ⟨q1, q2, q3⟩ := defS_ok ho hy' h hd hn
   exact ⟨q1, q2, by simp only [List.length_cons]; omega⟩
  ·rename_i hs
   have hput : ∀ p ∈ ia s.name ⟨0, s.weak, i, s⟩ D, DefOk os p := fun p hp => by
    rcases ia_mem hp with rfl | q
    ·exact ⟨o, ho, hy s (List.mem_cons_self ..), fun e => hs (.inl e), by cases hg : s.glob with
      | true => rfl
      | false => exact absurd (.inr hg) hs, rfl⟩
    ·exact hd p q
   have hl := ia_length s.name ⟨0, s.weak, i, s⟩ D
   split at h
   ·obtain ⟨q1, q2, q3⟩ := defS_ok ho hy' h hput (ia_nodup hn)
    exact ⟨q1, q2, by simp only [List.length_cons]; omega⟩
   ·split at h
    ·obtain ⟨q1, q2, q3⟩ := defS_ok ho hy' h hd hn
     exact ⟨q1, q2, by simp only [List.length_cons]; omega⟩
    ·split at h
     ·obtain ⟨q1, q2, q3⟩ := defS_ok ho hy' h hput (ia_nodup hn)
      exact ⟨q1, q2, by simp only [List.length_cons]; omega⟩
     ·cases h
theorem defL_ok {os : List ObjD} : ∀ {r : List ObjD} {i : Nat} {D D' : Dm}, os.drop i = r → (∀ o ∈ os, o.syms.length ≤ 500) → defL i r D = .ok D' → (∀ p ∈ D, DefOk os p) → (D.map (·.1)).Nodup →
  (∀ p ∈ D', DefOk os p) ∧ (D'.map (·.1)).Nodup ∧ D'.length ≤ D.length + r.length * 500
 | [], i, D, D', _, _, h, hd, hn => by
  simp only [defL, Except.ok.injEq] at h
  subst h
  exact ⟨hd, hn, by simp⟩
 | o :: r, i, D, D', hi, hl, h, hd, hn => by
  have ho : os[i]? = some o := by
   have : (os.drop i)[0]? = some o := by rw [hi]; rfl
   simpa using this
  have hi' : os.drop (i + 1) = r := by rw [← List.drop_drop, hi]; rfl
  simp only [defL] at h
  split at h
  ·cases h
  ·rename_i D1 h1
   obtain ⟨q1, q2, q3⟩ := defS_ok ho (fun s hs => hs) h1 hd hn
   obtain ⟨r1, r2, r3⟩ := defL_ok hi' hl h q1 q2
   have := hl o (List.mem_of_getElem? ho)
   exact ⟨r1, r2, by simp only [List.length_cons, Nat.succ_mul]; omega⟩

def SlotOk (os : List ObjD) (p : List UInt8 × Int) : Prop := p.2 = 0 ∧ ∃ o ∈ os, ∃ r ∈ o.rels, p.1 = r.sym
theorem resR_ok {i : Nat} {own : Sm} {D : Dm} {os : List ObjD} {o : ObjD} (ho : o ∈ os) : ∀ {ys : List RelD} {S S' : St}, (∀ s ∈ ys, s ∈ o.rels) → resR i own D ys S = .ok S' → (∀ p ∈ S, SlotOk os p) → (S.map (·.1)).Nodup →
  (∀ p ∈ S', SlotOk os p) ∧ (S'.map (·.1)).Nodup ∧ S'.length ≤ S.length + ys.length
 | [], S, S', _, h, hd, hn => by
  simp only [resR, Except.ok.injEq] at h
  subst h
  exact ⟨hd, hn, by simp⟩
 | r :: rest, S, S', hy, h, hd, hn => by
  have hy' : ∀ s ∈ rest, s ∈ o.rels := fun x hx => hy x (List.mem_cons_of_mem _ hx)
  simp only [resR] at h
  split at h
  ·have hput : ∀ p ∈ ia r.sym 0 S, SlotOk os p := fun p hp => by
    rcases ia_mem hp with rfl | q
    ·exact ⟨rfl, o, ho, r, hy r (List.mem_cons_self ..), rfl⟩
    ·exact hd p q
   have hl := ia_length r.sym 0 S
   obtain ⟨q1, q2, q3⟩ := resR_ok ho hy' h hput (ia_nodup hn)
   exact ⟨q1, q2, by simp only [List.length_cons]; omega⟩
  ·split at h
   ·cases h
   ·obtain ⟨q1, q2, q3⟩ := resR_ok ho hy' h hd hn
    exact ⟨q1, q2, by simp only [List.length_cons]; omega⟩
theorem resL_ok {D : Dm} {os : List ObjD} : ∀ {r : List ObjD} {i : Nat} {S S' : St}, (∀ o ∈ r, o ∈ os ∧ o.rels.length ≤ 1000) → resL D i r S = .ok S' → (∀ p ∈ S, SlotOk os p) → (S.map (·.1)).Nodup →
  (∀ p ∈ S', SlotOk os p) ∧ (S'.map (·.1)).Nodup ∧ S'.length ≤ S.length + r.length * 1000
 | [], i, S, S', _, h, hd, hn => by
  simp only [resL, Except.ok.injEq] at h
  subst h
  exact ⟨hd, hn, by simp⟩
 | o :: r, i, S, S', hr, h, hd, hn => by
  obtain ⟨ho, hl⟩ := hr o (List.mem_cons_self ..)
  simp only [resL] at h
  split at h
  ·cases h
  ·rename_i S1 h1
   obtain ⟨q1, q2, q3⟩ := resR_ok ho (fun s hs => hs) h1 hd hn
   obtain ⟨r1, r2, r3⟩ := resL_ok (fun x hx => hr x (List.mem_cons_of_mem _ hx)) h q1 q2
   exact ⟨r1, r2, by simp only [List.length_cons, Nat.succ_mul]; omega⟩
theorem ia_keys_mem {α : Type} {k : List UInt8} {x : α} {L : List (List UInt8 × α)} (h : k ∈ L.map (·.1)) : (ia k x L).map (·.1) = L.map (·.1) := by rw [ia_keys, if_pos h]
theorem slotsAt_keys : ∀ {K : List (List UInt8)} {a : Int} {S : St}, (∀ k ∈ K, k ∈ S.map (·.1)) → (slotsAt a K S).map (·.1) = S.map (·.1)
 | [], a, S, _ => rfl
 | k :: r, a, S, h => by
  have hk := ia_keys_mem (x := a) (h k (List.mem_cons_self ..))
  simp only [slotsAt]
  rw [slotsAt_keys (fun x hx => by rw [hk]; exact h x (List.mem_cons_of_mem _ hx)), hk]
theorem slotsAt_other {k : List UInt8} : ∀ {K : List (List UInt8)} {a : Int} {S : St}, k ∉ K → al k (slotsAt a K S) = al k S
 | [], a, S, _ => rfl
 | x :: r, a, S, h => by
  simp only [List.mem_cons, not_or] at h
  simp only [slotsAt]
  rw [slotsAt_other h.2, al_ia, if_neg (fun e => h.1 e.symm)]
theorem slotsAt_at : ∀ {K : List (List UInt8)} {a : Int} {S : St} {j : Nat} (hj : j < K.length), K.Nodup → al K[j] (slotsAt a K S) = some (a + 8 * (j : Nat))
 | [], a, S, j, hj, _ => by simp at hj
 | x :: r, a, S, 0, _, hn => by
  simp only [List.nodup_cons] at hn
  simp only [List.getElem_cons_zero, slotsAt]
  rw [slotsAt_other hn.1, al_ia, if_pos rfl]
  simp
 | x :: r, a, S, j + 1, hj, hn => by
  simp only [List.nodup_cons] at hn
  simp only [List.getElem_cons_succ, slotsAt]
  rw [slotsAt_at (by simpa using hj) hn.2]
  congr 1
  omega
theorem sortS_perm (L : List (List UInt8)) : (sortS L).Perm L := List.mergeSort_perm L _
theorem sortS_nodup {L : List (List UInt8)} (h : L.Nodup) : (sortS L).Nodup := (sortS_perm L).nodup_iff.2 h
def D1 (base : Int) (os : List ObjD) (D : Dm) : Dm := D.map fun p => (p.1, addrG base os p.2)
def S1 (base : Int) (os : List ObjD) (S : St) : St := slotsAt (base + (tabA os : Nat)) (sortS (S.map (·.1))) S
theorem D1_keys {base : Int} {os : List ObjD} {D : Dm} : (D1 base os D).map (·.1) = D.map (·.1) := by simp [D1, List.map_map, Function.comp_def]
theorem S1_keys {base : Int} {os : List ObjD} {S : St} : (S1 base os S).map (·.1) = S.map (·.1) := slotsAt_keys fun k hk => (sortS_perm _).mem_iff.1 hk
theorem S1_at {base : Int} {os : List ObjD} {S : St} (hn : (S.map (·.1)).Nodup) {k : List UInt8} (hk : k ∈ S.map (·.1)) : ∃ j, j < S.length ∧ al k (S1 base os S) = some (base + (tabA os : Nat) + 8 * (j : Nat)) := by
 have hk' : k ∈ sortS (S.map (·.1)) := (sortS_perm _).mem_iff.2 hk
 obtain ⟨j, hj, e⟩ := List.getElem_of_mem hk'
 have hl := sortS_len S
 exact ⟨j, by omega, by rw [← e]; exact slotsAt_at hj (sortS_nodup hn)⟩
theorem S1_length {base : Int} {os : List ObjD} {S : St} : (S1 base os S).length = S.length := by
 have := congrArg List.length (S1_keys (base := base) (os := os) (S := S))
 simpa using this
theorem mem_al {α : Type} {p : List UInt8 × α} : ∀ {L : List (List UInt8 × α)}, (L.map (·.1)).Nodup → p ∈ L → al p.1 L = some p.2
 | [], _, h => by cases h
 | q :: r, hn, h => by
  simp only [List.map_cons, List.nodup_cons] at hn
  rcases List.mem_cons.1 h with rfl | h
  ·simp [al]
  ·have hne : ¬ q.1 = p.1 := fun e => hn.1 (by rw [e]; exact List.mem_map.2 ⟨p, h, rfl⟩)
   simp only [al, if_neg hne]
   exact mem_al hn.2 h

def linkP (os : List ObjD) (base : Int) : Except (Int × Int) ImgD :=
 if os.length = 0 then .error (0, 9) else if 20 < os.length then .error (0, 18) else if base < 0 ∨ 1073741824 < base ∨ base.tmod 16 ≠ 0 then .error (0, 34) else
  match checkAll 0 os with
  | .error f => .error f
  | .ok _ => match defL 0 os [] with
   | .error f => .error f
   | .ok D => match resL D 0 os [] with
    | .error f => .error f
    | .ok S => if 131072 < sizeL os S then .error (0, 18) else
     match entP base (upN (end1 os) : Nat) (D1 base os D) 0 os with
     | .error f => .error f
     | .ok e => .ok ⟨base, finB base (slotsOf (D1 base os D) (S1 base os S) (sortS ((S1 base os S).map (·.1)))) (rlcL base os (D1 base os D) (S1 base os S) 0 os (layB os 0 os (List.replicate (sizeL os S) 0))), (upN (end1 os) : Nat), e, expsOf (D1 base os D) (sortS ((D1 base os D).map (·.1))), slotsOf (D1 base os D) (S1 base os S) (sortS ((S1 base os S).map (·.1))), needsOf os []⟩
end Go.Proofs.OP
