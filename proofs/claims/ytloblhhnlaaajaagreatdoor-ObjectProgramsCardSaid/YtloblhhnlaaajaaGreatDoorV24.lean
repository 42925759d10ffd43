/- Rules for walks: cells in a part of a block, what is written in place. -/
import Derived.Test.YtloblhhnlaaajaaGreatDoorV23
import Derived.Test.YtloblhhnlaaajaaGreatDoorV14
set_option linter.unusedVariables false
set_option linter.unusedSimpArgs false
set_option linter.defProp false
namespace Go.Ev
open Go

def At (h : H) (b o : Nat) (vs : List V) : Prop := ∃ t N d e k, h.t.get b = some (.cells t N d e k) ∧ cellsFrom t N d o vs.length = some vs

section
variable {E : Env} {K : Nat → Prop} {h h' : H} {b o : Nat} {vs : List V}

theorem Has.at0 (a : Has h b vs) : At h b 0 vs := by
 obtain ⟨t, d, e, k, h1, h2⟩ := a
 exact ⟨t, _, d, e, k, h1, h2⟩
theorem At.fix (a : At h b o vs) (f : Fix K h h') (hb : K b) : At h' b o vs := by
 obtain ⟨t, N, d, e, k, h1, h2⟩ := a
 exact ⟨t, N, d, e, k, by rw [f.same b hb]; exact h1, h2⟩
theorem At.part (a : At h b o vs) {p q : Nat} (hq : p + q ≤ vs.length) : At h b (o + p) ((vs.drop p).take q) := by
 obtain ⟨t, N, d, e, k, h1, h2⟩ := a
 obtain ⟨q1, q2⟩ := cellsFrom_get h2
 refine ⟨t, N, d, e, k, h1, ?_⟩
 have hl : ((vs.drop p).take q).length = q := by simp; omega
 rw [hl]
 exact cellsFrom_of hl fun j hj => by
  rw [Nat.add_assoc, q2 _ (by omega), List.getElem?_take, if_pos hj, List.getElem?_drop]
theorem At.at (a : At h b o vs) {ty : Nat} {i : TI} (ht : E.tys.get ty = some i) (hi : i.agg = false) {j : Nat} (hj : j < vs.length) : loadP E h ty (.ptr b (o + j)) = vs[j]? := by
 obtain ⟨t, N, d, e, k, h1, h2⟩ := a
 simp only [loadP, loadV, ht, h1, hi, cond_false]
 exact (cellsFrom_get h2).2 j hj
theorem At.agg (a : At h b o vs) {ty : Nat} {i : TI} (ht : E.tys.get ty = some i) (hi : i.agg = true) (hs : i.size = vs.length) : loadP E h ty (.ptr b o) = some (.agg vs) := by
 obtain ⟨t, N, d, e, k, h1, h2⟩ := a
 simp only [loadP, loadV, ht, h1, hi, cond_true, hs, h2]
 rfl
theorem At.room (a : At h b o vs) {t : T V} {N : Nat} {d : List V} {e k : Nat} (hb : h.t.get b = some (.cells t N d e k)) (h0 : 0 < vs.length) : o + vs.length ≤ N := by
 obtain ⟨t', N', d', e', k', h1, h2⟩ := a
 rw [hb] at h1
 injection h1 with h1
 injection h1 with h1 h3 h4 h5 h6
 subst h1 h3 h4 h5 h6
 have := (cellsFrom_get h2).2 (vs.length - 1) (by omega)
 rw [List.getElem?_eq_getElem (by omega)] at this
 unfold cellAt at this
 cases hN : Nat.blt (o + (vs.length - 1)) N with
 | false => rw [hN] at this; cases this
 | true => have : o + (vs.length - 1) < N := by simpa using hN
           omega

theorem Sl.block {sz n m c : Nat} {cc : Cp} (a : Sl E h sz (.slice b o m cc) n vs) (h0 : 0 < n * sz) : At h b o vs := by
 have hs := a.size
 have hc := a.cells
 have hb0 : Nat.beq (n * sz) 0 = false := beq_false (by omega)
 simp only [srcCells, hb0, cond_false] at hc
 obtain ⟨_, hc⟩ := bif_some hc
 split at hc
 ·rename_i t N d e k hb
  exact ⟨t, N, d, e, k, hb, by rw [hs]; exact hc⟩
 ·cases hc
theorem At.slice {sz n : Nat} {cc : Cp} (a : At h b o vs) (hn : vs.length = n * sz) (hcc : ∀ c, cc = .lit c → n ≤ c) : Sl E h sz (.slice b o n cc) n vs := by
 obtain ⟨t, N, d, e, k, h1, h2⟩ := a
 refine ⟨rfl, ?_, (fun _ e => by cases e), (fun b o m c e => by injection e with _ _ e1 e2; subst e1; exact hcc c e2), (fun _ _ _ e => by cases e)⟩
 rw [hn] at h2
 simp only [srcCells, h1, ble_true (Nat.le_refl n), cond_true, h2]
 cases h0 : Nat.beq (n * sz) 0 with
 | true =>
  have h0 := Nat.eq_of_beq_eq_true h0
  rw [h0] at h2; simp [cellsFrom] at h2; subst h2; rfl
 | false => rfl

theorem sat_storeA {ty p : Nat} {v : V} {Q : V → H → Prop} (a : At h b o vs) {i : TI} (ht : E.tys.get ty = some i) (hl : v.cells.length = i.size) (hp : p + i.size ≤ vs.length) (h1 : v.cells.all V.one = true) (h0 : 0 < i.size)
  (k : ∀ h', At h' b o (over vs p v.cells) → h'.next = h.next → Fix (· ≠ b) h h' → Q un h') : Sat1 (rh (storeP E h ty (.ptr b (o + p)) v)) Q := by
 have aa := a
 obtain ⟨t, N, d, e, kk, q1, q2⟩ := a
 have hN := aa.room q1 (by omega)
 have hbeq : Nat.beq v.cells.length i.size = true := by rw [hl]; simp
 simp only [storeP, storeV, ht, hbeq, cond_true]
 rcases hc : v.cells with _ | ⟨c0, cr⟩
 ·rw [hc] at hl; simp at hl; omega
 ·have hle : Nat.ble (o + p + v.cells.length) N = true := ble_true (by omega)
  simp only [storeL, q1, ← hc, hle, h1, Bool.and_self, cond_true, sat_rh]
  have hlen : p + v.cells.length ≤ vs.length := by rw [hl]; exact hp
  refine k _ ⟨t.putL (o + p) v.cells, N, d, e, kk, ?_, ?_⟩ rfl ⟨Nat.le_refl _, fun c hc => ?_⟩
  ·simp only [H.put, T.get_set, if_true]
  ·rw [over_length hlen]
   refine cellsFrom_of (over_length hlen) (fun j hj => ?_)
   rw [cellAt_putL (by omega), over_get hlen]
   by_cases hj2 : p ≤ j ∧ j < p + v.cells.length
   ·rw [if_pos ⟨by omega, by omega⟩, if_pos hj2]
    congr 1; omega
   ·rw [if_neg (by omega), if_neg hj2]
    exact (cellsFrom_get q2).2 j hj
  ·simp only [H.put, T.get_set]; rw [if_neg hc]

theorem sat_copyA {t e n m p : Nat} {c : Cp} {x : V} {ws : List V} {i ei : TI} {Q : V → H → Prop} (a : At h b o vs) (ht : E.tys.get t = some i) (hd : i.desc = .slice e) (he : E.tys.get e = some ei) (hsz : ei.size = 1)
  (hl : lenV x = some m) (hm : m ≤ n) (hc : srcCells E h 1 m x = some ws) (hw : ws.length = m) (hp : p + m ≤ vs.length) (h1 : ws.all V.one = true)
  (k : ∀ h', At h' b o (over vs p ws) → h'.next = h.next → Fix (· ≠ b) h h' → Q (.int .i64 m) h') : Sat1 (r1 (copyV E h t (.slice b (o + p) n c) x)) Q := by
 have aa := a
 obtain ⟨tt, N, d, e', kk, q1, q2⟩ := a
 have hln : lenV (.slice b (o + p) n c) = some n := rfl
 have hmin : Nat.min m n = m := Nat.min_eq_left hm
 have hc' : srcCells E h ei.size m x = some ws := by rw [hsz]; exact hc
 simp only [copyV, ht, hd, he, hln, hl, hmin, hc']
 rcases hv : ws with _ | ⟨v0, vr⟩
 ·simp only [storeL, Option.map_some, sat_r1]
  refine k h ?_ rfl (Fix.refl _ _)
  rw [hv]
  have : over vs p [] = vs := by unfold over; simp
  rw [this]; exact aa
 ·have hN := aa.room q1 (by rw [hv] at hw; simp at hw; omega)
  have hle : Nat.ble (o + p + ws.length) N = true := ble_true (by omega)
  simp only [storeL, q1, ← hv, hle, h1, Bool.and_self, cond_true, Option.map_some, sat_r1]
  have hlen : p + ws.length ≤ vs.length := by omega
  refine k _ ⟨tt.putL (o + p) ws, N, d, e', kk, ?_, ?_⟩ rfl ⟨Nat.le_refl _, fun c hc => ?_⟩
  ·simp only [H.put, T.get_set, if_true]
  ·rw [over_length hlen]
   refine cellsFrom_of (over_length hlen) (fun j hj => ?_)
   rw [cellAt_putL (by omega), over_get hlen]
   by_cases hj2 : p ≤ j ∧ j < p + ws.length
   ·rw [if_pos ⟨by omega, by omega⟩, if_pos hj2]
    congr 1; omega
   ·rw [if_neg (by omega), if_neg hj2]
    exact (cellsFrom_get q2).2 j hj
  ·simp only [H.put, T.get_set]; rw [if_neg hc]

def Whole (s : V) (n : Nat) : Prop := s = .nils ∨ ∃ b c, s = .slice b 0 n c ∧ (c = .lit n ∨ c = .opn 0 0)
theorem Buf.whole {e sz n : Nat} {s : V} (a : Buf E h e sz s n vs) : Whole s n := by
 cases a with
 | nil => exact .inl rfl
 | lit => exact .inr ⟨_, _, rfl, .inl rfl⟩
 | opn => exact .inr ⟨_, _, rfl, .inr rfl⟩
theorem Whole.cap {n : Nat} {c : Cp} (h : c = .lit n ∨ c = .opn 0 0) : ∀ m, c = .lit m → n ≤ m := fun m e => by
 rcases h with h | h
 ·rw [h] at e; injection e with e; omega
 ·rw [h] at e; cases e
theorem slice_from {t e sz n l : Nat} {c : Cp} {i : TI} {k : IntKind} (ht : E.tys.get t = some i) (hd : i.desc = .slice e) (hs : sizeOfT E e = some sz) (hc : c = .lit n ∨ c = .opn 0 0) (hl : l < n) :
  ∃ c', sliceV E t (.slice b o n c) (some (.int k l)) none none = some (.slice b (o + l * sz) (n - l) c') := by
 have h1 : Nat.ble l n = true := ble_true (by omega)
 have h2 : Nat.ble n n = true := ble_true (Nat.le_refl _)
 rcases hc with rfl | rfl
 ·refine ⟨.lit (n - l), ?_⟩
  simp only [sliceV, ht, hd, hs, subSlice, optNat, natOf_nat, Option.bind_some, h1, h2, cond_true, subEnd, beq_false (show n ≠ l by omega), cond_false]
 ·cases l with
  | zero =>
   refine ⟨.opn 0 0, ?_⟩
   simp only [sliceV, ht, hd, hs, subSlice, optNat, natOf_nat, Option.bind_some, h1, h2, cond_true, subEnd, Nat.zero_mul, Nat.add_zero, Nat.sub_zero]
  | succ l =>
   refine ⟨.opn (0 + (l + 1)) o, ?_⟩
   simp only [sliceV, ht, hd, hs, subSlice, optNat, natOf_nat, Option.bind_some, h1, h2, cond_true, subEnd]
end
end Go.Ev
