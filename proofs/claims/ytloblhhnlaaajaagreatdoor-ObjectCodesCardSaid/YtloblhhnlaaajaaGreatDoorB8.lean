/- More steps: copy into a block of one's own, arrays. -/
import Derived.Test.YtloblhhnlaaajaaGreatDoorB7
set_option linter.unusedVariables false
set_option linter.unusedSimpArgs false
set_option linter.defProp false
namespace Go.Ev
open Go

section
variable {E : Env} {h : H}

theorem Has.sl {b n sz : Nat} {cs : List V} (a : Has h b cs) (hn : cs.length = n * sz) : Sl E h sz (.slice b 0 n (.lit n)) n cs := by
  obtain ⟨t, d, e, k, h1, h2⟩ := a
  refine ⟨rfl, ?_, (fun _ e => by cases e), (fun b o m c e => by injection e with _ _ e1 e2; injection e2 with e2; omega), (fun _ _ _ e => by cases e)⟩
  rw [hn] at h1 h2
  simp only [srcCells, h1, ble_true (Nat.le_refl n), cond_true, h2]
  cases h0 : Nat.beq (n * sz) 0 with
  | true =>
    have h0 := Nat.eq_of_beq_eq_true h0
    rw [h0] at h2; simp [cellsFrom] at h2; subst h2; rfl
  | false => rfl

theorem slice_arr {t b n e s : Nat} {i : TI} (ht : E.tys.get t = some i) (hd : i.desc = .array n e) (hs : sizeOfT E e = some s) : sliceV E t (.ptr b 0) none none none = some (.slice b 0 n (.lit n)) := by
  have h1 : Nat.ble 0 n = true := ble_true (Nat.zero_le n)
  have h2 : Nat.ble n n = true := ble_true (Nat.le_refl n)
  simp only [sliceV, ht, hd, hs, subSlice, optNat, Option.bind_some, h1, h2, cond_true, subEnd]
  cases hb : Nat.beq n 0 <;> simp

theorem build_arr0 {t n e s : Nat} {i : TI} (ht : E.tys.get t = some i) (hd : i.desc = .array n e) (hs : sizeOfT E e = some s) : buildV E t [] = some (.agg i.zero) := by
  simp only [buildV, ht, hd, hs, fillAll, Option.map_some]

theorem sat_copy {t e sz b n m : Nat} {c : Cp} {x : V} {cs vs : List V} {i ei : TI} {Q : V → H → Prop} (a : Has h b cs) (ht : E.tys.get t = some i) (hd : i.desc = .slice e) (he : E.tys.get e = some ei) (hsz : ei.size = sz)
    (hl : lenV x = some m) (hc : srcCells E h sz (Nat.min m n) x = some vs) (hvl : vs.length ≤ cs.length) (h1 : vs.all V.one = true)
    (k : ∀ h', Has h' b (over cs 0 vs) → h'.next = h.next → Fix (· ≠ b) h h' → Q (.int .i64 (Nat.min m n)) h') : Sat1 (r1 (copyV E h t (.slice b 0 n c) x)) Q := by
  obtain ⟨tt, d, e', kk, q1, q2⟩ := a
  have hln : lenV (.slice b 0 n c) = some n := rfl
  have hc' : srcCells E h ei.size (Nat.min m n) x = some vs := by rw [hsz]; exact hc
  simp only [copyV, ht, hd, he, hln, hl, hc']
  rcases hv : vs with _ | ⟨v0, vr⟩
  · simp only [storeL, Option.map_some, sat_r1]
    refine k h ?_ rfl (Fix.refl _ _)
    rw [hv]
    have : over cs 0 [] = cs := by unfold over; simp
    rw [this]; exact ⟨tt, d, e', kk, q1, q2⟩
  · have hle : Nat.ble (0 + vs.length) cs.length = true := ble_true (by omega)
    simp only [storeL, q1, ← hv, hle, h1, Bool.and_self, cond_true, Option.map_some, sat_r1]
    have hlen : 0 + vs.length ≤ cs.length := by omega
    refine k _ ⟨tt.putL 0 vs, d, e', kk, ?_, ?_⟩ rfl ⟨Nat.le_refl _, fun c hc => ?_⟩
    · simp only [H.put, T.get_set, if_true, over_length hlen]
    · rw [over_length hlen]
      refine cellsFrom_of (over_length hlen) (fun j hj => ?_)
      rw [Nat.zero_add, cellAt_putL hlen, over_get hlen]
      split
      · rfl
      · have := (cellsFrom_get q2).2 j hj
        rwa [Nat.zero_add] at this
    · simp only [H.put, T.get_set]; rw [if_neg hc]

theorem sat_literal {t e sz n : Nat} {ps : List (Nat × V)} {cs : List V} {i ei : TI} {Q : V → H → Prop} (ht : E.tys.get t = some i) (hd : i.desc = .slice e) (he : E.tys.get e = some ei) (hsz : ei.size = sz) (hpos : 0 < sz) (hn : n * sz ≤ 16777216)
    (hc : fillAll (fun k => some (k * ei.size, ei.size)) (repL ei.zero n) ps = some cs) (hl : cs.length = n * sz)
    (k : ∀ h', h'.t.get h.next = some (.cells (T.putL .lf 0 cs) cs.length [.nilp] e 0) → h'.next = h.next + 1 → Fix (· < h.next) h h' → Q (.slice h.next 0 n (.lit n)) h') : Sat1 (r1 (buildSliceV E h t n ps)) Q := by
  have h1 : (Nat.ble (n * ei.size) 16777216 && Nat.blt 0 ei.size) = true := by rw [hsz, ble_true hn, blt_true hpos]; rfl
  simp only [buildSliceV, ht, hd, he, h1, cond_true, hc, sat_r1, row_fst]
  exact k _ (by rw [row_get, if_pos rfl]) rfl (row_fix fun _ h => h)

theorem sat_mark {t e b o n m el : Nat} {c : Cp} {tt : T V} {d : List V} {i ei : TI} {Q : V → H → Prop} (hb : h.t.get b = some (.cells tt m d el 0)) (ht : E.tys.get t = some i) (hd : i.desc = .slice e) (he : E.tys.get e = some ei) (hed : ei.desc = .int .u8)
    (k : ∀ h', h'.t.get b = some (.cells tt m d el 3) → h'.next = h.next → Fix (· ≠ b) h h' → Q (.slice b o n c) h') : Sat1 (r1 (convV E h t t (.slice b o n c))) Q := by
  have h1 : (Nat.beq 0 0 || Nat.beq 0 3) = true := rfl
  have h2 : Nat.beq t t = true := by simp
  simp only [convV, ht, hd, h2, cond_true, he, hed, hb, h1, sat_r1]
  refine k _ ?_ rfl ⟨Nat.le_refl _, fun c hc => ?_⟩
  · simp only [H.put, T.get_set, if_true]
  · simp only [H.put, T.get_set]; rw [if_neg hc]
end
end Go.Ev
