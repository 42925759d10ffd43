/- Plain laws: slots may be bound in any order. -/
import Derived.Test.YtloblhhnlaaajaaDoorV15
import Derived.Test.YtloblhhnlaaajaaDoorV39
set_option linter.unusedVariables false
set_option linter.unusedSimpArgs false
set_option linter.defProp false
set_option linter.unusedSimpArgs false
namespace Go.Proofs.OP
open Go Go.Ev

theorem expA_shape {nm : List UInt8} {x y : ImgD} (h : shapeX x = shapeX y) : expA nm x = expA nm y := by
 have : x.exps = y.exps := congrArg Prod.fst h
 unfold expA; rw [this]
theorem lookP_shapes {nm : List UInt8} : ∀ {xs ys : List ImgD} {n : Nat}, shapes xs = shapes ys → lookP nm n xs = lookP nm n ys
 | [], [], _, _ => rfl
 | [], _ :: _, _, h => by simp [shapes] at h
 | _ :: _, [], _, h => by simp [shapes] at h
 | x :: xs, y :: ys, n, h => by
  simp only [shapes, List.map_cons, List.cons.injEq] at h
  rw [lookP, lookP, expA_shape h.1, lookP_shapes (xs := xs) (ys := ys) h.2]
def Nice (x : ImgD) : Prop := (∀ (j k : Nat) (s t : SlotD), j < k → x.slots[j]? = some s → x.slots[k]? = some t → s.addr ≠ t.addr) ∧ ∀ s ∈ x.slots, s.addr.tmod 8 = 0
theorem nice_of {x : ImgD} (h : rightB x = true) : Nice x := by
 simp only [rightB, Bool.and_eq_true] at h
 have hs := h.2.2.1
 refine ⟨fun j k s t hjk hj hk => ?_, fun s hm => ?_⟩
 ·obtain ⟨hk', e⟩ := List.getElem?_eq_some_iff.1 hk
  have q := allB_at hs hk'
  simp only [slotP, hk, Bool.and_eq_true, Bool.not_eq_true', decide_eq_true_eq] at q
  have q2 := q.2.2.2.2.2
  intro e2
  have : ((x.slots.take k).map (·.addr)).contains t.addr = true := by
   rw [List.contains_iff_mem]
   refine List.mem_map.2 ⟨s, ?_, e2⟩
   have : (x.slots.take k)[j]? = some s := by rw [List.getElem?_take, if_pos hjk]; exact hj
   exact List.mem_of_getElem? this
  rw [q2] at this; cases this
 ·obtain ⟨k, hk, rfl⟩ := List.getElem_of_mem hm
  have q := allB_at hs hk
  simp only [slotP, List.getElem?_eq_getElem hk, Bool.and_eq_true, Bool.not_eq_true', decide_eq_true_eq] at q
  exact q.2.2.1
theorem putAt_get {xs ys : List UInt8} {l : Nat} (h : l + ys.length ≤ xs.length) (p : Nat) : (putAt xs l ys)[p]? = if l ≤ p ∧ p < l + ys.length then ys[p - l]? else xs[p]? := by
 unfold putAt
 have e1 : (xs.take l).length = l := by rw [List.length_take]; omega
 by_cases h1 : p < l
 ·rw [if_neg (by omega), List.append_assoc, List.getElem?_append_left (by omega), List.getElem?_take, if_pos h1]
 ·by_cases h2 : p < l + ys.length
  ·rw [if_pos ⟨by omega, h2⟩, List.append_assoc, List.getElem?_append_right (by omega), e1, List.getElem?_append_left (by omega)]
  ·rw [if_neg (by omega), List.getElem?_append_right (by rw [List.length_append]; omega), List.getElem?_drop, List.length_append, e1]
   congr 1; omega
structure St (x0 : ImgD) (A : Nat → Int) (D : Nat → Prop) (x : ImgD) : Prop where
 base : x.base = x0.base
 len : x.slots.length = x0.slots.length
 slot : ∀ k s0, x0.slots[k]? = some s0 → ∃ s, x.slots[k]? = some s ∧ s.name = s0.name ∧ s.addr = s0.addr ∧ (D k → s.bound = A k) ∧ (¬ D k → s.bound = s0.bound)
 blen : x.bytes.length = x0.bytes.length
 done : ∀ k s0 p, x0.slots[k]? = some s0 → D k → (s0.addr - x0.base).toNat ≤ p → p < (s0.addr - x0.base).toNat + 8 → x.bytes[p]? = (leB (U (A k)) 8)[p - (s0.addr - x0.base).toNat]?
 rest : ∀ p, (∀ k s0, x0.slots[k]? = some s0 → D k → ¬ ((s0.addr - x0.base).toNat ≤ p ∧ p < (s0.addr - x0.base).toNat + 8)) → x.bytes[p]? = x0.bytes[p]?
theorem St.refl (x0 : ImgD) (A : Nat → Int) : St x0 A (fun _ => False) x0 :=
 ⟨rfl, rfl, fun k s0 h => ⟨s0, h, rfl, rfl, fun q => q.elim, fun _ => rfl⟩, rfl, fun _ _ _ _ q => q.elim, fun _ _ => rfl⟩
theorem apart {x0 : ImgD} (sm : SmallI x0) (ni : Nice x0) {j k : Nat} {s t : SlotD} (hjk : j ≠ k) (hj : x0.slots[j]? = some s) (hk : x0.slots[k]? = some t) {p : Nat} (h1 : (s.addr - x0.base).toNat ≤ p ∧ p < (s.addr - x0.base).toNat + 8) (h2 : (t.addr - x0.base).toNat ≤ p ∧ p < (t.addr - x0.base).toNat + 8) : False := by
 have hne : s.addr ≠ t.addr := by
  rcases Nat.lt_or_gt_of_ne hjk with q | q
  ·exact ni.1 j k s t q hj hk
  ·exact fun e => ni.1 k j t s q hk hj e.symm
 have m1 := ni.2 s (List.mem_of_getElem? hj)
 have m2 := ni.2 t (List.mem_of_getElem? hk)
 have a1 := sm.saddr s (List.mem_of_getElem? hj)
 have a2 := sm.saddr t (List.mem_of_getElem? hk)
 have b := sm.head.1
 rw [Int.tmod_eq_emod_of_nonneg (by omega)] at m1 m2
 omega
theorem St.step {x0 x : ImgD} {A : Nat → Int} {D : Nat → Prop} (sm : SmallI x0) (ni : Nice x0) (st : St x0 A D x) {k : Nat} {s0 : SlotD} (hk : x0.slots[k]? = some s0) : St x0 A (fun q => D q ∨ q = k) (bindX x k (A k)) := by
 obtain ⟨s, hs, e1, e2, e3, e4⟩ := st.slot k s0 hk
 obtain ⟨a1, a2, -, -⟩ := sm.saddr s0 (List.mem_of_getElem? hk)
 obtain ⟨hlt, _⟩ := List.getElem?_eq_some_iff.1 hs
 have hoff : (s.addr - x.base).toNat = (s0.addr - x0.base).toNat := by rw [e2, st.base]
 have hfit : (s0.addr - x0.base).toNat + (leB (U (A k)) 8).length ≤ x.bytes.length := by rw [leB_length, st.blen]; omega
 have hb : bindX x k (A k) = { x with slots := x.slots.set k (setS s (A k)), bytes := putAt x.bytes (s0.addr - x0.base).toNat (leB (U (A k)) 8) } := by
  unfold bindX; rw [hs]; simp only [hoff]
 rw [hb]
 refine ⟨st.base, by simp [st.len], fun q t0 hq => ?_, by rw [← st.blen]; exact putAt_length hfit, fun q t0 p hq hD h1 h2 => ?_, fun p hp => ?_⟩
 ·by_cases hqk : q = k
  ·subst hqk
   rw [hk] at hq; injection hq with hq; subst hq
   refine ⟨setS s (A q), by show (x.slots.set q _)[q]? = _; rw [List.getElem?_set_self hlt], e1, e2, fun _ => rfl, fun h => absurd (.inr rfl) h⟩
  ·obtain ⟨t, ht, f1, f2, f3, f4⟩ := st.slot q t0 hq
   refine ⟨t, by show (x.slots.set k _)[q]? = _; rw [List.getElem?_set_ne (Ne.symm hqk)]; exact ht, f1, f2, fun h => f3 (h.resolve_right hqk), fun h => f4 fun h' => h (.inl h')⟩
 ·show (putAt _ _ _)[p]? = _
  rw [putAt_get hfit, leB_length]
  by_cases hqk : q = k
  ·subst hqk
   rw [hk] at hq; injection hq with hq; subst hq
   rw [if_pos ⟨h1, h2⟩]
  ·rw [if_neg (fun h => apart sm ni hqk hq hk ⟨h1, h2⟩ h)]
   exact st.done q t0 p hq (hD.resolve_right hqk) h1 h2
 ·show (putAt _ _ _)[p]? = _
  rw [putAt_get hfit, leB_length, if_neg (hp k s0 hk (.inr rfl))]
  exact st.rest p fun q t0 hq hD => hp q t0 hq (.inl hD)
theorem St.same {x0 x y : ImgD} {A : Nat → Int} {D D' : Nat → Prop} (a : St x0 A D x) (b : St x0 A D' y) (h : ∀ k s0, x0.slots[k]? = some s0 → (D k ↔ D' k)) : x.bytes = y.bytes := by
 apply List.ext_getElem?
 intro p
 by_cases hp : ∃ k s0, x0.slots[k]? = some s0 ∧ D k ∧ (s0.addr - x0.base).toNat ≤ p ∧ p < (s0.addr - x0.base).toNat + 8
 ·obtain ⟨k, s0, hk, hD, h1, h2⟩ := hp
  rw [a.done k s0 p hk hD h1 h2, b.done k s0 p hk ((h k s0 hk).1 hD) h1 h2]
 ·rw [a.rest p fun k s0 hk hD q => hp ⟨k, s0, hk, hD, q⟩, b.rest p fun k s0 hk hD q => hp ⟨k, s0, hk, (h k s0 hk).2 hD, q⟩]
def Af (xs0 : List ImgD) (i k : Nat) : Int := match slotAt xs0 i k with
 | none => 0
 | some s => (lookP s.name 0 xs0).1
structure SP (xs0 : List ImgD) (D : Nat → Nat → Prop) (xs : List ImgD) : Prop where
 sh : shapes xs = shapes xs0
 st : ∀ i x0, xs0[i]? = some x0 → ∃ x, xs[i]? = some x ∧ St x0 (Af xs0 i) (D i) x
 ok : ∀ i k s, slotAt xs0 i k = some s → D i k → s.bound = 0 ∧ (lookP s.name 0 xs0).2.2 = 0
theorem SP.refl (xs0 : List ImgD) : SP xs0 (fun _ _ => False) xs0 :=
 ⟨rfl, fun i x0 h => ⟨x0, h, St.refl _ _⟩, fun _ _ _ _ q => q.elim⟩
section
variable {xs0 xs : List ImgD} {D : Nat → Nat → Prop}
theorem SP.set (a : SP xs0 D xs) (hg : Good xs0) (hn : ∀ x ∈ xs0, Nice x) {i k : Nat} {s0 : SlotD} (hs : slotAt xs0 i k = some s0) (hb : s0.bound = 0) (hl : (lookP s0.name 0 xs0).2.2 = 0) :
  SP xs0 (fun i' k' => D i' k' ∨ (i' = i ∧ k' = k)) (setB xs i k (lookP s0.name 0 xs0).1) := by
 have hA : Af xs0 i k = (lookP s0.name 0 xs0).1 := by unfold Af; rw [hs]
 obtain ⟨x0, hx0, hk0⟩ := Option.bind_eq_some_iff.1 (show (xs0[i]?).bind (fun x => x.slots[k]?) = some s0 from hs)
 obtain ⟨x, hx, stx⟩ := a.st i x0 hx0
 refine ⟨by rw [setB_shapes]; exact a.sh, fun j y0 hy0 => ?_, fun j q s h hD => ?_⟩
 ·by_cases hj : j = i
  ·subst hj
   rw [hx0] at hy0; injection hy0 with hy0; subst hy0
   refine ⟨bindX x k (lookP s0.name 0 xs0).1, ?_, ?_⟩
   ·unfold setB; rw [hx]
    obtain ⟨hlt, _⟩ := List.getElem?_eq_some_iff.1 hx
    show (xs.set j _)[j]? = _
    rw [List.getElem?_set_self hlt]
   ·rw [← hA]
    have := stx.step (hg x0 (List.mem_of_getElem? hx0)) (hn x0 (List.mem_of_getElem? hx0)) hk0
    have e : (fun q => D j q ∨ q = k) = (fun k' => D j k' ∨ (j = j ∧ k' = k)) := by funext q; simp
    rw [← e]; exact this
  ·obtain ⟨y, hy, sty⟩ := a.st j y0 hy0
   refine ⟨y, ?_, ?_⟩
   ·unfold setB; rw [hx]
    show (xs.set i _)[j]? = _
    rw [List.getElem?_set_ne (Ne.symm hj)]; exact hy
   ·have e : D j = (fun k' => D j k' ∨ (j = i ∧ k' = k)) := by funext q; simp [hj]
    rw [← e]; exact sty
 ·rcases hD with hD | ⟨rfl, rfl⟩
  ·exact a.ok j q s h hD
  ·rw [hs] at h; injection h with h; subst h; exact ⟨hb, hl⟩
theorem SP.slot (a : SP xs0 D xs) {i k : Nat} {s : SlotD} (hs : slotAt xs i k = some s) : ∃ s0, slotAt xs0 i k = some s0 ∧ s.name = s0.name ∧ (D i k → s.bound = Af xs0 i k) ∧ (¬ D i k → s.bound = s0.bound) := by
 obtain ⟨y0, hy0, hk⟩ := slotAt_shape a.sh hs
 have h0 := slotAt_of hy0 hk
 obtain ⟨x, hx, stx⟩ := a.st i y0 hy0
 obtain ⟨t, ht, e1, -, e3, e4⟩ := stx.slot k y0.slots[k] (List.getElem?_eq_getElem hk)
 have : slotAt xs i k = some t := by unfold slotAt; rw [hx, Option.bind_some, ht]
 rw [hs] at this; injection this with this; subst this
 exact ⟨_, h0, e1, e3, e4⟩
theorem SP.slot0 (a : SP xs0 D xs) {i k : Nat} {s0 : SlotD} (hs : slotAt xs0 i k = some s0) : ∃ s, slotAt xs i k = some s ∧ s.name = s0.name ∧ (D i k → s.bound = Af xs0 i k) ∧ (¬ D i k → s.bound = s0.bound) := by
 obtain ⟨y0, hy0, hk0⟩ := Option.bind_eq_some_iff.1 (show (xs0[i]?).bind (fun x => x.slots[k]?) = some s0 from hs)
 obtain ⟨x, hx, stx⟩ := a.st i y0 hy0
 obtain ⟨t, ht, e1, -, e3, e4⟩ := stx.slot k s0 hk0
 exact ⟨t, by unfold slotAt; rw [hx, Option.bind_some, ht], e1, e3, e4⟩
theorem SP.unbound (a : SP xs0 D xs) {i k : Nat} {s s0 : SlotD} (h0 : slotAt xs0 i k = some s0) (hn : ¬ D i k → s.bound = s0.bound) (hb : s.bound = 0) : s0.bound = 0 := by
 by_cases hD : D i k
 ·exact (a.ok i k s0 h0 hD).1
 ·rw [← hn hD]; exact hb
theorem SP.look (a : SP xs0 D xs) (nm : List UInt8) : lookP nm 0 xs = lookP nm 0 xs0 := lookP_shapes a.sh
theorem SP.call (a : SP xs0 D xs) (hg : Good xs0) (hn : ∀ x ∈ xs0, Nice x) (n : Int) (nm : List UInt8) : ∃ D', SP xs0 D' (callP xs n nm).1 := by
 unfold callP
 split
 ·split
  ·exact ⟨D, a⟩
  ·rename_i x hx
   split
   ·exact ⟨D, a⟩
   ·rename_i k hk
    obtain ⟨hk1, hk2⟩ := fstI_some hk
    split
    ·exact ⟨D, a⟩
    ·rename_i s hs
     split
     ·exact ⟨D, a⟩
     ·rename_i hb
      split
      ·exact ⟨D, a⟩
      ·rename_i hl
       have hb : s.bound = 0 := Decidable.not_not.1 hb
       have hl : (lookP nm 0 xs).2.2 = 0 := Decidable.not_not.1 hl
       have hsl : slotAt xs n.toNat k = some s := by unfold slotAt; rw [hx, Option.bind_some, hs]
       obtain ⟨s0, h0, e1, -, e4⟩ := a.slot hsl
       have hnm : s0.name = nm := by
        obtain ⟨_, q⟩ := List.getElem?_eq_some_iff.1 hs
        rw [q] at hk2
        rw [← e1]; exact eq_of_beq hk2
       have := a.set hg hn h0 (a.unbound h0 e4 hb) (by rw [hnm, ← a.look]; exact hl)
       rw [hnm, ← a.look] at this
       exact ⟨_, this⟩
 ·exact ⟨D, a⟩
theorem allOk_iff {xs : List ImgD} : allOk xs = true ↔ ∀ i k s, slotAt xs i k = some s → okS xs s = true := by
 refine ⟨fun h i k s hs => allOk_slot h hs, fun h => ?_⟩
 refine List.all_eq_true.2 fun x hx => List.all_eq_true.2 fun s hs => ?_
 obtain ⟨i, hi, rfl⟩ := List.getElem_of_mem hx
 obtain ⟨k, hk, rfl⟩ := List.getElem_of_mem hs
 exact h i k _ (slotAt_of (List.getElem?_eq_getElem hi) hk)
theorem okS_iff {xs : List ImgD} {s : SlotD} : okS xs s = true ↔ (s.bound = 0 → (lookP s.name 0 xs).2.2 = 0) := by
 unfold okS
 by_cases h : s.bound = 0 <;> simp [h]
theorem SP.allOk (a : SP xs0 D xs) : OP.allOk xs = OP.allOk xs0 := by
 rw [Bool.eq_iff_iff, allOk_iff, allOk_iff]
 constructor
 ·intro h i k s0 h0
  obtain ⟨s, hs, e1, e3, e4⟩ := a.slot0 h0
  refine okS_iff.2 fun hb => ?_
  by_cases hD : D i k
  ·exact (a.ok i k s0 h0 hD).2
  ·have := okS_iff.1 (h i k s hs) (by rw [e4 hD]; exact hb)
   rw [e1, a.look] at this; exact this
 ·intro h i k s hs
  obtain ⟨s0, h0, e1, e3, e4⟩ := a.slot hs
  refine okS_iff.2 fun hb => ?_
  have := okS_iff.1 (h i k s0 h0) (a.unbound h0 e4 hb)
  rw [e1, a.look]; exact this
theorem todoS_all {xs0 : List ImgD} {i q : Nat} {s : SlotD} (hs : slotAt xs0 i q = some s) (hb : s.bound = 0) : ∀ {k : Nat}, q < k → ∃ t ∈ todoS xs0 i k, t.1 = i ∧ t.2.1 = q
 | 0, h => absurd h (Nat.not_lt_zero _)
 | k + 1, h => by
  rw [todoS]
  by_cases hq : q = k
  ·subst hq
   refine ⟨(i, q, (lookP s.name 0 xs0).1), List.mem_append.2 (.inr ?_), rfl, rfl⟩
   unfold oneT; rw [hs]; simp [hb]
  ·obtain ⟨t, h1, h2⟩ := todoS_all hs hb (show q < k by omega)
   exact ⟨t, List.mem_append.2 (.inl h1), h2⟩
theorem todoI_all {xs0 : List ImgD} {j q : Nat} {s : SlotD} (hs : slotAt xs0 j q = some s) (hb : s.bound = 0) : ∀ {i : Nat}, j < i → ∃ t ∈ todoI xs0 i, t.1 = j ∧ t.2.1 = q
 | 0, h => absurd h (Nat.not_lt_zero _)
 | i + 1, h => by
  rw [todoI]
  by_cases hj : j = i
  ·subst hj
   obtain ⟨x, hx, hk⟩ := Option.bind_eq_some_iff.1 (show (xs0[j]?).bind (fun x => x.slots[q]?) = some s from hs)
   obtain ⟨hk', _⟩ := List.getElem?_eq_some_iff.1 hk
   obtain ⟨t, h1, h2⟩ := todoS_all hs hb (k := nslots xs0 j) (by rw [nslots_of hx]; exact hk')
   exact ⟨t, List.mem_append.2 (.inr h1), h2⟩
  ·obtain ⟨t, h1, h2⟩ := todoI_all hs hb (show j < i by omega)
   exact ⟨t, List.mem_append.2 (.inl h1), h2⟩
theorem SP.run (hg : Good xs0) (hn : ∀ x ∈ xs0, Nice x) : ∀ (T : List (Nat × Nat × Int)) {xs : List ImgD} {D : Nat → Nat → Prop}, SP xs0 D xs → (∀ t ∈ T, ∃ s0, slotAt xs0 t.1 t.2.1 = some s0 ∧ s0.bound = 0 ∧ (lookP s0.name 0 xs0).2.2 = 0 ∧ t.2.2 = (lookP s0.name 0 xs0).1) →
  SP xs0 (fun i k => D i k ∨ ∃ t ∈ T, t.1 = i ∧ t.2.1 = k) (runT T xs)
 | [], xs, D, a, _ => by
  have e : D = (fun i k => D i k ∨ ∃ t ∈ ([] : List (Nat × Nat × Int)), t.1 = i ∧ t.2.1 = k) := by funext i k; simp
  rw [← e]; exact a
 | t :: T, xs, D, a, h => by
  obtain ⟨s0, h1, h2, h3, h4⟩ := h t (List.mem_cons_self ..)
  have b := a.set hg hn h1 h2 h3
  rw [← h4] at b
  have := SP.run hg hn T b fun u hu => h u (List.mem_cons_of_mem _ hu)
  have e : (fun i k => (D i k ∨ (i = t.1 ∧ k = t.2.1)) ∨ ∃ u ∈ T, u.1 = i ∧ u.2.1 = k) = (fun i k => D i k ∨ ∃ u ∈ t :: T, u.1 = i ∧ u.2.1 = k) := by
   funext i k
   apply propext
   constructor
   ·rintro ((q | ⟨rfl, rfl⟩) | ⟨u, hu, q⟩)
    ·exact .inl q
    ·exact .inr ⟨t, List.mem_cons_self .., rfl, rfl⟩
    ·exact .inr ⟨u, List.mem_cons_of_mem _ hu, q⟩
   ·rintro (q | ⟨u, hu, q1, q2⟩)
    ·exact .inl (.inl q)
    ·rcases List.mem_cons.1 hu with rfl | hu
     ·exact .inl (.inr ⟨q1.symm, q2.symm⟩)
     ·exact .inr ⟨u, hu, q1, q2⟩
  rw [← e]; exact this
theorem SP.all (a : SP xs0 D xs) (hg : Good xs0) (hn : ∀ x ∈ xs0, Nice x) (hok : OP.allOk xs = true) : ∃ D', SP xs0 D' (bindAllP xs).1 ∧ ∀ i k s0, slotAt xs0 i k = some s0 → (D' i k ↔ s0.bound = 0) := by
 have e : (bindAllP xs).1 = runT (todoI xs xs.length) xs := by unfold bindAllP; rw [if_pos hok, runT_I]
 have b := SP.run hg hn (todoI xs xs.length) a fun t ht => by
  obtain ⟨s, hs, hb, e1⟩ := todoI_mem ht
  obtain ⟨s0, h0, f1, f3, f4⟩ := a.slot hs
  have := okS_iff.1 (allOk_slot hok hs) hb
  rw [f1, a.look] at this
  exact ⟨s0, h0, a.unbound h0 f4 hb, this, by rw [e1, f1, a.look]⟩
 rw [e]
 refine ⟨_, b, fun i k s0 h0 => ⟨fun h => (b.ok i k s0 h0 h).1, fun hb => ?_⟩⟩
 by_cases hD : D i k
 ·exact .inl hD
 ·obtain ⟨s, hs, -, -, e4⟩ := a.slot0 h0
  obtain ⟨x, hx, _⟩ := Option.bind_eq_some_iff.1 (show (xs[i]?).bind (fun x => x.slots[k]?) = some s from hs)
  obtain ⟨hi, _⟩ := List.getElem?_eq_some_iff.1 hx
  exact .inr (todoI_all hs (by rw [e4 hD]; exact hb) hi)
theorem lazy_same (a : SP xs0 D xs) (hg : Good xs0) (hn : ∀ x ∈ xs0, Nice x) : (bindAllP xs).2.2 = (bindAllP xs0).2.2 ∧ ((bindAllP xs0).2.2 = 0 → ∀ n, bytesP (bindAllP xs).1 n = bytesP (bindAllP xs0).1 n) := by
 have hk := a.allOk
 cases h0 : OP.allOk xs0 with
 | false =>
  rw [h0] at hk
  have e1 : (bindAllP xs).2.2 = 22 := by unfold bindAllP; rw [if_neg (by rw [hk]; simp)]
  have e2 : (bindAllP xs0).2.2 = 22 := by unfold bindAllP; rw [if_neg (by rw [h0]; simp)]
  exact ⟨by rw [e1, e2], fun h => by rw [e2] at h; cases h⟩
 | true =>
  rw [h0] at hk
  have e1 : (bindAllP xs).2.2 = 0 := by unfold bindAllP; rw [if_pos hk]
  have e2 : (bindAllP xs0).2.2 = 0 := by unfold bindAllP; rw [if_pos h0]
  refine ⟨by rw [e1, e2], fun _ n => ?_⟩
  obtain ⟨D1, s1, d1⟩ := a.all hg hn hk
  obtain ⟨D2, s2, d2⟩ := (SP.refl xs0).all hg hn h0
  have l1 : (bindAllP xs).1.length = xs0.length := shapes_length s1.sh
  have l2 : (bindAllP xs0).1.length = xs0.length := shapes_length s2.sh
  unfold bytesP
  rw [l1, l2]
  split
  ·rename_i hn'
   have hx0 : xs0[n.toNat]? = some (xs0[n.toNat]'(by omega)) := List.getElem?_eq_getElem _
   obtain ⟨x, hx, t1⟩ := s1.st _ _ hx0
   obtain ⟨y, hy, t2⟩ := s2.st _ _ hx0
   have := t1.same t2 fun k s0 hks => by
    have hs : slotAt xs0 n.toNat k = some s0 := by unfold slotAt; rw [hx0, Option.bind_some, hks]
    rw [d1 _ _ _ hs, d2 _ _ _ hs]
   rw [hx, hy]; simp only [Option.map_some, Option.getD_some, this]
  ·rfl
end
theorem needF_mem {names : List (List UInt8)} {libs : List ImgD} {cur : Int} : ∀ {N : List (List UInt8)} {st : LSt} {y : ImgD}, y ∈ (needF names libs cur N st).1.2 → y ∈ st.2 ∨ y ∈ libs
 | [], st, y, h => .inl h
 | s :: r, st, y, h => by
  rw [needF] at h
  split at h
  ·exact .inl h
  ·split at h
   ·exact needF_mem h
   ·split at h
    ·exact .inl h
    ·rename_i z hz
     split at h
     ·exact .inl h
     ·rcases needF_mem h with q | q
      ·rcases List.mem_append.1 q with q | q
       ·exact .inl q
       ·rw [List.mem_singleton] at q; subst q; exact .inr (List.mem_of_getElem? hz)
      ·exact .inr q
theorem loadF_mem {names : List (List UInt8)} {libs : List ImgD} : ∀ {f i : Nat} {st : LSt} {y : ImgD}, y ∈ (loadF names libs f i st).1.2 → y ∈ st.2 ∨ y ∈ libs
 | 0, i, st, y, h => .inl h
 | f + 1, i, st, y, h => by
  rw [loadF] at h
  split at h
  ·split at h
   ·exact needF_mem h
   ·rcases loadF_mem h with q | q
    ·exact needF_mem q
    ·exact .inr q
  ·exact .inl h
theorem givenF_right {first : ImgD} {libs : List ImgD} {names : List (List UInt8)} (h : (givenF first libs names).2 = 0) : rightB first = true ∧ ∀ x ∈ libs, rightB x = true := by
 unfold givenF at h
 split at h
 ·cases h
 ·split at h
  ·cases h
  ·split at h
   ·cases h
   ·rename_i h3
    split at h
    ·cases h
    ·rename_i h4
     refine ⟨by simpa using h3, fun x hx => ?_⟩
     cases hr : rightB x with
     | true => rfl
     | false =>
      exfalso
      have : libs.any (fun x => !rightB x) = true := List.any_eq_true.2 ⟨x, hx, by rw [hr]; rfl⟩
      rw [← idxI_nonneg, idxI, h4] at this
      cases this
theorem ldP_nice {x : ImgD} {libs xs : List ImgD} {N : List (List UInt8)} (h : (ldP x libs N).1 = some xs) : ∀ y ∈ xs, Nice y := by
 unfold ldP at h
 split at h
 ·cases h
 ·rename_i hg
  obtain ⟨r1, r2⟩ := givenF_right (Decidable.not_not.1 hg)
  split at h
  ·cases h
  ·injection h with h
   subst h
   intro y hy
   rcases loadF_mem hy with q | q
   ·rw [List.mem_singleton] at q; subst q; exact nice_of r1
   ·exact nice_of (r2 y q)
end Go.Proofs.OP
