/- Plain laws: what binding all slots does. -/
import Derived.Test.YtloblhhnlaaajaaGreatDoorV15
import Derived.Test.YtloblhhnlaaajaaGreatDoorV33
set_option linter.unusedVariables false
set_option linter.unusedSimpArgs false
set_option linter.defProp false
set_option linter.unusedSimpArgs false
namespace Go.Proofs.OP
open Go Go.Ev

def shapeX (x : ImgD) : List ExpD × Nat := (x.exps, x.slots.length)
def shapes (xs : List ImgD) : List (List ExpD × Nat) := xs.map shapeX
theorem bindX_shape (x : ImgD) (k : Nat) (a : Int) : shapeX (bindX x k a) = shapeX x := by
 unfold bindX; split
 ·rfl
 ·simp [shapeX]
theorem setB_shapes (xs : List ImgD) (i k : Nat) (a : Int) : shapes (setB xs i k a) = shapes xs := by
 unfold setB; split
 ·rfl
 ·rename_i x hx
  unfold shapes
  apply List.ext_getElem?
  intro j
  rw [List.getElem?_map, List.getElem?_map]
  by_cases h : j = i
  ·subst h
   obtain ⟨hlt, _⟩ := List.getElem?_eq_some_iff.1 hx
   rw [List.getElem?_set_self hlt, hx]
   simp only [Option.map_some, bindX_shape]
  ·rw [List.getElem?_set_ne (Ne.symm h)]
theorem expA_shape {nm : List UInt8} {x y : ImgD} (h : shapeX x = shapeX y) : expA nm x = expA nm y := by
 have : x.exps = y.exps := congrArg Prod.fst h
 unfold expA; rw [this]
theorem lookP_shapes {nm : List UInt8} : ∀ {xs ys : List ImgD} {n : Nat}, shapes xs = shapes ys → lookP nm n xs = lookP nm n ys
 | [], [], _, _ => rfl
 | [], _ :: _, _, h => by simp [shapes] at h
 | _ :: _, [], _, h => by simp [shapes] at h
 | x :: xs, y :: ys, n, h => by
  simp only [shapes, List.map_cons, List.cons.injEq] at h
  rw [lookP, lookP, expA_shape h.1, lookP_shapes (xs := xs) (ys := ys) h.2]
theorem lookP_err {nm : List UInt8} : ∀ {xs : List ImgD} {n : Nat}, (lookP nm n xs).2.2 = 0 ∨ (lookP nm n xs).2.2 = 22
 | [], _ => .inr rfl
 | x :: r, n => by
  rw [lookP]
  split
  ·exact .inl rfl
  ·exact lookP_err
theorem shapes_length {xs ys : List ImgD} (h : shapes xs = shapes ys) : xs.length = ys.length := by
 have := congrArg List.length h
 simpa [shapes] using this
theorem shapes_at {xs ys : List ImgD} (h : shapes xs = shapes ys) {i : Nat} {x : ImgD} (hx : xs[i]? = some x) : ∃ y, ys[i]? = some y ∧ shapeX x = shapeX y := by
 have := congrArg (fun l : List (List ExpD × Nat) => l[i]?) h
 simp only [shapes, List.getElem?_map, hx, Option.map_some] at this
 obtain ⟨y, hy, e⟩ := Option.map_eq_some_iff.1 this.symm
 exact ⟨y, hy, e.symm⟩

def slotAt (xs : List ImgD) (i k : Nat) : Option SlotD := (xs[i]?).bind fun x => x.slots[k]?
theorem setB_slot {xs : List ImgD} {i k j q : Nat} {a : Int} (h : j ≠ i ∨ q ≠ k) : slotAt (setB xs i k a) j q = slotAt xs j q := by
 unfold setB; split
 ·rfl
 ·rename_i x hx
  unfold slotAt
  by_cases hj : j = i
  ·subst hj
   obtain ⟨hlt, _⟩ := List.getElem?_eq_some_iff.1 hx
   rw [List.getElem?_set_self hlt, hx, Option.bind_some, Option.bind_some]
   unfold bindX; split
   ·rfl
   ·rcases h with h | h
    ·exact absurd rfl h
    ·exact List.getElem?_set_ne (Ne.symm h)
  ·rw [List.getElem?_set_ne (Ne.symm hj)]
def stepB (xs0 : List ImgD) (i k : Nat) (xs : List ImgD) : List ImgD := match slotAt xs0 i k with
 | none => xs
 | some s => if s.bound = 0 then setB xs i k (lookP s.name 0 xs0).1 else xs
def bindS (xs0 : List ImgD) (i : Nat) : Nat → List ImgD → List ImgD
 | 0, xs => xs
 | k + 1, xs => stepB xs0 i k (bindS xs0 i k xs)
def nslots (xs : List ImgD) (i : Nat) : Nat := ((xs[i]?).map (·.slots.length)).getD 0
def bindI (xs0 : List ImgD) : Nat → List ImgD
 | 0 => xs0
 | i + 1 => bindS xs0 i (nslots xs0 i) (bindI xs0 i)
def oneT (xs0 : List ImgD) (i k : Nat) : List (Nat × Nat × Int) := match slotAt xs0 i k with
 | none => []
 | some s => if s.bound = 0 then [(i, k, (lookP s.name 0 xs0).1)] else []
def todoS (xs0 : List ImgD) (i : Nat) : Nat → List (Nat × Nat × Int)
 | 0 => []
 | k + 1 => todoS xs0 i k ++ oneT xs0 i k
def todoI (xs0 : List ImgD) : Nat → List (Nat × Nat × Int)
 | 0 => []
 | i + 1 => todoI xs0 i ++ todoS xs0 i (nslots xs0 i)
def runT (T : List (Nat × Nat × Int)) (xs : List ImgD) : List ImgD := T.foldl (fun xs t => setB xs t.1 t.2.1 t.2.2) xs
theorem runT_append (A B : List (Nat × Nat × Int)) (xs : List ImgD) : runT (A ++ B) xs = runT B (runT A xs) := by simp [runT, List.foldl_append]
theorem runT_one (xs0 : List ImgD) (i k : Nat) (xs : List ImgD) : runT (oneT xs0 i k) xs = stepB xs0 i k xs := by
 unfold oneT stepB
 split
 ·rfl
 ·split <;> rfl
theorem runT_S (xs0 : List ImgD) (i : Nat) (xs : List ImgD) : ∀ k, runT (todoS xs0 i k) xs = bindS xs0 i k xs
 | 0 => rfl
 | k + 1 => by rw [todoS, runT_append, runT_S xs0 i xs k, runT_one, bindS]
theorem runT_I (xs0 : List ImgD) : ∀ i, runT (todoI xs0 i) xs0 = bindI xs0 i
 | 0 => rfl
 | i + 1 => by rw [todoI, runT_append, runT_I xs0 i, runT_S, bindI]
def okS (xs : List ImgD) (s : SlotD) : Bool := (s.bound != 0) || decide ((lookP s.name 0 xs).2.2 = 0)
def okX (xs : List ImgD) (x : ImgD) : Bool := x.slots.all (okS xs)
def allOk (xs : List ImgD) : Bool := xs.all (okX xs)
def bindAllP (xs : List ImgD) : List ImgD × Int × Int := if allOk xs = true then (bindI xs xs.length, ((todoI xs xs.length).length : Int), 0) else (xs, 0, 22)
theorem stepB_shapes (xs0 : List ImgD) (i k : Nat) (xs : List ImgD) : shapes (stepB xs0 i k xs) = shapes xs := by
 unfold stepB; split
 ·rfl
 ·split
  ·exact setB_shapes _ _ _ _
  ·rfl
theorem bindS_shapes (xs0 : List ImgD) (i : Nat) : ∀ (k : Nat) (xs : List ImgD), shapes (bindS xs0 i k xs) = shapes xs
 | 0, _ => rfl
 | k + 1, xs => by rw [bindS, stepB_shapes, bindS_shapes xs0 i k xs]
theorem bindI_shapes (xs0 : List ImgD) : ∀ i, shapes (bindI xs0 i) = shapes xs0
 | 0 => rfl
 | i + 1 => by rw [bindI, bindS_shapes, bindI_shapes xs0 i]
theorem bindS_slot (xs0 : List ImgD) {i j q : Nat} : ∀ (k : Nat) (xs : List ImgD), (j ≠ i ∨ k ≤ q) → slotAt (bindS xs0 i k xs) j q = slotAt xs j q
 | 0, _, _ => rfl
 | k + 1, xs, h => by
  rw [bindS]
  have ih := bindS_slot xs0 (i := i) (j := j) (q := q) k xs (by omega)
  unfold stepB; split
  ·exact ih
  ·split
   ·rw [setB_slot (by omega), ih]
   ·exact ih
theorem bindI_slot (xs0 : List ImgD) {j q : Nat} : ∀ (i : Nat), i ≤ j → slotAt (bindI xs0 i) j q = slotAt xs0 j q
 | 0, _ => rfl
 | i + 1, h => by rw [bindI, bindS_slot xs0 _ _ (by omega), bindI_slot xs0 i (by omega)]
theorem stepB_good {xs0 : List ImgD} {i k : Nat} {xs : List ImgD} (h : Good xs) (h0 : Good xs0) (hok : ∀ s, slotAt xs0 i k = some s → okS xs0 s = true) : Good (stepB xs0 i k xs) := by
 unfold stepB; split
 ·exact h
 ·rename_i s hs
  split
  ·rename_i hb
   have := hok s hs
   simp only [okS, hb, bne_self_eq_false, Bool.false_or, decide_eq_true_eq] at this
   exact h.setB (lookP_addr h0 this)
  ·exact h
theorem allOk_slot {xs : List ImgD} (h : allOk xs = true) {i k : Nat} {s : SlotD} (hs : slotAt xs i k = some s) : okS xs s = true := by
 unfold slotAt at hs
 obtain ⟨x, hx, hk⟩ := Option.bind_eq_some_iff.1 hs
 exact List.all_eq_true.1 (List.all_eq_true.1 h x (List.mem_of_getElem? hx)) s (List.mem_of_getElem? hk)
theorem bindS_good {xs0 : List ImgD} {i : Nat} (h0 : Good xs0) (hok : allOk xs0 = true) : ∀ (k : Nat) {xs : List ImgD}, Good xs → Good (bindS xs0 i k xs)
 | 0, _, h => h
 | k + 1, xs, h => stepB_good (bindS_good h0 hok k h) h0 fun s hs => allOk_slot hok hs
theorem bindI_good {xs0 : List ImgD} (h0 : Good xs0) (hok : allOk xs0 = true) : ∀ (i : Nat), Good (bindI xs0 i)
 | 0 => h0
 | i + 1 => bindS_good h0 hok _ (bindI_good h0 hok i)
theorem bindAllP_good {xs : List ImgD} (h : Good xs) : Good (bindAllP xs).1 := by
 unfold bindAllP; split
 ·rename_i hk; exact bindI_good h hk _
 ·exact h
theorem bindAllP_length {xs : List ImgD} : (bindAllP xs).1.length = xs.length := by
 unfold bindAllP; split
 ·exact shapes_length (bindI_shapes _ _)
 ·rfl
theorem todoS_mem {xs0 : List ImgD} {i : Nat} : ∀ {k : Nat} {t : Nat × Nat × Int}, t ∈ todoS xs0 i k → t.1 = i ∧ ∃ s, slotAt xs0 i t.2.1 = some s ∧ s.bound = 0 ∧ t.2.2 = (lookP s.name 0 xs0).1
 | 0, t, h => by cases h
 | k + 1, t, h => by
  rw [todoS] at h
  rcases List.mem_append.1 h with h | h
  ·exact todoS_mem h
  ·unfold oneT at h
   split at h
   ·cases h
   ·rename_i s hs
    split at h
    ·rename_i hb
     rw [List.mem_singleton.1 h]
     exact ⟨rfl, s, hs, hb, rfl⟩
    ·cases h
theorem todoI_mem {xs0 : List ImgD} : ∀ {i : Nat} {t : Nat × Nat × Int}, t ∈ todoI xs0 i → ∃ s, slotAt xs0 t.1 t.2.1 = some s ∧ s.bound = 0 ∧ t.2.2 = (lookP s.name 0 xs0).1
 | 0, t, h => by cases h
 | i + 1, t, h => by
  rw [todoI] at h
  rcases List.mem_append.1 h with h | h
  ·exact todoI_mem h
  ·obtain ⟨h1, h2⟩ := todoS_mem h
   rw [← h1] at h2; exact h2
theorem runT_shapes : ∀ (T : List (Nat × Nat × Int)) (xs : List ImgD), shapes (runT T xs) = shapes xs
 | [], _ => rfl
 | t :: T, xs => by
  have := runT_shapes T (setB xs t.1 t.2.1 t.2.2)
  rw [show runT (t :: T) xs = runT T (setB xs t.1 t.2.1 t.2.2) from rfl, this, setB_shapes]
theorem runT_good : ∀ {T : List (Nat × Nat × Int)} {xs : List ImgD}, Good xs → (∀ t ∈ T, 0 ≤ t.2.2 ∧ t.2.2 ≤ 4294967296) → Good (runT T xs)
 | [], _, h, _ => h
 | t :: T, xs, h, ht => runT_good (T := T) (h.setB (ht t (List.mem_cons_self ..))) fun u hu => ht u (List.mem_cons_of_mem _ hu)
theorem runT_snoc {T : List (Nat × Nat × Int)} {j : Nat} (hj : j < T.length) (xs : List ImgD) : runT (T.take (j + 1)) xs = setB (runT (T.take j) xs) T[j].1 T[j].2.1 T[j].2.2 := by
 rw [List.take_succ_eq_append_getElem hj, runT_append]; rfl
theorem slotAt_shape {xs ys : List ImgD} (h : shapes xs = shapes ys) {i k : Nat} {s : SlotD} (hs : slotAt xs i k = some s) : ∃ y, ys[i]? = some y ∧ k < y.slots.length := by
 unfold slotAt at hs
 obtain ⟨x, hx, hk⟩ := Option.bind_eq_some_iff.1 hs
 obtain ⟨y, hy, e⟩ := shapes_at h hx
 obtain ⟨q, _⟩ := List.getElem?_eq_some_iff.1 hk
 have : x.slots.length = y.slots.length := congrArg Prod.snd e
 exact ⟨y, hy, by omega⟩
theorem slotAt_of {xs : List ImgD} {i k : Nat} {x : ImgD} (hx : xs[i]? = some x) (hk : k < x.slots.length) : slotAt xs i k = some x.slots[k] := by
 unfold slotAt; rw [hx, Option.bind_some, List.getElem?_eq_getElem hk]
theorem nslots_of {xs : List ImgD} {i : Nat} {x : ImgD} (hx : xs[i]? = some x) : nslots xs i = x.slots.length := by unfold nslots; rw [hx]; rfl
theorem okX_false {xs : List ImgD} {x : ImgD} (hx : x ∈ xs) {s : SlotD} (hs : s ∈ x.slots) (h : okS xs s = false) : allOk xs = false := by
 refine Bool.eq_false_iff.2 fun q => ?_
 have := List.all_eq_true.1 (List.all_eq_true.1 q x hx) s hs
 rw [h] at this; cases this
end Go.Proofs.OP
