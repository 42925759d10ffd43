/- Slices and their cells, for walks: what is read, what grows, what stays. -/
import Derived.Test.YtloblhhnlaaajaaGreatDoorB3
set_option linter.unusedVariables false
set_option linter.unusedSimpArgs false
set_option linter.defProp false
namespace Go.Ev
open Go

structure Fix (K : Nat → Prop) (h h' : H) : Prop where
  next : h.next ≤ h'.next
  same : ∀ b, K b → h'.t.get b = h.t.get b
theorem Fix.refl (K : Nat → Prop) (h : H) : Fix K h h := ⟨Nat.le_refl _, fun _ _ => rfl⟩
theorem Fix.trans {K : Nat → Prop} {a b c : H} (h : Fix K a b) (k : Fix K b c) : Fix K a c := ⟨Nat.le_trans h.next k.next, fun x hx => (k.same x hx).trans (h.same x hx)⟩
theorem Fix.sub {K L : Nat → Prop} {a b : H} (h : Fix K a b) (k : ∀ x, L x → K x) : Fix L a b := ⟨h.next, fun x hx => h.same x (k x hx)⟩

def In (K : Nat → Prop) (s : V) : Prop := ∀ b o n c, s = .slice b o n c → K b
def Out (K : Nat → Prop) (s : V) : Prop := ∀ b o n c, s = .slice b o n c → ¬ K b
theorem In.sub {K L : Nat → Prop} {s : V} (h : In K s) (k : ∀ x, K x → L x) : In L s := fun b o n c e => k b (h b o n c e)
theorem In.nils {K : Nat → Prop} : In K .nils := fun _ _ _ _ e => by cases e
theorem In.gsl {K : Nat → Prop} {a : Addr} {n c : Nat} : In K (.gsl a n c) := fun _ _ _ _ e => by cases e

theorem cellsFrom_get {t : T V} {n : Nat} {d : List V} : ∀ {m o : Nat} {vs : List V}, cellsFrom t n d o m = some vs → vs.length = m ∧ ∀ j, j < m → cellAt t n d (o + j) = vs[j]?
  | 0, o, vs, h => by simp [cellsFrom] at h; subst h; exact ⟨rfl, fun j hj => absurd hj (Nat.not_lt_zero _)⟩
  | m + 1, o, vs, h => by
    simp only [cellsFrom] at h
    split at h
    · cases h
    · rename_i v hv
      split at h
      · cases h
      · rename_i r hr
        injection h with h
        subst h
        obtain ⟨h1, h2⟩ := cellsFrom_get hr
        refine ⟨by simp [h1], fun j hj => ?_⟩
        cases j with
        | zero => simpa using hv
        | succ j =>
          have := h2 j (by omega)
          rw [show o + (j + 1) = Nat.succ o + j by omega, this]; rfl
theorem cellsFrom_of {t : T V} {n : Nat} {d : List V} : ∀ {m o : Nat} {vs : List V}, vs.length = m → (∀ j, j < m → cellAt t n d (o + j) = vs[j]?) → cellsFrom t n d o m = some vs
  | 0, o, vs, h, _ => by
    have : vs = [] := by simpa using h
    subst this; rfl
  | m + 1, o, [], h, _ => by simp at h
  | m + 1, o, v :: r, h, k => by
    have h0 := k 0 (by omega)
    simp only [Nat.add_zero, List.getElem?_cons_zero] at h0
    have := cellsFrom_of (t := t) (n := n) (d := d) (m := m) (o := Nat.succ o) (vs := r) (by simpa using h) (fun j hj => by
      have := k (j + 1) (by omega)
      rw [show o + (j + 1) = Nat.succ o + j by omega] at this
      simpa using this)
    simp only [cellsFrom, h0, this]

structure Sl (E : Env) (h : H) (sz : Nat) (s : V) (n : Nat) (vs : List V) : Prop where
  len : lenV s = some n
  cells : srcCells E h sz n s = some vs
  slice : ∀ x, s ≠ .str x
  cap : (∀ b o m c, s = .slice b o m (.lit c) → m ≤ c) ∧ (∀ a m c, s = .gsl a m c → m ≤ c)

section
variable {E : Env} {K : Nat → Prop} {h h' : H} {sz n : Nat} {s : V} {vs : List V}

theorem Sl.fix (a : Sl E h sz s n vs) (hs : In K s) (hf : Fix K h h') : Sl E h' sz s n vs := by
  refine ⟨a.len, ?_, a.slice, a.cap⟩
  have hc := a.cells
  unfold srcCells at hc ⊢
  split at hc
  · exact hc
  · rename_i b o m c
    rw [hf.same b (hs _ _ _ _ rfl)]
    exact hc
  · exact hc
  · exact hc
  · cases hc

theorem Sl.nil : Sl E h sz .nils 0 [] := ⟨rfl, rfl, (fun _ e => by cases e), (fun _ _ _ _ e => by cases e), (fun _ _ _ e => by cases e)⟩

theorem knownL_some {k : Nat} {l vs : List V} (h : knownL k l = some vs) : l.length = k ∧ l.all V.one = true ∧ vs = l := by
  unfold knownL at h
  obtain ⟨h1, h2⟩ := bif_some h
  simp only [Bool.and_eq_true] at h1
  injection h2 with h2
  exact ⟨Nat.eq_of_beq_eq_true h1.1, h1.2, h2.symm⟩
theorem knownL_mk {k : Nat} {l : List V} (h1 : l.length = k) (h2 : l.all V.one = true) : knownL k l = some l := by
  unfold knownL
  have : Nat.beq l.length k = true := by rw [h1]; simp
  rw [this, h2]; rfl

theorem takeG_some {a : Addr} {k : Nat} {vs : List V} (h : takeG E a k = some vs) (hk : 0 < k) : a.spot = none ∧ ∃ cs, E.globs.get a.block = some cs ∧ vs = (cs.drop a.off).take k ∧ vs.length = k ∧ vs.all V.one = true := by
  unfold takeG at h
  split at h
  · omega
  · split at h
    · rename_i hs
      split at h
      · rename_i cs hcs
        obtain ⟨h1, h2, rfl⟩ := knownL_some h
        exact ⟨hs, cs, hcs, rfl, h1, h2⟩
      · cases h
    · cases h
theorem takeG_len {a : Addr} {k : Nat} {vs : List V} (h : takeG E a k = some vs) : vs.length = k := by
  rcases Nat.eq_zero_or_pos k with rfl | hk
  · simp [takeG] at h; subst h; rfl
  · exact (takeG_some h hk).2.choose_spec.2.2.1

theorem Sl.size (a : Sl E h sz s n vs) : vs.length = n * sz := by
  have hc := a.cells
  have hl := a.len
  unfold srcCells at hc
  split at hc
  · simp only [lenV] at hl; injection hl with hl; subst hl
    injection hc with hc; subst hc; simp
  · rename_i b o m c
    cases h0 : Nat.beq (n * sz) 0 with
    | true => rw [h0] at hc; injection hc with hc; subst hc; simpa using (Nat.eq_of_beq_eq_true h0).symm
    | false =>
      simp only [h0, cond_false] at hc
      obtain ⟨_, hc⟩ := bif_some hc
      split at hc
      · exact (cellsFrom_get hc).1
      · cases hc
  · obtain ⟨_, hc⟩ := bif_some hc
    exact takeG_len hc
  · exact absurd rfl (a.slice _)
  · cases hc

theorem Sl.place (a : Sl E h sz s n vs) {t e k : Nat} {i ei : TI} (ht : E.tys.get t = some i) (hd : i.desc = .slice e) (he : E.tys.get e = some ei) (hsz : ei.size = sz) (hpos : 0 < sz) (hk : k < n) :
    ∃ p, indexAddrV E t s (.int .i64 k) = some p ∧ ∀ h', (∀ b o m c, s = .slice b o m c → h'.t.get b = h.t.get b) →
      loadP E h' e p = bif ei.agg then some (.agg ((vs.drop (k * sz)).take sz)) else vs[k * sz]? := by
  have hc := a.cells
  have hl := a.len
  have hlt : Nat.blt k n = true := by simpa using hk
  have hbig : 0 < n * sz := Nat.mul_pos (by omega) hpos
  have hin : k * sz + sz ≤ n * sz := by rw [← Nat.succ_mul]; exact Nat.mul_le_mul_right _ hk
  unfold srcCells at hc
  split at hc
  · simp only [lenV] at hl; injection hl with hl; omega
  · rename_i b o m c
    simp only [lenV] at hl; injection hl with hl; subst hl
    have h0 : Nat.beq (m * sz) 0 = false := by
      cases hb : Nat.beq (m * sz) 0 with
      | false => rfl
      | true => have := Nat.eq_of_beq_eq_true hb; omega
    simp only [h0, cond_false] at hc
    obtain ⟨_, hc⟩ := bif_some hc
    split at hc
    · rename_i T N d e' kk hb
      obtain ⟨q1, q2⟩ := cellsFrom_get hc
      refine ⟨.ptr b (o + k * sz), ?_, fun h' hsame => ?_⟩
      · simp [indexAddrV, ht, hd, natOf_nat, hlt, sizeOfT, he, hsz]
      · simp only [loadP, loadV, he, hsame b _ _ _ rfl, hb]
        cases ei.agg with
        | true =>
          simp only [cond_true, hsz]
          rw [cellsFrom_of (vs := (vs.drop (k * sz)).take sz) (by simp; omega) (fun j hj => by
            rw [Nat.add_assoc, q2 _ (by omega), List.getElem?_take, if_pos hj, List.getElem?_drop])]
          rfl
        | false =>
          simp only [cond_false]
          exact q2 _ (by omega)
    · cases hc
  · rename_i ad m c
    simp only [lenV] at hl; injection hl with hl; subst hl
    obtain ⟨_, hc⟩ := bif_some hc
    obtain ⟨h1, cs, h2, h3, h4, h5⟩ := takeG_some hc hbig
    refine ⟨.gp ad.block (ad.off + k * sz), ?_, fun h' _ => ?_⟩
    · simp [indexAddrV, ht, hd, natOf_nat, hlt, sizeOfT, he, hsz, h1]
    · have hget : ∀ j, j < sz → cs[ad.off + k * sz + j]? = vs[k * sz + j]? := by
        intro j hj
        rw [h3, List.getElem?_take, if_pos (by omega), List.getElem?_drop, Nat.add_assoc]
      simp only [loadP, loadG, he, h2]
      cases ei.agg with
      | true =>
        simp only [cond_true, hsz]
        have hsub : (cs.drop (ad.off + k * sz)).take sz = (vs.drop (k * sz)).take sz := by
          apply List.ext_getElem?
          intro j
          rw [List.getElem?_take, List.getElem?_take]
          split
          · rename_i hj; rw [List.getElem?_drop, List.getElem?_drop, hget j hj]
          · rfl
        rw [hsub, knownL_mk (by simp; omega) (by
          rw [List.all_eq_true] at h5 ⊢
          intro x hx
          exact h5 x (List.mem_of_mem_drop (List.mem_of_mem_take hx)))]
        rfl
      | false =>
        simp only [cond_false, nth_eq]
        have := hget 0 hpos
        simp only [Nat.add_zero] at this
        rw [this]
        have hlt2 : k * sz < vs.length := by omega
        rw [List.getElem?_eq_getElem hlt2]
        have h6 : (vs[k * sz]).one = true := List.all_eq_true.1 h5 _ (List.getElem_mem _)
        simp [h6]
  · exact absurd rfl (a.slice _)
  · cases hc

theorem Sl.lenB (a : Sl E h sz s n vs) {t : Nat} {i : TI} {e : Nat} (ht : E.tys.get t = some i) (hd : i.desc = .slice e) (h' : H) : Ev.lenB E h' t s = some (.int .i64 n) := by
  have hl := a.len
  unfold lenV at hl
  split at hl
  · injection hl with hl; subst hl; simp [Ev.lenB, ht, hd]
  · injection hl with hl; subst hl; simp [Ev.lenB, ht, hd]
  · injection hl with hl; subst hl; simp [Ev.lenB, ht, hd]
  · exact absurd rfl (a.slice _)
  · cases hl

theorem ble_true {a b : Nat} (h : a ≤ b) : Nat.ble a b = true := Nat.ble_eq_true_of_le h
theorem ble_false {a b : Nat} (h : b < a) : Nat.ble a b = false := by
  cases hb : Nat.ble a b with
  | false => rfl
  | true => have := Nat.le_of_ble_eq_true hb; omega
theorem blt_true {a b : Nat} (h : a < b) : Nat.blt a b = true := by simpa using h
theorem beq_false {a b : Nat} (h : a ≠ b) : Nat.beq a b = false := by
  cases hb : Nat.beq a b with
  | false => rfl
  | true => exact absurd (Nat.eq_of_beq_eq_true hb) h
end

theorem fieldAddr_of {E : Env} {t f : Nat} {i j : TI} {fs : Array Field} {fd : Field} (ht : E.tys.get t = some i) (hd : i.desc = .struct fs) (hf : fs.toList[f]? = some fd) (hj : E.tys.get fd.type = some j) (hz : 0 < j.size) {b o : Nat} : fieldAddrV E t (.ptr b o) f = some (.ptr b (o + fd.offset)) := by
  have : sizeOfT E fd.type = some j.size := by simp only [sizeOfT, hj, Option.map_some]
  simp only [fieldAddrV, ht, hd, nth_eq, hf, this]
  split
  · rename_i h; injection h with h; omega
  · rfl
  · rename_i h; cases h
theorem fieldAddr_gp {E : Env} {t f : Nat} {i j : TI} {fs : Array Field} {fd : Field} (ht : E.tys.get t = some i) (hd : i.desc = .struct fs) (hf : fs.toList[f]? = some fd) (hj : E.tys.get fd.type = some j) (hz : 0 < j.size) {b o : Nat} : fieldAddrV E t (.gp b o) f = some (.gp b (o + fd.offset)) := by
  have : sizeOfT E fd.type = some j.size := by simp only [sizeOfT, hj, Option.map_some]
  simp only [fieldAddrV, ht, hd, nth_eq, hf, this]
  split
  · rename_i h; injection h with h; omega
  · rfl
  · rename_i h; cases h
theorem sizeOf_of {E : Env} {t : Nat} {i : TI} (ht : E.tys.get t = some i) : sizeOfT E t = some i.size := by simp only [sizeOfT, ht, Option.map_some]
theorem conv_int {E : Env} {s t : Nat} {i j : TI} {k k' : IntKind} {n : Int} {h : H} (hs : E.tys.get s = some i) (ht : E.tys.get t = some j) (hd : j.desc = .int k) : convV E h s t (.int k' n) = some (.int k (k.wrap n), h) := by
  simp only [convV, hs, ht]
  split <;> simp_all
end Go.Ev
