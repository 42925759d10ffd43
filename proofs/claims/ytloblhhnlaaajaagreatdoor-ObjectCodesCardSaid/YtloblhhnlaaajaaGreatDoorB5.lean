/- Slices of slices; what grows; new blocks. -/
import Derived.Test.YtloblhhnlaaajaaGreatDoorB4
set_option linter.unusedVariables false
set_option linter.unusedSimpArgs false
set_option linter.defProp false
namespace Go.Ev
open Go

section
variable {E : Env} {K : Nat → Prop} {h h' : H} {sz n : Nat} {s : V} {vs : List V}

def optV (x : Option Nat) : Option V := x.map fun n => .int .i64 n

theorem Sl.sub (a : Sl E h sz s n vs) {t e : Nat} {i : TI} (ht : E.tys.get t = some i) (hd : i.desc = .slice e) (hs : sizeOfT E e = some sz) {lo hi : Option Nat} {l r : Nat} (hl : lo.getD 0 = l) (hr : hi.getD n = r) (h1 : l ≤ r) (h2 : r ≤ n) :
    ∃ s', sliceV E t s (optV lo) (optV hi) none = some s' ∧ Sl E h sz s' (r - l) ((vs.drop (l * sz)).take ((r - l) * sz)) ∧ (∀ K, In K s → In K s') ∧ (s = .nils → s' = .nils) := by
  have hlo : optNat (some 0) (optV lo) = some l := by
    cases lo with
    | none => simp at hl; subst hl; rfl
    | some x => simp at hl; subst hl; rfl
  have hhi : ∀ m, m = n → optNat (some m) (optV hi) = some r := by
    rintro m rfl
    cases hi with
    | none => simp at hr; subst hr; rfl
    | some x => simp at hr; subst hr; rfl
  have hlen := a.size
  have hle : (r - l) * sz + l * sz ≤ n * sz := by rw [← Nat.add_mul]; exact Nat.mul_le_mul_right _ (by omega)
  have hc := a.cells
  have hln := a.len
  unfold srcCells at hc
  split at hc
  · simp only [lenV] at hln; injection hln with hln; subst hln
    injection hc with hc; subst hc
    have hr0 : r = 0 := by omega
    have hl0 : l = 0 := by omega
    subst hr0 hl0
    refine ⟨.nils, ?_, by simpa using (Sl.nil (E := E) (h := h) (sz := sz)), fun K _ => In.nils, fun _ => rfl⟩
    have z : sliceV E t .nils (optV lo) (optV hi) none = subNil (optV lo) (optV hi) none := by simp only [sliceV, ht, hd, hs]
    rw [z]
    cases lo with
    | none => cases hi with
      | none => rfl
      | some y => simp at hr; subst hr; rfl
    | some x => cases hi with
      | none => simp at hl; subst hl; rfl
      | some y => simp at hl hr; subst hl hr; rfl
  · rename_i b o m c
    simp only [lenV] at hln; injection hln with hln; subst hln
    have hcap : ∀ cc, c = .lit cc → m ≤ cc := fun cc e => a.cap.1 b o m cc (by rw [e])
    -- the cells of the part
    have key : ∀ (o' : Nat) (c' : Cp), ((r - l) * sz ≠ 0 → o' = o + l * sz) → (∀ cc, c' = .lit cc → r - l ≤ cc) → Sl E h sz (.slice b o' (r - l) c') (r - l) ((vs.drop (l * sz)).take ((r - l) * sz)) := by
      intro o' c' ho hcc
      refine ⟨rfl, ?_, (fun _ e => by cases e), (fun b o m c e => by injection e with _ _ e1 e2; subst e1; exact hcc _ e2), (fun _ _ _ e => by cases e)⟩
      unfold srcCells
      simp only
      cases h0 : Nat.beq ((r - l) * sz) 0 with
      | true =>
        have := Nat.eq_of_beq_eq_true h0
        simp [this]
      | false =>
        have hne : (r - l) * sz ≠ 0 := by intro e; rw [e] at h0; simp at h0
        rw [ho hne]
        have h0' : Nat.beq (m * sz) 0 = false := beq_false (by omega)
        simp only [h0', cond_false] at hc
        obtain ⟨_, hc⟩ := bif_some hc
        simp only [cond_false, ble_true (Nat.le_refl (r - l)), cond_true]
        split at hc
        · rename_i T N d e' kk hb
          obtain ⟨q1, q2⟩ := cellsFrom_get hc
          exact cellsFrom_of (by simp; omega) (fun j hj => by rw [Nat.add_assoc, q2 _ (by omega), List.getElem?_take, if_pos hj, List.getElem?_drop])
        · cases hc
    cases c with
    | lit cc =>
      have hcc := hcap cc rfl
      refine ⟨.slice b (bif Nat.beq cc l then o else o + l * sz) (r - l) (.lit (cc - l)), ?_, key _ _ ?_ (fun c e => by injection e with e; omega), fun K hK b' o' n' c' e => by injection e with e; subst e; exact hK _ _ _ _ rfl, fun e => by cases e⟩
      · simp only [sliceV, ht, hd, hs, subSlice, hlo, hhi m rfl, Option.bind_some, ble_true h1, cond_true, subEnd, ble_true (show r ≤ cc by omega)]
      · intro hne
        cases hb : Nat.beq cc l with
        | true => have := Nat.eq_of_beq_eq_true hb; have : r - l = 0 := by omega
                  rw [this] at hne; simp at hne
        | false => rfl
    | opn el o' =>
      cases l with
      | zero =>
        refine ⟨.slice b o r (.opn el o'), ?_, by simpa using key o (.opn el o') (fun _ => by simp) (fun c e => by cases e), fun K hK b' o' n' c' e => by injection e with e; subst e; exact hK _ _ _ _ rfl, fun e => by cases e⟩
        simp only [sliceV, ht, hd, hs, subSlice, hlo, hhi m rfl, Option.bind_some, ble_true h1, cond_true, subEnd, ble_true h2]
      | succ l' =>
        refine ⟨.slice b (o + (Nat.succ l') * sz) (r - Nat.succ l') (.opn (el + Nat.succ l') o), ?_, key _ _ (fun _ => rfl) (fun c e => by cases e), fun K hK b' o' n' c' e => by injection e with e; subst e; exact hK _ _ _ _ rfl, fun e => by cases e⟩
        simp only [sliceV, ht, hd, hs, subSlice, hlo, hhi m rfl, Option.bind_some, ble_true h1, cond_true, subEnd, ble_true h2]
  · rename_i ad m c
    simp only [lenV] at hln; injection hln with hln; subst hln
    have hcc := a.cap.2 ad m c rfl
    obtain ⟨_, hc⟩ := bif_some hc
    refine ⟨.gsl (bif Nat.beq c l then ad else ad.add (l * sz)) (r - l) (c - l), ?_, ⟨rfl, ?_, (fun _ e => by cases e), (fun _ _ _ _ e => by cases e), (fun a m c e => by injection e with _ e1 e2; omega)⟩, fun K _ => In.gsl, fun e => by cases e⟩
    · simp only [sliceV, ht, hd, hs, subG, hlo, hhi m rfl, Option.bind_some, ble_true h1, cond_true, ble_true (show r ≤ c by omega)]
    · simp only [srcCells, ble_true (Nat.le_refl (r - l)), cond_true]
      rcases Nat.eq_zero_or_pos ((r - l) * sz) with h0 | h0
      · rw [h0]; simp [takeG]
      · obtain ⟨g1, cs, g2, g3, g4, g5⟩ := takeG_some hc (by omega)
        have hne : c ≠ l := by
          rintro rfl
          have : r - c = 0 := by omega
          rw [this] at h0; simp at h0
        rw [beq_false hne]
        simp only [cond_false]
        have hadd : ad.add (l * sz) = ⟨ad.block, ad.off + l * sz, none⟩ := by
          obtain ⟨g, o, sp⟩ := ad
          simp only at g1; subst g1
          exact Addr.add_lit _ _ _
        rw [hadd]
        have hsub : (cs.drop (ad.off + l * sz)).take ((r - l) * sz) = (vs.drop (l * sz)).take ((r - l) * sz) := by
          apply List.ext_getElem?
          intro j
          rw [List.getElem?_take, List.getElem?_take]
          split
          · rename_i hj
            rw [List.getElem?_drop, List.getElem?_drop, g3, List.getElem?_take, if_pos (by omega), List.getElem?_drop, Nat.add_assoc]
          · rfl
        unfold takeG
        split
        · rename_i hz; omega
        · simp only [g2, hsub]
          exact knownL_mk (by simp; omega) (by
            rw [List.all_eq_true] at g5 ⊢
            intro x hx
            exact g5 x (List.mem_of_mem_drop (List.mem_of_mem_take hx)))
  · exact absurd rfl (a.slice _)
  · cases hc

inductive Buf (E : Env) (h : H) (e sz : Nat) : V → Nat → List V → Prop where
  | nil : Buf E h e sz .nils 0 []
  | lit {b n t N d e' k vs} (hb : h.t.get b = some (.cells t N d e' k)) (hc : cellsFrom t N d 0 (n * sz) = some vs) : Buf E h e sz (.slice b 0 n (.lit n)) n vs
  | opn {b n t d k vs} (hb : h.t.get b = some (.cells t (n * sz) d e k)) (hk : k = 1 ∨ k = 2) (hc : cellsFrom t (n * sz) d 0 (n * sz) = some vs) : Buf E h e sz (.slice b 0 n (.opn 0 0)) n vs

theorem Buf.sl {e : Nat} (b : Buf E h e sz s n vs) : Sl E h sz s n vs := by
  cases b with
  | nil => exact Sl.nil
  | lit hb hc =>
    refine ⟨rfl, ?_, (fun _ e => by cases e), (fun b o m c e => by injection e with _ _ e1 e2; injection e2 with e2; omega), (fun _ _ _ e => by cases e)⟩
    simp only [srcCells, hb, ble_true (Nat.le_refl n), cond_true, hc]
    cases h0 : Nat.beq (n * sz) 0 with
    | true =>
      have h0 := Nat.eq_of_beq_eq_true h0
      rw [h0] at hc; simp [cellsFrom] at hc; subst hc; rfl
    | false => rfl
  | opn hb hk hc =>
    refine ⟨rfl, ?_, (fun _ e => by cases e), (fun b o m c e => by injection e with _ _ e1 e2; cases e2), (fun _ _ _ e => by cases e)⟩
    simp only [srcCells, hb, ble_true (Nat.le_refl n), cond_true, hc]
    cases h0 : Nat.beq (n * sz) 0 with
    | true =>
      have h0 := Nat.eq_of_beq_eq_true h0
      rw [h0] at hc; simp [cellsFrom] at hc; subst hc; rfl
    | false => rfl

theorem Buf.fix {e : Nat} (b : Buf E h e sz s n vs) (hs : In K s) (hf : Fix K h h') : Buf E h' e sz s n vs := by
  cases b with
  | nil => exact .nil
  | lit hb hc => exact .lit (by rw [hf.same _ (hs _ _ _ _ rfl)]; exact hb) hc
  | opn hb hk hc => exact .opn (by rw [hf.same _ (hs _ _ _ _ rfl)]; exact hb) hk hc

theorem row_get {h : H} {elem kind : Nat} {cs : List V} {k : Nat} : (row h elem cs kind).2.t.get k = if k = h.next then some (.cells (T.putL .lf 0 cs) cs.length [.nilp] elem kind) else h.t.get k := by
  simp only [row, H.new, T.get_set]
theorem row_next {h : H} {elem kind : Nat} {cs : List V} : (row h elem cs kind).2.next = h.next + 1 := rfl
theorem row_fst {h : H} {elem kind : Nat} {cs : List V} : (row h elem cs kind).1 = h.next := rfl
theorem row_fix {h : H} {elem kind : Nat} {cs : List V} (hK : ∀ c, K c → c < h.next) : Fix K h (row h elem cs kind).2 := by
  refine ⟨by rw [row_next]; omega, fun b hb => ?_⟩
  rw [row_get, if_neg (by have := hK b hb; omega)]
theorem row_cells {cs d : List V} : cellsFrom (T.putL .lf 0 cs) cs.length d 0 cs.length = some cs :=
  cellsFrom_of rfl (fun j _ => by rw [Nat.zero_add, cellAt_row])

theorem Buf.append {t t2 e : Nat} {i j ei : TI} (b : Buf E h e sz s n vs) (ht : E.tys.get t = some i) (hd : i.desc = .slice e) (hj : E.tys.get t2 = some j) (hjd : (∃ e', j.desc = .slice e') ∨ j.desc = .string)
    (he : E.tys.get e = some ei) (hsz : ei.size = sz) (hpos : 0 < sz) (hb0 : 0 < ei.bytes) {x : V} {m : Nat} {ws : List V} (hl : lenV x = some m) (hc : srcCells E h sz m x = some ws) (hw : ws.length = m * sz) (h1 : ws.all V.one = true)
    (hsize : (n + m) * ei.bytes ≤ 140737488355328) (hK : ∀ c, K c → c < h.next) (ho : Out K s) (hlow : In (· < h.next) s) :
    ∃ s' h', appendB E h t t2 s x = some (s', h') ∧ Buf E h' e sz s' (n + m) (vs ++ ws) ∧ Fix K h h' ∧ In (· < h'.next) s' ∧ (∀ b o k c, s' = .slice b o k c → b = h.next ∨ ∃ o k c, s = .slice b o k c) ∧ h'.next ≤ h.next + 1 ∧
      (∀ b, (∀ o k c, s ≠ .slice b o k c) → b < h.next → h'.t.get b = h.t.get b) := by
  have happ : appendB E h t t2 s x = appendV E h t s x := by
    unfold appendB
    rw [hj]
    rcases hjd with ⟨e', q⟩ | q <;> simp only [q]
  rw [happ]
  have hc' : srcCells E h ei.size m x = some ws := by rw [hsz]; exact hc
  have hbs : Nat.blt 0 ei.bytes = true := blt_true hb0
  have hss : Nat.blt 0 ei.size = true := blt_true (by omega)
  cases b with
  | nil =>
    cases m with
    | zero =>
      have : ws = [] := by simpa using hw
      subst this
      exact ⟨.nils, h, by simp [appendV, ht, hd, he, hl, hc'], .nil, Fix.refl _ _, hlow, (fun _ _ _ _ e => by cases e), by omega, fun _ _ _ => rfl⟩
    | succ m =>
      refine ⟨.slice h.next 0 (m + 1) (.opn 0 0), (row h e ws 1).2, ?_, ?_, row_fix hK, ?_, ?_, by rw [row_next]; omega, fun b _ hb => by rw [row_get, if_neg (by omega)]⟩
      · have : Nat.ble ((m + 1) * ei.bytes) 140737488355328 = true := ble_true (by simpa using hsize)
        simp [appendV, ht, hd, he, hl, hc', h1, this, hbs, grow, row, H.new]
      · have hlen : ws.length = (0 + (m + 1)) * sz := by rw [hw]; simp
        have := row_cells (cs := ws) (d := [.nilp])
        rw [hlen] at this
        have q := Buf.opn (E := E) (h := (row h e ws 1).2) (e := e) (sz := sz) (b := h.next) (n := 0 + (m + 1)) (d := [.nilp]) (t := T.putL .lf 0 ws) (k := 1) (vs := ws) (by rw [row_get, if_pos rfl, hlen]) (.inl rfl) this
        simpa using q
      · intro b o k c e; injection e with e; subst e; exact Nat.lt_succ_self _
      · intro b o k c e; injection e with e; exact .inl e.symm
  | @lit b _ t' N d e' k _ hb hcs =>
    cases m with
    | zero =>
      have : ws = [] := by simpa using hw
      subst this
      refine ⟨.slice b 0 n (.lit n), h, ?_, by simpa using (Buf.lit hb hcs), Fix.refl _ _, hlow, (fun b' o k c e => by injection e with e; subst e; exact .inr ⟨_, _, _, rfl⟩), by omega, fun _ _ _ => rfl⟩
      have h2 : Nat.ble (n * ei.bytes) 140737488355328 = true := ble_true (by simpa using hsize)
      simp only [appendV, ht, hd, he, hl, hc', List.all_nil, Bool.not_true, cond_false, Nat.add_zero, h2, hbs, hss, Bool.and_self, ble_true (Nat.le_refl n), cond_true, storeL, Option.map_some]
    | succ m =>
      have hlen : (vs ++ ws).length = (n + (m + 1)) * sz := by rw [List.length_append, (cellsFrom_get hcs).1, hw, ← Nat.add_mul]
      refine ⟨.slice h.next 0 (n + (m + 1)) (.opn 0 0), (row h e (vs ++ ws) 1).2, ?_, ?_, row_fix hK, ?_, ?_, by rw [row_next]; omega, fun b _ hb => by rw [row_get, if_neg (by omega)]⟩
      · have h2 : Nat.ble ((n + (m + 1)) * ei.bytes) 140737488355328 = true := ble_true hsize
        have h3 : Nat.ble (n + (m + 1)) n = false := ble_false (by omega)
        have h4 := (Buf.sl (Buf.lit (E := E) (h := h) (e := e) (sz := sz) hb hcs)).cells
        rw [← hsz] at h4
        simp only [appendV, ht, hd, he, hl, hc', h1, Bool.not_true, cond_false, h2, hbs, hss, Bool.and_self, h3, h4, grow, row, H.new]
      · have := row_cells (cs := vs ++ ws) (d := [.nilp])
        rw [hlen] at this
        exact .opn (by rw [row_get, if_pos rfl, hlen]) (.inl rfl) this
      · intro b o k c e; injection e with e; subst e; exact Nat.lt_succ_self _
      · intro b o k c e; injection e with e; exact .inl e.symm
  | @opn b _ t' d k _ hb hk hcs =>
    have hkk : (Nat.beq k 1 || Nat.beq k 2) = true := by rcases hk with rfl | rfl <;> rfl
    cases m with
    | zero =>
      have : ws = [] := by simpa using hw
      subst this
      refine ⟨.slice b 0 n (.opn 0 0), h, ?_, by simpa using (Buf.opn hb hk hcs), Fix.refl _ _, hlow, (fun b' o k c e => by injection e with e; subst e; exact .inr ⟨_, _, _, rfl⟩), by omega, fun _ _ _ => rfl⟩
      have h2 : Nat.ble (n * ei.bytes) 140737488355328 = true := ble_true (by simpa using hsize)
      have h3 : Nat.ble (n * ei.size) (n * sz) = true := by rw [hsz]; exact ble_true (Nat.le_refl _)
      simp only [appendV, ht, hd, he, hl, hc', List.all_nil, Bool.not_true, cond_false, Nat.add_zero, h2, hbs, hss, Bool.and_self, hb, hkk, Nat.beq_refl, Nat.zero_add, h3, cond_true, storeL, Option.map_some]
    | succ m =>
      have h2 : Nat.ble ((n + (m + 1)) * ei.bytes) 140737488355328 = true := ble_true hsize
      have h3 : Nat.ble ((0 + (n + (m + 1))) * ei.size) (n * sz) = false := ble_false (by rw [hsz, Nat.zero_add]; exact Nat.mul_lt_mul_of_pos_right (by omega) hpos)
      have h4 : Nat.ble (n * ei.size) (n * sz) = true := by rw [hsz]; exact ble_true (Nat.le_refl _)
      have hlen := (cellsFrom_get hcs).1
      have hbK : ¬ K b := ho _ _ _ _ rfl
      have hb' : ∀ c, c ≠ b → ∀ B : T B, (B.del b).get c = B.get c := fun c hc B => by rw [T.get_del, if_neg hc]
      refine ⟨.slice h.next 0 (n + (m + 1)) (.opn 0 0), H.mk ((h.t.del b).set h.next (.cells (t'.putL (n * sz) ws) ((n + (m + 1)) * sz) d e k)) (Nat.succ h.next), ?_, ?_, ?_, ?_, ?_, Nat.le_refl _, fun c h1 h2 => ?_⟩
      · simp only [appendV, ht, hd, he, hl, hc', h1, Bool.not_true, cond_false, h2, hbs, hss, Bool.and_self, hb, hkk, Nat.beq_refl, h3, h4, cond_true]
        rw [hsz]
      · refine .opn (t := t'.putL (n * sz) ws) (d := d) (by rw [T.get_set, if_pos rfl]) hk ?_
        have hsum : n * sz + ws.length = (n + (m + 1)) * sz := by rw [hw, ← Nat.add_mul]
        refine cellsFrom_of (by rw [List.length_append, hlen, hsum]) (fun j hj => ?_)
        rw [Nat.zero_add, cellAt_putL (by omega)]
        by_cases hjn : j < n * sz
        · rw [if_neg (by omega), List.getElem?_append_left (by omega)]
          have := (cellsFrom_get hcs).2 j hjn
          rw [Nat.zero_add] at this
          rw [← this]
          unfold cellAt
          rw [blt_true hjn, blt_true hj]
        · rw [if_pos (by omega), List.getElem?_append_right (by omega), hlen]
      · refine ⟨Nat.le_succ _, fun c hc => ?_⟩
        have h5 := hK c hc
        simp only [T.get_set]
        rw [if_neg (by omega), hb' c (by rintro rfl; exact hbK hc)]
      · intro b o k c e; injection e with e; subst e; exact Nat.lt_succ_self _
      · intro b o k c e; injection e with e; exact .inl e.symm
      · simp only [T.get_set]
        rw [if_neg (by omega), hb' c (by rintro rfl; exact h1 _ _ _ rfl)]
end
end Go.Ev
