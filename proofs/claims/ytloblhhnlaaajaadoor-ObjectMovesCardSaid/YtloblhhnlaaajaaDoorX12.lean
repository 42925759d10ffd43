/- Slices of slices; what grows; new blocks. -/
import Derived.Test.YtloblhhnlaaajaaDoorX11
set_option linter.unusedVariables false
set_option linter.unusedSimpArgs false
set_option linter.defProp false
namespace Go.Ev
open Go

section
variable {E : Env} {K : Nat → Prop} {h h' : H} {sz n : Nat} {s : V} {vs : List V}

def optV (x : Option Nat) : Option V := x.map fun n => .int .i64 n

theorem Sl.sub (a : Sl E h sz s n vs) {t e : Nat} {i : TI} (ht : E.tys.get t = some i) (hd : i.desc = .slice e) (hs : sizeOfT E e = some sz) {lo hi : Option Nat} {l r : Nat} (hl : lo.getD 0 = l) (hr : hi.getD n = r) (h1 : l ≤ r) (h2 : r ≤ n) :
  ∃ s', sliceV E t s (optV lo) (optV hi) none = some s' ∧ Sl E h sz s' (r - l) ((vs.drop (l * sz)).take ((r - l) * sz)) ∧ (∀ K, In K s → In K s') ∧ (s = .nils → s' = .nils) := by
 have hlo : optNat (some 0) (optV lo) = some l := by
  cases lo with
  | none => simp at hl; subst hl; rfl
  | some x => simp at hl; subst hl; rfl
 have hhi : ∀ m, m = n → optNat (some m) (optV hi) = some r := by
  rintro m rfl
  cases hi with
  | none => simp at hr; subst hr; rfl
  | some x => simp at hr; subst hr; rfl
 have hlen := a.size
 have hle : (r - l) * sz + l * sz ≤ n * sz := by rw [← Nat.add_mul]; exact Nat.mul_le_mul_right _ (by omega)
 have hc := a.cells
 have hln := a.len
 unfold srcCells at hc
 split at hc
 ·simp only [lenV] at hln; injection hln with hln; subst hln
  injection hc with hc; subst hc
  have hr0 : r = 0 := by omega
  have hl0 : l = 0 := by omega
  subst hr0 hl0
  refine ⟨.nils, ?_, by simpa using (Sl.nil (E := E) (h := h) (sz := sz)), fun K _ => In.nils, fun _ => rfl⟩
  have z : sliceV E t .nils (optV lo) (optV hi) none = subNil (optV lo) (optV hi) none := by simp only [sliceV, ht, hd, hs]
  rw [z]
  cases lo with
  | none => cases hi with
   | none => rfl
   | some y => simp at hr; subst hr; rfl
  | some x => cases hi with
   | none => simp at hl; subst hl; rfl
   | some y => simp at hl hr; subst hl hr; rfl
 ·rename_i b o m c
  simp only [lenV] at hln; injection hln with hln; subst hln
  have hcap : ∀ cc, c = .lit cc → m ≤ cc := fun cc e => a.cap.1 b o m cc (by rw [e])
  -- the cells of the part
  have key : ∀ (o' : Nat) (c' : Cp), ((r - l) * sz ≠ 0 → o' = o + l * sz) → (∀ cc, c' = .lit cc → r - l ≤ cc) → Sl E h sz (.slice b o' (r - l) c') (r - l) ((vs.drop (l * sz)).take ((r - l) * sz)) := by
   intro o' c' ho hcc
   refine ⟨rfl, ?_, (fun _ e => by cases e), (fun b o m c e => by injection e with _ _ e1 e2; subst e1; exact hcc _ e2), (fun _ _ _ e => by cases e)⟩
   unfold srcCells
   simp only
   cases h0 : Nat.beq ((r - l) * sz) 0 with
   | true =>
    have := Nat.eq_of_beq_eq_true h0
    simp [this]
   | false =>
    have hne : (r - l) * sz ≠ 0 := by intro e; rw [e] at h0; simp at h0
    rw [ho hne]
    have h0' : Nat.beq (m * sz) 0 = false := beq_false (by omega)
    simp only [h0', cond_false] at hc
    obtain ⟨_, hc⟩ := bif_some hc
    simp only [cond_false, ble_true (Nat.le_refl (r - l)), cond_true]
    split at hc
    ·rename_i T N d e' kk hb
     obtain ⟨q1, q2⟩ := cellsFrom_get hc
     exact cellsFrom_of (by simp; omega) (fun j hj => by rw [Nat.add_assoc, q2 _ (by omega), List.getElem?_take, if_pos hj, List.getElem?_drop])
    ·cases hc
  cases c with
  | lit cc =>
   have hcc := hcap cc rfl
   refine ⟨.slice b (bif Nat.beq cc l then o else o + l * sz) (r - l) (.lit (cc - l)), ?_, key _ _ ?_ (fun c e => by injection e with e; omega), fun K hK b' o' n' c' e => by injection e with e; subst e; exact hK _ _ _ _ rfl, fun e => by cases e⟩
   ·simp only [sliceV, ht, hd, hs, subSlice, hlo, hhi m rfl, Option.bind_some, ble_true h1, cond_true, subEnd, ble_true (show r ≤ cc by omega)]
   ·intro hne
    cases hb : Nat.beq cc l with
    | true => have := Nat.eq_of_beq_eq_true hb; have : r - l = 0 := by omega
              rw [this] at hne; simp at hne
    | false => rfl
  | opn el o' =>
   cases l with
   | zero =>
    refine ⟨.slice b o r (.opn el o'), ?_, by simpa using key o (.opn el o') (fun _ => by simp) (fun c e => by cases e), fun K hK b' o' n' c' e => by injection e with e; subst e; exact hK _ _ _ _ rfl, fun e => by cases e⟩
    simp only [sliceV, ht, hd, hs, subSlice, hlo, hhi m rfl, Option.bind_some, ble_true h1, cond_true, subEnd, ble_true h2]
   | succ l' =>
    refine ⟨.slice b (o + (Nat.succ l') * sz) (r - Nat.succ l') (.opn (el + Nat.succ l') o), ?_, key _ _ (fun _ => rfl) (fun c e => by cases e), fun K hK b' o' n' c' e => by injection e with e; subst e; exact hK _ _ _ _ rfl, fun e => by cases e⟩
    simp only [sliceV, ht, hd, hs, subSlice, hlo, hhi m rfl, Option.bind_some, ble_true h1, cond_true, subEnd, ble_true h2]
 ·rename_i ad m c
  simp only [lenV] at hln; injection hln with hln; subst hln
  have hcc := a.cap.2 ad m c rfl
  obtain ⟨_, hc⟩ := bif_some hc
  refine ⟨.gsl (bif Nat.beq c l then ad else ad.add (l * sz)) (r - l) (c - l), ?_, ⟨rfl, ?_, (fun _ e => by cases e), (fun _ _ _ _ e => by cases e), (fun a m c e => by injection e with _ e1 e2; omega)⟩, fun K _ => In.gsl, fun e => by cases e⟩
  ·simp only [sliceV, ht, hd, hs, subG, hlo, hhi m rfl, Option.bind_some, ble_true h1, cond_true, ble_true (show r ≤ c by omega)]
  ·simp only [srcCells, ble_true (Nat.le_refl (r - l)), cond_true]
   rcases Nat.eq_zero_or_pos ((r - l) * sz) with h0 | h0
   ·rw [h0]; simp [takeG]
   ·obtain ⟨g1, cs, g2, g3, g4, g5⟩ := takeG_some hc (by omega)
    have hne : c ≠ l := by
     rintro rfl
     have : r - c = 0 := by omega
     rw [this] at h0; simp at h0
    rw [beq_false hne]
    simp only [cond_false]
    have hadd : ad.add (l * sz) = ⟨ad.block, ad.off + l * sz, none⟩ := by
     obtain ⟨g, o, sp⟩ := ad
     simp only at g1; subst g1
     exact Addr.add_lit _ _ _
    rw [hadd]
    have hsub : (cs.drop (ad.off + l * sz)).take ((r - l) * sz) = (vs.drop (l * sz)).take ((r - l) * sz) := by
     apply List.ext_getElem?
     intro j
     rw [List.getElem?_take, List.getElem?_take]
     split
     ·rename_i hj
      rw [List.getElem?_drop, List.getElem?_drop, g3, List.getElem?_take, if_pos (by omega), List.getElem?_drop, Nat.add_assoc]
     ·rfl
    unfold takeG
    split
    ·rename_i hz; omega
    ·simp only [g2, hsub]
     exact knownL_mk (by simp; omega) (by
      rw [List.all_eq_true] at g5 ⊢
      intro x hx
      exact g5 x (List.mem_of_mem_drop (List.mem_of_mem_take hx)))
 ·exact absurd rfl (a.slice _)
 ·cases hc

inductive Buf (E : Env) (h : H) (e sz : Nat) : V → Nat → List V → Prop where
 | nil : Buf E h e sz .nils 0 []
 | lit {b n t N d e' k vs} (hb : h.t.get b = some (.cells t N d e' k)) (hc : cellsFrom t N d 0 (n * sz) = some vs) : Buf E h e sz (.slice b 0 n (.lit n)) n vs
 | opn {b n t d k vs} (hb : h.t.get b = some (.cells t (n * sz) d e k)) (hk : k = 1 ∨ k = 2) (hc : cellsFrom t (n * sz) d 0 (n * sz) = some vs) : Buf E h e sz (.slice b 0 n (.opn 0 0)) n vs

theorem Buf.sl {e : Nat} (b : Buf E h e sz s n vs) : Sl E h sz s n vs := by
 cases b with
 | nil => exact Sl.nil
 | lit hb hc =>
  refine ⟨rfl, ?_, (fun _ e => by cases e), (fun b o m c e => by injection e with _ _ e1 e2; injection e2 with e2; omega), (fun _ _ _ e => by cases e)⟩
  simp only [srcCells, hb, ble_true (Nat.le_refl n), cond_true, hc]
  cases h0 : Nat.beq (n * sz) 0 with
  | true =>
   have h0 := Nat.eq_of_beq_eq_true h0
   rw [h0] at hc; simp [cellsFrom] at hc; subst hc; rfl
  | false => rfl
 | opn hb hk hc =>
  refine ⟨rfl, ?_, (fun _ e => by cases e), (fun b o m c e => by injection e with _ _ e1 e2; cases e2), (fun _ _ _ e => by cases e)⟩
  simp only [srcCells, hb, ble_true (Nat.le_refl n), cond_true, hc]
  cases h0 : Nat.beq (n * sz) 0 with
  | true =>
   have h0 := Nat.eq_of_beq_eq_true h0
   rw [h0] at hc; simp [cellsFrom] at hc; subst hc; rfl
  | false => rfl

theorem Buf.fix {e : Nat} (b : Buf E h e sz s n vs) (hs : In K s) (hf : Fix K h h') : Buf E h' e sz s n vs := by
 cases b with
 | nil => exact .nil
 | lit hb hc => exact .lit (by rw [hf.same _ (hs _ _ _ _ rfl)]; exact hb) hc
 | opn hb hk hc => exact .opn (by rw [hf.same _ (hs _ _ _ _ rfl)]; exact hb) hk hc

theorem row_get {h : H} {elem kind : Nat} {cs : List V} {k : Nat} : (row h elem cs kind).2.t.get k = if k = h.next then some (.cells (T.putL .lf 0 cs) cs.length [.nilp] elem kind) else h.t.get k := by
 simp only [row, H.new, T.get_set]
theorem row_next {h : H} {elem kind : Nat} {cs : List V} : (row h elem cs kind).2.next = h.next + 1 := rfl
theorem row_fst {h : H} {elem kind : Nat} {cs : List V} : (row h elem cs kind).1 = h.next := rfl
theorem row_fix {h : H} {elem kind : Nat} {cs : List V} (hK : ∀ c, K c → c < h.next) : Fix K h (row h elem cs kind).2 := by
 refine ⟨by rw [row_next]; omega, fun b hb => ?_⟩
 rw [row_get, if_neg (by have := hK b hb; omega)]
theorem row_cells {cs d : List V} : cellsFrom (T.putL .lf 0 cs) cs.length d 0 cs.length = some cs :=
 cellsFrom_of rfl (fun j _ => by rw [Nat.zero_add, cellAt_row])

theorem Buf.append {t t2 e : Nat} {i j ei : TI} (b : Buf E h e sz s n vs) (ht : E.tys.get t = some i) (hd : i.desc = .slice e) (hj : E.tys.get t2 = some j) (hjd : (∃ e', j.desc = .slice e') ∨ j.desc = .string)
  (he : E.tys.get e = some ei) (hsz : ei.size = sz) (hpos : 0 < sz) (hb0 : 0 < ei.bytes) {x : V} {m : Nat} {ws : List V} (hl : lenV x = some m) (hc : srcCells E h sz m x = some ws) (hw : ws.length = m * sz) (h1 : ws.all V.one = true)
  (hsize : (n + m) * ei.bytes ≤ 140737488355328) (hK : ∀ c, K c → c < h.next) (ho : Out K s) (hlow : In (· < h.next) s) :
  ∃ s' h', appendB E h t t2 s x = some (s', h') ∧ Buf E h' e sz s' (n + m) (vs ++ ws) ∧ Fix K h h' ∧ In (· < h'.next) s' ∧ (∀ b o k c, s' = .slice b o k c → b = h.next ∨ ∃ o k c, s = .slice b o k c) ∧ h'.next ≤ h.next + 1 ∧
   (∀ b, (∀ o k c, s ≠ .slice b o k c) → b < h.next → h'.t.get b = h.t.get b) := by
 have happ : appendB E h t t2 s x = appendV E h t s x := by
  unfold appendB
  rw [hj]
  rcases hjd with ⟨e', q⟩ | q <;> simp only [q]
 rw [happ]
 have hc' : srcCells E h ei.size m x = some ws := by rw [hsz]; exact hc
 have hbs : Nat.blt 0 ei.bytes = true := blt_true hb0
 have hss : Nat.blt 0 ei.size = true := blt_true (by omega)
 cases b with
 | nil =>
  cases m with
  | zero =>
   have : ws = [] := by simpa using hw
   subst this
   exact ⟨.nils, h, by simp [appendV, ht, hd, he, hl, hc'], .nil, Fix.refl _ _, hlow, (fun _ _ _ _ e => by cases e), by omega, fun _ _ _ => rfl⟩
  | succ m =>
   refine ⟨.slice h.next 0 (m + 1) (.opn 0 0), (row h e ws 1).2, ?_, ?_, row_fix hK, ?_, ?_, by rw [row_next]; omega, fun b _ hb => by rw [row_get, if_neg (by omega)]⟩
   ·have : Nat.ble ((m + 1) * ei.bytes) 140737488355328 = true := ble_true (by simpa using hsize)
    simp [appendV, ht, hd, he, hl, hc', h1, this, hbs, grow, row, H.new]
   ·have hlen : ws.length = (0 + (m + 1)) * sz := by rw [hw]; simp
    have := row_cells (cs := ws) (d := [.nilp])
    rw [hlen] at this
    have q := Buf.opn (E := E) (h := (row h e ws 1).2) (e := e) (sz := sz) (b := h.next) (n := 0 + (m + 1)) (d := [.nilp]) (t := T.putL .lf 0 ws) (k := 1) (vs := ws) (by rw [row_get, if_pos rfl, hlen]) (.inl rfl) this
    simpa using q
   ·intro b o k c e; injection e with e; subst e; exact Nat.lt_succ_self _
   ·intro b o k c e; injection e with e; exact .inl e.symm
 | @lit b _ t' N d e' k _ hb hcs =>
  cases m with
  | zero =>
   have : ws = [] := by simpa using hw
   subst this
   refine ⟨.slice b 0 n (.lit n), h, ?_, by simpa using (Buf.lit hb hcs), Fix.refl _ _, hlow, (fun b' o k c e => by injection e with e; subst e; exact .inr ⟨_, _, _, rfl⟩), by omega, fun _ _ _ => rfl⟩
   have h2 : Nat.ble (n * ei.bytes) 140737488355328 = true := ble_true (by simpa using hsize)
   simp only [appendV, ht, hd, he, hl, hc', List.all_nil, Bool.not_true, cond_false, Nat.add_zero, h2, hbs, hss, Bool.and_self, ble_true (Nat.le_refl n), cond_true, storeL, Option.map_some]
  | succ m =>
   have hlen : (vs ++ ws).length = (n + (m + 1)) * sz := by rw [List.length_append, (cellsFrom_get hcs).1, hw, ← Nat.add_mul]
   refine ⟨.slice h.next 0 (n + (m + 1)) (.opn 0 0), (row h e (vs ++ ws) 1).2, ?_, ?_, row_fix hK, ?_, ?_, by rw [row_next]; omega, fun b _ hb => by rw [row_get, if_neg (by omega)]⟩
   ·have h2 : Nat.ble ((n + (m + 1)) * ei.bytes) 140737488355328 = true := ble_true hsize
    have h3 : Nat.ble (n + (m + 1)) n = false := ble_false (by omega)
    have h4 := (Buf.sl (Buf.lit (E := E) (h := h) (e := e) (sz := sz) hb hcs)).cells
    rw [← hsz] at h4
    simp only [appendV, ht, hd, he, hl, hc', h1, Bool.not_true, cond_false, h2, hbs, hss, Bool.and_self, h3, h4, grow, row, H.new]
   ·have := row_cells (cs := vs ++ ws) (d := [.nilp])
    rw [hlen] at this
    exact .opn (by rw [row_get, if_pos rfl, hlen]) (.inl rfl) this
   ·intro b o k c e; injection e with e; subst e; exact Nat.lt_succ_self _
   ·intro b o k c e; injection e with e; exact .inl e.symm
 | @opn b _ t' d k _ hb hk hcs =>
  have hkk : (Nat.beq k 1 || Nat.beq k 2) = true := by rcases hk with rfl | rfl <;> rfl
  cases m with
  | zero =>
   have : ws = [] := by simpa using hw
   subst this
   refine ⟨.slice b 0 n (.opn 0 0), h, ?_, by simpa using (Buf.opn hb hk hcs), Fix.refl _ _, hlow, (fun b' o k c e => by injection e with e; subst e; exact .inr ⟨_, _, _, rfl⟩), by omega, fun _ _ _ => rfl⟩
   have h2 : Nat.ble (n * ei.bytes) 140737488355328 = true := ble_true (by simpa using hsize)
   have h3 : Nat.ble (n * ei.size) (n * sz) = true := by rw [hsz]; exact ble_true (Nat.le_refl _)
   simp only [appendV, ht, hd, he, hl, hc', List.all_nil, Bool.not_true, cond_false, Nat.add_zero, h2, hbs, hss, Bool.and_self, hb, hkk, Nat.beq_refl, Nat.zero_add, h3, cond_true, storeL, Option.map_some]
  | succ m =>
   have h2 : Nat.ble ((n + (m + 1)) * ei.bytes) 140737488355328 = true := ble_true hsize
   have h3 : Nat.ble ((0 + (n + (m + 1))) * ei.size) (n * sz) = false := ble_false (by rw [hsz, Nat.zero_add]; exact Nat.mul_lt_mul_of_pos_right (by omega) hpos)
   have h4 : Nat.ble (n * ei.size) (n * sz) = true := by rw [hsz]; exact ble_true (Nat.le_refl _)
   have hlen := (cellsFrom_get hcs).1
   have hbK : ¬ K b := ho _ _ _ _ rfl
   have hb' : ∀ c, c ≠ b → ∀ B : T B, (B.del b).get c = B.get c := fun c hc B => by rw [T.get_del, if_neg hc]
   refine ⟨.slice h.next 0 (n + (m + 1)) (.opn 0 0), H.mk ((h.t.del b).set h.next (.cells (t'.putL (n * sz) ws) ((n + (m + 1)) * sz) d e k)) (Nat.succ h.next), ?_, ?_, ?_, ?_, ?_, Nat.le_refl _, fun c h1 h2 => ?_⟩
   ·simp only [appendV, ht, hd, he, hl, hc', h1, Bool.not_true, cond_false, h2, hbs, hss, Bool.and_self, hb, hkk, Nat.beq_refl, h3, h4, cond_true]
    rw [hsz]
   ·refine .opn (t := t'.putL (n * sz) ws) (d := d) (by rw [T.get_set, if_pos rfl]) hk ?_
    have hsum : n * sz + ws.length = (n + (m + 1)) * sz := by rw [hw, ← Nat.add_mul]
    refine cellsFrom_of (by rw [List.length_append, hlen, hsum]) (fun j hj => ?_)
    rw [Nat.zero_add, cellAt_putL (by omega)]
    by_cases hjn : j < n * sz
    ·rw [if_neg (by omega), List.getElem?_append_left (by omega)]
     have := (cellsFrom_get hcs).2 j hjn
     rw [Nat.zero_add] at this
     rw [← this]
     unfold cellAt
     rw [blt_true hjn, blt_true hj]
    ·rw [if_pos (by omega), List.getElem?_append_right (by omega), hlen]
   ·refine ⟨Nat.le_succ _, fun c hc => ?_⟩
    have h5 := hK c hc
    simp only [T.get_set]
    rw [if_neg (by omega), hb' c (by rintro rfl; exact hbK hc)]
   ·intro b o k c e; injection e with e; subst e; exact Nat.lt_succ_self _
   ·intro b o k c e; injection e with e; exact .inl e.symm
   ·simp only [T.get_set]
    rw [if_neg (by omega), hb' c (by rintro rfl; exact h1 _ _ _ rfl)]
end
end Go.Ev

namespace Go.Ev
open Go

def Has (h : H) (b : Nat) (cs : List V) : Prop := ∃ t d e k, h.t.get b = some (.cells t cs.length d e k) ∧ cellsFrom t cs.length d 0 cs.length = some cs

def over (cs : List V) (o : Nat) (vs : List V) : List V := cs.take o ++ vs ++ cs.drop (o + vs.length)

section
variable {E : Env} {K : Nat → Prop} {h h' : H}

theorem Has.fix {b : Nat} {cs : List V} (a : Has h b cs) (f : Fix K h h') (hb : K b) : Has h' b cs := by
 obtain ⟨t, d, e, k, h1, h2⟩ := a
 exact ⟨t, d, e, k, by rw [f.same b hb]; exact h1, h2⟩

theorem Has.at {b : Nat} {cs : List V} (a : Has h b cs) {ty : Nat} {i : TI} (ht : E.tys.get ty = some i) (hi : i.agg = false) (o : Nat) : loadP E h ty (.ptr b o) = cs[o]? := by
 obtain ⟨t, d, e, k, h1, h2⟩ := a
 simp only [loadP, loadV, ht, h1, hi, cond_false]
 obtain ⟨q1, q2⟩ := cellsFrom_get h2
 by_cases ho : o < cs.length
 ·have := q2 o ho; rwa [Nat.zero_add] at this
 ·rw [List.getElem?_eq_none (by omega)]
  unfold cellAt
  have : Nat.blt o cs.length = false := by
   cases hb : Nat.blt o cs.length with
   | false => rfl
   | true => have : o < cs.length := by simpa using hb
             omega
  rw [this]; rfl

theorem Has.agg {b : Nat} {cs : List V} (a : Has h b cs) {ty : Nat} {i : TI} (ht : E.tys.get ty = some i) (hi : i.agg = true) {o : Nat} (ho : o + i.size ≤ cs.length) : loadP E h ty (.ptr b o) = some (.agg ((cs.drop o).take i.size)) := by
 obtain ⟨t, d, e, k, h1, h2⟩ := a
 obtain ⟨q1, q2⟩ := cellsFrom_get h2
 simp only [loadP, loadV, ht, h1, hi, cond_true]
 rw [cellsFrom_of (vs := (cs.drop o).take i.size) (by simp; omega) (fun j hj => by
  have := q2 (o + j) (by omega)
  rw [Nat.zero_add] at this
  rw [this, List.getElem?_take, if_pos hj, List.getElem?_drop])]
 rfl

theorem row_has {e k : Nat} {cs : List V} : Has (row h e cs k).2 h.next cs :=
 ⟨_, _, _, _, by rw [row_get, if_pos rfl], row_cells⟩

theorem wop_alloc {fr : Fr} {d : Option Nat} {ty t : Nat} {p : String} {a : Array Edge} {g : Option (Nat × Bool)} {Q : V → H → Prop} {i : TI} (ht : E.tys.get ty = some i)
  (k : ∀ h', Has h' h.next i.zero → h'.next = h.next + 1 → Fix (· < h.next) h h' → Q (.ptr h.next 0) h') : WOp E fr h ⟨d, .alloc ty, t, p, a, g⟩ Q := by
 rw [w_alloc]
 unfold allocV
 rw [ht]
 rw [sat_r1]
 exact k _ row_has rfl (row_fix fun _ h => h)

theorem wop_box {fr : Fr} {d : Option Nat} {ty t : Nat} {x : Operand} {p : String} {a : Array Edge} {g : Option (Nat × Bool)} {Q : V → H → Prop} {v : V} (hx : opd fr x = some v)
  (k : ∀ h', Has h' h.next v.cells → h'.next = h.next + 1 → Fix (· < h.next) h h' → Q (.ptr h.next 0) h') : WOp E fr h ⟨d, .box ty x, t, p, a, g⟩ Q := by
 rw [w_box, hx, Option.bind_some, sat_r1]
 exact k _ row_has rfl (row_fix fun _ h => h)

theorem over_get {cs vs : List V} {o : Nat} (h : o + vs.length ≤ cs.length) (j : Nat) : (over cs o vs)[j]? = if o ≤ j ∧ j < o + vs.length then vs[j - o]? else cs[j]? := by
 unfold over
 have e1 : (cs.take o).length = o := by simp; omega
 by_cases h1 : j < o
 ·rw [if_neg (by omega), List.append_assoc, List.getElem?_append_left (by omega), List.getElem?_take, if_pos h1]
 ·by_cases h2 : j < o + vs.length
  ·rw [if_pos ⟨by omega, h2⟩, List.append_assoc, List.getElem?_append_right (by omega), e1, List.getElem?_append_left (by omega)]
  ·rw [if_neg (by omega), List.getElem?_append_right (by simp; omega), List.getElem?_drop]
   congr 1
   simp only [List.length_append, e1]; omega
theorem over_length {cs vs : List V} {o : Nat} (h : o + vs.length ≤ cs.length) : (over cs o vs).length = cs.length := by
 unfold over; simp; omega

theorem sat_store {ty b o : Nat} {v : V} {cs : List V} {Q : V → H → Prop} (a : Has h b cs) {i : TI} (ht : E.tys.get ty = some i) (hl : v.cells.length = i.size) (ho : o + i.size ≤ cs.length) (h1 : v.cells.all V.one = true)
  (k : ∀ h', Has h' b (over cs o v.cells) → h'.next = h.next → Fix (· ≠ b) h h' → Q un h') : Sat1 (rh (storeP E h ty (.ptr b o) v)) Q := by
 obtain ⟨t, d, e, kk, q1, q2⟩ := a
 have hbeq : Nat.beq v.cells.length i.size = true := by rw [hl]; simp
 simp only [storeP, storeV, ht, hbeq, cond_true]
 rcases hc : v.cells with _ | ⟨c0, cr⟩
 ·simp only [storeL, sat_rh]
  refine k h ?_ rfl (Fix.refl _ _)
  rw [hc]
  have : over cs o [] = cs := by unfold over; simp
  rw [this]; exact ⟨t, d, e, kk, q1, q2⟩
 ·have hle : Nat.ble (o + v.cells.length) cs.length = true := ble_true (by rw [hl]; exact ho)
  simp only [storeL, q1, ← hc, hle, h1, Bool.and_self, cond_true, sat_rh]
  have hlen : o + v.cells.length ≤ cs.length := by rw [hl]; exact ho
  refine k _ ⟨t.putL o v.cells, d, e, kk, ?_, ?_⟩ rfl ⟨Nat.le_refl _, fun c hc => ?_⟩
  ·simp only [H.put, T.get_set, if_true, over_length hlen]
  ·rw [over_length hlen]
   refine cellsFrom_of (over_length hlen) (fun j hj => ?_)
   rw [Nat.zero_add, cellAt_putL hlen, over_get hlen]
   split
   ·rfl
   ·have := (cellsFrom_get q2).2 j hj
    rwa [Nat.zero_add] at this
  ·simp only [H.put, T.get_set]; rw [if_neg hc]

theorem sat_append {t t2 e sz n m : Nat} {s x : V} {vs ws : List V} {i j ei : TI} {Q : V → H → Prop} (b : Buf E h e sz s n vs) (ht : E.tys.get t = some i) (hd : i.desc = .slice e) (hj : E.tys.get t2 = some j) (hjd : (∃ e', j.desc = .slice e') ∨ j.desc = .string)
  (he : E.tys.get e = some ei) (hsz : ei.size = sz) (hpos : 0 < sz) (hb0 : 0 < ei.bytes) (hl : lenV x = some m) (hc : srcCells E h sz m x = some ws) (hw : ws.length = m * sz) (h1 : ws.all V.one = true)
  (hsize : (n + m) * ei.bytes ≤ 140737488355328) (hlow : In (· < h.next) s)
  (k : ∀ s' h', Buf E h' e sz s' (n + m) (vs ++ ws) → In (· < h'.next) s' → (∀ b o k c, s' = .slice b o k c → b = h.next ∨ ∃ o k c, s = .slice b o k c) → Fix (fun c => c < h.next ∧ ∀ o k cc, s ≠ .slice c o k cc) h h' → Q s' h') : Sat1 (r1 (appendB E h t t2 s x)) Q := by
 obtain ⟨s', h', a1, a2, a3, a4, a5, _, _⟩ := b.append (K := fun c => c < h.next ∧ ∀ o k cc, s ≠ .slice c o k cc) ht hd hj hjd he hsz hpos hb0 hl hc hw h1 hsize (fun c h => h.1) (fun b o n c e h => h.2 _ _ _ e) hlow
 rw [a1, sat_r1]
 exact k s' h' a2 a4 a5 a3

def optP {α : Type} (x : Option α) (f : α → Prop) : Prop := match x with | some v => f v | none => False
theorem optP_some {α : Type} {v : α} {f : α → Prop} : optP (some v) f = f v := rfl
def resR (E : Env) (ts : T V) (h : H) : ResultVar → Option V
 | .tmp t => ts.get t
 | .cell a t => (ts.get a).bind fun p => match p with | .ptr b o => loadP E h t (.ptr b o) | _ => none
theorem resV_eq {ts : T V} {nt fn : Nat} {mks : List D} {rnd : Option Nat} {h : H} : ∀ {r : ResultVar} {rs : List ResultVar}, resV E ⟨ts, nt, mks, fn, rnd⟩ h (r :: rs) = (resR E ts h r).bind fun v => (resV E ⟨ts, nt, mks, fn, rnd⟩ h rs).bind fun vs => some (v :: vs)
 | .tmp t, rs => by
  simp only [resV, resR]
  cases ts.get t with
  | none => rfl
  | some v => cases resV E ⟨ts, nt, mks, fn, rnd⟩ h rs <;> rfl
 | .cell a t, rs => by
  simp only [resV, resR]
  cases ha : ts.get a with
  | none => rfl
  | some p =>
   cases p with
   | ptr b o =>
    simp only [Option.bind_some, loadP]
    cases loadV E h t b o with
    | none => rfl
    | some v => cases resV E ⟨ts, nt, mks, fn, rnd⟩ h rs <;> rfl
   | _ => rfl
theorem resV_nil {fr : Fr} {h : H} : resV E fr h [] = some [] := rfl
theorem fin_ret {i : FI} {Q : V → H → Prop} {ts : T V} {nt fn : Nat} {rnd : Option Nat} {h : H} : Fin E i Q .ret ⟨ts, nt, [], fn, rnd⟩ h = optP (resV E ⟨ts, nt, [], fn, rnd⟩ h i.res) fun vs => Q (oneOf vs) h := by
 simp only [Fin, endMarks, optP]
 cases resV E ⟨ts, nt, [], fn, rnd⟩ h i.res <;> rfl
theorem fin_normal {i : FI} {Q : V → H → Prop} {ts : T V} {nt fn : Nat} {rnd : Option Nat} {h : H} : Fin E i Q .normal ⟨ts, nt, [], fn, rnd⟩ h = optP (resV E ⟨ts, nt, [], fn, rnd⟩ h i.res) fun vs => Q (oneOf vs) h := by
 simp only [Fin, endMarks, optP]
 cases resV E ⟨ts, nt, [], fn, rnd⟩ h i.res <;> rfl
theorem one_one {v : V} : oneOf [v] = v := rfl
theorem one_two {u v : V} {r : List V} : oneOf (u :: v :: r) = .tuple (u :: v :: r) := rfl
theorem resR_tmp {ts : T V} {h : H} {t : Nat} : resR E ts h (.tmp t) = ts.get t := rfl
theorem resR_cell {ts : T V} {h : H} {a t : Nat} : resR E ts h (.cell a t) = (ts.get a).bind fun p => match p with | .ptr b o => loadP E h t (.ptr b o) | _ => none := rfl

structure Grew (E : Env) (e sz : Nat) (h : H) (s : V) (h' : H) (s' : V) (n : Nat) (vs : List V) : Prop where
 buf : Buf E h' e sz s' n vs
 low : In (· < h'.next) s'
 fix : Fix (fun c => c < h.next ∧ ∀ o m cc, s ≠ .slice c o m cc) h h'
 own : ∀ b o k c, s' = .slice b o k c → h.next ≤ b ∨ ∃ o k c, s = .slice b o k c

theorem Grew.refl {e sz n : Nat} {s : V} {vs : List V} (b : Buf E h e sz s n vs) (l : In (· < h.next) s) : Grew E e sz h s h s n vs :=
 ⟨b, l, Fix.refl _ _, fun _ _ _ _ e => .inr ⟨_, _, _, e⟩⟩
theorem Grew.trans {e sz n1 n2 : Nat} {h h1 h2 : H} {s s1 s2 : V} {vs1 vs2 : List V} (a : Grew E e sz h s h1 s1 n1 vs1) (b : Grew E e sz h1 s1 h2 s2 n2 vs2) : Grew E e sz h s h2 s2 n2 vs2 := by
 refine ⟨b.buf, b.low, ⟨Nat.le_trans a.fix.next b.fix.next, fun c hc => ?_⟩, fun b' o k c e' => ?_⟩
 ·rw [b.fix.same c ⟨Nat.lt_of_lt_of_le hc.1 a.fix.next, fun o m cc e => ?_⟩]
  ·exact a.fix.same c hc
  ·rcases a.own _ _ _ _ e with q | ⟨o, k, c', q⟩
   ·omega
   ·exact hc.2 _ _ _ q
 ·rcases b.own _ _ _ _ e' with q | ⟨o, k, c', q⟩
  ·exact .inl (Nat.le_trans a.fix.next q)
  ·exact a.own _ _ _ _ q
theorem Grew.len {e sz n m : Nat} {s s' : V} {vs ws : List V} (a : Grew E e sz h s h' s' n vs) (e1 : n = m) (e2 : vs = ws) : Grew E e sz h s h' s' m ws := by subst e1 e2; exact a

theorem Grew.keep {e sz n : Nat} {h h1 h2 : H} {s s' : V} {vs : List V} (a : Grew E e sz h s h1 s' n vs) (f : Fix (· < h1.next) h1 h2) : Grew E e sz h s h2 s' n vs :=
 ⟨a.buf.fix a.low f, a.low.sub fun _ hx => Nat.lt_of_lt_of_le hx f.next, a.fix.trans (f.sub fun _ hx => Nat.lt_of_lt_of_le hx.1 a.fix.next) , a.own⟩

theorem sat_grow {t t2 e sz n m : Nat} {s x : V} {vs ws : List V} {i j ei : TI} {Q : V → H → Prop} (b : Buf E h e sz s n vs) (hlow : In (· < h.next) s) (ht : E.tys.get t = some i) (hd : i.desc = .slice e) (hj : E.tys.get t2 = some j) (hjd : (∃ e', j.desc = .slice e') ∨ j.desc = .string)
  (he : E.tys.get e = some ei) (hsz : ei.size = sz) (hpos : 0 < sz) (hb0 : 0 < ei.bytes) (hl : lenV x = some m) (hc : srcCells E h sz m x = some ws) (hw : ws.length = m * sz) (h1 : ws.all V.one = true)
  (hsize : (n + m) * ei.bytes ≤ 140737488355328)
  (k : ∀ s' h', Grew E e sz h s h' s' (n + m) (vs ++ ws) → Q s' h') : Sat1 (r1 (appendB E h t t2 s x)) Q :=
 sat_append b ht hd hj hjd he hsz hpos hb0 hl hc hw h1 hsize hlow fun s' h' a1 a2 a3 a4 => k s' h' ⟨a1, a2, a4, fun b o k c e => (a3 b o k c e).imp (fun q => by omega) id⟩

theorem sat_buildSlice {t e sz n : Nat} {ps : List (Nat × V)} {cs : List V} {i ei : TI} {Q : V → H → Prop} (ht : E.tys.get t = some i) (hd : i.desc = .slice e) (he : E.tys.get e = some ei) (hsz : ei.size = sz) (hpos : 0 < sz) (hn : n * sz ≤ 16777216)
  (hc : fillAll (fun k => some (k * ei.size, ei.size)) (repL ei.zero n) ps = some cs) (hl : cs.length = n * sz)
  (k : ∀ h', Buf E h' e sz (.slice h.next 0 n (.lit n)) n cs → h'.next = h.next + 1 → Fix (· < h.next) h h' → Q (.slice h.next 0 n (.lit n)) h') : Sat1 (r1 (buildSliceV E h t n ps)) Q := by
 have h1 : (Nat.ble (n * ei.size) 16777216 && Nat.blt 0 ei.size) = true := by rw [hsz, ble_true hn, blt_true hpos]; rfl
 simp only [buildSliceV, ht, hd, he, h1, cond_true, hc, sat_r1, row_fst]
 refine k _ (.lit (by rw [row_get, if_pos rfl]) ?_) rfl (row_fix fun _ h => h)
 have := row_cells (cs := cs) (d := [.nilp])
 rw [hl] at this ⊢
 exact this

end
end Go.Ev
