/- More steps: copy into a block of one's own, arrays. -/
import Derived.Test.YtloblhhnlaaajaaDoorX13
set_option linter.unusedVariables false
set_option linter.unusedSimpArgs false
set_option linter.defProp false
namespace Go.Ev
open Go

section
variable {E : Env} {h : H}

theorem Has.sl {b n sz : Nat} {cs : List V} (a : Has h b cs) (hn : cs.length = n * sz) : Sl E h sz (.slice b 0 n (.lit n)) n cs := by
 obtain ⟨t, d, e, k, h1, h2⟩ := a
 refine ⟨rfl, ?_, (fun _ e => by cases e), (fun b o m c e => by injection e with _ _ e1 e2; injection e2 with e2; omega), (fun _ _ _ e => by cases e)⟩
 rw [hn] at h1 h2
 simp only [srcCells, h1, ble_true (Nat.le_refl n), cond_true, h2]
 cases h0 : Nat.beq (n * sz) 0 with
 | true =>
  have h0 := Nat.eq_of_beq_eq_true h0
  rw [h0] at h2; simp [cellsFrom] at h2; subst h2; rfl
 | false => rfl

theorem sat_literal {t e sz n : Nat} {ps : List (Nat × V)} {cs : List V} {i ei : TI} {Q : V → H → Prop} (ht : E.tys.get t = some i) (hd : i.desc = .slice e) (he : E.tys.get e = some ei) (hsz : ei.size = sz) (hpos : 0 < sz) (hn : n * sz ≤ 16777216)
  (hc : fillAll (fun k => some (k * ei.size, ei.size)) (repL ei.zero n) ps = some cs) (hl : cs.length = n * sz)
  (k : ∀ h', h'.t.get h.next = some (.cells (T.putL .lf 0 cs) cs.length [.nilp] e 0) → h'.next = h.next + 1 → Fix (· < h.next) h h' → Q (.slice h.next 0 n (.lit n)) h') : Sat1 (r1 (buildSliceV E h t n ps)) Q := by
 have h1 : (Nat.ble (n * ei.size) 16777216 && Nat.blt 0 ei.size) = true := by rw [hsz, ble_true hn, blt_true hpos]; rfl
 simp only [buildSliceV, ht, hd, he, h1, cond_true, hc, sat_r1, row_fst]
 exact k _ (by rw [row_get, if_pos rfl]) rfl (row_fix fun _ h => h)

end
end Go.Ev

set_option linter.defProp false
namespace Go.Ev
open Go
def wk := And.intro @WRun_nil (And.intro @WRun_cons (And.intro @NextR_eq (And.intro @wanted_none (And.intro @wanted_some (And.intro @w_move (And.intro @w_assign (And.intro @w_pick (And.intro @w_load (And.intro @w_store (And.intro @w_bin (And.intro @w_un (And.intro @w_conv (And.intro @w_indexAddr (And.intro @w_len (And.intro @w_fieldAddr (And.intro @w_field (And.intro @w_nilCheck (And.intro @w_slice (And.intro @w_build (And.intro @w_buildSlice (And.intro @w_append (And.intro @w_copy (And.intro @w_call (And.intro @w_extract (And.intro @opd_tmp (And.intro @opd_int (And.intro @opd_bool (And.intro @opd_nils (And.intro @opd_str (And.intro @opd_fn (And.intro @opds_nil (And.intro @opds_cons (And.intro (@T.get_set V) (And.intro @get_args (And.intro @sat_rv (And.intro @sat_r1 (And.intro @sat_rh (And.intro @sat_rone (And.intro @put_none (And.intro @put_some (And.intro @bin_lss (And.intro @bin_leq (And.intro @bin_gtr (And.intro @bin_geq (And.intro @bin_eql (And.intro @bin_neq (And.intro @un_not (And.intro @fin_ret (And.intro @fin_normal (And.intro @resV_eq (And.intro @resV_nil (And.intro @resR_tmp (And.intro @resR_cell (And.intro @one_one (And.intro @one_two (And.intro @optP_some (And.intro @opdPs_nil (And.intro @opdPs_cons (And.intro @opdO_none (And.intro @opdO_some (And.intro @wcall_fn (And.intro @b_tt (And.intro @b_tf (And.intro @b_ft (@b_ff)))))))))))))))))))))))))))))))))))))))))))))))))))))))))))))))))
def wd := And.intro @WPlan_nil (And.intro @WPlan_cons (And.intro @WPOp_some (And.intro @PNe_eq (And.intro @PNr_eq (And.intro @isV_rv (And.intro @isV_r1 (And.intro @has_nil (And.intro @has_cons (And.intro @o_load (And.intro @o_bin (And.intro @o_conv (@o_len))))))))))))
def wl := And.intro @Option.bind_some.{0,0} (And.intro @List.getElem?_cons_zero.{0} (And.intro @List.getElem?_cons_succ.{0} (And.intro @cond_true.{1} (And.intro @cond_false.{1} (And.intro @Bool.or_true (And.intro @Bool.or_false (And.intro @Bool.true_or (And.intro @Bool.false_or (And.intro @List.nil_append.{0} (And.intro @List.append_nil.{0} (And.intro @List.cons_append.{0} (@Nat.beq_eq_true_eq))))))))))))
end Go.Ev

namespace Go.Ev
open Go
section
variable {E : Env}
section
variable {d : Option Nat} {t : Nat} {p : String} {a : Array Edge} {g : Option (Nat × Bool)} {fr : Fr} {h : H} {Q : V → H → Prop}
theorem w_lookup {ty : Nat} {x y : Operand} {ok : Bool} : WOp E fr h ⟨d, .lookup ty x y ok, t, p, a, g⟩ Q = Sat1 (rv h ((opd fr x).bind fun u => (opd fr y).bind fun v => lookupV E h ty u v ok)) Q := by
 simp only [WOp, opV]
 cases opd fr x with
 | none => rfl
 | some c => cases opd fr y <;> rfl
theorem w_mapUpdate {ty : Nat} {x y z : Operand} : WOp E fr h ⟨d, .mapUpdate ty x y z, t, p, a, g⟩ Q = Sat1 (rh ((opd fr x).bind fun u => (opd fr y).bind fun v => (opd fr z).bind fun w => updateV E h ty u v w)) Q := by
 simp only [WOp, opV]
 cases opd fr x with
 | none => rfl
 | some c => cases opd fr y with
  | none => rfl
  | some c => cases opd fr z <;> rfl
theorem w_makeFunc {f : Nat} {xs ys : Array Operand} : WOp E fr h ⟨d, .makeFunc (.func f) xs ys, t, p, a, g⟩ Q = Sat1 (rv h ((opds fr xs.toList).bind fun u => (opds fr ys.toList).bind fun v => some (.func f u v))) Q := by
 simp only [WOp, opV]
 cases opds fr xs.toList with
 | none => rfl
 | some c => cases opds fr ys.toList <;> rfl
theorem w_makeSlice {ty : Nat} {x y : Operand} : WOp E fr h ⟨d, .makeSlice ty x y, t, p, a, g⟩ Q = Sat1 (r1 ((opd fr x).bind fun u => (opd fr y).bind fun v => makeSliceV E h ty u v)) Q := by
 simp only [WOp, opV]
 cases opd fr x with
 | none => rfl
 | some c => cases opd fr y <;> rfl
end

def Mp (h : H) (b : Nat) (L : List (List UInt8 × V)) : Prop := ∃ es c, h.t.get b = some (.map es c) ∧ es.map (fun e => (e.1, e.2.1)) = L.map (fun p => (V.str p.1, p.2))
def lk (k : List UInt8) : List (List UInt8 × V) → Option V
 | [] => none
 | p :: r => if p.1 = k then some p.2 else lk k r
def ins (k : List UInt8) (v : V) : List (List UInt8 × V) → List (List UInt8 × V)
 | [] => [(k, v)]
 | p :: r => if p.1 = k then (k, v) :: r else p :: ins k v r
theorem Mp.fix {h h' : H} {K : Nat → Prop} {b : Nat} {L : List (List UInt8 × V)} (m : Mp h b L) (f : Fix K h h') (hb : K b) : Mp h' b L := by
 obtain ⟨es, c, h1, h2⟩ := m
 exact ⟨es, c, by rw [f.same b hb]; exact h1, h2⟩

theorem find_lk {h : H} {k : List UInt8} : ∀ {L : List (List UInt8 × V)} {es : List (V × V × Nat)} {i : Nat}, es.map (fun e => (e.1, e.2.1)) = L.map (fun p => (V.str p.1, p.2)) →
  match lk k L with
  | none => findK E h .string (.str k) es i = some none ∧ ∀ (v : V) (c : Nat), (es ++ [(V.str k, v, c)]).map (fun (e : V × V × Nat) => (e.1, e.2.1)) = (ins k v L).map (fun p => (V.str p.1, p.2))
  | some v => ∃ j born, findK E h .string (.str k) es i = some (some (i + j, v, born)) ∧ ∀ x, (setNth es j (V.str k, x, born)).map (fun e => (e.1, e.2.1)) = (ins k x L).map (fun p => (V.str p.1, p.2))
 | [], [], i, _ => ⟨rfl, fun _ _ => rfl⟩
 | [], e :: es, i, he => by simp at he
 | p :: L, [], i, he => by simp at he
 | p :: L, (ek, ev, ec) :: es, i, he => by
  simp only [List.map_cons, List.cons.injEq, Prod.mk.injEq] at he
  obtain ⟨⟨e1, e2⟩, e3⟩ := he
  subst e1 e2
  have ih := find_lk (h := h) (k := k) (L := L) (es := es) (i := Nat.succ i) e3
  have hk : keyEq E h .string (.str k) (.str p.1) = some (k == p.1) := rfl
  by_cases hp : p.1 = k
  ·have : lk k (p :: L) = some p.2 := by unfold lk; rw [if_pos hp]
   rw [this]
   refine ⟨0, ec, ?_, fun x => ?_⟩
   ·unfold findK
    rw [hk, show (k == p.1) = true by simp [hp]]; rfl
   ·unfold ins; rw [if_pos hp]; simp only [setNth, List.map_cons, e3]
  ·have : lk k (p :: L) = lk k L := by conv => lhs; unfold lk; rw [if_neg hp]
   have hi : ∀ x, ins k x (p :: L) = p :: ins k x L := fun x => by conv => lhs; unfold ins; rw [if_neg hp]
   have hf : findK E h .string (.str k) ((.str p.1, p.2, ec) :: es) i = findK E h .string (.str k) es (Nat.succ i) := by
    conv => lhs; unfold findK
    rw [hk, show (k == p.1) = false by simpa using Ne.symm hp]
   rw [this, hf]
   cases hl : lk k L with
   | none =>
    rw [hl] at ih
    refine ⟨ih.1, fun v c => ?_⟩
    rw [hi, List.cons_append, List.map_cons, List.map_cons, ih.2 v c]
   | some v =>
    rw [hl] at ih
    obtain ⟨j, born, q1, q2⟩ := ih
    refine ⟨j + 1, born, by rw [q1]; congr 3; omega, fun x => ?_⟩
    rw [hi]
    simp only [setNth, List.map_cons, q2 x]

section
variable {h : H} {b ty kt et : Nat} {L : List (List UInt8 × V)} {i ki ei : TI} {k : List UInt8}
theorem lookup2 (m : Mp h b L) (ht : E.tys.get ty = some i) (hd : i.desc = .map kt et) (hk : E.tys.get kt = some ki) (hkd : ki.desc = .string) (he : E.tys.get et = some ei) :
  lookupV E h ty (.map b) (.str k) true = some (.tuple [(lk k L).getD ei.zv, .bool (lk k L).isSome]) := by
 obtain ⟨es, c, h1, h2⟩ := m
 have := find_lk (E := E) (h := h) (k := k) (i := 0) h2
 simp only [lookupV, mapOf, ht, hd, hk, he, hkd, okKey, cond_true, mapEnts, h1]
 cases hl : lk k L with
 | none => rw [hl] at this; simp only [this.1, TI.zeroV, Option.map_some]; rfl
 | some v =>
  rw [hl] at this
  obtain ⟨j, born, q1, _⟩ := this
  simp only [q1]; rfl
theorem lookup1 (m : Mp h b L) (ht : E.tys.get ty = some i) (hd : i.desc = .map kt et) (hk : E.tys.get kt = some ki) (hkd : ki.desc = .string) (he : E.tys.get et = some ei) :
  lookupV E h ty (.map b) (.str k) false = some ((lk k L).getD ei.zv) := by
 obtain ⟨es, c, h1, h2⟩ := m
 have := find_lk (E := E) (h := h) (k := k) (i := 0) h2
 simp only [lookupV, mapOf, ht, hd, hk, he, hkd, okKey, cond_true, mapEnts, h1]
 cases hl : lk k L with
 | none => rw [hl] at this; simp only [this.1, TI.zeroV, Option.map_some]; rfl
 | some v =>
  rw [hl] at this
  obtain ⟨j, born, q1, _⟩ := this
  simp only [q1]; rfl
theorem sat_update {v : V} {Q : V → H → Prop} (m : Mp h b L) (ht : E.tys.get ty = some i) (hd : i.desc = .map kt et) (hk : E.tys.get kt = some ki) (hkd : ki.desc = .string) (he : E.tys.get et = some ei)
  (q : ∀ h', Mp h' b (ins k v L) → h'.next = h.next → Fix (· ≠ b) h h' → Q un h') : Sat1 (rh (updateV E h ty (.map b) (.str k) v)) Q := by
 obtain ⟨es, c, h1, h2⟩ := m
 have := find_lk (E := E) (h := h) (k := k) (i := 0) h2
 have fx : ∀ x, Fix (· ≠ b) h (h.put b x) := fun x => ⟨Nat.le_refl _, fun c hc => by simp only [H.put, T.get_set]; rw [if_neg hc]⟩
 simp only [updateV, mapOf, ht, hd, hk, he, hkd, okKey, cond_true, h1]
 cases hl : lk k L with
 | none =>
  rw [hl] at this
  simp only [this.1, sat_rh]
  exact q _ ⟨_, _, by simp only [H.put, T.get_set, if_true]; rfl, this.2 v c⟩ rfl (fx _)
 | some w =>
  rw [hl] at this
  obtain ⟨j, born, q1, q2⟩ := this
  rw [Nat.zero_add] at q1
  simp only [q1, sat_rh]
  exact q _ ⟨_, _, by simp only [H.put, T.get_set, if_true]; rfl, q2 v⟩ rfl (fx _)
theorem wop_makeMap {fr : Fr} {d : Option Nat} {ty t : Nat} {p : String} {a : Array Edge} {g : Option (Nat × Bool)} {Q : V → H → Prop}
  (q : ∀ h', Mp h' h.next [] → h'.next = h.next + 1 → Fix (· < h.next) h h' → Q (.map h.next) h') : WOp E fr h ⟨d, .makeMap ty none, t, p, a, g⟩ Q := by
 show Sat1 (rone (.map h.next, { t := h.t.set h.next (.map [] 0), next := Nat.succ h.next })) Q
 rw [sat_rone]
 exact q _ ⟨[], 0, by simp only [T.get_set, if_true], rfl⟩ rfl ⟨Nat.le_succ _, fun c hc => by simp only [T.get_set]; rw [if_neg (Nat.ne_of_lt hc)]⟩
end

theorem flat_length' {α : Type} {f : α → List V} {sz : Nat} (hf : ∀ x, (f x).length = sz) : ∀ (L : List α), (L.flatMap f).length = L.length * sz
 | [] => by simp
 | x :: r => by
  rw [List.flatMap_cons, List.length_append, flat_length' hf r, hf, List.length_cons, Nat.succ_mul]; omega
theorem flat_at' {α : Type} {f : α → List V} {sz : Nat} (hf : ∀ x, (f x).length = sz) : ∀ {L : List α} {k : Nat} (hk : k < L.length), ((L.flatMap f).drop (k * sz)).take sz = f L[k]
 | [], k, hk => absurd hk (Nat.not_lt_zero _)
 | x :: r, 0, _ => by
  rw [Nat.zero_mul, List.drop_zero, List.flatMap_cons, List.take_append_of_le_length (by rw [hf]; exact Nat.le_refl _), ← hf x, List.take_length]; rfl
 | x :: r, k + 1, hk => by
  have := flat_at' hf (L := r) (k := k) (by simpa using hk)
  rw [List.flatMap_cons, Nat.succ_mul, Nat.add_comm, ← List.drop_drop, List.drop_append_of_le_length (by rw [hf]; exact Nat.le_refl _), show (f x).drop sz = [] by rw [← hf x, List.drop_length], List.nil_append]
  exact this
abbrev Rcs {α : Type} (E : Env) (h : H) (sz : Nat) (f : α → List V) (s : V) (L : List α) : Prop := Sl E h sz s L.length (L.flatMap f)
theorem Rcs.at {α : Type} {h : H} {sz : Nat} {f : α → List V} {s : V} {L : List α} (r : Rcs E h sz f s L) (hf : ∀ x, (f x).length = sz) {t e k : Nat} {i ei : TI} (ht : E.tys.get t = some i) (hd : i.desc = .slice e) (he : E.tys.get e = some ei) (hs : ei.size = sz) (hpos : 0 < sz) (hag : ei.agg = true) (hk : k < L.length) :
  ∃ p, indexAddrV E t s (.int .i64 k) = some p ∧ ∀ h', (∀ b o m c, s = .slice b o m c → h'.t.get b = h.t.get b) → loadP E h' e p = some (.agg (f L[k])) := by
 obtain ⟨p, h1, h2⟩ := Sl.place r ht hd he hs hpos hk
 refine ⟨p, h1, fun h' hh => ?_⟩
 rw [h2 h' hh, hag, cond_true, flat_at' hf hk]
theorem Sl.spot {h : H} {sz n : Nat} {s : V} {vs : List V} (a : Sl E h sz s n vs) {t e k : Nat} {i ei : TI} (ht : E.tys.get t = some i) (hd : i.desc = .slice e) (he : E.tys.get e = some ei) (hsz : ei.size = sz) (hpos : 0 < sz) (hk : k < n) :
  ∃ (mk : Nat → V) (o : Nat), ((∃ b, ∀ x, mk x = .ptr b x) ∨ (∃ b, ∀ x, mk x = .gp b x)) ∧ indexAddrV E t s (.int .i64 k) = some (mk o) ∧
   ∀ h', (∀ b o m c, s = .slice b o m c → h'.t.get b = h.t.get b) → ∀ j, j < sz → ∀ ty tj, E.tys.get ty = some tj → tj.agg = false → loadP E h' ty (mk (o + j)) = vs[k * sz + j]? := by
 have hc := a.cells
 have hl := a.len
 have hlt : Nat.blt k n = true := by simpa using hk
 have hbig : 0 < n * sz := Nat.mul_pos (by omega) hpos
 have hin : k * sz + sz ≤ n * sz := by rw [← Nat.succ_mul]; exact Nat.mul_le_mul_right _ hk
 have hsize := a.size
 unfold srcCells at hc
 split at hc
 ·simp only [lenV] at hl; injection hl with hl; omega
 ·rename_i b o m c
  simp only [lenV] at hl; injection hl with hl; subst hl
  have h0 : Nat.beq (m * sz) 0 = false := by
   cases hb : Nat.beq (m * sz) 0 with
   | false => rfl
   | true => have := Nat.eq_of_beq_eq_true hb; omega
  simp only [h0, cond_false] at hc
  obtain ⟨_, hc⟩ := bif_some hc
  split at hc
  ·rename_i T N d e' kk hb
   obtain ⟨q1, q2⟩ := cellsFrom_get hc
   refine ⟨fun x => .ptr b x, o + k * sz, .inl ⟨b, fun _ => rfl⟩, ?_, fun h' hsame j hj ty tj hty hag => ?_⟩
   ·simp [indexAddrV, ht, hd, natOf_nat, hlt, sizeOfT, he, hsz]
   ·simp only [loadP, loadV, hty, hag, hsame b _ _ _ rfl, hb, cond_false]
    rw [Nat.add_assoc]
    exact q2 _ (by omega)
  ·cases hc
 ·rename_i ad m c
  simp only [lenV] at hl; injection hl with hl; subst hl
  obtain ⟨_, hc⟩ := bif_some hc
  obtain ⟨h1, cs, h2, h3, h4, h5⟩ := takeG_some hc hbig
  refine ⟨fun x => .gp ad.block x, ad.off + k * sz, .inr ⟨ad.block, fun _ => rfl⟩, ?_, fun h' _ j hj ty tj hty hag => ?_⟩
  ·simp [indexAddrV, ht, hd, natOf_nat, hlt, sizeOfT, he, hsz, h1]
  ·have hget : cs[ad.off + k * sz + j]? = vs[k * sz + j]? := by
    rw [h3, List.getElem?_take, if_pos (by omega), List.getElem?_drop, Nat.add_assoc]
   simp only [loadP, loadG, hty, h2, hag, cond_false, nth_eq]
   rw [hget]
   have hlt2 : k * sz + j < vs.length := by omega
   rw [List.getElem?_eq_getElem hlt2]
   have h6 : (vs[k * sz + j]).one = true := List.all_eq_true.1 h5 _ (List.getElem_mem _)
   simp [h6]
 ·exact absurd rfl (a.slice _)
 ·cases hc
theorem flat_get' {α : Type} {f : α → List V} {sz : Nat} (hf : ∀ x, (f x).length = sz) {L : List α} {k j : Nat} (hk : k < L.length) (hj : j < sz) : (L.flatMap f)[k * sz + j]? = (f L[k])[j]? := by
 rw [← flat_at' hf hk, List.getElem?_take, if_pos hj, List.getElem?_drop]
theorem Rcs.spot {α : Type} {h : H} {sz : Nat} {f : α → List V} {s : V} {L : List α} (r : Rcs E h sz f s L) (hf : ∀ x, (f x).length = sz) {t e k : Nat} {i ei : TI} (ht : E.tys.get t = some i) (hd : i.desc = .slice e) (he : E.tys.get e = some ei) (hs : ei.size = sz) (hpos : 0 < sz) (hk : k < L.length) :
  ∃ (mk : Nat → V) (o : Nat), ((∃ b, ∀ x, mk x = .ptr b x) ∨ (∃ b, ∀ x, mk x = .gp b x)) ∧ indexAddrV E t s (.int .i64 k) = some (mk o) ∧
   ∀ h', (∀ b o m c, s = .slice b o m c → h'.t.get b = h.t.get b) → ∀ j, j < sz → ∀ ty tj, E.tys.get ty = some tj → tj.agg = false → loadP E h' ty (mk (o + j)) = (f L[k])[j]? := by
 obtain ⟨mk, o, h1, h2, h3⟩ := Sl.spot r ht hd he hs hpos hk
 exact ⟨mk, o, h1, h2, fun h' hh j hj ty tj q1 q2 => by rw [h3 h' hh j hj ty tj q1 q2, flat_get' hf hk hj]⟩
abbrev Vs {α : Type} (E : Env) (h : H) (f : α → V) (s : V) (L : List α) : Prop := Sl E h 1 s L.length (L.map f)
theorem Vs.at {α : Type} {h : H} {f : α → V} {s : V} {L : List α} (r : Vs E h f s L) {t e k : Nat} {i ei : TI} (ht : E.tys.get t = some i) (hd : i.desc = .slice e) (he : E.tys.get e = some ei) (hs : ei.size = 1) (hag : ei.agg = false) (hk : k < L.length) :
  ∃ p, indexAddrV E t s (.int .i64 k) = some p ∧ ∀ h', (∀ b o m c, s = .slice b o m c → h'.t.get b = h.t.get b) → loadP E h' e p = some (f L[k]) := by
 obtain ⟨p, h1, h2⟩ := Sl.place r ht hd he hs (by decide) hk
 refine ⟨p, h1, fun h' hh => ?_⟩
 rw [h2 h' hh, hag, cond_false, Nat.mul_one, List.getElem?_map, List.getElem?_eq_getElem hk]; rfl
end
end Go.Ev
