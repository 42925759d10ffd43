/- Maps of strings with the stamps of their entries: ranges, sorted keys. -/
import Derived.Test.YtloblhhnlaaajaaDoorX24
import Derived.Shelf.SlIter.Keys
import Derived.Shelf.SlIter.Sorted
import Derived.Shelf.SortM.Plain
import Derived.Shelf.SortM.SortNone
import Derived.Test.YtloblhhnlaaajaaDoorX16
set_option linter.unusedVariables false
set_option linter.unusedSimpArgs false
set_option linter.defProp false
namespace Go.Ev
open Go
section
variable {E : Env}

def stampL : Nat → List (List UInt8 × V) → List (V × V × Nat)
 | _, [] => []
 | i, p :: r => (.str p.1, p.2, i) :: stampL (i + 1) r
def Mq (h : H) (b : Nat) (L : List (List UInt8 × V)) : Prop := h.t.get b = some (.map (stampL 0 L) L.length)
theorem stampL_length : ∀ (n : Nat) (L : List (List UInt8 × V)), (stampL n L).length = L.length
 | _, [] => rfl
 | n, _ :: r => by simp only [stampL, List.length_cons, stampL_length (n + 1) r]
theorem stampL_map : ∀ (n : Nat) (L : List (List UInt8 × V)), (stampL n L).map (fun e => (e.1, e.2.1)) = L.map (fun p => (V.str p.1, p.2))
 | _, [] => rfl
 | n, _ :: r => by simp only [stampL, List.map_cons, stampL_map (n + 1) r]
theorem stampL_get : ∀ (n : Nat) (L : List (List UInt8 × V)) (j : Nat), (stampL n L)[j]? = (L[j]?).map fun p => (V.str p.1, p.2, n + j)
 | _, [], j => by simp [stampL]
 | n, p :: r, 0 => by simp [stampL]
 | n, p :: r, j + 1 => by
  simp only [stampL, List.getElem?_cons_succ, stampL_get (n + 1) r j]
  rw [show n + 1 + j = n + (j + 1) by omega]
theorem Mq.mp {h : H} {b : Nat} {L : List (List UInt8 × V)} (m : Mq h b L) : Mp h b L := ⟨_, _, m, stampL_map 0 L⟩
theorem Mq.fix {h h' : H} {K : Nat → Prop} {b : Nat} {L : List (List UInt8 × V)} (m : Mq h b L) (f : Fix K h h') (hb : K b) : Mq h' b L := by
 unfold Mq; rw [f.same b hb]; exact m

theorem find_st {h : H} {k : List UInt8} : ∀ {L : List (List UInt8 × V)} {n i : Nat},
  match lk k L with
  | none => findK E h .string (.str k) (stampL n L) i = some none ∧ ∀ (v : V), stampL n L ++ [(V.str k, v, n + L.length)] = stampL n (ins k v L) ∧ (ins k v L).length = L.length + 1
  | some v => ∃ j, findK E h .string (.str k) (stampL n L) i = some (some (i + j, v, n + j)) ∧ ∀ x, setNth (stampL n L) j (V.str k, x, n + j) = stampL n (ins k x L) ∧ (ins k x L).length = L.length
 | [], n, i => ⟨rfl, fun _ => ⟨rfl, rfl⟩⟩
 | p :: L, n, i => by
  have ih := find_st (h := h) (k := k) (L := L) (n := n + 1) (i := Nat.succ i)
  have hk : keyEq E h .string (.str k) (.str p.1) = some (k == p.1) := rfl
  by_cases hp : p.1 = k
  ·have : lk k (p :: L) = some p.2 := by unfold lk; rw [if_pos hp]
   rw [this]
   refine ⟨0, ?_, fun x => ?_⟩
   ·simp only [stampL, findK]
    rw [hk, show (k == p.1) = true by simp [hp]]; rfl
   ·unfold ins; rw [if_pos hp]; exact ⟨rfl, rfl⟩
  ·have : lk k (p :: L) = lk k L := by conv => lhs; unfold lk; rw [if_neg hp]
   have hi : ∀ x, ins k x (p :: L) = p :: ins k x L := fun x => by conv => lhs; unfold ins; rw [if_neg hp]
   have hf : findK E h .string (.str k) (stampL n (p :: L)) i = findK E h .string (.str k) (stampL (n + 1) L) (Nat.succ i) := by
    simp only [stampL]
    conv => lhs; unfold findK
    rw [hk, show (k == p.1) = false by simpa using Ne.symm hp]
   rw [this, hf]
   cases hl : lk k L with
   | none =>
    rw [hl] at ih
    refine ⟨ih.1, fun v => ?_⟩
    obtain ⟨q1, q2⟩ := ih.2 v
    rw [hi]
    simp only [stampL, List.cons_append, List.length_cons, q2, and_true]
    rw [← q1, show n + (L.length + 1) = n + 1 + L.length by omega]
   | some v =>
    rw [hl] at ih
    obtain ⟨j, q1, q2⟩ := ih
    refine ⟨j + 1, by rw [q1, show Nat.succ i + j = i + (j + 1) by omega, show n + 1 + j = n + (j + 1) by omega], fun x => ?_⟩
    rw [hi]
    obtain ⟨r1, r2⟩ := q2 x
    simp only [stampL, setNth, List.length_cons, r2, and_true]
    rw [← r1, show n + 1 + j = n + (j + 1) by omega]

section
variable {h : H} {b ty kt et : Nat} {L : List (List UInt8 × V)} {i ki ei : TI} {k : List UInt8}
theorem sat_updateQ {v : V} {Q : V → H → Prop} (m : Mq h b L) (ht : E.tys.get ty = some i) (hd : i.desc = .map kt et) (hk : E.tys.get kt = some ki) (hkd : ki.desc = .string) (he : E.tys.get et = some ei)
  (q : ∀ h', Mq h' b (ins k v L) → h'.next = h.next → Fix (· ≠ b) h h' → Q un h') : Sat1 (rh (updateV E h ty (.map b) (.str k) v)) Q := by
 have m' : h.t.get b = some (.map (stampL 0 L) L.length) := m
 have := find_st (E := E) (h := h) (k := k) (L := L) (n := 0) (i := 0)
 have fx : ∀ x, Fix (· ≠ b) h (h.put b x) := fun x => ⟨Nat.le_refl _, fun c hc => by simp only [H.put, T.get_set]; rw [if_neg hc]⟩
 simp only [updateV, mapOf, ht, hd, hk, he, hkd, okKey, cond_true, m']
 cases hl : lk k L with
 | none =>
  rw [hl] at this
  obtain ⟨q1, q2⟩ := this
  simp only [q1, sat_rh]
  refine q _ ?_ rfl (fx _)
  obtain ⟨r1, r2⟩ := q2 v
  rw [Nat.zero_add] at r1
  unfold Mq
  simp only [H.put, T.get_set, if_true, r1, r2]
 | some w =>
  rw [hl] at this
  obtain ⟨j, q1, q2⟩ := this
  rw [Nat.zero_add] at q1 q2
  simp only [q1, sat_rh]
  refine q _ ?_ rfl (fx _)
  obtain ⟨r1, r2⟩ := q2 v
  unfold Mq
  simp only [H.put, T.get_set, if_true, Nat.zero_add, r1, r2]
theorem wop_makeMapQ {fr : Fr} {d : Option Nat} {ty t : Nat} {p : String} {a : Array Edge} {g : Option (Nat × Bool)} {Q : V → H → Prop}
  (q : ∀ h', Mq h' h.next [] → h'.next = h.next + 1 → Fix (· < h.next) h h' → Q (.map h.next) h') : WOp E fr h ⟨d, .makeMap ty none, t, p, a, g⟩ Q := by
 show Sat1 (rone (.map h.next, { t := h.t.set h.next (.map [] 0), next := Nat.succ h.next })) Q
 rw [sat_rone]
 exact q _ (by unfold Mq; simp only [T.get_set, if_true]; rfl) rfl ⟨Nat.le_succ _, fun c hc => by simp only [T.get_set]; rw [if_neg (Nat.ne_of_lt hc)]⟩

theorem w_range {fr : Fr} {d : Option Nat} {t : Nat} {p : String} {a : Array Edge} {g : Option (Nat × Bool)} {Q : V → H → Prop} {x : Operand} : WOp E fr h ⟨d, .range ty x, t, p, a, g⟩ Q = Sat1 (r1 ((opd fr x).bind fun u => rangeV E h ty u)) Q := by
 simp only [WOp, opV]
 cases opd fr x <;> rfl
def nextR (h : H) (s : Bool) : Option V → R (V × H)
 | none => none
 | some u => nextV h u s
theorem w_next {fr : Fr} {d : Option Nat} {t : Nat} {p : String} {a : Array Edge} {g : Option (Nat × Bool)} {Q : V → H → Prop} {x : Operand} {s : Bool} : WOp E fr h ⟨d, .next x s, t, p, a, g⟩ Q = Sat1 (nextR h s (opd fr x)) Q := by
 simp only [WOp, opV, nextR]
 cases opd fr x <;> rfl
def Itr (h : H) (b m n : Nat) (seen : List Nat) : Prop := h.t.get b = some (.mapIter (some m) n seen n)
theorem Itr.fix {h h' : H} {K : Nat → Prop} {b m n : Nat} {seen : List Nat} (a : Itr h b m n seen) (f : Fix K h h') (hb : K b) : Itr h' b m n seen := by
 unfold Itr; rw [f.same b hb]; exact a
theorem sat_range {Q : V → H → Prop} (m : Mq h b L) (ht : E.tys.get ty = some i) (hd : i.desc = .map kt et)
  (q : ∀ h', Itr h' h.next b L.length [] → h'.next = h.next + 1 → Fix (· < h.next) h h' → Q (.ptr h.next 0) h') : Sat1 (r1 (rangeV E h ty (.map b))) Q := by
 have m' : h.t.get b = some (.map (stampL 0 L) L.length) := m
 simp only [rangeV, ht, hd, m', H.new, sat_r1]
 exact q _ (by unfold Itr; simp only [T.get_set, if_true]) rfl ⟨Nat.le_succ _, fun c hc => by simp only [T.get_set]; rw [if_neg (Nat.ne_of_lt hc)]⟩

theorem mem_nextMap {h : H} {b m since : Nat} {seen : List Nat} {es : List (V × V × Nat)} {c : Nat} {x : V × H} : ∀ {l : List (Option (V × V × Nat))}, x ∈ nextMap h b m since seen es c l →
  (none ∈ l ∧ x = (.tuple [.bool false], h)) ∨ ∃ k v born, some (k, v, born) ∈ l ∧ x = (.tuple [.bool true, k, v], h.put b (.mapIter (some m) since (seen ++ [born]) c))
 | [], hx => by cases hx
 | none :: r, hx => by
  simp only [nextMap] at hx
  rcases List.mem_cons.1 hx with e | hx
  ·exact .inl ⟨List.mem_cons_self .., e⟩
  ·rcases mem_nextMap hx with ⟨q1, q2⟩ | ⟨k, v, n, q1, q2⟩
   ·exact .inl ⟨List.mem_cons_of_mem _ q1, q2⟩
   ·exact .inr ⟨k, v, n, List.mem_cons_of_mem _ q1, q2⟩
 | some (k, v, n) :: r, hx => by
  simp only [nextMap] at hx
  rcases List.mem_cons.1 hx with e | hx
  ·exact .inr ⟨k, v, n, List.mem_cons_self .., e⟩
  ·rcases mem_nextMap hx with ⟨q1, q2⟩ | ⟨k, v, n, q1, q2⟩
   ·exact .inl ⟨List.mem_cons_of_mem _ q1, q2⟩
   ·exact .inr ⟨k, v, n, List.mem_cons_of_mem _ q1, q2⟩

theorem mem_stampL {e : V × V × Nat} (he : e ∈ stampL 0 L) : ∃ (j : Nat) (hj : j < L.length), e = (.str L[j].1, L[j].2, j) := by
 obtain ⟨j, hj⟩ := List.getElem?_of_mem he
 rw [stampL_get] at hj
 have hlt : j < L.length := by
  rcases Nat.lt_or_ge j L.length with q | q
  ·exact q
  ·rw [List.getElem?_eq_none q] at hj; cases hj
 rw [List.getElem?_eq_getElem hlt] at hj
 simp only [Option.map_some, Option.some.injEq, Nat.zero_add] at hj
 exact ⟨j, hlt, hj.symm⟩
theorem sat_next {m : Nat} {seen : List Nat} {Q : V → H → Prop} (hb : Itr h b m L.length seen) (hm : Mq h m L)
  (k1 : ∀ j (hj : j < L.length), j ∉ seen → ∀ h', Itr h' b m L.length (seen ++ [j]) → h'.next = h.next → Fix (· ≠ b) h h' → Q (.tuple [.bool true, .str L[j].1, L[j].2]) h')
  (k0 : (∀ j, j < L.length → j ∈ seen) → Q (.tuple [.bool false]) h) : Sat1 (nextV h (.ptr b 0) false) Q := by
 have hb' : h.t.get b = some (.mapIter (some m) L.length seen L.length) := hb
 have hm' : h.t.get m = some (.map (stampL 0 L) L.length) := hm
 have hguard : ((!seen.isEmpty && !(stampL 0 L).isEmpty) && (stampL 0 L).all (fun e => Nat.ble L.length e.2.2)) = false := by
  cases L with
  | nil => simp [stampL]
  | cons p r =>
   have : (stampL 0 (p :: r)).all (fun e => Nat.ble (p :: r).length e.2.2) = false := by
    simp [stampL]
   rw [this, Bool.and_false]
 simp only [nextV, hb', hm', hguard, cond_false]
 show ∀ x ∈ nextMap _ _ _ _ _ _ _ _, Q x.1 x.2
 intro x hx
 rcases mem_nextMap hx with ⟨q1, rfl⟩ | ⟨k, v, n, q1, rfl⟩
 ·refine k0 fun j hj => ?_
  cases hdec : seen.contains j with
  | true => simpa using hdec
  | false =>
   exfalso
   have hmem : (V.str L[j].1, L[j].2, j) ∈ stampL 0 L := by
    have := stampL_get 0 L j
    rw [List.getElem?_eq_getElem hj, Option.map_some, Nat.zero_add] at this
    exact List.mem_of_getElem? this
   have hold : (V.str L[j].1, L[j].2, j) ∈ ((stampL 0 L).filter fun e => !seen.contains e.2.2).filter fun e => Nat.blt e.2.2 L.length := by
    refine List.mem_filter.2 ⟨List.mem_filter.2 ⟨hmem, by simp only [hdec, Bool.not_false]⟩, by simpa using hj⟩
   rcases List.mem_append.1 q1 with q | q
   ·cases he : (((stampL 0 L).filter fun e => !seen.contains e.2.2).filter fun e => Nat.blt e.2.2 L.length).isEmpty with
    | true => rw [List.isEmpty_iff.1 he] at hold; cases hold
    | false => rw [he] at q; cases q
   ·obtain ⟨_, _, e⟩ := List.mem_map.1 q
    cases e
 ·rcases List.mem_append.1 q1 with q | q
  ·cases he : (((stampL 0 L).filter fun e => !seen.contains e.2.2).filter fun e => Nat.blt e.2.2 L.length).isEmpty with
   | true => rw [he] at q; simp at q
   | false => rw [he] at q; cases q
  ·obtain ⟨e, he, e2⟩ := List.mem_map.1 q
   injection e2 with e2
   subst e2
   have hleft : (k, v, n) ∈ (stampL 0 L).filter fun e => !seen.contains e.2.2 := by
    rcases List.mem_append.1 he with q | q
    ·exact (List.mem_filter.1 q).1
    ·exact (List.mem_filter.1 q).1
   obtain ⟨r1, r2⟩ := List.mem_filter.1 hleft
   obtain ⟨j, hj, e⟩ := mem_stampL r1
   obtain ⟨rfl, rfl, rfl⟩ : k = V.str L[j].1 ∧ v = L[j].2 ∧ n = j := by
    simp only [Prod.mk.injEq] at e; exact e
   refine k1 n hj (by simpa using r2) _ ?_ rfl ⟨Nat.le_refl _, fun c hc => by simp only [H.put, T.get_set]; rw [if_neg hc]⟩
   unfold Itr
   simp only [H.put, T.get_set, if_true]

theorem strKs_st : ∀ (n : Nat) (L : List (List UInt8 × V)), strKs (stampL n L) = some (L.map (·.1))
 | _, [] => rfl
 | n, p :: r => by simp only [stampL, strKs, strKs_st (n + 1) r, List.map_cons]
theorem stampOk_st : ∀ (n : Nat) (L : List (List UInt8 × V)), stampOk n (stampL n L) = true
 | _, [] => rfl
 | n, p :: r => by
  simp only [stampL, stampOk, Bool.and_eq_true]
  exact ⟨by simp, stampOk_st (n + 1) r⟩
theorem sortS_length (l : List (List UInt8)) : (sortS l).length = l.length := List.length_mergeSort l
theorem wf_keys {f gk e m : Nat} {Q : V → H → Prop} (h1 : E.fns.get f = none) (h2 : extOf f E.exts = none) (h3 : E.sw.get f = none) (h4 : E.dn.contains f = false) (hsk : skOf f E.sk [gk] = some e) (he : E.tys.get e = some i) (hs : i.size = 1)
  (hb : Has h b [.map m]) (hm : Mq h m L) (hnd : (L.map (·.1)).Nodup) (hlen : L.length * 16 ≤ 140737488355328) (hkl : ∀ p ∈ L, p.1.length ≤ 140737488355328)
  (q : ∀ v h', Buf E h' e 1 v L.length ((sortS (L.map (·.1))).map V.str) → In (fun b => h.next ≤ b ∧ b < h'.next) v → Fix (· < h.next) h h' → Q v h') : WF E f [.func gk [] [.ptr b 0]] h Q := by
 obtain ⟨t, d, el, kd, hb1, hb2⟩ := hb
 have hc0 : cellAt t 1 d 0 = some (.map m) := by
  obtain ⟨_, q2⟩ := cellsFrom_get hb2
  simpa using q2 0 (by simp)
 have hm' : h.t.get m = some (.map (stampL 0 L) L.length) := hm
 have hok : (Nat.beq i.size 1 && keysOk (stampL 0 L) L.length (L.map (·.1))) = true := by
  simp only [keysOk, Bool.and_eq_true, decide_eq_true_eq, stampL_length]
  refine ⟨by rw [hs]; rfl, ⟨⟨⟨stampOk_st 0 L, by simp⟩, hnd⟩, ble_true hlen⟩, List.all_eq_true.2 fun k hk => ?_⟩
  obtain ⟨p, hp, rfl⟩ := List.mem_map.1 hk
  exact ble_true (hkl p hp)
 have hrun : ∃ x, keysV E h f [.func gk [] [.ptr b 0]] = some x ∧ Q x.1 x.2 := by
  unfold keysV
  simp only [hsk, he, hb1, List.length_cons, List.length_nil, Nat.zero_add, hc0, hm', strKs_st, hok, cond_true]
  cases hL : L with
  | nil =>
   have e0 : (sortS (([] : List (List UInt8 × V)).map (·.1))).map V.str = [] := by simp [sortS]
   exact ⟨_, rfl, q _ _ (by rw [hL, e0]; exact .nil) .nils (Fix.refl _ _)⟩
  | cons p r =>
   refine ⟨_, rfl, ?_⟩
   have hlenS : ((sortS ((p :: r).map (·.1))).map V.str).length = (p :: r).length := by simp only [List.length_map, sortS_length]
   refine q _ _ ?_ ?_ ?_
   ·rw [hL]
    simp only [List.map_cons] at hlenS ⊢
    simp only [grow, List.nil_append, List.length_map, List.length_cons]
    refine .opn (t := T.putL .lf 0 ((sortS (p.1 :: r.map (·.1))).map V.str)) (d := [.nilp]) (k := 1) ?_ (.inl rfl) ?_
    ·have hl : (row h e ((sortS (p.1 :: r.map (·.1))).map V.str) 1).1 = h.next := rfl
     rw [hl, row_get, if_pos rfl, hlenS, List.length_cons, Nat.mul_one]
    ·rw [Nat.mul_one]
     refine cellsFrom_of (by rw [hlenS]; rfl) fun j hj => ?_
     have hj2 : j < ((sortS (p.1 :: r.map (·.1))).map V.str).length := by rw [hlenS]; exact hj
     unfold cellAt
     rw [Nat.zero_add, blt_true hj, cond_true, T.get_putL, if_pos ⟨Nat.zero_le _, by omega⟩, Nat.sub_zero, List.getElem?_eq_getElem hj2]
   ·intro b' o n c e'
    have : b' = h.next := by
     simp only [grow] at e'
     injection e' with e1 e2
     exact e1.symm
    subst this
    exact ⟨Nat.le_refl _, Nat.lt_succ_self _⟩
   ·exact row_fix fun _ h => h
 obtain ⟨x, x1, x2⟩ := hrun
 exact WF.keys h1 h2 h3 h4 x1 x2
end
end
end Go.Ev

namespace Go.Ev
open Go Go.Proofs Go.RowKit Go.Maps Go.Sort Go.Shelf

theorem keysP_of {P : Program} {rs rk rm : Ren} (Ls : SlLaysZ.n6 P rs) (Lk : SlLaysZ.n10 P rk) (Lm : SlLaysM.n6 P rm) (h9 : rs.f 9 = rm.f 6) : KeysP P (rs.f 6) (rk.f 10) (rs.t 26) := by
 refine ⟨Ls.f6.enters rfl, ?_⟩
 intro w B b es clock ks hcell hb hst hkeys hlen hsz
 refine (callsIn_wide (n := 5)).1 ?_
 have hs : AnyZ.SortsIn P rs Fence.wide 4 := by
  unfold AnyZ.SortsIn
  rw [h9]
  exact ⟨fun blk off cap ss W hH hblk hsz => callsIn_wide.2 (AnyM.slices_Sort_string Lm blk off cap ss W hH hblk hsz), fun p cap W => callsIn_wide.2 (AnyM.slices_Sort_string_none Lm p cap W)⟩
 let R : Value → Option (DataW Unit × List MemPlace) := fun _ => some (.nil, [])
 have hkl : ∀ x ∈ es.toList, ∃ s : List UInt8, x.key = .string ⟨s.toArray⟩ ∧ s.length ≤ 140737488355328 := by
  intro x hx
  have : x.key ∈ es.toList.map (·.key) := List.mem_map.2 ⟨x, hx, rfl⟩
  rw [hkeys] at this
  obtain ⟨s, hs, e⟩ := List.mem_map.1 this
  exact ⟨s, e.symm, hlen s hs⟩
 have hrd : ∀ x ∈ es.toList, ∀ s : List UInt8, x.key = .string ⟨s.toArray⟩ → s.length ≤ 140737488355328 → WideElems.rd P (rk.t 26) R x = some (.string s, .nil) := by
  intro x _ s e hl
  have hk : keyOf P (rk.t 26) x.key = some (.string s) := by
   simp only [keyOf, Lk.t26, mapKey, e, ByteArray.size, List.size_toArray]
   rw [if_pos (by unfold maxLen; omega)]
  simp only [WideElems.rd, hk, Option.bind_some, R, Option.map_some]
 have hfit : WideElems.Fit P (rk.t 26) R es clock := ⟨by unfold maxLen; omega, hst, fun x hx => by
  obtain ⟨s, e, hl⟩ := hkl x hx
  exact ⟨_, hrd x hx s e hl⟩⟩
 have hown : w.ownsMap P (rk.t 26) R b es.size (.map ((es.toList.map (WideElems.rg P (rk.t 26) R)).foldr DataW.insert [])) := ⟨es, clock, hb, hfit, Nat.le_refl _, rfl⟩
 have hsize : Maps.size (.map ((es.toList.map (WideElems.rg P (rk.t 26) R)).foldr DataW.insert []) : DataW Unit) = es.size := by
  rw [Maps.size_eq, length_sorted]; simp
 have hB : B < w.heap.size := by
  unfold World.cell? at hcell
  rcases Nat.lt_or_ge B w.heap.size with q | q
  ·exact q
  ·simp [Array.getElem?_eq_none q] at hcell
 have hseq := AnyZ.keys_gives Lk Fence.wide 2 trivial rfl (by omega) B b es.size _ w hB hcell hown
 have cS := AnyZ.sorted_in Ls Fence.wide 5 trivial trivial trivial trivial rfl (by omega) hs (by rw [h9]; exact Lm.f6.enters rfl) (rk.f 10) #[.pointer (some ⟨B, 0, none⟩)] trivial (Lk.f10.enters rfl) _ _ (by rw [hsize]; unfold maxLen; omega) (by rw [hsize]; exact hsz) w hseq
 refine cS.mono ?_
 rintro e w' ⟨v, ss, rfl, hS, hrow, hnil, hbel⟩
 have hks : (es.toList.map (WideElems.rg P (rk.t 26) R)).map (fun p => strOf p.1) = ks := by
  have h1 : (es.toList.map (WideElems.rg P (rk.t 26) R)).map (fun p => strOf p.1) = es.toList.map fun x => match x.key with | .string s => s.data.toList | _ => [] := by
   rw [List.map_map]
   refine List.map_congr_left fun x hx => ?_
   obtain ⟨s, e, hl⟩ := hkl x hx
   simp only [Function.comp, WideElems.rg_of (hrd x hx s e hl), strOf, e]
  have h2 : (es.toList.map fun x => match x.key with | .string s => s.data.toList | _ => ([] : List UInt8)) = (es.toList.map (·.key)).map fun v => match v with | .string s => s.data.toList | _ => [] := by rw [List.map_map]; rfl
  rw [h1, h2, hkeys, List.map_map]
  conv => rhs; rw [← List.map_id ks]
  exact List.map_congr_left fun s _ => rfl
 have hperm : ss.Perm ks := by
  refine hS.trans ?_
  show ((_ : List (Lit × DataW Unit)).map fun p => strOf p.1).Perm ks
  rw [← hks]
  exact (WideShapes.sorted_perm _).map _
 have hl := hperm.length_eq
 refine ⟨v, rfl, ?_, ?_, hbel⟩
 ·have e1 : sortS ks = ss.mergeSort (fun x y => decide (x ≤ y)) := (mergeSort_of_perm hperm).symm
  rw [e1, ← hl]
  exact hrow
 ·rw [hnil]
  constructor
  ·intro e
   rw [e] at hl
   exact List.eq_nil_of_length_eq_zero hl.symm
  ·intro e
   rw [e] at hl
   exact List.eq_nil_of_length_eq_zero hl
end Go.Ev

namespace Go.Proofs.OP
open Go Go.Ev Go.Proofs Go.Shelf
def keys113_ren : Go.Shelf.Ren := ⟨fun | 10 => 113 | n => n, fun | 33 => 226 | 23 => 102 | 0 => 0 | 4 => 4 | 26 => 9 | 3 => 2 | n => n, fun | n => n⟩
theorem keys113 : Go.Proofs.SlLaysZ.n10 Tryd.prog keys113_ren := {
 mixed := by kernel_rfl
 f10 := ⟨Tryd.f113.name, by decide, Tryd.func113.trans (congrArg some (by kernel_rfl))⟩
 t0 := Tryd.underlying0
 a0 := Tryd.isAgg0
 z0 := Tryd.sizeOf0
 v0 := Tryd.zeroValue0
 t4 := Tryd.underlying4
 a4 := Tryd.isAgg4
 z4 := Tryd.sizeOf4
 v4 := Tryd.zeroValue4
 t23 := Tryd.underlying102
 a23 := Tryd.isAgg102
 z23 := Tryd.sizeOf102
 v23 := Tryd.zeroValue102
 t26 := Tryd.underlying9
 a26 := Tryd.isAgg9
 z26 := Tryd.sizeOf9
 v26 := Tryd.zeroValue9
 t33 := Tryd.underlying226
 a33 := Tryd.isAgg226
 z33 := Tryd.sizeOf226
 v33 := Tryd.zeroValue226 }
def keys115_ren : Go.Shelf.Ren := ⟨fun | 10 => 115 | n => n, fun | 33 => 226 | 23 => 101 | 0 => 0 | 4 => 4 | 26 => 9 | 3 => 174 | n => n, fun | n => n⟩
theorem keys115 : Go.Proofs.SlLaysZ.n10 Tryd.prog keys115_ren := {
 mixed := by kernel_rfl
 f10 := ⟨Tryd.f115.name, by decide, Tryd.func115.trans (congrArg some (by kernel_rfl))⟩
 t0 := Tryd.underlying0
 a0 := Tryd.isAgg0
 z0 := Tryd.sizeOf0
 v0 := Tryd.zeroValue0
 t4 := Tryd.underlying4
 a4 := Tryd.isAgg4
 z4 := Tryd.sizeOf4
 v4 := Tryd.zeroValue4
 t23 := Tryd.underlying101
 a23 := Tryd.isAgg101
 z23 := Tryd.sizeOf101
 v23 := Tryd.zeroValue101
 t26 := Tryd.underlying9
 a26 := Tryd.isAgg9
 z26 := Tryd.sizeOf9
 v26 := Tryd.zeroValue9
 t33 := Tryd.underlying226
 a33 := Tryd.isAgg226
 z33 := Tryd.sizeOf226
 v33 := Tryd.zeroValue226 }
def sorted87_ren : Go.Shelf.Ren := ⟨fun | 6 => 87 | 8 => 111 | 9 => 112 | 11 => 126 | 13 => 128 | 12 => 127 | 23 => 138 | 24 => 139 | 14 => 129 | 15 => 130 | 16 => 131 | 17 => 132 | 18 => 133 | 19 => 134 | 20 => 135 | 21 => 136 | 22 => 137 | 25 => 140 | 26 => 141 | 27 => 142 | 28 => 143 | 29 => 144 | 30 => 145 | 31 => 146 | n => n, fun | 26 => 9 | 28 => 182 | 24 => 30 | 0 => 0 | 3 => 3 | 37 => 240 | 48 => 191 | 50 => 194 | 4 => 4 | 40 => 243 | 39 => 242 | 45 => 172 | 5 => 5 | 9 => 9 | 51 => 251 | 55 => 255 | 57 => 257 | 58 => 258 | 33 => 226 | n => n, fun | n => n⟩
theorem sorted87 : Go.Proofs.SlLaysZ.n6 Tryd.prog sorted87_ren := {
 mixed := by kernel_rfl
 f6 := ⟨Tryd.f87.name, by decide, Tryd.func87.trans (congrArg some (by kernel_rfl))⟩
 f8 := ⟨Tryd.f111.name, by decide, Tryd.func111.trans (congrArg some (by kernel_rfl))⟩
 f11 := ⟨Tryd.f126.name, by decide, Tryd.func126.trans (congrArg some (by kernel_rfl))⟩
 t0 := Tryd.underlying0
 a0 := Tryd.isAgg0
 z0 := Tryd.sizeOf0
 v0 := Tryd.zeroValue0
 t24 := Tryd.underlying30
 a24 := Tryd.isAgg30
 z24 := Tryd.sizeOf30
 v24 := Tryd.zeroValue30
 t26 := Tryd.underlying9
 a26 := Tryd.isAgg9
 z26 := Tryd.sizeOf9
 v26 := Tryd.zeroValue9
 t28 := Tryd.underlying182
 a28 := Tryd.isAgg182
 z28 := Tryd.sizeOf182
 v28 := Tryd.zeroValue182
 i26 := by kernel_rfl }
def sort112_ren : Go.Shelf.Ren := ⟨fun | 6 => 112 | 8 => 128 | 9 => 127 | 19 => 138 | 20 => 139 | 21 => 129 | 22 => 130 | 23 => 131 | 24 => 132 | 25 => 133 | 26 => 134 | 27 => 135 | 28 => 136 | 29 => 137 | 36 => 140 | 31 => 141 | 32 => 142 | 37 => 143 | 38 => 144 | 39 => 145 | 41 => 146 | n => n, fun | 27 => 30 | 29 => 9 | 3 => 3 | 32 => 240 | 26 => 30 | 0 => 0 | 44 => 191 | 46 => 194 | 4 => 4 | 36 => 243 | 35 => 242 | 41 => 172 | 5 => 5 | 9 => 9 | 53 => 251 | 57 => 255 | 63 => 257 | 64 => 258 | n => n, fun | n => n⟩
theorem sort112 : Go.Proofs.SlLaysM.n6 Tryd.prog sort112_ren := {
 mixed := by kernel_rfl
 f6 := ⟨Tryd.f112.name, by decide, Tryd.func112.trans (congrArg some (by kernel_rfl))⟩
 f8 := Tryd.func128.trans (congrArg some (by kernel_rfl))
 f9 := ⟨Tryd.f127.name, by decide, Tryd.func127.trans (congrArg some (by kernel_rfl))⟩
 f19 := Tryd.func138.trans (congrArg some (by kernel_rfl))
 f20 := Tryd.func139.trans (congrArg some (by kernel_rfl))
 f21 := ⟨Tryd.f129.name, by decide, Tryd.func129.trans (congrArg some (by kernel_rfl))⟩
 f22 := ⟨Tryd.f130.name, by decide, Tryd.func130.trans (congrArg some (by kernel_rfl))⟩
 f23 := ⟨Tryd.f131.name, by decide, Tryd.func131.trans (congrArg some (by kernel_rfl))⟩
 f24 := ⟨Tryd.f132.name, by decide, Tryd.func132.trans (congrArg some (by kernel_rfl))⟩
 f25 := ⟨Tryd.f133.name, by decide, Tryd.func133.trans (congrArg some (by kernel_rfl))⟩
 f26 := ⟨Tryd.f134.name, by decide, Tryd.func134.trans (congrArg some (by kernel_rfl))⟩
 f27 := ⟨Tryd.f135.name, by decide, Tryd.func135.trans (congrArg some (by kernel_rfl))⟩
 f28 := ⟨Tryd.f136.name, by decide, Tryd.func136.trans (congrArg some (by kernel_rfl))⟩
 f29 := ⟨Tryd.f137.name, by decide, Tryd.func137.trans (congrArg some (by kernel_rfl))⟩
 f31 := Tryd.func141.trans (congrArg some (by kernel_rfl))
 f32 := Tryd.func142.trans (congrArg some (by kernel_rfl))
 f36 := ⟨Tryd.f140.name, by decide, Tryd.func140.trans (congrArg some (by kernel_rfl))⟩
 f37 := ⟨Tryd.f143.name, by decide, Tryd.func143.trans (congrArg some (by kernel_rfl))⟩
 f38 := ⟨Tryd.f144.name, by decide, Tryd.func144.trans (congrArg some (by kernel_rfl))⟩
 f39 := ⟨Tryd.f145.name, by decide, Tryd.func145.trans (congrArg some (by kernel_rfl))⟩
 f41 := ⟨Tryd.f146.name, by decide, Tryd.func146.trans (congrArg some (by kernel_rfl))⟩
 t0 := Tryd.underlying0
 a0 := Tryd.isAgg0
 z0 := Tryd.sizeOf0
 v0 := Tryd.zeroValue0
 t3 := Tryd.underlying3
 a3 := Tryd.isAgg3
 z3 := Tryd.sizeOf3
 v3 := Tryd.zeroValue3
 t4 := Tryd.underlying4
 a4 := Tryd.isAgg4
 z4 := Tryd.sizeOf4
 v4 := Tryd.zeroValue4
 t5 := Tryd.underlying5
 a5 := Tryd.isAgg5
 z5 := Tryd.sizeOf5
 v5 := Tryd.zeroValue5
 t9 := Tryd.underlying9
 a9 := Tryd.isAgg9
 z9 := Tryd.sizeOf9
 v9 := Tryd.zeroValue9
 t26 := Tryd.underlying30
 a26 := Tryd.isAgg30
 z26 := Tryd.sizeOf30
 v26 := Tryd.zeroValue30
 t27 := Tryd.underlying30
 a27 := Tryd.isAgg30
 z27 := Tryd.sizeOf30
 v27 := Tryd.zeroValue30
 t29 := Tryd.underlying9
 a29 := Tryd.isAgg9
 z29 := Tryd.sizeOf9
 v29 := Tryd.zeroValue9
 t32 := Tryd.underlying240
 a32 := Tryd.isAgg240
 z32 := Tryd.sizeOf240
 v32 := Tryd.zeroValue240
 t35 := Tryd.underlying242
 a35 := Tryd.isAgg242
 z35 := Tryd.sizeOf242
 v35 := Tryd.zeroValue242
 t36 := Tryd.underlying243
 a36 := Tryd.isAgg243
 z36 := Tryd.sizeOf243
 v36 := Tryd.zeroValue243
 t41 := Tryd.underlying172
 a41 := Tryd.isAgg172
 z41 := Tryd.sizeOf172
 v41 := Tryd.zeroValue172
 t44 := Tryd.underlying191
 a44 := Tryd.isAgg191
 z44 := Tryd.sizeOf191
 v44 := Tryd.zeroValue191
 t46 := Tryd.underlying194
 a46 := Tryd.isAgg194
 z46 := Tryd.sizeOf194
 v46 := Tryd.zeroValue194
 t53 := Tryd.underlying251
 a53 := Tryd.isAgg251
 z53 := Tryd.sizeOf251
 v53 := Tryd.zeroValue251
 t57 := Tryd.underlying255
 a57 := Tryd.isAgg255
 z57 := Tryd.sizeOf255
 v57 := Tryd.zeroValue255
 t63 := Tryd.underlying257
 a63 := Tryd.isAgg257
 z63 := Tryd.sizeOf257
 v63 := Tryd.zeroValue257
 t64 := Tryd.underlying258
 a64 := Tryd.isAgg258
 z64 := Tryd.sizeOf258
 v64 := Tryd.zeroValue258 }
set_option maxRecDepth 100000 in
theorem sk_ok : ∀ x ∈ sk, KeysP Tryd.prog x.1 x.2.1 x.2.2 := by
 intro x hx
 simp only [sk, List.mem_cons, List.not_mem_nil, or_false] at hx
 rcases hx with rfl | rfl
 ·have h : KeysP Tryd.prog (sorted87_ren.f 6) (keys113_ren.f 10) (sorted87_ren.t 26) := keysP_of sorted87 keys113 sort112 (by kernel_rfl)
  have e : (sorted87_ren.f 6, keys113_ren.f 10, sorted87_ren.t 26) = (87, 113, 9) := by kernel_rfl
  have e1 := congrArg (·.1) e
  have e2 := congrArg (·.2.1) e
  have e3 := congrArg (·.2.2) e
  simp only at e1 e2 e3
  rw [e1, e2, e3] at h
  exact h
 ·have h : KeysP Tryd.prog (sorted87_ren.f 6) (keys115_ren.f 10) (sorted87_ren.t 26) := keysP_of sorted87 keys115 sort112 (by kernel_rfl)
  have e : (sorted87_ren.f 6, keys115_ren.f 10, sorted87_ren.t 26) = (87, 115, 9) := by kernel_rfl
  have e1 := congrArg (·.1) e
  have e2 := congrArg (·.2.1) e
  have e3 := congrArg (·.2.2) e
  simp only at e1 e2 e3
  rw [e1, e2, e3] at h
  exact h
end Go.Proofs.OP
