/- More for walks: lookups in drawn regions, entries of ranges, new slices; tables by names. -/
import Derived.Test.YtloblhhnlaaajaaDoorX25
import Derived.Test.YtloblhhnlaaajaaDoorX15
import Derived.Test.YtloblhhnlaaajaaDoorX30
import Derived.Test.YtloblhhnlaaajaaDoorX22
import Derived.Test.YtloblhhnlaaajaaDoorX23
import Derived.Test.YtloblhhnlaaajaaDoorX31
set_option linter.unusedVariables false
set_option linter.unusedSimpArgs false
set_option linter.defProp false
namespace Go.Ev
open Go
section
variable {E : Env}
section
variable {ih : Rec} {d : Option Nat} {t : Nat} {p : String} {a : Array Edge} {g : Option (Nat × Bool)} {fr : Fr} {h : H} {Q : V → H → Prop}
theorem o_lookup {ty : Nat} {x y : Operand} {ok : Bool} : opV E ih fr h ⟨d, .lookup ty x y ok, t, p, a, g⟩ = rv h ((opd fr x).bind fun u => (opd fr y).bind fun v => lookupV E h ty u v ok) := by
 simp only [opV]
 cases opd fr x with
 | none => rfl
 | some c => cases opd fr y <;> rfl
theorem w_entry {x : Operand} : WOp E fr h ⟨d, .entry x, t, p, a, g⟩ Q = Sat1 (rv h ((opd fr x).bind fun u => entryOf h u)) Q := by
 simp only [WOp, opV]
 cases opd fr x <;> rfl
end
theorem lastN_snoc : ∀ (l : List Nat) (x : Nat), lastN (l ++ [x]) = some x
 | [], _ => rfl
 | [_], _ => rfl
 | _ :: b :: r, x => by
  have := lastN_snoc (b :: r) x
  simpa [lastN] using this
theorem findEntry_st : ∀ (L : List (List UInt8 × V)) (n j : Nat) (hj : j < L.length), findEntry (n + j) (stampL n L) = some (.str L[j].1, L[j].2)
 | [], n, j, hj => by simp at hj
 | p :: r, n, 0, _ => by simp [stampL, findEntry]
 | p :: r, n, j + 1, hj => by
  have h1 : Nat.beq n (n + (j + 1)) = false := by
   cases hb : Nat.beq n (n + (j + 1)) with
   | false => rfl
   | true => have := Nat.eq_of_beq_eq_true hb; omega
  have := findEntry_st r (n + 1) j (by simpa using hj)
  simp only [stampL, findEntry, h1, cond_false]
  rw [show n + (j + 1) = n + 1 + j by omega, this]
  simp
theorem entry_ok {h : H} {b m j : Nat} {seen : List Nat} {L : List (List UInt8 × V)} (hb : Itr h b m L.length (seen ++ [j])) (hm : Mq h m L) (hj : j < L.length) : entryOf h (.ptr b 0) = some (.tuple [.str L[j].1, L[j].2]) := by
 have hb' : h.t.get b = some (.mapIter (some m) L.length (seen ++ [j]) L.length) := hb
 have hm' : h.t.get m = some (.map (stampL 0 L) L.length) := hm
 have h1 : Nat.beq L.length L.length = true := by simp
 have := findEntry_st L 0 j hj
 rw [Nat.zero_add] at this
 simp only [entryOf, hb', lastN_snoc, hm', h1, cond_true, this, Option.map_some]

theorem nth_replicate {α : Type} {v : α} : ∀ {s k : Nat}, k < s → nth (List.replicate s v) k = some v
 | 0, k, h => by omega
 | s + 1, 0, _ => rfl
 | s + 1, k + 1, h => by
  rw [List.replicate_succ]
  exact nth_replicate (by omega)
theorem sat_makeSlice {h : H} {t e n s : Nat} {v : V} {i ei : TI} {Q : V → H → Prop} (ht : E.tys.get t = some i) (hd : i.desc = .slice e) (he : E.tys.get e = some ei) (hz : ei.zero = List.replicate s v) (hs : ei.size = s) (hpos : 0 < s) (hbytes : ei.bytes * n ≤ 281474976710656) (hn : n < 9223372036854775808)
  (q : ∀ h', Has h' h.next (List.replicate (n * s) v) → h'.next = h.next + 1 → Fix (· < h.next) h h' → Q (.slice h.next 0 n (.lit n)) h') : Sat1 (r1 (makeSliceV E h t (.int .i64 n) (.int .i64 n))) Q := by
 have h1 : (Nat.ble n n && Nat.ble (ei.bytes * n) 281474976710656 && Nat.blt n 9223372036854775808) = true := by
  rw [ble_true (Nat.le_refl n), ble_true hbytes, blt_true hn]; rfl
 simp only [makeSliceV, ht, natOf_nat, hd, he, h1, cond_true, H.new, sat_r1]
 refine q _ ⟨.lf, ei.zero, e, 0, ?_, ?_⟩ rfl ⟨Nat.le_succ _, fun c hc => by simp only [T.get_set]; rw [if_neg (Nat.ne_of_lt hc)]⟩
 ·simp only [T.get_set, if_true, List.length_replicate, hs]
 ·rw [List.length_replicate]
  refine cellsFrom_of (by simp) fun j hj => ?_
  rw [Nat.zero_add, List.getElem?_replicate, if_pos hj]
  unfold cellAt
  rw [blt_true hj, cond_true, T.get_lf, hz]
  simp only
  match s, hpos with
  | 1, _ => rfl
  | s + 2, _ =>
   show nth (List.replicate (s + 2) v) (Nat.mod j (List.replicate (s + 2) v).length) = some v
   rw [List.length_replicate]
   exact nth_replicate (Nat.mod_lt _ (by omega))
end

def al {α : Type} (k : List UInt8) : List (List UInt8 × α) → Option α
 | [] => none
 | p :: r => if p.1 = k then some p.2 else al k r
def ia {α : Type} (k : List UInt8) (x : α) : List (List UInt8 × α) → List (List UInt8 × α)
 | [] => [(k, x)]
 | p :: r => if p.1 = k then (k, x) :: r else p :: ia k x r
def mv {α : Type} (f : α → V) (L : List (List UInt8 × α)) : List (List UInt8 × V) := L.map fun p => (p.1, f p.2)
theorem mv_length {α : Type} (f : α → V) (L : List (List UInt8 × α)) : (mv f L).length = L.length := by simp [mv]
theorem mv_keys {α : Type} (f : α → V) (L : List (List UInt8 × α)) : (mv f L).map (·.1) = L.map (·.1) := by simp [mv, List.map_map, Function.comp_def]
theorem lk_mv {α : Type} (f : α → V) (k : List UInt8) : ∀ (L : List (List UInt8 × α)), lk k (mv f L) = (al k L).map f
 | [] => rfl
 | p :: r => by
  have ih := lk_mv f k r
  by_cases h : p.1 = k
  ·simp [mv, lk, al, h]
  ·simp only [mv, List.map_cons, lk, al, if_neg h]; exact ih
theorem ins_mv {α : Type} (f : α → V) (k : List UInt8) (x : α) : ∀ (L : List (List UInt8 × α)), ins k (f x) (mv f L) = mv f (ia k x L)
 | [] => rfl
 | p :: r => by
  have ih := ins_mv f k x r
  by_cases h : p.1 = k
  ·simp [mv, ins, ia, h]
  ·simp only [mv, List.map_cons, ins, ia, if_neg h]
   congr 1
theorem ia_keys {α : Type} (k : List UInt8) (x : α) : ∀ (L : List (List UInt8 × α)), (ia k x L).map (·.1) = if k ∈ L.map (·.1) then L.map (·.1) else L.map (·.1) ++ [k]
 | [] => by simp [ia]
 | p :: r => by
  have ih := ia_keys k x r
  by_cases h : p.1 = k
  ·subst h; simp [ia]
  ·simp only [ia, if_neg h, List.map_cons, ih, List.mem_cons]
   by_cases h2 : k ∈ r.map (·.1)
   ·rw [if_pos h2, if_pos (.inr h2)]
   ·rw [if_neg h2, if_neg (by rintro (q | q); · exact h q.symm
                              ·exact h2 q)]; rfl
theorem ia_nodup {α : Type} {k : List UInt8} {x : α} {L : List (List UInt8 × α)} (h : (L.map (·.1)).Nodup) : ((ia k x L).map (·.1)).Nodup := by
 rw [ia_keys]
 split
 ·exact h
 ·rename_i hk
  rw [List.nodup_append]
  exact ⟨h, by simp, fun a ha b hb => by rw [List.mem_singleton] at hb; subst hb; rintro rfl; exact hk ha⟩
theorem ia_length {α : Type} (k : List UInt8) (x : α) : ∀ (L : List (List UInt8 × α)), (ia k x L).length ≤ L.length + 1
 | [] => by simp [ia]
 | p :: r => by
  have ih := ia_length k x r
  by_cases h : p.1 = k
  ·simp [ia, h]
  ·simp only [ia, if_neg h, List.length_cons]; omega
theorem al_ia {α : Type} (k k' : List UInt8) (x : α) : ∀ (L : List (List UInt8 × α)), al k' (ia k x L) = if k = k' then some x else al k' L
 | [] => by simp [ia, al]
 | p :: r => by
  have ih := al_ia k k' x r
  by_cases h : p.1 = k
  ·subst h
   simp only [ia, if_true, al]
   split <;> rfl
  ·simp only [ia, if_neg h, al, ih]
   by_cases h2 : p.1 = k'
   ·rw [if_pos h2, if_neg (fun e => h (h2.trans e.symm)), if_pos h2]
   ·rw [if_neg h2, if_neg h2]
theorem al_mem {α : Type} {k : List UInt8} : ∀ {L : List (List UInt8 × α)} {x : α}, al k L = some x → (k, x) ∈ L
 | [], x, h => by cases h
 | p :: r, x, h => by
  simp only [al] at h
  split at h
  ·rename_i hp
   injection h with h
   subst hp h
   exact List.mem_cons_self ..
  ·exact List.mem_cons_of_mem _ (al_mem h)
theorem al_none {α : Type} {k : List UInt8} : ∀ {L : List (List UInt8 × α)}, al k L = none ↔ k ∉ L.map (·.1)
 | [] => by simp [al]
 | p :: r => by
  by_cases h : p.1 = k
  ·subst h; simp [al]
  ·simp only [al, if_neg h, al_none (L := r), List.map_cons, List.mem_cons, not_or]
   exact ⟨fun q => ⟨fun e => h e.symm, q⟩, fun q => q.2⟩
section
variable {E : Env} {h : H} {b ty kt et : Nat} {α : Type} {f : α → V} {L : List (List UInt8 × α)} {i ki ei : TI} {k : List UInt8}
theorem tab2 {z : α} (m : Mq h b (mv f L)) (ht : E.tys.get ty = some i) (hd : i.desc = .map kt et) (hk : E.tys.get kt = some ki) (hkd : ki.desc = .string) (he : E.tys.get et = some ei) (hz : ei.zv = f z) :
  lookupV E h ty (.map b) (.str k) true = some (.tuple [f ((al k L).getD z), .bool (al k L).isSome]) := by
 rw [lookup2 m.mp ht hd hk hkd he, lk_mv, hz]
 cases al k L <;> rfl
theorem tab1 {z : α} (m : Mq h b (mv f L)) (ht : E.tys.get ty = some i) (hd : i.desc = .map kt et) (hk : E.tys.get kt = some ki) (hkd : ki.desc = .string) (he : E.tys.get et = some ei) (hz : ei.zv = f z) :
  lookupV E h ty (.map b) (.str k) false = some (f ((al k L).getD z)) := by
 rw [lookup1 m.mp ht hd hk hkd he, lk_mv, hz]
 cases al k L <;> rfl
end
end Go.Ev

set_option linter.unusedSimpArgs false
namespace Go.Proofs.OP
open Go Go.Ev
open Go.Proofs
open Nat (reduceLT reduceEqDiff)
variable {g : T (List V)}

theorem Oc.one {c : Oc} {x : ObjD} {h : H} {K : Nat → Prop} (ob : Ob g h K c x) : (c.cells x).all V.one = true := by
 simp only [Oc.cells, List.all_cons, List.all_nil, (Sl.one ob.code).2, (Sl.one ob.data).2, (Sl.one ob.syms).2, (Sl.one ob.rels).2, (Sl.one ob.needs).2, Bool.and_true]; rfl
structure Obs (g : T (List V)) (h : H) (K : Nat → Prop) (s : V) (L : List (Oc × ObjD)) : Prop where
 sl : Rcs (E g) h 7 (fun p => p.1.cells p.2) s L
 ins : In K s
 ob : ∀ p ∈ L, Ob g h K p.1 p.2
theorem Obs.fix {h h' : H} {K K' : Nat → Prop} {s : V} {L : List (Oc × ObjD)} (a : Obs g h K s L) (f : Fix K' h h') (hs : ∀ b, K b → K' b) : Obs g h' K s L :=
 ⟨Sl.fix a.sl (a.ins.sub hs) f, a.ins, fun p hp => (a.ob p hp).fix f hs⟩
theorem Obs.up {h : H} {K K' : Nat → Prop} {s : V} {L : List (Oc × ObjD)} (a : Obs g h K s L) (hs : ∀ b, K b → K' b) : Obs g h K' s L :=
 ⟨a.sl, a.ins.sub hs, fun p hp => (a.ob p hp).up hs⟩
theorem ieq_t {a b : Int} (h : a = b) : (a == b) = true := by simp [h]
theorem ieq_f {a b : Int} (h : ¬ a = b) : (a == b) = false := by simp [h]
theorem nb2 : Nat.beq 2 2 = true := rfl
theorem nb3 : Nat.beq 3 3 = true := rfl
theorem nb4 : Nat.beq 4 4 = true := rfl
theorem nb6 : Nat.beq 6 6 = true := rfl
theorem nb8 : Nat.beq 8 8 = true := rfl
def fewAllP (L : List (Oc × ObjD)) : Bool := L.all (fun p => fewP p.2) && decide ((L.length : Int) ≤ 22)

set_option maxRecDepth 100000 in
set_option maxHeartbeats 4000000 in
theorem fewAll_ok {h : H} {ls : V} {L : List (Oc × ObjD)} (a : Obs g h (· < h.next) ls L) (r : ∀ p ∈ L, Room p.2) (lL : L.length < 2 ^ 62) : WF (E g) 8 [ls] h fun v h' => v = .bool (fewAllP L) ∧ Kept h h' := by
 refine WF.enter fn8 rfl ?_
 ((repeat refine WC.seq ?_); refine WC.run ?_)
 (try simp only [wk, wl, wx, reduceLT, reduceEqDiff, Nat.reduceBEq, reduceIte])
 ((repeat refine WC.seq ?_); refine WC.run ?_)
 (try simp only [wk, wl, wx, reduceLT, reduceEqDiff, Nat.reduceBEq, reduceIte, Sl.lenB a.sl ty22 rfl])
 (repeat refine WC.seq ?_)
 refine WC.block ?_
 refine WC.while (fun m fr hh => ∃ ts i, fr = ⟨ts, 18, [], 8, none⟩ ∧ Kept h hh ∧ m = L.length - i ∧ i ≤ L.length ∧ ts.get 0 = some ls ∧ ts.get 5 = some ls ∧ ts.get 6 = some (.int .i64 L.length) ∧ ts.get 7 = some (.int .i64 i) ∧ (L.take i).all (fun p => fewP p.2) = true) ?_ ⟨_, 0, rfl, Fix.refl _ _, rfl, by omega, ?_, ?_, ?_, ?_, by simp⟩
 ·rintro m fr hh ⟨ts, i, rfl, ff, rfl, hi, t0, t5, t6, t7, hall⟩
  have xh := ff.next
  have ah := (a.fix ff fun _ h => h).up (K' := (· < hh.next)) fun b hb => by omega
  ((repeat refine WC.seq ?_); refine WC.run ?_)
  (try simp only [wk, wl, wx, reduceLT, reduceEqDiff, Nat.reduceBEq, reduceIte, t6, t7])
  (repeat refine WC.seq ?_)
  by_cases hlt : i < L.length
  ·refine WC.cond (b := true) (by (try simp only [wk, wl, wx, reduceLT, reduceEqDiff, Nat.reduceBEq, reduceIte]); (try simp); (try omega)) (WC.skip ?_)
   (try simp only [wk, wl, wx, reduceLT, reduceEqDiff, Nat.reduceBEq, reduceIte])
   obtain ⟨p, p1, p2⟩ := ah.sl.at (fun _ => rfl) ty22 rfl ty70 rfl (by decide) rfl hlt
   have p2 := p2 hh fun _ _ _ _ _ => rfl
   have hmem := List.getElem_mem hlt
   have obi := ah.ob _ hmem
   (repeat refine WC.seq ?_)
   refine WC.block ?_
   ((repeat refine WC.seq ?_); refine WC.run ?_)
   (try simp only [wk, wl, wx, reduceLT, reduceEqDiff, Nat.reduceBEq, reduceIte, t5, t7, p1, p2])
   refine wop_alloc ty70 ?_
   intro h4 b4 n4 f4
   (try simp only [wk, wl, wx, reduceLT, reduceEqDiff, Nat.reduceBEq, reduceIte])
   refine sat_store b4 ty70 rfl (Nat.le_refl 7) (Oc.one obi) ?_
   intro h5 b5 n5 f5
   have b5 : Has h5 hh.next (L[i].1.cells L[i].2) := b5
   have F5 : Kept hh h5 := ⟨by omega, fun b hb => by rw [f5.same b (by omega), f4.same b hb]⟩
   have l5 : loadP (E g) h5 70 (.ptr hh.next 0) = some (.agg (L[i].1.cells L[i].2)) := b5.agg ty70 rfl (Nat.le_refl 7)
   (try simp only [wk, wl, wx, reduceLT, reduceEqDiff, Nat.reduceBEq, reduceIte])
   ((repeat refine WC.seq ?_); refine WC.run ?_)
   (try simp only [wk, wl, wx, reduceLT, reduceEqDiff, Nat.reduceBEq, reduceIte, l5])
   refine (few_ok ((obi.fix F5 fun _ h => h).up fun b hb => by omega) (r _ hmem)).mono fun v h6 ⟨e6, f6⟩ => ?_
   subst e6
   have x6 := f6.next
   have F6 : Kept h h6 := ⟨by omega, fun b hb => by rw [f6.same b (by omega), F5.same b (by omega), ff.same b hb]⟩
   (try simp only [wk, wl, wx, reduceLT, reduceEqDiff, Nat.reduceBEq, reduceIte, un_not])
   (repeat refine WC.seq ?_)
   cases hri : fewP L[i].2 with
   | false =>
    refine WC.cond (b := true) (by (try simp only [wk, wl, wx, reduceLT, reduceEqDiff, Nat.reduceBEq, reduceIte, hri]); (try simp); (try omega)) ?_
    (try simp only [wk, wl, wx, reduceLT, reduceEqDiff, Nat.reduceBEq, reduceIte])
    ((repeat refine WC.seq ?_); refine WC.run ?_)
    (try simp only [wk, wl, wx, reduceLT, reduceEqDiff, Nat.reduceBEq, reduceIte])
    refine WC.ret ?_
    (try simp only [wk, wl, wx, reduceLT, reduceEqDiff, Nat.reduceBEq, reduceIte])
    exact ⟨by rw [fewAllP, all_no hlt hri, Bool.false_and], F6⟩
   | true =>
    refine WC.cond (b := false) (by (try simp only [wk, wl, wx, reduceLT, reduceEqDiff, Nat.reduceBEq, reduceIte, hri]); (try simp); (try omega)) (WC.skip ?_)
    (try simp only [wk, wl, wx, reduceLT, reduceEqDiff, Nat.reduceBEq, reduceIte])
    ((repeat refine WC.seq ?_); refine WC.run ?_)
    (try simp only [wk, wl, wx, reduceLT, reduceEqDiff, Nat.reduceBEq, reduceIte, t7, bin_add])
    refine ⟨_, ?_, _, i + 1, rfl, F6, rfl, by omega, ?_⟩
    ·omega
    (try simp only [wk, wl, wx, reduceLT, reduceEqDiff, Nat.reduceBEq, reduceIte, t0, t5, t6])
    refine ⟨trivial, trivial, trivial, ?_, by rw [take_all hlt, hall, hri]; rfl⟩
    rw [wrap64 (by omega) (by omega)]; rfl
  ·refine WC.cond (b := false) (by (try simp only [wk, wl, wx, reduceLT, reduceEqDiff, Nat.reduceBEq, reduceIte]); (try simp); (try omega)) (WC.exit ?_)
   have : i = L.length := by omega
   subst this
   rw [List.take_length] at hall
   (try simp only [wk, wl, wx, reduceLT, reduceEqDiff, Nat.reduceBEq, reduceIte])
   ((repeat refine WC.seq ?_); refine WC.run ?_)
   (try simp only [wk, wl, wx, reduceLT, reduceEqDiff, Nat.reduceBEq, reduceIte, t0, Sl.lenB ah.sl ty22 rfl])
   refine WC.ret ?_
   (try simp only [wk, wl, wx, reduceLT, reduceEqDiff, Nat.reduceBEq, reduceIte])
   exact ⟨by rw [fewAllP, hall, Bool.true_and], ff⟩
 all_goals (try simp only [wk, wl, wx, reduceLT, reduceEqDiff, Nat.reduceBEq, reduceIte])
 all_goals (first | done | rfl | trivial | simp)

theorem obj_fill7 {a b c d e f i : V} {cs : List V} (h : cs.length = 7) : fillAll (fun k => some (k * 7, 7)) (repL [a, b, c, d, e, f, i] 1) [(0, .agg cs)] = some cs := by
 match cs, h with
 | [_, _, _, _, _, _, _], _ => rfl
set_option maxRecDepth 100000 in
set_option maxHeartbeats 8000000 in
theorem all_ok {K : Nat → Prop} {h : H} {ls : V} {L : List (Oc × ObjD)} (hK : ∀ b, K b → b < h.next) (a : Obs g h K ls L) (fL : ∀ p ∈ L, Fits p.2) (lL : L.length ≤ 2 ^ 30) :
  WF (E g) 11 [ls] h fun v h' => ∃ A : List (Oc × ObjD), A.map (·.2) = L.map (·.2) ∧ Obs g h' (fun b => h.next ≤ b ∧ b < h'.next) v A ∧ Whole v A.length ∧ Kept h h' := by
 refine WF.enter fn11 rfl ?_
 ((repeat refine WC.seq ?_); refine WC.run ?_)
 (try simp only [wk, wl, wx, reduceLT, reduceEqDiff, Nat.reduceBEq, reduceIte])
 ((repeat refine WC.seq ?_); refine WC.run ?_)
 (try simp only [wk, wl, wx, reduceLT, reduceEqDiff, Nat.reduceBEq, reduceIte])
 ((repeat refine WC.seq ?_); refine WC.run ?_)
 (try simp only [wk, wl, wx, reduceLT, reduceEqDiff, Nat.reduceBEq, reduceIte, Sl.lenB a.sl ty22 rfl])
 (repeat refine WC.seq ?_)
 refine WC.block ?_
 refine WC.while (fun m fr hh => ∃ ts i s, ∃ A : List (Oc × ObjD), fr = ⟨ts, 19, [], 11, none⟩ ∧ Kept h hh ∧ m = L.length - i ∧ i ≤ L.length ∧ ts.get 3 = some s ∧ ts.get 6 = some ls ∧ ts.get 7 = some (.int .i64 L.length) ∧ ts.get 8 = some (.int .i64 i) ∧ A.map (·.2) = (L.take i).map (·.2) ∧ Buf (E g) hh 77 7 s i (A.flatMap fun p => p.1.cells p.2) ∧ In (fun b => h.next ≤ b ∧ b < hh.next) s ∧ ∀ p ∈ A, Ob g hh (fun b => h.next ≤ b ∧ b < hh.next ∧ blkOf s ≠ some b) p.1 p.2) ?_ ⟨_, 0, .nils, [], rfl, Fix.refl _ _, rfl, by omega, ?_, ?_, ?_, ?_, rfl, Buf.nil, In.nils, fun p hp => by cases hp⟩
 ·rintro m fr hh ⟨ts, i, s, A, rfl, ff, rfl, hi, t3, t6, t7, t8, hA, bf, sin, hobs⟩
  have xh := ff.next
  have ah := a.fix ff hK
  ((repeat refine WC.seq ?_); refine WC.run ?_)
  (try simp only [wk, wl, wx, reduceLT, reduceEqDiff, Nat.reduceBEq, reduceIte, t7, t8])
  (repeat refine WC.seq ?_)
  by_cases hlt : i < L.length
  ·refine WC.cond (b := true) (by (try simp only [wk, wl, wx, reduceLT, reduceEqDiff, Nat.reduceBEq, reduceIte]); (try simp); (try omega)) (WC.skip ?_)
   (try simp only [wk, wl, wx, reduceLT, reduceEqDiff, Nat.reduceBEq, reduceIte])
   obtain ⟨p, p1, p2⟩ := ah.sl.at (fun _ => rfl) ty22 rfl ty70 rfl (by decide) rfl hlt
   have p2 := p2 hh fun _ _ _ _ _ => rfl
   have hmem := List.getElem_mem hlt
   have obi := (ah.ob _ hmem).up (K' := (· < hh.next)) fun b hb => by have := hK b hb; omega
   (repeat refine WC.seq ?_)
   refine WC.block ?_
   ((repeat refine WC.seq ?_); refine WC.run ?_)
   (try simp only [wk, wl, wx, reduceLT, reduceEqDiff, Nat.reduceBEq, reduceIte, t6, t8, p1, p2])
   refine wop_alloc ty70 ?_
   intro h4 b4 n4 f4
   (try simp only [wk, wl, wx, reduceLT, reduceEqDiff, Nat.reduceBEq, reduceIte])
   refine sat_store b4 ty70 rfl (Nat.le_refl 7) (Oc.one obi) ?_
   intro h5 b5 n5 f5
   have b5 : Has h5 hh.next (L[i].1.cells L[i].2) := b5
   have F5 : Kept hh h5 := ⟨by omega, fun b hb => by rw [f5.same b (by omega), f4.same b hb]⟩
   have l5 : loadP (E g) h5 70 (.ptr hh.next 0) = some (.agg (L[i].1.cells L[i].2)) := b5.agg ty70 rfl (Nat.le_refl 7)
   (try simp only [wk, wl, wx, reduceLT, reduceEqDiff, Nat.reduceBEq, reduceIte])
   ((repeat refine WC.seq ?_); refine WC.run ?_)
   (try simp only [wk, wl, wx, reduceLT, reduceEqDiff, Nat.reduceBEq, reduceIte, t3, l5])
   refine (to_ok ((obi.fix F5 fun _ h => h).up fun b hb => by omega) (fL _ hmem)).mono fun v h6 ⟨c6, e6, ob6, f6⟩ => ?_
   subst e6
   have x6 := f6.next
   (try simp only [wk, wl, wx, reduceLT, reduceEqDiff, Nat.reduceBEq, reduceIte])
   refine sat_buildSlice (cs := c6.cells L[i].2) ty38 rfl ty77 rfl (by decide) (by decide) (obj_fill7 rfl) rfl ?_
   intro h7 bl n7 f7
   (try simp only [wk, wl, wx, reduceLT, reduceEqDiff, Nat.reduceBEq, reduceIte])
   have F7 : Kept hh h7 := ⟨by omega, fun b hb => by rw [f7.same b (by omega), f6.same b (by omega), F5.same b hb]⟩
   have bf7 := bf.fix (K := (· < hh.next)) (sin.sub fun b hb => hb.2) F7
   refine sat_append (m := 1) (ws := c6.cells L[i].2) bf7 ty38 rfl ty38 (.inl ⟨_, rfl⟩) ty77 rfl (by decide) (by decide) (Sl.len bl.sl) (Sl.cells bl.sl) rfl (Oc.one ob6) (show (i + 1) * 152 ≤ 140737488355328 by omega) (sin.sub fun b hb => by omega) ?_
   intro s' h8 bf8 i8 o8 f8
   have x8 := f8.next
   (try simp only [wk, wl, wx, reduceLT, reduceEqDiff, Nat.reduceBEq, reduceIte])
   ((repeat refine WC.seq ?_); refine WC.run ?_)
   (try simp only [wk, wl, wx, reduceLT, reduceEqDiff, Nat.reduceBEq, reduceIte, t8, bin_add])
   have F8 : Kept h h8 := ⟨by omega, fun b hb => by rw [f8.same b ⟨by omega, fun o k cc e => by have := sin _ _ _ _ e; omega⟩, F7.same b (by omega), ff.same b hb]⟩
   have hne : ∀ b, blkOf s' = some b → b = h7.next ∨ blkOf s = some b := fun b e => by
    cases s' <;> simp only [blkOf, Option.some.injEq, reduceCtorEq] at e
    subst e
    rcases o8 _ _ _ _ rfl with q | ⟨o, k, c, q⟩
    ·exact .inl q
    ·exact .inr (by rw [q]; rfl)
   refine ⟨_, ?_, _, i + 1, s', A ++ [(c6, L[i].2)], rfl, F8, rfl, by omega, ?_⟩
   ·omega
   (try simp only [wk, wl, wx, reduceLT, reduceEqDiff, Nat.reduceBEq, reduceIte, t6, t7])
   refine ⟨trivial, trivial, trivial, ?_, ?_, ?_, ?_, ?_⟩
   ·rw [wrap64 (by omega) (by omega)]; rfl
   ·rw [List.map_append, hA, List.take_succ_eq_append_getElem hlt, List.map_append]; rfl
   ·rw [flat_app1]; exact bf8
   ·refine fun b o n c e => ⟨?_, i8 _ _ _ _ e⟩
    rcases hne b (by rw [e]; rfl) with q | q
    ·omega
    ·have := sin.blk q; omega
   ·intro p hp
    rcases List.mem_append.1 hp with q | q
    ·have := hobs p q
     refine ((this.fix F7 fun b hb => hb.2.1).fix f8 fun b hb => ⟨by omega, fun o k cc e => hb.2.2 (by rw [e]; rfl)⟩).up fun b hb => ⟨hb.1, by omega, fun e => ?_⟩
     rcases hne b e with r | r
     ·omega
     ·exact hb.2.2 r
    ·rw [List.mem_singleton] at q
     subst q
     refine ((ob6.fix f7 fun b hb => hb.2).fix f8 fun b hb => ⟨by omega, fun o k cc e => by have := sin _ _ _ _ e; omega⟩).up fun b hb => ⟨by omega, by omega, fun e => ?_⟩
     rcases hne b e with r | r
     ·omega
     ·have := sin.blk r; omega
  ·refine WC.cond (b := false) (by (try simp only [wk, wl, wx, reduceLT, reduceEqDiff, Nat.reduceBEq, reduceIte]); (try simp); (try omega)) (WC.exit ?_)
   have : i = L.length := by omega
   subst this
   rw [List.take_length] at hA
   have hlA : A.length = L.length := by simpa using congrArg List.length hA
   (try simp only [wk, wl, wx, reduceLT, reduceEqDiff, Nat.reduceBEq, reduceIte])
   ((repeat refine WC.seq ?_); refine WC.run ?_)
   (try simp only [wk, wl, wx, reduceLT, reduceEqDiff, Nat.reduceBEq, reduceIte, t3])
   refine WC.ret ?_
   (try simp only [wk, wl, wx, reduceLT, reduceEqDiff, Nat.reduceBEq, reduceIte])
   rw [← hlA] at bf
   exact ⟨A, hA, ⟨bf.sl, sin, fun p hp => (hobs p hp).up fun b hb => ⟨hb.1, hb.2.1⟩⟩, bf.whole, ff⟩
 all_goals (try simp only [wk, wl, wx, reduceLT, reduceEqDiff, Nat.reduceBEq, reduceIte])
 all_goals (first | done | rfl | trivial | simp)
end Go.Proofs.OP
