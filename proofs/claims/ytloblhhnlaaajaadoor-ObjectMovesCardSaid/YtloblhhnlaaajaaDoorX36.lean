/- Walks: (*linker).layout. -/
import Derived.Test.YtloblhhnlaaajaaDoorX15
import Derived.Test.YtloblhhnlaaajaaDoorX35
set_option linter.unusedVariables false
set_option linter.unusedSimpArgs false
set_option linter.defProp false
set_option linter.unusedSimpArgs false
namespace Go.Proofs.OP
open Go Go.Ev
open Go.Proofs
open Nat (reduceLT reduceEqDiff)
variable {g : T (List V)}

theorem idx_arr {t e b o n k : Nat} {i ei : TI} {ik : IntKind} (ht : (E g).tys.get t = some i) (hd : i.desc = .array n e) (he : (E g).tys.get e = some ei) (hk : k < n) : indexAddrV (E g) t (.ptr b o) (.int ik k) = some (.ptr b (o + k * ei.size)) := by
 have h1 : Nat.blt k n = true := blt_true hk
 simp only [indexAddrV, ht, natOf_nat, hd, h1, cond_true, sizeOf_of he, Option.map_some]
theorem obs_at {h : H} {K : Nat → Prop} {ls : V} {L : List (Oc × ObjD)} (a : Obs g h K ls L) (w : Whole ls L.length) {i : Nat} (hi : i < L.length) :
  ∃ lb, (∃ c, ls = .slice lb 0 L.length c) ∧ K lb ∧ At h lb (i * 7) (L[i].1.cells L[i].2) := by
 obtain ⟨b, k, e, _⟩ := not_one_nil w a.sl (by omega)
 have hs := a.sl
 rw [e] at hs
 have hA := hs.block (c := 0) (by omega)
 have hlen : (L.flatMap fun p : Oc × ObjD => p.1.cells p.2).length = L.length * 7 := flat_length' (f := fun p : Oc × ObjD => p.1.cells p.2) (sz := 7) (fun _ => rfl) L
 have hp := hA.part (p := i * 7) (q := 7) (by rw [hlen]; omega)
 rw [flat_at' (f := fun p : Oc × ObjD => p.1.cells p.2) (sz := 7) (fun _ => rfl) hi, Nat.zero_add] at hp
 exact ⟨b, ⟨k, e⟩, a.ins _ _ _ _ e, hp⟩
abbrev im0 (code : Int) : List V := [i64 0, .nils, i64 code, i64 0, .nils, .nils, .nils]

def slotsAt : Int → List (List UInt8) → St → St
 | _, [], S => S
 | a, k :: r, S => slotsAt (a + 8) r (ia k a S)
def layB (os : List ObjD) : Nat → List ObjD → List UInt8 → List UInt8
 | _, [], bs => bs
 | i, o :: r, bs => layB os (i + 1) r (putAt (putAt bs (stO os 1 i) o.code) (stO os 2 i) o.data)
def addrG (base : Int) (os : List ObjD) (G : GlD) : GlD := { G with addr := base + (stO os G.sym.sec.toNat G.obj : Nat) + G.sym.off }
def tabA (os : List ObjD) : Nat := upN (end2 os)
def sizeL (os : List ObjD) (S : St) : Nat := tabA os + 8 * S.length
def GoodG (os : List ObjD) (G : GlD) : Prop := G.obj < os.length ∧ 1 ≤ G.sym.sec ∧ G.sym.sec ≤ 2 ∧ 0 ≤ G.sym.off ∧ G.sym.off ≤ 16384

theorem keys88_ok {h : H} {m : Nat} : WF (E g) 88 [.map m] h fun v h' => v = .func 113 [] [.ptr h.next 0] ∧ Has h' h.next [.map m] ∧ h'.next = h.next + 1 ∧ Kept h h' := by
 refine WF.enter fn88 rfl ?_
 ((repeat refine WC.seq ?_); refine WC.run ?_)
 (try simp only [wk, wl, wx, reduceLT, reduceEqDiff, Nat.reduceBEq, reduceIte])
 refine wop_box (v := .map m) (by (try simp only [wk, wl, wx, reduceLT, reduceEqDiff, Nat.reduceBEq, reduceIte])) ?_
 intro h1 b1 n1 f1
 (try simp only [wk, wl, wx, reduceLT, reduceEqDiff, Nat.reduceBEq, reduceIte])
 ((repeat refine WC.seq ?_); refine WC.run ?_)
 (try simp only [wk, wl, wx, reduceLT, reduceEqDiff, Nat.reduceBEq, reduceIte, w_makeFunc])
 refine WC.ret ?_
 (try simp only [wk, wl, wx, reduceLT, reduceEqDiff, Nat.reduceBEq, reduceIte])
 exact ⟨by trivial, b1, n1, f1⟩
theorem keys92_ok {h : H} {m : Nat} : WF (E g) 92 [.map m] h fun v h' => v = .func 115 [] [.ptr h.next 0] ∧ Has h' h.next [.map m] ∧ h'.next = h.next + 1 ∧ Kept h h' := by
 refine WF.enter fn92 rfl ?_
 ((repeat refine WC.seq ?_); refine WC.run ?_)
 (try simp only [wk, wl, wx, reduceLT, reduceEqDiff, Nat.reduceBEq, reduceIte])
 refine wop_box (v := .map m) (by (try simp only [wk, wl, wx, reduceLT, reduceEqDiff, Nat.reduceBEq, reduceIte])) ?_
 intro h1 b1 n1 f1
 (try simp only [wk, wl, wx, reduceLT, reduceEqDiff, Nat.reduceBEq, reduceIte])
 ((repeat refine WC.seq ?_); refine WC.run ?_)
 (try simp only [wk, wl, wx, reduceLT, reduceEqDiff, Nat.reduceBEq, reduceIte, w_makeFunc])
 refine WC.ret ?_
 (try simp only [wk, wl, wx, reduceLT, reduceEqDiff, Nat.reduceBEq, reduceIte])
 exact ⟨by trivial, b1, n1, f1⟩
theorem sorted_ok {α : Type} {f : α → V} {L : List (List UInt8 × α)} {h : H} {m b gk : Nat} (hg : gk = 113 ∨ gk = 115) (hb : Has h b [.map m]) (hm : Mq h m (mv f L)) (hnd : (L.map (·.1)).Nodup) (hlen : L.length ≤ 2 ^ 40) (hkl : ∀ p ∈ L, p.1.length ≤ 2 ^ 40) :
  WF (E g) 87 [.func gk [] [.ptr b 0]] h fun v h' => Buf (E g) h' 9 1 v L.length ((sortS (L.map (·.1))).map V.str) ∧ In (fun b => h.next ≤ b ∧ b < h'.next) v ∧ Kept h h' := by
 have hsk : skOf 87 (E g).sk [gk] = some 9 := by
  rcases hg with rfl | rfl
  ·unfold E envOf4; rfl
  ·unfold E envOf4; rfl
 refine wf_keys (e := 9) E_87 (by unfold E envOf4; rfl) (by unfold E envOf4; exact T.get_lf 87) (by unfold E envOf4; rfl) hsk ty9 rfl hb hm (by rw [mv_keys]; exact hnd) (by rw [mv_length]; omega) (fun p hp => ?_) (fun v h' q1 q2 q3 => ?_)
 ·obtain ⟨q, hq, rfl⟩ := List.mem_map.1 hp
  have := hkl q hq
  show q.1.length ≤ _
  omega
 ·rw [mv_keys, mv_length] at q1
  exact ⟨q1, q2, q3⟩
theorem sortS_len {α : Type} (L : List (List UInt8 × α)) : (sortS (L.map (·.1))).length = L.length := by rw [sortS_length, List.length_map]
theorem sl_strs {h : H} {v : V} {n : Nat} {K : List (List UInt8)} (b : Buf (E g) h 9 1 v n (K.map V.str)) (hn : K.length = n) : Ss g h v K := by
 subst hn; exact b.sl
def updA {α : Type} (f : α → α) (seen : List Nat) (L : List (List UInt8 × α)) : List (List UInt8 × α) := L.mapIdx fun j p => if seen.contains j then (p.1, f p.2) else p
theorem updA_length {α : Type} (f : α → α) (seen : List Nat) (L : List (List UInt8 × α)) : (updA f seen L).length = L.length := by simp [updA]
theorem updA_keys {α : Type} (f : α → α) (seen : List Nat) (L : List (List UInt8 × α)) : (updA f seen L).map (·.1) = L.map (·.1) := by
 apply List.ext_getElem?
 intro j
 simp only [updA, List.getElem?_map, List.getElem?_mapIdx]
 cases L[j]? with
 | none => rfl
 | some p => simp only [Option.map_some]; split <;> rfl
theorem updA_nil {α : Type} (f : α → α) (L : List (List UInt8 × α)) : updA f [] L = L := by
 apply List.ext_getElem?
 intro j
 simp only [updA, List.getElem?_mapIdx]
 cases L[j]? with
 | none => rfl
 | some p => rfl
theorem updA_all {α : Type} (f : α → α) {seen : List Nat} {L : List (List UInt8 × α)} (h : ∀ j, j < L.length → j ∈ seen) : updA f seen L = L.map fun p => (p.1, f p.2) := by
 apply List.ext_getElem?
 intro j
 simp only [updA, List.getElem?_mapIdx, List.getElem?_map]
 rcases Nat.lt_or_ge j L.length with hj | hj
 ·rw [List.getElem?_eq_getElem hj]
  simp only [Option.map_some]
  rw [if_pos (by simpa using h j hj)]
 ·rw [List.getElem?_eq_none hj]; rfl
theorem updA_at {α : Type} (f : α → α) {seen : List Nat} {L : List (List UInt8 × α)} {j : Nat} (hj : j < L.length) (hs : j ∉ seen) : (updA f seen L)[j]'(by rw [updA_length]; exact hj) = L[j] := by
 simp only [updA, List.getElem_mapIdx]
 rw [if_neg (by simpa using hs)]
theorem ia_set {α : Type} {x : α} : ∀ {L : List (List UInt8 × α)} {j : Nat} (hj : j < L.length), (L.map (·.1)).Nodup → ia L[j].1 x L = L.set j (L[j].1, x)
 | [], j, hj, _ => by simp at hj
 | p :: r, 0, _, _ => by simp [ia]
 | p :: r, j + 1, hj, hn => by
  have hj' : j < r.length := by simpa using hj
  simp only [List.map_cons, List.nodup_cons] at hn
  have hne : ¬ p.1 = r[j].1 := fun e => hn.1 (by rw [e]; exact List.mem_map.2 ⟨r[j], List.getElem_mem hj', rfl⟩)
  simp only [List.getElem_cons_succ, ia, if_neg hne, List.set_cons_succ, ia_set hj' hn.2]
theorem updA_next {α : Type} (f : α → α) {seen : List Nat} {L : List (List UInt8 × α)} {j : Nat} (hj : j < L.length) (hn : (L.map (·.1)).Nodup) (hs : j ∉ seen) : ia L[j].1 (f L[j].2) (updA f seen L) = updA f (seen ++ [j]) L := by
 have hj' : j < (updA f seen L).length := by rw [updA_length]; exact hj
 have e := updA_at f hj hs
 have h1 := ia_set (x := f L[j].2) hj' (by rw [updA_keys]; exact hn)
 rw [e] at h1
 rw [h1]
 apply List.ext_getElem?
 intro k
 rw [List.getElem?_set]
 by_cases hk : j = k
 ·subst hk
  rw [if_pos rfl, if_pos hj']
  simp only [updA, List.getElem?_mapIdx, List.getElem?_eq_getElem hj, Option.map_some]
  rw [if_pos (by simp)]
 ·rw [if_neg hk]
  simp only [updA, List.getElem?_mapIdx]
  have : (seen ++ [j]).contains k = seen.contains k := by
   rw [Bool.eq_iff_iff]
   simp only [List.contains_iff_mem, List.mem_append, List.mem_singleton]
   constructor
   ·rintro (q | q)
    ·exact q
    ·exact absurd q.symm hk
   ·exact .inl
  rw [this]
def unseen (n : Nat) (seen : List Nat) : Nat := ((List.range n).filter fun j => !seen.contains j).length
theorem filter_lt {l seen : List Nat} {j : Nat} (h : j ∈ l) (hs : j ∉ seen) : (l.filter fun k => !(seen ++ [j]).contains k).length < (l.filter fun k => !seen.contains k).length := by
 have key : ∀ l : List Nat, (l.filter fun k => !(seen ++ [j]).contains k).length ≤ (l.filter fun k => !seen.contains k).length := by
  intro l
  induction l with
  | nil => simp
  | cons x r ih =>
   simp only [List.filter_cons]
   by_cases q : seen.contains x = true
   ·have q2 : (seen ++ [j]).contains x = true := by simp at q ⊢; exact .inl q
    simp only [q, q2, Bool.not_true, Bool.false_eq_true, if_false]; exact ih
   ·simp only [q, Bool.not_false, if_true]
    split
    ·simp only [List.length_cons]; omega
    ·simp only [List.length_cons]; omega
 induction l with
 | nil => cases h
 | cons x r ih =>
  simp only [List.filter_cons]
  by_cases e : x = j
  ·subst e
   have q2 : (seen ++ [x]).contains x = true := by simp
   have q : seen.contains x = false := by simpa using hs
   simp only [q, q2, Bool.not_true, Bool.not_false, Bool.false_eq_true, if_false, if_true, List.length_cons]
   have := key r
   omega
  ·have hr : j ∈ r := by
    rcases List.mem_cons.1 h with q | q
    ·exact absurd q.symm e
    ·exact q
   have := ih hr
   by_cases q : seen.contains x = true
   ·have q2 : (seen ++ [j]).contains x = true := by simp at q ⊢; exact .inl q
    simp only [q, q2, Bool.not_true, Bool.false_eq_true, if_false]; exact this
   ·have q2 : (seen ++ [j]).contains x = false := by
     simp at q ⊢; exact ⟨q, e⟩
    simp only [q, q2, Bool.not_false, if_true, List.length_cons]; omega
theorem unseen_lt {n j : Nat} {seen : List Nat} (h : j < n) (hs : j ∉ seen) : unseen n (seen ++ [j]) < unseen n seen := filter_lt (List.mem_range.2 h) hs
theorem slice_le {t e b n l : Nat} {i ei : TI} {k : IntKind} (ht : (E g).tys.get t = some i) (hd : i.desc = .slice e) (he : (E g).tys.get e = some ei) (hs : ei.size = 1) (hl : l ≤ n) :
  ∃ o' c', sliceV (E g) t (.slice b 0 n (.lit n)) (some (.int k l)) none none = some (.slice b o' (n - l) c') ∧ (l < n → o' = l) := by
 rcases Nat.lt_or_ge l n with q | q
 ·obtain ⟨c', h1⟩ := slice_from (E := E g) (b := b) (o := 0) (k := k) ht hd (sizeOf_of he) (.inl rfl) q
  rw [hs, Nat.mul_one, Nat.zero_add] at h1
  exact ⟨_, c', h1, fun _ => rfl⟩
 ·obtain rfl : l = n := by omega
  have h1 : Nat.ble l l = true := ble_true (Nat.le_refl _)
  refine ⟨0, .lit (l - l), ?_, fun h => absurd h (by omega)⟩
  simp only [sliceV, ht, hd, sizeOf_of he, subSlice, optNat, natOf_nat, Option.bind_some, h1, cond_true, subEnd]
  simp
theorem sat_lay {h : H} {bb l n o' : Nat} {c' : Cp} {bs xs : List UInt8} {s : V} {Q : V → H → Prop} (a : At h bb 0 (bs.map u8)) (hl : l + xs.length ≤ n) (hn : bs.length = n) (ho : l < n → o' = l) (hs : Bs g h s xs)
  (k : ∀ v h', At h' bb 0 ((putAt bs l xs).map u8) → h'.next = h.next → Fix (· ≠ bb) h h' → Q v h') : Sat1 (r1 (copyV (E g) h 27 (.slice bb o' (n - l) c') s)) Q := by
 rcases Nat.eq_zero_or_pos xs.length with hx | hx
 ·have hxs : xs = [] := List.eq_nil_of_length_eq_zero hx
  subst hxs
  have hl0 : lenV s = some 0 := by simpa using Sl.len hs
  have hc := Sl.cells hs
  simp only [List.length_nil, List.map_nil] at hc
  have hln : lenV (.slice bb o' (n - l) c') = some (n - l) := rfl
  simp only [copyV, ty27, ty5, hln, hl0, Nat.min_def, Nat.zero_le, if_true, hc, storeL, Option.map_some, sat_r1]
  refine k _ _ ?_ rfl (Fix.refl _ _)
  simpa [putAt] using a
 ·have ho := ho (by omega)
  subst ho
  have : (V.slice bb o' (n - o') c') = .slice bb (0 + o') (n - o') c' := by rw [Nat.zero_add]
  rw [this]
  refine sat_copyA a ty27 rfl ty5 rfl (Sl.len hs) (by omega) (Sl.cells hs) (by simp) (by simp; omega) one_u8 ?_
  intro h' a' n' f'
  refine k _ _ ?_ n' f'
  rw [putAt_over]; exact a'
theorem layE_split {sec i : Nat} {os : List ObjD} {a : Nat} : layE sec os a = layE sec (os.drop i) (layE sec (os.take i) a) := by
 unfold layE
 rw [← List.foldl_append, List.take_append_drop]
theorem layE_ge {sec : Nat} : ∀ {os : List ObjD} {a : Nat}, a ≤ layE sec os a
 | [], a => Nat.le_refl _
 | o :: r, a => by
  have ih := layE_ge (sec := sec) (os := r) (a := upN a + szS sec o)
  have h2 := upN_le a
  have e : layE sec (o :: r) a = layE sec r (upN a + szS sec o) := rfl
  rw [e]; omega
theorem st_end {sec i : Nat} {os : List ObjD} {a : Nat} (hi : i < os.length) : stA sec os a i + szS sec os[i] ≤ layE sec os a := by
 rw [layE_split (i := i + 1), layE_snoc hi]
 exact layE_ge
theorem stO1_end {i : Nat} {os : List ObjD} (hi : i < os.length) : stO os 1 i + os[i].code.length ≤ tabA os := by
 have h1 := st_end (sec := 1) (a := 0) hi
 have h2 : end1 os ≤ end2 os := layE_ge
 have h3 := upN_le (end2 os)
 have e : stO os 1 i = stA 1 os 0 i := rfl
 have e2 : layE 1 os 0 = end1 os := rfl
 have e3 : szS 1 os[i] = os[i].code.length := rfl
 unfold tabA
 omega
theorem stO2_end {i : Nat} {os : List ObjD} (hi : i < os.length) : stO os 2 i + os[i].data.length ≤ tabA os := by
 have h1 := st_end (sec := 2) (a := end1 os) hi
 have h3 := upN_le (end2 os)
 have e : stO os 2 i = stA 2 os (end1 os) i := rfl
 have e2 : layE 2 os (end1 os) = end2 os := rfl
 have e3 : szS 2 os[i] = os[i].data.length := rfl
 unfold tabA
 omega
theorem stO_le {sec i : Nat} {os : List ObjD} (h1 : 1 ≤ sec) (h2 : sec ≤ 2) (hi : i < os.length) : stO os sec i ≤ tabA os := by
 obtain rfl | rfl : sec = 1 ∨ sec = 2 := by omega
 ·have := stO1_end hi; omega
 ·have := stO2_end hi; omega
set_option maxRecDepth 100000 in
set_option maxHeartbeats 16000000 in
theorem layout_ok {n0 kb db sb : Nat} {h : H} {ls : V} {L : List (Oc × ObjD)} {base : Int} {D : Dm} {S : St} (hb : Bas base) (hn0 : n0 ≤ h.next) (a : Obs g h (· < n0) ls L) (w : Whole ls L.length) (lL : L.length ≤ 20) (hM : ∀ o ∈ L.map (·.2), o.code.length ≤ 16384 ∧ o.data.length ≤ 16384)
  (bk : Has h kb (lkV ls base .nils db sb (im0 0))) (md : Mq h db (mv dV D)) (ms : Mq h sb (mv i64 S)) (hkb : kb < h.next) (hdb : db < h.next) (hsb : sb < h.next) (kd : kb ≠ db) (ks : kb ≠ sb) (ds : db ≠ sb) (k0 : n0 ≤ kb) (d0 : n0 ≤ db) (s0 : n0 ≤ sb)
  (gD : ∀ p ∈ D, GoodG (L.map (·.2)) p.2) (nD : (D.map (·.1)).Nodup) (lD : D.length ≤ 2 ^ 20) (nS : (S.map (·.1)).Nodup) (lS : S.length ≤ 2 ^ 20) (kS : ∀ p ∈ S, p.1.length ≤ 2 ^ 20) :
  WF (E g) 34 [.ptr kb 0] h fun v h' => Fix (fun b => b < h.next ∧ b ≠ kb ∧ b ≠ db ∧ b ≠ sb) h h' ∧
   if 131072 < sizeL (L.map (·.2)) S then v = .agg (faultV (0, 18)) else v = .agg (faultV (0, 0)) ∧ ∃ stb bb, h.next ≤ stb ∧ stb < h'.next ∧ h.next ≤ bb ∧ bb < h'.next ∧ bb ≠ stb ∧
    Has h' kb (lkV ls base (.slice stb 0 L.length (.lit L.length)) db sb [i64 base, .slice bb 0 (sizeL (L.map (·.2)) S) (.lit (sizeL (L.map (·.2)) S)), i64 (upN (end1 (L.map (·.2))) : Nat), i64 0, .nils, .nils, .nils]) ∧
    Has h' stb (stC L.length (stG base (L.map (·.2)))) ∧ At h' bb 0 ((layB (L.map (·.2)) 0 (L.map (·.2)) (List.replicate (sizeL (L.map (·.2)) S) 0)).map u8) ∧
    Mq h' db (mv dV (D.map fun p => (p.1, addrG base (L.map (·.2)) p.2))) ∧ Mq h' sb (mv i64 (slotsAt (base + (tabA (L.map (·.2)) : Nat)) (sortS (S.map (·.1))) S)) := by
 have hb1 := hb.most
 have hb0 := hb.pos
 have hM1 : ∀ sec, 1 ≤ sec → sec ≤ 2 → ∀ o ∈ L.map (·.2), szS sec o ≤ 16384 := fun sec h1 h2 o ho => by
  obtain ⟨q1, q2⟩ := hM o ho
  unfold szS
  split
  ·exact q1
  ·exact q2
 have hlo : (L.map (·.2)).length = L.length := by simp
 generalize hos : L.map (·.2) = os at *
 have hend : ∀ sec i a, 1 ≤ sec → sec ≤ 2 → a ≤ layE sec (os.take i) a ∧ layE sec (os.take i) a ≤ a + 20 * 16400 := fun sec i a h1 h2 => by
  have := layE_le (sec := sec) (M := 16384) (os := os.take i) (a := a) fun o ho => hM1 sec h1 h2 o (List.mem_of_mem_take ho)
  have hl : (os.take i).length ≤ 20 := by rw [List.length_take]; omega
  have hl2 : (os.take i).length * (16384 + 16) ≤ 20 * 16400 := Nat.mul_le_mul_right _ hl
  omega
 have hend1 : end1 os ≤ 20 * 16400 := by
  have := hend 1 os.length 0 (by omega) (by omega)
  rw [List.take_length] at this
  unfold end1; omega
 have hend2 : end2 os ≤ 40 * 16400 := by
  have := hend 2 os.length (end1 os) (by omega) (by omega)
  rw [List.take_length] at this
  unfold end2; omega
 refine WF.enter fn34 rfl ?_
 ((repeat refine WC.seq ?_); refine WC.run ?_)
 (try simp only [wk, wl, wx, reduceLT, reduceEqDiff, Nat.reduceBEq, reduceIte])
 refine wop_alloc ty35 ?_
 intro h1 b1 n1 f1
 have b1 : Has h1 h.next (faultV (0, 0)) := b1
 (try simp only [wk, wl, wx, reduceLT, reduceEqDiff, Nat.reduceBEq, reduceIte])
 have a1 := a.fix f1 fun b hb => by omega
 have bk1 := bk.fix f1 hkb
 ((repeat refine WC.seq ?_); refine WC.run ?_)
 (try simp only [wk, wl, wx, reduceLT, reduceEqDiff, Nat.reduceBEq, reduceIte, fa105_1, Nat.zero_add, bk1.at ty2 rfl, i64])
 ((repeat refine WC.seq ?_); refine WC.run ?_)
 (try simp only [wk, wl, wx, reduceLT, reduceEqDiff, Nat.reduceBEq, reduceIte, fa105_0, fa105_2, Nat.zero_add, bk1.at ty38 rfl, Sl.lenB a1.sl ty38 rfl])
 refine sat_makeSlice (s := 3) (v := .int .i64 0) (n := L.length) ty103 rfl ty126 rfl rfl (by decide) (show 24 * L.length ≤ 281474976710656 by omega) (by omega) ?_
 intro h2 b2 n2 f2
 rw [stC_zero, ← stF_one (base := base) (os := os)] at b2
 have bk2 := bk1.fix f2 (by omega)
 (try simp only [wk, wl, wx, reduceLT, reduceEqDiff, Nat.reduceBEq, reduceIte, fa105_2, Nat.zero_add])
 refine sat_store bk2 ty103 rfl (show 2 + 1 ≤ 12 by decide) rfl ?_
 intro h3 bk3 n3 f3
 have bk3 : Has h3 kb (lkV ls base (.slice h1.next 0 L.length (.lit L.length)) db sb (im0 0)) := bk3
 have b3 := b2.fix f3 (by omega)
 have a3 := (a1.fix f2 fun b hb => by omega).fix f3 fun b hb => by omega
 have F3 : Fix (fun b => b < h1.next ∧ b ≠ kb) h1 h3 := ⟨by omega, fun b hb => by rw [f3.same b hb.2, f2.same b hb.1]⟩
 generalize hstb : h1.next = stb at *
 have hend0 : ∀ sec, 1 ≤ sec → sec ≤ 2 → (if sec = 1 then 0 else end1 os) ≤ 20 * 16400 := fun sec _ _ => by split <;> omega
 (try simp only [wk, wl, wx, reduceLT, reduceEqDiff, Nat.reduceBEq, reduceIte])
 ((repeat refine WC.seq ?_); refine WC.run ?_)
 (try simp only [wk, wl, wx, reduceLT, reduceEqDiff, Nat.reduceBEq, reduceIte])
 (repeat refine WC.seq ?_)
 refine WC.block ?_
 refine WC.while (fun m fr hh => ∃ ts sec, fr = ⟨ts, 210, [], 34, none⟩ ∧ Fix (fun b => b < h3.next ∧ b ≠ kb ∧ b ≠ stb) h3 hh ∧ m = 3 - sec ∧ 1 ≤ sec ∧ sec ≤ 3 ∧ ts.get 0 = some (.ptr kb 0) ∧ ts.get 2 = some (.ptr h.next 0) ∧ ts.get 3 = some (.int .i64 (base + ((if sec = 1 then 0 else if sec = 2 then end1 os else end2 os : Nat) : Int))) ∧ ts.get 4 = some (.int .i64 (sec : Nat)) ∧
  Has hh kb (lkV ls base (.slice stb 0 L.length (.lit L.length)) db sb (im0 (if sec = 1 then 0 else (upN (end1 os) : Nat)))) ∧ Has hh stb (stC L.length (stF base os sec 0))) ?_ ⟨_, 1, rfl, Fix.refl _ _, rfl, by omega, by omega, ?_, ?_, ?_, ?_, bk3, b3⟩
 ·rintro m fr hh ⟨ts, sec, rfl, ff, rfl, sec1, sec3, t0, t2, t3, t4, bkh, bsh⟩
  have xh := ff.next
  have ah := a3.fix ff fun b hb => by omega
  ((repeat refine WC.seq ?_); refine WC.run ?_)
  (try simp only [wk, wl, wx, reduceLT, reduceEqDiff, Nat.reduceBEq, reduceIte, t4])
  (repeat refine WC.seq ?_)
  by_cases hlt : sec ≤ 2
  ·refine WC.cond (b := true) (by (try simp only [wk, wl, wx, reduceLT, reduceEqDiff, Nat.reduceBEq, reduceIte]); (try simp); (try omega)) (WC.skip ?_)
   (try simp only [wk, wl, wx, reduceLT, reduceEqDiff, Nat.reduceBEq, reduceIte])
   have e3 : (if sec = 1 then 0 else if sec = 2 then end1 os else end2 os : Nat) = (if sec = 1 then 0 else end1 os) := by
    by_cases q : sec = 1
    ·rw [if_pos q, if_pos q]
    ·rw [if_neg q, if_neg q, if_pos (by omega)]
   rw [e3] at t3
   have h0 := hend0 sec sec1 hlt
   generalize ha0 : (if sec = 1 then 0 else end1 os : Nat) = a0 at t3 h0
   (repeat refine WC.seq ?_)
   refine WC.block ?_
   ((repeat refine WC.seq ?_); refine WC.run ?_)
   (try simp only [wk, wl, wx, reduceLT, reduceEqDiff, Nat.reduceBEq, reduceIte, t0, fa105_0, Nat.zero_add, bkh.at ty38 rfl, Sl.lenB ah.sl ty38 rfl])
   (repeat refine WC.seq ?_)
   refine WC.block ?_
   refine WC.while (fun m fr hj => ∃ ts i, fr = ⟨ts, 210, [], 34, none⟩ ∧ Fix (fun b => b < hh.next ∧ b ≠ stb) hh hj ∧ m = L.length - i ∧ i ≤ L.length ∧ ts.get 0 = some (.ptr kb 0) ∧ ts.get 2 = some (.ptr h.next 0) ∧ ts.get 3 = some (.int .i64 (base + (layE sec (os.take i) a0 : Nat))) ∧ ts.get 4 = some (.int .i64 (sec : Nat)) ∧ ts.get 33 = some (.int .i64 L.length) ∧ ts.get 34 = some (.int .i64 i) ∧ Has hj stb (stC L.length (stF base os sec i))) ?_ ⟨_, 0, rfl, Fix.refl _ _, rfl, by omega, ?_, ?_, ?_, ?_, ?_, ?_, bsh⟩
   ·rintro m fr hj ⟨ts, i, rfl, fj, rfl, hi, t0, t2, t3, t4, t33, t34, bsj⟩
    have xj := fj.next
    have aj := ah.fix fj fun b hb => by omega
    have bkj := bkh.fix fj ⟨by omega, by omega⟩
    have hE := hend sec i a0 sec1 hlt
    ((repeat refine WC.seq ?_); refine WC.run ?_)
    (try simp only [wk, wl, wx, reduceLT, reduceEqDiff, Nat.reduceBEq, reduceIte, t33, t34])
    (repeat refine WC.seq ?_)
    by_cases hli : i < L.length
    ·refine WC.cond (b := true) (by (try simp only [wk, wl, wx, reduceLT, reduceEqDiff, Nat.reduceBEq, reduceIte]); (try simp); (try omega)) (WC.skip ?_)
     (try simp only [wk, wl, wx, reduceLT, reduceEqDiff, Nat.reduceBEq, reduceIte])
     have hup := upN_le (layE sec (os.take i) a0)
     have hst : stO os sec i = upN (layE sec (os.take i) a0) := by unfold stO stA; rw [ha0]
     obtain ⟨lb, ⟨c, els⟩, hlb, aL⟩ := obs_at aj w hli
     have ob := aj.ob _ (List.getElem_mem hli)
     have hoi : os[i]'(by omega) = L[i].2 := by subst hos; simp
     have hsz := hM1 sec sec1 hlt _ (show L[i].2 ∈ os by rw [← hoi]; exact List.getElem_mem _)
     (repeat refine WC.seq ?_)
     refine WC.block ?_
     ((repeat refine WC.seq ?_); refine WC.run ?_)
     (try simp only [wk, wl, wx, reduceLT, reduceEqDiff, Nat.reduceBEq, reduceIte, t34])
     ((repeat refine WC.seq ?_); refine WC.run ?_)
     (try simp only [wk, wl, wx, reduceLT, reduceEqDiff, Nat.reduceBEq, reduceIte, t3])
     refine (up_ok hb (show layE sec (os.take i) a0 < 2 ^ 40 by omega)).mono fun v h4 ⟨e4, f4⟩ => ?_
     subst e4 f4
     (try simp only [wk, wl, wx, reduceLT, reduceEqDiff, Nat.reduceBEq, reduceIte])
     ((repeat refine WC.seq ?_); refine WC.run ?_)
     (try simp only [wk, wl, wx, reduceLT, reduceEqDiff, Nat.reduceBEq, reduceIte, t0, t4, fa105_2, Nat.zero_add, bkj.at ty103 rfl, idx_slice ty103 rfl ty126 hli, idx_arr ty126 rfl ty2 (show sec < 3 by omega), Nat.mul_one])
     have bsj' := bsj
     refine sat_store bsj' ty2 rfl (show i * 3 + sec + 1 ≤ _ by rw [stC_length]; omega) rfl ?_
     intro h5 b5 n5 f5
     have b5 : Has h5 stb (over (stC L.length (stF base os sec i)) (i * 3 + sec) [i64 (base + (stO os sec i : Nat))]) := by rw [hst]; exact b5
     rw [stC_over (by omega), stF_next sec1 hlt] at b5
     have bk5 := bkj.fix f5 (by omega)
     have a5 := aj.fix f5 fun b hb => by omega
     (try simp only [wk, wl, wx, reduceLT, reduceEqDiff, Nat.reduceBEq, reduceIte])
     ((repeat refine WC.seq ?_); refine WC.run ?_)
     (try simp only [wk, wl, wx, reduceLT, reduceEqDiff, Nat.reduceBEq, reduceIte, t0, t4, fa105_0, Nat.zero_add, bk5.at ty38 rfl])
     rw [els]
     (try simp only [wk, wl, wx, reduceLT, reduceEqDiff, Nat.reduceBEq, reduceIte, t4, idx_slice ty38 rfl ty77 hli, Nat.zero_add])
     refine (sizeAt_ok (aL.fix f5 (by omega)) (ob.fix f5 fun b hb => by omega)).mono fun v h6 ⟨e6, f6⟩ => ?_
     subst e6 f6
     rw [szS_len sec1 hlt]
     (try simp only [wk, wl, wx, reduceLT, reduceEqDiff, Nat.reduceBEq, reduceIte, i64, bin_add])
     ((repeat refine WC.seq ?_); refine WC.run ?_)
     (try simp only [wk, wl, wx, reduceLT, reduceEqDiff, Nat.reduceBEq, reduceIte, t34, bin_add])
     refine ⟨_, ?_, _, i + 1, rfl, ⟨by omega, fun b hb => by rw [f5.same b hb.2, fj.same b hb]⟩, rfl, by omega, ?_⟩
     ·omega
     (try simp only [wk, wl, wx, reduceLT, reduceEqDiff, Nat.reduceBEq, reduceIte, t0, t2, t4, t33])
     refine ⟨trivial, trivial, ?_, trivial, trivial, ?_, b5⟩
     ·rw [layE_snoc (by omega), hoi, wrap64 (by omega) (by omega)]
      congr 2
      omega
     ·rw [wrap64 (by omega) (by omega)]; rfl
    ·refine WC.cond (b := false) (by (try simp only [wk, wl, wx, reduceLT, reduceEqDiff, Nat.reduceBEq, reduceIte]); (try simp); (try omega)) (WC.exit ?_)
     have : i = L.length := by omega
     subst this
     have hT : os.take L.length = os := by rw [← hlo, List.take_length]
     rw [hT] at t3 hE
     have bsn : Has hj stb (stC L.length (stF base os (sec + 1) 0)) := by rw [← stC_congr fun m hm => stF_sec hm]; exact bsj
     (try simp only [wk, wl, wx, reduceLT, reduceEqDiff, Nat.reduceBEq, reduceIte])
     ((repeat refine WC.seq ?_); refine WC.run ?_)
     (try simp only [wk, wl, wx, reduceLT, reduceEqDiff, Nat.reduceBEq, reduceIte, t4])
     (repeat refine WC.seq ?_)
     by_cases h1 : sec = 1
     ·subst h1
      simp only [if_true] at ha0
      subst ha0
      have e1 : layE 1 os 0 = end1 os := rfl
      rw [e1] at t3
      have hup := upN_le (end1 os)
      refine WC.cond (b := true) (by (try simp only [wk, wl, wx, reduceLT, reduceEqDiff, Nat.reduceBEq, reduceIte]); (try simp); (try omega)) ?_
      (try simp only [wk, wl, wx, reduceLT, reduceEqDiff, Nat.reduceBEq, reduceIte])
      ((repeat refine WC.seq ?_); refine WC.draw (plans := pl34_14) (by kernel_rfl) ?_; simp only [pl34_14, List.mem_cons, List.not_mem_nil, or_false, forall_eq_or_imp, forall_eq])
      (try simp (maxSteps := 2000000) only [wk, wl, wx, reduceLT, reduceEqDiff, Nat.reduceBEq, reduceIte, wd, Chk, and_true, true_and, t0, t3, fa105_1, Nat.zero_add, bkj.at ty2 rfl, i64])
      refine (up_ok hb (show end1 os < 2 ^ 40 by omega)).mono fun v h4 ⟨e4, f4⟩ => ?_
      subst e4 f4
      (try simp (maxSteps := 2000000) only [wk, wl, wx, reduceLT, reduceEqDiff, Nat.reduceBEq, reduceIte, wd, Chk, and_true, true_and, t0, t3, fa105_1, fa105_5, fa32_2, Nat.zero_add, bkj.at ty2 rfl, i64, bin_sub])
      have ew : IntKind.i64.wrap (base + (upN (end1 os) : Nat) - base) = ((upN (end1 os) : Nat) : Int) := by rw [wrap64 (by omega) (by omega)]; omega
      rw [ew]
      refine sat_store bkj ty2 rfl (show 5 + 2 + 1 ≤ 12 by decide) rfl ?_
      intro h5 b5 n5 f5
      have b5 : Has h5 kb (lkV ls base (.slice stb 0 L.length (.lit L.length)) db sb (im0 (upN (end1 os) : Nat))) := b5
      (try simp (maxSteps := 2000000) only [wk, wl, wx, reduceLT, reduceEqDiff, Nat.reduceBEq, reduceIte, wd, Chk, and_true, true_and])
      ((repeat refine WC.seq ?_); refine WC.run ?_)
      (try simp only [wk, wl, wx, reduceLT, reduceEqDiff, Nat.reduceBEq, reduceIte, t4, bin_add])
      refine ⟨_, ?_, _, 2, rfl, ⟨by omega, fun b hb => by rw [f5.same b hb.2.1, fj.same b ⟨by omega, hb.2.2⟩, ff.same b hb]⟩, rfl, by omega, by omega, ?_⟩
      ·omega
      (try simp only [wk, wl, wx, reduceLT, reduceEqDiff, Nat.reduceBEq, reduceIte, t0, t2, t3])
      exact ⟨trivial, trivial, (by first | trivial | rfl), (by first | trivial | rfl), b5, bsn.fix f5 (by omega)⟩
     ·obtain rfl : sec = 2 := by omega
      have ha0 : end1 os = a0 := by rw [← ha0]; rfl
      subst ha0
      have e1 : layE 2 os (end1 os) = end2 os := rfl
      rw [e1] at t3
      refine WC.cond (b := false) (by (try simp only [wk, wl, wx, reduceLT, reduceEqDiff, Nat.reduceBEq, reduceIte]); (try simp); (try omega)) (WC.skip ?_)
      (try simp only [wk, wl, wx, reduceLT, reduceEqDiff, Nat.reduceBEq, reduceIte])
      ((repeat refine WC.seq ?_); refine WC.run ?_)
      (try simp only [wk, wl, wx, reduceLT, reduceEqDiff, Nat.reduceBEq, reduceIte, t4, bin_add])
      refine ⟨_, ?_, _, 3, rfl, ⟨by omega, fun b hb => by rw [fj.same b ⟨by omega, hb.2.2⟩, ff.same b hb]⟩, rfl, by omega, by omega, ?_⟩
      ·omega
      (try simp only [wk, wl, wx, reduceLT, reduceEqDiff, Nat.reduceBEq, reduceIte, t0, t2, t3])
      exact ⟨trivial, trivial, (by first | trivial | rfl), (by first | trivial | rfl), bkj, bsn⟩
   all_goals (try simp only [wk, wl, wx, reduceLT, reduceEqDiff, Nat.reduceBEq, reduceIte, t0, t2, t3, t4])
   all_goals simp [layE]
  ·refine WC.cond (b := false) (by (try simp only [wk, wl, wx, reduceLT, reduceEqDiff, Nat.reduceBEq, reduceIte]); (try simp); (try omega)) (WC.exit ?_)
   obtain rfl : sec = 3 := by omega
   have t3 : ts.get 3 = some (.int .i64 (base + (end2 os : Nat))) := t3
   have bkh : Has hh kb (lkV ls base (.slice stb 0 L.length (.lit L.length)) db sb (im0 (upN (end1 os) : Nat))) := bkh
   have bsh : Has hh stb (stC L.length (stG base os)) := bsh
   have hup := upN_le (end2 os)
   (try simp only [wk, wl, wx, reduceLT, reduceEqDiff, Nat.reduceBEq, reduceIte])
   ((repeat refine WC.seq ?_); refine WC.run ?_)
   (try simp only [wk, wl, wx, reduceLT, reduceEqDiff, Nat.reduceBEq, reduceIte, t3])
   refine (up_ok hb (show end2 os < 2 ^ 40 by omega)).mono fun v h4 ⟨e4, f4⟩ => ?_
   subst e4
   have f4 := f4.symm
   subst f4
   have htab : base + (upN (end2 os) : Nat) = base + (tabA os : Nat) := rfl
   rw [htab]
   have htl : tabA os ≤ 41 * 16400 := by unfold tabA; omega
   generalize htabA : tabA os = T at *
   have F0 : Fix (fun b => b < h3.next ∧ b ≠ kb ∧ b ≠ stb) h3 hh := ff
   have FL : Fix (fun b => b < h.next ∧ b ≠ kb) h hh := ⟨by omega, fun b hb => by rw [ff.same b ⟨by omega, hb.2, by omega⟩, F3.same b ⟨by omega, hb.2⟩, f1.same b hb.1]⟩
   have md4 : Mq hh db (mv dV D) := md.fix FL ⟨hdb, fun e => kd e.symm⟩
   have ms4 : Mq hh sb (mv i64 S) := ms.fix FL ⟨hsb, fun e => ks e.symm⟩
   have br4 : Has hh h.next (faultV (0, 0)) := (b1.fix F3 ⟨by omega, by omega⟩).fix ff ⟨by omega, by omega, by omega⟩
   (try simp only [wk, wl, wx, reduceLT, reduceEqDiff, Nat.reduceBEq, reduceIte])
   ((repeat refine WC.seq ?_); refine WC.run ?_)
   (try simp only [wk, wl, wx, reduceLT, reduceEqDiff, Nat.reduceBEq, reduceIte, t0, fa105_4, Nat.zero_add, bkh.at ty102 rfl])
   refine (keys88_ok).mono fun v h5 ⟨e5, b5, n5, f5⟩ => ?_
   subst e5
   (try simp only [wk, wl, wx, reduceLT, reduceEqDiff, Nat.reduceBEq, reduceIte])
   refine (sorted_ok (.inl rfl) b5 (ms4.fix f5 (by omega)) nS (by omega) (fun p hp => by have := kS p hp; omega)).mono fun v h6 ⟨bf6, in6, f6⟩ => ?_
   have x6 := f6.next
   have ss6 := sl_strs bf6 (sortS_len S)
   have F6 : Kept hh h6 := ⟨by omega, fun b hb => by rw [f6.same b (by omega), f5.same b hb]⟩
   have bk6 := bkh.fix F6 (by omega)
   have bs6 := bsh.fix F6 (by omega)
   have md6 := md4.fix F6 (by omega)
   have ms6 := ms4.fix F6 (by omega)
   have br6 := br4.fix F6 (by omega)
   have a6 := ah.fix F6 fun b hb => by omega
   have hlK := sortS_len S
   generalize hK : sortS (S.map (·.1)) = K at *
   (try simp only [wk, wl, wx, reduceLT, reduceEqDiff, Nat.reduceBEq, reduceIte, Sl.lenB ss6 ty30 rfl])
   (repeat refine WC.seq ?_)
   refine WC.block ?_
   refine WC.while (fun m fr hj => ∃ ts j S2, fr = ⟨ts, 210, [], 34, none⟩ ∧ Fix (fun b => b < h6.next ∧ b ≠ sb) h6 hj ∧ m = K.length - j ∧ j ≤ K.length ∧ ts.get 0 = some (.ptr kb 0) ∧ ts.get 2 = some (.ptr h.next 0) ∧ ts.get 3 = some (.int .i64 (base + (T : Nat) + 8 * (j : Nat))) ∧ ts.get 79 = some v ∧ ts.get 80 = some (.int .i64 K.length) ∧ ts.get 81 = some (.int .i64 j) ∧ Mq hj sb (mv i64 S2) ∧ slotsAt (base + (T : Nat) + 8 * (j : Nat)) (K.drop j) S2 = slotsAt (base + (T : Nat)) K S) ?_ ⟨_, 0, S, rfl, Fix.refl _ _, rfl, by omega, ?_, ?_, ?_, ?_, ?_, ?_, ms6, by simp⟩
   ·rintro m fr hj ⟨ts, j, S2, rfl, fj, rfl, hjl, t0, t2, t3, t79, t80, t81, mj, hS⟩
    have xj := fj.next
    have bkj := bk6.fix fj ⟨by omega, by omega⟩
    have ssj : Ss g hj v K := Sl.fix ss6 (in6.sub fun b hb => ⟨hb.2, by omega⟩) fj
    ((repeat refine WC.seq ?_); refine WC.run ?_)
    (try simp only [wk, wl, wx, reduceLT, reduceEqDiff, Nat.reduceBEq, reduceIte, t80, t81])
    (repeat refine WC.seq ?_)
    by_cases hlj : j < K.length
    ·refine WC.cond (b := true) (by (try simp only [wk, wl, wx, reduceLT, reduceEqDiff, Nat.reduceBEq, reduceIte]); (try simp); (try omega)) (WC.skip ?_)
     (try simp only [wk, wl, wx, reduceLT, reduceEqDiff, Nat.reduceBEq, reduceIte])
     obtain ⟨p, p1, p2⟩ := ssj.at ty30 rfl ty9 rfl rfl hlj
     have p2 := p2 hj fun _ _ _ _ _ => rfl
     rw [drop_cons hlj] at hS
     simp only [slotsAt] at hS
     (repeat refine WC.seq ?_)
     refine WC.block ?_
     ((repeat refine WC.seq ?_); refine WC.run ?_)
     (try simp only [wk, wl, wx, reduceLT, reduceEqDiff, Nat.reduceBEq, reduceIte, t79, t81, p1, p2])
     ((repeat refine WC.seq ?_); refine WC.run ?_)
     (try simp only [wk, wl, wx, reduceLT, reduceEqDiff, Nat.reduceBEq, reduceIte, t0, t3, fa105_4, Nat.zero_add, bkj.at ty102 rfl, w_mapUpdate])
     have e64 : (V.int .i64 (base + (T : Nat) + 8 * (j : Nat))) = i64 (base + (T : Nat) + 8 * (j : Nat)) := rfl
     rw [e64]
     refine sat_updateQ mj ty102 rfl ty9 rfl ty2 ?_
     intro hu mu nu fu
     rw [ins_mv] at mu
     (try simp only [wk, wl, wx, reduceLT, reduceEqDiff, Nat.reduceBEq, reduceIte])
     ((repeat refine WC.seq ?_); refine WC.run ?_)
     (try simp only [wk, wl, wx, reduceLT, reduceEqDiff, Nat.reduceBEq, reduceIte, t3, bin_add])
     ((repeat refine WC.seq ?_); refine WC.run ?_)
     (try simp only [wk, wl, wx, reduceLT, reduceEqDiff, Nat.reduceBEq, reduceIte, t81, bin_add])
     refine ⟨_, ?_, _, j + 1, ia K[j] (base + (T : Nat) + 8 * (j : Nat)) S2, rfl, ⟨by omega, fun b hb => by rw [fu.same b hb.2, fj.same b hb]⟩, rfl, by omega, ?_⟩
     ·omega
     (try simp only [wk, wl, wx, reduceLT, reduceEqDiff, Nat.reduceBEq, reduceIte, t0, t2, t79, t80])
     refine ⟨trivial, trivial, ?_, trivial, trivial, ?_, mu, ?_⟩
     ·rw [wrap64 (by omega) (by omega)]
      congr 2
      omega
     ·rw [wrap64 (by omega) (by omega)]; rfl
     ·rw [← hS]
      congr 1
      omega
    ·refine WC.cond (b := false) (by (try simp only [wk, wl, wx, reduceLT, reduceEqDiff, Nat.reduceBEq, reduceIte]); (try simp); (try omega)) (WC.exit ?_)
     have : j = K.length := by omega
     subst this
     rw [List.drop_length] at hS
     simp only [slotsAt] at hS
     have F7 : Fix (fun b => b < h6.next ∧ b ≠ sb) h6 hj := fj
     have md7 := md6.fix fj ⟨by omega, ds⟩
     have bs7 := bs6.fix fj ⟨by omega, by omega⟩
     have br7 := br6.fix fj ⟨by omega, by omega⟩
     have a7 := a6.fix fj fun b hb => ⟨by omega, by omega⟩
     have hsz : sizeL os S = T + 8 * S.length := by unfold sizeL; rw [htabA]
     have e1 : IntKind.i64.wrap (base + (T : Nat) + 8 * (K.length : Nat) - base) = ((sizeL os S : Nat) : Int) := by
      rw [wrap64 (by omega) (by omega), hsz]; omega
     have F7h : Fix (fun b => b < h.next ∧ b ≠ kb ∧ b ≠ sb) h hj := ⟨by omega, fun b hb => by rw [fj.same b ⟨by omega, hb.2.2⟩, F6.same b (by omega), FL.same b ⟨hb.1, hb.2.1⟩]⟩
     generalize hN : sizeL os S = N at *
     have hN' : N ≤ 2 ^ 30 := by omega
     (try simp only [wk, wl, wx, reduceLT, reduceEqDiff, Nat.reduceBEq, reduceIte, nb4])
     ((repeat refine WC.seq ?_); refine WC.run ?_)
     (try simp only [wk, wl, wx, reduceLT, reduceEqDiff, Nat.reduceBEq, reduceIte, t0, t3, fa105_1, Nat.zero_add, bkj.at ty2 rfl, i64, bin_sub, e1])
     (repeat refine WC.seq ?_)
     by_cases hbig : 131072 < N
     ·refine WC.cond (b := true) (by (try simp only [wk, wl, wx, reduceLT, reduceEqDiff, Nat.reduceBEq, reduceIte]); (try simp); (try omega)) ?_
      (try simp only [wk, wl, wx, reduceLT, reduceEqDiff, Nat.reduceBEq, reduceIte])
      ((repeat refine WC.seq ?_); refine WC.run ?_)
      (try simp only [wk, wl, wx, reduceLT, reduceEqDiff, Nat.reduceBEq, reduceIte])
      refine (bad_ok).mono fun v hb2 ⟨eb, fb⟩ => ?_
      subst eb
      have xb := fb.next
      (try simp only [wk, wl, wx, reduceLT, reduceEqDiff, Nat.reduceBEq, reduceIte, t2])
      refine sat_store (br7.fix fb (by omega)) ty35 rfl (Nat.le_refl 2) (fault_one _) ?_
      intro hc bc nc fc
      have lc : loadP (E g) hc 35 (.ptr h.next 0) = some (.agg (faultV (0, 18))) := bc.agg ty35 rfl (Nat.le_refl 2)
      (try simp only [wk, wl, wx, reduceLT, reduceEqDiff, Nat.reduceBEq, reduceIte])
      refine WC.ret ?_
      (try simp only [wk, wl, wx, reduceLT, reduceEqDiff, Nat.reduceBEq, reduceIte, t2, lc])
      exact ⟨⟨by omega, fun b hb => by rw [fc.same b (by omega), fb.same b (by omega), F7h.same b ⟨hb.1, hb.2.1, hb.2.2.2⟩]⟩, by rw [if_pos hbig]; trivial⟩
     ·refine WC.cond (b := false) (by (try simp only [wk, wl, wx, reduceLT, reduceEqDiff, Nat.reduceBEq, reduceIte]); (try simp); (try omega)) (WC.skip ?_)
      (try simp only [wk, wl, wx, reduceLT, reduceEqDiff, Nat.reduceBEq, reduceIte])
      refine WC.seq (WC.mono (Q := fun e fr h9 => e = .normal ∧ ∃ ts, fr = ⟨ts, 210, [], 34, none⟩ ∧ ts.get 0 = some (.ptr kb 0) ∧ ts.get 2 = some (.ptr h.next 0) ∧ hj.next < h9.next ∧ Fix (fun b => b < hj.next ∧ b ≠ kb) hj h9 ∧ Has h9 kb (lkV ls base (.slice stb 0 L.length (.lit L.length)) db sb [i64 base, .slice hj.next 0 N (.lit N), i64 (upN (end1 os) : Nat), i64 0, .nils, .nils, .nils]) ∧ Has h9 hj.next ((List.replicate N (0 : UInt8)).map u8)) ?_ ?_)
      ·have e8 : List.replicate N (V.int .u8 0) = (List.replicate N (0 : UInt8)).map u8 := by rw [List.map_replicate]; rfl
       ((repeat refine WC.seq ?_); refine WC.draw (plans := pl34_24) (by kernel_rfl) ?_; simp only [pl34_24, List.mem_cons, List.not_mem_nil, or_false, forall_eq_or_imp, forall_eq])
       refine ⟨?_, ?_⟩
       ·(try simp (maxSteps := 2000000) only [wk, wl, wx, reduceLT, reduceEqDiff, Nat.reduceBEq, reduceIte, wd, Chk, and_true, true_and, t0, t3, fa105_1, fa105_5, fa32_0, fa32_1, Nat.zero_add, bkj.at ty2 rfl, i64, bin_sub, e1, w_makeSlice])
        refine sat_makeSlice (s := 1) (v := .int .u8 0) (n := N) ty27 rfl ty5 rfl rfl (by decide) (show 1 * N ≤ 281474976710656 by omega) (by omega) ?_
        intro h8 b8 n8 f8
        rw [Nat.mul_one, e8] at b8
        have bk8 := bkj.fix f8 (by omega)
        (try simp (maxSteps := 2000000) only [wk, wl, wx, reduceLT, reduceEqDiff, Nat.reduceBEq, reduceIte, wd, Chk, and_true, true_and, t0, t3, fa105_1, fa105_5, fa32_0, fa32_1, Nat.zero_add, bk8.at ty2 rfl, i64, bin_sub, e1])
        refine sat_store bk8 ty2 rfl (show 5 + 1 ≤ 12 by decide) rfl ?_
        intro h9 b9 n9 f9
        have b9 : Has h9 kb (lkV ls base (.slice stb 0 L.length (.lit L.length)) db sb [i64 base, .nils, i64 (upN (end1 os) : Nat), i64 0, .nils, .nils, .nils]) := b9
        (try simp (maxSteps := 2000000) only [wk, wl, wx, reduceLT, reduceEqDiff, Nat.reduceBEq, reduceIte, wd, Chk, and_true, true_and, t0, t3, fa105_1, fa105_5, fa32_0, fa32_1, Nat.zero_add, b9.at ty2 rfl, i64, bin_sub, e1])
        refine sat_store b9 ty27 rfl (show 5 + 1 + 1 ≤ 12 by decide) rfl ?_
        intro h10 b10 n10 f10
        have b10 : Has h10 kb (lkV ls base (.slice stb 0 L.length (.lit L.length)) db sb [i64 base, .slice hj.next 0 N (.lit N), i64 (upN (end1 os) : Nat), i64 0, .nils, .nils, .nils]) := b10
        (try simp (maxSteps := 2000000) only [wk, wl, wx, reduceLT, reduceEqDiff, Nat.reduceBEq, reduceIte, wd, Chk, and_true, true_and, t0, t3, fa105_1, fa105_5, fa32_0, fa32_1, Nat.zero_add, b10.at ty2 rfl, i64, bin_sub, e1])
        refine ⟨_, rfl, ?_, ?_, by omega, ⟨by omega, fun b hb => by rw [f10.same b hb.2, f9.same b hb.2, f8.same b hb.1]⟩, b10, (b8.fix f9 (by omega)).fix f10 (by omega)⟩
        all_goals (try simp only [wk, wl, wx, reduceLT, reduceEqDiff, Nat.reduceBEq, reduceIte, t0, t2])
       ·(try simp (maxSteps := 2000000) only [wk, wl, wx, reduceLT, reduceEqDiff, Nat.reduceBEq, reduceIte, wd, Chk, and_true, true_and, t0, t3, fa105_1, fa105_5, fa32_0, fa32_1, Nat.zero_add, bkj.at ty2 rfl, i64, bin_sub, e1, w_makeSlice])
        refine sat_store bkj ty2 rfl (show 5 + 1 ≤ 12 by decide) rfl ?_
        intro h9 b9 n9 f9
        have b9 : Has h9 kb (lkV ls base (.slice stb 0 L.length (.lit L.length)) db sb [i64 base, .nils, i64 (upN (end1 os) : Nat), i64 0, .nils, .nils, .nils]) := b9
        (try simp (maxSteps := 2000000) only [wk, wl, wx, reduceLT, reduceEqDiff, Nat.reduceBEq, reduceIte, wd, Chk, and_true, true_and, t0, t3, fa105_1, fa105_5, fa32_0, fa32_1, Nat.zero_add, b9.at ty2 rfl, i64, bin_sub, e1, w_makeSlice])
        refine sat_makeSlice (s := 1) (v := .int .u8 0) (n := N) ty27 rfl ty5 rfl rfl (by decide) (show 1 * N ≤ 281474976710656 by omega) (by omega) ?_
        intro h8 b8 n8 f8
        rw [Nat.mul_one, e8] at b8
        have bk8 := b9.fix f8 (by omega)
        (try simp (maxSteps := 2000000) only [wk, wl, wx, reduceLT, reduceEqDiff, Nat.reduceBEq, reduceIte, wd, Chk, and_true, true_and, t0, t3, fa105_1, fa105_5, fa32_0, fa32_1, Nat.zero_add, bk8.at ty2 rfl, i64, bin_sub, e1])
        refine sat_store bk8 ty27 rfl (show 5 + 1 + 1 ≤ 12 by decide) rfl ?_
        intro h10 b10 n10 f10
        rw [n9] at b10 b8
        have b10 : Has h10 kb (lkV ls base (.slice stb 0 L.length (.lit L.length)) db sb [i64 base, .slice hj.next 0 N (.lit N), i64 (upN (end1 os) : Nat), i64 0, .nils, .nils, .nils]) := b10
        (try simp (maxSteps := 2000000) only [wk, wl, wx, reduceLT, reduceEqDiff, Nat.reduceBEq, reduceIte, wd, Chk, and_true, true_and, t0, t3, fa105_1, fa105_5, fa32_0, fa32_1, Nat.zero_add, b10.at ty2 rfl, i64, bin_sub, e1])
        refine ⟨_, rfl, ?_, ?_, by omega, ⟨by omega, fun b hb => by rw [f10.same b hb.2, f8.same b (by omega), f9.same b hb.2]⟩, b10, b8.fix f10 (by omega)⟩
        all_goals (try simp only [wk, wl, wx, reduceLT, reduceEqDiff, Nat.reduceBEq, reduceIte, t0, t2])
      rintro e fr h9 ⟨rfl, ts, rfl, t0, t2, x9, F9, bk9, bb9⟩
      have bb9 := bb9.at0
      have hbbn : hj.next < h9.next := x9
      generalize hbb : hj.next = bb at *
      have md9 := md7.fix F9 ⟨by omega, fun e => kd e.symm⟩
      have ms9 := mj.fix F9 ⟨by omega, fun e => ks e.symm⟩
      have bs9 := bs7.fix F9 ⟨by omega, by omega⟩
      have br9 := br7.fix F9 ⟨by omega, by omega⟩
      have a9 := a7.fix F9 fun b hb => ⟨by omega, by omega⟩
      (try simp only [wk, wl, wx, reduceLT, reduceEqDiff, Nat.reduceBEq, reduceIte])
      ((repeat refine WC.seq ?_); refine WC.run ?_)
      (try simp only [wk, wl, wx, reduceLT, reduceEqDiff, Nat.reduceBEq, reduceIte, t0, fa105_0, Nat.zero_add, bk9.at ty38 rfl, Sl.lenB a9.sl ty38 rfl])
      (repeat refine WC.seq ?_)
      refine WC.block ?_
      refine WC.while (fun m fr hi => ∃ ts i bs, fr = ⟨ts, 210, [], 34, none⟩ ∧ Fix (fun b => b < h9.next ∧ b ≠ bb) h9 hi ∧ m = L.length - i ∧ i ≤ L.length ∧ ts.get 0 = some (.ptr kb 0) ∧ ts.get 2 = some (.ptr h.next 0) ∧ ts.get 124 = some ls ∧ ts.get 125 = some (.int .i64 L.length) ∧ ts.get 126 = some (.int .i64 i) ∧ At hi bb 0 (bs.map u8) ∧ bs.length = N ∧ layB os i (os.drop i) bs = layB os 0 os (List.replicate N 0)) ?_ ⟨_, 0, _, rfl, Fix.refl _ _, rfl, by omega, ?_, ?_, ?_, ?_, ?_, bb9, by simp, rfl⟩
      ·rintro m fr hi ⟨ts, i, bs, rfl, fi, rfl, hil, t0, t2, t124, t125, t126, bbi, lbs, hB⟩
       have xi := fi.next
       have bki := bk9.fix fi ⟨by omega, by omega⟩
       have bsi := bs9.fix fi ⟨by omega, by omega⟩
       have ai := a9.fix fi fun b hb => ⟨by omega, by omega⟩
       ((repeat refine WC.seq ?_); refine WC.run ?_)
       (try simp only [wk, wl, wx, reduceLT, reduceEqDiff, Nat.reduceBEq, reduceIte, t125, t126])
       (repeat refine WC.seq ?_)
       by_cases hli : i < L.length
       ·refine WC.cond (b := true) (by (try simp only [wk, wl, wx, reduceLT, reduceEqDiff, Nat.reduceBEq, reduceIte]); (try simp); (try omega)) (WC.skip ?_)
        (try simp only [wk, wl, wx, reduceLT, reduceEqDiff, Nat.reduceBEq, reduceIte])
        obtain ⟨p, p1, p2⟩ := ai.sl.at (fun _ => rfl) ty38 rfl ty77 rfl (by decide) rfl hli
        have p2 := p2 hi fun _ _ _ _ _ => rfl
        have obi := ai.ob _ (List.getElem_mem hli)
        have hoi : os[i]'(by omega) = L[i].2 := by subst hos; simp
        have q1 := stO1_end (os := os) (i := i) (by omega)
        have q2 := stO2_end (os := os) (i := i) (by omega)
        rw [hoi, htabA] at q1 q2
        rw [drop_cons (by omega), hoi] at hB
        simp only [layB] at hB
        (repeat refine WC.seq ?_)
        refine WC.block ?_
        ((repeat refine WC.seq ?_); refine WC.run ?_)
        (try simp only [wk, wl, wx, reduceLT, reduceEqDiff, Nat.reduceBEq, reduceIte, t124, t126, p1, p2])
        refine wop_alloc ty77 ?_
        intro h11 b11 n11 f11
        (try simp only [wk, wl, wx, reduceLT, reduceEqDiff, Nat.reduceBEq, reduceIte])
        refine sat_store b11 ty77 rfl (Nat.le_refl 7) (Oc.one obi) ?_
        intro h12 b12 n12 f12
        have b12 : Has h12 hi.next [.str L[i].2.name, L[i].1.code, L[i].1.data, L[i].1.syms, L[i].1.rels, L[i].1.needs, .str L[i].2.entry] := b12
        have F12 : Kept hi h12 := ⟨by omega, fun b hb => by rw [f12.same b (by omega), f11.same b hb]⟩
        have ob12 := obi.fix F12 fun b hb => by omega
        have bk12 := bki.fix F12 (by omega)
        have bs12 := bsi.fix F12 (by omega)
        have bb12 := bbi.fix F12 (by omega)
        have s1 := bs12.at (E := E g) ty2 rfl (i * 3 + 1)
        rw [stC_get (by omega), stG_at (by omega) (by omega)] at s1
        have s2 := bs12.at (E := E g) ty2 rfl (i * 3 + 2)
        rw [stC_get (by omega), stG_at (by omega) (by omega)] at s2
        have w1 : IntKind.i64.wrap (base + (stO os 1 i : Nat) - base) = ((stO os 1 i : Nat) : Int) := by rw [wrap64 (by omega) (by omega)]; omega
        have w2 : IntKind.i64.wrap (base + (stO os 2 i : Nat) - base) = ((stO os 2 i : Nat) : Int) := by rw [wrap64 (by omega) (by omega)]; omega
        obtain ⟨o1, c1, sl1, so1⟩ := slice_le (g := g) (b := bb) (n := N) (k := .i64) ty27 rfl ty5 rfl (show stO os 1 i ≤ N by omega)
        obtain ⟨o2, c2, sl2, so2⟩ := slice_le (g := g) (b := bb) (n := N) (k := .i64) ty27 rfl ty5 rfl (show stO os 2 i ≤ N by omega)
        have ix1 : indexAddrV (E g) 126 (.ptr stb (i * 3)) (.int .i64 1) = some (.ptr stb (i * 3 + 1)) := by have := idx_arr (g := g) (b := stb) (o := i * 3) (k := 1) (ik := .i64) ty126 rfl ty2 (by decide); simpa using this
        have ix2 : indexAddrV (E g) 126 (.ptr stb (i * 3)) (.int .i64 2) = some (.ptr stb (i * 3 + 2)) := by have := idx_arr (g := g) (b := stb) (o := i * 3) (k := 2) (ik := .i64) ty126 rfl ty2 (by decide); simpa using this
        (try simp only [wk, wl, wx, reduceLT, reduceEqDiff, Nat.reduceBEq, reduceIte])
        ((repeat refine WC.seq ?_); refine WC.draw (plans := pl34_28) (by kernel_rfl) ?_; simp only [pl34_28, List.mem_cons, List.not_mem_nil, or_false, forall_eq_or_imp, forall_eq])
        (try simp (maxSteps := 2000000) only [wk, wl, wx, reduceLT, reduceEqDiff, Nat.reduceBEq, reduceIte, wd, Chk, and_true, true_and, t0, t126, fa105_1, fa105_2, fa105_5, fa32_1, fa77_1, Nat.zero_add, bk12.at ty2 rfl, bk12.at ty27 rfl, bk12.at ty103 rfl, b12.at ty27 rfl, idx_slice ty103 rfl ty126 hli, ix1, s1, i64, bin_sub, w1, sl1])
        refine sat_lay bb12 (by omega) lbs so1 ob12.code ?_
        intro v13 h13 a13 n13 f13
        have bk13 := bk12.fix f13 (by omega)
        have bs13 := bs12.fix f13 (by omega)
        have b13 := b12.fix f13 (by omega)
        have ob13 := ob12.fix f13 fun b hb => by omega
        have s1' := bs13.at (E := E g) ty2 rfl (i * 3 + 1)
        rw [stC_get (by omega), stG_at (by omega) (by omega)] at s1'
        have s2' := bs13.at (E := E g) ty2 rfl (i * 3 + 2)
        rw [stC_get (by omega), stG_at (by omega) (by omega)] at s2'
        have l13 : (putAt bs (stO os 1 i) L[i].2.code).length = N := by rw [putAt_length (by omega), lbs]
        (try simp (maxSteps := 2000000) only [wk, wl, wx, reduceLT, reduceEqDiff, Nat.reduceBEq, reduceIte, wd, Chk, and_true, true_and, t0, t126, fa105_1, fa105_2, fa105_5, fa32_1, fa77_1, Nat.zero_add, bk13.at ty2 rfl, bk13.at ty27 rfl, bk13.at ty103 rfl, b13.at ty27 rfl, idx_slice ty103 rfl ty126 hli, ix1, s1', i64, bin_sub, w1])
        ((repeat refine WC.seq ?_); refine WC.draw (plans := pl34_29) (by kernel_rfl) ?_; simp only [pl34_29, List.mem_cons, List.not_mem_nil, or_false, forall_eq_or_imp, forall_eq])
        (try simp (maxSteps := 2000000) only [wk, wl, wx, reduceLT, reduceEqDiff, Nat.reduceBEq, reduceIte, wd, Chk, and_true, true_and, t0, t126, fa105_1, fa105_2, fa105_5, fa32_1, fa77_2, Nat.zero_add, bk13.at ty2 rfl, bk13.at ty27 rfl, bk13.at ty103 rfl, b13.at ty27 rfl, idx_slice ty103 rfl ty126 hli, ix2, s2', i64, bin_sub, w2, sl2])
        refine sat_lay a13 (by omega) l13 so2 ob13.data ?_
        intro v14 h14 a14 n14 f14
        have l14 : (putAt (putAt bs (stO os 1 i) L[i].2.code) (stO os 2 i) L[i].2.data).length = N := by rw [putAt_length (by omega), l13]
        have bk14 := bk13.fix f14 (by omega)
        have bs14 := bs13.fix f14 (by omega)
        have b14 := b13.fix f14 (by omega)
        have s2'' := bs14.at (E := E g) ty2 rfl (i * 3 + 2)
        rw [stC_get (by omega), stG_at (by omega) (by omega)] at s2''
        (try simp (maxSteps := 2000000) only [wk, wl, wx, reduceLT, reduceEqDiff, Nat.reduceBEq, reduceIte, wd, Chk, and_true, true_and, t0, t126, fa105_1, fa105_2, fa105_5, fa32_1, fa77_2, Nat.zero_add, bk14.at ty2 rfl, bk14.at ty27 rfl, bk14.at ty103 rfl, b14.at ty27 rfl, idx_slice ty103 rfl ty126 hli, ix2, s2'', i64, bin_sub, w2])
        ((repeat refine WC.seq ?_); refine WC.run ?_)
        (try simp only [wk, wl, wx, reduceLT, reduceEqDiff, Nat.reduceBEq, reduceIte, t126, bin_add])
        refine ⟨_, ?_, _, i + 1, _, rfl, ⟨by omega, fun b hb => by rw [f14.same b hb.2, f13.same b hb.2, F12.same b (by omega), fi.same b hb]⟩, rfl, by omega, ?_, ?_, ?_, ?_, ?_, a14, l14, hB⟩
        ·omega
        all_goals (try simp only [wk, wl, wx, reduceLT, reduceEqDiff, Nat.reduceBEq, reduceIte, t0, t2, t124, t125])
        rw [wrap64 (by omega) (by omega)]; rfl
       ·refine WC.cond (b := false) (by (try simp only [wk, wl, wx, reduceLT, reduceEqDiff, Nat.reduceBEq, reduceIte]); (try simp); (try omega)) (WC.exit ?_)
        have : i = L.length := by omega
        subst this
        rw [List.drop_eq_nil_of_le (by omega)] at hB
        simp only [layB] at hB
        subst hB
        have mdi := md9.fix fi ⟨by omega, by omega⟩
        have msi := ms9.fix fi ⟨by omega, by omega⟩
        have bri := br9.fix fi ⟨by omega, by omega⟩
        (try simp only [wk, wl, wx, reduceLT, reduceEqDiff, Nat.reduceBEq, reduceIte, nb6])
        ((repeat refine WC.seq ?_); refine WC.run ?_)
        (try simp only [wk, wl, wx, reduceLT, reduceEqDiff, Nat.reduceBEq, reduceIte, t0, fa105_3, Nat.zero_add, bki.at ty101 rfl, w_range])
        have mdu : Mq hi db (mv dV (updA (addrG base os) [] D)) := by rw [updA_nil]; exact mdi
        refine sat_range mdu ty101 rfl ?_
        intro h15 it15 n15 f15
        have hlu : ∀ seen, (mv dV (updA (addrG base os) seen D)).length = D.length := fun seen => by rw [mv_length, updA_length]
        rw [hlu] at it15
        (try simp only [wk, wl, wx, reduceLT, reduceEqDiff, Nat.reduceBEq, reduceIte])
        (repeat refine WC.seq ?_)
        refine WC.block ?_
        refine WC.while (fun m fr hq => ∃ ts seen, fr = ⟨ts, 210, [], 34, none⟩ ∧ Fix (fun b => b < h15.next ∧ b ≠ hi.next ∧ b ≠ db) h15 hq ∧ m = unseen D.length seen ∧ ts.get 0 = some (.ptr kb 0) ∧ ts.get 2 = some (.ptr h.next 0) ∧ ts.get 180 = some (.ptr hi.next 0) ∧ Itr hq hi.next db D.length seen ∧ Mq hq db (mv dV (updA (addrG base os) seen D))) ?_ ⟨_, [], rfl, Fix.refl _ _, rfl, ?_, ?_, ?_, it15, mdu.fix f15 (by omega)⟩
        ·rintro m fr hq ⟨ts, seen, rfl, fq, rfl, t0, t2, t180, itq, mq⟩
         have xq := fq.next
         have Fq : Fix (fun b => b < hi.next ∧ b ≠ db) hi hq := ⟨by omega, fun b hb => by rw [fq.same b ⟨by omega, by omega, hb.2⟩, f15.same b hb.1]⟩
         have bkq := bki.fix Fq ⟨by omega, kd⟩
         have bsq := bsi.fix Fq ⟨by omega, by omega⟩
         have itq' : Itr hq hi.next db (mv dV (updA (addrG base os) seen D)).length seen := by rw [hlu]; exact itq
         ((repeat refine WC.seq ?_); refine WC.run ?_)
         (try simp only [wk, wl, wx, reduceLT, reduceEqDiff, Nat.reduceBEq, reduceIte, t180, w_next, nextR])
         refine sat_next itq' mq (fun j hjl hjs h16 it16 n16 f16 => ?_) (fun hall => ?_)
         ·have hjl := hjl
          rw [hlu] at hjl it16
          (try simp only [wk, wl, wx, reduceLT, reduceEqDiff, Nat.reduceBEq, reduceIte])
          (repeat refine WC.seq ?_)
          refine WC.cond (b := true) (by (try simp only [wk, wl, wx, reduceLT, reduceEqDiff, Nat.reduceBEq, reduceIte]); (try simp); (try omega)) (WC.skip ?_)
          (try simp only [wk, wl, wx, reduceLT, reduceEqDiff, Nat.reduceBEq, reduceIte])
          have m16 := mq.fix f16 (by omega)
          have it16' : Itr h16 hi.next db (mv dV (updA (addrG base os) seen D)).length (seen ++ [j]) := by rw [hlu]; exact it16
          have hj2 : j < (mv dV (updA (addrG base os) seen D)).length := by rw [hlu]; exact hjl
          have ent := entry_ok it16' m16 hj2
          have eG : (mv dV (updA (addrG base os) seen D))[j] = (D[j].1, dV D[j].2) := by
           have := updA_at (addrG base os) hjl hjs
           simp only [mv, List.getElem_map, this]
          rw [eG] at ent
          have gG := gD _ (List.getElem_mem hjl)
          generalize hG : D[j].2 = G at ent gG
          obtain ⟨gobj, gs1, gs2, go1, go2⟩ := gG
          have bk16 := bkq.fix f16 (by omega)
          have bs16 := bsq.fix f16 (by omega)
          (repeat refine WC.seq ?_)
          refine WC.block ?_
          ((repeat refine WC.seq ?_); refine WC.run ?_)
          (try simp only [wk, wl, wx, reduceLT, reduceEqDiff, Nat.reduceBEq, reduceIte, t180, w_entry, ent, dV])
          refine wop_alloc ty174 ?_
          intro h17 b17 n17 f17
          (try simp only [wk, wl, wx, reduceLT, reduceEqDiff, Nat.reduceBEq, reduceIte])
          refine sat_store b17 ty174 rfl (Nat.le_refl 8) (glV_one G) ?_
          intro h18 b18 n18 f18
          have c18 : Has h18 h16.next (glV G) := b18
          have b18 : Has h18 h16.next [i64 G.addr, .bool G.weak, i64 (G.obj : Int), .str G.sym.name, i64 G.sym.sec, i64 G.sym.off, .bool G.sym.glob, .bool G.sym.weak] := b18
          have F18 : Kept h16 h18 := ⟨by omega, fun b hb => by rw [f18.same b (by omega), f17.same b hb]⟩
          have bk18 := bk16.fix F18 (by omega)
          have bs18 := bs16.fix F18 (by omega)
          have m18 := m16.fix F18 (by omega)
          obtain ⟨sec, hsec⟩ : ∃ sec : Nat, G.sym.sec = (sec : Int) := ⟨G.sym.sec.toNat, by omega⟩
          have s3 := bs18.at (E := E g) ty2 rfl (G.obj * 3 + sec)
          rw [stC_get (by omega), stG_at (by omega) (by omega)] at s3
          have ix3 : indexAddrV (E g) 126 (.ptr stb (G.obj * 3)) (.int .i64 sec) = some (.ptr stb (G.obj * 3 + sec)) := by have := idx_arr (g := g) (b := stb) (o := G.obj * 3) (k := sec) (ik := .i64) ty126 rfl ty2 (show sec < 3 by omega); simpa using this
          have hst : stO os sec G.obj ≤ 41 * 16400 := by
           have := stO_le (os := os) (sec := sec) (i := G.obj) (by omega) (by omega) gobj
           rw [htabA] at this
           omega
          have e4 : IntKind.i64.wrap (base + (stO os sec G.obj : Nat) + G.sym.off) = (addrG base os G).addr := by
           rw [wrap64 (by omega) (by omega)]
           show _ = base + (stO os G.sym.sec.toNat G.obj : Nat) + G.sym.off
           rw [hsec]; rfl
          (try simp only [wk, wl, wx, reduceLT, reduceEqDiff, Nat.reduceBEq, reduceIte])
          ((repeat refine WC.seq ?_); refine WC.draw (plans := pl34_34) (by kernel_rfl) ?_; simp only [pl34_34, List.mem_cons, List.not_mem_nil, or_false, forall_eq_or_imp, forall_eq])
          (try simp (maxSteps := 2000000) only [wk, wl, wx, reduceLT, reduceEqDiff, Nat.reduceBEq, reduceIte, wd, Chk, and_true, true_and, t0, fa105_2, fa174_2, fa174_3, fa174_0, fa95_1, fa95_2, Nat.zero_add, bk18.at ty103 rfl, b18.at ty3 rfl, b18.at ty2 rfl, hsec, i64, idx_slice ty103 rfl ty126 (show G.obj < L.length by omega), ix3, s3, bin_add, e4])
          refine sat_store c18 ty2 rfl (show 0 + 1 ≤ 8 by decide) rfl ?_
          intro h19 b19 n19 f19
          have c19' : Has h19 h16.next (glV (addrG base os G)) := b19
          have c19 : Has h19 h16.next [i64 (addrG base os G).addr, .bool G.weak, i64 (G.obj : Int), .str G.sym.name, i64 G.sym.sec, i64 G.sym.off, .bool G.sym.glob, .bool G.sym.weak] := b19
          have m19 := m18.fix f19 (by omega)
          have bk19 := bk18.fix f19 (by omega)
          have bs19 := bs18.fix f19 (by omega)
          have l19 : loadP (E g) h19 174 (.ptr h16.next 0) = some (dV (addrG base os G)) := c19'.agg ty174 rfl (Nat.le_refl 8)
          have s4 := bs19.at (E := E g) ty2 rfl (G.obj * 3 + sec)
          rw [stC_get (by omega), stG_at (by omega) (by omega)] at s4
          (try simp (maxSteps := 2000000) only [wk, wl, wx, reduceLT, reduceEqDiff, Nat.reduceBEq, reduceIte, wd, Chk, and_true, true_and, t0, fa105_2, fa174_2, fa174_3, fa174_0, fa95_1, fa95_2, Nat.zero_add, bk19.at ty103 rfl, c19.at ty3 rfl, c19.at ty2 rfl, hsec, i64, idx_slice ty103 rfl ty126 (show G.obj < L.length by omega), ix3, s4, bin_add, e4])
          ((repeat refine WC.seq ?_); refine WC.draw (plans := pl34_35) (by kernel_rfl) ?_; simp only [pl34_35, List.mem_cons, List.not_mem_nil, or_false, forall_eq_or_imp, forall_eq])
          (try simp (maxSteps := 2000000) only [wk, wl, wx, reduceLT, reduceEqDiff, Nat.reduceBEq, reduceIte, wd, Chk, and_true, true_and, t0, fa105_3, Nat.zero_add, bk19.at ty101 rfl, l19, w_mapUpdate])
          refine sat_updateQ m19 ty101 rfl ty9 rfl ty174 ?_
          intro hu mu nu fu
          rw [ins_mv, ← hG, updA_next (addrG base os) hjl nD hjs] at mu
          (try simp (maxSteps := 2000000) only [wk, wl, wx, reduceLT, reduceEqDiff, Nat.reduceBEq, reduceIte, wd, Chk, and_true, true_and])
          refine ⟨_, unseen_lt hjl hjs, _, seen ++ [j], rfl, ⟨by omega, fun b hb => by rw [fu.same b hb.2.2, f19.same b (by omega), F18.same b (by omega), f16.same b hb.2.1, fq.same b hb]⟩, rfl, ?_, ?_, ?_, ((it16.fix F18 (by omega)).fix f19 (by omega)).fix fu (by omega), mu⟩
          all_goals (try simp only [wk, wl, wx, reduceLT, reduceEqDiff, Nat.reduceBEq, reduceIte, t0, t2, t180])
         ·(try simp only [wk, wl, wx, reduceLT, reduceEqDiff, Nat.reduceBEq, reduceIte])
          (repeat refine WC.seq ?_)
          refine WC.cond (b := false) (by (try simp only [wk, wl, wx, reduceLT, reduceEqDiff, Nat.reduceBEq, reduceIte]); (try simp); (try omega)) (WC.exit ?_)
          rw [updA_all _ (fun j hj => hall j (by rw [hlu]; exact hj))] at mq
          have brq := bri.fix Fq ⟨by omega, by omega⟩
          (try simp only [wk, wl, wx, reduceLT, reduceEqDiff, Nat.reduceBEq, reduceIte, nb8])
          ((repeat refine WC.seq ?_); refine WC.run ?_)
          (try simp only [wk, wl, wx, reduceLT, reduceEqDiff, Nat.reduceBEq, reduceIte, build35_0, t2])
          refine sat_store brq ty35 rfl (Nat.le_refl 2) (fault_one _) ?_
          intro h20 b20 n20 f20
          have l20 : loadP (E g) h20 35 (.ptr h.next 0) = some (.agg (faultV (0, 0))) := b20.agg ty35 rfl (Nat.le_refl 2)
          (try simp only [wk, wl, wx, reduceLT, reduceEqDiff, Nat.reduceBEq, reduceIte])
          refine WC.ret ?_
          (try simp only [wk, wl, wx, reduceLT, reduceEqDiff, Nat.reduceBEq, reduceIte, t2, l20])
          refine ⟨⟨by omega, fun b hb => by rw [f20.same b (by omega), Fq.same b ⟨by omega, hb.2.2.1⟩, fi.same b ⟨by omega, by omega⟩, F9.same b ⟨by omega, hb.2.1⟩, F7h.same b ⟨hb.1, hb.2.1, hb.2.2.2⟩]⟩, ?_⟩
          rw [if_neg hbig]
          refine ⟨by trivial, stb, bb, by omega, by omega, by omega, by omega, by omega, bkq.fix f20 (by omega), bsq.fix f20 (by omega), ((bbi.fix Fq ⟨by omega, by omega⟩).fix f20 (by omega)), mq.fix f20 (by omega), ?_⟩
          rw [← hS]
          exact (msi.fix Fq ⟨by omega, fun e => ds e.symm⟩).fix f20 (by omega)
        all_goals (try simp only [wk, wl, wx, reduceLT, reduceEqDiff, Nat.reduceBEq, reduceIte])
        all_goals (first | done | rfl | trivial | simp [t0, t2])
      all_goals (try simp only [wk, wl, wx, reduceLT, reduceEqDiff, Nat.reduceBEq, reduceIte])
      all_goals (first | done | rfl | trivial | simp [t0, t2])
   all_goals (try simp only [wk, wl, wx, reduceLT, reduceEqDiff, Nat.reduceBEq, reduceIte])
   all_goals (first | done | rfl | trivial | simp)
 all_goals (try simp only [wk, wl, wx, reduceLT, reduceEqDiff, Nat.reduceBEq, reduceIte])
 all_goals simp
end Go.Proofs.OP
