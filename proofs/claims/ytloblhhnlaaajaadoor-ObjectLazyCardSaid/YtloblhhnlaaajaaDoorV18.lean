/- Rules for walks: cells in a part of a block, what is written in place. -/
import Derived.Test.YtloblhhnlaaajaaDoorV17
import Derived.Test.YtloblhhnlaaajaaDoorV14
import Derived.Shelf.SlIter.Keys
import Derived.Shelf.SlIter.Sorted
import Derived.Shelf.SortM.Plain
import Derived.Shelf.SortM.SortNone
import Derived.Test.YtloblhhnlaaajaaDoorV16
set_option linter.unusedVariables false
set_option linter.unusedSimpArgs false
set_option linter.defProp false
namespace Go.Ev
open Go

def At (h : H) (b o : Nat) (vs : List V) : Prop := ∃ t N d e k, h.t.get b = some (.cells t N d e k) ∧ cellsFrom t N d o vs.length = some vs

section
variable {E : Env} {K : Nat → Prop} {h h' : H} {b o : Nat} {vs : List V}

theorem Has.at0 (a : Has h b vs) : At h b 0 vs := by
 obtain ⟨t, d, e, k, h1, h2⟩ := a
 exact ⟨t, _, d, e, k, h1, h2⟩
theorem At.fix (a : At h b o vs) (f : Fix K h h') (hb : K b) : At h' b o vs := by
 obtain ⟨t, N, d, e, k, h1, h2⟩ := a
 exact ⟨t, N, d, e, k, by rw [f.same b hb]; exact h1, h2⟩
theorem At.part (a : At h b o vs) {p q : Nat} (hq : p + q ≤ vs.length) : At h b (o + p) ((vs.drop p).take q) := by
 obtain ⟨t, N, d, e, k, h1, h2⟩ := a
 obtain ⟨q1, q2⟩ := cellsFrom_get h2
 refine ⟨t, N, d, e, k, h1, ?_⟩
 have hl : ((vs.drop p).take q).length = q := by simp; omega
 rw [hl]
 exact cellsFrom_of hl fun j hj => by
  rw [Nat.add_assoc, q2 _ (by omega), List.getElem?_take, if_pos hj, List.getElem?_drop]
theorem At.at (a : At h b o vs) {ty : Nat} {i : TI} (ht : E.tys.get ty = some i) (hi : i.agg = false) {j : Nat} (hj : j < vs.length) : loadP E h ty (.ptr b (o + j)) = vs[j]? := by
 obtain ⟨t, N, d, e, k, h1, h2⟩ := a
 simp only [loadP, loadV, ht, h1, hi, cond_false]
 exact (cellsFrom_get h2).2 j hj
theorem At.agg (a : At h b o vs) {ty : Nat} {i : TI} (ht : E.tys.get ty = some i) (hi : i.agg = true) (hs : i.size = vs.length) : loadP E h ty (.ptr b o) = some (.agg vs) := by
 obtain ⟨t, N, d, e, k, h1, h2⟩ := a
 simp only [loadP, loadV, ht, h1, hi, cond_true, hs, h2]
 rfl
theorem At.room (a : At h b o vs) {t : T V} {N : Nat} {d : List V} {e k : Nat} (hb : h.t.get b = some (.cells t N d e k)) (h0 : 0 < vs.length) : o + vs.length ≤ N := by
 obtain ⟨t', N', d', e', k', h1, h2⟩ := a
 rw [hb] at h1
 injection h1 with h1
 injection h1 with h1 h3 h4 h5 h6
 subst h1 h3 h4 h5 h6
 have := (cellsFrom_get h2).2 (vs.length - 1) (by omega)
 rw [List.getElem?_eq_getElem (by omega)] at this
 unfold cellAt at this
 cases hN : Nat.blt (o + (vs.length - 1)) N with
 | false => rw [hN] at this; cases this
 | true => have : o + (vs.length - 1) < N := by simpa using hN
           omega

theorem Sl.block {sz n m c : Nat} {cc : Cp} (a : Sl E h sz (.slice b o m cc) n vs) (h0 : 0 < n * sz) : At h b o vs := by
 have hs := a.size
 have hc := a.cells
 have hb0 : Nat.beq (n * sz) 0 = false := beq_false (by omega)
 simp only [srcCells, hb0, cond_false] at hc
 obtain ⟨_, hc⟩ := bif_some hc
 split at hc
 ·rename_i t N d e k hb
  exact ⟨t, N, d, e, k, hb, by rw [hs]; exact hc⟩
 ·cases hc
theorem At.slice {sz n : Nat} {cc : Cp} (a : At h b o vs) (hn : vs.length = n * sz) (hcc : ∀ c, cc = .lit c → n ≤ c) : Sl E h sz (.slice b o n cc) n vs := by
 obtain ⟨t, N, d, e, k, h1, h2⟩ := a
 refine ⟨rfl, ?_, (fun _ e => by cases e), (fun b o m c e => by injection e with _ _ e1 e2; subst e1; exact hcc c e2), (fun _ _ _ e => by cases e)⟩
 rw [hn] at h2
 simp only [srcCells, h1, ble_true (Nat.le_refl n), cond_true, h2]
 cases h0 : Nat.beq (n * sz) 0 with
 | true =>
  have h0 := Nat.eq_of_beq_eq_true h0
  rw [h0] at h2; simp [cellsFrom] at h2; subst h2; rfl
 | false => rfl

theorem sat_storeA {ty p : Nat} {v : V} {Q : V → H → Prop} (a : At h b o vs) {i : TI} (ht : E.tys.get ty = some i) (hl : v.cells.length = i.size) (hp : p + i.size ≤ vs.length) (h1 : v.cells.all V.one = true) (h0 : 0 < i.size)
  (k : ∀ h', At h' b o (over vs p v.cells) → h'.next = h.next → Fix (· ≠ b) h h' → Q un h') : Sat1 (rh (storeP E h ty (.ptr b (o + p)) v)) Q := by
 have aa := a
 obtain ⟨t, N, d, e, kk, q1, q2⟩ := a
 have hN := aa.room q1 (by omega)
 have hbeq : Nat.beq v.cells.length i.size = true := by rw [hl]; simp
 simp only [storeP, storeV, ht, hbeq, cond_true]
 rcases hc : v.cells with _ | ⟨c0, cr⟩
 ·rw [hc] at hl; simp at hl; omega
 ·have hle : Nat.ble (o + p + v.cells.length) N = true := ble_true (by omega)
  simp only [storeL, q1, ← hc, hle, h1, Bool.and_self, cond_true, sat_rh]
  have hlen : p + v.cells.length ≤ vs.length := by rw [hl]; exact hp
  refine k _ ⟨t.putL (o + p) v.cells, N, d, e, kk, ?_, ?_⟩ rfl ⟨Nat.le_refl _, fun c hc => ?_⟩
  ·simp only [H.put, T.get_set, if_true]
  ·rw [over_length hlen]
   refine cellsFrom_of (over_length hlen) (fun j hj => ?_)
   rw [cellAt_putL (by omega), over_get hlen]
   by_cases hj2 : p ≤ j ∧ j < p + v.cells.length
   ·rw [if_pos ⟨by omega, by omega⟩, if_pos hj2]
    congr 1; omega
   ·rw [if_neg (by omega), if_neg hj2]
    exact (cellsFrom_get q2).2 j hj
  ·simp only [H.put, T.get_set]; rw [if_neg hc]

def Whole (s : V) (n : Nat) : Prop := s = .nils ∨ ∃ b c, s = .slice b 0 n c ∧ (c = .lit n ∨ c = .opn 0 0)
theorem Buf.whole {e sz n : Nat} {s : V} (a : Buf E h e sz s n vs) : Whole s n := by
 cases a with
 | nil => exact .inl rfl
 | lit => exact .inr ⟨_, _, rfl, .inl rfl⟩
 | opn => exact .inr ⟨_, _, rfl, .inr rfl⟩
theorem Whole.cap {n : Nat} {c : Cp} (h : c = .lit n ∨ c = .opn 0 0) : ∀ m, c = .lit m → n ≤ m := fun m e => by
 rcases h with h | h
 ·rw [h] at e; injection e with e; omega
 ·rw [h] at e; cases e
theorem slice_from {t e sz n l : Nat} {c : Cp} {i : TI} {k : IntKind} (ht : E.tys.get t = some i) (hd : i.desc = .slice e) (hs : sizeOfT E e = some sz) (hc : c = .lit n ∨ c = .opn 0 0) (hl : l < n) :
  ∃ c', sliceV E t (.slice b o n c) (some (.int k l)) none none = some (.slice b (o + l * sz) (n - l) c') := by
 have h1 : Nat.ble l n = true := ble_true (by omega)
 have h2 : Nat.ble n n = true := ble_true (Nat.le_refl _)
 rcases hc with rfl | rfl
 ·refine ⟨.lit (n - l), ?_⟩
  simp only [sliceV, ht, hd, hs, subSlice, optNat, natOf_nat, Option.bind_some, h1, h2, cond_true, subEnd, beq_false (show n ≠ l by omega), cond_false]
 ·cases l with
  | zero =>
   refine ⟨.opn 0 0, ?_⟩
   simp only [sliceV, ht, hd, hs, subSlice, optNat, natOf_nat, Option.bind_some, h1, h2, cond_true, subEnd, Nat.zero_mul, Nat.add_zero, Nat.sub_zero]
  | succ l =>
   refine ⟨.opn (0 + (l + 1)) o, ?_⟩
   simp only [sliceV, ht, hd, hs, subSlice, optNat, natOf_nat, Option.bind_some, h1, h2, cond_true, subEnd]
end
end Go.Ev

namespace Go.Ev
open Go
section
variable {E : Env}

def stampL : Nat → List (List UInt8 × V) → List (V × V × Nat)
 | _, [] => []
 | i, p :: r => (.str p.1, p.2, i) :: stampL (i + 1) r
def Mq (h : H) (b : Nat) (L : List (List UInt8 × V)) : Prop := h.t.get b = some (.map (stampL 0 L) L.length)
theorem Mq.fix {h h' : H} {K : Nat → Prop} {b : Nat} {L : List (List UInt8 × V)} (m : Mq h b L) (f : Fix K h h') (hb : K b) : Mq h' b L := by
 unfold Mq; rw [f.same b hb]; exact m

section
variable {h : H} {b ty kt et : Nat} {L : List (List UInt8 × V)} {i ki ei : TI} {k : List UInt8}
def Itr (h : H) (b m n : Nat) (seen : List Nat) : Prop := h.t.get b = some (.mapIter (some m) n seen n)
theorem Itr.fix {h h' : H} {K : Nat → Prop} {b m n : Nat} {seen : List Nat} (a : Itr h b m n seen) (f : Fix K h h') (hb : K b) : Itr h' b m n seen := by
 unfold Itr; rw [f.same b hb]; exact a
end
end
end Go.Ev

namespace Go.Ev
open Go Go.Proofs Go.RowKit Go.Maps Go.Sort Go.Shelf

theorem keysP_of {P : Program} {rs rk rm : Ren} (Ls : SlLaysZ.n6 P rs) (Lk : SlLaysZ.n10 P rk) (Lm : SlLaysM.n6 P rm) (h9 : rs.f 9 = rm.f 6) : KeysP P (rs.f 6) (rk.f 10) (rs.t 26) := by
 refine ⟨Ls.f6.enters rfl, ?_⟩
 intro w B b es clock ks hcell hb hst hkeys hlen hsz
 refine (callsIn_wide (n := 5)).1 ?_
 have hs : AnyZ.SortsIn P rs Fence.wide 4 := by
  unfold AnyZ.SortsIn
  rw [h9]
  exact ⟨fun blk off cap ss W hH hblk hsz => callsIn_wide.2 (AnyM.slices_Sort_string Lm blk off cap ss W hH hblk hsz), fun p cap W => callsIn_wide.2 (AnyM.slices_Sort_string_none Lm p cap W)⟩
 let R : Value → Option (DataW Unit × List MemPlace) := fun _ => some (.nil, [])
 have hkl : ∀ x ∈ es.toList, ∃ s : List UInt8, x.key = .string ⟨s.toArray⟩ ∧ s.length ≤ 140737488355328 := by
  intro x hx
  have : x.key ∈ es.toList.map (·.key) := List.mem_map.2 ⟨x, hx, rfl⟩
  rw [hkeys] at this
  obtain ⟨s, hs, e⟩ := List.mem_map.1 this
  exact ⟨s, e.symm, hlen s hs⟩
 have hrd : ∀ x ∈ es.toList, ∀ s : List UInt8, x.key = .string ⟨s.toArray⟩ → s.length ≤ 140737488355328 → WideElems.rd P (rk.t 26) R x = some (.string s, .nil) := by
  intro x _ s e hl
  have hk : keyOf P (rk.t 26) x.key = some (.string s) := by
   simp only [keyOf, Lk.t26, mapKey, e, ByteArray.size, List.size_toArray]
   rw [if_pos (by unfold maxLen; omega)]
  simp only [WideElems.rd, hk, Option.bind_some, R, Option.map_some]
 have hfit : WideElems.Fit P (rk.t 26) R es clock := ⟨by unfold maxLen; omega, hst, fun x hx => by
  obtain ⟨s, e, hl⟩ := hkl x hx
  exact ⟨_, hrd x hx s e hl⟩⟩
 have hown : w.ownsMap P (rk.t 26) R b es.size (.map ((es.toList.map (WideElems.rg P (rk.t 26) R)).foldr DataW.insert [])) := ⟨es, clock, hb, hfit, Nat.le_refl _, rfl⟩
 have hsize : Maps.size (.map ((es.toList.map (WideElems.rg P (rk.t 26) R)).foldr DataW.insert []) : DataW Unit) = es.size := by
  rw [Maps.size_eq, length_sorted]; simp
 have hB : B < w.heap.size := by
  unfold World.cell? at hcell
  rcases Nat.lt_or_ge B w.heap.size with q | q
  ·exact q
  ·simp [Array.getElem?_eq_none q] at hcell
 have hseq := AnyZ.keys_gives Lk Fence.wide 2 trivial rfl (by omega) B b es.size _ w hB hcell hown
 have cS := AnyZ.sorted_in Ls Fence.wide 5 trivial trivial trivial trivial rfl (by omega) hs (by rw [h9]; exact Lm.f6.enters rfl) (rk.f 10) #[.pointer (some ⟨B, 0, none⟩)] trivial (Lk.f10.enters rfl) _ _ (by rw [hsize]; unfold maxLen; omega) (by rw [hsize]; exact hsz) w hseq
 refine cS.mono ?_
 rintro e w' ⟨v, ss, rfl, hS, hrow, hnil, hbel⟩
 have hks : (es.toList.map (WideElems.rg P (rk.t 26) R)).map (fun p => strOf p.1) = ks := by
  have h1 : (es.toList.map (WideElems.rg P (rk.t 26) R)).map (fun p => strOf p.1) = es.toList.map fun x => match x.key with | .string s => s.data.toList | _ => [] := by
   rw [List.map_map]
   refine List.map_congr_left fun x hx => ?_
   obtain ⟨s, e, hl⟩ := hkl x hx
   simp only [Function.comp, WideElems.rg_of (hrd x hx s e hl), strOf, e]
  have h2 : (es.toList.map fun x => match x.key with | .string s => s.data.toList | _ => ([] : List UInt8)) = (es.toList.map (·.key)).map fun v => match v with | .string s => s.data.toList | _ => [] := by rw [List.map_map]; rfl
  rw [h1, h2, hkeys, List.map_map]
  conv => rhs; rw [← List.map_id ks]
  exact List.map_congr_left fun s _ => rfl
 have hperm : ss.Perm ks := by
  refine hS.trans ?_
  show ((_ : List (Lit × DataW Unit)).map fun p => strOf p.1).Perm ks
  rw [← hks]
  exact (WideShapes.sorted_perm _).map _
 have hl := hperm.length_eq
 refine ⟨v, rfl, ?_, ?_, hbel⟩
 ·have e1 : sortS ks = ss.mergeSort (fun x y => decide (x ≤ y)) := (mergeSort_of_perm hperm).symm
  rw [e1, ← hl]
  exact hrow
 ·rw [hnil]
  constructor
  ·intro e
   rw [e] at hl
   exact List.eq_nil_of_length_eq_zero hl.symm
  ·intro e
   rw [e] at hl
   exact List.eq_nil_of_length_eq_zero hl
end Go.Ev

namespace Go.Proofs.OP
open Go Go.Ev Go.Proofs Go.Shelf
def keys113_ren : Go.Shelf.Ren := ⟨fun | 10 => 113 | n => n, fun | 33 => 226 | 23 => 102 | 0 => 0 | 4 => 4 | 26 => 9 | 3 => 2 | n => n, fun | n => n⟩
theorem keys113 : Go.Proofs.SlLaysZ.n10 Tryd.prog keys113_ren := {
 mixed := by kernel_rfl
 f10 := ⟨Tryd.f113.name, by decide, Tryd.func113.trans (congrArg some (by kernel_rfl))⟩
 t0 := Tryd.underlying0
 a0 := Tryd.isAgg0
 z0 := Tryd.sizeOf0
 v0 := Tryd.zeroValue0
 t4 := Tryd.underlying4
 a4 := Tryd.isAgg4
 z4 := Tryd.sizeOf4
 v4 := Tryd.zeroValue4
 t23 := Tryd.underlying102
 a23 := Tryd.isAgg102
 z23 := Tryd.sizeOf102
 v23 := Tryd.zeroValue102
 t26 := Tryd.underlying9
 a26 := Tryd.isAgg9
 z26 := Tryd.sizeOf9
 v26 := Tryd.zeroValue9
 t33 := Tryd.underlying226
 a33 := Tryd.isAgg226
 z33 := Tryd.sizeOf226
 v33 := Tryd.zeroValue226 }
def keys115_ren : Go.Shelf.Ren := ⟨fun | 10 => 115 | n => n, fun | 33 => 226 | 23 => 101 | 0 => 0 | 4 => 4 | 26 => 9 | 3 => 174 | n => n, fun | n => n⟩
theorem keys115 : Go.Proofs.SlLaysZ.n10 Tryd.prog keys115_ren := {
 mixed := by kernel_rfl
 f10 := ⟨Tryd.f115.name, by decide, Tryd.func115.trans (congrArg some (by kernel_rfl))⟩
 t0 := Tryd.underlying0
 a0 := Tryd.isAgg0
 z0 := Tryd.sizeOf0
 v0 := Tryd.zeroValue0
 t4 := Tryd.underlying4
 a4 := Tryd.isAgg4
 z4 := Tryd.sizeOf4
 v4 := Tryd.zeroValue4
 t23 := Tryd.underlying101
 a23 := Tryd.isAgg101
 z23 := Tryd.sizeOf101
 v23 := Tryd.zeroValue101
 t26 := Tryd.underlying9
 a26 := Tryd.isAgg9
 z26 := Tryd.sizeOf9
 v26 := Tryd.zeroValue9
 t33 := Tryd.underlying226
 a33 := Tryd.isAgg226
 z33 := Tryd.sizeOf226
 v33 := Tryd.zeroValue226 }
def sorted87_ren : Go.Shelf.Ren := ⟨fun | 6 => 87 | 8 => 111 | 9 => 112 | 11 => 126 | 13 => 128 | 12 => 127 | 23 => 138 | 24 => 139 | 14 => 129 | 15 => 130 | 16 => 131 | 17 => 132 | 18 => 133 | 19 => 134 | 20 => 135 | 21 => 136 | 22 => 137 | 25 => 140 | 26 => 141 | 27 => 142 | 28 => 143 | 29 => 144 | 30 => 145 | 31 => 146 | n => n, fun | 26 => 9 | 28 => 182 | 24 => 30 | 0 => 0 | 3 => 3 | 37 => 240 | 48 => 191 | 50 => 194 | 4 => 4 | 40 => 243 | 39 => 242 | 45 => 172 | 5 => 5 | 9 => 9 | 51 => 251 | 55 => 255 | 57 => 257 | 58 => 258 | 33 => 226 | n => n, fun | n => n⟩
theorem sorted87 : Go.Proofs.SlLaysZ.n6 Tryd.prog sorted87_ren := {
 mixed := by kernel_rfl
 f6 := ⟨Tryd.f87.name, by decide, Tryd.func87.trans (congrArg some (by kernel_rfl))⟩
 f8 := ⟨Tryd.f111.name, by decide, Tryd.func111.trans (congrArg some (by kernel_rfl))⟩
 f11 := ⟨Tryd.f126.name, by decide, Tryd.func126.trans (congrArg some (by kernel_rfl))⟩
 t0 := Tryd.underlying0
 a0 := Tryd.isAgg0
 z0 := Tryd.sizeOf0
 v0 := Tryd.zeroValue0
 t24 := Tryd.underlying30
 a24 := Tryd.isAgg30
 z24 := Tryd.sizeOf30
 v24 := Tryd.zeroValue30
 t26 := Tryd.underlying9
 a26 := Tryd.isAgg9
 z26 := Tryd.sizeOf9
 v26 := Tryd.zeroValue9
 t28 := Tryd.underlying182
 a28 := Tryd.isAgg182
 z28 := Tryd.sizeOf182
 v28 := Tryd.zeroValue182
 i26 := by kernel_rfl }
def sort112_ren : Go.Shelf.Ren := ⟨fun | 6 => 112 | 8 => 128 | 9 => 127 | 19 => 138 | 20 => 139 | 21 => 129 | 22 => 130 | 23 => 131 | 24 => 132 | 25 => 133 | 26 => 134 | 27 => 135 | 28 => 136 | 29 => 137 | 36 => 140 | 31 => 141 | 32 => 142 | 37 => 143 | 38 => 144 | 39 => 145 | 41 => 146 | n => n, fun | 27 => 30 | 29 => 9 | 3 => 3 | 32 => 240 | 26 => 30 | 0 => 0 | 44 => 191 | 46 => 194 | 4 => 4 | 36 => 243 | 35 => 242 | 41 => 172 | 5 => 5 | 9 => 9 | 53 => 251 | 57 => 255 | 63 => 257 | 64 => 258 | n => n, fun | n => n⟩
theorem sort112 : Go.Proofs.SlLaysM.n6 Tryd.prog sort112_ren := {
 mixed := by kernel_rfl
 f6 := ⟨Tryd.f112.name, by decide, Tryd.func112.trans (congrArg some (by kernel_rfl))⟩
 f8 := Tryd.func128.trans (congrArg some (by kernel_rfl))
 f9 := ⟨Tryd.f127.name, by decide, Tryd.func127.trans (congrArg some (by kernel_rfl))⟩
 f19 := Tryd.func138.trans (congrArg some (by kernel_rfl))
 f20 := Tryd.func139.trans (congrArg some (by kernel_rfl))
 f21 := ⟨Tryd.f129.name, by decide, Tryd.func129.trans (congrArg some (by kernel_rfl))⟩
 f22 := ⟨Tryd.f130.name, by decide, Tryd.func130.trans (congrArg some (by kernel_rfl))⟩
 f23 := ⟨Tryd.f131.name, by decide, Tryd.func131.trans (congrArg some (by kernel_rfl))⟩
 f24 := ⟨Tryd.f132.name, by decide, Tryd.func132.trans (congrArg some (by kernel_rfl))⟩
 f25 := ⟨Tryd.f133.name, by decide, Tryd.func133.trans (congrArg some (by kernel_rfl))⟩
 f26 := ⟨Tryd.f134.name, by decide, Tryd.func134.trans (congrArg some (by kernel_rfl))⟩
 f27 := ⟨Tryd.f135.name, by decide, Tryd.func135.trans (congrArg some (by kernel_rfl))⟩
 f28 := ⟨Tryd.f136.name, by decide, Tryd.func136.trans (congrArg some (by kernel_rfl))⟩
 f29 := ⟨Tryd.f137.name, by decide, Tryd.func137.trans (congrArg some (by kernel_rfl))⟩
 f31 := Tryd.func141.trans (congrArg some (by kernel_rfl))
 f32 := Tryd.func142.trans (congrArg some (by kernel_rfl))
 f36 := ⟨Tryd.f140.name, by decide, Tryd.func140.trans (congrArg some (by kernel_rfl))⟩
 f37 := ⟨Tryd.f143.name, by decide, Tryd.func143.trans (congrArg some (by kernel_rfl))⟩
 f38 := ⟨Tryd.f144.name, by decide, Tryd.func144.trans (congrArg some (by kernel_rfl))⟩
 f39 := ⟨Tryd.f145.name, by decide, Tryd.func145.trans (congrArg some (by kernel_rfl))⟩
 f41 := ⟨Tryd.f146.name, by decide, Tryd.func146.trans (congrArg some (by kernel_rfl))⟩
 t0 := Tryd.underlying0
 a0 := Tryd.isAgg0
 z0 := Tryd.sizeOf0
 v0 := Tryd.zeroValue0
 t3 := Tryd.underlying3
 a3 := Tryd.isAgg3
 z3 := Tryd.sizeOf3
 v3 := Tryd.zeroValue3
 t4 := Tryd.underlying4
 a4 := Tryd.isAgg4
 z4 := Tryd.sizeOf4
 v4 := Tryd.zeroValue4
 t5 := Tryd.underlying5
 a5 := Tryd.isAgg5
 z5 := Tryd.sizeOf5
 v5 := Tryd.zeroValue5
 t9 := Tryd.underlying9
 a9 := Tryd.isAgg9
 z9 := Tryd.sizeOf9
 v9 := Tryd.zeroValue9
 t26 := Tryd.underlying30
 a26 := Tryd.isAgg30
 z26 := Tryd.sizeOf30
 v26 := Tryd.zeroValue30
 t27 := Tryd.underlying30
 a27 := Tryd.isAgg30
 z27 := Tryd.sizeOf30
 v27 := Tryd.zeroValue30
 t29 := Tryd.underlying9
 a29 := Tryd.isAgg9
 z29 := Tryd.sizeOf9
 v29 := Tryd.zeroValue9
 t32 := Tryd.underlying240
 a32 := Tryd.isAgg240
 z32 := Tryd.sizeOf240
 v32 := Tryd.zeroValue240
 t35 := Tryd.underlying242
 a35 := Tryd.isAgg242
 z35 := Tryd.sizeOf242
 v35 := Tryd.zeroValue242
 t36 := Tryd.underlying243
 a36 := Tryd.isAgg243
 z36 := Tryd.sizeOf243
 v36 := Tryd.zeroValue243
 t41 := Tryd.underlying172
 a41 := Tryd.isAgg172
 z41 := Tryd.sizeOf172
 v41 := Tryd.zeroValue172
 t44 := Tryd.underlying191
 a44 := Tryd.isAgg191
 z44 := Tryd.sizeOf191
 v44 := Tryd.zeroValue191
 t46 := Tryd.underlying194
 a46 := Tryd.isAgg194
 z46 := Tryd.sizeOf194
 v46 := Tryd.zeroValue194
 t53 := Tryd.underlying251
 a53 := Tryd.isAgg251
 z53 := Tryd.sizeOf251
 v53 := Tryd.zeroValue251
 t57 := Tryd.underlying255
 a57 := Tryd.isAgg255
 z57 := Tryd.sizeOf255
 v57 := Tryd.zeroValue255
 t63 := Tryd.underlying257
 a63 := Tryd.isAgg257
 z63 := Tryd.sizeOf257
 v63 := Tryd.zeroValue257
 t64 := Tryd.underlying258
 a64 := Tryd.isAgg258
 z64 := Tryd.sizeOf258
 v64 := Tryd.zeroValue258 }
set_option maxRecDepth 100000 in
theorem sk_ok : ∀ x ∈ sk, KeysP Tryd.prog x.1 x.2.1 x.2.2 := by
 intro x hx
 simp only [sk, List.mem_cons, List.not_mem_nil, or_false] at hx
 rcases hx with rfl | rfl
 ·have h : KeysP Tryd.prog (sorted87_ren.f 6) (keys113_ren.f 10) (sorted87_ren.t 26) := keysP_of sorted87 keys113 sort112 (by kernel_rfl)
  have e : (sorted87_ren.f 6, keys113_ren.f 10, sorted87_ren.t 26) = (87, 113, 9) := by kernel_rfl
  have e1 := congrArg (·.1) e
  have e2 := congrArg (·.2.1) e
  have e3 := congrArg (·.2.2) e
  simp only at e1 e2 e3
  rw [e1, e2, e3] at h
  exact h
 ·have h : KeysP Tryd.prog (sorted87_ren.f 6) (keys115_ren.f 10) (sorted87_ren.t 26) := keysP_of sorted87 keys115 sort112 (by kernel_rfl)
  have e : (sorted87_ren.f 6, keys115_ren.f 10, sorted87_ren.t 26) = (87, 115, 9) := by kernel_rfl
  have e1 := congrArg (·.1) e
  have e2 := congrArg (·.2.1) e
  have e3 := congrArg (·.2.2) e
  simp only at e1 e2 e3
  rw [e1, e2, e3] at h
  exact h
end Go.Proofs.OP
