/- Walks: Call, Bytes, Images, Entry of both sides. -/
import Derived.Test.YtloblhhnlaaajaaDoorV15
import Derived.Test.YtloblhhnlaaajaaDoorV29
import Derived.Test.YtloblhhnlaaajaaDoorV27
import Derived.Test.YtloblhhnlaaajaaDoorV17
set_option linter.unusedVariables false
set_option linter.unusedSimpArgs false
set_option linter.defProp false
set_option linter.unusedSimpArgs false
namespace Go.Proofs.OP
open Go Go.Ev
open Go.Proofs
open Nat (reduceLT reduceEqDiff)
variable {g : T (List V)}

def Good (xs : List ImgD) : Prop := ∀ x ∈ xs, SmallI x
theorem Good.at {xs : List ImgD} (h : Good xs) {i : Nat} {x : ImgD} (hx : xs[i]? = some x) : SmallI x := h x (List.mem_of_getElem? hx)
theorem Good.exps {xs : List ImgD} (h : Good xs) : ∀ x ∈ xs, x.exps.length < 2 ^ 40 := fun x hx => by have := (h x hx).exps; omega
theorem Good.room {xs : List ImgD} (h : Good xs) {i k : Nat} {x : ImgD} (hx : xs[i]? = some x) (hk : k < x.slots.length) : x.base ≤ x.slots[k].addr ∧ x.slots[k].addr ≤ x.base + x.bytes.length - 8 ∧ 0 ≤ x.base ∧ x.base ≤ 2 ^ 32 ∧ x.bytes.length ≤ 2 ^ 32 := by
 have sm := h.at hx
 obtain ⟨a1, a2, -, a4, -⟩ := sm.head
 obtain ⟨b1, b2, -⟩ := sm.saddr _ (List.getElem_mem hk)
 exact ⟨b1, b2, a1, by omega, by omega⟩
theorem bindX_small {x : ImgD} (sm : SmallI x) {k : Nat} {a : Int} (ha : 0 ≤ a ∧ a ≤ 4294967296) : SmallI (bindX x k a) := by
 unfold bindX
 split
 ·exact sm
 ·rename_i s hs
  obtain ⟨hk, rfl⟩ := List.getElem?_eq_some_iff.1 hs
  have hm := List.getElem_mem hk
  obtain ⟨b1, b2, b3, b4⟩ := sm.saddr _ hm
  obtain ⟨a1, a2, a3, a4, a5, a6, a7, a8⟩ := sm.head
  have hl : (putAt x.bytes (x.slots[k].addr - x.base).toNat (leB (U a) 8)).length = x.bytes.length := putAt_length (by rw [leB_length]; omega)
  refine ⟨⟨a1, a2, a3, by show ((putAt x.bytes (x.slots[k].addr - x.base).toNat (leB (U a) 8)).length : Int) ≤ _; rw [hl]; exact a4, a5, by show _ ≤ ((putAt x.bytes (x.slots[k].addr - x.base).toNat (leB (U a) 8)).length : Int); rw [hl]; exact a6, a7, a8⟩, sm.exps, by simpa using sm.slots, sm.ename, fun s hs => ?_, sm.nname, fun s hs => by have := sm.eaddr s hs; show _ ∧ _ ≤ x.base + ((putAt _ _ _).length : Int); rw [hl]; exact this, fun s hs => ?_⟩
  ·rcases List.mem_or_eq_of_mem_set hs with q | rfl
   ·exact sm.sname s q
   ·show x.slots[k].name.length ≤ 64; exact sm.sname _ hm
  ·show _ ∧ _ ≤ x.base + ((putAt _ _ _).length : Int) - 8 ∧ _
   rw [hl]
   rcases List.mem_or_eq_of_mem_set hs with q | rfl
   ·exact sm.saddr s q
   ·exact ⟨b1, b2, ha.1, ha.2⟩
theorem Good.setB {xs : List ImgD} (h : Good xs) {i k : Nat} {a : Int} (ha : 0 ≤ a ∧ a ≤ 4294967296) : Good (setB xs i k a) := by
 unfold OP.setB
 split
 ·exact h
 ·rename_i x hx
  intro y hy
  rcases List.mem_or_eq_of_mem_set hy with q | rfl
  ·exact h y q
  ·exact bindX_small (h.at hx) ha
theorem lookP_addr {nm : List UInt8} : ∀ {xs : List ImgD} {n : Nat}, Good xs → (lookP nm n xs).2.2 = 0 → 0 ≤ (lookP nm n xs).1 ∧ (lookP nm n xs).1 ≤ 4294967296
 | [], n, _, h => by simp [lookP] at h
 | x :: r, n, hg, h => by
  rw [lookP] at h ⊢
  cases hx : expA nm x with
  | none =>
   rw [hx] at h
   exact lookP_addr (fun y hy => hg y (List.mem_cons_of_mem _ hy)) h
  | some a =>
   have sm := hg x (List.mem_cons_self ..)
   unfold expA at hx
   obtain ⟨e, he, rfl⟩ := Option.map_eq_some_iff.1 hx
   obtain ⟨k, _, hk⟩ := Option.bind_eq_some_iff.1 he
   have := sm.eaddr e (List.mem_of_getElem? hk)
   obtain ⟨a1, a2, -, a4, -⟩ := sm.head
   show 0 ≤ e.addr ∧ e.addr ≤ 4294967296
   omega
def callP (xs : List ImgD) (n : Int) (nm : List UInt8) : List ImgD × Int × Bool × Int :=
 if 0 ≤ n ∧ n < xs.length then match xs[n.toNat]? with
  | none => (xs, 0, false, 34)
  | some x => match fstI (fun s => s.name == nm) x.slots with
   | none => (xs, 0, false, 22)
   | some k => match x.slots[k]? with
    | none => (xs, 0, false, 22)
    | some s => if s.bound ≠ 0 then (xs, s.bound, false, 0) else if (lookP nm 0 xs).2.2 ≠ 0 then (xs, 0, false, (lookP nm 0 xs).2.2) else (setB xs n.toNat k (lookP nm 0 xs).1, (lookP nm 0 xs).1, true, 0)
 else (xs, 0, false, 34)
def callV (p : Int × Bool × Int) : V := .tuple [i64 p.1, .bool p.2.1, i64 p.2.2]
theorem callP_good {xs : List ImgD} {n : Int} {nm : List UInt8} (h : Good xs) : Good (callP xs n nm).1 := by
 unfold callP
 split
 ·split
  ·exact h
  ·split
   ·exact h
   ·split
    ·exact h
    ·split
     ·exact h
     ·split
      ·exact h
      ·rename_i q
       exact h.setB (lookP_addr h (by simpa using q))
 ·exact h
theorem callP_length {xs : List ImgD} {n : Int} {nm : List UInt8} : (callP xs n nm).1.length = xs.length := by
 unfold callP
 split
 ·split
  ·rfl
  ·split
   ·rfl
   ·split
    ·rfl
    ·split
     ·rfl
     ·split
      ·rfl
      ·exact setB_length _ _ _ _
 ·rfl
abbrev Rest (lo hi : Nat) (h h' : H) : Prop := Fix (fun b => b < h.next ∧ ¬ (lo ≤ b ∧ b < hi)) h h'

set_option maxRecDepth 100000 in
set_option maxHeartbeats 4000000 in
theorem call_ok {h : H} {lo hi pb sb : Nat} {sc : Cp} {tag : Nat → Nat} {cs : List Ic} {xs : List ImgD} {n : Int} {nm : List UInt8} (a : PM g h lo hi pb sb sc tag cs xs) (hx : xs.length < 2 ^ 40) (hg : Good xs) :
  WF (E g) 13 [.ptr pb 0, .int .i64 n, .str nm] h fun v h' => v = callV (callP xs n nm).2 ∧ PM g h' lo hi pb sb sc tag cs (callP xs n nm).1 ∧ Rest lo hi h h' := by
 refine WF.enter fn13 rfl ?_
 ((repeat refine WC.seq ?_); refine WC.run ?_)
 (try simp only [wk, wl, wx, reduceLT, reduceEqDiff, Nat.reduceBEq, reduceIte])
 refine wop_box (v := .str nm) (by (try simp only [wk, wl, wx, reduceLT, reduceEqDiff, Nat.reduceBEq, reduceIte])) ?_
 intro h1 b1 n1 f1
 (try simp only [wk, wl, wx, reduceLT, reduceEqDiff, Nat.reduceBEq, reduceIte])
 have a1 := a.kept f1
 have b1 : Has h1 h.next [.str nm] := b1
 have hh := a.his
 ((repeat refine WC.seq ?_); refine WC.run ?_)
 (try simp only [wk, wl, wx, reduceLT, reduceEqDiff, Nat.reduceBEq, reduceIte])
 refine (pimage_ok a1 hx).mono fun v h2 ⟨e2, e2'⟩ => ?_
 subst e2
 by_cases hn : 0 ≤ n ∧ n < xs.length
 ·rw [if_pos hn] at e2'
  subst e2'
  obtain ⟨i, rfl⟩ : ∃ i : Nat, n = (i : Int) := ⟨n.toNat, by omega⟩
  have hlt : i < xs.length := by omega
  simp only [Int.toNat_natCast]
  obtain ⟨c, hc⟩ := a1.ic hlt
  have hxi : xs[i]? = some xs[i] := List.getElem?_eq_getElem hlt
  have mi := a1.im i c xs[i] hc hxi
  have ac := a1.cell hc hxi
  have hsb := a1.sbt
  have sm := hg.at hxi
  have ssl := sm.slots
  (try simp only [wk, wl, wx, reduceLT, reduceEqDiff, Nat.reduceBEq, reduceIte])
  ((repeat refine WC.seq ?_); refine WC.run ?_)
  (try simp only [wk, wl, wx, reduceLT, reduceEqDiff, Nat.reduceBEq, reduceIte])
  (repeat refine WC.seq ?_)
  refine WC.cond (b := false) (by (try simp only [wk, wl, wx, reduceLT, reduceEqDiff, Nat.reduceBEq, reduceIte]); (try simp); (try omega)) (WC.skip ?_)
  (try simp only [wk, wl, wx, reduceLT, reduceEqDiff, Nat.reduceBEq, reduceIte])
  ((repeat refine WC.seq ?_); refine WC.run ?_)
  (try simp only [wk, wl, wx, reduceLT, reduceEqDiff, Nat.reduceBEq, reduceIte, fa32_5, ac.at ty29 rfl (j := 5) (by simp), w_makeFunc])
  refine (indexB_ok (P := fun s => s.name == nm) mi.im.slots (mi.im.inS.sub fun b hb => by omega) (by omega) (fun h' x k _ => nameS_ok (b1.fix k (by omega)) (by have := k.next; omega))).mono fun v h3 ⟨e3, f3⟩ => ?_
  subst e3
  have x3 := f3.next
  have a3 := a1.kept f3
  have mi3 := a3.im i c xs[i] hc hxi
  have ac3 := a3.cell hc hxi
  have b3 := b1.fix f3 (by omega)
  have F3 : Kept h h3 := f1.trans (f3.sub fun b hb => by omega)
  (try simp only [wk, wl, wx, reduceLT, reduceEqDiff, Nat.reduceBEq, reduceIte])
  ((repeat refine WC.seq ?_); refine WC.run ?_)
  (try simp only [wk, wl, wx, reduceLT, reduceEqDiff, Nat.reduceBEq, reduceIte])
  (repeat refine WC.seq ?_)
  cases hf : fstI (fun s => s.name == nm) xs[i].slots with
  | none =>
   have hik : idxI (fun s => s.name == nm) xs[i].slots = -1 := by rw [idxI, hf]
   rw [hik]
   refine WC.cond (b := true) (by (try simp only [wk, wl, wx, reduceLT, reduceEqDiff, Nat.reduceBEq, reduceIte]); (try simp); (try omega)) ?_
   ((repeat refine WC.seq ?_); refine WC.run ?_)
   (try simp only [wk, wl, wx, reduceLT, reduceEqDiff, Nat.reduceBEq, reduceIte])
   refine WC.ret ?_
   (try simp only [wk, wl, wx, reduceLT, reduceEqDiff, Nat.reduceBEq, reduceIte])
   have hcp : callP xs (i : Int) nm = (xs, 0, false, 22) := by
    unfold callP; rw [if_pos hn]; simp only [Int.toNat_natCast, hxi, hf]
   rw [hcp]
   exact ⟨by trivial, a3, F3.sub fun b hb => hb.1⟩
  | some k =>
   obtain ⟨hk, hkn⟩ := fstI_some hf
   have hik : idxI (fun s => s.name == nm) xs[i].slots = (k : Int) := by rw [idxI, hf]
   rw [hik]
   have hgs : xs[i].slots[k]? = some xs[i].slots[k] := List.getElem?_eq_getElem hk
   refine WC.cond (b := false) (by (try simp only [wk, wl, wx, reduceLT, reduceEqDiff, Nat.reduceBEq, reduceIte]); (try simp); (try omega)) (WC.skip ?_)
   (try simp only [wk, wl, wx, reduceLT, reduceEqDiff, Nat.reduceBEq, reduceIte])
   obtain ⟨sk, sn, es, sw⟩ := not_one_nil mi3.sw mi3.im.slots (by omega)
   have sa : At h3 sk 0 (xs[i].slots.flatMap slotV) := by
    have := mi3.im.slots
    rw [es] at this
    exact this.block (c := 0) (by omega)
   have sp := sa.part0 (p := k * 3) (q := 3) (by rw [flat_length' slotV_length]; omega)
   rw [flat_at' slotV_length hk] at sp
   have sp : At h3 sk (k * 3) [.str xs[i].slots[k].name, i64 xs[i].slots[k].addr, i64 xs[i].slots[k].bound] := sp
   have acs := ac3
   rw [es] at acs
   ((repeat refine WC.seq ?_); refine WC.run ?_)
   (try simp only [wk, wl, wx, reduceLT, reduceEqDiff, Nat.reduceBEq, reduceIte, hik, fa32_5, acs.at ty29 rfl (j := 5) (by simp), idx_slice ty29 rfl ty43 hk, Nat.zero_add, fa43_2, sp.at ty2 rfl (j := 2) (by simp)])
   ((repeat refine WC.seq ?_); refine WC.run ?_)
   (try simp only [wk, wl, wx, reduceLT, reduceEqDiff, Nat.reduceBEq, reduceIte, i64])
   (repeat refine WC.seq ?_)
   by_cases hb : xs[i].slots[k].bound = 0
   ·refine WC.cond (b := false) (by (try simp only [wk, wl, wx, reduceLT, reduceEqDiff, Nat.reduceBEq, reduceIte, hb]); (try simp); (try omega)) (WC.skip ?_)
    (try simp only [wk, wl, wx, reduceLT, reduceEqDiff, Nat.reduceBEq, reduceIte])
    ((repeat refine WC.seq ?_); refine WC.run ?_)
    (try simp only [wk, wl, wx, reduceLT, reduceEqDiff, Nat.reduceBEq, reduceIte, b3.at ty9 rfl])
    refine (lookup_ok (nm := nm) a3 hx hg.exps).mono fun v h4 ⟨e4, f4⟩ => ?_
    subst e4
    have x4 := f4.next
    have a4 := a3.kept f4
    have F4 : Kept h h4 := F3.trans (f4.sub fun b hb => by omega)
    (try simp only [wk, wl, wx, reduceLT, reduceEqDiff, Nat.reduceBEq, reduceIte, lookV, i64])
    ((repeat refine WC.seq ?_); refine WC.run ?_)
    (try simp only [wk, wl, wx, reduceLT, reduceEqDiff, Nat.reduceBEq, reduceIte])
    (repeat refine WC.seq ?_)
    by_cases hl : (lookP nm 0 xs).2.2 = 0
    ·refine WC.cond (b := false) (by (try simp only [wk, wl, wx, reduceLT, reduceEqDiff, Nat.reduceBEq, reduceIte, hl]); (try simp); (try omega)) (WC.skip ?_)
     (try simp only [wk, wl, wx, reduceLT, reduceEqDiff, Nat.reduceBEq, reduceIte])
     ((repeat refine WC.seq ?_); refine WC.run ?_)
     (try simp only [wk, wl, wx, reduceLT, reduceEqDiff, Nat.reduceBEq, reduceIte, hik])
     refine (set_ok a4 hc hxi hk (hg.room hxi hk)).mono fun v h5 ⟨a5, f5⟩ => ?_
     have x5 := f5.next
     (try simp only [wk, wl, wx, reduceLT, reduceEqDiff, Nat.reduceBEq, reduceIte])
     ((repeat refine WC.seq ?_); refine WC.run ?_)
     (try simp only [wk, wl, wx, reduceLT, reduceEqDiff, Nat.reduceBEq, reduceIte])
     refine WC.ret ?_
     (try simp only [wk, wl, wx, reduceLT, reduceEqDiff, Nat.reduceBEq, reduceIte])
     have hcp : callP xs (i : Int) nm = (setB xs i k (lookP nm 0 xs).1, (lookP nm 0 xs).1, true, 0) := by
      unfold callP; rw [if_pos hn]; simp only [Int.toNat_natCast, hxi, hf, hgs]
      rw [if_neg (by simp [hb]), if_neg (by simp [hl])]
     rw [hcp]
     exact ⟨by trivial, a5, ⟨by omega, fun b hb => by rw [f5.same b ⟨by omega, hb.2⟩, F4.same b hb.1]⟩⟩
    ·refine WC.cond (b := true) (by (try simp only [wk, wl, wx, reduceLT, reduceEqDiff, Nat.reduceBEq, reduceIte, hl]); (try simp); (try omega)) ?_
     ((repeat refine WC.seq ?_); refine WC.run ?_)
     (try simp only [wk, wl, wx, reduceLT, reduceEqDiff, Nat.reduceBEq, reduceIte])
     refine WC.ret ?_
     (try simp only [wk, wl, wx, reduceLT, reduceEqDiff, Nat.reduceBEq, reduceIte])
     have hcp : callP xs (i : Int) nm = (xs, 0, false, (lookP nm 0 xs).2.2) := by
      unfold callP; rw [if_pos hn]; simp only [Int.toNat_natCast, hxi, hf, hgs]
      rw [if_neg (by simp [hb]), if_pos hl]
     rw [hcp]
     exact ⟨by trivial, a4, F4.sub fun b hb => hb.1⟩
   ·refine WC.cond (b := true) (by (try simp only [wk, wl, wx, reduceLT, reduceEqDiff, Nat.reduceBEq, reduceIte, hb]); (try simp); (try omega)) ?_
    ((repeat refine WC.seq ?_); refine WC.run ?_)
    (try simp only [wk, wl, wx, reduceLT, reduceEqDiff, Nat.reduceBEq, reduceIte])
    refine WC.ret ?_
    (try simp only [wk, wl, wx, reduceLT, reduceEqDiff, Nat.reduceBEq, reduceIte])
    have hcp : callP xs (i : Int) nm = (xs, xs[i].slots[k].bound, false, 0) := by
     unfold callP; rw [if_pos hn]; simp only [Int.toNat_natCast, hxi, hf, hgs]
     rw [if_pos hb]
    rw [hcp]
    exact ⟨by trivial, a3, F3.sub fun b hb => hb.1⟩
 ·rw [if_neg hn] at e2'
  subst e2'
  (try simp only [wk, wl, wx, reduceLT, reduceEqDiff, Nat.reduceBEq, reduceIte])
  ((repeat refine WC.seq ?_); refine WC.run ?_)
  (try simp only [wk, wl, wx, reduceLT, reduceEqDiff, Nat.reduceBEq, reduceIte])
  (repeat refine WC.seq ?_)
  refine WC.cond (b := true) (by (try simp only [wk, wl, wx, reduceLT, reduceEqDiff, Nat.reduceBEq, reduceIte]); (try simp); (try omega)) ?_
  ((repeat refine WC.seq ?_); refine WC.run ?_)
  (try simp only [wk, wl, wx, reduceLT, reduceEqDiff, Nat.reduceBEq, reduceIte])
  refine WC.ret ?_
  (try simp only [wk, wl, wx, reduceLT, reduceEqDiff, Nat.reduceBEq, reduceIte])
  have hcp : callP xs n nm = (xs, 0, false, 34) := by unfold callP; rw [if_neg hn]
  rw [hcp]
  exact ⟨by trivial, a1, f1.sub fun b hb => hb.1⟩

end Go.Proofs.OP

set_option linter.unusedSimpArgs false
namespace Go.Proofs.OP
open Go Go.Ev
open Go.Proofs
open Nat (reduceLT reduceEqDiff)
variable {g : T (List V)}

def bytesP (xs : List ImgD) (n : Int) : List UInt8 × Int := if 0 ≤ n ∧ n < xs.length then (((xs[n.toNat]?).map (·.bytes)).getD [], 0) else ([], 34)
set_option maxRecDepth 100000 in
set_option maxHeartbeats 4000000 in
theorem bytes31_ok {h : H} {lo hi pb sb : Nat} {sc : Cp} {tag : Nat → Nat} {cs : List Ic} {xs : List ImgD} {n : Int} (a : PM g h lo hi pb sb sc tag cs xs) (hx : xs.length < 2 ^ 40) (hg : Good xs) :
  WF (E g) 15 [.ptr pb 0, .int .i64 n] h fun v h' => (∃ s, v = .tuple [s, i64 (bytesP xs n).2] ∧ Bs g h' s (bytesP xs n).1 ∧ In (fun b => h.next ≤ b ∧ b < h'.next) s) ∧ Kept h h' := by
 refine WF.enter fn15 rfl ?_
 ((repeat refine WC.seq ?_); refine WC.run ?_)
 (try simp only [wk, wl, wx, reduceLT, reduceEqDiff, Nat.reduceBEq, reduceIte])
 have hh := a.his
 ((repeat refine WC.seq ?_); refine WC.run ?_)
 (try simp only [wk, wl, wx, reduceLT, reduceEqDiff, Nat.reduceBEq, reduceIte])
 refine (pimage_ok a hx).mono fun v h2 ⟨e2, e2'⟩ => ?_
 subst e2
 by_cases hn : 0 ≤ n ∧ n < xs.length
 ·rw [if_pos hn] at e2'
  subst e2'
  obtain ⟨i, rfl⟩ : ∃ i : Nat, n = (i : Int) := ⟨n.toNat, by omega⟩
  have hlt : i < xs.length := by omega
  simp only [Int.toNat_natCast]
  obtain ⟨c, hc⟩ := a.ic hlt
  have hxi : xs[i]? = some xs[i] := List.getElem?_eq_getElem hlt
  have mi := a.im i c xs[i] hc hxi
  have ac := a.cell hc hxi
  have sm := hg.at hxi
  obtain ⟨-, -, -, s4, -⟩ := sm.head
  have hbp : bytesP xs (i : Int) = (xs[i].bytes, 0) := by unfold bytesP; rw [if_pos hn]; simp only [Int.toNat_natCast, hxi]; rfl
  rw [hbp]
  (try simp only [wk, wl, wx, reduceLT, reduceEqDiff, Nat.reduceBEq, reduceIte])
  ((repeat refine WC.seq ?_); refine WC.run ?_)
  (try simp only [wk, wl, wx, reduceLT, reduceEqDiff, Nat.reduceBEq, reduceIte])
  (repeat refine WC.seq ?_)
  refine WC.cond (b := false) (by (try simp only [wk, wl, wx, reduceLT, reduceEqDiff, Nat.reduceBEq, reduceIte]); (try simp); (try omega)) (WC.skip ?_)
  (try simp only [wk, wl, wx, reduceLT, reduceEqDiff, Nat.reduceBEq, reduceIte])
  ((repeat refine WC.seq ?_); refine WC.run ?_)
  (try simp only [wk, wl, wx, reduceLT, reduceEqDiff, Nat.reduceBEq, reduceIte, fa32_1, ac.at ty27 rfl (j := 1) (by simp)])
  refine (clone_ok mi.im.bytes (mi.im.inB.sub fun b hb => by omega) (by omega)).mono fun v h3 ⟨q1, q2, q3, q4⟩ => ?_
  (try simp only [wk, wl, wx, reduceLT, reduceEqDiff, Nat.reduceBEq, reduceIte])
  refine WC.ret ?_
  (try simp only [wk, wl, wx, reduceLT, reduceEqDiff, Nat.reduceBEq, reduceIte])
  exact ⟨⟨_, rfl, q1.sl, fun b o n c e => ⟨q4 _ _ _ _ e, q2 _ _ _ _ e⟩⟩, q3⟩
 ·rw [if_neg hn] at e2'
  subst e2'
  have hbp : bytesP xs n = ([], 34) := by unfold bytesP; rw [if_neg hn]
  rw [hbp]
  (try simp only [wk, wl, wx, reduceLT, reduceEqDiff, Nat.reduceBEq, reduceIte])
  ((repeat refine WC.seq ?_); refine WC.run ?_)
  (try simp only [wk, wl, wx, reduceLT, reduceEqDiff, Nat.reduceBEq, reduceIte])
  (repeat refine WC.seq ?_)
  refine WC.cond (b := true) (by (try simp only [wk, wl, wx, reduceLT, reduceEqDiff, Nat.reduceBEq, reduceIte]); (try simp); (try omega)) ?_
  ((repeat refine WC.seq ?_); refine WC.run ?_)
  (try simp only [wk, wl, wx, reduceLT, reduceEqDiff, Nat.reduceBEq, reduceIte])
  refine WC.ret ?_
  (try simp only [wk, wl, wx, reduceLT, reduceEqDiff, Nat.reduceBEq, reduceIte])
  exact ⟨⟨.nils, rfl, Sl.nil, In.nils⟩, Fix.refl _ _⟩
set_option maxRecDepth 100000 in
theorem images33_ok {h : H} {lo hi pb sb : Nat} {sc : Cp} {tag : Nat → Nat} {cs : List Ic} {xs : List ImgD} (a : PM g h lo hi pb sb sc tag cs xs) : WF (E g) 16 [.ptr pb 0] h fun v h' => v = .int .i64 xs.length ∧ h' = h := by
 have l0 : loadP (E g) h 108 (.ptr pb 0) = some (.slice sb 0 xs.length sc) := a.has.at ty108 rfl 0
 refine WF.enter fn16 rfl ?_
 ((repeat refine WC.seq ?_); refine WC.run ?_)
 (try simp only [wk, wl, wx, reduceLT, reduceEqDiff, Nat.reduceBEq, reduceIte])
 ((repeat refine WC.seq ?_); refine WC.run ?_)
 (try simp only [wk, wl, wx, reduceLT, reduceEqDiff, Nat.reduceBEq, reduceIte, bin_pnil])
 (repeat refine WC.seq ?_)
 refine WC.cond (b := false) (by (try simp only [wk, wl, wx, reduceLT, reduceEqDiff, Nat.reduceBEq, reduceIte]); (try simp); (try omega)) (WC.skip ?_)
 (try simp only [wk, wl, wx, reduceLT, reduceEqDiff, Nat.reduceBEq, reduceIte])
 ((repeat refine WC.seq ?_); refine WC.run ?_)
 (try simp only [wk, wl, wx, reduceLT, reduceEqDiff, Nat.reduceBEq, reduceIte, fa110_0, Nat.zero_add, l0, Sl.lenB a.sl ty108 rfl])
 refine WC.ret ?_
 (try simp only [wk, wl, wx, reduceLT, reduceEqDiff, Nat.reduceBEq, reduceIte])
 exact ⟨trivial, trivial⟩
end Go.Proofs.OP

set_option linter.unusedSimpArgs false
namespace Go.Proofs.OP
open Go Go.Ev

def shapeX (x : ImgD) : List ExpD × Nat := (x.exps, x.slots.length)
def shapes (xs : List ImgD) : List (List ExpD × Nat) := xs.map shapeX
theorem bindX_shape (x : ImgD) (k : Nat) (a : Int) : shapeX (bindX x k a) = shapeX x := by
 unfold bindX; split
 ·rfl
 ·simp [shapeX]
theorem setB_shapes (xs : List ImgD) (i k : Nat) (a : Int) : shapes (setB xs i k a) = shapes xs := by
 unfold setB; split
 ·rfl
 ·rename_i x hx
  unfold shapes
  apply List.ext_getElem?
  intro j
  rw [List.getElem?_map, List.getElem?_map]
  by_cases h : j = i
  ·subst h
   obtain ⟨hlt, _⟩ := List.getElem?_eq_some_iff.1 hx
   rw [List.getElem?_set_self hlt, hx]
   simp only [Option.map_some, bindX_shape]
  ·rw [List.getElem?_set_ne (Ne.symm h)]
theorem lookP_err {nm : List UInt8} : ∀ {xs : List ImgD} {n : Nat}, (lookP nm n xs).2.2 = 0 ∨ (lookP nm n xs).2.2 = 22
 | [], _ => .inr rfl
 | x :: r, n => by
  rw [lookP]
  split
  ·exact .inl rfl
  ·exact lookP_err
theorem shapes_length {xs ys : List ImgD} (h : shapes xs = shapes ys) : xs.length = ys.length := by
 have := congrArg List.length h
 simpa [shapes] using this
theorem shapes_at {xs ys : List ImgD} (h : shapes xs = shapes ys) {i : Nat} {x : ImgD} (hx : xs[i]? = some x) : ∃ y, ys[i]? = some y ∧ shapeX x = shapeX y := by
 have := congrArg (fun l : List (List ExpD × Nat) => l[i]?) h
 simp only [shapes, List.getElem?_map, hx, Option.map_some] at this
 obtain ⟨y, hy, e⟩ := Option.map_eq_some_iff.1 this.symm
 exact ⟨y, hy, e.symm⟩

def slotAt (xs : List ImgD) (i k : Nat) : Option SlotD := (xs[i]?).bind fun x => x.slots[k]?
def stepB (xs0 : List ImgD) (i k : Nat) (xs : List ImgD) : List ImgD := match slotAt xs0 i k with
 | none => xs
 | some s => if s.bound = 0 then setB xs i k (lookP s.name 0 xs0).1 else xs
def bindS (xs0 : List ImgD) (i : Nat) : Nat → List ImgD → List ImgD
 | 0, xs => xs
 | k + 1, xs => stepB xs0 i k (bindS xs0 i k xs)
def nslots (xs : List ImgD) (i : Nat) : Nat := ((xs[i]?).map (·.slots.length)).getD 0
def bindI (xs0 : List ImgD) : Nat → List ImgD
 | 0 => xs0
 | i + 1 => bindS xs0 i (nslots xs0 i) (bindI xs0 i)
def oneT (xs0 : List ImgD) (i k : Nat) : List (Nat × Nat × Int) := match slotAt xs0 i k with
 | none => []
 | some s => if s.bound = 0 then [(i, k, (lookP s.name 0 xs0).1)] else []
def todoS (xs0 : List ImgD) (i : Nat) : Nat → List (Nat × Nat × Int)
 | 0 => []
 | k + 1 => todoS xs0 i k ++ oneT xs0 i k
def todoI (xs0 : List ImgD) : Nat → List (Nat × Nat × Int)
 | 0 => []
 | i + 1 => todoI xs0 i ++ todoS xs0 i (nslots xs0 i)
def runT (T : List (Nat × Nat × Int)) (xs : List ImgD) : List ImgD := T.foldl (fun xs t => setB xs t.1 t.2.1 t.2.2) xs
theorem runT_append (A B : List (Nat × Nat × Int)) (xs : List ImgD) : runT (A ++ B) xs = runT B (runT A xs) := by simp [runT, List.foldl_append]
theorem runT_one (xs0 : List ImgD) (i k : Nat) (xs : List ImgD) : runT (oneT xs0 i k) xs = stepB xs0 i k xs := by
 unfold oneT stepB
 split
 ·rfl
 ·split <;> rfl
theorem runT_S (xs0 : List ImgD) (i : Nat) (xs : List ImgD) : ∀ k, runT (todoS xs0 i k) xs = bindS xs0 i k xs
 | 0 => rfl
 | k + 1 => by rw [todoS, runT_append, runT_S xs0 i xs k, runT_one, bindS]
theorem runT_I (xs0 : List ImgD) : ∀ i, runT (todoI xs0 i) xs0 = bindI xs0 i
 | 0 => rfl
 | i + 1 => by rw [todoI, runT_append, runT_I xs0 i, runT_S, bindI]
def okS (xs : List ImgD) (s : SlotD) : Bool := (s.bound != 0) || decide ((lookP s.name 0 xs).2.2 = 0)
def okX (xs : List ImgD) (x : ImgD) : Bool := x.slots.all (okS xs)
def allOk (xs : List ImgD) : Bool := xs.all (okX xs)
def bindAllP (xs : List ImgD) : List ImgD × Int × Int := if allOk xs = true then (bindI xs xs.length, ((todoI xs xs.length).length : Int), 0) else (xs, 0, 22)
theorem stepB_shapes (xs0 : List ImgD) (i k : Nat) (xs : List ImgD) : shapes (stepB xs0 i k xs) = shapes xs := by
 unfold stepB; split
 ·rfl
 ·split
  ·exact setB_shapes _ _ _ _
  ·rfl
theorem bindS_shapes (xs0 : List ImgD) (i : Nat) : ∀ (k : Nat) (xs : List ImgD), shapes (bindS xs0 i k xs) = shapes xs
 | 0, _ => rfl
 | k + 1, xs => by rw [bindS, stepB_shapes, bindS_shapes xs0 i k xs]
theorem bindI_shapes (xs0 : List ImgD) : ∀ i, shapes (bindI xs0 i) = shapes xs0
 | 0 => rfl
 | i + 1 => by rw [bindI, bindS_shapes, bindI_shapes xs0 i]
theorem stepB_good {xs0 : List ImgD} {i k : Nat} {xs : List ImgD} (h : Good xs) (h0 : Good xs0) (hok : ∀ s, slotAt xs0 i k = some s → okS xs0 s = true) : Good (stepB xs0 i k xs) := by
 unfold stepB; split
 ·exact h
 ·rename_i s hs
  split
  ·rename_i hb
   have := hok s hs
   simp only [okS, hb, bne_self_eq_false, Bool.false_or, decide_eq_true_eq] at this
   exact h.setB (lookP_addr h0 this)
  ·exact h
theorem allOk_slot {xs : List ImgD} (h : allOk xs = true) {i k : Nat} {s : SlotD} (hs : slotAt xs i k = some s) : okS xs s = true := by
 unfold slotAt at hs
 obtain ⟨x, hx, hk⟩ := Option.bind_eq_some_iff.1 hs
 exact List.all_eq_true.1 (List.all_eq_true.1 h x (List.mem_of_getElem? hx)) s (List.mem_of_getElem? hk)
theorem bindS_good {xs0 : List ImgD} {i : Nat} (h0 : Good xs0) (hok : allOk xs0 = true) : ∀ (k : Nat) {xs : List ImgD}, Good xs → Good (bindS xs0 i k xs)
 | 0, _, h => h
 | k + 1, xs, h => stepB_good (bindS_good h0 hok k h) h0 fun s hs => allOk_slot hok hs
theorem bindI_good {xs0 : List ImgD} (h0 : Good xs0) (hok : allOk xs0 = true) : ∀ (i : Nat), Good (bindI xs0 i)
 | 0 => h0
 | i + 1 => bindS_good h0 hok _ (bindI_good h0 hok i)
theorem bindAllP_good {xs : List ImgD} (h : Good xs) : Good (bindAllP xs).1 := by
 unfold bindAllP; split
 ·rename_i hk; exact bindI_good h hk _
 ·exact h
theorem bindAllP_length {xs : List ImgD} : (bindAllP xs).1.length = xs.length := by
 unfold bindAllP; split
 ·exact shapes_length (bindI_shapes _ _)
 ·rfl
theorem todoS_mem {xs0 : List ImgD} {i : Nat} : ∀ {k : Nat} {t : Nat × Nat × Int}, t ∈ todoS xs0 i k → t.1 = i ∧ ∃ s, slotAt xs0 i t.2.1 = some s ∧ s.bound = 0 ∧ t.2.2 = (lookP s.name 0 xs0).1
 | 0, t, h => by cases h
 | k + 1, t, h => by
  rw [todoS] at h
  rcases List.mem_append.1 h with h | h
  ·exact todoS_mem h
  ·unfold oneT at h
   split at h
   ·cases h
   ·rename_i s hs
    split at h
    ·rename_i hb
     rw [List.mem_singleton.1 h]
     exact ⟨rfl, s, hs, hb, rfl⟩
    ·cases h
theorem todoI_mem {xs0 : List ImgD} : ∀ {i : Nat} {t : Nat × Nat × Int}, t ∈ todoI xs0 i → ∃ s, slotAt xs0 t.1 t.2.1 = some s ∧ s.bound = 0 ∧ t.2.2 = (lookP s.name 0 xs0).1
 | 0, t, h => by cases h
 | i + 1, t, h => by
  rw [todoI] at h
  rcases List.mem_append.1 h with h | h
  ·exact todoI_mem h
  ·obtain ⟨h1, h2⟩ := todoS_mem h
   rw [← h1] at h2; exact h2
theorem runT_shapes : ∀ (T : List (Nat × Nat × Int)) (xs : List ImgD), shapes (runT T xs) = shapes xs
 | [], _ => rfl
 | t :: T, xs => by
  have := runT_shapes T (setB xs t.1 t.2.1 t.2.2)
  rw [show runT (t :: T) xs = runT T (setB xs t.1 t.2.1 t.2.2) from rfl, this, setB_shapes]
theorem runT_good : ∀ {T : List (Nat × Nat × Int)} {xs : List ImgD}, Good xs → (∀ t ∈ T, 0 ≤ t.2.2 ∧ t.2.2 ≤ 4294967296) → Good (runT T xs)
 | [], _, h, _ => h
 | t :: T, xs, h, ht => runT_good (T := T) (h.setB (ht t (List.mem_cons_self ..))) fun u hu => ht u (List.mem_cons_of_mem _ hu)
theorem runT_snoc {T : List (Nat × Nat × Int)} {j : Nat} (hj : j < T.length) (xs : List ImgD) : runT (T.take (j + 1)) xs = setB (runT (T.take j) xs) T[j].1 T[j].2.1 T[j].2.2 := by
 rw [List.take_succ_eq_append_getElem hj, runT_append]; rfl
theorem slotAt_shape {xs ys : List ImgD} (h : shapes xs = shapes ys) {i k : Nat} {s : SlotD} (hs : slotAt xs i k = some s) : ∃ y, ys[i]? = some y ∧ k < y.slots.length := by
 unfold slotAt at hs
 obtain ⟨x, hx, hk⟩ := Option.bind_eq_some_iff.1 hs
 obtain ⟨y, hy, e⟩ := shapes_at h hx
 obtain ⟨q, _⟩ := List.getElem?_eq_some_iff.1 hk
 have : x.slots.length = y.slots.length := congrArg Prod.snd e
 exact ⟨y, hy, by omega⟩
theorem slotAt_of {xs : List ImgD} {i k : Nat} {x : ImgD} (hx : xs[i]? = some x) (hk : k < x.slots.length) : slotAt xs i k = some x.slots[k] := by
 unfold slotAt; rw [hx, Option.bind_some, List.getElem?_eq_getElem hk]
theorem nslots_of {xs : List ImgD} {i : Nat} {x : ImgD} (hx : xs[i]? = some x) : nslots xs i = x.slots.length := by unfold nslots; rw [hx]; rfl
theorem okX_false {xs : List ImgD} {x : ImgD} (hx : x ∈ xs) {s : SlotD} (hs : s ∈ x.slots) (h : okS xs s = false) : allOk xs = false := by
 refine Bool.eq_false_iff.2 fun q => ?_
 have := List.all_eq_true.1 (List.all_eq_true.1 q x hx) s hs
 rw [h] at this; cases this
end Go.Proofs.OP
