/- Walks: Call, Bytes, Images, Entry of both sides. -/
import Derived.Test.YtloblhhnlaaajaaGreatDoorV15
import Derived.Test.YtloblhhnlaaajaaGreatDoorV31
import Derived.Test.YtloblhhnlaaajaaGreatDoorV27
import Derived.Test.YtloblhhnlaaajaaGreatDoorV17
set_option linter.unusedVariables false
set_option linter.unusedSimpArgs false
set_option linter.defProp false
set_option linter.unusedSimpArgs false
namespace Go.Proofs.OP
open Go Go.Ev
open Go.Proofs
open Nat (reduceLT reduceEqDiff)
variable {g : T (List V)}

theorem sat_copyB {E : Env} {h : H} {b : Nat} {vs : List V} {t e n m p : Nat} {c : Cp} {x : V} {ws : List V} {i ei : TI} {Q : V → H → Prop} (a : At h b 0 vs) (ht : E.tys.get t = some i) (hd : i.desc = .slice e) (he : E.tys.get e = some ei) (hsz : ei.size = 1)
  (hl : lenV x = some m) (hm : m ≤ n) (hc : srcCells E h 1 m x = some ws) (hw : ws.length = m) (hp : p + m ≤ vs.length) (h1 : ws.all V.one = true)
  (k : ∀ h', At h' b 0 (over vs p ws) → h'.next = h.next → Fix (· ≠ b) h h' → Q (.int .i64 m) h') : Sat1 (r1 (copyV E h t (.slice b p n c) x)) Q := by
 have := sat_copyA (p := p) (n := n) (c := c) a ht hd he hsz hl hm hc hw hp h1 k
 rwa [Nat.zero_add] at this
def Good (xs : List ImgD) : Prop := ∀ x ∈ xs, SmallI x
theorem Good.at {xs : List ImgD} (h : Good xs) {i : Nat} {x : ImgD} (hx : xs[i]? = some x) : SmallI x := h x (List.mem_of_getElem? hx)
theorem Good.exps {xs : List ImgD} (h : Good xs) : ∀ x ∈ xs, x.exps.length < 2 ^ 40 := fun x hx => by have := (h x hx).exps; omega
theorem Good.room {xs : List ImgD} (h : Good xs) {i k : Nat} {x : ImgD} (hx : xs[i]? = some x) (hk : k < x.slots.length) : x.base ≤ x.slots[k].addr ∧ x.slots[k].addr ≤ x.base + x.bytes.length - 8 ∧ 0 ≤ x.base ∧ x.base ≤ 2 ^ 32 ∧ x.bytes.length ≤ 2 ^ 32 := by
 have sm := h.at hx
 obtain ⟨a1, a2, -, a4, -⟩ := sm.head
 obtain ⟨b1, b2, -⟩ := sm.saddr _ (List.getElem_mem hk)
 exact ⟨b1, b2, a1, by omega, by omega⟩
theorem bindX_small {x : ImgD} (sm : SmallI x) {k : Nat} {a : Int} (ha : 0 ≤ a ∧ a ≤ 4294967296) : SmallI (bindX x k a) := by
 unfold bindX
 split
 ·exact sm
 ·rename_i s hs
  obtain ⟨hk, rfl⟩ := List.getElem?_eq_some_iff.1 hs
  have hm := List.getElem_mem hk
  obtain ⟨b1, b2, b3, b4⟩ := sm.saddr _ hm
  obtain ⟨a1, a2, a3, a4, a5, a6, a7, a8⟩ := sm.head
  have hl : (putAt x.bytes (x.slots[k].addr - x.base).toNat (leB (U a) 8)).length = x.bytes.length := putAt_length (by rw [leB_length]; omega)
  refine ⟨⟨a1, a2, a3, by show ((putAt x.bytes (x.slots[k].addr - x.base).toNat (leB (U a) 8)).length : Int) ≤ _; rw [hl]; exact a4, a5, by show _ ≤ ((putAt x.bytes (x.slots[k].addr - x.base).toNat (leB (U a) 8)).length : Int); rw [hl]; exact a6, a7, a8⟩, sm.exps, by simpa using sm.slots, sm.ename, fun s hs => ?_, sm.nname, fun s hs => by have := sm.eaddr s hs; show _ ∧ _ ≤ x.base + ((putAt _ _ _).length : Int); rw [hl]; exact this, fun s hs => ?_⟩
  ·rcases List.mem_or_eq_of_mem_set hs with q | rfl
   ·exact sm.sname s q
   ·show x.slots[k].name.length ≤ 64; exact sm.sname _ hm
  ·show _ ∧ _ ≤ x.base + ((putAt _ _ _).length : Int) - 8 ∧ _
   rw [hl]
   rcases List.mem_or_eq_of_mem_set hs with q | rfl
   ·exact sm.saddr s q
   ·exact ⟨b1, b2, ha.1, ha.2⟩
theorem Good.setB {xs : List ImgD} (h : Good xs) {i k : Nat} {a : Int} (ha : 0 ≤ a ∧ a ≤ 4294967296) : Good (setB xs i k a) := by
 unfold OP.setB
 split
 ·exact h
 ·rename_i x hx
  intro y hy
  rcases List.mem_or_eq_of_mem_set hy with q | rfl
  ·exact h y q
  ·exact bindX_small (h.at hx) ha
theorem lookP_addr {nm : List UInt8} : ∀ {xs : List ImgD} {n : Nat}, Good xs → (lookP nm n xs).2.2 = 0 → 0 ≤ (lookP nm n xs).1 ∧ (lookP nm n xs).1 ≤ 4294967296
 | [], n, _, h => by simp [lookP] at h
 | x :: r, n, hg, h => by
  rw [lookP] at h ⊢
  cases hx : expA nm x with
  | none =>
   rw [hx] at h
   exact lookP_addr (fun y hy => hg y (List.mem_cons_of_mem _ hy)) h
  | some a =>
   have sm := hg x (List.mem_cons_self ..)
   unfold expA at hx
   obtain ⟨e, he, rfl⟩ := Option.map_eq_some_iff.1 hx
   obtain ⟨k, _, hk⟩ := Option.bind_eq_some_iff.1 he
   have := sm.eaddr e (List.mem_of_getElem? hk)
   obtain ⟨a1, a2, -, a4, -⟩ := sm.head
   show 0 ≤ e.addr ∧ e.addr ≤ 4294967296
   omega
def callP (xs : List ImgD) (n : Int) (nm : List UInt8) : List ImgD × Int × Bool × Int :=
 if 0 ≤ n ∧ n < xs.length then match xs[n.toNat]? with
  | none => (xs, 0, false, 34)
  | some x => match fstI (fun s => s.name == nm) x.slots with
   | none => (xs, 0, false, 22)
   | some k => match x.slots[k]? with
    | none => (xs, 0, false, 22)
    | some s => if s.bound ≠ 0 then (xs, s.bound, false, 0) else if (lookP nm 0 xs).2.2 ≠ 0 then (xs, 0, false, (lookP nm 0 xs).2.2) else (setB xs n.toNat k (lookP nm 0 xs).1, (lookP nm 0 xs).1, true, 0)
 else (xs, 0, false, 34)
def callV (p : Int × Bool × Int) : V := .tuple [i64 p.1, .bool p.2.1, i64 p.2.2]
theorem callP_good {xs : List ImgD} {n : Int} {nm : List UInt8} (h : Good xs) : Good (callP xs n nm).1 := by
 unfold callP
 split
 ·split
  ·exact h
  ·split
   ·exact h
   ·split
    ·exact h
    ·split
     ·exact h
     ·split
      ·exact h
      ·rename_i q
       exact h.setB (lookP_addr h (by simpa using q))
 ·exact h
theorem callP_length {xs : List ImgD} {n : Int} {nm : List UInt8} : (callP xs n nm).1.length = xs.length := by
 unfold callP
 split
 ·split
  ·rfl
  ·split
   ·rfl
   ·split
    ·rfl
    ·split
     ·rfl
     ·split
      ·rfl
      ·exact setB_length _ _ _ _
 ·rfl
abbrev Rest (lo hi : Nat) (h h' : H) : Prop := Fix (fun b => b < h.next ∧ ¬ (lo ≤ b ∧ b < hi)) h h'

set_option maxRecDepth 100000 in
set_option maxHeartbeats 4000000 in
theorem call_ok {h : H} {lo hi pb sb : Nat} {sc : Cp} {tag : Nat → Nat} {cs : List Ic} {xs : List ImgD} {n : Int} {nm : List UInt8} (a : PM g h lo hi pb sb sc tag cs xs) (hx : xs.length < 2 ^ 40) (hg : Good xs) :
  WF (E g) 27 [.ptr pb 0, .int .i64 n, .str nm] h fun v h' => v = callV (callP xs n nm).2 ∧ PM g h' lo hi pb sb sc tag cs (callP xs n nm).1 ∧ Rest lo hi h h' := by
 refine WF.enter fn27 rfl ?_
 ((repeat refine WC.seq ?_); refine WC.run ?_)
 (try simp only [wk, wl, wx, reduceLT, reduceEqDiff, Nat.reduceBEq, reduceIte])
 refine wop_box (v := .str nm) (by (try simp only [wk, wl, wx, reduceLT, reduceEqDiff, Nat.reduceBEq, reduceIte])) ?_
 intro h1 b1 n1 f1
 (try simp only [wk, wl, wx, reduceLT, reduceEqDiff, Nat.reduceBEq, reduceIte])
 have a1 := a.kept f1
 have b1 : Has h1 h.next [.str nm] := b1
 have hh := a.his
 ((repeat refine WC.seq ?_); refine WC.run ?_)
 (try simp only [wk, wl, wx, reduceLT, reduceEqDiff, Nat.reduceBEq, reduceIte])
 refine (pimage_ok a1 hx).mono fun v h2 ⟨e2, e2'⟩ => ?_
 subst e2
 by_cases hn : 0 ≤ n ∧ n < xs.length
 ·rw [if_pos hn] at e2'
  subst e2'
  obtain ⟨i, rfl⟩ : ∃ i : Nat, n = (i : Int) := ⟨n.toNat, by omega⟩
  have hlt : i < xs.length := by omega
  simp only [Int.toNat_natCast]
  obtain ⟨c, hc⟩ := a1.ic hlt
  have hxi : xs[i]? = some xs[i] := List.getElem?_eq_getElem hlt
  have mi := a1.im i c xs[i] hc hxi
  have ac := a1.cell hc hxi
  have hsb := a1.sbt
  have sm := hg.at hxi
  have ssl := sm.slots
  (try simp only [wk, wl, wx, reduceLT, reduceEqDiff, Nat.reduceBEq, reduceIte])
  ((repeat refine WC.seq ?_); refine WC.run ?_)
  (try simp only [wk, wl, wx, reduceLT, reduceEqDiff, Nat.reduceBEq, reduceIte])
  (repeat refine WC.seq ?_)
  refine WC.cond (b := false) (by (try simp only [wk, wl, wx, reduceLT, reduceEqDiff, Nat.reduceBEq, reduceIte]); (try simp); (try omega)) (WC.skip ?_)
  (try simp only [wk, wl, wx, reduceLT, reduceEqDiff, Nat.reduceBEq, reduceIte])
  ((repeat refine WC.seq ?_); refine WC.run ?_)
  (try simp only [wk, wl, wx, reduceLT, reduceEqDiff, Nat.reduceBEq, reduceIte, fa56_5, ac.at ty54 rfl (j := 5) (by simp), w_makeFunc])
  refine (indexB_ok (P := fun s => s.name == nm) mi.im.slots (mi.im.inS.sub fun b hb => by omega) (by omega) (fun h' x k _ => nameS_ok (b1.fix k (by omega)) (by have := k.next; omega))).mono fun v h3 ⟨e3, f3⟩ => ?_
  subst e3
  have x3 := f3.next
  have a3 := a1.kept f3
  have mi3 := a3.im i c xs[i] hc hxi
  have ac3 := a3.cell hc hxi
  have b3 := b1.fix f3 (by omega)
  have F3 : Kept h h3 := f1.trans (f3.sub fun b hb => by omega)
  (try simp only [wk, wl, wx, reduceLT, reduceEqDiff, Nat.reduceBEq, reduceIte])
  ((repeat refine WC.seq ?_); refine WC.run ?_)
  (try simp only [wk, wl, wx, reduceLT, reduceEqDiff, Nat.reduceBEq, reduceIte])
  (repeat refine WC.seq ?_)
  cases hf : fstI (fun s => s.name == nm) xs[i].slots with
  | none =>
   have hik : idxI (fun s => s.name == nm) xs[i].slots = -1 := by rw [idxI, hf]
   rw [hik]
   refine WC.cond (b := true) (by (try simp only [wk, wl, wx, reduceLT, reduceEqDiff, Nat.reduceBEq, reduceIte]); (try simp); (try omega)) ?_
   ((repeat refine WC.seq ?_); refine WC.run ?_)
   (try simp only [wk, wl, wx, reduceLT, reduceEqDiff, Nat.reduceBEq, reduceIte])
   refine WC.ret ?_
   (try simp only [wk, wl, wx, reduceLT, reduceEqDiff, Nat.reduceBEq, reduceIte])
   have hcp : callP xs (i : Int) nm = (xs, 0, false, 22) := by
    unfold callP; rw [if_pos hn]; simp only [Int.toNat_natCast, hxi, hf]
   rw [hcp]
   exact ⟨by trivial, a3, F3.sub fun b hb => hb.1⟩
  | some k =>
   obtain ⟨hk, hkn⟩ := fstI_some hf
   have hik : idxI (fun s => s.name == nm) xs[i].slots = (k : Int) := by rw [idxI, hf]
   rw [hik]
   have hgs : xs[i].slots[k]? = some xs[i].slots[k] := List.getElem?_eq_getElem hk
   refine WC.cond (b := false) (by (try simp only [wk, wl, wx, reduceLT, reduceEqDiff, Nat.reduceBEq, reduceIte]); (try simp); (try omega)) (WC.skip ?_)
   (try simp only [wk, wl, wx, reduceLT, reduceEqDiff, Nat.reduceBEq, reduceIte])
   obtain ⟨sk, sn, es, sw⟩ := not_one_nil mi3.sw mi3.im.slots (by omega)
   have sa : At h3 sk 0 (xs[i].slots.flatMap slotV) := by
    have := mi3.im.slots
    rw [es] at this
    exact this.block (c := 0) (by omega)
   have sp := sa.part0 (p := k * 3) (q := 3) (by rw [flat_length' slotV_length]; omega)
   rw [flat_at' slotV_length hk] at sp
   have sp : At h3 sk (k * 3) [.str xs[i].slots[k].name, i64 xs[i].slots[k].addr, i64 xs[i].slots[k].bound] := sp
   have acs := ac3
   rw [es] at acs
   ((repeat refine WC.seq ?_); refine WC.run ?_)
   (try simp only [wk, wl, wx, reduceLT, reduceEqDiff, Nat.reduceBEq, reduceIte, hik, fa56_5, acs.at ty54 rfl (j := 5) (by simp), idx_slice ty54 rfl ty138 hk, Nat.zero_add, fa138_2, sp.at ty2 rfl (j := 2) (by simp)])
   ((repeat refine WC.seq ?_); refine WC.run ?_)
   (try simp only [wk, wl, wx, reduceLT, reduceEqDiff, Nat.reduceBEq, reduceIte, i64])
   (repeat refine WC.seq ?_)
   by_cases hb : xs[i].slots[k].bound = 0
   ·refine WC.cond (b := false) (by (try simp only [wk, wl, wx, reduceLT, reduceEqDiff, Nat.reduceBEq, reduceIte, hb]); (try simp); (try omega)) (WC.skip ?_)
    (try simp only [wk, wl, wx, reduceLT, reduceEqDiff, Nat.reduceBEq, reduceIte])
    ((repeat refine WC.seq ?_); refine WC.run ?_)
    (try simp only [wk, wl, wx, reduceLT, reduceEqDiff, Nat.reduceBEq, reduceIte, b3.at ty9 rfl])
    refine (lookup_ok (nm := nm) a3 hx hg.exps).mono fun v h4 ⟨e4, f4⟩ => ?_
    subst e4
    have x4 := f4.next
    have a4 := a3.kept f4
    have F4 : Kept h h4 := F3.trans (f4.sub fun b hb => by omega)
    (try simp only [wk, wl, wx, reduceLT, reduceEqDiff, Nat.reduceBEq, reduceIte, lookV, i64])
    ((repeat refine WC.seq ?_); refine WC.run ?_)
    (try simp only [wk, wl, wx, reduceLT, reduceEqDiff, Nat.reduceBEq, reduceIte])
    (repeat refine WC.seq ?_)
    by_cases hl : (lookP nm 0 xs).2.2 = 0
    ·refine WC.cond (b := false) (by (try simp only [wk, wl, wx, reduceLT, reduceEqDiff, Nat.reduceBEq, reduceIte, hl]); (try simp); (try omega)) (WC.skip ?_)
     (try simp only [wk, wl, wx, reduceLT, reduceEqDiff, Nat.reduceBEq, reduceIte])
     ((repeat refine WC.seq ?_); refine WC.run ?_)
     (try simp only [wk, wl, wx, reduceLT, reduceEqDiff, Nat.reduceBEq, reduceIte, hik])
     refine (set_ok a4 hc hxi hk (hg.room hxi hk)).mono fun v h5 ⟨a5, f5⟩ => ?_
     have x5 := f5.next
     (try simp only [wk, wl, wx, reduceLT, reduceEqDiff, Nat.reduceBEq, reduceIte])
     ((repeat refine WC.seq ?_); refine WC.run ?_)
     (try simp only [wk, wl, wx, reduceLT, reduceEqDiff, Nat.reduceBEq, reduceIte])
     refine WC.ret ?_
     (try simp only [wk, wl, wx, reduceLT, reduceEqDiff, Nat.reduceBEq, reduceIte])
     have hcp : callP xs (i : Int) nm = (setB xs i k (lookP nm 0 xs).1, (lookP nm 0 xs).1, true, 0) := by
      unfold callP; rw [if_pos hn]; simp only [Int.toNat_natCast, hxi, hf, hgs]
      rw [if_neg (by simp [hb]), if_neg (by simp [hl])]
     rw [hcp]
     exact ⟨by trivial, a5, ⟨by omega, fun b hb => by rw [f5.same b ⟨by omega, hb.2⟩, F4.same b hb.1]⟩⟩
    ·refine WC.cond (b := true) (by (try simp only [wk, wl, wx, reduceLT, reduceEqDiff, Nat.reduceBEq, reduceIte, hl]); (try simp); (try omega)) ?_
     ((repeat refine WC.seq ?_); refine WC.run ?_)
     (try simp only [wk, wl, wx, reduceLT, reduceEqDiff, Nat.reduceBEq, reduceIte])
     refine WC.ret ?_
     (try simp only [wk, wl, wx, reduceLT, reduceEqDiff, Nat.reduceBEq, reduceIte])
     have hcp : callP xs (i : Int) nm = (xs, 0, false, (lookP nm 0 xs).2.2) := by
      unfold callP; rw [if_pos hn]; simp only [Int.toNat_natCast, hxi, hf, hgs]
      rw [if_neg (by simp [hb]), if_pos hl]
     rw [hcp]
     exact ⟨by trivial, a4, F4.sub fun b hb => hb.1⟩
   ·refine WC.cond (b := true) (by (try simp only [wk, wl, wx, reduceLT, reduceEqDiff, Nat.reduceBEq, reduceIte, hb]); (try simp); (try omega)) ?_
    ((repeat refine WC.seq ?_); refine WC.run ?_)
    (try simp only [wk, wl, wx, reduceLT, reduceEqDiff, Nat.reduceBEq, reduceIte])
    refine WC.ret ?_
    (try simp only [wk, wl, wx, reduceLT, reduceEqDiff, Nat.reduceBEq, reduceIte])
    have hcp : callP xs (i : Int) nm = (xs, xs[i].slots[k].bound, false, 0) := by
     unfold callP; rw [if_pos hn]; simp only [Int.toNat_natCast, hxi, hf, hgs]
     rw [if_pos hb]
    rw [hcp]
    exact ⟨by trivial, a3, F3.sub fun b hb => hb.1⟩
 ·rw [if_neg hn] at e2'
  subst e2'
  (try simp only [wk, wl, wx, reduceLT, reduceEqDiff, Nat.reduceBEq, reduceIte])
  ((repeat refine WC.seq ?_); refine WC.run ?_)
  (try simp only [wk, wl, wx, reduceLT, reduceEqDiff, Nat.reduceBEq, reduceIte])
  (repeat refine WC.seq ?_)
  refine WC.cond (b := true) (by (try simp only [wk, wl, wx, reduceLT, reduceEqDiff, Nat.reduceBEq, reduceIte]); (try simp); (try omega)) ?_
  ((repeat refine WC.seq ?_); refine WC.run ?_)
  (try simp only [wk, wl, wx, reduceLT, reduceEqDiff, Nat.reduceBEq, reduceIte])
  refine WC.ret ?_
  (try simp only [wk, wl, wx, reduceLT, reduceEqDiff, Nat.reduceBEq, reduceIte])
  have hcp : callP xs n nm = (xs, 0, false, 34) := by unfold callP; rw [if_neg hn]
  rw [hcp]
  exact ⟨by trivial, a1, f1.sub fun b hb => hb.1⟩

set_option maxRecDepth 100000 in
set_option maxHeartbeats 4000000 in
theorem rbind_ok {h : H} {lo hi pb sb : Nat} {sc : Cp} {tag : Nat → Nat} {cs : List Ic} {xs : List ImgD} (a : PM g h lo hi pb sb sc tag cs xs) {i k : Nat} {c : Ic} {x : ImgD} {ad : Int} (hc : cs[i]? = some c) (hx : xs[i]? = some x) (hk : k < x.slots.length)
  (hr : x.base ≤ x.slots[k].addr ∧ x.slots[k].addr ≤ x.base + x.bytes.length - 8 ∧ 0 ≤ x.base ∧ x.base ≤ 2 ^ 32 ∧ x.bytes.length ≤ 2 ^ 32) :
  WF (E g) 83 [.ptr pb 0, .int .i64 i, .int .i64 k, .int .i64 ad] h fun _ h' => PM g h' lo hi pb sb sc tag cs (setB xs i k ad) ∧ Rest lo hi h h' := by
 have mi := a.im i c x hc hx
 have hh := a.his
 have hsb := a.sbt
 have hpb := a.pbt
 obtain ⟨hi', _⟩ := List.getElem?_eq_some_iff.1 hx
 obtain ⟨sk, sn, es, sw⟩ := not_one_nil mi.sw mi.im.slots (by omega)
 obtain ⟨bk, bn, eb, bw⟩ := not_one_nil mi.bw mi.im.bytes (by omega)
 obtain ⟨s1, s2⟩ := mi.st _ _ _ _ es
 obtain ⟨b1, b2⟩ := mi.bt _ _ _ _ eb
 have s3 := mi.im.inS _ _ _ _ es
 have b3 := mi.im.inB _ _ _ _ eb
 have hsb1 : sb ≠ sk := fun e => by rw [e] at hsb; omega
 have hsb2 : sb ≠ bk := fun e => by rw [e] at hsb; omega
 have hsbk : sk ≠ bk := fun e => by rw [e] at s2; omega
 have ac := a.cell hc hx
 have l0 : loadP (E g) h 65 (.ptr pb 0) = some (.slice sb 0 xs.length sc) := a.has.at ty65 rfl 0
 have sa : At h sk 0 (x.slots.flatMap slotV) := by
  have := mi.im.slots
  rw [es] at this
  exact this.block (c := 0) (by omega)
 have ba : At h bk 0 (x.bytes.map u8) := by
  have := mi.im.bytes
  rw [eb] at this
  exact this.block (c := 0) (by omega)
 rw [es, eb] at ac
 refine WF.enter fn83 rfl ?_
 ((repeat refine WC.seq ?_); refine WC.run ?_)
 (try simp only [wk, wl, wx, reduceLT, reduceEqDiff, Nat.reduceBEq, reduceIte, fa149_0, Nat.zero_add, l0, idx_slice ty65 rfl ty50 hi'])
 ((repeat refine WC.seq ?_); refine WC.run ?_)
 (try simp only [wk, wl, wx, reduceLT, reduceEqDiff, Nat.reduceBEq, reduceIte, fa50_5, ac.at ty48 rfl (j := 5) (by simp), idx_slice ty48 rfl ty136 hk, Nat.zero_add, fa136_2])
 refine sat_storeB (p := k * 3 + 2) (v := .int .i64 ad) sa ty2 rfl (by rw [flat_length' slotV_length]; show k * 3 + 2 + 1 ≤ _; omega) rfl (by decide) ?_
 intro h1 sa1 n1 f1
 have sa1 : At h1 sk 0 ((x.slots.set k (setS x.slots[k] ad)).flatMap slotV) := by
  rw [← slots_set hk ad]; exact sa1
 have ac1 := ac.fix f1 hsb1
 have ba1 := ba.fix f1 (Ne.symm hsbk)
 have hl : ((x.slots.set k (setS x.slots[k] ad)).flatMap slotV).length = x.slots.length * 3 := by rw [flat_length' slotV_length, List.length_set]
 have sp1 := sa1.part0 (p := k * 3) (q := 3) (by rw [hl]; omega)
 rw [flat_at' slotV_length (k := k) (by rw [List.length_set]; exact hk), List.getElem_set_self] at sp1
 have sp1 : At h1 sk (k * 3) [.str x.slots[k].name, i64 x.slots[k].addr, i64 ad] := sp1
 obtain ⟨l, hl⟩ : ∃ l : Nat, x.slots[k].addr - x.base = (l : Int) := ⟨(x.slots[k].addr - x.base).toNat, by omega⟩
 have hw : IntKind.i64.wrap (x.slots[k].addr - x.base) = (l : Int) := by rw [wrap64 (by omega) (by omega), hl]
 obtain ⟨c', hsl⟩ := slice_from (E := E g) (b := bk) (o := 0) (k := .i64) ty22 rfl (sizeOf_of ty5) bw (show l < x.bytes.length by omega)
 simp only [Nat.zero_add, Nat.mul_one] at hsl
 (try simp only [wk, wl, wx, reduceLT, reduceEqDiff, Nat.reduceBEq, reduceIte])
 ((repeat refine WC.seq ?_); refine WC.draw (plans := pl83_2) (by kernel_rfl) ?_; simp only [pl83_2, List.mem_cons, List.not_mem_nil, or_false, forall_eq_or_imp, forall_eq])
 (try simp (maxSteps := 2000000) only [wk, wl, wx, reduceLT, reduceEqDiff, Nat.reduceBEq, reduceIte, wd, Chk, and_true, true_and, fa50_0, fa50_1, fa50_5, ac1.at ty22 rfl (j := 1) (by simp), ac1.at ty2 rfl (j := 0) (by simp), ac1.at ty48 rfl (j := 5) (by simp), idx_slice ty48 rfl ty136 hk, Nat.zero_add, fa136_1, sp1.at ty2 rfl (j := 1) (by simp), i64, bin_sub, hw, hsl])
 refine (put_ok (k := 8) (n := ad) (s := .nils) (xs := []) .nil In.nils (by omega) (by simp)).mono fun v h2 g2 => ?_
 have x2 := g2.fix.next
 have k2 : Kept h1 h2 := g2.fix.sub fun b hb => ⟨hb, fun o m cc e => by cases e⟩
 have ac2 := ac1.fix k2 (by omega)
 have sp2 := sp1.fix k2 (by omega)
 have ba2 := ba1.fix k2 (by omega)
 (try simp (maxSteps := 2000000) only [wk, wl, wx, reduceLT, reduceEqDiff, Nat.reduceBEq, reduceIte, wd, Chk, and_true, true_and, fa50_0, fa50_1, fa50_5, ac2.at ty22 rfl (j := 1) (by simp), ac2.at ty2 rfl (j := 0) (by simp), ac2.at ty48 rfl (j := 5) (by simp), idx_slice ty48 rfl ty136 hk, Nat.zero_add, fa136_1, sp2.at ty2 rfl (j := 1) (by simp), i64, bin_sub, hw, hsl])
 refine sat_copyB (m := 8) (ws := (leB (U ad) 8).map u8) ba2 ty22 rfl ty5 rfl (by have := g2.buf.sl.len; simpa [leB_length] using this) (by omega) (by have := g2.buf.sl.cells; simpa [leB_length] using this) (by simp [leB_length]) (by simp; omega) (u8_one _) ?_
 intro h3 ba3 n3 f3
 rw [← putAt_over] at ba3
 (try simp (maxSteps := 2000000) only [wk, wl, wx, reduceLT, reduceEqDiff, Nat.reduceBEq, reduceIte, wd, Chk, and_true, true_and])
 refine ⟨a.set hc hx hk es eb ⟨by omega, fun b hb => by rw [f3.same b hb.2.2, k2.same b (by omega), f1.same b hb.2.1]⟩ ((sa1.fix k2 (by omega)).fix f3 hsbk) ?_ (by omega), ⟨by omega, fun b hb => by rw [f3.same b (fun e => by omega), k2.same b (by omega), f1.same b (fun e => by omega)]⟩⟩
 have : (x.slots[k].addr - x.base).toNat = l := by omega
 rw [this]; exact ba3
end Go.Proofs.OP
