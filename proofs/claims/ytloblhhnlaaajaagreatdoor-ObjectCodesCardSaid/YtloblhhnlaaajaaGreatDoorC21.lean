/- Walks: Encode. -/
import Derived.Test.YtloblhhnlaaajaaGreatDoorB13
import Derived.Test.YtloblhhnlaaajaaGreatDoorC19
set_option linter.unusedVariables false
set_option linter.unusedSimpArgs false
set_option linter.defProp false
set_option linter.unusedSimpArgs false
namespace Go.Proofs.OP
open Go Go.Ev
open Go.Proofs
open Nat (reduceLT reduceEqDiff)
variable {g : T (List V)}

theorem Wr.sub' {h : H} {S S' : Nat → Prop} {wb : Nat} {xs : List UInt8} (w : Wr g h S wb xs) (hs : ∀ b, b < h.next → b ≠ wb → S b → S' b) : Wr g h S' wb xs := by
  obtain ⟨s, a1, a2, a3⟩ := w
  exact ⟨s, a1, a2, a3.sub fun b hb => ⟨hs b hb.2.2 hb.2.1 hb.1, hb.2.1, hb.2.2⟩⟩
theorem txt1_len (s : List UInt8) : (txtB [s]).length = 8 + s.length := by simp [txtB, leB_length]
theorem magB_len (k : Nat) : (magB k).length = 4 := by match k with | 0 => rfl | _ + 1 => rfl
theorem bytB_txt : ∀ (L : List (V × List UInt8)), bytB L = txtB (L.map (·.2))
  | [] => rfl
  | p :: r => by
    have := bytB_txt r
    simp only [bytB, txtB, List.flatMap_cons, List.map_cons] at *
    rw [this]
theorem txtB_append (a b : List (List UInt8)) : txtB (a ++ b) = txtB a ++ txtB b := by simp [txtB]
theorem numB_append (a b : List Int) : numB (a ++ b) = numB a ++ numB b := by simp [numB]
def symB (s : SymD) : List UInt8 := txtB [s.name] ++ numB [s.sec, s.off, bitsI s.glob s.weak]
def relB (r : RelD) : List UInt8 := numB [r.sec, r.off, r.kind] ++ txtB [r.sym] ++ numB [r.add]
def encP (o : ObjD) : List UInt8 := magB 0 ++ txtB [o.name] ++ txtB [o.code, o.data] ++ numB [(o.syms.length : Int)] ++ o.syms.flatMap symB ++ numB [(o.rels.length : Int)] ++ o.rels.flatMap relB ++ numB [(o.needs.length : Int)] ++ txtB o.needs ++ txtB [o.entry]
def encB (o : ObjD) : List UInt8 := sealB (encP o)
theorem flatB_snoc {α : Type} (f : α → List UInt8) {L : List α} {i : Nat} (hi : i < L.length) : (L.take (i + 1)).flatMap f = (L.take i).flatMap f ++ f L[i] := by
  rw [List.take_succ_eq_append_getElem hi, List.flatMap_append, List.flatMap_cons, List.flatMap_nil, List.append_nil]
theorem flatB_len {α : Type} {f : α → List UInt8} {B : Nat} : ∀ {L : List α}, (∀ x ∈ L, (f x).length ≤ B) → (L.flatMap f).length ≤ B * L.length
  | [], _ => by simp
  | x :: r, h => by
    have ih := flatB_len (L := r) fun q hq => h q (List.mem_cons_of_mem _ hq)
    have h0 := h x (List.mem_cons_self ..)
    simp only [List.flatMap_cons, List.length_append, List.length_cons, Nat.mul_succ] at *
    omega
theorem fill_two {v w z : V} (hv : v.cells = [v]) (hw : w.cells = [w]) : fillAll (fun k => some (k * 1, 1)) (repL [z] 2) [(0, v), (1, w)] = some [v, w] := by
  simp [fillAll, repL, hv, hw, fillL]; rfl
theorem fill_three {v w u z : V} (hv : v.cells = [v]) (hw : w.cells = [w]) (hu : u.cells = [u]) : fillAll (fun k => some (k * 1, 1)) (repL [z] 3) [(0, v), (1, w), (2, u)] = some [v, w, u] := by
  simp [fillAll, repL, hv, hw, hu, fillL]; rfl
theorem lit_in {h1 : H} {n0 m wb q n : Nat} {c : Cp} (h1' : m < h1.next) (h2 : wb < m) : In (fun b => b < h1.next ∧ b ≠ wb ∧ (b < n0 ∨ m ≤ b ∨ b = q)) (.slice m 0 n c) := fun b o n c e => by
  injection e with e; subst e; exact ⟨h1', by omega, .inr (.inl (Nat.le_refl _))⟩
theorem lit_in' {h1 : H} {n0 k m wb q n : Nat} {c : Cp} (h1' : m < h1.next) (h2 : wb < k) (h3 : k ≤ m) : In (fun b => b < h1.next ∧ b ≠ wb ∧ (b < n0 ∨ k ≤ b ∨ b = q)) (.slice m 0 n c) := fun b o n c e => by
  injection e with e; subst e; exact ⟨h1', by omega, .inr (.inl h3)⟩
theorem txt2_len (s t : List UInt8) : (txtB [s, t]).length = 16 + s.length + t.length := by simp [txtB, leB_length]; omega

set_option maxRecDepth 100000 in
set_option maxHeartbeats 8000000 in
theorem encode_ok {h : H} {c : Oc} {o : ObjD} (hg : g.get 0 = some magG) (ob : Ob g h (· < h.next) c o) (fit : Fits o) :
    WF (E g) 11 [.agg (c.cells o)] h fun v h' => Kept h h' ∧ (checkE o ≠ 0 → v = .tuple [.nils, i64 (checkE o)]) ∧ (checkE o = 0 → ∃ s, v = .tuple [s, i64 0] ∧ BufB g h' s (encB o) ∧ In (fun b => h.next ≤ b ∧ b < h'.next) s) := by
  refine WF.enter fn11 rfl ?_
  ((repeat refine WC.seq ?_); refine WC.run ?_)
  (try simp only [wk, wl, wx, reduceLT, reduceEqDiff, Nat.reduceBEq, reduceIte])
  refine wop_box (v := .agg (c.cells o)) (by (try simp only [wk, wl, wx, reduceLT, reduceEqDiff, Nat.reduceBEq, reduceIte])) ?_
  intro h1 b1 n1 f1
  (try simp only [wk, wl, wx, reduceLT, reduceEqDiff, Nat.reduceBEq, reduceIte])
  have l1 : loadP (E g) h1 35 (.ptr h.next 0) = some (.agg (c.cells o)) := b1.agg ty35 rfl (Nat.le_refl 7)
  have b1 : Has h1 h.next [.str o.name, c.code, c.data, c.syms, c.rels, c.needs, .str o.entry] := b1
  have ob1 := (ob.fix f1 (fun _ h => h)).up (K' := (· < h1.next)) (fun _ h => by omega)
  ((repeat refine WC.seq ?_); refine WC.run ?_)
  (try simp only [wk, wl, wx, reduceLT, reduceEqDiff, Nat.reduceBEq, reduceIte, l1])
  refine (check_ok ob1 fit).mono fun v h3 ⟨e3, f3⟩ => ?_
  subst e3
  have x3 := f3.next
  have b3 := b1.fix f3 (by omega)
  have ob3 := (ob1.fix f3 (fun _ h => h)).up (K' := (· < h3.next)) (fun _ h => by omega)
  (try simp only [wk, wl, wx, reduceLT, reduceEqDiff, Nat.reduceBEq, reduceIte])
  ((repeat refine WC.seq ?_); refine WC.run ?_)
  (try simp only [wk, wl, wx, reduceLT, reduceEqDiff, Nat.reduceBEq, reduceIte, i64])
  (repeat refine WC.seq ?_)
  rcases (Decidable.em (checkE o = 0)).symm with hce | hce
  · refine WC.cond (b := true) (by (try simp only [wk, wl, wx, reduceLT, reduceEqDiff, Nat.reduceBEq, reduceIte, hce]); (try simp); (try omega)) ?_
    ((repeat refine WC.seq ?_); refine WC.run ?_)
    (try simp only [wk, wl, wx, reduceLT, reduceEqDiff, Nat.reduceBEq, reduceIte])
    refine WC.ret ?_
    (try simp only [wk, wl, wx, reduceLT, reduceEqDiff, Nat.reduceBEq, reduceIte])
    exact ⟨f1.trans (f3.sub fun b hb => by omega), fun _ => by trivial, fun q => absurd q hce⟩
  refine WC.cond (b := false) (by (try simp only [wk, wl, wx, reduceLT, reduceEqDiff, Nat.reduceBEq, reduceIte, hce]); (try simp); (try omega)) (WC.skip ?_)
  (try simp only [wk, wl, wx, reduceLT, reduceEqDiff, Nat.reduceBEq, reduceIte])
  have sm := small_of hce
  have s1 := sm.name
  have s2 := sm.entry
  have s3 := sm.code
  have s4 := sm.data
  have s5 := sm.syms
  have s6 := sm.rels
  have s7 := sm.needs
  ((repeat refine WC.seq ?_); refine WC.run ?_)
  (try simp only [wk, wl, wx, reduceLT, reduceEqDiff, Nat.reduceBEq, reduceIte])
  refine (begin_ok (k := 0) hg (by decide)).mono fun v h4 ⟨wb, e4, w1, w2, w4, F4⟩ => ?_
  subst e4
  have x4 := F4.next
  have w4 : Wr g h4 (Sx h3.next h4.next wb) wb (magB 0) := w4.sub' fun b hb hn hs => ⟨hs, hb, hn⟩
  have b4 := b3.fix F4 (by omega)
  have ob4 := ob3.fix F4 (fun _ h => h)
  (try simp only [wk, wl, wx, reduceLT, reduceEqDiff, Nat.reduceBEq, reduceIte])
  ((repeat refine WC.seq ?_); refine WC.run ?_)
  (try simp only [wk, wl, wx, reduceLT, reduceEqDiff, Nat.reduceBEq, reduceIte, fa35_0, fa35_1, fa35_2, fa35_3, fa35_4, fa35_5, fa35_6, Nat.zero_add, b4.at ty9 rfl, b4.at ty22 rfl, b4.at ty32 rfl, b4.at ty33 rfl, b4.at ty25 rfl, Sl.lenB ob4.syms ty32 rfl, Sl.lenB ob4.rels ty33 rfl, Sl.lenB ob4.needs ty25 rfl])
  refine sat_slice1 ty25 rfl ty9 rfl rfl rfl ?_
  intro h4a l4 n4a f4a
  (try simp only [wk, wl, wx, reduceLT, reduceEqDiff, Nat.reduceBEq, reduceIte, fa35_0, fa35_1, fa35_2, fa35_3, fa35_4, fa35_5, fa35_6, Nat.zero_add, b4.at ty9 rfl, b4.at ty22 rfl, b4.at ty32 rfl, b4.at ty33 rfl, b4.at ty25 rfl, Sl.lenB ob4.syms ty32 rfl, Sl.lenB ob4.rels ty33 rfl, Sl.lenB ob4.needs ty25 rfl])
  refine (texts1_ok (L := [o.name]) (n0 := h3.next) (q := wb) w4 (by omega) (by omega) (by omega) f4a l4.sl (lit_in (by omega) (by omega)) (by simp; omega) (by simp) (by simp only [List.length_append, magB_len, txt1_len, numB_length, List.length_cons, List.length_nil, Nat.mul_one, bytB_txt, List.map_cons, List.map_nil, txt2_len]; omega)).mono fun v h5 ⟨w5, f5⟩ => ?_
  have F5 : Fix (· < h3.next) h3 h5 := F4.trans (f5.sub fun b hb => ⟨by omega, .inl hb, by omega⟩)
  have x5 := f5.next
  have b5 := b3.fix F5 (by omega)
  have ob5 := ob3.fix F5 (fun _ h => h)
  (try simp only [wk, wl, wx, reduceLT, reduceEqDiff, Nat.reduceBEq, reduceIte])
  ((repeat refine WC.seq ?_); refine WC.run ?_)
  (try simp only [wk, wl, wx, reduceLT, reduceEqDiff, Nat.reduceBEq, reduceIte, fa35_0, fa35_1, fa35_2, fa35_3, fa35_4, fa35_5, fa35_6, Nat.zero_add, b5.at ty9 rfl, b5.at ty22 rfl, b5.at ty32 rfl, b5.at ty33 rfl, b5.at ty25 rfl, Sl.lenB ob5.syms ty32 rfl, Sl.lenB ob5.rels ty33 rfl, Sl.lenB ob5.needs ty25 rfl])
  refine sat_buildSlice (cs := [c.code, c.data]) (n := 2) ty182 rfl ty22 rfl (by decide) (by decide) (fill_two ob5.code.one.1 ob5.data.one.1) rfl ?_
  intro h5a l5 n5a f5a
  (try simp only [wk, wl, wx, reduceLT, reduceEqDiff, Nat.reduceBEq, reduceIte, fa35_0, fa35_1, fa35_2, fa35_3, fa35_4, fa35_5, fa35_6, Nat.zero_add, b5.at ty9 rfl, b5.at ty22 rfl, b5.at ty32 rfl, b5.at ty33 rfl, b5.at ty25 rfl, Sl.lenB ob5.syms ty32 rfl, Sl.lenB ob5.rels ty33 rfl, Sl.lenB ob5.needs ty25 rfl])
  refine (bytes1_ok (L := [(c.code, o.code), (c.data, o.data)]) (n0 := h3.next) (q := wb) w5 (by omega) (by omega) (by omega) f5a l5.sl (lit_in (by omega) (by omega)) (fun p hp => by
      have q1 : Bs g h5a c.code o.code ∧ In (fun b => b < h5a.next ∧ b ≠ wb ∧ (b < h3.next ∨ h5.next ≤ b ∨ b = wb)) c.code := ⟨Sl.fix (ob5.code) ob5.inC (f5a.sub fun b hb => by omega), ob5.inC.sub fun b hb => ⟨by omega, by omega, .inl hb⟩⟩
      have q2 : Bs g h5a c.data o.data ∧ In (fun b => b < h5a.next ∧ b ≠ wb ∧ (b < h3.next ∨ h5.next ≤ b ∨ b = wb)) c.data := ⟨Sl.fix (ob5.data) ob5.inD (f5a.sub fun b hb => by omega), ob5.inD.sub fun b hb => ⟨by omega, by omega, .inl hb⟩⟩
      rcases List.mem_cons.1 hp with rfl | hp
      · exact ⟨q1.1, q1.2, by show o.code.length ≤ _; omega⟩
      · rw [List.mem_singleton.1 hp]; exact ⟨q2.1, q2.2, by show o.data.length ≤ _; omega⟩) (by simp) (by simp only [List.length_append, magB_len, txt1_len, numB_length, List.length_cons, List.length_nil, Nat.mul_one, bytB_txt, List.map_cons, List.map_nil, txt2_len]; omega)).mono fun v h6 ⟨w6, f6⟩ => ?_
  have F6 : Fix (· < h3.next) h3 h6 := F5.trans (f6.sub fun b hb => ⟨by omega, .inl hb, by omega⟩)
  have x6 := f6.next
  have b6 := b3.fix F6 (by omega)
  have ob6 := ob3.fix F6 (fun _ h => h)
  (try simp only [wk, wl, wx, reduceLT, reduceEqDiff, Nat.reduceBEq, reduceIte])
  ((repeat refine WC.seq ?_); refine WC.run ?_)
  (try simp only [wk, wl, wx, reduceLT, reduceEqDiff, Nat.reduceBEq, reduceIte, fa35_0, fa35_1, fa35_2, fa35_3, fa35_4, fa35_5, fa35_6, Nat.zero_add, b6.at ty9 rfl, b6.at ty22 rfl, b6.at ty32 rfl, b6.at ty33 rfl, b6.at ty25 rfl, Sl.lenB ob6.syms ty32 rfl, Sl.lenB ob6.rels ty33 rfl, Sl.lenB ob6.needs ty25 rfl])
  refine sat_slice1 ty183 rfl ty2 rfl rfl rfl ?_
  intro h6a l6 n6a f6a
  (try simp only [wk, wl, wx, reduceLT, reduceEqDiff, Nat.reduceBEq, reduceIte, fa35_0, fa35_1, fa35_2, fa35_3, fa35_4, fa35_5, fa35_6, Nat.zero_add, b6.at ty9 rfl, b6.at ty22 rfl, b6.at ty32 rfl, b6.at ty33 rfl, b6.at ty25 rfl, Sl.lenB ob6.syms ty32 rfl, Sl.lenB ob6.rels ty33 rfl, Sl.lenB ob6.needs ty25 rfl])
  refine (numbers1_ok (L := [(o.syms.length : Int)]) (n0 := h3.next) (q := wb) w6 (by omega) (by omega) (by omega) f6a l6.sl (lit_in (by omega) (by omega)) (by simp only [List.length_append, magB_len, txt1_len, numB_length, List.length_cons, List.length_nil, Nat.mul_one, bytB_txt, List.map_cons, List.map_nil, txt2_len]; omega)).mono fun v h7 ⟨w7, f7⟩ => ?_
  have F7 : Fix (· < h3.next) h3 h7 := F6.trans (f7.sub fun b hb => ⟨by omega, .inl hb, by omega⟩)
  have x7 := f7.next
  have b7 := b3.fix F7 (by omega)
  have ob7 := ob3.fix F7 (fun _ h => h)
  (try simp only [wk, wl, wx, reduceLT, reduceEqDiff, Nat.reduceBEq, reduceIte])
  generalize hX : magB 0 ++ txtB [o.name] ++ bytB [(c.code, o.code), (c.data, o.data)] ++ numB [(o.syms.length : Int)] = X at w7
  have lX : X.length ≤ 40000 := by rw [← hX]; simp only [List.length_append, magB_len, txt1_len, numB_length, List.length_cons, List.length_nil, Nat.mul_one, bytB_txt, List.map_cons, List.map_nil, txt2_len]; omega
  ((repeat refine WC.seq ?_); refine WC.run ?_)
  (try simp only [wk, wl, wx, reduceLT, reduceEqDiff, Nat.reduceBEq, reduceIte, fa35_0, fa35_1, fa35_2, fa35_3, fa35_4, fa35_5, fa35_6, Nat.zero_add, b7.at ty9 rfl, b7.at ty22 rfl, b7.at ty32 rfl, b7.at ty33 rfl, b7.at ty25 rfl, Sl.lenB ob7.syms ty32 rfl, Sl.lenB ob7.rels ty33 rfl, Sl.lenB ob7.needs ty25 rfl])
  (repeat refine WC.seq ?_)
  refine WC.block ?_
  refine WC.while (fun m fr hh => ∃ ts i, fr = ⟨ts, 110, [], 11, none⟩ ∧ Fix (· < h3.next) h3 hh ∧ m = o.syms.length - i ∧ i ≤ o.syms.length ∧ ts.get 1 = some (.ptr h.next 0) ∧ ts.get 5 = some (.ptr wb 0) ∧ ts.get 35 = some c.syms ∧ ts.get 36 = some (.int .i64 o.syms.length) ∧ ts.get 37 = some (.int .i64 i) ∧ wb < hh.next ∧ Wr g hh (Sx h3.next hh.next wb) wb (X ++ (o.syms.take i).flatMap symB)) ?_ ⟨_, 0, rfl, F7, rfl, by omega, ?_, ?_, ?_, ?_, ?_, by omega, by simpa using w7⟩
  · rintro m fr hh ⟨ts, i, rfl, ff, rfl, hi, t1, t5, t35, t36, t37, wn, wr⟩
    have xh := ff.next
    have bh := b3.fix ff (by omega)
    have obh := ob3.fix ff (fun _ h => h)
    ((repeat refine WC.seq ?_); refine WC.run ?_)
    (try simp only [wk, wl, wx, reduceLT, reduceEqDiff, Nat.reduceBEq, reduceIte, t36, t37])
    (repeat refine WC.seq ?_)
    by_cases hlt : i < o.syms.length
    · refine WC.cond (b := true) (by (try simp only [wk, wl, wx, reduceLT, reduceEqDiff, Nat.reduceBEq, reduceIte]); (try simp); (try omega)) (WC.skip ?_)
      (try simp only [wk, wl, wx, reduceLT, reduceEqDiff, Nat.reduceBEq, reduceIte])
      have hsl := sm.sname _ (List.getElem_mem hlt)
      have lY : ((o.syms.take i).flatMap symB).length ≤ 96 * o.syms.length := by
        refine Nat.le_trans (flatB_len (B := 96) fun x hx => ?_) (Nat.mul_le_mul_left _ (by simp; omega))
        have := sm.sname x (List.mem_of_mem_take hx)
        simp only [symB, List.length_append, txt1_len, numB_length, List.length_cons, List.length_nil]; omega
      obtain ⟨p, p1, p2⟩ := obh.syms.at (fun _ => rfl) ty32 rfl ty92 rfl (by decide) rfl hlt
      have p2 := p2 hh fun _ _ _ _ _ => rfl
      (repeat refine WC.seq ?_)
      refine WC.block ?_
      ((repeat refine WC.seq ?_); refine WC.run ?_)
      (try simp only [wk, wl, wx, reduceLT, reduceEqDiff, Nat.reduceBEq, reduceIte, t35, t37, p1, p2])
      refine wop_alloc ty92 ?_
      intro h8 b8 n8 f8
      (try simp only [wk, wl, wx, reduceLT, reduceEqDiff, Nat.reduceBEq, reduceIte])
      refine sat_store b8 ty92 rfl (by decide) rfl ?_
      intro h9 b9 n9 f9
      have b9 : Has h9 hh.next [.str o.syms[i].name, i64 o.syms[i].sec, i64 o.syms[i].off, .bool o.syms[i].glob, .bool o.syms[i].weak] := b9
      have F9 : Fix (· < hh.next) hh h9 := ⟨by omega, fun c hc => by rw [f9.same c (by omega), f8.same c (by omega)]⟩
      have w9 : Wr g h9 (Sx h3.next h9.next hh.next) wb (X ++ (o.syms.take i).flatMap symB) := (wr.sub (S' := fun b => Sx h3.next h9.next hh.next b ∧ b < hh.next) fun b hb hs => ⟨⟨hs.1, by omega, by omega⟩, hb⟩).fix F9 wn (fun b _ hs => hs.2) |>.sub fun b _ hs => hs.1
      (try simp only [wk, wl, wx, reduceLT, reduceEqDiff, Nat.reduceBEq, reduceIte])
      ((repeat refine WC.seq ?_); refine WC.run ?_)
      (try simp only [wk, wl, wx, reduceLT, reduceEqDiff, Nat.reduceBEq, reduceIte, t5, fa92_0, Nat.zero_add, b9.at ty9 rfl])
      refine sat_slice1 ty25 rfl ty9 rfl rfl rfl ?_
      intro ha la na fa
      (try simp only [wk, wl, wx, reduceLT, reduceEqDiff, Nat.reduceBEq, reduceIte, t5])
      refine (texts1_ok (L := [o.syms[i].name]) (n0 := h3.next) (q := hh.next) w9 (by omega) (by omega) (by omega) fa la.sl (lit_in (by omega) (by omega)) (by simp; omega) (by simp) (by simp only [List.length_append]; omega)).mono fun v hb ⟨wb', fb⟩ => ?_
      have xb := fb.next
      have bb := b9.fix fb (by omega)
      (try simp only [wk, wl, wx, reduceLT, reduceEqDiff, Nat.reduceBEq, reduceIte])
      ((repeat refine WC.seq ?_); refine WC.draw (plans := pl11_12) (by kernel_rfl) ?_; simp only [pl11_12, List.mem_cons, List.not_mem_nil, or_false, forall_eq_or_imp, forall_eq])
      (try simp (maxSteps := 2000000) only [wk, wl, wx, reduceLT, reduceEqDiff, Nat.reduceBEq, reduceIte, wd, Chk, and_true, true_and, t5, fa92_1, fa92_2, fa92_3, fa92_4, Nat.zero_add, bb.at ty3 rfl, bb.at ty2 rfl, bb.at ty4 rfl])
      refine sat_buildSlice (cs := [.bool o.syms[i].glob, .bool o.syms[i].weak]) (n := 2) ty189 rfl ty4 rfl (by decide) (by decide) (fill_two rfl rfl) rfl ?_
      intro hc lc nc fc
      have bc := bb.fix fc (by omega)
      (try simp (maxSteps := 2000000) only [wk, wl, wx, reduceLT, reduceEqDiff, Nat.reduceBEq, reduceIte, wd, Chk, and_true, true_and, t5, fa92_1, fa92_2, fa92_3, fa92_4, Nat.zero_add, bc.at ty3 rfl, bc.at ty2 rfl, bc.at ty4 rfl])
      refine (bits_ok lc.sl).mono fun v hd ⟨ed, ed'⟩ => ?_
      subst ed ed'
      (try simp (maxSteps := 2000000) only [wk, wl, wx, reduceLT, reduceEqDiff, Nat.reduceBEq, reduceIte, wd, Chk, and_true, true_and, t5, fa92_1, fa92_2, fa92_3, fa92_4, Nat.zero_add, bc.at ty3 rfl, bc.at ty2 rfl, bc.at ty4 rfl])
      refine sat_buildSlice (cs := [i64 o.syms[i].sec, i64 o.syms[i].off, i64 (bitsI o.syms[i].glob o.syms[i].weak)]) (n := 3) ty183 rfl ty2 rfl (by decide) (by decide) (fill_three rfl rfl rfl) rfl ?_
      intro he le ne fe
      (try simp (maxSteps := 2000000) only [wk, wl, wx, reduceLT, reduceEqDiff, Nat.reduceBEq, reduceIte, wd, Chk, and_true, true_and, t5])
      refine (numbers1_ok (L := [o.syms[i].sec, o.syms[i].off, bitsI o.syms[i].glob o.syms[i].weak]) (n0 := h3.next) (q := hh.next) wb' (by omega) (by omega) (by omega) ((fc.trans (fe.sub fun b hb => by omega)).sub fun b hb => hb) le.sl (lit_in' (by omega) (by omega) (by omega)) (by simp only [List.length_append, txt1_len, List.length_cons, List.length_nil]; omega)).mono fun v hf ⟨wf, ff'⟩ => ?_
      have xf := ff'.next
      (try simp (maxSteps := 2000000) only [wk, wl, wx, reduceLT, reduceEqDiff, Nat.reduceBEq, reduceIte, wd, Chk, and_true, true_and])
      ((repeat refine WC.seq ?_); refine WC.run ?_)
      (try simp only [wk, wl, wx, reduceLT, reduceEqDiff, Nat.reduceBEq, reduceIte, t37, bin_add])
      refine ⟨_, ?_, _, i + 1, rfl, ⟨by omega, fun b hb => ?_⟩, rfl, by omega, ?_⟩
      · omega
      · rw [ff'.same b ⟨by omega, .inl hb, by omega⟩, fb.same b ⟨by omega, .inl hb, by omega⟩, F9.same b (by omega), ff.same b hb]
      (try simp only [wk, wl, wx, reduceLT, reduceEqDiff, Nat.reduceBEq, reduceIte, t1, t5, t35, t36])
      refine ⟨trivial, trivial, trivial, trivial, ?_, by omega, ?_⟩
      · rw [wrap64 (by omega) (by omega)]; rfl
      · rw [flatB_snoc symB hlt]
        have := wf.sub' (S' := Sx h3.next hf.next wb) fun b hb hn hs => ⟨hs.1, hb, hn⟩
        simpa only [symB, List.append_assoc] using this
    · refine WC.cond (b := false) (by (try simp only [wk, wl, wx, reduceLT, reduceEqDiff, Nat.reduceBEq, reduceIte]); (try simp); (try omega)) (WC.exit ?_)
      have : i = o.syms.length := by omega
      subst this
      rw [List.take_length] at wr
      (try simp only [wk, wl, wx, reduceLT, reduceEqDiff, Nat.reduceBEq, reduceIte])
      generalize hY : X ++ o.syms.flatMap symB = Y at wr
      have lY : Y.length ≤ 100000 := by
        rw [← hY, List.length_append]
        have : (o.syms.flatMap symB).length ≤ 96 * o.syms.length := flatB_len fun x hx => by
          have := sm.sname x hx
          simp only [symB, List.length_append, txt1_len, numB_length, List.length_cons, List.length_nil]; omega
        omega
      have w8 := wr
      have F8 := ff
      have ob8 := obh
      have b8 := bh
      ((repeat refine WC.seq ?_); refine WC.run ?_)
      (try simp only [wk, wl, wx, reduceLT, reduceEqDiff, Nat.reduceBEq, reduceIte, t1, t5, fa35_0, fa35_1, fa35_2, fa35_3, fa35_4, fa35_5, fa35_6, Nat.zero_add, b8.at ty9 rfl, b8.at ty22 rfl, b8.at ty32 rfl, b8.at ty33 rfl, b8.at ty25 rfl, Sl.lenB ob8.syms ty32 rfl, Sl.lenB ob8.rels ty33 rfl, Sl.lenB ob8.needs ty25 rfl])
      refine sat_slice1 ty183 rfl ty2 rfl rfl rfl ?_
      intro h8a l8 n8a f8a
      (try simp only [wk, wl, wx, reduceLT, reduceEqDiff, Nat.reduceBEq, reduceIte, t1, t5, fa35_0, fa35_1, fa35_2, fa35_3, fa35_4, fa35_5, fa35_6, Nat.zero_add, b8.at ty9 rfl, b8.at ty22 rfl, b8.at ty32 rfl, b8.at ty33 rfl, b8.at ty25 rfl, Sl.lenB ob8.syms ty32 rfl, Sl.lenB ob8.rels ty33 rfl, Sl.lenB ob8.needs ty25 rfl])
      refine (numbers1_ok (L := [(o.rels.length : Int)]) (n0 := h3.next) (q := wb) w8 (by omega) (by omega) (by omega) f8a l8.sl (lit_in (by omega) (by omega)) (by simp only [List.length_append, txt1_len, numB_length, List.length_cons, List.length_nil, Nat.mul_one]; omega)).mono fun v h9 ⟨w9, f9⟩ => ?_
      have F9 : Fix (· < h3.next) h3 h9 := F8.trans (f9.sub fun b hb => ⟨by omega, .inl hb, by omega⟩)
      have x9 := f9.next
      have b9 := b3.fix F9 (by omega)
      have ob9 := ob3.fix F9 (fun _ h => h)
      (try simp only [wk, wl, wx, reduceLT, reduceEqDiff, Nat.reduceBEq, reduceIte])
      generalize hZ : Y ++ numB [(o.rels.length : Int)] = Z at w9
      have lZ : Z.length ≤ 100008 := by rw [← hZ]; simp only [List.length_append, numB_length, List.length_cons, List.length_nil]; omega
      ((repeat refine WC.seq ?_); refine WC.run ?_)
      (try simp only [wk, wl, wx, reduceLT, reduceEqDiff, Nat.reduceBEq, reduceIte, t1, t5, fa35_0, fa35_1, fa35_2, fa35_3, fa35_4, fa35_5, fa35_6, Nat.zero_add, b9.at ty9 rfl, b9.at ty22 rfl, b9.at ty32 rfl, b9.at ty33 rfl, b9.at ty25 rfl, Sl.lenB ob9.syms ty32 rfl, Sl.lenB ob9.rels ty33 rfl, Sl.lenB ob9.needs ty25 rfl])
      (repeat refine WC.seq ?_)
      refine WC.block ?_
      refine WC.while (fun m fr hq => ∃ ts i, fr = ⟨ts, 110, [], 11, none⟩ ∧ Fix (· < h3.next) h3 hq ∧ m = o.rels.length - i ∧ i ≤ o.rels.length ∧ ts.get 1 = some (.ptr h.next 0) ∧ ts.get 5 = some (.ptr wb 0) ∧ ts.get 67 = some c.rels ∧ ts.get 68 = some (.int .i64 o.rels.length) ∧ ts.get 69 = some (.int .i64 i) ∧ wb < hq.next ∧ Wr g hq (Sx h3.next hq.next wb) wb (Z ++ (o.rels.take i).flatMap relB)) ?_ ⟨_, 0, rfl, F9, rfl, by omega, ?_, ?_, ?_, ?_, ?_, by omega, by simpa using w9⟩
      · rintro m fr hh ⟨ts, i, rfl, ff, rfl, hi, t1, t5, t67, t68, t69, wn, wr⟩
        have xh := ff.next
        have bh := b3.fix ff (by omega)
        have obh := ob3.fix ff (fun _ h => h)
        ((repeat refine WC.seq ?_); refine WC.run ?_)
        (try simp only [wk, wl, wx, reduceLT, reduceEqDiff, Nat.reduceBEq, reduceIte, t68, t69])
        (repeat refine WC.seq ?_)
        by_cases hlt : i < o.rels.length
        · refine WC.cond (b := true) (by (try simp only [wk, wl, wx, reduceLT, reduceEqDiff, Nat.reduceBEq, reduceIte]); (try simp); (try omega)) (WC.skip ?_)
          (try simp only [wk, wl, wx, reduceLT, reduceEqDiff, Nat.reduceBEq, reduceIte])
          have hsl := sm.rname _ (List.getElem_mem hlt)
          have lW : ((o.rels.take i).flatMap relB).length ≤ 104 * o.rels.length := by
            refine Nat.le_trans (flatB_len (B := 104) fun x hx => ?_) (Nat.mul_le_mul_left _ (by simp; omega))
            have := sm.rname x (List.mem_of_mem_take hx)
            simp only [relB, List.length_append, txt1_len, numB_length, List.length_cons, List.length_nil]; omega
          obtain ⟨p, p1, p2⟩ := obh.rels.at (fun _ => rfl) ty33 rfl ty93 rfl (by decide) rfl hlt
          have p2 := p2 hh fun _ _ _ _ _ => rfl
          (repeat refine WC.seq ?_)
          refine WC.block ?_
          ((repeat refine WC.seq ?_); refine WC.run ?_)
          (try simp only [wk, wl, wx, reduceLT, reduceEqDiff, Nat.reduceBEq, reduceIte, t67, t69, p1, p2])
          refine wop_alloc ty93 ?_
          intro h8 b8 n8 f8
          (try simp only [wk, wl, wx, reduceLT, reduceEqDiff, Nat.reduceBEq, reduceIte])
          refine sat_store b8 ty93 rfl (by decide) rfl ?_
          intro h9 b9 n9 f9
          have b9 : Has h9 hh.next [i64 o.rels[i].sec, i64 o.rels[i].off, i64 o.rels[i].kind, .str o.rels[i].sym, i64 o.rels[i].add] := b9
          have F9 : Fix (· < hh.next) hh h9 := ⟨by omega, fun c hc => by rw [f9.same c (by omega), f8.same c (by omega)]⟩
          have w9 : Wr g h9 (Sx h3.next h9.next hh.next) wb (Z ++ (o.rels.take i).flatMap relB) := (wr.sub (S' := fun b => Sx h3.next h9.next hh.next b ∧ b < hh.next) fun b hb hs => ⟨⟨hs.1, by omega, by omega⟩, hb⟩).fix F9 wn (fun b _ hs => hs.2) |>.sub fun b _ hs => hs.1
          (try simp only [wk, wl, wx, reduceLT, reduceEqDiff, Nat.reduceBEq, reduceIte])
          ((repeat refine WC.seq ?_); refine WC.run ?_)
          (try simp only [wk, wl, wx, reduceLT, reduceEqDiff, Nat.reduceBEq, reduceIte, t5, fa93_0, fa93_1, fa93_2, Nat.zero_add, b9.at ty3 rfl, b9.at ty2 rfl])
          refine sat_buildSlice (cs := [i64 o.rels[i].sec, i64 o.rels[i].off, i64 o.rels[i].kind]) (n := 3) ty183 rfl ty2 rfl (by decide) (by decide) (fill_three rfl rfl rfl) rfl ?_
          intro ha la na fa
          (try simp only [wk, wl, wx, reduceLT, reduceEqDiff, Nat.reduceBEq, reduceIte, t5])
          refine (numbers1_ok (L := [o.rels[i].sec, o.rels[i].off, o.rels[i].kind]) (n0 := h3.next) (q := hh.next) w9 (by omega) (by omega) (by omega) fa la.sl (lit_in (by omega) (by omega)) (by simp only [List.length_append, List.length_cons, List.length_nil]; omega)).mono fun v hb ⟨wb', fb⟩ => ?_
          have xb := fb.next
          have bb := b9.fix fb (by omega)
          (try simp only [wk, wl, wx, reduceLT, reduceEqDiff, Nat.reduceBEq, reduceIte])
          ((repeat refine WC.seq ?_); refine WC.run ?_)
          (try simp only [wk, wl, wx, reduceLT, reduceEqDiff, Nat.reduceBEq, reduceIte, t5, fa93_3, Nat.zero_add, bb.at ty9 rfl])
          refine sat_slice1 ty25 rfl ty9 rfl rfl rfl ?_
          intro hc lc nc fc
          (try simp only [wk, wl, wx, reduceLT, reduceEqDiff, Nat.reduceBEq, reduceIte, t5])
          refine (texts1_ok (L := [o.rels[i].sym]) (n0 := h3.next) (q := hh.next) wb' (by omega) (by omega) (by omega) fc lc.sl (lit_in (by omega) (by omega)) (by simp; omega) (by simp) (by simp only [List.length_append, numB_length, List.length_cons, List.length_nil]; omega)).mono fun v hd ⟨wd, fd⟩ => ?_
          have xd := fd.next
          have bd := bb.fix fd (by omega)
          (try simp only [wk, wl, wx, reduceLT, reduceEqDiff, Nat.reduceBEq, reduceIte])
          ((repeat refine WC.seq ?_); refine WC.run ?_)
          (try simp only [wk, wl, wx, reduceLT, reduceEqDiff, Nat.reduceBEq, reduceIte, t5, fa93_4, Nat.zero_add, bd.at ty2 rfl])
          refine sat_slice1 ty183 rfl ty2 rfl rfl rfl ?_
          intro he le ne fe
          (try simp only [wk, wl, wx, reduceLT, reduceEqDiff, Nat.reduceBEq, reduceIte, t5])
          refine (numbers1_ok (L := [o.rels[i].add]) (n0 := h3.next) (q := hh.next) wd (by omega) (by omega) (by omega) fe le.sl (lit_in (by omega) (by omega)) (by simp only [List.length_append, txt1_len, numB_length, List.length_cons, List.length_nil]; omega)).mono fun v hf ⟨wf, ff'⟩ => ?_
          have xf := ff'.next
          (try simp only [wk, wl, wx, reduceLT, reduceEqDiff, Nat.reduceBEq, reduceIte])
          ((repeat refine WC.seq ?_); refine WC.run ?_)
          (try simp only [wk, wl, wx, reduceLT, reduceEqDiff, Nat.reduceBEq, reduceIte, t69, bin_add])
          refine ⟨_, ?_, _, i + 1, rfl, ⟨by omega, fun b hb => ?_⟩, rfl, by omega, ?_⟩
          · omega
          · rw [ff'.same b ⟨by omega, .inl hb, by omega⟩, fd.same b ⟨by omega, .inl hb, by omega⟩, fb.same b ⟨by omega, .inl hb, by omega⟩, F9.same b (by omega), ff.same b hb]
          (try simp only [wk, wl, wx, reduceLT, reduceEqDiff, Nat.reduceBEq, reduceIte, t1, t5, t67, t68])
          refine ⟨trivial, trivial, trivial, trivial, ?_, by omega, ?_⟩
          · rw [wrap64 (by omega) (by omega)]; rfl
          · rw [flatB_snoc relB hlt]
            have := wf.sub' (S' := Sx h3.next hf.next wb) fun b hb hn hs => ⟨hs.1, hb, hn⟩
            simpa only [relB, List.append_assoc] using this
        · refine WC.cond (b := false) (by (try simp only [wk, wl, wx, reduceLT, reduceEqDiff, Nat.reduceBEq, reduceIte]); (try simp); (try omega)) (WC.exit ?_)
          have : i = o.rels.length := by omega
          subst this
          rw [List.take_length] at wr
          (try simp only [wk, wl, wx, reduceLT, reduceEqDiff, Nat.reduceBEq, reduceIte])
          generalize hW : Z ++ o.rels.flatMap relB = W at wr
          have lW : W.length ≤ 300000 := by
            rw [← hW, List.length_append]
            have : (o.rels.flatMap relB).length ≤ 104 * o.rels.length := flatB_len fun x hx => by
              have := sm.rname x hx
              simp only [relB, List.length_append, txt1_len, numB_length, List.length_cons, List.length_nil]; omega
            omega
          have w10 := wr
          have F10 := ff
          have ob10 := obh
          have b10 := bh
          ((repeat refine WC.seq ?_); refine WC.run ?_)
          (try simp only [wk, wl, wx, reduceLT, reduceEqDiff, Nat.reduceBEq, reduceIte, t1, t5, fa35_0, fa35_1, fa35_2, fa35_3, fa35_4, fa35_5, fa35_6, Nat.zero_add, b10.at ty9 rfl, b10.at ty22 rfl, b10.at ty32 rfl, b10.at ty33 rfl, b10.at ty25 rfl, Sl.lenB ob10.syms ty32 rfl, Sl.lenB ob10.rels ty33 rfl, Sl.lenB ob10.needs ty25 rfl])
          refine sat_slice1 ty183 rfl ty2 rfl rfl rfl ?_
          intro h10a l10 n10a f10a
          (try simp only [wk, wl, wx, reduceLT, reduceEqDiff, Nat.reduceBEq, reduceIte, t1, t5, fa35_0, fa35_1, fa35_2, fa35_3, fa35_4, fa35_5, fa35_6, Nat.zero_add, b10.at ty9 rfl, b10.at ty22 rfl, b10.at ty32 rfl, b10.at ty33 rfl, b10.at ty25 rfl, Sl.lenB ob10.syms ty32 rfl, Sl.lenB ob10.rels ty33 rfl, Sl.lenB ob10.needs ty25 rfl])
          refine (numbers1_ok (L := [(o.needs.length : Int)]) (n0 := h3.next) (q := wb) w10 (by omega) (by omega) (by omega) f10a l10.sl (lit_in (by omega) (by omega)) (by simp only [List.length_append, txt1_len, numB_length, List.length_cons, List.length_nil, Nat.mul_one]; omega)).mono fun v h11 ⟨w11, f11⟩ => ?_
          have F11 : Fix (· < h3.next) h3 h11 := F10.trans (f11.sub fun b hb => ⟨by omega, .inl hb, by omega⟩)
          have x11 := f11.next
          have b11 := b3.fix F11 (by omega)
          have ob11 := ob3.fix F11 (fun _ h => h)
          (try simp only [wk, wl, wx, reduceLT, reduceEqDiff, Nat.reduceBEq, reduceIte])
          ((repeat refine WC.seq ?_); refine WC.run ?_)
          (try simp only [wk, wl, wx, reduceLT, reduceEqDiff, Nat.reduceBEq, reduceIte, t1, t5, fa35_0, fa35_1, fa35_2, fa35_3, fa35_4, fa35_5, fa35_6, Nat.zero_add, b11.at ty9 rfl, b11.at ty22 rfl, b11.at ty32 rfl, b11.at ty33 rfl, b11.at ty25 rfl, Sl.lenB ob11.syms ty32 rfl, Sl.lenB ob11.rels ty33 rfl, Sl.lenB ob11.needs ty25 rfl])
          refine (texts1_ok (L := o.needs) (n0 := h3.next) (q := wb) w11 (by omega) (by omega) (by omega) (Fix.refl _ _) ob11.needs (ob11.inN.sub fun b hb => ⟨by omega, by omega, .inl hb⟩) (fun p hp => by have := sm.nname p hp; omega) (by omega) (by simp only [List.length_append, txt1_len, numB_length, List.length_cons, List.length_nil, Nat.mul_one]; omega)).mono fun v h12 ⟨w12, f12⟩ => ?_
          have F12 : Fix (· < h3.next) h3 h12 := F11.trans (f12.sub fun b hb => ⟨by omega, .inl hb, by omega⟩)
          have x12 := f12.next
          have b12 := b3.fix F12 (by omega)
          have ob12 := ob3.fix F12 (fun _ h => h)
          (try simp only [wk, wl, wx, reduceLT, reduceEqDiff, Nat.reduceBEq, reduceIte])
          have lT : (txtB o.needs).length ≤ 72 * o.needs.length := txtB_length (B := 64) fun p hp => sm.nname p hp
          ((repeat refine WC.seq ?_); refine WC.run ?_)
          (try simp only [wk, wl, wx, reduceLT, reduceEqDiff, Nat.reduceBEq, reduceIte, t1, t5, fa35_0, fa35_1, fa35_2, fa35_3, fa35_4, fa35_5, fa35_6, Nat.zero_add, b12.at ty9 rfl, b12.at ty22 rfl, b12.at ty32 rfl, b12.at ty33 rfl, b12.at ty25 rfl, Sl.lenB ob12.syms ty32 rfl, Sl.lenB ob12.rels ty33 rfl, Sl.lenB ob12.needs ty25 rfl])
          refine sat_slice1 ty25 rfl ty9 rfl rfl rfl ?_
          intro h12a l12 n12a f12a
          (try simp only [wk, wl, wx, reduceLT, reduceEqDiff, Nat.reduceBEq, reduceIte, t1, t5, fa35_0, fa35_1, fa35_2, fa35_3, fa35_4, fa35_5, fa35_6, Nat.zero_add, b12.at ty9 rfl, b12.at ty22 rfl, b12.at ty32 rfl, b12.at ty33 rfl, b12.at ty25 rfl, Sl.lenB ob12.syms ty32 rfl, Sl.lenB ob12.rels ty33 rfl, Sl.lenB ob12.needs ty25 rfl])
          refine (texts1_ok (L := [o.entry]) (n0 := h3.next) (q := wb) w12 (by omega) (by omega) (by omega) f12a l12.sl (lit_in (by omega) (by omega)) (by simp; omega) (by simp) (by simp only [List.length_append, txt1_len, numB_length, List.length_cons, List.length_nil, Nat.mul_one]; omega)).mono fun v h13 ⟨w13, f13⟩ => ?_
          have F13 : Fix (· < h3.next) h3 h13 := F12.trans (f13.sub fun b hb => ⟨by omega, .inl hb, by omega⟩)
          have x13 := f13.next
          have b13 := b3.fix F13 (by omega)
          have ob13 := ob3.fix F13 (fun _ h => h)
          (try simp only [wk, wl, wx, reduceLT, reduceEqDiff, Nat.reduceBEq, reduceIte])
          ((repeat refine WC.seq ?_); refine WC.run ?_)
          (try simp only [wk, wl, wx, reduceLT, reduceEqDiff, Nat.reduceBEq, reduceIte, t5])
          refine (sealed_ok w13 (by omega) (by simp only [List.length_append, txt1_len, numB_length, List.length_cons, List.length_nil, Nat.mul_one]; omega)).mono fun v hz ⟨z1, z2, z3⟩ => ?_
          have xz := z3.next
          (try simp only [wk, wl, wx, reduceLT, reduceEqDiff, Nat.reduceBEq, reduceIte])
          refine WC.ret ?_
          (try simp only [wk, wl, wx, reduceLT, reduceEqDiff, Nat.reduceBEq, reduceIte])
          refine ⟨⟨by omega, fun b hb => ?_⟩, fun q => absurd hce q, fun _ => ⟨_, rfl, ?_, z2.sub fun b hb => by omega⟩⟩
          · rw [z3.same b ⟨by omega, by omega⟩, F13.same b (by omega), f3.same b (by omega), f1.same b hb]
          · rw [← hW, ← hZ, ← hY, ← hX] at z1
            have e2 : bytB [(c.code, o.code), (c.data, o.data)] = txtB [o.code, o.data] := bytB_txt _
            rw [e2] at z1
            exact z1
      all_goals (try simp only [wk, wl, wx, reduceLT, reduceEqDiff, Nat.reduceBEq, reduceIte, t1, t5])
      all_goals (first | trivial | rfl | simp)
  all_goals (try simp only [wk, wl, wx, reduceLT, reduceEqDiff, Nat.reduceBEq, reduceIte])
  all_goals (first | trivial | rfl | simp)
end Go.Proofs.OP
