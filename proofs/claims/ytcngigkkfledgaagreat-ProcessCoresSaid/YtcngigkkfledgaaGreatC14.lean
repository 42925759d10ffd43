/- Walks: sameCore. -/
import Derived.Test.YtcngigkkfledgaaGreatC13
set_option linter.unusedVariables false
set_option linter.unusedSimpArgs false
set_option linter.defProp false
set_option linter.unusedSimpArgs false
set_option maxHeartbeats 1000000
namespace Go.Ev
open Go

/-- The place of an element that is a struct, and what is read of its fields. -/
theorem Sl.cell {E : Env} {h : H} {sz n : Nat} {s : V} {vs : List V} (a : Sl E h sz s n vs) {t e k : Nat} {i ei : TI} {fs : Array Field} (ht : E.tys.get t = some i) (hd : i.desc = .slice e) (he : E.tys.get e = some ei) (hsz : ei.size = sz) (hpos : 0 < sz) (hk : k < n) (hed : ei.desc = .struct fs) :
    ∃ p, indexAddrV E t s (.int .i64 k) = some p ∧ ∀ f fd j, fs.toList[f]? = some fd → E.tys.get fd.type = some j → 0 < j.size → j.agg = false → fd.offset < sz →
      ∃ q, fieldAddrV E e p f = some q ∧ ∀ h', (∀ b o m c, s = .slice b o m c → h'.t.get b = h.t.get b) → loadP E h' fd.type q = vs[k * sz + fd.offset]? := by
  have hc := a.cells
  have hl := a.len
  have hlt : Nat.blt k n = true := by simpa using hk
  have hbig : 0 < n * sz := Nat.mul_pos (by omega) hpos
  have hin : k * sz + sz ≤ n * sz := by rw [← Nat.succ_mul]; exact Nat.mul_le_mul_right _ hk
  unfold srcCells at hc
  split at hc
  · simp only [lenV] at hl; injection hl with hl; omega
  · rename_i b o m c
    simp only [lenV] at hl; injection hl with hl; subst hl
    have h0 : Nat.beq (m * sz) 0 = false := by
      cases hb : Nat.beq (m * sz) 0 with
      | false => rfl
      | true => have := Nat.eq_of_beq_eq_true hb; omega
    simp only [h0, cond_false] at hc
    obtain ⟨_, hc⟩ := bif_some hc
    split at hc
    · rename_i T N d e' kk hb
      obtain ⟨q1, q2⟩ := cellsFrom_get hc
      refine ⟨.ptr b (o + k * sz), ?_, fun f fd j hf hj hj0 hja hoff => ?_⟩
      · simp [indexAddrV, ht, hd, natOf_nat, hlt, sizeOfT, he, hsz]
      · refine ⟨.ptr b (o + k * sz + fd.offset), fieldAddr_of he hed hf hj hj0, fun h' hsame => ?_⟩
        simp only [loadP, loadV, hj, hsame b _ _ _ rfl, hb, hja, cond_false]
        rw [Nat.add_assoc]
        exact q2 _ (by omega)
    · cases hc
  · rename_i ad m c
    simp only [lenV] at hl; injection hl with hl; subst hl
    obtain ⟨_, hc⟩ := bif_some hc
    obtain ⟨h1, cs, h2, h3, h4, h5⟩ := takeG_some hc hbig
    refine ⟨.gp ad.block (ad.off + k * sz), ?_, fun f fd j hf hj hj0 hja hoff => ?_⟩
    · simp [indexAddrV, ht, hd, natOf_nat, hlt, sizeOfT, he, hsz, h1]
    · refine ⟨.gp ad.block (ad.off + k * sz + fd.offset), fieldAddr_gp he hed hf hj hj0, fun h' _ => ?_⟩
      have hget : cs[ad.off + k * sz + fd.offset]? = vs[k * sz + fd.offset]? := by
        rw [h3, List.getElem?_take, if_pos (by omega), List.getElem?_drop]
        congr 1; omega
      simp only [loadP, loadG, hj, h2, hja, cond_false, nth_eq]
      rw [hget]
      have hlt2 : k * sz + fd.offset < vs.length := by omega
      rw [List.getElem?_eq_getElem hlt2]
      have h6 : (vs[k * sz + fd.offset]).one = true := List.all_eq_true.1 h5 _ (List.getElem_mem _)
      simp [h6]
  · exact absurd rfl (a.slice _)
  · cases hc
end Go.Ev
namespace Go.Proofs.ZP
open Go Go.Ev
open Go.Proofs
variable {g : T (List V)}

theorem flat_get {L : List (Mem × V)} {k : Nat} (hk : k < L.length) : (flat L)[k * 2 + 0]? = some (i64 L[k].1.addr) ∧ (flat L)[k * 2 + 1]? = some L[k].2 := by
  have := flat_at hk
  have h0 : ((flat L).drop (k * 2)).take 2 = [i64 L[k].1.addr, L[k].2] := this
  constructor
  · have := congrArg (fun l => l[0]?) h0
    simpa [List.getElem?_take, List.getElem?_drop] using this
  · have := congrArg (fun l => l[1]?) h0
    simpa [List.getElem?_take, List.getElem?_drop] using this

/-- An element of the reference's parts of memory, field by field. -/
theorem Ms.cells {h : H} {s : V} {L : List (Mem × V)} (a : Ms g h s L) {k : Nat} (hk : k < L.length) :
    ∃ p p0 p1, indexAddrV (E g) 23 s (.int .i64 k) = some p ∧ fieldAddrV (E g) 46 p 0 = some p0 ∧ fieldAddrV (E g) 46 p 1 = some p1 ∧ ∀ h', (∀ b o m c, s = .slice b o m c → h'.t.get b = h.t.get b) → loadP (E g) h' 2 p0 = some (i64 L[k].1.addr) ∧ loadP (E g) h' 26 p1 = some L[k].2 := by
  obtain ⟨p, h1, h2⟩ := Sl.cell a.sl ty23 rfl ty46 rfl (by decide) hk rfl
  obtain ⟨p0, e1, e2⟩ := h2 0 _ _ rfl ty2 (by decide) rfl (by decide)
  obtain ⟨p1, e3, e4⟩ := h2 1 _ _ rfl ty26 (by decide) rfl (by decide)
  obtain ⟨f0, f1⟩ := flat_get hk
  exact ⟨p, p0, p1, h1, e1, e3, fun h' hh => ⟨(e2 h' hh).trans f0, (e4 h' hh).trans f1⟩⟩


set_option maxRecDepth 100000 in
set_option maxHeartbeats 2000000 in
/-- law.sameCore -/
theorem same_ok {h : H} {v v' : V} {c c' : CoreD} {rv mv rv' mv' : V} {L L' : List (Mem × V)} (co : Co g h (· < h.next) v c rv mv L) (co' : Co g h (· < h.next) v' c' rv' mv' L') (hR : c.regs.length < 2 ^ 40) (hM : L.length < 2 ^ 40) : WF (E g) 12 [v, v'] h fun r h' => Kept h h' ∧ ∃ q, r = .bool q ∧ (q = true ↔ c = c') := by
  have hlen := co.len
  have hlen' := co'.len
  refine WF.enter fn12 rfl ?_
  ((repeat refine WC.seq ?_); refine WC.run ?_)
  (try simp only [wk, wl, Then, Blk, pickV, Nat.reduceLT, Nat.reduceEqDiff, Nat.reduceBEq, reduceIte, isConst, nilCheckV, extractV, wantJ, nth])
  refine wop_box (v := v) (by (try simp only [wk, wl, Then, Blk, pickV, Nat.reduceLT, Nat.reduceEqDiff, Nat.reduceBEq, reduceIte, isConst, nilCheckV, extractV, wantJ, nth])) ?_
  rw [co.val]
  intro h1 b1 n1 f1
  have b1 : Has h1 h.next [i64 c.pid, i64 c.sig, .str c.name, rv, mv] := b1
  (try simp only [wk, wl, Then, Blk, pickV, Nat.reduceLT, Nat.reduceEqDiff, Nat.reduceBEq, reduceIte, isConst, nilCheckV, extractV, wantJ, nth])
  refine wop_box (v := v') (by (try simp only [wk, wl, Then, Blk, pickV, Nat.reduceLT, Nat.reduceEqDiff, Nat.reduceBEq, reduceIte, isConst, nilCheckV, extractV, wantJ, nth])) ?_
  rw [co'.val]
  intro h2 d2 n2 f2
  have d2 : Has h2 h1.next [i64 c'.pid, i64 c'.sig, .str c'.name, rv', mv'] := d2
  have b2 := b1.fix f2 (by omega)
  have F2 : Kept h h2 := ⟨by omega, fun x hx => by rw [f2.same x (by omega), f1.same x hx]⟩
  have co2 := co.fix F2 (fun _ h => h)
  have co2' := co'.fix F2 (fun _ h => h)
  (try simp only [wk, wl, Then, Blk, pickV, Nat.reduceLT, Nat.reduceEqDiff, Nat.reduceBEq, reduceIte, isConst, nilCheckV, extractV, wantJ, nth])
  have i64_neq : ∀ {hp : H} {k : Bool} {t : Nat} {a b : Int}, binV (E g) hp k .neq t (.int .i64 a) (.int .i64 b) = some (.bool (!decide (a = b))) := fun {hp k t a b} => by
    rw [bin_neq]; by_cases h : a = b <;> simp [bne, h]
  have fin : ∀ (hz : H) (hn : Kept h2 hz) (_ : True) (_ : c ≠ c'), Kept h hz ∧ ∃ q, V.bool false = .bool q ∧ (q = true ↔ c = c') := fun hz hn _ hne => ⟨F2.trans (hn.sub fun x hx => by omega), false, rfl, ⟨fun e => (by cases e), fun e => absurd e hne⟩⟩
  have e1 : (c.pid != c'.pid) = !decide (c.pid = c'.pid) := by by_cases h : c.pid = c'.pid <;> simp [bne, h]
  have e2 : (c.sig != c'.sig) = !decide (c.sig = c'.sig) := by by_cases h : c.sig = c'.sig <;> simp [bne, h]
  have e3 : (c.name == c'.name) = decide (c.name = c'.name) := by by_cases h : c.name = c'.name <;> simp [h]
  have e4 : ((c.regs.length : Int) != c'.regs.length) = !decide (c.regs.length = c'.regs.length) := by
    by_cases h : c.regs.length = c'.regs.length
    · simp [bne, h]
    · simp [bne, h, Int.natCast_inj]
  have e5 : ((L.length : Int) != L'.length) = !decide (L.length = L'.length) := by
    by_cases h : L.length = L'.length
    · simp [bne, h]
    · simp [bne, h, Int.natCast_inj]
  by_cases q1 : c.pid = c'.pid
  · by_cases q2 : c.sig = c'.sig
    · by_cases q3 : c.name = c'.name
      · by_cases q4 : c.regs.length = c'.regs.length
        · by_cases q5 : L.length = L'.length
          · ((repeat refine WC.seq ?_); refine WC.run ?_)
            (try simp only [wk, wl, Then, Blk, pickV, Nat.reduceLT, Nat.reduceEqDiff, Nat.reduceBEq, reduceIte, isConst, nilCheckV, extractV, wantJ, nth, i64, fa34_0, fa34_1, fa34_2, fa34_3, fa34_4, fa25_0, fa25_1, fa25_2, fa25_3, fa25_4, Nat.zero_add, b2.at ty3 rfl, b2.at ty9 rfl, b2.at ty22 rfl, b2.at ty32 rfl, d2.at ty3 rfl, d2.at ty9 rfl, d2.at ty22 rfl, d2.at ty23 rfl, str_neq, Is.len co2.regs, Is.len co2'.regs, Sl.lenB co2.mem.sl ty32 rfl, Sl.lenB co2'.mem.sl ty23 rfl, e1, e2, e3, e4, e5, decide_eq_true q1, decide_eq_true q2, decide_eq_true q3, decide_eq_true q4, decide_eq_true q5, Bool.not_true, Bool.not_false])
            (repeat refine WC.seq ?_)
            refine WC.cond (b := false) (by (try simp only [wk, wl, Then, Blk, pickV, Nat.reduceLT, Nat.reduceEqDiff, Nat.reduceBEq, reduceIte, isConst, nilCheckV, extractV, wantJ, nth]); (try simp); (try omega)) (WC.skip ?_)
            (try simp only [wk, wl, Then, Blk, pickV, Nat.reduceLT, Nat.reduceEqDiff, Nat.reduceBEq, reduceIte, isConst, nilCheckV, extractV, wantJ, nth])
            ((repeat refine WC.seq ?_); refine WC.run ?_)
            (try simp only [wk, wl, Then, Blk, pickV, Nat.reduceLT, Nat.reduceEqDiff, Nat.reduceBEq, reduceIte, isConst, nilCheckV, extractV, wantJ, nth, fa34_3, Nat.zero_add, b2.at ty22 rfl, Is.len co2.regs])
            (repeat refine WC.seq ?_)
            refine WC.block ?_
            refine WC.while (m := c.regs.length) (fun m fr hh => ∃ ts i, fr = ⟨ts, 94, [], 12, none⟩ ∧ h2 = hh ∧ m = c.regs.length - i ∧ i ≤ c.regs.length ∧ c.regs.take i = c'.regs.take i ∧ ts.get 2 = some (.ptr h.next 0) ∧ ts.get 3 = some (.ptr h1.next 0) ∧ ts.get 47 = some (.int .i64 c.regs.length) ∧ ts.get 48 = some (.int .i64 i)) ?_ ⟨_, 0, rfl, rfl, rfl, by omega, rfl, ?_, ?_, ?_, ?_⟩
            · rintro m fr hh ⟨ts, i, rfl, rfl, rfl, hi, heq, t2, t3, t47, t48⟩
              ((repeat refine WC.seq ?_); refine WC.run ?_)
              (try simp only [wk, wl, Then, Blk, pickV, Nat.reduceLT, Nat.reduceEqDiff, Nat.reduceBEq, reduceIte, isConst, nilCheckV, extractV, wantJ, nth, t47, t48])
              (repeat refine WC.seq ?_)
              by_cases hlt : i < c.regs.length
              · refine WC.cond (b := true) (by (try simp only [wk, wl, Then, Blk, pickV, Nat.reduceLT, Nat.reduceEqDiff, Nat.reduceBEq, reduceIte, isConst, nilCheckV, extractV, wantJ, nth]); (try simp); (try omega)) (WC.skip ?_)
                (try simp only [wk, wl, Then, Blk, pickV, Nat.reduceLT, Nat.reduceEqDiff, Nat.reduceBEq, reduceIte, isConst, nilCheckV, extractV, wantJ, nth])
                obtain ⟨p, p1, p2⟩ := Is.at co2.regs hlt
                obtain ⟨p', p1', p2'⟩ := Is.at co2'.regs (show i < c'.regs.length by omega)
                (repeat refine WC.seq ?_)
                refine WC.block ?_
                ((repeat refine WC.seq ?_); refine WC.run ?_)
                (try simp only [wk, wl, Then, Blk, pickV, Nat.reduceLT, Nat.reduceEqDiff, Nat.reduceBEq, reduceIte, isConst, nilCheckV, extractV, wantJ, nth, t48])
                ((repeat refine WC.seq ?_); refine WC.draw (plans := pl12_6) (by kernel_rfl) ?_; simp only [pl12_6, List.mem_cons, List.not_mem_nil, or_false, forall_eq_or_imp, forall_eq])
                (try simp only [wk, wl, Then, Blk, pickV, Nat.reduceLT, Nat.reduceEqDiff, Nat.reduceBEq, reduceIte, isConst, nilCheckV, extractV, wantJ, nth, wd, Chk, and_true, true_and, t2, t3, fa34_3, fa25_3, Nat.zero_add, b2.at ty22 rfl, d2.at ty22 rfl, p1, p2, p1', p2', i64, i64_neq])
                (repeat refine WC.seq ?_)
                by_cases hx : c.regs[i] = c'.regs[i]
                · refine WC.cond (b := false) (by (try simp only [wk, wl, Then, Blk, pickV, Nat.reduceLT, Nat.reduceEqDiff, Nat.reduceBEq, reduceIte, isConst, nilCheckV, extractV, wantJ, nth]); (try simp); (try omega)) (WC.skip ?_)
                  (try simp only [wk, wl, Then, Blk, pickV, Nat.reduceLT, Nat.reduceEqDiff, Nat.reduceBEq, reduceIte, isConst, nilCheckV, extractV, wantJ, nth])
                  ((repeat refine WC.seq ?_); refine WC.run ?_)
                  (try simp only [wk, wl, Then, Blk, pickV, Nat.reduceLT, Nat.reduceEqDiff, Nat.reduceBEq, reduceIte, isConst, nilCheckV, extractV, wantJ, nth, t48, bin_add])
                  refine ⟨_, ?_, _, i + 1, rfl, trivial, rfl, by omega, ?_, ?_⟩
                  · omega
                  · rw [List.take_succ_eq_append_getElem hlt, List.take_succ_eq_append_getElem (show i < c'.regs.length by omega), heq, hx]
                  (try simp only [wk, wl, Then, Blk, pickV, Nat.reduceLT, Nat.reduceEqDiff, Nat.reduceBEq, reduceIte, isConst, nilCheckV, extractV, wantJ, nth, t2, t3, t47])
                  refine ⟨trivial, trivial, trivial, ?_⟩
                  rw [wrap64 (by omega) (by omega)]; rfl
                · refine WC.cond (b := true) (by (try simp only [wk, wl, Then, Blk, pickV, Nat.reduceLT, Nat.reduceEqDiff, Nat.reduceBEq, reduceIte, isConst, nilCheckV, extractV, wantJ, nth]); (try simp); (try omega)) ?_
                  ((repeat refine WC.seq ?_); refine WC.run ?_)
                  (try simp only [wk, wl, Then, Blk, pickV, Nat.reduceLT, Nat.reduceEqDiff, Nat.reduceBEq, reduceIte, isConst, nilCheckV, extractV, wantJ, nth])
                  refine WC.ret ?_
                  (try simp only [wk, wl, Then, Blk, pickV, Nat.reduceLT, Nat.reduceEqDiff, Nat.reduceBEq, reduceIte, isConst, nilCheckV, extractV, wantJ, nth])
                  refine fin _ (Fix.refl _ _) trivial (fun e => hx (by subst e; rfl))
              · refine WC.cond (b := false) (by (try simp only [wk, wl, Then, Blk, pickV, Nat.reduceLT, Nat.reduceEqDiff, Nat.reduceBEq, reduceIte, isConst, nilCheckV, extractV, wantJ, nth]); (try simp); (try omega)) (WC.exit ?_)
                have : i = c.regs.length := by omega
                subst this
                have hregs : c.regs = c'.regs := by
                  rw [List.take_length, q4, List.take_length] at heq; exact heq
                (try simp only [wk, wl, Then, Blk, pickV, Nat.reduceLT, Nat.reduceEqDiff, Nat.reduceBEq, reduceIte, isConst, nilCheckV, extractV, wantJ, nth])
                ((repeat refine WC.seq ?_); refine WC.run ?_)
                (try simp only [wk, wl, Then, Blk, pickV, Nat.reduceLT, Nat.reduceEqDiff, Nat.reduceBEq, reduceIte, isConst, nilCheckV, extractV, wantJ, nth, t2, fa34_4, Nat.zero_add, b2.at ty32 rfl, Sl.lenB co2.mem.sl ty32 rfl])
                (repeat refine WC.seq ?_)
                refine WC.block ?_
                refine WC.while (m := L.length) (fun m fr hh => ∃ ts i, fr = ⟨ts, 94, [], 12, none⟩ ∧ Kept h2 hh ∧ m = L.length - i ∧ i ≤ L.length ∧ (L.take i).map (·.1) = (L'.take i).map (·.1) ∧ ts.get 3 = some (.ptr h1.next 0) ∧ ts.get 64 = some mv ∧ ts.get 65 = some (.int .i64 L.length) ∧ ts.get 66 = some (.int .i64 i)) ?_ ⟨_, 0, rfl, Fix.refl _ _, rfl, by omega, rfl, ?_, ?_, ?_, ?_⟩
                · rintro m fr hh ⟨ts, i, rfl, ff, rfl, hi, heq, t3, t64, t65, t66⟩
                  ((repeat refine WC.seq ?_); refine WC.run ?_)
                  (try simp only [wk, wl, Then, Blk, pickV, Nat.reduceLT, Nat.reduceEqDiff, Nat.reduceBEq, reduceIte, isConst, nilCheckV, extractV, wantJ, nth, t65, t66])
                  (repeat refine WC.seq ?_)
                  by_cases hlt : i < L.length
                  · refine WC.cond (b := true) (by (try simp only [wk, wl, Then, Blk, pickV, Nat.reduceLT, Nat.reduceEqDiff, Nat.reduceBEq, reduceIte, isConst, nilCheckV, extractV, wantJ, nth]); (try simp); (try omega)) (WC.skip ?_)
                    (try simp only [wk, wl, Then, Blk, pickV, Nat.reduceLT, Nat.reduceEqDiff, Nat.reduceBEq, reduceIte, isConst, nilCheckV, extractV, wantJ, nth])
                    have hlt' : i < L'.length := by omega
                    obtain ⟨p, p1, p2⟩ := co2.mem.at ty32 rfl ty75 rfl rfl hlt
                    have p2 := p2 hh fun b o m c e => ff.same b (by have := co2.inM _ _ _ _ e; omega)
                    obtain ⟨pp, p0', p1', i1, i2, i3, i4⟩ := Ms.cells co2'.mem hlt'
                    have hdat := Sl.fix (co2.mem.dat _ (List.getElem_mem hlt)) ((co2.inL _ (List.getElem_mem hlt)).sub fun x hx => by omega) ff
                    have hdat' := Sl.fix (co2'.mem.dat _ (List.getElem_mem hlt')) ((co2'.inL _ (List.getElem_mem hlt')).sub fun x hx => by omega) ff
                    have inD : In (· < h.next) (L[i]).2 := co2.inL _ (List.getElem_mem hlt)
                    have inD' : In (· < h.next) (L'[i]).2 := co2'.inL _ (List.getElem_mem hlt')
                    have st1 : List.take (i + 1) L = List.take i L ++ [L[i]] := List.take_succ_eq_append_getElem hlt
                    have st2 : List.take (i + 1) L' = List.take i L' ++ [L'[i]] := List.take_succ_eq_append_getElem hlt'
                    have hne : (L[i]).1 ≠ (L'[i]).1 → c ≠ c' := fun hx e => hx (by
                      have e1 : L.map (·.1) = L'.map (·.1) := by rw [co.mems, co'.mems, e]
                      have e2 : (L.map (·.1))[i]? = (L'.map (·.1))[i]? := by rw [e1]
                      rw [List.getElem?_map, List.getElem?_map, List.getElem?_eq_getElem hlt, List.getElem?_eq_getElem hlt'] at e2
                      injection e2)
                    generalize hLi : L[i] = Li at *
                    generalize hLi' : L'[i] = Li' at *
                    have od := Sl.one hdat
                    (repeat refine WC.seq ?_)
                    refine WC.block ?_
                    ((repeat refine WC.seq ?_); refine WC.run ?_)
                    (try simp only [wk, wl, Then, Blk, pickV, Nat.reduceLT, Nat.reduceEqDiff, Nat.reduceBEq, reduceIte, isConst, nilCheckV, extractV, wantJ, nth, t64, t66, p1, p2])
                    refine wop_alloc ty75 ?_
                    intro h3 b3 n3 f3
                    (try simp only [wk, wl, Then, Blk, pickV, Nat.reduceLT, Nat.reduceEqDiff, Nat.reduceBEq, reduceIte, isConst, nilCheckV, extractV, wantJ, nth])
                    refine sat_store b3 ty75 rfl (by decide) (by show ([i64 Li.1.addr, Li.2] : List V).all V.one = true; simp only [List.all_cons, List.all_nil, od.2, Bool.and_true]; rfl) ?_
                    intro h4 b4 n4 f4
                    have b4 : Has h4 hh.next [i64 Li.1.addr, Li.2] := b4
                    have xf := ff.next
                    have F4 : Kept hh h4 := ⟨by omega, fun x hx => by rw [f4.same x (by omega), f3.same x hx]⟩
                    have ff4 : Kept h2 h4 := ff.trans (F4.sub fun x hx => by omega)
                    have d4 := d2.fix ff4 (by omega)
                    have hd4 := Sl.fix hdat (inD.sub fun x hx => by omega) F4
                    have hd4' := Sl.fix hdat' (inD'.sub fun x hx => by omega) F4
                    have i34 := i4 h4 (fun b o m c e => ff4.same b (by have := co2'.inM _ _ _ _ e; omega))
                    (try simp only [wk, wl, Then, Blk, pickV, Nat.reduceLT, Nat.reduceEqDiff, Nat.reduceBEq, reduceIte, isConst, nilCheckV, extractV, wantJ, nth])
                    ((repeat refine WC.seq ?_); refine WC.draw (plans := pl12_12) (by kernel_rfl) ?_; simp only [pl12_12, List.mem_cons, List.not_mem_nil, or_false, forall_eq_or_imp, forall_eq])
                    have eA : (Li.1.addr != Li'.1.addr) = !decide (Li.1.addr = Li'.1.addr) := by by_cases h : Li.1.addr = Li'.1.addr <;> simp [bne, h]
                    have eD : (Li.1.data == Li'.1.data) = decide (Li.1.data = Li'.1.data) := by by_cases h : Li.1.data = Li'.1.data <;> simp [h]
                    by_cases hA : Li.1.addr = Li'.1.addr
                    · by_cases hD : Li.1.data = Li'.1.data
                      · (try simp only [wk, wl, Then, Blk, pickV, Nat.reduceLT, Nat.reduceEqDiff, Nat.reduceBEq, reduceIte, isConst, nilCheckV, extractV, wantJ, nth, wd, Chk, and_true, true_and, t3, fa75_0, fa75_1, fa25_4, Nat.zero_add, d4.at ty23 rfl, b4.at ty2 rfl, b4.at ty26 rfl, i1, i2, i3, i34.1, i34.2, i64, eA, eD, decide_eq_true hA, decide_eq_true hD, Bool.not_true, Bool.not_false, str_neq, conv_str hd4, conv_str hd4'])
                        (repeat refine WC.seq ?_)
                        refine WC.cond (b := false) (by (try simp only [wk, wl, Then, Blk, pickV, Nat.reduceLT, Nat.reduceEqDiff, Nat.reduceBEq, reduceIte, isConst, nilCheckV, extractV, wantJ, nth]); (try simp); (try omega)) (WC.skip ?_)
                        (try simp only [wk, wl, Then, Blk, pickV, Nat.reduceLT, Nat.reduceEqDiff, Nat.reduceBEq, reduceIte, isConst, nilCheckV, extractV, wantJ, nth])
                        ((repeat refine WC.seq ?_); refine WC.run ?_)
                        (try simp only [wk, wl, Then, Blk, pickV, Nat.reduceLT, Nat.reduceEqDiff, Nat.reduceBEq, reduceIte, isConst, nilCheckV, extractV, wantJ, nth, t66, bin_add])
                        have hEq : Li.1 = Li'.1 := by
                          cases Li with | mk a _ => cases Li' with | mk b _ => cases a; cases b; simp_all
                        refine ⟨_, ?_, _, i + 1, rfl, ff4, rfl, by omega, ?_, ?_⟩
                        · omega
                        · rw [st1, st2, List.map_append, List.map_append, heq]; simp [hEq]
                        (try simp only [wk, wl, Then, Blk, pickV, Nat.reduceLT, Nat.reduceEqDiff, Nat.reduceBEq, reduceIte, isConst, nilCheckV, extractV, wantJ, nth, t3, t64, t65])
                        refine ⟨trivial, trivial, trivial, ?_⟩
                        rw [wrap64 (by omega) (by omega)]; rfl
                      · (try simp only [wk, wl, Then, Blk, pickV, Nat.reduceLT, Nat.reduceEqDiff, Nat.reduceBEq, reduceIte, isConst, nilCheckV, extractV, wantJ, nth, wd, Chk, and_true, true_and, t3, fa75_0, fa75_1, fa25_4, Nat.zero_add, d4.at ty23 rfl, b4.at ty2 rfl, b4.at ty26 rfl, i1, i2, i3, i34.1, i34.2, i64, eA, eD, decide_eq_true hA, decide_eq_false hD, Bool.not_true, Bool.not_false, str_neq, conv_str hd4, conv_str hd4'])
                        (repeat refine WC.seq ?_)
                        refine WC.cond (b := true) (by (try simp only [wk, wl, Then, Blk, pickV, Nat.reduceLT, Nat.reduceEqDiff, Nat.reduceBEq, reduceIte, isConst, nilCheckV, extractV, wantJ, nth]); (try simp); (try omega)) ?_
                        ((repeat refine WC.seq ?_); refine WC.run ?_)
                        (try simp only [wk, wl, Then, Blk, pickV, Nat.reduceLT, Nat.reduceEqDiff, Nat.reduceBEq, reduceIte, isConst, nilCheckV, extractV, wantJ, nth])
                        refine WC.ret ?_
                        (try simp only [wk, wl, Then, Blk, pickV, Nat.reduceLT, Nat.reduceEqDiff, Nat.reduceBEq, reduceIte, isConst, nilCheckV, extractV, wantJ, nth])
                        exact fin _ ff4 trivial (hne fun e => hD (by rw [e]))
                    · (try simp only [wk, wl, Then, Blk, pickV, Nat.reduceLT, Nat.reduceEqDiff, Nat.reduceBEq, reduceIte, isConst, nilCheckV, extractV, wantJ, nth, wd, Chk, and_true, true_and, t3, fa75_0, fa75_1, fa25_4, Nat.zero_add, d4.at ty23 rfl, b4.at ty2 rfl, b4.at ty26 rfl, i1, i2, i3, i34.1, i34.2, i64, eA, eD, decide_eq_false hA, Bool.not_true, Bool.not_false, str_neq, conv_str hd4, conv_str hd4'])
                      (repeat refine WC.seq ?_)
                      refine WC.cond (b := true) (by (try simp only [wk, wl, Then, Blk, pickV, Nat.reduceLT, Nat.reduceEqDiff, Nat.reduceBEq, reduceIte, isConst, nilCheckV, extractV, wantJ, nth]); (try simp); (try omega)) ?_
                      ((repeat refine WC.seq ?_); refine WC.run ?_)
                      (try simp only [wk, wl, Then, Blk, pickV, Nat.reduceLT, Nat.reduceEqDiff, Nat.reduceBEq, reduceIte, isConst, nilCheckV, extractV, wantJ, nth])
                      refine WC.ret ?_
                      (try simp only [wk, wl, Then, Blk, pickV, Nat.reduceLT, Nat.reduceEqDiff, Nat.reduceBEq, reduceIte, isConst, nilCheckV, extractV, wantJ, nth])
                      exact fin _ ff4 trivial (hne fun e => hA (by rw [e]))
                  · refine WC.cond (b := false) (by (try simp only [wk, wl, Then, Blk, pickV, Nat.reduceLT, Nat.reduceEqDiff, Nat.reduceBEq, reduceIte, isConst, nilCheckV, extractV, wantJ, nth]); (try simp); (try omega)) (WC.exit ?_)
                    have : i = L.length := by omega
                    subst this
                    (try simp only [wk, wl, Then, Blk, pickV, Nat.reduceLT, Nat.reduceEqDiff, Nat.reduceBEq, reduceIte, isConst, nilCheckV, extractV, wantJ, nth])
                    ((repeat refine WC.seq ?_); refine WC.run ?_)
                    (try simp only [wk, wl, Then, Blk, pickV, Nat.reduceLT, Nat.reduceEqDiff, Nat.reduceBEq, reduceIte, isConst, nilCheckV, extractV, wantJ, nth])
                    refine WC.ret ?_
                    (try simp only [wk, wl, Then, Blk, pickV, Nat.reduceLT, Nat.reduceEqDiff, Nat.reduceBEq, reduceIte, isConst, nilCheckV, extractV, wantJ, nth])
                    refine ⟨F2.trans (ff.sub fun x hx => by omega), true, rfl, ⟨fun _ => ?_, fun _ => rfl⟩⟩
                    rw [List.take_length, q5, List.take_length, co.mems, co'.mems] at heq
                    cases c; cases c'; simp_all
                all_goals (try simp only [wk, wl, Then, Blk, pickV, Nat.reduceLT, Nat.reduceEqDiff, Nat.reduceBEq, reduceIte, isConst, nilCheckV, extractV, wantJ, nth, t3])
                all_goals rfl
            all_goals (try simp only [wk, wl, Then, Blk, pickV, Nat.reduceLT, Nat.reduceEqDiff, Nat.reduceBEq, reduceIte, isConst, nilCheckV, extractV, wantJ, nth])
            all_goals rfl
          · ((repeat refine WC.seq ?_); refine WC.run ?_)
            (try simp only [wk, wl, Then, Blk, pickV, Nat.reduceLT, Nat.reduceEqDiff, Nat.reduceBEq, reduceIte, isConst, nilCheckV, extractV, wantJ, nth, i64, fa34_0, fa34_1, fa34_2, fa34_3, fa34_4, fa25_0, fa25_1, fa25_2, fa25_3, fa25_4, Nat.zero_add, b2.at ty3 rfl, b2.at ty9 rfl, b2.at ty22 rfl, b2.at ty32 rfl, d2.at ty3 rfl, d2.at ty9 rfl, d2.at ty22 rfl, d2.at ty23 rfl, str_neq, Is.len co2.regs, Is.len co2'.regs, Sl.lenB co2.mem.sl ty32 rfl, Sl.lenB co2'.mem.sl ty23 rfl, e1, e2, e3, e4, e5, decide_eq_true q1, decide_eq_true q2, decide_eq_true q3, decide_eq_true q4, decide_eq_false q5, Bool.not_true, Bool.not_false])
            (repeat refine WC.seq ?_)
            refine WC.cond (b := true) (by (try simp only [wk, wl, Then, Blk, pickV, Nat.reduceLT, Nat.reduceEqDiff, Nat.reduceBEq, reduceIte, isConst, nilCheckV, extractV, wantJ, nth]); (try simp); (try omega)) ?_
            ((repeat refine WC.seq ?_); refine WC.run ?_)
            (try simp only [wk, wl, Then, Blk, pickV, Nat.reduceLT, Nat.reduceEqDiff, Nat.reduceBEq, reduceIte, isConst, nilCheckV, extractV, wantJ, nth])
            refine WC.ret ?_
            (try simp only [wk, wl, Then, Blk, pickV, Nat.reduceLT, Nat.reduceEqDiff, Nat.reduceBEq, reduceIte, isConst, nilCheckV, extractV, wantJ, nth])
            exact fin _ (Fix.refl _ _) trivial (fun e => q5 (by rw [hlen, hlen', e]))
        · ((repeat refine WC.seq ?_); refine WC.run ?_)
          (try simp only [wk, wl, Then, Blk, pickV, Nat.reduceLT, Nat.reduceEqDiff, Nat.reduceBEq, reduceIte, isConst, nilCheckV, extractV, wantJ, nth, i64, fa34_0, fa34_1, fa34_2, fa34_3, fa34_4, fa25_0, fa25_1, fa25_2, fa25_3, fa25_4, Nat.zero_add, b2.at ty3 rfl, b2.at ty9 rfl, b2.at ty22 rfl, b2.at ty32 rfl, d2.at ty3 rfl, d2.at ty9 rfl, d2.at ty22 rfl, d2.at ty23 rfl, str_neq, Is.len co2.regs, Is.len co2'.regs, Sl.lenB co2.mem.sl ty32 rfl, Sl.lenB co2'.mem.sl ty23 rfl, e1, e2, e3, e4, e5, decide_eq_true q1, decide_eq_true q2, decide_eq_true q3, decide_eq_false q4, Bool.not_true, Bool.not_false])
          (repeat refine WC.seq ?_)
          refine WC.cond (b := true) (by (try simp only [wk, wl, Then, Blk, pickV, Nat.reduceLT, Nat.reduceEqDiff, Nat.reduceBEq, reduceIte, isConst, nilCheckV, extractV, wantJ, nth]); (try simp); (try omega)) ?_
          ((repeat refine WC.seq ?_); refine WC.run ?_)
          (try simp only [wk, wl, Then, Blk, pickV, Nat.reduceLT, Nat.reduceEqDiff, Nat.reduceBEq, reduceIte, isConst, nilCheckV, extractV, wantJ, nth])
          refine WC.ret ?_
          (try simp only [wk, wl, Then, Blk, pickV, Nat.reduceLT, Nat.reduceEqDiff, Nat.reduceBEq, reduceIte, isConst, nilCheckV, extractV, wantJ, nth])
          exact fin _ (Fix.refl _ _) trivial (fun e => q4 (by rw [e]))
      · ((repeat refine WC.seq ?_); refine WC.run ?_)
        (try simp only [wk, wl, Then, Blk, pickV, Nat.reduceLT, Nat.reduceEqDiff, Nat.reduceBEq, reduceIte, isConst, nilCheckV, extractV, wantJ, nth, i64, fa34_0, fa34_1, fa34_2, fa34_3, fa34_4, fa25_0, fa25_1, fa25_2, fa25_3, fa25_4, Nat.zero_add, b2.at ty3 rfl, b2.at ty9 rfl, b2.at ty22 rfl, b2.at ty32 rfl, d2.at ty3 rfl, d2.at ty9 rfl, d2.at ty22 rfl, d2.at ty23 rfl, str_neq, Is.len co2.regs, Is.len co2'.regs, Sl.lenB co2.mem.sl ty32 rfl, Sl.lenB co2'.mem.sl ty23 rfl, e1, e2, e3, e4, e5, decide_eq_true q1, decide_eq_true q2, decide_eq_false q3, Bool.not_true, Bool.not_false])
        (repeat refine WC.seq ?_)
        refine WC.cond (b := true) (by (try simp only [wk, wl, Then, Blk, pickV, Nat.reduceLT, Nat.reduceEqDiff, Nat.reduceBEq, reduceIte, isConst, nilCheckV, extractV, wantJ, nth]); (try simp); (try omega)) ?_
        ((repeat refine WC.seq ?_); refine WC.run ?_)
        (try simp only [wk, wl, Then, Blk, pickV, Nat.reduceLT, Nat.reduceEqDiff, Nat.reduceBEq, reduceIte, isConst, nilCheckV, extractV, wantJ, nth])
        refine WC.ret ?_
        (try simp only [wk, wl, Then, Blk, pickV, Nat.reduceLT, Nat.reduceEqDiff, Nat.reduceBEq, reduceIte, isConst, nilCheckV, extractV, wantJ, nth])
        exact fin _ (Fix.refl _ _) trivial (fun e => q3 (by rw [e]))
    · ((repeat refine WC.seq ?_); refine WC.run ?_)
      (try simp only [wk, wl, Then, Blk, pickV, Nat.reduceLT, Nat.reduceEqDiff, Nat.reduceBEq, reduceIte, isConst, nilCheckV, extractV, wantJ, nth, i64, fa34_0, fa34_1, fa34_2, fa34_3, fa34_4, fa25_0, fa25_1, fa25_2, fa25_3, fa25_4, Nat.zero_add, b2.at ty3 rfl, b2.at ty9 rfl, b2.at ty22 rfl, b2.at ty32 rfl, d2.at ty3 rfl, d2.at ty9 rfl, d2.at ty22 rfl, d2.at ty23 rfl, str_neq, Is.len co2.regs, Is.len co2'.regs, Sl.lenB co2.mem.sl ty32 rfl, Sl.lenB co2'.mem.sl ty23 rfl, e1, e2, e3, e4, e5, decide_eq_true q1, decide_eq_false q2, Bool.not_true, Bool.not_false])
      (repeat refine WC.seq ?_)
      refine WC.cond (b := true) (by (try simp only [wk, wl, Then, Blk, pickV, Nat.reduceLT, Nat.reduceEqDiff, Nat.reduceBEq, reduceIte, isConst, nilCheckV, extractV, wantJ, nth]); (try simp); (try omega)) ?_
      ((repeat refine WC.seq ?_); refine WC.run ?_)
      (try simp only [wk, wl, Then, Blk, pickV, Nat.reduceLT, Nat.reduceEqDiff, Nat.reduceBEq, reduceIte, isConst, nilCheckV, extractV, wantJ, nth])
      refine WC.ret ?_
      (try simp only [wk, wl, Then, Blk, pickV, Nat.reduceLT, Nat.reduceEqDiff, Nat.reduceBEq, reduceIte, isConst, nilCheckV, extractV, wantJ, nth])
      exact fin _ (Fix.refl _ _) trivial (fun e => q2 (by rw [e]))
  · ((repeat refine WC.seq ?_); refine WC.run ?_)
    (try simp only [wk, wl, Then, Blk, pickV, Nat.reduceLT, Nat.reduceEqDiff, Nat.reduceBEq, reduceIte, isConst, nilCheckV, extractV, wantJ, nth, i64, fa34_0, fa34_1, fa34_2, fa34_3, fa34_4, fa25_0, fa25_1, fa25_2, fa25_3, fa25_4, Nat.zero_add, b2.at ty3 rfl, b2.at ty9 rfl, b2.at ty22 rfl, b2.at ty32 rfl, d2.at ty3 rfl, d2.at ty9 rfl, d2.at ty22 rfl, d2.at ty23 rfl, str_neq, Is.len co2.regs, Is.len co2'.regs, Sl.lenB co2.mem.sl ty32 rfl, Sl.lenB co2'.mem.sl ty23 rfl, e1, e2, e3, e4, e5, decide_eq_false q1, Bool.not_true, Bool.not_false])
    (repeat refine WC.seq ?_)
    refine WC.cond (b := true) (by (try simp only [wk, wl, Then, Blk, pickV, Nat.reduceLT, Nat.reduceEqDiff, Nat.reduceBEq, reduceIte, isConst, nilCheckV, extractV, wantJ, nth]); (try simp); (try omega)) ?_
    ((repeat refine WC.seq ?_); refine WC.run ?_)
    (try simp only [wk, wl, Then, Blk, pickV, Nat.reduceLT, Nat.reduceEqDiff, Nat.reduceBEq, reduceIte, isConst, nilCheckV, extractV, wantJ, nth])
    refine WC.ret ?_
    (try simp only [wk, wl, Then, Blk, pickV, Nat.reduceLT, Nat.reduceEqDiff, Nat.reduceBEq, reduceIte, isConst, nilCheckV, extractV, wantJ, nth])
    exact fin _ (Fix.refl _ _) trivial (fun e => q1 (by rw [e]))
end Go.Proofs.ZP
