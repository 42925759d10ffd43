/- Walks: process.Dump. -/
import Derived.Test.YtcngigkkfledgaaGreatC8
set_option linter.unusedVariables false
set_option linter.unusedSimpArgs false
set_option linter.defProp false
set_option linter.unusedSimpArgs false
namespace Go.Proofs.ZP
open Go Go.Ev
open Go.Proofs
variable {g : T (List V)}

def head : List UInt8 := [67, 79, 82, 69]
def regB (rs : List Int) : List UInt8 := rs.flatMap fun r => leB (U r) 8
def memB (ms : List Mem) : List UInt8 := ms.flatMap fun m => leB (U m.addr) 8 ++ leB m.data.length 4 ++ m.data
def pre1 (c : CoreD) : List UInt8 := head ++ leB (U c.pid) 4 ++ leB (U c.sig) 4 ++ [UInt8.ofNat c.name.length] ++ c.name ++ leB c.regs.length 2
def pre2 (c : CoreD) : List UInt8 := pre1 c ++ regB c.regs ++ leB c.mem.length 2
def dumpBody (c : CoreD) : List UInt8 := pre2 c ++ memB c.mem
def dumpB (c : CoreD) : List UInt8 := dumpBody c ++ leB (sumN (dumpBody c) % 4294967296) 4

theorem regB_length : ∀ (rs : List Int), (regB rs).length = 8 * rs.length
  | [] => rfl
  | r :: rs => by
    have := regB_length rs
    simp only [regB, List.flatMap_cons, List.length_append, leB_length, List.length_cons] at *
    omega
theorem memB_length : ∀ (ms : List Mem), (∀ m ∈ ms, m.data.length ≤ 65536) → (memB ms).length ≤ 65548 * ms.length
  | [], _ => by simp [memB]
  | m :: ms, h => by
    have := memB_length ms fun x hx => h x (List.mem_cons_of_mem _ hx)
    have h0 := h m (List.mem_cons_self ..)
    simp only [memB, List.flatMap_cons, List.length_append, leB_length, List.length_cons] at *
    omega
theorem pre1_length (c : CoreD) : (pre1 c).length = 15 + c.name.length := by
  simp [pre1, head, leB_length]; omega
theorem pre2_length (c : CoreD) : (pre2 c).length = 17 + c.name.length + 8 * c.regs.length := by
  simp [pre2, leB_length, regB_length, pre1_length]; omega
theorem regB_take {rs : List Int} {i : Nat} (hi : i < rs.length) : regB (rs.take (i + 1)) = regB (rs.take i) ++ leB (U rs[i]) 8 := by
  unfold regB
  rw [List.take_succ_eq_append_getElem hi]
  simp only [List.flatMap_append, List.flatMap_cons, List.flatMap_nil, List.append_nil]
theorem memB_take {ms : List Mem} {i : Nat} (hi : i < ms.length) : memB (ms.take (i + 1)) = memB (ms.take i) ++ (leB (U ms[i].addr) 8 ++ leB ms[i].data.length 4 ++ ms[i].data) := by
  unfold memB
  rw [List.take_succ_eq_append_getElem hi]
  simp only [List.flatMap_append, List.flatMap_cons, List.flatMap_nil, List.append_nil]

theorem orderE_nonneg : ∀ (ms : List Mem) (e : Int), 0 ≤ orderE e ms
  | [], e => Int.le_refl 0
  | m :: ms, e => by
    simp only [orderE]
    split
    · omega
    · exact orderE_nonneg ms _
/-- What check lets pass. -/
theorem check_zero {c : CoreD} (h : checkE c = 0) : (0 ≤ c.pid ∧ c.pid ≤ 1073741824) ∧ (0 ≤ c.sig ∧ c.sig ≤ 1073741824) ∧ nameE c.name = 0 ∧ c.name.length ≤ 64 ∧ c.regs.length ≤ 64 ∧ c.mem.length ≤ 1000 ∧ (∀ m ∈ c.mem, m.data.length ≤ 65536) ∧ orderE 0 c.mem = 0 := by
  unfold checkE at h
  split at h
  · cases h
  · rename_i h1
    split at h
    · rename_i h2; exact absurd h h2
    · rename_i h2
      split at h
      · cases h
      · rename_i h3
        have h2 : nameE c.name = 0 := by
          rcases Classical.em (nameE c.name = 0) with q | q
          · exact q
          · exact absurd q h2
        refine ⟨by omega, by omega, h2, ?_, by omega, by omega, fun m hm => ?_, h⟩
        · unfold nameE at h2
          split at h2
          · cases h2
          · split at h2
            · cases h2
            · omega
        · have h4 : anyBig c.mem = false := by
            cases hb : anyBig c.mem with
            | false => rfl
            | true => exact absurd (.inr (.inr hb)) h3
          unfold anyBig at h4
          rw [List.any_eq_false] at h4
          have := h4 m hm
          simp at this; omega

/-- What Dump answers. -/
def DumpR (g : T (List V)) (h : H) (c : CoreD) (v : V) (h' : H) : Prop :=
  ∃ s, v = .tuple [s, .int .i64 (checkE c)] ∧ Kept h h' ∧ ((checkE c ≠ 0 ∧ s = .nils) ∨ (checkE c = 0 ∧ BufB g h' s (dumpB c) ∧ In (· < h'.next) s ∧ In (fun b => h.next ≤ b) s))

theorem U_pos {n : Int} (h0 : 0 ≤ n) (h1 : n ≤ 1073741824) : IntKind.u32.wrap n = (U n : Int) ∧ U n < 4294967296 := by
  unfold IntKind.wrap U
  simp only [IntKind.bits, IntKind.signed, Bool.false_and, Bool.false_eq_true, if_false]
  omega

theorem wrapu16_nat (n : Nat) : IntKind.u16.wrap (n : Int) = ((n % 65536 : Nat) : Int) := by
  unfold IntKind.wrap
  simp only [IntKind.bits, IntKind.signed, Bool.false_and, Bool.false_eq_true, if_false]
  omega
theorem src_str {h : H} (s : List UInt8) : srcCells (E g) h 1 s.length (.str s) = some (s.map u8) := by
  have : Nat.beq 1 1 = true := rfl
  simp only [srcCells, this, cond_true, List.take_length]
  rfl

/-- process.Dump -/
theorem dump_ok {h : H} {v : V} {c : CoreD} {rv mv : V} {L : List (Mem × V)} (co : Co g h (· < h.next) v c rv mv L) (hM : L.length < 2 ^ 40) (hR : c.regs.length < 2 ^ 40) : WF (E g) 7 [v] h fun v h' => DumpR g h c v h' := by
  have hlen := co.len
  refine WF.enter fn7 rfl ?_
  ((repeat refine WC.seq ?_); refine WC.run ?_)
  (try simp only [wk, wl, Then, Blk, pickV, Nat.reduceLT, Nat.reduceEqDiff, Nat.reduceBEq, reduceIte, isConst, nilCheckV, extractV, wantJ, nth])
  refine wop_box (v := v) (by (try simp only [wk, wl, Then, Blk, pickV, Nat.reduceLT, Nat.reduceEqDiff, Nat.reduceBEq, reduceIte, isConst, nilCheckV, extractV, wantJ, nth])) ?_
  rw [co.val]
  intro h1 b1 n1 f1
  (try simp only [wk, wl, Then, Blk, pickV, Nat.reduceLT, Nat.reduceEqDiff, Nat.reduceBEq, reduceIte, isConst, nilCheckV, extractV, wantJ, nth])
  have b1 : Has h1 h.next [i64 c.pid, i64 c.sig, .str c.name, rv, mv] := b1
  have co1 := co.fix f1 (fun _ h => h)
  have e1 : loadP (E g) h1 34 (.ptr h.next 0) = some v := by rw [b1.agg ty34 rfl (o := 0) (Nat.le_refl 5), co.val]; rfl
  ((repeat refine WC.seq ?_); refine WC.run ?_)
  (try simp only [wk, wl, Then, Blk, pickV, Nat.reduceLT, Nat.reduceEqDiff, Nat.reduceBEq, reduceIte, isConst, nilCheckV, extractV, wantJ, nth, e1])
  refine (check_ok (co1.up fun b hb => by omega) hM hR).mono fun v h2 ⟨e2, f2⟩ => ?_
  subst e2
  (try simp only [wk, wl, Then, Blk, pickV, Nat.reduceLT, Nat.reduceEqDiff, Nat.reduceBEq, reduceIte, isConst, nilCheckV, extractV, wantJ, nth])
  ((repeat refine WC.seq ?_); refine WC.run ?_)
  (try simp only [wk, wl, Then, Blk, pickV, Nat.reduceLT, Nat.reduceEqDiff, Nat.reduceBEq, reduceIte, isConst, nilCheckV, extractV, wantJ, nth])
  (repeat refine WC.seq ?_)
  by_cases hck : checkE c = 0
  · refine WC.cond (b := false) (by (try simp only [wk, wl, Then, Blk, pickV, Nat.reduceLT, Nat.reduceEqDiff, Nat.reduceBEq, reduceIte, isConst, nilCheckV, extractV, wantJ, nth, hck]); (try simp); (try omega)) (WC.skip ?_)
    (try simp only [wk, wl, Then, Blk, pickV, Nat.reduceLT, Nat.reduceEqDiff, Nat.reduceBEq, reduceIte, isConst, nilCheckV, extractV, wantJ, nth])
    obtain ⟨⟨p0, p1⟩, ⟨s0, s1⟩, hnm, hn64, hr64, hm1000, hdat, hord⟩ := check_zero hck
    ((repeat refine WC.seq ?_); refine WC.run ?_)
    (try simp only [wk, wl, Then, Blk, pickV, Nat.reduceLT, Nat.reduceEqDiff, Nat.reduceBEq, reduceIte, isConst, nilCheckV, extractV, wantJ, nth])
    refine le_ok.mono fun v h3 ⟨e3, f3⟩ => ?_
    subst e3
    (try simp only [wk, wl, Then, Blk, pickV, Nat.reduceLT, Nat.reduceEqDiff, Nat.reduceBEq, reduceIte, isConst, nilCheckV, extractV, wantJ, nth])
    refine wop_alloc ty68 ?_
    intro h4 b4 n4 f4
    (try simp only [wk, wl, Then, Blk, pickV, Nat.reduceLT, Nat.reduceEqDiff, Nat.reduceBEq, reduceIte, isConst, nilCheckV, extractV, wantJ, nth])
    refine sat_store b4 ty68 rfl (by decide) rfl ?_
    intro h5 b5 n5 f5
    have b5 : Has h5 h3.next [] := b5
    (try simp only [wk, wl, Then, Blk, pickV, Nat.reduceLT, Nat.reduceEqDiff, Nat.reduceBEq, reduceIte, isConst, nilCheckV, extractV, wantJ, nth])
    ((repeat refine WC.seq ?_); refine WC.run ?_)
    (try simp only [wk, wl, Then, Blk, pickV, Nat.reduceLT, Nat.reduceEqDiff, Nat.reduceBEq, reduceIte, isConst, nilCheckV, extractV, wantJ, nth])
    refine sat_literal (cs := head.map u8) ty26 rfl ty5 rfl (by decide) (by decide) rfl rfl ?_
    intro h6 r6 n6 f6
    (try simp only [wk, wl, Then, Blk, pickV, Nat.reduceLT, Nat.reduceEqDiff, Nat.reduceBEq, reduceIte, isConst, nilCheckV, extractV, wantJ, nth])
    refine sat_mark r6 ty26 rfl ty5 rfl ?_
    intro h7 r7 n7 f7
    (try simp only [wk, wl, Then, Blk, pickV, Nat.reduceLT, Nat.reduceEqDiff, Nat.reduceBEq, reduceIte, isConst, nilCheckV, extractV, wantJ, nth])
    have l7 : BufB g h7 (.slice h5.next 0 4 (.lit 4)) head := .lit r7 row_cells
    have gr : GrewB g h7 (.slice h5.next 0 4 (.lit 4)) h7 (.slice h5.next 0 4 (.lit 4)) head := Grew.refl l7 (fun b o n c e => by injection e with e; omega)
    -- what stays
    have x2 := f2.next
    have x3 := f3.next
    have B1 : Has h7 h.next [i64 c.pid, i64 c.sig, .str c.name, rv, mv] := (((((b1.fix f2 (by omega)).fix f3 (by omega)).fix f4 (by omega)).fix f5 (by omega)).fix f6 (by omega)).fix f7 (by omega)
    have B5 : Has h7 h3.next [] := (b5.fix f6 (by omega)).fix f7 (by omega)
    have F17 : Fix (· < h1.next) h1 h7 := ⟨by omega, fun c hc => by rw [f7.same c (by omega), f6.same c (by omega), f5.same c (by omega), f4.same c (by omega), f3.same c (by omega), f2.same c hc]⟩
    have co7 := co1.fix F17 (fun b hb => by omega)
    have out : ∀ c, c < h5.next → c < h7.next ∧ ∀ o m cc, V.slice h5.next 0 4 (.lit 4) ≠ .slice c o m cc := fun c hc => ⟨by omega, fun o m cc e => by injection e with e; omega⟩
    -- the first numbers
    ((repeat refine WC.seq ?_); refine WC.run ?_)
    (try simp only [wk, wl, Then, Blk, pickV, Nat.reduceLT, Nat.reduceEqDiff, Nat.reduceBEq, reduceIte, isConst, nilCheckV, extractV, wantJ, nth, B5.agg ty68 rfl (o := 0) (Nat.le_refl 0), fa34_0, Nat.zero_add, show loadP (E g) h7 3 (.ptr h.next 0) = some (.int .i64 c.pid) from B1.at ty3 rfl 0, conv_int ty3 ty71 rfl, (U_pos p0 p1).1])
    refine (app32_ok gr.buf gr.low (U_pos p0 p1).2 (by simp [head])).mono fun s8 h8 g8 => ?_
    have gr := gr.trans g8
    (try simp only [wk, wl, Then, Blk, pickV, Nat.reduceLT, Nat.reduceEqDiff, Nat.reduceBEq, reduceIte, isConst, nilCheckV, extractV, wantJ, nth])
    have C1 := B1.fix gr.fix (out _ (by omega))
    have C5 := B5.fix gr.fix (out _ (by omega))
    ((repeat refine WC.seq ?_); refine WC.run ?_)
    (try simp only [wk, wl, Then, Blk, pickV, Nat.reduceLT, Nat.reduceEqDiff, Nat.reduceBEq, reduceIte, isConst, nilCheckV, extractV, wantJ, nth, C5.agg ty68 rfl (o := 0) (Nat.le_refl 0), fa34_1, Nat.zero_add, show loadP (E g) h8 3 (.ptr h.next 1) = some (.int .i64 c.sig) from C1.at ty3 rfl 1, conv_int ty3 ty71 rfl, (U_pos s0 s1).1])
    refine (app32_ok gr.buf gr.low (U_pos s0 s1).2 (by simp [head, leB_length])).mono fun s9 h9 g9 => ?_
    have gr := gr.trans g9
    (try simp only [wk, wl, Then, Blk, pickV, Nat.reduceLT, Nat.reduceEqDiff, Nat.reduceBEq, reduceIte, isConst, nilCheckV, extractV, wantJ, nth])
    clear C1 C5
    have C1 := B1.fix gr.fix (out _ (by omega))
    have C5 := B5.fix gr.fix (out _ (by omega))
    -- the name
    ((repeat refine WC.seq ?_); refine WC.draw (plans := pl7_8) (by kernel_rfl) ?_; simp only [pl7_8, List.mem_cons, List.not_mem_nil, or_false, forall_eq_or_imp, forall_eq])
    (try simp only [wk, wl, Then, Blk, pickV, Nat.reduceLT, Nat.reduceEqDiff, Nat.reduceBEq, reduceIte, isConst, nilCheckV, extractV, wantJ, nth, wd, Chk, and_true, true_and, fa34_2, Nat.zero_add, C1.at ty9 rfl, len_str, conv_int ty3 ty5 rfl, wrapu8_nat, u8_ofNat])
    refine sat_slice1 ty26 rfl ty5 rfl rfl rfl ?_
    intro h10 b10 n10 f10
    have x9 := gr.fix.next
    have D1 := C1.fix f10 (by omega)
    (try simp only [wk, wl, Then, Blk, pickV, Nat.reduceLT, Nat.reduceEqDiff, Nat.reduceBEq, reduceIte, isConst, nilCheckV, extractV, wantJ, nth, wd, Chk, and_true, true_and, fa34_2, Nat.zero_add, D1.at ty9 rfl, len_str, conv_int ty3 ty5 rfl, wrapu8_nat, u8_ofNat])
    have gr := gr.keep f10
    refine app_ok (ys := [UInt8.ofNat c.name.length]) gr ty26 (.inl ⟨_, rfl⟩) b10.sl.len b10.sl.cells (by simp [head, leB_length]) ?_
    intro s11 h11 gr ff11
    clear D1
    have D1 := B1.fix gr.fix (out _ (by omega))
    (try simp only [wk, wl, Then, Blk, pickV, Nat.reduceLT, Nat.reduceEqDiff, Nat.reduceBEq, reduceIte, isConst, nilCheckV, extractV, wantJ, nth, wd, Chk, and_true, true_and, fa34_2, Nat.zero_add, D1.at ty9 rfl, len_str, conv_int ty3 ty5 rfl, wrapu8_nat, u8_ofNat])
    refine app_ok (ys := c.name) gr ty9 (.inr rfl) rfl (src_str c.name) (by simp [head, leB_length]; omega) ?_
    intro s12 h12 gr ff12
    clear D1 C1 C5
    have C1 := B1.fix gr.fix (out _ (by omega))
    have C5 := B5.fix gr.fix (out _ (by omega))
    (try simp only [wk, wl, Then, Blk, pickV, Nat.reduceLT, Nat.reduceEqDiff, Nat.reduceBEq, reduceIte, isConst, nilCheckV, extractV, wantJ, nth, wd, Chk, and_true, true_and, fa34_2, Nat.zero_add, C1.at ty9 rfl, len_str, conv_int ty3 ty5 rfl, wrapu8_nat, u8_ofNat])
    -- how many registers
    ((repeat refine WC.seq ?_); refine WC.run ?_)
    (try simp only [wk, wl, Then, Blk, pickV, Nat.reduceLT, Nat.reduceEqDiff, Nat.reduceBEq, reduceIte, isConst, nilCheckV, extractV, wantJ, nth, C5.agg ty68 rfl (o := 0) (Nat.le_refl 0), fa34_3, Nat.zero_add, C1.at ty22 rfl, co1.regs.len, conv_int ty3 ty43 rfl, wrapu16_nat])
    rw [Nat.mod_eq_of_lt (show c.regs.length < 65536 by omega)]
    refine (app16_ok gr.buf gr.low (by omega) (by simp [head, leB_length]; omega)).mono fun s13 h13 g13 => ?_
    have gr := gr.trans g13
    (try simp only [wk, wl, Then, Blk, pickV, Nat.reduceLT, Nat.reduceEqDiff, Nat.reduceBEq, reduceIte, isConst, nilCheckV, extractV, wantJ, nth])
    clear C1 C5
    have C1 := B1.fix gr.fix (out _ (by omega))
    have gr : GrewB g h7 (.slice h5.next 0 4 (.lit 4)) h13 s13 (pre1 c) := gr
    have lp1 := pre1_length c
    -- the registers
    ((repeat refine WC.seq ?_); refine WC.run ?_)
    (try simp only [wk, wl, Then, Blk, pickV, Nat.reduceLT, Nat.reduceEqDiff, Nat.reduceBEq, reduceIte, isConst, nilCheckV, extractV, wantJ, nth, fa34_3, Nat.zero_add, C1.at ty22 rfl, co1.regs.len])
    (repeat refine WC.seq ?_)
    refine WC.block ?_
    refine WC.while (fun m fr hh => ∃ ts i s, fr = ⟨ts, 98, [], 7, none⟩ ∧ GrewB g h7 (.slice h5.next 0 4 (.lit 4)) hh s (pre1 c ++ regB (c.regs.take i)) ∧ m = c.regs.length - i ∧ i ≤ c.regs.length ∧ ts.get 1 = some (.ptr h.next 0) ∧ ts.get 5 = some (.ptr h3.next 0) ∧ ts.get 6 = some s ∧ ts.get 49 = some rv ∧ ts.get 50 = some (.int .i64 c.regs.length) ∧ ts.get 51 = some (.int .i64 i)) ?_ ⟨_, 0, s13, rfl, ?_, rfl, by omega, ?_, ?_, ?_, ?_, ?_, ?_⟩
    · rintro m fr hh ⟨ts, i, s, rfl, gr, rfl, hi, t1, t5, t6, t49, t50, t51⟩
      have C1 := B1.fix gr.fix (out _ (by omega))
      have C5 := B5.fix gr.fix (out _ (by omega))
      ((repeat refine WC.seq ?_); refine WC.run ?_)
      (try simp only [wk, wl, Then, Blk, pickV, Nat.reduceLT, Nat.reduceEqDiff, Nat.reduceBEq, reduceIte, isConst, nilCheckV, extractV, wantJ, nth, t50, t51])
      (repeat refine WC.seq ?_)
      by_cases hlt : i < c.regs.length
      · refine WC.cond (b := true) (by (try simp only [wk, wl, Then, Blk, pickV, Nat.reduceLT, Nat.reduceEqDiff, Nat.reduceBEq, reduceIte, isConst, nilCheckV, extractV, wantJ, nth]); (try simp); (try omega)) (WC.skip ?_)
        (try simp only [wk, wl, Then, Blk, pickV, Nat.reduceLT, Nat.reduceEqDiff, Nat.reduceBEq, reduceIte, isConst, nilCheckV, extractV, wantJ, nth])
        have is7 : Is g hh rv c.regs := Sl.fix co7.regs (co7.inR.sub fun b hb => out b (by omega)) gr.fix
        obtain ⟨p, p1', p2'⟩ := is7.at hlt
        (repeat refine WC.seq ?_)
        refine WC.block ?_
        ((repeat refine WC.seq ?_); refine WC.run ?_)
        (try simp only [wk, wl, Then, Blk, pickV, Nat.reduceLT, Nat.reduceEqDiff, Nat.reduceBEq, reduceIte, isConst, nilCheckV, extractV, wantJ, nth, t49, t51, p1', p2', i64])
        ((repeat refine WC.seq ?_); refine WC.run ?_)
        (try simp only [wk, wl, Then, Blk, pickV, Nat.reduceLT, Nat.reduceEqDiff, Nat.reduceBEq, reduceIte, isConst, nilCheckV, extractV, wantJ, nth, t5, t6, C5.agg ty68 rfl (o := 0) (Nat.le_refl 0), conv_int ty2 ty74 rfl, wrapu64_U])
        have hlr : (regB (c.regs.take i)).length ≤ 512 := by rw [regB_length]; simp; omega
        refine (app64_ok gr.buf gr.low (U_lt _) (by simp; omega)).mono fun s' h' g' => ?_
        have gr := gr.trans g'
        rw [List.append_assoc, ← regB_take hlt] at gr
        (try simp only [wk, wl, Then, Blk, pickV, Nat.reduceLT, Nat.reduceEqDiff, Nat.reduceBEq, reduceIte, isConst, nilCheckV, extractV, wantJ, nth])
        ((repeat refine WC.seq ?_); refine WC.run ?_)
        (try simp only [wk, wl, Then, Blk, pickV, Nat.reduceLT, Nat.reduceEqDiff, Nat.reduceBEq, reduceIte, isConst, nilCheckV, extractV, wantJ, nth, t51, bin_add])
        refine ⟨_, ?_, _, i + 1, s', rfl, gr, rfl, by omega, ?_⟩
        · omega
        (try simp only [wk, wl, Then, Blk, pickV, Nat.reduceLT, Nat.reduceEqDiff, Nat.reduceBEq, reduceIte, isConst, nilCheckV, extractV, wantJ, nth, t1, t5, t49, t50])
        refine ⟨trivial, trivial, trivial, trivial, trivial, ?_⟩
        rw [wrap64 (by omega) (by omega)]; rfl
      · refine WC.cond (b := false) (by (try simp only [wk, wl, Then, Blk, pickV, Nat.reduceLT, Nat.reduceEqDiff, Nat.reduceBEq, reduceIte, isConst, nilCheckV, extractV, wantJ, nth]); (try simp); (try omega)) (WC.exit ?_)
        have : i = c.regs.length := by omega
        subst this
        rw [List.take_length] at gr
        (try simp only [wk, wl, Then, Blk, pickV, Nat.reduceLT, Nat.reduceEqDiff, Nat.reduceBEq, reduceIte, isConst, nilCheckV, extractV, wantJ, nth])
        -- how many parts of memory
        ((repeat refine WC.seq ?_); refine WC.run ?_)
        (try simp only [wk, wl, Then, Blk, pickV, Nat.reduceLT, Nat.reduceEqDiff, Nat.reduceBEq, reduceIte, isConst, nilCheckV, extractV, wantJ, nth, t1, t5, t6, C5.agg ty68 rfl (o := 0) (Nat.le_refl 0), fa34_4, Nat.zero_add, C1.at ty32 rfl, co1.mem.sl.lenB ty32 rfl, conv_int ty3 ty43 rfl, wrapu16_nat])
        rw [Nat.mod_eq_of_lt (show L.length < 65536 by omega), hlen]
        have hlr := regB_length c.regs
        refine (app16_ok gr.buf gr.low (by omega) (by simp; omega)).mono fun s14 h14 g14 => ?_
        have gr : GrewB g h7 (.slice h5.next 0 4 (.lit 4)) h14 s14 (pre2 c) := gr.trans g14
        clear C1 C5
        have C1 := B1.fix gr.fix (out _ (by omega))
        have lp2 := pre2_length c
        (try simp only [wk, wl, Then, Blk, pickV, Nat.reduceLT, Nat.reduceEqDiff, Nat.reduceBEq, reduceIte, isConst, nilCheckV, extractV, wantJ, nth])
        ((repeat refine WC.seq ?_); refine WC.run ?_)
        (try simp only [wk, wl, Then, Blk, pickV, Nat.reduceLT, Nat.reduceEqDiff, Nat.reduceBEq, reduceIte, isConst, nilCheckV, extractV, wantJ, nth, t1, fa34_4, Nat.zero_add, C1.at ty32 rfl, co1.mem.sl.lenB ty32 rfl])
        (repeat refine WC.seq ?_)
        refine WC.block ?_
        have hms : ∀ i, ((L.take i).map (·.1)) = c.mem.take i := fun i => by rw [← co.mems, List.map_take]
        refine WC.while (fun m fr hh => ∃ ts i s, fr = ⟨ts, 98, [], 7, none⟩ ∧ GrewB g h7 (.slice h5.next 0 4 (.lit 4)) hh s (pre2 c ++ memB (c.mem.take i)) ∧ m = L.length - i ∧ i ≤ L.length ∧ ts.get 1 = some (.ptr h.next 0) ∧ ts.get 5 = some (.ptr h3.next 0) ∧ ts.get 6 = some s ∧ ts.get 69 = some mv ∧ ts.get 70 = some (.int .i64 L.length) ∧ ts.get 71 = some (.int .i64 i)) ?_ ⟨_, 0, s14, rfl, ?_, rfl, by omega, ?_, ?_, ?_, ?_, ?_, ?_⟩
        · rintro m fr hh ⟨ts, i, s, rfl, gr, rfl, hi, t1, t5, t6, t69, t70, t71⟩
          have C5 := B5.fix gr.fix (out _ (by omega))
          ((repeat refine WC.seq ?_); refine WC.run ?_)
          (try simp only [wk, wl, Then, Blk, pickV, Nat.reduceLT, Nat.reduceEqDiff, Nat.reduceBEq, reduceIte, isConst, nilCheckV, extractV, wantJ, nth, t70, t71])
          (repeat refine WC.seq ?_)
          have hml : (memB (c.mem.take i)).length ≤ 65548 * 1000 := by
            refine Nat.le_trans (memB_length _ fun m hm => hdat m (List.mem_of_mem_take hm)) ?_
            refine Nat.mul_le_mul_left _ ?_
            simp; omega
          by_cases hlt : i < L.length
          · refine WC.cond (b := true) (by (try simp only [wk, wl, Then, Blk, pickV, Nat.reduceLT, Nat.reduceEqDiff, Nat.reduceBEq, reduceIte, isConst, nilCheckV, extractV, wantJ, nth]); (try simp); (try omega)) (WC.skip ?_)
            (try simp only [wk, wl, Then, Blk, pickV, Nat.reduceLT, Nat.reduceEqDiff, Nat.reduceBEq, reduceIte, isConst, nilCheckV, extractV, wantJ, nth])
            have ms7 : Ms g hh mv L := co7.mem.fix (co7.inM.sub fun b hb => out b (by omega)) (fun p hp => (co7.inL p hp).sub fun b hb => out b (by omega)) gr.fix
            obtain ⟨p, p1', p2'⟩ := ms7.at ty32 rfl ty75 rfl rfl hlt
            have p2' := p2' hh fun _ _ _ _ _ => rfl
            have hmem := List.getElem_mem hlt
            have hd := ms7.dat _ hmem
            have hin : In (· < hh.next) (L[i]).2 := (co7.inL _ hmem).sub fun b hb => by have := gr.fix.next; omega
            have hmi : c.mem[i]'(by omega) = (L[i]).1 := by
              have : (L.map (·.1))[i]'(by simpa using hlt) = (L[i]).1 := by simp
              rw [← this]; congr 1; exact co.mems.symm
            have hdl : (L[i]).1.data.length ≤ 65536 := by rw [← hmi]; exact hdat _ (List.getElem_mem _)
            (repeat refine WC.seq ?_)
            refine WC.block ?_
            ((repeat refine WC.seq ?_); refine WC.run ?_)
            (try simp only [wk, wl, Then, Blk, pickV, Nat.reduceLT, Nat.reduceEqDiff, Nat.reduceBEq, reduceIte, isConst, nilCheckV, extractV, wantJ, nth, t69, t71, p1', p2'])
            refine wop_alloc ty75 ?_
            intro h15 b15 n15 f15
            (try simp only [wk, wl, Then, Blk, pickV, Nat.reduceLT, Nat.reduceEqDiff, Nat.reduceBEq, reduceIte, isConst, nilCheckV, extractV, wantJ, nth])
            refine sat_store b15 ty75 rfl (by decide) (by
              have := Sl.len hd
              generalize (L[i]).2 = d at this ⊢
              unfold lenV at this
              split at this <;> first | rfl | cases this) ?_
            intro h16 b16 n16 f16
            have b16 : Has h16 hh.next [i64 (L[i]).1.addr, (L[i]).2] := b16
            have hadr : loadP (E g) h16 2 (.ptr hh.next 0) = some (.int .i64 (L[i]).1.addr) := b16.at ty2 rfl 0
            have F : Kept hh h16 := ⟨by omega, fun c hc => by rw [f16.same c (by omega), f15.same c hc]⟩
            have low0 := gr.low
            have dat' : ∀ {h' : H} {s' : V} {n : Nat} {vs : List V}, Grew (E g) 5 1 h7 (.slice h5.next 0 4 (.lit 4)) h' s' n vs → Bs g h' (L[i]).2 (L[i]).1.data := fun gr => Sl.fix (co7.mem.dat _ hmem) ((co7.inL _ hmem).sub fun b hb => out b (by omega)) gr.fix
            have gr := gr.keep F
            have C5 := B5.fix gr.fix (out _ (by omega))
            (try simp only [wk, wl, Then, Blk, pickV, Nat.reduceLT, Nat.reduceEqDiff, Nat.reduceBEq, reduceIte, isConst, nilCheckV, extractV, wantJ, nth])
            ((repeat refine WC.seq ?_); refine WC.run ?_)
            (try simp only [wk, wl, Then, Blk, pickV, Nat.reduceLT, Nat.reduceEqDiff, Nat.reduceBEq, reduceIte, isConst, nilCheckV, extractV, wantJ, nth, t5, t6, C5.agg ty68 rfl (o := 0) (Nat.le_refl 0), fa75_0, Nat.zero_add, hadr, conv_int ty2 ty74 rfl, wrapu64_U])
            refine (app64_ok gr.buf gr.low (U_lt _) (by simp; omega)).mono fun s17 h17 g17 => ?_
            have gr := gr.trans g17
            have b17 := b16.fix g17.fix ⟨by omega, fun o m cc e => by have := low0 _ _ _ _ e; omega⟩
            have C5 := B5.fix gr.fix (out _ (by omega))
            have x17 := g17.fix.next
            have low17 := gr.low
            have ne17 : ∀ o m cc, s17 ≠ .slice hh.next o m cc := fun o m cc e => by
              rcases g17.own _ _ _ _ e with q | ⟨o, k, c, q⟩
              · omega
              · have := low0 _ _ _ _ q; omega
            (try simp only [wk, wl, Then, Blk, pickV, Nat.reduceLT, Nat.reduceEqDiff, Nat.reduceBEq, reduceIte, isConst, nilCheckV, extractV, wantJ, nth])
            ((repeat refine WC.seq ?_); refine WC.run ?_)
            (try simp only [wk, wl, Then, Blk, pickV, Nat.reduceLT, Nat.reduceEqDiff, Nat.reduceBEq, reduceIte, isConst, nilCheckV, extractV, wantJ, nth, t5, C5.agg ty68 rfl (o := 0) (Nat.le_refl 0), fa75_1, Nat.zero_add, b17.at ty26 rfl, (dat' gr).len, conv_int ty3 ty71 rfl, wrapu32_nat])
            rw [Nat.mod_eq_of_lt (show (L[i]).1.data.length < 4294967296 by omega)]
            refine (app32_ok gr.buf gr.low (by omega) (by simp [leB_length]; omega)).mono fun s18 h18 g18 => ?_
            have gr := gr.trans g18
            have b18 := b17.fix g18.fix ⟨by omega, ne17⟩
            (try simp only [wk, wl, Then, Blk, pickV, Nat.reduceLT, Nat.reduceEqDiff, Nat.reduceBEq, reduceIte, isConst, nilCheckV, extractV, wantJ, nth])
            ((repeat refine WC.seq ?_); refine WC.run ?_)
            (try simp only [wk, wl, Then, Blk, pickV, Nat.reduceLT, Nat.reduceEqDiff, Nat.reduceBEq, reduceIte, isConst, nilCheckV, extractV, wantJ, nth, fa75_1, Nat.zero_add, b18.at ty26 rfl])
            refine app_ok (ys := (L[i]).1.data) gr ty26 (.inl ⟨_, rfl⟩) (Sl.len (dat' gr)) (dat' gr).cells (by simp [leB_length]; omega) ?_
            intro s19 h19 gr ff19
            have emem : memB (c.mem.take (i + 1)) = memB (c.mem.take i) ++ (leB (U (L[i]).1.addr) 8 ++ leB (L[i]).1.data.length 4 ++ (L[i]).1.data) := by rw [memB_take (show i < c.mem.length by omega), hmi]
            have gr : GrewB g h7 (.slice h5.next 0 4 (.lit 4)) h19 s19 (pre2 c ++ memB (c.mem.take (i + 1))) := by
              rw [emem]; simpa [List.append_assoc] using gr
            (try simp only [wk, wl, Then, Blk, pickV, Nat.reduceLT, Nat.reduceEqDiff, Nat.reduceBEq, reduceIte, isConst, nilCheckV, extractV, wantJ, nth])
            ((repeat refine WC.seq ?_); refine WC.run ?_)
            (try simp only [wk, wl, Then, Blk, pickV, Nat.reduceLT, Nat.reduceEqDiff, Nat.reduceBEq, reduceIte, isConst, nilCheckV, extractV, wantJ, nth, t71, bin_add])
            refine ⟨_, ?_, _, i + 1, s19, rfl, gr, rfl, by omega, ?_⟩
            · omega
            (try simp only [wk, wl, Then, Blk, pickV, Nat.reduceLT, Nat.reduceEqDiff, Nat.reduceBEq, reduceIte, isConst, nilCheckV, extractV, wantJ, nth, t1, t5, t69, t70])
            refine ⟨trivial, trivial, trivial, trivial, trivial, ?_⟩
            rw [wrap64 (by omega) (by omega)]; rfl
          · refine WC.cond (b := false) (by (try simp only [wk, wl, Then, Blk, pickV, Nat.reduceLT, Nat.reduceEqDiff, Nat.reduceBEq, reduceIte, isConst, nilCheckV, extractV, wantJ, nth]); (try simp); (try omega)) (WC.exit ?_)
            have : i = L.length := by omega
            subst this
            have hle : (c.mem.take L.length) = c.mem := List.take_of_length_le (by omega)
            rw [hle] at gr hml
            have gr : GrewB g h7 (.slice h5.next 0 4 (.lit 4)) hh s (dumpBody c) := gr
            have hbl : (dumpBody c).length ≤ 2 ^ 38 := by unfold dumpBody; simp; omega
            (try simp only [wk, wl, Then, Blk, pickV, Nat.reduceLT, Nat.reduceEqDiff, Nat.reduceBEq, reduceIte, isConst, nilCheckV, extractV, wantJ, nth])
            ((repeat refine WC.seq ?_); refine WC.draw (plans := pl7_23) (by kernel_rfl) ?_; simp only [pl7_23, List.mem_cons, List.not_mem_nil, or_false, forall_eq_or_imp, forall_eq])
            (try simp only [wk, wl, Then, Blk, pickV, Nat.reduceLT, Nat.reduceEqDiff, Nat.reduceBEq, reduceIte, isConst, nilCheckV, extractV, wantJ, nth, wd, Chk, and_true, true_and, t1, t5, t6, C5.agg ty68 rfl (o := 0) (Nat.le_refl 0)])
            refine (sum_ok gr.buf.sl (by omega)).mono fun v18 h18 ⟨e18, e18'⟩ => ?_
            subst e18 e18'
            (try simp only [wk, wl, Then, Blk, pickV, Nat.reduceLT, Nat.reduceEqDiff, Nat.reduceBEq, reduceIte, isConst, nilCheckV, extractV, wantJ, nth, wd, Chk, and_true, true_and, t1, t5, t6, C5.agg ty68 rfl (o := 0) (Nat.le_refl 0)])
            refine (app32_ok gr.buf gr.low (Nat.mod_lt _ (by decide)) (by omega)).mono fun s19 h19 g19 => ?_
            have gr := gr.trans g19
            (try simp only [wk, wl, Then, Blk, pickV, Nat.reduceLT, Nat.reduceEqDiff, Nat.reduceBEq, reduceIte, isConst, nilCheckV, extractV, wantJ, nth, wd, Chk, and_true, true_and])
            (repeat refine WC.seq ?_)
            refine WC.ret ?_
            (try simp only [wk, wl, Then, Blk, pickV, Nat.reduceLT, Nat.reduceEqDiff, Nat.reduceBEq, reduceIte, isConst, nilCheckV, extractV, wantJ, nth])
            refine ⟨s19, by rw [hck], ⟨by have := gr.fix.next; omega, fun b hb => ?_⟩, .inr ⟨hck, gr.buf, gr.low, fun b o k cc e => ?_⟩⟩
            · rw [gr.fix.same b (out b (by omega)), F17.same b (by omega), f1.same b hb]
            · rcases gr.own _ _ _ _ e with q | ⟨o, k, c, q⟩
              · omega
              · injection q with q; omega
        · simpa [memB] using gr
        all_goals (try simp only [wk, wl, Then, Blk, pickV, Nat.reduceLT, Nat.reduceEqDiff, Nat.reduceBEq, reduceIte, isConst, nilCheckV, extractV, wantJ, nth, t1, t5])
        all_goals (try simp)
    · simpa [regB] using gr
    all_goals (try simp only [wk, wl, Then, Blk, pickV, Nat.reduceLT, Nat.reduceEqDiff, Nat.reduceBEq, reduceIte, isConst, nilCheckV, extractV, wantJ, nth])
    all_goals simp
  · refine WC.cond (b := true) (by (try simp only [wk, wl, Then, Blk, pickV, Nat.reduceLT, Nat.reduceEqDiff, Nat.reduceBEq, reduceIte, isConst, nilCheckV, extractV, wantJ, nth, hck]); (try simp); (try omega)) ?_
    ((repeat refine WC.seq ?_); refine WC.run ?_)
    (try simp only [wk, wl, Then, Blk, pickV, Nat.reduceLT, Nat.reduceEqDiff, Nat.reduceBEq, reduceIte, isConst, nilCheckV, extractV, wantJ, nth])
    refine WC.ret ?_
    (try simp only [wk, wl, Then, Blk, pickV, Nat.reduceLT, Nat.reduceEqDiff, Nat.reduceBEq, reduceIte, isConst, nilCheckV, extractV, wantJ, nth])
    exact ⟨_, rfl, f1.trans (f2.sub fun b hb => by omega), .inl ⟨hck, rfl⟩⟩
end Go.Proofs.ZP
