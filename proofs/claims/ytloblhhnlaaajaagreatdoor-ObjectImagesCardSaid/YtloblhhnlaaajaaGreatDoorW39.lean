/- Plain laws of images: what is written is read again, by both. -/
import Derived.Test.YtloblhhnlaaajaaGreatDoorW15
import Derived.Test.YtloblhhnlaaajaaGreatDoorW38
import Derived.Test.YtloblhhnlaaajaaGreatDoorW23
import Derived.Test.YtloblhhnlaaajaaGreatDoorW30
set_option linter.unusedVariables false
set_option linter.unusedSimpArgs false
set_option linter.defProp false
namespace Go.Proofs.OP
open Go Go.Ev

structure ImgOk (x : ImgD) : Prop where
  base : In64 x.base
  code : In64 x.code
  entry : In64 x.entry
  exps : ∀ s ∈ x.exps, In64 s.addr
  slots : ∀ s ∈ x.slots, In64 s.addr ∧ In64 s.bound
theorem imgOk_of {x : ImgD} (sm : SmallI x) : ImgOk x := by
  obtain ⟨a1, a2, -, a4, a5, a6, a7, a8⟩ := sm.head
  refine ⟨⟨by omega, by omega⟩, ⟨by omega, by omega⟩, ⟨by omega, by omega⟩, fun s hs => ?_, fun s hs => ?_⟩
  · have := sm.eaddr s hs; exact ⟨by omega, by omega⟩
  · have := sm.saddr s hs; exact ⟨⟨by omega, by omega⟩, ⟨by omega, by omega⟩⟩
theorem exp_back {s : ExpD} {r : List UInt8} (h1 : In64 s.addr) (h3 : s.name.length < 2 ^ 31) : expR ⟨expB s ++ r, false⟩ = (s, ⟨r, false⟩) := by
  have e : expB s ++ r = txtB [s.name] ++ (leB (U s.addr) 8 ++ r) := by simp [expB, numB]
  unfold expR
  simp only [e, byt_back h3, num_back h1]
theorem slot_back {s : SlotD} {r : List UInt8} (h1 : In64 s.addr) (h2 : In64 s.bound) (h3 : s.name.length < 2 ^ 31) : slotR ⟨slotB s ++ r, false⟩ = (s, ⟨r, false⟩) := by
  have e : slotB s ++ r = txtB [s.name] ++ (leB (U s.addr) 8 ++ (leB (U s.bound) 8 ++ r)) := by simp [slotB, numB]
  unfold slotR
  simp only [e, byt_back h3, num_back h1, num_back h2]
theorem rexp_back {s : ExpD} {r : List UInt8} (h1 : In64 s.addr) (h3 : s.name.length < 2 ^ 31) : rexpR ⟨expB s ++ r, false⟩ = (s, ⟨r, false⟩) := by
  have e : expB s ++ r = txtB [s.name] ++ (leB (U s.addr) 8 ++ r) := by simp [expB, numB]
  unfold rexpR
  simp only [e, rtxt_back h3, rnum_back h1]
theorem rslot_back {s : SlotD} {r : List UInt8} (h1 : In64 s.addr) (h2 : In64 s.bound) (h3 : s.name.length < 2 ^ 31) : rslotR ⟨slotB s ++ r, false⟩ = (s, ⟨r, false⟩) := by
  have e : slotB s ++ r = txtB [s.name] ++ (leB (U s.addr) 8 ++ (leB (U s.bound) 8 ++ r)) := by simp [slotB, numB]
  unfold rslotR
  simp only [e, rtxt_back h3, rnum_back h1, rnum_back h2]
def iest6 (x : ImgD) : List UInt8 := numB [(x.needs.length : Int)] ++ ((x.needs.flatMap fun s => txtB [s]) ++ [])
def iest5 (x : ImgD) : List UInt8 := numB [(x.slots.length : Int)] ++ (x.slots.flatMap slotB ++ iest6 x)
def iest4 (x : ImgD) : List UInt8 := numB [(x.exps.length : Int)] ++ (x.exps.flatMap expB ++ iest5 x)
def iest3 (x : ImgD) : List UInt8 := leB (U x.entry) 8 ++ iest4 x
def iest2 (x : ImgD) : List UInt8 := leB (U x.code) 8 ++ iest3 x
def iest1 (x : ImgD) : List UInt8 := txtB [x.bytes] ++ iest2 x
def ibody (x : ImgD) : List UInt8 := leB (U x.base) 8 ++ iest1 x
theorem nb_one (n : Int) : leB (U n) 8 = numB [n] := by simp [numB]
theorem imgP_body (x : ImgD) : imgP x = magB 1 ++ ibody x := by
  rw [imgP, ibody, iest1, iest2, iest3, iest4, iest5, iest6, txtB_flat x.needs, ← nb3 x.code x.entry, nb_one, nb_one, nb_one]
  simp only [List.append_assoc, List.append_nil]
theorem img_back {x : ImgD} (sm : SmallI x) {k : Nat} (hk : x.exps.length ≤ k ∧ x.slots.length ≤ k ∧ x.needs.length ≤ k) : imgR k ⟨ibody x, false⟩ = (x, false) := by
  have ok := imgOk_of sm
  obtain ⟨-, -, -, s4, -, -, -, s7⟩ := sm.head
  have s5 := sm.exps
  have s6 := sm.slots
  have a1 : numR ⟨ibody x, false⟩ = (x.base, ⟨iest1 x, false⟩) := num_back ok.base
  have a2 : bytR ⟨iest1 x, false⟩ = (x.bytes, ⟨iest2 x, false⟩) := byt_back (by omega)
  have a3 : numR ⟨iest2 x, false⟩ = (x.code, ⟨iest3 x, false⟩) := num_back ok.code
  have a4 : numR ⟨iest3 x, false⟩ = (x.entry, ⟨iest4 x, false⟩) := num_back ok.entry
  have a5 : listR expR k ⟨iest4 x, false⟩ = (⟨iest5 x, false⟩, x.exps) := list_back (fun s hs r => exp_back (ok.exps s hs) (by have := sm.ename s hs; omega)) hk.1 (by omega)
  have a6 : listR slotR k ⟨iest5 x, false⟩ = (⟨iest6 x, false⟩, x.slots) := list_back (fun s hs r => slot_back (ok.slots s hs).1 (ok.slots s hs).2 (by have := sm.sname s hs; omega)) hk.2.1 (by omega)
  have a7 : listR bytR k ⟨iest6 x, false⟩ = (⟨[], false⟩, x.needs) := list_back (fun s hs r => byt_back (by have := sm.nname s hs; omega)) hk.2.2 (by omega)
  have d1 : j1R ⟨ibody x, false⟩ = ⟨iest1 x, false⟩ := congrArg Prod.snd a1
  have d2 : j2R ⟨ibody x, false⟩ = ⟨iest2 x, false⟩ := by unfold j2R; rw [d1]; exact congrArg Prod.snd a2
  have d3 : j3R ⟨ibody x, false⟩ = ⟨iest3 x, false⟩ := by unfold j3R; rw [d2]; exact congrArg Prod.snd a3
  have d4 : j4R ⟨ibody x, false⟩ = ⟨iest4 x, false⟩ := by unfold j4R; rw [d3]; exact congrArg Prod.snd a4
  have b5 : expsR k ⟨ibody x, false⟩ = (⟨iest5 x, false⟩, x.exps) := by unfold expsR; rw [d4]; exact a5
  have b6 : slotsR k ⟨ibody x, false⟩ = (⟨iest6 x, false⟩, x.slots) := by unfold slotsR; rw [b5]; exact a6
  have b7 : ineedsR k ⟨ibody x, false⟩ = (⟨[], false⟩, x.needs) := by unfold ineedsR; rw [b6]; exact a7
  unfold imgR
  rw [b7, b6, b5, d3, d2, d1, a1, a2, a3, a4]
theorem rimg_back {x : ImgD} (sm : SmallI x) {k : Nat} (hk : x.exps.length ≤ k ∧ x.slots.length ≤ k ∧ x.needs.length ≤ k) : rimgR k ⟨ibody x, false⟩ = (x, false) := by
  have ok := imgOk_of sm
  obtain ⟨-, -, -, s4, -, -, -, s7⟩ := sm.head
  have s5 := sm.exps
  have s6 := sm.slots
  have a1 : rnumR ⟨ibody x, false⟩ = (x.base, ⟨iest1 x, false⟩) := rnum_back ok.base
  have a2 : rtxtR ⟨iest1 x, false⟩ = (x.bytes, ⟨iest2 x, false⟩) := rtxt_back (by omega)
  have a3 : rnumR ⟨iest2 x, false⟩ = (x.code, ⟨iest3 x, false⟩) := rnum_back ok.code
  have a4 : rnumR ⟨iest3 x, false⟩ = (x.entry, ⟨iest4 x, false⟩) := rnum_back ok.entry
  have a5 : rlistR rexpR k ⟨iest4 x, false⟩ = (⟨iest5 x, false⟩, x.exps) := rlist_back (fun s hs r => rexp_back (ok.exps s hs) (by have := sm.ename s hs; omega)) hk.1 (by omega) (fun s _ => by simp only [expB, List.length_append, txt1_len]; omega)
  have a6 : rlistR rslotR k ⟨iest5 x, false⟩ = (⟨iest6 x, false⟩, x.slots) := rlist_back (fun s hs r => rslot_back (ok.slots s hs).1 (ok.slots s hs).2 (by have := sm.sname s hs; omega)) hk.2.1 (by omega) (fun s _ => by simp only [slotB, List.length_append, txt1_len]; omega)
  have a7 : rlistR rtxtR k ⟨iest6 x, false⟩ = (⟨[], false⟩, x.needs) := rlist_back (fun s hs r => rtxt_back (by have := sm.nname s hs; omega)) hk.2.2 (by omega) (fun s _ => by rw [txt1_len]; omega)
  have d1 : y1R ⟨ibody x, false⟩ = ⟨iest1 x, false⟩ := congrArg Prod.snd a1
  have d2 : y2R ⟨ibody x, false⟩ = ⟨iest2 x, false⟩ := by unfold y2R; rw [d1]; exact congrArg Prod.snd a2
  have d3 : y3R ⟨ibody x, false⟩ = ⟨iest3 x, false⟩ := by unfold y3R; rw [d2]; exact congrArg Prod.snd a3
  have d4 : y4R ⟨ibody x, false⟩ = ⟨iest4 x, false⟩ := by unfold y4R; rw [d3]; exact congrArg Prod.snd a4
  have b5 : rexpsR k ⟨ibody x, false⟩ = (⟨iest5 x, false⟩, x.exps) := by unfold rexpsR; rw [d4]; exact a5
  have b6 : rslotsR k ⟨ibody x, false⟩ = (⟨iest6 x, false⟩, x.slots) := by unfold rslotsR; rw [b5]; exact a6
  have b7 : rineedsR k ⟨ibody x, false⟩ = (⟨[], false⟩, x.needs) := by unfold rineedsR; rw [b6]; exact a7
  unfold rimgR
  rw [b7, b6, b5, d3, d2, d1, a1, a2, a3, a4]
theorem imgB_length (x : ImgD) : (imgB x).length = (imgP x).length + 4 := by simp [imgB, sealB, leB_length]
theorem imgB_take (x : ImgD) : (imgB x).take ((imgB x).length - 4) = imgP x := by
  rw [imgB_length]; simp [imgB, sealB]
theorem imgB_drop (x : ImgD) : (imgB x).drop ((imgB x).length - 4) = leB (sumN (imgP x) % 4294967296) 4 := by
  rw [imgB_length]; simp [imgB, sealB]
theorem ibody_len (x : ImgD) : 24 + x.exps.length + x.slots.length + x.needs.length ≤ (ibody x).length := by
  have h1 : x.exps.length ≤ (x.exps.flatMap expB).length := flat_ge fun s _ => by simp only [expB, List.length_append, txt1_len]; omega
  have h2 : x.slots.length ≤ (x.slots.flatMap slotB).length := flat_ge fun s _ => by simp only [slotB, List.length_append, txt1_len]; omega
  have h3 : x.needs.length ≤ (x.needs.flatMap fun s => txtB [s]).length := flat_ge fun s _ => by rw [txt1_len]; omega
  simp only [ibody, iest1, iest2, iest3, iest4, iest5, iest6, List.length_append, txt1_len, numB_length, leB_length, List.length_cons, List.length_nil]; omega
theorem imgP_len (x : ImgD) : (imgP x).length = 4 + (ibody x).length := by rw [imgP_body]; simp [magB]; omega
theorem inner_img (x : ImgD) : inner (imgB x) = ibody x := by
  unfold inner
  rw [imgB_take, imgP_body]
  exact List.drop_left' rfl
theorem open_img (x : ImgD) : openE 1 (imgB x) = 0 := by
  have h1 := ibody_len x
  have h2 := imgP_len x
  have h3 := imgB_length x
  have h4 : (imgB x).take 4 = magB 1 := by
    unfold imgB sealB
    rw [imgP_body, List.append_assoc]
    exact List.take_left' rfl
  unfold openE
  rw [imgB_take, imgB_drop, leN_leB, if_neg (by rintro (q | q) <;> omega), if_neg (not_not_intro h4)]
theorem read_img {x : ImgD} (h : rightB x = true) : readP (imgB x) = (x, 0) := by
  have h1 := ibody_len x
  have h2 := imgP_len x
  have h3 := imgB_length x
  have hb := img_back (smallI_of h) (k := (imgB x).length) ⟨by omega, by omega, by omega⟩
  unfold readP
  rw [open_img, inner_img, hb]
  simp only [ne_eq, not_true_eq_false, if_false, Bool.false_eq_true, h, Bool.true_eq_false, false_or]
theorem rread_img {x : ImgD} (h : rightB x = true) : rreadP (imgB x) = (x, 0) := by
  have h1 := ibody_len x
  have h2 := imgP_len x
  have h3 := imgB_length x
  have hb := rimg_back (smallI_of h) (k := (imgB x).length) ⟨by omega, by omega, by omega⟩
  unfold rreadP
  rw [open_img, inner_img, hb]
  simp only [ne_eq, not_true_eq_false, if_false, Bool.false_eq_true, h, Bool.true_eq_false, false_or]
theorem read_same (b : List UInt8) : rreadP b = readP b := by
  by_cases h1 : openE 1 b ≠ 0
  · unfold rreadP readP; rw [if_pos h1, if_pos h1]
  · by_cases h2 : (imgR b.length ⟨inner b, false⟩).2 = true ∨ rightB (imgR b.length ⟨inner b, false⟩).1 = false ∨ imgB (imgR b.length ⟨inner b, false⟩).1 ≠ b
    · by_cases h3 : (rimgR b.length ⟨inner b, false⟩).2 = true ∨ rightB (rimgR b.length ⟨inner b, false⟩).1 = false ∨ imgB (rimgR b.length ⟨inner b, false⟩).1 ≠ b
      · unfold rreadP readP; rw [if_neg h1, if_neg h1, if_pos h2, if_pos h3]
      · simp only [not_or, ne_eq, Decidable.not_not, Bool.not_eq_false] at h3
        generalize (rimgR b.length ⟨inner b, false⟩).1 = o at h3
        rw [← h3.2.2, rread_img h3.2.1, read_img h3.2.1]
    · simp only [not_or, ne_eq, Decidable.not_not, Bool.not_eq_false] at h2
      generalize (imgR b.length ⟨inner b, false⟩).1 = o at h2
      rw [← h2.2.2, rread_img h2.2.1, read_img h2.2.1]
theorem zeroI_fits : FitsI zeroI := ⟨by decide, by decide, by decide, by decide⟩
theorem smallI_fits {x : ImgD} (sm : SmallI x) : FitsI x := by
  obtain ⟨-, -, -, s4, -, -, -, s7⟩ := sm.head
  have s5 := sm.exps
  have s6 := sm.slots
  exact ⟨by omega, by omega, by omega, by omega⟩
theorem readP_fits (b : List UInt8) : FitsI (readP b).1 := by
  unfold readP
  split
  · exact zeroI_fits
  · split
    · exact zeroI_fits
    · rename_i h
      simp only [not_or, ne_eq, Decidable.not_not, Bool.not_eq_false] at h
      exact smallI_fits (smallI_of h.2.1)
end Go.Proofs.OP

set_option linter.unusedSimpArgs false
namespace Go.Proofs.OP
open Go Go.Ev
open Go.Proofs
open Nat (reduceLT reduceEqDiff)
variable {g : T (List V)}

theorem wri_one {h h' : H} {x : ImgD} {v : V} (ce1 : rightB x = false → v = .tuple [.nils, i64 14]) (ce2 : rightB x = true → ∃ s, v = .tuple [s, i64 0] ∧ BufB g h' s (imgB x) ∧ In (fun b => h.next ≤ b ∧ b < h'.next) s) :
    ∃ s, v = .tuple [s, i64 (if rightB x = true then 0 else 14)] ∧ Bs g h' s (if rightB x = true then imgB x else []) ∧ In (fun b => h.next ≤ b ∧ b < h'.next) s ∧ NotG s := by
  cases h0 : rightB x with
  | true =>
    obtain ⟨s, a, b, c⟩ := ce2 h0
    exact ⟨s, a, b.sl, c, Buf.notG b⟩
  | false => exact ⟨.nils, ce1 h0, Sl.nil, In.nils, fun a n c q => by cases q⟩

set_option maxRecDepth 100000 in
set_option maxHeartbeats 4000000 in
theorem images_ok {h : H} {c : Ic} {o : ImgD} {s : V} {b : List UInt8} (hg : g.get 0 = some magG) (ob : Im g h (· < h.next) c o) (room : RoomI o) (hb : Bs g h s b) (hs : In (· < h.next) s) (hbl : b.length < 2 ^ 62) :
    WF (E g) 4 [.agg (c.cells o), s] h fun r _ => r = .bool true := by
  refine WF.enter fn4 rfl ?_
  ((repeat refine WC.seq ?_); refine WC.run ?_)
  (try simp only [wk, wl, wx, reduceLT, reduceEqDiff, Nat.reduceBEq, reduceIte])
  refine wop_box (v := .agg (c.cells o)) (by (try simp only [wk, wl, wx, reduceLT, reduceEqDiff, Nat.reduceBEq, reduceIte])) ?_
  intro h1 b1 n1 f1
  have b1 : Has h1 h.next (c.cells o) := b1
  (try simp only [wk, wl, wx, reduceLT, reduceEqDiff, Nat.reduceBEq, reduceIte])
  have ob1 := (ob.fix f1 (fun _ h => h)).up (K' := (· < h1.next)) (fun _ h => by omega)
  have hb1 := Sl.fix hb hs f1
  have hs1 : In (· < h1.next) s := hs.sub fun _ h => by omega
  have lv : ∀ h', Fix (· < h1.next) h1 h' → loadP (E g) h' 50 (.ptr h.next 0) = some (.agg (c.cells o)) := fun h' f =>
    (b1.fix f (by omega)).agg ty50 rfl (o := 0) (Nat.le_refl 7)
  ((repeat refine WC.seq ?_); refine WC.run ?_)
  (try simp only [wk, wl, wx, reduceLT, reduceEqDiff, Nat.reduceBEq, reduceIte, lv h1 (Fix.refl _ _)])
  refine (fewI_ok ob1 room).mono fun r h2 ⟨e2, f2⟩ => ?_
  subst e2
  have x2 := f2.next
  cases hf : fewI o with
  | false =>
    (try simp only [wk, wl, wx, reduceLT, reduceEqDiff, Nat.reduceBEq, reduceIte, Bool.not_false, un])
    (repeat refine WC.seq ?_)
    refine WC.cond (b := true) (by (try simp only [wk, wl, wx, reduceLT, reduceEqDiff, Nat.reduceBEq, reduceIte]); (try simp); (try omega)) ?_
    ((repeat refine WC.seq ?_); refine WC.run ?_)
    (try simp only [wk, wl, wx, reduceLT, reduceEqDiff, Nat.reduceBEq, reduceIte])
    refine awake_ok ?_
    (try simp only [wk, wl, wx, reduceLT, reduceEqDiff, Nat.reduceBEq, reduceIte])
    refine WC.ret ?_
    (try simp only [wk, wl, wx, reduceLT, reduceEqDiff, Nat.reduceBEq, reduceIte])
  | true =>
    have fit := fewI_fits hf
    by_cases hbig : (4000 : Int) < b.length
    · (try simp only [wk, wl, wx, reduceLT, reduceEqDiff, Nat.reduceBEq, reduceIte, Bool.not_true, un, Bs.len hb1, decide_eq_true hbig])
      (repeat refine WC.seq ?_)
      refine WC.cond (b := true) (by (try simp only [wk, wl, wx, reduceLT, reduceEqDiff, Nat.reduceBEq, reduceIte]); (try simp); (try omega)) ?_
      ((repeat refine WC.seq ?_); refine WC.run ?_)
      (try simp only [wk, wl, wx, reduceLT, reduceEqDiff, Nat.reduceBEq, reduceIte])
      refine awake_ok ?_
      (try simp only [wk, wl, wx, reduceLT, reduceEqDiff, Nat.reduceBEq, reduceIte])
      refine WC.ret ?_
      (try simp only [wk, wl, wx, reduceLT, reduceEqDiff, Nat.reduceBEq, reduceIte])
    (try simp only [wk, wl, wx, reduceLT, reduceEqDiff, Nat.reduceBEq, reduceIte, Bool.not_true, un, Bs.len hb1, decide_eq_false hbig])
    (repeat refine WC.seq ?_)
    refine WC.cond (b := false) (by (try simp only [wk, wl, wx, reduceLT, reduceEqDiff, Nat.reduceBEq, reduceIte]); (try simp); (try omega)) (WC.skip ?_)
    (try simp only [wk, wl, wx, reduceLT, reduceEqDiff, Nat.reduceBEq, reduceIte])
    have ob2 := (ob1.fix f2 (fun _ h => h)).up (K' := (· < h2.next)) (fun _ h => by omega)
    ((repeat refine WC.seq ?_); refine WC.run ?_)
    (try simp only [wk, wl, wx, reduceLT, reduceEqDiff, Nat.reduceBEq, reduceIte, lv h2 f2])
    refine (image_ok ob2 fit).mono fun v h6 ⟨c6, e6, ob6, f6⟩ => ?_
    subst e6
    have x6 := f6.next
    have F6 : Fix (· < h1.next) h1 h6 := f2.trans (f6.sub fun b hb => by omega)
    (try simp only [wk, wl, wx, reduceLT, reduceEqDiff, Nat.reduceBEq, reduceIte])
    refine (write_ok hg (ob6.up fun b hb => hb.2) fit).mono fun v h7 ⟨f7, ce1, ce2⟩ => ?_
    obtain ⟨sa, ea, sab, sai, san⟩ := wri_one ce1 ce2
    subst ea
    have x7 := f7.next
    have F7 : Fix (· < h1.next) h1 h7 := F6.trans (f7.sub fun b hb => by omega)
    (try simp only [wk, wl, wx, reduceLT, reduceEqDiff, Nat.reduceBEq, reduceIte])
    have ob7 := (ob1.fix F7 (fun _ h => h)).up (K' := (· < h7.next)) (fun _ h => by omega)
    ((repeat refine WC.seq ?_); refine WC.run ?_)
    (try simp only [wk, wl, wx, reduceLT, reduceEqDiff, Nat.reduceBEq, reduceIte, lv h7 F7])
    refine (rwrite_ok ob7 fit).mono fun v h8 ⟨f8, cf1, cf2⟩ => ?_
    obtain ⟨sc, ec, scb, sci, scn⟩ := wri_one cf1 cf2
    subst ec
    have x8 := f8.next
    have F8 : Fix (· < h1.next) h1 h8 := F7.trans (f8.sub fun b hb => by omega)
    have sab8 := Sl.fix sab (sai.sub fun b hb => hb.2) f8
    have hb8 := Sl.fix hb1 hs1 F8
    (try simp only [wk, wl, wx, reduceLT, reduceEqDiff, Nat.reduceBEq, reduceIte])
    ((repeat refine WC.seq ?_); refine WC.run ?_)
    (try simp only [wk, wl, wx, reduceLT, reduceEqDiff, Nat.reduceBEq, reduceIte])
    refine sat_literal ty22 rfl ty5 rfl (by decide) (by decide) rfl rfl ?_
    intro h9 b9 n9 f9
    (try simp only [wk, wl, wx, reduceLT, reduceEqDiff, Nat.reduceBEq, reduceIte])
    have hb9 := Sl.fix hb8 (hs1.sub fun b hb => by omega) f9
    refine sat_app0 (m := b.length) (ws := b.map u8) b9 (by omega) ty22 rfl ty22 (.inl ⟨_, rfl⟩) ty5 rfl (by decide) (by decide) (by simpa using Sl.len hb9) (by simpa using Sl.cells hb9) (by simp) one_u8 (by simp; omega) ?_
    intro s10 h10 g10 o10 el10 f10 n10
    have x10 := f10.next
    (try simp only [wk, wl, wx, reduceLT, reduceEqDiff, Nat.reduceBEq, reduceIte])
    have in10 : In (fun b => h8.next ≤ b ∧ b < h10.next) s10 := fun b o n c e => by
      obtain ⟨q1, q2⟩ := o10 _ _ _ _ e
      exact ⟨by rcases q1 with rfl | rfl <;> omega, q2⟩
    have g10' : BufB g h10 s10 b := g10
    refine (read_ok hg g10'.sl (in10.sub fun b hb => hb.2) (Buf.notG g10') (by omega)).mono fun v h11 ⟨f11, c11, e11, ob11⟩ => ?_
    subst e11
    have x11 := f11.next
    (try simp only [wk, wl, wx, reduceLT, reduceEqDiff, Nat.reduceBEq, reduceIte])
    refine wop_alloc ty56 ?_
    intro h12 b12 n12 f12
    (try simp only [wk, wl, wx, reduceLT, reduceEqDiff, Nat.reduceBEq, reduceIte])
    refine sat_store b12 ty56 rfl (Nat.le_refl 7) (by simp only [V.cells, Ic.cells, List.all_cons, List.all_nil, (Sl.one ob11.bytes).2, (Sl.one ob11.exps).2, (Sl.one ob11.slots).2, (Sl.one ob11.needs).2, Bool.and_true]; rfl) ?_
    intro h13 b13 n13 f13
    have b13 : Has h13 h11.next (c11.cells (readP b).1) := b13
    have F1113 : Fix (· < h11.next) h11 h13 := ⟨by omega, fun b hb => by rw [f13.same b (by omega), f12.same b hb]⟩
    have F813 : Fix (· < h8.next) h8 h13 := ⟨by omega, fun b hb => by rw [F1113.same b (by omega), f11.same b (by omega), f10.same b (by omega), f9.same b hb]⟩
    have hb13 := Sl.fix hb8 (hs1.sub fun b hb => by omega) F813
    (try simp only [wk, wl, wx, reduceLT, reduceEqDiff, Nat.reduceBEq, reduceIte])
    ((repeat refine WC.seq ?_); refine WC.run ?_)
    (try simp only [wk, wl, wx, reduceLT, reduceEqDiff, Nat.reduceBEq, reduceIte])
    refine (rread_ok hb13 (hs1.sub fun b hb => by omega) (by omega)).mono fun v h14 ⟨f14, c14, e14, ob14⟩ => ?_
    rw [read_same] at e14 ob14
    subst e14
    have x14 := f14.next
    (try simp only [wk, wl, wx, reduceLT, reduceEqDiff, Nat.reduceBEq, reduceIte])
    refine wop_alloc ty50 ?_
    intro h15 b15 n15 f15
    (try simp only [wk, wl, wx, reduceLT, reduceEqDiff, Nat.reduceBEq, reduceIte])
    refine sat_store b15 ty50 rfl (Nat.le_refl 7) (by simp only [V.cells, Ic.cells, List.all_cons, List.all_nil, (Sl.one ob14.bytes).2, (Sl.one ob14.exps).2, (Sl.one ob14.slots).2, (Sl.one ob14.needs).2, Bool.and_true]; rfl) ?_
    intro h16 b16 n16 f16
    have b16 : Has h16 h14.next (c14.cells (readP b).1) := b16
    have F1416 : Fix (· < h14.next) h14 h16 := ⟨by omega, fun b hb => by rw [f16.same b (by omega), f15.same b hb]⟩
    have F1316 : Fix (· < h13.next) h13 h16 := f14.trans (F1416.sub fun b hb => by omega)
    have F816 : Fix (· < h8.next) h8 h16 := F813.trans (F1316.sub fun b hb => by omega)
    have bx16 := b13.fix F1316 (by omega)
    have obx := (ob11.fix F1113 (fun b hb => hb.2)).fix F1316 (fun b hb => by omega)
    have oby := ob14.fix F1416 (fun b hb => hb.2)
    have sa16 := Sl.fix sab8 (sai.sub fun b hb => by omega) F816
    have sc16 := Sl.fix scb (sci.sub fun b hb => hb.2) F816
    have F16 : Fix (· < h1.next) h1 h16 := F8.trans (F816.sub fun b hb => by omega)
    (try simp only [wk, wl, wx, reduceLT, reduceEqDiff, Nat.reduceBEq, reduceIte])
    ((repeat refine WC.seq ?_); refine WC.run ?_)
    (try simp only [wk, wl, wx, reduceLT, reduceEqDiff, Nat.reduceBEq, reduceIte, i64])
    (repeat refine WC.seq ?_)
    refine WC.mono (Q := fun e fr hh => e = .normal ∧ Fix (· < h16.next) h16 hh ∧ ∃ ts, fr = ⟨ts, 85, [], 4, none⟩ ∧ ts.get 5 = some sa ∧ ts.get 6 = some (i64 (if rightB o = true then 0 else 14)) ∧ ts.get 7 = some sc ∧ ts.get 8 = some (i64 (if rightB o = true then 0 else 14)) ∧ ts.get 9 = some (.ptr h11.next 0) ∧ ts.get 10 = some (i64 (readP b).2) ∧ ts.get 11 = some (.ptr h14.next 0) ∧ ts.get 12 = some (i64 (readP b).2)) ?_ ?_
    · cases hr : rightB o with
      | false =>
        refine WC.cond (b := false) (by (try simp only [wk, wl, wx, reduceLT, reduceEqDiff, Nat.reduceBEq, reduceIte, hr]); (try rfl)) ?_
        (try simp only [wk, wl, wx, reduceLT, reduceEqDiff, Nat.reduceBEq, reduceIte])
        refine WC.skip ⟨rfl, Fix.refl _ _, _, rfl, ?_, ?_, ?_, ?_, ?_, ?_, ?_, ?_⟩
        all_goals (try simp only [wk, wl, wx, reduceLT, reduceEqDiff, Nat.reduceBEq, reduceIte, hr])
        all_goals (first | done | rfl | trivial)
      | true =>
        rw [hr] at sa16 sab
        simp only [if_true] at sa16 sab
        refine WC.cond (b := true) (by (try simp only [wk, wl, wx, reduceLT, reduceEqDiff, Nat.reduceBEq, reduceIte, hr]); (try rfl)) ?_
        (try simp only [wk, wl, wx, reduceLT, reduceEqDiff, Nat.reduceBEq, reduceIte])
        ((repeat refine WC.seq ?_); refine WC.run ?_)
        (try simp only [wk, wl, wx, reduceLT, reduceEqDiff, Nat.reduceBEq, reduceIte])
        have il := imgB_len (smallI_of hr)
        refine (read_ok hg sa16 (sai.sub fun b hb => by omega) san (by omega)).mono fun v h17 ⟨f17, c17, e17, ob17⟩ => ?_
        rw [read_img hr] at e17 ob17
        subst e17
        have x17 := f17.next
        (try simp only [wk, wl, wx, reduceLT, reduceEqDiff, Nat.reduceBEq, reduceIte])
        refine wop_alloc ty56 ?_
        intro h18 b18 n18 f18
        (try simp only [wk, wl, wx, reduceLT, reduceEqDiff, Nat.reduceBEq, reduceIte])
        refine sat_store b18 ty56 rfl (Nat.le_refl 7) (by simp only [V.cells, Ic.cells, List.all_cons, List.all_nil, (Sl.one ob17.bytes).2, (Sl.one ob17.exps).2, (Sl.one ob17.slots).2, (Sl.one ob17.needs).2, Bool.and_true]; rfl) ?_
        intro h19 b19 n19 f19
        have b19 : Has h19 h17.next (c17.cells o) := b19
        have F1719 : Fix (· < h17.next) h17 h19 := ⟨by omega, fun b hb => by rw [f19.same b (by omega), f18.same b hb]⟩
        have F1619 : Fix (· < h16.next) h16 h19 := f17.trans (F1719.sub fun b hb => by omega)
        have lw : loadP (E g) h19 56 (.ptr h17.next 0) = some (.agg (c17.cells o)) := b19.agg ty56 rfl (Nat.le_refl 7)
        have obw := ob17.fix F1719 (fun b hb => hb.2)
        have F19 : Fix (· < h1.next) h1 h19 := F16.trans (F1619.sub fun b hb => by omega)
        have obo := (ob1.fix F19 (fun _ h => h)).up (K' := (· < h19.next)) (fun _ h => by omega)
        (try simp only [wk, wl, wx, reduceLT, reduceEqDiff, Nat.reduceBEq, reduceIte])
        ((repeat refine WC.seq ?_); refine WC.run ?_)
        have hne : ((0 : Int) != (0 : Int)) = false := rfl
        (try simp only [wk, wl, wx, reduceLT, reduceEqDiff, Nat.reduceBEq, reduceIte, i64, un, hne, lw, lv h19 F19])
        refine (sameI_ok (obw.up fun b hb => by omega) obo fit fit).mono fun v h20 ⟨⟨r, e20, hr2⟩, f20⟩ => ?_
        obtain rfl : r = true := hr2.2 rfl
        subst e20
        (try simp only [wk, wl, wx, reduceLT, reduceEqDiff, Nat.reduceBEq, reduceIte, un, un_not])
        (repeat refine WC.seq ?_)
        refine WC.cond (b := false) (by (try simp only [wk, wl, wx, reduceLT, reduceEqDiff, Nat.reduceBEq, reduceIte]); (try simp); (try omega)) ?_
        (try simp only [wk, wl, wx, reduceLT, reduceEqDiff, Nat.reduceBEq, reduceIte])
        refine WC.skip ?_
        (try simp only [wk, wl, wx, reduceLT, reduceEqDiff, Nat.reduceBEq, reduceIte])
        refine ⟨by trivial, F1619.trans (f20.sub fun b hb => by omega), _, rfl, ?_, ?_, ?_, ?_, ?_, ?_, ?_, ?_⟩
        all_goals (try simp only [wk, wl, wx, reduceLT, reduceEqDiff, Nat.reduceBEq, reduceIte, hr])
        all_goals (first | done | rfl | trivial)
    · rintro e fr hh ⟨rfl, fz, ts, rfl, t5, t6, t7, t8, t9, t10, t11, t12⟩
      have xz := fz.next
      have sa17 := Sl.fix sa16 (sai.sub fun b hb => by omega) fz
      have sc17 := Sl.fix sc16 (sci.sub fun b hb => by omega) fz
      have lx : loadP (E g) hh 56 (.ptr h11.next 0) = some (.agg (c11.cells (readP b).1)) := (bx16.fix fz (by omega)).agg ty56 rfl (Nat.le_refl 7)
      have ly : loadP (E g) hh 50 (.ptr h14.next 0) = some (.agg (c14.cells (readP b).1)) := (b16.fix fz (by omega)).agg ty50 rfl (Nat.le_refl 7)
      have obx := obx.fix fz (fun b hb => by omega)
      have oby := oby.fix fz (fun b hb => by omega)
      (try simp only [wk, wl, wx, reduceLT, reduceEqDiff, Nat.reduceBEq, reduceIte])
      ((repeat refine WC.seq ?_); refine WC.run ?_)
      (try simp only [wk, wl, wx, reduceLT, reduceEqDiff, Nat.reduceBEq, reduceIte, t5, t6, t7, t8, t9, t10, t11, t12, conv_str sa17, conv_str sc17, bin_seql, beq_self_eq_true, i64, un, lx, ly])
      refine (sameI_ok (obx.up fun b hb => by omega) (oby.up fun b hb => by omega) (readP_fits b) (readP_fits b)).mono fun v h17 ⟨⟨r, e17, hr⟩, f17⟩ => ?_
      obtain rfl : r = true := hr.2 rfl
      subst e17
      (try simp only [wk, wl, wx, reduceLT, reduceEqDiff, Nat.reduceBEq, reduceIte, un, t10, t12, i64, beq_self_eq_true])
      refine awake_ok ?_
      (try simp only [wk, wl, wx, reduceLT, reduceEqDiff, Nat.reduceBEq, reduceIte])
      refine WC.ret ?_
      (try simp only [wk, wl, wx, reduceLT, reduceEqDiff, Nat.reduceBEq, reduceIte])
end Go.Proofs.OP
