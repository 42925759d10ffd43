/- Plain laws of objects: what is written is read again; a byte changed is not read. -/
import Derived.Test.YtloblhhnlaaajaaGreatDoorB13
import Derived.Test.YtloblhhnlaaajaaGreatDoorC27
set_option linter.unusedVariables false
set_option linter.unusedSimpArgs false
set_option linter.defProp false
namespace Go.Proofs.OP
open Go Go.Ev
theorem leN_leB : ∀ (k n : Nat), leN (leB n k) = n % 256 ^ k
  | 0, n => by simp [leB, leN, Nat.mod_one]
  | k + 1, n => by
    simp only [leB, leN]
    have h8 : (UInt8.ofNat n).toNat = n % 256 := by rw [UInt8.toNat_ofNat']
    rw [leN_leB k (n / 256), h8, Nat.pow_succ, Nat.mul_comm (256 ^ k) 256, Nat.mod_mul]
def In64 (n : Int) : Prop := -9223372036854775808 ≤ n ∧ n ≤ 9223372036854775807
theorem I64_U {n : Int} (h : In64 n) : I64 (U n) = n := by
  unfold I64 U IntKind.wrap In64 at *
  simp only [IntKind.bits, IntKind.signed, Bool.true_and]
  split <;> rename_i q <;> simp at q <;> omega
theorem num_back {n : Int} {r : List UInt8} (hn : In64 n) : numR ⟨leB (U n) 8 ++ r, false⟩ = (n, ⟨r, false⟩) := by
  have hl : (leB (U n) 8).length = 8 := leB_length 8 _
  unfold numR
  have h1 : ¬ (leB (U n) 8 ++ r).length < 8 := by simp [hl]
  simp only [h1, if_false]
  rw [List.take_left' hl, List.drop_left' hl, leN_leB, Nat.mod_eq_of_lt (by have := U_lt n; omega), I64_U hn]
theorem byt_back {xs r : List UInt8} (hx : xs.length < 2 ^ 31) : bytR ⟨txtB [xs] ++ r, false⟩ = (xs, ⟨r, false⟩) := by
  have e : txtB [xs] ++ r = leB (U (xs.length : Int)) 8 ++ (xs ++ r) := by simp [txtB, U_nat (show xs.length < 18446744073709551616 by omega)]
  have hn := num_back (n := (xs.length : Int)) (r := xs ++ r) ⟨by omega, by omega⟩
  unfold bytR
  rw [e, hn]
  simp only
  rw [if_neg (by simp; omega)]
  simp
theorem sym_back {s : SymD} {r : List UInt8} (h1 : In64 s.sec) (h2 : In64 s.off) (h3 : s.name.length < 2 ^ 31) : symR ⟨symB s ++ r, false⟩ = (s, ⟨r, false⟩) := by
  have e : symB s ++ r = txtB [s.name] ++ (leB (U s.sec) 8 ++ (leB (U s.off) 8 ++ (leB (U (bitsI s.glob s.weak)) 8 ++ r))) := by simp [symB, numB]
  have hb : In64 (bitsI s.glob s.weak) := by unfold In64; cases s.glob <;> cases s.weak <;> decide
  have b1 : bitT (bitsI s.glob s.weak) 1 = s.glob := by cases s.glob <;> cases s.weak <;> decide
  have b2 : bitT (bitsI s.glob s.weak) 2 = s.weak := by cases s.glob <;> cases s.weak <;> decide
  unfold symR
  simp only [e, byt_back h3, num_back h1, num_back h2, num_back hb, b1, b2]
theorem rel_back {s : RelD} {r : List UInt8} (h1 : In64 s.sec) (h2 : In64 s.off) (h3 : In64 s.kind) (h4 : In64 s.add) (h5 : s.sym.length < 2 ^ 31) : relR ⟨relB s ++ r, false⟩ = (s, ⟨r, false⟩) := by
  have e : relB s ++ r = leB (U s.sec) 8 ++ (leB (U s.off) 8 ++ (leB (U s.kind) 8 ++ (txtB [s.sym] ++ (leB (U s.add) 8 ++ r)))) := by simp [relB, numB]
  unfold relR
  simp only [e, byt_back h5, num_back h1, num_back h2, num_back h3, num_back h4]
theorem each_back {α : Type} {f : RdS → α × RdS} {enc : α → List UInt8} : ∀ {L : List α} {k : Nat} {r : List UInt8} {acc : List α}, (∀ x ∈ L, ∀ r, f ⟨enc x ++ r, false⟩ = (x, ⟨r, false⟩)) → L.length ≤ k →
    eachR (fun x => x.1) (adv f) k (L.length : Int) (⟨L.flatMap enc ++ r, false⟩, acc) = (⟨r, false⟩, acc ++ L)
  | [], k, r, acc, _, _ => by
    cases k with
    | zero => simp [eachR]
    | succ k => simp [eachR]
  | x :: L, 0, r, acc, _, hk => by simp at hk
  | x :: L, k + 1, r, acc, h, hk => by
    have e : (x :: L).flatMap enc ++ r = enc x ++ (L.flatMap enc ++ r) := by simp
    have ih := each_back (L := L) (k := k) (r := r) (acc := acc ++ [x]) (fun y hy => h y (List.mem_cons_of_mem _ hy)) (by simpa using hk)
    rw [eachR, if_pos ⟨by simp only [List.length_cons]; omega, rfl⟩]
    have ea : adv f (⟨(x :: L).flatMap enc ++ r, false⟩, acc) = (⟨L.flatMap enc ++ r, false⟩, acc ++ [x]) := by
      unfold adv
      simp only [e, h x (List.mem_cons_self ..)]
    rw [ea, show ((x :: L).length : Int) - 1 = (L.length : Int) by simp, ih]
    simp
theorem list_back {α : Type} {f : RdS → α × RdS} {enc : α → List UInt8} {L : List α} {k : Nat} {r : List UInt8} (h : ∀ x ∈ L, ∀ r, f ⟨enc x ++ r, false⟩ = (x, ⟨r, false⟩)) (hk : L.length ≤ k) (hL : L.length < 2 ^ 62) :
    listR f k ⟨numB [(L.length : Int)] ++ (L.flatMap enc ++ r), false⟩ = (⟨r, false⟩, L) := by
  have e : numB [(L.length : Int)] ++ (L.flatMap enc ++ r) = leB (U (L.length : Int)) 8 ++ (L.flatMap enc ++ r) := by simp [numB]
  unfold listR
  rw [e, num_back ⟨by omega, by omega⟩]
  simp only [each_back h hk, List.nil_append]
structure ObjOk (o : ObjD) : Prop where
  syms : ∀ s ∈ o.syms, In64 s.sec ∧ In64 s.off
  rels : ∀ s ∈ o.rels, In64 s.sec ∧ In64 s.off ∧ In64 s.kind ∧ In64 s.add
theorem txtB_flat (L : List (List UInt8)) : txtB L = L.flatMap fun s => txtB [s] := by simp [txtB]
theorem flat_ge {α : Type} {f : α → List UInt8} : ∀ {L : List α}, (∀ x ∈ L, 1 ≤ (f x).length) → L.length ≤ (L.flatMap f).length
  | [], _ => by simp
  | x :: r, h => by
    have ih := flat_ge (L := r) fun q hq => h q (List.mem_cons_of_mem _ hq)
    have h0 := h x (List.mem_cons_self ..)
    simp only [List.flatMap_cons, List.length_append, List.length_cons]; omega
def rest6 (o : ObjD) : List UInt8 := txtB [o.entry] ++ []
def rest5 (o : ObjD) : List UInt8 := numB [(o.needs.length : Int)] ++ ((o.needs.flatMap fun s => txtB [s]) ++ rest6 o)
def rest4 (o : ObjD) : List UInt8 := numB [(o.rels.length : Int)] ++ (o.rels.flatMap relB ++ rest5 o)
def rest3 (o : ObjD) : List UInt8 := numB [(o.syms.length : Int)] ++ (o.syms.flatMap symB ++ rest4 o)
def rest2 (o : ObjD) : List UInt8 := txtB [o.data] ++ rest3 o
def rest1 (o : ObjD) : List UInt8 := txtB [o.code] ++ rest2 o
def body (o : ObjD) : List UInt8 := txtB [o.name] ++ rest1 o
theorem encP_body (o : ObjD) : encP o = magB 0 ++ body o := by
  have e : txtB [o.code, o.data] = txtB [o.code] ++ txtB [o.data] := by simp [txtB]
  rw [encP, body, rest1, rest2, rest3, rest4, rest5, rest6, e, txtB_flat o.needs]
  simp only [List.append_assoc, List.append_nil]
theorem obj_back {o : ObjD} (sm : Small o) (ok : ObjOk o) {k : Nat} (hk : o.syms.length ≤ k ∧ o.rels.length ≤ k ∧ o.needs.length ≤ k) : objR k ⟨body o, false⟩ = (o, false) := by
  have s1 := sm.name
  have s2 := sm.entry
  have s3 := sm.code
  have s4 := sm.data
  have s5 := sm.syms
  have s6 := sm.rels
  have s7 := sm.needs
  have a1 : bytR ⟨body o, false⟩ = (o.name, ⟨rest1 o, false⟩) := byt_back (by omega)
  have a2 : bytR ⟨rest1 o, false⟩ = (o.code, ⟨rest2 o, false⟩) := byt_back (by omega)
  have a3 : bytR ⟨rest2 o, false⟩ = (o.data, ⟨rest3 o, false⟩) := byt_back (by omega)
  have a4 : listR symR k ⟨rest3 o, false⟩ = (⟨rest4 o, false⟩, o.syms) := list_back (fun x hx r => sym_back (ok.syms x hx).1 (ok.syms x hx).2 (by have := sm.sname x hx; omega)) hk.1 (by omega)
  have a5 : listR relR k ⟨rest4 o, false⟩ = (⟨rest5 o, false⟩, o.rels) := list_back (fun x hx r => rel_back (ok.rels x hx).1 (ok.rels x hx).2.1 (ok.rels x hx).2.2.1 (ok.rels x hx).2.2.2 (by have := sm.rname x hx; omega)) hk.2.1 (by omega)
  have a6 : listR bytR k ⟨rest5 o, false⟩ = (⟨rest6 o, false⟩, o.needs) := list_back (fun x hx r => byt_back (by have := sm.nname x hx; omega)) hk.2.2 (by omega)
  have a7 : bytR ⟨rest6 o, false⟩ = (o.entry, ⟨[], false⟩) := byt_back (by omega)
  have d1 : d1R ⟨body o, false⟩ = ⟨rest1 o, false⟩ := congrArg Prod.snd a1
  have d2 : d1R ⟨rest1 o, false⟩ = ⟨rest2 o, false⟩ := congrArg Prod.snd a2
  have d3 : d1R ⟨rest2 o, false⟩ = ⟨rest3 o, false⟩ := congrArg Prod.snd a3
  have b4 : symsR k ⟨body o, false⟩ = (⟨rest4 o, false⟩, o.syms) := by unfold symsR d3R; rw [d1, d2, d3]; exact a4
  have b5 : relsR k ⟨body o, false⟩ = (⟨rest5 o, false⟩, o.rels) := by unfold relsR; rw [b4]; exact a5
  have b6 : needsR k ⟨body o, false⟩ = (⟨rest6 o, false⟩, o.needs) := by unfold needsR; rw [b5]; exact a6
  unfold objR
  rw [b6, b5, b4, d1, d2, a1, a2, a3, a7]
theorem encB_length (o : ObjD) : (encB o).length = (encP o).length + 4 := by simp [encB, sealB, leB_length]
theorem encB_take (o : ObjD) : (encB o).take ((encB o).length - 4) = encP o := by
  rw [encB_length]; simp [encB, sealB]
theorem encB_drop (o : ObjD) : (encB o).drop ((encB o).length - 4) = leB (sumN (encP o) % 4294967296) 4 := by
  rw [encB_length]; simp [encB, sealB]
theorem body_len (o : ObjD) : 24 + o.syms.length + o.rels.length + o.needs.length ≤ (body o).length := by
  have h1 : o.syms.length ≤ (o.syms.flatMap symB).length := flat_ge fun x _ => by simp only [symB, List.length_append, txt1_len]; omega
  have h2 : o.rels.length ≤ (o.rels.flatMap relB).length := flat_ge fun x _ => by simp only [relB, List.length_append, txt1_len]; omega
  have h3 : o.needs.length ≤ (o.needs.flatMap fun s => txtB [s]).length := flat_ge fun x _ => by rw [txt1_len]; omega
  simp only [body, rest1, rest2, rest3, rest4, rest5, rest6, List.length_append, txt1_len, numB_length]; omega
theorem encP_len (o : ObjD) : (encP o).length = 4 + (body o).length := by rw [encP_body]; simp [magB]; omega
theorem inner_enc (o : ObjD) : inner (encB o) = body o := by
  unfold inner
  rw [encB_take, encP_body]
  exact List.drop_left' rfl
theorem open_enc (o : ObjD) : openE 0 (encB o) = 0 := by
  have h1 := body_len o
  have h2 := encP_len o
  have h3 := encB_length o
  have h4 : (encB o).take 4 = magB 0 := by
    unfold encB sealB
    rw [encP_body, List.append_assoc]
    exact List.take_left' rfl
  unfold openE
  rw [encB_take, encB_drop, leN_leB, if_neg (by rintro (q | q) <;> omega), if_neg (not_not_intro h4)]
theorem dec_enc {o : ObjD} (h : checkE o = 0) (ok : ObjOk o) : decP (encB o) = (o, 0) := by
  have h1 := body_len o
  have h2 := encP_len o
  have h3 := encB_length o
  have hb := obj_back (small_of h) ok (k := (encB o).length) ⟨by omega, by omega, by omega⟩
  unfold decP
  rw [open_enc, inner_enc, hb]
  simp only [ne_eq, not_true_eq_false, if_false, Bool.false_eq_true, h, false_or]

theorem sumN_cons (x : UInt8) (xs : List UInt8) : sumN (x :: xs) = x.toNat + sumN xs := rfl
theorem sumN_append (a b : List UInt8) : sumN (a ++ b) = sumN a + sumN b := by simp [sumN]
theorem sumN_set : ∀ {xs : List UInt8} {i : Nat} (hi : i < xs.length) (y : UInt8), sumN (xs.set i y) + xs[i].toNat = sumN xs + y.toNat
  | [], i, hi, _ => absurd hi (Nat.not_lt_zero _)
  | x :: r, 0, _, y => by simp only [List.set_cons_zero, sumN_cons, List.getElem_cons_zero]; omega
  | x :: r, i + 1, hi, y => by
    have := sumN_set (xs := r) (i := i) (by simpa using hi) y
    simp only [List.set_cons_succ, sumN_cons, List.getElem_cons_succ]; omega
theorem leN_set : ∀ {xs : List UInt8} {i : Nat} (hi : i < xs.length) (y : UInt8), leN (xs.set i y) = leN xs → y = xs[i]
  | [], i, hi, _, _ => absurd hi (Nat.not_lt_zero _)
  | x :: r, 0, _, y, h => by
    simp only [List.set_cons_zero, leN] at h
    simp only [List.getElem_cons_zero]
    have a := y.toNat_lt; have b := x.toNat_lt
    exact UInt8.toNat_inj.1 (by omega)
  | x :: r, i + 1, hi, y, h => by
    simp only [List.set_cons_succ, leN] at h
    simp only [List.getElem_cons_succ]
    exact leN_set (xs := r) (i := i) (by simpa using hi) y (by omega)

theorem read_changed (c : ObjD) {i : Nat} (hi : i < (encB c).length) {y : UInt8} (hy : y ≠ (encB c)[i]) : (decP ((encB c).set i y)).2 ≠ 0 := by
  have hl := encP_len c
  have hL := encB_length c
  have bad : leN (((encB c).set i y).drop (((encB c).set i y).length - 4)) ≠ sumN (((encB c).set i y).take (((encB c).set i y).length - 4)) % 4294967296 := by
    rw [List.length_set]
    by_cases h : i < (encP c).length
    · have e1 : (encB c).set i y = (encP c).set i y ++ leB (sumN (encP c) % 4294967296) 4 := by
        unfold encB sealB; rw [List.set_append_left _ _ h]
      have e2 : (encB c)[i]'hi = (encP c)[i]'h := by
        simp only [encB, sealB]; rw [List.getElem_append_left h]
      rw [e1, hL, Nat.add_sub_cancel, List.take_left' (by rw [List.length_set]), List.drop_left' (by rw [List.length_set]), leN_leB]
      have := sumN_set h y
      rw [e2] at hy
      have hne : y.toNat ≠ ((encP c)[i]'h).toNat := fun e => hy (UInt8.toNat_inj.1 e)
      have q1 := y.toNat_lt
      have q2 := ((encP c)[i]'h).toNat_lt
      omega
    · have h4 : i - (encP c).length < (leB (sumN (encP c) % 4294967296) 4).length := by rw [leB_length]; omega
      have e1 : (encB c).set i y = encP c ++ (leB (sumN (encP c) % 4294967296) 4).set (i - (encP c).length) y := by
        unfold encB sealB; rw [List.set_append_right _ _ (by omega)]
      have e2 : (encB c)[i]'hi = (leB (sumN (encP c) % 4294967296) 4)[i - (encP c).length] := by
        simp only [encB, sealB]; rw [List.getElem_append_right (by omega)]
      rw [e1, hL, Nat.add_sub_cancel, List.take_left' rfl, List.drop_left' rfl]
      intro e
      refine hy (leN_set h4 y ?_ |>.trans e2.symm)
      rw [e, leN_leB]
      omega
  have h6 : openE 0 ((encB c).set i y) = 6 := by unfold openE; rw [if_pos (.inr bad)]
  unfold decP
  rw [h6]
  simp
end Go.Proofs.OP
