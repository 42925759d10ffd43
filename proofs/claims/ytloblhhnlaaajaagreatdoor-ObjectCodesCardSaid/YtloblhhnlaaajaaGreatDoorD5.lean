/- Plain laws: both Decodes answer the same. -/
import Derived.Test.YtloblhhnlaaajaaGreatDoorB13
import Derived.Test.YtloblhhnlaaajaaGreatDoorD4
import Derived.Test.YtloblhhnlaaajaaGreatDoorC30
set_option linter.unusedVariables false
set_option linter.unusedSimpArgs false
set_option linter.defProp false
namespace Go.Proofs.OP
open Go Go.Ev

theorem I64_In (n : Nat) : In64 (I64 n) := by
  unfold I64 IntKind.wrap In64
  simp only [IntKind.bits, IntKind.signed, Bool.true_and]
  split <;> rename_i q <;> simp at q <;> omega
theorem numR_In (s : RdS) : In64 (numR s).1 := by
  unfold numR; split
  · exact ⟨by show (-9223372036854775808 : Int) ≤ 0; decide, by show (0 : Int) ≤ _; decide⟩
  · exact I64_In _
theorem rnumR_In (s : RdS) : In64 (rnumR s).1 := by unfold rnumR; exact I64_In _
theorem each_all {α : Type} {f : RdS → α × RdS} {Pr : α → Prop} (h : ∀ s, Pr (f s).1) : ∀ (k : Nat) (n : Int) (s : RdS × List α), (∀ x ∈ s.2, Pr x) → ∀ x ∈ (eachR (fun x => x.1) (adv f) k n s).2, Pr x
  | 0, _, s, hs => hs
  | k + 1, n, s, hs => by
    rw [eachR]
    split
    · refine each_all h k _ _ fun x hx => ?_
      simp only [adv, List.mem_append, List.mem_singleton] at hx
      rcases hx with hx | rfl
      · exact hs x hx
      · exact h _
    · exact hs
theorem objR_ok (k : Nat) (s : RdS) : ObjOk (objR k s).1 :=
  ⟨each_all (f := symR) (Pr := fun s => In64 s.sec ∧ In64 s.off) (fun s => ⟨numR_In _, numR_In _⟩) _ _ _ (fun x hx => by cases hx),
   each_all (f := relR) (Pr := fun s => In64 s.sec ∧ In64 s.off ∧ In64 s.kind ∧ In64 s.add) (fun s => ⟨numR_In _, numR_In _, numR_In _, numR_In _⟩) _ _ _ (fun x hx => by cases hx)⟩
theorem robjR_ok (k : Nat) (s : RdS) : ObjOk (robjR k s).1 :=
  ⟨each_all (f := rsymR) (Pr := fun s => In64 s.sec ∧ In64 s.off) (fun s => by unfold rsymR; exact ⟨rnumR_In _, rnumR_In _⟩) _ _ _ (fun x hx => by cases hx),
   each_all (f := rrelR) (Pr := fun s => In64 s.sec ∧ In64 s.off ∧ In64 s.kind ∧ In64 s.add) (fun s => by unfold rrelR; exact ⟨rnumR_In _, rnumR_In _, rnumR_In _, rnumR_In _⟩) _ _ _ (fun x hx => by cases hx)⟩

theorem tak_app {n : Nat} {xs r : List UInt8} (h : xs.length = n) : takR ⟨xs ++ r, false⟩ (n : Int) = (xs, ⟨r, false⟩) := by
  unfold takR
  rw [if_neg (by simp; omega)]
  simp [List.take_left' h, List.drop_left' h]
theorem rnum_back {n : Int} {r : List UInt8} (hn : In64 n) : rnumR ⟨leB (U n) 8 ++ r, false⟩ = (n, ⟨r, false⟩) := by
  have h := tak_app (n := 8) (r := r) (leB_length 8 (U n))
  unfold rnumR
  rw [show (8 : Int) = ((8 : Nat) : Int) from rfl, h]
  simp only
  rw [leN_leB, Nat.mod_eq_of_lt (by have := U_lt n; omega), I64_U hn]
theorem rtxt_back {xs r : List UInt8} (hx : xs.length < 2 ^ 31) : rtxtR ⟨txtB [xs] ++ r, false⟩ = (xs, ⟨r, false⟩) := by
  have e : txtB [xs] ++ r = leB (U (xs.length : Int)) 8 ++ (xs ++ r) := by simp [txtB, U_nat (show xs.length < 18446744073709551616 by omega)]
  have hn := rnum_back (n := (xs.length : Int)) (r := xs ++ r) ⟨by omega, by omega⟩
  unfold rtxtR
  rw [e, hn]
  exact tak_app rfl
theorem rsym_back {s : SymD} {r : List UInt8} (h1 : In64 s.sec) (h2 : In64 s.off) (h3 : s.name.length < 2 ^ 31) : rsymR ⟨symB s ++ r, false⟩ = (s, ⟨r, false⟩) := by
  have e : symB s ++ r = txtB [s.name] ++ (leB (U s.sec) 8 ++ (leB (U s.off) 8 ++ (leB (U (bitsI s.glob s.weak)) 8 ++ r))) := by simp [symB, numB]
  have hb : In64 (bitsI s.glob s.weak) := by unfold In64; cases s.glob <;> cases s.weak <;> decide
  have b1 : ((bitsI s.glob s.weak).tmod 2 == 1) = s.glob := by cases s.glob <;> cases s.weak <;> decide
  have b2 : decide (2 ≤ bitsI s.glob s.weak) = s.weak := by cases s.glob <;> cases s.weak <;> decide
  unfold rsymR
  simp only [e, rtxt_back h3, rnum_back h1, rnum_back h2, rnum_back hb, b1, b2]
theorem rrel_back {s : RelD} {r : List UInt8} (h1 : In64 s.sec) (h2 : In64 s.off) (h3 : In64 s.kind) (h4 : In64 s.add) (h5 : s.sym.length < 2 ^ 31) : rrelR ⟨relB s ++ r, false⟩ = (s, ⟨r, false⟩) := by
  have e : relB s ++ r = leB (U s.sec) 8 ++ (leB (U s.off) 8 ++ (leB (U s.kind) 8 ++ (txtB [s.sym] ++ (leB (U s.add) 8 ++ r)))) := by simp [relB, numB]
  unfold rrelR
  simp only [e, rtxt_back h5, rnum_back h1, rnum_back h2, rnum_back h3, rnum_back h4]
theorem rlist_back {α : Type} {f : RdS → α × RdS} {enc : α → List UInt8} {L : List α} {k : Nat} {r : List UInt8} (h : ∀ x ∈ L, ∀ r, f ⟨enc x ++ r, false⟩ = (x, ⟨r, false⟩)) (hk : L.length ≤ k) (hL : L.length < 2 ^ 62) (h1 : ∀ x ∈ L, 1 ≤ (enc x).length) :
    rlistR f k ⟨numB [(L.length : Int)] ++ (L.flatMap enc ++ r), false⟩ = (⟨r, false⟩, L) := by
  have e : numB [(L.length : Int)] ++ (L.flatMap enc ++ r) = leB (U (L.length : Int)) 8 ++ (L.flatMap enc ++ r) := by simp [numB]
  have hge := flat_ge h1
  have hn := rnum_back (n := (L.length : Int)) (r := L.flatMap enc ++ r) ⟨by omega, by omega⟩
  have hc : cntR ⟨leB (U (L.length : Int)) 8 ++ (L.flatMap enc ++ r), false⟩ = ((L.length : Int), ⟨L.flatMap enc ++ r, false⟩) := by
    have hb : cntB ⟨leB (U (L.length : Int)) 8 ++ (L.flatMap enc ++ r), false⟩ = false := by
      unfold cntB
      rw [hn]
      have h3 : L.length ≤ (L.flatMap enc ++ r).length := by rw [List.length_append]; omega
      show (false || (decide ((L.length : Int) < 0) || decide (((L.flatMap enc ++ r).length : Int) < (L.length : Int)))) = false
      rw [decide_eq_false (by omega), decide_eq_false (by omega)]; rfl
    unfold cntR
    rw [hb, hn]
    simp
  unfold rlistR
  rw [e, hc]
  simp only [each_back h hk, List.nil_append]
theorem robj_back {o : ObjD} (sm : Small o) (ok : ObjOk o) {k : Nat} (hk : o.syms.length ≤ k ∧ o.rels.length ≤ k ∧ o.needs.length ≤ k) : robjR k ⟨body o, false⟩ = (o, false) := by
  have s1 := sm.name
  have s2 := sm.entry
  have s3 := sm.code
  have s4 := sm.data
  have s5 := sm.syms
  have s6 := sm.rels
  have s7 := sm.needs
  have a1 : rtxtR ⟨body o, false⟩ = (o.name, ⟨rest1 o, false⟩) := rtxt_back (by omega)
  have a2 : rtxtR ⟨rest1 o, false⟩ = (o.code, ⟨rest2 o, false⟩) := rtxt_back (by omega)
  have a3 : rtxtR ⟨rest2 o, false⟩ = (o.data, ⟨rest3 o, false⟩) := rtxt_back (by omega)
  have a4 : rlistR rsymR k ⟨rest3 o, false⟩ = (⟨rest4 o, false⟩, o.syms) := rlist_back (fun x hx r => rsym_back (ok.syms x hx).1 (ok.syms x hx).2 (by have := sm.sname x hx; omega)) hk.1 (by omega) (fun x _ => by simp only [symB, List.length_append, txt1_len]; omega)
  have a5 : rlistR rrelR k ⟨rest4 o, false⟩ = (⟨rest5 o, false⟩, o.rels) := rlist_back (fun x hx r => rrel_back (ok.rels x hx).1 (ok.rels x hx).2.1 (ok.rels x hx).2.2.1 (ok.rels x hx).2.2.2 (by have := sm.rname x hx; omega)) hk.2.1 (by omega) (fun x _ => by simp only [relB, List.length_append, txt1_len]; omega)
  have a6 : rlistR rtxtR k ⟨rest5 o, false⟩ = (⟨rest6 o, false⟩, o.needs) := rlist_back (fun x hx r => rtxt_back (by have := sm.nname x hx; omega)) hk.2.2 (by omega) (fun x _ => by rw [txt1_len]; omega)
  have a7 : rtxtR ⟨rest6 o, false⟩ = (o.entry, ⟨[], false⟩) := rtxt_back (by omega)
  have d1 : e1R ⟨body o, false⟩ = ⟨rest1 o, false⟩ := congrArg Prod.snd a1
  have d2 : e1R ⟨rest1 o, false⟩ = ⟨rest2 o, false⟩ := congrArg Prod.snd a2
  have d3 : e1R ⟨rest2 o, false⟩ = ⟨rest3 o, false⟩ := congrArg Prod.snd a3
  have b4 : rsymsR k ⟨body o, false⟩ = (⟨rest4 o, false⟩, o.syms) := by unfold rsymsR e3R; rw [d1, d2, d3]; exact a4
  have b5 : rrelsR k ⟨body o, false⟩ = (⟨rest5 o, false⟩, o.rels) := by unfold rrelsR; rw [b4]; exact a5
  have b6 : rneedsR k ⟨body o, false⟩ = (⟨rest6 o, false⟩, o.needs) := by unfold rneedsR; rw [b5]; exact a6
  unfold robjR
  rw [b6, b5, b4, d1, d2, a1, a2, a3, a7]
theorem rdec_enc {o : ObjD} (h : checkE o = 0) (ok : ObjOk o) : rdecP (encB o) = (o, 0) := by
  have h1 := body_len o
  have h2 := encP_len o
  have h3 := encB_length o
  have hb := robj_back (small_of h) ok (k := (encB o).length) ⟨by omega, by omega, by omega⟩
  unfold rdecP
  rw [open_enc, inner_enc, hb]
  simp only [ne_eq, not_true_eq_false, if_false, Bool.false_eq_true, h, false_or]
theorem dec_same (b : List UInt8) : rdecP b = decP b := by
  by_cases h1 : openE 0 b ≠ 0
  · unfold rdecP decP; rw [if_pos h1, if_pos h1]
  · by_cases h2 : (objR b.length ⟨inner b, false⟩).2 = true ∨ checkE (objR b.length ⟨inner b, false⟩).1 ≠ 0 ∨ encB (objR b.length ⟨inner b, false⟩).1 ≠ b
    · by_cases h3 : (robjR b.length ⟨inner b, false⟩).2 = true ∨ checkE (robjR b.length ⟨inner b, false⟩).1 ≠ 0 ∨ encB (robjR b.length ⟨inner b, false⟩).1 ≠ b
      · unfold rdecP decP; rw [if_neg h1, if_neg h1, if_pos h2, if_pos h3]
      · simp only [not_or, ne_eq, Decidable.not_not] at h3
        have ok := robjR_ok b.length ⟨inner b, false⟩
        generalize (robjR b.length ⟨inner b, false⟩).1 = o at h3 ok
        rw [← h3.2.2, rdec_enc h3.2.1 ok, dec_enc h3.2.1 ok]
    · simp only [not_or, ne_eq, Decidable.not_not] at h2
      have ok := objR_ok b.length ⟨inner b, false⟩
      generalize (objR b.length ⟨inner b, false⟩).1 = o at h2 ok
      rw [← h2.2.2, rdec_enc h2.2.1 ok, dec_enc h2.2.1 ok]
theorem zeroO_fits : Fits zeroO := ⟨by decide, by decide, by decide, by decide, by decide⟩
theorem small_fits {o : ObjD} (sm : Small o) : Fits o := by
  have s3 := sm.code
  have s4 := sm.data
  have s5 := sm.syms
  have s6 := sm.rels
  have s7 := sm.needs
  exact ⟨by omega, by omega, by omega, by omega, by omega⟩
theorem decP_fits (b : List UInt8) : Fits (decP b).1 := by
  unfold decP
  split
  · exact zeroO_fits
  · split
    · exact zeroO_fits
    · rename_i h
      simp only [not_or, ne_eq, Decidable.not_not] at h
      exact small_fits (small_of h.2.1)
end Go.Proofs.OP
