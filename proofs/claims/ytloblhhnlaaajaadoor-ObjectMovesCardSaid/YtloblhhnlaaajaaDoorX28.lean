/- What walks of this seat know of the types and functions of programs. -/
import Derived.Test.YtloblhhnlaaajaaDoorX16
import Derived.Test.YtloblhhnlaaajaaDoorX15
import Derived.Test.YtloblhhnlaaajaaDoorX23
import Derived.Test.YtloblhhnlaaajaaDoorX22
import Derived.Test.YtloblhhnlaaajaaDoorX14
import Derived.Test.YtloblhhnlaaajaaDoorX17
import Derived.Test.YtloblhhnlaaajaaDoorX24
import Derived.Test.YtloblhhnlaaajaaDoorX13
set_option linter.unusedVariables false
set_option linter.unusedSimpArgs false
set_option linter.defProp false
namespace Go.Proofs.OP
open Go Go.Ev
open Go.Proofs
variable {g : T (List V)}
theorem ty28 : (E g).tys.get 28 = some { desc := .slice 41, size := 1, bytes := 24, zero := [.nils], zv := .nils, cmp := false } := by rw [E_tys]; exact ty_at (by kernel_rfl) rfl
theorem ty29 : (E g).tys.get 29 = some { desc := .slice 43, size := 1, bytes := 24, zero := [.nils], zv := .nils, cmp := false } := by rw [E_tys]; exact ty_at (by kernel_rfl) rfl
theorem ty32 : (E g).tys.get 32 = some { desc := .struct #[⟨ "Base", 2, 0, false, "", "", 0⟩, ⟨ "Bytes", 27, 1, false, "", "", 8⟩, ⟨ "Code", 2, 2, false, "", "", 32⟩, ⟨ "Entry", 2, 3, false, "", "", 40⟩, ⟨ "Exports", 28, 4, false, "", "", 48⟩, ⟨ "Slots", 29, 5, false, "", "", 72⟩, ⟨ "Needs", 30, 6, false, "", "", 96⟩], size := 7, bytes := 120, zero := [.int .i64 0, .nils, .int .i64 0, .int .i64 0, .nils, .nils, .nils], zv := .agg [.int .i64 0, .nils, .int .i64 0, .int .i64 0, .nils, .nils, .nils], cmp := false } := by rw [E_tys]; exact ty_at (by kernel_rfl) rfl
theorem fa32_0 {b o : Nat} : fieldAddrV (E g) 32 (.ptr b o) 0 = some (.ptr b (o + 0)) := fieldAddr_of (fd := ⟨ "Base", 2, 0, false, "", "", 0⟩) ty32 rfl rfl ty2 (by decide)
theorem fa32_1 {b o : Nat} : fieldAddrV (E g) 32 (.ptr b o) 1 = some (.ptr b (o + 1)) := fieldAddr_of (fd := ⟨ "Bytes", 27, 1, false, "", "", 8⟩) ty32 rfl rfl ty27 (by decide)
theorem fa32_2 {b o : Nat} : fieldAddrV (E g) 32 (.ptr b o) 2 = some (.ptr b (o + 2)) := fieldAddr_of (fd := ⟨ "Code", 2, 2, false, "", "", 32⟩) ty32 rfl rfl ty2 (by decide)
theorem fa32_3 {b o : Nat} : fieldAddrV (E g) 32 (.ptr b o) 3 = some (.ptr b (o + 3)) := fieldAddr_of (fd := ⟨ "Entry", 2, 3, false, "", "", 40⟩) ty32 rfl rfl ty2 (by decide)
theorem fa32_4 {b o : Nat} : fieldAddrV (E g) 32 (.ptr b o) 4 = some (.ptr b (o + 4)) := fieldAddr_of (fd := ⟨ "Exports", 28, 4, false, "", "", 48⟩) ty32 rfl rfl ty28 (by decide)
theorem fa32_5 {b o : Nat} : fieldAddrV (E g) 32 (.ptr b o) 5 = some (.ptr b (o + 5)) := fieldAddr_of (fd := ⟨ "Slots", 29, 5, false, "", "", 72⟩) ty32 rfl rfl ty29 (by decide)
theorem fa32_6 {b o : Nat} : fieldAddrV (E g) 32 (.ptr b o) 6 = some (.ptr b (o + 6)) := fieldAddr_of (fd := ⟨ "Needs", 30, 6, false, "", "", 96⟩) ty32 rfl rfl ty30 (by decide)
theorem ty35 : (E g).tys.get 35 = some { desc := .struct #[⟨ "At", 3, 0, false, "", "", 0⟩, ⟨ "Code", 33, 1, false, "", "", 8⟩], size := 2, bytes := 16, zero := [.int .i64 0, .int .i64 0], zv := .agg [.int .i64 0, .int .i64 0], cmp := true } := by rw [E_tys]; exact ty_at (by kernel_rfl) rfl
theorem fa35_1 {b o : Nat} : fieldAddrV (E g) 35 (.ptr b o) 1 = some (.ptr b (o + 1)) := fieldAddr_of (fd := ⟨ "Code", 33, 1, false, "", "", 8⟩) ty35 rfl rfl ty33 (by decide)
theorem ty41 : (E g).tys.get 41 = some { desc := .struct #[⟨ "Name", 9, 0, false, "", "", 0⟩, ⟨ "Address", 2, 1, false, "", "", 16⟩], size := 2, bytes := 24, zero := [.str [], .int .i64 0], zv := .agg [.str [], .int .i64 0], cmp := true } := by rw [E_tys]; exact ty_at (by kernel_rfl) rfl
theorem fa41_0 {b o : Nat} : fieldAddrV (E g) 41 (.ptr b o) 0 = some (.ptr b (o + 0)) := fieldAddr_of (fd := ⟨ "Name", 9, 0, false, "", "", 0⟩) ty41 rfl rfl ty9 (by decide)
theorem fg41_0 {b o : Nat} : fieldAddrV (E g) 41 (.gp b o) 0 = some (.gp b (o + 0)) := fieldAddr_gp (fd := ⟨ "Name", 9, 0, false, "", "", 0⟩) ty41 rfl rfl ty9 (by decide)
theorem fa41_1 {b o : Nat} : fieldAddrV (E g) 41 (.ptr b o) 1 = some (.ptr b (o + 1)) := fieldAddr_of (fd := ⟨ "Address", 2, 1, false, "", "", 16⟩) ty41 rfl rfl ty2 (by decide)
theorem fg41_1 {b o : Nat} : fieldAddrV (E g) 41 (.gp b o) 1 = some (.gp b (o + 1)) := fieldAddr_gp (fd := ⟨ "Address", 2, 1, false, "", "", 16⟩) ty41 rfl rfl ty2 (by decide)
theorem ty43 : (E g).tys.get 43 = some { desc := .struct #[⟨ "Name", 9, 0, false, "", "", 0⟩, ⟨ "Address", 2, 1, false, "", "", 16⟩, ⟨ "Bound", 2, 2, false, "", "", 24⟩], size := 3, bytes := 32, zero := [.str [], .int .i64 0, .int .i64 0], zv := .agg [.str [], .int .i64 0, .int .i64 0], cmp := true } := by rw [E_tys]; exact ty_at (by kernel_rfl) rfl
theorem fa43_0 {b o : Nat} : fieldAddrV (E g) 43 (.ptr b o) 0 = some (.ptr b (o + 0)) := fieldAddr_of (fd := ⟨ "Name", 9, 0, false, "", "", 0⟩) ty43 rfl rfl ty9 (by decide)
theorem fg43_0 {b o : Nat} : fieldAddrV (E g) 43 (.gp b o) 0 = some (.gp b (o + 0)) := fieldAddr_gp (fd := ⟨ "Name", 9, 0, false, "", "", 0⟩) ty43 rfl rfl ty9 (by decide)
theorem fa43_1 {b o : Nat} : fieldAddrV (E g) 43 (.ptr b o) 1 = some (.ptr b (o + 1)) := fieldAddr_of (fd := ⟨ "Address", 2, 1, false, "", "", 16⟩) ty43 rfl rfl ty2 (by decide)
theorem fg43_1 {b o : Nat} : fieldAddrV (E g) 43 (.gp b o) 1 = some (.gp b (o + 1)) := fieldAddr_gp (fd := ⟨ "Address", 2, 1, false, "", "", 16⟩) ty43 rfl rfl ty2 (by decide)
theorem fa43_2 {b o : Nat} : fieldAddrV (E g) 43 (.ptr b o) 2 = some (.ptr b (o + 2)) := fieldAddr_of (fd := ⟨ "Bound", 2, 2, false, "", "", 24⟩) ty43 rfl rfl ty2 (by decide)
theorem fg43_2 {b o : Nat} : fieldAddrV (E g) 43 (.gp b o) 2 = some (.gp b (o + 2)) := fieldAddr_gp (fd := ⟨ "Bound", 2, 2, false, "", "", 24⟩) ty43 rfl rfl ty2 (by decide)
theorem fn30 : (E g).fns.get 30 = some { nt := 8, body := Tryd.f30.body.get!, res := [.cell 4 35] } := by rw [E_fns]; exact fn_in (FI.of_mk Tryd.func30 (show Tryd.f30.body = some Tryd.f30.body.get! by kernel_rfl) (by kernel_rfl) (show Tryd.f30.ntmps = 8 by kernel_rfl) (show Tryd.f30.results.toList = [.cell 4 35] by kernel_rfl)) rfl
theorem fn93 : (E g).fns.get 93 = some { nt := 21, body := Tryd.f93.body.get!, res := [] } := by rw [E_fns]; exact fn_in (FI.of_mk Tryd.func93 (show Tryd.f93.body = some Tryd.f93.body.get! by kernel_rfl) (by kernel_rfl) (show Tryd.f93.ntmps = 21 by kernel_rfl) (show Tryd.f93.results.toList = [] by kernel_rfl)) rfl
theorem fn116 : (E g).fns.get 116 = some { nt := 9, body := Tryd.f116.body.get!, res := [] } := by rw [E_fns]; exact fn_in (FI.of_mk Tryd.func116 (show Tryd.f116.body = some Tryd.f116.body.get! by kernel_rfl) (by kernel_rfl) (show Tryd.f116.ntmps = 9 by kernel_rfl) (show Tryd.f116.results.toList = [] by kernel_rfl)) rfl
end Go.Proofs.OP

set_option linter.unusedSimpArgs false
namespace Go.Proofs.OP
open Go Go.Ev
open Go.Proofs
open Nat (reduceLT reduceEqDiff)
variable {g : T (List V)}

structure ExpD where
 name : List UInt8
 addr : Int
structure SlotD where
 name : List UInt8
 addr : Int
 bound : Int
structure ImgD where
 base : Int
 bytes : List UInt8
 code : Int
 entry : Int
 exps : List ExpD
 slots : List SlotD
 needs : List (List UInt8)
def expV (s : ExpD) : List V := [.str s.name, i64 s.addr]
def slotV (s : SlotD) : List V := [.str s.name, i64 s.addr, i64 s.bound]
abbrev Xs (g : T (List V)) (h : H) (s : V) (L : List ExpD) : Prop := Rcs (E g) h 2 expV s L
abbrev Bi (g : T (List V)) (h : H) (s : V) (L : List SlotD) : Prop := Rcs (E g) h 3 slotV s L
structure Ic where
 bytes : V
 exps : V
 slots : V
 needs : V
def Ic.cells (c : Ic) (x : ImgD) : List V := [i64 x.base, c.bytes, i64 x.code, i64 x.entry, c.exps, c.slots, c.needs]
structure Im (g : T (List V)) (h : H) (K : Nat → Prop) (c : Ic) (x : ImgD) : Prop where
 bytes : Bs g h c.bytes x.bytes
 exps : Xs g h c.exps x.exps
 slots : Bi g h c.slots x.slots
 needs : Ss g h c.needs x.needs
 inB : In K c.bytes
 inX : In K c.exps
 inS : In K c.slots
 inN : In K c.needs
theorem Im.fix {h h' : H} {K K' : Nat → Prop} {c : Ic} {x : ImgD} (a : Im g h K c x) (f : Fix K' h h') (hs : ∀ b, K b → K' b) : Im g h' K c x :=
 ⟨Sl.fix a.bytes (a.inB.sub hs) f, Sl.fix a.exps (a.inX.sub hs) f, Sl.fix a.slots (a.inS.sub hs) f, Sl.fix a.needs (a.inN.sub hs) f, a.inB, a.inX, a.inS, a.inN⟩
theorem Im.up {h : H} {K K' : Nat → Prop} {c : Ic} {x : ImgD} (a : Im g h K c x) (hs : ∀ b, K b → K' b) : Im g h K' c x :=
 ⟨a.bytes, a.exps, a.slots, a.needs, a.inB.sub hs, a.inX.sub hs, a.inS.sub hs, a.inN.sub hs⟩

end Go.Proofs.OP

set_option linter.unusedSimpArgs false
namespace Go.Proofs.OP
open Go Go.Ev
open Go.Proofs
open Nat (reduceLT reduceEqDiff)
variable {g : T (List V)}

theorem fill2 {a b : V} {cs : List V} (h : cs.length = 2) : fillAll (fun k => some (k * 2, 2)) (repL [a, b] 1) [(0, .agg cs)] = some cs := by
 match cs, h with
 | [_, _], _ => rfl
theorem fill3 {a b c : V} {cs : List V} (h : cs.length = 3) : fillAll (fun k => some (k * 3, 3)) (repL [a, b, c] 1) [(0, .agg cs)] = some cs := by
 match cs, h with
 | [_, _, _], _ => rfl
theorem expV_length (x : ExpD) : (expV x).length = 2 := rfl
theorem slotV_length (x : SlotD) : (slotV x).length = 3 := rfl
theorem expV_one (x : ExpD) : (expV x).all V.one = true := rfl
theorem slotV_one (x : SlotD) : (slotV x).all V.one = true := rfl

end Go.Proofs.OP

set_option linter.unusedSimpArgs false
namespace Go.Proofs.OP
open Go Go.Ev
open Go.Proofs
open Nat (reduceLT reduceEqDiff)
variable {g : T (List V)}

theorem over_snoc {cs ys : List V} {l : Nat} {c : V} (h : l + ys.length < cs.length) : over (over cs l ys) (l + ys.length) [c] = over cs l (ys ++ [c]) := by
 apply List.ext_getElem?
 intro j
 rw [over_get (by rw [over_length (by omega)]; simp; omega), over_get (by omega), over_get (by simp; omega)]
 simp only [List.length_cons, List.length_nil, List.length_append]
 by_cases h1 : l ≤ j ∧ j < l + ys.length
 ·rw [if_neg (by omega), if_pos h1, if_pos (by omega), List.getElem?_append_left (by omega)]
 ·by_cases h2 : j = l + ys.length
  ·subst h2
   rw [if_pos (by omega), if_pos (by omega), List.getElem?_append_right (by omega)]
   simp
  ·rw [if_neg (by omega), if_neg h1, if_neg (by omega)]
def putAt (xs : List UInt8) (l : Nat) (ys : List UInt8) : List UInt8 := xs.take l ++ ys ++ xs.drop (l + ys.length)
theorem putAt_over (xs : List UInt8) (l : Nat) (ys : List UInt8) : (putAt xs l ys).map u8 = over (xs.map u8) l (ys.map u8) := by
 simp [putAt, over, List.map_take, List.map_drop]
theorem putAt_length {xs : List UInt8} {l : Nat} {ys : List UInt8} (h : l + ys.length ≤ xs.length) : (putAt xs l ys).length = xs.length := by
 have := over_length (cs := xs.map u8) (vs := ys.map u8) (o := l) (by simpa using h)
 rw [← putAt_over] at this
 simpa using this
theorem idx_slice {t e b o n k : Nat} {c : Cp} {i ei : TI} {ik : IntKind} (ht : (E g).tys.get t = some i) (hd : i.desc = .slice e) (he : (E g).tys.get e = some ei) (hk : k < n) : indexAddrV (E g) t (.slice b o n c) (.int ik k) = some (.ptr b (o + k * ei.size)) := by
 have h1 : Nat.blt k n = true := blt_true hk
 simp only [indexAddrV, ht, natOf_nat, hd, h1, cond_true, sizeOf_of he, Option.map_some]

set_option maxRecDepth 100000 in
set_option maxHeartbeats 4000000 in
theorem bput_ok {h : H} {b l n' n k : Nat} {c' : Cp} {xs : List UInt8} (a : At h b 0 (xs.map u8)) (hl : l + k ≤ xs.length) (hk : k ≤ 8) (hn' : k ≤ n') (hn : n < 2 ^ 64) :
  WF (E g) 114 [.slice b l n' c', .int .u64 n, .int .i64 k] h fun _ h' => At h' b 0 ((putAt xs l (leB n k)).map u8) ∧ h'.next = h.next ∧ Fix (· ≠ b) h h' := by
 refine WF.enter fn114 rfl ?_
 ((repeat refine WC.seq ?_); refine WC.run ?_)
 (try simp only [wk, wl, wx, reduceLT, reduceEqDiff, Nat.reduceBEq, reduceIte])
 (repeat refine WC.seq ?_)
 refine WC.block ?_
 refine WC.while (fun m fr hh => ∃ ts i, fr = ⟨ts, 19, [], 114, none⟩ ∧ At hh b 0 ((putAt xs l (leB n i)).map u8) ∧ hh.next = h.next ∧ Fix (· ≠ b) h hh ∧ m = k - i ∧ i ≤ k ∧ ts.get 0 = some (.slice b l n' c') ∧ ts.get 1 = some (.int .u64 (n / 256 ^ i : Nat)) ∧ ts.get 7 = some (.int .i64 k) ∧ ts.get 8 = some (.int .i64 i)) ?_ ⟨_, 0, rfl, by simpa [leB, putAt] using a, rfl, Fix.refl _ _, rfl, by omega, ?_, ?_, ?_, ?_⟩
 ·rintro m fr hh ⟨ts, i, rfl, aa, hn1, ff, rfl, hi, t0, t1, t7, t8⟩
  ((repeat refine WC.seq ?_); refine WC.run ?_)
  (try simp only [wk, wl, wx, reduceLT, reduceEqDiff, Nat.reduceBEq, reduceIte, t7, t8])
  (repeat refine WC.seq ?_)
  by_cases hlt : i < k
  ·refine WC.cond (b := true) (by (try simp only [wk, wl, wx, reduceLT, reduceEqDiff, Nat.reduceBEq, reduceIte]); (try simp); (try omega)) (WC.skip ?_)
   (try simp only [wk, wl, wx, reduceLT, reduceEqDiff, Nat.reduceBEq, reduceIte])
   (repeat refine WC.seq ?_)
   refine WC.block ?_
   ((repeat refine WC.seq ?_); refine WC.run ?_)
   (try simp only [wk, wl, wx, reduceLT, reduceEqDiff, Nat.reduceBEq, reduceIte, t8])
   ((repeat refine WC.seq ?_); refine WC.run ?_)
   (try simp only [wk, wl, wx, reduceLT, reduceEqDiff, Nat.reduceBEq, reduceIte, t0, t1, conv_int ty194 ty5 rfl, wrapu8_nat, u8_ofNat, idx_slice ty27 rfl ty5 (show i < n' by omega), Nat.mul_one])
   have aa' := aa
   rw [putAt_over] at aa'
   have hlen := over_length (cs := xs.map u8) (vs := (leB n i).map u8) (o := l) (by simp [leB_length]; omega)
   rw [show l + i = 0 + (l + i) by omega]
   refine sat_storeA aa' (p := l + i) ty5 rfl (by rw [hlen]; simp; omega) rfl (by decide) ?_
   intro h2 a2 n2 f2
   have a2 : At h2 b 0 ((putAt xs l (leB n (i + 1))).map u8) := by
    rw [putAt_over, leB_snoc, List.map_append]
    have := over_snoc (cs := xs.map u8) (ys := (leB n i).map u8) (l := l) (c := u8 (UInt8.ofNat (n / 256 ^ i))) (by simp [leB_length]; omega)
    rw [List.map_cons, List.map_nil, ← this]
    rw [List.length_map, leB_length]
    exact a2
   (try simp only [wk, wl, wx, reduceLT, reduceEqDiff, Nat.reduceBEq, reduceIte])
   ((repeat refine WC.seq ?_); refine WC.run ?_)
   (try simp only [wk, wl, wx, reduceLT, reduceEqDiff, Nat.reduceBEq, reduceIte, t1, bin_shr (show (0 : Int) ≤ 8 by decide)])
   ((repeat refine WC.seq ?_); refine WC.run ?_)
   (try simp only [wk, wl, wx, reduceLT, reduceEqDiff, Nat.reduceBEq, reduceIte, t8, bin_add])
   refine ⟨_, ?_, _, i + 1, rfl, a2, by omega, ⟨by omega, fun c hc => by rw [f2.same c hc, ff.same c hc]⟩, rfl, by omega, ?_⟩
   ·omega
   (try simp only [wk, wl, wx, reduceLT, reduceEqDiff, Nat.reduceBEq, reduceIte, t0, t7])
   refine ⟨trivial, ?_, trivial, ?_⟩
   ·have e : (((n / 256 ^ i : Nat) : Int).fdiv (2 ^ (min (8 : Int).toNat IntKind.u64.bits))) = ((n / 256 ^ (i + 1) : Nat) : Int) := by
     have : ((2 : Int) ^ (min (8 : Int).toNat IntKind.u64.bits)) = ((256 : Nat) : Int) := by decide
     rw [this, fdiv_nat, Nat.pow_succ, Nat.div_div_eq_div_mul]
    rw [e]
   ·rw [wrap64 (by omega) (by omega)]; rfl
  ·refine WC.cond (b := false) (by (try simp only [wk, wl, wx, reduceLT, reduceEqDiff, Nat.reduceBEq, reduceIte]); (try simp); (try omega)) (WC.exit ?_)
   have : i = k := by omega
   subst this
   (try simp only [wk, wl, wx, reduceLT, reduceEqDiff, Nat.reduceBEq, reduceIte])
   exact ⟨aa, hn1, ff⟩
 all_goals (try simp only [wk, wl, wx, reduceLT, reduceEqDiff, Nat.reduceBEq, reduceIte])
 all_goals simp

set_option maxRecDepth 100000 in
set_option maxHeartbeats 4000000 in
theorem put64_ok {h : H} {b l n' n : Nat} {c' : Cp} {xs : List UInt8} (a : At h b 0 (xs.map u8)) (hb : b < h.next) (hl : l + 8 ≤ xs.length) (hn' : 8 ≤ n') (hn : n < 2 ^ 64) :
  WF (E g) 116 [.agg [], .slice b l n' c', .int .u64 n] h fun _ h' => At h' b 0 ((putAt xs l (leB n 8)).map u8) ∧ Fix (fun c => c < h.next ∧ c ≠ b) h h' := by
 refine WF.enter fn116 rfl ?_
 ((repeat refine WC.seq ?_); refine WC.run ?_)
 (try simp only [wk, wl, wx, reduceLT, reduceEqDiff, Nat.reduceBEq, reduceIte])
 refine wop_box (v := .agg []) (by (try simp only [wk, wl, wx, reduceLT, reduceEqDiff, Nat.reduceBEq, reduceIte])) ?_
 intro h1 b1 n1 f1
 (try simp only [wk, wl, wx, reduceLT, reduceEqDiff, Nat.reduceBEq, reduceIte])
 ((repeat refine WC.seq ?_); refine WC.run ?_)
 (try simp only [wk, wl, wx, reduceLT, reduceEqDiff, Nat.reduceBEq, reduceIte])
 refine (bput_ok (k := 8) (a.fix f1 hb) hl (by omega) hn' hn).mono fun v h2 ⟨a2, n2, f2⟩ => ?_
 (try simp only [wk, wl, wx, reduceLT, reduceEqDiff, Nat.reduceBEq, reduceIte])
 exact ⟨a2, ⟨by omega, fun c hc => by rw [f2.same c hc.2, f1.same c hc.1]⟩⟩
def faultV (p : Int × Int) : List V := [i64 p.1, i64 p.2]
theorem build73 {a b : Int} : buildV (E g) 35 [(0, .int .i64 a), (1, .int .i64 b)] = some (.agg [.int .i64 a, .int .i64 b]) := by
 simp only [buildV, ty35, fillAll, nth, sizeOf_of ty3, sizeOf_of ty33, List.all_cons, List.all_nil, ty3, ty33, Option.isSome_some, Bool.and_true, Bool.not_true, cond_false]
 rfl
set_option maxRecDepth 100000 in
set_option maxHeartbeats 4000000 in
theorem bad_ok {h : H} {a b : Int} : WF (E g) 30 [.int .i64 a, .int .i64 b] h fun v h' => v = .agg (faultV (a, b)) ∧ Kept h h' := by
 refine WF.enter fn30 rfl ?_
 ((repeat refine WC.seq ?_); refine WC.run ?_)
 (try simp only [wk, wl, wx, reduceLT, reduceEqDiff, Nat.reduceBEq, reduceIte])
 refine wop_alloc ty35 ?_
 intro h1 b1 n1 f1
 (try simp only [wk, wl, wx, reduceLT, reduceEqDiff, Nat.reduceBEq, reduceIte])
 ((repeat refine WC.seq ?_); refine WC.run ?_)
 (try simp only [wk, wl, wx, reduceLT, reduceEqDiff, Nat.reduceBEq, reduceIte, build73])
 refine sat_store b1 ty35 rfl (Nat.le_refl 2) rfl ?_
 intro h2 b2 n2 f2
 have l2 : loadP (E g) h2 35 (.ptr h.next 0) = some (.agg (faultV (a, b))) := b2.agg ty35 rfl (Nat.le_refl 2)
 (try simp only [wk, wl, wx, reduceLT, reduceEqDiff, Nat.reduceBEq, reduceIte])
 refine WC.ret ?_
 (try simp only [wk, wl, wx, reduceLT, reduceEqDiff, Nat.reduceBEq, reduceIte, l2])
 exact ⟨by trivial, ⟨by omega, fun c hc => by rw [f2.same c (by omega), f1.same c hc]⟩⟩
end Go.Proofs.OP

namespace Go.Proofs.OP
open Go Go.Ev
def pl93_1 : List (List Stp) := [[⟨1, false, false, []⟩, ⟨2, false, false, []⟩, ⟨3, false, false, []⟩, ⟨4, false, true, []⟩, ⟨5, false, false, []⟩, ⟨6, false, true, []⟩, ⟨7, false, false, []⟩, ⟨8, false, false, []⟩, ⟨9, false, false, []⟩, ⟨10, false, true, []⟩, ⟨11, false, true, []⟩, ⟨12, false, false, []⟩, ⟨13, false, false, []⟩, ⟨14, false, true, []⟩, ⟨15, false, true, []⟩, ⟨0, true, false, [15, 14, 11, 10, 6, 4]⟩, ⟨16, true, false, []⟩]]
end Go.Proofs.OP
